/- Walks of functions, and plain facts about what they compute. No conditions. -/
import Derived.Test.YthppfagfmjchoaaGreatDoorPia
import Derived.Test.YthppfagfmjchoaaGreatDoorProg
import Derived.Lib.AppendIntMem
import Derived.Lib.LaidTab
import Derived.Test.YthppfagfmjchoaaGreatDoorRows
import Derived.ProofKit
import Derived.LaidMore
import Derived.OpenShut
import Derived.Stop.Joined
import Derived.SizedLaws
import Derived.ChangeSame
import Derived.Deep.Slices
import Derived.ChangeArms
import Derived.Lib.ItoaNum
import Derived.Laws.RangeAny
import Derived.LoopTactic
import Derived.RangeFuncNested
import Derived.RangeFuncBound
import Derived.RangeFuncCalls
import Derived.RangeFuncLeaves
import Derived.Shelf.Abstract
import Derived.Shelf.RegionOpen
import Derived.OwnWalkIn
import Derived.TacticsInMore
import Derived.LoopNIn
import Derived.LoopIn
import Derived.Sort.AssemblyPlain
import Derived.Lib.BitFns
import Derived.Sort.LotD5
import Derived.Sort.LotD1
import Derived.Laws.Bits64b
import Derived.Sort.Walk13a
set_option linter.unusedVariables false
set_option linter.unusedSimpArgs false
namespace Go.Proofs.YthppfagfmjchoaaGreatDoor.A
open Go.RowKit Go.Proofs.YthppfagfmjchoaaGreatDoorW.PrintWords Go.Proofs.YthppfagfmjchoaaGreatDoorW.PrintLast Go.Proofs.YthppfagfmjchoaaGreatDoorW.PrintMore
attribute [local go_sem] max2_int min2_int max_two min_two max_three min_three max_four min_four
def errW : Option Int → Value
  | none => .nilIface
  | some c => .iface 0 (.int .i64 c)
theorem errW_none : errW none = .nilIface := rfl
theorem errW_some (c : Int) : errW (some c) = .iface 0 (.int .i64 c) := rfl
theorem info3 : (Tryz.prog.info? 3).map (fun i => (i.zero, i.size, i.bytes)) = some (some (.int .i64 0), 1, 8) := by kernel_rfl
theorem info71 : (Tryz.prog.info? 71).map (fun i => (i.zero, i.size, i.bytes)) = some (some (.agg #[(.int .i64 0), (.int .i64 0)]), 2, 16) := by kernel_rfl
structure S71 where
  f0 : Int
  f1 : Int
def z71 : S71 := ⟨(0 : Int), (0 : Int)⟩
def k71 : Kd S71 := Kd.iso (Kd.pair (Kd.int .i64) (Kd.int .i64)) (fun x : S71 => (x.f0, x.f1))
theorem k71_heap : Kd.Heap k71 := Kd.heap_iso _ (Kd.heap_pair (Kd.heap_int .i64) (Kd.heap_int .i64))
theorem k71_open {w : World} {x : S71} {cs : List Value} (h : k71.K w x cs) : cs = [.int .i64 x.f0, .int .i64 x.f1] := by
  obtain ⟨_, _, rfl, rfl, rfl⟩ := h
  exact rfl
theorem k71_openM {w : World} {base : Nat} {ok : Nat → Prop} {x : S71} {cs : List Value} (h : k71.M w base ok x cs) : cs = [.int .i64 x.f0, .int .i64 x.f1] := by
  obtain ⟨_, _, rfl, rfl, rfl⟩ := h
  exact rfl
theorem k71_mkM (w : World) (base : Nat) (ok : Nat → Prop) (x : S71)  : k71.M w base ok x [.int .i64 x.f0, .int .i64 x.f1] := ⟨[.int .i64 x.f0], [.int .i64 x.f1], rfl, rfl, rfl⟩
def rd_T71 (xs : List S71) (i : Int) : S71 := xs.getD i.toNat z71
theorem at_T71 {w : World} {A : Option Addr} {n : Nat} {xs : List S71} (h : Kd.C k71 w A n xs) (i : Int) (h0 : 0 ≤ i) (h1 : i < n) : ∃ ad , A = some ad ∧ w.cell? (ad.add (i.toNat * 2)) = some (.int .i64 (rd_T71 xs i).f0) ∧ w.cell? ⟨(ad.add (i.toNat * 2)).block, (ad.add (i.toNat * 2)).off + 1, none⟩ = some (.int .i64 (rd_T71 xs i).f1) := by
  obtain ⟨ad, c, e, _, hK, hc0⟩ := Kd.C_get h z71 i h0 h1
  have hc : ∀ j u, c[j]? = some u → w.cell? (ad.add (i.toNat * 2 + j)) = some u := hc0
  obtain rfl := k71_open hK
  exact ⟨ad, e, hc 0 _ rfl, by rw [← add_field _ _ 1 (by omega)]; exact hc 1 _ rfl⟩
structure S23 where
  f0 : Int
  f1 : ByteArray
  f2 : ByteArray
  f3 : ByteArray
def z23 : S23 := ⟨(0 : Int), (⟨#[]⟩ : ByteArray), (⟨#[]⟩ : ByteArray), (⟨#[]⟩ : ByteArray)⟩
def k23 : Kd S23 := Kd.iso (Kd.pair (Kd.int .i64) (Kd.pair Kd.string (Kd.pair Kd.string Kd.string))) (fun x : S23 => (x.f0, x.f1, x.f2, x.f3))
theorem k23_open {w : World} {x : S23} {cs : List Value} (h : k23.K w x cs) : cs = [.int .i64 x.f0, .string x.f1, .string x.f2, .string x.f3] := by
  obtain ⟨_, _, rfl, rfl, ⟨_, _, rfl, rfl, ⟨_, _, rfl, rfl, rfl⟩⟩⟩ := h
  exact rfl
theorem k23_mkM (w : World) (base : Nat) (ok : Nat → Prop) (x : S23)  : k23.M w base ok x [.int .i64 x.f0, .string x.f1, .string x.f2, .string x.f3] := ⟨[.int .i64 x.f0], [.string x.f1, .string x.f2, .string x.f3], rfl, rfl, ⟨[.string x.f1], [.string x.f2, .string x.f3], rfl, rfl, ⟨[.string x.f2], [.string x.f3], rfl, rfl, rfl⟩⟩⟩
def rd_T23 (xs : List S23) (i : Int) : S23 := xs.getD i.toNat z23
theorem at_T23 {w : World} {A : Option Addr} {n : Nat} {xs : List S23} (h : Kd.C k23 w A n xs) (i : Int) (h0 : 0 ≤ i) (h1 : i < n) : ∃ ad , A = some ad ∧ w.cell? (ad.add (i.toNat * 4)) = some (.int .i64 (rd_T23 xs i).f0) ∧ w.cell? ⟨(ad.add (i.toNat * 4)).block, (ad.add (i.toNat * 4)).off + 1, none⟩ = some (.string (rd_T23 xs i).f1) ∧ w.cell? ⟨(ad.add (i.toNat * 4)).block, (ad.add (i.toNat * 4)).off + 2, none⟩ = some (.string (rd_T23 xs i).f2) ∧ w.cell? ⟨(ad.add (i.toNat * 4)).block, (ad.add (i.toNat * 4)).off + 3, none⟩ = some (.string (rd_T23 xs i).f3) := by
  obtain ⟨ad, c, e, _, hK, hc0⟩ := Kd.C_get h z23 i h0 h1
  have hc : ∀ j u, c[j]? = some u → w.cell? (ad.add (i.toNat * 4 + j)) = some u := hc0
  obtain rfl := k23_open hK
  exact ⟨ad, e, hc 0 _ rfl, by rw [← add_field _ _ 1 (by omega)]; exact hc 1 _ rfl, by rw [← add_field _ _ 2 (by omega)]; exact hc 2 _ rfl, by rw [← add_field _ _ 3 (by omega)]; exact hc 3 _ rfl⟩
def ints_Mod.f (a0 : Int) (a1 : Int) : Option (Int) := if a1 < 1 then (some 0) else (if a1 = 0 then (none) else (if (Int.tmod a0 a1) < 0 then (some (wrap64 ((Int.tmod a0 a1) + a1))) else (some (Int.tmod a0 a1))))
def civil_Leap.f (a0 : Int) : Option (Bool) := (ints_Mod.f a0 400).bind fun t101 => (if t101 = 0 then (some true) else ((ints_Mod.f a0 4).bind fun t102 => (if t102 = 0 then ((ints_Mod.f a0 100).bind fun t103 => (some (t103 != 0))) else (some false))))
set_option maxHeartbeats 8000000 in
set_option maxRecDepth 100000 in
theorem ints_Mod.calls (a0 a1 r : Int) (w : World) (h : ints_Mod.f a0 a1 = some r) :
  Calls Tryz.prog 90 #[.int .i64 a0, .int .i64 a1] w fun e w' => e = .returned (.int .i64 r) ∧ Drawn0 w w' := by
 have H : (if a1 < 1 then (some 0) else (if a1 = 0 then (none) else (if (Int.tmod a0 a1) < 0 then (some (wrap64 ((Int.tmod a0 a1) + a1))) else (some (Int.tmod a0 a1))))) = some r := h; clear h
 obtain ⟨c3b0, H⟩ | ⟨c3b0, H⟩ := ic_ H
 ·obtain rfl := Option.some.inj H; go_enter Tryz.func90, Tryz.ntmps90; go_wp2; go_ret; exact ⟨by first | rfl | (simp; done) | (simp [*]; done), by repeat (first | exact Drawn0.refl _ | apply Drawn0.step)⟩
 ·obtain ⟨c4, H⟩ := gn_ H; have c4b0 : (a1 == 0) = false := beq_eq_false_iff_ne.mpr c4; have c4b1 : (a1 != 0) = true := bne_iff_ne.mpr c4
  obtain ⟨c5b0, H⟩ | ⟨c5b0, H⟩ := ic_ H
  ·obtain rfl := Option.some.inj H; go_enter Tryz.func90, Tryz.ntmps90; go_wp2; go_ret; exact ⟨by first | rfl | (simp; done) | (simp [*]; done), by repeat (first | exact Drawn0.refl _ | apply Drawn0.step)⟩
  ·obtain rfl := Option.some.inj H; go_enter Tryz.func90, Tryz.ntmps90; go_wp2; go_ret; exact ⟨by first | rfl | (simp; done) | (simp [*]; done), by repeat (first | exact Drawn0.refl _ | apply Drawn0.step)⟩
set_option maxHeartbeats 8000000 in
set_option maxRecDepth 100000 in
theorem civil_Leap.calls (a0 : Int) (r : Bool) (w : World) (h : civil_Leap.f a0 = some r) :
  Calls Tryz.prog 188 #[.int .i64 a0] w fun e w' => e = .returned (.bool r) ∧ Drawn0 w w' := by
 have H : ((ints_Mod.f a0 400).bind fun t101 => (if t101 = 0 then (some true) else ((ints_Mod.f a0 4).bind fun t102 => (if t102 = 0 then ((ints_Mod.f a0 100).bind fun t103 => (some (t103 != 0))) else (some false))))) = some r := h; clear h; obtain ⟨t101, A2, H⟩ := bi_ H
 obtain ⟨c3b0, c3b1, H⟩ | ⟨c3, c3b0, c3b1, H⟩ := ie_ H
 ·obtain rfl := Option.some.inj H; go_enter Tryz.func188, Tryz.ntmps188; go_wp2_with (first | ((with_reducible refine gC 90 ?_); refine goesL_ (some 4) rfl rfl Tryz.func90 (by kernel_rfl) rfl #[.int .i64 a0, .int .i64 400] rfl ml_ ?_; (with_reducible refine (ints_Mod.calls a0 400 t101 _ A2.out).mono ?_); rintro e w' ⟨rfl, ⟨nd, rfl⟩⟩; refine ⟨_, rfl, ?_⟩)); go_ret; exact ⟨by first | rfl | (simp; done) | (simp [*]; done), by repeat (first | exact Drawn0.refl _ | apply Drawn0.step)⟩
 ·obtain ⟨t102, A4, H⟩ := bi_ H
  obtain ⟨c5b0, c5b1, H⟩ | ⟨c5, c5b0, c5b1, H⟩ := ie_ H
  ·obtain ⟨t103, A6, H⟩ := bi_ H; obtain rfl := Option.some.inj H; go_enter Tryz.func188, Tryz.ntmps188; go_wp2_with (first | ((with_reducible refine gC 90 ?_); refine goesL_ (some 4) rfl rfl Tryz.func90 (by kernel_rfl) rfl #[.int .i64 a0, .int .i64 400] rfl ml_ ?_; (with_reducible refine (ints_Mod.calls a0 400 t101 _ A2.out).mono ?_); rintro e w' ⟨rfl, ⟨nd, rfl⟩⟩; refine ⟨_, rfl, ?_⟩) | (go_at_call 90; (with_reducible refine (ints_Mod.calls a0 4 t102 _ A4.out).mono ?_); rintro e w' ⟨rfl, ⟨nd, rfl⟩⟩) | (go_at_call 90; (with_reducible refine (ints_Mod.calls a0 100 t103 _ A6.out).mono ?_); rintro e w' ⟨rfl, ⟨nd, rfl⟩⟩)); go_ret; exact ⟨by first | rfl | (simp; done) | (simp [*]; done), by repeat (first | exact Drawn0.refl _ | apply Drawn0.step)⟩
  ·obtain rfl := Option.some.inj H; go_enter Tryz.func188, Tryz.ntmps188; go_wp2_with (first | ((with_reducible refine gC 90 ?_); refine goesL_ (some 4) rfl rfl Tryz.func90 (by kernel_rfl) rfl #[.int .i64 a0, .int .i64 400] rfl ml_ ?_; (with_reducible refine (ints_Mod.calls a0 400 t101 _ A2.out).mono ?_); rintro e w' ⟨rfl, ⟨nd, rfl⟩⟩; refine ⟨_, rfl, ?_⟩) | (go_at_call 90; (with_reducible refine (ints_Mod.calls a0 4 t102 _ A4.out).mono ?_); rintro e w' ⟨rfl, ⟨nd, rfl⟩⟩)); go_ret; exact ⟨by first | rfl | (simp; done) | (simp [*]; done), by repeat (first | exact Drawn0.refl _ | apply Drawn0.step)⟩
def lensT : List Int := [0, 31, 28, 31, 30, 31, 30, 31, 31, 30, 31, 30, 31]
def TL (B : Nat) (w : World) : Prop := Lib.TabBelow Tryz.prog B w "lustrum/civil.lengths" .i64 lensT
theorem TL.at_ {w w1 : World} (h : TL w.heap.size w) (hb : Below w.heap.size w w1) : TL w1.heap.size w1 := fun w' h' => h w' (below_step hb h')
theorem TL.cell {w : World} (h : TL w.heap.size w) (i : Nat) (hi : i < 13) : w.cell? ⟨0, i, none⟩ = some (.int .i64 (lensT.getD i 0)) := Lib.TabIs.cell (Lib.TabBelow.here h) (show Tryz.prog.globalNamed "lustrum/civil.lengths" = some 0 by kernel_rfl) i hi
theorem tl_ {p : Prop} (h : p := by first | exact HTAB.out | (refine TL.at_ HTAB.out ?_; repeat (first | (with_reducible first | exact HB.out | exact Below.refl _ _ | apply below_alloc | apply pw_below_drewN | apply below_drew1 | refine below_set ?_ (Aside0.out (by with_reducible assumption))) | exact HB.out))) : p := h
def civil_Days.f (a0 a1 : Int) : Option Int := if a1 < 1 then some 0 else if a1 > 12 then some 0 else if a1 = 2 then (civil_Leap.f a0).bind fun t => if t = true then some 29 else some 28 else some (lensT.getD a1.toNat 0)
set_option maxHeartbeats 8000000 in
set_option maxRecDepth 100000 in
theorem civil_Days.calls (a0 a1 r : Int) (w : World) (htab : TL w.heap.size w) (h : civil_Days.f a0 a1 = some r) :
    Calls Tryz.prog 152 #[.int .i64 a0, .int .i64 a1] w fun e w' => e = .returned (.int .i64 r) ∧ Drawn0 w w' := by
  unfold civil_Days.f at h
  by_cases c1 : a1 < 1
  · rw [if_pos c1] at h
    obtain rfl := Option.some.inj h
    have k1 : decide (a1 < 1) = true := decide_eq_true c1
    clear c1 h htab
    go_enter Tryz.func152, Tryz.ntmps152
    go_wp2
    go_ret
    exact ⟨rfl, Drawn0.refl _⟩
  rw [if_neg c1] at h
  have k1 : decide (a1 < 1) = false := decide_eq_false c1
  by_cases c2 : a1 > 12
  · rw [if_pos c2] at h
    obtain rfl := Option.some.inj h
    have k2 : decide (12 < a1) = true := decide_eq_true c2
    clear c1 c2 h htab
    go_enter Tryz.func152, Tryz.ntmps152
    go_wp2
    go_ret
    exact ⟨rfl, Drawn0.refl _⟩
  rw [if_neg c2] at h
  have k2 : decide (12 < a1) = false := decide_eq_false c2
  by_cases c3 : a1 = 2
  · rw [if_pos c3] at h
    obtain ⟨t, ht, h2⟩ := Option.bind_eq_some_iff.mp h
    have HT := A_ ht
    have hc := htab.cell 2 (by decide)
    subst c3
    clear h ht c1 c2 k1 k2
    cases t with
    | true =>
      obtain rfl := Option.some.inj ((if_pos rfl).symm.trans h2)
      clear h2 hc
      go_enter Tryz.func152, Tryz.ntmps152
      go_wp2_with (first | (go_at_call 188; (with_reducible refine (civil_Leap.calls a0 true _ HT.out).mono ?_); rintro e w' ⟨rfl, ⟨nd, rfl⟩⟩))
      go_ret
      exact ⟨rfl, _, rfl⟩
    | false =>
      obtain rfl := Option.some.inj ((if_neg (by simp)).symm.trans h2)
      clear h2
      go_enter Tryz.func152, Tryz.ntmps152
      go_wp2_with (first | (go_at_call 188; (with_reducible refine (civil_Leap.calls a0 false _ HT.out).mono ?_); rintro e w' ⟨rfl, ⟨nd, rfl⟩⟩))
      go_ret
      exact ⟨rfl, _, rfl⟩
  · rw [if_neg c3] at h
    obtain rfl := Option.some.inj h
    have k3 : (a1 == 2) = false := beq_eq_false_iff_ne.mpr c3
    have hc := htab.cell a1.toNat (by omega)
    have d0 : decide (0 ≤ a1) = true := decide_eq_true (by omega)
    have d1 : decide (a1 < 13) = true := decide_eq_true (by omega)
    have d2 : (a1.toNat < 13) = True := eq_true (by omega)
    have e0 : 0 ≤ a1 := by omega
    have e1 : a1 < 13 := by omega
    clear h htab
    go_enter Tryz.func152, Tryz.ntmps152
    go_wp2
    go_ret
    exact ⟨rfl, Drawn0.refl _⟩
end Go.Proofs.YthppfagfmjchoaaGreatDoor.A
namespace Go.Proofs.YthppfagfmjchoaaGreatDoor.A
open Go.ChangeShapes Go.WideShapes Go.ChangeAt Go.WideMaps Go.WideElems Go.RowKit Go.Deep
def laid1 : List (String × DataW Unit) := [("lustrum/civil.lengths", Rows.laid_lustrum_civil_lengths)]
theorem own1 : ownKnob Tryz.prog.godebug = none := by kernel_rfl
theorem laidOut1 : laidOutB Tryz.prog = true := by kernel_rfl
set_option maxRecDepth 100000 in
theorem door_met (os : Os) (args : Array Value) : laidMetH Tryz.prog laid1 ((World.doorLaid Tryz.prog 24 os).forCall (fun _ _ => 0) ⟨#[], args, []⟩).memory :=
  laidMetH_of_parts3 (fuel := 8) (laidMet_of_run' 8 (by kernel_rfl) (by kernel_rfl)) (by kernel_rfl) (by kernel_rfl)
theorem tab_of_laid {W : World} (h : laidMetH Tryz.prog laid1 W) : Lib.TabIs Tryz.prog W "lustrum/civil.lengths" .i64 lensT := by
  rw [MakeChecks.laidMetH_plain _ _ _ (by kernel_rfl)] at h
  obtain ⟨ps, ⟨g0, t0, cs0, f0, p0, q0, hg0, ht0, hv0, hd0, _, _⟩, _, _⟩ := h
  obtain rfl := Option.some.inj ((show Tryz.prog.globalNamed "lustrum/civil.lengths" = some 0 by kernel_rfl).symm.trans hg0)
  obtain rfl := Option.some.inj ((show (Tryz.prog.globals[0]?).map (·.type) = some 190 by kernel_rfl).symm.trans ht0)
  have e : Rows.laid_lustrum_civil_lengths (H := Unit) = Lib.tabData .i64 lensT := by kernel_rfl
  rw [e] at hd0
  unfold Lib.TabIs
  rw [hv0, ← Lib.cells_of_tab (n := 13) (e := 3) Tryz.underlying190 Tryz.underlying3 (by kernel_rfl) (by kernel_rfl) hd0]
def wfI (n : Int) : Prop := -9223372036854775808 ≤ n ∧ n ≤ 9223372036854775807
theorem wfI_of {n : Int} (h : (Lit.int .i64 n).wf = true) : wfI n := by
  have h1 := of_decide_eq_true (p := _ ∧ _) (by simpa [Lit.wf, IntKind.signed, IntKind.bits, Bool.and_eq_true, decide_eq_true_eq] using h)
  exact h1
theorem len4 {α : Type} {l : List α} (h : l.length = 4) : ∃ a b c d, l = [a, b, c, d] := by
  match l, h with
  | [a, b, c, d], _ => exact ⟨a, b, c, d, rfl⟩
theorem pt_arg {H : Type} {enc : TypeId × Value → H} {W : World} {v : Value} {x : DataW H} {ps : List MemPlace}
    (h : DataW.Trod enc Tryz.prog W 0 (fun _ => true) true 23 v x ps) (hv : ∃ cs, v = .agg cs) :
    ∃ n : S23, v = .agg #[.int .i64 n.f0, .string n.f1, .string n.f2, .string n.f3] ∧ wfI n.f0 := by
  obtain ⟨f, hf⟩ := h
  obtain ⟨cs, rfl⟩ := hv
  obtain ⟨xs, m, e, _, hl, hlen, hf⟩ := DataW.trod_struct Tryz.underlying23 hf
  have e1 : Tryz.prog.cellsOf 23 = 4 := by kernel_rfl
  have e2 : Tryz.prog.cellsOf 3 = 1 := by kernel_rfl
  have e3 : Tryz.prog.cellsOf 9 = 1 := by kernel_rfl
  rw [e1] at hl
  have hlen : xs.length = 4 := hlen
  obtain ⟨y0, y1, y2, y3, rfl⟩ := len4 hlen
  obtain ⟨l⟩ := cs
  replace hl : l.length = 4 := hl
  obtain ⟨c0, c1, c2, c3, rfl⟩ := len4 hl
  have h0 : DataW.trod enc Tryz.prog W 0 (fun _ => true) true m 3 (([c0, c1, c2, c3].drop 0).take (Tryz.prog.cellsOf 3)) = some y0 := hf 0 _ rfl
  have h1 : DataW.trod enc Tryz.prog W 0 (fun _ => true) true m 9 (([c0, c1, c2, c3].drop 1).take (Tryz.prog.cellsOf 9)) = some y1 := hf 1 _ rfl
  have h2 : DataW.trod enc Tryz.prog W 0 (fun _ => true) true m 9 (([c0, c1, c2, c3].drop 2).take (Tryz.prog.cellsOf 9)) = some y2 := hf 2 _ rfl
  have h3 : DataW.trod enc Tryz.prog W 0 (fun _ => true) true m 9 (([c0, c1, c2, c3].drop 3).take (Tryz.prog.cellsOf 9)) = some y3 := hf 3 _ rfl
  rw [e2] at h0
  rw [e3] at h1 h2 h3
  obtain ⟨a, ha, _, wa⟩ := DataW.trod_int Tryz.underlying3 h0
  obtain ⟨s1, hs1, _, _⟩ := DataW.trod_string Tryz.underlying9 h1
  obtain ⟨s2, hs2, _, _⟩ := DataW.trod_string Tryz.underlying9 h2
  obtain ⟨s3, hs3, _, _⟩ := DataW.trod_string Tryz.underlying9 h3
  replace ha : [c0] = [.int .i64 a] := ha
  replace hs1 : [c1] = [.string s1] := hs1
  replace hs2 : [c2] = [.string s2] := hs2
  replace hs3 : [c3] = [.string s3] := hs3
  simp only [List.cons.injEq, and_true] at ha hs1 hs2 hs3
  subst ha hs1 hs2 hs3
  exact ⟨⟨a, s1, s2, s3⟩, rfl, wfI_of wa⟩
end Go.Proofs.YthppfagfmjchoaaGreatDoor.A
namespace Go.Proofs.YthppfagfmjchoaaGreatDoor.A
open Go.RowKit Go.Proofs.YthppfagfmjchoaaGreatDoorW.PrintWords Go.Proofs.YthppfagfmjchoaaGreatDoorW.PrintLast Go.Proofs.YthppfagfmjchoaaGreatDoorW.PrintMore
attribute [local go_sem] max2_int min2_int max_two min_two max_three min_three max_four min_four
def lustrumlaw08_short.f (a0_0 : Int) (a0_1 : ByteArray) (a0_2 : ByteArray) (a0_3 : ByteArray) : Option (Bool) := if (a0_1.size : Int) ≤ 10 then (if (a0_2.size : Int) ≤ 10 then (some (decide ((a0_3.size : Int) ≤ 10))) else (some false)) else (some false)
def lustrumref06_Sane.l0 : Nat → ByteArray → Int → Option (Bool)
  | 0, _, _ => none
  | k + 1, x0, x3 => if x3 < (x0.size : Int) then (if 0 ≤ x3 then (if (bt x0 x3) < 48 then (if (bt x0 x3) = 88 then (lustrumref06_Sane.l0 k x0 (wrap64 (x3 + 1))) else (some false)) else (if (bt x0 x3) > 57 then (if (bt x0 x3) = 88 then (lustrumref06_Sane.l0 k x0 (wrap64 (x3 + 1))) else (some false)) else (lustrumref06_Sane.l0 k x0 (wrap64 (x3 + 1))))) else (none)) else (if (x0.size : Int) ≥ 1 then (some (decide ((x0.size : Int) ≤ 4))) else (some false))
def lustrumref06_Sane.f (k : Nat) (a0 : ByteArray) : Option (Bool) := lustrumref06_Sane.l0 k a0 0
def lustrumref06_most.l0 : Nat → Int → Int → Int → Option (Int)
  | 0, _, _, _ => none
  | k + 1, x0, x3, x4 => if x4 < x0 then (lustrumref06_most.l0 k x0 (wrap64 (x3 * 10)) (wrap64 (x4 + 1))) else (some x3)
def lustrumref06_most.f (k : Nat) (a0 : Int) : Option (Int) := lustrumref06_most.l0 k a0 1 0
mutual
def lustrumref06_Match.j0 : Nat → ByteArray → Int → Bool → Option (Bool)
  | 0, _, _, _ => none
  | k + 1, x0, x1, x19 => if x19 = true then (some false) else (lustrumref06_Match.l0 k x0 x1 (wrap64 ((x0.size : Int) - 1)))
def lustrumref06_Match.l0 : Nat → ByteArray → Int → Int → Option (Bool)
  | 0, _, _, _ => none
  | k + 1, x0, x1, x5 => if x5 ≥ 0 then (if 0 ≤ x5 then (if x5 < (x0.size : Int) then (if (bt x0 x5) = 88 then (lustrumref06_Match.l0 k x0 (wrap64 (Int.tdiv x1 10)) (wrap64 (x5 - 1))) else (if (wrap64 ((wrap64 (bt x0 x5)) - 48)) = (Int.tmod x1 10) then (lustrumref06_Match.l0 k x0 (wrap64 (Int.tdiv x1 10)) (wrap64 (x5 - 1))) else (some false))) else (none)) else (none)) else (some true)
end
def lustrumref06_Match.f (k : Nat) (a0 : ByteArray) (a1 : Int) : Option (Bool) := (lustrumref06_Sane.f k a0).bind fun t241 => (if t241 = true then (if a1 < 0 then (lustrumref06_Match.j0 k a0 a1 true) else ((lustrumref06_most.f k (a0.size : Int)).bind fun t242 => (lustrumref06_Match.j0 k a0 a1 (decide (a1 ≥ t242))))) else (lustrumref06_Match.j0 k a0 a1 true))
def lustrumref08_some.l0 : Nat → ByteArray → Int → Int → Option (Bool)
  | 0, _, _, _ => none
  | k + 1, x0, x2, x7 => if x7 ≤ x2 then ((lustrumref06_Match.f k x0 x7).bind fun t243 => (if t243 = true then (some true) else (lustrumref08_some.l0 k x0 x2 (wrap64 (x7 + 1))))) else (some false)
def lustrumref08_some.f (k : Nat) (a0 : ByteArray) (a1 : Int) (a2 : Int) : Option (Bool) := if (a0.size : Int) = a1 then (lustrumref08_some.l0 k a0 a2 1) else (some false)
def lustrumref08_Sane.f (k : Nat) (a0_0 : Int) (a0_1 : ByteArray) (a0_2 : ByteArray) (a0_3 : ByteArray) : Option (Bool) := (lustrumref06_Sane.f k a0_1).bind fun t245 => (if t245 = true then (if a0_0 = 0 then (if (a0_1.size : Int) = 4 then ((lustrumref08_some.f k a0_2 2 12).bind fun t246 => (if t246 = true then ((lustrumref08_some.f k a0_3 2 31).bind fun t247 => (some t247)) else (some false))) else (some false)) else (if a0_0 = 1 then (if (a0_1.size : Int) = 4 then ((lustrumref08_some.f k a0_2 2 12).bind fun t248 => (if t248 = true then (some (a0_3.toList == ([] : List UInt8))) else (some false))) else (some false)) else (if a0_0 = 2 then (if (a0_1.size : Int) = 4 then ((lustrumref08_some.f k a0_2 1 4).bind fun t249 => (if t249 = true then (some (a0_3.toList == ([] : List UInt8))) else (some false))) else (some false)) else (if a0_0 = 3 then (if (a0_1.size : Int) = 4 then (if a0_2.toList = ([] : List UInt8) then (some (a0_3.toList == ([] : List UInt8))) else (some false)) else (some false)) else (if a0_0 = 4 then (if (a0_1.size : Int) = 3 then (if a0_2.toList = ([] : List UInt8) then (some (a0_3.toList == ([] : List UInt8))) else (some false)) else (some false)) else (if a0_0 = 5 then (if (a0_1.size : Int) = 2 then (if a0_2.toList = ([] : List UInt8) then (some (a0_3.toList == ([] : List UInt8))) else (some false)) else (some false)) else (some false))))))) else (some false))
def lustrumref08_Text.f (k : Nat) (a0_0 : Int) (a0_1 : ByteArray) (a0_2 : ByteArray) (a0_3 : ByteArray) : Option (ByteArray) := (lustrumref08_Sane.f k a0_0 a0_1 a0_2 a0_3).bind fun t300 => (if t300 = true then (if a0_0 = 0 then (if a0_1.size + 1 ≤ 9223372036854775807 then (if (a0_1 ++ (⟨#[45]⟩ : ByteArray)).size + a0_2.size ≤ 9223372036854775807 then (if ((a0_1 ++ (⟨#[45]⟩ : ByteArray)) ++ a0_2).size + 1 ≤ 9223372036854775807 then (if (((a0_1 ++ (⟨#[45]⟩ : ByteArray)) ++ a0_2) ++ (⟨#[45]⟩ : ByteArray)).size + a0_3.size ≤ 9223372036854775807 then (some ((((a0_1 ++ (⟨#[45]⟩ : ByteArray)) ++ a0_2) ++ (⟨#[45]⟩ : ByteArray)) ++ a0_3)) else (none)) else (none)) else (none)) else (none)) else (if a0_0 = 1 then (if a0_1.size + 1 ≤ 9223372036854775807 then (if (a0_1 ++ (⟨#[45]⟩ : ByteArray)).size + a0_2.size ≤ 9223372036854775807 then (some ((a0_1 ++ (⟨#[45]⟩ : ByteArray)) ++ a0_2)) else (none)) else (none)) else (if a0_0 = 2 then (if a0_1.size + 1 ≤ 9223372036854775807 then (if (a0_1 ++ (⟨#[115]⟩ : ByteArray)).size + a0_2.size ≤ 9223372036854775807 then (some ((a0_1 ++ (⟨#[115]⟩ : ByteArray)) ++ a0_2)) else (none)) else (none)) else (if a0_0 = 4 then (if a0_1.size + 1 ≤ 9223372036854775807 then (some (a0_1 ++ (⟨#[100]⟩ : ByteArray))) else (none)) else (if a0_0 = 5 then (if a0_1.size + 1 ≤ 9223372036854775807 then (some (a0_1 ++ (⟨#[99]⟩ : ByteArray))) else (none)) else (some a0_1)))))) else (some (⟨#[]⟩ : ByteArray)))
def lustrumref08_part.f (a0 : ByteArray) (a1 : Int) (a2 : Int) : Option (ByteArray) := if a2 > (a0.size : Int) then (some (⟨#[]⟩ : ByteArray)) else (if 0 ≤ a1 then (if a1 ≤ a2 then (if a2 ≤ (a0.size : Int) then (some (a0.extract (a1 : Int).toNat (a2 : Int).toNat)) else (none)) else (none)) else (none))
def lustrumref08_Read.l0 : Nat → ByteArray → List (S23) → Int → Option (Int × ByteArray × ByteArray × ByteArray × Bool)
  | 0, _, _, _ => none
  | k + 1, x0, x4, x5 => if x5 < (x4.length : Int) then (if x0.toList = ([] : List UInt8) then (lustrumref08_Read.l0 k x0 x4 (wrap64 (x5 + 1))) else (if 0 ≤ x5 then ((lustrumref08_Text.f k ((rd_T23 x4 x5).f0) ((rd_T23 x4 x5).f1) ((rd_T23 x4 x5).f2) ((rd_T23 x4 x5).f3)).bind fun t130 => (if t130.toList = x0.toList then (some ((rd_T23 x4 x5).f0, (rd_T23 x4 x5).f1, (rd_T23 x4 x5).f2, (rd_T23 x4 x5).f3, true)) else (lustrumref08_Read.l0 k x0 x4 (wrap64 (x5 + 1))))) else (none))) else (some (0, (⟨#[]⟩ : ByteArray), (⟨#[]⟩ : ByteArray), (⟨#[]⟩ : ByteArray), false))
def lustrumref08_Read.f (k : Nat) (a0 : ByteArray) : Option (Int × ByteArray × ByteArray × ByteArray × Bool) := (lustrumref08_part.f a0 0 4).bind fun t116 => ((lustrumref08_part.f a0 5 7).bind fun t117 => ((lustrumref08_part.f a0 8 10).bind fun t118 => ((lustrumref08_part.f a0 0 4).bind fun t119 => ((lustrumref08_part.f a0 5 7).bind fun t120 => ((lustrumref08_part.f a0 0 4).bind fun t121 => ((lustrumref08_part.f a0 5 6).bind fun t122 => ((lustrumref08_part.f a0 0 4).bind fun t123 => ((lustrumref08_part.f a0 0 3).bind fun t124 => ((lustrumref08_part.f a0 0 2).bind fun t125 => (lustrumref08_Read.l0 k a0 (([(⟨0, t116, t117, t118⟩ : S23), (⟨1, t119, t120, (⟨#[]⟩ : ByteArray)⟩ : S23), (⟨2, t121, t122, (⟨#[]⟩ : ByteArray)⟩ : S23), (⟨3, t123, (⟨#[]⟩ : ByteArray), (⟨#[]⟩ : ByteArray)⟩ : S23), (⟨4, t124, (⟨#[]⟩ : ByteArray), (⟨#[]⟩ : ByteArray)⟩ : S23), (⟨5, t125, (⟨#[]⟩ : ByteArray), (⟨#[]⟩ : ByteArray)⟩ : S23)] : List (S23))) 0))))))))))
theorem S71.ext2 {a b : S71} (h0 : a.f0 = b.f0) (h1 : a.f1 = b.f1) : a = b := by
  cases a; cases b
  simp only at h0 h1
  subst h0; subst h1; rfl
def lim : Int := 1099511627776
def mem (l : List S71) (n : Int) : Prop := ∃ r, r ∈ l ∧ r.f0 ≤ n ∧ n ≤ r.f1
def saneF : Int → List S71 → Prop
  | _, [] => True
  | a, r :: t => a + 2 ≤ r.f0 ∧ r.f0 ≤ r.f1 ∧ r.f1 ≤ lim ∧ saneF r.f1 t
def sane (l : List S71) : Prop := saneF (-lim - 2) l
theorem mem_nil (n : Int) : ¬ mem [] n := fun ⟨_, h, _⟩ => by simp at h
theorem mem_cons (r : S71) (t : List S71) (n : Int) : mem (r :: t) n ↔ (r.f0 ≤ n ∧ n ≤ r.f1) ∨ mem t n := by
  constructor
  · rintro ⟨q, hq, h⟩
    rcases List.mem_cons.1 hq with rfl | hq
    · exact .inl h
    · exact .inr ⟨q, hq, h⟩
  · rintro (h | ⟨q, hq, h⟩)
    · exact ⟨r, List.mem_cons_self, h⟩
    · exact ⟨q, List.mem_cons_of_mem _ hq, h⟩
theorem mem_append (s t : List S71) (n : Int) : mem (s ++ t) n ↔ mem s n ∨ mem t n := by
  induction s with
  | nil => simp [mem_nil]
  | cons r s ih => rw [List.cons_append, mem_cons, mem_cons, ih, or_assoc]
theorem saneF_mem : ∀ {a : Int} {l : List S71}, saneF a l → ∀ {n : Int}, mem l n → a + 2 ≤ n ∧ n ≤ lim
  | _, [], _, _, h => absurd h (mem_nil _)
  | a, r :: t, ⟨h1, h2, h3, h4⟩, n, h => by
    rcases (mem_cons _ _ _).1 h with h | h
    · omega
    · have := saneF_mem h4 h
      omega
theorem saneF_le {a b : Int} {l : List S71} (h : saneF a l) (hb : b ≤ a) : saneF b l := by
  cases l with
  | nil => trivial
  | cons r t =>
    obtain ⟨h1, h2, h3, h4⟩ := h
    exact ⟨by omega, h2, h3, h4⟩
theorem unique : ∀ {s t : List S71} {a b : Int}, saneF a s → saneF b t → (∀ n, mem s n ↔ mem t n) → s = t
  | [], [], _, _, _, _, _ => rfl
  | [], q :: t, _, _, _, ⟨_, h2, _⟩, h => absurd ((h q.f0).2 ((mem_cons _ _ _).2 (.inl ⟨Int.le_refl _, h2⟩))) (mem_nil _)
  | r :: s, [], _, _, ⟨_, h2, _⟩, _, h => absurd ((h r.f0).1 ((mem_cons _ _ _).2 (.inl ⟨Int.le_refl _, h2⟩))) (mem_nil _)
  | r :: s, q :: t, a, b, ⟨r1, r2, r3, r4⟩, ⟨q1, q2, q3, q4⟩, h => by
    have hr : ∀ n, mem (r :: s) n → r.f0 ≤ n := fun n hn => by
      rcases (mem_cons _ _ _).1 hn with hn | hn
      · exact hn.1
      · have := saneF_mem r4 hn; omega
    have hq : ∀ n, mem (q :: t) n → q.f0 ≤ n := fun n hn => by
      rcases (mem_cons _ _ _).1 hn with hn | hn
      · exact hn.1
      · have := saneF_mem q4 hn; omega
    have e0 : r.f0 = q.f0 := by
      have h1 := hq _ ((h r.f0).1 ((mem_cons _ _ _).2 (.inl ⟨Int.le_refl _, r2⟩)))
      have h2 := hr _ ((h q.f0).2 ((mem_cons _ _ _).2 (.inl ⟨Int.le_refl _, q2⟩)))
      omega
    have e1 : r.f1 = q.f1 := by
      rcases Int.lt_trichotomy r.f1 q.f1 with hlt | heq | hlt
      · have := (h (r.f1 + 1)).2 ((mem_cons _ _ _).2 (.inl ⟨by omega, by omega⟩))
        rcases (mem_cons _ _ _).1 this with hn | hn
        · omega
        · have := saneF_mem r4 hn; omega
      · exact heq
      · have := (h (q.f1 + 1)).1 ((mem_cons _ _ _).2 (.inl ⟨by omega, by omega⟩))
        rcases (mem_cons _ _ _).1 this with hn | hn
        · omega
        · have := saneF_mem q4 hn; omega
    have e2 : s = t := unique r4 q4 fun n => by
      constructor
      · intro hn
        have h1 := saneF_mem r4 hn
        rcases (mem_cons _ _ _).1 ((h n).1 ((mem_cons _ _ _).2 (.inr hn))) with h2 | h2
        · omega
        · exact h2
      · intro hn
        have h1 := saneF_mem q4 hn
        rcases (mem_cons _ _ _).1 ((h n).2 ((mem_cons _ _ _).2 (.inr hn))) with h2 | h2
        · omega
        · exact h2
    rw [S71.ext2 e0 e1, e2]
def ins (x : S71) : List S71 → List S71
  | [] => [x]
  | q :: t => if q.f1 < x.f0 - 1 then q :: ins x t else if x.f1 + 1 < q.f0 then x :: q :: t else ins ⟨min x.f0 q.f0, max x.f1 q.f1⟩ t
theorem ins_sane : ∀ (s : List S71) (x : S71) (a : Int), saneF a s → a + 2 ≤ x.f0 → x.f0 ≤ x.f1 → x.f1 ≤ lim → saneF a (ins x s)
  | [], x, a, _, h1, h2, h3 => ⟨h1, h2, h3, trivial⟩
  | q :: t, x, a, ⟨q1, q2, q3, q4⟩, h1, h2, h3 => by
    unfold ins
    by_cases c1 : q.f1 < x.f0 - 1
    · rw [if_pos c1]
      exact ⟨q1, q2, q3, ins_sane t x _ q4 (by omega) h2 h3⟩
    · rw [if_neg c1]
      by_cases c2 : x.f1 + 1 < q.f0
      · rw [if_pos c2]
        exact ⟨h1, h2, h3, by omega, q2, q3, q4⟩
      · rw [if_neg c2]
        exact ins_sane t _ a (saneF_le q4 (by omega)) (by simp only; omega) (by simp only; omega) (by simp only; omega)
theorem ins_mem : ∀ (s : List S71) (x : S71) (a : Int), saneF a s → x.f0 ≤ x.f1 → ∀ n, mem (ins x s) n ↔ (x.f0 ≤ n ∧ n ≤ x.f1) ∨ mem s n
  | [], x, a, _, h2, n => by unfold ins; rw [mem_cons]
  | q :: t, x, a, ⟨q1, q2, q3, q4⟩, h2, n => by
    unfold ins
    by_cases c1 : q.f1 < x.f0 - 1
    · rw [if_pos c1, mem_cons, mem_cons, ins_mem t x _ q4 h2 n, ← or_assoc, ← or_assoc]
      rw [or_comm (a := q.f0 ≤ n ∧ n ≤ q.f1)]
    · rw [if_neg c1]
      by_cases c2 : x.f1 + 1 < q.f0
      · rw [if_pos c2, mem_cons]
      · rw [if_neg c2, ins_mem t _ _ q4 (by simp only; omega) n, mem_cons, ← or_assoc]
        simp only
        constructor
        · rintro (h | h)
          · left; omega
          · exact .inr h
        · rintro (h | h)
          · left; omega
          · exact .inr h
def clamp (r : S71) : S71 := ⟨max r.f0 (-lim), min r.f1 lim⟩
def step (s : List S71) (r : S71) : List S71 := if (clamp r).f0 ≤ (clamp r).f1 then ins (clamp r) s else s
def norm (l : List S71) : List S71 := l.foldl step []
theorem step_sane {s : List S71} (h : sane s) (r : S71) : sane (step s r) := by
  unfold step
  by_cases c : (clamp r).f0 ≤ (clamp r).f1
  · rw [if_pos c]
    exact ins_sane _ _ _ h (by unfold clamp; simp only; omega) c (by unfold clamp; simp only; omega)
  · rw [if_neg c]; exact h
theorem step_mem {s : List S71} (h : sane s) (r : S71) (n : Int) : mem (step s r) n ↔ (-lim ≤ n ∧ n ≤ lim ∧ r.f0 ≤ n ∧ n ≤ r.f1) ∨ mem s n := by
  unfold step
  by_cases c : (clamp r).f0 ≤ (clamp r).f1
  · rw [if_pos c, ins_mem _ _ _ h c]
    unfold clamp; simp only
    constructor
    · rintro (h | h)
      · left; omega
      · exact .inr h
    · rintro (h | h)
      · left; omega
      · exact .inr h
  · rw [if_neg c]
    unfold clamp at c; simp only at c
    constructor
    · exact .inr
    · rintro (h | h)
      · exfalso; omega
      · exact h
theorem fold_sane : ∀ (l : List S71) (s : List S71), sane s → sane (l.foldl step s)
  | [], _, h => h
  | r :: l, _, h => fold_sane l _ (step_sane h r)
theorem fold_mem : ∀ (l : List S71) (s : List S71), sane s → ∀ n, mem (l.foldl step s) n ↔ (-lim ≤ n ∧ n ≤ lim ∧ mem l n) ∨ mem s n
  | [], s, h, n => by simp [mem_nil]
  | r :: l, s, h, n => by
    rw [List.foldl_cons, fold_mem l _ (step_sane h r), step_mem h, mem_cons]
    constructor
    · rintro (⟨h1, h2, h3⟩ | ⟨h1, h2, h3⟩ | h)
      · exact .inl ⟨h1, h2, .inr h3⟩
      · exact .inl ⟨h1, h2, .inl h3⟩
      · exact .inr h
    · rintro (⟨h1, h2, h3 | h3⟩ | h)
      · exact .inr (.inl ⟨h1, h2, h3⟩)
      · exact .inl ⟨h1, h2, h3⟩
      · exact .inr (.inr h)
theorem norm_sane (l : List S71) : sane (norm l) := fold_sane l [] trivial
theorem norm_mem (l : List S71) (n : Int) : mem (norm l) n ↔ -lim ≤ n ∧ n ≤ lim ∧ mem l n := by
  unfold norm
  rw [fold_mem l [] trivial]
  simp [mem_nil]
theorem sane_mem {s : List S71} (h : sane s) {n : Int} (hn : mem s n) : -lim ≤ n ∧ n ≤ lim := by
  have := saneF_mem h hn
  omega
theorem same {s t : List S71} (hs : sane s) (ht : sane t) (h : ∀ n, mem s n ↔ mem t n) : s = t := unique hs ht h
theorem norm_of_sane {s : List S71} (h : sane s) : norm s = s := same (norm_sane s) h fun n => by
  rw [norm_mem]
  exact ⟨fun h => h.2.2, fun hn => ⟨(sane_mem h hn).1, (sane_mem h hn).2, hn⟩⟩
theorem norm_idem (l : List S71) : norm (norm l) = norm l := norm_of_sane (norm_sane l)
theorem norm_eq {l : List S71} {s : List S71} (h : sane s) (hm : ∀ n, mem s n ↔ -lim ≤ n ∧ n ≤ lim ∧ mem l n) : s = norm l :=
  same h (norm_sane l) fun n => by rw [hm, norm_mem]
def cnt : List S71 → Int
  | [] => 0
  | r :: t => (r.f1 - r.f0 + 1) + cnt t
def risingLo : List S71 → Bool
  | r :: q :: t => decide (r.f0 ≤ q.f0) && risingLo (q :: t)
  | _ => true
theorem rising_pair : ∀ {l : List S71}, risingLo l = true → l.Pairwise (fun a b => a.f0 ≤ b.f0)
  | [], _ => List.Pairwise.nil
  | [r], _ => List.pairwise_singleton _ _
  | r :: q :: t, h => by
    rw [risingLo, Bool.and_eq_true, decide_eq_true_eq] at h
    have ih := rising_pair h.2
    refine List.pairwise_cons.2 ⟨fun x hx => ?_, ih⟩
    rcases List.mem_cons.1 hx with rfl | hx
    · exact h.1
    · exact Int.le_trans h.1 ((List.pairwise_cons.1 ih).1 x hx)
theorem pair_rising : ∀ {l : List S71}, l.Pairwise (fun a b => a.f0 ≤ b.f0) → risingLo l = true
  | [], _ => rfl
  | [r], _ => rfl
  | r :: q :: t, h => by
    have h' := List.pairwise_cons.1 h
    rw [risingLo, Bool.and_eq_true, decide_eq_true_eq]
    exact ⟨h'.1 q List.mem_cons_self, pair_rising h'.2⟩
def runs_Make.f (l0 : List S71) : Option (List S71) := if risingLo l0 = true ∧ l0.length < 4398046511104 then some (norm l0) else none
def civil_Valid.f (a0 : Int) (a1 : Int) (a2 : Int) : Option (Bool) := if a0 ≥ 0 then (if a0 ≤ 9999 then (if a2 ≥ 1 then ((civil_Days.f a0 a1).bind fun t101 => (some (decide (a2 ≤ t101)))) else (some false)) else (some false)) else (some false)
def ints_Floor.f (a0 : Int) (a1 : Int) : Option (Int) := if a1 < 1 then (some 0) else (if a0 < 0 then (if a1 = 0 then (none) else (some (wrap64 ((wrap64 (Int.tdiv (wrap64 (a0 + 1)) a1)) - 1)))) else (if a1 = 0 then (none) else (some (wrap64 (Int.tdiv a0 a1)))))
def civil_Number.f (a0 : Int) (a1 : Int) (a2 : Int) : Option (Int × Bool) := (civil_Valid.f a0 a1 a2).bind fun t102 => (if t102 = true then (if a1 < 3 then ((ints_Floor.f (wrap64 (a0 - 1)) 400).bind fun t103 => ((ints_Mod.f (wrap64 (a0 - 1)) 400).bind fun t104 => (some (wrap64 ((wrap64 ((wrap64 ((wrap64 ((wrap64 ((wrap64 (t103 * 146097)) + (wrap64 (t104 * 365)))) + (wrap64 (Int.tdiv t104 4)))) - (wrap64 (Int.tdiv t104 100)))) + (wrap64 ((wrap64 ((wrap64 (Int.tdiv (wrap64 ((wrap64 (153 * (wrap64 ((wrap64 (a1 + 12)) - 3)))) + 2)) 5)) + a2)) - 1)))) + 60), true)))) else ((ints_Floor.f a0 400).bind fun t105 => ((ints_Mod.f a0 400).bind fun t106 => (some (wrap64 ((wrap64 ((wrap64 ((wrap64 ((wrap64 ((wrap64 (t105 * 146097)) + (wrap64 (t106 * 365)))) + (wrap64 (Int.tdiv t106 4)))) - (wrap64 (Int.tdiv t106 100)))) + (wrap64 ((wrap64 ((wrap64 (Int.tdiv (wrap64 ((wrap64 (153 * (wrap64 (a1 - 3)))) + 2)) 5)) + a2)) - 1)))) + 60), true))))) else (some (0, false)))
def unit_span_begins.f (a0_0 : Int) (a0_1 : Int) (a0_2 : Int) (a1 : Int) : Option (Int) := (civil_Number.f (wrap64 (Int.tdiv (wrap64 (a0_1 + (wrap64 (a0_0 * a1)))) 12)) (wrap64 ((Int.tmod (wrap64 (a0_1 + (wrap64 (a0_0 * a1)))) 12) + 1)) 1).bind fun bt102 => (some bt102.1)
set_option maxHeartbeats 8000000 in
set_option maxRecDepth 100000 in
theorem civil_Valid.calls (a0 a1 a2 : Int) (r : Bool) (w : World) (htab : TL w.heap.size w) (h : civil_Valid.f a0 a1 a2 = some r) :
  Calls Tryz.prog 187 #[.int .i64 a0, .int .i64 a1, .int .i64 a2] w fun e w' => e = .returned (.bool r) ∧ Drawn0 w w' := by
 have HTAB := A_ htab; clear htab; have H : (if a0 ≥ 0 then (if a0 ≤ 9999 then (if a2 ≥ 1 then ((civil_Days.f a0 a1).bind fun t101 => (some (decide (a2 ≤ t101)))) else (some false)) else (some false)) else (some false)) = some r := h; clear h
 obtain ⟨c4b0, H⟩ | ⟨c4b0, H⟩ := ic_ H
 ·obtain ⟨c5b0, H⟩ | ⟨c5b0, H⟩ := ic_ H
  ·obtain ⟨c6b0, H⟩ | ⟨c6b0, H⟩ := ic_ H
   ·obtain ⟨t101, A7, H⟩ := bi_ H; obtain rfl := Option.some.inj H; go_enter Tryz.func187, Tryz.ntmps187; go_wp2_with (first | (go_at_call 152; (with_reducible refine (civil_Days.calls a0 a1 t101 _ tl_ A7.out).mono ?_); rintro e w' ⟨rfl, ⟨nd, rfl⟩⟩)); go_ret; exact ⟨by first | rfl | (simp; done) | (simp [*]; done), by repeat (first | exact Drawn0.refl _ | apply Drawn0.step)⟩
   ·obtain rfl := Option.some.inj H; go_enter Tryz.func187, Tryz.ntmps187; go_wp2; go_ret; exact ⟨by first | rfl | (simp; done) | (simp [*]; done), by repeat (first | exact Drawn0.refl _ | apply Drawn0.step)⟩
  ·obtain rfl := Option.some.inj H; go_enter Tryz.func187, Tryz.ntmps187; go_wp2; go_ret; exact ⟨by first | rfl | (simp; done) | (simp [*]; done), by repeat (first | exact Drawn0.refl _ | apply Drawn0.step)⟩
 ·obtain rfl := Option.some.inj H; go_enter Tryz.func187, Tryz.ntmps187; go_wp2; go_ret; exact ⟨by first | rfl | (simp; done) | (simp [*]; done), by repeat (first | exact Drawn0.refl _ | apply Drawn0.step)⟩
set_option maxHeartbeats 8000000 in
set_option maxRecDepth 100000 in
theorem ints_Floor.calls (a0 a1 r : Int) (w : World) (h : ints_Floor.f a0 a1 = some r) :
  Calls Tryz.prog 89 #[.int .i64 a0, .int .i64 a1] w fun e w' => e = .returned (.int .i64 r) ∧ Drawn0 w w' := by
 have H : (if a1 < 1 then (some 0) else (if a0 < 0 then (if a1 = 0 then (none) else (some (wrap64 ((wrap64 (Int.tdiv (wrap64 (a0 + 1)) a1)) - 1)))) else (if a1 = 0 then (none) else (some (wrap64 (Int.tdiv a0 a1)))))) = some r := h; clear h
 obtain ⟨c3b0, H⟩ | ⟨c3b0, H⟩ := ic_ H
 ·obtain rfl := Option.some.inj H; go_enter Tryz.func89, Tryz.ntmps89; go_wp2; go_ret; exact ⟨by first | rfl | (simp; done) | (simp [*]; done), by repeat (first | exact Drawn0.refl _ | apply Drawn0.step)⟩
 ·obtain ⟨c4b0, H⟩ | ⟨c4b0, H⟩ := ic_ H
  ·obtain ⟨c5, H⟩ := gn_ H; have c5b0 : (a1 == 0) = false := beq_eq_false_iff_ne.mpr c5; have c5b1 : (a1 != 0) = true := bne_iff_ne.mpr c5; obtain rfl := Option.some.inj H; go_enter Tryz.func89, Tryz.ntmps89; go_wp2; go_ret; exact ⟨by first | rfl | (simp; done) | (simp [*]; done), by repeat (first | exact Drawn0.refl _ | apply Drawn0.step)⟩
  ·obtain ⟨c6, H⟩ := gn_ H; have c6b0 : (a1 == 0) = false := beq_eq_false_iff_ne.mpr c6; have c6b1 : (a1 != 0) = true := bne_iff_ne.mpr c6; obtain rfl := Option.some.inj H; go_enter Tryz.func89, Tryz.ntmps89; go_wp2; go_ret; exact ⟨by first | rfl | (simp; done) | (simp [*]; done), by repeat (first | exact Drawn0.refl _ | apply Drawn0.step)⟩
set_option maxHeartbeats 8000000 in
set_option maxRecDepth 100000 in
theorem civil_Number.calls (a0 a1 a2 r1 : Int) (r2 : Bool) (w : World) (htab : TL w.heap.size w) (h : civil_Number.f a0 a1 a2 = some (r1, r2)) :
  Calls Tryz.prog 151 #[.int .i64 a0, .int .i64 a1, .int .i64 a2] w fun e w' => e = .returned (.tuple #[.int .i64 r1, .bool r2]) ∧ Drawn0 w w' := by
 have HTAB := A_ htab; clear htab; have H : ((civil_Valid.f a0 a1 a2).bind fun t102 => (if t102 = true then (if a1 < 3 then ((ints_Floor.f (wrap64 (a0 - 1)) 400).bind fun t103 => ((ints_Mod.f (wrap64 (a0 - 1)) 400).bind fun t104 => (some (wrap64 ((wrap64 ((wrap64 ((wrap64 ((wrap64 ((wrap64 (t103 * 146097)) + (wrap64 (t104 * 365)))) + (wrap64 (Int.tdiv t104 4)))) - (wrap64 (Int.tdiv t104 100)))) + (wrap64 ((wrap64 ((wrap64 (Int.tdiv (wrap64 ((wrap64 (153 * (wrap64 ((wrap64 (a1 + 12)) - 3)))) + 2)) 5)) + a2)) - 1)))) + 60), true)))) else ((ints_Floor.f a0 400).bind fun t105 => ((ints_Mod.f a0 400).bind fun t106 => (some (wrap64 ((wrap64 ((wrap64 ((wrap64 ((wrap64 ((wrap64 (t105 * 146097)) + (wrap64 (t106 * 365)))) + (wrap64 (Int.tdiv t106 4)))) - (wrap64 (Int.tdiv t106 100)))) + (wrap64 ((wrap64 ((wrap64 (Int.tdiv (wrap64 ((wrap64 (153 * (wrap64 (a1 - 3)))) + 2)) 5)) + a2)) - 1)))) + 60), true))))) else (some (0, false)))) = some (r1, r2) := h; clear h; obtain ⟨t102, A4, H⟩ := bi_ H
 by_cases c5 : t102 = true
 ·subst c5
  (have H1 : (if a1 < 3 then ((ints_Floor.f (wrap64 (a0 - 1)) 400).bind fun t103 => ((ints_Mod.f (wrap64 (a0 - 1)) 400).bind fun t104 => (some (wrap64 ((wrap64 ((wrap64 ((wrap64 ((wrap64 ((wrap64 (t103 * 146097)) + (wrap64 (t104 * 365)))) + (wrap64 (Int.tdiv t104 4)))) - (wrap64 (Int.tdiv t104 100)))) + (wrap64 ((wrap64 ((wrap64 (Int.tdiv (wrap64 ((wrap64 (153 * (wrap64 ((wrap64 (a1 + 12)) - 3)))) + 2)) 5)) + a2)) - 1)))) + 60), true)))) else ((ints_Floor.f a0 400).bind fun t105 => ((ints_Mod.f a0 400).bind fun t106 => (some (wrap64 ((wrap64 ((wrap64 ((wrap64 ((wrap64 ((wrap64 (t105 * 146097)) + (wrap64 (t106 * 365)))) + (wrap64 (Int.tdiv t106 4)))) - (wrap64 (Int.tdiv t106 100)))) + (wrap64 ((wrap64 ((wrap64 (Int.tdiv (wrap64 ((wrap64 (153 * (wrap64 (a1 - 3)))) + 2)) 5)) + a2)) - 1)))) + 60), true))))) = some (r1, r2) := by rw [if_pos rfl] at H; exact H); clear H; have H := H1; clear H1
  by_cases c6 : a1 < 3
  ·rw [if_pos c6] at H
   have c6b0 := decide_eq_true c6; clear c6; obtain ⟨t103, A7, H⟩ := bi_ H; obtain ⟨t104, A8, H⟩ := bi_ H; simp only [Option.some.injEq, Prod.mk.injEq] at H; obtain ⟨rfl, rfl⟩ := H; go_enter Tryz.func151, Tryz.ntmps151; go_wp2_with (first | ((with_reducible refine gC 187 ?_); refine goesL_ (some 14) rfl rfl Tryz.func187 (by kernel_rfl) rfl #[.int .i64 a0, .int .i64 a1, .int .i64 a2] rfl ml_ ?_; (with_reducible refine (civil_Valid.calls a0 a1 a2 true _ tl_ A4.out).mono ?_); rintro e w' ⟨rfl, ⟨nd, rfl⟩⟩; refine ⟨_, rfl, ?_⟩) | ((with_reducible refine gC 89 ?_); refine goesL_ (some 23) rfl rfl Tryz.func89 (by kernel_rfl) rfl #[.int .i64 (wrap64 (a0 - 1)), .int .i64 400] rfl ml_ ?_; (with_reducible refine (ints_Floor.calls (wrap64 (a0 - 1)) 400 t103 _ A7.out).mono ?_); rintro e w' ⟨rfl, ⟨nd, rfl⟩⟩; refine ⟨_, rfl, ?_⟩) | ((with_reducible refine gC 90 ?_); refine goesL_ (some 25) rfl rfl Tryz.func90 (by kernel_rfl) rfl #[.int .i64 (wrap64 (a0 - 1)), .int .i64 400] rfl ml_ ?_; (with_reducible refine (ints_Mod.calls (wrap64 (a0 - 1)) 400 t104 _ A8.out).mono ?_); rintro e w' ⟨rfl, ⟨nd, rfl⟩⟩; refine ⟨_, rfl, ?_⟩)); go_ret2; exact ⟨by first | rfl | (simp; done) | (simp [*]; done), by repeat (first | exact Drawn0.refl _ | apply Drawn0.step)⟩
  ·rw [if_neg c6] at H
   have c6b0 := decide_eq_false c6; clear c6; obtain ⟨t105, A9, H⟩ := bi_ H; obtain ⟨t106, A10, H⟩ := bi_ H; simp only [Option.some.injEq, Prod.mk.injEq] at H; obtain ⟨rfl, rfl⟩ := H; go_enter Tryz.func151, Tryz.ntmps151; go_wp2_with (first | ((with_reducible refine gC 187 ?_); refine goesL_ (some 14) rfl rfl Tryz.func187 (by kernel_rfl) rfl #[.int .i64 a0, .int .i64 a1, .int .i64 a2] rfl ml_ ?_; (with_reducible refine (civil_Valid.calls a0 a1 a2 true _ tl_ A4.out).mono ?_); rintro e w' ⟨rfl, ⟨nd, rfl⟩⟩; refine ⟨_, rfl, ?_⟩) | ((with_reducible refine gC 89 ?_); refine goesL_ (some 23) rfl rfl Tryz.func89 (by kernel_rfl) rfl #[.int .i64 a0, .int .i64 400] rfl ml_ ?_; (with_reducible refine (ints_Floor.calls a0 400 t105 _ A9.out).mono ?_); rintro e w' ⟨rfl, ⟨nd, rfl⟩⟩; refine ⟨_, rfl, ?_⟩) | ((with_reducible refine gC 90 ?_); refine goesL_ (some 25) rfl rfl Tryz.func90 (by kernel_rfl) rfl #[.int .i64 a0, .int .i64 400] rfl ml_ ?_; (with_reducible refine (ints_Mod.calls a0 400 t106 _ A10.out).mono ?_); rintro e w' ⟨rfl, ⟨nd, rfl⟩⟩; refine ⟨_, rfl, ?_⟩)); go_ret2; exact ⟨by first | rfl | (simp; done) | (simp [*]; done), by repeat (first | exact Drawn0.refl _ | apply Drawn0.step)⟩
 ·replace c5 := Bool.eq_false_iff.mpr c5
  subst c5; (have H1 : (some (0, false)) = some (r1, r2) := by rw [if_neg (show ¬ (false = true) by decide)] at H; exact H); clear H; have H := H1; clear H1; simp only [Option.some.injEq, Prod.mk.injEq] at H; obtain ⟨rfl, rfl⟩ := H; go_enter Tryz.func151, Tryz.ntmps151; go_wp2_with (first | ((with_reducible refine gC 187 ?_); refine goesL_ (some 14) rfl rfl Tryz.func187 (by kernel_rfl) rfl #[.int .i64 a0, .int .i64 a1, .int .i64 a2] rfl ml_ ?_; (with_reducible refine (civil_Valid.calls a0 a1 a2 false _ tl_ A4.out).mono ?_); rintro e w' ⟨rfl, ⟨nd, rfl⟩⟩; refine ⟨_, rfl, ?_⟩)); go_ret2; exact ⟨by first | rfl | (simp; done) | (simp [*]; done), by repeat (first | exact Drawn0.refl _ | apply Drawn0.step)⟩
end Go.Proofs.YthppfagfmjchoaaGreatDoor.A
namespace Go.Proofs.YthppfagfmjchoaaGreatDoor.A
open Go.RowKit Go.Proofs.YthppfagfmjchoaaGreatDoorW.PrintWords Go.Proofs.YthppfagfmjchoaaGreatDoorW.PrintLast Go.Proofs.YthppfagfmjchoaaGreatDoorW.PrintMore
attribute [local go_sem] max2_int min2_int max_two min_two max_three min_three max_four min_four
attribute [local go_sem] isSome_setCell
set_option maxHeartbeats 8000000 in
set_option maxRecDepth 100000 in
theorem unit_span_begins.calls (a0_0 a0_1 a0_2 a1 r : Int) (w : World) (htab : TL w.heap.size w) (h : unit_span_begins.f a0_0 a0_1 a0_2 a1 = some r) :
  Calls Tryz.prog 181 #[.agg #[.int .i64 a0_0, .int .i64 a0_1, .int .i64 a0_2], .int .i64 a1] w fun e w' => e = .returned (.int .i64 r) ∧ Below w.heap.size w w' := by
 have HTAB := A_ htab; clear htab; have hu160 := Tryz.underlying160; have HB := A_ (Below.refl w.heap.size w); have H : ((civil_Number.f (wrap64 (Int.tdiv (wrap64 (a0_1 + (wrap64 (a0_0 * a1)))) 12)) (wrap64 ((Int.tmod (wrap64 (a0_1 + (wrap64 (a0_0 * a1)))) 12) + 1)) 1).bind fun bt102 => (some bt102.1)) = some r := h; clear h; obtain ⟨⟨t102, t103⟩, A3, H⟩ := bi_ H; obtain rfl := Option.some.inj H; go_enter Tryz.func181, Tryz.ntmps181; go_wp2_with (first | ((with_reducible refine gD 2 ?_); refine gx_ w 2 #[.int .i64 a0_0, .int .i64 a0_1, .int .i64 a0_2] 160 ?_; clear HB; intro gb101 w4 BK101 GE101 HB; have GW101 := GE101; have Z5 := bz3_ BK101) | ((with_reducible refine gC 151 ?_); refine goesL_ (some 21) rfl rfl Tryz.func151 (by kernel_rfl) rfl #[.int .i64 (wrap64 (Int.tdiv (wrap64 (a0_1 + (wrap64 (a0_0 * a1)))) 12)), .int .i64 (wrap64 ((Int.tmod (wrap64 (a0_1 + (wrap64 (a0_0 * a1)))) 12) + 1)), .int .i64 1] rfl ml_ ?_; (with_reducible refine (civil_Number.calls (wrap64 (Int.tdiv (wrap64 (a0_1 + (wrap64 (a0_0 * a1)))) 12)) (wrap64 ((Int.tmod (wrap64 (a0_1 + (wrap64 (a0_0 * a1)))) 12) + 1)) 1 t102 t103 _ tl_ A3.out).mono ?_); rintro e w' ⟨rfl, ⟨nd, rfl⟩⟩; refine ⟨_, rfl, ?_⟩)); go_ret; exact ⟨re_, hs_⟩
end Go.Proofs.YthppfagfmjchoaaGreatDoor.A
namespace Go.Proofs.YthppfagfmjchoaaGreatDoor.A
open Go.RowKit Go.Proofs.YthppfagfmjchoaaGreatDoorW.PrintWords Go.Proofs.YthppfagfmjchoaaGreatDoorW.PrintLast Go.Proofs.YthppfagfmjchoaaGreatDoorW.PrintMore
attribute [local go_sem] isSome_setCell
attribute [local go_sem] run_store_func_
theorem far_ {W : World} {g : Nat} {o : Obj} (p : Addr) (u : Value) (h : W.heap[g]? = some o) (n : g ≠ p.block) : (W.setCell p u).heap[g]? = some o := (Below.heap_setCell _ p u _ n).trans h
def WayIs (W : World) (m f c : Int) (v1 v2 : Value) : Prop := ∃ b s d, v1 = .func (.func 183) #[] #[.pointer (some ⟨b, 0, none⟩), .pointer (some ⟨s, 0, none⟩)] ∧ v2 = .func (.func 184) #[] #[.pointer (some ⟨d, 0, none⟩), .pointer (some ⟨s, 0, none⟩)]
  ∧ W.heap[b]? = some (.cells #[.func (.func 181) #[] #[]] 186 (0, 0)) ∧ W.heap[s]? = some (.cells #[.int .i64 m, .int .i64 f, .int .i64 c] 160 (0, 0)) ∧ W.heap[d]? = some (.cells #[.func (.func 182) #[] #[]] 186 (0, 0))
theorem WayIs.below {W W1 : World} {m f c : Int} {v1 v2 : Value} (h : WayIs W m f c v1 v2) (hb : Below W.heap.size W W1) : WayIs W1 m f c v1 v2 := by
  obtain ⟨b, s, d, e1, e2, h1, h2, h3⟩ := h
  exact ⟨b, s, d, e1, e2, blk_below h1 hb, blk_below h2 hb, blk_below h3 hb⟩
set_option maxHeartbeats 8000000 in
set_option maxRecDepth 100000 in
theorem unit_of.calls (m f c : Int) (w : World) : Calls Tryz.prog 147 #[.agg #[.int .i64 m, .int .i64 f, .int .i64 c]] w fun e w' => ∃ v1 v2, e = .returned (.agg #[.int .i64 c, v1, v2]) ∧ WayIs w' m f c v1 v2 ∧ Below w.heap.size w w' := by
  have HB := A_ (Below.refl w.heap.size w)
  have hu1 := Tryz.underlying160
  have hu2 := Tryz.underlying105
  go_enter Tryz.func147, Tryz.ntmps147
  go_wp2_with (first | ((with_reducible refine gD 1 ?_); refine bxe_ 1 #[.int .i64 m, .int .i64 f, .int .i64 c] 160 ?_; intro gs hgs w1 hbox hb; have BS := A_ hbox; have GS := gs_ w hgs; replace HB := bs_ hb; clear hb hbox hgs) | ((with_reducible refine gD 2 ?_); refine bxe_ 2 #[.int .i64 0, .nilFunc, .nilFunc] 105 ?_; intro gr hgr w2 hbox hb; have BR := A_ hbox; have GR := gs_ w hgr; have nsr : gs ≠ gr := (by rw [hgr]; exact Nat.ne_of_lt (blk_lt BS.out)); have nrs := Ne.symm nsr; replace BS := A_ (blk_below BS.out hb); replace HB := bs_ hb; clear hb hbox hgr) | ((with_reducible refine gD 3 ?_); refine bxe_ 3 #[.nilFunc] 186 ?_; intro g3 hg3 w3 hbox hb; have B3 := A_ hbox; have G3 := gs_ w hg3; have ns3 : gs ≠ g3 := (by rw [hg3]; exact Nat.ne_of_lt (blk_lt BS.out)); have n3s := Ne.symm ns3; have nr3 : gr ≠ g3 := (by rw [hg3]; exact Nat.ne_of_lt (blk_lt BR.out)); have n3r := Ne.symm nr3; replace BS := A_ (blk_below BS.out hb); replace BR := A_ (blk_below BR.out hb); replace HB := bs_ hb; clear hb hbox hg3) | ((with_reducible refine gD 4 ?_); refine bxe_ 4 #[.nilFunc] 186 ?_; intro g4 hg4 w4 hbox hb; have B4 := A_ hbox; have G4 := gs_ w hg4; have ns4 : gs ≠ g4 := (by rw [hg4]; exact Nat.ne_of_lt (blk_lt BS.out)); have n4s := Ne.symm ns4; have nr4 : gr ≠ g4 := (by rw [hg4]; exact Nat.ne_of_lt (blk_lt BR.out)); have n4r := Ne.symm nr4; have n34 : g3 ≠ g4 := (by rw [hg4]; exact Nat.ne_of_lt (blk_lt B3.out)); have n43 := Ne.symm n34; replace BS := A_ (blk_below BS.out hb); replace BR := A_ (blk_below BR.out hb); replace B3 := A_ (blk_below B3.out hb); replace HB := bs_ hb; have ZS := bz3_ BS; have ZR := bz3_ BR; have z3 := bq_ B3 0; have z4 := bq_ B4 0; have f3 := blk_frozen B3.out 0; have f4 := blk_frozen B4.out 0; clear hb hbox hg4))
  refine bodyPost_ret (results_cell_row rfl _ _ gr 105 #[.int .i64 c, .func (.func 183) #[] #[.pointer (some ⟨g3, 0, none⟩), .pointer (some ⟨gs, 0, none⟩)], .func (.func 184) #[] #[.pointer (some ⟨g4, 0, none⟩), .pointer (some ⟨gs, 0, none⟩)]] (0, 0) _ rfl
    (blk_put (blk_put (blk_put (far_ _ _ (far_ _ _ BR.out nr3) nr4) 0 _ rfl) 1 _ rfl) 2 _ rfl) Tryz.underlying105 rfl (by kernel_rfl)) rfl ?_
  exact ⟨_, _, rfl, ⟨g3, gs, g4, rfl, rfl, far_ _ _ (far_ _ _ (far_ _ _ (far_ _ _ (blk_put B3.out 0 _ rfl) n34) n3r) n3r) n3r,
    far_ _ _ (far_ _ _ (far_ _ _ (far_ _ _ (far_ _ _ BS.out ns3) ns4) nsr) nsr) nsr, far_ _ _ (far_ _ _ (far_ _ _ (blk_put (far_ _ _ B4.out n43) 0 _ rfl) n4r) n4r) n4r⟩, hs_⟩
end Go.Proofs.YthppfagfmjchoaaGreatDoor.A
namespace Go.Proofs.YthppfagfmjchoaaGreatDoor.A
open Go.RowKit Go.Proofs.YthppfagfmjchoaaGreatDoorW.PrintWords Go.Proofs.YthppfagfmjchoaaGreatDoorW.PrintLast Go.Proofs.YthppfagfmjchoaaGreatDoorW.PrintMore
attribute [local go_sem] max2_int min2_int max_two min_two max_three min_three max_four min_four
def civil_Date.j0 : Nat → Int → Bool → Option (Int × Int × Int)
  | 0, _, _ => none
  | k + 1, x0, x17 => if x17 = true then (some (0, 0, 0)) else ((ints_Floor.f (wrap64 (x0 - 60)) 146097).bind fun t104 => ((ints_Mod.f (wrap64 (x0 - 60)) 146097).bind fun t105 => (if (wrap64 (t105 - (wrap64 ((wrap64 ((wrap64 ((wrap64 (Int.tdiv (wrap64 ((wrap64 ((wrap64 (t105 - (wrap64 (Int.tdiv t105 1460)))) + (wrap64 (Int.tdiv t105 36524)))) - (wrap64 (Int.tdiv t105 146096)))) 365)) * 365)) + (wrap64 (Int.tdiv (wrap64 (Int.tdiv (wrap64 ((wrap64 ((wrap64 (t105 - (wrap64 (Int.tdiv t105 1460)))) + (wrap64 (Int.tdiv t105 36524)))) - (wrap64 (Int.tdiv t105 146096)))) 365)) 4)))) - (wrap64 (Int.tdiv (wrap64 (Int.tdiv (wrap64 ((wrap64 ((wrap64 (t105 - (wrap64 (Int.tdiv t105 1460)))) + (wrap64 (Int.tdiv t105 36524)))) - (wrap64 (Int.tdiv t105 146096)))) 365)) 100)))))) ≥ 306 then (some (wrap64 ((wrap64 ((wrap64 (t104 * 400)) + (wrap64 (Int.tdiv (wrap64 ((wrap64 ((wrap64 (t105 - (wrap64 (Int.tdiv t105 1460)))) + (wrap64 (Int.tdiv t105 36524)))) - (wrap64 (Int.tdiv t105 146096)))) 365)))) + 1), wrap64 ((wrap64 (Int.tdiv (wrap64 ((wrap64 (5 * (wrap64 (t105 - (wrap64 ((wrap64 ((wrap64 ((wrap64 (Int.tdiv (wrap64 ((wrap64 ((wrap64 (t105 - (wrap64 (Int.tdiv t105 1460)))) + (wrap64 (Int.tdiv t105 36524)))) - (wrap64 (Int.tdiv t105 146096)))) 365)) * 365)) + (wrap64 (Int.tdiv (wrap64 (Int.tdiv (wrap64 ((wrap64 ((wrap64 (t105 - (wrap64 (Int.tdiv t105 1460)))) + (wrap64 (Int.tdiv t105 36524)))) - (wrap64 (Int.tdiv t105 146096)))) 365)) 4)))) - (wrap64 (Int.tdiv (wrap64 (Int.tdiv (wrap64 ((wrap64 ((wrap64 (t105 - (wrap64 (Int.tdiv t105 1460)))) + (wrap64 (Int.tdiv t105 36524)))) - (wrap64 (Int.tdiv t105 146096)))) 365)) 100)))))))) + 2)) 153)) - 9), wrap64 ((wrap64 ((wrap64 (t105 - (wrap64 ((wrap64 ((wrap64 ((wrap64 (Int.tdiv (wrap64 ((wrap64 ((wrap64 (t105 - (wrap64 (Int.tdiv t105 1460)))) + (wrap64 (Int.tdiv t105 36524)))) - (wrap64 (Int.tdiv t105 146096)))) 365)) * 365)) + (wrap64 (Int.tdiv (wrap64 (Int.tdiv (wrap64 ((wrap64 ((wrap64 (t105 - (wrap64 (Int.tdiv t105 1460)))) + (wrap64 (Int.tdiv t105 36524)))) - (wrap64 (Int.tdiv t105 146096)))) 365)) 4)))) - (wrap64 (Int.tdiv (wrap64 (Int.tdiv (wrap64 ((wrap64 ((wrap64 (t105 - (wrap64 (Int.tdiv t105 1460)))) + (wrap64 (Int.tdiv t105 36524)))) - (wrap64 (Int.tdiv t105 146096)))) 365)) 100)))))) - (wrap64 (Int.tdiv (wrap64 ((wrap64 (153 * (wrap64 (Int.tdiv (wrap64 ((wrap64 (5 * (wrap64 (t105 - (wrap64 ((wrap64 ((wrap64 ((wrap64 (Int.tdiv (wrap64 ((wrap64 ((wrap64 (t105 - (wrap64 (Int.tdiv t105 1460)))) + (wrap64 (Int.tdiv t105 36524)))) - (wrap64 (Int.tdiv t105 146096)))) 365)) * 365)) + (wrap64 (Int.tdiv (wrap64 (Int.tdiv (wrap64 ((wrap64 ((wrap64 (t105 - (wrap64 (Int.tdiv t105 1460)))) + (wrap64 (Int.tdiv t105 36524)))) - (wrap64 (Int.tdiv t105 146096)))) 365)) 4)))) - (wrap64 (Int.tdiv (wrap64 (Int.tdiv (wrap64 ((wrap64 ((wrap64 (t105 - (wrap64 (Int.tdiv t105 1460)))) + (wrap64 (Int.tdiv t105 36524)))) - (wrap64 (Int.tdiv t105 146096)))) 365)) 100)))))))) + 2)) 153)))) + 2)) 5)))) + 1))) else (some (wrap64 ((wrap64 (t104 * 400)) + (wrap64 (Int.tdiv (wrap64 ((wrap64 ((wrap64 (t105 - (wrap64 (Int.tdiv t105 1460)))) + (wrap64 (Int.tdiv t105 36524)))) - (wrap64 (Int.tdiv t105 146096)))) 365))), wrap64 ((wrap64 (Int.tdiv (wrap64 ((wrap64 (5 * (wrap64 (t105 - (wrap64 ((wrap64 ((wrap64 ((wrap64 (Int.tdiv (wrap64 ((wrap64 ((wrap64 (t105 - (wrap64 (Int.tdiv t105 1460)))) + (wrap64 (Int.tdiv t105 36524)))) - (wrap64 (Int.tdiv t105 146096)))) 365)) * 365)) + (wrap64 (Int.tdiv (wrap64 (Int.tdiv (wrap64 ((wrap64 ((wrap64 (t105 - (wrap64 (Int.tdiv t105 1460)))) + (wrap64 (Int.tdiv t105 36524)))) - (wrap64 (Int.tdiv t105 146096)))) 365)) 4)))) - (wrap64 (Int.tdiv (wrap64 (Int.tdiv (wrap64 ((wrap64 ((wrap64 (t105 - (wrap64 (Int.tdiv t105 1460)))) + (wrap64 (Int.tdiv t105 36524)))) - (wrap64 (Int.tdiv t105 146096)))) 365)) 100)))))))) + 2)) 153)) + 3), wrap64 ((wrap64 ((wrap64 (t105 - (wrap64 ((wrap64 ((wrap64 ((wrap64 (Int.tdiv (wrap64 ((wrap64 ((wrap64 (t105 - (wrap64 (Int.tdiv t105 1460)))) + (wrap64 (Int.tdiv t105 36524)))) - (wrap64 (Int.tdiv t105 146096)))) 365)) * 365)) + (wrap64 (Int.tdiv (wrap64 (Int.tdiv (wrap64 ((wrap64 ((wrap64 (t105 - (wrap64 (Int.tdiv t105 1460)))) + (wrap64 (Int.tdiv t105 36524)))) - (wrap64 (Int.tdiv t105 146096)))) 365)) 4)))) - (wrap64 (Int.tdiv (wrap64 (Int.tdiv (wrap64 ((wrap64 ((wrap64 (t105 - (wrap64 (Int.tdiv t105 1460)))) + (wrap64 (Int.tdiv t105 36524)))) - (wrap64 (Int.tdiv t105 146096)))) 365)) 100)))))) - (wrap64 (Int.tdiv (wrap64 ((wrap64 (153 * (wrap64 (Int.tdiv (wrap64 ((wrap64 (5 * (wrap64 (t105 - (wrap64 ((wrap64 ((wrap64 ((wrap64 (Int.tdiv (wrap64 ((wrap64 ((wrap64 (t105 - (wrap64 (Int.tdiv t105 1460)))) + (wrap64 (Int.tdiv t105 36524)))) - (wrap64 (Int.tdiv t105 146096)))) 365)) * 365)) + (wrap64 (Int.tdiv (wrap64 (Int.tdiv (wrap64 ((wrap64 ((wrap64 (t105 - (wrap64 (Int.tdiv t105 1460)))) + (wrap64 (Int.tdiv t105 36524)))) - (wrap64 (Int.tdiv t105 146096)))) 365)) 4)))) - (wrap64 (Int.tdiv (wrap64 (Int.tdiv (wrap64 ((wrap64 ((wrap64 (t105 - (wrap64 (Int.tdiv t105 1460)))) + (wrap64 (Int.tdiv t105 36524)))) - (wrap64 (Int.tdiv t105 146096)))) 365)) 100)))))))) + 2)) 153)))) + 2)) 5)))) + 1))))))
def civil_Date.f (k : Nat) (a0 : Int) : Option (Int × Int × Int) := if a0 < 0 then (civil_Date.j0 k a0 true) else (civil_Date.j0 k a0 (decide (a0 > 3652424)))
def unit_monthly.f (k : Nat) (a0 : Int) : Option (Int) := (civil_Date.f k a0).bind fun bt106 => (some (wrap64 ((wrap64 ((wrap64 (12 * bt106.1)) + bt106.2.1)) - 1)))
def unit_span_number.f (k : Nat) (a0_0 : Int) (a0_1 : Int) (a0_2 : Int) (a1 : Int) : Option (Int) := (unit_monthly.f k a1).bind fun t110 => (if (wrap64 (t110 - a0_1)) < 0 then (some (-1)) else (if a0_0 = 0 then (none) else (some (wrap64 (Int.tdiv (wrap64 (t110 - a0_1)) a0_0)))))
set_option maxHeartbeats 8000000 in
set_option maxRecDepth 100000 in
theorem civil_Date.calls (k : Nat) (a0 r1 r2 r3 : Int) (w : World) (h : civil_Date.f k a0 = some (r1, r2, r3)) :
  Calls Tryz.prog 46 #[.int .i64 a0] w fun e w' => e = .returned (.tuple #[.int .i64 r1, .int .i64 r2, .int .i64 r3]) ∧ Drawn0 w w' := by
 have H : (if a0 < 0 then (civil_Date.j0 k a0 true) else (civil_Date.j0 k a0 (decide (a0 > 3652424)))) = some (r1, r2, r3) := h; clear h; have HC2 := A_ H; clear H; go_enter Tryz.func46, Tryz.ntmps46; go_upto_region 1 with (fail); go_cut [17] (fun v17 wc => ∃ (kq : Nat) (x17_1 : Bool), v17 = .bool x17_1 ∧ Aside0 (civil_Date.j0 kq a0 x17_1 = some (r1, r2, r3)) ∧ Aside0 (kq ≤ k) ∧ Drawn0 w wc)
 case first =>
  have H := HC2.out; clear HC2
  obtain ⟨c3b0, H⟩ | ⟨c3b0, H⟩ := ic_ H
  ·(first | rw [c3b0] | (simp only [i64_w, i32_w]; rw [c3b0]) | skip); have H' := A_ H; clear H; go_wp2; go_meet
   case rel => exact ⟨_, (true), rf_, H', ⟨by first | omega | exact Nat.le_refl _⟩, by repeat (first | exact Drawn0.refl _ | apply Drawn0.step)⟩
  ·(first | rw [c3b0] | (simp only [i64_w, i32_w]; rw [c3b0]) | skip); have H' := A_ H; clear H; go_wp2; go_meet
   case rel => exact ⟨_, (decide (a0 > 3652424)), rf_, H', ⟨by first | omega | exact Nat.le_refl _⟩, by repeat (first | exact Drawn0.refl _ | apply Drawn0.step)⟩
 case rest =>
  clear HC2; obtain ⟨kq, x17_1, rfl, HA, HJ1, ⟨mc1, rfl⟩⟩ := hcut
  cases kq with
  | zero => exact absurd HA.out (by simp [civil_Date.j0])
  | succ kj1 =>
   have H := HA.out; clear HA; simp only [civil_Date.j0] at H
   by_cases c4 : x17_1 = true
   ·subst c4
    (have H1 : (some (0, 0, 0)) = some (r1, r2, r3) := by rw [if_pos rfl] at H; exact H); clear H; have H := H1; clear H1; simp only [Option.some.injEq, Prod.mk.injEq] at H; obtain ⟨rfl, rfl, rfl⟩ := H; go_wp2; go_ret3; exact ⟨by first | rfl | (simp; done) | (simp [*]; done), by repeat (first | exact Drawn0.refl _ | apply Drawn0.step)⟩
   ·replace c4 := Bool.eq_false_iff.mpr c4
    subst c4; (have H1 : ((ints_Floor.f (wrap64 (a0 - 60)) 146097).bind fun t104 => ((ints_Mod.f (wrap64 (a0 - 60)) 146097).bind fun t105 => (if (wrap64 (t105 - (wrap64 ((wrap64 ((wrap64 ((wrap64 (Int.tdiv (wrap64 ((wrap64 ((wrap64 (t105 - (wrap64 (Int.tdiv t105 1460)))) + (wrap64 (Int.tdiv t105 36524)))) - (wrap64 (Int.tdiv t105 146096)))) 365)) * 365)) + (wrap64 (Int.tdiv (wrap64 (Int.tdiv (wrap64 ((wrap64 ((wrap64 (t105 - (wrap64 (Int.tdiv t105 1460)))) + (wrap64 (Int.tdiv t105 36524)))) - (wrap64 (Int.tdiv t105 146096)))) 365)) 4)))) - (wrap64 (Int.tdiv (wrap64 (Int.tdiv (wrap64 ((wrap64 ((wrap64 (t105 - (wrap64 (Int.tdiv t105 1460)))) + (wrap64 (Int.tdiv t105 36524)))) - (wrap64 (Int.tdiv t105 146096)))) 365)) 100)))))) ≥ 306 then (some (wrap64 ((wrap64 ((wrap64 (t104 * 400)) + (wrap64 (Int.tdiv (wrap64 ((wrap64 ((wrap64 (t105 - (wrap64 (Int.tdiv t105 1460)))) + (wrap64 (Int.tdiv t105 36524)))) - (wrap64 (Int.tdiv t105 146096)))) 365)))) + 1), wrap64 ((wrap64 (Int.tdiv (wrap64 ((wrap64 (5 * (wrap64 (t105 - (wrap64 ((wrap64 ((wrap64 ((wrap64 (Int.tdiv (wrap64 ((wrap64 ((wrap64 (t105 - (wrap64 (Int.tdiv t105 1460)))) + (wrap64 (Int.tdiv t105 36524)))) - (wrap64 (Int.tdiv t105 146096)))) 365)) * 365)) + (wrap64 (Int.tdiv (wrap64 (Int.tdiv (wrap64 ((wrap64 ((wrap64 (t105 - (wrap64 (Int.tdiv t105 1460)))) + (wrap64 (Int.tdiv t105 36524)))) - (wrap64 (Int.tdiv t105 146096)))) 365)) 4)))) - (wrap64 (Int.tdiv (wrap64 (Int.tdiv (wrap64 ((wrap64 ((wrap64 (t105 - (wrap64 (Int.tdiv t105 1460)))) + (wrap64 (Int.tdiv t105 36524)))) - (wrap64 (Int.tdiv t105 146096)))) 365)) 100)))))))) + 2)) 153)) - 9), wrap64 ((wrap64 ((wrap64 (t105 - (wrap64 ((wrap64 ((wrap64 ((wrap64 (Int.tdiv (wrap64 ((wrap64 ((wrap64 (t105 - (wrap64 (Int.tdiv t105 1460)))) + (wrap64 (Int.tdiv t105 36524)))) - (wrap64 (Int.tdiv t105 146096)))) 365)) * 365)) + (wrap64 (Int.tdiv (wrap64 (Int.tdiv (wrap64 ((wrap64 ((wrap64 (t105 - (wrap64 (Int.tdiv t105 1460)))) + (wrap64 (Int.tdiv t105 36524)))) - (wrap64 (Int.tdiv t105 146096)))) 365)) 4)))) - (wrap64 (Int.tdiv (wrap64 (Int.tdiv (wrap64 ((wrap64 ((wrap64 (t105 - (wrap64 (Int.tdiv t105 1460)))) + (wrap64 (Int.tdiv t105 36524)))) - (wrap64 (Int.tdiv t105 146096)))) 365)) 100)))))) - (wrap64 (Int.tdiv (wrap64 ((wrap64 (153 * (wrap64 (Int.tdiv (wrap64 ((wrap64 (5 * (wrap64 (t105 - (wrap64 ((wrap64 ((wrap64 ((wrap64 (Int.tdiv (wrap64 ((wrap64 ((wrap64 (t105 - (wrap64 (Int.tdiv t105 1460)))) + (wrap64 (Int.tdiv t105 36524)))) - (wrap64 (Int.tdiv t105 146096)))) 365)) * 365)) + (wrap64 (Int.tdiv (wrap64 (Int.tdiv (wrap64 ((wrap64 ((wrap64 (t105 - (wrap64 (Int.tdiv t105 1460)))) + (wrap64 (Int.tdiv t105 36524)))) - (wrap64 (Int.tdiv t105 146096)))) 365)) 4)))) - (wrap64 (Int.tdiv (wrap64 (Int.tdiv (wrap64 ((wrap64 ((wrap64 (t105 - (wrap64 (Int.tdiv t105 1460)))) + (wrap64 (Int.tdiv t105 36524)))) - (wrap64 (Int.tdiv t105 146096)))) 365)) 100)))))))) + 2)) 153)))) + 2)) 5)))) + 1))) else (some (wrap64 ((wrap64 (t104 * 400)) + (wrap64 (Int.tdiv (wrap64 ((wrap64 ((wrap64 (t105 - (wrap64 (Int.tdiv t105 1460)))) + (wrap64 (Int.tdiv t105 36524)))) - (wrap64 (Int.tdiv t105 146096)))) 365))), wrap64 ((wrap64 (Int.tdiv (wrap64 ((wrap64 (5 * (wrap64 (t105 - (wrap64 ((wrap64 ((wrap64 ((wrap64 (Int.tdiv (wrap64 ((wrap64 ((wrap64 (t105 - (wrap64 (Int.tdiv t105 1460)))) + (wrap64 (Int.tdiv t105 36524)))) - (wrap64 (Int.tdiv t105 146096)))) 365)) * 365)) + (wrap64 (Int.tdiv (wrap64 (Int.tdiv (wrap64 ((wrap64 ((wrap64 (t105 - (wrap64 (Int.tdiv t105 1460)))) + (wrap64 (Int.tdiv t105 36524)))) - (wrap64 (Int.tdiv t105 146096)))) 365)) 4)))) - (wrap64 (Int.tdiv (wrap64 (Int.tdiv (wrap64 ((wrap64 ((wrap64 (t105 - (wrap64 (Int.tdiv t105 1460)))) + (wrap64 (Int.tdiv t105 36524)))) - (wrap64 (Int.tdiv t105 146096)))) 365)) 100)))))))) + 2)) 153)) + 3), wrap64 ((wrap64 ((wrap64 (t105 - (wrap64 ((wrap64 ((wrap64 ((wrap64 (Int.tdiv (wrap64 ((wrap64 ((wrap64 (t105 - (wrap64 (Int.tdiv t105 1460)))) + (wrap64 (Int.tdiv t105 36524)))) - (wrap64 (Int.tdiv t105 146096)))) 365)) * 365)) + (wrap64 (Int.tdiv (wrap64 (Int.tdiv (wrap64 ((wrap64 ((wrap64 (t105 - (wrap64 (Int.tdiv t105 1460)))) + (wrap64 (Int.tdiv t105 36524)))) - (wrap64 (Int.tdiv t105 146096)))) 365)) 4)))) - (wrap64 (Int.tdiv (wrap64 (Int.tdiv (wrap64 ((wrap64 ((wrap64 (t105 - (wrap64 (Int.tdiv t105 1460)))) + (wrap64 (Int.tdiv t105 36524)))) - (wrap64 (Int.tdiv t105 146096)))) 365)) 100)))))) - (wrap64 (Int.tdiv (wrap64 ((wrap64 (153 * (wrap64 (Int.tdiv (wrap64 ((wrap64 (5 * (wrap64 (t105 - (wrap64 ((wrap64 ((wrap64 ((wrap64 (Int.tdiv (wrap64 ((wrap64 ((wrap64 (t105 - (wrap64 (Int.tdiv t105 1460)))) + (wrap64 (Int.tdiv t105 36524)))) - (wrap64 (Int.tdiv t105 146096)))) 365)) * 365)) + (wrap64 (Int.tdiv (wrap64 (Int.tdiv (wrap64 ((wrap64 ((wrap64 (t105 - (wrap64 (Int.tdiv t105 1460)))) + (wrap64 (Int.tdiv t105 36524)))) - (wrap64 (Int.tdiv t105 146096)))) 365)) 4)))) - (wrap64 (Int.tdiv (wrap64 (Int.tdiv (wrap64 ((wrap64 ((wrap64 (t105 - (wrap64 (Int.tdiv t105 1460)))) + (wrap64 (Int.tdiv t105 36524)))) - (wrap64 (Int.tdiv t105 146096)))) 365)) 100)))))))) + 2)) 153)))) + 2)) 5)))) + 1)))))) = some (r1, r2, r3) := by rw [if_neg (show ¬ (false = true) by decide)] at H; exact H)
    clear H; have H := H1; clear H1; obtain ⟨t104, A5, H⟩ := bi_ H; obtain ⟨t105, A6, H⟩ := bi_ H
    obtain ⟨c7, H⟩ | ⟨c7, H⟩ := iq_ H
    ·have c7b0 : decide (306 ≤ (wrap64 (t105 - (wrap64 ((wrap64 ((wrap64 ((wrap64 (Int.tdiv (wrap64 ((wrap64 ((wrap64 (t105 - (wrap64 (Int.tdiv t105 1460)))) + (wrap64 (Int.tdiv t105 36524)))) - (wrap64 (Int.tdiv t105 146096)))) 365)) * 365)) + (wrap64 (Int.tdiv (wrap64 (Int.tdiv (wrap64 ((wrap64 ((wrap64 (t105 - (wrap64 (Int.tdiv t105 1460)))) + (wrap64 (Int.tdiv t105 36524)))) - (wrap64 (Int.tdiv t105 146096)))) 365)) 4)))) - (wrap64 (Int.tdiv (wrap64 (Int.tdiv (wrap64 ((wrap64 ((wrap64 (t105 - (wrap64 (Int.tdiv t105 1460)))) + (wrap64 (Int.tdiv t105 36524)))) - (wrap64 (Int.tdiv t105 146096)))) 365)) 100))))))) = true := decide_eq_true c7; clear c7; simp only [Option.some.injEq, Prod.mk.injEq] at H; obtain ⟨rfl, rfl, rfl⟩ := H; go_wp2_with (first | ((with_reducible refine gC 89 ?_); refine goesL_ (some 20) rfl rfl Tryz.func89 (by kernel_rfl) rfl #[.int .i64 (wrap64 (a0 - 60)), .int .i64 146097] rfl ml_ ?_; (with_reducible refine (ints_Floor.calls (wrap64 (a0 - 60)) 146097 t104 _ A5.out).mono ?_); rintro e w' ⟨rfl, ⟨nd, rfl⟩⟩; refine ⟨_, rfl, ?_⟩) | ((with_reducible refine gC 90 ?_); refine goesL_ (some 23) rfl rfl Tryz.func90 (by kernel_rfl) rfl #[.int .i64 (wrap64 (a0 - 60)), .int .i64 146097] rfl ml_ ?_; (with_reducible refine (ints_Mod.calls (wrap64 (a0 - 60)) 146097 t105 _ A6.out).mono ?_); rintro e w' ⟨rfl, ⟨nd, rfl⟩⟩; refine ⟨_, rfl, ?_⟩)); go_ret3; exact ⟨by first | rfl | (simp; done) | (simp [*]; done), by repeat (first | exact Drawn0.refl _ | apply Drawn0.step)⟩
    ·have c7b0 : decide (306 ≤ (wrap64 (t105 - (wrap64 ((wrap64 ((wrap64 ((wrap64 (Int.tdiv (wrap64 ((wrap64 ((wrap64 (t105 - (wrap64 (Int.tdiv t105 1460)))) + (wrap64 (Int.tdiv t105 36524)))) - (wrap64 (Int.tdiv t105 146096)))) 365)) * 365)) + (wrap64 (Int.tdiv (wrap64 (Int.tdiv (wrap64 ((wrap64 ((wrap64 (t105 - (wrap64 (Int.tdiv t105 1460)))) + (wrap64 (Int.tdiv t105 36524)))) - (wrap64 (Int.tdiv t105 146096)))) 365)) 4)))) - (wrap64 (Int.tdiv (wrap64 (Int.tdiv (wrap64 ((wrap64 ((wrap64 (t105 - (wrap64 (Int.tdiv t105 1460)))) + (wrap64 (Int.tdiv t105 36524)))) - (wrap64 (Int.tdiv t105 146096)))) 365)) 100))))))) = false := decide_eq_false c7; clear c7; simp only [Option.some.injEq, Prod.mk.injEq] at H; obtain ⟨rfl, rfl, rfl⟩ := H; go_wp2_with (first | ((with_reducible refine gC 89 ?_); refine goesL_ (some 20) rfl rfl Tryz.func89 (by kernel_rfl) rfl #[.int .i64 (wrap64 (a0 - 60)), .int .i64 146097] rfl ml_ ?_; (with_reducible refine (ints_Floor.calls (wrap64 (a0 - 60)) 146097 t104 _ A5.out).mono ?_); rintro e w' ⟨rfl, ⟨nd, rfl⟩⟩; refine ⟨_, rfl, ?_⟩) | ((with_reducible refine gC 90 ?_); refine goesL_ (some 23) rfl rfl Tryz.func90 (by kernel_rfl) rfl #[.int .i64 (wrap64 (a0 - 60)), .int .i64 146097] rfl ml_ ?_; (with_reducible refine (ints_Mod.calls (wrap64 (a0 - 60)) 146097 t105 _ A6.out).mono ?_); rintro e w' ⟨rfl, ⟨nd, rfl⟩⟩; refine ⟨_, rfl, ?_⟩)); go_ret3; exact ⟨by first | rfl | (simp; done) | (simp [*]; done), by repeat (first | exact Drawn0.refl _ | apply Drawn0.step)⟩
set_option maxHeartbeats 8000000 in
set_option maxRecDepth 100000 in
theorem unit_monthly.calls (k : Nat) (a0 r : Int) (w : World) (h : unit_monthly.f k a0 = some r) :
  Calls Tryz.prog 207 #[.int .i64 a0] w fun e w' => e = .returned (.int .i64 r) ∧ Drawn0 w w' := by
 have H : ((civil_Date.f k a0).bind fun bt106 => (some (wrap64 ((wrap64 ((wrap64 (12 * bt106.1)) + bt106.2.1)) - 1)))) = some r := h; clear h; obtain ⟨⟨t106, t107, t108⟩, A2, H⟩ := bi_ H; obtain rfl := Option.some.inj H; go_enter Tryz.func207, Tryz.ntmps207; go_wp2_with (first | ((with_reducible refine gC 46 ?_); refine goesL_ (some 8) rfl rfl Tryz.func46 (by kernel_rfl) rfl #[.int .i64 a0] rfl ml_ ?_; (with_reducible refine (civil_Date.calls k a0 t106 t107 t108 _ A2.out).mono ?_); rintro e w' ⟨rfl, ⟨nd, rfl⟩⟩; refine ⟨_, rfl, ?_⟩)); go_ret; exact ⟨by first | rfl | (simp; done) | (simp [*]; done), by repeat (first | exact Drawn0.refl _ | apply Drawn0.step)⟩
end Go.Proofs.YthppfagfmjchoaaGreatDoor.A
namespace Go.Proofs.YthppfagfmjchoaaGreatDoor.A
open Go.RowKit Go.Proofs.YthppfagfmjchoaaGreatDoorW.PrintWords Go.Proofs.YthppfagfmjchoaaGreatDoorW.PrintLast Go.Proofs.YthppfagfmjchoaaGreatDoorW.PrintMore
attribute [local go_sem] isSome_setCell
set_option maxHeartbeats 8000000 in
set_option maxRecDepth 100000 in
theorem unit_span_number.calls (k : Nat) (a0_0 a0_1 a0_2 a1 r : Int) (w : World) (h : unit_span_number.f k a0_0 a0_1 a0_2 a1 = some r) :
  Calls Tryz.prog 182 #[.agg #[.int .i64 a0_0, .int .i64 a0_1, .int .i64 a0_2], .int .i64 a1] w fun e w' => e = .returned (.int .i64 r) ∧ Below w.heap.size w w' := by
  have hu160 := Tryz.underlying160
  have HB := A_ (Below.refl w.heap.size w)
  obtain ⟨t, ht, H⟩ := Option.bind_eq_some_iff.mp (show (unit_monthly.f k a1).bind _ = some r from h)
  have HT := A_ ht
  clear h ht
  go_enter Tryz.func182, Tryz.ntmps182
  go_upto_region 1 with (first | ((with_reducible refine gD 2 ?_); refine gx_ w 2 #[.int .i64 a0_0, .int .i64 a0_1, .int .i64 a0_2] 160 ?_; clear HB; intro gb w5 BK GE HB))
  (try simp only [Act.put, List.setIfInBounds_toArray, List.set_cons_zero, List.set_cons_succ])
  go_cut [5] (fun v5 wc => v5 = .int .i64 (wrap64 (t - a0_1)) ∧ Drawn0 w5 wc)
  case first =>
    have Z := bz3_ BK
    have z1 := Z.2.1
    go_region_held3 (fun w' => w'.cell? ⟨gb, 1, none⟩ = some (.int .i64 a0_1)) (first | (with_reducible exact (blk_cell (blk_drew BK.out) 1).trans rfl) | (with_reducible exact (blk_cell BK.out 1).trans rfl) | (with_reducible exact (blk_cell (blk_drewN (blk_drew BK.out) _) 1).trans rfl) | (with_reducible exact (blk_cell (blk_drewN BK.out _) 1).trans rfl)) (first | (go_at_call 207; (with_reducible refine (unit_monthly.calls k a1 t _ HT.out).mono ?_); rintro e w' ⟨rfl, ⟨nd, rfl⟩⟩; have z2 := bq_ (A_ (blk_drewN BK.out nd)) 1))
    all_goals (go_wp2; go_meet)
    all_goals exact ⟨by rw [i64_w], _, rfl⟩
  obtain ⟨rfl, nd, rfl⟩ := hcut
  replace BK := A_ (blk_drewN BK.out nd)
  replace HB := A_ (show Below w.heap.size w (w5.drewN nd) from hs_)
  have Z := bz3_ BK
  by_cases c4 : (wrap64 (t - a0_1)) < 0
  · rw [if_pos c4] at H
    have c4b := decide_eq_true c4
    obtain rfl := Option.some.inj H
    clear c4 H
    go_wp2; go_ret; exact ⟨re_, hs_⟩
  rw [if_neg c4] at H
  have c4b := decide_eq_false c4
  by_cases c7 : a0_0 = 0
  · rw [if_pos c7] at H; exact absurd H (by simp)
  rw [if_neg c7] at H
  have c7b0 : (a0_0 == 0) = false := beq_eq_false_iff_ne.mpr c7
  have c7b1 : (a0_0 != 0) = true := bne_iff_ne.mpr c7
  obtain rfl := Option.some.inj H
  clear c4 H
  go_wp2; go_ret; exact ⟨re_, hs_⟩
end Go.Proofs.YthppfagfmjchoaaGreatDoor.A
namespace Go.Proofs.YthppfagfmjchoaaGreatDoor.A
open Go.RowKit Go.Proofs.YthppfagfmjchoaaGreatDoorW.PrintWords Go.Proofs.YthppfagfmjchoaaGreatDoorW.PrintLast Go.Proofs.YthppfagfmjchoaaGreatDoorW.PrintMore
attribute [local go_sem] isSome_setCell run_store_func_
section
variable {P : Program} {ops : Array Oper} {Q : Exit → Act → World → Prop}
theorem bse_ {rest : List Oper} {o : Oper} {a : Act} {W : World} (N : Tmp) (n : Nat) (cs : Array Value) (t : TypeId)
    (h : ∀ g, g = W.heap.size → ∀ w1, w1.heap[g]? = some (.cells cs t (0, 0)) → Below W.heap.size W w1 → wpList P ops Q rest (a.put o.dst (.slice (some ⟨g, 0, none⟩) n n)) w1)
    (hd : o.dst = some N := by rfl) (hgd : o.guard = none := by rfl)
    (hrun : (execOp a.eval o).run P W = .ok (.value (.slice (some ⟨W.heap.size, 0, none⟩) n n)) (W.alloc (.cells cs t (0, 0))) := by first | (go_simp; done) | (go_simp; rfl)) : wpList P ops Q (o :: rest) a W :=
  Kd.event_run hgd hrun (h _ rfl _ (blk_new W _) (below_alloc (Below.refl _ _) _))
end
theorem WayIs.put {W : World} {m f c : Int} {v1 v2 u : Value} {g i : Nat} {cs : Array Value} (h : WayIs W m f c v1 v2) (hg : W.heap[g]? = some (.cells cs 105 (0, 0))) : WayIs (W.setCell ⟨g, i, none⟩ u) m f c v1 v2 := by
  obtain ⟨b, s, d, e1, e2, h1, h2, h3⟩ := h
  have nb : b ≠ g := by rintro rfl; rw [h1] at hg; simp at hg
  have ns : s ≠ g := by rintro rfl; rw [h2] at hg; simp at hg
  have nd : d ≠ g := by rintro rfl; rw [h3] at hg; simp at hg
  exact ⟨b, s, d, e1, e2, far_ _ _ h1 nb, far_ _ _ h2 ns, far_ _ _ h3 nd⟩
def WayF (W : World) : Nat → Value → Value → Prop
  | 0, v1, v2 => v1 = .func (.func 143) #[] #[] ∧ v2 = .func (.func 145) #[] #[]
  | 1, v1, v2 => WayIs W 1 0 120000 v1 v2
  | 2, v1, v2 => WayIs W 3 2 40000 v1 v2
  | 3, v1, v2 => WayIs W 12 0 10000 v1 v2
  | 4, v1, v2 => WayIs W 120 0 1000 v1 v2
  | _, v1, v2 => WayIs W 1200 0 100 v1 v2
def kcount : Nat → Int | 0 => 3652425 | 1 => 120000 | 2 => 40000 | 3 => 10000 | 4 => 1000 | _ => 100
set_option maxHeartbeats 8000000 in
set_option maxRecDepth 100000 in
theorem unit_find_kinds (kind : Int) (w : World) (hk : kind = 0 ∨ kind = 1 ∨ kind = 2 ∨ kind = 3 ∨ kind = 4 ∨ kind = 5) : Calls Tryz.prog 95 #[.int .i64 kind] w fun e w' => ∃ v1 v2, e = .returned (.tuple #[.agg #[.int .i64 (kcount kind.toNat), v1, v2], .bool true]) ∧ WayF w' kind.toNat v1 v2 ∧ Below w.heap.size w w' := by
  have HB := A_ (Below.refl w.heap.size w)
  rcases hk with rfl | rfl | rfl | rfl | rfl | rfl
  all_goals
    go_enter Tryz.func95, Tryz.ntmps95
    go_wp2_with (first | ((with_reducible refine gD 2 ?_); refine bxe_ 2 #[.int .i64 0, .nilFunc, .nilFunc] 105 ?_; intro gr hgr w2 hbox hb; have BR := A_ hbox; have GR := gs_ w hgr; replace HB := bs_ hb; clear hb hbox hgr) | ((with_reducible refine gD 7 ?_); refine gL 7 Tryz.func147 #[.agg #[.int .i64 1, .int .i64 0, .int .i64 120000]] ?_; (with_reducible refine (unit_of.calls 1 0 120000 _).mono ?_); rintro e1 w3 ⟨p1, q1, rfl, ⟨b1, s1, d1, rfl, rfl, hW⟩, hb⟩; refine ⟨_, rfl, ?_⟩; have W1 := A_ (show WayIs _ 1 0 120000 _ _ from ⟨b1, s1, d1, rfl, rfl, hW⟩); replace BR := A_ (blk_below BR.out hb); replace HB := bs_ hb; clear hb hW) | ((with_reducible refine gD 9 ?_); refine gL 9 Tryz.func147 #[.agg #[.int .i64 3, .int .i64 2, .int .i64 40000]] ?_; (with_reducible refine (unit_of.calls 3 2 40000 _).mono ?_); rintro e1 w4 ⟨p2, q2, rfl, ⟨b2, s2, d2, rfl, rfl, hW⟩, hb⟩; refine ⟨_, rfl, ?_⟩; have W2 := A_ (show WayIs _ 3 2 40000 _ _ from ⟨b2, s2, d2, rfl, rfl, hW⟩); replace W1 := A_ (W1.out.below hb); replace BR := A_ (blk_below BR.out hb); replace HB := bs_ hb; clear hb hW) | ((with_reducible refine gD 11 ?_); refine gL 11 Tryz.func147 #[.agg #[.int .i64 12, .int .i64 0, .int .i64 10000]] ?_; (with_reducible refine (unit_of.calls 12 0 10000 _).mono ?_); rintro e1 w5 ⟨p3, q3, rfl, ⟨b3, s3, d3, rfl, rfl, hW⟩, hb⟩; refine ⟨_, rfl, ?_⟩; have W3 := A_ (show WayIs _ 12 0 10000 _ _ from ⟨b3, s3, d3, rfl, rfl, hW⟩); replace W1 := A_ (W1.out.below hb); replace W2 := A_ (W2.out.below hb); replace BR := A_ (blk_below BR.out hb); replace HB := bs_ hb; clear hb hW) | ((with_reducible refine gD 13 ?_); refine gL 13 Tryz.func147 #[.agg #[.int .i64 120, .int .i64 0, .int .i64 1000]] ?_; (with_reducible refine (unit_of.calls 120 0 1000 _).mono ?_); rintro e1 w6 ⟨p4, q4, rfl, ⟨b4, s4, d4, rfl, rfl, hW⟩, hb⟩; refine ⟨_, rfl, ?_⟩; have W4 := A_ (show WayIs _ 120 0 1000 _ _ from ⟨b4, s4, d4, rfl, rfl, hW⟩); replace W1 := A_ (W1.out.below hb); replace W2 := A_ (W2.out.below hb); replace W3 := A_ (W3.out.below hb); replace BR := A_ (blk_below BR.out hb); replace HB := bs_ hb; clear hb hW) | ((with_reducible refine gD 15 ?_); refine gL 15 Tryz.func147 #[.agg #[.int .i64 1200, .int .i64 0, .int .i64 100]] ?_; (with_reducible refine (unit_of.calls 1200 0 100 _).mono ?_); rintro e1 w7 ⟨p5, q5, rfl, ⟨b5, s5, d5, rfl, rfl, hW⟩, hb⟩; refine ⟨_, rfl, ?_⟩; have W5 := A_ (show WayIs _ 1200 0 100 _ _ from ⟨b5, s5, d5, rfl, rfl, hW⟩); replace W1 := A_ (W1.out.below hb); replace W2 := A_ (W2.out.below hb); replace W3 := A_ (W3.out.below hb); replace W4 := A_ (W4.out.below hb); replace BR := A_ (blk_below BR.out hb); replace HB := bs_ hb; clear hb hW) | ((with_reducible refine gD 16 ?_); refine bse_ 16 6 #[.int .i64 3652425, .func (.func 143) #[] #[], .func (.func 145) #[] #[], .int .i64 120000, .func (.func 183) #[] #[.pointer (some ⟨b1, 0, none⟩), .pointer (some ⟨s1, 0, none⟩)], .func (.func 184) #[] #[.pointer (some ⟨d1, 0, none⟩), .pointer (some ⟨s1, 0, none⟩)], .int .i64 40000, .func (.func 183) #[] #[.pointer (some ⟨b2, 0, none⟩), .pointer (some ⟨s2, 0, none⟩)], .func (.func 184) #[] #[.pointer (some ⟨d2, 0, none⟩), .pointer (some ⟨s2, 0, none⟩)], .int .i64 10000, .func (.func 183) #[] #[.pointer (some ⟨b3, 0, none⟩), .pointer (some ⟨s3, 0, none⟩)], .func (.func 184) #[] #[.pointer (some ⟨d3, 0, none⟩), .pointer (some ⟨s3, 0, none⟩)], .int .i64 1000, .func (.func 183) #[] #[.pointer (some ⟨b4, 0, none⟩), .pointer (some ⟨s4, 0, none⟩)], .func (.func 184) #[] #[.pointer (some ⟨d4, 0, none⟩), .pointer (some ⟨s4, 0, none⟩)], .int .i64 100, .func (.func 183) #[] #[.pointer (some ⟨b5, 0, none⟩), .pointer (some ⟨s5, 0, none⟩)], .func (.func 184) #[] #[.pointer (some ⟨d5, 0, none⟩), .pointer (some ⟨s5, 0, none⟩)]] 105 ?_; intro gx hgx w8 hbox hb; have BX := A_ hbox; have GX := gs_ w hgx; have nrx : gr ≠ gx := (by rw [hgx]; exact Nat.ne_of_lt (blk_lt BR.out)); replace W1 := A_ (W1.out.below hb); replace W2 := A_ (W2.out.below hb); replace W3 := A_ (W3.out.below hb); replace W4 := A_ (W4.out.below hb); replace W5 := A_ (W5.out.below hb); replace BR := A_ (blk_below BR.out hb); replace HB := bs_ hb; clear hb hbox hgx; have nxr := Ne.symm nrx; have ZR := bz3_ BR; have x0 := bq_ BX 0; have x1 := bq_ BX 1; have x2 := bq_ BX 2; have x3 := bq_ BX 3; have x4 := bq_ BX 4; have x5 := bq_ BX 5; have x6 := bq_ BX 6; have x7 := bq_ BX 7; have x8 := bq_ BX 8; have x9 := bq_ BX 9; have x10 := bq_ BX 10; have x11 := bq_ BX 11; have x12 := bq_ BX 12; have x13 := bq_ BX 13; have x14 := bq_ BX 14; have x15 := bq_ BX 15; have x16 := bq_ BX 16; have x17 := bq_ BX 17))
    refine bodyPost_ret (results_ct rfl _ _ gr 105 _ (0, 0) _ rfl (blk_put (blk_put (blk_put BR.out 0 _ rfl) 1 _ rfl) 2 _ rfl) Tryz.underlying105 rfl (by kernel_rfl)) rfl ?_
    first | exact ⟨_, _, rfl, ⟨rfl, rfl⟩, hs_⟩ | exact ⟨_, _, rfl, ((W1.out.put BR.out).put (blk_put BR.out 0 _ rfl)).put (blk_put (blk_put BR.out 0 _ rfl) 1 _ rfl), hs_⟩ | exact ⟨_, _, rfl, ((W2.out.put BR.out).put (blk_put BR.out 0 _ rfl)).put (blk_put (blk_put BR.out 0 _ rfl) 1 _ rfl), hs_⟩ | exact ⟨_, _, rfl, ((W3.out.put BR.out).put (blk_put BR.out 0 _ rfl)).put (blk_put (blk_put BR.out 0 _ rfl) 1 _ rfl), hs_⟩ | exact ⟨_, _, rfl, ((W4.out.put BR.out).put (blk_put BR.out 0 _ rfl)).put (blk_put (blk_put BR.out 0 _ rfl) 1 _ rfl), hs_⟩ | exact ⟨_, _, rfl, ((W5.out.put BR.out).put (blk_put BR.out 0 _ rfl)).put (blk_put (blk_put BR.out 0 _ rfl) 1 _ rfl), hs_⟩
theorem run_store_nilFunc_ {P : Program} {w : World} {a : Addr} {m : Mode} : (store a .nilFunc m).run P w = stored P w a .nilFunc m := run_store P w a _ m rfl
attribute [local go_sem] run_store_nilFunc_
set_option maxHeartbeats 8000000 in
set_option maxRecDepth 100000 in
theorem unit_find_none (kind : Int) (w : World) (hk : kind < 0 ∨ 5 < kind) : Calls Tryz.prog 95 #[.int .i64 kind] w fun e w' => e = .returned (.tuple #[.agg #[.int .i64 0, .nilFunc, .nilFunc], .bool false]) ∧ Below w.heap.size w w' := by
  have HB := A_ (Below.refl w.heap.size w)
  by_cases h0 : kind < 0
  all_goals
    have k0 : decide (kind < 0) = _ := (by first | exact decide_eq_true h0 | exact decide_eq_false h0)
    try have k1 : decide ((6 : Int) ≤ kind) = true := decide_eq_true (by omega)
    clear h0 hk
    go_enter Tryz.func95, Tryz.ntmps95
    go_wp2_with (first | ((with_reducible refine gD 2 ?_); refine bxe_ 2 #[.int .i64 0, .nilFunc, .nilFunc] 105 ?_; intro gr hgr w2 hbox hb; have BR := A_ hbox; have GR := gs_ w hgr; replace HB := bs_ hb; clear hb hbox hgr) | ((with_reducible refine gD 7 ?_); refine gL 7 Tryz.func147 #[.agg #[.int .i64 1, .int .i64 0, .int .i64 120000]] ?_; (with_reducible refine (unit_of.calls 1 0 120000 _).mono ?_); rintro e1 w3 ⟨p1, q1, rfl, ⟨b1, s1, d1, rfl, rfl, hW⟩, hb⟩; refine ⟨_, rfl, ?_⟩; have W1 := A_ (show WayIs _ 1 0 120000 _ _ from ⟨b1, s1, d1, rfl, rfl, hW⟩); replace BR := A_ (blk_below BR.out hb); replace HB := bs_ hb; clear hb hW) | ((with_reducible refine gD 9 ?_); refine gL 9 Tryz.func147 #[.agg #[.int .i64 3, .int .i64 2, .int .i64 40000]] ?_; (with_reducible refine (unit_of.calls 3 2 40000 _).mono ?_); rintro e1 w4 ⟨p2, q2, rfl, ⟨b2, s2, d2, rfl, rfl, hW⟩, hb⟩; refine ⟨_, rfl, ?_⟩; have W2 := A_ (show WayIs _ 3 2 40000 _ _ from ⟨b2, s2, d2, rfl, rfl, hW⟩); replace W1 := A_ (W1.out.below hb); replace BR := A_ (blk_below BR.out hb); replace HB := bs_ hb; clear hb hW) | ((with_reducible refine gD 11 ?_); refine gL 11 Tryz.func147 #[.agg #[.int .i64 12, .int .i64 0, .int .i64 10000]] ?_; (with_reducible refine (unit_of.calls 12 0 10000 _).mono ?_); rintro e1 w5 ⟨p3, q3, rfl, ⟨b3, s3, d3, rfl, rfl, hW⟩, hb⟩; refine ⟨_, rfl, ?_⟩; have W3 := A_ (show WayIs _ 12 0 10000 _ _ from ⟨b3, s3, d3, rfl, rfl, hW⟩); replace W1 := A_ (W1.out.below hb); replace W2 := A_ (W2.out.below hb); replace BR := A_ (blk_below BR.out hb); replace HB := bs_ hb; clear hb hW) | ((with_reducible refine gD 13 ?_); refine gL 13 Tryz.func147 #[.agg #[.int .i64 120, .int .i64 0, .int .i64 1000]] ?_; (with_reducible refine (unit_of.calls 120 0 1000 _).mono ?_); rintro e1 w6 ⟨p4, q4, rfl, ⟨b4, s4, d4, rfl, rfl, hW⟩, hb⟩; refine ⟨_, rfl, ?_⟩; have W4 := A_ (show WayIs _ 120 0 1000 _ _ from ⟨b4, s4, d4, rfl, rfl, hW⟩); replace W1 := A_ (W1.out.below hb); replace W2 := A_ (W2.out.below hb); replace W3 := A_ (W3.out.below hb); replace BR := A_ (blk_below BR.out hb); replace HB := bs_ hb; clear hb hW) | ((with_reducible refine gD 15 ?_); refine gL 15 Tryz.func147 #[.agg #[.int .i64 1200, .int .i64 0, .int .i64 100]] ?_; (with_reducible refine (unit_of.calls 1200 0 100 _).mono ?_); rintro e1 w7 ⟨p5, q5, rfl, ⟨b5, s5, d5, rfl, rfl, hW⟩, hb⟩; refine ⟨_, rfl, ?_⟩; have W5 := A_ (show WayIs _ 1200 0 100 _ _ from ⟨b5, s5, d5, rfl, rfl, hW⟩); replace W1 := A_ (W1.out.below hb); replace W2 := A_ (W2.out.below hb); replace W3 := A_ (W3.out.below hb); replace W4 := A_ (W4.out.below hb); replace BR := A_ (blk_below BR.out hb); replace HB := bs_ hb; clear hb hW) | ((with_reducible refine gD 16 ?_); refine bse_ 16 6 #[.int .i64 3652425, .func (.func 143) #[] #[], .func (.func 145) #[] #[], .int .i64 120000, .func (.func 183) #[] #[.pointer (some ⟨b1, 0, none⟩), .pointer (some ⟨s1, 0, none⟩)], .func (.func 184) #[] #[.pointer (some ⟨d1, 0, none⟩), .pointer (some ⟨s1, 0, none⟩)], .int .i64 40000, .func (.func 183) #[] #[.pointer (some ⟨b2, 0, none⟩), .pointer (some ⟨s2, 0, none⟩)], .func (.func 184) #[] #[.pointer (some ⟨d2, 0, none⟩), .pointer (some ⟨s2, 0, none⟩)], .int .i64 10000, .func (.func 183) #[] #[.pointer (some ⟨b3, 0, none⟩), .pointer (some ⟨s3, 0, none⟩)], .func (.func 184) #[] #[.pointer (some ⟨d3, 0, none⟩), .pointer (some ⟨s3, 0, none⟩)], .int .i64 1000, .func (.func 183) #[] #[.pointer (some ⟨b4, 0, none⟩), .pointer (some ⟨s4, 0, none⟩)], .func (.func 184) #[] #[.pointer (some ⟨d4, 0, none⟩), .pointer (some ⟨s4, 0, none⟩)], .int .i64 100, .func (.func 183) #[] #[.pointer (some ⟨b5, 0, none⟩), .pointer (some ⟨s5, 0, none⟩)], .func (.func 184) #[] #[.pointer (some ⟨d5, 0, none⟩), .pointer (some ⟨s5, 0, none⟩)]] 105 ?_; intro gx hgx w8 hbox hb; have BX := A_ hbox; have GX := gs_ w hgx; have nrx : gr ≠ gx := (by rw [hgx]; exact Nat.ne_of_lt (blk_lt BR.out)); replace W1 := A_ (W1.out.below hb); replace W2 := A_ (W2.out.below hb); replace W3 := A_ (W3.out.below hb); replace W4 := A_ (W4.out.below hb); replace W5 := A_ (W5.out.below hb); replace BR := A_ (blk_below BR.out hb); replace HB := bs_ hb; clear hb hbox hgx; have nxr := Ne.symm nrx; have ZR := bz3_ BR; have x0 := bq_ BX 0; have x1 := bq_ BX 1; have x2 := bq_ BX 2; have x3 := bq_ BX 3; have x4 := bq_ BX 4; have x5 := bq_ BX 5; have x6 := bq_ BX 6; have x7 := bq_ BX 7; have x8 := bq_ BX 8; have x9 := bq_ BX 9; have x10 := bq_ BX 10; have x11 := bq_ BX 11; have x12 := bq_ BX 12; have x13 := bq_ BX 13; have x14 := bq_ BX 14; have x15 := bq_ BX 15; have x16 := bq_ BX 16; have x17 := bq_ BX 17))
    refine bodyPost_ret (results_ct rfl _ _ gr 105 _ (0, 0) _ rfl (blk_put (blk_put (blk_put BR.out 0 _ rfl) 1 _ rfl) 2 _ rfl) Tryz.underlying105 rfl (by kernel_rfl)) rfl ?_
    exact ⟨rfl, hs_⟩
end Go.Proofs.YthppfagfmjchoaaGreatDoor.A
namespace Go.Proofs.YthppfagfmjchoaaGreatDoor.A
open Go.RowKit Go.Proofs.YthppfagfmjchoaaGreatDoorW.PrintWords Go.Proofs.YthppfagfmjchoaaGreatDoorW.PrintLast Go.Proofs.YthppfagfmjchoaaGreatDoorW.PrintMore
attribute [local go_sem] isSome_setCell
set_option maxHeartbeats 8000000 in
set_option maxRecDepth 100000 in
theorem days_begins.calls (i : Int) (w : World) : Calls Tryz.prog 144 #[.agg #[], .int .i64 i] w fun e w' => e = .returned (.int .i64 i) ∧ Below w.heap.size w w' := by
  have HB := A_ (Below.refl w.heap.size w)
  go_enter Tryz.func144, Tryz.ntmps144
  go_wp2_with (first | ((with_reducible refine gD 2 ?_); refine gx_ w 2 #[] 157 ?_; clear HB; intro gb w5 BK GE HB))
  go_ret; exact ⟨re_, hs_⟩
set_option maxHeartbeats 8000000 in
set_option maxRecDepth 100000 in
theorem days_number.calls (i : Int) (w : World) : Calls Tryz.prog 146 #[.agg #[], .int .i64 i] w fun e w' => e = .returned (.int .i64 i) ∧ Below w.heap.size w w' := by
  have HB := A_ (Below.refl w.heap.size w)
  go_enter Tryz.func146, Tryz.ntmps146
  go_wp2_with (first | ((with_reducible refine gD 2 ?_); refine gx_ w 2 #[] 157 ?_; clear HB; intro gb w5 BK GE HB))
  go_ret; exact ⟨re_, hs_⟩
set_option maxHeartbeats 8000000 in
set_option maxRecDepth 100000 in
theorem find_1.calls (i : Int) (w : World) : Calls Tryz.prog 143 #[.int .i64 i] w fun e w' => e = .returned (.int .i64 i) ∧ Below w.heap.size w w' := by
  have HB := A_ (Below.refl w.heap.size w)
  go_enter Tryz.func143, Tryz.ntmps143
  go_wp2_with (first | ((with_reducible refine gD 5 ?_); refine gL 5 Tryz.func144 #[.agg #[], .int .i64 i] ?_; (with_reducible refine (days_begins.calls i _).mono ?_); rintro e1 w1 ⟨rfl, hb⟩; refine ⟨_, rfl, ?_⟩; replace HB := bs_ hb; clear hb))
  go_ret; exact ⟨re_, hs_⟩
set_option maxHeartbeats 8000000 in
set_option maxRecDepth 100000 in
theorem find_2.calls (i : Int) (w : World) : Calls Tryz.prog 145 #[.int .i64 i] w fun e w' => e = .returned (.int .i64 i) ∧ Below w.heap.size w w' := by
  have HB := A_ (Below.refl w.heap.size w)
  go_enter Tryz.func145, Tryz.ntmps145
  go_wp2_with (first | ((with_reducible refine gD 5 ?_); refine gL 5 Tryz.func146 #[.agg #[], .int .i64 i] ?_; (with_reducible refine (days_number.calls i _).mono ?_); rintro e1 w1 ⟨rfl, hb⟩; refine ⟨_, rfl, ?_⟩; replace HB := bs_ hb; clear hb))
  go_ret; exact ⟨re_, hs_⟩
set_option maxHeartbeats 8000000 in
set_option maxRecDepth 100000 in
theorem of_1.calls (m f c i r : Int) (b s : Nat) (w : World) (h1 : w.heap[b]? = some (.cells #[.func (.func 181) #[] #[]] 186 (0, 0))) (h2 : w.heap[s]? = some (.cells #[.int .i64 m, .int .i64 f, .int .i64 c] 160 (0, 0)))
    (htab : TL w.heap.size w) (h : unit_span_begins.f m f c i = some r) :
    Calls Tryz.prog 183 #[.int .i64 i, .pointer (some ⟨b, 0, none⟩), .pointer (some ⟨s, 0, none⟩)] w fun e w' => e = .returned (.int .i64 r) ∧ Below w.heap.size w w' := by
  have HTAB := A_ htab; clear htab
  have HT := A_ h; clear h
  have HB := A_ (Below.refl w.heap.size w)
  have hu1 := Tryz.underlying160
  have z1 := bz1_ (A_ h1)
  have z2 := bz3_ (A_ h2)
  clear h1 h2
  go_enter Tryz.func183, Tryz.ntmps183
  go_wp2_with (first | (go_at_call 181; (with_reducible refine (unit_span_begins.calls m f c i r _ tl_ HT.out).mono ?_); rintro e1 w1 ⟨rfl, hb⟩; replace HB := bs_ hb; clear hb))
  go_ret; exact ⟨re_, hs_⟩
set_option maxHeartbeats 8000000 in
set_option maxRecDepth 100000 in
theorem of_2.calls (k : Nat) (m f c i r : Int) (d s : Nat) (w : World) (h1 : w.heap[d]? = some (.cells #[.func (.func 182) #[] #[]] 186 (0, 0))) (h2 : w.heap[s]? = some (.cells #[.int .i64 m, .int .i64 f, .int .i64 c] 160 (0, 0)))
    (h : unit_span_number.f k m f c i = some r) :
    Calls Tryz.prog 184 #[.int .i64 i, .pointer (some ⟨d, 0, none⟩), .pointer (some ⟨s, 0, none⟩)] w fun e w' => e = .returned (.int .i64 r) ∧ Below w.heap.size w w' := by
  have HT := A_ h; clear h
  have HB := A_ (Below.refl w.heap.size w)
  have hu1 := Tryz.underlying160
  have z1 := bz1_ (A_ h1)
  have z2 := bz3_ (A_ h2)
  clear h1 h2
  go_enter Tryz.func184, Tryz.ntmps184
  go_wp2_with (first | (go_at_call 182; (with_reducible refine (unit_span_number.calls k m f c i r _ HT.out).mono ?_); rintro e1 w1 ⟨rfl, hb⟩; replace HB := bs_ hb; clear hb))
  go_ret; exact ⟨re_, hs_⟩
theorem run_store_nilFunc__ {P : Program} {w : World} {a : Addr} {m : Mode} : (store a .nilFunc m).run P w = stored P w a .nilFunc m := run_store P w a _ m rfl
attribute [local go_sem] isSome_setCell run_store_func_ run_store_nilFunc__
set_option linter.unusedVariables false
set_option linter.unusedSimpArgs false
def km : Nat → Int | 1 => 1 | 2 => 3 | 3 => 12 | 4 => 120 | _ => 1200
def kf : Nat → Int | 2 => 2 | _ => 0
theorem WayF.pos {W : World} {k : Nat} {v1 v2 : Value} (h : WayF W k v1 v2) (hk : k ≠ 0) : WayIs W (km k) (kf k) (if k ≤ 5 then kcount k else 100) v1 v2 := by
  match k, h with
  | 1, h => exact h
  | 2, h => exact h
  | 3, h => exact h
  | 4, h => exact h
  | 5, h => exact h
  | k + 6, h => rw [if_neg (by omega)]; exact h
theorem WayF.func {W : World} {k : Nat} {v1 v2 : Value} (h : WayF W k v1 v2) : ∃ x1 c1 x2 c2, v1 = .func (.func x1) #[] c1 ∧ v2 = .func (.func x2) #[] c2 := by
  by_cases hk : k = 0
  · subst hk; exact ⟨_, _, _, _, h.1, h.2⟩
  · obtain ⟨b, s, d, e1, e2, _⟩ := h.pos hk
    exact ⟨_, _, _, _, e1, e2⟩
abbrev kindOk (kind : Int) : Prop := kind = 0 ∨ kind = 1 ∨ kind = 2 ∨ kind = 3 ∨ kind = 4 ∨ kind = 5
theorem kind_bad {kind : Int} (h : ¬ kindOk kind) : kind < 0 ∨ 5 < kind := by unfold kindOk at h; omega
def unit_Count.fv (kind : Int) : Int := if kindOk kind then kcount kind.toNat else 0
def unit_Count.f (kind : Int) : Option Int := some (unit_Count.fv kind)
def unit_begins.f (k : Nat) (i : Int) : Option Int := if k = 0 then some i else unit_span_begins.f (km k) (kf k) (kcount k) i
def unit_First.f (kind i : Int) : Option (Int × Bool) := if kindOk kind then (if i < 0 then some (0, false) else if kcount kind.toNat ≤ i then some (0, false) else (unit_begins.f kind.toNat i).bind fun r => some (r, true)) else some (0, false)
set_option maxHeartbeats 8000000 in
set_option maxRecDepth 100000 in
theorem unit_Count.callsP (kind : Int) (w : World) : Calls Tryz.prog 51 #[.int .i64 kind] w fun e w' => e = .returned (.int .i64 (unit_Count.fv kind)) ∧ Below w.heap.size w w' := by
  have HB := A_ (Below.refl w.heap.size w)
  have hu := Tryz.underlying105
  unfold unit_Count.fv
  by_cases hk : kindOk kind
  · rw [if_pos hk]
    have KB := A_ hk; clear hk
    go_enter Tryz.func51, Tryz.ntmps51
    go_wp2_with (first | ((with_reducible refine gD 7 ?_); refine gL 7 Tryz.func95 #[.int .i64 kind] ?_; (with_reducible refine (unit_find_kinds kind _ KB.out).mono ?_); rintro e1 w1 ⟨v1, v2, rfl, hW, hb⟩; obtain ⟨x1, c1, x2, c2, rfl, rfl⟩ := hW.func; clear hW; refine ⟨_, rfl, ?_⟩; replace HB := bs_ hb; clear hb) | ((with_reducible refine gD 3 ?_); refine bxe_ 3 #[.int .i64 0, .nilFunc, .nilFunc] 105 ?_; intro gr hgr w2 hbox hb; have BR := A_ hbox; have GR := gs_ w hgr; replace HB := bs_ hb; clear hb hbox hgr; have ZR := bz3_ BR))
    go_ret; exact ⟨re_, hs_⟩
  · rw [if_neg hk]
    have KB := A_ (kind_bad hk); clear hk
    go_enter Tryz.func51, Tryz.ntmps51
    go_wp2_with (first | ((with_reducible refine gD 7 ?_); refine gL 7 Tryz.func95 #[.int .i64 kind] ?_; (with_reducible refine (unit_find_none kind _ KB.out).mono ?_); rintro e1 w1 ⟨rfl, hb⟩; refine ⟨_, rfl, ?_⟩; replace HB := bs_ hb; clear hb) | ((with_reducible refine gD 3 ?_); refine bxe_ 3 #[.int .i64 0, .nilFunc, .nilFunc] 105 ?_; intro gr hgr w2 hbox hb; have BR := A_ hbox; have GR := gs_ w hgr; replace HB := bs_ hb; clear hb hbox hgr; have ZR := bz3_ BR))
    go_ret; exact ⟨re_, hs_⟩
set_option maxHeartbeats 8000000 in
set_option maxRecDepth 100000 in
theorem unit_First.callsP (kind i : Int) (r : Int × Bool) (w : World) (htab : TL w.heap.size w) (h : unit_First.f kind i = some r) : Calls Tryz.prog 131 #[.int .i64 kind, .int .i64 i] w fun e w' => e = .returned (.tuple #[.int .i64 r.1, .bool r.2]) ∧ Below w.heap.size w w' := by
  have HTAB := A_ htab; clear htab
  have HB := A_ (Below.refl w.heap.size w)
  have hu := Tryz.underlying105
  unfold unit_First.f at h
  by_cases hk : kindOk kind
  · rw [if_pos hk] at h
    have KB := A_ hk
    by_cases c1 : i < 0
    · rw [if_pos c1] at h
      obtain rfl := Option.some.inj h
      have k1 := decide_eq_true c1
      clear c1 h hk
      go_enter Tryz.func131, Tryz.ntmps131
      go_wp2_with (first | ((with_reducible refine gD 10 ?_); refine gL 10 Tryz.func95 #[.int .i64 kind] ?_; (with_reducible refine (unit_find_kinds kind _ KB.out).mono ?_); rintro e1 w1 ⟨v1, v2, rfl, hW, hb⟩; obtain ⟨x1, c1, x2, c2, rfl, rfl⟩ := hW.func; clear hW; refine ⟨_, rfl, ?_⟩; replace HB := bs_ hb; clear hb) | ((with_reducible refine gD 6 ?_); refine bxe_ 6 #[.int .i64 0, .nilFunc, .nilFunc] 105 ?_; intro gr hgr w2 hbox hb; have BR := A_ hbox; have GR := gs_ w hgr; replace HB := bs_ hb; clear hb hbox hgr; have ZR := bz3_ BR))
      go_ret2; exact ⟨re_, hs_⟩
    rw [if_neg c1] at h
    have k1 := decide_eq_false c1
    by_cases c2 : kcount kind.toNat ≤ i
    · rw [if_pos c2] at h
      obtain rfl := Option.some.inj h
      have k2 := decide_eq_true c2
      clear c1 c2 h hk
      go_enter Tryz.func131, Tryz.ntmps131
      go_wp2_with (first | ((with_reducible refine gD 10 ?_); refine gL 10 Tryz.func95 #[.int .i64 kind] ?_; (with_reducible refine (unit_find_kinds kind _ KB.out).mono ?_); rintro e1 w1 ⟨v1, v2, rfl, hW, hb⟩; obtain ⟨x1, c1, x2, c2, rfl, rfl⟩ := hW.func; clear hW; refine ⟨_, rfl, ?_⟩; replace HB := bs_ hb; clear hb) | ((with_reducible refine gD 6 ?_); refine bxe_ 6 #[.int .i64 0, .nilFunc, .nilFunc] 105 ?_; intro gr hgr w2 hbox hb; have BR := A_ hbox; have GR := gs_ w hgr; replace HB := bs_ hb; clear hb hbox hgr; have ZR := bz3_ BR))
      go_ret2; exact ⟨re_, hs_⟩
    rw [if_neg c2] at h
    have k2 := decide_eq_false c2
    obtain ⟨t, ht, h2⟩ := Option.bind_eq_some_iff.mp h
    obtain rfl := Option.some.inj h2
    unfold unit_begins.f at ht
    by_cases c3 : kind.toNat = 0
    · rw [if_pos c3] at ht
      obtain rfl := Option.some.inj ht
      have C3 := A_ c3
      clear c1 c2 c3 h h2 ht hk
      go_enter Tryz.func131, Tryz.ntmps131
      go_wp2_with (first | ((with_reducible refine gD 10 ?_); refine gL 10 Tryz.func95 #[.int .i64 kind] ?_; (with_reducible refine (unit_find_kinds kind _ KB.out).mono ?_); rintro e1 w1 ⟨v1, v2, rfl, hW, hb⟩; rw [C3.out] at hW; obtain ⟨rfl, rfl⟩ := hW; refine ⟨_, rfl, ?_⟩; replace HB := bs_ hb; clear hb) | ((with_reducible refine gD 6 ?_); refine bxe_ 6 #[.int .i64 0, .nilFunc, .nilFunc] 105 ?_; intro gr hgr w2 hbox hb; have BR := A_ hbox; have GR := gs_ w hgr; replace HB := bs_ hb; clear hb hbox hgr; have ZR := bz3_ BR) | (go_at_call 143; (with_reducible refine (find_1.calls i _).mono ?_); rintro e1 w3 ⟨rfl, hb⟩; replace HB := bs_ hb; clear hb))
      go_ret2; exact ⟨re_, hs_⟩
    rw [if_neg c3] at ht
    have C3 := A_ c3
    have C5 := A_ (show kind.toNat ≤ 5 by omega)
    have HT := A_ ht
    clear c1 c2 c3 h h2 ht hk
    go_enter Tryz.func131, Tryz.ntmps131
    go_wp2_with (first | ((with_reducible refine gD 10 ?_); refine gL 10 Tryz.func95 #[.int .i64 kind] ?_; (with_reducible refine (unit_find_kinds kind _ KB.out).mono ?_); rintro e1 w1 ⟨v1, v2, rfl, hW, hb⟩; obtain ⟨b, s, d, rfl, rfl, hW1, hW2, hW3⟩ := hW.pos C3.out; rw [if_pos C5.out] at hW2; have W1 := A_ hW1; have W2 := A_ hW2; clear hW hW1 hW2 hW3; refine ⟨_, rfl, ?_⟩; replace HB := bs_ hb; clear hb) | ((with_reducible refine gD 6 ?_); refine bxe_ 6 #[.int .i64 0, .nilFunc, .nilFunc] 105 ?_; intro gr hgr w2 hbox hb; have BR := A_ hbox; have GR := gs_ w hgr; have nbr : b ≠ gr := (by rw [hgr]; exact Nat.ne_of_lt (blk_lt W1.out)); have nsr : s ≠ gr := (by rw [hgr]; exact Nat.ne_of_lt (blk_lt W2.out)); replace W1 := A_ (blk_below W1.out hb); replace W2 := A_ (blk_below W2.out hb); replace HB := bs_ hb; clear hb hbox hgr; have ZR := bz3_ BR) | (go_at_call 183; (with_reducible refine (of_1.calls (km kind.toNat) (kf kind.toNat) (kcount kind.toNat) i t b s _ (far_ _ _ (far_ _ _ (far_ _ _ W1.out nbr) nbr) nbr) (far_ _ _ (far_ _ _ (far_ _ _ W2.out nsr) nsr) nsr) tl_ HT.out).mono ?_); rintro e1 w3 ⟨rfl, hb⟩; replace HB := bs_ hb; clear hb))
    go_ret2; exact ⟨re_, hs_⟩
  · rw [if_neg hk] at h
    obtain rfl := Option.some.inj h
    have KB := A_ (kind_bad hk); clear hk h
    go_enter Tryz.func131, Tryz.ntmps131
    go_wp2_with (first | ((with_reducible refine gD 10 ?_); refine gL 10 Tryz.func95 #[.int .i64 kind] ?_; (with_reducible refine (unit_find_none kind _ KB.out).mono ?_); rintro e1 w1 ⟨rfl, hb⟩; refine ⟨_, rfl, ?_⟩; replace HB := bs_ hb; clear hb) | ((with_reducible refine gD 6 ?_); refine bxe_ 6 #[.int .i64 0, .nilFunc, .nilFunc] 105 ?_; intro gr hgr w2 hbox hb; have BR := A_ hbox; have GR := gs_ w hgr; replace HB := bs_ hb; clear hb hbox hgr; have ZR := bz3_ BR))
    go_ret2; exact ⟨re_, hs_⟩
theorem unit_Count.calls (a0 r : Int) (w : World) (h : unit_Count.f a0 = some r) : Calls Tryz.prog 51 #[.int .i64 a0] w fun e w' => e = .returned (.int .i64 r) ∧ Below w.heap.size w w' := by
  obtain rfl := Option.some.inj h; exact unit_Count.callsP a0 w
theorem unit_First.calls (a0 a1 r1 : Int) (r2 : Bool) (w : World) (htab : TL w.heap.size w) (h : unit_First.f a0 a1 = some (r1, r2)) : Calls Tryz.prog 131 #[.int .i64 a0, .int .i64 a1] w fun e w' => e = .returned (.tuple #[.int .i64 r1, .bool r2]) ∧ Below w.heap.size w w' := unit_First.callsP a0 a1 (r1, r2) w htab h
end Go.Proofs.YthppfagfmjchoaaGreatDoor.A
namespace Go.Proofs.YthppfagfmjchoaaGreatDoor.A
open Go.RowKit Go.Proofs.YthppfagfmjchoaaGreatDoorW.PrintWords Go.Proofs.YthppfagfmjchoaaGreatDoorW.PrintLast Go.Proofs.YthppfagfmjchoaaGreatDoorW.PrintMore
attribute [local go_sem] max2_int min2_int max_two min_two max_three min_three max_four min_four
def runs_Sane.l0 : Nat → Int → List (S71) → Int → Int → Option (Bool)
  | 0, _, _, _, _ => none
  | k + 1, x3, x6, x7, x8 => if x8 < x7 then (if 0 ≤ x8 then (if x8 < (x6.length : Int) then (if ((rd_T71 x6 x8).f0) > ((rd_T71 x6 x8).f1) then (some false) else (if ((rd_T71 x6 x8).f0) < (wrap64 (x3 + 2)) then (some false) else (if ((rd_T71 x6 x8).f1) > 1099511627776 then (some false) else (runs_Sane.l0 k ((rd_T71 x6 x8).f1) x6 x7 (wrap64 (x8 + 1)))))) else (none)) else (none)) else (some true)
def runs_Sane.f (k : Nat) (l0 : List (S71)) : Option (Bool) := runs_Sane.l0 k (-1099511627778) l0 (l0.length : Int) 0
theorem runs_Sane.mono_l : ∀ k, (∀ y0 y1 y2 y3, LeO (runs_Sane.l0 k y0 y1 y2 y3) (runs_Sane.l0 (k + 1) y0 y1 y2 y3))
  | 0 => fun _ _ _ _ r h => by simp [runs_Sane.l0] at h
  | k + 1 => by
    have ih0 := runs_Sane.mono_l k
    · intro y0 y1 y2 y3
      unfold runs_Sane.l0
      repeat' (with_reducible first | apply ih0 | exact LeO.refl _ | exact LeO.none _ | refine LeO.ite ?_ ?_ | refine LeO.bind ?_ fun _ => ?_)
theorem runs_Sane.mono : ∀ a0 k, LeO (runs_Sane.f k a0) (runs_Sane.f (k + 1) a0) := by
  intro a0 k
  have ih0 := runs_Sane.mono_l k
  unfold runs_Sane.f
  repeat' (with_reducible first | apply ih0 | exact LeO.refl _ | exact LeO.none _ | refine LeO.ite ?_ ?_ | refine LeO.bind ?_ fun _ => ?_)
def sets_known.f (k : Nat) (l0 : List (S71)) : Option ((List (S71))) := (runs_Sane.f k l0).bind fun t103 => (if t103 = true then (some l0) else ((runs_Make.f l0).bind fun t104 => (some t104)))
theorem sets_known.mono : ∀ a0 k, LeO (sets_known.f k a0) (sets_known.f (k + 1) a0) := by
  intro a0 k
  unfold sets_known.f
  repeat' (with_reducible first | apply runs_Sane.mono | exact LeO.refl _ | exact LeO.none _ | refine LeO.ite ?_ ?_ | refine LeO.bind ?_ fun _ => ?_)
mutual
def sets_Meet.l0 : Nat → List (S71) → List (S71) → List (S71) → Int → Int → Option ((List (S71)))
  | 0, _, _, _, _, _ => none
  | k + 1, x0, x1, x5, x6, x7 => if x6 < (x0.length : Int) then (sets_Meet.j1 k x0 x1 x5 x6 x7 (decide (x7 < (x1.length : Int)))) else (sets_Meet.j1 k x0 x1 x5 x6 x7 false)
def sets_Meet.j1 : Nat → List (S71) → List (S71) → List (S71) → Int → Int → Bool → Option ((List (S71)))
  | 0, _, _, _, _, _, _ => none
  | k + 1, x0, x1, x5, x6, x7, x22 => if x22 = true then (if 0 ≤ x6 then (if x6 < (x0.length : Int) then (if 0 ≤ x7 then (if x7 < (x1.length : Int) then (if (mx ((rd_T71 x0 x6).f0) ((rd_T71 x1 x7).f0)) ≤ (mn ((rd_T71 x0 x6).f1) ((rd_T71 x1 x7).f1)) then (if x5.length < 8796093022208 then ((some (x5 ++ [(⟨mx ((rd_T71 x0 x6).f0) ((rd_T71 x1 x7).f0), mn ((rd_T71 x0 x6).f1) ((rd_T71 x1 x7).f1)⟩ : S71)] : List (S71))).bind fun y118 => (if ((rd_T71 x0 x6).f1) < ((rd_T71 x1 x7).f1) then (sets_Meet.l0 k x0 x1 y118 (wrap64 (x6 + 1)) x7) else (sets_Meet.l0 k x0 x1 y118 x6 (wrap64 (x7 + 1))))) else (none)) else (if ((rd_T71 x0 x6).f1) < ((rd_T71 x1 x7).f1) then (sets_Meet.l0 k x0 x1 x5 (wrap64 (x6 + 1)) x7) else (sets_Meet.l0 k x0 x1 x5 x6 (wrap64 (x7 + 1))))) else (none)) else (none)) else (none)) else (none)) else (some x5)
end
def sets_Meet.f (k : Nat) (l0 : List (S71)) (l1 : List (S71)) : Option ((List (S71))) := (sets_known.f k l0).bind fun t107 => ((sets_known.f k l1).bind fun t110 => (sets_Meet.l0 k t107 t110 ([] : List (S71)) 0 0))
theorem sets_Meet.mono_l : ∀ k, (∀ y0 y1 y2 y3 y4, LeO (sets_Meet.l0 k y0 y1 y2 y3 y4) (sets_Meet.l0 (k + 1) y0 y1 y2 y3 y4)) ∧ (∀ y0 y1 y2 y3 y4 y5, LeO (sets_Meet.j1 k y0 y1 y2 y3 y4 y5) (sets_Meet.j1 (k + 1) y0 y1 y2 y3 y4 y5))
  | 0 => ⟨fun _ _ _ _ _ r h => by simp [sets_Meet.l0] at h, fun _ _ _ _ _ _ r h => by simp [sets_Meet.j1] at h⟩
  | k + 1 => by
    obtain ⟨ih0, ih1⟩ := sets_Meet.mono_l k
    refine ⟨?_, ?_⟩
    · intro y0 y1 y2 y3 y4
      unfold sets_Meet.l0
      repeat' (with_reducible first | apply ih0 | apply ih1 | apply sets_known.mono | exact LeO.refl _ | exact LeO.none _ | refine LeO.ite ?_ ?_ | refine LeO.bind ?_ fun _ => ?_)
    · intro y0 y1 y2 y3 y4 y5
      unfold sets_Meet.j1
      repeat' (with_reducible first | apply ih0 | apply ih1 | apply sets_known.mono | exact LeO.refl _ | exact LeO.none _ | refine LeO.ite ?_ ?_ | refine LeO.bind ?_ fun _ => ?_)
theorem sets_Meet.mono : ∀ a0 a1 k, LeO (sets_Meet.f k a0 a1) (sets_Meet.f (k + 1) a0 a1) := by
  intro a0 a1 k
  obtain ⟨ih0, ih1⟩ := sets_Meet.mono_l k
  unfold sets_Meet.f
  repeat' (with_reducible first | apply ih0 | apply ih1 | apply sets_known.mono | exact LeO.refl _ | exact LeO.none _ | refine LeO.ite ?_ ?_ | refine LeO.bind ?_ fun _ => ?_)
def sets_Clip.f (k : Nat) (l0 : List (S71)) (a1 : Int) (a2 : Int) : Option ((List (S71))) := (sets_Meet.f k l0 (([(⟨a1, a2⟩ : S71)] : List (S71)))).bind fun t128 => (some t128)
theorem sets_Clip.mono : ∀ a0 a1 a2 k, LeO (sets_Clip.f k a0 a1 a2) (sets_Clip.f (k + 1) a0 a1 a2) := by
  intro a0 a1 a2 k
  unfold sets_Clip.f
  repeat' (with_reducible first | apply sets_Meet.mono | exact LeO.refl _ | exact LeO.none _ | refine LeO.ite ?_ ?_ | refine LeO.bind ?_ fun _ => ?_)
def image_units.f (k : Nat) (a0 : Int) (l1 : List (S71)) : Option ((List (S71))) := (unit_Count.f a0).bind fun t101 => ((sets_Clip.f k l1 0 (wrap64 (t101 - 1))).bind fun t102 => (some t102))
theorem image_units.mono : ∀ a0 a1 k, LeO (image_units.f k a0 a1) (image_units.f (k + 1) a0 a1) := by
  intro a0 a1 k
  unfold image_units.f
  repeat' first
      | (with_reducible exact sets_Clip.mono _ _ _ _)
      | (with_reducible exact LeO.refl _)
      | (with_reducible exact LeO.none _)
      | (with_reducible refine LeO.ite ?_ ?_)
      | (with_reducible refine LeO.bind ?_ (fun _ => ?_))
      | exact sets_Clip.mono _ _ _ _
      | exact LeO.none _
      | refine LeO.ite ?_ ?_
      | refine LeO.bind ?_ (fun _ => ?_)
end Go.Proofs.YthppfagfmjchoaaGreatDoor.A
namespace Go.Proofs.YthppfagfmjchoaaGreatDoor.A
open Go.RowKit Go.Proofs.YthppfagfmjchoaaGreatDoorW.PrintWords Go.Proofs.YthppfagfmjchoaaGreatDoorW.PrintLast Go.Proofs.YthppfagfmjchoaaGreatDoorW.PrintMore
attribute [local go_sem] isSome_setCell run_store_func_ run_store_nilFunc__ max2_int min2_int max_two min_two
def unit_Last.f (kind i : Int) : Option (Int × Bool) := if kindOk kind then (if i < 0 then some (0, false) else if kcount kind.toNat ≤ i then some (0, false) else if i = wrap64 (kcount kind.toNat - 1) then some (3652424, true) else (unit_begins.f kind.toNat (wrap64 (i + 1))).bind fun r => some (wrap64 (r - 1), true)) else some (0, false)
set_option maxHeartbeats 8000000 in
set_option maxRecDepth 100000 in
theorem unit_Last.callsP (kind i : Int) (r : Int × Bool) (w : World) (htab : TL w.heap.size w) (h : unit_Last.f kind i = some r) : Calls Tryz.prog 132 #[.int .i64 kind, .int .i64 i] w fun e w' => e = .returned (.tuple #[.int .i64 r.1, .bool r.2]) ∧ Below w.heap.size w w' := by
  have HTAB := A_ htab; clear htab
  have HB := A_ (Below.refl w.heap.size w)
  have hu := Tryz.underlying105
  unfold unit_Last.f at h
  by_cases hk : kindOk kind
  · rw [if_pos hk] at h
    have KB := A_ hk
    by_cases c1 : i < 0
    · rw [if_pos c1] at h
      obtain rfl := Option.some.inj h
      have k1 := decide_eq_true c1
      clear c1 h hk
      go_enter Tryz.func132, Tryz.ntmps132
      go_wp2_with (first | ((with_reducible refine gD 10 ?_); refine gL 10 Tryz.func95 #[.int .i64 kind] ?_; (with_reducible refine (unit_find_kinds kind _ KB.out).mono ?_); rintro e1 w1 ⟨v1, v2, rfl, hW, hb⟩; obtain ⟨x1, c1, x2, c2, rfl, rfl⟩ := hW.func; clear hW; refine ⟨_, rfl, ?_⟩; replace HB := bs_ hb; clear hb) | ((with_reducible refine gD 6 ?_); refine bxe_ 6 #[.int .i64 0, .nilFunc, .nilFunc] 105 ?_; intro gr hgr w2 hbox hb; have BR := A_ hbox; have GR := gs_ w hgr; replace HB := bs_ hb; clear hb hbox hgr; have ZR := bz3_ BR))
      go_ret2; exact ⟨re_, hs_⟩
    rw [if_neg c1] at h
    have k1 := decide_eq_false c1
    by_cases c2 : kcount kind.toNat ≤ i
    · rw [if_pos c2] at h
      obtain rfl := Option.some.inj h
      have k2 := decide_eq_true c2
      clear c1 c2 h hk
      go_enter Tryz.func132, Tryz.ntmps132
      go_wp2_with (first | ((with_reducible refine gD 10 ?_); refine gL 10 Tryz.func95 #[.int .i64 kind] ?_; (with_reducible refine (unit_find_kinds kind _ KB.out).mono ?_); rintro e1 w1 ⟨v1, v2, rfl, hW, hb⟩; obtain ⟨x1, c1, x2, c2, rfl, rfl⟩ := hW.func; clear hW; refine ⟨_, rfl, ?_⟩; replace HB := bs_ hb; clear hb) | ((with_reducible refine gD 6 ?_); refine bxe_ 6 #[.int .i64 0, .nilFunc, .nilFunc] 105 ?_; intro gr hgr w2 hbox hb; have BR := A_ hbox; have GR := gs_ w hgr; replace HB := bs_ hb; clear hb hbox hgr; have ZR := bz3_ BR))
      go_ret2; exact ⟨re_, hs_⟩
    rw [if_neg c2] at h
    have k2 := decide_eq_false c2
    by_cases c3 : i = wrap64 (kcount kind.toNat - 1)
    · rw [if_pos c3] at h
      obtain rfl := Option.some.inj h
      have k3 := decide_eq_true c3; have k3b : (i == wrap64 (kcount kind.toNat - 1)) = true := beq_iff_eq.mpr c3; have k3c : (i == IntKind.i64.wrap (kcount kind.toNat - 1)) = true := by (rw [i64_w]; exact k3b)
      clear c1 c2 c3 h hk
      go_enter Tryz.func132, Tryz.ntmps132
      go_wp2_with (first | ((with_reducible refine gD 10 ?_); refine gL 10 Tryz.func95 #[.int .i64 kind] ?_; (with_reducible refine (unit_find_kinds kind _ KB.out).mono ?_); rintro e1 w1 ⟨v1, v2, rfl, hW, hb⟩; obtain ⟨x1, c1, x2, c2, rfl, rfl⟩ := hW.func; clear hW; refine ⟨_, rfl, ?_⟩; replace HB := bs_ hb; clear hb) | ((with_reducible refine gD 6 ?_); refine bxe_ 6 #[.int .i64 0, .nilFunc, .nilFunc] 105 ?_; intro gr hgr w2 hbox hb; have BR := A_ hbox; have GR := gs_ w hgr; replace HB := bs_ hb; clear hb hbox hgr; have ZR := bz3_ BR))
      go_ret2; exact ⟨re_, hs_⟩
    rw [if_neg c3] at h
    have k3 := decide_eq_false c3; have k3b : (i == wrap64 (kcount kind.toNat - 1)) = false := beq_eq_false_iff_ne.mpr c3; have k3c : (i == IntKind.i64.wrap (kcount kind.toNat - 1)) = false := by (rw [i64_w]; exact k3b)
    clear c3
    obtain ⟨t, ht, h2⟩ := Option.bind_eq_some_iff.mp h
    obtain rfl := Option.some.inj h2
    unfold unit_begins.f at ht
    by_cases c3 : kind.toNat = 0
    · rw [if_pos c3] at ht
      obtain rfl := Option.some.inj ht
      have C3 := A_ c3
      clear c1 c2 c3 h h2 ht hk
      go_enter Tryz.func132, Tryz.ntmps132
      go_wp2_with (first | ((with_reducible refine gD 10 ?_); refine gL 10 Tryz.func95 #[.int .i64 kind] ?_; (with_reducible refine (unit_find_kinds kind _ KB.out).mono ?_); rintro e1 w1 ⟨v1, v2, rfl, hW, hb⟩; rw [C3.out] at hW; obtain ⟨rfl, rfl⟩ := hW; refine ⟨_, rfl, ?_⟩; replace HB := bs_ hb; clear hb) | ((with_reducible refine gD 6 ?_); refine bxe_ 6 #[.int .i64 0, .nilFunc, .nilFunc] 105 ?_; intro gr hgr w2 hbox hb; have BR := A_ hbox; have GR := gs_ w hgr; replace HB := bs_ hb; clear hb hbox hgr; have ZR := bz3_ BR) | (go_at_call 143; (with_reducible refine (find_1.calls (wrap64 (i + 1)) _).mono ?_); rintro e1 w3 ⟨rfl, hb⟩; replace HB := bs_ hb; clear hb))
      go_ret2; exact ⟨re_, hs_⟩
    rw [if_neg c3] at ht
    have C3 := A_ c3
    have C5 := A_ (show kind.toNat ≤ 5 by omega)
    have HT := A_ ht
    clear c1 c2 c3 h h2 ht hk
    go_enter Tryz.func132, Tryz.ntmps132
    go_wp2_with (first | ((with_reducible refine gD 10 ?_); refine gL 10 Tryz.func95 #[.int .i64 kind] ?_; (with_reducible refine (unit_find_kinds kind _ KB.out).mono ?_); rintro e1 w1 ⟨v1, v2, rfl, hW, hb⟩; obtain ⟨b, s, d, rfl, rfl, hW1, hW2, hW3⟩ := hW.pos C3.out; rw [if_pos C5.out] at hW2; have W1 := A_ hW1; have W2 := A_ hW2; have W3 := A_ hW3; clear hW hW1 hW2 hW3; refine ⟨_, rfl, ?_⟩; replace HB := bs_ hb; clear hb) | ((with_reducible refine gD 6 ?_); refine bxe_ 6 #[.int .i64 0, .nilFunc, .nilFunc] 105 ?_; intro gr hgr w2 hbox hb; have BR := A_ hbox; have GR := gs_ w hgr; have nbr : b ≠ gr := (by rw [hgr]; exact Nat.ne_of_lt (blk_lt W1.out)); have nsr : s ≠ gr := (by rw [hgr]; exact Nat.ne_of_lt (blk_lt W2.out)); have ndr : d ≠ gr := (by rw [hgr]; exact Nat.ne_of_lt (blk_lt W3.out)); replace W1 := A_ (blk_below W1.out hb); replace W2 := A_ (blk_below W2.out hb); replace W3 := A_ (blk_below W3.out hb); replace HB := bs_ hb; clear hb hbox hgr; have ZR := bz3_ BR) | (go_at_call 183; (with_reducible refine (of_1.calls (km kind.toNat) (kf kind.toNat) (kcount kind.toNat) (wrap64 (i + 1)) t b s _ (far_ _ _ (far_ _ _ (far_ _ _ W1.out nbr) nbr) nbr) (far_ _ _ (far_ _ _ (far_ _ _ W2.out nsr) nsr) nsr) tl_ HT.out).mono ?_); rintro e1 w3 ⟨rfl, hb⟩; replace HB := bs_ hb; clear hb))
    go_ret2; exact ⟨re_, hs_⟩
  · rw [if_neg hk] at h
    obtain rfl := Option.some.inj h
    have KB := A_ (kind_bad hk); clear hk h
    go_enter Tryz.func132, Tryz.ntmps132
    go_wp2_with (first | ((with_reducible refine gD 10 ?_); refine gL 10 Tryz.func95 #[.int .i64 kind] ?_; (with_reducible refine (unit_find_none kind _ KB.out).mono ?_); rintro e1 w1 ⟨rfl, hb⟩; refine ⟨_, rfl, ?_⟩; replace HB := bs_ hb; clear hb) | ((with_reducible refine gD 6 ?_); refine bxe_ 6 #[.int .i64 0, .nilFunc, .nilFunc] 105 ?_; intro gr hgr w2 hbox hb; have BR := A_ hbox; have GR := gs_ w hgr; replace HB := bs_ hb; clear hb hbox hgr; have ZR := bz3_ BR))
    go_ret2; exact ⟨re_, hs_⟩
theorem unit_Last.calls (a0 a1 r1 : Int) (r2 : Bool) (w : World) (htab : TL w.heap.size w) (h : unit_Last.f a0 a1 = some (r1, r2)) : Calls Tryz.prog 132 #[.int .i64 a0, .int .i64 a1] w fun e w' => e = .returned (.tuple #[.int .i64 r1, .bool r2]) ∧ Below w.heap.size w w' := unit_Last.callsP a0 a1 (r1, r2) w htab h
end Go.Proofs.YthppfagfmjchoaaGreatDoor.A
namespace Go.Proofs.YthppfagfmjchoaaGreatDoor.A
open Go.RowKit Go.Proofs.YthppfagfmjchoaaGreatDoorW.PrintWords Go.Proofs.YthppfagfmjchoaaGreatDoorW.PrintLast Go.Proofs.YthppfagfmjchoaaGreatDoorW.PrintMore
attribute [local go_sem] max2_int min2_int max_two min_two max_three min_three max_four min_four
def image_Cover.l0 : Nat → Int → List (S71) → List (S71) → Int → Int → Option ((List (S71)))
  | 0, _, _, _, _, _ => none
  | k + 1, x0, x5, x14, x15, x16 => if x16 < x15 then (if 0 ≤ x16 then (if x16 < (x14.length : Int) then ((unit_First.f x0 ((rd_T71 x14 x16).f0)).bind fun bt110 => ((unit_Last.f x0 ((rd_T71 x14 x16).f1)).bind fun bt112 => (if x5.length < 8796093022208 then (image_Cover.l0 k x0 (x5 ++ [(⟨bt110.1, bt112.1⟩ : S71)]) x14 x15 (wrap64 (x16 + 1))) else (none)))) else (none)) else (none)) else ((runs_Make.f x5).bind fun t117 => (some t117))
def image_Cover.f (k : Nat) (a0 : Int) (l1 : List (S71)) : Option ((List (S71))) := (image_units.f k a0 l1).bind fun t105 => (image_Cover.l0 k a0 ([] : List (S71)) t105 (t105.length : Int) 0)
theorem image_Cover.mono_l : ∀ k, (∀ y0 y1 y2 y3 y4, LeO (image_Cover.l0 k y0 y1 y2 y3 y4) (image_Cover.l0 (k + 1) y0 y1 y2 y3 y4))
  | 0 => fun _ _ _ _ _ r h => by simp [image_Cover.l0] at h
  | k + 1 => by
    have ih0 := image_Cover.mono_l k
    · intro y0 y1 y2 y3 y4
      unfold image_Cover.l0
      repeat' first
      | (with_reducible exact ih0 _ _ _ _ _)
      | (with_reducible exact image_units.mono _ _ _)
      | (with_reducible exact LeO.refl _)
      | (with_reducible exact LeO.none _)
      | (with_reducible refine LeO.ite ?_ ?_)
      | (with_reducible refine LeO.bind ?_ (fun _ => ?_))
      | exact ih0 _ _ _ _ _
      | exact image_units.mono _ _ _
      | exact LeO.none _
      | refine LeO.ite ?_ ?_
      | refine LeO.bind ?_ (fun _ => ?_)
theorem image_Cover.mono : ∀ a0 a1 k, LeO (image_Cover.f k a0 a1) (image_Cover.f (k + 1) a0 a1) := by
  intro a0 a1 k
  have ih0 := image_Cover.mono_l k
  unfold image_Cover.f
  repeat' first
      | (with_reducible exact ih0 _ _ _ _ _)
      | (with_reducible exact image_units.mono _ _ _)
      | (with_reducible exact LeO.refl _)
      | (with_reducible exact LeO.none _)
      | (with_reducible refine LeO.ite ?_ ?_)
      | (with_reducible refine LeO.bind ?_ (fun _ => ?_))
      | exact ih0 _ _ _ _ _
      | exact image_units.mono _ _ _
      | exact LeO.none _
      | refine LeO.ite ?_ ?_
      | refine LeO.bind ?_ (fun _ => ?_)
def sets_Wide.f (k : Nat) (l0 : List (S71)) : Option (Bool) := (sets_known.f k l0).bind fun t123 => (some (decide ((t123.length : Int) > 400)))
theorem sets_Wide.mono : ∀ a0 k, LeO (sets_Wide.f k a0) (sets_Wide.f (k + 1) a0) := by
  intro a0 k
  unfold sets_Wide.f
  repeat' first
      | (with_reducible exact sets_known.mono _ _)
      | (with_reducible exact LeO.refl _)
      | (with_reducible exact LeO.none _)
      | (with_reducible refine LeO.ite ?_ ?_)
      | (with_reducible refine LeO.bind ?_ (fun _ => ?_))
      | exact sets_known.mono _ _
      | exact LeO.none _
      | refine LeO.ite ?_ ?_
      | refine LeO.bind ?_ (fun _ => ?_)
def okB (c : UInt8) : Bool := decide (48 ≤ c.toNat ∧ c.toNat ≤ 57 ∨ c.toNat = 88)
def saneL (l : List UInt8) : Bool := l.all okB && decide (l ≠ []) && decide (l.length ≤ 4)
def mask_Sane.f (s : ByteArray) : Option Bool := some (saneL s.data.toList)
def upto (lo : Int) : Nat → List Int
  | 0 => []
  | n + 1 => lo :: upto (lo + 1) n
def stepR (c : UInt8) (r : S71) : List S71 := if c.toNat = 88 then [⟨r.f0 * 10, r.f1 * 10 + 9⟩] else (upto r.f0 (r.f1 + 1 - r.f0).toNat).map fun n => ⟨n * 10 + ((c.toNat : Int) - 48), n * 10 + ((c.toNat : Int) - 48)⟩
def setL : List UInt8 → List S71 → List S71
  | [], out => out
  | c :: l, out => setL l (out.flatMap (stepR c))
def mask_Set.f (s : ByteArray) : Option (List S71) := some (if saneL s.data.toList = true then setL s.data.toList [⟨0, 0⟩] else [])
mutual
def point_numbers.l0 : Nat → List Int → List (S71) → Int → Int → Option (List Int)
  | 0, _, _, _, _ => none
  | k + 1, x5, x12, x13, x14 => if x14 < x13 then (if 0 ≤ x14 then (if x14 < (x12.length : Int) then (point_numbers.l1 k x5 ((rd_T71 x12 x14).f0) x12 x13 x14 ((rd_T71 x12 x14).f0) ((rd_T71 x12 x14).f1)) else (none)) else (none)) else (some x5)
def point_numbers.l1 : Nat → List Int → Int → List (S71) → Int → Int → Int → Int → Option (List Int)
  | 0, _, _, _, _, _, _, _ => none
  | k + 1, x5, x8, x12, x13, x14, x139000, x139001 => if x8 ≤ x139001 then (if x5.length < 17592186044416 then (point_numbers.l1 k (x5 ++ [x8]) (wrap64 (x8 + 1)) x12 x13 x14 x139000 x139001) else (none)) else (point_numbers.l0 k x5 x12 x13 (wrap64 (x14 + 1)))
end
def point_numbers.f (k : Nat) (a0 : ByteArray) (a1 : Int) : Option (List Int) := (mask_Set.f a0).bind fun t131 => ((sets_Clip.f k t131 1 a1).bind fun t134 => (point_numbers.l0 k ([] : List Int) t134 (t134.length : Int) 0))
theorem point_numbers.mono_l : ∀ k, (∀ y0 y1 y2 y3, LeO (point_numbers.l0 k y0 y1 y2 y3) (point_numbers.l0 (k + 1) y0 y1 y2 y3)) ∧ (∀ y0 y1 y2 y3 y4 y5 y6, LeO (point_numbers.l1 k y0 y1 y2 y3 y4 y5 y6) (point_numbers.l1 (k + 1) y0 y1 y2 y3 y4 y5 y6))
  | 0 => ⟨fun _ _ _ _ r h => by simp [point_numbers.l0] at h, fun _ _ _ _ _ _ _ r h => by simp [point_numbers.l1] at h⟩
  | k + 1 => by
    obtain ⟨ih0, ih1⟩ := point_numbers.mono_l k
    refine ⟨?_, ?_⟩
    · intro y0 y1 y2 y3
      unfold point_numbers.l0
      repeat' (with_reducible first | apply ih0 | apply ih1 | apply sets_Clip.mono | exact LeO.refl _ | exact LeO.none _ | refine LeO.ite ?_ ?_ | refine LeO.bind ?_ fun _ => ?_)
    · intro y0 y1 y2 y3 y4 y5 y6
      unfold point_numbers.l1
      repeat' (with_reducible first | apply ih0 | apply ih1 | apply sets_Clip.mono | exact LeO.refl _ | exact LeO.none _ | refine LeO.ite ?_ ?_ | refine LeO.bind ?_ fun _ => ?_)
theorem point_numbers.mono : ∀ a0 a1 k, LeO (point_numbers.f k a0 a1) (point_numbers.f (k + 1) a0 a1) := by
  intro a0 a1 k
  obtain ⟨ih0, ih1⟩ := point_numbers.mono_l k
  unfold point_numbers.f
  repeat' (with_reducible first | apply ih0 | apply ih1 | apply sets_Clip.mono | exact LeO.refl _ | exact LeO.none _ | refine LeO.ite ?_ ?_ | refine LeO.bind ?_ fun _ => ?_)
mutual
def point_days.l0 : Nat → Int → List Int → List (S71) → List Int → Int → Int → Option ((List (S71)))
  | 0, _, _, _, _, _, _ => none
  | k + 1, x0, x2, x7, x14, x15, x16 => if x16 < x15 then (if 0 ≤ x16 then (if x16 < (x14.length : Int) then ((civil_Number.f x0 (rd x14 x16) 1).bind fun bt105 => (point_days.l1 k x0 x2 x7 (rd x14 x16) bt105.1 x14 x15 x16 x2 (x2.length : Int) 0)) else (none)) else (none)) else ((runs_Make.f x7).bind fun t101 => (some t101))
def point_days.l1 : Nat → Int → List Int → List (S71) → Int → Int → List Int → Int → Int → List Int → Int → Int → Option ((List (S71)))
  | 0, _, _, _, _, _, _, _, _, _, _, _ => none
  | k + 1, x0, x2, x7, x9, x10, x14, x15, x16, x26, x27, x28 => if x28 < x27 then (if 0 ≤ x28 then (if x28 < (x26.length : Int) then ((civil_Days.f x0 x9).bind fun t108 => (if (rd x26 x28) ≤ t108 then (if x7.length < 8796093022208 then (point_days.l1 k x0 x2 (x7 ++ [(⟨wrap64 ((wrap64 (x10 + (rd x26 x28))) - 1), wrap64 ((wrap64 (x10 + (rd x26 x28))) - 1)⟩ : S71)]) x9 x10 x14 x15 x16 x26 x27 (wrap64 (x28 + 1))) else (none)) else (point_days.l1 k x0 x2 x7 x9 x10 x14 x15 x16 x26 x27 (wrap64 (x28 + 1))))) else (none)) else (none)) else (point_days.l0 k x0 x2 x7 x14 x15 (wrap64 (x16 + 1)))
end
def point_days.f (k : Nat) (a0 : Int) (l1 : List Int) (l2 : List Int) : Option ((List (S71))) := point_days.l0 k a0 l2 ([] : List (S71)) l1 (l1.length : Int) 0
theorem point_days.mono_l : ∀ k, (∀ y0 y1 y2 y3 y4 y5, LeO (point_days.l0 k y0 y1 y2 y3 y4 y5) (point_days.l0 (k + 1) y0 y1 y2 y3 y4 y5)) ∧ (∀ y0 y1 y2 y3 y4 y5 y6 y7 y8 y9 y10, LeO (point_days.l1 k y0 y1 y2 y3 y4 y5 y6 y7 y8 y9 y10) (point_days.l1 (k + 1) y0 y1 y2 y3 y4 y5 y6 y7 y8 y9 y10))
  | 0 => ⟨fun _ _ _ _ _ _ r h => by simp [point_days.l0] at h, fun _ _ _ _ _ _ _ _ _ _ _ r h => by simp [point_days.l1] at h⟩
  | k + 1 => by
    obtain ⟨ih0, ih1⟩ := point_days.mono_l k
    refine ⟨?_, ?_⟩
    · intro y0 y1 y2 y3 y4 y5
      unfold point_days.l0
      repeat' first
      | (with_reducible exact ih0 _ _ _ _ _ _)
      | (with_reducible exact ih1 _ _ _ _ _ _ _ _ _ _ _)
      | (with_reducible exact LeO.refl _)
      | (with_reducible exact LeO.none _)
      | (with_reducible refine LeO.ite ?_ ?_)
      | (with_reducible refine LeO.bind ?_ (fun _ => ?_))
      | exact ih0 _ _ _ _ _ _
      | exact ih1 _ _ _ _ _ _ _ _ _ _ _
      | exact LeO.none _
      | refine LeO.ite ?_ ?_
      | refine LeO.bind ?_ (fun _ => ?_)
    · intro y0 y1 y2 y3 y4 y5 y6 y7 y8 y9 y10
      unfold point_days.l1
      repeat' first
      | (with_reducible exact ih0 _ _ _ _ _ _)
      | (with_reducible exact ih1 _ _ _ _ _ _ _ _ _ _ _)
      | (with_reducible exact LeO.refl _)
      | (with_reducible exact LeO.none _)
      | (with_reducible refine LeO.ite ?_ ?_)
      | (with_reducible refine LeO.bind ?_ (fun _ => ?_))
      | exact ih0 _ _ _ _ _ _
      | exact ih1 _ _ _ _ _ _ _ _ _ _ _
      | exact LeO.none _
      | refine LeO.ite ?_ ?_
      | refine LeO.bind ?_ (fun _ => ?_)
theorem point_days.mono : ∀ a0 a1 a2 k, LeO (point_days.f k a0 a1 a2) (point_days.f (k + 1) a0 a1 a2) := by
  intro a0 a1 a2 k
  obtain ⟨ih0, ih1⟩ := point_days.mono_l k
  unfold point_days.f
  repeat' first
      | (with_reducible exact ih0 _ _ _ _ _ _)
      | (with_reducible exact ih1 _ _ _ _ _ _ _ _ _ _ _)
      | (with_reducible exact LeO.refl _)
      | (with_reducible exact LeO.none _)
      | (with_reducible refine LeO.ite ?_ ?_)
      | (with_reducible refine LeO.bind ?_ (fun _ => ?_))
      | exact ih0 _ _ _ _ _ _
      | exact ih1 _ _ _ _ _ _ _ _ _ _ _
      | exact LeO.none _
      | refine LeO.ite ?_ ?_
      | refine LeO.bind ?_ (fun _ => ?_)
theorem width_pos (s : ByteArray) (pos : Nat) (h : pos < s.size) : 1 ≤ (Utf8.decode s pos).2 := by
  by_cases ha : (s[pos]'h).toNat < 128
  · rw [decode_ascii s pos h ha]
    exact Nat.le_refl _
  · exact (decode_high s pos h (by omega)).2
theorem at_list (s : ByteArray) (pos : Nat) (h : pos < s.size) : s.data.toList[pos]? = some (s[pos]'h) := by
  rw [List.getElem?_eq_getElem (by simpa using h)]
  simp [ByteArray.getElem_eq_getElem_data]
theorem drop_at (s : ByteArray) (pos : Nat) (h : pos < s.size) : s.data.toList.drop pos = (s[pos]'h) :: s.data.toList.drop (pos + 1) := by
  have h1 : pos < s.data.toList.length := by simpa using h
  rw [List.drop_eq_getElem_cons h1]
  congr 1
theorem below_iter (w : World) (s : ByteArray) (pos : Nat) : Below w.heap.size w (w.iter s pos) := below_alloc (Below.refl _ _) _
set_option maxHeartbeats 4000000 in
set_option maxRecDepth 1000000 in
theorem mask_Sane.calls (a0 : ByteArray) (r : Bool) (w : World) (h : mask_Sane.f a0 = some r) :
    Calls Tryz.prog 65 #[.string a0] w fun e w' => e = .returned (.bool r) ∧ Below w.heap.size w w' := by
  obtain rfl := Option.some.inj h
  clear h
  go_enter Tryz.func65, Tryz.ntmps65
  go_wp2
  go_loopw [] (fun w' => ∃ pos : Nat, w' = w.iter a0 pos ∧ saneL a0.data.toList = ((a0.data.toList.drop pos).all okB && decide (a0.data.toList ≠ []) && decide (a0.data.toList.length ≤ 4))) (fun w' => a0.size - w'.iterPos w.heap.size)
  case atStart => exact ⟨0, rfl, rfl⟩
  case round =>
    obtain ⟨pos, rfl, hs⟩ := hrel
    by_cases hp : pos < a0.size
    · have hnx : ∀ ty, (Instr.next (.pointer (some ⟨w.heap.size, 0, none⟩)) true ty).run Tryz.prog (w.iter a0 pos) = _ := fun ty => run_next_any w a0 pos ty hp
      have hwd := width_pos a0 pos hp
      rw [drop_at a0 pos hp, List.all_cons] at hs
      have hb : okB (a0[pos]'hp) = true → Utf8.decode a0 pos = ((a0[pos]'hp).toNat, 1) := fun h => decode_ascii a0 pos hp (by have := of_decide_eq_true h; omega)
      have hn : okB (a0[pos]'hp) = false → ((Utf8.decode a0 pos).1 < 48 ∨ 57 < (Utf8.decode a0 pos).1) ∧ (Utf8.decode a0 pos).1 ≠ 88 := fun h => by
        have h := of_decide_eq_false h
        by_cases ha : (a0[pos]'hp).toNat < 128
        · rw [decode_ascii a0 pos hp ha]; simp only; omega
        · have := (decode_high a0 pos hp (by omega)).1; omega
      generalize hc : ((Utf8.decode a0 pos).1 : Int) = c at hnx
      by_cases hk : okB (a0[pos]'hp) = true
      · have hd := hb hk
        have hk2 := of_decide_eq_true hk
        rw [hd] at hc
        simp only at hc
        have d1 : decide (c < 48) = false := decide_eq_false (by omega)
        rw [hk, Bool.true_and] at hs
        by_cases h88 : c = 88
        · have d2 : decide (57 < c) = true := decide_eq_true (by omega)
          have d3 : (c != 88) = false := by subst h88; rfl
          go_wp2
          go_roundw
          case rel => exact ⟨pos + 1, rfl, hs⟩
          case measure => simp; omega
        · have d2 : decide (57 < c) = false := decide_eq_false (by omega)
          go_wp2
          go_roundw
          case rel => exact ⟨pos + 1, rfl, hs⟩
          case measure => simp; omega
      · have hk := Bool.eq_false_iff.mpr hk
        have hf : saneL a0.data.toList = false := by rw [hs, hk]; rfl
        obtain ⟨h1, h2⟩ := hn hk
        have d3 : (c != 88) = true := by rw [bne_iff_ne]; omega
        by_cases h48 : c < 48
        · have d1 : decide (c < 48) = true := decide_eq_true h48
          go_wp2
          go_ret
          exact ⟨by first | rfl | (rw [hf]; rfl), below_iter _ _ _⟩
        · have d1 : decide (c < 48) = false := decide_eq_false h48
          have d2 : decide (57 < c) = true := decide_eq_true (by omega)
          go_wp2
          go_ret
          exact ⟨by first | rfl | (rw [hf]; rfl), below_iter _ _ _⟩
    · have hnx : ∀ ty, (Instr.next (.pointer (some ⟨w.heap.size, 0, none⟩)) true ty).run Tryz.prog (w.iter a0 pos) = _ := fun ty => run_next_end w a0 pos ty hp
      rw [List.drop_eq_nil_of_le (by simpa using hp)] at hs
      simp only [List.all_nil, Bool.true_and] at hs
      have HS := A_ hs
      clear hs
      go_wp2
      · rename_i he
        rw [ByteArray.toList_eq] at he
        have hf : saneL a0.data.toList = false := by rw [HS.out, he]; rfl
        go_ret
        exact ⟨by first | rfl | (rw [hf]; rfl), below_iter _ _ _⟩
      · rename_i he
        rw [ByteArray.toList_eq] at he
        have hsz : a0.size = a0.data.toList.length := by simp
        have he3 : a0.toList.isEmpty = false := by rw [ByteArray.toList_eq]; cases hl : a0.data.toList <;> simp_all
        have hf : saneL a0.data.toList = decide ((a0.size : Int) ≤ 4) := by
          rw [HS.out, decide_eq_true he, Bool.true_and, hsz]
          exact decide_eq_decide.2 (by omega)
        clear he hsz HS
        go_ret
        exact ⟨by first | rfl | (rw [hf]; rfl) | (rw [hf, he3]; rfl) | (rw [hf]; simp [he3]), below_iter _ _ _⟩
end Go.Proofs.YthppfagfmjchoaaGreatDoor.A
namespace Go.Proofs.YthppfagfmjchoaaGreatDoor.A.B
open Go.RowKit Go.Proofs.YthppfagfmjchoaaGreatDoorW.PrintWords Go.Proofs.YthppfagfmjchoaaGreatDoorW.PrintLast Go.Proofs.YthppfagfmjchoaaGreatDoorW.PrintMore
attribute [local go_sem] max2_int min2_int max_two min_two max_three min_three max_four min_four
mutual
def mask_Set.l0 : Nat → Int → List (S71) → List (S71) → Int → Int → Option ((List (S71)))
  | 0, _, _, _, _, _ => none
  | k + 1, x5, x6, x21, x22, x23 => if x23 < x22 then (if 0 ≤ x23 then (if x23 < (x21.length : Int) then (if x5 = 88 then (if x6.length < 8796093022208 then (mask_Set.l0 k x5 (x6 ++ [(⟨wrap64 (((rd_T71 x21 x23).f0) * 10), wrap64 ((wrap64 (((rd_T71 x21 x23).f1) * 10)) + 9)⟩ : S71)]) x21 x22 (wrap64 (x23 + 1))) else (none)) else (mask_Set.l1 k x5 x6 ((rd_T71 x21 x23).f0) x21 x22 x23 ((rd_T71 x21 x23).f0) ((rd_T71 x21 x23).f1))) else (none)) else (none)) else (some x6)
def mask_Set.l1 : Nat → Int → List (S71) → Int → List (S71) → Int → Int → Int → Int → Option ((List (S71)))
  | 0, _, _, _, _, _, _, _, _ => none
  | k + 1, x5, x6, x9, x21, x22, x23, x103000, x103001 => if x9 ≤ x103001 then (if x6.length < 8796093022208 then (mask_Set.l1 k x5 (x6 ++ [(⟨wrap64 ((wrap64 (x9 * 10)) + (wrap64 (wrap32 (x5 - 48)))), wrap64 ((wrap64 (x9 * 10)) + (wrap64 (wrap32 (x5 - 48))))⟩ : S71)]) (wrap64 (x9 + 1)) x21 x22 x23 x103000 x103001) else (none)) else (mask_Set.l0 k x5 x6 x21 x22 (wrap64 (x23 + 1)))
end
def mask_Set.f (k : Nat) (l0 : List (S71)) (a1 : Int) : Option ((List (S71))) := mask_Set.l0 k a1 ([] : List (S71)) l0 (l0.length : Int) 0
end Go.Proofs.YthppfagfmjchoaaGreatDoor.A.B
namespace Go.Proofs.YthppfagfmjchoaaGreatDoor.A
open Go.RowKit Go.Proofs.YthppfagfmjchoaaGreatDoorW.PrintWords Go.Proofs.YthppfagfmjchoaaGreatDoorW.PrintLast Go.Proofs.YthppfagfmjchoaaGreatDoorW.PrintMore
attribute [local go_sem] max2_int min2_int max_two min_two max_three min_three max_four min_four
def itset (w : World) (g : Nat) (s : ByteArray) (pos : Nat) : World := { w with heap := w.heap.setIfInBounds g (.stringIter s pos) }
theorem itset_size (w : World) (g : Nat) (s : ByteArray) (pos : Nat) : (itset w g s pos).heap.size = w.heap.size := by simp [itset]
theorem itset_at {w : World} {g : Nat} {s : ByteArray} {pos q : Nat} (h : w.heap[g]? = some (.stringIter s q)) : (itset w g s pos).heap[g]? = some (.stringIter s pos) := by
  have := (Array.getElem?_eq_some_iff.1 h).1
  simp [itset, this]
theorem itset_ne (w : World) (g : Nat) (s : ByteArray) (pos : Nat) {k : Nat} (h : k ≠ g) : (itset w g s pos).heap[k]? = w.heap[k]? := by
  simp [itset, Array.getElem?_setIfInBounds, Ne.symm h]
theorem itset_below {B : Nat} {w0 w : World} {g : Nat} {s : ByteArray} {pos : Nat} (h : Below B w0 w) (hg : B ≤ g) : Below B w0 (itset w g s pos) :=
  ⟨h.os, h.tape, h.output, by rw [itset_size]; exact h.size, fun k hk => (itset_ne w g s pos (by omega)).trans (h.block k hk)⟩
theorem itset_keep (w : World) (g : Nat) (s : ByteArray) (pos : Nat) : KeepBut w (itset w g s pos) g none := ⟨by rw [itset_size]; exact Nat.le_refl _, fun k _ hk _ => itset_ne w g s pos hk⟩
theorem run_next_at {P : Program} {w : World} {g : Nat} {s : ByteArray} {pos : Nat} (ty : TypeId) (hg : w.heap[g]? = some (.stringIter s pos)) (h : pos < s.size) (ha : (s[pos]'h).toNat < 128) :
    (Instr.next (.pointer (some ⟨g, 0, none⟩)) true ty).run P w = .ok (.tuple #[.bool true, .int .i64 pos, .int .i32 (s[pos]'h).toNat]) (itset w g s (pos + 1)) := by
  simp only [Instr.next, getObj, setObj, Sem.run_bind, Sem.run, hg, Result.andThen, h, if_true, decode_ascii s pos h ha]
  simp [goInt, Sem.run, hg, itset]
theorem run_next_done {P : Program} {w : World} {g : Nat} {s : ByteArray} {pos : Nat} (ty : TypeId) (hg : w.heap[g]? = some (.stringIter s pos)) (h : ¬ pos < s.size) :
    (Instr.next (.pointer (some ⟨g, 0, none⟩)) true ty).run P w = .ok (.tuple #[.bool false]) w := by
  simp [Instr.next, getObj, Sem.run, hg, h]
theorem k71_E : k71.E = [] := rfl
theorem ok_of {s : ByteArray} (h : mask_Sane.f s = some true) : ∀ (pos : Nat) (hp : pos < s.size), 48 ≤ (s[pos]'hp).toNat ∧ (s[pos]'hp).toNat ≤ 57 ∨ (s[pos]'hp).toNat = 88 := fun pos hp => by
  have h := Option.some.inj h
  unfold saneL at h
  simp only [Bool.and_eq_true] at h
  have h2 := List.all_eq_true.1 h.1.1 (s[pos]'hp) (List.mem_of_getElem? (at_list s pos hp))
  exact of_decide_eq_true h2
theorem w64 {x : Int} (h1 : -9223372036854775808 ≤ x) (h2 : x ≤ 9223372036854775807) : wrap64 x = x := by unfold wrap64; omega
theorem at_rd (p : List S71) (r : S71) (t : List S71) : rd_T71 (p ++ r :: t) (p.length : Int) = r := by simp [rd_T71]
theorem at_lt {α : Type} (p : List α) (r : α) (t : List α) : (p.length : Int) < ((p ++ r :: t).length : Int) := by simp; omega
theorem at_end {α : Type} (p : List α) : ¬ (p.length : Int) < ((p ++ []).length : Int) := by simp
theorem at_0 {α : Type} (p : List α) : 0 ≤ (p.length : Int) := Int.natCast_nonneg _
theorem at_next {α : Type} {p : List α} {r : α} {t : List α} (h : (p ++ r :: t).length ≤ 4611686018427387904) : wrap64 ((p.length : Int) + 1) = ((p ++ [r]).length : Int) := by
  simp at h
  rw [w64 (by omega) (by omega)]
  simp
theorem at_app {α : Type} (p : List α) (r : α) (t : List α) : p ++ r :: t = (p ++ [r]) ++ t := by simp
theorem Ev.eq {α : Type} {g : Nat → Option α} {r q : α} (h : Ev g r) (e : r = q) : Ev g q := e ▸ h
def one (c n : Int) : S71 := ⟨n * 10 + (c - 48), n * 10 + (c - 48)⟩
theorem upto_len (lo : Int) : ∀ n, (upto lo n).length = n
  | 0 => rfl
  | n + 1 => by rw [upto, List.length_cons, upto_len (lo + 1) n]
theorem set_l1 (c : Int) (hc : 48 ≤ c ∧ c ≤ 57) (x : List S71) (len i lo hi : Int) (hhi : hi < 1000) (z : List S71) : ∀ (m : Nat) (n : Int) (acc : List S71), 0 ≤ n → n + m = hi + 1 → acc.length + m < 8796093022208 →
    Ev (fun k => B.mask_Set.l0 k c (acc ++ (upto n m).map (one c)) x len (wrap64 (i + 1))) z → Ev (fun k => B.mask_Set.l1 k c acc n x len i lo hi) z
  | 0, n, acc, h0, hm, hl, h => by
    simp only [upto, List.map_nil, List.append_nil] at h
    refine Ev.step (fun k => ?_) h
    rw [B.mask_Set.l1, if_neg (by omega)]
  | m + 1, n, acc, h0, hm, hl, h => by
    have e : acc ++ (upto n (m + 1)).map (one c) = (acc ++ [one c n]) ++ (upto (n + 1) m).map (one c) := by rw [upto]; simp
    rw [e] at h
    have ih := set_l1 c hc x len i lo hi hhi z m (n + 1) (acc ++ [one c n]) (by omega) (by omega) (by rw [List.length_append, List.length_singleton]; omega) h
    refine Ev.step (fun k => ?_) ih
    have w1 : wrap32 (c - 48) = c - 48 := by unfold wrap32; omega
    rw [B.mask_Set.l1, if_pos (by omega), if_pos (by omega), w1, w64 (x := n * 10) (by omega) (by omega), w64 (x := c - 48) (by omega) (by omega), w64 (x := n * 10 + (c - 48)) (by omega) (by omega), w64 (x := n + 1) (by omega) (by omega)]
    rfl
def fine (out : List S71) (b : Int) : Prop := ∀ r, r ∈ out → 0 ≤ r.f0 ∧ r.f0 ≤ r.f1 ∧ r.f1 < b
theorem set_l0 (c : UInt8) (hc : 48 ≤ c.toNat ∧ c.toNat ≤ 57 ∨ c.toNat = 88) : ∀ (t p acc : List S71), fine t 1000 → (p ++ t).length < 1000000 → acc.length + t.length * 1000 < 100000000 →
    Ev (fun k => B.mask_Set.l0 k (c.toNat : Int) acc (p ++ t) ((p ++ t).length : Int) (p.length : Int)) (acc ++ t.flatMap (stepR c))
  | [], p, acc, _, _, _ => by
    refine Ev.step (f := fun _ => some (acc ++ [].flatMap (stepR c))) (fun k => ?_) (Ev.now _)
    rw [B.mask_Set.l0, if_neg (at_end p)]; simp
  | r :: t, p, acc, hf, hn, hl => by
    simp only [List.length_cons] at hl
    obtain ⟨f1, f2, f3⟩ := hf r List.mem_cons_self
    have hft : fine t 1000 := fun q hq => hf q (List.mem_cons_of_mem _ hq)
    by_cases h88 : c.toNat = 88
    · have ih := set_l0 c hc t (p ++ [r]) (acc ++ stepR c r) hft (by rw [← at_app]; exact hn) (by unfold stepR; rw [if_pos h88]; simp; omega)
      rw [← at_app] at ih
      refine Ev.eq (Ev.step (fun k => ?_) ih) (by simp)
      rw [B.mask_Set.l0, if_pos (at_lt p r t), if_pos (at_0 p), if_pos (at_lt p r t), if_pos (by omega), if_pos (by omega), at_rd, at_next (p := p) (r := r) (t := t) (by omega), w64 (x := r.f0 * 10) (by omega) (by omega), w64 (x := r.f1 * 10) (by omega) (by omega), w64 (x := r.f1 * 10 + 9) (by omega) (by omega)]
      unfold stepR
      rw [if_pos h88]
    · have hlen : (stepR c r).length = (r.f1 + 1 - r.f0).toNat := by unfold stepR; rw [if_neg h88, List.length_map, upto_len]
      have ih := set_l0 c hc t (p ++ [r]) (acc ++ stepR c r) hft (by rw [← at_app]; exact hn) (by rw [List.length_append, hlen]; omega)
      rw [← at_app] at ih
      have hgo := set_l1 (c.toNat : Int) (by omega) (p ++ r :: t) ((p ++ r :: t).length : Int) (p.length : Int) r.f0 r.f1 f3 (acc ++ stepR c r ++ t.flatMap (stepR c)) (r.f1 + 1 - r.f0).toNat r.f0 acc f1 (by omega) (by omega) (by
        rw [at_next (p := p) (r := r) (t := t) (by omega)]
        have e : (upto r.f0 (r.f1 + 1 - r.f0).toNat).map (one (c.toNat : Int)) = stepR c r := by unfold stepR; rw [if_neg h88]; rfl
        rw [e]
        exact ih)
      refine Ev.eq (Ev.step (fun k => ?_) hgo) (by simp)
      rw [B.mask_Set.l0, if_pos (at_lt p r t), if_pos (at_0 p), if_pos (at_lt p r t), if_neg (by omega), at_rd]
theorem set_body (c : UInt8) (hc : 48 ≤ c.toNat ∧ c.toNat ≤ 57 ∨ c.toNat = 88) (out : List S71) (hf : fine out 1000) (hl : out.length ≤ 1000) : Ev (fun k => B.mask_Set.f k out (c.toNat : Int)) (out.flatMap (stepR c)) := by
  have := set_l0 c hc out [] [] hf (by simp; omega) (by simp; omega)
  simp only [List.nil_append, List.length_nil] at this
  exact this
def lenB : Nat → Nat
  | 0 => 1
  | p + 1 => lenB p * 10 ^ p
theorem upto_mem (lo : Int) : ∀ (n : Nat) (x : Int), x ∈ upto lo n ↔ lo ≤ x ∧ x < lo + n
  | 0, x => by rw [upto]; constructor
               · intro h; cases h
               · intro h; omega
  | n + 1, x => by rw [upto, List.mem_cons, upto_mem (lo + 1) n x]; omega
theorem stepR_fine {c : UInt8} (hc : 48 ≤ c.toNat ∧ c.toNat ≤ 57 ∨ c.toNat = 88) {out : List S71} {b : Int} (h : fine out b) : fine (out.flatMap (stepR c)) (b * 10) := fun r hr => by
  obtain ⟨q, hq, hr⟩ := List.mem_flatMap.1 hr
  obtain ⟨h1, h2, h3⟩ := h q hq
  unfold stepR at hr
  by_cases h88 : c.toNat = 88
  · rw [if_pos h88] at hr
    obtain rfl := List.mem_singleton.1 hr
    simp only; omega
  · rw [if_neg h88] at hr
    obtain ⟨n, hn, rfl⟩ := List.mem_map.1 hr
    have hn := (upto_mem _ _ _).1 hn
    simp only; omega
theorem flat_len {α β : Type} (f : α → List β) (m : Nat) : ∀ l : List α, (∀ x, x ∈ l → (f x).length ≤ m) → (l.flatMap f).length ≤ l.length * m
  | [], _ => by simp
  | x :: l, h => by
    have h1 := h x List.mem_cons_self
    have h2 := flat_len f m l (fun y hy => h y (List.mem_cons_of_mem _ hy))
    rw [List.flatMap_cons, List.length_append, List.length_cons, Nat.succ_mul]
    omega
theorem stepR_len {c : UInt8} {out : List S71} {b : Nat} (hb : 1 ≤ b) (h : fine out b) : (out.flatMap (stepR c)).length ≤ out.length * b := flat_len _ _ _ fun q hq => by
  obtain ⟨h1, h2, h3⟩ := h q hq
  unfold stepR
  split
  · simp; exact hb
  · rw [List.length_map, upto_len]; omega
def setInv (s : ByteArray) (p : Nat) (out : List S71) : Prop := setL (s.data.toList.drop p) out = setL s.data.toList [⟨0, 0⟩] ∧ fine out (10 ^ p : Nat) ∧ out.length ≤ lenB p
theorem setInv_0 (s : ByteArray) : setInv s 0 [⟨0, 0⟩] := ⟨rfl, fun r hr => by obtain rfl := List.mem_singleton.1 hr; exact ⟨Int.le_refl _, Int.le_refl _, by decide⟩, by decide⟩
theorem setInv_step {s : ByteArray} {p : Nat} {out : List S71} (hp : p < s.size) (hok : 48 ≤ (s[p]'hp).toNat ∧ (s[p]'hp).toNat ≤ 57 ∨ (s[p]'hp).toNat = 88) (h : setInv s p out) : setInv s (p + 1) (out.flatMap (stepR (s[p]'hp))) := by
  obtain ⟨h1, h2, h3⟩ := h
  refine ⟨?_, ?_, ?_⟩
  · rw [← h1, drop_at s p hp]; rfl
  · have := stepR_fine hok h2
    rw [Nat.pow_succ]
    have e : (((10 ^ p * 10 : Nat)) : Int) = ((10 ^ p : Nat) : Int) * 10 := by push_cast; rfl
    rw [e]; exact this
  · have := stepR_len (c := s[p]'hp) (Nat.pow_pos (n := p) (by decide : 0 < 10)) h2
    rw [lenB]
    exact Nat.le_trans this (Nat.mul_le_mul_right _ h3)
theorem setInv_small {s : ByteArray} {p : Nat} {out : List S71} (hp : p ≤ 3) (h : setInv s p out) : fine out 1000 ∧ out.length ≤ 1000 := by
  obtain ⟨h1, h2, h3⟩ := h
  have h10 : (10 ^ p : Nat) ≤ 1000 := Nat.pow_le_pow_right (n := 10) (by decide) hp
  have hl : lenB p ≤ 1000 := by
    rcases (by omega : p = 0 ∨ p = 1 ∨ p = 2 ∨ p = 3) with rfl | rfl | rfl | rfl <;> decide
  refine ⟨fun r hr => ?_, by omega⟩
  obtain ⟨a, b, c⟩ := h2 r hr
  have : ((10 ^ p : Nat) : Int) ≤ 1000 := Int.ofNat_le.2 h10
  exact ⟨a, b, by omega⟩
theorem iterPos_of {w : World} {g : Nat} {s : ByteArray} {p : Nat} (h : w.heap[g]? = some (.stringIter s p)) : w.iterPos g = p := by unfold World.iterPos; rw [h]
set_option maxHeartbeats 8000000 in
set_option maxRecDepth 1000000 in
theorem mask_Set.calls (a0 : ByteArray) (rr : List S71) (w00 : World) (h : mask_Set.f a0 = some rr) :
    Calls Tryz.prog 54 #[.string a0] w00 fun e w' => ∃ v0_ : Value, e = .returned (v0_) ∧ Kd.R k71 71 w' w00.heap.size (fun _ => True) v0_ rr ∧ Below w00.heap.size w00 w' := by
  have huT36 := Tryz.underlying71
  obtain rfl := Option.some.inj h
  clear h
  have HB := A_ (Below.refl w00.heap.size w00)
  by_cases hs : saneL a0.data.toList = true
  rotate_left
  · have hs := Bool.eq_false_iff.mpr hs
    have AS := A_ (show mask_Sane.f a0 = some false from congrArg some hs)
    rw [hs]
    clear hs
    go_enter Tryz.func54, Tryz.ntmps54
    go_wp2_with (first | (refine gC 65 ?_; refine gL 12 Tryz.func65 #[.string a0] ?_; (with_reducible refine (mask_Sane.calls a0 false _ AS.out).mono ?_); rintro e w5 ⟨rfl, hb⟩; refine ⟨_, rfl, ?_⟩; have HB2 := bs_ hb; clear HB hb; have HB := HB2; clear HB2))
    go_ret
    exact ⟨_, rfl, Kd.R_nil _ _ _ _ _, HB.out⟩
  have AS := A_ (show mask_Sane.f a0 = some true from congrArg some hs)
  rw [if_pos hs]
  have hsz : a0.size = a0.data.toList.length := by simp
  have h4 : a0.size ≤ 4 := by rw [hsz]; unfold saneL at hs; simp only [Bool.and_eq_true, decide_eq_true_eq] at hs; exact hs.2
  have HOK := A_ (ok_of AS.out)
  have H4 := A_ h4
  clear hs hsz h4
  go_enter Tryz.func54, Tryz.ntmps54
  go_wp2_with (first | (refine gC 65 ?_; refine gL 12 Tryz.func65 #[.string a0] ?_; (with_reducible refine (mask_Sane.calls a0 true _ AS.out).mono ?_); rintro e w5 ⟨rfl, hb⟩; refine ⟨_, rfl, ?_⟩; have HB2 := bs_ hb; clear HB hb; have HB := HB2; clear HB2) | (refine gD 15 ?_; refine Kd.R_lit k71 _ 71 ?hg (N := 15) ?hd (xs := ([(⟨0, 0⟩ : S71)] : List S71)) (inner := [.int .i64 0, .int .i64 0]) (ok := fun _ => True) (okp := fun _ => True) ?hr ?hp (fun _ hk => hk) trivial (Below.refl _ _) (Nat.le_refl _) (by simp) ?_; (case hd => rfl); (case hg => rfl); (case hr => first | (go_simp; done) | (go_simp; rfl)); (case hp => exact (Reps.c2 (show Kd.M k71 _ _ _ (⟨0, 0⟩ : S71) [.int .i64 0, .int .i64 0] from (k71_mkM _ _ _ (⟨0, 0⟩ : S71) )) (Reps.none _ _))); intro v3 w13 ho14 hb hg_ hnew_; clear hg_ hnew_; have HO := A_ (Kd.R_lower ho14 (below_size hs_)); have HB2 := bs_ hb; clear HB hb ho14; have HB := HB2; clear HB2))
  obtain ⟨gi, hgi⟩ : ∃ g : Nat, g = w13.heap.size := ⟨_, rfl⟩
  have HI0 := A_ (show (w13.iter a0 0).heap[gi]? = some (.stringIter a0 0) by rw [hgi]; exact World.iter_heap w13 a0 0)
  have HO0 := A_ (show Kd.R k71 71 (w13.iter a0 0) w00.heap.size (fun k => k ≠ gi) v3 [(⟨0, 0⟩ : S71)] from Kd.R_alloc (Kd.R_reok k71_E HO.out (fun k hk => by
    have := Kd.R_lt HO.out
    have h := this k hk
    omega)) _)
  have HB0 := A_ (show Below w00.heap.size w00 (w13.iter a0 0) from below_alloc HB.out _)
  have HG0 := A_ (show w00.heap.size ≤ gi by rw [hgi]; exact HB.out.size)
  rw [← hgi]
  clear HO HB hgi
  go_loopw [3] (fun v3 w' => ∃ (p : Nat) (out : List S71), Aside0 (w'.heap[gi]? = some (.stringIter a0 p)) ∧ Aside0 (Kd.R k71 71 w' w00.heap.size (fun k => k ≠ gi) v3 out) ∧ Aside0 (Below w00.heap.size w00 w') ∧ Aside0 (setInv a0 p out)) (fun _ w' => a0.size - w'.iterPos gi)
  case atStart => exact ⟨0, _, HI0, HO0, HB0, ⟨setInv_0 a0⟩⟩
  case round =>
    clear HI0 HO0 HB0
    obtain ⟨p, l0, HI, HO, HBB, HD⟩ := hrel
    by_cases hp : p < a0.size
    · have hok := HOK.out p hp
      have hnx : ∀ ty, (Instr.next (.pointer (some ⟨gi, 0, none⟩)) true ty).run Tryz.prog wr = _ := fun ty => run_next_at ty HI.out hp (by omega)
      obtain ⟨hf, hl⟩ := setInv_small (by have := H4.out; omega) HD.out
      obtain ⟨k, hk⟩ := (set_body (a0[p]'hp) hok l0 hf hl).rounds
      have HD2 := A_ (setInv_step hp hok HD.out)
      obtain ⟨r, hr⟩ : ∃ r, r = l0.flatMap (stepR (a0[p]'hp)) := ⟨_, rfl⟩
      rw [← hr] at hk HD2
      obtain ⟨w, hw⟩ : ∃ w, w = itset wr gi a0 (p + 1) := ⟨_, rfl⟩
      rw [← hw] at hnx
      have HIw := A_ (show w.heap[gi]? = some (.stringIter a0 (p + 1)) by rw [hw]; exact itset_at HI.out)
      have HOw := A_ (show Kd.R k71 71 w w00.heap.size (fun k => k ≠ gi) u3 l0 by rw [hw]; exact Kd.R_keep HO.out (itset_keep _ _ _ _) (fun _ h => h))
      have HBw := A_ (show Below w00.heap.size w00 w by rw [hw]; exact itset_below HBB.out HG0.out)
      have hpos := A_ (iterPos_of HI.out)
      have hp2 := A_ hp
      obtain ⟨A0, c0, rfl⟩ := Kd.R_slice HOw.out
      have HR0 := A_ (Kd.R_reads' HOw.out).2.2
      have HC0 := A_ (Kd.R_reads' HOw.out).2.1
      have hend : ∀ (v : Value) (w' : World), Kd.R k71 71 w' w.heap.size (fun _ => True) v r → Below w.heap.size w w' → ∃ (p : Nat) (out : List S71), Aside0 (w'.heap[gi]? = some (.stringIter a0 p)) ∧ Aside0 (Kd.R k71 71 w' w00.heap.size (fun k => k ≠ gi) v out) ∧ Aside0 (Below w00.heap.size w00 w') ∧ Aside0 (setInv a0 p out) := fun v w' h1 h2 =>
        ⟨p + 1, r, ⟨blk_below HIw.out h2⟩, ⟨Kd.R_lower (Kd.R_reok k71_E h1 (fun k hk => by have h3 := Kd.R_base h1 k hk; have h4 := blk_lt HIw.out; omega)) HBw.out.size⟩, ⟨below_step HBw.out h2⟩, HD2⟩
      have hmeas : ∀ (w' : World), Below w.heap.size w w' → a0.size - w'.iterPos gi < a0.size - wr.iterPos gi := fun w' h2 => by
        rw [iterPos_of (blk_below HIw.out h2), hpos.out]; have := hp2.out; omega
      have HEND := A_ hend
      have HMEAS := A_ hmeas
      generalize ((a0[p]'hp).toNat : Int) = a1 at hnx hk
      have H' := A_ (show B.mask_Set.l0 k a1 ([] : List S71) l0 (l0.length : Int) 0 = some r from hk)
      have HB := A_ (Below.refl w.heap.size w)
      clear hk hr hw hf hl hok hend hmeas HD HI HO HBB HOw HIw HBw HD2 hpos hp2 hp
      go_wp2
      go_loopg [6, 23] k (fun kq v6 v23 w' => ∃ (x6_1 : List (S71)) (x23_1 : Int), v23 = .int .i64 x23_1 ∧ Aside0 (B.mask_Set.l0 kq a1 x6_1 l0 (l0.length : Int) x23_1 = some r) ∧ Aside0 (kq ≤ k) ∧ Aside0 (Kd.R k71 71 w' w.heap.size (fun _ => True) v6 x6_1) ∧ Aside0 (Below w.heap.size w w'))
      case atStart => exact ⟨(([] : List (S71))), (0), (by first | rfl | (simp; done) | (simp [*]; done)), H', ⟨Nat.le_refl _⟩, ⟨by first | exact Kd.R_nil _ _ _ _ _ | exact Kd.N_nil _ _ _ _ _ | exact Kd.V_nil _ _ _ _ _ | exact Kd.Q_nil _ _ _ _ _ | exact Kd.S_nil _ _ _ _ _⟩, ⟨hs_⟩⟩
      case round =>
        clear H'
        try clear p2
        obtain ⟨x6_1, x23_1, rfl, HA, HK1, HO_6, HB⟩ := hrel
        cases gk with
        | zero => exact absurd HA.out (by simp [B.mask_Set.l0])
        | succ k1 =>
          have H := HA.out
          clear HA
          simp only [B.mask_Set.l0] at H
          by_cases c3 : x23_1 < (l0.length : Int)
          · rw [if_pos c3] at H
            have c3b0 := decide_eq_true c3
            clear c3
            by_cases c4 : 0 ≤ x23_1
            · rw [if_pos c4] at H
              have c4b0 := decide_eq_true c4
              clear c4
              by_cases c5 : x23_1 < (l0.length : Int)
              · rw [if_pos c5] at H
                have c5b0 := decide_eq_true c5
                clear c5
                by_cases c6 : a1 = 88
                · rw [if_pos c6] at H
                  have c6b0 : (a1 == 88) = true := beq_iff_eq.mpr c6
                  have c6b1 : (a1 != 88) = false := bne_eq_false_iff_eq.mpr c6
                  clear c6
                  by_cases c7 : x6_1.length < 8796093022208
                  · rw [if_pos c7] at H
                    have LMc7 := A_ c7
                    clear c7
                    obtain ⟨y103, hy103⟩ : ∃ y_ : List (S71), y_ = (x6_1 ++ [(⟨wrap64 (((rd_T71 l0 x23_1).f0) * 10), wrap64 ((wrap64 (((rd_T71 l0 x23_1).f1) * 10)) + 9)⟩ : S71)]) := ⟨_, rfl⟩
                    replace H : (B.mask_Set.l0 k1 a1 y103 l0 (l0.length : Int) (wrap64 (x23_1 + 1))) = some r := by first | (rw [hy103]; with_reducible exact H) | (have H2_ := (Option.bind_some _ _).symm.trans H; rw [hy103]; with_reducible exact H2_) | (have H2_ := (Option.bind_some _ _).symm.trans H; with_reducible exact H2_) | with_reducible exact H | (rw [hy103]; exact H) | exact H
                    have Ny103 := A_ hy103
                    clear hy103
                    have H' := A_ H
                    clear H
                    have p101 : 0 ≤ (x23_1 : Int) := of_decide_eq_true (by first | (with_reducible assumption) | assumption)
                    have q101 : x23_1 < (l0.length : Int) := of_decide_eq_true (by first | (with_reducible assumption) | assumption)
                    obtain ⟨ad101, e101, hx101_0, hx101_1⟩ := at_T71 HR0.out x23_1 p101 q101
                    cases e101
                    replace hx101_0 := cl_ HB hx101_0
                    replace hx101_1 := cl_ HB hx101_1
                    replace p101 := eq_true p101
                    replace q101 := eq_true q101
                    go_wp2_with (first | (refine gD 8 ?_; refine bxe_ 8 #[.int .i64 0, .int .i64 0] 71 ?_; intro gb102 hg w8 hbox hb; replace HO_6 := A_ (Kd.R_below (Kd.R_elderB (fxR_ HO_6.out) gb102 (Nat.le_of_eq hg.symm)) hb); have BK102 := A_ (hbox); have GW102 := gs_ w hg; have GE102 := gs_ w hg; replace HB := bs_ hb; clear hb hbox hg; have hcz9_0 : w8.cell? ⟨gb102, 0, none⟩ = some (.int .i64 0) := bq_ BK102 0; have hcz9_1 : w8.cell? ⟨gb102, 1, none⟩ = some (.int .i64 0) := bq_ BK102 1; have hfz9_0 := blk_frozen BK102.out 0; have hfz9_1 := blk_frozen BK102.out 1) | ((with_reducible refine gate_builtin (b := .append) (xs := #[.tmp 29, .tmp 38]) rfl ?_); at_builtin; refine Kd.R_append k71 (w0 := w) w.heap.size rfl (.tmp 29) (.tmp 38) 28 71 (.agg #[(.int .i64 0), (.int .i64 0)]) 16 rfl Tryz.underlying28 info71 rfl (by decide) (by omega) u6 x6_1 (⟨wrap64 (((rd_T71 l0 x23_1).f0) * 10), wrap64 ((wrap64 (((rd_T71 l0 x23_1).f1) * 10)) + 9)⟩ : S71) [.int .i64 (wrap64 (((rd_T71 l0 x23_1).f0) * 10)), .int .i64 (wrap64 ((wrap64 (((rd_T71 l0 x23_1).f1) * 10)) + 9))] (fun k_ => k_ ≠ gb102) (fun _ => False) rfl (by first | (go_simp; done) | (go_simp; rfl)) ?aP (fun _ hk => hk.elim) ?aF ?aO ?aB ?aS ?aL ?_; (case aP => exact k71_mkM _ _ _ (⟨wrap64 (((rd_T71 l0 x23_1).f0) * 10), wrap64 ((wrap64 (((rd_T71 l0 x23_1).f1) * 10)) + 9)⟩ : S71)); (case aB => exact hs_); (case aF => exact (fun k_ hk => fb_ BK102 k_ hk)); (case aO => exact (fpR_ HO_6.out)); (case aS => exact (below_size hs_)); (case aL => have := LMc7.out; omega); intro v104 w10 ho hb hg hat; rw [← Ny103.out] at ho; replace BK102 := A_ (blk_grown (g := gb102) (o := .cells #[.int .i64 ((rd_T71 l0 x23_1).f0), .int .i64 ((rd_T71 l0 x23_1).f1)] 71 (0, 0)) (pb_ BK102.out) hg (Kd.R_away HO_6.out (fun _ hk => hk.2))); replace HB := A_ (hb); have HO105 := A_ (ho); clear HO_6; clear ho hb hg hat))
                    go_roundg k1
                    case measure => have := HK1.out; omega
                    case rel => exact ⟨(y103), (wrap64 (x23_1 + 1)), (by first | rfl | (simp; done) | (simp [*]; done)), H', ⟨by have := HK1.out; omega⟩, ⟨by (with_reducible repeat (first | apply Kd.R_alloc | apply Kd.R_drewN | apply Kd.R_drew)); exact Kd.R_mono HO105.out (fun _ hk => trivial)⟩, ⟨hs_⟩⟩
                  · rw [if_neg c7] at H
                    exact absurd H (by simp)
                · rw [if_neg c6] at H
                  have c6b0 : (a1 == 88) = false := beq_eq_false_iff_ne.mpr c6
                  have c6b1 : (a1 != 88) = true := bne_iff_ne.mpr c6
                  have H' := A_ H
                  clear H
                  have p101 : 0 ≤ (x23_1 : Int) := of_decide_eq_true (by first | (with_reducible assumption) | assumption)
                  have q101 : x23_1 < (l0.length : Int) := of_decide_eq_true (by first | (with_reducible assumption) | assumption)
                  obtain ⟨ad101, e101, hx101_0, hx101_1⟩ := at_T71 HR0.out x23_1 p101 q101
                  cases e101
                  replace hx101_0 := cl_ HB hx101_0
                  replace hx101_1 := cl_ HB hx101_1
                  replace p101 := eq_true p101
                  replace q101 := eq_true q101
                  go_wp2_with (first | (refine gD 8 ?_; refine bxe_ 8 #[.int .i64 0, .int .i64 0] 71 ?_; intro gb102 hg w11 hbox hb; replace HO_6 := A_ (Kd.R_below (Kd.R_elderB (fxR_ HO_6.out) gb102 (Nat.le_of_eq hg.symm)) hb); have BK102 := A_ (hbox); have GW102 := gs_ w hg; have GE102 := gs_ w hg; replace HB := bs_ hb; clear hb hbox hg; have hcz12_0 : w11.cell? ⟨gb102, 0, none⟩ = some (.int .i64 0) := bq_ BK102 0; have hcz12_1 : w11.cell? ⟨gb102, 1, none⟩ = some (.int .i64 0) := bq_ BK102 1; have hfz12_0 := blk_frozen BK102.out 0; have hfz12_1 := blk_frozen BK102.out 1))
                  go_loopg [6, 9] k1 (fun kq v6 v9 w' => ∃ (x6_2 : List (S71)) (x9_2 : Int), v9 = .int .i64 x9_2 ∧ Aside0 (B.mask_Set.l1 kq a1 x6_2 x9_2 l0 (l0.length : Int) x23_1 ((rd_T71 l0 x23_1).f0) ((rd_T71 l0 x23_1).f1) = some r) ∧ Aside0 (kq ≤ k1) ∧ Aside0 (Kd.R k71 71 w' w.heap.size (fun k_ => k_ ≠ gb102) v6 x6_2) ∧ Aside0 (w'.heap[gb102]? = some (.cells #[.int .i64 ((rd_T71 l0 x23_1).f0), .int .i64 ((rd_T71 l0 x23_1).f1)] 71 (0, 0))) ∧ Aside0 (Below w.heap.size w w'))
                  case atStart => exact ⟨(x6_1), ((rd_T71 l0 x23_1).f0), (by first | rfl | (simp; done) | (simp [*]; done)), H', ⟨Nat.le_refl _⟩, ⟨fpR_ HO_6.out⟩, ⟨pb_ BK102.out⟩, ⟨hs_⟩⟩
                  case round =>
                    clear H'
                    try clear p1
                    try clear q1
                    try clear hx1
                    try clear p2
                    try clear c3
                    try clear c3b0
                    try clear c4
                    try clear c4b0
                    try clear c5
                    try clear c5b0
                    try clear c6
                    try clear c6b0
                    try clear c6b1
                    try clear p6
                    try clear c7
                    try clear c8
                    try clear p10
                    try clear q10
                    try clear hx10
                    try clear hcz12_0
                    try clear hcz12_1
                    try clear hcz9_0
                    try clear hcz9_1
                    try clear hfz12_0
                    try clear hfz12_1
                    try clear hfz9_0
                    try clear hfz9_1
                    try clear hx101_0
                    try clear hx101_1
                    try clear p101
                    try clear p2
                    try clear q101
                    obtain ⟨x6_2, x9_2, rfl, HA, HK2, HO_6, BK102, HB⟩ := hrel
                    cases gk with
                    | zero => exact absurd HA.out (by simp [B.mask_Set.l1])
                    | succ k2 =>
                      have H := HA.out
                      clear HA
                      simp only [B.mask_Set.l1] at H
                      by_cases c13 : x9_2 ≤ ((rd_T71 l0 x23_1).f1)
                      · rw [if_pos c13] at H
                        have c13b0 := decide_eq_true c13
                        clear c13
                        by_cases c14 : x6_2.length < 8796093022208
                        · rw [if_pos c14] at H
                          have LMc14 := A_ c14
                          clear c14
                          obtain ⟨y106, hy106⟩ : ∃ y_ : List (S71), y_ = (x6_2 ++ [(⟨wrap64 ((wrap64 (x9_2 * 10)) + (wrap64 (wrap32 (a1 - 48)))), wrap64 ((wrap64 (x9_2 * 10)) + (wrap64 (wrap32 (a1 - 48))))⟩ : S71)]) := ⟨_, rfl⟩
                          replace H : (B.mask_Set.l1 k2 a1 y106 (wrap64 (x9_2 + 1)) l0 (l0.length : Int) x23_1 ((rd_T71 l0 x23_1).f0) ((rd_T71 l0 x23_1).f1)) = some r := by first | (rw [hy106]; with_reducible exact H) | (have H2_ := (Option.bind_some _ _).symm.trans H; rw [hy106]; with_reducible exact H2_) | (have H2_ := (Option.bind_some _ _).symm.trans H; with_reducible exact H2_) | with_reducible exact H | (rw [hy106]; exact H) | exact H
                          have Ny106 := A_ hy106
                          clear hy106
                          have H' := A_ H
                          clear H
                          have hcz15_0 : wr.cell? ⟨gb102, 0, none⟩ = some (.int .i64 ((rd_T71 l0 x23_1).f0)) := bq_ BK102 0
                          have hcz15_1 : wr.cell? ⟨gb102, 1, none⟩ = some (.int .i64 ((rd_T71 l0 x23_1).f1)) := bq_ BK102 1
                          have hfz15_0 := blk_frozen BK102.out 0
                          have hfz15_1 := blk_frozen BK102.out 1
                          go_wp2_with (first | ((with_reducible refine gate_builtin (b := .append) (xs := #[.tmp 54, .tmp 58]) rfl ?_); at_builtin; refine Kd.R_append k71 (w0 := w) w.heap.size rfl (.tmp 54) (.tmp 58) 28 71 (.agg #[(.int .i64 0), (.int .i64 0)]) 16 rfl Tryz.underlying28 info71 rfl (by decide) (by omega) u6 x6_2 (⟨wrap64 ((wrap64 (x9_2 * 10)) + (wrap64 (wrap32 (a1 - 48)))), wrap64 ((wrap64 (x9_2 * 10)) + (wrap64 (wrap32 (a1 - 48))))⟩ : S71) [.int .i64 (wrap64 ((wrap64 (x9_2 * 10)) + (wrap64 (wrap32 (a1 - 48))))), .int .i64 (wrap64 ((wrap64 (x9_2 * 10)) + (wrap64 (wrap32 (a1 - 48)))))] (fun k_ => k_ ≠ gb102) (fun _ => False) rfl rfl ?aP (fun _ hk => hk.elim) ?aF ?aO ?aB ?aS ?aL ?_; (case aP => exact k71_mkM _ _ _ (⟨wrap64 ((wrap64 (x9_2 * 10)) + (wrap64 (wrap32 (a1 - 48)))), wrap64 ((wrap64 (x9_2 * 10)) + (wrap64 (wrap32 (a1 - 48))))⟩ : S71)); (case aB => exact hs_); (case aF => exact (fun k_ hk => fb_ BK102 k_ hk)); (case aO => exact (fxR_ HO_6.out)); (case aS => exact (below_size hs_)); (case aL => have := LMc14.out; omega); intro v107 w16 ho hb hg hat; rw [← Ny106.out] at ho; replace BK102 := A_ (blk_grown (g := gb102) (o := .cells #[.int .i64 ((rd_T71 l0 x23_1).f0), .int .i64 ((rd_T71 l0 x23_1).f1)] 71 (0, 0)) (bl_ BK102.out) hg (Kd.R_away HO_6.out (fun _ hk => hk))); replace HB := A_ (hb); have HO108 := A_ (ho); clear HO_6; clear ho hb hg hat))
                          go_roundg k2
                          case measure => have := HK1.out; have := HK2.out; omega
                          case rel => exact ⟨(y106), (wrap64 (x9_2 + 1)), (by first | rfl | (simp; done) | (simp [*]; done)), H', ⟨by have := HK1.out; have := HK2.out; omega⟩, ⟨fxR_ HO108.out⟩, ⟨bl_ BK102.out⟩, ⟨hs_⟩⟩
                        · rw [if_neg c14] at H
                          exact absurd H (by simp)
                      · rw [if_neg c13] at H
                        have c13b0 := decide_eq_false c13
                        clear c13
                        have H' := A_ H
                        clear H
                        have hcz17_0 : wr.cell? ⟨gb102, 0, none⟩ = some (.int .i64 ((rd_T71 l0 x23_1).f0)) := bq_ BK102 0
                        have hcz17_1 : wr.cell? ⟨gb102, 1, none⟩ = some (.int .i64 ((rd_T71 l0 x23_1).f1)) := bq_ BK102 1
                        have hfz17_0 := blk_frozen BK102.out 0
                        have hfz17_1 := blk_frozen BK102.out 1
                        go_wp2
                        go_roundg k2
                        case measure => have := HK1.out; have := HK2.out; omega
                        case rel => exact ⟨(x6_2), (wrap64 (x23_1 + 1)), (by first | rfl | (simp; done) | (simp [*]; done)), H', ⟨by have := HK1.out; have := HK2.out; omega⟩, ⟨by (with_reducible repeat (first | apply Kd.R_alloc | apply Kd.R_drewN | apply Kd.R_drew)); exact Kd.R_mono HO_6.out (fun _ hk => trivial)⟩, ⟨hs_⟩⟩
              · rw [if_neg c5] at H
                exact absurd H (by simp)
            · rw [if_neg c4] at H
              exact absurd H (by simp)
          · rw [if_neg c3] at H
            have c3b0 := decide_eq_false c3
            clear c3
            obtain rfl := Option.some.inj H
            go_wp2
            go_roundw
            case rel => exact HEND.out _ _ HO_6.out HB.out
            case measure => exact HMEAS.out _ HB.out
    · have hnx : ∀ ty, (Instr.next (.pointer (some ⟨gi, 0, none⟩)) true ty).run Tryz.prog wr = _ := fun ty => run_next_done ty HI.out hp
      have hf : l0 = setL a0.data.toList [⟨0, 0⟩] := by rw [← HD.out.1, List.drop_eq_nil_of_le (by simpa using hp)]; rfl
      have HF := A_ hf
      clear hf hp
      go_wp2
      go_ret
      exact ⟨_, rfl, by rw [← HF.out]; exact Kd.R_mono HO.out (fun _ _ => trivial), HBB.out⟩
mutual
def point_dated.j0 : Nat → List (S71) → List Int → List Int → Bool → Option ((List (S71)))
  | 0, _, _, _, _ => none
  | k + 1, x3, x4, x5, x26 => if x26 = true then ((image_Cover.f k 3 x3).bind fun t111 => (some t111)) else (point_dated.l0 k x4 x5 ([] : List (S71)) x3 (x3.length : Int) 0)
def point_dated.l0 : Nat → List Int → List Int → List (S71) → List (S71) → Int → Int → Option ((List (S71)))
  | 0, _, _, _, _, _, _ => none
  | k + 1, x4, x5, x6, x29, x30, x31 => if x31 < x30 then (if 0 ≤ x31 then (if x31 < (x29.length : Int) then (point_dated.l1 k x4 x5 x6 ((rd_T71 x29 x31).f0) x29 x30 x31 ((rd_T71 x29 x31).f0) ((rd_T71 x29 x31).f1)) else (none)) else (none)) else ((runs_Make.f x6).bind fun t114 => (some t114))
def point_dated.l1 : Nat → List Int → List Int → List (S71) → Int → List (S71) → Int → Int → Int → Int → Option ((List (S71)))
  | 0, _, _, _, _, _, _, _, _, _ => none
  | k + 1, x4, x5, x6, x9, x29, x30, x31, x119000, x119001 => if x9 ≤ x119001 then ((point_days.f k x9 x4 x5).bind fun t119 => (if x6.length + t119.length < 8796093022208 then ((some (x6 ++ t119 : List (S71))).bind fun y122 => (if (y122.length : Int) > 1200 then ((runs_Make.f y122).bind fun t125 => ((sets_Wide.f k t125).bind fun t128 => (if t128 = true then (some t125) else (point_dated.l1 k x4 x5 t125 (wrap64 (x9 + 1)) x29 x30 x31 x119000 x119001)))) else (point_dated.l1 k x4 x5 y122 (wrap64 (x9 + 1)) x29 x30 x31 x119000 x119001))) else (none))) else (point_dated.l0 k x4 x5 x6 x29 x30 (wrap64 (x31 + 1)))
end
def point_dated.f (k : Nat) (a0_0 : Int) (a0_1 : ByteArray) (a0_2 : ByteArray) (a0_3 : ByteArray) : Option ((List (S71))) := (mask_Set.f a0_1).bind fun t102 => ((point_numbers.f k a0_2 12).bind fun t105 => ((point_numbers.f k a0_3 31).bind fun t108 => (if (t105.length : Int) = 12 then (point_dated.j0 k t102 t105 t108 ((t108.length : Int) == 31)) else (point_dated.j0 k t102 t105 t108 false))))
theorem point_dated.mono_l : ∀ k, (∀ y0 y1 y2 y3, LeO (point_dated.j0 k y0 y1 y2 y3) (point_dated.j0 (k + 1) y0 y1 y2 y3)) ∧ (∀ y0 y1 y2 y3 y4 y5, LeO (point_dated.l0 k y0 y1 y2 y3 y4 y5) (point_dated.l0 (k + 1) y0 y1 y2 y3 y4 y5)) ∧ (∀ y0 y1 y2 y3 y4 y5 y6 y7 y8, LeO (point_dated.l1 k y0 y1 y2 y3 y4 y5 y6 y7 y8) (point_dated.l1 (k + 1) y0 y1 y2 y3 y4 y5 y6 y7 y8))
  | 0 => ⟨fun _ _ _ _ r h => by simp [point_dated.j0] at h, fun _ _ _ _ _ _ r h => by simp [point_dated.l0] at h, fun _ _ _ _ _ _ _ _ _ r h => by simp [point_dated.l1] at h⟩
  | k + 1 => by
    obtain ⟨ih0, ih1, ih2⟩ := point_dated.mono_l k
    refine ⟨?_, ?_, ?_⟩
    · intro y0 y1 y2 y3
      unfold point_dated.j0
      repeat' first
      | (with_reducible exact ih0 _ _ _ _)
      | (with_reducible exact ih1 _ _ _ _ _ _)
      | (with_reducible exact ih2 _ _ _ _ _ _ _ _ _)
      | (with_reducible exact image_Cover.mono _ _ _)
      | (with_reducible exact point_days.mono _ _ _ _)
      | (with_reducible exact point_numbers.mono _ _ _)
      | (with_reducible exact sets_Wide.mono _ _)
      | (with_reducible exact LeO.refl _)
      | (with_reducible exact LeO.none _)
      | (with_reducible refine LeO.ite ?_ ?_)
      | (with_reducible refine LeO.bind ?_ (fun _ => ?_))
      | exact ih0 _ _ _ _
      | exact ih1 _ _ _ _ _ _
      | exact ih2 _ _ _ _ _ _ _ _ _
      | exact image_Cover.mono _ _ _
      | exact point_days.mono _ _ _ _
      | exact point_numbers.mono _ _ _
      | exact sets_Wide.mono _ _
      | exact LeO.none _
      | refine LeO.ite ?_ ?_
      | refine LeO.bind ?_ (fun _ => ?_)
    · intro y0 y1 y2 y3 y4 y5
      unfold point_dated.l0
      repeat' first
      | (with_reducible exact ih0 _ _ _ _)
      | (with_reducible exact ih1 _ _ _ _ _ _)
      | (with_reducible exact ih2 _ _ _ _ _ _ _ _ _)
      | (with_reducible exact image_Cover.mono _ _ _)
      | (with_reducible exact point_days.mono _ _ _ _)
      | (with_reducible exact point_numbers.mono _ _ _)
      | (with_reducible exact sets_Wide.mono _ _)
      | (with_reducible exact LeO.refl _)
      | (with_reducible exact LeO.none _)
      | (with_reducible refine LeO.ite ?_ ?_)
      | (with_reducible refine LeO.bind ?_ (fun _ => ?_))
      | exact ih0 _ _ _ _
      | exact ih1 _ _ _ _ _ _
      | exact ih2 _ _ _ _ _ _ _ _ _
      | exact image_Cover.mono _ _ _
      | exact point_days.mono _ _ _ _
      | exact point_numbers.mono _ _ _
      | exact sets_Wide.mono _ _
      | exact LeO.none _
      | refine LeO.ite ?_ ?_
      | refine LeO.bind ?_ (fun _ => ?_)
    · intro y0 y1 y2 y3 y4 y5 y6 y7 y8
      unfold point_dated.l1
      repeat' first
      | (with_reducible exact ih0 _ _ _ _)
      | (with_reducible exact ih1 _ _ _ _ _ _)
      | (with_reducible exact ih2 _ _ _ _ _ _ _ _ _)
      | (with_reducible exact image_Cover.mono _ _ _)
      | (with_reducible exact point_days.mono _ _ _ _)
      | (with_reducible exact point_numbers.mono _ _ _)
      | (with_reducible exact sets_Wide.mono _ _)
      | (with_reducible exact LeO.refl _)
      | (with_reducible exact LeO.none _)
      | (with_reducible refine LeO.ite ?_ ?_)
      | (with_reducible refine LeO.bind ?_ (fun _ => ?_))
      | exact ih0 _ _ _ _
      | exact ih1 _ _ _ _ _ _
      | exact ih2 _ _ _ _ _ _ _ _ _
      | exact image_Cover.mono _ _ _
      | exact point_days.mono _ _ _ _
      | exact point_numbers.mono _ _ _
      | exact sets_Wide.mono _ _
      | exact LeO.none _
      | refine LeO.ite ?_ ?_
      | refine LeO.bind ?_ (fun _ => ?_)
theorem point_dated.mono : ∀ a0 a1 a2 a3 k, LeO (point_dated.f k a0 a1 a2 a3) (point_dated.f (k + 1) a0 a1 a2 a3) := by
  intro a0 a1 a2 a3 k
  obtain ⟨ih0, ih1, ih2⟩ := point_dated.mono_l k
  unfold point_dated.f
  repeat' first
      | (with_reducible exact ih0 _ _ _ _)
      | (with_reducible exact ih1 _ _ _ _ _ _)
      | (with_reducible exact ih2 _ _ _ _ _ _ _ _ _)
      | (with_reducible exact image_Cover.mono _ _ _)
      | (with_reducible exact point_days.mono _ _ _ _)
      | (with_reducible exact point_numbers.mono _ _ _)
      | (with_reducible exact sets_Wide.mono _ _)
      | (with_reducible exact LeO.refl _)
      | (with_reducible exact LeO.none _)
      | (with_reducible refine LeO.ite ?_ ?_)
      | (with_reducible refine LeO.bind ?_ (fun _ => ?_))
      | exact ih0 _ _ _ _
      | exact ih1 _ _ _ _ _ _
      | exact ih2 _ _ _ _ _ _ _ _ _
      | exact image_Cover.mono _ _ _
      | exact point_days.mono _ _ _ _
      | exact point_numbers.mono _ _ _
      | exact sets_Wide.mono _ _
      | exact LeO.none _
      | refine LeO.ite ?_ ?_
      | refine LeO.bind ?_ (fun _ => ?_)
mutual
def point_parts.l0 : Nat → Int → List (S71) → List Int → List (S71) → Int → Int → Option ((List (S71)))
  | 0, _, _, _, _, _, _ => none
  | k + 1, x1, x5, x6, x18, x19, x20 => if x20 < x19 then (if 0 ≤ x20 then (if x20 < (x18.length : Int) then (if (x6.length : Int) = x1 then (if x5.length < 8796093022208 then (point_parts.l0 k x1 (x5 ++ [(⟨wrap64 (((rd_T71 x18 x20).f0) * x1), wrap64 ((wrap64 ((wrap64 (((rd_T71 x18 x20).f1) * x1)) + x1)) - 1)⟩ : S71)]) x6 x18 x19 (wrap64 (x20 + 1))) else (none)) else (point_parts.l1 k x1 x5 x6 ((rd_T71 x18 x20).f0) x18 x19 x20 ((rd_T71 x18 x20).f0) ((rd_T71 x18 x20).f1))) else (none)) else (none)) else ((runs_Make.f x5).bind fun t136 => (some t136))
def point_parts.l1 : Nat → Int → List (S71) → List Int → Int → List (S71) → Int → Int → Int → Int → Option ((List (S71)))
  | 0, _, _, _, _, _, _, _, _, _ => none
  | k + 1, x1, x5, x6, x9, x18, x19, x20, x141000, x141001 => if x9 ≤ x141001 then (point_parts.l2 k x1 x5 x6 x9 x18 x19 x20 x6 (x6.length : Int) 0 x141000 x141001) else (point_parts.l0 k x1 x5 x6 x18 x19 (wrap64 (x20 + 1)))
def point_parts.l2 : Nat → Int → List (S71) → List Int → Int → List (S71) → Int → Int → List Int → Int → Int → Int → Int → Option ((List (S71)))
  | 0, _, _, _, _, _, _, _, _, _, _, _, _ => none
  | k + 1, x1, x5, x6, x9, x18, x19, x20, x51, x52, x53, x141000, x141001 => if x53 < x52 then (if 0 ≤ x53 then (if x53 < (x51.length : Int) then (if x5.length < 8796093022208 then (point_parts.l2 k x1 (x5 ++ [(⟨wrap64 ((wrap64 ((wrap64 (x9 * x1)) + (rd x51 x53))) - 1), wrap64 ((wrap64 ((wrap64 (x9 * x1)) + (rd x51 x53))) - 1)⟩ : S71)]) x6 x9 x18 x19 x20 x51 x52 (wrap64 (x53 + 1)) x141000 x141001) else (none)) else (none)) else (none)) else (point_parts.l1 k x1 x5 x6 (wrap64 (x9 + 1)) x18 x19 x20 x141000 x141001)
end
def point_parts.f (k : Nat) (a0_0 : Int) (a0_1 : ByteArray) (a0_2 : ByteArray) (a0_3 : ByteArray) (a1 : Int) : Option ((List (S71))) := (point_numbers.f k a0_2 a1).bind fun t130 => ((mask_Set.f a0_1).bind fun t133 => (point_parts.l0 k a1 ([] : List (S71)) t130 t133 (t133.length : Int) 0))
theorem point_parts.mono_l : ∀ k, (∀ y0 y1 y2 y3 y4 y5, LeO (point_parts.l0 k y0 y1 y2 y3 y4 y5) (point_parts.l0 (k + 1) y0 y1 y2 y3 y4 y5)) ∧ (∀ y0 y1 y2 y3 y4 y5 y6 y7 y8, LeO (point_parts.l1 k y0 y1 y2 y3 y4 y5 y6 y7 y8) (point_parts.l1 (k + 1) y0 y1 y2 y3 y4 y5 y6 y7 y8)) ∧ (∀ y0 y1 y2 y3 y4 y5 y6 y7 y8 y9 y10 y11, LeO (point_parts.l2 k y0 y1 y2 y3 y4 y5 y6 y7 y8 y9 y10 y11) (point_parts.l2 (k + 1) y0 y1 y2 y3 y4 y5 y6 y7 y8 y9 y10 y11))
  | 0 => ⟨fun _ _ _ _ _ _ r h => by simp [point_parts.l0] at h, fun _ _ _ _ _ _ _ _ _ r h => by simp [point_parts.l1] at h, fun _ _ _ _ _ _ _ _ _ _ _ _ r h => by simp [point_parts.l2] at h⟩
  | k + 1 => by
    obtain ⟨ih0, ih1, ih2⟩ := point_parts.mono_l k
    refine ⟨?_, ?_, ?_⟩
    · intro y0 y1 y2 y3 y4 y5
      unfold point_parts.l0
      repeat' first
      | (with_reducible exact ih0 _ _ _ _ _ _)
      | (with_reducible exact ih1 _ _ _ _ _ _ _ _ _)
      | (with_reducible exact ih2 _ _ _ _ _ _ _ _ _ _ _ _)
      | (with_reducible exact point_numbers.mono _ _ _)
      | (with_reducible exact LeO.refl _)
      | (with_reducible exact LeO.none _)
      | (with_reducible refine LeO.ite ?_ ?_)
      | (with_reducible refine LeO.bind ?_ (fun _ => ?_))
      | exact ih0 _ _ _ _ _ _
      | exact ih1 _ _ _ _ _ _ _ _ _
      | exact ih2 _ _ _ _ _ _ _ _ _ _ _ _
      | exact point_numbers.mono _ _ _
      | exact LeO.none _
      | refine LeO.ite ?_ ?_
      | refine LeO.bind ?_ (fun _ => ?_)
    · intro y0 y1 y2 y3 y4 y5 y6 y7 y8
      unfold point_parts.l1
      repeat' first
      | (with_reducible exact ih0 _ _ _ _ _ _)
      | (with_reducible exact ih1 _ _ _ _ _ _ _ _ _)
      | (with_reducible exact ih2 _ _ _ _ _ _ _ _ _ _ _ _)
      | (with_reducible exact point_numbers.mono _ _ _)
      | (with_reducible exact LeO.refl _)
      | (with_reducible exact LeO.none _)
      | (with_reducible refine LeO.ite ?_ ?_)
      | (with_reducible refine LeO.bind ?_ (fun _ => ?_))
      | exact ih0 _ _ _ _ _ _
      | exact ih1 _ _ _ _ _ _ _ _ _
      | exact ih2 _ _ _ _ _ _ _ _ _ _ _ _
      | exact point_numbers.mono _ _ _
      | exact LeO.none _
      | refine LeO.ite ?_ ?_
      | refine LeO.bind ?_ (fun _ => ?_)
    · intro y0 y1 y2 y3 y4 y5 y6 y7 y8 y9 y10 y11
      unfold point_parts.l2
      repeat' first
      | (with_reducible exact ih0 _ _ _ _ _ _)
      | (with_reducible exact ih1 _ _ _ _ _ _ _ _ _)
      | (with_reducible exact ih2 _ _ _ _ _ _ _ _ _ _ _ _)
      | (with_reducible exact point_numbers.mono _ _ _)
      | (with_reducible exact LeO.refl _)
      | (with_reducible exact LeO.none _)
      | (with_reducible refine LeO.ite ?_ ?_)
      | (with_reducible refine LeO.bind ?_ (fun _ => ?_))
      | exact ih0 _ _ _ _ _ _
      | exact ih1 _ _ _ _ _ _ _ _ _
      | exact ih2 _ _ _ _ _ _ _ _ _ _ _ _
      | exact point_numbers.mono _ _ _
      | exact LeO.none _
      | refine LeO.ite ?_ ?_
      | refine LeO.bind ?_ (fun _ => ?_)
theorem point_parts.mono : ∀ a0 a1 a2 a3 a4 k, LeO (point_parts.f k a0 a1 a2 a3 a4) (point_parts.f (k + 1) a0 a1 a2 a3 a4) := by
  intro a0 a1 a2 a3 a4 k
  obtain ⟨ih0, ih1, ih2⟩ := point_parts.mono_l k
  unfold point_parts.f
  repeat' first
      | (with_reducible exact ih0 _ _ _ _ _ _)
      | (with_reducible exact ih1 _ _ _ _ _ _ _ _ _)
      | (with_reducible exact ih2 _ _ _ _ _ _ _ _ _ _ _ _)
      | (with_reducible exact point_numbers.mono _ _ _)
      | (with_reducible exact LeO.refl _)
      | (with_reducible exact LeO.none _)
      | (with_reducible refine LeO.ite ?_ ?_)
      | (with_reducible refine LeO.bind ?_ (fun _ => ?_))
      | exact ih0 _ _ _ _ _ _
      | exact ih1 _ _ _ _ _ _ _ _ _
      | exact ih2 _ _ _ _ _ _ _ _ _ _ _ _
      | exact point_numbers.mono _ _ _
      | exact LeO.none _
      | refine LeO.ite ?_ ?_
      | refine LeO.bind ?_ (fun _ => ?_)
end Go.Proofs.YthppfagfmjchoaaGreatDoor.A
namespace Go.Proofs.YthppfagfmjchoaaGreatDoor.A
open Go.RowKit Go.Shelf Go.Proofs.YthppfagfmjchoaaGreatDoorW.PrintWords Go.Proofs.YthppfagfmjchoaaGreatDoorW.PrintLast Go.Proofs.YthppfagfmjchoaaGreatDoorW.PrintMore
attribute [local go_sem] Oper.semAt_some isSome_setCell
def KpE (n₀ : Nat) (W W' : World) : Prop := Below n₀ W W' ∧ ∀ (k : Nat) (cs : Array Value), W.heap[k]? = some (.cells cs 71 (0, 0)) → W'.heap[k]? = some (.cells cs 71 (0, 0))
theorem KpE.trans {n₀ : Nat} {A B C : World} (h : KpE n₀ A B) (k : KpE n₀ B C) : KpE n₀ A C := ⟨h.1.trans k.1, fun i cs e => k.2 i cs (h.2 i cs e)⟩
def upR (a b : Int) : List Int := (List.range (b + 1 - a).toNat).map fun (j : Nat) => a + (j : Int)
def upRs (l : List S71) : List Int := l.flatMap fun r => upR r.f0 r.f1
def upM (a : Int) (m : Nat) : List Int := (List.range m).map fun (j : Nat) => a + (j : Int)
theorem upM_succ (a : Int) (m : Nat) : upM a (m + 1) = upM a m ++ [a + (m : Int)] := by simp [upM, List.range_succ]
theorem upM_length (a : Int) (m : Nat) : (upM a m).length = m := by simp [upM]
theorem upRs_take (l : List S71) (k : Nat) (h : k < l.length) : upRs (l.take (k + 1)) = upRs (l.take k) ++ upR l[k].f0 l[k].f1 := by
  rw [List.take_succ_eq_append_getElem h]; simp only [upRs, List.flatMap_append, List.flatMap_cons, List.flatMap_nil, List.append_nil]
theorem upRs_split (l : List S71) (k : Nat) (h : k < l.length) : ∃ t, upRs l = upRs (l.take k) ++ (upR l[k].f0 l[k].f1 ++ t) := by
  refine ⟨upRs (l.drop (k + 1)), ?_⟩
  have e : l = l.take k ++ l[k] :: l.drop (k + 1) := by rw [← List.drop_eq_getElem_cons h, List.take_append_drop]
  exact (congrArg upRs e).trans (by simp only [upRs, List.flatMap_append, List.flatMap_cons])
theorem upM_prefix (a b : Int) (m : Nat) (h : m ≤ (b + 1 - a).toNat) : upM a m <+: upR a b := by
  refine ⟨(List.range' m ((b + 1 - a).toNat - m)).map fun (j : Nat) => a + (j : Int), ?_⟩
  unfold upM upR
  rw [← List.map_append, List.range_eq_range', List.range_eq_range', show List.range' m ((b + 1 - a).toNat - m) = List.range' (0 + m) ((b + 1 - a).toNat - m) by rw [Nat.zero_add], List.range'_append_1, Nat.add_sub_cancel' h]
set_option maxRecDepth 100000 in
set_option maxHeartbeats 2000000 in
theorem each_1_in (F : Fence) (n : Nat) (hF : F.fn 196) (hro : F.round = none) (hn : 1 ≤ n) (l Bs n₀ b off cap : Nat) (ls : List S71) (hb : b < n₀) (hreach : ls.length * 16 ≤ 140737488351232)
    (hrg : ∀ r ∈ ls, 0 ≤ r.f0 ∧ r.f0 < 1000000000000 ∧ r.f1 < 1000000000000) (J Jx : List Int → World → Prop) (W : World) (hn0 : n₀ ≤ W.heap.size) (hJ : AbidesFrom W.heap.size J)
    (hY : ∀ pre x W, J pre W → pre.length < (upRs ls).length → YieldAt F (n - 1) Tryz.prog l #[.int .i64 x] W fun e W' =>
      (e = .returned (.bool true) ∧ J (pre ++ [x]) W' ∧ KpE n₀ W W') ∨ (e = .returned (.bool false) ∧ Jx (pre ++ [x]) W'))
    (hBs : W.cell? ⟨Bs, 0, none⟩ = some (.slice (some ⟨b, off, none⟩) ls.length cap))
    (hc : ∀ j (h : j < ls.length), W.cell? ⟨b, off + j * 2, none⟩ = some (.int .i64 ls[j].f0) ∧ W.cell? ⟨b, off + j * 2 + 1, none⟩ = some (.int .i64 ls[j].f1)) (h0 : J [] W) :
    CallsIn F n Tryz.prog 196 #[.func (.yield l) #[] #[], .pointer (some ⟨Bs, 0, none⟩)] W fun e W' => (∃ v, e = .returned v) ∧
      ((∃ ys, ys = upRs ls ∧ J ys W') ∨ (∃ pre, pre <+: upRs ls ∧ Jx pre W')) := by
  have hu := Tryz.underlying71
  refine callsIn_of_wp Tryz.func196 rfl hF ?_ hro
  simp only [Tryz.ntmps196, List.size_toArray, List.length_cons, List.length_nil, Nat.reduceAdd, Nat.reduceSub, Array.replicate_succ, Array.replicate_zero, List.push_toArray, List.append_toArray, List.nil_append, List.cons_append]
  gi_wp2
  gi_loopw [4, 5, 8, 9, 10, 11, 12, 13, 14, 15, 16, 17, 18, 19, 20, 21, 22, 23, 24] (fun v4 v5 i v9 v10 v11 v12 v13 v14 v15 v16 v17 v18 v19 v20 v21 v22 v23 v24 wr => ∃ k : Nat, k ≤ ls.length ∧ i = .int .i64 k ∧ J (upRs (ls.take k)) wr ∧ Below n₀ W wr)
    (fun v4 v5 i v9 v10 v11 v12 v13 v14 v15 v16 v17 v18 v19 v20 v21 v22 v23 v24 _ => ls.length - (intOf i).toNat)
  case atStart => exact ⟨0, Nat.zero_le _, rfl, h0, Below.refl _ _⟩
  case round =>
    obtain ⟨k, hk, rfl, hJs, hnx⟩ := hrel
    by_cases hlt : k < ls.length
    · have hcx : wr.cell? ⟨b, off + k * 2, none⟩ = some (.int .i64 ls[k].f0) := (hnx.cell (p := ⟨b, off + k * 2, none⟩) hb).trans (hc k hlt).1
      have hcy : wr.cell? ⟨b, off + k * 2 + 1, none⟩ = some (.int .i64 ls[k].f1) := (hnx.cell (p := ⟨b, off + k * 2 + 1, none⟩) hb).trans (hc k hlt).2
      gi_wp2
      have hrk := hrg ls[k] (List.getElem_mem hlt)
      have hBa := blk_new wr (.cells #[.int .i64 ls[k].f0, .int .i64 ls[k].f1] 71 (0, 0))
      have hJa : J (upRs (ls.take k)) (wr.alloc (.cells #[.int .i64 ls[k].f0, .int .i64 ls[k].f1] 71 (0, 0))) := hJ _ _ _ none hJs (World.grownBy_alloc _ _ _) (fun r e => by cases e)
      have hna : Below n₀ W (wr.alloc (.cells #[.int .i64 ls[k].f0, .int .i64 ls[k].f1] 71 (0, 0))) := hnx.alloc (Nat.le_trans hn0 hnx.size) _
      have hlk : (upRs (ls.take k)).length + (ls[k].f1 + 1 - ls[k].f0).toNat ≤ (upRs ls).length := by
        obtain ⟨t, ht⟩ := upRs_split ls k hlt
        rw [ht]; simp [upR]
      have htk := upRs_take ls k hlt
      have hsp := upRs_split ls k hlt
      generalize wr.heap.size = g at *
      generalize (wr.alloc (.cells #[.int .i64 ls[k].f0, .int .i64 ls[k].f1] 71 (0, 0))) = wa at *
      generalize ls[k].f0 = x0 at *
      generalize ls[k].f1 = x1 at *
      clear hcx hcy hJs hnx
      gi_loopw [5, 14, 15, 16, 17, 18, 19, 20, 21, 22, 23] (fun v5 v14 v15 v16 v17 v18 v19 v20 v21 v22 v23 wq => ∃ m : Nat, m ≤ (x1 + 1 - x0).toNat ∧ v5 = .int .i64 (x0 + m) ∧ J (upRs (ls.take k) ++ upM x0 m) wq ∧ Below n₀ W wq ∧ wq.heap[g]? = some (.cells #[.int .i64 x0, .int .i64 x1] 71 (0, 0)))
        (fun v5 v14 v15 v16 v17 v18 v19 v20 v21 v22 v23 _ => (x1 + 1 - intOf v5).toNat)
      case atStart => exact ⟨0, Nat.zero_le _, by simp, by simpa [upM] using hJa, hna, hBa⟩
      case round =>
        obtain ⟨m, hm, rfl, hJq, hnq, hBq⟩ := hrel
        have z := bz2_ (A_ hBq)
        by_cases hle : x0 + (m : Int) ≤ x1
        · have k1 : decide (x0 + (m : Int) ≤ x1) = true := decide_eq_true hle
          obtain ⟨fn, tmps, assign, body, hy, hR⟩ := hY _ (x0 + (m : Int)) wr hJq (by rw [List.length_append, upM_length]; omega)
          gi_wp2
          refine hR.mono ?_
          rintro e W3 (⟨rfl, hJ3, hk3⟩ | ⟨rfl, hJx3⟩)
          · have hB3 := hk3.2 g _ hBq
            gi_wp2
            go_roundw
            case rel => exact ⟨m + 1, by omega, by simp; omega, by rw [upM_succ, ← List.append_assoc]; exact hJ3, hnq.trans hk3.1, hB3⟩
            case measure => simp [intOf]; omega
          · gi_wp2
            refine bodyPost_ret (results_none rfl _ _ _) rfl ?_
            refine ⟨⟨_, rfl⟩, .inr ⟨_, ?_, hJx3⟩⟩
            obtain ⟨t, ht⟩ := hsp
            obtain ⟨t1, h1⟩ := upM_prefix x0 x1 (m + 1) (by omega)
            exact ⟨t1 ++ t, by rw [ht, ← h1, upM_succ]; simp⟩
        · have k1 : decide (x0 + (m : Int) ≤ x1) = false := decide_eq_false hle
          gi_wp2
          have em : m = (x1 + 1 - x0).toNat := by omega
          have eu : upM x0 m = upR x0 x1 := by rw [em]; rfl
          rw [eu, ← htk] at hJq
          go_roundw
          case rel => exact ⟨k + 1, by omega, by simp, hJq, hnq⟩
          case measure => simp [intOf]; omega
    · obtain rfl : k = ls.length := by omega
      gi_wp2
      go_end0
      exact ⟨⟨_, rfl⟩, .inl ⟨_, rfl, by rw [List.take_length] at hJs; exact hJs⟩⟩
set_option maxRecDepth 100000 in
set_option maxHeartbeats 2000000 in
theorem each_1_nil (F : Fence) (n : Nat) (hF : F.fn 196) (hro : F.round = none) (l Bs : Nat) (A : Option Addr) (cap : Nat) (J : List Int → World → Prop) (W : World) (hBs : W.cell? ⟨Bs, 0, none⟩ = some (.slice A 0 cap)) (h0 : J [] W) :
    CallsIn F n Tryz.prog 196 #[.func (.yield l) #[] #[], .pointer (some ⟨Bs, 0, none⟩)] W fun e W' => (∃ v, e = .returned v) ∧ J [] W' := by
  refine callsIn_of_wp Tryz.func196 rfl hF ?_ hro
  simp only [Tryz.ntmps196, List.size_toArray, List.length_cons, List.length_nil, Nat.reduceAdd, Nat.reduceSub, Array.replicate_succ, Array.replicate_zero, List.push_toArray, List.append_toArray, List.nil_append, List.cons_append]
  gi_wp2
  gi_loopw [8] (fun i wr => i = .int .i64 0 ∧ J [] wr) (fun _ _ => 0)
  case atStart => exact ⟨rfl, h0⟩
  case round =>
    obtain ⟨rfl, hJs⟩ := hrel
    gi_wp2
    go_end0
    exact ⟨⟨_, rfl⟩, hJs⟩
theorem cells_ (l : List S71) (A : Option Addr) (w : World) (h : Kd.C k71 w A l.length l) (hne : 0 < l.length) : ∃ b off, A = some ⟨b, off, none⟩ ∧ b < w.heap.size ∧ ∀ j (h : j < l.length), w.cell? ⟨b, off + j * 2, none⟩ = some (.int .i64 l[j].f0) ∧ w.cell? ⟨b, off + j * 2 + 1, none⟩ = some (.int .i64 l[j].f1) := by
  obtain ⟨_, _, hx⟩ := h
  obtain ⟨ad, rfl, hj⟩ := hx hne
  have key : ∀ j (h : j < l.length), w.cell? (ad.add (j * 2)) = some (.int .i64 l[j].f0) ∧ w.cell? (ad.add (j * 2 + 1)) = some (.int .i64 l[j].f1) := by
    intro j h
    obtain ⟨c, hc, hK, hu⟩ := hj j l[j] (List.getElem?_eq_getElem h)
    have hcs : c = [.int .i64 l[j].f0, .int .i64 l[j].f1] := by
      obtain ⟨a, b, e, h1, h2⟩ := hK
      have h1' : a = [.int .i64 l[j].f0] := h1
      have h2' : b = [.int .i64 l[j].f1] := h2
      rw [e, h1', h2']; rfl
    subst hcs
    exact ⟨hu 0 _ rfl, hu 1 _ rfl⟩
  obtain ⟨b, off, sp⟩ := ad
  have k0 := (key 0 hne).1
  have es : sp = none := by
    simp only [Nat.zero_mul, Addr.add, if_pos] at k0
    cases sp with
    | none => rfl
    | some s => simp [World.cell?] at k0; split at k0 <;> simp at k0
  subst es
  refine ⟨b, off, rfl, World.block_lt_of_cell? w _ k0, fun j h => ?_⟩
  have hk := key j h
  have e0 : (Addr.add ⟨b, off, none⟩ (j * 2)) = ⟨b, off + j * 2, none⟩ := by unfold Addr.add; split <;> simp_all
  have e1 : (Addr.add ⟨b, off, none⟩ (j * 2 + 1)) = ⟨b, off + j * 2 + 1, none⟩ := by unfold Addr.add; split <;> simp_all [Nat.add_assoc]
  rw [e0, e1] at hk
  exact hk
theorem image_each.calls (A : Option Addr) (len cap : Nat) (w : World) : Calls Tryz.prog 169 #[.slice A len cap] w fun e w' => e = .returned (.func (.func 196) #[] #[.pointer (some ⟨w.heap.size, 0, none⟩)]) ∧ w' = w.alloc (.cells #[.slice A len cap] 28) := by
  go_enter Tryz.func169, Tryz.ntmps169
  go_wp2
  go_ret
  exact ⟨rfl, rfl⟩
theorem each_stops (F : Fence) (n : Nat) (hF : F.fn 196) (hro : F.round = none) (hn : 1 ≤ n) (Bs n₀ cap : Nat) (A : Option Addr) (ls : List S71) (w : World) (hBs : w.cell? ⟨Bs, 0, none⟩ = some (.slice A ls.length cap)) (hn0 : n₀ ≤ w.heap.size)
    (hreach : ls.length * 16 ≤ 140737488351232) (hrg : ∀ r ∈ ls, 0 ≤ r.f0 ∧ r.f0 < 1000000000000 ∧ r.f1 < 1000000000000)
    (hc : 0 < ls.length → ∃ b off, A = some ⟨b, off, none⟩ ∧ b < n₀ ∧ ∀ j (h : j < ls.length), w.cell? ⟨b, off + j * 2, none⟩ = some (.int .i64 ls[j].f0) ∧ w.cell? ⟨b, off + j * 2 + 1, none⟩ = some (.int .i64 ls[j].f1)) :
    SeqStopsK F n Tryz.prog 196 #[.pointer (some ⟨Bs, 0, none⟩)] (fun x : Int => #[Value.int .i64 x]) (KpE n₀) (fun ys => ys = upRs ls) (fun pre => pre <+: upRs ls) (upRs ls).length w := fun l J Jx W hW hJ _ hY h0 => by
  have hB := World.block_lt_of_cell? w _ hBs
  have hBs' := (hW.cell (p := ⟨Bs, 0, none⟩) hB).trans hBs
  by_cases hz : 0 < ls.length
  · obtain ⟨b, off, rfl, hb, hcs⟩ := hc hz
    exact each_1_in F n hF hro hn l Bs n₀ b off cap ls hb hreach hrg J Jx W (Nat.le_trans hn0 hW.size) hJ hY hBs' (fun j h => ⟨(hW.cell (p := ⟨b, off + j * 2, none⟩) (Nat.lt_of_lt_of_le hb hn0)).trans (hcs j h).1, (hW.cell (p := ⟨b, off + j * 2 + 1, none⟩) (Nat.lt_of_lt_of_le hb hn0)).trans (hcs j h).2⟩) h0
  · obtain rfl : ls = [] := by cases ls with | nil => rfl | cons a t => simp at hz
    exact (each_1_nil F n hF hro l Bs A cap J W hBs' h0).mono fun e W' ⟨he, hj⟩ => ⟨he, .inl ⟨_, rfl, hj⟩⟩
end Go.Proofs.YthppfagfmjchoaaGreatDoor.A
namespace Go.Proofs.YthppfagfmjchoaaGreatDoor.A
open Go.RowKit Go.Proofs.YthppfagfmjchoaaGreatDoorW.PrintWords Go.Proofs.YthppfagfmjchoaaGreatDoorW.PrintLast Go.Proofs.YthppfagfmjchoaaGreatDoorW.PrintMore
attribute [local go_sem] max2_int min2_int max_two min_two max_three min_three max_four min_four
attribute [local go_sem] isSome_setCell
set_option maxHeartbeats 8000000 in
set_option maxRecDepth 100000 in
theorem runs_Sane.calls (k : Nat) (A0 : Option Addr) (c0 : Nat) (l0 : List (S71)) (r : Bool) (w : World) (hr0 : Kd.C k71 w A0 l0.length l0) (hc0 : l0.length ≤ c0) (h : runs_Sane.f k l0 = some r) :
  Calls Tryz.prog 48 #[.slice A0 l0.length c0] w fun e w' => e = .returned (.bool r) ∧ Below w.heap.size w w' := by
 have hu71 := Tryz.underlying71; have HR0 := A_ hr0; have HC0 := A_ hc0; clear hr0 hc0; have HB := A_ (Below.refl w.heap.size w); have H : (runs_Sane.l0 k (-1099511627778) l0 (l0.length : Int) 0) = some r := h; clear h; have H' := A_ H; clear H; go_enter Tryz.func48, Tryz.ntmps48; go_wp2; go_loopg [3, 8] k (fun kq v3 v8 w' => ∃ (x3_1 : Int) (x8_1 : Int), v3 = .int .i64 x3_1 ∧ v8 = .int .i64 x8_1 ∧ Aside0 (runs_Sane.l0 kq x3_1 l0 (l0.length : Int) x8_1 = some r) ∧ Aside0 (kq ≤ k) ∧ Aside0 (Below w.heap.size w w'))
 case atStart => exact ⟨((-1099511627778)), (0), rf_, rf_, H', ⟨Nat.le_refl _⟩, ⟨hs_⟩⟩
 case round =>
  clear H'; obtain ⟨x3_1, x8_1, rfl, rfl, HA, HK1, HB⟩ := hrel
  cases gk with
  | zero => exact absurd HA.out (by simp [runs_Sane.l0])
  | succ k1 =>
   have H := HA.out; clear HA; simp only [runs_Sane.l0] at H
   obtain ⟨c2b0, H⟩ | ⟨c2b0, H⟩ := ic_ H
   ·obtain ⟨c3b0, H⟩ := gd_ H
    obtain ⟨c4b0, H⟩ := gd_ H
    obtain ⟨c5b0, H⟩ | ⟨c5b0, H⟩ := ic_ H
    ·obtain rfl := Option.some.inj H; have p101 : 0 ≤ (x8_1 : Int) := od_; have q101 : x8_1 < (l0.length : Int) := od_; obtain ⟨ad101, e101, hx101_0, hx101_1⟩ := at_T71 HR0.out x8_1 p101 q101
     cases e101
     replace hx101_0 := cl_ HB hx101_0; replace hx101_1 := cl_ HB hx101_1; replace p101 := eq_true p101; replace q101 := eq_true q101; go_wp2_with (first | (refine gx_ w 5 #[.int .i64 0, .int .i64 0] 71 ?_; clear HB; intro gb102 w6 BK102 GE102 HB; have GW102 := GE102; have Z7 := bz2_ BK102)); go_ret; exact ⟨re_, hs_⟩
    ·obtain ⟨c8b0, H⟩ | ⟨c8b0, H⟩ := ic_ H
     ·obtain rfl := Option.some.inj H; have p101 : 0 ≤ (x8_1 : Int) := od_; have q101 : x8_1 < (l0.length : Int) := od_; obtain ⟨ad101, e101, hx101_0, hx101_1⟩ := at_T71 HR0.out x8_1 p101 q101
      cases e101
      replace hx101_0 := cl_ HB hx101_0; replace hx101_1 := cl_ HB hx101_1; replace p101 := eq_true p101; replace q101 := eq_true q101; go_wp2_with (first | (refine gx_ w 5 #[.int .i64 0, .int .i64 0] 71 ?_; clear HB; intro gb102 w9 BK102 GE102 HB; have GW102 := GE102; have Z10 := bz2_ BK102)); go_ret; exact ⟨re_, hs_⟩
     ·obtain ⟨c11b0, H⟩ | ⟨c11b0, H⟩ := ic_ H
      ·obtain rfl := Option.some.inj H; have p101 : 0 ≤ (x8_1 : Int) := od_; have q101 : x8_1 < (l0.length : Int) := od_; obtain ⟨ad101, e101, hx101_0, hx101_1⟩ := at_T71 HR0.out x8_1 p101 q101
       cases e101
       replace hx101_0 := cl_ HB hx101_0; replace hx101_1 := cl_ HB hx101_1; replace p101 := eq_true p101; replace q101 := eq_true q101; go_wp2_with (first | (refine gx_ w 5 #[.int .i64 0, .int .i64 0] 71 ?_; clear HB; intro gb102 w12 BK102 GE102 HB; have GW102 := GE102; have Z13 := bz2_ BK102)); go_ret; exact ⟨re_, hs_⟩
      ·have H' := A_ H; clear H; have p101 : 0 ≤ (x8_1 : Int) := od_; have q101 : x8_1 < (l0.length : Int) := od_; obtain ⟨ad101, e101, hx101_0, hx101_1⟩ := at_T71 HR0.out x8_1 p101 q101
       cases e101
       replace hx101_0 := cl_ HB hx101_0; replace hx101_1 := cl_ HB hx101_1; replace p101 := eq_true p101; replace q101 := eq_true q101; go_wp2_with (first | (refine gx_ w 5 #[.int .i64 0, .int .i64 0] 71 ?_; clear HB; intro gb102 w14 BK102 GE102 HB; have GW102 := GE102; have Z15 := bz2_ BK102)); go_roundg k1
       case measure => have := HK1.out; omega
       case rel => exact ⟨((rd_T71 l0 x8_1).f1), (wrap64 (x8_1 + 1)), rf_, rf_, H', ⟨by have := HK1.out; omega⟩, ⟨hs_⟩⟩
   ·obtain rfl := Option.some.inj H; go_wp2; go_ret; exact ⟨re_, hs_⟩
end Go.Proofs.YthppfagfmjchoaaGreatDoor.A
namespace Go.Proofs.YthppfagfmjchoaaGreatDoor.A.So
open Go.RowKit Go.Proofs.YthppfagfmjchoaaGreatDoorW.PrintWords Go.Proofs.YthppfagfmjchoaaGreatDoorW.PrintLast Go.Proofs.YthppfagfmjchoaaGreatDoorW.PrintMore
attribute [local go_sem] max2_int min2_int max_two min_two max_three min_three max_four min_four
set_option linter.unusedVariables false
set_option linter.unusedSimpArgs false
def cmp_isNaN_int.f (a0 : Int) : Option (Bool) := some (a0 != a0)
def cmp_Compare_int.f (a0 : Int) (a1 : Int) : Option (Int) := (cmp_isNaN_int.f a0).bind fun t101 => ((cmp_isNaN_int.f a1).bind fun t102 => (if t101 = true then (if t102 = true then (some 0) else (some (-1))) else (if t102 = true then (some 1) else (if a0 < a1 then (some (-1)) else (if a0 > a1 then (some 1) else (some 0))))))
def runs_order_compare.f (a0_0 : Bool) (a1_0 : Int) (a1_1 : Int) (a2_0 : Int) (a2_1 : Int) : Option (Int) := if a0_0 = true then ((cmp_Compare_int.f a2_0 a1_0).bind fun t106 => (some t106)) else ((cmp_Compare_int.f a1_0 a2_0).bind fun t107 => (some t107))
end Go.Proofs.YthppfagfmjchoaaGreatDoor.A.So
namespace Go.Proofs.YthppfagfmjchoaaGreatDoor.A.So
open Go.RowKit Go.Proofs.YthppfagfmjchoaaGreatDoorW.PrintWords Go.Proofs.YthppfagfmjchoaaGreatDoorW.PrintLast Go.Proofs.YthppfagfmjchoaaGreatDoorW.PrintMore
attribute [local go_sem] max2_int min2_int max_two min_two max_three min_three max_four min_four
set_option linter.unusedVariables false
set_option linter.unusedSimpArgs false
mutual
def api_Run_64.l0 : Nat → List (S71) → Int → Int → Int → Option ((List (S71)))
  | 0, _, _, _, _ => none
  | k + 1, x0, x1, x2, x8 => if x8 < x2 then (api_Run_64.l1 k x0 x1 x2 x8 x8) else (some x0)
def api_Run_64.l1 : Nat → List (S71) → Int → Int → Int → Int → Option ((List (S71)))
  | 0, _, _, _, _, _ => none
  | k + 1, x0, x1, x2, x8, x9 => if x9 > x1 then (if 0 ≤ x9 then (if x9 < (x0.length : Int) then (if 0 ≤ (wrap64 (x9 - 1)) then (if (wrap64 (x9 - 1)) < (x0.length : Int) then ((runs_order_compare.f false ((rd_T71 x0 x9).f0) ((rd_T71 x0 x9).f1) ((rd_T71 x0 (wrap64 (x9 - 1))).f0) ((rd_T71 x0 (wrap64 (x9 - 1))).f1)).bind fun t110 => (if t110 < 0 then none else (api_Run_64.l0 k x0 x1 x2 (wrap64 (x8 + 1))))) else (none)) else (none)) else (none)) else (none)) else (api_Run_64.l0 k x0 x1 x2 (wrap64 (x8 + 1)))
end
def api_Run_64.f (k : Nat) (l0 : List (S71)) (a1 : Int) (a2 : Int)  : Option ((List (S71))) := api_Run_64.l0 k l0 a1 a2 (wrap64 (a1 + 1))
end Go.Proofs.YthppfagfmjchoaaGreatDoor.A.So
namespace Go.Proofs.YthppfagfmjchoaaGreatDoor.A.So
open Go.RowKit Go.Proofs.YthppfagfmjchoaaGreatDoorW.PrintWords Go.Proofs.YthppfagfmjchoaaGreatDoorW.PrintLast Go.Proofs.YthppfagfmjchoaaGreatDoorW.PrintMore
attribute [local go_sem] max2_int min2_int max_two min_two max_three min_three max_four min_four
set_option linter.unusedVariables false
set_option linter.unusedSimpArgs false
end Go.Proofs.YthppfagfmjchoaaGreatDoor.A.So
namespace Go.Proofs.YthppfagfmjchoaaGreatDoor.A.So
open Go.RowKit Go.Proofs.YthppfagfmjchoaaGreatDoorW.PrintWords Go.Proofs.YthppfagfmjchoaaGreatDoorW.PrintLast Go.Proofs.YthppfagfmjchoaaGreatDoorW.PrintMore
attribute [local go_sem] max2_int min2_int max_two min_two max_three min_three max_four min_four
set_option linter.unusedVariables false
set_option linter.unusedSimpArgs false
end Go.Proofs.YthppfagfmjchoaaGreatDoor.A.So
namespace Go.Proofs.YthppfagfmjchoaaGreatDoor.A.So
open Go.RowKit Go.Proofs.YthppfagfmjchoaaGreatDoorW.PrintWords Go.Proofs.YthppfagfmjchoaaGreatDoorW.PrintLast Go.Proofs.YthppfagfmjchoaaGreatDoorW.PrintMore Go.Sort
set_option linter.unusedVariables false
theorem Ev.ift {α : Type} {c : Prop} [Decidable c] {g f : Nat → Option α} {r : α} (hc : c) (h : Ev g r) : Ev (fun k => if c then g k else f k) r := Ev.congr (fun k => if_pos hc) h
theorem Ev.iff_ {α : Type} {c : Prop} [Decidable c] {g f : Nat → Option α} {r : α} (hc : ¬ c) (h : Ev f r) : Ev (fun k => if c then g k else f k) r := Ev.congr (fun k => if_neg hc) h
theorem Ev.bnow {α β : Type} {a : Option α} {f : Nat → α → Option β} {x : α} {r : β} (h : a = some x) (k : Ev (fun n => f n x) r) : Ev (fun n => a.bind (f n)) r := Ev.congr (fun n => by rw [h]; rfl) k
theorem Ev.eq {α : Type} {g : Nat → Option α} {r q : α} (h : Ev g r) (e : r = q) : Ev g q := e ▸ h
instance instRun : Inhabited S71 := ⟨z71⟩
theorem w64 {x : Int} (h1 : -9223372036854775808 ≤ x) (h2 : x ≤ 9223372036854775807) : wrap64 x = x := by unfold wrap64; omega
theorem cmpR (a b c d : Int) : runs_order_compare.f false a b c d = some (if a < c then -1 else if a > c then 1 else 0) := by
  simp only [runs_order_compare.f, cmp_Compare_int.f, cmp_isNaN_int.f]
  simp
  split
  · rfl
  · split <;> rfl
theorem cmpNeg (a c : Int) : ((if a < c then (-1 : Int) else if a > c then 1 else 0) < 0) = (a < c) := by
  by_cases h : a < c
  · simp [h]
  · by_cases h' : a > c <;> simp [h, h']
end Go.Proofs.YthppfagfmjchoaaGreatDoor.A.So
namespace Go.Proofs.YthppfagfmjchoaaGreatDoor.A.So
open Go.RowKit Go.Proofs.YthppfagfmjchoaaGreatDoorW.PrintWords Go.Proofs.YthppfagfmjchoaaGreatDoorW.PrintLast Go.Proofs.YthppfagfmjchoaaGreatDoorW.PrintMore
attribute [local go_sem] max2_int min2_int max_two min_two max_three min_three max_four min_four
set_option linter.unusedVariables false
set_option linter.unusedSimpArgs false
mutual
def api_Run_69.l0 : Nat → List (S71) → Int → Int → Int → Int → Option (Bool × (List (S71)))
  | 0, _, _, _, _, _ => none
  | k + 1, x0, x1, x2, x9, x10 => if x10 < 5 then (api_Run_69.l1 k x0 x1 x2 x9 x10) else none
def api_Run_69.j2 : Nat → List (S71) → Int → Int → Int → Int → Option (Bool × (List (S71)))
  | 0, _, _, _, _, _ => none
  | k + 1, x0, x1, x2, x9, x10 => if x9 = x2 then (some (true, x0)) else none
def api_Run_69.l1 : Nat → List (S71) → Int → Int → Int → Int → Option (Bool × (List (S71)))
  | 0, _, _, _, _, _ => none
  | k + 1, x0, x1, x2, x9, x10 => if x9 < x2 then (if 0 ≤ x9 then (if x9 < (x0.length : Int) then (if 0 ≤ (wrap64 (x9 - 1)) then (if (wrap64 (x9 - 1)) < (x0.length : Int) then ((runs_order_compare.f false ((rd_T71 x0 x9).f0) ((rd_T71 x0 x9).f1) ((rd_T71 x0 (wrap64 (x9 - 1))).f0) ((rd_T71 x0 (wrap64 (x9 - 1))).f1)).bind fun t144 => (if t144 < 0 then (api_Run_69.j2 k x0 x1 x2 x9 x10) else (api_Run_69.l1 k x0 x1 x2 (wrap64 (x9 + 1)) x10))) else (none)) else (none)) else (none)) else (none)) else (api_Run_69.j2 k x0 x1 x2 x9 x10)
end
def api_Run_69.f (k : Nat) (l0 : List (S71)) (a1 : Int) (a2 : Int)  : Option (Bool × (List (S71))) := api_Run_69.l0 k l0 a1 a2 (wrap64 (a1 + 1)) 0
end Go.Proofs.YthppfagfmjchoaaGreatDoor.A.So
namespace Go.Proofs.YthppfagfmjchoaaGreatDoor.A.So
open Go.RowKit Go.Proofs.YthppfagfmjchoaaGreatDoorW.PrintWords Go.Proofs.YthppfagfmjchoaaGreatDoorW.PrintLast Go.Proofs.YthppfagfmjchoaaGreatDoorW.PrintMore Go.Sort
set_option linter.unusedVariables false
theorem wN {x : Int} {n : Nat} (h : x = (n : Int)) (hn : n < 4611686018427387904) : wrap64 x = (n : Int) := by subst h; exact w64 (by omega) (by omega)
end Go.Proofs.YthppfagfmjchoaaGreatDoor.A.So
namespace Go.Proofs.YthppfagfmjchoaaGreatDoor.A.So
open Go.RowKit Go.Proofs.YthppfagfmjchoaaGreatDoorW.PrintWords Go.Proofs.YthppfagfmjchoaaGreatDoorW.PrintLast Go.Proofs.YthppfagfmjchoaaGreatDoorW.PrintMore
attribute [local go_sem] max2_int min2_int max_two min_two max_three min_three max_four min_four
set_option linter.unusedVariables false
set_option linter.unusedSimpArgs false
end Go.Proofs.YthppfagfmjchoaaGreatDoor.A.So
namespace Go.Proofs.YthppfagfmjchoaaGreatDoor.A.So
open Go.RowKit Go.Proofs.YthppfagfmjchoaaGreatDoorW.PrintWords Go.Proofs.YthppfagfmjchoaaGreatDoorW.PrintLast Go.Proofs.YthppfagfmjchoaaGreatDoorW.PrintMore
attribute [local go_sem] max2_int min2_int max_two min_two max_three min_three max_four min_four
set_option linter.unusedVariables false
set_option linter.unusedSimpArgs false
end Go.Proofs.YthppfagfmjchoaaGreatDoor.A.So
namespace Go.Proofs.YthppfagfmjchoaaGreatDoor.A.So
open Go.RowKit Go.Proofs.YthppfagfmjchoaaGreatDoorW.PrintWords Go.Proofs.YthppfagfmjchoaaGreatDoorW.PrintLast Go.Proofs.YthppfagfmjchoaaGreatDoorW.PrintMore
def order2.f (l0 : List (S71)) (a1 : Int) (a2 : Int) (n0 : Int) : Option (Int × Int × Int) := if 0 ≤ a2 then (if a2 < (l0.length : Int) then (if 0 ≤ a1 then (if a1 < (l0.length : Int) then ((runs_order_compare.f false ((rd_T71 l0 a2).f0) ((rd_T71 l0 a2).f1) ((rd_T71 l0 a1).f0) ((rd_T71 l0 a1).f1)).bind fun t110 => (if t110 < 0 then none else (some (a1, a2, n0)))) else (none)) else (none)) else (none)) else (none)
def median.f (l0 : List S71) (a1 a2 a3 n0 : Int) : Option (Int × Int) := (order2.f l0 a1 a2 n0).bind fun x => (order2.f l0 x.2.1 a3 x.2.2).bind fun y => (order2.f l0 x.1 y.1 y.2.2).bind fun z => some (z.2.1, z.2.2)
def medadj.f (l0 : List S71) (a1 n0 : Int) : Option (Int × Int) := median.f l0 (wrap64 (a1 - 1)) a1 (wrap64 (a1 + 1)) n0
def bits_Len.f (a : Int) : Option Int := if 0 ≤ a then (if a ≤ 18446744073709551615 then some (Lib.bitLen a.toNat : Int) else none) else none
def api_Run_67.hint (n : Int) : Int := if n = 0 then 1 else if n = 12 then 2 else 0
def api_Run_67.at (a y : Int) : Int := wrap64 (a + wrap64 y)
def api_Run_67.f (l0 : List S71) (a1 a2 : Int) : Option (Int × Int) :=
  if 8 ≤ wrap64 (a2 - a1) then
    (if 50 ≤ wrap64 (a2 - a1) then
      (medadj.f l0 (api_Run_67.at a1 (wrap64 ((wrap64 (a2 - a1)).tdiv 4))) 0).bind fun x => (medadj.f l0 (api_Run_67.at a1 (wrap64 ((wrap64 (a2 - a1)).tdiv 4) * 2)) x.2).bind fun y => (medadj.f l0 (api_Run_67.at a1 (wrap64 ((wrap64 (a2 - a1)).tdiv 4) * 3)) y.2).bind fun z => median.f l0 x.1 y.1 z.1 z.2
    else median.f l0 (api_Run_67.at a1 (wrap64 ((wrap64 (a2 - a1)).tdiv 4))) (api_Run_67.at a1 (wrap64 ((wrap64 (a2 - a1)).tdiv 4) * 2)) (api_Run_67.at a1 (wrap64 ((wrap64 (a2 - a1)).tdiv 4) * 3)) 0).bind fun m => some (m.1, api_Run_67.hint m.2)
  else some (api_Run_67.at a1 (wrap64 ((wrap64 (a2 - a1)).tdiv 4) * 2), 1)
end Go.Proofs.YthppfagfmjchoaaGreatDoor.A.So
namespace Go.Proofs.YthppfagfmjchoaaGreatDoor.A.So
open Go.RowKit Go.Proofs.YthppfagfmjchoaaGreatDoorW.PrintWords Go.Proofs.YthppfagfmjchoaaGreatDoorW.PrintLast Go.Proofs.YthppfagfmjchoaaGreatDoorW.PrintMore
set_option linter.unusedVariables false
theorem u64w {x : Int} {n : Nat} (e : x = (n : Int)) (h : n < 18446744073709551616) : IntKind.u64.wrap x = (n : Int) := by
  subst e
  simp only [IntKind.wrap, IntKind.signed, IntKind.bits]
  simp
  omega
end Go.Proofs.YthppfagfmjchoaaGreatDoor.A.So
namespace Go.Proofs.YthppfagfmjchoaaGreatDoor.A.So
open Go.RowKit Go.Proofs.YthppfagfmjchoaaGreatDoorW.PrintWords Go.Proofs.YthppfagfmjchoaaGreatDoorW.PrintLast Go.Proofs.YthppfagfmjchoaaGreatDoorW.PrintMore
attribute [local go_sem] max2_int min2_int max_two min_two max_three min_three max_four min_four
set_option linter.unusedVariables false
set_option linter.unusedSimpArgs false
mutual
def api_Run_58.l0 : Nat → List (S71) → Int → Int → Int → Bool → Bool → Option ((List (S71)))
  | 0, _, _, _, _, _, _ => none
  | k + 1, x0, x1, x2, x3, x10, x11 => if (wrap64 (x2 - x1)) ≤ 12 then ((api_Run_64.f k x0 x1 x2).bind fun t221 => (some t221)) else (if x3 = 0 then none else (if x10 = true then (api_Run_58.j1 k x0 x1 x2 x3 x10 x11 (wrap64 (x2 - x1))) else none))
def api_Run_58.j1 : Nat → List (S71) → Int → Int → Int → Bool → Bool → Int → Option ((List (S71)))
  | 0, _, _, _, _, _, _, _ => none
  | k + 1, x0, x1, x2, x3, x10, x11, x12 => (api_Run_67.f x0 x1 x2).bind fun bt224 => (if bt224.2 = 2 then none else (api_Run_58.j2 k x0 x1 x2 x3 x10 x11 x12 bt224.1 bt224.2))
def api_Run_58.j2 : Nat → List (S71) → Int → Int → Int → Bool → Bool → Int → Int → Int → Option ((List (S71)))
  | 0, _, _, _, _, _, _, _, _, _ => none
  | k + 1, x0, x1, x2, x3, x10, x11, x12, x13, x14 => if x10 = true then (if x11 = true then (api_Run_58.j3 k x0 x1 x2 x3 x10 x11 x12 x13 (x14 == 1)) else none) else none
def api_Run_58.j3 : Nat → List (S71) → Int → Int → Int → Bool → Bool → Int → Int → Bool → Option ((List (S71)))
  | 0, _, _, _, _, _, _, _, _, _ => none
  | k + 1, x0, x1, x2, x3, x10, x11, x12, x13, x75 => if x75 = true then ((api_Run_69.f k x0 x1 x2).bind fun bt227 => (if bt227.1 = true then (some bt227.2) else none)) else none
def api_Run_58.f : Nat → List (S71) → Int → Int → Int → Option ((List (S71)))
  | 0, _, _, _, _ => none
  | k + 1, l0, a1, a2, a3 => api_Run_58.l0 k l0 a1 a2 a3 true true
end
end Go.Proofs.YthppfagfmjchoaaGreatDoor.A.So
namespace Go.Proofs.YthppfagfmjchoaaGreatDoor.A.So
open Go.RowKit Go.Proofs.YthppfagfmjchoaaGreatDoorW.PrintWords Go.Proofs.YthppfagfmjchoaaGreatDoorW.PrintLast Go.Proofs.YthppfagfmjchoaaGreatDoorW.PrintMore
attribute [local go_sem] max2_int min2_int max_two min_two max_three min_three max_four min_four
set_option linter.unusedVariables false
set_option linter.unusedSimpArgs false
def api_Run_49.f (k : Nat) (l0 : List (S71))  : Option ((List (S71))) := (bits_Len.f (IntKind.u64.wrap ((l0.length : Int)))).bind fun t239 => ((api_Run_58.f k l0 0 (l0.length : Int) t239).bind fun t240 => (some t240))
theorem bla_le : ∀ (f x : Nat), Lib.bitLenAux f x ≤ f
  | 0, x => by rw [Lib.bitLenAux]; exact Nat.le_refl _
  | f + 1, x => by
    rw [Lib.bitLenAux]
    have := bla_le f (x / 2)
    split <;> omega
def risen (l : List S71) : Prop := ∀ i j : Nat, i ≤ j → j < l.length → (rd_T71 l i).f0 ≤ (rd_T71 l j).f0
theorem cmp_risen {l : List S71} (h : risen l) {i j : Nat} (hij : i ≤ j) (hj : j < l.length) {a b : Int} : ∃ t, runs_order_compare.f false (rd_T71 l j).f0 a (rd_T71 l i).f0 b = some t ∧ ¬ t < 0 := by
  rw [cmpR]
  refine ⟨_, rfl, ?_⟩
  rw [cmpNeg]
  have := h i j hij hj
  omega
theorem ins_risen {l : List S71} (h : risen l) (hl : l.length < 4611686018427387904) (a b : Nat) (hb : b ≤ l.length) : ∀ (n i : Nat), b - i = n → a < i → Ev (fun k => api_Run_64.l0 k l (a : Int) (b : Int) (i : Int)) l
  | 0, i, hn, ha => Ev.step (f := fun _ => some l) (fun k => by simp only [api_Run_64.l0]; rw [if_neg (by omega)]) (Ev.now _)
  | n + 1, i, hn, ha => by
    have e1 : wrap64 ((i : Int) - 1) = ((i - 1 : Nat) : Int) := by rw [w64 (by omega) (by omega)]; omega
    have e2 : wrap64 ((i : Int) + 1) = ((i + 1 : Nat) : Int) := by rw [w64 (by omega) (by omega)]; omega
    obtain ⟨t, ht, hn2⟩ := cmp_risen h (i := i - 1) (j := i) (by omega) (by omega) (a := (rd_T71 l (i : Int)).f1) (b := (rd_T71 l ((i - 1 : Nat) : Int)).f1)
    refine Ev.step (f := fun k => api_Run_64.l1 k l (a : Int) (b : Int) (i : Int) (i : Int)) (fun k => by simp only [api_Run_64.l0]; rw [if_pos (by omega)]) ?_
    refine Ev.step (f := fun k => api_Run_64.l0 k l (a : Int) (b : Int) ((i + 1 : Nat) : Int)) (fun k => by
      simp only [api_Run_64.l1]
      rw [if_pos (by omega), if_pos (by omega), if_pos (by omega), e1, if_pos (by omega), if_pos (by omega), ht, Option.bind_some, if_neg hn2, e2]) ?_
    exact ins_risen h hl a b hb n (i + 1) (by omega) (by omega)
theorem pi_risen {l : List S71} (h : risen l) (hl : l.length < 4611686018427387904) (a b : Nat) (hb : b ≤ l.length) : ∀ (n i : Nat), b - i = n → a < i → i ≤ b → Ev (fun k => api_Run_69.l1 k l (a : Int) (b : Int) (i : Int) 0) (true, l)
  | 0, i, hn, ha, hi => by
    refine Ev.step (f := fun k => api_Run_69.j2 k l (a : Int) (b : Int) (i : Int) 0) (fun k => by simp only [api_Run_69.l1]; rw [if_neg (by omega)]) ?_
    exact Ev.step (f := fun _ => some (true, l)) (fun k => by simp only [api_Run_69.j2]; rw [if_pos (by omega)]) (Ev.now _)
  | n + 1, i, hn, ha, hi => by
    have e1 : wrap64 ((i : Int) - 1) = ((i - 1 : Nat) : Int) := by rw [w64 (by omega) (by omega)]; omega
    have e2 : wrap64 ((i : Int) + 1) = ((i + 1 : Nat) : Int) := by rw [w64 (by omega) (by omega)]; omega
    obtain ⟨t, ht, hn2⟩ := cmp_risen h (i := i - 1) (j := i) (by omega) (by omega) (a := (rd_T71 l (i : Int)).f1) (b := (rd_T71 l ((i - 1 : Nat) : Int)).f1)
    refine Ev.step (f := fun k => api_Run_69.l1 k l (a : Int) (b : Int) ((i + 1 : Nat) : Int) 0) (fun k => by
      simp only [api_Run_69.l1]
      rw [if_pos (by omega), if_pos (by omega), if_pos (by omega), e1, if_pos (by omega), if_pos (by omega), ht, Option.bind_some, if_neg hn2, e2]) ?_
    exact pi_risen h hl a b hb n (i + 1) (by omega) (by omega) (by omega)
theorem o2_risen {l : List S71} (h : risen l) (i j : Nat) (hij : i ≤ j) (hj : j < l.length) (s : Int) : order2.f l (i : Int) (j : Int) s = some ((i : Int), (j : Int), s) := by
  obtain ⟨t, ht, hn⟩ := cmp_risen h hij hj (a := (rd_T71 l (j : Int)).f1) (b := (rd_T71 l (i : Int)).f1)
  unfold order2.f
  rw [if_pos (by omega), if_pos (by omega), if_pos (by omega), if_pos (by omega), ht, Option.bind_some, if_neg hn]
theorem med_risen {l : List S71} (h : risen l) (i j m : Nat) (hij : i ≤ j) (hjm : j ≤ m) (hm : m < l.length) (s : Int) : median.f l (i : Int) (j : Int) (m : Int) s = some ((j : Int), s) := by
  unfold median.f
  rw [o2_risen h i j hij (by omega) s, Option.bind_some, o2_risen h j m hjm hm s, Option.bind_some, o2_risen h i j hij (by omega) s, Option.bind_some]
theorem adj_risen {l : List S71} (h : risen l) (hl : l.length < 4611686018427387904) (i : Nat) (h1 : 1 ≤ i) (h2 : i + 1 < l.length) (s : Int) : medadj.f l (i : Int) s = some ((i : Int), s) := by
  unfold medadj.f
  rw [show wrap64 ((i : Int) - 1) = ((i - 1 : Nat) : Int) by rw [w64 (by omega) (by omega)]; omega, show wrap64 ((i : Int) + 1) = ((i + 1 : Nat) : Int) by rw [w64 (by omega) (by omega)]; omega]
  exact med_risen h (i - 1) i (i + 1) (by omega) (by omega) h2 s
theorem piv_risen {l : List S71} (h : risen l) (hl : l.length < 1152921504606846976) (h8 : 8 ≤ l.length) : ∃ x, api_Run_67.f l (0 : Int) (l.length : Int) = some (x, 1) := by
  have e0 : wrap64 ((l.length : Int) - 0) = (l.length : Int) := by rw [w64 (by omega) (by omega)]; omega
  have e1 : wrap64 (Int.tdiv (l.length : Int) 4) = ((l.length / 4 : Nat) : Int) := by rw [Int.tdiv_eq_ediv_of_nonneg (by omega), w64 (by omega) (by omega)]; omega
  have ea : ∀ c : Nat, c ≤ 3 → api_Run_67.at (0 : Int) (((l.length / 4 : Nat) : Int) * (c : Int)) = ((l.length / 4 * c : Nat) : Int) := fun c hc => by
    have hb : l.length / 4 * c ≤ l.length / 4 * 3 := Nat.mul_le_mul_left _ hc
    unfold api_Run_67.at
    rw [show ((l.length / 4 : Nat) : Int) * (c : Int) = ((l.length / 4 * c : Nat) : Int) by rw [Int.natCast_mul], w64 (x := ((l.length / 4 * c : Nat) : Int)) (by omega) (by omega), Int.zero_add, w64 (by omega) (by omega)]
  have a1 : api_Run_67.at (0 : Int) ((l.length / 4 : Nat) : Int) = ((l.length / 4 * 1 : Nat) : Int) := by have := ea 1 (by omega); rwa [show (((1 : Nat) : Int)) = 1 from rfl, Int.mul_one] at this
  have a2 := ea 2 (by omega)
  have a3 := ea 3 (by omega)
  rw [show (((2 : Nat) : Int)) = 2 from rfl] at a2
  rw [show (((3 : Nat) : Int)) = 3 from rfl] at a3
  unfold api_Run_67.f
  rw [e0, if_pos (by omega), e1, a1, a2, a3]
  by_cases h50 : 50 ≤ (l.length : Int)
  · rw [if_pos h50, adj_risen h (by omega) _ (by omega) (by omega) 0, Option.bind_some, adj_risen h (by omega) _ (by omega) (by omega) 0, Option.bind_some, adj_risen h (by omega) _ (by omega) (by omega) 0, Option.bind_some]
    simp only
    rw [med_risen h _ _ _ (by omega) (by omega) (by omega) 0, Option.bind_some]
    exact ⟨_, rfl⟩
  · rw [if_neg h50, med_risen h _ _ _ (by omega) (by omega) (by omega) 0, Option.bind_some]
    exact ⟨_, rfl⟩
theorem pdq_risen {l : List S71} (h : risen l) (hl : l.length < 1152921504606846976) (lim : Nat) (hlim : 1 ≤ lim ∨ l.length ≤ 12) : Ev (fun k => api_Run_58.l0 k l (0 : Int) (l.length : Int) (lim : Int) true true) l := by
  have e0 : wrap64 ((l.length : Int) - 0) = (l.length : Int) := by rw [w64 (by omega) (by omega)]; omega
  have e1 : wrap64 ((0 : Int) + 1) = ((1 : Nat) : Int) := by rw [w64 (by omega) (by omega)]; rfl
  by_cases h12 : (l.length : Int) ≤ 12
  · refine Ev.step (f := fun k => (api_Run_64.f k l (0 : Int) (l.length : Int)).bind fun t => some t) (fun k => by simp only [api_Run_58.l0]; rw [e0, if_pos h12]) ?_
    have hi := ins_risen h (by omega) 0 l.length (Nat.le_refl _) _ 1 rfl (by omega)
    refine Ev.bind (Ev.congr (fun k => by simp only [api_Run_64.f]; rw [e1]; rfl) hi) (Ev.now _)
  · obtain ⟨x, hx⟩ := piv_risen h hl (by omega)
    refine Ev.step (f := fun k => api_Run_58.j1 k l (0 : Int) (l.length : Int) (lim : Int) true true (l.length : Int)) (fun k => by simp only [api_Run_58.l0]; rw [e0, if_neg h12, if_neg (by omega), if_pos trivial]) ?_
    refine Ev.step (f := fun k => api_Run_58.j2 k l (0 : Int) (l.length : Int) (lim : Int) true true (l.length : Int) x 1) (fun k => by simp only [api_Run_58.j1]; rw [hx, Option.bind_some, if_neg (by simp)]) ?_
    refine Ev.step (f := fun k => api_Run_58.j3 k l (0 : Int) (l.length : Int) (lim : Int) true true (l.length : Int) x true) (fun k => by simp only [api_Run_58.j2]; rw [if_pos trivial, if_pos trivial]; rfl) ?_
    refine Ev.step (f := fun k => (api_Run_69.f k l (0 : Int) (l.length : Int)).bind fun bt227 => (if bt227.1 = true then (some bt227.2) else none)) (fun k => by simp only [api_Run_58.j3]; rw [if_pos trivial]) ?_
    have hp := pi_risen h (by omega) 0 l.length (Nat.le_refl _) _ 1 rfl (by omega) (by omega)
    refine Ev.bind (a := (true, l)) (Ev.congr (fun k => by simp only [api_Run_69.f]; rw [e1]) (Ev.step (f := fun k => api_Run_69.l1 k l ((0 : Nat) : Int) (l.length : Int) ((1 : Nat) : Int) 0) (fun k => by simp only [api_Run_69.l0]; rw [if_pos (by omega)]; rfl) hp)) ?_
    exact Ev.ift rfl (Ev.now _)
theorem sort_f {l : List S71} (h : risen l) (hl : l.length < 1152921504606846976) : Ev (fun k => api_Run_49.f k l) l := by
  have hb : Lib.bitLen l.length < 1000 := Nat.lt_of_le_of_lt (bla_le 64 l.length) (by decide)
  have e1 : Aside0 (IntKind.u64.wrap ((l.length : Int)) = ((l.length : Nat) : Int)) := ⟨u64w (by simp) (by omega)⟩
  have hpos : 1 ≤ Lib.bitLen l.length ∨ l.length ≤ 12 := by
    by_cases h0 : l.length ≤ 12
    · exact .inr h0
    · left
      unfold Lib.bitLen
      rw [Lib.bitLenAux, if_neg (by omega)]; omega
  refine Ev.congr (fun k => by simp only [api_Run_49.f, e1.out, bits_Len.f]; rfl) ?_
  refine Ev.bnow (x := (Lib.bitLen l.length : Int)) (by rw [if_pos (by omega), if_pos (by omega), Int.toNat_natCast]) ?_
  refine Ev.bind (a := l) (Ev.step (fun k => by simp only [api_Run_58.f]; rfl) ?_) (Ev.now _)
  exact pdq_risen h hl _ hpos
end Go.Proofs.YthppfagfmjchoaaGreatDoor.A.So
namespace Go.Proofs.YthppfagfmjchoaaGreatDoor.A.So
open Go.RowKit Go.Proofs.YthppfagfmjchoaaGreatDoorW.PrintWords Go.Proofs.YthppfagfmjchoaaGreatDoorW.PrintLast Go.Proofs.YthppfagfmjchoaaGreatDoorW.PrintMore
attribute [local go_sem] max2_int min2_int max_two min_two max_three min_three max_four min_four
set_option linter.unusedVariables false
set_option linter.unusedSimpArgs false
mutual
def runs_Make.l0 : Nat → List (S71) → List (S71) → Int → Int → Option ((List (S71)))
  | 0, _, _, _, _ => none
  | k + 1, x3, x11, x12, x13 => if x13 < x12 then (if 0 ≤ x13 then (if x13 < (x11.length : Int) then (if (mx ((rd_T71 x11 x13).f0) (-1099511627776)) ≤ (mn ((rd_T71 x11 x13).f1) 1099511627776) then (if x3.length < 8796093022208 then (runs_Make.l0 k (x3 ++ [(⟨mx ((rd_T71 x11 x13).f0) (-1099511627776), mn ((rd_T71 x11 x13).f1) 1099511627776⟩ : S71)]) x11 x12 (wrap64 (x13 + 1))) else (none)) else (runs_Make.l0 k x3 x11 x12 (wrap64 (x13 + 1)))) else (none)) else (none)) else ((api_Run_49.f k x3).bind fun t246 => (runs_Make.l1 k ([] : List (S71)) t246 (x3.length : Int) 0))
def runs_Make.l1 : Nat → List (S71) → List (S71) → Int → Int → Option ((List (S71)))
  | 0, _, _, _, _ => none
  | k + 1, x7, x39, x40, x41 => if x41 < x40 then (if 0 ≤ x41 then (if x41 < (x39.length : Int) then (if (wrap64 ((x7.length : Int) - 1)) ≥ 0 then (if 0 ≤ (wrap64 ((x7.length : Int) - 1)) then (if (wrap64 ((x7.length : Int) - 1)) < (x7.length : Int) then (if ((rd_T71 x39 x41).f0) ≤ (wrap64 (((rd_T71 x7 (wrap64 ((x7.length : Int) - 1))).f1) + 1)) then (runs_Make.l1 k (x7.set ((wrap64 ((x7.length : Int) - 1)) : Int).toNat (⟨(rd_T71 x7 (wrap64 ((x7.length : Int) - 1))).f0, mx ((rd_T71 x7 (wrap64 ((x7.length : Int) - 1))).f1) ((rd_T71 x39 x41).f1)⟩ : S71)) x39 x40 (wrap64 (x41 + 1))) else (if x7.length < 8796093022208 then (runs_Make.l1 k (x7 ++ [(⟨(rd_T71 x39 x41).f0, (rd_T71 x39 x41).f1⟩ : S71)]) x39 x40 (wrap64 (x41 + 1))) else (none))) else (none)) else (none)) else (if x7.length < 8796093022208 then (runs_Make.l1 k (x7 ++ [(⟨(rd_T71 x39 x41).f0, (rd_T71 x39 x41).f1⟩ : S71)]) x39 x40 (wrap64 (x41 + 1))) else (none))) else (none)) else (none)) else (some x7)
end
def runs_Make.f (k : Nat) (l0 : List (S71)) : Option ((List (S71))) := runs_Make.l0 k ([] : List (S71)) l0 (l0.length : Int) 0
end Go.Proofs.YthppfagfmjchoaaGreatDoor.A.So
namespace Go.Proofs.YthppfagfmjchoaaGreatDoor.A.So
open Go.RowKit Go.Proofs.YthppfagfmjchoaaGreatDoorW.PrintWords Go.Proofs.YthppfagfmjchoaaGreatDoorW.PrintLast Go.Proofs.YthppfagfmjchoaaGreatDoorW.PrintMore Go.Sort
set_option linter.unusedVariables false
theorem sane_last {x q : S71} (h0 : x.f0 = q.f0) (h1 : q.f1 ≤ x.f1) (h2 : x.f1 ≤ lim) : ∀ (o : List S71) (a : Int), saneF a (o ++ [q]) → saneF a (o ++ [x])
  | [], a, ⟨s1, s2, s3, _⟩ => ⟨by omega, by omega, h2, trivial⟩
  | r :: t, a, ⟨s1, s2, s3, s4⟩ => ⟨s1, s2, s3, sane_last h0 h1 h2 t _ s4⟩
theorem sane_more {r q : S71} (h0 : q.f1 + 2 ≤ r.f0) (h1 : r.f0 ≤ r.f1) (h2 : r.f1 ≤ lim) : ∀ (o : List S71) (a : Int), saneF a (o ++ [q]) → saneF a (o ++ [q] ++ [r])
  | [], a, ⟨s1, s2, s3, _⟩ => ⟨s1, s2, s3, h0, h1, h2, trivial⟩
  | p :: t, a, ⟨s1, s2, s3, s4⟩ => ⟨s1, s2, s3, sane_more h0 h1 h2 t _ s4⟩
theorem sane_lim : ∀ (o : List S71) (a : Int) (q : S71), saneF a (o ++ [q]) → q.f1 ≤ lim ∧ a + 2 ≤ q.f0 ∧ q.f0 ≤ q.f1
  | [], a, q, ⟨s1, s2, s3, _⟩ => ⟨s3, s1, s2⟩
  | p :: t, a, q, ⟨s1, s2, s3, s4⟩ => by
    have := sane_lim t _ q s4
    omega
def okR (r : S71) : Prop := -lim ≤ r.f0 ∧ r.f0 ≤ r.f1 ∧ r.f1 ≤ lim
theorem rd_last (o : List S71) (q : S71) : rd_T71 (o ++ [q]) (o.length : Int) = q := by simp [rd_T71]
theorem mk_l1 : ∀ (t p o : List S71), (p ++ t).length < 4398046511104 → o.length ≤ p.length → sane o → (∀ r ∈ t, okR r) → t.Pairwise (fun x y => x.f0 ≤ y.f0) → (∀ o' q, o = o' ++ [q] → ∀ r ∈ t, q.f0 ≤ r.f0) →
    ∃ res, Ev (fun k => runs_Make.l1 k o (p ++ t) ((p ++ t).length : Int) (p.length : Int)) res ∧ sane res ∧ ∀ n, mem res n ↔ mem o n ∨ mem t n
  | [], p, o, hl, ho, hs, hv, hp, hq => ⟨o, Ev.step (fun k => by simp only [runs_Make.l1]; rw [if_neg (by simp)]) (Ev.now _), hs, fun n => by simp [mem_nil]⟩
  | r :: t, p, o, hl, ho, hs, hv, hp, hq => by
    have hlen : p.length + (t.length + 1) < 4398046511104 := by simpa using hl
    have hr : rd_T71 (p ++ r :: t) (p.length : Int) = r := by simp [rd_T71]
    have hi : wrap64 ((p.length : Int) + 1) = ((p ++ [r]).length : Int) := by rw [wN (n := p.length + 1) (by omega) (by omega)]; simp
    have happ : p ++ r :: t = (p ++ [r]) ++ t := by simp
    have hok := hv r List.mem_cons_self
    have hlim : lim = 1099511627776 := rfl
    unfold okR at hok
    have hgo : ∀ o2 : List S71, o2.length ≤ p.length + 1 → sane o2 → (∀ o' q, o2 = o' ++ [q] → ∀ x ∈ t, q.f0 ≤ x.f0) →
        ∃ res, Ev (fun k => runs_Make.l1 k o2 (p ++ r :: t) ((p ++ r :: t).length : Int) (wrap64 ((p.length : Int) + 1))) res ∧ sane res ∧ ∀ n, mem res n ↔ mem o2 n ∨ mem t n := by
      intro o2 h1 h2 h3
      rw [hi, happ]
      exact mk_l1 t (p ++ [r]) o2 (by rw [← happ]; exact hl) (by simpa using h1) h2 (fun x hx => hv x (List.mem_cons_of_mem _ hx)) (List.pairwise_cons.1 hp).2 h3
    have hlt : (p.length : Int) < ((p ++ r :: t).length : Int) := by simp; omega
    rcases List.eq_nil_or_concat o with ho0 | ⟨o', q, ho'⟩
    · subst ho0
      obtain ⟨res, e, s, m⟩ := hgo [r] (by simp) ⟨by omega, by omega, by omega, trivial⟩ (fun o' q e x hx => by
        have : q = r := by
          have h := congrArg List.getLast? e
          simpa using h.symm
        subst this
        exact (List.pairwise_cons.1 hp).1 x hx)
      refine ⟨res, Ev.step (fun k => by simp only [runs_Make.l1]; rfl) ?_, s, fun n => by rw [m n, mem_cons, mem_cons (r := r) (t := t)]; simp [mem_nil]⟩
      refine Ev.ift hlt (Ev.ift (by omega) (Ev.ift hlt ?_))
      simp only [hr]
      refine Ev.iff_ (by simp [wrap64]) (Ev.ift (by simp) ?_)
      exact e
    · have ho2 : o = o' ++ [q] := by simpa using ho'
      subst ho2
      have hk : wrap64 (((o' ++ [q]).length : Int) - 1) = (o'.length : Int) := by
        simp only [List.length_append, List.length_cons, List.length_nil] at ho ⊢
        exact wN (by omega) (by omega)
      have hsl := sane_lim o' _ q hs
      have hqr := hq o' q rfl r List.mem_cons_self
      have hw : wrap64 (q.f1 + 1) = q.f1 + 1 := w64 (by omega) (by omega)
      have hlo : (o'.length : Int) < ((o' ++ [q]).length : Int) := by simp; omega
      by_cases c : r.f0 ≤ q.f1 + 1
      · have hx : o'.length + 1 ≤ p.length := by simpa using ho
        obtain ⟨res, e, s, m⟩ := hgo (o' ++ [(⟨q.f0, mx q.f1 r.f1⟩ : S71)]) (by simp; omega) (sane_last (x := (⟨q.f0, mx q.f1 r.f1⟩ : S71)) (q := q) rfl (by show q.f1 ≤ mx q.f1 r.f1; unfold mx; split <;> omega) (by show mx q.f1 r.f1 ≤ lim; unfold mx; split <;> omega) o' _ hs) (fun o2 q2 e x hx2 => by
          have h := congrArg List.getLast? e
          have : q2 = ⟨q.f0, mx q.f1 r.f1⟩ := by simpa using h.symm
          subst this
          exact hq o' q rfl x (List.mem_cons_of_mem _ hx2))
        refine ⟨res, Ev.step (fun k => by simp only [runs_Make.l1]; rfl) ?_, s, fun n => ?_⟩
        · refine Ev.ift hlt (Ev.ift (by omega) (Ev.ift hlt ?_))
          simp only [hr, hk, rd_last, hw]
          refine Ev.ift (by omega) (Ev.ift (by omega) (Ev.ift hlo (Ev.ift c ?_)))
          simp only [Int.toNat_natCast, List.set_append_right _ _ (Nat.le_refl _), Nat.sub_self, List.set_cons_zero]
          exact e
        · rw [m n, mem_append, mem_append, mem_cons, mem_cons, mem_cons]
          simp only [mem_nil, or_false, mx]
          constructor
          · rintro ((h | h) | h)
            · exact .inl (.inl h)
            · by_cases hn : n ≤ q.f1
              · exact .inl (.inr (by omega))
              · refine .inr (.inl ?_)
                split at h <;> omega
            · exact .inr (.inr h)
          · rintro ((h | h) | (h | h))
            · exact .inl (.inl h)
            · refine .inl (.inr ?_)
              split <;> omega
            · refine .inl (.inr ?_)
              split <;> omega
            · exact .inr h
      · obtain ⟨res, e, s, m⟩ := hgo ((o' ++ [q]) ++ [r]) (by simp only [List.length_append, List.length_cons, List.length_nil] at ho ⊢; omega) (sane_more (by omega) (by omega) (by omega) o' _ hs) (fun o2 q2 e x hx2 => by
          have h := congrArg List.getLast? e
          have : q2 = r := by simpa using h.symm
          subst this
          exact (List.pairwise_cons.1 hp).1 x hx2)
        refine ⟨res, Ev.step (fun k => by simp only [runs_Make.l1]; rfl) ?_, s, fun n => ?_⟩
        · refine Ev.ift hlt (Ev.ift (by omega) (Ev.ift hlt ?_))
          simp only [hr, hk, rd_last, hw]
          refine Ev.ift (by omega) (Ev.ift (by omega) (Ev.ift hlo (Ev.iff_ c (Ev.ift (by omega) ?_))))
          exact e
        · rw [m n, mem_append (s := o' ++ [q]), mem_cons (r := r) (t := t), mem_cons (r := r) (t := [])]
          simp only [mem_nil, or_false, or_assoc]
def cut (l : List S71) : List S71 := (l.map clamp).filter (fun r => decide (r.f0 ≤ r.f1))
theorem mk_l0 (r : List S71) : ∀ (t p acc : List S71), (p ++ t).length < 4398046511104 → acc.length ≤ p.length →
    Ev (fun k => (api_Run_49.f k (acc ++ cut t)).bind fun t246 => runs_Make.l1 k ([] : List S71) t246 ((acc ++ cut t).length : Int) 0) r →
    Ev (fun k => runs_Make.l0 k acc (p ++ t) ((p ++ t).length : Int) (p.length : Int)) r
  | [], p, acc, hl, ha, h => by
    simp only [cut, List.map_nil, List.filter_nil, List.append_nil] at h
    exact Ev.step (fun k => by simp only [runs_Make.l0]; rw [if_neg (by simp)]) h
  | q :: t, p, acc, hl, ha, h => by
    have hlen : p.length + (t.length + 1) < 4398046511104 := by simpa using hl
    have hr : rd_T71 (p ++ q :: t) (p.length : Int) = q := by simp [rd_T71]
    have hi : wrap64 ((p.length : Int) + 1) = ((p ++ [q]).length : Int) := by rw [wN (n := p.length + 1) (by omega) (by omega)]; simp
    have happ : p ++ q :: t = (p ++ [q]) ++ t := by simp
    have hlt : (p.length : Int) < ((p ++ q :: t).length : Int) := by simp; omega
    have hlim : lim = 1099511627776 := rfl
    have hc : (⟨mx q.f0 (-1099511627776), mn q.f1 1099511627776⟩ : S71) = clamp q := by
      unfold clamp mx mn
      congr 1
      · simp only [hlim]; split <;> omega
      · simp only [hlim]; split <;> omega
    have hc0 : mx q.f0 (-1099511627776) = (clamp q).f0 := congrArg (fun x => x.f0) hc
    have hc1 : mn q.f1 1099511627776 = (clamp q).f1 := congrArg (fun x => x.f1) hc
    refine Ev.step (fun k => by simp only [runs_Make.l0]; rfl) ?_
    refine Ev.ift hlt (Ev.ift (by omega) (Ev.ift hlt ?_))
    simp only [hr, hc0, hc1]
    rw [hi, happ]
    by_cases c : (clamp q).f0 ≤ (clamp q).f1
    · refine Ev.ift c (Ev.ift (by omega) ?_)
      refine mk_l0 r t (p ++ [q]) (acc ++ [clamp q]) (by rw [← happ]; exact hl) (by simp; omega) ?_
      have e : acc ++ cut (q :: t) = (acc ++ [clamp q]) ++ cut t := by simp [cut, c]
      rw [e] at h
      exact h
    · refine Ev.iff_ c ?_
      refine mk_l0 r t (p ++ [q]) acc (by rw [← happ]; exact hl) (by simp; omega) ?_
      have e : acc ++ cut (q :: t) = acc ++ cut t := by simp [cut, c]
      rw [e] at h
      exact h
end Go.Proofs.YthppfagfmjchoaaGreatDoor.A.So
namespace Go.Proofs.YthppfagfmjchoaaGreatDoor.A.So
open Go.RowKit Go.Proofs.YthppfagfmjchoaaGreatDoorW.PrintWords Go.Proofs.YthppfagfmjchoaaGreatDoorW.PrintLast Go.Proofs.YthppfagfmjchoaaGreatDoorW.PrintMore
attribute [local go_sem] max2_int min2_int max_two min_two max_three min_three max_four min_four
set_option linter.unusedVariables false
set_option linter.unusedSimpArgs false
attribute [local go_sem] isSome_setCell
set_option maxHeartbeats 8000000 in
set_option maxRecDepth 100000 in
theorem cmp_isNaN_int.calls (a0 : Int) (r : Bool) (w : World) (h : cmp_isNaN_int.f a0 = some r) :
  Calls Tryz.prog 206 #[.int .i64 a0] w fun e w' => e = .returned (.bool r) ∧ Drawn0 w w' := by
 have H : (some (a0 != a0)) = some r := h; clear h; obtain rfl := Option.some.inj H; go_enter Tryz.func206, Tryz.ntmps206; go_wp2; go_ret; exact ⟨by first | rfl | (simp; done) | (simp [*]; done), by repeat (first | exact Drawn0.refl _ | apply Drawn0.step)⟩
set_option maxHeartbeats 8000000 in
set_option maxRecDepth 100000 in
theorem cmp_Compare_int.calls (a0 a1 r : Int) (w : World) (h : cmp_Compare_int.f a0 a1 = some r) :
  Calls Tryz.prog 180 #[.int .i64 a0, .int .i64 a1] w fun e w' => e = .returned (.int .i64 r) ∧ Drawn0 w w' := by
 have H : ((cmp_isNaN_int.f a0).bind fun t101 => ((cmp_isNaN_int.f a1).bind fun t102 => (if t101 = true then (if t102 = true then (some 0) else (some (-1))) else (if t102 = true then (some 1) else (if a0 < a1 then (some (-1)) else (if a0 > a1 then (some 1) else (some 0))))))) = some r := h; clear h; obtain ⟨t101, A3, H⟩ := bi_ H; obtain ⟨t102, A4, H⟩ := bi_ H
 cases t101
 ·replace H := iN_ H
  cases t102
  ·replace H := iN_ H
   obtain ⟨c8b0, H⟩ | ⟨c8b0, H⟩ := ic_ H
   ·obtain rfl := Option.some.inj H; go_enter Tryz.func180, Tryz.ntmps180; go_wp2_with (first | ((with_reducible refine gC 206 ?_); refine goesL_ (some 8) rfl rfl Tryz.func206 (by kernel_rfl) rfl #[.int .i64 a0] rfl ml_ ?_; (with_reducible refine (cmp_isNaN_int.calls a0 false _ A3.out).mono ?_); rintro e w' ⟨rfl, ⟨nd, rfl⟩⟩; refine ⟨_, rfl, ?_⟩) | ((with_reducible refine gC 206 ?_); refine goesL_ (some 10) rfl rfl Tryz.func206 (by kernel_rfl) rfl #[.int .i64 a1] rfl ml_ ?_; (with_reducible refine (cmp_isNaN_int.calls a1 false _ A4.out).mono ?_); rintro e w' ⟨rfl, ⟨nd, rfl⟩⟩; refine ⟨_, rfl, ?_⟩)); go_ret; exact ⟨by first | rfl | (simp; done) | (simp [*]; done), by repeat (first | exact Drawn0.refl _ | apply Drawn0.step)⟩
   ·obtain ⟨c9b0, H⟩ | ⟨c9b0, H⟩ := ic_ H
    ·obtain rfl := Option.some.inj H; go_enter Tryz.func180, Tryz.ntmps180; go_wp2_with (first | ((with_reducible refine gC 206 ?_); refine goesL_ (some 8) rfl rfl Tryz.func206 (by kernel_rfl) rfl #[.int .i64 a0] rfl ml_ ?_; (with_reducible refine (cmp_isNaN_int.calls a0 false _ A3.out).mono ?_); rintro e w' ⟨rfl, ⟨nd, rfl⟩⟩; refine ⟨_, rfl, ?_⟩) | ((with_reducible refine gC 206 ?_); refine goesL_ (some 10) rfl rfl Tryz.func206 (by kernel_rfl) rfl #[.int .i64 a1] rfl ml_ ?_; (with_reducible refine (cmp_isNaN_int.calls a1 false _ A4.out).mono ?_); rintro e w' ⟨rfl, ⟨nd, rfl⟩⟩; refine ⟨_, rfl, ?_⟩)); go_ret; exact ⟨by first | rfl | (simp; done) | (simp [*]; done), by repeat (first | exact Drawn0.refl _ | apply Drawn0.step)⟩
    ·obtain rfl := Option.some.inj H; go_enter Tryz.func180, Tryz.ntmps180; go_wp2_with (first | ((with_reducible refine gC 206 ?_); refine goesL_ (some 8) rfl rfl Tryz.func206 (by kernel_rfl) rfl #[.int .i64 a0] rfl ml_ ?_; (with_reducible refine (cmp_isNaN_int.calls a0 false _ A3.out).mono ?_); rintro e w' ⟨rfl, ⟨nd, rfl⟩⟩; refine ⟨_, rfl, ?_⟩) | ((with_reducible refine gC 206 ?_); refine goesL_ (some 10) rfl rfl Tryz.func206 (by kernel_rfl) rfl #[.int .i64 a1] rfl ml_ ?_; (with_reducible refine (cmp_isNaN_int.calls a1 false _ A4.out).mono ?_); rintro e w' ⟨rfl, ⟨nd, rfl⟩⟩; refine ⟨_, rfl, ?_⟩)); go_ret; exact ⟨by first | rfl | (simp; done) | (simp [*]; done), by repeat (first | exact Drawn0.refl _ | apply Drawn0.step)⟩
  ·replace H := iP_ H; obtain rfl := Option.some.inj H; go_enter Tryz.func180, Tryz.ntmps180; go_wp2_with (first | ((with_reducible refine gC 206 ?_); refine goesL_ (some 8) rfl rfl Tryz.func206 (by kernel_rfl) rfl #[.int .i64 a0] rfl ml_ ?_; (with_reducible refine (cmp_isNaN_int.calls a0 false _ A3.out).mono ?_); rintro e w' ⟨rfl, ⟨nd, rfl⟩⟩; refine ⟨_, rfl, ?_⟩) | ((with_reducible refine gC 206 ?_); refine goesL_ (some 10) rfl rfl Tryz.func206 (by kernel_rfl) rfl #[.int .i64 a1] rfl ml_ ?_; (with_reducible refine (cmp_isNaN_int.calls a1 true _ A4.out).mono ?_); rintro e w' ⟨rfl, ⟨nd, rfl⟩⟩; refine ⟨_, rfl, ?_⟩)); go_ret; exact ⟨by first | rfl | (simp; done) | (simp [*]; done), by repeat (first | exact Drawn0.refl _ | apply Drawn0.step)⟩
 ·replace H := iP_ H
  cases t102
  ·replace H := iN_ H; obtain rfl := Option.some.inj H; go_enter Tryz.func180, Tryz.ntmps180; go_wp2_with (first | ((with_reducible refine gC 206 ?_); refine goesL_ (some 8) rfl rfl Tryz.func206 (by kernel_rfl) rfl #[.int .i64 a0] rfl ml_ ?_; (with_reducible refine (cmp_isNaN_int.calls a0 true _ A3.out).mono ?_); rintro e w' ⟨rfl, ⟨nd, rfl⟩⟩; refine ⟨_, rfl, ?_⟩) | ((with_reducible refine gC 206 ?_); refine goesL_ (some 10) rfl rfl Tryz.func206 (by kernel_rfl) rfl #[.int .i64 a1] rfl ml_ ?_; (with_reducible refine (cmp_isNaN_int.calls a1 false _ A4.out).mono ?_); rintro e w' ⟨rfl, ⟨nd, rfl⟩⟩; refine ⟨_, rfl, ?_⟩)); go_ret; exact ⟨by first | rfl | (simp; done) | (simp [*]; done), by repeat (first | exact Drawn0.refl _ | apply Drawn0.step)⟩
  ·replace H := iP_ H; obtain rfl := Option.some.inj H; go_enter Tryz.func180, Tryz.ntmps180; go_wp2_with (first | ((with_reducible refine gC 206 ?_); refine goesL_ (some 8) rfl rfl Tryz.func206 (by kernel_rfl) rfl #[.int .i64 a0] rfl ml_ ?_; (with_reducible refine (cmp_isNaN_int.calls a0 true _ A3.out).mono ?_); rintro e w' ⟨rfl, ⟨nd, rfl⟩⟩; refine ⟨_, rfl, ?_⟩) | ((with_reducible refine gC 206 ?_); refine goesL_ (some 10) rfl rfl Tryz.func206 (by kernel_rfl) rfl #[.int .i64 a1] rfl ml_ ?_; (with_reducible refine (cmp_isNaN_int.calls a1 true _ A4.out).mono ?_); rintro e w' ⟨rfl, ⟨nd, rfl⟩⟩; refine ⟨_, rfl, ?_⟩)); go_ret; exact ⟨by first | rfl | (simp; done) | (simp [*]; done), by repeat (first | exact Drawn0.refl _ | apply Drawn0.step)⟩
set_option maxHeartbeats 8000000 in
set_option maxRecDepth 100000 in
theorem runs_order_compare.calls (a0_0 : Bool) (a1_0 a1_1 a2_0 a2_1 r : Int) (w : World) (h : runs_order_compare.f a0_0 a1_0 a1_1 a2_0 a2_1 = some r) :
  Calls Tryz.prog 153 #[.agg #[.bool a0_0], .agg #[.int .i64 a1_0, .int .i64 a1_1], .agg #[.int .i64 a2_0, .int .i64 a2_1]] w fun e w' => e = .returned (.int .i64 r) ∧ Below w.heap.size w w' := by
 have hu165 := Tryz.underlying165; have hu71 := Tryz.underlying71; have HB := A_ (Below.refl w.heap.size w); have H : (if a0_0 = true then ((cmp_Compare_int.f a2_0 a1_0).bind fun t106 => (some t106)) else ((cmp_Compare_int.f a1_0 a2_0).bind fun t107 => (some t107))) = some r := h; clear h
 cases a0_0
 ·replace H := iN_ H; obtain ⟨t107, A15, H⟩ := bi_ H; obtain rfl := Option.some.inj H; go_enter Tryz.func153, Tryz.ntmps153; go_wp2_with (first | ((with_reducible refine gD 3 ?_); refine gx_ w 3 #[.bool false] 165 ?_; clear HB; intro gb103 w16 BK103 GE103 HB; have GW103 := GE103) | ((with_reducible refine gD 4 ?_); refine bxe_ 4 #[.int .i64 a1_0, .int .i64 a1_1] 71 ?_; intro gb104 hg w17 hbox hb; have BK104 := A_ (hbox); have GW104 := gs_ w hg; have GE104 := gs_ w hg; replace HB := bs_ hb; have NB103_104 := nl_ BK103 hg; have NB104_103 := ng_ BK103 hg; replace BK103 := bb_ BK103 hb; clear hb hbox hg) | ((with_reducible refine gD 5 ?_); refine bxe_ 5 #[.int .i64 a2_0, .int .i64 a2_1] 71 ?_; intro gb105 hg w18 hbox hb; have BK105 := A_ (hbox); have GW105 := gs_ w hg; have GE105 := gs_ w hg; replace HB := bs_ hb; have NB103_105 := nl_ BK103 hg; have NB105_103 := ng_ BK103 hg; replace BK103 := bb_ BK103 hb; have NB104_105 := nl_ BK104 hg; have NB105_104 := ng_ BK104 hg; replace BK104 := bb_ BK104 hb; clear hb hbox hg; have hnb19 := NB103_104.out; have hnc19 := NB104_103.out; have hnb20 := NB103_105.out; have hnc20 := NB105_103.out; have Z21 := bz1_ BK103; have hnb22 := NB104_105.out; have hnc22 := NB105_104.out; have Z23 := bz2_ BK104; have Z24 := bz2_ BK105) | ((with_reducible refine gC 180 ?_); refine goesL_ (some 15) rfl rfl Tryz.func180 (by kernel_rfl) rfl #[.int .i64 a1_0, .int .i64 a2_0] rfl ml_ ?_; (with_reducible refine (cmp_Compare_int.calls a1_0 a2_0 t107 _ A15.out).mono ?_); rintro e w' ⟨rfl, ⟨nd, rfl⟩⟩; refine ⟨_, rfl, ?_⟩))
  go_ret; exact ⟨re_, hs_⟩
 ·replace H := iP_ H; obtain ⟨t106, A5, H⟩ := bi_ H; obtain rfl := Option.some.inj H; go_enter Tryz.func153, Tryz.ntmps153; go_wp2_with (first | ((with_reducible refine gD 3 ?_); refine gx_ w 3 #[.bool true] 165 ?_; clear HB; intro gb103 w6 BK103 GE103 HB; have GW103 := GE103) | ((with_reducible refine gD 4 ?_); refine bxe_ 4 #[.int .i64 a1_0, .int .i64 a1_1] 71 ?_; intro gb104 hg w7 hbox hb; have BK104 := A_ (hbox); have GW104 := gs_ w hg; have GE104 := gs_ w hg; replace HB := bs_ hb; have NB103_104 := nl_ BK103 hg; have NB104_103 := ng_ BK103 hg; replace BK103 := bb_ BK103 hb; clear hb hbox hg) | ((with_reducible refine gD 5 ?_); refine bxe_ 5 #[.int .i64 a2_0, .int .i64 a2_1] 71 ?_; intro gb105 hg w8 hbox hb; have BK105 := A_ (hbox); have GW105 := gs_ w hg; have GE105 := gs_ w hg; replace HB := bs_ hb; have NB103_105 := nl_ BK103 hg; have NB105_103 := ng_ BK103 hg; replace BK103 := bb_ BK103 hb; have NB104_105 := nl_ BK104 hg; have NB105_104 := ng_ BK104 hg; replace BK104 := bb_ BK104 hb; clear hb hbox hg; have hnb9 := NB103_104.out; have hnc9 := NB104_103.out; have hnb10 := NB103_105.out; have hnc10 := NB105_103.out; have Z11 := bz1_ BK103; have hnb12 := NB105_104.out; have hnc12 := NB104_105.out; have Z13 := bz2_ BK105; have Z14 := bz2_ BK104) | ((with_reducible refine gC 180 ?_); refine goesL_ (some 15) rfl rfl Tryz.func180 (by kernel_rfl) rfl #[.int .i64 a2_0, .int .i64 a1_0] rfl ml_ ?_; (with_reducible refine (cmp_Compare_int.calls a2_0 a1_0 t106 _ A5.out).mono ?_); rintro e w' ⟨rfl, ⟨nd, rfl⟩⟩; refine ⟨_, rfl, ?_⟩))
  go_ret; exact ⟨re_, hs_⟩
end Go.Proofs.YthppfagfmjchoaaGreatDoor.A.So
namespace Go.Proofs.YthppfagfmjchoaaGreatDoor.A.So
open Go.RowKit Go.Proofs.YthppfagfmjchoaaGreatDoorW.PrintWords Go.Proofs.YthppfagfmjchoaaGreatDoorW.PrintLast Go.Proofs.YthppfagfmjchoaaGreatDoorW.PrintMore
attribute [local go_sem] max2_int min2_int max_two min_two max_three min_three max_four min_four
set_option linter.unusedVariables false
set_option linter.unusedSimpArgs false
def api_Run_64.T4 : Bool × List (List Nat × List Nat) := (true, [([], []), ([], []), ([0, 1], [0, 1]), ([2], [2]), ([3], [3]), ([3], [3]), ([3], [3]), ([5, 6, 3], [3, 5, 6]), ([7, 3], [3, 7]), ([3], [3]), ([3], [3]), ([10, 3], [3, 10]), ([9, 11, 3], [3, 9, 11]), ([12, 3], [3, 12]), ([4, 8, 13, 3, 3], [3, 4, 8, 13]), ([14, 3], [3, 14]), ([3, 15], [3, 15])])
def api_Run_64.B4 : List Nat := [0, 0, 3, 7, 15, 15, 15, 111, 239, 15, 15, 1039, 3599, 7695, 16383, 32767, 65535]
theorem api_Run_64.tab4 : rtab .any (opsOf Tryz.f212 4) = api_Run_64.T4 := by kernel_rfl
theorem api_Run_64.bits4 : waitsOk api_Run_64.T4.2 api_Run_64.B4 = true := by kernel_rfl
set_option maxHeartbeats 8000000 in
set_option maxRecDepth 100000 in
theorem api_Run_64.calls (k : Nat) (P0_ : Nat → Prop) (u9000_ : Value) (l0 : List (S71)) (a1 a2 : Int)  (r : List (S71)) (w0 w : World) (hB : Below w0.heap.size w0 w) (ho0 : Kd.R k71 71 w w0.heap.size P0_ u9000_ l0) (h : api_Run_64.f k l0 a1 a2 = some r) :
  Calls Tryz.prog 212 #[u9000_, .int .i64 a1, .int .i64 a2, .func (.func 153) #[.agg #[.bool false]] #[]] w fun e w' => e = .returned (.tuple #[]) ∧ Kd.R k71 71 w' w0.heap.size (fun k_ => (P0_ k_ ∨ w.heap.size ≤ k_)) u9000_ r ∧ Below w0.heap.size w0 w' ∧ Kept w w' (fun k_ => P0_ k_) := by
 have hu71 := Tryz.underlying71; have HO0 := A_ (show Kd.R k71 71 w w0.heap.size (fun k_ => (P0_ k_ ∨ w.heap.size ≤ k_)) u9000_ l0 from Kd.R_mono ho0 (fun k_ hk => (.inl hk))); have HK := A_ (Kept.refl w (fun k_ => P0_ k_)); have HW0 := A_ hB.size; have HB := A_ hB; clear hB; have H : (api_Run_64.l0 k l0 a1 a2 (wrap64 (a1 + 1))) = some r := h; clear h; have H' := A_ H; clear H; go_enter Tryz.func212, Tryz.ntmps212; go_wp2; go_loopg [8] k (fun kq v8 w' => ∃ (x0_1 : List (S71)) (x8_1 : Int), v8 = .int .i64 x8_1 ∧ Aside0 (api_Run_64.l0 kq x0_1 a1 a2 x8_1 = some r) ∧ Aside0 (kq ≤ k) ∧ Aside0 (Kd.R k71 71 w' w0.heap.size (fun k_ => (P0_ k_ ∨ w.heap.size ≤ k_)) u9000_ x0_1) ∧ Aside0 (Kept w w' (fun k_ => P0_ k_)) ∧ Aside0 (Below w0.heap.size w0 w'))
 case atStart => exact ⟨(l0), (wrap64 (a1 + 1)), rf_, H', ⟨Nat.le_refl _⟩, ⟨fxR_ HO0.out⟩, ⟨hk_⟩, ⟨hs_⟩⟩
 case round =>
  clear H'; obtain ⟨x0_1, x8_1, rfl, HA, HK1, HO_0, HK, HB⟩ := hrel
  cases gk with
  | zero => exact absurd HA.out (by simp [api_Run_64.l0])
  | succ k1 =>
   have H := HA.out; clear HA; simp only [api_Run_64.l0] at H
   obtain ⟨c5b0, H⟩ | ⟨c5b0, H⟩ := ic_ H
   ·have H' := A_ H; clear H; go_wp2; go_loopg [9] k1 (fun kq v9 w' => ∃ (x0_2 : List (S71)) (x9_2 : Int), v9 = .int .i64 x9_2 ∧ Aside0 (api_Run_64.l1 kq x0_2 a1 a2 x8_1 x9_2 = some r) ∧ Aside0 (kq ≤ k1) ∧ Aside0 (Kd.R k71 71 w' w0.heap.size (fun k_ => (P0_ k_ ∨ w.heap.size ≤ k_)) u9000_ x0_2) ∧ Aside0 (Kept w w' (fun k_ => P0_ k_)) ∧ Aside0 (Below w0.heap.size w0 w'))
    case atStart => exact ⟨(x0_1), (x8_1), rf_, H', ⟨Nat.le_refl _⟩, ⟨h0_⟩, ⟨hk_⟩, ⟨hs_⟩⟩
    case round =>
     clear H'; obtain ⟨x0_2, x9_2, rfl, HA, HK2, HO_0, HK, HB⟩ := hrel
     cases gk with
     | zero => exact absurd HA.out (by simp [api_Run_64.l1])
     | succ k2 =>
      have H := HA.out; clear HA; simp only [api_Run_64.l1] at H
      obtain ⟨c6b0, H⟩ | ⟨c6b0, H⟩ := ic_ H
      ·obtain ⟨c7b0, H⟩ := gd_ H
       obtain ⟨c8b0, H⟩ := gd_ H; obtain ⟨ji9, hji9⟩ : ∃ j_ : Int, (wrap64 (x9_2 - 1)) = j_ := ⟨_, rfl⟩; (first | rw [hji9] at H | simp only [hji9] at H); have hji9w : (IntKind.i64.wrap (x9_2 - 1)) = ji9 := (i64_w _).trans hji9
       obtain ⟨c10b0, H⟩ := gd_ H
       obtain ⟨c11b0, H⟩ := gd_ H; obtain ⟨t110, A12, H⟩ := bi_ H
       obtain ⟨c13b0, H⟩ := ge_ H; have H' := A_ H; clear H; (try go_wp2); replace HO_0 := A_ (Kd.R_drew HO_0.out); replace HK := A_ (Kept.drew HK.out); replace HB := A_ (below_drew1 HB.out); obtain ⟨Ao23, co23, eo23⟩ := Kd.R_slice HO_0.out; (first | subst eo23 | (injection eo23 with f1_ f2_ f3_; have f4_ := f1_.symm; have f5_ := f3_.symm; clear f1_ f2_ f3_; subst f4_; subst f5_)); have p108 : 0 ≤ (x9_2 : Int) := od_; have q108 : x9_2 < (x0_2.length : Int) := od_; obtain ⟨ad108, e108, hx108_0, hx108_1⟩ := at_T71 (Kd.R_reads' HO_0.out).2.2 x9_2 p108 q108
       cases e108
       replace p108 := eq_true p108; replace q108 := eq_true q108; have p109 : 0 ≤ ((ji9) : Int) := od_; have q109 : (ji9) < (x0_2.length : Int) := od_; obtain ⟨ad109, e109, hx109_0, hx109_1⟩ := at_T71 (Kd.R_reads' HO_0.out).2.2 (ji9) p109 q109; obtain rfl : ad108 = ad109 := (by injection e109); replace p109 := eq_true p109; replace q109 := eq_true q109; refine start_ (n := 17) (S := fun w' => w'.cell? (ad108.add ((x9_2).toNat * 2)) = some (.int .i64 ((rd_T71 x0_2 x9_2).f0)) ∧ w'.cell? ⟨(ad108.add ((x9_2).toNat * 2)).block, (ad108.add ((x9_2).toNat * 2)).off + 1, none⟩ = some (.int .i64 ((rd_T71 x0_2 x9_2).f1)) ∧ w'.cell? (ad108.add (((ji9)).toNat * 2)) = some (.int .i64 ((rd_T71 x0_2 (ji9)).f0)) ∧ w'.cell? ⟨(ad108.add (((ji9)).toNat * 2)).block, (ad108.add (((ji9)).toNat * 2)).off + 1, none⟩ = some (.int .i64 ((rd_T71 x0_2 (ji9)).f1))) (ds := []) (ab 17 0) (by kernel_rfl) rfl rfl ⟨hx108_0, hx108_1, hx109_0, hx109_1⟩ (fun hHeld => ?_); refine with_tabW api_Run_64.tab4 api_Run_64.bits4 (fun HT_ HW_ => ?_); generalize wr.drew = w22 at HO_0 HK HB hx108_0 hx108_1 hx109_0 hx109_1 hHeld ⊢; refine pA 0 18 17 1 ?_; refine pA 1 19 17 3 ?_; refine pA 2 20 17 7 ?_; refine pA 3 21 17 15 ?_; refine pA 4 22 17 31 ?_; refine pA 5 23 17 63 ?_; refine pA 6 24 17 127 ?_; refine pA 7 25 17 255 ?_; refine pA 9 27 17 767 ?_; refine pA 10 28 17 1791 ?_; refine pA 11 29 17 3839 ?_; refine pA 12 30 17 7935 ?_; refine tB 8 26 17 8191 ?_; refine tB 13 31 17 16383 ?_; refine oA 14 (some 32) 17 32767 fun K hK => ?_; refine goesV_ #[.agg #[.bool false]] Tryz.func153 (by kernel_rfl) rfl #[.agg #[.bool false], .agg #[.int .i64 ((rd_T71 x0_2 x9_2).f0), .int .i64 ((rd_T71 x0_2 x9_2).f1)], .agg #[.int .i64 ((rd_T71 x0_2 (ji9)).f0), .int .i64 ((rd_T71 x0_2 (ji9)).f1)]] (by rfl) rfl rfl rfl (by (try simp only [List.map_toArray, List.map_cons, List.map_nil]); first | done | (simp only [hji9]; rfl) | rfl | (simp only [List.length_drop, List.length_take]; rfl)) ?_; refine (runs_order_compare.calls false ((rd_T71 x0_2 x9_2).f0) ((rd_T71 x0_2 x9_2).f1) ((rd_T71 x0_2 (ji9)).f0) ((rd_T71 x0_2 (ji9)).f1) t110 _ A12.out).mono ?_; rintro e w24 ⟨rfl, hb⟩; have r_ := hHeld; have HS0_ := ch_ hb r_.1; replace r_ := r_.2; have HS1_ := ch_ hb r_.1; replace r_ := r_.2; have HS2_ := ch_ hb r_.1; replace r_ := r_.2; have HS3_ := ch_ hb r_; clear r_; refine ⟨_, rfl, ?_⟩; replace HO_0 := A_ (Kd.R_below h0_ hb); replace HK := A_ (Kept.below (S := (fun k_ => P0_ k_)) hk_ hb); replace HB := bs_ hb; refine hK.out _ _ ⟨HS0_, HS1_, HS2_, HS3_⟩ (fun hHeld => ?_); clear hK K; refine nA ?_; refine pA 15 33 17 65535 ?_; refine pA 16 34 17 131071 ?_; refine done_ (done_of HT_.out (by kernel_rfl)) ?_; (try go_wp2); go_roundg k2
       case measure => have := HK1.out; have := HK2.out; omega
       case rel => exact ⟨(x0_2), (wrap64 (x8_1 + 1)), rf_, H', ⟨by have := HK1.out; have := HK2.out; omega⟩, ⟨h0_⟩, ⟨hk_⟩, ⟨hs_⟩⟩
      ·have H' := A_ H; clear H; (try go_wp2); replace HO_0 := A_ (Kd.R_drew HO_0.out); replace HK := A_ (Kept.drew HK.out); replace HB := A_ (below_drew1 HB.out); refine start_ (n := 17) (S := fun w' => True) (ds := []) (ab 17 0) (by kernel_rfl) rfl rfl trivial (fun hHeld => ?_); refine with_tabW api_Run_64.tab4 api_Run_64.bits4 (fun HT_ HW_ => ?_); generalize wr.drew = w25 at HO_0 HK HB hHeld ⊢; refine pA 0 18 17 1 ?_; refine pA 1 19 17 3 ?_; refine pA 2 20 17 7 ?_; refine pA 3 21 17 15 ?_; refine uA 4 22 17 31 ?_; refine uA 5 23 17 63 ?_; refine uA 6 24 17 127 ?_; refine uA 7 25 17 255 ?_; refine uA 8 26 17 511 ?_; refine uA 9 27 17 1023 ?_; refine uA 10 28 17 2047 ?_; refine uA 11 29 17 4095 ?_; refine uA 12 30 17 8191 ?_; refine uA 13 31 17 16383 ?_; refine uA 14 32 17 32767 ?_; refine uA 15 33 17 65535 ?_; refine pA 16 34 17 131071 ?_; refine done_ (done_of HT_.out (by kernel_rfl)) ?_; (try go_wp2); go_roundg k2
       case measure => have := HK1.out; have := HK2.out; omega
       case rel => exact ⟨(x0_2), (wrap64 (x8_1 + 1)), rf_, H', ⟨by have := HK1.out; have := HK2.out; omega⟩, ⟨h0_⟩, ⟨hk_⟩, ⟨hs_⟩⟩
   ·obtain rfl := Option.some.inj H; go_wp2
    first | go_end0 | ((try simp only [Exit.inBlock, Exit.then]); refine bodyPost_ret (results_none rfl _ _ _) rfl ?_)
    exact ⟨re_, h0_, hs_, hk_⟩
end Go.Proofs.YthppfagfmjchoaaGreatDoor.A.So
namespace Go.Proofs.YthppfagfmjchoaaGreatDoor.A.So
open Go.RowKit Go.Proofs.YthppfagfmjchoaaGreatDoorW.PrintWords Go.Proofs.YthppfagfmjchoaaGreatDoorW.PrintLast Go.Proofs.YthppfagfmjchoaaGreatDoorW.PrintMore
attribute [local go_sem] max2_int min2_int max_two min_two max_three min_three max_four min_four
end Go.Proofs.YthppfagfmjchoaaGreatDoor.A.So
namespace Go.Proofs.YthppfagfmjchoaaGreatDoor.A.So
open Go.RowKit Go.Proofs.YthppfagfmjchoaaGreatDoorW.PrintWords Go.Proofs.YthppfagfmjchoaaGreatDoorW.PrintLast Go.Proofs.YthppfagfmjchoaaGreatDoorW.PrintMore
attribute [local go_sem] max2_int min2_int max_two min_two max_three min_three max_four min_four
set_option linter.unusedVariables false
set_option linter.unusedSimpArgs false
end Go.Proofs.YthppfagfmjchoaaGreatDoor.A.So
namespace Go.Proofs.YthppfagfmjchoaaGreatDoor.A.So
open Go.RowKit Go.Proofs.YthppfagfmjchoaaGreatDoorW.PrintWords Go.Proofs.YthppfagfmjchoaaGreatDoorW.PrintLast Go.Proofs.YthppfagfmjchoaaGreatDoorW.PrintMore
attribute [local go_sem] max2_int min2_int max_two min_two max_three min_three max_four min_four
set_option linter.unusedVariables false
set_option linter.unusedSimpArgs false
def api_Run_69.T5 : Bool × List (List Nat × List Nat) := (true, [([], []), ([], []), ([0, 1], [0, 1]), ([2], [2]), ([3], [3]), ([3], [3]), ([3], [3]), ([5, 6, 3], [3, 5, 6]), ([7, 3], [3, 7]), ([3], [3]), ([3], [3]), ([10, 3], [3, 10]), ([9, 11, 3], [3, 9, 11]), ([12, 3], [3, 12]), ([4, 8, 13, 3, 3], [3, 4, 8, 13]), ([14, 3], [3, 14]), ([15, 3], [3, 15]), ([3, 16], [3, 16])])
def api_Run_69.B5 : List Nat := [0, 0, 3, 7, 15, 15, 15, 111, 239, 15, 15, 1039, 3599, 7695, 16383, 32767, 65535, 131071]
theorem api_Run_69.tab5 : rtab .any (opsOf Tryz.f217 5) = api_Run_69.T5 := by kernel_rfl
theorem api_Run_69.bits5 : waitsOk api_Run_69.T5.2 api_Run_69.B5 = true := by kernel_rfl
set_option maxHeartbeats 8000000 in
set_option maxRecDepth 100000 in
theorem api_Run_69.calls (k : Nat) (P0_ : Nat → Prop) (u9000_ : Value) (l0 : List (S71)) (a1 a2 : Int)  (r1 : Bool) (r2 : List (S71)) (w0 w : World) (hB : Below w0.heap.size w0 w) (ho0 : Kd.R k71 71 w w0.heap.size P0_ u9000_ l0) (h : api_Run_69.f k l0 a1 a2 = some (r1, r2)) :
  Calls Tryz.prog 217 #[u9000_, .int .i64 a1, .int .i64 a2, .func (.func 153) #[.agg #[.bool false]] #[]] w fun e w' => e = .returned (.bool r1) ∧ Kd.R k71 71 w' w0.heap.size (fun k_ => (P0_ k_ ∨ w.heap.size ≤ k_)) u9000_ r2 ∧ Below w0.heap.size w0 w' ∧ Kept w w' (fun k_ => P0_ k_) := by
 have hu71 := Tryz.underlying71; have HO0 := A_ (show Kd.R k71 71 w w0.heap.size (fun k_ => (P0_ k_ ∨ w.heap.size ≤ k_)) u9000_ l0 from Kd.R_mono ho0 (fun k_ hk => (.inl hk))); have HK := A_ (Kept.refl w (fun k_ => P0_ k_)); have HW0 := A_ hB.size; have HB := A_ hB; clear hB; have H : (api_Run_69.l0 k l0 a1 a2 (wrap64 (a1 + 1)) 0) = some (r1, r2) := h; clear h; have H' := A_ H; clear H; go_enter Tryz.func217, Tryz.ntmps217; go_wp2; go_loopg [9, 10] k (fun kq v9 v10 w' => ∃ (x0_1 : List (S71)) (x9_1 : Int) (x10_1 : Int), v9 = .int .i64 x9_1 ∧ v10 = .int .i64 x10_1 ∧ Aside0 (api_Run_69.l0 kq x0_1 a1 a2 x9_1 x10_1 = some (r1, r2)) ∧ Aside0 (kq ≤ k) ∧ Aside0 (Kd.R k71 71 w' w0.heap.size (fun k_ => (P0_ k_ ∨ w.heap.size ≤ k_)) u9000_ x0_1) ∧ Aside0 (Kept w w' (fun k_ => P0_ k_)) ∧ Aside0 (Below w0.heap.size w0 w'))
 case atStart => exact ⟨(l0), (wrap64 (a1 + 1)), (0), rf_, rf_, H', ⟨Nat.le_refl _⟩, ⟨fxR_ HO0.out⟩, ⟨hk_⟩, ⟨hs_⟩⟩
 case round =>
  clear H'; obtain ⟨x0_1, x9_1, x10_1, rfl, rfl, HA, HK1, HO_0, HK, HB⟩ := hrel
  cases gk with
  | zero => exact absurd HA.out (by simp [api_Run_69.l0])
  | succ k1 =>
   have H := HA.out; clear HA; simp only [api_Run_69.l0] at H
   obtain ⟨c5b0, H⟩ := gd_ H; have HC6 := A_ H; clear H; go_upto_block 2 with (fail); go_cut [9] (fun v9 wc => ∃ (kq : Nat) (x9_5 : Int), v9 = .int .i64 x9_5 ∧ Aside0 (api_Run_69.j2 kq x0_1 a1 a2 x9_5 x10_1 = some (r1, r2)) ∧ Aside0 (kq ≤ k1) ∧ Aside0 (Kd.R k71 71 wc w0.heap.size (fun k_ => (P0_ k_ ∨ w.heap.size ≤ k_)) u9000_ x0_1) ∧ Aside0 (Kept w wc (fun k_ => P0_ k_)) ∧ Aside0 (Below w0.heap.size w0 wc))
   case first =>
    have H := HC6.out; clear HC6; have H' := A_ H; clear H; go_wp2; go_loopg [9] k1 (fun kq v9 w' => ∃ (x9_2 : Int), v9 = .int .i64 x9_2 ∧ Aside0 (api_Run_69.l1 kq x0_1 a1 a2 x9_2 x10_1 = some (r1, r2)) ∧ Aside0 (kq ≤ k1) ∧ Aside0 (Kd.R k71 71 w' w0.heap.size (fun k_ => (P0_ k_ ∨ w.heap.size ≤ k_)) u9000_ x0_1) ∧ Aside0 (Kept w w' (fun k_ => P0_ k_)) ∧ Aside0 (Below w0.heap.size w0 w'))
    case atStart => exact ⟨(x9_1), rf_, H', ⟨Nat.le_refl _⟩, ⟨h0_⟩, ⟨hk_⟩, ⟨hs_⟩⟩
    case round =>
     clear H'; obtain ⟨x9_2, rfl, HA, HK2, HO_0, HK, HB⟩ := hrel
     cases gk with
     | zero => exact absurd HA.out (by simp [api_Run_69.l1])
     | succ k2 =>
      have H := HA.out; clear HA; simp only [api_Run_69.l1] at H
      obtain ⟨c7b0, H⟩ | ⟨c7b0, H⟩ := ic_ H
      ·(first | rw [c7b0] | (simp only [i64_w, i32_w]; rw [c7b0]) | skip)
       obtain ⟨c8b0, H⟩ := gd_ H
       obtain ⟨c9b0, H⟩ := gd_ H; obtain ⟨ji10, hji10⟩ : ∃ j_ : Int, (wrap64 (x9_2 - 1)) = j_ := ⟨_, rfl⟩; (first | rw [hji10] at H | simp only [hji10] at H); have hji10w : (IntKind.i64.wrap (x9_2 - 1)) = ji10 := (i64_w _).trans hji10
       obtain ⟨c11b0, H⟩ := gd_ H
       obtain ⟨c12b0, H⟩ := gd_ H; obtain ⟨t144, A13, H⟩ := bi_ H
       obtain ⟨c14b0, H⟩ | ⟨c14b0, H⟩ := ic_ H
       ·have H' := A_ H; clear H; (try go_wp2); replace HO_0 := A_ (Kd.R_drew HO_0.out); replace HK := A_ (Kept.drew HK.out); replace HB := A_ (below_drew1 HB.out); obtain ⟨Ao16, co16, eo16⟩ := Kd.R_slice HO_0.out; (first | subst eo16 | (injection eo16 with f1_ f2_ f3_; have f4_ := f1_.symm; have f5_ := f3_.symm; clear f1_ f2_ f3_; subst f4_; subst f5_)); have p142 : 0 ≤ (x9_2 : Int) := od_; have q142 : x9_2 < (x0_1.length : Int) := od_; obtain ⟨ad142, e142, hx142_0, hx142_1⟩ := at_T71 (Kd.R_reads' HO_0.out).2.2 x9_2 p142 q142
        cases e142
        replace p142 := eq_true p142; replace q142 := eq_true q142; have p143 : 0 ≤ ((ji10) : Int) := od_; have q143 : (ji10) < (x0_1.length : Int) := od_; obtain ⟨ad143, e143, hx143_0, hx143_1⟩ := at_T71 (Kd.R_reads' HO_0.out).2.2 (ji10) p143 q143; obtain rfl : ad142 = ad143 := (by injection e143); replace p143 := eq_true p143; replace q143 := eq_true q143; refine start_ (n := 18) (S := fun w' => w'.cell? (ad142.add ((x9_2).toNat * 2)) = some (.int .i64 ((rd_T71 x0_1 x9_2).f0)) ∧ w'.cell? ⟨(ad142.add ((x9_2).toNat * 2)).block, (ad142.add ((x9_2).toNat * 2)).off + 1, none⟩ = some (.int .i64 ((rd_T71 x0_1 x9_2).f1)) ∧ w'.cell? (ad142.add (((ji10)).toNat * 2)) = some (.int .i64 ((rd_T71 x0_1 (ji10)).f0)) ∧ w'.cell? ⟨(ad142.add (((ji10)).toNat * 2)).block, (ad142.add (((ji10)).toNat * 2)).off + 1, none⟩ = some (.int .i64 ((rd_T71 x0_1 (ji10)).f1))) (ds := []) (ab 18 0) (by kernel_rfl) rfl rfl ⟨hx142_0, hx142_1, hx143_0, hx143_1⟩ (fun hHeld => ?_); refine with_tabW api_Run_69.tab5 api_Run_69.bits5 (fun HT_ HW_ => ?_); generalize wr.drew = w15 at HO_0 HK HB hx142_0 hx142_1 hx143_0 hx143_1 hHeld ⊢; refine pA 0 19 18 1 ?_; refine pA 1 20 18 3 ?_; refine pA 2 21 18 7 ?_; refine pA 3 22 18 15 ?_; refine pA 4 23 18 31 ?_; refine pA 5 24 18 63 ?_; refine pA 6 25 18 127 ?_; refine pA 7 26 18 255 ?_; refine pA 9 28 18 767 ?_; refine pA 10 29 18 1791 ?_; refine pA 11 30 18 3839 ?_; refine pA 12 31 18 7935 ?_; refine tB 8 27 18 8191 ?_; refine tB 13 32 18 16383 ?_; refine oA 14 (some 33) 18 32767 fun K hK => ?_; refine goesV_ #[.agg #[.bool false]] Tryz.func153 (by kernel_rfl) rfl #[.agg #[.bool false], .agg #[.int .i64 ((rd_T71 x0_1 x9_2).f0), .int .i64 ((rd_T71 x0_1 x9_2).f1)], .agg #[.int .i64 ((rd_T71 x0_1 (ji10)).f0), .int .i64 ((rd_T71 x0_1 (ji10)).f1)]] (by rfl) rfl rfl rfl (by (try simp only [List.map_toArray, List.map_cons, List.map_nil]); first | done | (simp only [hji10]; rfl) | rfl | (simp only [List.length_drop, List.length_take]; rfl)) ?_; refine (runs_order_compare.calls false ((rd_T71 x0_1 x9_2).f0) ((rd_T71 x0_1 x9_2).f1) ((rd_T71 x0_1 (ji10)).f0) ((rd_T71 x0_1 (ji10)).f1) t144 _ A13.out).mono ?_; rintro e w17 ⟨rfl, hb⟩; have r_ := hHeld; have HS0_ := ch_ hb r_.1; replace r_ := r_.2; have HS1_ := ch_ hb r_.1; replace r_ := r_.2; have HS2_ := ch_ hb r_.1; replace r_ := r_.2; have HS3_ := ch_ hb r_; clear r_; refine ⟨_, rfl, ?_⟩; replace HO_0 := A_ (Kd.R_below h0_ hb); replace HK := A_ (Kept.below (S := (fun k_ => P0_ k_)) hk_ hb); replace HB := bs_ hb; refine hK.out _ _ ⟨HS0_, HS1_, HS2_, HS3_⟩ (fun hHeld => ?_); clear hK K; refine nA ?_; refine pA 15 34 18 65535 ?_; refine pA 16 35 18 131071 ?_; refine pA 17 36 18 262143 ?_; refine done_ (done_of HT_.out (by kernel_rfl)) ?_; (try go_wp2); go_meet
        case rel => exact ⟨_, (x9_2), rf_, H', ⟨by have := HK1.out; have := HK2.out; first | omega | exact Nat.le_refl _⟩, ⟨h0_⟩, ⟨hk_⟩, ⟨hs_⟩⟩
       ·have H' := A_ H; clear H; (try go_wp2); replace HO_0 := A_ (Kd.R_drew HO_0.out); replace HK := A_ (Kept.drew HK.out); replace HB := A_ (below_drew1 HB.out); obtain ⟨Ao19, co19, eo19⟩ := Kd.R_slice HO_0.out; (first | subst eo19 | (injection eo19 with f1_ f2_ f3_; have f4_ := f1_.symm; have f5_ := f3_.symm; clear f1_ f2_ f3_; subst f4_; subst f5_)); have p142 : 0 ≤ (x9_2 : Int) := od_; have q142 : x9_2 < (x0_1.length : Int) := od_; obtain ⟨ad142, e142, hx142_0, hx142_1⟩ := at_T71 (Kd.R_reads' HO_0.out).2.2 x9_2 p142 q142
        cases e142
        replace p142 := eq_true p142; replace q142 := eq_true q142; have p143 : 0 ≤ ((ji10) : Int) := od_; have q143 : (ji10) < (x0_1.length : Int) := od_; obtain ⟨ad143, e143, hx143_0, hx143_1⟩ := at_T71 (Kd.R_reads' HO_0.out).2.2 (ji10) p143 q143; obtain rfl : ad142 = ad143 := (by injection e143); replace p143 := eq_true p143; replace q143 := eq_true q143; refine start_ (n := 18) (S := fun w' => w'.cell? (ad142.add ((x9_2).toNat * 2)) = some (.int .i64 ((rd_T71 x0_1 x9_2).f0)) ∧ w'.cell? ⟨(ad142.add ((x9_2).toNat * 2)).block, (ad142.add ((x9_2).toNat * 2)).off + 1, none⟩ = some (.int .i64 ((rd_T71 x0_1 x9_2).f1)) ∧ w'.cell? (ad142.add (((ji10)).toNat * 2)) = some (.int .i64 ((rd_T71 x0_1 (ji10)).f0)) ∧ w'.cell? ⟨(ad142.add (((ji10)).toNat * 2)).block, (ad142.add (((ji10)).toNat * 2)).off + 1, none⟩ = some (.int .i64 ((rd_T71 x0_1 (ji10)).f1))) (ds := []) (ab 18 0) (by kernel_rfl) rfl rfl ⟨hx142_0, hx142_1, hx143_0, hx143_1⟩ (fun hHeld => ?_); refine with_tabW api_Run_69.tab5 api_Run_69.bits5 (fun HT_ HW_ => ?_); generalize wr.drew = w18 at HO_0 HK HB hx142_0 hx142_1 hx143_0 hx143_1 hHeld ⊢; refine pA 0 19 18 1 ?_; refine pA 1 20 18 3 ?_; refine pA 2 21 18 7 ?_; refine pA 3 22 18 15 ?_; refine pA 4 23 18 31 ?_; refine pA 5 24 18 63 ?_; refine pA 6 25 18 127 ?_; refine pA 7 26 18 255 ?_; refine pA 9 28 18 767 ?_; refine pA 10 29 18 1791 ?_; refine pA 11 30 18 3839 ?_; refine pA 12 31 18 7935 ?_; refine tB 8 27 18 8191 ?_; refine tB 13 32 18 16383 ?_; refine oA 14 (some 33) 18 32767 fun K hK => ?_; refine goesV_ #[.agg #[.bool false]] Tryz.func153 (by kernel_rfl) rfl #[.agg #[.bool false], .agg #[.int .i64 ((rd_T71 x0_1 x9_2).f0), .int .i64 ((rd_T71 x0_1 x9_2).f1)], .agg #[.int .i64 ((rd_T71 x0_1 (ji10)).f0), .int .i64 ((rd_T71 x0_1 (ji10)).f1)]] (by rfl) rfl rfl rfl (by (try simp only [List.map_toArray, List.map_cons, List.map_nil]); first | done | (simp only [hji10]; rfl) | rfl | (simp only [List.length_drop, List.length_take]; rfl)) ?_; refine (runs_order_compare.calls false ((rd_T71 x0_1 x9_2).f0) ((rd_T71 x0_1 x9_2).f1) ((rd_T71 x0_1 (ji10)).f0) ((rd_T71 x0_1 (ji10)).f1) t144 _ A13.out).mono ?_; rintro e w20 ⟨rfl, hb⟩; have r_ := hHeld; have HS0_ := ch_ hb r_.1; replace r_ := r_.2; have HS1_ := ch_ hb r_.1; replace r_ := r_.2; have HS2_ := ch_ hb r_.1; replace r_ := r_.2; have HS3_ := ch_ hb r_; clear r_; refine ⟨_, rfl, ?_⟩; replace HO_0 := A_ (Kd.R_below h0_ hb); replace HK := A_ (Kept.below (S := (fun k_ => P0_ k_)) hk_ hb); replace HB := bs_ hb; refine hK.out _ _ ⟨HS0_, HS1_, HS2_, HS3_⟩ (fun hHeld => ?_); clear hK K; refine nA ?_; refine pA 15 34 18 65535 ?_; refine pA 16 35 18 131071 ?_; refine pA 17 36 18 262143 ?_; refine done_ (done_of HT_.out (by kernel_rfl)) ?_; (try go_wp2); go_roundg k2
        case measure => have := HK1.out; have := HK2.out; omega
        case rel => exact ⟨(wrap64 (x9_2 + 1)), rf_, H', ⟨by have := HK1.out; have := HK2.out; omega⟩, ⟨h0_⟩, ⟨hk_⟩, ⟨hs_⟩⟩
      ·(first | rw [c7b0] | (simp only [i64_w, i32_w]; rw [c7b0]) | skip); have H' := A_ H; clear H; (try go_wp2); replace HO_0 := A_ (Kd.R_drew HO_0.out); replace HK := A_ (Kept.drew HK.out); replace HB := A_ (below_drew1 HB.out); refine start_ (n := 18) (S := fun w' => True) (ds := []) (ab 18 0) (by kernel_rfl) rfl rfl trivial (fun hHeld => ?_); refine with_tabW api_Run_69.tab5 api_Run_69.bits5 (fun HT_ HW_ => ?_); generalize wr.drew = w21 at HO_0 HK HB hHeld ⊢; refine pA 0 19 18 1 ?_; refine pA 1 20 18 3 ?_; refine pA 2 21 18 7 ?_; refine pA 3 22 18 15 ?_; refine uA 4 23 18 31 ?_; refine uA 5 24 18 63 ?_; refine uA 6 25 18 127 ?_; refine uA 7 26 18 255 ?_; refine uA 8 27 18 511 ?_; refine uA 9 28 18 1023 ?_; refine uA 10 29 18 2047 ?_; refine uA 11 30 18 4095 ?_; refine uA 12 31 18 8191 ?_; refine uA 13 32 18 16383 ?_; refine uA 14 33 18 32767 ?_; refine uA 15 34 18 65535 ?_; refine uA 16 35 18 131071 ?_; refine pA 17 36 18 262143 ?_; refine done_ (done_of HT_.out (by kernel_rfl)) ?_; (try go_wp2); go_meet
       case rel => exact ⟨_, (x9_2), rf_, H', ⟨by have := HK1.out; have := HK2.out; first | omega | exact Nat.le_refl _⟩, ⟨h0_⟩, ⟨hk_⟩, ⟨hs_⟩⟩
   case rest =>
    clear HC6; obtain ⟨kq, x9_5, rfl, HA, HJ5, HO_0, HK, HB⟩ := hcut
    cases kq with
    | zero => exact absurd HA.out (by simp [api_Run_69.j2])
    | succ kj5 =>
     have H := HA.out; clear HA; simp only [api_Run_69.j2] at H
     obtain ⟨c22, H⟩ := gc_ H; have c22b0 : (x9_5 == a2) = true := beq_iff_eq.mpr c22; have c22b1 : (x9_5 != a2) = false := bne_eq_false_iff_eq.mpr c22; clear c22; simp only [Option.some.injEq, Prod.mk.injEq] at H; obtain ⟨rfl, rfl⟩ := H; go_wp2; go_ret; exact ⟨re_, h0_, hs_, hk_⟩
end Go.Proofs.YthppfagfmjchoaaGreatDoor.A.So
namespace Go.Proofs.YthppfagfmjchoaaGreatDoor.A.So
open Go.RowKit Go.Proofs.YthppfagfmjchoaaGreatDoorW.PrintWords Go.Proofs.YthppfagfmjchoaaGreatDoorW.PrintLast Go.Proofs.YthppfagfmjchoaaGreatDoorW.PrintMore
attribute [local go_sem] max2_int min2_int max_two min_two max_three min_three max_four min_four
set_option linter.unusedVariables false
set_option linter.unusedSimpArgs false
end Go.Proofs.YthppfagfmjchoaaGreatDoor.A.So