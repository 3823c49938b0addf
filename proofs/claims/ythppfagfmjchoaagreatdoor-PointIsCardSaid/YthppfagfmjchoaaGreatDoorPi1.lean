/- Walks of functions, and plain facts about what they compute. No conditions. -/
import Derived.Test.YthppfagfmjchoaaGreatDoorPi0
import Derived.Shelf.SlSortCmp.Xorshift
import Derived.Ground.SlsfProg
import Derived.Shelf.Small.Bits
import Derived.Shelf.Strconv.Itoa0
import Derived.Ground.Names2Prog
import Derived.Shelf.Slices.SearchI
import Derived.Shelf.Strings.Builder1
import Derived.Shelf.Strings.Builder2
import Derived.Shelf.Strings.OnBuilder
import Derived.Shelf.Small.Strs
import Derived.Shelf.Strings.Search1
import Derived.Shelf.Strings.Prefix
set_option linter.unusedVariables false
set_option linter.unusedSimpArgs false
namespace Go.Proofs.YthppfagfmjchoaaGreatDoor.A.So
open Go.RowKit Go.Proofs.YthppfagfmjchoaaGreatDoorW.PrintWords Go.Proofs.YthppfagfmjchoaaGreatDoorW.PrintLast Go.Proofs.YthppfagfmjchoaaGreatDoorW.PrintMore
attribute [local go_sem] max2_int min2_int max_two min_two max_three min_three max_four min_four
end Go.Proofs.YthppfagfmjchoaaGreatDoor.A.So
namespace Go.Proofs.YthppfagfmjchoaaGreatDoor.A.So
open Go.RowKit Go.Proofs.YthppfagfmjchoaaGreatDoorW.PrintWords Go.Proofs.YthppfagfmjchoaaGreatDoorW.PrintLast Go.Proofs.YthppfagfmjchoaaGreatDoorW.PrintMore
set_option linter.unusedVariables false
set_option linter.unusedSimpArgs false
def Sw (b : Nat) (n : Int) (w : World) : Prop := w.cell? ⟨b, 0, none⟩ = some (.int .i64 n) ∧ w.frozen? ⟨b, 0, none⟩ = false
theorem Sw.drew {b : Nat} {n : Int} {w : World} (h : Sw b n w) : Sw b n w.drew := h
theorem Sw.below {b : Nat} {n : Int} {w w' : World} (h : Sw b n w) (hb : Below w.heap.size w w') : Sw b n w' :=
 have hl := World.block_lt_of_cell? w _ h.1
 ⟨(hb.cell hl).trans h.1, (hb.frozen hl).trans h.2⟩
theorem Sw.set {b : Nat} {n m : Int} {w : World} (h : Sw b n w) : Sw b m (w.setCell ⟨b, 0, none⟩ (.int .i64 m)) :=
 ⟨World.cell?_setCell_same _ _ _ h.1, by rw [World.frozen?_setCell]; exact h.2⟩
theorem below_onto {w0 w w' : World} (h : Below w0.heap.size w0 w) (hb : Below w.heap.size w w') : Below w0.heap.size w0 w' := h.trans (hb.mono h.size)
def order2.T1 : Bool × List (List Nat × List Nat) := (true, [([], []), ([], []), ([], []), ([1, 2], [1, 2]), ([3], [3]), ([], []), ([], []), ([5, 6], [5, 6]), ([7], [7]), ([0, 4, 8], [0, 4, 8]), ([9], [9])])
def order2.B1 : List Nat := [0, 0, 0, 6, 14, 0, 0, 96, 224, 511, 1023]
theorem order2.tab1 : rtab .any (opsOf Tryz.f235 1) = order2.T1 := by kernel_rfl
theorem order2.bits1 : waitsOk order2.T1.2 order2.B1 = true := by kernel_rfl
set_option maxHeartbeats 8000000 in
set_option maxRecDepth 100000 in
theorem order2.calls (A0 : Option Addr) (c0 : Nat) (l0 : List (S71)) (a1 a2 n0 : Int) (b0 : Nat) (r1 r2 rn : Int) (w0 w : World) (hr0 : Kd.C k71 w0 A0 l0.length l0) (hc0 : l0.length ≤ c0) (hB0 : Below w0.heap.size w0 w) (hb0 : w0.heap.size ≤ b0) (hs : Sw b0 n0 w) (h : order2.f l0 a1 a2 n0 = some (r1, r2, rn)) :
  Calls Tryz.prog 235 #[.slice A0 l0.length c0, .int .i64 a1, .int .i64 a2, .pointer (some ⟨b0, 0, none⟩), .func (.func 153) #[.agg #[.bool false]] #[]] w fun e w' => e = .returned (.tuple #[.int .i64 r1, .int .i64 r2]) ∧ Below w0.heap.size w0 w' ∧ Sw b0 rn w' := by
 have hu71 := Tryz.underlying71; have HR0 := A_ hr0; have HC0 := A_ hc0; clear hr0 hc0; have HB := A_ hB0; clear hB0; have HS := A_ hs; clear hs; have H : (if 0 ≤ a2 then (if a2 < (l0.length : Int) then (if 0 ≤ a1 then (if a1 < (l0.length : Int) then ((runs_order_compare.f false ((rd_T71 l0 a2).f0) ((rd_T71 l0 a2).f1) ((rd_T71 l0 a1).f0) ((rd_T71 l0 a1).f1)).bind fun t110 => (if t110 < 0 then none else (some (a1, a2, n0)))) else (none)) else (none)) else (none)) else (none)) = some (r1, r2, rn) := h; clear h
 obtain ⟨c6b0, H⟩ := gd_ H
 obtain ⟨c7b0, H⟩ := gd_ H
 obtain ⟨c8b0, H⟩ := gd_ H
 obtain ⟨c9b0, H⟩ := gd_ H; obtain ⟨t110, A10, H⟩ := bi_ H
 obtain ⟨c11b0, H⟩ := ge_ H; simp only [Option.some.injEq, Prod.mk.injEq] at H; obtain ⟨rfl, rfl, rfl⟩ := H; go_enter Tryz.func235, Tryz.ntmps235; (try go_wp2); replace HB := A_ (below_drew1 HB.out); replace HS := A_ HS.out.drew; have p108 : 0 ≤ (a2 : Int) := od_; have q108 : a2 < (l0.length : Int) := od_; obtain ⟨ad108, e108, hx108_0, hx108_1⟩ := at_T71 HR0.out a2 p108 q108; have hw108_1 := hx108_1; have hw108_0 := hx108_0
 cases e108
 replace hx108_0 := cl_ HB hx108_0; replace hx108_1 := cl_ HB hx108_1; replace p108 := eq_true p108; replace q108 := eq_true q108; have p109 : 0 ≤ (a1 : Int) := od_; have q109 : a1 < (l0.length : Int) := od_; obtain ⟨ad109, e109, hx109_0, hx109_1⟩ := at_T71 HR0.out a1 p109 q109; have hw109_1 := hx109_1; have hw109_0 := hx109_0; obtain rfl : ad108 = ad109 := (by injection e109); replace hx109_0 := cl_ HB hx109_0; replace hx109_1 := cl_ HB hx109_1; replace p109 := eq_true p109; replace q109 := eq_true q109; refine start_ (n := 11) (S := fun w' => w'.cell? (ad108.add ((a2).toNat * 2)) = some (.int .i64 ((rd_T71 l0 a2).f0)) ∧ w'.cell? ⟨(ad108.add ((a2).toNat * 2)).block, (ad108.add ((a2).toNat * 2)).off + 1, none⟩ = some (.int .i64 ((rd_T71 l0 a2).f1)) ∧ w'.cell? (ad108.add ((a1).toNat * 2)) = some (.int .i64 ((rd_T71 l0 a1).f0)) ∧ w'.cell? ⟨(ad108.add ((a1).toNat * 2)).block, (ad108.add ((a1).toNat * 2)).off + 1, none⟩ = some (.int .i64 ((rd_T71 l0 a1).f1))) (ds := []) (ab 11 0) (by kernel_rfl) rfl rfl ⟨(cl_ HB hw108_0), (cl_ HB hw108_1), (cl_ HB hw109_0), (cl_ HB hw109_1)⟩ (fun hHeld => ?_); refine with_tabW order2.tab1 order2.bits1 (fun HT_ HW_ => ?_); generalize w.drew = w14 at HB HS hx108_0 hx108_1 hx109_0 hx109_1 hHeld ⊢; refine pA 0 12 11 1 ?_; refine pA 1 13 11 3 ?_; refine pA 2 14 11 7 ?_; refine pA 3 15 11 15 ?_; refine pA 5 17 11 47 ?_; refine pA 6 18 11 111 ?_; refine pA 7 19 11 239 ?_; refine tB 4 16 11 255 ?_; refine tB 8 20 11 511 ?_; refine oA 9 (some 21) 11 1023 fun K hK => ?_; refine goesV_ #[.agg #[.bool false]] Tryz.func153 (by kernel_rfl) rfl #[.agg #[.bool false], .agg #[.int .i64 ((rd_T71 l0 a2).f0), .int .i64 ((rd_T71 l0 a2).f1)], .agg #[.int .i64 ((rd_T71 l0 a1).f0), .int .i64 ((rd_T71 l0 a1).f1)]] (by rfl) rfl rfl rfl ml_ ?_; refine (runs_order_compare.calls false ((rd_T71 l0 a2).f0) ((rd_T71 l0 a2).f1) ((rd_T71 l0 a1).f0) ((rd_T71 l0 a1).f1) t110 _ A10.out).mono ?_; rintro e w15 ⟨rfl, hb⟩; refine ⟨_, rfl, ?_⟩; have HS2 := HS.out.below hb; have m0_ := A_ (below_onto hs_ hb); clear HB HS; have HB := m0_; clear m0_; refine hK.out _ _ ⟨(cl_ HB hw108_0), (cl_ HB hw108_1), (cl_ HB hw109_0), (cl_ HB hw109_1)⟩ (fun hHeld => ?_); clear hK K; refine nA ?_; refine pA 10 22 11 2047 ?_; refine done_ (done_of HT_.out (by kernel_rfl)) ?_; obtain ⟨hsc, hsf⟩ := HS2; (try go_wp2); go_ret2; exact ⟨by first | rfl | (simp [*]; done), HB.out, hsc, hsf⟩
set_option maxHeartbeats 8000000 in
set_option maxRecDepth 100000 in
theorem median.calls (A0 : Option Addr) (c0 : Nat) (l0 : List S71) (a1 a2 a3 n0 : Int) (b0 : Nat) (r rn : Int) (w0 w : World) (hr0 : Kd.C k71 w0 A0 l0.length l0) (hc0 : l0.length ≤ c0) (hB0 : Below w0.heap.size w0 w) (hb0 : w0.heap.size ≤ b0) (hs : Sw b0 n0 w) (h : median.f l0 a1 a2 a3 n0 = some (r, rn)) :
  Calls Tryz.prog 232 #[.slice A0 l0.length c0, .int .i64 a1, .int .i64 a2, .int .i64 a3, .pointer (some ⟨b0, 0, none⟩), .func (.func 153) #[.agg #[.bool false]] #[]] w fun e w' => e = .returned (.int .i64 r) ∧ Below w0.heap.size w0 w' ∧ Sw b0 rn w' := by
 have HR0 := A_ hr0; have HC0 := A_ hc0; have HB := A_ hB0; have HS := A_ hs; clear hr0 hc0 hB0 hs; obtain ⟨⟨t1, t2, n1⟩, hx, h⟩ := Option.bind_eq_some_iff.mp h; obtain ⟨⟨t3, t4, n2⟩, hy, h⟩ := Option.bind_eq_some_iff.mp h; obtain ⟨⟨t5, t6, n3⟩, hz, h⟩ := Option.bind_eq_some_iff.mp h; simp only [Option.some.injEq, Prod.mk.injEq] at h; obtain ⟨rfl, rfl⟩ := h; have A1 := A_ hx; have A2 := A_ hy; have A3 := A_ hz; clear hx hy hz; go_enter Tryz.func232, Tryz.ntmps232; go_wp2_with (first | ((with_reducible refine gC 235 ?_); refine goesL_ (some 19) rfl rfl Tryz.func235 (by kernel_rfl) rfl #[.slice A0 l0.length c0, .int .i64 a1, .int .i64 a2, .pointer (some ⟨b0, 0, none⟩), .func (.func 153) #[.agg #[.bool false]] #[]] rfl (by (try simp only [List.map_toArray, List.map_cons, List.map_nil]); first | done | rfl) ?_; (with_reducible refine (order2.calls _ _ l0 a1 a2 n0 b0 t1 t2 n1 _ _ HR0.out HC0.out HB.out hb0 HS.out A1.out).mono ?_); rintro e w1 ⟨rfl, hb, hs⟩; refine ⟨_, rfl, ?_⟩; clear HB HS; have HB := A_ hb; have HS := A_ hs; clear hb hs) | ((with_reducible refine gC 235 ?_); refine goesL_ (some 28) rfl rfl Tryz.func235 (by kernel_rfl) rfl #[.slice A0 l0.length c0, .int .i64 t2, .int .i64 a3, .pointer (some ⟨b0, 0, none⟩), .func (.func 153) #[.agg #[.bool false]] #[]] rfl (by (try simp only [List.map_toArray, List.map_cons, List.map_nil]); first | done | rfl) ?_; (with_reducible refine (order2.calls _ _ l0 t2 a3 n1 b0 t3 t4 n2 _ _ HR0.out HC0.out HB.out hb0 HS.out A2.out).mono ?_); rintro e w2 ⟨rfl, hb, hs⟩; refine ⟨_, rfl, ?_⟩; clear HB HS; have HB := A_ hb; have HS := A_ hs; clear hb hs) | ((with_reducible refine gC 235 ?_); refine goesL_ (some 37) rfl rfl Tryz.func235 (by kernel_rfl) rfl #[.slice A0 l0.length c0, .int .i64 t1, .int .i64 t3, .pointer (some ⟨b0, 0, none⟩), .func (.func 153) #[.agg #[.bool false]] #[]] rfl (by (try simp only [List.map_toArray, List.map_cons, List.map_nil]); first | done | rfl) ?_; (with_reducible refine (order2.calls _ _ l0 t1 t3 n2 b0 t5 t6 n3 _ _ HR0.out HC0.out HB.out hb0 HS.out A3.out).mono ?_); rintro e w3 ⟨rfl, hb, hs⟩; refine ⟨_, rfl, ?_⟩; clear HB HS; have HB := A_ hb; have HS := A_ hs; clear hb hs)); go_ret; exact ⟨rfl, HB.out, HS.out⟩
set_option maxHeartbeats 8000000 in
set_option maxRecDepth 100000 in
theorem medadj.calls (A0 : Option Addr) (c0 : Nat) (l0 : List S71) (a1 n0 : Int) (b0 : Nat) (r rn : Int) (w0 w : World) (hr0 : Kd.C k71 w0 A0 l0.length l0) (hc0 : l0.length ≤ c0) (hB0 : Below w0.heap.size w0 w) (hb0 : w0.heap.size ≤ b0) (hs : Sw b0 n0 w) (h : medadj.f l0 a1 n0 = some (r, rn)) :
  Calls Tryz.prog 231 #[.slice A0 l0.length c0, .int .i64 a1, .pointer (some ⟨b0, 0, none⟩), .func (.func 153) #[.agg #[.bool false]] #[]] w fun e w' => e = .returned (.int .i64 r) ∧ Below w0.heap.size w0 w' ∧ Sw b0 rn w' := by
 have HR0 := A_ hr0; have HC0 := A_ hc0; have HB := A_ hB0; have HS := A_ hs; clear hr0 hc0 hB0 hs; have A1 := A_ (show median.f l0 (wrap64 (a1 - 1)) a1 (wrap64 (a1 + 1)) n0 = some (r, rn) from h); clear h; go_enter Tryz.func231, Tryz.ntmps231; go_wp2_with (((with_reducible refine gC 232 ?_); refine goesL_ (some 17) rfl rfl Tryz.func232 (by kernel_rfl) rfl #[.slice A0 l0.length c0, .int .i64 (wrap64 (a1 - 1)), .int .i64 a1, .int .i64 (wrap64 (a1 + 1)), .pointer (some ⟨b0, 0, none⟩), .func (.func 153) #[.agg #[.bool false]] #[]] rfl (by (try simp only [List.map_toArray, List.map_cons, List.map_nil]); first | done | rfl) ?_; (with_reducible refine (median.calls _ _ l0 (wrap64 (a1 - 1)) a1 (wrap64 (a1 + 1)) n0 b0 r rn _ _ HR0.out HC0.out HB.out hb0 HS.out A1.out).mono ?_); rintro e w1 ⟨rfl, hb, hs⟩; refine ⟨_, rfl, ?_⟩; clear HB HS; have HB := A_ hb; have HS := A_ hs; clear hb hs)); go_ret; exact ⟨rfl, HB.out, HS.out⟩
end Go.Proofs.YthppfagfmjchoaaGreatDoor.A.So
namespace Go.Proofs.YthppfagfmjchoaaGreatDoor.A.So
open Go.RowKit Go.Proofs.YthppfagfmjchoaaGreatDoorW.PrintWords Go.Proofs.YthppfagfmjchoaaGreatDoorW.PrintLast Go.Proofs.YthppfagfmjchoaaGreatDoorW.PrintMore
attribute [local go_sem] max2_int min2_int max_two min_two max_three min_three max_four min_four
attribute [local go_sem] isSome_setCell
set_option linter.unusedVariables false
set_option linter.unusedSimpArgs false
end Go.Proofs.YthppfagfmjchoaaGreatDoor.A.So
namespace Go.Proofs.YthppfagfmjchoaaGreatDoor.A.So
open Go.RowKit Go.Proofs.YthppfagfmjchoaaGreatDoorW.PrintWords Go.Proofs.YthppfagfmjchoaaGreatDoorW.PrintLast Go.Proofs.YthppfagfmjchoaaGreatDoorW.PrintMore
set_option linter.unusedVariables false
set_option linter.unusedSimpArgs false
theorem api_Run_67.hintc (n : Int) : (api_Run_67.hint n = 1 ∧ (n == 0) = true) ∨ (api_Run_67.hint n = 2 ∧ (n == 0) = false ∧ (n == 12) = true) ∨ (api_Run_67.hint n = 0 ∧ (n == 0) = false ∧ (n == 12) = false) := by
 unfold api_Run_67.hint
 by_cases h0 : n = 0
 ·left; simp [h0]
 ·by_cases h1 : n = 12
  ·right; left; simp [h1]
  ·right; right; simp [h0, h1]
set_option maxHeartbeats 8000000 in
set_option maxRecDepth 100000 in
theorem api_Run_67.calls (A0 : Option Addr) (c0 : Nat) (l0 : List S71) (a1 a2 : Int) (r0 r1 : Int) (w : World) (hr0 : Kd.C k71 w A0 l0.length l0) (hc0 : l0.length ≤ c0) (h : api_Run_67.f l0 a1 a2 = some (r0, r1)) :
  Calls Tryz.prog 215 #[.slice A0 l0.length c0, .int .i64 a1, .int .i64 a2, .func (.func 153) #[.agg #[.bool false]] #[]] w fun e w' => e = .returned (.tuple #[.int .i64 r0, .int .i64 r1]) ∧ Below w.heap.size w w' := by
 have HR0 := A_ hr0; have HC0 := A_ hc0; clear hr0 hc0; unfold api_Run_67.f at h; obtain ⟨l, hl⟩ : ∃ l, wrap64 (a2 - a1) = l := ⟨_, rfl⟩; simp only [hl] at h
 by_cases c8 : 8 ≤ l
 ·rw [if_pos c8] at h
  have b8 : decide (8 ≤ l) = true := decide_eq_true c8; obtain ⟨⟨m, n⟩, hm, h⟩ := Option.bind_eq_some_iff.mp h; simp only [Option.some.injEq, Prod.mk.injEq] at h; obtain ⟨rfl, rfl⟩ := h
  by_cases c50 : 50 ≤ l
  ·rw [if_pos c50] at hm
   have b50 : decide (50 ≤ l) = true := decide_eq_true c50; obtain ⟨⟨t1, n1⟩, hx, hm⟩ := Option.bind_eq_some_iff.mp hm; obtain ⟨⟨t2, n2⟩, hy, hm⟩ := Option.bind_eq_some_iff.mp hm; obtain ⟨⟨t3, n3⟩, hz, hm⟩ := Option.bind_eq_some_iff.mp hm; have A1 := A_ hx; have A2 := A_ hy; have A3 := A_ hz; have A4 := A_ hm; clear hx hy hz hm c8 c50
   rcases api_Run_67.hintc n with ⟨hn, d0⟩ | ⟨hn, d0, d12⟩ | ⟨hn, d0, d12⟩ <;> (
   go_enter Tryz.func215, Tryz.ntmps215
   go_wp2_with (first | ((with_reducible refine gD 11 ?_); refine bxe_ 11 #[.int .i64 0] 3 ?_; intro gb hg w1 hbox hb; have HB := A_ hb; have HS := A_ (show Sw gb 0 w1 from ⟨(blk_cell hbox 0).trans rfl, blk_frozen hbox 0⟩); have GE := A_ (Nat.le_of_eq hg.symm); clear hb hbox hg; have hsc := HS.out.1) | ((with_reducible refine gC 231 ?_); refine goesL_ (some 40) rfl rfl Tryz.func231 (by kernel_rfl) rfl #[.slice A0 l0.length c0, .int .i64 (api_Run_67.at a1 (wrap64 (l.tdiv 4))), .pointer (some ⟨gb, 0, none⟩), .func (.func 153) #[.agg #[.bool false]] #[]] rfl (by (try simp only [List.map_toArray, List.map_cons, List.map_nil]); first | done | rfl) ?_; (with_reducible refine (medadj.calls _ _ l0 (api_Run_67.at a1 (wrap64 (l.tdiv 4))) 0 gb t1 n1 _ _ HR0.out HC0.out HB.out GE.out HS.out A1.out).mono ?_); rintro e w2 ⟨rfl, hb, hs⟩; refine ⟨_, rfl, ?_⟩; clear HB HS; have HB := A_ hb; have HS := A_ hs; clear hb hs; have hsc := HS.out.1) | ((with_reducible refine gC 231 ?_); refine goesL_ (some 44) rfl rfl Tryz.func231 (by kernel_rfl) rfl #[.slice A0 l0.length c0, .int .i64 (api_Run_67.at a1 (wrap64 (l.tdiv 4) * 2)), .pointer (some ⟨gb, 0, none⟩), .func (.func 153) #[.agg #[.bool false]] #[]] rfl (by (try simp only [List.map_toArray, List.map_cons, List.map_nil]); first | done | rfl) ?_; (with_reducible refine (medadj.calls _ _ l0 (api_Run_67.at a1 (wrap64 (l.tdiv 4) * 2)) n1 gb t2 n2 _ _ HR0.out HC0.out HB.out GE.out HS.out A2.out).mono ?_); rintro e w2 ⟨rfl, hb, hs⟩; refine ⟨_, rfl, ?_⟩; clear HB HS; have HB := A_ hb; have HS := A_ hs; clear hb hs; have hsc := HS.out.1) | ((with_reducible refine gC 231 ?_); refine goesL_ (some 48) rfl rfl Tryz.func231 (by kernel_rfl) rfl #[.slice A0 l0.length c0, .int .i64 (api_Run_67.at a1 (wrap64 (l.tdiv 4) * 3)), .pointer (some ⟨gb, 0, none⟩), .func (.func 153) #[.agg #[.bool false]] #[]] rfl (by (try simp only [List.map_toArray, List.map_cons, List.map_nil]); first | done | rfl) ?_; (with_reducible refine (medadj.calls _ _ l0 (api_Run_67.at a1 (wrap64 (l.tdiv 4) * 3)) n2 gb t3 n3 _ _ HR0.out HC0.out HB.out GE.out HS.out A3.out).mono ?_); rintro e w2 ⟨rfl, hb, hs⟩; refine ⟨_, rfl, ?_⟩; clear HB HS; have HB := A_ hb; have HS := A_ hs; clear hb hs; have hsc := HS.out.1) | ((with_reducible refine gC 232 ?_); refine goesL_ (some 54) rfl rfl Tryz.func232 (by kernel_rfl) rfl #[.slice A0 l0.length c0, .int .i64 t1, .int .i64 t2, .int .i64 t3, .pointer (some ⟨gb, 0, none⟩), .func (.func 153) #[.agg #[.bool false]] #[]] rfl (by (try simp only [List.map_toArray, List.map_cons, List.map_nil]); first | done | rfl) ?_; (with_reducible refine (median.calls _ _ l0 t1 t2 t3 n3 gb m n _ _ HR0.out HC0.out HB.out GE.out HS.out A4.out).mono ?_); rintro e w2 ⟨rfl, hb, hs⟩; refine ⟨_, rfl, ?_⟩; clear HB HS; have HB := A_ hb; have HS := A_ hs; clear hb hs; have hsc := HS.out.1)); go_ret2; exact ⟨by first | rfl | (rw [hn]; rfl), HB.out⟩)
  ·rw [if_neg c50] at hm
   have b50 : decide (50 ≤ l) = false := decide_eq_false c50; have A4 := A_ hm; clear hm c8 c50
   rcases api_Run_67.hintc n with ⟨hn, d0⟩ | ⟨hn, d0, d12⟩ | ⟨hn, d0, d12⟩ <;> (
   go_enter Tryz.func215, Tryz.ntmps215
   go_wp2_with (first | ((with_reducible refine gD 11 ?_); refine bxe_ 11 #[.int .i64 0] 3 ?_; intro gb hg w1 hbox hb; have HB := A_ hb; have HS := A_ (show Sw gb 0 w1 from ⟨(blk_cell hbox 0).trans rfl, blk_frozen hbox 0⟩); have GE := A_ (Nat.le_of_eq hg.symm); clear hb hbox hg; have hsc := HS.out.1) | ((with_reducible refine gC 232 ?_); refine goesL_ (some 54) rfl rfl Tryz.func232 (by kernel_rfl) rfl #[.slice A0 l0.length c0, .int .i64 (api_Run_67.at a1 (wrap64 (l.tdiv 4))), .int .i64 (api_Run_67.at a1 (wrap64 (l.tdiv 4) * 2)), .int .i64 (api_Run_67.at a1 (wrap64 (l.tdiv 4) * 3)), .pointer (some ⟨gb, 0, none⟩), .func (.func 153) #[.agg #[.bool false]] #[]] rfl (by (try simp only [List.map_toArray, List.map_cons, List.map_nil]); first | done | rfl) ?_; (with_reducible refine (median.calls _ _ l0 (api_Run_67.at a1 (wrap64 (l.tdiv 4))) (api_Run_67.at a1 (wrap64 (l.tdiv 4) * 2)) (api_Run_67.at a1 (wrap64 (l.tdiv 4) * 3)) 0 gb m n _ _ HR0.out HC0.out HB.out GE.out HS.out A4.out).mono ?_); rintro e w2 ⟨rfl, hb, hs⟩; refine ⟨_, rfl, ?_⟩; clear HB HS; have HB := A_ hb; have HS := A_ hs; clear hb hs; have hsc := HS.out.1)); go_ret2; exact ⟨by first | rfl | (rw [hn]; rfl), HB.out⟩)
 ·rw [if_neg c8] at h
  have b8 : decide (8 ≤ l) = false := decide_eq_false c8; simp only [Option.some.injEq, Prod.mk.injEq] at h; obtain ⟨rfl, rfl⟩ := h; clear c8; go_enter Tryz.func215, Tryz.ntmps215; go_wp2_with (first | ((with_reducible refine gD 11 ?_); refine bxe_ 11 #[.int .i64 0] 3 ?_; intro gb hg w1 hbox hb; have HB := A_ hb; have HS := A_ (show Sw gb 0 w1 from ⟨(blk_cell hbox 0).trans rfl, blk_frozen hbox 0⟩); have GE := A_ (Nat.le_of_eq hg.symm); clear hb hbox hg; have hsc := HS.out.1)); go_ret2; exact ⟨rfl, HB.out⟩
end Go.Proofs.YthppfagfmjchoaaGreatDoor.A.So
namespace Go.Proofs.YthppfagfmjchoaaGreatDoor.A.So
open Go.RowKit Go.Proofs.YthppfagfmjchoaaGreatDoorW.PrintWords Go.Proofs.YthppfagfmjchoaaGreatDoorW.PrintLast Go.Proofs.YthppfagfmjchoaaGreatDoorW.PrintMore
attribute [local go_sem] max2_int min2_int max_two min_two max_three min_three max_four min_four
set_option linter.unusedVariables false
set_option linter.unusedSimpArgs false
set_option maxHeartbeats 8000000 in
set_option maxRecDepth 100000 in
theorem api_Run_58.calls (k : Nat) : ∀ (P0_ : Nat → Prop) (u9000_ : Value) (l0 : List (S71)) (a1 a2 a3 : Int)  (r : List (S71)) (w0 w : World) (hB : Below w0.heap.size w0 w) (ho0 : Kd.R k71 71 w w0.heap.size P0_ u9000_ l0) (h : api_Run_58.f k l0 a1 a2 a3 = some r),
  Calls Tryz.prog 189 #[u9000_, .int .i64 a1, .int .i64 a2, .int .i64 a3, .func (.func 153) #[.agg #[.bool false]] #[]] w fun e w' => e = .returned (.tuple #[]) ∧ Kd.R k71 71 w' w0.heap.size (fun k_ => (P0_ k_ ∨ w.heap.size ≤ k_)) u9000_ r ∧ Below w0.heap.size w0 w' ∧ Kept w w' (fun k_ => P0_ k_) := by
 induction k using Nat.strongRecOn with
 | _ k ih =>
 intro P0_ u9000_ l0 a1 a2 a3 r w0 w hB ho0 h
 cases k with
 | zero => exact absurd h (by simp [api_Run_58.f])
 | succ k =>
 simp only [api_Run_58.f] at h; have hu71 := Tryz.underlying71; have HO0 := A_ (show Kd.R k71 71 w w0.heap.size (fun k_ => (P0_ k_ ∨ w.heap.size ≤ k_)) u9000_ l0 from Kd.R_mono ho0 (fun k_ hk => (.inl hk))); have HK := A_ (Kept.refl w (fun k_ => P0_ k_)); have HW0 := A_ hB.size; have HB := A_ hB; clear hB; have H : (api_Run_58.l0 k l0 a1 a2 a3 true true) = some r := h; clear h; have H' := A_ H; clear H; go_enter Tryz.func189, Tryz.ntmps189; go_wp2; go_loopg [1, 2, 3, 10, 11] k (fun kq v1 v2 v3 v10 v11 w' => ∃ (x0_1 : List (S71)) (x1_1 x2_1 x3_1 : Int) (x10_1 : Bool) (x11_1 : Bool), v1 = .int .i64 x1_1 ∧ v2 = .int .i64 x2_1 ∧ v3 = .int .i64 x3_1 ∧ v10 = .bool x10_1 ∧ v11 = .bool x11_1 ∧ Aside0 (api_Run_58.l0 kq x0_1 x1_1 x2_1 x3_1 x10_1 x11_1 = some r) ∧ Aside0 (kq ≤ k) ∧ Aside0 (Kd.R k71 71 w' w0.heap.size (fun k_ => (P0_ k_ ∨ w.heap.size ≤ k_)) u9000_ x0_1) ∧ Aside0 (Kept w w' (fun k_ => P0_ k_)) ∧ Aside0 (Below w0.heap.size w0 w'))
 case atStart => exact ⟨(l0), (a1), (a2), (a3), (true), (true), rf_, rf_, rf_, rf_, rf_, H', ⟨Nat.le_refl _⟩, ⟨fxR_ HO0.out⟩, ⟨hk_⟩, ⟨hs_⟩⟩
 case round =>
  clear H'; obtain ⟨x0_1, x1_1, x2_1, x3_1, x10_1, x11_1, rfl, rfl, rfl, rfl, rfl, HA, HK1, HO_0, HK, HB⟩ := hrel
  cases gk with
  | zero => exact absurd HA.out (by simp [api_Run_58.l0])
  | succ k1 =>
   have H := HA.out; clear HA; simp only [api_Run_58.l0] at H
   obtain ⟨c6b0, H⟩ | ⟨c6b0, H⟩ := ic_ H
   ·obtain ⟨t221, A7, H⟩ := bi_ H; obtain rfl := Option.some.inj H; obtain ⟨Ao8, co8, eo8⟩ := Kd.R_slice HO_0.out; subst eo8; go_wp2_with (first | ((with_reducible refine gC 212 ?_); refine goesL_ (some 30) rfl rfl Tryz.func212 (by kernel_rfl) rfl #[.slice Ao8 x0_1.length co8, .int .i64 x1_1, .int .i64 x2_1, .func (.func 153) #[.agg #[.bool false]] #[]] rfl ml_ ?_; (with_reducible refine (api_Run_64.calls k1 (fun k_ => some k_ = (.slice Ao8 x0_1.length co8 : Value).ownBlock) (.slice Ao8 x0_1.length co8) x0_1 x1_1 x2_1  t221 w0 _ ?side1 ?side2 A7.out).mono ?_); (case side1 => repeat (first | (with_reducible first | exact HB.out | apply below_alloc | apply pw_below_drewN | apply below_drew1) | exact HB.out)); (case side2 => exact Kd.R_tight rfl HO_0.out); rintro e w9 ⟨rfl, hy0, hb, hkp⟩; refine ⟨_, rfl, ?_⟩; replace HK := A_ (Kept.then_ (S := (fun k_ => P0_ k_)) hk_ hkp (fun k_ hs_ => (fun e_ => (HO_0.out.1 k_ e_.symm)) hs_)); replace HO_0 := A_ (Kd.R_reok rfl hy0 (fun k_ e_ => HO_0.out.1 k_ e_)); replace HB := A_ (hb); (try clear hy0)))
    first | go_end0 | ((try simp only [Exit.inBlock, Exit.then]); refine bodyPost_ret (results_none rfl _ _ _) rfl ?_)
    exact ⟨re_, h0_, hs_, hk_⟩
   ·obtain ⟨c10, H⟩ := gn_ H; have c10b0 : (x3_1 == 0) = false := beq_eq_false_iff_ne.mpr c10; have c10b1 : (x3_1 != 0) = true := bne_iff_ne.mpr c10; have HC14 := A_ H; clear H; go_upto_if 39 with (fail); go_cut [3] (fun v3 wc => ∃ (kq : Nat) (x0_13 : List (S71)) (x3_13 : Int), v3 = .int .i64 x3_13 ∧ Aside0 (api_Run_58.j1 kq x0_13 x1_1 x2_1 x3_13 x10_1 x11_1 (wrap64 (x2_1 - x1_1)) = some r) ∧ Aside0 (kq ≤ k1) ∧ Aside0 (Kd.R k71 71 wc w0.heap.size (fun k_ => (P0_ k_ ∨ w.heap.size ≤ k_)) u9000_ x0_13) ∧ Aside0 (Kept w wc (fun k_ => P0_ k_)) ∧ Aside0 (Below w0.heap.size w0 wc))
    case first =>
     have H := HC14.out; clear HC14
     cases x10_1
     ·exact absurd (iN_ H) (by simp)
     replace H := iP_ H; have H' := A_ H; clear H; go_wp2; go_meet
     case rel => exact ⟨_, (x0_1), (x3_1), rf_, H', ⟨by have := HK1.out; first | omega | exact Nat.le_refl _⟩, ⟨h0_⟩, ⟨hk_⟩, ⟨hs_⟩⟩
    case rest =>
     clear HC14; obtain ⟨kq, x0_13, x3_13, rfl, HA, HJ13, HO_0, HK, HB⟩ := hcut
     cases kq with
     | zero => exact absurd HA.out (by simp [api_Run_58.j1])
     | succ kj13 =>
      have H := HA.out; clear HA; simp only [api_Run_58.j1] at H; obtain ⟨⟨t224, t225⟩, A19, H⟩ := bi_ H; have HC20 := A_ H; clear H; obtain ⟨Ao21, co21, eo21⟩ := Kd.R_slice HO_0.out; subst eo21; go_upto_if 56 with (first | ((with_reducible refine gC 215 ?_); refine goesL_ (some 52) rfl rfl Tryz.func215 (by kernel_rfl) rfl #[.slice Ao21 x0_13.length co21, .int .i64 x1_1, .int .i64 x2_1, .func (.func 153) #[.agg #[.bool false]] #[]] rfl ml_ ?_; (with_reducible refine (api_Run_67.calls _ _ x0_13 x1_1 x2_1  t224 t225 _ ?side1 ?side2 A19.out).mono ?_); (case side1 => repeat (first | exact (Kd.R_reads' HO_0.out).2.2 | (with_reducible refine Kd.C_alloc ?_ _) | (with_reducible refine Kd.C_drewN ?_ _) | (with_reducible refine Kd.C_drew ?_))); (case side2 => exact (Kd.R_reads' HO_0.out).2.1); rintro e w22 ⟨rfl, hb⟩; refine ⟨_, rfl, ?_⟩; replace HO_0 := A_ (Kd.R_below h0_ hb); replace HK := A_ (Kept.below (S := (fun k_ => P0_ k_)) hk_ hb); replace HB := bs_ hb; (try clear hb))); (try simp only [Act.put, List.setIfInBounds_toArray, List.set_cons_zero, List.set_cons_succ]); go_cut [13, 14] (fun v13 v14 wc => ∃ (kq : Nat) (x0_19 : List (S71)) (x13_19 : Int) (x14_19 : Int), v13 = .int .i64 x13_19 ∧ v14 = .int .i64 x14_19 ∧ Aside0 (api_Run_58.j2 kq x0_19 x1_1 x2_1 x3_13 x10_1 x11_1 (wrap64 (x2_1 - x1_1)) x13_19 x14_19 = some r) ∧ Aside0 (kq ≤ kj13) ∧ Aside0 (Kd.R k71 71 wc w0.heap.size (fun k_ => (P0_ k_ ∨ w.heap.size ≤ k_)) (.slice Ao21 x0_13.length co21) x0_19) ∧ Aside0 (Kept w wc (fun k_ => P0_ k_)) ∧ Aside0 (Below w0.heap.size w0 wc))
      case first =>
       have H := HC20.out; clear HC20
       obtain ⟨c23, H⟩ := gn_ H; have c23b0 : (t225 == 2) = false := beq_eq_false_iff_ne.mpr c23; have c23b1 : (t225 != 2) = true := bne_iff_ne.mpr c23; (first | rw [c23b0] | (simp only [i64_w, i32_w]; rw [c23b0]) | skip); have H' := A_ H; clear H; go_wp2; go_meet
       case rel => exact ⟨_, (x0_13), (t224), (t225), rf_, rf_, H', ⟨by have := HK1.out; have := HJ13.out; first | omega | exact Nat.le_refl _⟩, ⟨h0_⟩, ⟨hk_⟩, ⟨hs_⟩⟩
      case rest =>
       clear HC20; obtain ⟨kq, x0_19, x13_19, x14_19, rfl, rfl, HA, HJ19, HO_0, HK, HB⟩ := hcut; have hl0_19 := (Kd.R_reads' HO_0.out).1; rw [hl0_19] at HO_0; (try simp only [hl0_19])
       cases kq with
       | zero => exact absurd HA.out (by simp [api_Run_58.j2])
       | succ kj19 =>
        have H := HA.out; clear HA; simp only [api_Run_58.j2] at H; have HC26 := A_ H; clear H; go_upto_region 15 with (fail); go_cut [75] (fun v75 wc => ∃ (kq : Nat) (x75_25 : Bool), v75 = .bool x75_25 ∧ Aside0 (api_Run_58.j3 kq x0_19 x1_1 x2_1 x3_13 x10_1 x11_1 (wrap64 (x2_1 - x1_1)) x13_19 x75_25 = some r) ∧ Aside0 (kq ≤ kj19) ∧ Aside0 (Kd.R k71 71 wc w0.heap.size (fun k_ => (P0_ k_ ∨ w.heap.size ≤ k_)) (.slice Ao21 x0_19.length co21) x0_19) ∧ Aside0 (Kept w wc (fun k_ => P0_ k_)) ∧ Aside0 (Below w0.heap.size w0 wc))
        case first =>
         have H := HC26.out; clear HC26
         cases x10_1
         ·exact absurd (iN_ H) (by simp)
         replace H := iP_ H
         cases x11_1
         ·exact absurd (iN_ H) (by simp)
         replace H := iP_ H; have H' := A_ H; clear H; go_wp2; go_meet
         case rel => exact ⟨_, ((x14_19 == 1)), rf_, H', ⟨by have := HK1.out; have := HJ13.out; have := HJ19.out; first | omega | exact Nat.le_refl _⟩, ⟨by (try simp only [hl0_19]); (with_reducible repeat (first | apply Kd.R_alloc | apply Kd.R_drewN | apply Kd.R_drew)); exact HO_0.out⟩, ⟨hk_⟩, ⟨hs_⟩⟩
        case rest =>
         clear HC26; obtain ⟨kq, x75_25, rfl, HA, HJ25, HO_0, HK, HB⟩ := hcut
         cases kq with
         | zero => exact absurd HA.out (by simp [api_Run_58.j3])
         | succ kj25 =>
          have H := HA.out; clear HA; simp only [api_Run_58.j3] at H; have HC29 := A_ H; clear H; go_upto_if 75 with (fail); go_cut [] (fun wc => False)
          case first =>
           have H := HC29.out; clear HC29
           cases x75_25
           ·exact absurd (iN_ H) (by simp)
           replace H := iP_ H; obtain ⟨⟨t227, t228⟩, A31, H⟩ := bi_ H
           cases t227
           ·exact absurd (iN_ H) (by simp)
           replace H := iP_ H; obtain rfl := Option.some.inj H; go_wp2_with (first | ((with_reducible refine gC 217 ?_); refine goesL_ (some 80) rfl rfl Tryz.func217 (by kernel_rfl) rfl #[.slice Ao21 x0_19.length co21, .int .i64 x1_1, .int .i64 x2_1, .func (.func 153) #[.agg #[.bool false]] #[]] rfl ml_ ?_; (with_reducible refine (api_Run_69.calls kj25 (fun k_ => some k_ = (.slice Ao21 x0_19.length co21 : Value).ownBlock) (.slice Ao21 x0_19.length co21) x0_19 x1_1 x2_1  true t228 w0 _ ?side1 ?side2 A31.out).mono ?_); (case side1 => repeat (first | (with_reducible first | exact HB.out | apply below_alloc | apply pw_below_drewN | apply below_drew1) | exact HB.out)); (case side2 => exact Kd.R_tight rfl HO_0.out); rintro e w33 ⟨rfl, hy0, hb, hkp⟩; refine ⟨_, rfl, ?_⟩; replace HK := A_ (Kept.then_ (S := (fun k_ => P0_ k_)) hk_ hkp (fun k_ hs_ => (fun e_ => (HO_0.out.1 k_ e_.symm)) hs_)); replace HO_0 := A_ (Kd.R_reok rfl hy0 (fun k_ e_ => HO_0.out.1 k_ e_)); replace HB := A_ (hb); (try clear hy0)))
           first | go_end0 | ((try simp only [Exit.inBlock, Exit.then]); refine bodyPost_ret (results_none rfl _ _ _) rfl ?_)
           exact ⟨re_, (by first | exact h0_ | (simp only [hl0_19]; exact h0_)), hs_, hk_⟩
          case rest => exact hcut.elim
end Go.Proofs.YthppfagfmjchoaaGreatDoor.A.So
namespace Go.Proofs
open Go.Shelf
def Tryz.lays125_ren : Go.Shelf.Ren := ⟨fun | 125 => 190 | 128 => 220 | 129 => 221 | n => n, fun | 46 => 140 | 3 => 3 | 51 => 177 | 53 => 180 | 4 => 4 | 5 => 5 | 9 => 9 | n => n, fun | n => n⟩
theorem Tryz.lays125 : Go.Proofs.Lays.n125 Tryz.prog Tryz.lays125_ren := {
  mixed := by kernel_rfl
  f125 := Tryz.func190.trans (congrArg some (by kernel_rfl))
  f128 := Tryz.func220.trans (congrArg some (by kernel_rfl))
  f129 := Tryz.func221.trans (congrArg some (by kernel_rfl))
  t3 := Tryz.underlying3
  a3 := Tryz.isAgg3
  z3 := Tryz.sizeOf3
  v3 := Tryz.zeroValue3
  t4 := Tryz.underlying4
  a4 := Tryz.isAgg4
  z4 := Tryz.sizeOf4
  v4 := Tryz.zeroValue4
  t5 := Tryz.underlying5
  a5 := Tryz.isAgg5
  z5 := Tryz.sizeOf5
  v5 := Tryz.zeroValue5
  t9 := Tryz.underlying9
  a9 := Tryz.isAgg9
  z9 := Tryz.sizeOf9
  v9 := Tryz.zeroValue9
  t46 := Tryz.underlying140
  a46 := Tryz.isAgg140
  z46 := Tryz.sizeOf140
  v46 := Tryz.zeroValue140
  t51 := Tryz.underlying177
  a51 := Tryz.isAgg177
  z51 := Tryz.sizeOf177
  v51 := Tryz.zeroValue177
  t53 := Tryz.underlying180
  a53 := Tryz.isAgg180
  z53 := Tryz.sizeOf180
  v53 := Tryz.zeroValue180 }
theorem Tryz.bits_Len (x : Int) (w : World) (h0 : 0 ≤ x) (h1 : x ≤ 18446744073709551615) :
    Calls Tryz.prog 190 #[.int .u64 x] w fun e w' => e = .returned (.int .i64 (Lib.bitLen x.toNat)) ∧ w' = w := Any.bits_Len Tryz.lays125 x w h0 h1
end Go.Proofs
namespace Go.Proofs.YthppfagfmjchoaaGreatDoor.A.So
open Go.RowKit Go.Proofs.YthppfagfmjchoaaGreatDoorW.PrintWords Go.Proofs.YthppfagfmjchoaaGreatDoorW.PrintLast Go.Proofs.YthppfagfmjchoaaGreatDoorW.PrintMore
theorem bits_Len.calls (a0 r : Int) (w : World) (h : bits_Len.f a0 = some r) :
    Calls Tryz.prog 190 #[.int .u64 a0] w fun e w' => e = .returned (.int .i64 r) ∧ ∃ nd, w' = w.drewN nd := by
  unfold bits_Len.f at h
  by_cases h0 : 0 ≤ a0
  · by_cases h1 : a0 ≤ 18446744073709551615
    · rw [if_pos h0, if_pos h1] at h
      obtain rfl := Option.some.inj h
      refine (Tryz.bits_Len a0 w h0 h1).mono ?_
      rintro e w' ⟨rfl, rfl⟩
      exact ⟨rfl, 0, rfl⟩
    · rw [if_pos h0, if_neg h1] at h
      exact absurd h (by simp)
  · rw [if_neg h0] at h
    exact absurd h (by simp)
end Go.Proofs.YthppfagfmjchoaaGreatDoor.A.So
namespace Go.Proofs.YthppfagfmjchoaaGreatDoor.A.So
open Go.RowKit Go.Proofs.YthppfagfmjchoaaGreatDoorW.PrintWords Go.Proofs.YthppfagfmjchoaaGreatDoorW.PrintLast Go.Proofs.YthppfagfmjchoaaGreatDoorW.PrintMore
attribute [local go_sem] max2_int min2_int max_two min_two max_three min_three max_four min_four
set_option linter.unusedVariables false
set_option linter.unusedSimpArgs false
set_option maxHeartbeats 8000000 in
set_option maxRecDepth 100000 in
theorem api_Run_49.calls (k : Nat) (P0_ : Nat → Prop) (u9000_ : Value) (l0 : List (S71))  (r : List (S71)) (w0 w : World) (hB : Below w0.heap.size w0 w) (ho0 : Kd.R k71 71 w w0.heap.size P0_ u9000_ l0) (h : api_Run_49.f k l0 = some r) :
  Calls Tryz.prog 154 #[u9000_, .func (.func 153) #[.agg #[.bool false]] #[]] w fun e w' => e = .returned (.tuple #[]) ∧ Kd.R k71 71 w' w0.heap.size (fun k_ => (P0_ k_ ∨ w.heap.size ≤ k_)) u9000_ r ∧ Below w0.heap.size w0 w' ∧ Kept w w' (fun k_ => P0_ k_) := by
 have HO0 := A_ (show Kd.R k71 71 w w0.heap.size (fun k_ => (P0_ k_ ∨ w.heap.size ≤ k_)) u9000_ l0 from Kd.R_mono ho0 (fun k_ hk => (.inl hk))); have HK := A_ (Kept.refl w (fun k_ => P0_ k_)); have HW0 := A_ hB.size; have HB := A_ hB; clear hB; have H : ((bits_Len.f (IntKind.u64.wrap ((l0.length : Int)))).bind fun t239 => ((api_Run_58.f k l0 0 (l0.length : Int) t239).bind fun t240 => (some t240))) = some r := h; clear h; obtain ⟨t239, A3, H⟩ := bi_ H; obtain ⟨t240, A4, H⟩ := bi_ H; obtain rfl := Option.some.inj H; obtain ⟨Ao5, co5, eo5⟩ := Kd.R_slice HO0.out; subst eo5; go_enter Tryz.func154, Tryz.ntmps154; go_wp2_with (first | ((with_reducible refine gC 190 ?_); refine goesL_ (some 11) rfl rfl Tryz.func190 (by kernel_rfl) rfl #[.int .u64 (IntKind.u64.wrap ((l0.length : Int)))] rfl ml_ ?_; (with_reducible refine (bits_Len.calls (IntKind.u64.wrap ((l0.length : Int))) t239 _ A3.out).mono ?_); rintro e w' ⟨rfl, ⟨nd, rfl⟩⟩; refine ⟨_, rfl, ?_⟩) | ((with_reducible refine gC 189 ?_); refine goesL_ (some 13) rfl rfl Tryz.func189 (by kernel_rfl) rfl #[.slice Ao5 l0.length co5, .int .i64 0, .int .i64 (l0.length : Int), .int .i64 t239, .func (.func 153) #[.agg #[.bool false]] #[]] rfl ml_ ?_; (with_reducible refine (api_Run_58.calls k (fun k_ => some k_ = (.slice Ao5 l0.length co5 : Value).ownBlock) (.slice Ao5 l0.length co5) l0 0 (l0.length : Int) t239  t240 w0 _ ?side1 ?side2 A4.out).mono ?_); (case side1 => repeat (first | (with_reducible first | exact HB.out | apply below_alloc | apply pw_below_drewN | apply below_drew1) | exact HB.out)); (case side2 => exact Kd.R_tight rfl HO0.out); rintro e w6 ⟨rfl, hy0, hb, hkp⟩; refine ⟨_, rfl, ?_⟩; replace HK := A_ (Kept.then_ (S := (fun k_ => P0_ k_)) hk_ hkp (fun k_ hs_ => (fun e_ => (HO0.out.1 k_ e_.symm)) hs_)); replace HO0 := A_ (Kd.R_reok rfl hy0 (fun k_ e_ => HO0.out.1 k_ e_)); replace HB := A_ (hb); (try clear hy0)))
 first | go_end0 | ((try simp only [Exit.inBlock, Exit.then]); refine bodyPost_ret (results_none rfl _ _ _) rfl ?_)
 exact ⟨re_, fxR_ HO0.out, hs_, hk_⟩
end Go.Proofs.YthppfagfmjchoaaGreatDoor.A.So
namespace Go.Proofs.YthppfagfmjchoaaGreatDoor.A.So
open Go.RowKit Go.Proofs.YthppfagfmjchoaaGreatDoorW.PrintWords Go.Proofs.YthppfagfmjchoaaGreatDoorW.PrintLast Go.Proofs.YthppfagfmjchoaaGreatDoorW.PrintMore
attribute [local go_sem] max2_int min2_int max_two min_two max_three min_three max_four min_four
attribute [local go_sem] isSome_setCell
def runs_Make.T16 : Bool × List (List Nat × List Nat) := (true, [([], []), ([0], [0]), ([1], [1]), ([2], [2]), ([3, 2], [2, 3]), ([2], [2]), ([2], [2]), ([5, 6, 2], [2, 5, 6]), ([7, 2], [2, 7]), ([8, 2], [2, 8]), ([9, 2], [2, 9]), ([4, 10, 2], [2, 4, 10]), ([2, 11], [2, 11])])
def runs_Make.B16 : List Nat := [0, 1, 3, 7, 15, 7, 7, 103, 231, 487, 999, 2047, 4095]
theorem runs_Make.tab16 : rtab .any (opsOf Tryz.f101 16) = runs_Make.T16 := by kernel_rfl
theorem runs_Make.bits16 : waitsOk runs_Make.T16.2 runs_Make.B16 = true := by kernel_rfl
def runs_Make.T17 : Bool × List (List Nat × List Nat) := (true, [([], []), ([], []), ([], []), ([], []), ([2, 3], [2, 3]), ([4], [4]), ([5], [5]), ([], []), ([7], [7]), ([6, 8], [6, 8]), ([0, 1, 0, 1, 2, 3, 4, 5, 6, 7, 8, 9], [0, 1]), ([10, 0, 1, 2, 3, 4, 5, 6, 7, 8, 9], [10]), ([11, 9, 0, 1, 2, 3, 4, 5, 6, 7, 8, 9], [9, 11])])
def runs_Make.B17 : List Nat := [0, 0, 0, 0, 12, 28, 60, 0, 128, 508, 1023, 2047, 4095]
theorem runs_Make.tab17 : rtab .any (opsOf Tryz.f101 17) = runs_Make.T17 := by kernel_rfl
theorem runs_Make.bits17 : waitsOk runs_Make.T17.2 runs_Make.B17 = true := by kernel_rfl
set_option maxHeartbeats 8000000 in
set_option maxRecDepth 100000 in
theorem runs_Make.calls (k : Nat) (A0 : Option Addr) (c0 : Nat) (l0 r : List (S71)) (w : World) (hr0 : Kd.C k71 w A0 l0.length l0) (hc0 : l0.length ≤ c0) (h : runs_Make.f k l0 = some r) :
  Calls Tryz.prog 101 #[.slice A0 l0.length c0] w fun e w' => ∃ v0_ : Value, e = .returned (v0_) ∧ Kd.R k71 71 w' w.heap.size (fun _ => True) v0_ r ∧ Below w.heap.size w w' := by
 have hu71 := Tryz.underlying71; have hu165 := Tryz.underlying165; have HR0 := A_ hr0; have HC0 := A_ hc0; clear hr0 hc0; have HB := A_ (Below.refl w.heap.size w); have H : (runs_Make.l0 k ([] : List (S71)) l0 (l0.length : Int) 0) = some r := h; clear h; have H' := A_ H; clear H; go_enter Tryz.func101, Tryz.ntmps101; go_wp2; go_loopg [3, 13] k (fun kq v3 v13 w' => ∃ (x3_1 : List (S71)) (x13_1 : Int), v13 = .int .i64 x13_1 ∧ Aside0 (runs_Make.l0 kq x3_1 l0 (l0.length : Int) x13_1 = some r) ∧ Aside0 (kq ≤ k) ∧ Aside0 (Kd.R k71 71 w' w.heap.size (fun _ => True) v3 x3_1) ∧ Aside0 (Below w.heap.size w w'))
 case atStart => exact ⟨(([] : List (S71))), (0), rf_, H', ⟨Nat.le_refl _⟩, ⟨by first | exact Kd.R_nil _ _ _ _ _ | exact Kd.N_nil _ _ _ _ _ | exact Kd.V_nil _ _ _ _ _ | exact Kd.Q_nil _ _ _ _ _ | exact Kd.S_nil _ _ _ _ _⟩, ⟨hs_⟩⟩
 case round =>
  clear H'; obtain ⟨x3_1, x13_1, rfl, HA, HK1, HO_3, HB⟩ := hrel
  cases gk with
  | zero => exact absurd HA.out (by simp [runs_Make.l0])
  | succ k1 =>
   have H := HA.out; clear HA; simp only [runs_Make.l0] at H
   obtain ⟨c2, H⟩ | ⟨c2, H⟩ := iq_ H
   ·have c2b0 := decide_eq_true c2; clear c2
    obtain ⟨c3b0, H⟩ := gd_ H
    obtain ⟨c4b0, H⟩ := gd_ H; obtain ⟨ji5, hji5⟩ : ∃ j_ : Int, (mx ((rd_T71 l0 x13_1).f0) (-1099511627776)) = j_ := ⟨_, rfl⟩; (first | rw [hji5] at H | simp only [hji5] at H); have hji5_ : (if ((rd_T71 l0 x13_1).f0) < (-1099511627776) then (-1099511627776) else ((rd_T71 l0 x13_1).f0)) = ji5 := hji5; obtain ⟨ji6, hji6⟩ : ∃ j_ : Int, (mn ((rd_T71 l0 x13_1).f1) 1099511627776) = j_ := ⟨_, rfl⟩; (first | rw [hji6] at H | simp only [hji6] at H); have hji6_ : (if 1099511627776 < ((rd_T71 l0 x13_1).f1) then 1099511627776 else ((rd_T71 l0 x13_1).f1)) = ji6 := hji6
    obtain ⟨c7b0, H⟩ | ⟨c7b0, H⟩ := ic_ H
    ·obtain ⟨c8, H⟩ := gc_ H; have LMc8 := A_ c8; clear c8; obtain ⟨y243, hy243⟩ : ∃ y_ : List (S71), y_ = (x3_1 ++ [(⟨ji5, ji6⟩ : S71)]) := ⟨_, rfl⟩; (replace H : (runs_Make.l0 k1 y243 l0 (l0.length : Int) (wrap64 (x13_1 + 1))) = some r := by first | (rw [hy243]; with_reducible exact H) | (have H2_ := (Option.bind_some _ _).symm.trans H; rw [hy243]; with_reducible exact H2_) | (have H2_ := (Option.bind_some _ _).symm.trans H; with_reducible exact H2_) | with_reducible exact H | (rw [hy243]; exact H) | exact H); have Ny243 := A_ hy243; clear hy243; have H' := A_ H; clear H; have p241 : 0 ≤ (x13_1 : Int) := od_; have q241 : x13_1 < (l0.length : Int) := od_; obtain ⟨ad241, e241, hx241_0, hx241_1⟩ := at_T71 HR0.out x13_1 p241 q241
     cases e241
     replace hx241_0 := cl_ HB hx241_0; replace hx241_1 := cl_ HB hx241_1; replace p241 := eq_true p241; replace q241 := eq_true q241; go_wp2_with (first | ((with_reducible refine gD 5 ?_); refine bxe_ 5 #[.int .i64 0, .int .i64 0] 71 ?_; intro gb242 hg w9 hbox hb; replace HO_3 := A_ (Kd.R_below (Kd.R_elderB (fxR_ HO_3.out) gb242 (Nat.le_of_eq hg.symm)) hb); have BK242 := A_ (hbox); have GW242 := gs_ w hg; have GE242 := gs_ w hg; replace HB := bs_ hb; clear hb hbox hg; have Z10 := bz2_ BK242) | ((with_reducible refine gate_builtin (b := .append) (xs := #[.tmp 29, .tmp 31]) rfl ?_); at_builtin; refine Kd.R_append k71 (w0 := w) w.heap.size rfl (.tmp 29) (.tmp 31) 28 71 (.agg #[(.int .i64 0), (.int .i64 0)]) 16 rfl Tryz.underlying28 info71 rfl (by decide) (by omega) u3 x3_1 (⟨ji5, ji6⟩ : S71) [.int .i64 ji5, .int .i64 ji6] (fun k_ => k_ ≠ gb242) (fun _ => False) rfl (by first | (go_simp; done) | (go_simp; rfl)) ?aP (fun _ hk => hk.elim) ?aF ?aO ?aB ?aS ?aL ?_; (case aP => exact k71_mkM _ _ _ (⟨ji5, ji6⟩ : S71)); (case aB => exact hs_); (case aF => exact (fun k_ hk => fb_ BK242 k_ hk)); (case aO => exact (fpR_ HO_3.out)); (case aS => exact (below_size hs_)); (case aL => have := LMc8.out; omega); intro v244 w11 ho hb hg hat; rw [← Ny243.out] at ho; replace BK242 := A_ (blk_grown (g := gb242) (o := .cells #[.int .i64 ji5, .int .i64 ji6] 71 (0, 0)) (pb_ BK242.out) hg (Kd.R_away HO_3.out (fun _ hk => hk.2))); replace HB := A_ (hb); have HO245 := A_ (ho); clear HO_3; clear ho hb hg hat))
     go_roundg k1
     case measure => have := HK1.out; omega
     case rel => exact ⟨(y243), (wrap64 (x13_1 + 1)), rf_, H', ⟨by have := HK1.out; omega⟩, ⟨by (with_reducible repeat (first | apply Kd.R_alloc | apply Kd.R_drewN | apply Kd.R_drew)); exact Kd.R_mono HO245.out (fun _ hk => trivial)⟩, ⟨hs_⟩⟩
    ·have H' := A_ H; clear H; have p241 : 0 ≤ (x13_1 : Int) := od_; have q241 : x13_1 < (l0.length : Int) := od_; obtain ⟨ad241, e241, hx241_0, hx241_1⟩ := at_T71 HR0.out x13_1 p241 q241
     cases e241
     replace hx241_0 := cl_ HB hx241_0; replace hx241_1 := cl_ HB hx241_1; replace p241 := eq_true p241; replace q241 := eq_true q241; go_wp2_with (first | ((with_reducible refine gD 5 ?_); refine bxe_ 5 #[.int .i64 0, .int .i64 0] 71 ?_; intro gb242 hg w12 hbox hb; replace HO_3 := A_ (Kd.R_below (Kd.R_elderB (fxR_ HO_3.out) gb242 (Nat.le_of_eq hg.symm)) hb); have BK242 := A_ (hbox); have GW242 := gs_ w hg; have GE242 := gs_ w hg; replace HB := bs_ hb; clear hb hbox hg; have Z13 := bz2_ BK242)); go_roundg k1
     case measure => have := HK1.out; omega
     case rel => exact ⟨(x3_1), (wrap64 (x13_1 + 1)), rf_, H', ⟨by have := HK1.out; omega⟩, ⟨fpR_ HO_3.out⟩, ⟨hs_⟩⟩
   ·have c2b0 := decide_eq_false c2; have c2b9 := c2b0; (try simp only [hl39_2] at c2b9); clear c2; obtain ⟨t246, A14, H⟩ := bi_ H; have H' := A_ H; clear H; obtain ⟨Ao15, co15, eo15⟩ := Kd.R_slice HO_3.out; subst eo15; go_wp2_with (first | ((with_reducible refine gC 154 ?_); refine goesL_ (some 38) rfl rfl Tryz.func154 (by kernel_rfl) rfl #[.slice Ao15 x3_1.length co15, .func (.func 153) #[.agg #[.bool false]] #[]] rfl ml_ ?_; (with_reducible refine (api_Run_49.calls k1 (fun k_ => some k_ = (.slice Ao15 x3_1.length co15 : Value).ownBlock) (.slice Ao15 x3_1.length co15) x3_1  t246 w _ ?side1 ?side2 A14.out).mono ?_); (case side1 => repeat (first | (with_reducible first | exact HB.out | apply below_alloc | apply pw_below_drewN | apply below_drew1) | exact HB.out)); (case side2 => exact Kd.R_tight rfl HO_3.out); rintro e w16 ⟨rfl, hy0, hb, hkp⟩; refine ⟨_, rfl, ?_⟩; replace HO_3 := A_ (Kd.R_reok rfl hy0 (fun k_ e_ => HO_3.out.1 k_ e_)); replace HB := A_ (hb); (try clear hy0))); go_loopg [7, 41] k1 (fun kq v7 v41 w' => ∃ (x7_2 x39_2 : List (S71)) (x41_2 : Int), v41 = .int .i64 x41_2 ∧ Aside0 (runs_Make.l1 kq x7_2 x39_2 (x3_1.length : Int) x41_2 = some r) ∧ Aside0 (kq ≤ k1) ∧ Aside0 (Kd.R k71 71 w' w.heap.size (fun k_ => some k_ ≠ ((.slice Ao15 x3_1.length co15) : Value).ownBlock) v7 x7_2) ∧ Aside0 (Kd.R k71 71 w' w.heap.size (fun k_ => nv_ k_ v7) (.slice Ao15 x3_1.length co15) x39_2) ∧ Aside0 (Below w.heap.size w w'))
    case atStart => exact ⟨(([] : List (S71))), (t246), (0), rf_, H', ⟨Nat.le_refl _⟩, ⟨by first | exact Kd.R_nil _ _ _ _ _ | exact Kd.N_nil _ _ _ _ _ | exact Kd.V_nil _ _ _ _ _ | exact Kd.Q_nil _ _ _ _ _ | exact Kd.S_nil _ _ _ _ _⟩, ⟨by (with_reducible repeat (first | apply Kd.R_alloc | apply Kd.R_drewN | apply Kd.R_drew)); exact Kd.R_mono HO_3.out (fun _ hk => (by simp [Value.ownBlock]))⟩, ⟨hs_⟩⟩
    case round =>
     clear H'; obtain ⟨x7_2, x39_2, x41_2, rfl, HA, HK2, HO_7, HO_39, HB⟩ := hrel; have hl39_2 := (Kd.R_reads' HO_39.out).1; rw [hl39_2] at HO_39; (try simp only [hl39_2]); (try simp only [hl39_2] at HO_7)
     cases gk with
     | zero => exact absurd HA.out (by simp [runs_Make.l1])
     | succ k2 =>
      have H := HA.out; clear HA; simp only [runs_Make.l1] at H
      obtain ⟨c17, H⟩ | ⟨c17, H⟩ := iq_ H
      ·have c17b0 := decide_eq_true c17; clear c17
       obtain ⟨c18b0, H⟩ := gd_ H
       obtain ⟨c19b0, H⟩ := gd_ H
       obtain ⟨c20, H⟩ | ⟨c20, H⟩ := iq_ H
       ·have c20b0 := decide_eq_true c20; clear c20; obtain ⟨ji21, hji21⟩ : ∃ j_ : Int, (wrap64 ((x7_2.length : Int) - 1)) = j_ := ⟨_, rfl⟩; (first | rw [hji21] at H | simp only [hji21] at H); (try rw [hji21] at c20b0); have hji21w : (IntKind.i64.wrap ((x7_2.length : Int) - 1)) = ji21 := (i64_w _).trans hji21
        obtain ⟨c22b0, H⟩ := gd_ H
        obtain ⟨c23b0, H⟩ := gd_ H
        obtain ⟨c24, H⟩ | ⟨c24, H⟩ := iq_ H
        ·have c24b0 : decide (((rd_T71 x39_2 x41_2).f0) ≤ (wrap64 (((rd_T71 x7_2 (ji21)).f1) + 1))) = true := decide_eq_true c24; clear c24; obtain ⟨ji25, hji25⟩ : ∃ j_ : Int, (mx ((rd_T71 x7_2 (ji21)).f1) ((rd_T71 x39_2 x41_2).f1)) = j_ := ⟨_, rfl⟩; (first | rw [hji25] at H | simp only [hji25] at H); have hji25_ : (if ((rd_T71 x7_2 (ji21)).f1) < ((rd_T71 x39_2 x41_2).f1) then ((rd_T71 x39_2 x41_2).f1) else ((rd_T71 x7_2 (ji21)).f1)) = ji25 := hji25; obtain ⟨y251, hy251⟩ : ∃ y_ : List (S71), y_ = (x7_2.set ((ji21) : Int).toNat (⟨(rd_T71 x7_2 (ji21)).f0, ji25⟩ : S71)) := ⟨_, rfl⟩; (replace H : (runs_Make.l1 k2 y251 x39_2 (x3_1.length : Int) (wrap64 (x41_2 + 1))) = some r := by first | (rw [hy251]; with_reducible exact H) | (have H2_ := (Option.bind_some _ _).symm.trans H; rw [hy251]; with_reducible exact H2_) | (have H2_ := (Option.bind_some _ _).symm.trans H; with_reducible exact H2_) | with_reducible exact H | (rw [hy251]; exact H) | exact H); have Ny251 := A_ hy251; clear hy251; have H' := A_ H; clear H; have p247 : 0 ≤ (x41_2 : Int) := od_; have q247 : x41_2 < (x39_2.length : Int) := od_; obtain ⟨ad247, e247, hx247_0, hx247_1⟩ := at_T71 (Kd.R_reads' HO_39.out).2.2 x41_2 p247 q247
         cases e247
         replace p247 := eq_true p247; replace q247 := eq_true q247; (try go_wp2_with (first | ((with_reducible refine gD 9 ?_); refine bxe_ 9 #[.int .i64 0, .int .i64 0] 71 ?_; intro gb248 hg w27 hbox hb; replace HO_7 := A_ (Kd.R_below (Kd.R_elderB (fxR_ HO_7.out) gb248 (Nat.le_of_eq hg.symm)) hb); replace HO_39 := A_ (Kd.R_below (Kd.R_elderB (fxR_ HO_39.out) gb248 (Nat.le_of_eq hg.symm)) hb); have BK248 := A_ (hbox); have GW248 := gs_ w hg; have GE248 := gs_ w hg; replace HB := bs_ hb; clear hb hbox hg; have Z28 := bz2_ BK248; obtain ⟨Ao29, co29, eo29⟩ := Kd.R_slice HO_7.out; subst eo29))); have m0_ : Aside0 (Kd.R k71 71 ((w27.setCell ⟨gb248, 0, none⟩ (.int .i64 ((rd_T71 x39_2 x41_2).f0))).setCell ⟨gb248, 1, none⟩ (.int .i64 ((rd_T71 x39_2 x41_2).f1))) w.heap.size (fun k_ => nv_ k_ (.slice (some ad247) x39_2.length co15) ∧ k_ ≠ gb248) (.slice Ao29 x7_2.length co29) x7_2) := ⟨fpR_ HO_7.out⟩; have m1_ : Aside0 (Kd.R k71 71 ((w27.setCell ⟨gb248, 0, none⟩ (.int .i64 ((rd_T71 x39_2 x41_2).f0))).setCell ⟨gb248, 1, none⟩ (.int .i64 ((rd_T71 x39_2 x41_2).f1))) w.heap.size (fun k_ => nv_ k_ (.slice Ao29 x7_2.length co29) ∧ k_ ≠ gb248) (.slice (some ad247) x39_2.length co15) x39_2) := ⟨fpR_ HO_39.out⟩; have m2_ : Aside0 (((w27.setCell ⟨gb248, 0, none⟩ (.int .i64 ((rd_T71 x39_2 x41_2).f0))).setCell ⟨gb248, 1, none⟩ (.int .i64 ((rd_T71 x39_2 x41_2).f1))).heap[gb248]? = some (.cells #[.int .i64 ((rd_T71 x39_2 x41_2).f0), .int .i64 ((rd_T71 x39_2 x41_2).f1)] 71 (0, 0))) := ⟨pb_ BK248.out⟩; have m3_ : Aside0 (Below w.heap.size w ((w27.setCell ⟨gb248, 0, none⟩ (.int .i64 ((rd_T71 x39_2 x41_2).f0))).setCell ⟨gb248, 1, none⟩ (.int .i64 ((rd_T71 x39_2 x41_2).f1)))) := ⟨hs_⟩
         generalize ((w27.setCell ⟨gb248, 0, none⟩ (.int .i64 ((rd_T71 x39_2 x41_2).f0))).setCell ⟨gb248, 1, none⟩ (.int .i64 ((rd_T71 x39_2 x41_2).f1))) = w30 at m0_ m1_ m2_ m3_ ⊢; have HO_7 := m0_; have HO_39 := m1_; have BK248 := m2_; have HB := m3_; clear m0_ m1_ m2_ m3_; replace HO_7 := A_ (Kd.R_drew HO_7.out); replace HO_39 := A_ (Kd.R_drew HO_39.out); replace BK248 := A_ (blk_drew BK248.out); replace HB := A_ (below_drew1 HB.out); have p249 : 0 ≤ ((ji21) : Int) := od_; have q249 : (ji21) < (x7_2.length : Int) := od_; obtain ⟨ad249, e249, hx249_0, hx249_1⟩ := at_T71 (Kd.R_reads' HO_7.out).2.2 (ji21) p249 q249
         cases e249
         replace p249 := eq_true p249; replace q249 := eq_true q249; refine start_ (n := 13) (S := fun w' => K2 w' gb248 (.int .i64 ((rd_T71 x39_2 x41_2).f0)) (.int .i64 ((rd_T71 x39_2 x41_2).f1)) (w'.cell? (ad249.add (((ji21)).toNat * 2)) = some (.int .i64 ((rd_T71 x7_2 (ji21)).f0)) ∧ w'.cell? ⟨(ad249.add (((ji21)).toNat * 2)).block, (ad249.add (((ji21)).toNat * 2)).off + 1, none⟩ = some (.int .i64 ((rd_T71 x7_2 (ji21)).f1)))) (ds := []) (ab 13 0) (by kernel_rfl) rfl rfl (kq2_ BK248 (⟨hx249_0, hx249_1⟩)) (fun hHeld => ?_); refine with_tabW runs_Make.tab16 runs_Make.bits16 (fun HT_ HW_ => ?_); generalize w30.drew = w31 at HO_7 HO_39 BK248 HB hx249_0 hx249_1 hHeld ⊢; refine pA 0 48 13 1 ?_; refine pA 1 49 13 3 ?_; refine pA 2 50 13 7 ?_; refine pA 3 51 13 15 ?_; refine pA 5 53 13 47 ?_; refine pA 6 54 13 111 ?_; refine pA 7 55 13 239 ?_; refine pA 8 56 13 495 ?_; refine tB 4 52 13 511 ?_; refine tB 9 57 13 1023 ?_; refine pA 10 58 13 2047 ?_; refine pA 11 59 13 4095 ?_; refine pA 12 60 13 8191 ?_; refine done_ (done_of HT_.out (by kernel_rfl)) ?_; (try go_wp2); replace HO_7 := A_ (Kd.R_drew HO_7.out); replace HO_39 := A_ (Kd.R_drew HO_39.out); replace BK248 := A_ (blk_drew BK248.out); replace HB := A_ (below_drew1 HB.out); have p250 : 0 ≤ ((ji21) : Int) := od_; have q250 : (ji21) < (x7_2.length : Int) := od_; obtain ⟨ad250, e250, hx250_0, hx250_1⟩ := at_T71 (Kd.R_reads' HO_7.out).2.2 (ji21) p250 q250; obtain rfl : ad249 = ad250 := (by injection e250); replace p250 := eq_true p250; replace q250 := eq_true q250; have p26 : 0 ≤ ((ji21) : Int) := od_; have q26 : ((ji21) : Int) < ((x7_2.length : Int) : Int) := od_; obtain ⟨go26, co26, eo26, gb26, gl26, cl26, HG26⟩ := Kd.R_form HO_7.out (by omega); (first | cases eo26 | (injection eo26 with ea_ en_ ec_; (first | subst ea_ | (injection ea_ with ea_; subst ea_)); subst ec_; clear en_)); have GB26 := A_ gb26; have GG26 := A_ HG26; clear gb26 gl26 HG26; (first | simp only [add_plain] at hx249_0 | skip); (first | simp only [add_plain] at hx249_1 | skip); (first | simp only [add_plain] at hx250_0 | skip); (first | simp only [add_plain] at hx250_1 | skip); obtain ⟨ce26, hcl26, hM26, hcc26, hfr26⟩ := Kd.R_elem HO_7.out z71 ((ji21) : Int) p26 q26; obtain rfl := k71_openM hM26; have hx26_0 : World.cell? _ ⟨go26, ((ji21) : Int).toNat * 2, none⟩ = some (.int .i64 ((rd_T71 x7_2 (ji21)).f0)) := hcc26 0 _ rfl; have hx26_1 : World.cell? _ ⟨go26, ((ji21) : Int).toNat * 2 + 1, none⟩ = some (.int .i64 ((rd_T71 x7_2 (ji21)).f1)) := hcc26 1 _ rfl; have hf26_0 : World.frozen? _ ⟨go26, ((ji21) : Int).toNat * 2, none⟩ = false := hfr26 0; have hf26_1 : World.frozen? _ ⟨go26, ((ji21) : Int).toNat * 2 + 1, none⟩ = false := hfr26 1; clear hcl26 hcc26 hfr26 hM26; replace p26 := eq_true p26; replace q26 := eq_true q26; obtain ⟨ce33, hcl33, hM33, hcc33, hfr33⟩ := Kd.R_elem HO_7.out z71 ((ji21) : Int) od_ (by have h_ : ((ji21) : Int) < ((x7_2.length : Int) : Int) := od_; first | exact h_ | (have e_ := (Kd.R_reads' HO_7.out).1; omega) | simpa using h_); obtain rfl := k71_openM hM33; have HP33 := (Kd.R_seg HO_7.out ((ji21) : Int) od_ (by have h_ : ((ji21) : Int) < ((x7_2.length : Int) : Int) := od_; first | exact h_ | (have e_ := (Kd.R_reads' HO_7.out).1; omega) | simpa using h_) (seg := [.int .i64 ji25]) (j := 1) hcl33 hcc33 (show 2 ≤ 2 from by decide) (x' := (⟨(rd_T71 x7_2 (ji21)).f0, ji25⟩ : S71)) (k71_mkM _ _ _ (⟨(rd_T71 x7_2 (ji21)).f0, ji25⟩ : S71) ) (fun _ hk => hk)).1; rw [← Ny251.out] at HP33; have HQ33 := A_ HP33; clear hcl33 hcc33 hfr33 hM33 HP33; refine start_ (n := 13) (S := fun w' => K2 w' gb248 (.int .i64 ((rd_T71 x39_2 x41_2).f0)) (.int .i64 ((rd_T71 x39_2 x41_2).f1)) (w'.cell? ⟨go26, (((ji21)).toNat * 2), none⟩ = some (.int .i64 ((rd_T71 x7_2 (ji21)).f0)) ∧ w'.cell? ⟨go26, (((ji21)).toNat * 2) + 1, none⟩ = some (.int .i64 ((rd_T71 x7_2 (ji21)).f1)))) (ds := [12]) (ab 13 0) (by kernel_rfl) rfl rfl (kq2_ BK248 (⟨hx250_0, hx250_1⟩)) (fun hHeld => ?_); refine with_tabW runs_Make.tab17 runs_Make.bits17 (fun HT_ HW_ => ?_)
         generalize w31.drew = w32 at HO_7 HO_39 BK248 HB GG26 HQ33 hf26_0 hf26_1 hx249_0 hx249_1 hx250_0 hx250_1 hx26_0 hx26_1 hHeld ⊢; refine pA 0 61 13 1 ?_; refine pA 1 62 13 3 ?_; refine pA 2 63 13 7 ?_; refine pA 3 64 13 15 ?_; refine pA 4 65 13 31 ?_; refine pA 5 66 13 63 ?_; refine pA 7 68 13 191 ?_; refine tB 6 67 13 255 ?_; refine tB 8 69 13 511 ?_; refine pA 9 70 13 1023 ?_; refine pA 10 71 13 2047 ?_; refine pA 11 72 13 4095 ?_; refine last_ (i := 12) (N := none) (ab 13 8191) rfl rfl (one_of HT_.out (by kernel_rfl)) (by decide) (fun K hK => ?_); refine sA ?_; refine hK.out _ _ ?_; clear hK K; refine done_ (done_of HT_.out (by kernel_rfl)) ?_; (try go_wp2); (try simp only [← hl39_2]); go_roundg k2
         case measure => have := HK1.out; have := HK2.out; omega
         case rel => exact ⟨(y251), (x39_2), (wrap64 (x41_2 + 1)), rf_, H', ⟨by have := HK1.out; have := HK2.out; omega⟩, ⟨by (try simp only [hl39_2]); (with_reducible repeat (first | apply Kd.R_alloc | apply Kd.R_drewN | apply Kd.R_drew)); exact Kd.R_mono HQ33.out (fun _ hk => hk.1)⟩, ⟨by (try simp only [hl39_2]); (with_reducible repeat (first | apply Kd.R_alloc | apply Kd.R_drewN | apply Kd.R_drew)); exact Kd.R_mono (Kd.R_far (p := ⟨go26, ((ji21) : Int).toNat * 2 + 1, none⟩) (Kd.R_mono HO_39.out (fun k_ hk => (⟨hk, fun e_ => hk.1 (by rw [e_]; rfl)⟩ : _ ∧ k_ ≠ go26))) (fun _ hk => hk.2) (.int .i64 ji25)) (fun _ hk => hk.1.1)⟩, ⟨hs_⟩⟩
        ·have c24b0 : decide (((rd_T71 x39_2 x41_2).f0) ≤ (wrap64 (((rd_T71 x7_2 (ji21)).f1) + 1))) = false := decide_eq_false c24; clear c24
         obtain ⟨c34, H⟩ := gc_ H; have LMc34 := A_ c34; clear c34; obtain ⟨y252, hy252⟩ : ∃ y_ : List (S71), y_ = (x7_2 ++ [(⟨(rd_T71 x39_2 x41_2).f0, (rd_T71 x39_2 x41_2).f1⟩ : S71)]) := ⟨_, rfl⟩; (replace H : (runs_Make.l1 k2 y252 x39_2 (x3_1.length : Int) (wrap64 (x41_2 + 1))) = some r := by first | (rw [hy252]; with_reducible exact H) | (have H2_ := (Option.bind_some _ _).symm.trans H; rw [hy252]; with_reducible exact H2_) | (have H2_ := (Option.bind_some _ _).symm.trans H; with_reducible exact H2_) | with_reducible exact H | (rw [hy252]; exact H) | exact H); have Ny252 := A_ hy252; clear hy252; have H' := A_ H; clear H; have p247 : 0 ≤ (x41_2 : Int) := od_; have q247 : x41_2 < (x39_2.length : Int) := od_; obtain ⟨ad247, e247, hx247_0, hx247_1⟩ := at_T71 (Kd.R_reads' HO_39.out).2.2 x41_2 p247 q247
         cases e247
         replace p247 := eq_true p247; replace q247 := eq_true q247; (try go_wp2_with (first | ((with_reducible refine gD 9 ?_); refine bxe_ 9 #[.int .i64 0, .int .i64 0] 71 ?_; intro gb248 hg w35 hbox hb; replace HO_7 := A_ (Kd.R_below (Kd.R_elderB (fxR_ HO_7.out) gb248 (Nat.le_of_eq hg.symm)) hb); replace HO_39 := A_ (Kd.R_below (Kd.R_elderB (fxR_ HO_39.out) gb248 (Nat.le_of_eq hg.symm)) hb); have BK248 := A_ (hbox); have GW248 := gs_ w hg; have GE248 := gs_ w hg; replace HB := bs_ hb; clear hb hbox hg; have Z36 := bz2_ BK248; obtain ⟨Ao37, co37, eo37⟩ := Kd.R_slice HO_7.out; subst eo37))); have m0_ : Aside0 (Kd.R k71 71 ((w35.setCell ⟨gb248, 0, none⟩ (.int .i64 ((rd_T71 x39_2 x41_2).f0))).setCell ⟨gb248, 1, none⟩ (.int .i64 ((rd_T71 x39_2 x41_2).f1))) w.heap.size (fun k_ => nv_ k_ (.slice (some ad247) x39_2.length co15) ∧ k_ ≠ gb248) (.slice Ao37 x7_2.length co37) x7_2) := ⟨fpR_ HO_7.out⟩; have m1_ : Aside0 (Kd.R k71 71 ((w35.setCell ⟨gb248, 0, none⟩ (.int .i64 ((rd_T71 x39_2 x41_2).f0))).setCell ⟨gb248, 1, none⟩ (.int .i64 ((rd_T71 x39_2 x41_2).f1))) w.heap.size (fun k_ => nv_ k_ (.slice Ao37 x7_2.length co37) ∧ k_ ≠ gb248) (.slice (some ad247) x39_2.length co15) x39_2) := ⟨fpR_ HO_39.out⟩; have m2_ : Aside0 (((w35.setCell ⟨gb248, 0, none⟩ (.int .i64 ((rd_T71 x39_2 x41_2).f0))).setCell ⟨gb248, 1, none⟩ (.int .i64 ((rd_T71 x39_2 x41_2).f1))).heap[gb248]? = some (.cells #[.int .i64 ((rd_T71 x39_2 x41_2).f0), .int .i64 ((rd_T71 x39_2 x41_2).f1)] 71 (0, 0))) := ⟨pb_ BK248.out⟩; have m3_ : Aside0 (Below w.heap.size w ((w35.setCell ⟨gb248, 0, none⟩ (.int .i64 ((rd_T71 x39_2 x41_2).f0))).setCell ⟨gb248, 1, none⟩ (.int .i64 ((rd_T71 x39_2 x41_2).f1)))) := ⟨hs_⟩
         generalize ((w35.setCell ⟨gb248, 0, none⟩ (.int .i64 ((rd_T71 x39_2 x41_2).f0))).setCell ⟨gb248, 1, none⟩ (.int .i64 ((rd_T71 x39_2 x41_2).f1))) = w38 at m0_ m1_ m2_ m3_ ⊢; have HO_7 := m0_; have HO_39 := m1_; have BK248 := m2_; have HB := m3_; clear m0_ m1_ m2_ m3_; replace HO_7 := A_ (Kd.R_drew HO_7.out); replace HO_39 := A_ (Kd.R_drew HO_39.out); replace BK248 := A_ (blk_drew BK248.out); replace HB := A_ (below_drew1 HB.out); have p249 : 0 ≤ ((ji21) : Int) := od_; have q249 : (ji21) < (x7_2.length : Int) := od_; obtain ⟨ad249, e249, hx249_0, hx249_1⟩ := at_T71 (Kd.R_reads' HO_7.out).2.2 (ji21) p249 q249
         cases e249
         replace p249 := eq_true p249; replace q249 := eq_true q249; refine start_ (n := 13) (S := fun w' => K2 w' gb248 (.int .i64 ((rd_T71 x39_2 x41_2).f0)) (.int .i64 ((rd_T71 x39_2 x41_2).f1)) (w'.cell? (ad249.add (((ji21)).toNat * 2)) = some (.int .i64 ((rd_T71 x7_2 (ji21)).f0)) ∧ w'.cell? ⟨(ad249.add (((ji21)).toNat * 2)).block, (ad249.add (((ji21)).toNat * 2)).off + 1, none⟩ = some (.int .i64 ((rd_T71 x7_2 (ji21)).f1)))) (ds := []) (ab 13 0) (by kernel_rfl) rfl rfl (kq2_ BK248 (⟨hx249_0, hx249_1⟩)) (fun hHeld => ?_); refine with_tabW runs_Make.tab16 runs_Make.bits16 (fun HT_ HW_ => ?_); generalize w38.drew = w39 at HO_7 HO_39 BK248 HB hx249_0 hx249_1 hHeld ⊢; refine pA 0 48 13 1 ?_; refine pA 1 49 13 3 ?_; refine pA 2 50 13 7 ?_; refine pA 3 51 13 15 ?_; refine pA 5 53 13 47 ?_; refine pA 6 54 13 111 ?_; refine pA 7 55 13 239 ?_; refine pA 8 56 13 495 ?_; refine tB 4 52 13 511 ?_; refine tB 9 57 13 1023 ?_; refine pA 10 58 13 2047 ?_; refine pA 11 59 13 4095 ?_; refine pA 12 60 13 8191 ?_; refine done_ (done_of HT_.out (by kernel_rfl)) ?_; have Z40 := bz2_ BK248; (try go_wp2_with (first | ((with_reducible refine gate_builtin (b := .append) (xs := #[.tmp 73, .tmp 75]) rfl ?_); at_builtin; refine Kd.R_append k71 (w0 := w) w.heap.size rfl (.tmp 73) (.tmp 75) 28 71 (.agg #[(.int .i64 0), (.int .i64 0)]) 16 rfl Tryz.underlying28 info71 rfl (by decide) (by omega) (.slice (some ad249) x7_2.length co37) x7_2 (⟨(rd_T71 x39_2 x41_2).f0, (rd_T71 x39_2 x41_2).f1⟩ : S71) [.int .i64 ((rd_T71 x39_2 x41_2).f0), .int .i64 ((rd_T71 x39_2 x41_2).f1)] (fun k_ => nv_ k_ (.slice (some ad247) x39_2.length co15) ∧ k_ ≠ gb248) (fun _ => False) rfl rfl ?aP (fun _ hk => hk.elim) ?aF ?aO ?aB ?aS ?aL ?_; (case aP => exact k71_mkM _ _ _ (⟨(rd_T71 x39_2 x41_2).f0, (rd_T71 x39_2 x41_2).f1⟩ : S71)); (case aB => exact hs_); (case aF => exact (fun k_ hk => ⟨Kd.fresh' (Kd.R_lt (fxR_ HO_39.out)) k_ hk, fb_ BK248 k_ hk⟩)); (case aO => exact (fxR_ HO_7.out)); (case aS => exact (below_size hs_)); (case aL => have := LMc34.out; omega); intro v253 w41 ho hb hg hat; rw [← Ny252.out] at ho; replace HO_39 := A_ (Kd.R_after (ok := (fun k_ => k_ ≠ gb248)) (fmR_ HO_39.out) hg hat); replace BK248 := A_ (blk_grown (g := gb248) (o := .cells #[.int .i64 ((rd_T71 x39_2 x41_2).f0), .int .i64 ((rd_T71 x39_2 x41_2).f1)] 71 (0, 0)) (bl_ BK248.out) hg (Kd.R_away HO_7.out (fun _ hk => hk.2))); replace HB := A_ (hb); have HO254 := A_ (ho); clear HO_7; clear ho hb hg hat)))
         (try simp only [← hl39_2]); go_roundg k2
         case measure => have := HK1.out; have := HK2.out; omega
         case rel => exact ⟨(y252), (x39_2), (wrap64 (x41_2 + 1)), rf_, H', ⟨by have := HK1.out; have := HK2.out; omega⟩, ⟨by (try simp only [hl39_2]); (with_reducible repeat (first | apply Kd.R_alloc | apply Kd.R_drewN | apply Kd.R_drew)); exact Kd.R_mono HO254.out (fun _ hk => hk.1)⟩, ⟨by (try simp only [hl39_2]); (with_reducible repeat (first | apply Kd.R_alloc | apply Kd.R_drewN | apply Kd.R_drew)); exact Kd.R_mono HO_39.out (fun _ hk => hk.2)⟩, ⟨hs_⟩⟩
       ·have c20b0 := decide_eq_false c20; have c20b9 := c20b0; (try simp only [hl39_2] at c20b9); clear c20
        obtain ⟨c42, H⟩ := gc_ H; have LMc42 := A_ c42; clear c42; obtain ⟨y255, hy255⟩ : ∃ y_ : List (S71), y_ = (x7_2 ++ [(⟨(rd_T71 x39_2 x41_2).f0, (rd_T71 x39_2 x41_2).f1⟩ : S71)]) := ⟨_, rfl⟩; (replace H : (runs_Make.l1 k2 y255 x39_2 (x3_1.length : Int) (wrap64 (x41_2 + 1))) = some r := by first | (rw [hy255]; with_reducible exact H) | (have H2_ := (Option.bind_some _ _).symm.trans H; rw [hy255]; with_reducible exact H2_) | (have H2_ := (Option.bind_some _ _).symm.trans H; with_reducible exact H2_) | with_reducible exact H | (rw [hy255]; exact H) | exact H); have Ny255 := A_ hy255; clear hy255; have H' := A_ H; clear H; have p247 : 0 ≤ (x41_2 : Int) := od_; have q247 : x41_2 < (x39_2.length : Int) := od_; obtain ⟨ad247, e247, hx247_0, hx247_1⟩ := at_T71 (Kd.R_reads' HO_39.out).2.2 x41_2 p247 q247
        cases e247
        replace p247 := eq_true p247; replace q247 := eq_true q247; (try go_wp2_with (first | ((with_reducible refine gD 9 ?_); refine bxe_ 9 #[.int .i64 0, .int .i64 0] 71 ?_; intro gb248 hg w43 hbox hb; replace HO_7 := A_ (Kd.R_below (Kd.R_elderB (fxR_ HO_7.out) gb248 (Nat.le_of_eq hg.symm)) hb); replace HO_39 := A_ (Kd.R_below (Kd.R_elderB (fxR_ HO_39.out) gb248 (Nat.le_of_eq hg.symm)) hb); have BK248 := A_ (hbox); have GW248 := gs_ w hg; have GE248 := gs_ w hg; replace HB := bs_ hb; clear hb hbox hg; have Z44 := bz2_ BK248; obtain ⟨Ao45, co45, eo45⟩ := Kd.R_slice HO_7.out; subst eo45))); have m0_ : Aside0 (Kd.R k71 71 ((w43.setCell ⟨gb248, 0, none⟩ (.int .i64 ((rd_T71 x39_2 x41_2).f0))).setCell ⟨gb248, 1, none⟩ (.int .i64 ((rd_T71 x39_2 x41_2).f1))) w.heap.size (fun k_ => nv_ k_ (.slice (some ad247) x39_2.length co15) ∧ k_ ≠ gb248) (.slice Ao45 x7_2.length co45) x7_2) := ⟨fpR_ HO_7.out⟩; have m1_ : Aside0 (Kd.R k71 71 ((w43.setCell ⟨gb248, 0, none⟩ (.int .i64 ((rd_T71 x39_2 x41_2).f0))).setCell ⟨gb248, 1, none⟩ (.int .i64 ((rd_T71 x39_2 x41_2).f1))) w.heap.size (fun k_ => nv_ k_ (.slice Ao45 x7_2.length co45) ∧ k_ ≠ gb248) (.slice (some ad247) x39_2.length co15) x39_2) := ⟨fpR_ HO_39.out⟩; have m2_ : Aside0 (((w43.setCell ⟨gb248, 0, none⟩ (.int .i64 ((rd_T71 x39_2 x41_2).f0))).setCell ⟨gb248, 1, none⟩ (.int .i64 ((rd_T71 x39_2 x41_2).f1))).heap[gb248]? = some (.cells #[.int .i64 ((rd_T71 x39_2 x41_2).f0), .int .i64 ((rd_T71 x39_2 x41_2).f1)] 71 (0, 0))) := ⟨pb_ BK248.out⟩; have m3_ : Aside0 (Below w.heap.size w ((w43.setCell ⟨gb248, 0, none⟩ (.int .i64 ((rd_T71 x39_2 x41_2).f0))).setCell ⟨gb248, 1, none⟩ (.int .i64 ((rd_T71 x39_2 x41_2).f1)))) := ⟨hs_⟩
        generalize ((w43.setCell ⟨gb248, 0, none⟩ (.int .i64 ((rd_T71 x39_2 x41_2).f0))).setCell ⟨gb248, 1, none⟩ (.int .i64 ((rd_T71 x39_2 x41_2).f1))) = w46 at m0_ m1_ m2_ m3_ ⊢; have HO_7 := m0_; have HO_39 := m1_; have BK248 := m2_; have HB := m3_; clear m0_ m1_ m2_ m3_; replace HO_7 := A_ (Kd.R_drew HO_7.out); replace HO_39 := A_ (Kd.R_drew HO_39.out); replace BK248 := A_ (blk_drew BK248.out); replace HB := A_ (below_drew1 HB.out); refine start_ (n := 13) (S := fun w' => True) (ds := []) (ab 13 0) (by kernel_rfl) rfl rfl trivial (fun hHeld => ?_); refine with_tabW runs_Make.tab16 runs_Make.bits16 (fun HT_ HW_ => ?_); generalize w46.drew = w47 at HO_7 HO_39 BK248 HB hHeld ⊢; refine pA 0 48 13 1 ?_; refine pA 1 49 13 3 ?_; refine pA 2 50 13 7 ?_; refine uA 3 51 13 15 ?_; refine uA 4 52 13 31 ?_; refine uA 5 53 13 63 ?_; refine uA 6 54 13 127 ?_; refine uA 7 55 13 255 ?_; refine uA 8 56 13 511 ?_; refine uA 9 57 13 1023 ?_; refine uA 10 58 13 2047 ?_; refine uA 11 59 13 4095 ?_; refine pA 12 60 13 8191 ?_; refine done_ (done_of HT_.out (by kernel_rfl)) ?_; have Z48 := bz2_ BK248; (try go_wp2_with (first | ((with_reducible refine gate_builtin (b := .append) (xs := #[.tmp 73, .tmp 75]) rfl ?_); at_builtin; refine Kd.R_append k71 (w0 := w) w.heap.size rfl (.tmp 73) (.tmp 75) 28 71 (.agg #[(.int .i64 0), (.int .i64 0)]) 16 rfl Tryz.underlying28 info71 rfl (by decide) (by omega) (.slice Ao45 x7_2.length co45) x7_2 (⟨(rd_T71 x39_2 x41_2).f0, (rd_T71 x39_2 x41_2).f1⟩ : S71) [.int .i64 ((rd_T71 x39_2 x41_2).f0), .int .i64 ((rd_T71 x39_2 x41_2).f1)] (fun k_ => nv_ k_ (.slice (some ad247) x39_2.length co15) ∧ k_ ≠ gb248) (fun _ => False) rfl rfl ?aP (fun _ hk => hk.elim) ?aF ?aO ?aB ?aS ?aL ?_; (case aP => exact k71_mkM _ _ _ (⟨(rd_T71 x39_2 x41_2).f0, (rd_T71 x39_2 x41_2).f1⟩ : S71)); (case aB => exact hs_); (case aF => exact (fun k_ hk => ⟨Kd.fresh' (Kd.R_lt (fxR_ HO_39.out)) k_ hk, fb_ BK248 k_ hk⟩)); (case aO => exact (fxR_ HO_7.out)); (case aS => exact (below_size hs_)); (case aL => have := LMc42.out; omega); intro v256 w49 ho hb hg hat; rw [← Ny255.out] at ho; replace HO_39 := A_ (Kd.R_after (ok := (fun k_ => k_ ≠ gb248)) (fmR_ HO_39.out) hg hat); replace BK248 := A_ (blk_grown (g := gb248) (o := .cells #[.int .i64 ((rd_T71 x39_2 x41_2).f0), .int .i64 ((rd_T71 x39_2 x41_2).f1)] 71 (0, 0)) (bl_ BK248.out) hg (Kd.R_away HO_7.out (fun _ hk => hk.2))); replace HB := A_ (hb); have HO257 := A_ (ho); clear HO_7; clear ho hb hg hat)))
        (try simp only [← hl39_2]); go_roundg k2
        case measure => have := HK1.out; have := HK2.out; omega
        case rel => exact ⟨(y255), (x39_2), (wrap64 (x41_2 + 1)), rf_, H', ⟨by have := HK1.out; have := HK2.out; omega⟩, ⟨by (try simp only [hl39_2]); (with_reducible repeat (first | apply Kd.R_alloc | apply Kd.R_drewN | apply Kd.R_drew)); exact Kd.R_mono HO257.out (fun _ hk => hk.1)⟩, ⟨by (try simp only [hl39_2]); (with_reducible repeat (first | apply Kd.R_alloc | apply Kd.R_drewN | apply Kd.R_drew)); exact Kd.R_mono HO_39.out (fun _ hk => hk.2)⟩, ⟨hs_⟩⟩
      ·have c17b0 := decide_eq_false c17; have c17b9 := c17b0; (try simp only [hl39_2] at c17b9); clear c17; obtain rfl := Option.some.inj H; go_wp2; go_ret; exact ⟨_, by first | rfl | (simp [errW_none, errW_some] <;> rfl) | (simp [*, errW_none, errW_some] <;> rfl), by (with_reducible repeat (first | apply Kd.R_alloc | apply Kd.R_drewN | apply Kd.R_drew)); exact Kd.R_mono HO_7.out (fun _ hk => trivial), hs_⟩
end Go.Proofs.YthppfagfmjchoaaGreatDoor.A.So
namespace Go.Proofs.YthppfagfmjchoaaGreatDoor.A.So
open Go.RowKit Go.Proofs.YthppfagfmjchoaaGreatDoorW.PrintWords Go.Proofs.YthppfagfmjchoaaGreatDoorW.PrintLast Go.Proofs.YthppfagfmjchoaaGreatDoorW.PrintMore Go.Sort
set_option linter.unusedVariables false
theorem cut_ok (l : List S71) (r : S71) (h : r ∈ cut l) : okR r := by
  unfold cut at h
  rw [List.mem_filter, List.mem_map] at h
  obtain ⟨⟨q, hq, rfl⟩, hd⟩ := h
  have hd := of_decide_eq_true hd
  have hlim : lim = 1099511627776 := rfl
  unfold okR
  unfold clamp at hd ⊢
  simp only at hd ⊢
  omega
theorem cut_mem (l : List S71) (n : Int) : mem (cut l) n ↔ -lim ≤ n ∧ n ≤ lim ∧ mem l n := by
  have hlim : lim = 1099511627776 := rfl
  constructor
  · rintro ⟨r, hr, h1, h2⟩
    unfold cut at hr
    rw [List.mem_filter, List.mem_map] at hr
    obtain ⟨⟨q, hq, rfl⟩, hd⟩ := hr
    unfold clamp at h1 h2
    simp only at h1 h2
    exact ⟨by omega, by omega, q, hq, by omega, by omega⟩
  · rintro ⟨h1, h2, q, hq, h3, h4⟩
    refine ⟨clamp q, ?_, ?_, ?_⟩
    · unfold cut
      rw [List.mem_filter, List.mem_map]
      refine ⟨⟨q, hq, rfl⟩, ?_⟩
      unfold clamp
      simp only [decide_eq_true_eq]
      omega
    · unfold clamp; simp only; omega
    · unfold clamp; simp only; omega
theorem cut_pair {l : List S71} (h : l.Pairwise (fun a b => a.f0 ≤ b.f0)) : (cut l).Pairwise (fun a b => a.f0 ≤ b.f0) := by
  unfold cut
  exact (List.Pairwise.map clamp (fun a b hab => by unfold clamp; simp only; omega) h).filter _
theorem risen_of {l : List S71} (h : l.Pairwise (fun a b => a.f0 ≤ b.f0)) : risen l := fun i j hij hj => by
  have e : ∀ k : Nat, (hk : k < l.length) → rd_T71 l (k : Int) = l[k] := fun k hk => by simp [rd_T71, List.getD, hk]
  rw [e i (by omega), e j hj]
  rcases Nat.lt_or_eq_of_le hij with hlt | heq
  · exact List.pairwise_iff_getElem.1 h i j (by omega) hj hlt
  · subst heq; exact Int.le_refl _
theorem make_ev (l : List S71) (hr : risingLo l = true) (hl : l.length < 4398046511104) : Ev (fun k => runs_Make.f k l) (norm l) := by
  have hcl : (cut l).length ≤ l.length := by
    unfold cut
    exact Nat.le_trans (List.length_filter_le _ _) (by simp)
  have hpw := cut_pair (rising_pair hr)
  have he := sort_f (risen_of hpw) (by omega)
  obtain ⟨res, e, s, m⟩ := mk_l1 (cut l) [] [] (by simp only [List.nil_append]; omega) (by simp) trivial (fun r hr => cut_ok l r hr) hpw (fun o' q h => by simp at h)
  have hres : res = norm l := norm_eq s fun n => by
    rw [m n, cut_mem]
    simp [mem_nil]
  subst hres
  refine Ev.congr (fun k => by simp only [runs_Make.f]; rfl) ?_
  refine mk_l0 _ l [] [] (by simpa using hl) (by simp) ?_
  simp only [List.nil_append] at e ⊢
  refine Ev.bind (a := cut l) (by simpa using he) ?_
  exact e
end Go.Proofs.YthppfagfmjchoaaGreatDoor.A.So
namespace Go.Proofs.YthppfagfmjchoaaGreatDoor.A
open Go.RowKit Go.Proofs.YthppfagfmjchoaaGreatDoorW.PrintWords Go.Proofs.YthppfagfmjchoaaGreatDoorW.PrintLast Go.Proofs.YthppfagfmjchoaaGreatDoorW.PrintMore
theorem runs_Make.calls (A0 : Option Addr) (c0 : Nat) (l0 r : List S71) (w : World) (hr0 : Kd.C k71 w A0 l0.length l0) (hc0 : l0.length ≤ c0) (h : runs_Make.f l0 = some r) :
    Calls Tryz.prog 101 #[.slice A0 l0.length c0] w fun e w' => ∃ v0_ : Value, e = .returned (v0_) ∧ Kd.R k71 71 w' w.heap.size (fun _ => True) v0_ r ∧ Below w.heap.size w w' := by
  unfold runs_Make.f at h
  by_cases c : risingLo l0 = true ∧ l0.length < 4398046511104
  · rw [if_pos c] at h
    obtain rfl := Option.some.inj h
    obtain ⟨k, hk⟩ := (So.make_ev l0 c.1 c.2).rounds
    exact So.runs_Make.calls k A0 c0 l0 _ w hr0 hc0 hk
  · rw [if_neg c] at h
    exact absurd h (by simp)
end Go.Proofs.YthppfagfmjchoaaGreatDoor.A
namespace Go.Proofs.YthppfagfmjchoaaGreatDoor.A
open Go.RowKit Go.Proofs.YthppfagfmjchoaaGreatDoorW.PrintWords Go.Proofs.YthppfagfmjchoaaGreatDoorW.PrintLast Go.Proofs.YthppfagfmjchoaaGreatDoorW.PrintMore
attribute [local go_sem] max2_int min2_int max_two min_two max_three min_three max_four min_four
set_option maxHeartbeats 8000000 in
set_option maxRecDepth 100000 in
theorem sets_known.calls (k : Nat) (P0_ : Nat → Prop) (A0 : Option Addr) (c0 : Nat) (l0 r : List (S71)) (w : World) (hs0 : Kd.V k71 71 w w.heap.size (fun k_ => P0_ k_) (.slice A0 l0.length c0) l0) (h : sets_known.f k l0 = some r) :
  Calls Tryz.prog 155 #[.slice A0 l0.length c0] w fun e w' => ∃ v0_ : Value, e = .returned (v0_) ∧ Kd.V k71 71 w' w.heap.size (fun k_ => (P0_ k_ ∨ w.heap.size ≤ k_)) v0_ r ∧ Below w.heap.size w w' := by
 have HO0 := A_ (show Kd.V k71 71 w w.heap.size (fun k_ => (P0_ k_ ∨ w.heap.size ≤ k_)) (.slice A0 l0.length c0) l0 from Kd.V_mono hs0 (fun k_ hk => .inl hk)); have HB := A_ (Below.refl w.heap.size w); have H : ((runs_Sane.f k l0).bind fun t103 => (if t103 = true then (some l0) else ((runs_Make.f l0).bind fun t104 => (some t104)))) = some r := h; clear h; replace H := Option.bind_eq_some_iff.mp H; obtain ⟨t103, A20, H⟩ := H; replace H : (if t103 = true then (some l0) else ((runs_Make.f l0).bind fun t104 => (some t104))) = some r := H; have A2 := A_ A20; clear A20
 by_cases c3 : t103 = true
 ·subst c3
  replace H := iP_ H; obtain rfl := Option.some.inj H; go_enter Tryz.func155, Tryz.ntmps155; go_wp2_with (first | (refine gC 48 ?_; refine gL 4 Tryz.func48 #[.slice A0 l0.length c0] ?_; (with_reducible refine (runs_Sane.calls k _ _ l0 true _ ?side1 ?side2 A2.out).mono ?_); (case side1 => exact cr_ (Kd.V_reads' HO0.out).2.2); (case side2 => exact (Kd.V_reads' HO0.out).2.1); rintro e w4 ⟨rfl, hb⟩; refine ⟨_, rfl, ?_⟩; replace HO0 := bV_ HO0 hb; replace HB := bs_ hb; (try clear hb))); go_ret; exact ⟨_, by first | rfl | (simp [errW_none, errW_some] <;> rfl) | (simp [*, errW_none, errW_some] <;> rfl), fxV_ HO0.out, hs_⟩
 ·replace c3 := Bool.eq_false_iff.mpr c3
  subst c3; replace H := iN_ H; replace H := Option.bind_eq_some_iff.mp H; obtain ⟨t104, A50, H⟩ := H; replace H : (some t104) = some r := H; have A5 := A_ A50; clear A50; obtain rfl := Option.some.inj H; go_enter Tryz.func155, Tryz.ntmps155; go_wp2_with (first | (refine gC 48 ?_; refine gL 4 Tryz.func48 #[.slice A0 l0.length c0] ?_; (with_reducible refine (runs_Sane.calls k _ _ l0 false _ ?side1 ?side2 A2.out).mono ?_); (case side1 => exact cr_ (Kd.V_reads' HO0.out).2.2); (case side2 => exact (Kd.V_reads' HO0.out).2.1); rintro e w6 ⟨rfl, hb⟩; refine ⟨_, rfl, ?_⟩; replace HO0 := bV_ HO0 hb; replace HB := bs_ hb; (try clear hb)) | (refine gC 101 ?_; refine gL 7 Tryz.func101 #[.slice A0 l0.length c0] ?_; (with_reducible refine (runs_Make.calls _ _ l0 t104 _ ?side1 ?side2 A5.out).mono ?_); (case side1 => exact cr_ (Kd.V_reads' HO0.out).2.2); (case side2 => exact (Kd.V_reads' HO0.out).2.1); rintro e w7 ⟨v105, rfl, ho0, hb⟩; refine ⟨_, rfl, ?_⟩; replace HO0 := A_ (Kd.V_elder' (hrV_ HO0.out) (Kd.R_base ho0) hb); have HO106 := A_ (Kd.R_lower (Kd.R_newM (M := fun k_ => (w.heap.size ≤ k_)) ho0 (below_size hs_) (fun k_ h_ => h_)) (below_size hs_)); replace HB := bs_ hb; (try clear hb); (try clear ho0))); go_ret; exact ⟨_, by first | rfl | (simp [errW_none, errW_some] <;> rfl) | (simp [*, errW_none, errW_some] <;> rfl), Kd.V_mono (Kd.R_V (by (with_reducible repeat (first | apply Kd.R_alloc | apply Kd.R_drewN | apply Kd.R_drew)); exact Kd.R_mono HO106.out (fun _ hk => hk.1))) (fun k_ hk => by first | exact ⟨(.inr (hk.1)), hk.2⟩ | exact (.inr (hk))), hs_⟩
set_option maxHeartbeats 8000000 in
set_option maxRecDepth 100000 in
theorem sets_Wide.calls (k : Nat) (A0 : Option Addr) (c0 : Nat) (l0 : List (S71)) (r : Bool) (w : World) (hr0 : Kd.C k71 w A0 l0.length l0) (hc0 : l0.length ≤ c0) (h : sets_Wide.f k l0 = some r) :
  Calls Tryz.prog 102 #[.slice A0 l0.length c0] w fun e w' => e = .returned (.bool r) ∧ Below w.heap.size w w' := by
 have HR0 := A_ hr0; have HC0 := A_ hc0; clear hr0 hc0; have HB := A_ (Below.refl w.heap.size w); have H : ((sets_known.f k l0).bind fun t123 => (some (decide ((t123.length : Int) > 400)))) = some r := h; clear h; obtain ⟨t123, A2, H⟩ := bi_ H; obtain rfl := Option.some.inj H; go_enter Tryz.func102, Tryz.ntmps102; go_wp2_with (first | ((with_reducible refine gC 155 ?_); refine goesL_ (some 4) rfl rfl Tryz.func155 (by kernel_rfl) rfl #[.slice A0 l0.length c0] rfl ml_ ?_; (with_reducible refine (sets_known.calls k (fun k_ => k_ < w.heap.size) _ _ l0 t123 _ ?side1 A2.out).mono ?_); (case side1 => exact Kd.V_mk HC0.out (Kd.F_below (Kd.C_F k71_heap HR0.out) hs_)); rintro e w3 ⟨v124, rfl, ho0, hb⟩; refine ⟨_, rfl, ?_⟩; have HO125 := A_ (Kd.V_lower (Kd.V_mono (ok' := fun k_ => True) ho0 (fun k_ hk_ => trivial)) (below_size hs_)); replace HB := bs_ hb; (try clear hb); (try clear ho0); obtain ⟨Ao4, co4, eo4⟩ := Kd.V_slice HO125.out; subst eo4)); go_ret; exact ⟨re_, hs_⟩
def runs_known.f (k : Nat) (l0 : List (S71)) : Option ((List (S71))) := (runs_Sane.f k l0).bind fun t110 => (if t110 = true then (some l0) else ((runs_Make.f l0).bind fun t111 => (some t111)))
theorem runs_known.mono : ∀ a0 k, LeO (runs_known.f k a0) (runs_known.f (k + 1) a0) := by
  intro a0 k
  unfold runs_known.f
  repeat' first
      | (with_reducible exact runs_Sane.mono _ _)
      | (with_reducible exact LeO.refl _)
      | (with_reducible exact LeO.none _)
      | (with_reducible refine LeO.ite ?_ ?_)
      | (with_reducible refine LeO.bind ?_ (fun _ => ?_))
      | exact runs_Sane.mono _ _
      | exact LeO.none _
      | refine LeO.ite ?_ ?_
      | refine LeO.bind ?_ (fun _ => ?_)
def runs_Count.l0 : Nat → Int → List (S71) → Int → Int → Option (Int)
  | 0, _, _, _, _ => none
  | k + 1, x3, x7, x8, x9 => if x9 < x8 then (if 0 ≤ x9 then (if x9 < (x7.length : Int) then (runs_Count.l0 k (wrap64 (x3 + (wrap64 ((wrap64 (((rd_T71 x7 x9).f1) - ((rd_T71 x7 x9).f0))) + 1)))) x7 x8 (wrap64 (x9 + 1))) else (none)) else (none)) else (some x3)
def runs_Count.f (k : Nat) (l0 : List (S71)) : Option (Int) := (runs_known.f k l0).bind fun t114 => (runs_Count.l0 k 0 t114 (t114.length : Int) 0)
theorem runs_Count.mono_l : ∀ k, (∀ y0 y1 y2 y3, LeO (runs_Count.l0 k y0 y1 y2 y3) (runs_Count.l0 (k + 1) y0 y1 y2 y3))
  | 0 => fun _ _ _ _ r h => by simp [runs_Count.l0] at h
  | k + 1 => by
    have ih0 := runs_Count.mono_l k
    · intro y0 y1 y2 y3
      unfold runs_Count.l0
      repeat' first
      | (with_reducible exact ih0 _ _ _ _)
      | (with_reducible exact runs_known.mono _ _)
      | (with_reducible exact LeO.refl _)
      | (with_reducible exact LeO.none _)
      | (with_reducible refine LeO.ite ?_ ?_)
      | (with_reducible refine LeO.bind ?_ (fun _ => ?_))
      | exact ih0 _ _ _ _
      | exact runs_known.mono _ _
      | exact LeO.none _
      | refine LeO.ite ?_ ?_
      | refine LeO.bind ?_ (fun _ => ?_)
theorem runs_Count.mono : ∀ a0 k, LeO (runs_Count.f k a0) (runs_Count.f (k + 1) a0) := by
  intro a0 k
  have ih0 := runs_Count.mono_l k
  unfold runs_Count.f
  repeat' first
      | (with_reducible exact ih0 _ _ _ _)
      | (with_reducible exact runs_known.mono _ _)
      | (with_reducible exact LeO.refl _)
      | (with_reducible exact LeO.none _)
      | (with_reducible refine LeO.ite ?_ ?_)
      | (with_reducible refine LeO.bind ?_ (fun _ => ?_))
      | exact ih0 _ _ _ _
      | exact runs_known.mono _ _
      | exact LeO.none _
      | refine LeO.ite ?_ ?_
      | refine LeO.bind ?_ (fun _ => ?_)
set_option maxHeartbeats 8000000 in
set_option maxRecDepth 100000 in
theorem runs_known.calls (k : Nat) (P0_ : Nat → Prop) (A0 : Option Addr) (c0 : Nat) (l0 r : List (S71)) (w : World) (hs0 : Kd.V k71 71 w w.heap.size (fun k_ => P0_ k_) (.slice A0 l0.length c0) l0) (h : runs_known.f k l0 = some r) :
  Calls Tryz.prog 94 #[.slice A0 l0.length c0] w fun e w' => ∃ v0_ : Value, e = .returned (v0_) ∧ Kd.V k71 71 w' w.heap.size (fun k_ => (P0_ k_ ∨ w.heap.size ≤ k_)) v0_ r ∧ Below w.heap.size w w' := by
 have HO0 := A_ (show Kd.V k71 71 w w.heap.size (fun k_ => (P0_ k_ ∨ w.heap.size ≤ k_)) (.slice A0 l0.length c0) l0 from Kd.V_mono hs0 (fun k_ hk => .inl hk)); have HB := A_ (Below.refl w.heap.size w); have H : ((runs_Sane.f k l0).bind fun t110 => (if t110 = true then (some l0) else ((runs_Make.f l0).bind fun t111 => (some t111)))) = some r := h; clear h; obtain ⟨t110, A2, H⟩ := bi_ H
 by_cases c3 : t110 = true
 ·subst c3
  replace H := iP_ H; obtain rfl := Option.some.inj H; go_enter Tryz.func94, Tryz.ntmps94; go_wp2_with (first | ((with_reducible refine gC 48 ?_); refine goesL_ (some 4) rfl rfl Tryz.func48 (by kernel_rfl) rfl #[.slice A0 l0.length c0] rfl ml_ ?_; (with_reducible refine (runs_Sane.calls k _ _ l0 true _ ?side1 ?side2 A2.out).mono ?_); (case side1 => repeat (first | exact (Kd.V_reads' HO0.out).2.2 | (with_reducible refine Kd.C_alloc ?_ _) | (with_reducible refine Kd.C_drewN ?_ _) | (with_reducible refine Kd.C_drew ?_))); (case side2 => exact (Kd.V_reads' HO0.out).2.1); rintro e w4 ⟨rfl, hb⟩; refine ⟨_, rfl, ?_⟩; replace HO0 := bV_ HO0 hb; replace HB := bs_ hb; (try clear hb))); go_ret; exact ⟨_, by first | rfl | (simp [errW_none, errW_some] <;> rfl) | (simp [*, errW_none, errW_some] <;> rfl), fxV_ HO0.out, hs_⟩
 ·replace c3 := Bool.eq_false_iff.mpr c3
  subst c3; replace H := iN_ H; obtain ⟨t111, A5, H⟩ := bi_ H; obtain rfl := Option.some.inj H; go_enter Tryz.func94, Tryz.ntmps94; go_wp2_with (first | ((with_reducible refine gC 48 ?_); refine goesL_ (some 4) rfl rfl Tryz.func48 (by kernel_rfl) rfl #[.slice A0 l0.length c0] rfl ml_ ?_; (with_reducible refine (runs_Sane.calls k _ _ l0 false _ ?side1 ?side2 A2.out).mono ?_); (case side1 => repeat (first | exact (Kd.V_reads' HO0.out).2.2 | (with_reducible refine Kd.C_alloc ?_ _) | (with_reducible refine Kd.C_drewN ?_ _) | (with_reducible refine Kd.C_drew ?_))); (case side2 => exact (Kd.V_reads' HO0.out).2.1); rintro e w6 ⟨rfl, hb⟩; refine ⟨_, rfl, ?_⟩; replace HO0 := bV_ HO0 hb; replace HB := bs_ hb; (try clear hb)) | ((with_reducible refine gC 101 ?_); refine goesL_ (some 7) rfl rfl Tryz.func101 (by kernel_rfl) rfl #[.slice A0 l0.length c0] rfl ml_ ?_; (with_reducible refine (runs_Make.calls _ _ l0 t111 _ ?side1 ?side2 A5.out).mono ?_); (case side1 => repeat (first | exact (Kd.V_reads' HO0.out).2.2 | (with_reducible refine Kd.C_alloc ?_ _) | (with_reducible refine Kd.C_drewN ?_ _) | (with_reducible refine Kd.C_drew ?_))); (case side2 => exact (Kd.V_reads' HO0.out).2.1); rintro e w7 ⟨v112, rfl, ho0, hb⟩; refine ⟨_, rfl, ?_⟩; replace HO0 := A_ (Kd.V_elder' (fxV_ HO0.out) (Kd.R_base ho0) hb); have HO113 := A_ (Kd.R_lower (Kd.R_newM (M := fun k_ => (w.heap.size ≤ k_)) ho0 (below_size hs_) (fun k_ h_ => h_)) (below_size hs_)); replace HB := bs_ hb; (try clear hb); (try clear ho0))); go_ret; exact ⟨_, by first | rfl | (simp [errW_none, errW_some] <;> rfl) | (simp [*, errW_none, errW_some] <;> rfl), Kd.V_mono (Kd.R_V (by (with_reducible repeat (first | apply Kd.R_alloc | apply Kd.R_drewN | apply Kd.R_drew)); exact Kd.R_mono HO113.out (fun _ hk => hk.1))) (fun k_ hk => by first | exact ⟨(.inr (hk.1)), hk.2⟩ | exact (.inr (hk))), hs_⟩
end Go.Proofs.YthppfagfmjchoaaGreatDoor.A
namespace Go.Proofs.YthppfagfmjchoaaGreatDoor.A
open Go.RowKit Go.Proofs.YthppfagfmjchoaaGreatDoorW.PrintWords Go.Proofs.YthppfagfmjchoaaGreatDoorW.PrintLast Go.Proofs.YthppfagfmjchoaaGreatDoorW.PrintMore
attribute [local go_sem] max2_int min2_int max_two min_two max_three min_three max_four min_four
attribute [local go_sem] isSome_setCell
set_option maxHeartbeats 8000000 in
set_option maxRecDepth 100000 in
theorem runs_Count.calls (k : Nat) (A0 : Option Addr) (c0 : Nat) (l0 : List (S71)) (r : Int) (w : World) (hr0 : Kd.C k71 w A0 l0.length l0) (hc0 : l0.length ≤ c0) (h : runs_Count.f k l0 = some r) :
  Calls Tryz.prog 50 #[.slice A0 l0.length c0] w fun e w' => e = .returned (.int .i64 r) ∧ Below w.heap.size w w' := by
 have hu71 := Tryz.underlying71; have HR0 := A_ hr0; have HC0 := A_ hc0; clear hr0 hc0; have HB := A_ (Below.refl w.heap.size w); have H : ((runs_known.f k l0).bind fun t114 => (runs_Count.l0 k 0 t114 (t114.length : Int) 0)) = some r := h; clear h; obtain ⟨t114, A2, H⟩ := bi_ H; have H' := A_ H; clear H; go_enter Tryz.func50, Tryz.ntmps50; go_wp2_with (first | ((with_reducible refine gC 94 ?_); refine goesL_ (some 7) rfl rfl Tryz.func94 (by kernel_rfl) rfl #[.slice A0 l0.length c0] rfl ml_ ?_; (with_reducible refine (runs_known.calls k (fun k_ => k_ < w.heap.size) _ _ l0 t114 _ ?side1 A2.out).mono ?_); (case side1 => exact Kd.V_mk HC0.out (Kd.F_below (Kd.C_F k71_heap HR0.out) hs_)); rintro e w3 ⟨v115, rfl, ho0, hb⟩; refine ⟨_, rfl, ?_⟩; have HO116 := A_ (Kd.V_lower (Kd.V_mono (ok' := fun k_ => True) ho0 (fun k_ hk_ => trivial)) (below_size hs_)); replace HB := bs_ hb; obtain ⟨Ao4, co4, eo4⟩ := Kd.V_slice HO116.out; subst eo4)); go_loopg [3, 9] k (fun kq v3 v9 w' => ∃ (x3_1 : Int) (x9_1 : Int), v3 = .int .i64 x3_1 ∧ v9 = .int .i64 x9_1 ∧ Aside0 (runs_Count.l0 kq x3_1 t114 (t114.length : Int) x9_1 = some r) ∧ Aside0 (kq ≤ k) ∧ Aside0 (Kd.V k71 71 w' w.heap.size (fun _ => True) (.slice Ao4 t114.length co4) t114) ∧ Aside0 (Below w.heap.size w w'))
 case atStart => exact ⟨(0), (0), rf_, rf_, H', ⟨Nat.le_refl _⟩, ⟨fxV_ HO116.out⟩, ⟨hs_⟩⟩
 case round =>
  clear H'; obtain ⟨x3_1, x9_1, rfl, rfl, HA, HK1, HO_7, HB⟩ := hrel
  cases gk with
  | zero => exact absurd HA.out (by simp [runs_Count.l0])
  | succ k1 =>
   have H := HA.out; clear HA; simp only [runs_Count.l0] at H
   obtain ⟨c5b0, H⟩ | ⟨c5b0, H⟩ := ic_ H
   ·obtain ⟨c6b0, H⟩ := gd_ H
    obtain ⟨c7b0, H⟩ := gd_ H; have H' := A_ H; clear H; have p117 : 0 ≤ (x9_1 : Int) := od_; have q117 : x9_1 < (t114.length : Int) := od_; obtain ⟨ad117, e117, hx117_0, hx117_1⟩ := at_T71 (Kd.V_reads' HO_7.out).2.2 x9_1 p117 q117
    cases e117
    replace p117 := eq_true p117; replace q117 := eq_true q117; go_wp2_with (first | ((with_reducible refine gD 5 ?_); refine bxe_ 5 #[.int .i64 0, .int .i64 0] 71 ?_; intro gb118 hg w8 hbox hb; replace HO_7 := eV_ HO_7 hg hb; have BK118 := A_ (hbox); have GW118 := gs_ w hg; have GE118 := gs_ w hg; replace HB := bs_ hb; clear hb hbox hg; have Z9 := bz2_ BK118)); go_roundg k1
    case measure => have := HK1.out; omega
    case rel => exact ⟨(wrap64 (x3_1 + (wrap64 ((wrap64 (((rd_T71 t114 x9_1).f1) - ((rd_T71 t114 x9_1).f0))) + 1)))), (wrap64 (x9_1 + 1)), rf_, rf_, H', ⟨by have := HK1.out; omega⟩, ⟨fpV_ HO_7.out⟩, ⟨hs_⟩⟩
   ·obtain rfl := Option.some.inj H; go_wp2; go_ret; exact ⟨re_, hs_⟩
def runs_Of.l0 : Nat → List (S71) → List Int → Int → Int → Option ((List (S71)))
  | 0, _, _, _, _ => none
  | k + 1, x3, x6, x7, x8 => if x8 < x7 then (if 0 ≤ x8 then (if x8 < (x6.length : Int) then (if x3.length < 8796093022208 then (runs_Of.l0 k (x3 ++ [(⟨rd x6 x8, rd x6 x8⟩ : S71)]) x6 x7 (wrap64 (x8 + 1))) else (none)) else (none)) else (none)) else ((runs_Make.f x3).bind fun t105 => (some t105))
def runs_Of.f (k : Nat) (l0 : List Int) : Option ((List (S71))) := runs_Of.l0 k ([] : List (S71)) l0 (l0.length : Int) 0
theorem runs_Of.mono_l : ∀ k, (∀ y0 y1 y2 y3, LeO (runs_Of.l0 k y0 y1 y2 y3) (runs_Of.l0 (k + 1) y0 y1 y2 y3))
  | 0 => fun _ _ _ _ r h => by simp [runs_Of.l0] at h
  | k + 1 => by
    have ih0 := runs_Of.mono_l k
    · intro y0 y1 y2 y3
      unfold runs_Of.l0
      repeat' first
      | (with_reducible exact ih0 _ _ _ _)
      | (with_reducible exact LeO.refl _)
      | (with_reducible exact LeO.none _)
      | (with_reducible refine LeO.ite ?_ ?_)
      | (with_reducible refine LeO.bind ?_ (fun _ => ?_))
      | exact ih0 _ _ _ _
      | exact LeO.none _
      | refine LeO.ite ?_ ?_
      | refine LeO.bind ?_ (fun _ => ?_)
theorem runs_Of.mono : ∀ a0 k, LeO (runs_Of.f k a0) (runs_Of.f (k + 1) a0) := by
  intro a0 k
  have ih0 := runs_Of.mono_l k
  unfold runs_Of.f
  repeat' first
      | (with_reducible exact ih0 _ _ _ _)
      | (with_reducible exact LeO.refl _)
      | (with_reducible exact LeO.none _)
      | (with_reducible refine LeO.ite ?_ ?_)
      | (with_reducible refine LeO.bind ?_ (fun _ => ?_))
      | exact ih0 _ _ _ _
      | exact LeO.none _
      | refine LeO.ite ?_ ?_
      | refine LeO.bind ?_ (fun _ => ?_)
set_option maxHeartbeats 8000000 in
set_option maxRecDepth 100000 in
theorem runs_Of.calls (k : Nat) (A0 : Option Addr) (c0 : Nat) (l0 : List Int) (r : List (S71)) (w : World) (hr0 : Kd.C (Kd.int .i64) w A0 l0.length l0) (hc0 : l0.length ≤ c0) (h : runs_Of.f k l0 = some r) :
  Calls Tryz.prog 170 #[.slice A0 l0.length c0] w fun e w' => ∃ v0_ : Value, e = .returned (v0_) ∧ Kd.R k71 71 w' w.heap.size (fun _ => True) v0_ r ∧ Below w.heap.size w w' := by
 have hu71 := Tryz.underlying71; have HR0 := A_ hr0; have HC0 := A_ hc0; clear hr0 hc0; have HB := A_ (Below.refl w.heap.size w); have H : (runs_Of.l0 k ([] : List (S71)) l0 (l0.length : Int) 0) = some r := h; clear h; have H' := A_ H; clear H; go_enter Tryz.func170, Tryz.ntmps170; go_wp2; go_loopg [3, 8] k (fun kq v3 v8 w' => ∃ (x3_1 : List (S71)) (x8_1 : Int), v8 = .int .i64 x8_1 ∧ Aside0 (runs_Of.l0 kq x3_1 l0 (l0.length : Int) x8_1 = some r) ∧ Aside0 (kq ≤ k) ∧ Aside0 (Kd.R k71 71 w' w.heap.size (fun _ => True) v3 x3_1) ∧ Aside0 (Below w.heap.size w w'))
 case atStart => exact ⟨(([] : List (S71))), (0), rf_, H', ⟨Nat.le_refl _⟩, ⟨by first | exact Kd.R_nil _ _ _ _ _ | exact Kd.N_nil _ _ _ _ _ | exact Kd.V_nil _ _ _ _ _ | exact Kd.Q_nil _ _ _ _ _ | exact Kd.S_nil _ _ _ _ _⟩, ⟨hs_⟩⟩
 case round =>
  clear H'; obtain ⟨x3_1, x8_1, rfl, HA, HK1, HO_3, HB⟩ := hrel
  cases gk with
  | zero => exact absurd HA.out (by simp [runs_Of.l0])
  | succ k1 =>
   have H := HA.out; clear HA; simp only [runs_Of.l0] at H
   obtain ⟨c2b0, H⟩ | ⟨c2b0, H⟩ := ic_ H
   ·obtain ⟨c3b0, H⟩ := gd_ H
    obtain ⟨c4b0, H⟩ := gd_ H
    obtain ⟨c5, H⟩ := gc_ H; have LMc5 := A_ c5; clear c5; obtain ⟨y102, hy102⟩ : ∃ y_ : List (S71), y_ = (x3_1 ++ [(⟨rd l0 x8_1, rd l0 x8_1⟩ : S71)]) := ⟨_, rfl⟩; (replace H : (runs_Of.l0 k1 y102 l0 (l0.length : Int) (wrap64 (x8_1 + 1))) = some r := by first | (rw [hy102]; with_reducible exact H) | (have H2_ := (Option.bind_some _ _).symm.trans H; rw [hy102]; with_reducible exact H2_) | (have H2_ := (Option.bind_some _ _).symm.trans H; with_reducible exact H2_) | with_reducible exact H | (rw [hy102]; exact H) | exact H); have Ny102 := A_ hy102; clear hy102; have H' := A_ H; clear H; have p101 : 0 ≤ (x8_1 : Int) := od_; have q101 : x8_1 < (l0.length : Int) := od_; obtain ⟨ad101, e101, hx101_0⟩ := Kd.at_int HR0.out x8_1 p101 q101
    cases e101
    replace hx101_0 := cl_ HB hx101_0; replace p101 := eq_true p101; replace q101 := eq_true q101; go_wp2_with (first | ((with_reducible refine gate_builtin (b := .append) (xs := #[.tmp 12, .tmp 16]) rfl ?_); at_builtin; refine Kd.R_append k71 (w0 := w) w.heap.size rfl (.tmp 12) (.tmp 16) 28 71 (.agg #[(.int .i64 0), (.int .i64 0)]) 16 rfl Tryz.underlying28 info71 rfl (by decide) (by omega) u3 x3_1 (⟨rd l0 x8_1, rd l0 x8_1⟩ : S71) [.int .i64 (rd l0 x8_1), .int .i64 (rd l0 x8_1)] (fun _ => True) (fun _ => False) rfl rfl ?aP (fun _ hk => hk.elim) ?aF ?aO ?aB ?aS ?aL ?_; (case aP => exact k71_mkM _ _ _ (⟨rd l0 x8_1, rd l0 x8_1⟩ : S71)); (case aB => exact hs_); (case aF => exact (fun _ _ => trivial)); (case aO => exact (fxR_ HO_3.out)); (case aS => exact (below_size hs_)); (case aL => have := LMc5.out; omega); intro v103 w6 ho hb hg hat; rw [← Ny102.out] at ho; replace HB := A_ (hb); have HO104 := A_ (ho); clear HO_3; clear ho hb hg hat)); go_roundg k1
    case measure => have := HK1.out; omega
    case rel => exact ⟨(y102), (wrap64 (x8_1 + 1)), rf_, H', ⟨by have := HK1.out; omega⟩, ⟨fxR_ HO104.out⟩, ⟨hs_⟩⟩
   ·obtain ⟨t105, A7, H⟩ := bi_ H; obtain rfl := Option.some.inj H; obtain ⟨Ao8, co8, eo8⟩ := Kd.R_slice HO_3.out; subst eo8; go_wp2_with (first | ((with_reducible refine gC 101 ?_); refine goesL_ (some 20) rfl rfl Tryz.func101 (by kernel_rfl) rfl #[.slice Ao8 x3_1.length co8] rfl ml_ ?_; (with_reducible refine (runs_Make.calls _ _ x3_1 t105 _ ?side1 ?side2 A7.out).mono ?_); (case side1 => repeat (first | exact (Kd.R_reads' HO_3.out).2.2 | (with_reducible refine Kd.C_alloc ?_ _) | (with_reducible refine Kd.C_drewN ?_ _) | (with_reducible refine Kd.C_drew ?_))); (case side2 => exact (Kd.R_reads' HO_3.out).2.1); rintro e w9 ⟨v106, rfl, ho0, hb⟩; refine ⟨_, rfl, ?_⟩; have HO107 := A_ (Kd.R_lower (Kd.R_new' ho0 (Kd.R_lt (fxR_ HO_3.out))) (below_size hs_)); replace HO_3 := A_ (Kd.R_elder' (fxR_ HO_3.out) (Kd.R_base ho0) hb); replace HB := bs_ hb; (try clear ho0))); go_ret; exact ⟨_, by first | rfl | (simp [errW_none, errW_some] <;> rfl) | (simp [*, errW_none, errW_some] <;> rfl), by (with_reducible repeat (first | apply Kd.R_alloc | apply Kd.R_drewN | apply Kd.R_drew)); exact Kd.R_mono HO107.out (fun _ hk => trivial), hs_⟩
theorem eqA23 (d : Nat) (w : World) (x0 y0 : Int) (x1 y1 : ByteArray) (x2 y2 : ByteArray) (x3 y3 : ByteArray) :
  (Op.equalIn (d + 2) 23 (.agg #[.int .i64 x0, .string x1, .string x2, .string x3]) (.agg #[.int .i64 y0, .string y1, .string y2, .string y3])).run Tryz.prog w = .ok (x0 == y0 && (x1.toList == y1.toList && (x2.toList == y2.toList && (x3.toList == y3.toList)))) w := by
 refine eqA_of Tryz.underlying23 (by kernel_rfl) ?_; refine eqf_cons (by rfl) (by go_simp; rfl) (by go_simp; rfl) (by go_simp) ?_; refine eqf_cons (by rfl) (by go_simp; rfl) (by go_simp; rfl) (by go_simp) ?_; refine eqf_cons (by rfl) (by go_simp; rfl) (by go_simp; rfl) (by go_simp) ?_; exact eqf_last (by rfl) (by go_simp; rfl) (by go_simp; rfl) (by go_simp)
def sets_Meet.T5 : Bool × List (List Nat × List Nat) := (true, [([], []), ([], []), ([0, 1], [0, 1]), ([2], [2]), ([3], [3]), ([], []), ([], []), ([5, 6], [5, 6]), ([7], [7]), ([8], [8]), ([4, 9], [4, 9]), ([], []), ([], []), ([11, 12], [11, 12]), ([13], [13]), ([14], [14]), ([], []), ([], []), ([16, 17], [16, 17]), ([18], [18]), ([19], [19]), ([15, 20], [15, 20]), ([10, 21], [10, 21]), ([], []), ([23, 22, 0, 1, 2, 3, 4, 5, 6, 7, 8, 9, 10, 11, 12, 13, 14, 15, 16, 17, 18, 19, 20, 21, 22, 23], [22, 23])])
def sets_Meet.B5 : List Nat := [0, 0, 3, 7, 15, 0, 0, 96, 224, 480, 1023, 0, 0, 6144, 14336, 30720, 0, 0, 196608, 458752, 983040, 2095104, 4194303, 0, 16777215]
theorem sets_Meet.tab5 : rtab .any (opsOf Tryz.f107 5) = sets_Meet.T5 := by kernel_rfl
theorem sets_Meet.bits5 : waitsOk sets_Meet.T5.2 sets_Meet.B5 = true := by kernel_rfl
def sets_Meet.T8 : Bool × List (List Nat × List Nat) := (true, [([], []), ([], []), ([0, 1], [0, 1]), ([2], [2]), ([3], [3]), ([], []), ([], []), ([5, 6], [5, 6]), ([7], [7]), ([8], [8]), ([4, 9], [4, 9])])
def sets_Meet.B8 : List Nat := [0, 0, 3, 7, 15, 0, 0, 96, 224, 480, 1023]
theorem sets_Meet.tab8 : rtab .any (opsOf Tryz.f107 8) = sets_Meet.T8 := by kernel_rfl
theorem sets_Meet.bits8 : waitsOk sets_Meet.T8.2 sets_Meet.B8 = true := by kernel_rfl
set_option maxHeartbeats 8000000 in
set_option maxRecDepth 100000 in
theorem sets_Meet.calls (k : Nat) (A0 : Option Addr) (c0 : Nat) (l0 : List (S71)) (A1 : Option Addr) (c1 : Nat) (l1 r : List (S71)) (w : World) (hr0 : Kd.C k71 w A0 l0.length l0) (hc0 : l0.length ≤ c0) (hr1 : Kd.C k71 w A1 l1.length l1) (hc1 : l1.length ≤ c1) (h : sets_Meet.f k l0 l1 = some r) :
  Calls Tryz.prog 107 #[.slice A0 l0.length c0, .slice A1 l1.length c1] w fun e w' => ∃ v0_ : Value, e = .returned (v0_) ∧ Kd.R k71 71 w' w.heap.size (fun _ => True) v0_ r ∧ Below w.heap.size w w' := by
 have hu71 := Tryz.underlying71; have HR0 := A_ hr0; have HC0 := A_ hc0; clear hr0 hc0; have HR1 := A_ hr1; have HC1 := A_ hc1; clear hr1 hc1; have HB := A_ (Below.refl w.heap.size w); have H : ((sets_known.f k l0).bind fun t107 => ((sets_known.f k l1).bind fun t110 => (sets_Meet.l0 k t107 t110 ([] : List (S71)) 0 0))) = some r := h; clear h; obtain ⟨t107, A3, H⟩ := bi_ H; obtain ⟨t110, A4, H⟩ := bi_ H; have H' := A_ H; clear H; go_enter Tryz.func107, Tryz.ntmps107; go_wp2_with (fail); (try go_step3); go_wp2_with (first | (refine gC 155 ?_; refine gL 10 Tryz.func155 #[.slice A0 l0.length c0] ?_; (with_reducible refine (sets_known.calls k (fun k_ => k_ < w.heap.size) _ _ l0 t107 _ ?side1 A3.out).mono ?_); (case side1 => exact Kd.V_mk HC0.out (Kd.F_below (Kd.C_F k71_heap HR0.out) hs_)); rintro e w5 ⟨v108, rfl, ho0, hb⟩; refine ⟨_, rfl, ?_⟩; have HO109 := A_ (Kd.V_lower (Kd.V_mono (ok' := fun k_ => True) ho0 (fun k_ hk_ => trivial)) (below_size hs_)); replace HB := bs_ hb; (try clear ho0)) | (refine gC 155 ?_; refine gL 12 Tryz.func155 #[.slice A1 l1.length c1] ?_; (with_reducible refine (sets_known.calls k (fun k_ => k_ < w.heap.size) _ _ l1 t110 _ ?side1 A4.out).mono ?_); (case side1 => exact Kd.V_mk HC1.out (Kd.F_below (Kd.C_F k71_heap HR1.out) hs_)); rintro e w6 ⟨v111, rfl, ho0, hb⟩; refine ⟨_, rfl, ?_⟩; replace HO109 := bV_ HO109 hb; have HO112 := A_ (Kd.V_lower (Kd.V_mono (ok' := fun k_ => True) ho0 (fun k_ hk_ => trivial)) (below_size hs_)); replace HB := bs_ hb; (try clear ho0))); (try (go_step3; try go_wp2_with (fail))); go_loopg [5, 6, 7] k (fun kq v5 v6 v7 w' => ∃ (x5_1 : List (S71)) (x6_1 : Int) (x7_1 : Int), v6 = .int .i64 x6_1 ∧ v7 = .int .i64 x7_1 ∧ Aside0 (sets_Meet.l0 kq t107 t110 x5_1 x6_1 x7_1 = some r) ∧ Aside0 (kq ≤ k) ∧ Aside0 (Kd.V k71 71 w' w.heap.size (fun k_ => nv_ k_ v5) v108 t107) ∧ Aside0 (Kd.V k71 71 w' w.heap.size (fun k_ => nv_ k_ v5) v111 t110) ∧ Aside0 (Kd.R k71 71 w' w.heap.size (fun _ => True) v5 x5_1) ∧ Aside0 (Below w.heap.size w w'))
 case atStart => exact ⟨(([] : List (S71))), (0), (0), rf_, rf_, H', ⟨Nat.le_refl _⟩, ⟨by (with_reducible repeat (first | apply Kd.V_alloc | apply Kd.V_drewN | apply Kd.V_drew)); exact Kd.V_mono HO109.out (fun _ hk => (by simp [Value.ownBlock]))⟩, ⟨by (with_reducible repeat (first | apply Kd.V_alloc | apply Kd.V_drewN | apply Kd.V_drew)); exact Kd.V_mono HO112.out (fun _ hk => (by simp [Value.ownBlock]))⟩, ⟨by first | exact Kd.R_nil _ _ _ _ _ | exact Kd.N_nil _ _ _ _ _ | exact Kd.V_nil _ _ _ _ _ | exact Kd.Q_nil _ _ _ _ _ | exact Kd.S_nil _ _ _ _ _⟩, ⟨hs_⟩⟩
 case round =>
  clear H'; obtain ⟨x5_1, x6_1, x7_1, rfl, rfl, HA, HK1, HO_0, HO_1, HO_5, HB⟩ := hrel
  cases gk with
  | zero => exact absurd HA.out (by simp [sets_Meet.l0])
  | succ k1 =>
   have H := HA.out; clear HA; simp only [sets_Meet.l0] at H; have HC7 := A_ H; clear H; go_upto_region 4 with (fail); go_cut [22] (fun v22 wc => ∃ (kq : Nat) (x22_6 : Bool), v22 = .bool x22_6 ∧ Aside0 (sets_Meet.j1 kq t107 t110 x5_1 x6_1 x7_1 x22_6 = some r) ∧ Aside0 (kq ≤ k1) ∧ Aside0 (Kd.V k71 71 wc w.heap.size (fun k_ => nv_ k_ u5) v108 t107) ∧ Aside0 (Kd.V k71 71 wc w.heap.size (fun k_ => nv_ k_ u5) v111 t110) ∧ Aside0 (Kd.R k71 71 wc w.heap.size (fun _ => True) u5 x5_1) ∧ Aside0 (Below w.heap.size w wc))
   case first =>
    have H := HC7.out; clear HC7
    obtain ⟨c8b0, H⟩ | ⟨c8b0, H⟩ := ic_ H
    ·(first | rw [c8b0] | (simp only [i64_w, i32_w]; rw [c8b0]) | skip); have H' := A_ H; clear H; obtain ⟨Ao9, co9, eo9⟩ := Kd.V_slice HO_0.out; subst eo9; obtain ⟨Ao10, co10, eo10⟩ := Kd.V_slice HO_1.out; subst eo10; go_wp2; go_meet
     case rel => exact ⟨_, (decide (x7_1 < (t110.length : Int))), rf_, H', ⟨by have := HK1.out; first | omega | exact Nat.le_refl _⟩, ⟨fxV_ HO_0.out⟩, ⟨fxV_ HO_1.out⟩, ⟨fxR_ HO_5.out⟩, ⟨hs_⟩⟩
    ·(first | rw [c8b0] | (simp only [i64_w, i32_w]; rw [c8b0]) | skip); have H' := A_ H; clear H; obtain ⟨Ao11, co11, eo11⟩ := Kd.V_slice HO_0.out; subst eo11; go_wp2; go_meet
     case rel => exact ⟨_, (false), rf_, H', ⟨by have := HK1.out; first | omega | exact Nat.le_refl _⟩, ⟨fxV_ HO_0.out⟩, ⟨fxV_ HO_1.out⟩, ⟨fxR_ HO_5.out⟩, ⟨hs_⟩⟩
   case rest =>
    clear HC7; obtain ⟨kq, x22_6, rfl, HA, HJ6, HO_0, HO_1, HO_5, HB⟩ := hcut
    cases kq with
    | zero => exact absurd HA.out (by simp [sets_Meet.j1])
    | succ kj6 =>
     have H := HA.out; clear HA; simp only [sets_Meet.j1] at H
     cases x22_6
     ·replace H := iN_ H; obtain rfl := Option.some.inj H; go_wp2; (try rw [Exit.noGoto_ret]); go_ret; exact ⟨_, by first | rfl | (simp [errW_none, errW_some] <;> rfl) | (simp [*, errW_none, errW_some] <;> rfl), fxR_ HO_5.out, hs_⟩
     ·replace H := iP_ H
      obtain ⟨c13b0, H⟩ := gd_ H
      obtain ⟨c14b0, H⟩ := gd_ H
      obtain ⟨c15b0, H⟩ := gd_ H
      obtain ⟨c16b0, H⟩ := gd_ H; obtain ⟨ji17, hji17⟩ : ∃ j_ : Int, (mx ((rd_T71 t107 x6_1).f0) ((rd_T71 t110 x7_1).f0)) = j_ := ⟨_, rfl⟩; (first | rw [hji17] at H | simp only [hji17] at H); have hji17_ : (if ((rd_T71 t107 x6_1).f0) < ((rd_T71 t110 x7_1).f0) then ((rd_T71 t110 x7_1).f0) else ((rd_T71 t107 x6_1).f0)) = ji17 := hji17; obtain ⟨ji18, hji18⟩ : ∃ j_ : Int, (mn ((rd_T71 t107 x6_1).f1) ((rd_T71 t110 x7_1).f1)) = j_ := ⟨_, rfl⟩; (first | rw [hji18] at H | simp only [hji18] at H); have hji18_ : (if ((rd_T71 t110 x7_1).f1) < ((rd_T71 t107 x6_1).f1) then ((rd_T71 t110 x7_1).f1) else ((rd_T71 t107 x6_1).f1)) = ji18 := hji18
      obtain ⟨c19b0, H⟩ | ⟨c19b0, H⟩ := ic_ H
      ·obtain ⟨c20, H⟩ := gc_ H; have LMc20 := A_ c20; clear c20; obtain ⟨y118, hy118⟩ : ∃ y_ : List (S71), y_ = (x5_1 ++ [(⟨ji17, ji18⟩ : S71)]) := ⟨_, rfl⟩; (replace H : (if ((rd_T71 t107 x6_1).f1) < ((rd_T71 t110 x7_1).f1) then (sets_Meet.l0 kj6 t107 t110 y118 (wrap64 (x6_1 + 1)) x7_1) else (sets_Meet.l0 kj6 t107 t110 y118 x6_1 (wrap64 (x7_1 + 1)))) = some r := hy_ hy118 H); have Ny118 := A_ hy118; clear hy118
       obtain ⟨c21b0, H⟩ | ⟨c21b0, H⟩ := ic_ H
       ·have H' := A_ H; clear H; (try go_wp2); replace HO_0 := A_ (Kd.V_drew HO_0.out); replace HO_1 := A_ (Kd.V_drew HO_1.out); replace HO_5 := A_ (Kd.R_drew HO_5.out); replace HB := A_ (below_drew1 HB.out); obtain ⟨Ao23, co23, eo23⟩ := Kd.V_slice HO_0.out; (first | subst eo23 | (injection eo23 with f1_ f2_ f3_; have f4_ := f1_.symm; have f5_ := f3_.symm; clear f1_ f2_ f3_; subst f4_; subst f5_)); have p113 : 0 ≤ (x6_1 : Int) := od_; have q113 : x6_1 < (t107.length : Int) := od_; obtain ⟨ad113, e113, hx113_0, hx113_1⟩ := at_T71 (Kd.V_reads' HO_0.out).2.2 x6_1 p113 q113
        cases e113
        replace p113 := eq_true p113; replace q113 := eq_true q113; obtain ⟨Ao24, co24, eo24⟩ := Kd.V_slice HO_1.out; (first | subst eo24 | (injection eo24 with f1_ f2_ f3_; have f4_ := f1_.symm; have f5_ := f3_.symm; clear f1_ f2_ f3_; subst f4_; subst f5_)); have p114 : 0 ≤ (x7_1 : Int) := od_; have q114 : x7_1 < (t110.length : Int) := od_; obtain ⟨ad114, e114, hx114_0, hx114_1⟩ := at_T71 (Kd.V_reads' HO_1.out).2.2 x7_1 p114 q114
        cases e114
        replace p114 := eq_true p114; replace q114 := eq_true q114; have p115 : 0 ≤ (x6_1 : Int) := od_; have q115 : x6_1 < (t107.length : Int) := od_; obtain ⟨ad115, e115, hx115_0, hx115_1⟩ := at_T71 (Kd.V_reads' HO_0.out).2.2 x6_1 p115 q115; obtain rfl : ad113 = ad115 := (by injection e115); replace p115 := eq_true p115; replace q115 := eq_true q115; have p116 : 0 ≤ (x7_1 : Int) := od_; have q116 : x7_1 < (t110.length : Int) := od_; obtain ⟨ad116, e116, hx116_0, hx116_1⟩ := at_T71 (Kd.V_reads' HO_1.out).2.2 x7_1 p116 q116; obtain rfl : ad114 = ad116 := (by injection e116); replace p116 := eq_true p116; replace q116 := eq_true q116; refine start_ (n := 25) (S := fun w' => w'.cell? (ad113.add ((x6_1).toNat * 2)) = some (.int .i64 ((rd_T71 t107 x6_1).f0)) ∧ w'.cell? ⟨(ad113.add ((x6_1).toNat * 2)).block, (ad113.add ((x6_1).toNat * 2)).off + 1, none⟩ = some (.int .i64 ((rd_T71 t107 x6_1).f1)) ∧ w'.cell? (ad114.add ((x7_1).toNat * 2)) = some (.int .i64 ((rd_T71 t110 x7_1).f0)) ∧ w'.cell? ⟨(ad114.add ((x7_1).toNat * 2)).block, (ad114.add ((x7_1).toNat * 2)).off + 1, none⟩ = some (.int .i64 ((rd_T71 t110 x7_1).f1)) ∧ w'.cell? (ad113.add ((x6_1).toNat * 2)) = some (.int .i64 ((rd_T71 t107 x6_1).f0)) ∧ w'.cell? ⟨(ad113.add ((x6_1).toNat * 2)).block, (ad113.add ((x6_1).toNat * 2)).off + 1, none⟩ = some (.int .i64 ((rd_T71 t107 x6_1).f1)) ∧ w'.cell? (ad114.add ((x7_1).toNat * 2)) = some (.int .i64 ((rd_T71 t110 x7_1).f0)) ∧ w'.cell? ⟨(ad114.add ((x7_1).toNat * 2)).block, (ad114.add ((x7_1).toNat * 2)).off + 1, none⟩ = some (.int .i64 ((rd_T71 t110 x7_1).f1))) (ds := []) (ab 25 0) (by kernel_rfl) rfl rfl ⟨hx113_0, hx113_1, hx114_0, hx114_1, hx115_0, hx115_1, hx116_0, hx116_1⟩ (fun hHeld => ?_); refine with_tabW sets_Meet.tab5 sets_Meet.bits5 (fun HT_ HW_ => ?_); generalize wc.drew = w22 at HO_0 HO_1 HO_5 HB hx113_0 hx113_1 hx114_0 hx114_1 hx115_0 hx115_1 hx116_0 hx116_1 hHeld ⊢; refine pA 0 23 25 1 ?_; refine pA 1 24 25 3 ?_; refine pA 2 25 25 7 ?_; refine pA 3 26 25 15 ?_; refine pA 5 28 25 47 ?_; refine pA 6 29 25 111 ?_; refine pA 7 30 25 239 ?_; refine pA 8 31 25 495 ?_; refine pA 11 34 25 2543 ?_; refine pA 12 35 25 6639 ?_; refine pA 13 36 25 14831 ?_; refine pA 14 37 25 31215 ?_; refine pA 16 39 25 96751 ?_; refine pA 17 40 25 227823 ?_; refine pA 18 41 25 489967 ?_; refine pA 19 42 25 1014255 ?_; refine tB 4 27 25 1014271 ?_; refine tB 9 32 25 1014783 ?_; refine pA 10 33 25 1015807 ?_; refine tB 15 38 25 1048575 ?_; refine tB 20 43 25 2097151 ?_; refine pA 21 44 25 4194303 ?_; refine pA 22 45 25 8388607 ?_; refine oA 23 (some 8) 25 16777215 fun K hK => ?_; refine bxs_ 8 #[.int .i64 0, .int .i64 0] 71 ?_; intro gb117 hg w25 hbox hb; have NE0_ : ad113.block ≠ gb117 := (by have h_ := World.block_lt_of_cell? _ _ hHeld.1; rw [add_block] at h_; omega); have NE1_ : ad114.block ≠ gb117 := (by have h_ := World.block_lt_of_cell? _ _ hHeld.2.2.1; rw [add_block] at h_; omega); have HS0_ := (hb.cell (World.block_lt_of_cell? _ _ (hHeld.1))).trans (hHeld.1); have HS1_ := (hb.cell (World.block_lt_of_cell? _ _ (hHeld.2.1))).trans (hHeld.2.1); have HS2_ := (hb.cell (World.block_lt_of_cell? _ _ (hHeld.2.2.1))).trans (hHeld.2.2.1); have HS3_ := (hb.cell (World.block_lt_of_cell? _ _ (hHeld.2.2.2.1))).trans (hHeld.2.2.2.1); have HS4_ := (hb.cell (World.block_lt_of_cell? _ _ (hHeld.2.2.2.2.1))).trans (hHeld.2.2.2.2.1); have HS5_ := (hb.cell (World.block_lt_of_cell? _ _ (hHeld.2.2.2.2.2.1))).trans (hHeld.2.2.2.2.2.1)
        have HS6_ := (hb.cell (World.block_lt_of_cell? _ _ (hHeld.2.2.2.2.2.2.1))).trans (hHeld.2.2.2.2.2.2.1); have HS7_ := (hb.cell (World.block_lt_of_cell? _ _ (hHeld.2.2.2.2.2.2.2))).trans (hHeld.2.2.2.2.2.2.2); replace HO_0 := eV_ HO_0 hg hb; replace HO_1 := eV_ HO_1 hg hb; replace HO_5 := A_ (Kd.R_below (Kd.R_elderB (hrR_ HO_5.out) gb117 (Nat.le_of_eq hg.symm)) hb); have BK117 := A_ (hbox); have GW117 := gs_ w hg; have GE117 := gs_ w hg; replace HB := bs_ hb; clear hb hbox hg; refine hK.out _ _ ⟨HS0_, HS1_, HS2_, HS3_, HS4_, HS5_, HS6_, HS7_⟩ (fun hHeld => ?_); clear hK K; refine nA ?_; refine oA 24 none 25 33554431 fun K hK => ?_; have hs26 : w25.cell? ⟨gb117, 0, none⟩ = some (.int .i64 0) := bq_ BK117 0; have hfs26 := blk_frozen BK117.out 0; have hs27 : w25.cell? ⟨gb117, 1, none⟩ = some (.int .i64 0) := bq_ BK117 1; have hfs27 := blk_frozen BK117.out 1; refine sA ?_; refine hK.out _ _ ⟨((cell_far (p := ⟨gb117, _, none⟩) (ne_ NE0_) _).trans (((cell_far (p := ⟨gb117, _, none⟩) (ne_ NE0_) _).trans (hHeld.1)))), ((cell_far (p := ⟨gb117, _, none⟩) (ne_ NE0_) _).trans (((cell_far (p := ⟨gb117, _, none⟩) (ne_ NE0_) _).trans (hHeld.2.1)))), ((cell_far (p := ⟨gb117, _, none⟩) (ne_ NE1_) _).trans (((cell_far (p := ⟨gb117, _, none⟩) (ne_ NE1_) _).trans (hHeld.2.2.1)))), ((cell_far (p := ⟨gb117, _, none⟩) (ne_ NE1_) _).trans (((cell_far (p := ⟨gb117, _, none⟩) (ne_ NE1_) _).trans (hHeld.2.2.2.1)))), ((cell_far (p := ⟨gb117, _, none⟩) (ne_ NE0_) _).trans (((cell_far (p := ⟨gb117, _, none⟩) (ne_ NE0_) _).trans (hHeld.2.2.2.2.1)))), ((cell_far (p := ⟨gb117, _, none⟩) (ne_ NE0_) _).trans (((cell_far (p := ⟨gb117, _, none⟩) (ne_ NE0_) _).trans (hHeld.2.2.2.2.2.1)))), ((cell_far (p := ⟨gb117, _, none⟩) (ne_ NE1_) _).trans (((cell_far (p := ⟨gb117, _, none⟩) (ne_ NE1_) _).trans (hHeld.2.2.2.2.2.2.1)))), ((cell_far (p := ⟨gb117, _, none⟩) (ne_ NE1_) _).trans (((cell_far (p := ⟨gb117, _, none⟩) (ne_ NE1_) _).trans (hHeld.2.2.2.2.2.2.2))))⟩ (fun hHeld => ?_)
        clear hK K; refine done_ (done_of HT_.out (by kernel_rfl)) ?_; have Z28 := bz2_ BK117; (try go_wp2_with (first | ((with_reducible refine gate_builtin (b := .append) (xs := #[.tmp 51, .tmp 53]) rfl ?_); (try (refine gate_guard (by rfl) ?_; dsimp only)); at_builtin; refine Kd.R_append k71 (w0 := w) w.heap.size rfl (.tmp 51) (.tmp 53) 28 71 (.agg #[(.int .i64 0), (.int .i64 0)]) 16 rfl Tryz.underlying28 info71 rfl (by decide) (by omega) u5 x5_1 (⟨ji17, ji18⟩ : S71) [.int .i64 ji17, .int .i64 ji18] (fun k_ => k_ ≠ gb117) (fun _ => False) rfl (by first | (go_simp; done) | (go_simp; rfl)) ?aP (fun _ hk => hk.elim) ?aF ?aO ?aB ?aS ?aL ?_; (case aP => exact k71_mkM _ _ _ (⟨ji17, ji18⟩ : S71)); (case aB => exact hs_); (case aF => exact (fun k_ hk => fb_ BK117 k_ hk)); (case aO => exact (fpR_ HO_5.out)); (case aS => exact (below_size hs_)); (case aL => have := LMc20.out; omega); intro v119 w29 ho hb hg hat; rw [← Ny118.out] at ho; replace HO_0 := A_ (Kd.V_afterv (ok := (fun k_ => k_ ≠ gb117)) (fpV_ HO_0.out) hg hat); replace HO_1 := A_ (Kd.V_afterv (ok := (fun k_ => k_ ≠ gb117)) (fpV_ HO_1.out) hg hat); replace BK117 := A_ (blk_grown (g := gb117) (o := .cells #[.int .i64 ji17, .int .i64 ji18] 71 (0, 0)) (pb_ BK117.out) hg (Kd.R_away HO_5.out (fun _ hk => hk.2))); replace HB := A_ (hb); have HO120 := A_ (ho); clear HO_5; clear ho hb hg hat)))
        replace HO_0 := A_ (Kd.V_drew HO_0.out); replace HO_1 := A_ (Kd.V_drew HO_1.out); replace HO120 := A_ (Kd.R_drew HO120.out); replace BK117 := A_ (blk_drew BK117.out); replace HB := A_ (below_drew1 HB.out); have p121 : 0 ≤ (x6_1 : Int) := od_; have q121 : x6_1 < (t107.length : Int) := od_; obtain ⟨ad121, e121, hx121_0, hx121_1⟩ := at_T71 (Kd.V_reads' HO_0.out).2.2 x6_1 p121 q121; obtain rfl : ad113 = ad121 := (by injection e121); replace p121 := eq_true p121; replace q121 := eq_true q121; have p122 : 0 ≤ (x7_1 : Int) := od_; have q122 : x7_1 < (t110.length : Int) := od_; obtain ⟨ad122, e122, hx122_0, hx122_1⟩ := at_T71 (Kd.V_reads' HO_1.out).2.2 x7_1 p122 q122; obtain rfl : ad114 = ad122 := (by injection e122); replace p122 := eq_true p122; replace q122 := eq_true q122; refine start_ (n := 11) (S := fun w' => w'.cell? (ad113.add ((x6_1).toNat * 2)) = some (.int .i64 ((rd_T71 t107 x6_1).f0)) ∧ w'.cell? ⟨(ad113.add ((x6_1).toNat * 2)).block, (ad113.add ((x6_1).toNat * 2)).off + 1, none⟩ = some (.int .i64 ((rd_T71 t107 x6_1).f1)) ∧ w'.cell? (ad114.add ((x7_1).toNat * 2)) = some (.int .i64 ((rd_T71 t110 x7_1).f0)) ∧ w'.cell? ⟨(ad114.add ((x7_1).toNat * 2)).block, (ad114.add ((x7_1).toNat * 2)).off + 1, none⟩ = some (.int .i64 ((rd_T71 t110 x7_1).f1))) (ds := []) (ab 11 0) (by kernel_rfl) rfl rfl ⟨hx121_0, hx121_1, hx122_0, hx122_1⟩ (fun hHeld => ?_); refine with_tabW sets_Meet.tab8 sets_Meet.bits8 (fun HT_ HW_ => ?_); generalize w29.drew = w30 at HO_0 HO_1 HO120 BK117 HB hx121_0 hx121_1 hx122_0 hx122_1 hHeld ⊢; refine pA 0 55 11 1 ?_; refine pA 1 56 11 3 ?_; refine pA 2 57 11 7 ?_; refine pA 3 58 11 15 ?_; refine pA 5 60 11 47 ?_; refine pA 6 61 11 111 ?_; refine pA 7 62 11 239 ?_; refine pA 8 63 11 495 ?_; refine tB 4 59 11 511 ?_; refine tB 9 64 11 1023 ?_; refine pA 10 65 11 2047 ?_; refine done_ (done_of HT_.out (by kernel_rfl)) ?_; (try go_wp2); go_roundg kj6
        case measure => have := HK1.out; have := HJ6.out; omega
        case rel => exact ⟨(y118), (wrap64 (x6_1 + 1)), (x7_1), rf_, rf_, H', ⟨by have := HK1.out; have := HJ6.out; omega⟩, ⟨by (with_reducible repeat (first | apply Kd.V_alloc | apply Kd.V_drewN | apply Kd.V_drew)); exact Kd.V_mono HO_0.out (fun _ hk => hk.2)⟩, ⟨by (with_reducible repeat (first | apply Kd.V_alloc | apply Kd.V_drewN | apply Kd.V_drew)); exact Kd.V_mono HO_1.out (fun _ hk => hk.2)⟩, ⟨by (with_reducible repeat (first | apply Kd.R_alloc | apply Kd.R_drewN | apply Kd.R_drew)); exact Kd.R_mono HO120.out (fun _ hk => trivial)⟩, ⟨hs_⟩⟩
       ·have H' := A_ H; clear H; (try go_wp2); replace HO_0 := A_ (Kd.V_drew HO_0.out); replace HO_1 := A_ (Kd.V_drew HO_1.out); replace HO_5 := A_ (Kd.R_drew HO_5.out); replace HB := A_ (below_drew1 HB.out); obtain ⟨Ao32, co32, eo32⟩ := Kd.V_slice HO_0.out; (first | subst eo32 | (injection eo32 with f1_ f2_ f3_; have f4_ := f1_.symm; have f5_ := f3_.symm; clear f1_ f2_ f3_; subst f4_; subst f5_)); have p113 : 0 ≤ (x6_1 : Int) := od_; have q113 : x6_1 < (t107.length : Int) := od_; obtain ⟨ad113, e113, hx113_0, hx113_1⟩ := at_T71 (Kd.V_reads' HO_0.out).2.2 x6_1 p113 q113
        cases e113
        replace p113 := eq_true p113; replace q113 := eq_true q113; obtain ⟨Ao33, co33, eo33⟩ := Kd.V_slice HO_1.out; (first | subst eo33 | (injection eo33 with f1_ f2_ f3_; have f4_ := f1_.symm; have f5_ := f3_.symm; clear f1_ f2_ f3_; subst f4_; subst f5_)); have p114 : 0 ≤ (x7_1 : Int) := od_; have q114 : x7_1 < (t110.length : Int) := od_; obtain ⟨ad114, e114, hx114_0, hx114_1⟩ := at_T71 (Kd.V_reads' HO_1.out).2.2 x7_1 p114 q114
        cases e114
        replace p114 := eq_true p114; replace q114 := eq_true q114; have p115 : 0 ≤ (x6_1 : Int) := od_; have q115 : x6_1 < (t107.length : Int) := od_; obtain ⟨ad115, e115, hx115_0, hx115_1⟩ := at_T71 (Kd.V_reads' HO_0.out).2.2 x6_1 p115 q115; obtain rfl : ad113 = ad115 := (by injection e115); replace p115 := eq_true p115; replace q115 := eq_true q115; have p116 : 0 ≤ (x7_1 : Int) := od_; have q116 : x7_1 < (t110.length : Int) := od_; obtain ⟨ad116, e116, hx116_0, hx116_1⟩ := at_T71 (Kd.V_reads' HO_1.out).2.2 x7_1 p116 q116; obtain rfl : ad114 = ad116 := (by injection e116); replace p116 := eq_true p116; replace q116 := eq_true q116; refine start_ (n := 25) (S := fun w' => w'.cell? (ad113.add ((x6_1).toNat * 2)) = some (.int .i64 ((rd_T71 t107 x6_1).f0)) ∧ w'.cell? ⟨(ad113.add ((x6_1).toNat * 2)).block, (ad113.add ((x6_1).toNat * 2)).off + 1, none⟩ = some (.int .i64 ((rd_T71 t107 x6_1).f1)) ∧ w'.cell? (ad114.add ((x7_1).toNat * 2)) = some (.int .i64 ((rd_T71 t110 x7_1).f0)) ∧ w'.cell? ⟨(ad114.add ((x7_1).toNat * 2)).block, (ad114.add ((x7_1).toNat * 2)).off + 1, none⟩ = some (.int .i64 ((rd_T71 t110 x7_1).f1)) ∧ w'.cell? (ad113.add ((x6_1).toNat * 2)) = some (.int .i64 ((rd_T71 t107 x6_1).f0)) ∧ w'.cell? ⟨(ad113.add ((x6_1).toNat * 2)).block, (ad113.add ((x6_1).toNat * 2)).off + 1, none⟩ = some (.int .i64 ((rd_T71 t107 x6_1).f1)) ∧ w'.cell? (ad114.add ((x7_1).toNat * 2)) = some (.int .i64 ((rd_T71 t110 x7_1).f0)) ∧ w'.cell? ⟨(ad114.add ((x7_1).toNat * 2)).block, (ad114.add ((x7_1).toNat * 2)).off + 1, none⟩ = some (.int .i64 ((rd_T71 t110 x7_1).f1))) (ds := []) (ab 25 0) (by kernel_rfl) rfl rfl ⟨hx113_0, hx113_1, hx114_0, hx114_1, hx115_0, hx115_1, hx116_0, hx116_1⟩ (fun hHeld => ?_); refine with_tabW sets_Meet.tab5 sets_Meet.bits5 (fun HT_ HW_ => ?_); generalize wc.drew = w31 at HO_0 HO_1 HO_5 HB hx113_0 hx113_1 hx114_0 hx114_1 hx115_0 hx115_1 hx116_0 hx116_1 hHeld ⊢; refine pA 0 23 25 1 ?_; refine pA 1 24 25 3 ?_; refine pA 2 25 25 7 ?_; refine pA 3 26 25 15 ?_; refine pA 5 28 25 47 ?_; refine pA 6 29 25 111 ?_; refine pA 7 30 25 239 ?_; refine pA 8 31 25 495 ?_; refine pA 11 34 25 2543 ?_; refine pA 12 35 25 6639 ?_; refine pA 13 36 25 14831 ?_; refine pA 14 37 25 31215 ?_; refine pA 16 39 25 96751 ?_; refine pA 17 40 25 227823 ?_; refine pA 18 41 25 489967 ?_; refine pA 19 42 25 1014255 ?_; refine tB 4 27 25 1014271 ?_; refine tB 9 32 25 1014783 ?_; refine pA 10 33 25 1015807 ?_; refine tB 15 38 25 1048575 ?_; refine tB 20 43 25 2097151 ?_; refine pA 21 44 25 4194303 ?_; refine pA 22 45 25 8388607 ?_; refine oA 23 (some 8) 25 16777215 fun K hK => ?_; refine bxs_ 8 #[.int .i64 0, .int .i64 0] 71 ?_; intro gb117 hg w34 hbox hb; have NE0_ : ad113.block ≠ gb117 := (by have h_ := World.block_lt_of_cell? _ _ hHeld.1; rw [add_block] at h_; omega); have NE1_ : ad114.block ≠ gb117 := (by have h_ := World.block_lt_of_cell? _ _ hHeld.2.2.1; rw [add_block] at h_; omega); have HS0_ := (hb.cell (World.block_lt_of_cell? _ _ (hHeld.1))).trans (hHeld.1); have HS1_ := (hb.cell (World.block_lt_of_cell? _ _ (hHeld.2.1))).trans (hHeld.2.1); have HS2_ := (hb.cell (World.block_lt_of_cell? _ _ (hHeld.2.2.1))).trans (hHeld.2.2.1); have HS3_ := (hb.cell (World.block_lt_of_cell? _ _ (hHeld.2.2.2.1))).trans (hHeld.2.2.2.1); have HS4_ := (hb.cell (World.block_lt_of_cell? _ _ (hHeld.2.2.2.2.1))).trans (hHeld.2.2.2.2.1); have HS5_ := (hb.cell (World.block_lt_of_cell? _ _ (hHeld.2.2.2.2.2.1))).trans (hHeld.2.2.2.2.2.1)
        have HS6_ := (hb.cell (World.block_lt_of_cell? _ _ (hHeld.2.2.2.2.2.2.1))).trans (hHeld.2.2.2.2.2.2.1); have HS7_ := (hb.cell (World.block_lt_of_cell? _ _ (hHeld.2.2.2.2.2.2.2))).trans (hHeld.2.2.2.2.2.2.2); replace HO_0 := eV_ HO_0 hg hb; replace HO_1 := eV_ HO_1 hg hb; replace HO_5 := A_ (Kd.R_below (Kd.R_elderB (hrR_ HO_5.out) gb117 (Nat.le_of_eq hg.symm)) hb); have BK117 := A_ (hbox); have GW117 := gs_ w hg; have GE117 := gs_ w hg; replace HB := bs_ hb; clear hb hbox hg; refine hK.out _ _ ⟨HS0_, HS1_, HS2_, HS3_, HS4_, HS5_, HS6_, HS7_⟩ (fun hHeld => ?_); clear hK K; refine nA ?_; refine oA 24 none 25 33554431 fun K hK => ?_; have hs35 : w34.cell? ⟨gb117, 0, none⟩ = some (.int .i64 0) := bq_ BK117 0; have hfs35 := blk_frozen BK117.out 0; have hs36 : w34.cell? ⟨gb117, 1, none⟩ = some (.int .i64 0) := bq_ BK117 1; have hfs36 := blk_frozen BK117.out 1; refine sA ?_; refine hK.out _ _ ⟨((cell_far (p := ⟨gb117, _, none⟩) (ne_ NE0_) _).trans (((cell_far (p := ⟨gb117, _, none⟩) (ne_ NE0_) _).trans (hHeld.1)))), ((cell_far (p := ⟨gb117, _, none⟩) (ne_ NE0_) _).trans (((cell_far (p := ⟨gb117, _, none⟩) (ne_ NE0_) _).trans (hHeld.2.1)))), ((cell_far (p := ⟨gb117, _, none⟩) (ne_ NE1_) _).trans (((cell_far (p := ⟨gb117, _, none⟩) (ne_ NE1_) _).trans (hHeld.2.2.1)))), ((cell_far (p := ⟨gb117, _, none⟩) (ne_ NE1_) _).trans (((cell_far (p := ⟨gb117, _, none⟩) (ne_ NE1_) _).trans (hHeld.2.2.2.1)))), ((cell_far (p := ⟨gb117, _, none⟩) (ne_ NE0_) _).trans (((cell_far (p := ⟨gb117, _, none⟩) (ne_ NE0_) _).trans (hHeld.2.2.2.2.1)))), ((cell_far (p := ⟨gb117, _, none⟩) (ne_ NE0_) _).trans (((cell_far (p := ⟨gb117, _, none⟩) (ne_ NE0_) _).trans (hHeld.2.2.2.2.2.1)))), ((cell_far (p := ⟨gb117, _, none⟩) (ne_ NE1_) _).trans (((cell_far (p := ⟨gb117, _, none⟩) (ne_ NE1_) _).trans (hHeld.2.2.2.2.2.2.1)))), ((cell_far (p := ⟨gb117, _, none⟩) (ne_ NE1_) _).trans (((cell_far (p := ⟨gb117, _, none⟩) (ne_ NE1_) _).trans (hHeld.2.2.2.2.2.2.2))))⟩ (fun hHeld => ?_)
        clear hK K; refine done_ (done_of HT_.out (by kernel_rfl)) ?_; have Z37 := bz2_ BK117; (try go_wp2_with (first | ((with_reducible refine gate_builtin (b := .append) (xs := #[.tmp 51, .tmp 53]) rfl ?_); (try (refine gate_guard (by rfl) ?_; dsimp only)); at_builtin; refine Kd.R_append k71 (w0 := w) w.heap.size rfl (.tmp 51) (.tmp 53) 28 71 (.agg #[(.int .i64 0), (.int .i64 0)]) 16 rfl Tryz.underlying28 info71 rfl (by decide) (by omega) u5 x5_1 (⟨ji17, ji18⟩ : S71) [.int .i64 ji17, .int .i64 ji18] (fun k_ => k_ ≠ gb117) (fun _ => False) rfl (by first | (go_simp; done) | (go_simp; rfl)) ?aP (fun _ hk => hk.elim) ?aF ?aO ?aB ?aS ?aL ?_; (case aP => exact k71_mkM _ _ _ (⟨ji17, ji18⟩ : S71)); (case aB => exact hs_); (case aF => exact (fun k_ hk => fb_ BK117 k_ hk)); (case aO => exact (fpR_ HO_5.out)); (case aS => exact (below_size hs_)); (case aL => have := LMc20.out; omega); intro v119 w38 ho hb hg hat; rw [← Ny118.out] at ho; replace HO_0 := A_ (Kd.V_afterv (ok := (fun k_ => k_ ≠ gb117)) (fpV_ HO_0.out) hg hat); replace HO_1 := A_ (Kd.V_afterv (ok := (fun k_ => k_ ≠ gb117)) (fpV_ HO_1.out) hg hat); replace BK117 := A_ (blk_grown (g := gb117) (o := .cells #[.int .i64 ji17, .int .i64 ji18] 71 (0, 0)) (pb_ BK117.out) hg (Kd.R_away HO_5.out (fun _ hk => hk.2))); replace HB := A_ (hb); have HO120 := A_ (ho); clear HO_5; clear ho hb hg hat)))
        replace HO_0 := A_ (Kd.V_drew HO_0.out); replace HO_1 := A_ (Kd.V_drew HO_1.out); replace HO120 := A_ (Kd.R_drew HO120.out); replace BK117 := A_ (blk_drew BK117.out); replace HB := A_ (below_drew1 HB.out); have p121 : 0 ≤ (x6_1 : Int) := od_; have q121 : x6_1 < (t107.length : Int) := od_; obtain ⟨ad121, e121, hx121_0, hx121_1⟩ := at_T71 (Kd.V_reads' HO_0.out).2.2 x6_1 p121 q121; obtain rfl : ad113 = ad121 := (by injection e121); replace p121 := eq_true p121; replace q121 := eq_true q121; have p122 : 0 ≤ (x7_1 : Int) := od_; have q122 : x7_1 < (t110.length : Int) := od_; obtain ⟨ad122, e122, hx122_0, hx122_1⟩ := at_T71 (Kd.V_reads' HO_1.out).2.2 x7_1 p122 q122; obtain rfl : ad114 = ad122 := (by injection e122); replace p122 := eq_true p122; replace q122 := eq_true q122; refine start_ (n := 11) (S := fun w' => w'.cell? (ad113.add ((x6_1).toNat * 2)) = some (.int .i64 ((rd_T71 t107 x6_1).f0)) ∧ w'.cell? ⟨(ad113.add ((x6_1).toNat * 2)).block, (ad113.add ((x6_1).toNat * 2)).off + 1, none⟩ = some (.int .i64 ((rd_T71 t107 x6_1).f1)) ∧ w'.cell? (ad114.add ((x7_1).toNat * 2)) = some (.int .i64 ((rd_T71 t110 x7_1).f0)) ∧ w'.cell? ⟨(ad114.add ((x7_1).toNat * 2)).block, (ad114.add ((x7_1).toNat * 2)).off + 1, none⟩ = some (.int .i64 ((rd_T71 t110 x7_1).f1))) (ds := []) (ab 11 0) (by kernel_rfl) rfl rfl ⟨hx121_0, hx121_1, hx122_0, hx122_1⟩ (fun hHeld => ?_); refine with_tabW sets_Meet.tab8 sets_Meet.bits8 (fun HT_ HW_ => ?_); generalize w38.drew = w39 at HO_0 HO_1 HO120 BK117 HB hx121_0 hx121_1 hx122_0 hx122_1 hHeld ⊢; refine pA 0 55 11 1 ?_; refine pA 1 56 11 3 ?_; refine pA 2 57 11 7 ?_; refine pA 3 58 11 15 ?_; refine pA 5 60 11 47 ?_; refine pA 6 61 11 111 ?_; refine pA 7 62 11 239 ?_; refine pA 8 63 11 495 ?_; refine tB 4 59 11 511 ?_; refine tB 9 64 11 1023 ?_; refine pA 10 65 11 2047 ?_; refine done_ (done_of HT_.out (by kernel_rfl)) ?_; (try go_wp2); go_roundg kj6
        case measure => have := HK1.out; have := HJ6.out; omega
        case rel => exact ⟨(y118), (x6_1), (wrap64 (x7_1 + 1)), rf_, rf_, H', ⟨by have := HK1.out; have := HJ6.out; omega⟩, ⟨by (with_reducible repeat (first | apply Kd.V_alloc | apply Kd.V_drewN | apply Kd.V_drew)); exact Kd.V_mono HO_0.out (fun _ hk => hk.2)⟩, ⟨by (with_reducible repeat (first | apply Kd.V_alloc | apply Kd.V_drewN | apply Kd.V_drew)); exact Kd.V_mono HO_1.out (fun _ hk => hk.2)⟩, ⟨by (with_reducible repeat (first | apply Kd.R_alloc | apply Kd.R_drewN | apply Kd.R_drew)); exact Kd.R_mono HO120.out (fun _ hk => trivial)⟩, ⟨hs_⟩⟩
      ·obtain ⟨c40b0, H⟩ | ⟨c40b0, H⟩ := ic_ H
       ·have H' := A_ H; clear H; (try go_wp2); replace HO_0 := A_ (Kd.V_drew HO_0.out); replace HO_1 := A_ (Kd.V_drew HO_1.out); replace HO_5 := A_ (Kd.R_drew HO_5.out); replace HB := A_ (below_drew1 HB.out); obtain ⟨Ao42, co42, eo42⟩ := Kd.V_slice HO_0.out; (first | subst eo42 | (injection eo42 with f1_ f2_ f3_; have f4_ := f1_.symm; have f5_ := f3_.symm; clear f1_ f2_ f3_; subst f4_; subst f5_)); have p113 : 0 ≤ (x6_1 : Int) := od_; have q113 : x6_1 < (t107.length : Int) := od_; obtain ⟨ad113, e113, hx113_0, hx113_1⟩ := at_T71 (Kd.V_reads' HO_0.out).2.2 x6_1 p113 q113
        cases e113
        replace p113 := eq_true p113; replace q113 := eq_true q113; obtain ⟨Ao43, co43, eo43⟩ := Kd.V_slice HO_1.out; (first | subst eo43 | (injection eo43 with f1_ f2_ f3_; have f4_ := f1_.symm; have f5_ := f3_.symm; clear f1_ f2_ f3_; subst f4_; subst f5_)); have p114 : 0 ≤ (x7_1 : Int) := od_; have q114 : x7_1 < (t110.length : Int) := od_; obtain ⟨ad114, e114, hx114_0, hx114_1⟩ := at_T71 (Kd.V_reads' HO_1.out).2.2 x7_1 p114 q114
        cases e114
        replace p114 := eq_true p114; replace q114 := eq_true q114; have p115 : 0 ≤ (x6_1 : Int) := od_; have q115 : x6_1 < (t107.length : Int) := od_; obtain ⟨ad115, e115, hx115_0, hx115_1⟩ := at_T71 (Kd.V_reads' HO_0.out).2.2 x6_1 p115 q115; obtain rfl : ad113 = ad115 := (by injection e115); replace p115 := eq_true p115; replace q115 := eq_true q115; have p116 : 0 ≤ (x7_1 : Int) := od_; have q116 : x7_1 < (t110.length : Int) := od_; obtain ⟨ad116, e116, hx116_0, hx116_1⟩ := at_T71 (Kd.V_reads' HO_1.out).2.2 x7_1 p116 q116; obtain rfl : ad114 = ad116 := (by injection e116); replace p116 := eq_true p116; replace q116 := eq_true q116; refine start_ (n := 25) (S := fun w' => w'.cell? (ad113.add ((x6_1).toNat * 2)) = some (.int .i64 ((rd_T71 t107 x6_1).f0)) ∧ w'.cell? ⟨(ad113.add ((x6_1).toNat * 2)).block, (ad113.add ((x6_1).toNat * 2)).off + 1, none⟩ = some (.int .i64 ((rd_T71 t107 x6_1).f1)) ∧ w'.cell? (ad114.add ((x7_1).toNat * 2)) = some (.int .i64 ((rd_T71 t110 x7_1).f0)) ∧ w'.cell? ⟨(ad114.add ((x7_1).toNat * 2)).block, (ad114.add ((x7_1).toNat * 2)).off + 1, none⟩ = some (.int .i64 ((rd_T71 t110 x7_1).f1)) ∧ w'.cell? (ad113.add ((x6_1).toNat * 2)) = some (.int .i64 ((rd_T71 t107 x6_1).f0)) ∧ w'.cell? ⟨(ad113.add ((x6_1).toNat * 2)).block, (ad113.add ((x6_1).toNat * 2)).off + 1, none⟩ = some (.int .i64 ((rd_T71 t107 x6_1).f1)) ∧ w'.cell? (ad114.add ((x7_1).toNat * 2)) = some (.int .i64 ((rd_T71 t110 x7_1).f0)) ∧ w'.cell? ⟨(ad114.add ((x7_1).toNat * 2)).block, (ad114.add ((x7_1).toNat * 2)).off + 1, none⟩ = some (.int .i64 ((rd_T71 t110 x7_1).f1))) (ds := []) (ab 25 0) (by kernel_rfl) rfl rfl ⟨hx113_0, hx113_1, hx114_0, hx114_1, hx115_0, hx115_1, hx116_0, hx116_1⟩ (fun hHeld => ?_); refine with_tabW sets_Meet.tab5 sets_Meet.bits5 (fun HT_ HW_ => ?_); generalize wc.drew = w41 at HO_0 HO_1 HO_5 HB hx113_0 hx113_1 hx114_0 hx114_1 hx115_0 hx115_1 hx116_0 hx116_1 hHeld ⊢; refine pA 0 23 25 1 ?_; refine pA 1 24 25 3 ?_; refine pA 2 25 25 7 ?_; refine pA 3 26 25 15 ?_; refine pA 5 28 25 47 ?_; refine pA 6 29 25 111 ?_; refine pA 7 30 25 239 ?_; refine pA 8 31 25 495 ?_; refine pA 11 34 25 2543 ?_; refine pA 12 35 25 6639 ?_; refine pA 13 36 25 14831 ?_; refine pA 14 37 25 31215 ?_; refine pA 16 39 25 96751 ?_; refine pA 17 40 25 227823 ?_; refine pA 18 41 25 489967 ?_; refine pA 19 42 25 1014255 ?_; refine tB 4 27 25 1014271 ?_; refine tB 9 32 25 1014783 ?_; refine pA 10 33 25 1015807 ?_; refine tB 15 38 25 1048575 ?_; refine tB 20 43 25 2097151 ?_; refine pA 21 44 25 4194303 ?_; refine pA 22 45 25 8388607 ?_; refine oA 23 (some 8) 25 16777215 fun K hK => ?_; refine bxs_ 8 #[.int .i64 0, .int .i64 0] 71 ?_; intro gb117 hg w44 hbox hb; have NE0_ : ad113.block ≠ gb117 := (by have h_ := World.block_lt_of_cell? _ _ hHeld.1; rw [add_block] at h_; omega); have NE1_ : ad114.block ≠ gb117 := (by have h_ := World.block_lt_of_cell? _ _ hHeld.2.2.1; rw [add_block] at h_; omega); have HS0_ := (hb.cell (World.block_lt_of_cell? _ _ (hHeld.1))).trans (hHeld.1); have HS1_ := (hb.cell (World.block_lt_of_cell? _ _ (hHeld.2.1))).trans (hHeld.2.1); have HS2_ := (hb.cell (World.block_lt_of_cell? _ _ (hHeld.2.2.1))).trans (hHeld.2.2.1); have HS3_ := (hb.cell (World.block_lt_of_cell? _ _ (hHeld.2.2.2.1))).trans (hHeld.2.2.2.1); have HS4_ := (hb.cell (World.block_lt_of_cell? _ _ (hHeld.2.2.2.2.1))).trans (hHeld.2.2.2.2.1); have HS5_ := (hb.cell (World.block_lt_of_cell? _ _ (hHeld.2.2.2.2.2.1))).trans (hHeld.2.2.2.2.2.1)
        have HS6_ := (hb.cell (World.block_lt_of_cell? _ _ (hHeld.2.2.2.2.2.2.1))).trans (hHeld.2.2.2.2.2.2.1); have HS7_ := (hb.cell (World.block_lt_of_cell? _ _ (hHeld.2.2.2.2.2.2.2))).trans (hHeld.2.2.2.2.2.2.2); replace HO_0 := eV_ HO_0 hg hb; replace HO_1 := eV_ HO_1 hg hb; replace HO_5 := A_ (Kd.R_below (Kd.R_elderB (hrR_ HO_5.out) gb117 (Nat.le_of_eq hg.symm)) hb); have BK117 := A_ (hbox); have GW117 := gs_ w hg; have GE117 := gs_ w hg; replace HB := bs_ hb; clear hb hbox hg; refine hK.out _ _ ⟨HS0_, HS1_, HS2_, HS3_, HS4_, HS5_, HS6_, HS7_⟩ (fun hHeld => ?_); clear hK K; refine nA ?_; refine oA 24 none 25 33554431 fun K hK => ?_; have hs45 : w44.cell? ⟨gb117, 0, none⟩ = some (.int .i64 0) := bq_ BK117 0; have hfs45 := blk_frozen BK117.out 0; have hs46 : w44.cell? ⟨gb117, 1, none⟩ = some (.int .i64 0) := bq_ BK117 1; have hfs46 := blk_frozen BK117.out 1; refine sA ?_; refine hK.out _ _ ⟨((cell_far (p := ⟨gb117, _, none⟩) (ne_ NE0_) _).trans (((cell_far (p := ⟨gb117, _, none⟩) (ne_ NE0_) _).trans (hHeld.1)))), ((cell_far (p := ⟨gb117, _, none⟩) (ne_ NE0_) _).trans (((cell_far (p := ⟨gb117, _, none⟩) (ne_ NE0_) _).trans (hHeld.2.1)))), ((cell_far (p := ⟨gb117, _, none⟩) (ne_ NE1_) _).trans (((cell_far (p := ⟨gb117, _, none⟩) (ne_ NE1_) _).trans (hHeld.2.2.1)))), ((cell_far (p := ⟨gb117, _, none⟩) (ne_ NE1_) _).trans (((cell_far (p := ⟨gb117, _, none⟩) (ne_ NE1_) _).trans (hHeld.2.2.2.1)))), ((cell_far (p := ⟨gb117, _, none⟩) (ne_ NE0_) _).trans (((cell_far (p := ⟨gb117, _, none⟩) (ne_ NE0_) _).trans (hHeld.2.2.2.2.1)))), ((cell_far (p := ⟨gb117, _, none⟩) (ne_ NE0_) _).trans (((cell_far (p := ⟨gb117, _, none⟩) (ne_ NE0_) _).trans (hHeld.2.2.2.2.2.1)))), ((cell_far (p := ⟨gb117, _, none⟩) (ne_ NE1_) _).trans (((cell_far (p := ⟨gb117, _, none⟩) (ne_ NE1_) _).trans (hHeld.2.2.2.2.2.2.1)))), ((cell_far (p := ⟨gb117, _, none⟩) (ne_ NE1_) _).trans (((cell_far (p := ⟨gb117, _, none⟩) (ne_ NE1_) _).trans (hHeld.2.2.2.2.2.2.2))))⟩ (fun hHeld => ?_)
        clear hK K; refine done_ (done_of HT_.out (by kernel_rfl)) ?_; have Z47 := bz2_ BK117; (try go_wp2); have n0_ : Aside0 (Kd.V k71 71 ((w44.setCell ⟨gb117, 0, none⟩ (.int .i64 ji17)).setCell ⟨gb117, 1, none⟩ (.int .i64 ji18)) w.heap.size (fun k_ => nv_ k_ u5 ∧ k_ ≠ gb117) (.slice (some ad113) t107.length co42) t107) := ⟨fpV_ HO_0.out⟩; have n1_ : Aside0 (Kd.V k71 71 ((w44.setCell ⟨gb117, 0, none⟩ (.int .i64 ji17)).setCell ⟨gb117, 1, none⟩ (.int .i64 ji18)) w.heap.size (fun k_ => nv_ k_ u5 ∧ k_ ≠ gb117) (.slice (some ad114) t110.length co43) t110) := ⟨fpV_ HO_1.out⟩; have n2_ : Aside0 (Kd.R k71 71 ((w44.setCell ⟨gb117, 0, none⟩ (.int .i64 ji17)).setCell ⟨gb117, 1, none⟩ (.int .i64 ji18)) w.heap.size (fun k_ => k_ ≠ gb117) u5 x5_1) := ⟨fpR_ HO_5.out⟩; have n3_ : Aside0 (((w44.setCell ⟨gb117, 0, none⟩ (.int .i64 ji17)).setCell ⟨gb117, 1, none⟩ (.int .i64 ji18)).heap[gb117]? = some (.cells #[.int .i64 ji17, .int .i64 ji18] 71 (0, 0))) := ⟨pb_ BK117.out⟩; have n4_ : Aside0 (Below w.heap.size w ((w44.setCell ⟨gb117, 0, none⟩ (.int .i64 ji17)).setCell ⟨gb117, 1, none⟩ (.int .i64 ji18))) := ⟨hs_⟩; generalize ((w44.setCell ⟨gb117, 0, none⟩ (.int .i64 ji17)).setCell ⟨gb117, 1, none⟩ (.int .i64 ji18)) = w48 at n0_ n1_ n2_ n3_ n4_ ⊢; have HO_0 := n0_; have HO_1 := n1_; have HO_5 := n2_; have BK117 := n3_; have HB := n4_; clear n0_ n1_ n2_ n3_ n4_; replace HO_0 := A_ (Kd.V_drew HO_0.out); replace HO_1 := A_ (Kd.V_drew HO_1.out); replace HO_5 := A_ (Kd.R_drew HO_5.out); replace BK117 := A_ (blk_drew BK117.out); replace HB := A_ (below_drew1 HB.out); have p123 : 0 ≤ (x6_1 : Int) := od_; have q123 : x6_1 < (t107.length : Int) := od_; obtain ⟨ad123, e123, hx123_0, hx123_1⟩ := at_T71 (Kd.V_reads' HO_0.out).2.2 x6_1 p123 q123; obtain rfl : ad113 = ad123 := (by injection e123); replace p123 := eq_true p123; replace q123 := eq_true q123; have p124 : 0 ≤ (x7_1 : Int) := od_; have q124 : x7_1 < (t110.length : Int) := od_; obtain ⟨ad124, e124, hx124_0, hx124_1⟩ := at_T71 (Kd.V_reads' HO_1.out).2.2 x7_1 p124 q124
        obtain rfl : ad114 = ad124 := (by injection e124); replace p124 := eq_true p124; replace q124 := eq_true q124; refine start_ (n := 11) (S := fun w' => w'.cell? (ad113.add ((x6_1).toNat * 2)) = some (.int .i64 ((rd_T71 t107 x6_1).f0)) ∧ w'.cell? ⟨(ad113.add ((x6_1).toNat * 2)).block, (ad113.add ((x6_1).toNat * 2)).off + 1, none⟩ = some (.int .i64 ((rd_T71 t107 x6_1).f1)) ∧ w'.cell? (ad114.add ((x7_1).toNat * 2)) = some (.int .i64 ((rd_T71 t110 x7_1).f0)) ∧ w'.cell? ⟨(ad114.add ((x7_1).toNat * 2)).block, (ad114.add ((x7_1).toNat * 2)).off + 1, none⟩ = some (.int .i64 ((rd_T71 t110 x7_1).f1))) (ds := []) (ab 11 0) (by kernel_rfl) rfl rfl ⟨hx123_0, hx123_1, hx124_0, hx124_1⟩ (fun hHeld => ?_); refine with_tabW sets_Meet.tab8 sets_Meet.bits8 (fun HT_ HW_ => ?_); generalize w48.drew = w49 at HO_0 HO_1 HO_5 BK117 HB hx123_0 hx123_1 hx124_0 hx124_1 hHeld ⊢; refine pA 0 55 11 1 ?_; refine pA 1 56 11 3 ?_; refine pA 2 57 11 7 ?_; refine pA 3 58 11 15 ?_; refine pA 5 60 11 47 ?_; refine pA 6 61 11 111 ?_; refine pA 7 62 11 239 ?_; refine pA 8 63 11 495 ?_; refine tB 4 59 11 511 ?_; refine tB 9 64 11 1023 ?_; refine pA 10 65 11 2047 ?_; refine done_ (done_of HT_.out (by kernel_rfl)) ?_; (try go_wp2); go_roundg kj6
        case measure => have := HK1.out; have := HJ6.out; omega
        case rel => exact ⟨(x5_1), (wrap64 (x6_1 + 1)), (x7_1), rf_, rf_, H', ⟨by have := HK1.out; have := HJ6.out; omega⟩, ⟨by (with_reducible repeat (first | apply Kd.V_alloc | apply Kd.V_drewN | apply Kd.V_drew)); exact Kd.V_mono HO_0.out (fun _ hk => hk.1)⟩, ⟨by (with_reducible repeat (first | apply Kd.V_alloc | apply Kd.V_drewN | apply Kd.V_drew)); exact Kd.V_mono HO_1.out (fun _ hk => hk.1)⟩, ⟨by (with_reducible repeat (first | apply Kd.R_alloc | apply Kd.R_drewN | apply Kd.R_drew)); exact Kd.R_mono HO_5.out (fun _ hk => trivial)⟩, ⟨hs_⟩⟩
       ·have H' := A_ H; clear H; (try go_wp2); replace HO_0 := A_ (Kd.V_drew HO_0.out); replace HO_1 := A_ (Kd.V_drew HO_1.out); replace HO_5 := A_ (Kd.R_drew HO_5.out); replace HB := A_ (below_drew1 HB.out); obtain ⟨Ao51, co51, eo51⟩ := Kd.V_slice HO_0.out; (first | subst eo51 | (injection eo51 with f1_ f2_ f3_; have f4_ := f1_.symm; have f5_ := f3_.symm; clear f1_ f2_ f3_; subst f4_; subst f5_)); have p113 : 0 ≤ (x6_1 : Int) := od_; have q113 : x6_1 < (t107.length : Int) := od_; obtain ⟨ad113, e113, hx113_0, hx113_1⟩ := at_T71 (Kd.V_reads' HO_0.out).2.2 x6_1 p113 q113
        cases e113
        replace p113 := eq_true p113; replace q113 := eq_true q113; obtain ⟨Ao52, co52, eo52⟩ := Kd.V_slice HO_1.out; (first | subst eo52 | (injection eo52 with f1_ f2_ f3_; have f4_ := f1_.symm; have f5_ := f3_.symm; clear f1_ f2_ f3_; subst f4_; subst f5_)); have p114 : 0 ≤ (x7_1 : Int) := od_; have q114 : x7_1 < (t110.length : Int) := od_; obtain ⟨ad114, e114, hx114_0, hx114_1⟩ := at_T71 (Kd.V_reads' HO_1.out).2.2 x7_1 p114 q114
        cases e114
        replace p114 := eq_true p114; replace q114 := eq_true q114; have p115 : 0 ≤ (x6_1 : Int) := od_; have q115 : x6_1 < (t107.length : Int) := od_; obtain ⟨ad115, e115, hx115_0, hx115_1⟩ := at_T71 (Kd.V_reads' HO_0.out).2.2 x6_1 p115 q115; obtain rfl : ad113 = ad115 := (by injection e115); replace p115 := eq_true p115; replace q115 := eq_true q115; have p116 : 0 ≤ (x7_1 : Int) := od_; have q116 : x7_1 < (t110.length : Int) := od_; obtain ⟨ad116, e116, hx116_0, hx116_1⟩ := at_T71 (Kd.V_reads' HO_1.out).2.2 x7_1 p116 q116; obtain rfl : ad114 = ad116 := (by injection e116); replace p116 := eq_true p116; replace q116 := eq_true q116; refine start_ (n := 25) (S := fun w' => w'.cell? (ad113.add ((x6_1).toNat * 2)) = some (.int .i64 ((rd_T71 t107 x6_1).f0)) ∧ w'.cell? ⟨(ad113.add ((x6_1).toNat * 2)).block, (ad113.add ((x6_1).toNat * 2)).off + 1, none⟩ = some (.int .i64 ((rd_T71 t107 x6_1).f1)) ∧ w'.cell? (ad114.add ((x7_1).toNat * 2)) = some (.int .i64 ((rd_T71 t110 x7_1).f0)) ∧ w'.cell? ⟨(ad114.add ((x7_1).toNat * 2)).block, (ad114.add ((x7_1).toNat * 2)).off + 1, none⟩ = some (.int .i64 ((rd_T71 t110 x7_1).f1)) ∧ w'.cell? (ad113.add ((x6_1).toNat * 2)) = some (.int .i64 ((rd_T71 t107 x6_1).f0)) ∧ w'.cell? ⟨(ad113.add ((x6_1).toNat * 2)).block, (ad113.add ((x6_1).toNat * 2)).off + 1, none⟩ = some (.int .i64 ((rd_T71 t107 x6_1).f1)) ∧ w'.cell? (ad114.add ((x7_1).toNat * 2)) = some (.int .i64 ((rd_T71 t110 x7_1).f0)) ∧ w'.cell? ⟨(ad114.add ((x7_1).toNat * 2)).block, (ad114.add ((x7_1).toNat * 2)).off + 1, none⟩ = some (.int .i64 ((rd_T71 t110 x7_1).f1))) (ds := []) (ab 25 0) (by kernel_rfl) rfl rfl ⟨hx113_0, hx113_1, hx114_0, hx114_1, hx115_0, hx115_1, hx116_0, hx116_1⟩ (fun hHeld => ?_); refine with_tabW sets_Meet.tab5 sets_Meet.bits5 (fun HT_ HW_ => ?_); generalize wc.drew = w50 at HO_0 HO_1 HO_5 HB hx113_0 hx113_1 hx114_0 hx114_1 hx115_0 hx115_1 hx116_0 hx116_1 hHeld ⊢; refine pA 0 23 25 1 ?_; refine pA 1 24 25 3 ?_; refine pA 2 25 25 7 ?_; refine pA 3 26 25 15 ?_; refine pA 5 28 25 47 ?_; refine pA 6 29 25 111 ?_; refine pA 7 30 25 239 ?_; refine pA 8 31 25 495 ?_; refine pA 11 34 25 2543 ?_; refine pA 12 35 25 6639 ?_; refine pA 13 36 25 14831 ?_; refine pA 14 37 25 31215 ?_; refine pA 16 39 25 96751 ?_; refine pA 17 40 25 227823 ?_; refine pA 18 41 25 489967 ?_; refine pA 19 42 25 1014255 ?_; refine tB 4 27 25 1014271 ?_; refine tB 9 32 25 1014783 ?_; refine pA 10 33 25 1015807 ?_; refine tB 15 38 25 1048575 ?_; refine tB 20 43 25 2097151 ?_; refine pA 21 44 25 4194303 ?_; refine pA 22 45 25 8388607 ?_; refine oA 23 (some 8) 25 16777215 fun K hK => ?_; refine bxs_ 8 #[.int .i64 0, .int .i64 0] 71 ?_; intro gb117 hg w53 hbox hb; have NE0_ : ad113.block ≠ gb117 := (by have h_ := World.block_lt_of_cell? _ _ hHeld.1; rw [add_block] at h_; omega); have NE1_ : ad114.block ≠ gb117 := (by have h_ := World.block_lt_of_cell? _ _ hHeld.2.2.1; rw [add_block] at h_; omega); have HS0_ := (hb.cell (World.block_lt_of_cell? _ _ (hHeld.1))).trans (hHeld.1); have HS1_ := (hb.cell (World.block_lt_of_cell? _ _ (hHeld.2.1))).trans (hHeld.2.1); have HS2_ := (hb.cell (World.block_lt_of_cell? _ _ (hHeld.2.2.1))).trans (hHeld.2.2.1); have HS3_ := (hb.cell (World.block_lt_of_cell? _ _ (hHeld.2.2.2.1))).trans (hHeld.2.2.2.1); have HS4_ := (hb.cell (World.block_lt_of_cell? _ _ (hHeld.2.2.2.2.1))).trans (hHeld.2.2.2.2.1); have HS5_ := (hb.cell (World.block_lt_of_cell? _ _ (hHeld.2.2.2.2.2.1))).trans (hHeld.2.2.2.2.2.1)
        have HS6_ := (hb.cell (World.block_lt_of_cell? _ _ (hHeld.2.2.2.2.2.2.1))).trans (hHeld.2.2.2.2.2.2.1); have HS7_ := (hb.cell (World.block_lt_of_cell? _ _ (hHeld.2.2.2.2.2.2.2))).trans (hHeld.2.2.2.2.2.2.2); replace HO_0 := eV_ HO_0 hg hb; replace HO_1 := eV_ HO_1 hg hb; replace HO_5 := A_ (Kd.R_below (Kd.R_elderB (hrR_ HO_5.out) gb117 (Nat.le_of_eq hg.symm)) hb); have BK117 := A_ (hbox); have GW117 := gs_ w hg; have GE117 := gs_ w hg; replace HB := bs_ hb; clear hb hbox hg; refine hK.out _ _ ⟨HS0_, HS1_, HS2_, HS3_, HS4_, HS5_, HS6_, HS7_⟩ (fun hHeld => ?_); clear hK K; refine nA ?_; refine oA 24 none 25 33554431 fun K hK => ?_; have hs54 : w53.cell? ⟨gb117, 0, none⟩ = some (.int .i64 0) := bq_ BK117 0; have hfs54 := blk_frozen BK117.out 0; have hs55 : w53.cell? ⟨gb117, 1, none⟩ = some (.int .i64 0) := bq_ BK117 1; have hfs55 := blk_frozen BK117.out 1; refine sA ?_; refine hK.out _ _ ⟨((cell_far (p := ⟨gb117, _, none⟩) (ne_ NE0_) _).trans (((cell_far (p := ⟨gb117, _, none⟩) (ne_ NE0_) _).trans (hHeld.1)))), ((cell_far (p := ⟨gb117, _, none⟩) (ne_ NE0_) _).trans (((cell_far (p := ⟨gb117, _, none⟩) (ne_ NE0_) _).trans (hHeld.2.1)))), ((cell_far (p := ⟨gb117, _, none⟩) (ne_ NE1_) _).trans (((cell_far (p := ⟨gb117, _, none⟩) (ne_ NE1_) _).trans (hHeld.2.2.1)))), ((cell_far (p := ⟨gb117, _, none⟩) (ne_ NE1_) _).trans (((cell_far (p := ⟨gb117, _, none⟩) (ne_ NE1_) _).trans (hHeld.2.2.2.1)))), ((cell_far (p := ⟨gb117, _, none⟩) (ne_ NE0_) _).trans (((cell_far (p := ⟨gb117, _, none⟩) (ne_ NE0_) _).trans (hHeld.2.2.2.2.1)))), ((cell_far (p := ⟨gb117, _, none⟩) (ne_ NE0_) _).trans (((cell_far (p := ⟨gb117, _, none⟩) (ne_ NE0_) _).trans (hHeld.2.2.2.2.2.1)))), ((cell_far (p := ⟨gb117, _, none⟩) (ne_ NE1_) _).trans (((cell_far (p := ⟨gb117, _, none⟩) (ne_ NE1_) _).trans (hHeld.2.2.2.2.2.2.1)))), ((cell_far (p := ⟨gb117, _, none⟩) (ne_ NE1_) _).trans (((cell_far (p := ⟨gb117, _, none⟩) (ne_ NE1_) _).trans (hHeld.2.2.2.2.2.2.2))))⟩ (fun hHeld => ?_)
        clear hK K; refine done_ (done_of HT_.out (by kernel_rfl)) ?_; have Z56 := bz2_ BK117; (try go_wp2); have n0_ : Aside0 (Kd.V k71 71 ((w53.setCell ⟨gb117, 0, none⟩ (.int .i64 ji17)).setCell ⟨gb117, 1, none⟩ (.int .i64 ji18)) w.heap.size (fun k_ => nv_ k_ u5 ∧ k_ ≠ gb117) (.slice (some ad113) t107.length co51) t107) := ⟨fpV_ HO_0.out⟩; have n1_ : Aside0 (Kd.V k71 71 ((w53.setCell ⟨gb117, 0, none⟩ (.int .i64 ji17)).setCell ⟨gb117, 1, none⟩ (.int .i64 ji18)) w.heap.size (fun k_ => nv_ k_ u5 ∧ k_ ≠ gb117) (.slice (some ad114) t110.length co52) t110) := ⟨fpV_ HO_1.out⟩; have n2_ : Aside0 (Kd.R k71 71 ((w53.setCell ⟨gb117, 0, none⟩ (.int .i64 ji17)).setCell ⟨gb117, 1, none⟩ (.int .i64 ji18)) w.heap.size (fun k_ => k_ ≠ gb117) u5 x5_1) := ⟨fpR_ HO_5.out⟩; have n3_ : Aside0 (((w53.setCell ⟨gb117, 0, none⟩ (.int .i64 ji17)).setCell ⟨gb117, 1, none⟩ (.int .i64 ji18)).heap[gb117]? = some (.cells #[.int .i64 ji17, .int .i64 ji18] 71 (0, 0))) := ⟨pb_ BK117.out⟩; have n4_ : Aside0 (Below w.heap.size w ((w53.setCell ⟨gb117, 0, none⟩ (.int .i64 ji17)).setCell ⟨gb117, 1, none⟩ (.int .i64 ji18))) := ⟨hs_⟩; generalize ((w53.setCell ⟨gb117, 0, none⟩ (.int .i64 ji17)).setCell ⟨gb117, 1, none⟩ (.int .i64 ji18)) = w57 at n0_ n1_ n2_ n3_ n4_ ⊢; have HO_0 := n0_; have HO_1 := n1_; have HO_5 := n2_; have BK117 := n3_; have HB := n4_; clear n0_ n1_ n2_ n3_ n4_; replace HO_0 := A_ (Kd.V_drew HO_0.out); replace HO_1 := A_ (Kd.V_drew HO_1.out); replace HO_5 := A_ (Kd.R_drew HO_5.out); replace BK117 := A_ (blk_drew BK117.out); replace HB := A_ (below_drew1 HB.out); have p123 : 0 ≤ (x6_1 : Int) := od_; have q123 : x6_1 < (t107.length : Int) := od_; obtain ⟨ad123, e123, hx123_0, hx123_1⟩ := at_T71 (Kd.V_reads' HO_0.out).2.2 x6_1 p123 q123; obtain rfl : ad113 = ad123 := (by injection e123); replace p123 := eq_true p123; replace q123 := eq_true q123; have p124 : 0 ≤ (x7_1 : Int) := od_; have q124 : x7_1 < (t110.length : Int) := od_; obtain ⟨ad124, e124, hx124_0, hx124_1⟩ := at_T71 (Kd.V_reads' HO_1.out).2.2 x7_1 p124 q124
        obtain rfl : ad114 = ad124 := (by injection e124); replace p124 := eq_true p124; replace q124 := eq_true q124; refine start_ (n := 11) (S := fun w' => w'.cell? (ad113.add ((x6_1).toNat * 2)) = some (.int .i64 ((rd_T71 t107 x6_1).f0)) ∧ w'.cell? ⟨(ad113.add ((x6_1).toNat * 2)).block, (ad113.add ((x6_1).toNat * 2)).off + 1, none⟩ = some (.int .i64 ((rd_T71 t107 x6_1).f1)) ∧ w'.cell? (ad114.add ((x7_1).toNat * 2)) = some (.int .i64 ((rd_T71 t110 x7_1).f0)) ∧ w'.cell? ⟨(ad114.add ((x7_1).toNat * 2)).block, (ad114.add ((x7_1).toNat * 2)).off + 1, none⟩ = some (.int .i64 ((rd_T71 t110 x7_1).f1))) (ds := []) (ab 11 0) (by kernel_rfl) rfl rfl ⟨hx123_0, hx123_1, hx124_0, hx124_1⟩ (fun hHeld => ?_); refine with_tabW sets_Meet.tab8 sets_Meet.bits8 (fun HT_ HW_ => ?_); generalize w57.drew = w58 at HO_0 HO_1 HO_5 BK117 HB hx123_0 hx123_1 hx124_0 hx124_1 hHeld ⊢; refine pA 0 55 11 1 ?_; refine pA 1 56 11 3 ?_; refine pA 2 57 11 7 ?_; refine pA 3 58 11 15 ?_; refine pA 5 60 11 47 ?_; refine pA 6 61 11 111 ?_; refine pA 7 62 11 239 ?_; refine pA 8 63 11 495 ?_; refine tB 4 59 11 511 ?_; refine tB 9 64 11 1023 ?_; refine pA 10 65 11 2047 ?_; refine done_ (done_of HT_.out (by kernel_rfl)) ?_; (try go_wp2); go_roundg kj6
        case measure => have := HK1.out; have := HJ6.out; omega
        case rel => exact ⟨(x5_1), (x6_1), (wrap64 (x7_1 + 1)), rf_, rf_, H', ⟨by have := HK1.out; have := HJ6.out; omega⟩, ⟨by (with_reducible repeat (first | apply Kd.V_alloc | apply Kd.V_drewN | apply Kd.V_drew)); exact Kd.V_mono HO_0.out (fun _ hk => hk.1)⟩, ⟨by (with_reducible repeat (first | apply Kd.V_alloc | apply Kd.V_drewN | apply Kd.V_drew)); exact Kd.V_mono HO_1.out (fun _ hk => hk.1)⟩, ⟨by (with_reducible repeat (first | apply Kd.R_alloc | apply Kd.R_drewN | apply Kd.R_drew)); exact Kd.R_mono HO_5.out (fun _ hk => trivial)⟩, ⟨hs_⟩⟩
end Go.Proofs.YthppfagfmjchoaaGreatDoor.A
namespace Go.Proofs.YthppfagfmjchoaaGreatDoor.A
open Go.RowKit Go.Proofs.YthppfagfmjchoaaGreatDoorW.PrintWords Go.Proofs.YthppfagfmjchoaaGreatDoorW.PrintLast Go.Proofs.YthppfagfmjchoaaGreatDoorW.PrintMore
attribute [local go_sem] max2_int min2_int max_two min_two max_three min_three max_four min_four
attribute [local go_sem high] eqA23
set_option maxHeartbeats 8000000 in
set_option maxRecDepth 100000 in
theorem sets_Clip.calls (k : Nat) (A0 : Option Addr) (c0 : Nat) (l0 : List (S71)) (a1 a2 : Int) (r : List (S71)) (w : World) (hr0 : Kd.C k71 w A0 l0.length l0) (hc0 : l0.length ≤ c0) (h : sets_Clip.f k l0 a1 a2 = some r) :
  Calls Tryz.prog 60 #[.slice A0 l0.length c0, .int .i64 a1, .int .i64 a2] w fun e w' => ∃ v0_ : Value, e = .returned (v0_) ∧ Kd.R k71 71 w' w.heap.size (fun _ => True) v0_ r ∧ Below w.heap.size w w' := by
 have hu71 := Tryz.underlying71; have HR0 := A_ hr0; have HC0 := A_ hc0; clear hr0 hc0; have HB := A_ (Below.refl w.heap.size w); have H : ((sets_Meet.f k l0 (([(⟨a1, a2⟩ : S71)] : List (S71)))).bind fun t128 => (some t128)) = some r := h; clear h; obtain ⟨y125, hy125⟩ : ∃ y_ : List (S71), y_ = (([(⟨a1, a2⟩ : S71)] : List (S71))) := ⟨_, rfl⟩; (replace H : ((sets_Meet.f k l0 y125).bind fun t128 => (some t128)) = some r := hy_ hy125 H); have Ny125 := A_ hy125; clear hy125; obtain ⟨t128, A4, H⟩ := bi_ H; obtain rfl := Option.some.inj H; go_enter Tryz.func60, Tryz.ntmps60; go_wp2_with (first | (refine gD 11 ?_; refine Kd.R_lit k71 _ 71 ?hg (N := 11) ?hd (xs := ([(⟨a1, a2⟩ : S71)] : List (S71))) (inner := [.int .i64 a1, .int .i64 a2]) (ok := fun _ => True) (okp := fun _ => True) ?hr ?hp (fun _ hk => hk) trivial (Below.refl _ _) (Nat.le_refl _) (by simp) ?_; (case hd => rfl); (case hg => rfl); (case hr => first | (go_simp; done) | (go_simp; rfl)); (case hp => exact (Reps.c2 (show Kd.M k71 _ _ _ (⟨a1, a2⟩ : S71) [.int .i64 a1, .int .i64 a2] from (k71_mkM _ _ _ (⟨a1, a2⟩ : S71) )) (Reps.none _ _))); intro v126 w5 ho6 hb hg_ hnew_; clear hg_ hnew_; (first | rw [← Ny125.out] at ho6 | (simp only [Int.reduceToNat] at ho6; rw [← Ny125.out] at ho6)); have HO127 := A_ (Kd.R_lower ho6 (below_size hs_)); replace HB := bs_ hb; clear hb ho6; obtain ⟨Ao7, co7, eo7⟩ := Kd.R_slice HO127.out; subst eo7) | (refine gC 107 ?_; refine gL 12 Tryz.func107 #[.slice A0 l0.length c0, .slice Ao7 y125.length co7] ?_; (with_reducible refine (sets_Meet.calls k _ _ l0 _ _ y125 t128 _ ?side1 ?side2 ?side3 ?side4 A4.out).mono ?_); (case side1 => exact cb_ HR0); (case side2 => exact HC0.out); (case side3 => exact cr_ (Kd.R_reads' HO127.out).2.2); (case side4 => exact (Kd.R_reads' HO127.out).2.1); rintro e w8 ⟨v129, rfl, ho0, hb⟩; refine ⟨_, rfl, ?_⟩; have HO130 := A_ (Kd.R_lower (Kd.R_new' ho0 (Kd.R_lt (hrR_ HO127.out))) (below_size hs_)); replace HO127 := A_ (Kd.R_elder' (hrR_ HO127.out) (Kd.R_base ho0) hb); replace HB := bs_ hb; (try clear hb); (try clear ho0))); go_ret; exact ⟨_, by first | rfl | (simp [errW_none, errW_some] <;> rfl) | (simp [*, errW_none, errW_some] <;> rfl), by (with_reducible repeat (first | apply Kd.R_alloc | apply Kd.R_drewN | apply Kd.R_drew)); exact Kd.R_mono HO130.out (fun _ hk => trivial), hs_⟩
set_option maxHeartbeats 8000000 in
set_option maxRecDepth 100000 in
theorem image_units.calls (k : Nat) (a0 : Int) (A1 : Option Addr) (c1 : Nat) (l1 r : List (S71)) (w : World) (hr1 : Kd.C k71 w A1 l1.length l1) (hc1 : l1.length ≤ c1) (h : image_units.f k a0 l1 = some r) :
  Calls Tryz.prog 150 #[.int .i64 a0, .slice A1 l1.length c1] w fun e w' => ∃ v0_ : Value, e = .returned (v0_) ∧ Kd.R k71 71 w' w.heap.size (fun _ => True) v0_ r ∧ Below w.heap.size w w' := by
 have HR1 := A_ hr1; have HC1 := A_ hc1; clear hr1 hc1; have HB := A_ (Below.refl w.heap.size w); have H : ((unit_Count.f a0).bind fun t101 => ((sets_Clip.f k l1 0 (wrap64 (t101 - 1))).bind fun t102 => (some t102))) = some r := h; clear h; obtain ⟨t101, A3, H⟩ := bi_ H; obtain ⟨t102, A4, H⟩ := bi_ H; obtain rfl := Option.some.inj H; go_enter Tryz.func150, Tryz.ntmps150; go_wp2_with (first | ((with_reducible refine gC 51 ?_); refine goesL_ (some 7) rfl rfl Tryz.func51 (by kernel_rfl) rfl #[.int .i64 a0] rfl ml_ ?_; (with_reducible refine (unit_Count.calls a0 t101 _ A3.out).mono ?_); rintro e w5 ⟨rfl, hb⟩; refine ⟨_, rfl, ?_⟩; replace HB := bs_ hb; (try clear hb)) | ((with_reducible refine gC 60 ?_); refine goesL_ (some 9) rfl rfl Tryz.func60 (by kernel_rfl) rfl #[.slice A1 l1.length c1, .int .i64 0, .int .i64 (wrap64 (t101 - 1))] rfl ml_ ?_; (with_reducible refine (sets_Clip.calls k _ _ l1 0 (wrap64 (t101 - 1)) t102 _ ?side1 ?side2 A4.out).mono ?_); (case side1 => repeat (first | exact (Kd.C_below HR1.out HB.out) | (with_reducible refine Kd.C_alloc ?_ _) | (with_reducible refine Kd.C_drewN ?_ _) | (with_reducible refine Kd.C_drew ?_))); (case side2 => exact HC1.out); rintro e w6 ⟨v103, rfl, ho0, hb⟩; refine ⟨_, rfl, ?_⟩; have HO104 := A_ (Kd.R_lower ho0 (below_size hs_)); replace HB := bs_ hb; (try clear hb); (try clear ho0))); go_ret; exact ⟨_, by first | rfl | (simp [errW_none, errW_some] <;> rfl) | (simp [*, errW_none, errW_some] <;> rfl), fxR_ HO104.out, hs_⟩
end Go.Proofs.YthppfagfmjchoaaGreatDoor.A
namespace Go.Proofs.YthppfagfmjchoaaGreatDoor.A
open Go.RowKit Go.Shelf Go.Proofs.YthppfagfmjchoaaGreatDoorW.PrintWords Go.Proofs.YthppfagfmjchoaaGreatDoorW.PrintLast Go.Proofs.YthppfagfmjchoaaGreatDoorW.PrintMore
attribute [local go_sem] Oper.semAt_some isSome_setCell
def okU (u : List S71) : Prop := u.length * 16 ≤ 140737488351232 ∧ (upRs u).length ≤ 1000 ∧ ∀ r ∈ u, 0 ≤ r.f0 ∧ r.f0 < 1000000000000 ∧ r.f1 < 1000000000000
instance (u : List S71) : Decidable (okU u) := by unfold okU; infer_instance
def image_marks.f (g : Int → Int → Option (Int × Bool)) (k : Nat) (kind : Int) (l : List S71) : Option (List S71 × Bool) :=
  (image_units.f k kind l).bind fun u => if kind = 0 then (sets_Wide.f k u).bind fun b => some (u, !b) else (runs_Count.f k u).bind fun c => if c > 400 then some ([], false) else if okU u then ((upRs u).mapM fun n => g kind n).bind fun ys => (runs_Of.f k (ys.map fun y => y.1)).bind fun r => some (r, true) else none
set_option maxHeartbeats 8000000 in
set_option maxRecDepth 100000 in
theorem marks_zero (fk : Nat) (g : Int → Int → Option (Int × Bool)) (k : Nat) (A0 : Option Addr) (c0 : Nat) (l r : List S71) (b : Bool) (w : World) (hr0 : Kd.C k71 w A0 l.length l) (hc0 : l.length ≤ c0) (h : image_marks.f g k 0 l = some (r, b)) :
    Calls Tryz.prog 130 #[.int .i64 0, .slice A0 l.length c0, .func (.func fk) #[] #[]] w fun e w' => ∃ v0_ : Value, e = .returned (.tuple #[v0_, .bool b]) ∧ Kd.R k71 71 w' w.heap.size (fun _ => True) v0_ r ∧ Below w.heap.size w w' := by
  unfold image_marks.f at h
  obtain ⟨u, hu, h⟩ := Option.bind_eq_some_iff.mp h
  rw [if_pos rfl] at h
  obtain ⟨b1, hb1, h⟩ := Option.bind_eq_some_iff.mp h
  obtain ⟨rfl, rfl⟩ := Prod.mk.inj (Option.some.inj h)
  have HU := A_ hu; have HW := A_ hb1; have HC0 := A_ hc0; have HR0 := A_ hr0
  clear hu hb1 h hc0 hr0
  have HB := A_ (Below.refl w.heap.size w)
  go_enter Tryz.func130, Tryz.ntmps130
  go_wp2_with (first | ((with_reducible refine gD 3 ?_); refine bxe_ 3 #[.int .i64 0] 3 ?_; intro g3 hg3 w1 hbox hb; have B3 := A_ hbox; have G3 := gs_ w hg3; replace HR0 := A_ (Kd.C_below HR0.out hb); replace HB := bs_ hb; clear hb hbox hg3) | ((with_reducible refine gD 5 ?_); refine bxe_ 5 #[.func (.func fk) #[] #[]] 123 ?_; intro g5 hg5 w2 hbox hb; replace HR0 := A_ (Kd.C_below HR0.out hb); replace B3 := A_ (blk_below B3.out hb); replace HB := bs_ hb; have z3 := bz1_ B3; clear hb hbox hg5) | (go_at_call 150; (with_reducible refine (image_units.calls k 0 A0 c0 l u _ HR0.out HC0.out HU.out).mono ?_); rintro e1 w3 ⟨v, rfl, hR, hb⟩; obtain ⟨A1, c1, rfl, hc1, hC⟩ := Kd.R_reads hR; replace B3 := A_ (blk_below B3.out hb); have z3b := bz1_ B3; have HC1 := A_ hC; have HL1 := A_ hc1; have HR := A_ (Kd.R_lower hR (below_size HB.out)); replace HB := bs_ hb; clear hb hR hC hc1) | (go_at_call 102; (with_reducible refine (sets_Wide.calls k A1 c1 u b1 _ HC1.out HL1.out HW.out).mono ?_); rintro e1 w4 ⟨rfl, hb⟩; replace HR := A_ (Kd.R_below HR.out hb); replace HB := bs_ hb; clear hb))
  go_ret2; exact ⟨_, re_, HR.out, hs_⟩
set_option maxHeartbeats 8000000 in
set_option maxRecDepth 100000 in
theorem marks_many (fk : Nat) (k : Nat) (kind : Int) (A0 : Option Addr) (c0 : Nat) (l u : List S71) (c : Int) (w : World) (hr0 : Kd.C k71 w A0 l.length l) (hc0 : l.length ≤ c0) (hk0 : kind ≠ 0) (hu : image_units.f k kind l = some u) (hcc : runs_Count.f k u = some c) (h4 : c > 400) :
    Calls Tryz.prog 130 #[.int .i64 kind, .slice A0 l.length c0, .func (.func fk) #[] #[]] w fun e w' => e = .returned (.tuple #[.slice none 0 0, .bool false]) ∧ Below w.heap.size w w' := by
  have HU := A_ hu; have HW := A_ hcc; have HC0 := A_ hc0; have HR0 := A_ hr0
  have k0 : (kind == 0) = false := beq_eq_false_iff_ne.mpr hk0
  have k4 : decide (400 < c) = true := decide_eq_true h4
  clear hu hcc hc0 hr0 hk0 h4
  have HB := A_ (Below.refl w.heap.size w)
  go_enter Tryz.func130, Tryz.ntmps130
  go_wp2_with (first | ((with_reducible refine gD 3 ?_); refine bxe_ 3 #[.int .i64 kind] 3 ?_; intro g3 hg3 w1 hbox hb; have B3 := A_ hbox; have G3 := gs_ w hg3; replace HR0 := A_ (Kd.C_below HR0.out hb); replace HB := bs_ hb; clear hb hbox hg3) | ((with_reducible refine gD 5 ?_); refine bxe_ 5 #[.func (.func fk) #[] #[]] 123 ?_; intro g5 hg5 w2 hbox hb; replace HR0 := A_ (Kd.C_below HR0.out hb); replace B3 := A_ (blk_below B3.out hb); replace HB := bs_ hb; have z3 := bz1_ B3; clear hb hbox hg5) | (go_at_call 150; (with_reducible refine (image_units.calls k kind A0 c0 l u _ HR0.out HC0.out HU.out).mono ?_); rintro e1 w3 ⟨v, rfl, hR, hb⟩; obtain ⟨A1, c1, rfl, hc1, hC⟩ := Kd.R_reads hR; replace B3 := A_ (blk_below B3.out hb); have z3b := bz1_ B3; have HC1 := A_ hC; have HL1 := A_ hc1; replace HB := bs_ hb; clear hb hR hC hc1) | (go_at_call 50; (with_reducible refine (runs_Count.calls k A1 c1 u c _ HC1.out HL1.out HW.out).mono ?_); rintro e1 w4 ⟨rfl, hb⟩; replace HB := bs_ hb; clear hb))
  go_ret2; exact ⟨re_, hs_⟩
end Go.Proofs.YthppfagfmjchoaaGreatDoor.A
namespace Go.Proofs.YthppfagfmjchoaaGreatDoor.A
open Go.RowKit Go.Proofs.YthppfagfmjchoaaGreatDoorW.PrintWords
theorem tot_bind {α β : Type} {o : Option α} {f : α → Option β} (h : ∃ r, o = some r) (k : ∀ r, ∃ s, f r = some s) : ∃ s, o.bind f = some s := by
  obtain ⟨r, rfl⟩ := h; exact k r
theorem ints_Mod.total (a b : Int) : ∃ r, ints_Mod.f a b = some r := by
  unfold ints_Mod.f
  repeat' split
  all_goals first | exact ⟨_, rfl⟩ | omega
theorem ints_Floor.total (a b : Int) : ∃ r, ints_Floor.f a b = some r := by
  unfold ints_Floor.f
  repeat' split
  all_goals first | exact ⟨_, rfl⟩ | omega
theorem civil_Leap.total (a : Int) : ∃ r, civil_Leap.f a = some r := by
  unfold civil_Leap.f
  refine tot_bind (ints_Mod.total _ _) fun r => ?_
  split
  · exact ⟨_, rfl⟩
  refine tot_bind (ints_Mod.total _ _) fun r => ?_
  split
  · exact tot_bind (ints_Mod.total _ _) fun r => ⟨_, rfl⟩
  · exact ⟨_, rfl⟩
theorem civil_Days.total (a b : Int) : ∃ r, civil_Days.f a b = some r := by
  unfold civil_Days.f
  repeat' split
  all_goals first | exact ⟨_, rfl⟩ | (refine tot_bind (civil_Leap.total _) fun r => ?_; split <;> exact ⟨_, rfl⟩)
theorem civil_Valid.total (a b c : Int) : ∃ r, civil_Valid.f a b c = some r := by
  unfold civil_Valid.f
  repeat' split
  all_goals first | exact ⟨_, rfl⟩ | exact tot_bind (civil_Days.total _ _) fun r => ⟨_, rfl⟩
theorem civil_Number.total (a b c : Int) : ∃ r, civil_Number.f a b c = some r := by
  unfold civil_Number.f
  refine tot_bind (civil_Valid.total _ _ _) fun r => ?_
  repeat' split
  all_goals first | exact ⟨_, rfl⟩ | exact tot_bind (ints_Floor.total _ _) fun r => tot_bind (ints_Mod.total _ _) fun s => ⟨_, rfl⟩
theorem unit_begins.total (k : Nat) (i : Int) : ∃ r, unit_begins.f k i = some r := by
  unfold unit_begins.f
  split
  · exact ⟨_, rfl⟩
  · unfold unit_span_begins.f
    exact tot_bind (civil_Number.total _ _ _) fun r => ⟨_, rfl⟩
theorem unit_First.total (kind i : Int) : ∃ r, unit_First.f kind i = some r := by
  unfold unit_First.f
  repeat' split
  all_goals first | exact ⟨_, rfl⟩ | exact tot_bind (unit_begins.total _ _) fun r => ⟨_, rfl⟩
theorem unit_Last.total (kind i : Int) : ∃ r, unit_Last.f kind i = some r := by
  unfold unit_Last.f
  repeat' split
  all_goals first | exact ⟨_, rfl⟩ | exact tot_bind (unit_begins.total _ _) fun r => ⟨_, rfl⟩
end Go.Proofs.YthppfagfmjchoaaGreatDoor.A
namespace Go.Proofs.YthppfagfmjchoaaGreatDoor.A
open Go.RowKit Go.Shelf Go.Proofs.YthppfagfmjchoaaGreatDoorW.PrintWords Go.Proofs.YthppfagfmjchoaaGreatDoorW.PrintLast Go.Proofs.YthppfagfmjchoaaGreatDoorW.PrintMore
attribute [local go_sem] Oper.semAt_some isSome_setCell
def unit_First.val (kind i : Int) : Int × Bool := (unit_First.f kind i).getD (0, false)
theorem unit_First.eq (kind i : Int) : unit_First.f kind i = some (unit_First.val kind i) := by
  obtain ⟨r, h⟩ := unit_First.total kind i
  rw [unit_First.val, h]; rfl
theorem info3_ : (Tryz.prog.info? 3).map (fun i => (i.zero, i.size, i.bytes)) = some (some (.int .i64 0), 1, 8) := by kernel_rfl
theorem kpe_b {n₀ : Nat} {w : World} (hn : n₀ ≤ w.heap.size) (W : World) (l : Nat) (o o' : Obj) (hl : w.heap.size ≤ l) (h : W.heap[l]? = some o) (hc : o.isCells = false) (hw : o.isWalk = false) : KpE n₀ W (W.putObj l o') :=
  ⟨belowK_b hn W l o o' hl h hc hw, fun k cs e => (World.putObj_heap_other (fun ek => by subst ek; rw [h] at e; cases e; simp [Obj.isCells] at hc)).trans e⟩
theorem ints_R {W : World} {n : Nat} {v : Value} {zs : List Int} (h : W.ownsRow n 3 1 v zs.length (zs.map (Value.int .i64))) : Kd.R (Kd.int .i64) 3 W n (fun _ => True) v zs := by
  refine ⟨fun _ _ => trivial, _, h, ?_⟩
  clear h
  induction zs with
  | nil => exact Reps.none _ _
  | cons a t ih => exact Reps.one rfl ih
theorem R_putObj_ {W : World} {n D : Nat} {ok : Nat → Prop} {v : Value} {r : List S71} (h : Kd.R k71 71 W n ok v r) (hK : W.heap[D]? = some (.deferred (some []))) (o : Obj) : Kd.R k71 71 (W.putObj D o) n ok v r :=
  Kd.R_mono (Kd.R_move (Kd.R_bound h) (fun k hk => by
    obtain ⟨_, _, _, q, _, cells, hc⟩ := hk
    exact World.putObj_heap_other (fun e => by subst e; rw [hK] at hc; cases hc))) (fun _ hk => hk.1)
theorem kb_ {W W1 : World} (h : Below W.heap.size W W1) : KeepsOthers W W1 := ⟨h.size, fun k o hk _ => (h.block k (Array.getElem?_eq_some_iff.1 hk).1).trans hk⟩
theorem kpe_app {n₀ n B : Nat} {v vv v' : Value} {xs : List Value} {W W1 : World} {tmp : Obj} (hrow : W.ownsRow n₀ 3 1 v n xs) (hgrow : (W.alloc tmp).grownBy W1 v.ownBlock) (hv1 : Boxed W1 B 112 vv) (k : Nat) (cs : Array Value) (e : W.heap[k]? = some (.cells cs 71 (0, 0))) : (W1.setCell ⟨B, 0, none⟩ v').heap[k]? = some (.cells cs 71 (0, 0)) := by
  have hlt := (Array.getElem?_eq_some_iff.1 e).1
  have e1 : (W.alloc tmp).heap[k]? = some (.cells cs 71 (0, 0)) := (Below.heap_alloc W tmp k hlt).trans e
  have hne : some k ≠ v.ownBlock := by
    intro ek
    obtain ⟨cells, hc⟩ := own_typed hrow k ek.symm
    rw [e] at hc; simp at hc
  have e2 : W1.heap[k]? = some (.cells cs 71 (0, 0)) := (hgrow.block k (by rw [World.size_alloc]; omega) hne).trans e1
  refine far_ _ _ e2 ?_
  rintro rfl
  rw [show W1.heap[k]? = _ from hv1] at e2
  simp at e2
set_option maxHeartbeats 8000000 in
set_option maxRecDepth 100000 in
theorem marks_loop (k : Nat) (kind : Int) (A0 : Option Addr) (c0 : Nat) (l u : List S71) (c : Int) (r : List S71) (w : World) (htab : TL w.heap.size w) (hr0 : Kd.C k71 w A0 l.length l) (hc0 : l.length ≤ c0) (hk0 : kind ≠ 0) (hu : image_units.f k kind l = some u) (hcc : runs_Count.f k u = some c) (h4 : ¬ c > 400) (hok : okU u) (hr : runs_Of.f k ((upRs u).map fun n => (unit_First.val kind n).1) = some r) :
    Calls Tryz.prog 130 #[.int .i64 kind, .slice A0 l.length c0, .func (.func 131) #[] #[]] w fun e w' => ∃ v0_ : Value, e = .returned (.tuple #[v0_, .bool true]) ∧ Kd.R k71 71 w' w.heap.size (fun _ => True) v0_ r ∧ Below w.heap.size w w' := by
  have HTAB := A_ htab; have HU := A_ hu; have HW := A_ hcc; have HC0 := A_ hc0; have HR0 := A_ hr0; have HOK := A_ hok; have HF := A_ hr
  have k0 : (kind == 0) = false := beq_eq_false_iff_ne.mpr hk0
  have k4 : decide (400 < c) = false := decide_eq_false h4
  clear hu hcc hc0 hr0 hk0 h4 hok hr htab
  have HB := A_ (Below.refl w.heap.size w)
  refine (callsIn_wide (n := 5)).1 ?_
  refine callsIn_of_wp_marks Tryz.func130 rfl trivial ?_ rfl
  refine wpIn_wide.2 ?_
  simp only [Tryz.ntmps130, List.size_toArray, List.length_cons, List.length_nil, Nat.reduceAdd, Nat.reduceSub, Array.replicate_succ, Array.replicate_zero, List.push_toArray, List.append_toArray, List.nil_append, List.cons_append]
  go_wp2_with (first | ((with_reducible refine gD 3 ?_); refine bxe_ 3 #[.int .i64 kind] 3 ?_; intro g3 hg3 w1 hbox hb; have B3 := A_ hbox; have G3 := gs_ w hg3; replace HR0 := A_ (Kd.C_below HR0.out hb); replace HB := bs_ hb; clear hb hbox hg3) | ((with_reducible refine gD 5 ?_); refine bxe_ 5 #[.func (.func 131) #[] #[]] 123 ?_; intro g5 hg5 w2 hbox hb; have B5 := A_ hbox; replace HR0 := A_ (Kd.C_below HR0.out hb); replace B3 := A_ (blk_below B3.out hb); replace HB := bs_ hb; have z3 := bz1_ B3; clear hb hbox hg5) | (go_at_call 150; (with_reducible refine (image_units.calls k kind A0 c0 l u _ HR0.out HC0.out HU.out).mono ?_); rintro e1 w3 ⟨v, rfl, hR, hb⟩; obtain ⟨A1, c1, rfl, hc1, hC⟩ := Kd.R_reads hR; replace B3 := A_ (blk_below B3.out hb); replace B5 := A_ (blk_below B5.out hb); have z3b := bz1_ B3; have HC1 := A_ hC; have HL1 := A_ hc1; replace HB := bs_ hb; clear hb hR hC hc1) | (go_at_call 50; (with_reducible refine (runs_Count.calls k A1 c1 u c _ HC1.out HL1.out HW.out).mono ?_); rintro e1 w4 ⟨rfl, hb⟩; replace B3 := A_ (blk_below B3.out hb); replace B5 := A_ (blk_below B5.out hb); replace HC1 := A_ (Kd.C_below HC1.out hb); replace HB := bs_ hb; clear hb) | ((with_reducible refine gD 9 ?_); refine bxe_ 9 #[.slice none 0 0] 112 ?_; intro g9 hg9 w5 hbox hb; have B9 := A_ hbox; have HCu := A_ (cells_ u A1 _ HC1.out); have N4 := A_ hg9; have N45 := A_ hb; have L3 := A_ (blk_lt B3.out); have L5 := A_ (blk_lt B5.out); have HB4 := HB; replace B3 := A_ (blk_below B3.out hb); replace B5 := A_ (blk_below B5.out hb); replace HB := bs_ hb; clear hb hbox hg9) | (go_at_call 169; (with_reducible refine (image_each.calls A1 u.length c1 _).mono ?_); rintro e1 w6 ⟨rfl, hw6⟩))
  obtain ⟨i0, hi, hz0, hz1, hz2⟩ := info_parts info3_
  have hs45 : w4.heap.size ≤ w5.heap.size := below_size N45.out
  have hws := below_size HB4.out
  refine (wpIn_wide (n := 5)).1 ?_
  refine wpIn_rangeFunc_ownG rfl (by decide) (gf := 196) (lb := #[.pointer (some ⟨w5.heap.size, 0, none⟩)]) rfl trivial (enters_of Tryz.func196 (by kernel_rfl) rfl)
    (each_stops Fence.wide 4 trivial rfl (by decide) w5.heap.size w4.heap.size c1 A1 u _ (bq_ (A_ (blk_new w5 _)) 0) (by simp; omega) HOK.out.1 HOK.out.2.2 ?cells) KpE.trans (kpe_b (by simp; omega)) (Below.refl _ _) (fun _ => rfl)
    (fun pre W => (∃ v, Boxed W g9 112 v ∧ W.ownsRow w4.heap.size 3 1 v (pre.map fun n => (unit_First.val kind n).1).length ((pre.map fun n => (unit_First.val kind n).1).map (Value.int .i64)) ∧ True) ∧ Below w4.heap.size w5 W)
    (fun _ _ _ => False)
    (OwnFrom.and (Own.from (holdsRow_own w4.heap.size g9 112 3 1 (fun pre : List Int => (pre.map fun n => (unit_First.val kind n).1).length) (fun pre => (pre.map fun n => (unit_First.val kind n).1).map (Value.int .i64)) (fun pre v => True)) _) (ownFrom_below hs45 (by simp; omega)))
    (fun _ _ _ _ _ hs _ _ => hs)
    ⟨⟨_, blk_alloc B9.out _, World.ownsRow_nil _ _ _ _, trivial⟩, (Below.refl _ _).alloc hs45 _⟩
    (fun x => { tmps := #[.int .i64 kind, .slice A0 l.length c0, .func (.func 131) #[] #[], .pointer (some ⟨g3, 0, none⟩), undef, .pointer (some ⟨g5, 0, none⟩), .slice none 0 0, .bool false, .slice A1 u.length c1, .pointer (some ⟨g9, 0, none⟩), .int .i64 x, undef, undef, .int .i64 kind, .slice A0 l.length c0, .slice A1 u.length c1, .int .i64 kind, .bool false, undef, undef, undef, undef, .slice A1 u.length c1, .int .i64 c, .bool false, .slice A1 u.length c1, .func (.func 196) #[] #[.pointer (some ⟨w5.heap.size, 0, none⟩)], .int .i64 x, undef, undef, undef, undef, undef, undef, undef, undef, undef, undef, undef, undef, undef], defers := [] }) ?assign ?body ?done ?stop
  case cells =>
    intro hz
    obtain ⟨b, off, e, hb, hj⟩ := HCu.out hz
    refine ⟨b, off, e, hb, fun j h => ?_⟩
    have hB6 := (N45.out.alloc hs45 (.cells #[.slice A1 u.length c1] 28))
    exact ⟨(hB6.cell (p := ⟨b, off + j * 2, none⟩) hb).trans (hj j h).1, (hB6.cell (p := ⟨b, off + j * 2 + 1, none⟩) hb).trans (hj j h).2⟩
  case assign =>
    intro l x W K hK
    gi_wp2
    exact hK
  case body =>
    rintro l pre x W ⟨⟨v, hv, hrow, _⟩, hB⟩ hlt
    have hc := hv.cell
    have hl1 : pre.length < 1000 := Nat.lt_of_lt_of_le hlt HOK.out.2.1
    have hml : (pre.map fun n => (unit_First.val kind n).1).length = pre.length := List.length_map _
    have z5 : W.cell? ⟨g5, 0, none⟩ = some (.func (.func 131) #[] #[]) := (hB.cell (p := ⟨g5, 0, none⟩) L5.out).trans (bc1_ B5)
    have z3 : W.cell? ⟨g3, 0, none⟩ = some (.int .i64 kind) := (hB.cell (p := ⟨g3, 0, none⟩) L3.out).trans (bc1_ B3)
    have htW : TL W.heap.size W := TL.at_ HTAB.out (HB.out.trans (hB.mono hws))
    have hW4 : w4.heap.size ≤ W.heap.size := Nat.le_trans hs45 hB.size
    have hn1 : 1 ≤ 5 - 1 - 1 := by decide
    gi_wp2_with (first | (refine ⟨trivial, ?_⟩; gi_at_call 131; refine (CallsIn.inRound l (callsIn_wide.2 (unit_First.callsP kind x _ _ htW (unit_First.eq kind x)))).mono ?_; rintro e w7 ⟨rfl, hb⟩; have hv7 : Boxed w7 g9 112 v := blk_below hv hb; have hrow7 := own_move hrow (fun k hk => hb.block k (own_lt hrow k hk)); have hc7 := hv7.cell) | (gi_at_builtin; refine wpListIn_append_own _ rfl _ _ 112 rfl w4.heap.size 3 i0 (.int .i64 0) 1 8 Tryz.underlying112 hi hz0 hz1 hz2 rfl (by decide) _ _ _ rfl (hrow7.alloc _) ⟨w7.heap.size, 0, none⟩ 1 1 [.int .i64 (unit_First.val kind x).1] rfl rfl (cell_one_new _ _ _) (by simp [Value.oneCell']) (by rw [hml, maxLen]; omega) (by rw [hml]; omega) (by have := hb.size; simp; omega) ?_; intro v' w8 hown' hgrow _; obtain ⟨g', cap', rfl⟩ := ownsRow_succ hown'; have HA := hv7.appended (by decide) hrow7 (Nat.le_trans hW4 hb.size) (Nat.le_of_eq N4.out.symm) hown' hgrow; obtain ⟨hv1, hv2, hr2, hk2, hb2⟩ := HA; have hkp := kpe_app (v' := .slice (some ⟨g', 0, none⟩) (List.length (List.map (fun n => (unit_First.val kind n).1) pre) + 1) cap') hrow7 hgrow hv1; have hc1 := hv1.cell; have hf1 := hv1.frozen))
    simp only [hml] at hv2 hr2 hk2 hb2 hkp
    exact ⟨((kb_ hb).trans hk2).from _, ⟨(hb.mono hW4).trans hb2, fun k cs e => hkp k cs ((hb.block k (Array.getElem?_eq_some_iff.1 e).1).trans e)⟩, ⟨_, hv2, by simpa using hr2, trivial⟩, (hB.trans (hb.mono hW4)).trans hb2⟩
  case done =>
    rintro D ys W hD rfl ⟨⟨v, hv, hrow, _⟩, hB⟩ hK
    have hc := hv.cell
    have hf := hv.frozen
    have hfo := HF.out
    obtain ⟨zs, hzs⟩ : ∃ zs, zs = ((upRs u).map fun n => (unit_First.val kind n).1) := ⟨_, rfl⟩
    rw [← hzs] at hrow hfo
    obtain ⟨Ao, co, rfl, hco, hCo⟩ := Kd.R_reads (ints_R hrow)
    have HCo := A_ hCo; have HLo := A_ hco; have HFo := A_ hfo
    clear hCo hco hfo hrow hzs
    go_wp2_with (first | (go_at_call 170; (with_reducible refine (runs_Of.calls k Ao co zs r _ HCo.out HLo.out HFo.out).mono ?_); rintro e1 w9 ⟨v9, rfl, hR9, hb9⟩))
    have hK9 := (hb9.block D (Array.getElem?_eq_some_iff.1 hK).1).trans hK
    have hwW : w.heap.size ≤ W.heap.size := Nat.le_trans hws (Nat.le_trans hs45 hB.size)
    have hBW : Below w.heap.size w w9 := (HB.out.trans (hB.mono hws)).trans (hb9.mono hwW)
    refine ⟨by simp, .inl ⟨_, _, rfl, run_takeDeferred hK9, ?_⟩⟩
    refine ⟨_, results_list (rs := [.tmp 6, .tmp 7]) (vs := [v9, .bool true]) rfl (by simp) (Vals.tmp (Vals.tmp Vals.nil)), v9, rfl, R_putObj_ (Kd.R_lower hR9 hwW) hK9 _, hBW.trans (belowK_b (w := w) (Nat.le_refl _) w9 D _ _ (by simp at hD; omega) hK9 rfl rfl)⟩
  case stop =>
    rintro D c pre W _ _ h _
    exact h.elim
def unit_Last.val (kind i : Int) : Int × Bool := (unit_Last.f kind i).getD (0, false)
theorem unit_Last.eq (kind i : Int) : unit_Last.f kind i = some (unit_Last.val kind i) := by
  obtain ⟨r, h⟩ := unit_Last.total kind i
  rw [unit_Last.val, h]; rfl
set_option maxHeartbeats 8000000 in
set_option maxRecDepth 100000 in
theorem marks_loopL (k : Nat) (kind : Int) (A0 : Option Addr) (c0 : Nat) (l u : List S71) (c : Int) (r : List S71) (w : World) (htab : TL w.heap.size w) (hr0 : Kd.C k71 w A0 l.length l) (hc0 : l.length ≤ c0) (hk0 : kind ≠ 0) (hu : image_units.f k kind l = some u) (hcc : runs_Count.f k u = some c) (h4 : ¬ c > 400) (hok : okU u) (hr : runs_Of.f k ((upRs u).map fun n => (unit_Last.val kind n).1) = some r) :
    Calls Tryz.prog 130 #[.int .i64 kind, .slice A0 l.length c0, .func (.func 132) #[] #[]] w fun e w' => ∃ v0_ : Value, e = .returned (.tuple #[v0_, .bool true]) ∧ Kd.R k71 71 w' w.heap.size (fun _ => True) v0_ r ∧ Below w.heap.size w w' := by
  have HTAB := A_ htab; have HU := A_ hu; have HW := A_ hcc; have HC0 := A_ hc0; have HR0 := A_ hr0; have HOK := A_ hok; have HF := A_ hr
  have k0 : (kind == 0) = false := beq_eq_false_iff_ne.mpr hk0
  have k4 : decide (400 < c) = false := decide_eq_false h4
  clear hu hcc hc0 hr0 hk0 h4 hok hr htab
  have HB := A_ (Below.refl w.heap.size w)
  refine (callsIn_wide (n := 5)).1 ?_
  refine callsIn_of_wp_marks Tryz.func130 rfl trivial ?_ rfl
  refine wpIn_wide.2 ?_
  simp only [Tryz.ntmps130, List.size_toArray, List.length_cons, List.length_nil, Nat.reduceAdd, Nat.reduceSub, Array.replicate_succ, Array.replicate_zero, List.push_toArray, List.append_toArray, List.nil_append, List.cons_append]
  go_wp2_with (first | ((with_reducible refine gD 3 ?_); refine bxe_ 3 #[.int .i64 kind] 3 ?_; intro g3 hg3 w1 hbox hb; have B3 := A_ hbox; have G3 := gs_ w hg3; replace HR0 := A_ (Kd.C_below HR0.out hb); replace HB := bs_ hb; clear hb hbox hg3) | ((with_reducible refine gD 5 ?_); refine bxe_ 5 #[.func (.func 132) #[] #[]] 123 ?_; intro g5 hg5 w2 hbox hb; have B5 := A_ hbox; replace HR0 := A_ (Kd.C_below HR0.out hb); replace B3 := A_ (blk_below B3.out hb); replace HB := bs_ hb; have z3 := bz1_ B3; clear hb hbox hg5) | (go_at_call 150; (with_reducible refine (image_units.calls k kind A0 c0 l u _ HR0.out HC0.out HU.out).mono ?_); rintro e1 w3 ⟨v, rfl, hR, hb⟩; obtain ⟨A1, c1, rfl, hc1, hC⟩ := Kd.R_reads hR; replace B3 := A_ (blk_below B3.out hb); replace B5 := A_ (blk_below B5.out hb); have z3b := bz1_ B3; have HC1 := A_ hC; have HL1 := A_ hc1; replace HB := bs_ hb; clear hb hR hC hc1) | (go_at_call 50; (with_reducible refine (runs_Count.calls k A1 c1 u c _ HC1.out HL1.out HW.out).mono ?_); rintro e1 w4 ⟨rfl, hb⟩; replace B3 := A_ (blk_below B3.out hb); replace B5 := A_ (blk_below B5.out hb); replace HC1 := A_ (Kd.C_below HC1.out hb); replace HB := bs_ hb; clear hb) | ((with_reducible refine gD 9 ?_); refine bxe_ 9 #[.slice none 0 0] 112 ?_; intro g9 hg9 w5 hbox hb; have B9 := A_ hbox; have HCu := A_ (cells_ u A1 _ HC1.out); have N4 := A_ hg9; have N45 := A_ hb; have L3 := A_ (blk_lt B3.out); have L5 := A_ (blk_lt B5.out); have HB4 := HB; replace B3 := A_ (blk_below B3.out hb); replace B5 := A_ (blk_below B5.out hb); replace HB := bs_ hb; clear hb hbox hg9) | (go_at_call 169; (with_reducible refine (image_each.calls A1 u.length c1 _).mono ?_); rintro e1 w6 ⟨rfl, hw6⟩))
  obtain ⟨i0, hi, hz0, hz1, hz2⟩ := info_parts info3_
  have hs45 : w4.heap.size ≤ w5.heap.size := below_size N45.out
  have hws := below_size HB4.out
  refine (wpIn_wide (n := 5)).1 ?_
  refine wpIn_rangeFunc_ownG rfl (by decide) (gf := 196) (lb := #[.pointer (some ⟨w5.heap.size, 0, none⟩)]) rfl trivial (enters_of Tryz.func196 (by kernel_rfl) rfl)
    (each_stops Fence.wide 4 trivial rfl (by decide) w5.heap.size w4.heap.size c1 A1 u _ (bq_ (A_ (blk_new w5 _)) 0) (by simp; omega) HOK.out.1 HOK.out.2.2 ?cells) KpE.trans (kpe_b (by simp; omega)) (Below.refl _ _) (fun _ => rfl)
    (fun pre W => (∃ v, Boxed W g9 112 v ∧ W.ownsRow w4.heap.size 3 1 v (pre.map fun n => (unit_Last.val kind n).1).length ((pre.map fun n => (unit_Last.val kind n).1).map (Value.int .i64)) ∧ True) ∧ Below w4.heap.size w5 W)
    (fun _ _ _ => False)
    (OwnFrom.and (Own.from (holdsRow_own w4.heap.size g9 112 3 1 (fun pre : List Int => (pre.map fun n => (unit_Last.val kind n).1).length) (fun pre => (pre.map fun n => (unit_Last.val kind n).1).map (Value.int .i64)) (fun pre v => True)) _) (ownFrom_below hs45 (by simp; omega)))
    (fun _ _ _ _ _ hs _ _ => hs)
    ⟨⟨_, blk_alloc B9.out _, World.ownsRow_nil _ _ _ _, trivial⟩, (Below.refl _ _).alloc hs45 _⟩
    (fun x => { tmps := #[.int .i64 kind, .slice A0 l.length c0, .func (.func 132) #[] #[], .pointer (some ⟨g3, 0, none⟩), undef, .pointer (some ⟨g5, 0, none⟩), .slice none 0 0, .bool false, .slice A1 u.length c1, .pointer (some ⟨g9, 0, none⟩), .int .i64 x, undef, undef, .int .i64 kind, .slice A0 l.length c0, .slice A1 u.length c1, .int .i64 kind, .bool false, undef, undef, undef, undef, .slice A1 u.length c1, .int .i64 c, .bool false, .slice A1 u.length c1, .func (.func 196) #[] #[.pointer (some ⟨w5.heap.size, 0, none⟩)], .int .i64 x, undef, undef, undef, undef, undef, undef, undef, undef, undef, undef, undef, undef, undef], defers := [] }) ?assign ?body ?done ?stop
  case cells =>
    intro hz
    obtain ⟨b, off, e, hb, hj⟩ := HCu.out hz
    refine ⟨b, off, e, hb, fun j h => ?_⟩
    have hB6 := (N45.out.alloc hs45 (.cells #[.slice A1 u.length c1] 28))
    exact ⟨(hB6.cell (p := ⟨b, off + j * 2, none⟩) hb).trans (hj j h).1, (hB6.cell (p := ⟨b, off + j * 2 + 1, none⟩) hb).trans (hj j h).2⟩
  case assign =>
    intro l x W K hK
    gi_wp2
    exact hK
  case body =>
    rintro l pre x W ⟨⟨v, hv, hrow, _⟩, hB⟩ hlt
    have hc := hv.cell
    have hl1 : pre.length < 1000 := Nat.lt_of_lt_of_le hlt HOK.out.2.1
    have hml : (pre.map fun n => (unit_Last.val kind n).1).length = pre.length := List.length_map _
    have z5 : W.cell? ⟨g5, 0, none⟩ = some (.func (.func 132) #[] #[]) := (hB.cell (p := ⟨g5, 0, none⟩) L5.out).trans (bc1_ B5)
    have z3 : W.cell? ⟨g3, 0, none⟩ = some (.int .i64 kind) := (hB.cell (p := ⟨g3, 0, none⟩) L3.out).trans (bc1_ B3)
    have htW : TL W.heap.size W := TL.at_ HTAB.out (HB.out.trans (hB.mono hws))
    have hW4 : w4.heap.size ≤ W.heap.size := Nat.le_trans hs45 hB.size
    have hn1 : 1 ≤ 5 - 1 - 1 := by decide
    gi_wp2_with (first | (refine ⟨trivial, ?_⟩; gi_at_call 132; refine (CallsIn.inRound l (callsIn_wide.2 (unit_Last.callsP kind x _ _ htW (unit_Last.eq kind x)))).mono ?_; rintro e w7 ⟨rfl, hb⟩; have hv7 : Boxed w7 g9 112 v := blk_below hv hb; have hrow7 := own_move hrow (fun k hk => hb.block k (own_lt hrow k hk)); have hc7 := hv7.cell) | (gi_at_builtin; refine wpListIn_append_own _ rfl _ _ 112 rfl w4.heap.size 3 i0 (.int .i64 0) 1 8 Tryz.underlying112 hi hz0 hz1 hz2 rfl (by decide) _ _ _ rfl (hrow7.alloc _) ⟨w7.heap.size, 0, none⟩ 1 1 [.int .i64 (unit_Last.val kind x).1] rfl rfl (cell_one_new _ _ _) (by simp [Value.oneCell']) (by rw [hml, maxLen]; omega) (by rw [hml]; omega) (by have := hb.size; simp; omega) ?_; intro v' w8 hown' hgrow _; obtain ⟨g', cap', rfl⟩ := ownsRow_succ hown'; have HA := hv7.appended (by decide) hrow7 (Nat.le_trans hW4 hb.size) (Nat.le_of_eq N4.out.symm) hown' hgrow; obtain ⟨hv1, hv2, hr2, hk2, hb2⟩ := HA; have hkp := kpe_app (v' := .slice (some ⟨g', 0, none⟩) (List.length (List.map (fun n => (unit_Last.val kind n).1) pre) + 1) cap') hrow7 hgrow hv1; have hc1 := hv1.cell; have hf1 := hv1.frozen))
    simp only [hml] at hv2 hr2 hk2 hb2 hkp
    exact ⟨((kb_ hb).trans hk2).from _, ⟨(hb.mono hW4).trans hb2, fun k cs e => hkp k cs ((hb.block k (Array.getElem?_eq_some_iff.1 e).1).trans e)⟩, ⟨_, hv2, by simpa using hr2, trivial⟩, (hB.trans (hb.mono hW4)).trans hb2⟩
  case done =>
    rintro D ys W hD rfl ⟨⟨v, hv, hrow, _⟩, hB⟩ hK
    have hc := hv.cell
    have hf := hv.frozen
    have hfo := HF.out
    obtain ⟨zs, hzs⟩ : ∃ zs, zs = ((upRs u).map fun n => (unit_Last.val kind n).1) := ⟨_, rfl⟩
    rw [← hzs] at hrow hfo
    obtain ⟨Ao, co, rfl, hco, hCo⟩ := Kd.R_reads (ints_R hrow)
    have HCo := A_ hCo; have HLo := A_ hco; have HFo := A_ hfo
    clear hCo hco hfo hrow hzs
    go_wp2_with (first | (go_at_call 170; (with_reducible refine (runs_Of.calls k Ao co zs r _ HCo.out HLo.out HFo.out).mono ?_); rintro e1 w9 ⟨v9, rfl, hR9, hb9⟩))
    have hK9 := (hb9.block D (Array.getElem?_eq_some_iff.1 hK).1).trans hK
    have hwW : w.heap.size ≤ W.heap.size := Nat.le_trans hws (Nat.le_trans hs45 hB.size)
    have hBW : Below w.heap.size w w9 := (HB.out.trans (hB.mono hws)).trans (hb9.mono hwW)
    refine ⟨by simp, .inl ⟨_, _, rfl, run_takeDeferred hK9, ?_⟩⟩
    refine ⟨_, results_list (rs := [.tmp 6, .tmp 7]) (vs := [v9, .bool true]) rfl (by simp) (Vals.tmp (Vals.tmp Vals.nil)), v9, rfl, R_putObj_ (Kd.R_lower hR9 hwW) hK9 _, hBW.trans (belowK_b (w := w) (Nat.le_refl _) w9 D _ _ (by simp at hD; omega) hK9 rfl rfl)⟩
  case stop =>
    rintro D c pre W _ _ h _
    exact h.elim
def image_marksv.f (val : Int → Int → Int × Bool) (k : Nat) (kind : Int) (l : List S71) : Option (List S71 × Bool) :=
  (image_units.f k kind l).bind fun u => if kind = 0 then (sets_Wide.f k u).bind fun b => some (u, !b) else (runs_Count.f k u).bind fun c => if c > 400 then some ([], false) else if okU u then (runs_Of.f k ((upRs u).map fun n => (val kind n).1)).bind fun r => some (r, true) else none
theorem marks_First.calls (k : Nat) (kind : Int) (A0 : Option Addr) (c0 : Nat) (l r : List S71) (b : Bool) (w : World) (htab : TL w.heap.size w) (hr0 : Kd.C k71 w A0 l.length l) (hc0 : l.length ≤ c0) (h : image_marksv.f unit_First.val k kind l = some (r, b)) :
    Calls Tryz.prog 130 #[.int .i64 kind, .slice A0 l.length c0, .func (.func 131) #[] #[]] w fun e w' => ∃ v0_ : Value, e = .returned (.tuple #[v0_, .bool b]) ∧ Kd.R k71 71 w' w.heap.size (fun _ => True) v0_ r ∧ Below w.heap.size w w' := by
  unfold image_marksv.f at h
  by_cases hk : kind = 0
  · subst hk
    refine marks_zero 131 (fun _ _ => none) k A0 c0 l r b w hr0 hc0 ?_
    unfold image_marks.f
    obtain ⟨u, hu, h⟩ := Option.bind_eq_some_iff.mp h
    rw [if_pos rfl] at h
    rw [hu, Option.bind_some, if_pos rfl]; exact h
  obtain ⟨u, hu, h⟩ := Option.bind_eq_some_iff.mp h
  rw [if_neg hk] at h
  obtain ⟨c, hc, h⟩ := Option.bind_eq_some_iff.mp h
  by_cases h4 : c > 400
  · rw [if_pos h4] at h
    obtain ⟨rfl, rfl⟩ := Prod.mk.inj (Option.some.inj h)
    exact (marks_many 131 k kind A0 c0 l u c w hr0 hc0 hk hu hc h4).mono fun e w' ⟨he, hb⟩ => ⟨_, he, Kd.R_nil _ _ _ _ _, hb⟩
  rw [if_neg h4] at h
  by_cases ho : okU u
  · rw [if_pos ho] at h
    obtain ⟨r1, hr1, h⟩ := Option.bind_eq_some_iff.mp h
    obtain ⟨rfl, rfl⟩ := Prod.mk.inj (Option.some.inj h)
    exact marks_loop k kind A0 c0 l u c r1 w htab hr0 hc0 hk hu hc h4 ho hr1
  · rw [if_neg ho] at h; exact absurd h (by simp)
def image_Starts.f (k : Nat) (kind : Int) (l : List S71) : Option (List S71 × Bool) := (image_marksv.f unit_First.val k kind l).bind fun p => if p.2 = true then some (p.1, true) else some ([], false)
set_option maxHeartbeats 8000000 in
set_option maxRecDepth 100000 in
theorem image_Starts.calls (k : Nat) (a0 : Int) (A1 : Option Addr) (c1 : Nat) (l1 r1 : List S71) (r2 : Bool) (w : World) (htab : TL w.heap.size w) (hr1 : Kd.C k71 w A1 l1.length l1) (hc1 : l1.length ≤ c1) (h : image_Starts.f k a0 l1 = some (r1, r2)) :
    Calls Tryz.prog 84 #[.int .i64 a0, .slice A1 l1.length c1] w fun e w' => ∃ v0_ : Value, e = .returned (.tuple #[v0_, .bool r2]) ∧ Kd.R k71 71 w' w.heap.size (fun _ => True) v0_ r1 ∧ Below w.heap.size w w' := by
  obtain ⟨⟨q, b⟩, hq, h⟩ := Option.bind_eq_some_iff.mp (show (image_marksv.f unit_First.val k a0 l1).bind _ = some (r1, r2) from h)
  have HTAB := A_ htab; have HR := A_ hr1; have HC := A_ hc1; have HQ := A_ hq
  have HB := A_ (Below.refl w.heap.size w)
  clear htab hr1 hc1 hq
  cases b with
  | true =>
    obtain ⟨rfl, rfl⟩ := Prod.mk.inj (Option.some.inj ((if_pos rfl).symm.trans h))
    clear h
    go_enter Tryz.func84, Tryz.ntmps84
    go_wp2_with (first | (go_at_call 130; (with_reducible refine (marks_First.calls k a0 A1 c1 l1 _ true _ HTAB.out HR.out HC.out HQ.out).mono ?_); rintro e1 w1 ⟨v, rfl, hR, hb⟩; have HO := A_ hR; obtain ⟨Ao, co, rfl, _, _⟩ := Kd.R_reads hR; replace HB := A_ hb; clear hb hR) | ((with_reducible refine gD 11 ?_); refine gL 11 Tryz.func130 #[.int .i64 a0, .slice A1 l1.length c1, .func (.func 131) #[] #[]] ?_; (with_reducible refine (marks_First.calls k a0 A1 c1 l1 _ true _ HTAB.out HR.out HC.out HQ.out).mono ?_); rintro e1 w1 ⟨v, rfl, hR, hb⟩; refine ⟨_, rfl, ?_⟩; have HO := A_ hR; obtain ⟨Ao, co, rfl, _, _⟩ := Kd.R_reads hR; replace HB := A_ hb; clear hb hR))
    go_ret2; exact ⟨_, re_, HO.out, hs_⟩
  | false =>
    obtain ⟨rfl, rfl⟩ := Prod.mk.inj (Option.some.inj ((if_neg (by simp)).symm.trans h))
    clear h
    go_enter Tryz.func84, Tryz.ntmps84
    go_wp2_with (first | (go_at_call 130; (with_reducible refine (marks_First.calls k a0 A1 c1 l1 _ false _ HTAB.out HR.out HC.out HQ.out).mono ?_); rintro e1 w1 ⟨v, rfl, hR, hb⟩; obtain ⟨Ao, co, rfl, _, _⟩ := Kd.R_reads hR; replace HB := A_ hb; clear hb hR) | ((with_reducible refine gD 11 ?_); refine gL 11 Tryz.func130 #[.int .i64 a0, .slice A1 l1.length c1, .func (.func 131) #[] #[]] ?_; (with_reducible refine (marks_First.calls k a0 A1 c1 l1 _ false _ HTAB.out HR.out HC.out HQ.out).mono ?_); rintro e1 w1 ⟨v, rfl, hR, hb⟩; refine ⟨_, rfl, ?_⟩; obtain ⟨Ao, co, rfl, _, _⟩ := Kd.R_reads hR; replace HB := A_ hb; clear hb hR))
    go_ret2; exact ⟨_, re_, Kd.R_nil _ _ _ _ _, hs_⟩
theorem marks_Last.calls (k : Nat) (kind : Int) (A0 : Option Addr) (c0 : Nat) (l r : List S71) (b : Bool) (w : World) (htab : TL w.heap.size w) (hr0 : Kd.C k71 w A0 l.length l) (hc0 : l.length ≤ c0) (h : image_marksv.f unit_Last.val k kind l = some (r, b)) :
    Calls Tryz.prog 130 #[.int .i64 kind, .slice A0 l.length c0, .func (.func 132) #[] #[]] w fun e w' => ∃ v0_ : Value, e = .returned (.tuple #[v0_, .bool b]) ∧ Kd.R k71 71 w' w.heap.size (fun _ => True) v0_ r ∧ Below w.heap.size w w' := by
  unfold image_marksv.f at h
  by_cases hk : kind = 0
  · subst hk
    refine marks_zero 132 (fun _ _ => none) k A0 c0 l r b w hr0 hc0 ?_
    unfold image_marks.f
    obtain ⟨u, hu, h⟩ := Option.bind_eq_some_iff.mp h
    rw [if_pos rfl] at h
    rw [hu, Option.bind_some, if_pos rfl]; exact h
  obtain ⟨u, hu, h⟩ := Option.bind_eq_some_iff.mp h
  rw [if_neg hk] at h
  obtain ⟨c, hc, h⟩ := Option.bind_eq_some_iff.mp h
  by_cases h4 : c > 400
  · rw [if_pos h4] at h
    obtain ⟨rfl, rfl⟩ := Prod.mk.inj (Option.some.inj h)
    exact (marks_many 132 k kind A0 c0 l u c w hr0 hc0 hk hu hc h4).mono fun e w' ⟨he, hb⟩ => ⟨_, he, Kd.R_nil _ _ _ _ _, hb⟩
  rw [if_neg h4] at h
  by_cases ho : okU u
  · rw [if_pos ho] at h
    obtain ⟨r1, hr1, h⟩ := Option.bind_eq_some_iff.mp h
    obtain ⟨rfl, rfl⟩ := Prod.mk.inj (Option.some.inj h)
    exact marks_loopL k kind A0 c0 l u c r1 w htab hr0 hc0 hk hu hc h4 ho hr1
  · rw [if_neg ho] at h; exact absurd h (by simp)
theorem image_marksv.mono (v : Int → Int → Int × Bool) : ∀ a0 a1 k, LeO (image_marksv.f v k a0 a1) (image_marksv.f v (k + 1) a0 a1) := by
  intro a0 a1 k
  unfold image_marksv.f
  repeat' first | (with_reducible exact image_units.mono _ _ _) | (with_reducible exact sets_Wide.mono _ _) | (with_reducible exact runs_Count.mono _ _) | (with_reducible exact runs_Of.mono _ _) | (with_reducible exact LeO.refl _) | (with_reducible exact LeO.none _) | (with_reducible refine LeO.ite ?_ ?_) | (with_reducible refine LeO.bind ?_ (fun _ => ?_))
theorem image_Starts.mono : ∀ a0 a1 k, LeO (image_Starts.f k a0 a1) (image_Starts.f (k + 1) a0 a1) := by
  intro a0 a1 k
  unfold image_Starts.f
  exact LeO.bind (image_marksv.mono _ _ _ _) (fun _ => LeO.refl _)
end Go.Proofs.YthppfagfmjchoaaGreatDoor.A
namespace Go.Proofs.YthppfagfmjchoaaGreatDoor.A
open Go.RowKit Go.Proofs.YthppfagfmjchoaaGreatDoorW.PrintWords Go.Proofs.YthppfagfmjchoaaGreatDoorW.PrintLast Go.Proofs.YthppfagfmjchoaaGreatDoorW.PrintMore
attribute [local go_sem] max2_int min2_int max_two min_two max_three min_three max_four min_four
def point_known.f (k : Nat) (a0 : Int) (l1 : List (S71)) : Option ((List (S71)) × Int) := (image_Starts.f k a0 l1).bind fun bt148 => (if bt148.2 = true then (some (l1, 0)) else (some (([] : List (S71)), 8)))
theorem point_known.mono : ∀ a0 a1 k, LeO (point_known.f k a0 a1) (point_known.f (k + 1) a0 a1) := by
  intro a0 a1 k
  unfold point_known.f
  repeat' first
      | (with_reducible exact image_Starts.mono _ _ _)
      | (with_reducible exact LeO.refl _)
      | (with_reducible exact LeO.none _)
      | (with_reducible refine LeO.ite ?_ ?_)
      | (with_reducible refine LeO.bind ?_ (fun _ => ?_))
      | exact image_Starts.mono _ _ _
      | exact LeO.none _
      | refine LeO.ite ?_ ?_
      | refine LeO.bind ?_ (fun _ => ?_)
def point_some.f (k : Nat) (a0 : ByteArray) (a1 : Int) (a2 : Int) : Option (Bool) := if (a0.size : Int) = a1 then ((point_numbers.f k a0 a2).bind fun t142 => (some (decide ((t142.length : Int) > 0)))) else (some false)
theorem point_some.mono : ∀ a0 a1 a2 k, LeO (point_some.f k a0 a1 a2) (point_some.f (k + 1) a0 a1 a2) := by
  intro a0 a1 a2 k
  unfold point_some.f
  repeat' (with_reducible first | apply point_numbers.mono | exact LeO.refl _ | exact LeO.none _ | refine LeO.ite ?_ ?_ | refine LeO.bind ?_ fun _ => ?_)
def point_Sane.j0 : Nat → Bool → Int → ByteArray → ByteArray → ByteArray → Option (Bool)
  | 0, _, _, _, _, _ => none
  | k + 1, x3, x146000, x146001, x146002, x146003 => if x146000 = 0 then (if (x146001.size : Int) = 4 then ((point_some.f k x146002 2 12).bind fun t147 => (if t147 = true then ((point_some.f k x146003 2 31).bind fun t148 => (some t148)) else (some false))) else (some false)) else (if x146000 = 1 then (if (x146001.size : Int) = 4 then ((point_some.f k x146002 2 12).bind fun t149 => (if t149 = true then (some (x146003.toList == ([] : List UInt8))) else (some false))) else (some false)) else (if x146000 = 2 then (if (x146001.size : Int) = 4 then ((point_some.f k x146002 1 4).bind fun t150 => (if t150 = true then (some (x146003.toList == ([] : List UInt8))) else (some false))) else (some false)) else (if x146000 = 3 then (if (x146001.size : Int) = 4 then (some x3) else (some false)) else (if x146000 = 4 then (if (x146001.size : Int) = 3 then (some x3) else (some false)) else (if x146000 = 5 then (if (x146001.size : Int) = 2 then (some x3) else (some false)) else (some false))))))
def point_Sane.f (k : Nat) (a0_0 : Int) (a0_1 : ByteArray) (a0_2 : ByteArray) (a0_3 : ByteArray) : Option (Bool) := (mask_Sane.f a0_1).bind fun t146 => (if t146 = true then (if a0_2.toList = ([] : List UInt8) then (point_Sane.j0 k (a0_3.toList == ([] : List UInt8)) a0_0 a0_1 a0_2 a0_3) else (point_Sane.j0 k false a0_0 a0_1 a0_2 a0_3)) else (some false))
theorem point_Sane.mono_l : ∀ k, (∀ y0 y1 y2 y3 y4, LeO (point_Sane.j0 k y0 y1 y2 y3 y4) (point_Sane.j0 (k + 1) y0 y1 y2 y3 y4))
  | 0 => fun _ _ _ _ _ r h => by simp [point_Sane.j0] at h
  | k + 1 => by
    have ih0 := point_Sane.mono_l k
    · intro y0 y1 y2 y3 y4
      unfold point_Sane.j0
      repeat' (with_reducible first | apply ih0 | apply point_some.mono | exact LeO.refl _ | exact LeO.none _ | refine LeO.ite ?_ ?_ | refine LeO.bind ?_ fun _ => ?_)
theorem point_Sane.mono : ∀ a0 a1 a2 a3 k, LeO (point_Sane.f k a0 a1 a2 a3) (point_Sane.f (k + 1) a0 a1 a2 a3) := by
  intro a0 a1 a2 a3 k
  have ih0 := point_Sane.mono_l k
  unfold point_Sane.f
  repeat' (with_reducible first | apply ih0 | apply point_some.mono | exact LeO.refl _ | exact LeO.none _ | refine LeO.ite ?_ ?_ | refine LeO.bind ?_ fun _ => ?_)
def point_Set.f (k : Nat) (a0_0 : Int) (a0_1 : ByteArray) (a0_2 : ByteArray) (a0_3 : ByteArray) : Option ((List (S71)) × Int) := (point_Sane.f k a0_0 a0_1 a0_2 a0_3).bind fun t153 => (if t153 = true then ((mask_Set.f a0_1).bind fun t154 => (if a0_0 = 0 then ((point_dated.f k a0_0 a0_1 a0_2 a0_3).bind fun t157 => ((point_known.f k a0_0 t157).bind fun bt160 => (some (bt160.1, bt160.2)))) else (if a0_0 = 1 then ((point_parts.f k a0_0 a0_1 a0_2 a0_3 12).bind fun t164 => ((point_known.f k a0_0 t164).bind fun bt167 => (some (bt167.1, bt167.2)))) else (if a0_0 = 2 then ((point_parts.f k a0_0 a0_1 a0_2 a0_3 4).bind fun t171 => ((point_known.f k a0_0 t171).bind fun bt174 => (some (bt174.1, bt174.2)))) else ((point_known.f k a0_0 t154).bind fun bt178 => (some (bt178.1, bt178.2))))))) else (some (([] : List (S71)), 2)))
theorem point_Set.mono : ∀ a0 a1 a2 a3 k, LeO (point_Set.f k a0 a1 a2 a3) (point_Set.f (k + 1) a0 a1 a2 a3) := by
  intro a0 a1 a2 a3 k
  unfold point_Set.f
  repeat' first
      | (with_reducible exact point_Sane.mono _ _ _ _ _)
      | (with_reducible exact point_dated.mono _ _ _ _ _)
      | (with_reducible exact point_known.mono _ _ _)
      | (with_reducible exact point_parts.mono _ _ _ _ _ _)
      | (with_reducible exact LeO.refl _)
      | (with_reducible exact LeO.none _)
      | (with_reducible refine LeO.ite ?_ ?_)
      | (with_reducible refine LeO.bind ?_ (fun _ => ?_))
      | exact point_Sane.mono _ _ _ _ _
      | exact point_dated.mono _ _ _ _ _
      | exact point_known.mono _ _ _
      | exact point_parts.mono _ _ _ _ _ _
      | exact LeO.none _
      | refine LeO.ite ?_ ?_
      | refine LeO.bind ?_ (fun _ => ?_)
def lustrumref08_numbers.l0 : Nat → ByteArray → Int → List Int → Int → Option (List Int)
  | 0, _, _, _, _ => none
  | k + 1, x0, x2, x7, x8 => if x8 ≤ x2 then ((lustrumref06_Match.f k x0 x8).bind fun t164 => (if t164 = true then (if x7.length < 17592186044416 then (lustrumref08_numbers.l0 k x0 x2 (x7 ++ [x8]) (wrap64 (x8 + 1))) else (none)) else (lustrumref08_numbers.l0 k x0 x2 x7 (wrap64 (x8 + 1))))) else (some x7)
def lustrumref08_numbers.f (k : Nat) (a0 : ByteArray) (a1 : Int) (a2 : Int) : Option (List Int) := lustrumref08_numbers.l0 k a0 a2 ([] : List Int) a1
def lustrumref08_put.f (l0 : List (S71)) (a1 : Int) : Option ((List (S71))) := if (wrap64 ((l0.length : Int) - 1)) ≥ 0 then (if 0 ≤ (wrap64 ((l0.length : Int) - 1)) then (if (wrap64 ((l0.length : Int) - 1)) < (l0.length : Int) then (if ((rd_T71 l0 (wrap64 ((l0.length : Int) - 1))).f1) = (wrap64 (a1 - 1)) then (some (l0.set ((wrap64 ((l0.length : Int) - 1)) : Int).toNat (⟨(rd_T71 l0 (wrap64 ((l0.length : Int) - 1))).f0, a1⟩ : S71))) else (if l0.length < 8796093022208 then (some (l0 ++ [(⟨a1, a1⟩ : S71)])) else (none))) else (none)) else (none)) else (if l0.length < 8796093022208 then (some (l0 ++ [(⟨a1, a1⟩ : S71)])) else (none))
def lustrumref02_Leap.f (a0 : Int) : Option (Bool) := if (Int.tmod a0 4) = 0 then (if (Int.tmod a0 100) = 0 then (some ((Int.tmod a0 400) == 0)) else (some true)) else (some ((Int.tmod a0 400) == 0))
mutual
def lustrumref02_Days.j0 : Nat → Int → Int → Bool → Option (Int)
  | 0, _, _, _ => none
  | k + 1, x0, x5, x6 => if x6 = true then (some 31) else (if x5 = 4 then (lustrumref02_Days.j1 k x0 x5 (x5 == 4)) else (if x5 = 6 then (lustrumref02_Days.j1 k x0 x5 (x5 == 6)) else (if x5 = 9 then (lustrumref02_Days.j1 k x0 x5 (x5 == 9)) else (lustrumref02_Days.j1 k x0 x5 (x5 == 11)))))
def lustrumref02_Days.j1 : Nat → Int → Int → Bool → Option (Int)
  | 0, _, _, _ => none
  | k + 1, x0, x5, x14 => if x14 = true then (some 30) else (if x5 = 2 then ((lustrumref02_Leap.f x0).bind fun t177 => (if t177 = true then (some 29) else (some 28))) else (some 0))
end
def lustrumref02_Days.f (k : Nat) (a0 : Int) (a1 : Int) : Option (Int) := if a1 = 1 then (lustrumref02_Days.j0 k a0 a1 (a1 == 1)) else (if a1 = 3 then (lustrumref02_Days.j0 k a0 a1 (a1 == 3)) else (if a1 = 5 then (lustrumref02_Days.j0 k a0 a1 (a1 == 5)) else (if a1 = 7 then (lustrumref02_Days.j0 k a0 a1 (a1 == 7)) else (if a1 = 8 then (lustrumref02_Days.j0 k a0 a1 (a1 == 8)) else (if a1 = 10 then (lustrumref02_Days.j0 k a0 a1 (a1 == 10)) else (lustrumref02_Days.j0 k a0 a1 (a1 == 12)))))))
def lustrumref02_Valid.f (k : Nat) (a0 : Int) (a1 : Int) (a2 : Int) : Option (Bool) := if a0 ≥ 0 then (if a0 ≤ 9999 then (if a2 ≥ 1 then ((lustrumref02_Days.f k a0 a1).bind fun t178 => (some (decide (a2 ≤ t178)))) else (some false)) else (some false)) else (some false)
def lustrumref02_start.f (a0 : Int) : Option (Int) := some (wrap64 ((wrap64 ((wrap64 ((wrap64 (a0 * 365)) + (wrap64 (Int.tdiv (wrap64 (a0 + 3)) 4)))) - (wrap64 (Int.tdiv (wrap64 (a0 + 99)) 100)))) + (wrap64 (Int.tdiv (wrap64 (a0 + 399)) 400))))
def lustrumref02_Number.l0 : Nat → Int → Int → Int → Int → Option (Int × Bool)
  | 0, _, _, _, _ => none
  | k + 1, x0, x1, x8, x9 => if x9 < x1 then ((lustrumref02_Days.f k x0 x9).bind fun t181 => (lustrumref02_Number.l0 k x0 x1 (wrap64 (x8 + t181)) (wrap64 (x9 + 1)))) else (some (x8, true))
def lustrumref02_Number.f (k : Nat) (a0 : Int) (a1 : Int) (a2 : Int) : Option (Int × Bool) := (lustrumref02_Valid.f k a0 a1 a2).bind fun t179 => (if t179 = true then ((lustrumref02_start.f a0).bind fun t180 => (lustrumref02_Number.l0 k a0 a1 (wrap64 ((wrap64 (t180 + a2)) - 1)) 1)) else (some (0, false)))
mutual
def lustrumref08_days.l0 : Nat → List Int → List Int → List Int → List (S71) → Int → Option ((List (S71)))
  | 0, _, _, _, _, _ => none
  | k + 1, x3, x4, x5, x6, x7 => if x7 < (x3.length : Int) then (lustrumref08_days.j1 k x3 x4 x5 x6 x7 (decide ((x6.length : Int) ≤ 400))) else (lustrumref08_days.j1 k x3 x4 x5 x6 x7 false)
def lustrumref08_days.j1 : Nat → List Int → List Int → List Int → List (S71) → Int → Bool → Option ((List (S71)))
  | 0, _, _, _, _, _, _ => none
  | k + 1, x3, x4, x5, x6, x7, x29 => if x29 = true then (lustrumref08_days.l1 k x3 x4 x5 x6 x7 0) else (some x6)
def lustrumref08_days.l1 : Nat → List Int → List Int → List Int → List (S71) → Int → Int → Option ((List (S71)))
  | 0, _, _, _, _, _, _ => none
  | k + 1, x3, x4, x5, x6, x7, x8 => if x8 < (x4.length : Int) then (if 0 ≤ x7 then (if x7 < (x3.length : Int) then (if 0 ≤ x8 then ((lustrumref02_Number.f k (rd x3 x7) (rd x4 x8) 1).bind fun bt194 => (lustrumref08_days.l2 k x3 x4 x5 x6 x7 x8 bt194.1 0)) else (none)) else (none)) else (none)) else (lustrumref08_days.l0 k x3 x4 x5 x6 (wrap64 (x7 + 1)))
def lustrumref08_days.l2 : Nat → List Int → List Int → List Int → List (S71) → Int → Int → Int → Int → Option ((List (S71)))
  | 0, _, _, _, _, _, _, _, _ => none
  | k + 1, x3, x4, x5, x6, x7, x8, x9, x11 => if x11 < (x5.length : Int) then (if 0 ≤ x11 then (if 0 ≤ x7 then (if x7 < (x3.length : Int) then (if 0 ≤ x8 then (if x8 < (x4.length : Int) then ((lustrumref02_Days.f k (rd x3 x7) (rd x4 x8)).bind fun t199 => (if (rd x5 x11) ≤ t199 then ((lustrumref08_put.f x6 (wrap64 ((wrap64 (x9 + (rd x5 x11))) - 1))).bind fun t201 => (lustrumref08_days.l2 k x3 x4 x5 t201 x7 x8 x9 (wrap64 (x11 + 1)))) else (lustrumref08_days.l2 k x3 x4 x5 x6 x7 x8 x9 (wrap64 (x11 + 1))))) else (none)) else (none)) else (none)) else (none)) else (none)) else (lustrumref08_days.l1 k x3 x4 x5 x6 x7 (wrap64 (x8 + 1)))
end
def lustrumref08_days.f (k : Nat) (a0_0 : Int) (a0_1 : ByteArray) (a0_2 : ByteArray) (a0_3 : ByteArray) : Option ((List (S71))) := (lustrumref08_numbers.f k a0_1 0 9999).bind fun t183 => ((lustrumref08_numbers.f k a0_2 1 12).bind fun t186 => ((lustrumref08_numbers.f k a0_3 1 31).bind fun t189 => (lustrumref08_days.l0 k t183 t186 t189 ([] : List (S71)) 0)))
mutual
def lustrumref08_units.j0 : Nat → List Int → List (S71) → Bool → Int → ByteArray → ByteArray → ByteArray → Option ((List (S71)))
  | 0, _, _, _, _, _, _, _ => none
  | k + 1, x3, x4, x19, x205000, x205001, x205002, x205003 => if x19 = true then (if x205000 = 2 then (lustrumref08_units.j1 k x3 x4 4 x205000 x205001 x205002 x205003) else (lustrumref08_units.j1 k x3 x4 12 x205000 x205001 x205002 x205003)) else (lustrumref08_units.l2 k x3 x4 0)
def lustrumref08_units.j1 : Nat → List Int → List (S71) → Int → Int → ByteArray → ByteArray → ByteArray → Option ((List (S71)))
  | 0, _, _, _, _, _, _, _ => none
  | k + 1, x3, x4, x5, x205000, x205001, x205002, x205003 => (lustrumref08_numbers.f k x205002 1 x5).bind fun t211 => (lustrumref08_units.l0 k x3 x4 x5 t211 0)
def lustrumref08_units.l0 : Nat → List Int → List (S71) → Int → List Int → Int → Option ((List (S71)))
  | 0, _, _, _, _, _ => none
  | k + 1, x3, x4, x5, x6, x7 => if x7 < (x3.length : Int) then (lustrumref08_units.l1 k x3 x4 x5 x6 x7 0) else (some x4)
def lustrumref08_units.l1 : Nat → List Int → List (S71) → Int → List Int → Int → Int → Option ((List (S71)))
  | 0, _, _, _, _, _, _ => none
  | k + 1, x3, x4, x5, x6, x7, x8 => if x8 < (x6.length : Int) then (if 0 ≤ x7 then (if x7 < (x3.length : Int) then (if 0 ≤ x8 then ((lustrumref08_put.f x4 (wrap64 ((wrap64 ((wrap64 ((rd x3 x7) * x5)) + (rd x6 x8))) - 1))).bind fun t216 => (lustrumref08_units.l1 k x3 t216 x5 x6 x7 (wrap64 (x8 + 1)))) else (none)) else (none)) else (none)) else (lustrumref08_units.l0 k x3 x4 x5 x6 (wrap64 (x7 + 1)))
def lustrumref08_units.l2 : Nat → List Int → List (S71) → Int → Option ((List (S71)))
  | 0, _, _, _ => none
  | k + 1, x3, x4, x9 => if x9 < (x3.length : Int) then (if 0 ≤ x9 then ((lustrumref08_put.f x4 (rd x3 x9)).bind fun t220 => (lustrumref08_units.l2 k x3 t220 (wrap64 (x9 + 1)))) else (none)) else (some x4)
end
def lustrumref08_units.f (k : Nat) (a0_0 : Int) (a0_1 : ByteArray) (a0_2 : ByteArray) (a0_3 : ByteArray) : Option ((List (S71))) := (lustrumref08_numbers.f k a0_1 0 9999).bind fun t205 => (if a0_0 = 0 then ((lustrumref08_days.f k a0_0 a0_1 a0_2 a0_3).bind fun t208 => (some t208)) else (if a0_0 = 1 then (lustrumref08_units.j0 k t205 ([] : List (S71)) (a0_0 == 1) a0_0 a0_1 a0_2 a0_3) else (lustrumref08_units.j0 k t205 ([] : List (S71)) (a0_0 == 2) a0_0 a0_1 a0_2 a0_3)))
def lustrumref04_put.l0 : Nat → List (S71) → List (S71) → List (S71) → Int → Int → Int → Option ((List (S71)))
  | 0, _, _, _, _, _, _ => none
  | k + 1, x0, x6, x7, x8, x225000, x225001 => if x8 < (x0.length : Int) then (if 0 ≤ x8 then (if ((rd_T71 x0 x8).f1) < (wrap64 (x225000 - 1)) then (if x6.length < 8796093022208 then (lustrumref04_put.l0 k x0 (x6 ++ [(⟨(rd_T71 x0 x8).f0, (rd_T71 x0 x8).f1⟩ : S71)]) x7 (wrap64 (x8 + 1)) x225000 x225001) else (none)) else (if ((rd_T71 x0 x8).f0) > (wrap64 (x225001 + 1)) then (if x7.length < 8796093022208 then (lustrumref04_put.l0 k x0 x6 (x7 ++ [(⟨(rd_T71 x0 x8).f0, (rd_T71 x0 x8).f1⟩ : S71)]) (wrap64 (x8 + 1)) x225000 x225001) else (none)) else (lustrumref04_put.l0 k x0 x6 x7 (wrap64 (x8 + 1)) (mn x225000 ((rd_T71 x0 x8).f0)) (mx x225001 ((rd_T71 x0 x8).f1))))) else (none)) else (if x6.length < 8796093022208 then ((some (x6 ++ [(⟨x225000, x225001⟩ : S71)] : List (S71))).bind fun y225 => (if y225.length + x7.length < 8796093022208 then (some (y225 ++ x7)) else (none))) else (none))
def lustrumref04_put.f (k : Nat) (l0 : List (S71)) (a1_0 : Int) (a1_1 : Int) : Option ((List (S71))) := if (mx a1_0 (-1099511627776)) > (mn a1_1 1099511627776) then (some l0) else (lustrumref04_put.l0 k l0 ([] : List (S71)) ([] : List (S71)) 0 (mx a1_0 (-1099511627776)) (mn a1_1 1099511627776))
def lustrumref04_Make.l0 : Nat → List (S71) → List (S71) → Int → Option ((List (S71)))
  | 0, _, _, _ => none
  | k + 1, x0, x3, x4 => if x4 < (x0.length : Int) then (if 0 ≤ x4 then ((lustrumref04_put.f k x3 ((rd_T71 x0 x4).f0) ((rd_T71 x0 x4).f1)).bind fun t244 => (lustrumref04_Make.l0 k x0 t244 (wrap64 (x4 + 1)))) else (none)) else (some x3)
def lustrumref04_Make.f (k : Nat) (l0 : List (S71)) : Option ((List (S71))) := lustrumref04_Make.l0 k l0 ([] : List (S71)) 0
def lustrumref04_Sane.l0 : Nat → List (S71) → Int → Option (Bool)
  | 0, _, _ => none
  | k + 1, x0, x3 => if x3 < (x0.length : Int) then (if 0 ≤ x3 then (if ((rd_T71 x0 x3).f0) > ((rd_T71 x0 x3).f1) then (some false) else (if ((rd_T71 x0 x3).f0) < (-1099511627776) then (some false) else (if ((rd_T71 x0 x3).f1) > 1099511627776 then (some false) else (if x3 > 0 then (if 0 ≤ (wrap64 (x3 - 1)) then (if (wrap64 (x3 - 1)) < (x0.length : Int) then (if (wrap64 (((rd_T71 x0 x3).f0) - 1)) ≤ ((rd_T71 x0 (wrap64 (x3 - 1))).f1) then (some false) else (lustrumref04_Sane.l0 k x0 (wrap64 (x3 + 1)))) else (none)) else (none)) else (lustrumref04_Sane.l0 k x0 (wrap64 (x3 + 1))))))) else (none)) else (some true)
def lustrumref04_Sane.f (k : Nat) (l0 : List (S71)) : Option (Bool) := lustrumref04_Sane.l0 k l0 0
def lustrumref04_As.f (k : Nat) (l0 : List (S71)) : Option ((List (S71))) := (lustrumref04_Sane.f k l0).bind fun t253 => (if t253 = true then (some l0) else ((lustrumref04_Make.f k l0).bind fun t254 => (some t254)))
mutual
def lustrumref05_Meet.l0 : Nat → List (S71) → List (S71) → List (S71) → Int → Option ((List (S71)))
  | 0, _, _, _, _ => none
  | k + 1, x5, x6, x7, x8 => if x8 < (x5.length : Int) then (lustrumref05_Meet.l1 k x5 x6 x7 x8 0) else (some x7)
def lustrumref05_Meet.l1 : Nat → List (S71) → List (S71) → List (S71) → Int → Int → Option ((List (S71)))
  | 0, _, _, _, _, _ => none
  | k + 1, x5, x6, x7, x8, x9 => if x9 < (x6.length : Int) then (if 0 ≤ x8 then (if x8 < (x5.length : Int) then (if 0 ≤ x9 then (if (mx ((rd_T71 x5 x8).f0) ((rd_T71 x6 x9).f0)) ≤ (mn ((rd_T71 x5 x8).f1) ((rd_T71 x6 x9).f1)) then (if x7.length < 8796093022208 then (lustrumref05_Meet.l1 k x5 x6 (x7 ++ [(⟨mx ((rd_T71 x5 x8).f0) ((rd_T71 x6 x9).f0), mn ((rd_T71 x5 x8).f1) ((rd_T71 x6 x9).f1)⟩ : S71)]) x8 (wrap64 (x9 + 1))) else (none)) else (lustrumref05_Meet.l1 k x5 x6 x7 x8 (wrap64 (x9 + 1)))) else (none)) else (none)) else (none)) else (lustrumref05_Meet.l0 k x5 x6 x7 (wrap64 (x8 + 1)))
end
def lustrumref05_Meet.f (k : Nat) (l0 : List (S71)) (l1 : List (S71)) : Option ((List (S71))) := (lustrumref04_As.f k l0).bind fun t257 => ((lustrumref04_As.f k l1).bind fun t260 => (lustrumref05_Meet.l0 k t257 t260 ([] : List (S71)) 0))
def lustrumref05_Clip.f (k : Nat) (l0 : List (S71)) (a1 : Int) (a2 : Int) : Option ((List (S71))) := (lustrumref05_Meet.f k l0 (([(⟨a1, a2⟩ : S71)] : List (S71)))).bind fun t277 => (some t277)
def lustrumref03_Count.f (a0 : Int) : Option (Int) := if a0 = 0 then (some 3652425) else (if a0 = 1 then (some 120000) else (if a0 = 2 then (some 40000) else (if a0 = 3 then (some 10000) else (if a0 = 4 then (some 1000) else (if a0 = 5 then (some 100) else (some 0))))))
def lustrumref07_Units.f (k : Nat) (a0 : Int) (l1 : List (S71)) : Option ((List (S71))) := (lustrumref03_Count.f a0).bind fun t280 => ((lustrumref05_Clip.f k l1 0 (wrap64 (t280 - 1))).bind fun t281 => (some t281))
def lustrumref03_First.j0 : Nat → Int → Int → Bool → Option (Int × Bool)
  | 0, _, _, _ => none
  | k + 1, x0, x1, x13 => if x13 = true then (some (0, false)) else (if x0 = 0 then (some (x1, true)) else (if x0 = 1 then ((lustrumref02_Number.f k (wrap64 (Int.tdiv x1 12)) (wrap64 ((Int.tmod x1 12) + 1)) 1).bind fun bt285 => (some (bt285.1, bt285.2))) else (if x0 = 2 then ((lustrumref02_Number.f k (wrap64 (Int.tdiv x1 4)) (wrap64 ((wrap64 ((Int.tmod x1 4) * 3)) + 3)) 1).bind fun bt287 => (some (bt287.1, bt287.2))) else (if x0 = 3 then ((lustrumref02_Number.f k x1 1 1).bind fun bt289 => (some (bt289.1, bt289.2))) else (if x0 = 4 then ((lustrumref02_Number.f k (wrap64 (x1 * 10)) 1 1).bind fun bt291 => (some (bt291.1, bt291.2))) else ((lustrumref02_Number.f k (wrap64 (x1 * 100)) 1 1).bind fun bt293 => (some (bt293.1, bt293.2))))))))
def lustrumref03_First.f (k : Nat) (a0 : Int) (a1 : Int) : Option (Int × Bool) := if a1 < 0 then (lustrumref03_First.j0 k a0 a1 true) else ((lustrumref03_Count.f a0).bind fun t284 => (lustrumref03_First.j0 k a0 a1 (decide (a1 ≥ t284))))
def lustrumref03_Last.j0 : Nat → Int → Int → Bool → Option (Int × Bool)
  | 0, _, _, _ => none
  | k + 1, x0, x1, x15 => if x15 = true then (some (0, false)) else ((lustrumref03_First.f k x0 (wrap64 (x1 + 1))).bind fun bt296 => (if bt296.2 = true then (some (wrap64 (bt296.1 - 1), true)) else (some (3652424, true))))
def lustrumref03_Last.f (k : Nat) (a0 : Int) (a1 : Int) : Option (Int × Bool) := if a1 < 0 then (lustrumref03_Last.j0 k a0 a1 true) else ((lustrumref03_Count.f a0).bind fun t295 => (lustrumref03_Last.j0 k a0 a1 (decide (a1 ≥ t295))))
mutual
def lustrumref07_ends.l0 : Nat → Int → Bool → List (S71) → List (S71) → Int → Option ((List (S71)) × Bool)
  | 0, _, _, _, _, _ => none
  | k + 1, x0, x2, x8, x9, x10 => if x10 < (x8.length : Int) then (if 0 ≤ x10 then (lustrumref07_ends.l1 k x0 x2 x8 x9 x10 ((rd_T71 x8 x10).f0)) else (none)) else (some (x9, true))
def lustrumref07_ends.l1 : Nat → Int → Bool → List (S71) → List (S71) → Int → Int → Option ((List (S71)) × Bool)
  | 0, _, _, _, _, _, _ => none
  | k + 1, x0, x2, x8, x9, x10, x11 => if 0 ≤ x10 then (if x10 < (x8.length : Int) then (if x11 ≤ ((rd_T71 x8 x10).f1) then ((lustrumref03_First.f k x0 x11).bind fun bt303 => (if x2 = true then ((lustrumref03_Last.f k x0 x11).bind fun bt305 => (if x9.length < 8796093022208 then ((some (x9 ++ [(⟨bt305.1, bt305.1⟩ : S71)] : List (S71))).bind fun y307 => (if (y307.length : Int) > 400 then (some (([] : List (S71)), false)) else (lustrumref07_ends.l1 k x0 x2 x8 y307 x10 (wrap64 (x11 + 1))))) else (none))) else (if x9.length < 8796093022208 then ((some (x9 ++ [(⟨bt303.1, bt303.1⟩ : S71)] : List (S71))).bind fun y310 => (if (y310.length : Int) > 400 then (some (([] : List (S71)), false)) else (lustrumref07_ends.l1 k x0 x2 x8 y310 x10 (wrap64 (x11 + 1))))) else (none)))) else (lustrumref07_ends.l0 k x0 x2 x8 x9 (wrap64 (x10 + 1)))) else (none)) else (none)
end
def lustrumref07_ends.f (k : Nat) (a0 : Int) (l1 : List (S71)) (a2 : Bool) : Option ((List (S71)) × Bool) := (lustrumref07_Units.f k a0 l1).bind fun t298 => (if a0 = 0 then (some (t298, decide ((t298.length : Int) ≤ 400))) else (lustrumref07_ends.l0 k a0 a2 t298 ([] : List (S71)) 0))
def lustrumref07_Starts.f (k : Nat) (a0 : Int) (l1 : List (S71)) : Option ((List (S71)) × Bool) := (lustrumref07_ends.f k a0 l1 false).bind fun bt313 => (if bt313.2 = true then (some (bt313.1, true)) else (some (([] : List (S71)), false)))
def lustrumref08_Set.f (k : Nat) (a0_0 : Int) (a0_1 : ByteArray) (a0_2 : ByteArray) (a0_3 : ByteArray) : Option ((List (S71)) × Int) := (lustrumref08_Sane.f k a0_0 a0_1 a0_2 a0_3).bind fun t318 => (if t318 = true then ((lustrumref08_units.f k a0_0 a0_1 a0_2 a0_3).bind fun t319 => ((lustrumref07_Starts.f k a0_0 t319).bind fun bt322 => (if bt322.2 = true then (some (t319, 0)) else (some (([] : List (S71)), 8))))) else (some (([] : List (S71)), 2)))
def point_Radius.f (a0 : Int) : Option (Int) := if a0 = 0 then (some 3) else (if a0 = 3 then (some 2) else (if a0 < 0 then (some 0) else (if a0 > 5 then (some 0) else (some 1))))
def sets_moved.l0 : Nat → Int → Int → List (S71) → List (S71) → Int → Int → Option ((List (S71)))
  | 0, _, _, _, _, _, _ => none
  | k + 1, x1, x2, x7, x11, x12, x13 => if x13 < x12 then (if 0 ≤ x13 then (if x13 < (x11.length : Int) then (if x7.length < 8796093022208 then (sets_moved.l0 k x1 x2 (x7 ++ [(⟨wrap64 (((rd_T71 x11 x13).f0) + x1), wrap64 (((rd_T71 x11 x13).f1) + x2)⟩ : S71)]) x11 x12 (wrap64 (x13 + 1))) else (none)) else (none)) else (none)) else ((runs_Make.f x7).bind fun t134 => (some t134))
def sets_moved.f (k : Nat) (l0 : List (S71)) (a1 : Int) (a2 : Int) : Option ((List (S71))) := (sets_known.f k l0).bind fun t126 => (sets_moved.l0 k a1 a2 ([] : List (S71)) t126 (t126.length : Int) 0)
def sets_Grow.f (k : Nat) (l0 : List (S71)) (a1 : Int) : Option ((List (S71))) := (sets_moved.f k l0 (-(mx 0 (mn a1 2199023255552))) (mx 0 (mn a1 2199023255552))).bind fun t137 => (some t137)
def point_Near.f (k : Nat) (a0_0 : Int) (a0_1 : ByteArray) (a0_2 : ByteArray) (a0_3 : ByteArray) : Option ((List (S71)) × Int) := (point_Set.f k a0_0 a0_1 a0_2 a0_3).bind fun bt183 => (if bt183.2 = 0 then ((point_Radius.f a0_0).bind fun t187 => ((sets_Grow.f k bt183.1 t187).bind fun t188 => ((unit_Count.f a0_0).bind fun t191 => ((sets_Clip.f k t188 0 (wrap64 (t191 - 1))).bind fun t192 => ((point_known.f k a0_0 t192).bind fun bt195 => (some (bt195.1, bt195.2))))))) else (some (([] : List (S71)), bt183.2)))
def lustrumref08_Radius.f (a0 : Int) : Option (Int) := if a0 = 0 then (some 3) else (if a0 = 3 then (some 2) else (if a0 = 1 then (some 1) else (if a0 = 2 then (some 1) else (if a0 = 4 then (some 1) else (if a0 = 5 then (some 1) else (some 0))))))
def lustrumref05_Grow.l0 : Nat → List (S71) → Int → List (S71) → Int → Option ((List (S71)))
  | 0, _, _, _, _ => none
  | k + 1, x5, x6, x7, x8 => if x8 < (x5.length : Int) then (if 0 ≤ x8 then (if x7.length < 8796093022208 then (lustrumref05_Grow.l0 k x5 x6 (x7 ++ [(⟨wrap64 (((rd_T71 x5 x8).f0) - x6), wrap64 (((rd_T71 x5 x8).f1) + x6)⟩ : S71)]) (wrap64 (x8 + 1))) else (none)) else (none)) else ((lustrumref04_Make.f k x7).bind fun t351 => (some t351))
def lustrumref05_Grow.f (k : Nat) (l0 : List (S71)) (a1 : Int) : Option ((List (S71))) := (lustrumref04_As.f k l0).bind fun t343 => (lustrumref05_Grow.l0 k t343 (mn (mx a1 0) 2199023255552) ([] : List (S71)) 0)
def lustrumref08_Near.f (k : Nat) (a0_0 : Int) (a0_1 : ByteArray) (a0_2 : ByteArray) (a0_3 : ByteArray) : Option ((List (S71)) × Int) := (lustrumref08_Set.f k a0_0 a0_1 a0_2 a0_3).bind fun bt355 => (if bt355.2 = 0 then ((lustrumref08_Radius.f a0_0).bind fun t359 => ((lustrumref05_Grow.f k bt355.1 t359).bind fun t360 => ((lustrumref07_Units.f k a0_0 t360).bind fun t363 => ((lustrumref07_Starts.f k a0_0 t363).bind fun bt366 => (if bt366.2 = true then ((lustrumref04_As.f k t363).bind fun t370 => (some (t370, 0))) else (some (([] : List (S71)), 8))))))) else (some (([] : List (S71)), bt355.2)))
def lustrumref04_Same.l0 : Nat → List (S71) → List (S71) → Int → Option (Bool)
  | 0, _, _, _ => none
  | k + 1, x0, x1, x5 => if x5 < (x0.length : Int) then (if 0 ≤ x5 then (if x5 < (x1.length : Int) then (if (!(((rd_T71 x0 x5).f0) == ((rd_T71 x1 x5).f0)) || (!(((rd_T71 x0 x5).f1) == ((rd_T71 x1 x5).f1)))) = true then (some false) else (lustrumref04_Same.l0 k x0 x1 (wrap64 (x5 + 1)))) else (none)) else (none)) else (some true)
def lustrumref04_Same.f (k : Nat) (l0 : List (S71)) (l1 : List (S71)) : Option (Bool) := if (l0.length : Int) = (l1.length : Int) then (lustrumref04_Same.l0 k l0 l1 0) else (some false)
def stringslite_HasSuffix.f (a0 : ByteArray) (a1 : ByteArray) : Option (Bool) := if (a0.size : Int) ≥ (a1.size : Int) then (if 0 ≤ (wrap64 ((a0.size : Int) - (a1.size : Int))) then (if (wrap64 ((a0.size : Int) - (a1.size : Int))) ≤ (a0.size : Int) then (some ((a0.extract ((wrap64 ((a0.size : Int) - (a1.size : Int))) : Int).toNat a0.size).toList == a1.toList)) else (none)) else (none)) else (some false)
def stringslite_CutSuffix.f (a0 : ByteArray) (a1 : ByteArray) : Option (ByteArray × Bool) := (stringslite_HasSuffix.f a0 a1).bind fun t101 => (if t101 = true then (if 0 ≤ (wrap64 ((a0.size : Int) - (a1.size : Int))) then (if (wrap64 ((a0.size : Int) - (a1.size : Int))) ≤ (a0.size : Int) then (some (a0.extract 0 ((wrap64 ((a0.size : Int) - (a1.size : Int))) : Int).toNat, true)) else (none)) else (none)) else (some (a0, false)))
def strings_CutSuffix.f (a0 : ByteArray) (a1 : ByteArray) : Option (ByteArray × Bool) := (stringslite_CutSuffix.f a0 a1).bind fun bt102 => (some (bt102.1, bt102.2))
end Go.Proofs.YthppfagfmjchoaaGreatDoor.A
namespace Go.Proofs
open Go.Shelf
def Tryz.lays217_ren : Go.Shelf.Ren := ⟨fun | 217 => 208 | 266 => 226 | n => n, fun | 9 => 9 | 5 => 5 | 3 => 3 | n => n, fun | n => n⟩
theorem Tryz.lays217 : Go.Proofs.Lays.n217 Tryz.prog Tryz.lays217_ren := {
  mixed := by kernel_rfl
  f217 := Tryz.func208.trans (congrArg some (by kernel_rfl))
  f266 := Tryz.func226.trans (congrArg some (by kernel_rfl))
  t3 := Tryz.underlying3
  a3 := Tryz.isAgg3
  z3 := Tryz.sizeOf3
  v3 := Tryz.zeroValue3
  t5 := Tryz.underlying5
  a5 := Tryz.isAgg5
  z5 := Tryz.sizeOf5
  v5 := Tryz.zeroValue5
  t9 := Tryz.underlying9
  a9 := Tryz.isAgg9
  z9 := Tryz.sizeOf9
  v9 := Tryz.zeroValue9 }
open Go.RowKit Go.Lib in
theorem Tryz.stringslite_IndexByte (s : ByteArray) (c : Int) (w : World) :
    Calls Tryz.prog 208 #[.string s, .int .u8 c] w fun e w' => e = .returned (.int .i64 (Lib.indexByte s.data.toList c.toNat.toUInt8)) ∧ w' = w := Any.stringslite_IndexByte Tryz.lays217 s c w
end Go.Proofs
namespace Go.Proofs.YthppfagfmjchoaaGreatDoor.A
open Go.RowKit Go.Proofs.YthppfagfmjchoaaGreatDoorW.PrintWords Go.Proofs.YthppfagfmjchoaaGreatDoorW.PrintLast Go.Proofs.YthppfagfmjchoaaGreatDoorW.PrintMore
def stringslite_Index.f (s u : ByteArray) : Option Int := if u.size = 1 then some (Lib.indexByte s.data.toList (bt u 0).toNat.toUInt8) else none
set_option maxHeartbeats 8000000 in
set_option maxRecDepth 100000 in
theorem stringslite_Index.calls (a0 a1 : ByteArray) (r : Int) (w : World) (h : stringslite_Index.f a0 a1 = some r) :
    Calls Tryz.prog 186 #[.string a0, .string a1] w fun e w' => e = .returned (.int .i64 r) ∧ Drawn0 w w' := by
  unfold stringslite_Index.f at h
  by_cases c : a1.size = 1
  · rw [if_pos c] at h
    obtain rfl := Option.some.inj h
    have c1 : ((a1.size : Int) == 0) = false := by rw [c]; rfl
    have c2 : ((a1.size : Int) == 1) = true := by rw [c]; rfl
    have q1 : (0 < a1.size) = True := eq_true (by omega)
    have hx := bt_at a1 0
    have C := A_ c
    clear h c
    by_cases e : (a1.toList == a0.toList) = true
    · have hr : Lib.indexByte a0.data.toList (bt a1 0).toNat.toUInt8 = 0 := by
        have e1 : a1.data.toList = a0.data.toList := by rw [← ByteArray.toList_eq, ← ByteArray.toList_eq]; exact beq_iff_eq.1 e
        have l1 : a1.data.toList.length = 1 := by rw [data_length]; exact C.out
        rw [← e1]
        obtain ⟨d, hd⟩ := List.length_eq_one_iff.1 l1
        have hb : (bt a1 0).toNat.toUInt8 = d := by
          have := hx (by have := C.out; simp; omega)
          have h2 : (a1[(0 : Int).toNat]'(by have := C.out; simp; omega)) = d := by
            show a1.data[0]'_ = d
            have : a1.data.toList[0]'(by omega) = d := by simp [hd]
            rw [← this]; simp
          rw [← this, h2]
          simp
        rw [hb, hd]
        simp [Lib.indexByte]
      rw [hr]
      have HR := A_ hr
      clear hr hx
      go_enter Tryz.func186, Tryz.ntmps186
      go_wp2
      go_ret
      exact ⟨rfl, Drawn0.refl _⟩
    · have e0 := Bool.eq_false_iff.2 e
      clear e
      have hy : ∀ h : 0 < a1.size, ((a1[0]'h).toNat : Int) = bt a1 0 := hx
      clear hx
      go_enter Tryz.func186, Tryz.ntmps186
      go_wp2_with (first | (go_at_call 208; (with_reducible refine (Tryz.stringslite_IndexByte a0 (bt a1 0) _).mono ?_); rintro e w' ⟨rfl, rfl⟩))
      go_ret
      exact ⟨rfl, Drawn0.refl _⟩
  · rw [if_neg c] at h
    cases h
end Go.Proofs.YthppfagfmjchoaaGreatDoor.A
namespace Go.Proofs.YthppfagfmjchoaaGreatDoor.A
open Go.RowKit Go.Proofs.YthppfagfmjchoaaGreatDoorW.PrintWords Go.Proofs.YthppfagfmjchoaaGreatDoorW.PrintLast Go.Proofs.YthppfagfmjchoaaGreatDoorW.PrintMore
attribute [local go_sem] max2_int min2_int max_two min_two max_three min_three max_four min_four
def stringslite_Cut.f (a0 : ByteArray) (a1 : ByteArray) : Option (ByteArray × ByteArray × Bool) := (stringslite_Index.f a0 a1).bind fun t104 => (if t104 ≥ 0 then (if 0 ≤ t104 then (if t104 ≤ (a0.size : Int) then (if 0 ≤ (wrap64 (t104 + (a1.size : Int))) then (if (wrap64 (t104 + (a1.size : Int))) ≤ (a0.size : Int) then (some (a0.extract 0 (t104 : Int).toNat, a0.extract ((wrap64 (t104 + (a1.size : Int))) : Int).toNat a0.size, true)) else (none)) else (none)) else (none)) else (none)) else (some (a0, (⟨#[]⟩ : ByteArray), false)))
def strings_Cut.f (a0 : ByteArray) (a1 : ByteArray) : Option (ByteArray × ByteArray × Bool) := (stringslite_Cut.f a0 a1).bind fun bt105 => (some (bt105.1, bt105.2.1, bt105.2.2))
def point_guess.f (a0 : ByteArray) : Option (Int × ByteArray × ByteArray × ByteArray) := (strings_CutSuffix.f a0 (⟨#[100]⟩ : ByteArray)).bind fun bt109 => (if bt109.2 = true then (some (4, bt109.1, (⟨#[]⟩ : ByteArray), (⟨#[]⟩ : ByteArray))) else ((strings_CutSuffix.f a0 (⟨#[99]⟩ : ByteArray)).bind fun bt111 => (if bt111.2 = true then (some (5, bt111.1, (⟨#[]⟩ : ByteArray), (⟨#[]⟩ : ByteArray))) else ((strings_Cut.f a0 (⟨#[115]⟩ : ByteArray)).bind fun bt113 => (if bt113.2.2 = true then (some (2, bt113.1, bt113.2.1, (⟨#[]⟩ : ByteArray))) else ((strings_Cut.f a0 (⟨#[45]⟩ : ByteArray)).bind fun bt116 => (if bt116.2.2 = true then ((strings_Cut.f bt116.2.1 (⟨#[45]⟩ : ByteArray)).bind fun bt119 => (if bt119.2.2 = true then (some (0, bt116.1, bt119.1, bt119.2.1)) else (some (1, bt116.1, bt116.2.1, (⟨#[]⟩ : ByteArray))))) else (some (3, a0, (⟨#[]⟩ : ByteArray), (⟨#[]⟩ : ByteArray))))))))))
def point_Read.f (k : Nat) (a0 : ByteArray) : Option (Int × ByteArray × ByteArray × ByteArray × Bool) := (point_guess.f a0).bind fun bt123 => ((point_Sane.f k bt123.1 bt123.2.1 bt123.2.2.1 bt123.2.2.2).bind fun t128 => (if t128 = true then (some (bt123.1, bt123.2.1, bt123.2.2.1, bt123.2.2.2, true)) else (some (0, (⟨#[]⟩ : ByteArray), (⟨#[]⟩ : ByteArray), (⟨#[]⟩ : ByteArray), false))))
theorem point_Read.mono : ∀ a0 k, LeO (point_Read.f k a0) (point_Read.f (k + 1) a0) := by
  intro a0 k
  unfold point_Read.f
  repeat' first
      | (with_reducible exact point_Sane.mono _ _ _ _ _)
      | (with_reducible exact LeO.refl _)
      | (with_reducible exact LeO.none _)
      | (with_reducible refine LeO.ite ?_ ?_)
      | (with_reducible refine LeO.bind ?_ (fun _ => ?_))
      | exact point_Sane.mono _ _ _ _ _
      | exact LeO.none _
      | refine LeO.ite ?_ ?_
      | refine LeO.bind ?_ (fun _ => ?_)
def point_Text.f (k : Nat) (a0_0 : Int) (a0_1 : ByteArray) (a0_2 : ByteArray) (a0_3 : ByteArray) : Option (ByteArray) := (point_Sane.f k a0_0 a0_1 a0_2 a0_3).bind fun t188 => (if t188 = true then (if a0_0 = 0 then (if 1 + a0_3.size ≤ 9223372036854775807 then (if 1 + a0_2.size ≤ 9223372036854775807 then (if ((⟨#[45]⟩ : ByteArray) ++ a0_2).size + ((⟨#[45]⟩ : ByteArray) ++ a0_3).size ≤ 9223372036854775807 then (if a0_1.size + (((⟨#[45]⟩ : ByteArray) ++ a0_2) ++ ((⟨#[45]⟩ : ByteArray) ++ a0_3)).size ≤ 9223372036854775807 then (some (a0_1 ++ (((⟨#[45]⟩ : ByteArray) ++ a0_2) ++ ((⟨#[45]⟩ : ByteArray) ++ a0_3)))) else (none)) else (none)) else (none)) else (none)) else (if a0_0 = 1 then (if 1 + a0_2.size ≤ 9223372036854775807 then (if ((⟨#[45]⟩ : ByteArray) ++ a0_2).size + 0 ≤ 9223372036854775807 then (if a0_1.size + (((⟨#[45]⟩ : ByteArray) ++ a0_2) ++ (⟨#[]⟩ : ByteArray)).size ≤ 9223372036854775807 then (some (a0_1 ++ (((⟨#[45]⟩ : ByteArray) ++ a0_2) ++ (⟨#[]⟩ : ByteArray)))) else (none)) else (none)) else (none)) else (if a0_0 = 2 then (if 1 + a0_2.size ≤ 9223372036854775807 then (if a0_1.size + ((⟨#[115]⟩ : ByteArray) ++ a0_2).size ≤ 9223372036854775807 then (some (a0_1 ++ ((⟨#[115]⟩ : ByteArray) ++ a0_2))) else (none)) else (none)) else (if a0_0 = 4 then (if a0_1.size + 1 ≤ 9223372036854775807 then (some (a0_1 ++ (⟨#[100]⟩ : ByteArray))) else (none)) else (if a0_0 = 5 then (if a0_1.size + 1 ≤ 9223372036854775807 then (some (a0_1 ++ (⟨#[99]⟩ : ByteArray))) else (none)) else (if a0_1.size + 0 ≤ 9223372036854775807 then (some (a0_1 ++ (⟨#[]⟩ : ByteArray))) else (none))))))) else (some (⟨#[]⟩ : ByteArray)))
theorem point_Text.mono : ∀ a0 a1 a2 a3 k, LeO (point_Text.f k a0 a1 a2 a3) (point_Text.f (k + 1) a0 a1 a2 a3) := by
  intro a0 a1 a2 a3 k
  unfold point_Text.f
  repeat' (with_reducible first | apply point_Sane.mono | exact LeO.refl _ | exact LeO.none _ | refine LeO.ite ?_ ?_ | refine LeO.bind ?_ fun _ => ?_)
def lustrumlaw08_awake.f (k : Nat)  : Option (Bool) := (point_Read.f k (⟨#[49, 57, 56, 52, 115, 52]⟩ : ByteArray)).bind fun bt135 => ((point_Set.f k bt135.1 bt135.2.1 bt135.2.2.1 bt135.2.2.2.1).bind fun bt141 => ((point_Set.f k 3 (⟨#[88, 88, 88, 88]⟩ : ByteArray) (⟨#[]⟩ : ByteArray) (⟨#[]⟩ : ByteArray)).bind fun bt145 => (if bt135.2.2.2.2 = true then (if bt135.1 = 2 then (if bt135.2.1.toList = ([49, 57, 56, 52] : List UInt8) then (if bt135.2.2.1.toList = ([52] : List UInt8) then (if bt141.2 = 0 then (if (bt141.1.length : Int) = 1 then (if 0 < (bt141.1.length : Int) then (if ((rd_T71 bt141.1 0).f0) = 7939 then (if bt145.2 = 8 then ((point_Text.f k bt135.1 bt135.2.1 bt135.2.2.1 bt135.2.2.2.1).bind fun t150 => (if t150.toList = ([49, 57, 56, 52, 115, 52] : List UInt8) then ((point_Radius.f 0).bind fun t151 => (some (t151 == 3))) else (some false))) else (some false)) else (some false)) else (none)) else (some false)) else (some false)) else (some false)) else (some false)) else (some false)) else (some false))))
theorem lustrumlaw08_awake.mono : ∀ k, LeO (lustrumlaw08_awake.f k ) (lustrumlaw08_awake.f (k + 1) ) := by
  intro  k
  unfold lustrumlaw08_awake.f
  repeat' first
      | (with_reducible exact point_Read.mono _ _)
      | (with_reducible exact point_Set.mono _ _ _ _ _)
      | (with_reducible exact point_Text.mono _ _ _ _ _)
      | (with_reducible exact LeO.refl _)
      | (with_reducible exact LeO.none _)
      | (with_reducible refine LeO.ite ?_ ?_)
      | (with_reducible refine LeO.bind ?_ (fun _ => ?_))
      | exact point_Read.mono _ _
      | exact point_Set.mono _ _ _ _ _
      | exact point_Text.mono _ _ _ _ _
      | exact LeO.none _
      | refine LeO.ite ?_ ?_
      | refine LeO.bind ?_ (fun _ => ?_)
mutual
def lustrumlaw08_PointIs.j0 : Nat → ByteArray → Int → Bool → Bool → Int → ByteArray → ByteArray → ByteArray → Option (Bool)
  | 0, _, _, _, _, _, _, _, _ => none
  | k + 1, x1, x2, x7, x28, x376000, x376001, x376002, x376003 => if x28 = true then (some x7) else ((point_Read.f k x1).bind fun bt378 => ((lustrumref08_Read.f k x1).bind fun bt384 => ((point_Set.f k x376000 x376001 x376002 x376003).bind fun bt390 => ((lustrumref08_Set.f k x376000 x376001 x376002 x376003).bind fun bt394 => ((point_Near.f k x376000 x376001 x376002 x376003).bind fun bt398 => ((lustrumref08_Near.f k x376000 x376001 x376002 x376003).bind fun bt402 => (if (bt378.2.2.2.2 != bt384.2.2.2.2) = true then (lustrumlaw08_PointIs.j1 k x2 x7 true x376000 x376001 x376002 x376003) else (if (!(bt378.1 == bt384.1) || (!(bt378.2.1.toList == bt384.2.1.toList) || (!(bt378.2.2.1.toList == bt384.2.2.1.toList) || (!(bt378.2.2.2.1.toList == bt384.2.2.2.1.toList))))) = true then (lustrumlaw08_PointIs.j1 k x2 x7 true x376000 x376001 x376002 x376003) else (if bt390.2 = bt394.2 then (if bt398.2 = bt402.2 then ((lustrumref04_Same.f k bt390.1 bt394.1).bind fun t406 => (if t406 = true then ((lustrumref04_Same.f k bt398.1 bt402.1).bind fun t407 => (lustrumlaw08_PointIs.j1 k x2 x7 (!t407) x376000 x376001 x376002 x376003)) else (lustrumlaw08_PointIs.j1 k x2 x7 true x376000 x376001 x376002 x376003))) else (lustrumlaw08_PointIs.j1 k x2 x7 true x376000 x376001 x376002 x376003)) else (lustrumlaw08_PointIs.j1 k x2 x7 true x376000 x376001 x376002 x376003))))))))))
def lustrumlaw08_PointIs.j1 : Nat → Int → Bool → Bool → Int → ByteArray → ByteArray → ByteArray → Option (Bool)
  | 0, _, _, _, _, _, _, _ => none
  | k + 1, x2, x7, x89, x376000, x376001, x376002, x376003 => if x89 = true then (some false) else (if x7 = true then ((point_Sane.f k x376000 x376001 x376002 x376003).bind fun t408 => ((lustrumref08_Sane.f k x376000 x376001 x376002 x376003).bind fun t409 => (if (t408 == t409) = true then ((point_Text.f k x376000 x376001 x376002 x376003).bind fun t410 => ((lustrumref08_Text.f k x376000 x376001 x376002 x376003).bind fun t411 => (if t410.toList = t411.toList then ((point_Radius.f x2).bind fun t412 => ((lustrumref08_Radius.f x2).bind fun t413 => (some (t412 == t413)))) else (some false)))) else (some false)))) else (some false))
end
def lustrumlaw08_PointIs.f (k : Nat) (a0_0 : Int) (a0_1 : ByteArray) (a0_2 : ByteArray) (a0_3 : ByteArray) (a1 : ByteArray) (a2 : Int) : Option (Bool) := (lustrumlaw08_awake.f k).bind fun t376 => ((lustrumlaw08_short.f a0_0 a0_1 a0_2 a0_3).bind fun t377 => (if t377 = true then (lustrumlaw08_PointIs.j0 k a1 a2 t376 (decide ((a1.size : Int) > 40)) a0_0 a0_1 a0_2 a0_3) else (lustrumlaw08_PointIs.j0 k a1 a2 t376 true a0_0 a0_1 a0_2 a0_3)))
end Go.Proofs.YthppfagfmjchoaaGreatDoor.A
namespace Go.Proofs.YthppfagfmjchoaaGreatDoor.A
open Go.RowKit Go.Proofs.YthppfagfmjchoaaGreatDoorW.PrintWords Go.Proofs.YthppfagfmjchoaaGreatDoorW.PrintLast Go.Proofs.YthppfagfmjchoaaGreatDoorW.PrintMore
attribute [local go_sem] max2_int min2_int max_two min_two max_three min_three max_four min_four
attribute [local go_sem high] eqA23
attribute [local go_sem] isSome_setCell
set_option maxHeartbeats 8000000 in
set_option maxRecDepth 100000 in
theorem lustrumlaw08_short.calls (a0_0 : Int) (a0_1 a0_2 a0_3 : ByteArray) (r : Bool) (w : World) (h : lustrumlaw08_short.f a0_0 a0_1 a0_2 a0_3 = some r) :
  Calls Tryz.prog 12 #[.agg #[.int .i64 a0_0, .string a0_1, .string a0_2, .string a0_3]] w fun e w' => e = .returned (.bool r) ∧ Below w.heap.size w w' := by
 have hu23 := Tryz.underlying23; have HB := A_ (Below.refl w.heap.size w); have H : (if (a0_1.size : Int) ≤ 10 then (if (a0_2.size : Int) ≤ 10 then (some (decide ((a0_3.size : Int) ≤ 10))) else (some false)) else (some false)) = some r := h; clear h
 by_cases c2 : (a0_1.size : Int) ≤ 10
 ·rw [if_pos c2] at H
  have c2b0 := decide_eq_true c2; have c2b1 : decide (a0_1.size ≤ 10) = true := decide_eq_true (by omega); clear c2
  by_cases c3 : (a0_2.size : Int) ≤ 10
  ·rw [if_pos c3] at H
   have c3b0 := decide_eq_true c3; have c3b1 : decide (a0_2.size ≤ 10) = true := decide_eq_true (by omega); clear c3; obtain rfl := Option.some.inj H; go_enter Tryz.func12, Tryz.ntmps12; go_wp2_with (first | ((with_reducible refine gD 1 ?_); (try (refine gate_guard (by rfl) ?_; dsimp only)); refine bxe_ 1 (n4_ a0_0 a0_1 a0_2 a0_3) 23 ?_; intro gb101 hg w4 hbox hb; have BK101 := A_ (hbox); have GW101 := gs_ w hg; have GE101 := gs_ w hg; replace HB := bs_ hb; clear hb hbox hg; have Z5 := bz4_ BK101)); go_ret; exact ⟨re_, hs_⟩
  ·rw [if_neg c3] at H
   have c3b0 := decide_eq_false c3; have c3b1 : decide (a0_2.size ≤ 10) = false := decide_eq_false (by omega); clear c3; obtain rfl := Option.some.inj H; go_enter Tryz.func12, Tryz.ntmps12; go_wp2_with (first | ((with_reducible refine gD 1 ?_); (try (refine gate_guard (by rfl) ?_; dsimp only)); refine bxe_ 1 (n4_ a0_0 a0_1 a0_2 a0_3) 23 ?_; intro gb101 hg w6 hbox hb; have BK101 := A_ (hbox); have GW101 := gs_ w hg; have GE101 := gs_ w hg; replace HB := bs_ hb; clear hb hbox hg; have Z7 := bz4_ BK101)); go_ret; exact ⟨re_, hs_⟩
 ·rw [if_neg c2] at H
  have c2b0 := decide_eq_false c2; have c2b1 : decide (a0_1.size ≤ 10) = false := decide_eq_false (by omega); clear c2; obtain rfl := Option.some.inj H; go_enter Tryz.func12, Tryz.ntmps12; go_wp2_with (first | ((with_reducible refine gD 1 ?_); (try (refine gate_guard (by rfl) ?_; dsimp only)); refine bxe_ 1 (n4_ a0_0 a0_1 a0_2 a0_3) 23 ?_; intro gb101 hg w8 hbox hb; have BK101 := A_ (hbox); have GW101 := gs_ w hg; have GE101 := gs_ w hg; replace HB := bs_ hb; clear hb hbox hg; have Z9 := bz4_ BK101)); go_ret; exact ⟨re_, hs_⟩
set_option maxHeartbeats 8000000 in
set_option maxRecDepth 100000 in
theorem lustrumref06_Sane.calls (k : Nat) (a0 : ByteArray) (r : Bool) (w : World) (h : lustrumref06_Sane.f k a0 = some r) :
  Calls Tryz.prog 67 #[.string a0] w fun e w' => e = .returned (.bool r) ∧ Drawn0 w w' := by
 have H : (lustrumref06_Sane.l0 k a0 0) = some r := h; clear h; have H' := A_ H; clear H; go_enter Tryz.func67, Tryz.ntmps67; go_wp2; go_loopg [3] k (fun kq v3 w' => ∃ (x3_1 : Int), v3 = .int .i64 x3_1 ∧ Aside0 (lustrumref06_Sane.l0 kq a0 x3_1 = some r) ∧ Aside0 (kq ≤ k) ∧ Drawn0 w w')
 case atStart => exact ⟨(0), rf_, H', ⟨Nat.le_refl _⟩, by repeat (first | exact Drawn0.refl _ | apply Drawn0.step)⟩
 case round =>
  clear H'; obtain ⟨x3_1, rfl, HA, HK1, ⟨m1, rfl⟩⟩ := hrel
  cases gk with
  | zero => exact absurd HA.out (by simp [lustrumref06_Sane.l0])
  | succ k1 =>
   have H := HA.out; clear HA; simp only [lustrumref06_Sane.l0] at H
   obtain ⟨c2b0, H⟩ | ⟨c2b0, H⟩ := ic_ H
   ·obtain ⟨c3b0, H⟩ := gd_ H
    obtain ⟨c5b0, H⟩ | ⟨c5b0, H⟩ := ic_ H
    ·obtain ⟨c7b0, c7b1, H⟩ | ⟨c7, c7b0, c7b1, H⟩ := ie_ H
     ·have H' := A_ H; clear H; have p4 : 0 ≤ (x3_1 : Int) := od_; have q4 : x3_1 < (a0.size : Int) := od_; have hx4 := bt_at a0 x3_1; replace p4 := eq_true p4; replace q4 := eq_true q4; have p6 : 0 ≤ (x3_1 : Int) := od_; have q6 : x3_1 < (a0.size : Int) := od_; have hx6 := bt_at a0 x3_1; replace p6 := eq_true p6; replace q6 := eq_true q6; go_wp2; go_roundg k1
      case measure => have := HK1.out; omega
      case rel => exact ⟨(wrap64 (x3_1 + 1)), rf_, H', ⟨by have := HK1.out; omega⟩, by repeat (first | exact Drawn0.refl _ | apply Drawn0.step)⟩
     ·obtain rfl := Option.some.inj H; have p4 : 0 ≤ (x3_1 : Int) := od_; have q4 : x3_1 < (a0.size : Int) := od_; have hx4 := bt_at a0 x3_1; replace p4 := eq_true p4; replace q4 := eq_true q4; have p6 : 0 ≤ (x3_1 : Int) := od_; have q6 : x3_1 < (a0.size : Int) := od_; have hx6 := bt_at a0 x3_1; replace p6 := eq_true p6; replace q6 := eq_true q6; go_wp2; go_ret; exact ⟨by first | rfl | (simp; done) | (simp [*]; done), by repeat (first | exact Drawn0.refl _ | apply Drawn0.step)⟩
    ·obtain ⟨c9b0, H⟩ | ⟨c9b0, H⟩ := ic_ H
     ·obtain ⟨c11b0, c11b1, H⟩ | ⟨c11, c11b0, c11b1, H⟩ := ie_ H
      ·have H' := A_ H; clear H; have p4 : 0 ≤ (x3_1 : Int) := od_; have q4 : x3_1 < (a0.size : Int) := od_; have hx4 := bt_at a0 x3_1; replace p4 := eq_true p4; replace q4 := eq_true q4; have p8 : 0 ≤ (x3_1 : Int) := od_; have q8 : x3_1 < (a0.size : Int) := od_; have hx8 := bt_at a0 x3_1; replace p8 := eq_true p8; replace q8 := eq_true q8; have p10 : 0 ≤ (x3_1 : Int) := od_; have q10 : x3_1 < (a0.size : Int) := od_; have hx10 := bt_at a0 x3_1; replace p10 := eq_true p10; replace q10 := eq_true q10; go_wp2; go_roundg k1
       case measure => have := HK1.out; omega
       case rel => exact ⟨(wrap64 (x3_1 + 1)), rf_, H', ⟨by have := HK1.out; omega⟩, by repeat (first | exact Drawn0.refl _ | apply Drawn0.step)⟩
      ·obtain rfl := Option.some.inj H; have p4 : 0 ≤ (x3_1 : Int) := od_; have q4 : x3_1 < (a0.size : Int) := od_; have hx4 := bt_at a0 x3_1; replace p4 := eq_true p4; replace q4 := eq_true q4; have p8 : 0 ≤ (x3_1 : Int) := od_; have q8 : x3_1 < (a0.size : Int) := od_; have hx8 := bt_at a0 x3_1; replace p8 := eq_true p8; replace q8 := eq_true q8; have p10 : 0 ≤ (x3_1 : Int) := od_; have q10 : x3_1 < (a0.size : Int) := od_; have hx10 := bt_at a0 x3_1; replace p10 := eq_true p10; replace q10 := eq_true q10; go_wp2; go_ret; exact ⟨by first | rfl | (simp; done) | (simp [*]; done), by repeat (first | exact Drawn0.refl _ | apply Drawn0.step)⟩
     ·have H' := A_ H; clear H; have p4 : 0 ≤ (x3_1 : Int) := od_; have q4 : x3_1 < (a0.size : Int) := od_; have hx4 := bt_at a0 x3_1; replace p4 := eq_true p4; replace q4 := eq_true q4; have p8 : 0 ≤ (x3_1 : Int) := od_; have q8 : x3_1 < (a0.size : Int) := od_; have hx8 := bt_at a0 x3_1; replace p8 := eq_true p8; replace q8 := eq_true q8; go_wp2; go_roundg k1
      case measure => have := HK1.out; omega
      case rel => exact ⟨(wrap64 (x3_1 + 1)), rf_, H', ⟨by have := HK1.out; omega⟩, by repeat (first | exact Drawn0.refl _ | apply Drawn0.step)⟩
   ·obtain ⟨c12, H⟩ | ⟨c12, H⟩ := iq_ H
    ·have c12b0 := decide_eq_true c12; have c12b1 : decide (1 ≤ a0.size) = true := decide_eq_true (by omega); clear c12; obtain rfl := Option.some.inj H; go_wp2; go_ret; exact ⟨by first | rfl | (simp; done) | (simp [*]; done), by repeat (first | exact Drawn0.refl _ | apply Drawn0.step)⟩
    ·have c12b0 := decide_eq_false c12; have c12b1 : decide (1 ≤ a0.size) = false := decide_eq_false (by omega); clear c12; obtain rfl := Option.some.inj H; go_wp2; go_ret; exact ⟨by first | rfl | (simp; done) | (simp [*]; done), by repeat (first | exact Drawn0.refl _ | apply Drawn0.step)⟩
set_option maxHeartbeats 8000000 in
set_option maxRecDepth 100000 in
theorem lustrumref06_most.calls (k : Nat) (a0 r : Int) (w : World) (h : lustrumref06_most.f k a0 = some r) :
  Calls Tryz.prog 160 #[.int .i64 a0] w fun e w' => e = .returned (.int .i64 r) ∧ Drawn0 w w' := by
 have H : (lustrumref06_most.l0 k a0 1 0) = some r := h; clear h; have H' := A_ H; clear H; go_enter Tryz.func160, Tryz.ntmps160; go_wp2; go_loopg [3, 4] k (fun kq v3 v4 w' => ∃ (x3_1 : Int) (x4_1 : Int), v3 = .int .i64 x3_1 ∧ v4 = .int .i64 x4_1 ∧ Aside0 (lustrumref06_most.l0 kq a0 x3_1 x4_1 = some r) ∧ Aside0 (kq ≤ k) ∧ Drawn0 w w')
 case atStart => exact ⟨(1), (0), rf_, rf_, H', ⟨Nat.le_refl _⟩, by repeat (first | exact Drawn0.refl _ | apply Drawn0.step)⟩
 case round =>
  clear H'; obtain ⟨x3_1, x4_1, rfl, rfl, HA, HK1, ⟨m1, rfl⟩⟩ := hrel
  cases gk with
  | zero => exact absurd HA.out (by simp [lustrumref06_most.l0])
  | succ k1 =>
   have H := HA.out; clear HA; simp only [lustrumref06_most.l0] at H
   by_cases c2 : x4_1 < a0
   ·rw [if_pos c2] at H
    have c2b0 := decide_eq_true c2; clear c2; have H' := A_ H; clear H; go_wp2; go_roundg k1
    case measure => have := HK1.out; omega
    case rel => exact ⟨(wrap64 (x3_1 * 10)), (wrap64 (x4_1 + 1)), rf_, rf_, H', ⟨by have := HK1.out; omega⟩, by repeat (first | exact Drawn0.refl _ | apply Drawn0.step)⟩
   ·rw [if_neg c2] at H
    have c2b0 := decide_eq_false c2; clear c2; obtain rfl := Option.some.inj H; go_wp2; go_ret; exact ⟨by first | rfl | (simp; done) | (simp [*]; done), by repeat (first | exact Drawn0.refl _ | apply Drawn0.step)⟩
set_option maxHeartbeats 8000000 in
set_option maxRecDepth 100000 in
theorem lustrumref06_Match.calls (k : Nat) (a0 : ByteArray) (a1 : Int) (r : Bool) (w : World) (h : lustrumref06_Match.f k a0 a1 = some r) :
  Calls Tryz.prog 113 #[.string a0, .int .i64 a1] w fun e w' => e = .returned (.bool r) ∧ Drawn0 w w' := by
 have H : ((lustrumref06_Sane.f k a0).bind fun t241 => (if t241 = true then (if a1 < 0 then (lustrumref06_Match.j0 k a0 a1 true) else ((lustrumref06_most.f k (a0.size : Int)).bind fun t242 => (lustrumref06_Match.j0 k a0 a1 (decide (a1 ≥ t242))))) else (lustrumref06_Match.j0 k a0 a1 true))) = some r := h; clear h; have HC3 := A_ H; clear H; go_enter Tryz.func113, Tryz.ntmps113; go_upto_region 1 with (fail); go_cut [19] (fun v19 wc => ∃ (kq : Nat) (x19_2 : Bool), v19 = .bool x19_2 ∧ Aside0 (lustrumref06_Match.j0 kq a0 a1 x19_2 = some r) ∧ Aside0 (kq ≤ k) ∧ Drawn0 w wc)
 case first =>
  have H := HC3.out; clear HC3; obtain ⟨t241, A4, H⟩ := bi_ H
  cases t241
  ·replace H := iN_ H; have H' := A_ H; clear H; go_wp2_with (first | (refine gC 67 ?_; refine gL 7 Tryz.func67 #[.string a0] ?_; (with_reducible refine (lustrumref06_Sane.calls k a0 false _ A4.out).mono ?_); rintro e w' ⟨rfl, ⟨nd, rfl⟩⟩; refine ⟨_, rfl, ?_⟩)); go_meet
   case rel => exact ⟨_, (true), rf_, H', ⟨by first | omega | exact Nat.le_refl _⟩, by repeat (first | exact Drawn0.refl _ | apply Drawn0.step)⟩
  ·replace H := iP_ H
   obtain ⟨c6b0, H⟩ | ⟨c6b0, H⟩ := ic_ H
   ·(first | rw [c6b0] | (simp only [i64_w, i32_w]; rw [c6b0]) | skip); have H' := A_ H; clear H; go_wp2_with (first | (refine gC 67 ?_; refine gL 7 Tryz.func67 #[.string a0] ?_; (with_reducible refine (lustrumref06_Sane.calls k a0 true _ A4.out).mono ?_); rintro e w' ⟨rfl, ⟨nd, rfl⟩⟩; refine ⟨_, rfl, ?_⟩)); go_meet
    case rel => exact ⟨_, (true), rf_, H', ⟨by first | omega | exact Nat.le_refl _⟩, by repeat (first | exact Drawn0.refl _ | apply Drawn0.step)⟩
   ·(first | rw [c6b0] | (simp only [i64_w, i32_w]; rw [c6b0]) | skip); obtain ⟨t242, A7, H⟩ := bi_ H; have H' := A_ H; clear H; go_wp2_with (first | (refine gC 67 ?_; refine gL 7 Tryz.func67 #[.string a0] ?_; (with_reducible refine (lustrumref06_Sane.calls k a0 true _ A4.out).mono ?_); rintro e w' ⟨rfl, ⟨nd, rfl⟩⟩; refine ⟨_, rfl, ?_⟩) | (go_at_call 160; (with_reducible refine (lustrumref06_most.calls k (a0.size : Int) t242 _ A7.out).mono ?_); rintro e w' ⟨rfl, ⟨nd, rfl⟩⟩)); go_meet
    case rel => exact ⟨_, (decide (a1 ≥ t242)), rf_, H', ⟨by first | omega | exact Nat.le_refl _⟩, by repeat (first | exact Drawn0.refl _ | apply Drawn0.step)⟩
 case rest =>
  clear HC3; obtain ⟨kq, x19_2, rfl, HA, HJ2, ⟨mc2, rfl⟩⟩ := hcut
  cases kq with
  | zero => exact absurd HA.out (by simp [lustrumref06_Match.j0])
  | succ kj2 =>
   have H := HA.out; clear HA; simp only [lustrumref06_Match.j0] at H
   cases x19_2
   ·replace H := iN_ H; have H' := A_ H; clear H; go_wp2; go_loopg [1, 5] kj2 (fun kq v1 v5 w' => ∃ (x1_2 : Int) (x5_2 : Int), v1 = .int .i64 x1_2 ∧ v5 = .int .i64 x5_2 ∧ Aside0 (lustrumref06_Match.l0 kq a0 x1_2 x5_2 = some r) ∧ Aside0 (kq ≤ kj2) ∧ Drawn0 w w')
    case atStart => exact ⟨(a1), (wrap64 ((a0.size : Int) - 1)), rf_, rf_, H', ⟨Nat.le_refl _⟩, by repeat (first | exact Drawn0.refl _ | apply Drawn0.step)⟩
    case round =>
     clear H'; obtain ⟨x1_2, x5_2, rfl, rfl, HA, HK2, ⟨m2, rfl⟩⟩ := hrel
     cases gk with
     | zero => exact absurd HA.out (by simp [lustrumref06_Match.l0])
     | succ k2 =>
      have H := HA.out; clear HA; simp only [lustrumref06_Match.l0] at H
      obtain ⟨c9b0, H⟩ | ⟨c9b0, H⟩ := ic_ H
      ·obtain ⟨c10b0, H⟩ := gd_ H
       obtain ⟨c11b0, H⟩ := gd_ H
       obtain ⟨c13b0, c13b1, H⟩ | ⟨c13, c13b0, c13b1, H⟩ := ie_ H
       ·have H' := A_ H; clear H; have p12 : 0 ≤ (x5_2 : Int) := od_; have q12 : x5_2 < (a0.size : Int) := od_; have hx12 := bt_at a0 x5_2; replace p12 := eq_true p12; replace q12 := eq_true q12; go_wp2; go_roundg k2
        case measure => have := HJ2.out; have := HK2.out; omega
        case rel => exact ⟨(wrap64 (Int.tdiv x1_2 10)), (wrap64 (x5_2 - 1)), rf_, rf_, H', ⟨by have := HJ2.out; have := HK2.out; omega⟩, by repeat (first | exact Drawn0.refl _ | apply Drawn0.step)⟩
       ·obtain ⟨c15b0, c15b1, H⟩ | ⟨c15, c15b0, c15b1, H⟩ := ie_ H
        ·have H' := A_ H; clear H; have p12 : 0 ≤ (x5_2 : Int) := od_; have q12 : x5_2 < (a0.size : Int) := od_; have hx12 := bt_at a0 x5_2; replace p12 := eq_true p12; replace q12 := eq_true q12; have p14 : 0 ≤ (x5_2 : Int) := od_; have q14 : x5_2 < (a0.size : Int) := od_; have hx14 := bt_at a0 x5_2; replace p14 := eq_true p14; replace q14 := eq_true q14; go_wp2; go_roundg k2
         case measure => have := HJ2.out; have := HK2.out; omega
         case rel => exact ⟨(wrap64 (Int.tdiv x1_2 10)), (wrap64 (x5_2 - 1)), rf_, rf_, H', ⟨by have := HJ2.out; have := HK2.out; omega⟩, by repeat (first | exact Drawn0.refl _ | apply Drawn0.step)⟩
        ·obtain rfl := Option.some.inj H; have p12 : 0 ≤ (x5_2 : Int) := od_; have q12 : x5_2 < (a0.size : Int) := od_; have hx12 := bt_at a0 x5_2; replace p12 := eq_true p12; replace q12 := eq_true q12; have p14 : 0 ≤ (x5_2 : Int) := od_; have q14 : x5_2 < (a0.size : Int) := od_; have hx14 := bt_at a0 x5_2; replace p14 := eq_true p14; replace q14 := eq_true q14; go_wp2; go_ret; exact ⟨by first | rfl | (simp; done) | (simp [*]; done), by repeat (first | exact Drawn0.refl _ | apply Drawn0.step)⟩
      ·obtain rfl := Option.some.inj H; go_wp2; go_ret; exact ⟨by first | rfl | (simp; done) | (simp [*]; done), by repeat (first | exact Drawn0.refl _ | apply Drawn0.step)⟩
   ·replace H := iP_ H; obtain rfl := Option.some.inj H; go_wp2; go_ret; exact ⟨by first | rfl | (simp; done) | (simp [*]; done), by repeat (first | exact Drawn0.refl _ | apply Drawn0.step)⟩
set_option maxHeartbeats 8000000 in
set_option maxRecDepth 100000 in
theorem lustrumref08_some.calls (k : Nat) (a0 : ByteArray) (a1 a2 : Int) (r : Bool) (w : World) (h : lustrumref08_some.f k a0 a1 a2 = some r) :
  Calls Tryz.prog 68 #[.string a0, .int .i64 a1, .int .i64 a2] w fun e w' => e = .returned (.bool r) ∧ Drawn0 w w' := by
 have H : (if (a0.size : Int) = a1 then (lustrumref08_some.l0 k a0 a2 1) else (some false)) = some r := h; clear h
 obtain ⟨c4b0, c4b1, H⟩ | ⟨c4, c4b0, c4b1, H⟩ := ie_ H
 ·have H' := A_ H; clear H; go_enter Tryz.func68, Tryz.ntmps68; go_wp2; go_loopg [7] k (fun kq v7 w' => ∃ (x7_1 : Int), v7 = .int .i64 x7_1 ∧ Aside0 (lustrumref08_some.l0 kq a0 a2 x7_1 = some r) ∧ Aside0 (kq ≤ k) ∧ Drawn0 w w')
  case atStart => exact ⟨(1), rf_, H', ⟨Nat.le_refl _⟩, by repeat (first | exact Drawn0.refl _ | apply Drawn0.step)⟩
  case round =>
   clear H'; obtain ⟨x7_1, rfl, HA, HK1, ⟨m1, rfl⟩⟩ := hrel
   cases gk with
   | zero => exact absurd HA.out (by simp [lustrumref08_some.l0])
   | succ k1 =>
    have H := HA.out; clear HA; simp only [lustrumref08_some.l0] at H
    obtain ⟨c5b0, H⟩ | ⟨c5b0, H⟩ := ic_ H
    ·obtain ⟨t243, A6, H⟩ := bi_ H
     cases t243
     ·replace H := iN_ H; have H' := A_ H; clear H; go_wp2_with (first | (refine gC 113 ?_; refine gL 19 Tryz.func113 #[.string a0, .int .i64 x7_1] ?_; (with_reducible refine (lustrumref06_Match.calls k1 a0 x7_1 false _ A6.out).mono ?_); rintro e w' ⟨rfl, ⟨nd, rfl⟩⟩; refine ⟨_, rfl, ?_⟩)); go_roundg k1
      case measure => have := HK1.out; omega
      case rel => exact ⟨(wrap64 (x7_1 + 1)), rf_, H', ⟨by have := HK1.out; omega⟩, by repeat (first | exact Drawn0.refl _ | apply Drawn0.step)⟩
     ·replace H := iP_ H; obtain rfl := Option.some.inj H; go_wp2_with (first | (refine gC 113 ?_; refine gL 19 Tryz.func113 #[.string a0, .int .i64 x7_1] ?_; (with_reducible refine (lustrumref06_Match.calls k1 a0 x7_1 true _ A6.out).mono ?_); rintro e w' ⟨rfl, ⟨nd, rfl⟩⟩; refine ⟨_, rfl, ?_⟩)); go_ret; exact ⟨by first | rfl | (simp; done) | (simp [*]; done), by repeat (first | exact Drawn0.refl _ | apply Drawn0.step)⟩
    ·obtain rfl := Option.some.inj H; go_wp2; go_ret; exact ⟨by first | rfl | (simp; done) | (simp [*]; done), by repeat (first | exact Drawn0.refl _ | apply Drawn0.step)⟩
 ·obtain rfl := Option.some.inj H; go_enter Tryz.func68, Tryz.ntmps68; go_wp2; go_ret; exact ⟨by first | rfl | (simp; done) | (simp [*]; done), by repeat (first | exact Drawn0.refl _ | apply Drawn0.step)⟩
set_option maxHeartbeats 8000000 in
set_option maxRecDepth 100000 in
theorem lustrumref08_Sane.calls (k : Nat) (a0_0 : Int) (a0_1 a0_2 a0_3 : ByteArray) (r : Bool) (w : World) (h : lustrumref08_Sane.f k a0_0 a0_1 a0_2 a0_3 = some r) :
  Calls Tryz.prog 21 #[.agg #[.int .i64 a0_0, .string a0_1, .string a0_2, .string a0_3]] w fun e w' => e = .returned (.bool r) ∧ Below w.heap.size w w' := by
 have hu23 := Tryz.underlying23; have HB := A_ (Below.refl w.heap.size w); have H : ((lustrumref06_Sane.f k a0_1).bind fun t245 => (if t245 = true then (if a0_0 = 0 then (if (a0_1.size : Int) = 4 then ((lustrumref08_some.f k a0_2 2 12).bind fun t246 => (if t246 = true then ((lustrumref08_some.f k a0_3 2 31).bind fun t247 => (some t247)) else (some false))) else (some false)) else (if a0_0 = 1 then (if (a0_1.size : Int) = 4 then ((lustrumref08_some.f k a0_2 2 12).bind fun t248 => (if t248 = true then (some (a0_3.toList == ([] : List UInt8))) else (some false))) else (some false)) else (if a0_0 = 2 then (if (a0_1.size : Int) = 4 then ((lustrumref08_some.f k a0_2 1 4).bind fun t249 => (if t249 = true then (some (a0_3.toList == ([] : List UInt8))) else (some false))) else (some false)) else (if a0_0 = 3 then (if (a0_1.size : Int) = 4 then (if a0_2.toList = ([] : List UInt8) then (some (a0_3.toList == ([] : List UInt8))) else (some false)) else (some false)) else (if a0_0 = 4 then (if (a0_1.size : Int) = 3 then (if a0_2.toList = ([] : List UInt8) then (some (a0_3.toList == ([] : List UInt8))) else (some false)) else (some false)) else (if a0_0 = 5 then (if (a0_1.size : Int) = 2 then (if a0_2.toList = ([] : List UInt8) then (some (a0_3.toList == ([] : List UInt8))) else (some false)) else (some false)) else (some false))))))) else (some false))) = some r := h; clear h; obtain ⟨t245, A2, H⟩ := bi_ H
 cases t245
 ·replace H := iN_ H; obtain rfl := Option.some.inj H; go_enter Tryz.func21, Tryz.ntmps21; go_wp2_with (first | (refine gx_ w 1 (n4_ a0_0 a0_1 a0_2 a0_3) 23 ?_; clear HB; intro gb244 w64 BK244 GE244 HB; have GW244 := GE244; have Z65 := bz4_ BK244) | (refine gC 67 ?_; refine gL 5 Tryz.func67 #[.string a0_1] ?_; (with_reducible refine (lustrumref06_Sane.calls k a0_1 false _ A2.out).mono ?_); rintro e w' ⟨rfl, ⟨nd, rfl⟩⟩; refine ⟨_, rfl, ?_⟩)); go_ret; exact ⟨re_, hs_⟩
 ·replace H := iP_ H
  obtain ⟨c4b0, c4b1, H⟩ | ⟨c4, c4b0, c4b1, H⟩ := ie_ H
  ·obtain ⟨c5b0, c5b1, H⟩ | ⟨c5, c5b0, c5b1, H⟩ := ie_ H
   ·obtain ⟨t246, A6, H⟩ := bi_ H
    cases t246
    ·replace H := iN_ H; obtain rfl := Option.some.inj H; go_enter Tryz.func21, Tryz.ntmps21; go_wp2_with (first | (refine gx_ w 1 (n4_ a0_0 a0_1 a0_2 a0_3) 23 ?_; clear HB; intro gb244 w11 BK244 GE244 HB; have GW244 := GE244; have Z12 := bz4_ BK244) | (refine gC 67 ?_; refine gL 5 Tryz.func67 #[.string a0_1] ?_; (with_reducible refine (lustrumref06_Sane.calls k a0_1 true _ A2.out).mono ?_); rintro e w' ⟨rfl, ⟨nd, rfl⟩⟩; refine ⟨_, rfl, ?_⟩) | (go_at_call 68; (with_reducible refine (lustrumref08_some.calls k a0_2 2 12 false _ A6.out).mono ?_); rintro e w' ⟨rfl, ⟨nd, rfl⟩⟩)); go_ret; exact ⟨re_, hs_⟩
    ·replace H := iP_ H; obtain ⟨t247, A8, H⟩ := bi_ H; obtain rfl := Option.some.inj H; go_enter Tryz.func21, Tryz.ntmps21; go_wp2_with (first | (refine gx_ w 1 (n4_ a0_0 a0_1 a0_2 a0_3) 23 ?_; clear HB; intro gb244 w9 BK244 GE244 HB; have GW244 := GE244; have Z10 := bz4_ BK244) | (refine gC 67 ?_; refine gL 5 Tryz.func67 #[.string a0_1] ?_; (with_reducible refine (lustrumref06_Sane.calls k a0_1 true _ A2.out).mono ?_); rintro e w' ⟨rfl, ⟨nd, rfl⟩⟩; refine ⟨_, rfl, ?_⟩) | (go_at_call 68; (with_reducible refine (lustrumref08_some.calls k a0_2 2 12 true _ A6.out).mono ?_); rintro e w' ⟨rfl, ⟨nd, rfl⟩⟩) | (go_at_call 68; (with_reducible refine (lustrumref08_some.calls k a0_3 2 31 t247 _ A8.out).mono ?_); rintro e w' ⟨rfl, ⟨nd, rfl⟩⟩)); go_ret; exact ⟨re_, hs_⟩
   ·obtain rfl := Option.some.inj H; go_enter Tryz.func21, Tryz.ntmps21; go_wp2_with (first | (refine gx_ w 1 (n4_ a0_0 a0_1 a0_2 a0_3) 23 ?_; clear HB; intro gb244 w13 BK244 GE244 HB; have GW244 := GE244; have Z14 := bz4_ BK244) | (refine gC 67 ?_; refine gL 5 Tryz.func67 #[.string a0_1] ?_; (with_reducible refine (lustrumref06_Sane.calls k a0_1 true _ A2.out).mono ?_); rintro e w' ⟨rfl, ⟨nd, rfl⟩⟩; refine ⟨_, rfl, ?_⟩)); go_ret; exact ⟨re_, hs_⟩
  ·obtain ⟨c15b0, c15b1, H⟩ | ⟨c15, c15b0, c15b1, H⟩ := ie_ H
   ·obtain ⟨c16b0, c16b1, H⟩ | ⟨c16, c16b0, c16b1, H⟩ := ie_ H
    ·obtain ⟨t248, A17, H⟩ := bi_ H
     cases t248
     ·replace H := iN_ H; obtain rfl := Option.some.inj H; go_enter Tryz.func21, Tryz.ntmps21; go_wp2_with (first | (refine gx_ w 1 (n4_ a0_0 a0_1 a0_2 a0_3) 23 ?_; clear HB; intro gb244 w21 BK244 GE244 HB; have GW244 := GE244; have Z22 := bz4_ BK244) | (refine gC 67 ?_; refine gL 5 Tryz.func67 #[.string a0_1] ?_; (with_reducible refine (lustrumref06_Sane.calls k a0_1 true _ A2.out).mono ?_); rintro e w' ⟨rfl, ⟨nd, rfl⟩⟩; refine ⟨_, rfl, ?_⟩) | (go_at_call 68; (with_reducible refine (lustrumref08_some.calls k a0_2 2 12 false _ A17.out).mono ?_); rintro e w' ⟨rfl, ⟨nd, rfl⟩⟩)); go_ret; exact ⟨re_, hs_⟩
     ·replace H := iP_ H; obtain rfl := Option.some.inj H; go_enter Tryz.func21, Tryz.ntmps21; go_wp2_with (first | (refine gx_ w 1 (n4_ a0_0 a0_1 a0_2 a0_3) 23 ?_; clear HB; intro gb244 w19 BK244 GE244 HB; have GW244 := GE244; have Z20 := bz4_ BK244) | (refine gC 67 ?_; refine gL 5 Tryz.func67 #[.string a0_1] ?_; (with_reducible refine (lustrumref06_Sane.calls k a0_1 true _ A2.out).mono ?_); rintro e w' ⟨rfl, ⟨nd, rfl⟩⟩; refine ⟨_, rfl, ?_⟩) | (go_at_call 68; (with_reducible refine (lustrumref08_some.calls k a0_2 2 12 true _ A17.out).mono ?_); rintro e w' ⟨rfl, ⟨nd, rfl⟩⟩)); go_ret; exact ⟨re_, hs_⟩
    ·obtain rfl := Option.some.inj H; go_enter Tryz.func21, Tryz.ntmps21; go_wp2_with (first | (refine gx_ w 1 (n4_ a0_0 a0_1 a0_2 a0_3) 23 ?_; clear HB; intro gb244 w23 BK244 GE244 HB; have GW244 := GE244; have Z24 := bz4_ BK244) | (refine gC 67 ?_; refine gL 5 Tryz.func67 #[.string a0_1] ?_; (with_reducible refine (lustrumref06_Sane.calls k a0_1 true _ A2.out).mono ?_); rintro e w' ⟨rfl, ⟨nd, rfl⟩⟩; refine ⟨_, rfl, ?_⟩)); go_ret; exact ⟨re_, hs_⟩
   ·obtain ⟨c25b0, c25b1, H⟩ | ⟨c25, c25b0, c25b1, H⟩ := ie_ H
    ·obtain ⟨c26b0, c26b1, H⟩ | ⟨c26, c26b0, c26b1, H⟩ := ie_ H
     ·obtain ⟨t249, A27, H⟩ := bi_ H
      cases t249
      ·replace H := iN_ H; obtain rfl := Option.some.inj H; go_enter Tryz.func21, Tryz.ntmps21; go_wp2_with (first | (refine gx_ w 1 (n4_ a0_0 a0_1 a0_2 a0_3) 23 ?_; clear HB; intro gb244 w31 BK244 GE244 HB; have GW244 := GE244; have Z32 := bz4_ BK244) | (refine gC 67 ?_; refine gL 5 Tryz.func67 #[.string a0_1] ?_; (with_reducible refine (lustrumref06_Sane.calls k a0_1 true _ A2.out).mono ?_); rintro e w' ⟨rfl, ⟨nd, rfl⟩⟩; refine ⟨_, rfl, ?_⟩) | (go_at_call 68; (with_reducible refine (lustrumref08_some.calls k a0_2 1 4 false _ A27.out).mono ?_); rintro e w' ⟨rfl, ⟨nd, rfl⟩⟩)); go_ret; exact ⟨re_, hs_⟩
      ·replace H := iP_ H; obtain rfl := Option.some.inj H; go_enter Tryz.func21, Tryz.ntmps21; go_wp2_with (first | (refine gx_ w 1 (n4_ a0_0 a0_1 a0_2 a0_3) 23 ?_; clear HB; intro gb244 w29 BK244 GE244 HB; have GW244 := GE244; have Z30 := bz4_ BK244) | (refine gC 67 ?_; refine gL 5 Tryz.func67 #[.string a0_1] ?_; (with_reducible refine (lustrumref06_Sane.calls k a0_1 true _ A2.out).mono ?_); rintro e w' ⟨rfl, ⟨nd, rfl⟩⟩; refine ⟨_, rfl, ?_⟩) | (go_at_call 68; (with_reducible refine (lustrumref08_some.calls k a0_2 1 4 true _ A27.out).mono ?_); rintro e w' ⟨rfl, ⟨nd, rfl⟩⟩)); go_ret; exact ⟨re_, hs_⟩
     ·obtain rfl := Option.some.inj H; go_enter Tryz.func21, Tryz.ntmps21; go_wp2_with (first | (refine gx_ w 1 (n4_ a0_0 a0_1 a0_2 a0_3) 23 ?_; clear HB; intro gb244 w33 BK244 GE244 HB; have GW244 := GE244; have Z34 := bz4_ BK244) | (refine gC 67 ?_; refine gL 5 Tryz.func67 #[.string a0_1] ?_; (with_reducible refine (lustrumref06_Sane.calls k a0_1 true _ A2.out).mono ?_); rintro e w' ⟨rfl, ⟨nd, rfl⟩⟩; refine ⟨_, rfl, ?_⟩)); go_ret; exact ⟨re_, hs_⟩
    ·obtain ⟨c35b0, c35b1, H⟩ | ⟨c35, c35b0, c35b1, H⟩ := ie_ H
     ·obtain ⟨c36b0, c36b1, H⟩ | ⟨c36, c36b0, c36b1, H⟩ := ie_ H
      ·obtain ⟨c37, H⟩ | ⟨c37, H⟩ := iq_ H
       ·have c37b0 : (a0_2.toList == ([] : List UInt8)) = true := beq_iff_eq.mpr c37; (try (have c37b9 : (a0_2.toList.isEmpty) = true := by simpa using c37b0)); have c37b1 : (a0_2.toList != ([] : List UInt8)) = false := bne_eq_false_iff_eq.mpr c37; clear c37; obtain rfl := Option.some.inj H; go_enter Tryz.func21, Tryz.ntmps21; go_wp2_with (first | (refine gx_ w 1 (n4_ a0_0 a0_1 a0_2 a0_3) 23 ?_; clear HB; intro gb244 w38 BK244 GE244 HB; have GW244 := GE244; have Z39 := bz4_ BK244) | (refine gC 67 ?_; refine gL 5 Tryz.func67 #[.string a0_1] ?_; (with_reducible refine (lustrumref06_Sane.calls k a0_1 true _ A2.out).mono ?_); rintro e w' ⟨rfl, ⟨nd, rfl⟩⟩; refine ⟨_, rfl, ?_⟩)); go_ret; exact ⟨re_, hs_⟩
       ·have c37b0 : (a0_2.toList == ([] : List UInt8)) = false := beq_eq_false_iff_ne.mpr c37; (try (have c37b9 : (a0_2.toList.isEmpty) = false := by simpa using c37b0)); have c37b1 : (a0_2.toList != ([] : List UInt8)) = true := bne_iff_ne.mpr c37; obtain rfl := Option.some.inj H; go_enter Tryz.func21, Tryz.ntmps21; go_wp2_with (first | (refine gx_ w 1 (n4_ a0_0 a0_1 a0_2 a0_3) 23 ?_; clear HB; intro gb244 w40 BK244 GE244 HB; have GW244 := GE244; have Z41 := bz4_ BK244) | (refine gC 67 ?_; refine gL 5 Tryz.func67 #[.string a0_1] ?_; (with_reducible refine (lustrumref06_Sane.calls k a0_1 true _ A2.out).mono ?_); rintro e w' ⟨rfl, ⟨nd, rfl⟩⟩; refine ⟨_, rfl, ?_⟩)); go_ret; exact ⟨re_, hs_⟩
      ·obtain rfl := Option.some.inj H; go_enter Tryz.func21, Tryz.ntmps21; go_wp2_with (first | (refine gx_ w 1 (n4_ a0_0 a0_1 a0_2 a0_3) 23 ?_; clear HB; intro gb244 w42 BK244 GE244 HB; have GW244 := GE244; have Z43 := bz4_ BK244) | (refine gC 67 ?_; refine gL 5 Tryz.func67 #[.string a0_1] ?_; (with_reducible refine (lustrumref06_Sane.calls k a0_1 true _ A2.out).mono ?_); rintro e w' ⟨rfl, ⟨nd, rfl⟩⟩; refine ⟨_, rfl, ?_⟩)); go_ret; exact ⟨re_, hs_⟩
     ·obtain ⟨c44b0, c44b1, H⟩ | ⟨c44, c44b0, c44b1, H⟩ := ie_ H
      ·obtain ⟨c45b0, c45b1, H⟩ | ⟨c45, c45b0, c45b1, H⟩ := ie_ H
       ·obtain ⟨c46, H⟩ | ⟨c46, H⟩ := iq_ H
        ·have c46b0 : (a0_2.toList == ([] : List UInt8)) = true := beq_iff_eq.mpr c46; (try (have c46b9 : (a0_2.toList.isEmpty) = true := by simpa using c46b0)); have c46b1 : (a0_2.toList != ([] : List UInt8)) = false := bne_eq_false_iff_eq.mpr c46; clear c46; obtain rfl := Option.some.inj H; go_enter Tryz.func21, Tryz.ntmps21; go_wp2_with (first | (refine gx_ w 1 (n4_ a0_0 a0_1 a0_2 a0_3) 23 ?_; clear HB; intro gb244 w47 BK244 GE244 HB; have GW244 := GE244; have Z48 := bz4_ BK244) | (refine gC 67 ?_; refine gL 5 Tryz.func67 #[.string a0_1] ?_; (with_reducible refine (lustrumref06_Sane.calls k a0_1 true _ A2.out).mono ?_); rintro e w' ⟨rfl, ⟨nd, rfl⟩⟩; refine ⟨_, rfl, ?_⟩)); go_ret; exact ⟨re_, hs_⟩
        ·have c46b0 : (a0_2.toList == ([] : List UInt8)) = false := beq_eq_false_iff_ne.mpr c46; (try (have c46b9 : (a0_2.toList.isEmpty) = false := by simpa using c46b0)); have c46b1 : (a0_2.toList != ([] : List UInt8)) = true := bne_iff_ne.mpr c46; obtain rfl := Option.some.inj H; go_enter Tryz.func21, Tryz.ntmps21; go_wp2_with (first | (refine gx_ w 1 (n4_ a0_0 a0_1 a0_2 a0_3) 23 ?_; clear HB; intro gb244 w49 BK244 GE244 HB; have GW244 := GE244; have Z50 := bz4_ BK244) | (refine gC 67 ?_; refine gL 5 Tryz.func67 #[.string a0_1] ?_; (with_reducible refine (lustrumref06_Sane.calls k a0_1 true _ A2.out).mono ?_); rintro e w' ⟨rfl, ⟨nd, rfl⟩⟩; refine ⟨_, rfl, ?_⟩)); go_ret; exact ⟨re_, hs_⟩
       ·obtain rfl := Option.some.inj H; go_enter Tryz.func21, Tryz.ntmps21; go_wp2_with (first | (refine gx_ w 1 (n4_ a0_0 a0_1 a0_2 a0_3) 23 ?_; clear HB; intro gb244 w51 BK244 GE244 HB; have GW244 := GE244; have Z52 := bz4_ BK244) | (refine gC 67 ?_; refine gL 5 Tryz.func67 #[.string a0_1] ?_; (with_reducible refine (lustrumref06_Sane.calls k a0_1 true _ A2.out).mono ?_); rintro e w' ⟨rfl, ⟨nd, rfl⟩⟩; refine ⟨_, rfl, ?_⟩)); go_ret; exact ⟨re_, hs_⟩
      ·obtain ⟨c53b0, c53b1, H⟩ | ⟨c53, c53b0, c53b1, H⟩ := ie_ H
       ·obtain ⟨c54b0, c54b1, H⟩ | ⟨c54, c54b0, c54b1, H⟩ := ie_ H
        ·obtain ⟨c55, H⟩ | ⟨c55, H⟩ := iq_ H
         ·have c55b0 : (a0_2.toList == ([] : List UInt8)) = true := beq_iff_eq.mpr c55; (try (have c55b9 : (a0_2.toList.isEmpty) = true := by simpa using c55b0)); have c55b1 : (a0_2.toList != ([] : List UInt8)) = false := bne_eq_false_iff_eq.mpr c55; clear c55; obtain rfl := Option.some.inj H; go_enter Tryz.func21, Tryz.ntmps21; go_wp2_with (first | (refine gx_ w 1 (n4_ a0_0 a0_1 a0_2 a0_3) 23 ?_; clear HB; intro gb244 w56 BK244 GE244 HB; have GW244 := GE244; have Z57 := bz4_ BK244) | (refine gC 67 ?_; refine gL 5 Tryz.func67 #[.string a0_1] ?_; (with_reducible refine (lustrumref06_Sane.calls k a0_1 true _ A2.out).mono ?_); rintro e w' ⟨rfl, ⟨nd, rfl⟩⟩; refine ⟨_, rfl, ?_⟩)); go_ret; exact ⟨re_, hs_⟩
         ·have c55b0 : (a0_2.toList == ([] : List UInt8)) = false := beq_eq_false_iff_ne.mpr c55; (try (have c55b9 : (a0_2.toList.isEmpty) = false := by simpa using c55b0)); have c55b1 : (a0_2.toList != ([] : List UInt8)) = true := bne_iff_ne.mpr c55; obtain rfl := Option.some.inj H; go_enter Tryz.func21, Tryz.ntmps21; go_wp2_with (first | (refine gx_ w 1 (n4_ a0_0 a0_1 a0_2 a0_3) 23 ?_; clear HB; intro gb244 w58 BK244 GE244 HB; have GW244 := GE244; have Z59 := bz4_ BK244) | (refine gC 67 ?_; refine gL 5 Tryz.func67 #[.string a0_1] ?_; (with_reducible refine (lustrumref06_Sane.calls k a0_1 true _ A2.out).mono ?_); rintro e w' ⟨rfl, ⟨nd, rfl⟩⟩; refine ⟨_, rfl, ?_⟩)); go_ret; exact ⟨re_, hs_⟩
        ·obtain rfl := Option.some.inj H; go_enter Tryz.func21, Tryz.ntmps21; go_wp2_with (first | (refine gx_ w 1 (n4_ a0_0 a0_1 a0_2 a0_3) 23 ?_; clear HB; intro gb244 w60 BK244 GE244 HB; have GW244 := GE244; have Z61 := bz4_ BK244) | (refine gC 67 ?_; refine gL 5 Tryz.func67 #[.string a0_1] ?_; (with_reducible refine (lustrumref06_Sane.calls k a0_1 true _ A2.out).mono ?_); rintro e w' ⟨rfl, ⟨nd, rfl⟩⟩; refine ⟨_, rfl, ?_⟩)); go_ret; exact ⟨re_, hs_⟩
       ·obtain rfl := Option.some.inj H; go_enter Tryz.func21, Tryz.ntmps21; go_wp2_with (first | (refine gx_ w 1 (n4_ a0_0 a0_1 a0_2 a0_3) 23 ?_; clear HB; intro gb244 w62 BK244 GE244 HB; have GW244 := GE244; have Z63 := bz4_ BK244) | (refine gC 67 ?_; refine gL 5 Tryz.func67 #[.string a0_1] ?_; (with_reducible refine (lustrumref06_Sane.calls k a0_1 true _ A2.out).mono ?_); rintro e w' ⟨rfl, ⟨nd, rfl⟩⟩; refine ⟨_, rfl, ?_⟩)); go_ret; exact ⟨re_, hs_⟩
set_option maxHeartbeats 8000000 in
set_option maxRecDepth 100000 in
theorem lustrumref08_Text.calls (k : Nat) (a0_0 : Int) (a0_1 a0_2 a0_3 r : ByteArray) (w : World) (h : lustrumref08_Text.f k a0_0 a0_1 a0_2 a0_3 = some r) :
  Calls Tryz.prog 23 #[.agg #[.int .i64 a0_0, .string a0_1, .string a0_2, .string a0_3]] w fun e w' => e = .returned (.string r) ∧ Below w.heap.size w w' := by
 have hu23 := Tryz.underlying23; have HB := A_ (Below.refl w.heap.size w); have H : ((lustrumref08_Sane.f k a0_0 a0_1 a0_2 a0_3).bind fun t300 => (if t300 = true then (if a0_0 = 0 then (if a0_1.size + 1 ≤ 9223372036854775807 then (if (a0_1 ++ (⟨#[45]⟩ : ByteArray)).size + a0_2.size ≤ 9223372036854775807 then (if ((a0_1 ++ (⟨#[45]⟩ : ByteArray)) ++ a0_2).size + 1 ≤ 9223372036854775807 then (if (((a0_1 ++ (⟨#[45]⟩ : ByteArray)) ++ a0_2) ++ (⟨#[45]⟩ : ByteArray)).size + a0_3.size ≤ 9223372036854775807 then (some ((((a0_1 ++ (⟨#[45]⟩ : ByteArray)) ++ a0_2) ++ (⟨#[45]⟩ : ByteArray)) ++ a0_3)) else (none)) else (none)) else (none)) else (none)) else (if a0_0 = 1 then (if a0_1.size + 1 ≤ 9223372036854775807 then (if (a0_1 ++ (⟨#[45]⟩ : ByteArray)).size + a0_2.size ≤ 9223372036854775807 then (some ((a0_1 ++ (⟨#[45]⟩ : ByteArray)) ++ a0_2)) else (none)) else (none)) else (if a0_0 = 2 then (if a0_1.size + 1 ≤ 9223372036854775807 then (if (a0_1 ++ (⟨#[115]⟩ : ByteArray)).size + a0_2.size ≤ 9223372036854775807 then (some ((a0_1 ++ (⟨#[115]⟩ : ByteArray)) ++ a0_2)) else (none)) else (none)) else (if a0_0 = 4 then (if a0_1.size + 1 ≤ 9223372036854775807 then (some (a0_1 ++ (⟨#[100]⟩ : ByteArray))) else (none)) else (if a0_0 = 5 then (if a0_1.size + 1 ≤ 9223372036854775807 then (some (a0_1 ++ (⟨#[99]⟩ : ByteArray))) else (none)) else (some a0_1)))))) else (some (⟨#[]⟩ : ByteArray)))) = some r := h; clear h; obtain ⟨t300, A2, H⟩ := bi_ H
 cases t300
 ·replace H := iN_ H; obtain rfl := Option.some.inj H; go_enter Tryz.func23, Tryz.ntmps23; go_wp2_with (first | (refine gx_ w 1 (n4_ a0_0 a0_1 a0_2 a0_3) 23 ?_; clear HB; intro gb299 w43 BK299 GE299 HB; have GW299 := GE299; have Z44 := bz4_ BK299) | (refine gC 21 ?_; refine gL 4 Tryz.func21 #[.agg (n4_ a0_0 a0_1 a0_2 a0_3)] ?_; (with_reducible refine (lustrumref08_Sane.calls k a0_0 a0_1 a0_2 a0_3 false _ A2.out).mono ?_); rintro e w45 ⟨rfl, hb⟩; refine ⟨_, rfl, ?_⟩; replace BK299 := bb_ BK299 hb; replace HB := bs_ hb; (try clear hb))); go_ret; exact ⟨re_, hs_⟩
 ·replace H := iP_ H
  obtain ⟨c4b0, c4b1, H⟩ | ⟨c4, c4b0, c4b1, H⟩ := ie_ H
  ·obtain ⟨c5, H⟩ := gc_ H; have c5b0 := eq_true c5; have c5b1 := decide_eq_true c5; (try have c5b2 : (9223372036854775807 < a0_1.size + 1) = False := eq_false (Nat.not_lt.2 c5))
   obtain ⟨c6, H⟩ := gc_ H; have c6b0 := eq_true c6; have c6b1 := decide_eq_true c6; (try have c6b2 : (9223372036854775807 < (a0_1 ++ (⟨#[45]⟩ : ByteArray)).size + a0_2.size) = False := eq_false (Nat.not_lt.2 c6)); (try have c6b3 : (9223372036854775807 < a0_1.size + 1 + a0_2.size) = False := eq_false (Nat.not_lt.2 (by have h_ := c6; simp only [ByteArray.size_append] at h_; exact h_)))
   obtain ⟨c7, H⟩ := gc_ H; have c7b0 := eq_true c7; have c7b1 := decide_eq_true c7; (try have c7b2 : (9223372036854775807 < ((a0_1 ++ (⟨#[45]⟩ : ByteArray)) ++ a0_2).size + 1) = False := eq_false (Nat.not_lt.2 c7)); (try have c7b3 : (9223372036854775807 < a0_1.size + 1 + a0_2.size + 1) = False := eq_false (Nat.not_lt.2 (by have h_ := c7; simp only [ByteArray.size_append] at h_; exact h_)))
   obtain ⟨c8, H⟩ := gc_ H; have c8b0 := eq_true c8; have c8b1 : decide ((((a0_1 ++ (⟨#[45]⟩ : ByteArray)) ++ a0_2) ++ (⟨#[45]⟩ : ByteArray)).size + a0_3.size ≤ 9223372036854775807) = true := decide_eq_true c8; (try have c8b2 : (9223372036854775807 < (((a0_1 ++ (⟨#[45]⟩ : ByteArray)) ++ a0_2) ++ (⟨#[45]⟩ : ByteArray)).size + a0_3.size) = False := eq_false (Nat.not_lt.2 c8)); (try have c8b3 : (9223372036854775807 < a0_1.size + 1 + a0_2.size + 1 + a0_3.size) = False := eq_false (Nat.not_lt.2 (by have h_ := c8; simp only [ByteArray.size_append] at h_; exact h_))); obtain rfl := Option.some.inj H; go_enter Tryz.func23, Tryz.ntmps23; go_wp2_with (first | (refine gx_ w 1 (n4_ a0_0 a0_1 a0_2 a0_3) 23 ?_; clear HB; intro gb299 w9 BK299 GE299 HB; have GW299 := GE299; have Z10 := bz4_ BK299) | (refine gC 21 ?_; refine gL 4 Tryz.func21 #[.agg (n4_ a0_0 a0_1 a0_2 a0_3)] ?_; (with_reducible refine (lustrumref08_Sane.calls k a0_0 a0_1 a0_2 a0_3 true _ A2.out).mono ?_); rintro e w11 ⟨rfl, hb⟩; refine ⟨_, rfl, ?_⟩; replace BK299 := bb_ BK299 hb; replace HB := bs_ hb; have Z12 := bz4_ BK299)); go_ret; exact ⟨re_, hs_⟩
  ·obtain ⟨c13b0, c13b1, H⟩ | ⟨c13, c13b0, c13b1, H⟩ := ie_ H
   ·obtain ⟨c14, H⟩ := gc_ H; have c14b0 := eq_true c14; have c14b1 := decide_eq_true c14; (try have c14b2 : (9223372036854775807 < a0_1.size + 1) = False := eq_false (Nat.not_lt.2 c14))
    obtain ⟨c15, H⟩ := gc_ H; have c15b0 := eq_true c15; have c15b1 := decide_eq_true c15; (try have c15b2 : (9223372036854775807 < (a0_1 ++ (⟨#[45]⟩ : ByteArray)).size + a0_2.size) = False := eq_false (Nat.not_lt.2 c15)); (try have c15b3 : (9223372036854775807 < a0_1.size + 1 + a0_2.size) = False := eq_false (Nat.not_lt.2 (by have h_ := c15; simp only [ByteArray.size_append] at h_; exact h_))); obtain rfl := Option.some.inj H; go_enter Tryz.func23, Tryz.ntmps23; go_wp2_with (first | (refine gx_ w 1 (n4_ a0_0 a0_1 a0_2 a0_3) 23 ?_; clear HB; intro gb299 w16 BK299 GE299 HB; have GW299 := GE299; have Z17 := bz4_ BK299) | (refine gC 21 ?_; refine gL 4 Tryz.func21 #[.agg (n4_ a0_0 a0_1 a0_2 a0_3)] ?_; (with_reducible refine (lustrumref08_Sane.calls k a0_0 a0_1 a0_2 a0_3 true _ A2.out).mono ?_); rintro e w18 ⟨rfl, hb⟩; refine ⟨_, rfl, ?_⟩; replace BK299 := bb_ BK299 hb; replace HB := bs_ hb; have Z19 := bz4_ BK299)); go_ret; exact ⟨re_, hs_⟩
   ·obtain ⟨c20b0, c20b1, H⟩ | ⟨c20, c20b0, c20b1, H⟩ := ie_ H
    ·obtain ⟨c21, H⟩ := gc_ H; have c21b0 := eq_true c21; have c21b1 := decide_eq_true c21; (try have c21b2 : (9223372036854775807 < a0_1.size + 1) = False := eq_false (Nat.not_lt.2 c21))
     obtain ⟨c22, H⟩ := gc_ H; have c22b0 := eq_true c22; have c22b1 := decide_eq_true c22; (try have c22b2 : (9223372036854775807 < (a0_1 ++ (⟨#[115]⟩ : ByteArray)).size + a0_2.size) = False := eq_false (Nat.not_lt.2 c22)); (try have c22b3 : (9223372036854775807 < a0_1.size + 1 + a0_2.size) = False := eq_false (Nat.not_lt.2 (by have h_ := c22; simp only [ByteArray.size_append] at h_; exact h_))); obtain rfl := Option.some.inj H; go_enter Tryz.func23, Tryz.ntmps23; go_wp2_with (first | (refine gx_ w 1 (n4_ a0_0 a0_1 a0_2 a0_3) 23 ?_; clear HB; intro gb299 w23 BK299 GE299 HB; have GW299 := GE299; have Z24 := bz4_ BK299) | (refine gC 21 ?_; refine gL 4 Tryz.func21 #[.agg (n4_ a0_0 a0_1 a0_2 a0_3)] ?_; (with_reducible refine (lustrumref08_Sane.calls k a0_0 a0_1 a0_2 a0_3 true _ A2.out).mono ?_); rintro e w25 ⟨rfl, hb⟩; refine ⟨_, rfl, ?_⟩; replace BK299 := bb_ BK299 hb; replace HB := bs_ hb; have Z26 := bz4_ BK299)); go_ret; exact ⟨re_, hs_⟩
    ·obtain ⟨c27b0, c27b1, H⟩ | ⟨c27, c27b0, c27b1, H⟩ := ie_ H
     ·obtain ⟨c28, H⟩ := gc_ H; have c28b0 := eq_true c28; have c28b1 := decide_eq_true c28; (try have c28b2 : (9223372036854775807 < a0_1.size + 1) = False := eq_false (Nat.not_lt.2 c28)); obtain rfl := Option.some.inj H; go_enter Tryz.func23, Tryz.ntmps23; go_wp2_with (first | (refine gx_ w 1 (n4_ a0_0 a0_1 a0_2 a0_3) 23 ?_; clear HB; intro gb299 w29 BK299 GE299 HB; have GW299 := GE299; have Z30 := bz4_ BK299) | (refine gC 21 ?_; refine gL 4 Tryz.func21 #[.agg (n4_ a0_0 a0_1 a0_2 a0_3)] ?_; (with_reducible refine (lustrumref08_Sane.calls k a0_0 a0_1 a0_2 a0_3 true _ A2.out).mono ?_); rintro e w31 ⟨rfl, hb⟩; refine ⟨_, rfl, ?_⟩; replace BK299 := bb_ BK299 hb; replace HB := bs_ hb; have Z32 := bz4_ BK299)); go_ret; exact ⟨re_, hs_⟩
     ·obtain ⟨c33b0, c33b1, H⟩ | ⟨c33, c33b0, c33b1, H⟩ := ie_ H
      ·obtain ⟨c34, H⟩ := gc_ H; have c34b0 := eq_true c34; have c34b1 := decide_eq_true c34; (try have c34b2 : (9223372036854775807 < a0_1.size + 1) = False := eq_false (Nat.not_lt.2 c34)); obtain rfl := Option.some.inj H; go_enter Tryz.func23, Tryz.ntmps23; go_wp2_with (first | (refine gx_ w 1 (n4_ a0_0 a0_1 a0_2 a0_3) 23 ?_; clear HB; intro gb299 w35 BK299 GE299 HB; have GW299 := GE299; have Z36 := bz4_ BK299) | (refine gC 21 ?_; refine gL 4 Tryz.func21 #[.agg (n4_ a0_0 a0_1 a0_2 a0_3)] ?_; (with_reducible refine (lustrumref08_Sane.calls k a0_0 a0_1 a0_2 a0_3 true _ A2.out).mono ?_); rintro e w37 ⟨rfl, hb⟩; refine ⟨_, rfl, ?_⟩; replace BK299 := bb_ BK299 hb; replace HB := bs_ hb; have Z38 := bz4_ BK299)); go_ret; exact ⟨re_, hs_⟩
      ·obtain rfl := Option.some.inj H; go_enter Tryz.func23, Tryz.ntmps23; go_wp2_with (first | (refine gx_ w 1 (n4_ a0_0 a0_1 a0_2 a0_3) 23 ?_; clear HB; intro gb299 w39 BK299 GE299 HB; have GW299 := GE299; have Z40 := bz4_ BK299) | (refine gC 21 ?_; refine gL 4 Tryz.func21 #[.agg (n4_ a0_0 a0_1 a0_2 a0_3)] ?_; (with_reducible refine (lustrumref08_Sane.calls k a0_0 a0_1 a0_2 a0_3 true _ A2.out).mono ?_); rintro e w41 ⟨rfl, hb⟩; refine ⟨_, rfl, ?_⟩; replace BK299 := bb_ BK299 hb; replace HB := bs_ hb; have Z42 := bz4_ BK299)); go_ret; exact ⟨re_, hs_⟩
set_option maxHeartbeats 8000000 in
set_option maxRecDepth 100000 in
theorem lustrumref08_part.calls (a0 : ByteArray) (a1 a2 : Int) (r : ByteArray) (w : World) (h : lustrumref08_part.f a0 a1 a2 = some r) :
  Calls Tryz.prog 53 #[.string a0, .int .i64 a1, .int .i64 a2] w fun e w' => e = .returned (.string r) ∧ Drawn0 w w' := by
 have H : (if a2 > (a0.size : Int) then (some (⟨#[]⟩ : ByteArray)) else (if 0 ≤ a1 then (if a1 ≤ a2 then (if a2 ≤ (a0.size : Int) then (some (a0.extract (a1 : Int).toNat (a2 : Int).toNat)) else (none)) else (none)) else (none))) = some r := h; clear h
 obtain ⟨c4b0, H⟩ | ⟨c4b0, H⟩ := ic_ H
 ·obtain rfl := Option.some.inj H; go_enter Tryz.func53, Tryz.ntmps53; go_wp2; go_ret; exact ⟨by first | rfl | (simp; done) | (simp [*]; done), by repeat (first | exact Drawn0.refl _ | apply Drawn0.step)⟩
 ·obtain ⟨c5, H⟩ | ⟨c5, H⟩ := iq_ H
  ·have c5b0 := eq_true c5; have c5b1 := decide_eq_true c5; clear c5
   obtain ⟨c6, H⟩ := gc_ H; have c6b0 := eq_true c6; have c6b1 := decide_eq_true c6; clear c6
   obtain ⟨c7, H⟩ := gc_ H; have c7b0 := eq_true c7; have c7b1 := decide_eq_true c7; clear c7; obtain rfl := Option.some.inj H; go_enter Tryz.func53, Tryz.ntmps53; go_wp2; go_ret; exact ⟨by first | rfl | (simp; done) | (simp [*]; done), by repeat (first | exact Drawn0.refl _ | apply Drawn0.step)⟩
  ·exact absurd H (by simp)
set_option maxHeartbeats 8000000 in
set_option maxRecDepth 100000 in
theorem lustrumref08_Read.calls (k : Nat) (a0 : ByteArray) (r1 : Int) (r2 r3 r4 : ByteArray) (r5 : Bool) (w : World) (h : lustrumref08_Read.f k a0 = some (r1, r2, r3, r4, r5)) :
  Calls Tryz.prog 14 #[.string a0] w fun e w' => e = .returned (.tuple #[.agg #[.int .i64 r1, .string r2, .string r3, .string r4], .bool r5]) ∧ Below w.heap.size w w' := by
 have hu23 := Tryz.underlying23; have HB := A_ (Below.refl w.heap.size w); have H : ((lustrumref08_part.f a0 0 4).bind fun t116 => ((lustrumref08_part.f a0 5 7).bind fun t117 => ((lustrumref08_part.f a0 8 10).bind fun t118 => ((lustrumref08_part.f a0 0 4).bind fun t119 => ((lustrumref08_part.f a0 5 7).bind fun t120 => ((lustrumref08_part.f a0 0 4).bind fun t121 => ((lustrumref08_part.f a0 5 6).bind fun t122 => ((lustrumref08_part.f a0 0 4).bind fun t123 => ((lustrumref08_part.f a0 0 3).bind fun t124 => ((lustrumref08_part.f a0 0 2).bind fun t125 => (lustrumref08_Read.l0 k a0 (([(⟨0, t116, t117, t118⟩ : S23), (⟨1, t119, t120, (⟨#[]⟩ : ByteArray)⟩ : S23), (⟨2, t121, t122, (⟨#[]⟩ : ByteArray)⟩ : S23), (⟨3, t123, (⟨#[]⟩ : ByteArray), (⟨#[]⟩ : ByteArray)⟩ : S23), (⟨4, t124, (⟨#[]⟩ : ByteArray), (⟨#[]⟩ : ByteArray)⟩ : S23), (⟨5, t125, (⟨#[]⟩ : ByteArray), (⟨#[]⟩ : ByteArray)⟩ : S23)] : List (S23))) 0))))))))))) = some (r1, r2, r3, r4, r5) := h; clear h; obtain ⟨t116, A2, H⟩ := bi_ H; obtain ⟨t117, A3, H⟩ := bi_ H; obtain ⟨t118, A4, H⟩ := bi_ H; obtain ⟨t119, A5, H⟩ := bi_ H; obtain ⟨t120, A6, H⟩ := bi_ H; obtain ⟨t121, A7, H⟩ := bi_ H; obtain ⟨t122, A8, H⟩ := bi_ H; obtain ⟨t123, A9, H⟩ := bi_ H; obtain ⟨t124, A10, H⟩ := bi_ H; obtain ⟨t125, A11, H⟩ := bi_ H; obtain ⟨y126, hy126⟩ : ∃ y_ : List (S23), y_ = (([(⟨0, t116, t117, t118⟩ : S23), (⟨1, t119, t120, (⟨#[]⟩ : ByteArray)⟩ : S23), (⟨2, t121, t122, (⟨#[]⟩ : ByteArray)⟩ : S23), (⟨3, t123, (⟨#[]⟩ : ByteArray), (⟨#[]⟩ : ByteArray)⟩ : S23), (⟨4, t124, (⟨#[]⟩ : ByteArray), (⟨#[]⟩ : ByteArray)⟩ : S23), (⟨5, t125, (⟨#[]⟩ : ByteArray), (⟨#[]⟩ : ByteArray)⟩ : S23)] : List (S23))) := ⟨_, rfl⟩
 (replace H : (lustrumref08_Read.l0 k a0 y126 0) = some (r1, r2, r3, r4, r5) := by first | (rw [hy126]; with_reducible exact H) | (have H2_ := (Option.bind_some _ _).symm.trans H; rw [hy126]; with_reducible exact H2_) | (have H2_ := (Option.bind_some _ _).symm.trans H; with_reducible exact H2_) | with_reducible exact H | (rw [hy126]; exact H) | exact H); have Ny126 := A_ hy126; clear hy126; have H' := A_ H; clear H; go_enter Tryz.func14, Tryz.ntmps14; go_wp2_with (first | ((with_reducible refine gD 2 ?_); refine gx_ w 2 z4_ 23 ?_; clear HB; intro gb115 w12 BK115 GE115 HB; have GW115 := GE115) | ((with_reducible refine gC 53 ?_); refine goesL_ (some 7) rfl rfl Tryz.func53 (by kernel_rfl) rfl #[.string a0, .int .i64 0, .int .i64 4] rfl ml_ ?_; (with_reducible refine (lustrumref08_part.calls a0 0 4 t116 _ A2.out).mono ?_); rintro e w' ⟨rfl, ⟨nd, rfl⟩⟩; refine ⟨_, rfl, ?_⟩) | ((with_reducible refine gC 53 ?_); refine goesL_ (some 9) rfl rfl Tryz.func53 (by kernel_rfl) rfl #[.string a0, .int .i64 5, .int .i64 7] rfl ml_ ?_; (with_reducible refine (lustrumref08_part.calls a0 5 7 t117 _ A3.out).mono ?_); rintro e w' ⟨rfl, ⟨nd, rfl⟩⟩; refine ⟨_, rfl, ?_⟩) | ((with_reducible refine gC 53 ?_); refine goesL_ (some 11) rfl rfl Tryz.func53 (by kernel_rfl) rfl #[.string a0, .int .i64 8, .int .i64 10] rfl ml_ ?_; (with_reducible refine (lustrumref08_part.calls a0 8 10 t118 _ A4.out).mono ?_); rintro e w' ⟨rfl, ⟨nd, rfl⟩⟩; refine ⟨_, rfl, ?_⟩) | ((with_reducible refine gC 53 ?_); refine goesL_ (some 14) rfl rfl Tryz.func53 (by kernel_rfl) rfl #[.string a0, .int .i64 0, .int .i64 4] rfl ml_ ?_; (with_reducible refine (lustrumref08_part.calls a0 0 4 t119 _ A5.out).mono ?_); rintro e w' ⟨rfl, ⟨nd, rfl⟩⟩; refine ⟨_, rfl, ?_⟩) | ((with_reducible refine gC 53 ?_); refine goesL_ (some 16) rfl rfl Tryz.func53 (by kernel_rfl) rfl #[.string a0, .int .i64 5, .int .i64 7] rfl ml_ ?_; (with_reducible refine (lustrumref08_part.calls a0 5 7 t120 _ A6.out).mono ?_); rintro e w' ⟨rfl, ⟨nd, rfl⟩⟩; refine ⟨_, rfl, ?_⟩) | ((with_reducible refine gC 53 ?_); refine goesL_ (some 19) rfl rfl Tryz.func53 (by kernel_rfl) rfl #[.string a0, .int .i64 0, .int .i64 4] rfl ml_ ?_; (with_reducible refine (lustrumref08_part.calls a0 0 4 t121 _ A7.out).mono ?_); rintro e w' ⟨rfl, ⟨nd, rfl⟩⟩; refine ⟨_, rfl, ?_⟩) | ((with_reducible refine gC 53 ?_); refine goesL_ (some 21) rfl rfl Tryz.func53 (by kernel_rfl) rfl #[.string a0, .int .i64 5, .int .i64 6] rfl ml_ ?_; (with_reducible refine (lustrumref08_part.calls a0 5 6 t122 _ A8.out).mono ?_); rintro e w' ⟨rfl, ⟨nd, rfl⟩⟩; refine ⟨_, rfl, ?_⟩) | ((with_reducible refine gC 53 ?_); refine goesL_ (some 24) rfl rfl Tryz.func53 (by kernel_rfl) rfl #[.string a0, .int .i64 0, .int .i64 4] rfl ml_ ?_; (with_reducible refine (lustrumref08_part.calls a0 0 4 t123 _ A9.out).mono ?_); rintro e w' ⟨rfl, ⟨nd, rfl⟩⟩; refine ⟨_, rfl, ?_⟩) | ((with_reducible refine gC 53 ?_); refine goesL_ (some 27) rfl rfl Tryz.func53 (by kernel_rfl) rfl #[.string a0, .int .i64 0, .int .i64 3] rfl ml_ ?_; (with_reducible refine (lustrumref08_part.calls a0 0 3 t124 _ A10.out).mono ?_); rintro e w' ⟨rfl, ⟨nd, rfl⟩⟩; refine ⟨_, rfl, ?_⟩) | ((with_reducible refine gC 53 ?_); refine goesL_ (some 30) rfl rfl Tryz.func53 (by kernel_rfl) rfl #[.string a0, .int .i64 0, .int .i64 2] rfl ml_ ?_; (with_reducible refine (lustrumref08_part.calls a0 0 2 t125 _ A11.out).mono ?_); rintro e w' ⟨rfl, ⟨nd, rfl⟩⟩; refine ⟨_, rfl, ?_⟩) | ((with_reducible refine gD 32 ?_); refine Kd.R_lit k23 _ 23 ?hg (N := 32) ?hd (xs := ([(⟨0, t116, t117, t118⟩ : S23), (⟨1, t119, t120, (⟨#[]⟩ : ByteArray)⟩ : S23), (⟨2, t121, t122, (⟨#[]⟩ : ByteArray)⟩ : S23), (⟨3, t123, (⟨#[]⟩ : ByteArray), (⟨#[]⟩ : ByteArray)⟩ : S23), (⟨4, t124, (⟨#[]⟩ : ByteArray), (⟨#[]⟩ : ByteArray)⟩ : S23), (⟨5, t125, (⟨#[]⟩ : ByteArray), (⟨#[]⟩ : ByteArray)⟩ : S23)] : List (S23))) (inner := [.int .i64 0, .string t116, .string t117, .string t118, .int .i64 1, .string t119, .string t120, .string ⟨#[]⟩, .int .i64 2, .string t121, .string t122, .string ⟨#[]⟩, .int .i64 3, .string t123, .string ⟨#[]⟩, .string ⟨#[]⟩, .int .i64 4, .string t124, .string ⟨#[]⟩, .string ⟨#[]⟩, .int .i64 5, .string t125, .string ⟨#[]⟩, .string ⟨#[]⟩]) (ok := fun _ => True) (okp := fun _ => True) ?hr ?hp (fun _ hk => hk) trivial (Below.refl _ _) (Nat.le_refl _) (by simp) ?_; (case hd => rfl); (case hg => rfl); (case hr => first | (go_simp; done) | (go_simp; rfl)); (case hp => exact (Reps.c4 (show Kd.M k23 _ _ _ (⟨0, t116, t117, t118⟩ : S23) [.int .i64 0, .string t116, .string t117, .string t118] from (k23_mkM _ _ _ (⟨0, t116, t117, t118⟩ : S23) )) (Reps.c4 (show Kd.M k23 _ _ _ (⟨1, t119, t120, (⟨#[]⟩ : ByteArray)⟩ : S23) [.int .i64 1, .string t119, .string t120, .string ⟨#[]⟩] from (k23_mkM _ _ _ (⟨1, t119, t120, (⟨#[]⟩ : ByteArray)⟩ : S23) )) (Reps.c4 (show Kd.M k23 _ _ _ (⟨2, t121, t122, (⟨#[]⟩ : ByteArray)⟩ : S23) [.int .i64 2, .string t121, .string t122, .string ⟨#[]⟩] from (k23_mkM _ _ _ (⟨2, t121, t122, (⟨#[]⟩ : ByteArray)⟩ : S23) )) (Reps.c4 (show Kd.M k23 _ _ _ (⟨3, t123, (⟨#[]⟩ : ByteArray), (⟨#[]⟩ : ByteArray)⟩ : S23) [.int .i64 3, .string t123, .string ⟨#[]⟩, .string ⟨#[]⟩] from (k23_mkM _ _ _ (⟨3, t123, (⟨#[]⟩ : ByteArray), (⟨#[]⟩ : ByteArray)⟩ : S23) )) (Reps.c4 (show Kd.M k23 _ _ _ (⟨4, t124, (⟨#[]⟩ : ByteArray), (⟨#[]⟩ : ByteArray)⟩ : S23) [.int .i64 4, .string t124, .string ⟨#[]⟩, .string ⟨#[]⟩] from (k23_mkM _ _ _ (⟨4, t124, (⟨#[]⟩ : ByteArray), (⟨#[]⟩ : ByteArray)⟩ : S23) )) (Reps.c4 (show Kd.M k23 _ _ _ (⟨5, t125, (⟨#[]⟩ : ByteArray), (⟨#[]⟩ : ByteArray)⟩ : S23) [.int .i64 5, .string t125, .string ⟨#[]⟩, .string ⟨#[]⟩] from (k23_mkM _ _ _ (⟨5, t125, (⟨#[]⟩ : ByteArray), (⟨#[]⟩ : ByteArray)⟩ : S23) )) (Reps.none _ _)))))))); intro v127 w13 ho14 hb hg_ hnew_; clear hg_ hnew_; (first | rw [← Ny126.out] at ho14 | (simp only [Int.reduceToNat] at ho14; rw [← Ny126.out] at ho14)); have HO128 := A_ (Kd.R_lower (Kd.R_newB ho14 (g := gb115) (o := .cells z4_ 23 (0, 0)) (bl_ BK115.out)) (below_size hs_)); replace BK115 := bb_ BK115 hb; replace HB := bs_ hb; clear hb ho14))
 go_loopg [5] k (fun kq v5 w' => ∃ (x5_1 x116000_1 : Int) (x116001_1 x116002_1 : ByteArray) (x116003_1 : ByteArray), v5 = .int .i64 x5_1 ∧ Aside0 (lustrumref08_Read.l0 kq a0 y126 x5_1 = some (r1, r2, r3, r4, r5)) ∧ Aside0 (kq ≤ k) ∧ Aside0 (Kd.R k23 23 w' w.heap.size (fun k_ => k_ ≠ gb115) v127 y126) ∧ Aside0 (w'.heap[gb115]? = some (.cells (n4_ x116000_1 x116001_1 x116002_1 x116003_1) 23 (0, 0))) ∧ Aside0 (Below w.heap.size w w'))
 case atStart => exact ⟨(0), (0), ((⟨#[]⟩ : ByteArray)), ((⟨#[]⟩ : ByteArray)), ((⟨#[]⟩ : ByteArray)), rf_, H', ⟨Nat.le_refl _⟩, ⟨by (with_reducible repeat (first | apply Kd.R_alloc | apply Kd.R_drewN | apply Kd.R_drew)); exact Kd.R_mono HO128.out (fun _ hk => hk.2)⟩, ⟨bl_ BK115.out⟩, ⟨hs_⟩⟩
 case round =>
  clear H'; obtain ⟨x5_1, x116000_1, x116001_1, x116002_1, x116003_1, rfl, HA, HK1, HO_4, BK115, HB⟩ := hrel
  cases gk with
  | zero => exact absurd HA.out (by simp [lustrumref08_Read.l0])
  | succ k1 =>
   have H := HA.out; clear HA; simp only [lustrumref08_Read.l0] at H
   obtain ⟨c15b0, H⟩ | ⟨c15b0, H⟩ := ic_ H
   ·obtain ⟨c16b0, c16b1, H⟩ | ⟨c16, c16b0, c16b1, H⟩ := ie_ H
    ·have H' := A_ H; clear H; obtain ⟨Ao17, co17, eo17⟩ := Kd.R_slice HO_4.out; subst eo17; go_wp2; go_roundg k1
     case measure => have := HK1.out; omega
     case rel => exact ⟨(wrap64 (x5_1 + 1)), (x116000_1), (x116001_1), (x116002_1), (x116003_1), rf_, H', ⟨by have := HK1.out; omega⟩, ⟨fxR_ HO_4.out⟩, ⟨bl_ BK115.out⟩, ⟨hs_⟩⟩
    ·obtain ⟨c18b0, H⟩ := gd_ H; obtain ⟨t130, A19, H⟩ := bi_ H
     obtain ⟨c20b0, c20b1, H⟩ | ⟨c20, c20b0, c20b1, H⟩ := ie_ H
     ·simp only [Option.some.injEq, Prod.mk.injEq] at H; obtain ⟨rfl, rfl, rfl, rfl, rfl⟩ := H; obtain ⟨Ao21, co21, eo21⟩ := Kd.R_slice HO_4.out; subst eo21; have p129 : 0 ≤ (x5_1 : Int) := od_; have q129 : x5_1 < (y126.length : Int) := od_; obtain ⟨ad129, e129, hx129_0, hx129_1, hx129_2, hx129_3⟩ := at_T23 (Kd.R_reads' HO_4.out).2.2 x5_1 p129 q129
      cases e129
      replace p129 := eq_true p129; replace q129 := eq_true q129; go_wp2_with (first | (go_at_call 23; (with_reducible refine (lustrumref08_Text.calls k1 ((rd_T23 y126 x5_1).f0) ((rd_T23 y126 x5_1).f1) ((rd_T23 y126 x5_1).f2) ((rd_T23 y126 x5_1).f3) t130 _ A19.out).mono ?_); rintro e w22 ⟨rfl, hb⟩; replace HO_4 := A_ (Kd.R_below (fxR_ HO_4.out) hb); replace BK115 := bb_ BK115 hb; replace HB := bs_ hb; have p131 : 0 ≤ (x5_1 : Int) := od_; have q131 : x5_1 < (y126.length : Int) := od_; obtain ⟨ad131, e131, hx131_0, hx131_1, hx131_2, hx131_3⟩ := at_T23 (Kd.R_reads' HO_4.out).2.2 x5_1 p131 q131; obtain rfl : ad129 = ad131 := (by injection e131); replace p131 := eq_true p131; replace q131 := eq_true q131; have Z23 := bz4_ BK115)); refine bodyPost_ret (results_ct rfl _ _ gb115 23 #[.int .i64 ((rd_T23 y126 x5_1).f0), .string ((rd_T23 y126 x5_1).f1), .string ((rd_T23 y126 x5_1).f2), .string ((rd_T23 y126 x5_1).f3)] (0, 0) _ rfl (pb_ BK115.out) Tryz.underlying23 rfl (by kernel_rfl)) rfl ?_; exact ⟨re_, hs_⟩
     ·have H' := A_ H; clear H; obtain ⟨Ao24, co24, eo24⟩ := Kd.R_slice HO_4.out; subst eo24; have p129 : 0 ≤ (x5_1 : Int) := od_; have q129 : x5_1 < (y126.length : Int) := od_; obtain ⟨ad129, e129, hx129_0, hx129_1, hx129_2, hx129_3⟩ := at_T23 (Kd.R_reads' HO_4.out).2.2 x5_1 p129 q129
      cases e129
      replace p129 := eq_true p129; replace q129 := eq_true q129; go_wp2_with (first | (go_at_call 23; (with_reducible refine (lustrumref08_Text.calls k1 ((rd_T23 y126 x5_1).f0) ((rd_T23 y126 x5_1).f1) ((rd_T23 y126 x5_1).f2) ((rd_T23 y126 x5_1).f3) t130 _ A19.out).mono ?_); rintro e w25 ⟨rfl, hb⟩; replace HO_4 := A_ (Kd.R_below (fxR_ HO_4.out) hb); replace BK115 := bb_ BK115 hb; replace HB := bs_ hb; (try clear hb))); go_roundg k1
      case measure => have := HK1.out; omega
      case rel => exact ⟨(wrap64 (x5_1 + 1)), (x116000_1), (x116001_1), (x116002_1), (x116003_1), rf_, H', ⟨by have := HK1.out; omega⟩, ⟨fxR_ HO_4.out⟩, ⟨bl_ BK115.out⟩, ⟨hs_⟩⟩
   ·simp only [Option.some.injEq, Prod.mk.injEq] at H; obtain ⟨rfl, rfl, rfl, rfl, rfl⟩ := H; obtain ⟨Ao26, co26, eo26⟩ := Kd.R_slice HO_4.out; subst eo26; have Z27 := bz4_ BK115; go_wp2; refine bodyPost_ret (results_ct rfl _ _ gb115 23 #[.int .i64 0, .string ⟨#[]⟩, .string ⟨#[]⟩, .string ⟨#[]⟩] (0, 0) _ rfl (pb_ BK115.out) Tryz.underlying23 rfl (by kernel_rfl)) rfl ?_; exact ⟨re_, hs_⟩
end Go.Proofs.YthppfagfmjchoaaGreatDoor.A