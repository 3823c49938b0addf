/- Walks of functions, and plain facts about what they compute. No conditions. -/
import Derived.Test.YthppfagfmjchoaaDoorPo1
set_option linter.unusedVariables false
set_option linter.unusedSimpArgs false
namespace Go.Proofs.YthppfagfmjchoaaDoor.A
open Go.RowKit Go.Proofs.YthppfagfmjchoaaDoorW.PrintWords Go.Proofs.YthppfagfmjchoaaDoorW.PrintLast Go.Proofs.YthppfagfmjchoaaDoorW.PrintMore
attribute [local go_sem] max2_int min2_int max_two min_two max_three min_three max_four min_four
def lustrumlaw08_awake.f (k : Nat)  : Option (Bool) := (point_Read.f k (⟨#[49, 57, 56, 52, 115, 52]⟩ : ByteArray)).bind fun bt135 => ((point_Set.f k bt135.1 bt135.2.1 bt135.2.2.1 bt135.2.2.2.1).bind fun bt141 => ((point_Set.f k 3 (⟨#[88, 88, 88, 88]⟩ : ByteArray) (⟨#[]⟩ : ByteArray) (⟨#[]⟩ : ByteArray)).bind fun bt145 => (if bt135.2.2.2.2 = true then (if bt135.1 = 2 then (if bt135.2.1.toList = ([49, 57, 56, 52] : List UInt8) then (if bt135.2.2.1.toList = ([52] : List UInt8) then (if bt141.2 = 0 then (if (bt141.1.length : Int) = 1 then (if 0 < (bt141.1.length : Int) then (if ((rd_T42 bt141.1 0).f0) = 7939 then (if bt145.2 = 8 then ((point_Text.f k bt135.1 bt135.2.1 bt135.2.2.1 bt135.2.2.2.1).bind fun t150 => (if t150.toList = ([49, 57, 56, 52, 115, 52] : List UInt8) then ((point_Radius.f 0).bind fun t151 => (some (t151 == 3))) else (some false))) else (some false)) else (some false)) else (none)) else (some false)) else (some false)) else (some false)) else (some false)) else (some false)) else (some false))))
theorem lustrumlaw08_awake.mono : ∀ k, LeO (lustrumlaw08_awake.f k ) (lustrumlaw08_awake.f (k + 1) ) := by
  intro  k
  unfold lustrumlaw08_awake.f
  repeat' first
      | (with_reducible exact point_Read.mono _ _)
      | (with_reducible exact point_Set.mono _ _ _ _ _)
      | (with_reducible exact point_Text.mono _ _ _ _ _)
      | (with_reducible exact LeO.refl _)
      | (with_reducible exact LeO.none _)
      | (with_reducible refine LeO.ite ?_ ?_)
      | (with_reducible refine LeO.bind ?_ (fun _ => ?_))
      | exact point_Read.mono _ _
      | exact point_Set.mono _ _ _ _ _
      | exact point_Text.mono _ _ _ _ _
      | exact LeO.none _
      | refine LeO.ite ?_ ?_
      | refine LeO.bind ?_ (fun _ => ?_)
def lustrumlaw08_PointOnly.l0 : Nat → Bool → Int → Int → Int → ByteArray → List (S23) → Int → Option (Bool)
  | 0, _, _, _, _, _, _, _ => none
  | k + 1, x3, x4, x6, x7, x8, x9, x10 => if x10 < (x9.length : Int) then (if 0 ≤ x10 then ((point_Set.f k ((rd_T23 x9 x10).f0) ((rd_T23 x9 x10).f1) ((rd_T23 x9 x10).f2) ((rd_T23 x9 x10).f3)).bind fun bt216 => ((unit_Of.f k ((rd_T23 x9 x10).f0) x4).bind fun bt221 => (if bt216.2 = 0 then (if bt221.2 = true then ((lustrumref04_Same.f k bt216.1 (([(⟨bt221.1, bt221.1⟩ : S42)] : List (S42)))).bind fun t226 => (if t226 = true then (lustrumlaw08_PointOnly.l0 k x3 x4 x6 x7 x8 x9 (wrap64 (x10 + 1))) else (some false))) else (some false)) else (some false)))) else (none)) else (if x3 = true then (if 0 < (x9.length : Int) then ((point_Text.f k ((rd_T23 x9 0).f0) ((rd_T23 x9 0).f1) ((rd_T23 x9 0).f2) ((rd_T23 x9 0).f3)).bind fun t212 => (if x8.size + 1 ≤ 9223372036854775807 then ((lustrumlaw08_digits.f k x6 2).bind fun t213 => (if (x8 ++ (⟨#[45]⟩ : ByteArray)).size + t213.size ≤ 9223372036854775807 then (if ((x8 ++ (⟨#[45]⟩ : ByteArray)) ++ t213).size + 1 ≤ 9223372036854775807 then ((lustrumlaw08_digits.f k x7 2).bind fun t214 => (if (((x8 ++ (⟨#[45]⟩ : ByteArray)) ++ t213) ++ (⟨#[45]⟩ : ByteArray)).size + t214.size ≤ 9223372036854775807 then (some (t212.toList == ((((x8 ++ (⟨#[45]⟩ : ByteArray)) ++ t213) ++ (⟨#[45]⟩ : ByteArray)) ++ t214).toList)) else (none))) else (none)) else (none))) else (none))) else (none)) else (some false))
def lustrumlaw08_PointOnly.f (k : Nat) (a0 : Int) : Option (Bool) := (lustrumlaw08_awake.f k).bind fun t200 => ((civil_Date.f k (Int.tmod (Go.bits .and .i64 a0 1073741823) 3652425)).bind fun bt201 => ((lustrumlaw08_digits.f k bt201.1 4).bind fun t204 => ((lustrumlaw08_digits.f k bt201.2.1 2).bind fun t205 => ((lustrumlaw08_digits.f k bt201.2.2 2).bind fun t206 => ((lustrumlaw08_digits.f k bt201.2.1 2).bind fun t207 => (if 0 ≤ 3 then (if 3 ≤ (t204.size : Int) then (if 0 ≤ 2 then (if 2 ≤ (t204.size : Int) then (lustrumlaw08_PointOnly.l0 k t200 (Int.tmod (Go.bits .and .i64 a0 1073741823) 3652425) bt201.2.1 bt201.2.2 t204 (([(⟨0, t204, t205, t206⟩ : S23), (⟨1, t204, t207, (⟨#[]⟩ : ByteArray)⟩ : S23), (⟨3, t204, (⟨#[]⟩ : ByteArray), (⟨#[]⟩ : ByteArray)⟩ : S23), (⟨4, t204.extract 0 3, (⟨#[]⟩ : ByteArray), (⟨#[]⟩ : ByteArray)⟩ : S23), (⟨5, t204.extract 0 2, (⟨#[]⟩ : ByteArray), (⟨#[]⟩ : ByteArray)⟩ : S23)] : List (S23))) 0) else (none)) else (none)) else (none)) else (none)))))))
theorem eqA42 (d : Nat) (w : World) (x0 y0 : Int) (x1 y1 : Int) :
  (Op.equalIn (d + 2) 42 (.agg #[.int .i64 x0, .int .i64 x1]) (.agg #[.int .i64 y0, .int .i64 y1])).run Tryd.prog w = .ok (x0 == y0 && (x1 == y1)) w := by
 refine eqA_of Tryd.underlying42 (by kernel_rfl) ?_; refine eqf_cons (by rfl) (by go_simp; rfl) (by go_simp; rfl) (by go_simp) ?_; exact eqf_last (by rfl) (by go_simp; rfl) (by go_simp; rfl) (by go_simp)
end Go.Proofs.YthppfagfmjchoaaDoor.A
namespace Go.Proofs.YthppfagfmjchoaaDoor.A
open Go.RowKit Go.Proofs.YthppfagfmjchoaaDoorW.PrintWords Go.Proofs.YthppfagfmjchoaaDoorW.PrintLast Go.Proofs.YthppfagfmjchoaaDoorW.PrintMore
attribute [local go_sem] max2_int min2_int max_two min_two max_three min_three max_four min_four
attribute [local go_sem high] eqA42
set_option maxHeartbeats 8000000 in
set_option maxRecDepth 100000 in
theorem lustrumlaw08_digits.calls (k : Nat) (a0 a1 : Int) (r : ByteArray) (w : World) (h : lustrumlaw08_digits.f k a0 a1 = some r) :
  Calls Tryd.prog 13 #[.int .i64 a0, .int .i64 a1] w fun e w' => e = .returned (.string r) ∧ Below w.heap.size w w' := by
 have HB := A_ (Below.refl w.heap.size w); have H : (lustrumlaw08_digits.l0 k a0 a1 (⟨#[]⟩ : ByteArray) 0) = some r := h; clear h; have H' := A_ H; clear H; go_enter Tryd.func13, Tryd.ntmps13; go_wp2; go_loopg [0, 5, 6] k (fun kq v0 v5 v6 w' => ∃ (x0_1 : Int) (x5_1 : ByteArray) (x6_1 : Int), v0 = .int .i64 x0_1 ∧ v5 = .string x5_1 ∧ v6 = .int .i64 x6_1 ∧ Aside0 (lustrumlaw08_digits.l0 kq x0_1 a1 x5_1 x6_1 = some r) ∧ Aside0 (kq ≤ k) ∧ Aside0 (Below w.heap.size w w'))
 case atStart => exact ⟨(a0), ((⟨#[]⟩ : ByteArray)), (0), rf_, rf_, rf_, H', ⟨Nat.le_refl _⟩, ⟨hs_⟩⟩
 case round =>
  clear H'; (try clear c1); (try clear p2); obtain ⟨x0_1, x5_1, x6_1, rfl, rfl, rfl, HA, HK1, HB⟩ := hrel
  cases gk with
  | zero => exact absurd HA.out (by simp [lustrumlaw08_digits.l0])
  | succ k1 =>
   have H := HA.out; clear HA; simp only [lustrumlaw08_digits.l0] at H
   by_cases c3 : x6_1 < a1
   ·rw [if_pos c3] at H
    have c3b0 := decide_eq_true c3; clear c3; obtain ⟨y195, hy195⟩ : ∃ y_ : List Int, y_ = (([(wrap64 (48 + (Int.tmod x0_1 10))) % 256] : List Int)) := ⟨_, rfl⟩; (replace H : (if (strOfNums y195).size + x5_1.size ≤ 9223372036854775807 then (lustrumlaw08_digits.l0 k1 (wrap64 (Int.tdiv x0_1 10)) a1 ((strOfNums y195) ++ x5_1) (wrap64 (x6_1 + 1))) else (none)) = some r := by first | (rw [hy195]; with_reducible exact H) | (have H2_ := (Option.bind_some _ _).symm.trans H; rw [hy195]; with_reducible exact H2_) | (have H2_ := (Option.bind_some _ _).symm.trans H; with_reducible exact H2_) | with_reducible exact H | (rw [hy195]; exact H) | exact H); have Ny195 := A_ hy195; clear hy195
    by_cases c4 : (strOfNums y195).size + x5_1.size ≤ 9223372036854775807
    ·rw [if_pos c4] at H
     have c4b0 := eq_true c4; have c4b1 := decide_eq_true c4; (try have c4b2 : (9223372036854775807 < (strOfNums y195).size + x5_1.size) = False := eq_false (Nat.not_lt.2 c4)); have H' := A_ H; clear H; go_wp2_with (first | ((with_reducible refine gD 16 ?_); refine Kd.R_lit (Kd.int .u8) _ 5 ?hg (N := 16) ?hd (xs := ([(wrap64 (48 + (Int.tmod x0_1 10))) % 256] : List Int)) (inner := [.int .u8 ((wrap64 (48 + (Int.tmod x0_1 10))) % 256)]) (ok := fun _ => True) (okp := fun _ => True) ?hr ?hp (fun _ hk => hk) trivial (Below.refl _ _) (Nat.le_refl _) (by simp) ?_; (case hd => rfl); (case hg => rfl); (case hr => first | (go_simp; done) | (go_simp; rfl)); (case hp => exact (Reps.one (show Kd.M (Kd.int .u8) _ _ _ ((wrap64 (48 + (Int.tmod x0_1 10))) % 256) [.int .u8 ((wrap64 (48 + (Int.tmod x0_1 10))) % 256)] from rfl) (Reps.none _ _))); intro v196 w5 ho6 hb hg_ hnew_; clear hg_ hnew_; (first | rw [← Ny195.out] at ho6 | (simp only [Int.reduceToNat] at ho6; rw [← Ny195.out] at ho6)); have HO197 := A_ (Kd.R_lower ho6 (below_size hs_)); replace HB := bs_ hb; clear hb ho6; have hcv7 := own_string (P := Tryd.prog) Tryd.underlying55 Tryd.underlying5 Tryd.underlying9 (Kd.own_of_R HO197.out))); go_roundg k1
     case measure => have := HK1.out; omega
     case rel => exact ⟨(wrap64 (Int.tdiv x0_1 10)), ((strOfNums y195) ++ x5_1), (wrap64 (x6_1 + 1)), rf_, rf_, rf_, H', ⟨by have := HK1.out; omega⟩, ⟨hs_⟩⟩
    ·rw [if_neg c4] at H
     exact absurd H (by simp)
   ·rw [if_neg c3] at H
    have c3b0 := decide_eq_false c3; clear c3; obtain rfl := Option.some.inj H; go_wp2; go_ret; exact ⟨re_, hs_⟩
end Go.Proofs.YthppfagfmjchoaaDoor.A
namespace Go.Proofs.YthppfagfmjchoaaDoor.A
open Go.RowKit Go.Proofs.YthppfagfmjchoaaDoorW.PrintWords Go.Proofs.YthppfagfmjchoaaDoorW.PrintLast Go.Proofs.YthppfagfmjchoaaDoorW.PrintMore
attribute [local go_sem] max2_int min2_int max_two min_two max_three min_three max_four min_four
attribute [local go_sem] isSome_setCell
set_option maxHeartbeats 8000000 in
set_option maxRecDepth 100000 in
theorem image_Cover.calls (k : Nat) (a0 : Int) (A1 : Option Addr) (c1 : Nat) (l1 r : List (S42)) (w : World) (htab : TL w.heap.size w) (hr1 : Kd.C k42 w A1 l1.length l1) (hc1 : l1.length ≤ c1) (h : image_Cover.f k a0 l1 = some r) :
  Calls Tryd.prog 44 #[.int .i64 a0, .slice A1 l1.length c1] w fun e w' => ∃ v0_ : Value, e = .returned (v0_) ∧ Kd.R k42 42 w' w.heap.size (fun _ => True) v0_ r ∧ Below w.heap.size w w' := by
 have HTAB := A_ htab; clear htab; have hu42 := Tryd.underlying42; have HR1 := A_ hr1; have HC1 := A_ hc1; clear hr1 hc1; have HB := A_ (Below.refl w.heap.size w); have H : ((image_units.f k a0 l1).bind fun t105 => (image_Cover.l0 k a0 ([] : List (S42)) t105 (t105.length : Int) 0)) = some r := h; clear h; obtain ⟨t105, A3, H⟩ := bi_ H; have H' := A_ H; clear H; go_enter Tryd.func44, Tryd.ntmps44; go_wp2_with (first | ((with_reducible refine gC 60 ?_); refine goesL_ (some 14) rfl rfl Tryd.func60 (by kernel_rfl) rfl #[.int .i64 a0, .slice A1 l1.length c1] rfl ml_ ?_; (with_reducible refine (image_units.calls k a0 _ _ l1 t105 _ ?side1 ?side2 A3.out).mono ?_); (case side1 => repeat (first | exact HR1.out | (with_reducible refine Kd.C_alloc ?_ _) | (with_reducible refine Kd.C_drewN ?_ _) | (with_reducible refine Kd.C_drew ?_))); (case side2 => exact HC1.out); rintro e w4 ⟨v106, rfl, ho0, hb⟩; refine ⟨_, rfl, ?_⟩; have HO107 := A_ (Kd.R_lower ho0 (below_size hs_)); replace HB := bs_ hb; (try clear hb); (try clear ho0); obtain ⟨Ao5, co5, eo5⟩ := Kd.R_slice HO107.out; subst eo5)); go_loopg [5, 16] k (fun kq v5 v16 w' => ∃ (x5_1 : List (S42)) (x16_1 : Int), v16 = .int .i64 x16_1 ∧ Aside0 (image_Cover.l0 kq a0 x5_1 t105 (t105.length : Int) x16_1 = some r) ∧ Aside0 (kq ≤ k) ∧ Aside0 (Kd.R k42 42 w' w.heap.size (fun k_ => some k_ ≠ ((.slice Ao5 t105.length co5) : Value).ownBlock) v5 x5_1) ∧ Aside0 (Kd.R k42 42 w' w.heap.size (fun k_ => nv_ k_ v5) (.slice Ao5 t105.length co5) t105) ∧ Aside0 (Below w.heap.size w w'))
 case atStart => exact ⟨(([] : List (S42))), (0), rf_, H', ⟨Nat.le_refl _⟩, ⟨by first | exact Kd.R_nil _ _ _ _ _ | exact Kd.N_nil _ _ _ _ _ | exact Kd.V_nil _ _ _ _ _ | exact Kd.Q_nil _ _ _ _ _ | exact Kd.S_nil _ _ _ _ _⟩, ⟨by (with_reducible repeat (first | apply Kd.R_alloc | apply Kd.R_drewN | apply Kd.R_drew)); exact Kd.R_mono HO107.out (fun _ hk => (by simp [Value.ownBlock]))⟩, ⟨hs_⟩⟩
 case round =>
  clear H'; (try clear c1); (try clear p2); obtain ⟨x5_1, x16_1, rfl, HA, HK1, HO_5, HO_14, HB⟩ := hrel
  cases gk with
  | zero => exact absurd HA.out (by simp [image_Cover.l0])
  | succ k1 =>
   have H := HA.out; clear HA; simp only [image_Cover.l0] at H
   by_cases c6 : x16_1 < (t105.length : Int)
   ·rw [if_pos c6] at H
    have c6b0 := decide_eq_true c6; clear c6
    by_cases c7 : 0 ≤ x16_1
    ·rw [if_pos c7] at H
     have c7b0 := decide_eq_true c7; clear c7
     by_cases c8 : x16_1 < (t105.length : Int)
     ·rw [if_pos c8] at H
      have c8b0 := decide_eq_true c8; clear c8; obtain ⟨⟨t110, t111⟩, A9, H⟩ := bi_ H; obtain ⟨⟨t112, t113⟩, A10, H⟩ := bi_ H
      by_cases c11 : x5_1.length < 8796093022208
      ·rw [if_pos c11] at H
       have LMc11 := A_ c11; clear c11; obtain ⟨y114, hy114⟩ : ∃ y_ : List (S42), y_ = (x5_1 ++ [(⟨t110, t112⟩ : S42)]) := ⟨_, rfl⟩; (replace H : (image_Cover.l0 k1 a0 y114 t105 (t105.length : Int) (wrap64 (x16_1 + 1))) = some r := by first | (rw [hy114]; with_reducible exact H) | (have H2_ := (Option.bind_some _ _).symm.trans H; rw [hy114]; with_reducible exact H2_) | (have H2_ := (Option.bind_some _ _).symm.trans H; with_reducible exact H2_) | with_reducible exact H | (rw [hy114]; exact H) | exact H); have Ny114 := A_ hy114; clear hy114; have H' := A_ H; clear H; have p108 : 0 ≤ (x16_1 : Int) := od_; have q108 : x16_1 < (t105.length : Int) := od_; obtain ⟨ad108, e108, hx108_0, hx108_1⟩ := at_T42 (Kd.R_reads' HO_14.out).2.2 x16_1 p108 q108
       cases e108
       replace p108 := eq_true p108; replace q108 := eq_true q108; go_wp2_with (first | ((with_reducible refine gD 7 ?_); refine bxe_ 7 #[.int .i64 0, .int .i64 0] 42 ?_; intro gb109 hg w12 hbox hb; replace HO_5 := A_ (Kd.R_below (Kd.R_elderB (fxR_ HO_5.out) gb109 (Nat.le_of_eq hg.symm)) hb); replace HO_14 := A_ (Kd.R_below (Kd.R_elderB (fxR_ HO_14.out) gb109 (Nat.le_of_eq hg.symm)) hb); have BK109 := A_ (hbox); have GW109 := gs_ w hg; have GE109 := gs_ w hg; replace HB := bs_ hb; clear hb hbox hg; have Z13 := bz2_ BK109) | ((with_reducible refine gC 61 ?_); refine goesL_ (some 24) rfl rfl Tryd.func61 (by kernel_rfl) rfl #[.int .i64 a0, .int .i64 ((rd_T42 t105 x16_1).f0)] rfl ml_ ?_; (with_reducible refine (unit_First.calls a0 ((rd_T42 t105 x16_1).f0) t110 t111 _ tl_ A9.out).mono ?_); rintro e w14 ⟨rfl, hb⟩; refine ⟨_, rfl, ?_⟩; replace HO_5 := A_ (Kd.R_below (fxR_ HO_5.out) hb); replace HO_14 := A_ (Kd.R_below (fxR_ HO_14.out) hb); replace BK109 := bp_ BK109 (.cells #[.int .i64 ((rd_T42 t105 x16_1).f0), .int .i64 ((rd_T42 t105 x16_1).f1)] 42 (0, 0)) hb; replace HB := bs_ hb; (try clear hb); have Z15 := bz2_ BK109) | ((with_reducible refine gC 62 ?_); refine goesL_ (some 31) rfl rfl Tryd.func62 (by kernel_rfl) rfl #[.int .i64 a0, .int .i64 ((rd_T42 t105 x16_1).f1)] rfl ml_ ?_; (with_reducible refine (unit_Last.calls a0 ((rd_T42 t105 x16_1).f1) t112 t113 _ tl_ A10.out).mono ?_); rintro e w16 ⟨rfl, hb⟩; refine ⟨_, rfl, ?_⟩; replace HO_5 := A_ (Kd.R_below (fxR_ HO_5.out) hb); replace HO_14 := A_ (Kd.R_below (fxR_ HO_14.out) hb); replace BK109 := bb_ BK109 hb; replace HB := bs_ hb; (try clear hb)) | ((with_reducible refine gate_builtin (b := .append) (xs := #[.tmp 34, .tmp 38]) rfl ?_); at_builtin; refine Kd.R_append k42 (w0 := w) w.heap.size rfl (.tmp 34) (.tmp 38) 34 42 (.agg #[(.int .i64 0), (.int .i64 0)]) 16 rfl Tryd.underlying34 info42 rfl (by decide) (by omega) u5 x5_1 (⟨t110, t112⟩ : S42) [.int .i64 t110, .int .i64 t112] (fun k_ => nv_ k_ (.slice (some ad108) t105.length co5) ∧ k_ ≠ gb109) (fun _ => False) rfl rfl ?aP (fun _ hk => hk.elim) ?aF ?aO ?aB ?aS ?aL ?_; (case aP => exact k42_mkM _ _ _ (⟨t110, t112⟩ : S42)); (case aB => exact hs_); (case aF => exact (fun k_ hk => ⟨Kd.fresh' (Kd.R_lt (fxR_ HO_14.out)) k_ hk, fb_ BK109 k_ hk⟩)); (case aO => exact (fxR_ HO_5.out)); (case aS => exact (below_size hs_)); (case aL => have := LMc11.out; omega); intro v115 w17 ho hb hg hat; rw [← Ny114.out] at ho; replace HO_14 := A_ (Kd.R_after (ok := (fun k_ => k_ ≠ gb109)) (fmR_ HO_14.out) hg hat); replace BK109 := A_ (blk_grown (g := gb109) (o := .cells #[.int .i64 ((rd_T42 t105 x16_1).f0), .int .i64 ((rd_T42 t105 x16_1).f1)] 42 (0, 0)) (bl_ BK109.out) hg (Kd.R_away HO_5.out (fun _ hk => hk.2))); replace HB := A_ (hb); have HO116 := A_ (ho); clear HO_5; clear ho hb hg hat))
       go_roundg k1
       case measure => have := HK1.out; omega
       case rel => exact ⟨(y114), (wrap64 (x16_1 + 1)), rf_, H', ⟨by have := HK1.out; omega⟩, ⟨by (with_reducible repeat (first | apply Kd.R_alloc | apply Kd.R_drewN | apply Kd.R_drew)); exact Kd.R_mono HO116.out (fun _ hk => hk.1)⟩, ⟨by (with_reducible repeat (first | apply Kd.R_alloc | apply Kd.R_drewN | apply Kd.R_drew)); exact Kd.R_mono HO_14.out (fun _ hk => hk.2)⟩, ⟨hs_⟩⟩
      ·rw [if_neg c11] at H
       exact absurd H (by simp)
     ·rw [if_neg c8] at H
      exact absurd H (by simp)
    ·rw [if_neg c7] at H
     exact absurd H (by simp)
   ·rw [if_neg c6] at H
    have c6b0 := decide_eq_false c6; clear c6; obtain ⟨t117, A18, H⟩ := bi_ H; obtain rfl := Option.some.inj H; obtain ⟨Ao19, co19, eo19⟩ := Kd.R_slice HO_5.out; subst eo19; go_wp2_with (first | ((with_reducible refine gC 46 ?_); refine goesL_ (some 42) rfl rfl Tryd.func46 (by kernel_rfl) rfl #[.slice Ao19 x5_1.length co19] rfl ml_ ?_; (with_reducible refine (runs_Make.calls _ _ x5_1 t117 _ ?side1 ?side2 A18.out).mono ?_); (case side1 => repeat (first | exact (Kd.R_reads' HO_5.out).2.2 | (with_reducible refine Kd.C_alloc ?_ _) | (with_reducible refine Kd.C_drewN ?_ _) | (with_reducible refine Kd.C_drew ?_))); (case side2 => exact (Kd.R_reads' HO_5.out).2.1); rintro e w20 ⟨v118, rfl, ho0, hb⟩; refine ⟨_, rfl, ?_⟩; have HO119 := A_ (Kd.R_lower (Kd.R_new' (Kd.R_new' ho0 (Kd.R_lt (fxR_ HO_5.out))) (Kd.R_lt (fxR_ HO_14.out))) (below_size hs_)); replace HO_5 := A_ (Kd.R_elder' (fxR_ HO_5.out) (Kd.R_base ho0) hb); replace HO_14 := A_ (Kd.R_elder' (fxR_ HO_14.out) (Kd.R_base ho0) hb); replace HB := bs_ hb; (try clear hb); (try clear ho0))); go_ret; exact ⟨_, by first | rfl | (simp [errW_none, errW_some] <;> rfl) | (simp [*, errW_none, errW_some] <;> rfl), by (with_reducible repeat (first | apply Kd.R_alloc | apply Kd.R_drewN | apply Kd.R_drew)); exact Kd.R_mono HO119.out (fun _ hk => trivial), hs_⟩
end Go.Proofs.YthppfagfmjchoaaDoor.A
namespace Go.Proofs.YthppfagfmjchoaaDoor.A
open Go.RowKit Go.Proofs.YthppfagfmjchoaaDoorW.PrintWords Go.Proofs.YthppfagfmjchoaaDoorW.PrintLast Go.Proofs.YthppfagfmjchoaaDoorW.PrintMore
attribute [local go_sem] max2_int min2_int max_two min_two max_three min_three max_four min_four
attribute [local go_sem high] eqA23
attribute [local go_sem] isSome_setCell
set_option maxHeartbeats 8000000 in
set_option maxRecDepth 100000 in
theorem point_numbers.calls (k : Nat) (a0 : ByteArray) (a1 : Int) (r : List Int) (w : World) (h : point_numbers.f k a0 a1 = some r) :
  Calls Tryd.prog 41 #[.string a0, .int .i64 a1] w fun e w' => ∃ v0_ : Value, e = .returned (v0_) ∧ Kd.R (Kd.int .i64) 3 w' w.heap.size (fun _ => True) v0_ r ∧ Below w.heap.size w w' := by
 have hu42 := Tryd.underlying42; have HB := A_ (Below.refl w.heap.size w); have H : ((mask_Set.f a0).bind fun t131 => ((sets_Clip.f k t131 1 a1).bind fun t134 => (point_numbers.l0 k ([] : List Int) t134 (t134.length : Int) 0))) = some r := h; clear h; obtain ⟨t131, A3, H⟩ := bi_ H; obtain ⟨t134, A4, H⟩ := bi_ H; have H' := A_ H; clear H; go_enter Tryd.func41, Tryd.ntmps41; go_wp2_with (first | (refine gC 30 ?_; refine gL 10 Tryd.func30 #[.string a0] ?_; (with_reducible refine (mask_Set.calls a0 t131 _ A3.out).mono ?_); rintro e w5 ⟨v132, rfl, ho0, hb⟩; refine ⟨_, rfl, ?_⟩; have HO133 := A_ (Kd.R_lower ho0 (below_size hs_)); replace HB := bs_ hb; (try clear hb); (try clear ho0); obtain ⟨Ao6, co6, eo6⟩ := Kd.R_slice HO133.out; subst eo6) | (refine gC 38 ?_; refine gL 12 Tryd.func38 #[.slice Ao6 t131.length co6, .int .i64 1, .int .i64 a1] ?_; (with_reducible refine (sets_Clip.calls k _ _ t131 1 a1 t134 _ ?side1 ?side2 A4.out).mono ?_); (case side1 => exact cr_ (Kd.R_reads' HO133.out).2.2); (case side2 => exact (Kd.R_reads' HO133.out).2.1); rintro e w7 ⟨v135, rfl, ho0, hb⟩; refine ⟨_, rfl, ?_⟩; have HO136 := A_ (Kd.R_lower (Kd.R_new' ho0 (Kd.R_lt (hrR_ HO133.out))) (below_size hs_)); replace HO133 := A_ (Kd.R_elder' (hrR_ HO133.out) (Kd.R_base ho0) hb); replace HB := bs_ hb; (try clear hb); (try clear ho0); obtain ⟨Ao8, co8, eo8⟩ := Kd.R_slice HO136.out; subst eo8)); go_loopg [5, 14] k (fun kq v5 v14 w' => ∃ (x5_1 : List Int) (x14_1 : Int), v14 = .int .i64 x14_1 ∧ Aside0 (point_numbers.l0 kq x5_1 t134 (t134.length : Int) x14_1 = some r) ∧ Aside0 (kq ≤ k) ∧ Aside0 (Kd.R (Kd.int .i64) 3 w' w.heap.size (fun _ => True) v5 x5_1) ∧ Aside0 (Kd.R k42 42 w' w.heap.size (fun _ => True) (.slice Ao8 t134.length co8) t134) ∧ Aside0 (Below w.heap.size w w'))
 case atStart => exact ⟨(([] : List Int)), (0), rf_, H', ⟨Nat.le_refl _⟩, ⟨by first | exact Kd.R_nil _ _ _ _ _ | exact Kd.N_nil _ _ _ _ _ | exact Kd.V_nil _ _ _ _ _ | exact Kd.Q_nil _ _ _ _ _ | exact Kd.S_nil _ _ _ _ _⟩, ⟨by (with_reducible repeat (first | apply Kd.R_alloc | apply Kd.R_drewN | apply Kd.R_drew)); exact Kd.R_mono HO136.out (fun _ hk => trivial)⟩, ⟨hs_⟩⟩
 case round =>
  clear H'; (try clear p2); (try clear c7); (try clear c8); obtain ⟨x5_1, x14_1, rfl, HA, HK1, HO_5, HO_12, HB⟩ := hrel
  cases gk with
  | zero => exact absurd HA.out (by simp [point_numbers.l0])
  | succ k1 =>
   have H := HA.out; clear HA; simp only [point_numbers.l0] at H
   by_cases c9 : x14_1 < (t134.length : Int)
   ·rw [if_pos c9] at H
    have c9b0 := decide_eq_true c9; clear c9
    by_cases c10 : 0 ≤ x14_1
    ·rw [if_pos c10] at H
     have c10b0 := decide_eq_true c10; clear c10
     by_cases c11 : x14_1 < (t134.length : Int)
     ·rw [if_pos c11] at H
      have c11b0 := decide_eq_true c11; clear c11; have H' := A_ H; clear H; have p137 : 0 ≤ (x14_1 : Int) := od_; have q137 : x14_1 < (t134.length : Int) := od_; obtain ⟨ad137, e137, hx137_0, hx137_1⟩ := at_T42 (Kd.R_reads' HO_12.out).2.2 x14_1 p137 q137
      cases e137
      replace p137 := eq_true p137; replace q137 := eq_true q137; go_wp2_with (first | (refine gD 7 ?_; refine bxe_ 7 #[.int .i64 0, .int .i64 0] 42 ?_; intro gb138 hg w12 hbox hb; replace HO_5 := A_ (Kd.R_below (hrR_ HO_5.out) hb); replace HO_12 := A_ (Kd.R_below (Kd.R_elderB (hrR_ HO_12.out) gb138 (Nat.le_of_eq hg.symm)) hb); have BK138 := A_ (hbox); have GW138 := gs_ w hg; have GE138 := gs_ w hg; replace HB := bs_ hb; clear hb hbox hg; have Z13 := bz2_ BK138)); go_loopg [5, 8] k1 (fun kq v5 v8 w' => ∃ (x5_2 : List Int) (x8_2 : Int), v8 = .int .i64 x8_2 ∧ Aside0 (point_numbers.l1 kq x5_2 x8_2 t134 (t134.length : Int) x14_1 ((rd_T42 t134 x14_1).f0) ((rd_T42 t134 x14_1).f1) = some r) ∧ Aside0 (kq ≤ k1) ∧ Aside0 (Kd.R (Kd.int .i64) 3 w' w.heap.size (fun _ => True) v5 x5_2) ∧ Aside0 (Kd.R k42 42 w' w.heap.size (fun k_ => k_ ≠ gb138) (.slice (some ad137) t134.length co8) t134) ∧ Aside0 (w'.heap[gb138]? = some (.cells #[.int .i64 ((rd_T42 t134 x14_1).f0), .int .i64 ((rd_T42 t134 x14_1).f1)] 42 (0, 0))) ∧ Aside0 (Below w.heap.size w w'))
      case atStart => exact ⟨(x5_1), ((rd_T42 t134 x14_1).f0), rf_, H', ⟨Nat.le_refl _⟩, ⟨by (with_reducible repeat (first | apply Kd.R_alloc | apply Kd.R_drewN | apply Kd.R_drew)); exact Kd.R_mono (Kd.R_far (p := ⟨gb138, 1, none⟩) (Kd.R_far (p := ⟨gb138, 0, none⟩) (Kd.R_types HO_5.out BK138.out (by decide)) (fun _ hk => hk.2) (.int .i64 ((rd_T42 t134 x14_1).f0))) (fun _ hk => hk.2) (.int .i64 ((rd_T42 t134 x14_1).f1))) (fun _ hk => trivial)⟩, ⟨fpR_ HO_12.out⟩, ⟨pb_ BK138.out⟩, ⟨hs_⟩⟩
      case round =>
       clear H'; (try clear c1); (try clear p1); (try clear q1); (try clear hx1); (try clear p2); (try clear c7); (try clear c8); (try clear c9); (try clear c9b0); (try clear c10); (try clear c10b0); (try clear c11); (try clear c11b0); (try clear p13); (try clear q13); (try clear hx13); (try clear Z13); (try clear hx137_0); (try clear hx137_1); (try clear p137); (try clear p2); (try clear q137); obtain ⟨x5_2, x8_2, rfl, HA, HK2, HO_5, HO_12, BK138, HB⟩ := hrel
       cases gk with
       | zero => exact absurd HA.out (by simp [point_numbers.l1])
       | succ k2 =>
        have H := HA.out; clear HA; simp only [point_numbers.l1] at H
        by_cases c14 : x8_2 ≤ ((rd_T42 t134 x14_1).f1)
        ·rw [if_pos c14] at H
         have c14b0 := decide_eq_true c14; clear c14
         by_cases c15 : x5_2.length < 17592186044416
         ·rw [if_pos c15] at H
          have LMc15 := A_ c15; clear c15; obtain ⟨y139, hy139⟩ : ∃ y_ : List Int, y_ = (x5_2 ++ [x8_2]) := ⟨_, rfl⟩; (replace H : (point_numbers.l1 k2 y139 (wrap64 (x8_2 + 1)) t134 (t134.length : Int) x14_1 ((rd_T42 t134 x14_1).f0) ((rd_T42 t134 x14_1).f1)) = some r := hy_ hy139 H); have Ny139 := A_ hy139; clear hy139; have H' := A_ H; clear H; have Z16 := bz2_ BK138; go_wp2_with (first | ((with_reducible refine gate_builtin (b := .append) (xs := #[.tmp 26, .tmp 28]) rfl ?_); at_builtin; refine Kd.R_append (Kd.int .i64) (w0 := w) w.heap.size rfl (.tmp 26) (.tmp 28) 68 3 (.int .i64 0) 8 rfl Tryd.underlying68 info3 rfl (by decide) (by omega) u5 x5_2 x8_2 [.int .i64 x8_2] (fun _ => True) (fun _ => False) rfl rfl ?aP (fun _ hk => hk.elim) ?aF ?aO ?aB ?aS ?aL ?_; (case aP => exact rfl); (case aB => exact hs_); (case aF => exact (fun _ _ => trivial)); (case aO => exact (hrR_ HO_5.out)); (case aS => exact (below_size hs_)); (case aL => have := LMc15.out; omega); intro v140 w17 ho hb hg hat; rw [← Ny139.out] at ho; replace HO_12 := A_ (Kd.R_over' (hrR_ HO_12.out) (Kd.R_typed (hrR_ HO_5.out)) (by decide) hg); replace BK138 := A_ (blk_grown (g := gb138) (o := .cells #[.int .i64 ((rd_T42 t134 x14_1).f0), .int .i64 ((rd_T42 t134 x14_1).f1)] 42 (0, 0)) (bl_ BK138.out) hg (Kd.R_ne HO_5.out BK138.out (by decide))); replace HB := A_ (hb); have HO141 := A_ (ho); clear HO_5; clear ho hb hg hat)); go_roundg k2
          case measure => have := HK1.out; have := HK2.out; omega
          case rel => exact ⟨(y139), (wrap64 (x8_2 + 1)), rf_, H', ⟨by have := HK1.out; have := HK2.out; omega⟩, ⟨fxR_ HO141.out⟩, ⟨fxR_ HO_12.out⟩, ⟨bl_ BK138.out⟩, ⟨hs_⟩⟩
         ·rw [if_neg c15] at H
          exact absurd H (by simp)
        ·rw [if_neg c14] at H
         have c14b0 := decide_eq_false c14; clear c14; have H' := A_ H; clear H; have Z18 := bz2_ BK138; go_wp2; go_roundg k2
         case measure => have := HK1.out; have := HK2.out; omega
         case rel => exact ⟨(x5_2), (wrap64 (x14_1 + 1)), rf_, H', ⟨by have := HK1.out; have := HK2.out; omega⟩, ⟨fxR_ HO_5.out⟩, ⟨by (with_reducible repeat (first | apply Kd.R_alloc | apply Kd.R_drewN | apply Kd.R_drew)); exact Kd.R_mono HO_12.out (fun _ hk => trivial)⟩, ⟨hs_⟩⟩
     ·rw [if_neg c11] at H
      exact absurd H (by simp)
    ·rw [if_neg c10] at H
     exact absurd H (by simp)
   ·rw [if_neg c9] at H
    have c9b0 := decide_eq_false c9; clear c9; obtain rfl := Option.some.inj H; go_wp2; go_ret; exact ⟨_, by first | rfl | (simp [errW_none, errW_some] <;> rfl) | (simp [*, errW_none, errW_some] <;> rfl), fxR_ HO_5.out, hs_⟩
set_option maxHeartbeats 8000000 in
set_option maxRecDepth 100000 in
theorem point_days.calls (k : Nat) (a0 : Int) (A1 : Option Addr) (c1 : Nat) (l1 : List Int) (A2 : Option Addr) (c2 : Nat) (l2 : List Int) (r : List (S42)) (w : World) (htab : TL w.heap.size w) (hr1 : Kd.C (Kd.int .i64) w A1 l1.length l1) (hc1 : l1.length ≤ c1) (hr2 : Kd.C (Kd.int .i64) w A2 l2.length l2) (hc2 : l2.length ≤ c2) (h : point_days.f k a0 l1 l2 = some r) :
  Calls Tryd.prog 45 #[.int .i64 a0, .slice A1 l1.length c1, .slice A2 l2.length c2] w fun e w' => ∃ v0_ : Value, e = .returned (v0_) ∧ Kd.R k42 42 w' w.heap.size (fun _ => True) v0_ r ∧ Below w.heap.size w w' := by
 have HTAB := A_ htab; clear htab; have hu42 := Tryd.underlying42; have HR1 := A_ hr1; have HC1 := A_ hc1; clear hr1 hc1; have HR2 := A_ hr2; have HC2 := A_ hc2; clear hr2 hc2; have HB := A_ (Below.refl w.heap.size w); have H : (point_days.l0 k a0 l2 ([] : List (S42)) l1 (l1.length : Int) 0) = some r := h; clear h; have H' := A_ H; clear H; go_enter Tryd.func45, Tryd.ntmps45; go_wp2; go_loopg [7, 16] k (fun kq v7 v16 w' => ∃ (x7_1 : List (S42)) (x16_1 : Int), v16 = .int .i64 x16_1 ∧ Aside0 (point_days.l0 kq a0 l2 x7_1 l1 (l1.length : Int) x16_1 = some r) ∧ Aside0 (kq ≤ k) ∧ Aside0 (Kd.R k42 42 w' w.heap.size (fun _ => True) v7 x7_1) ∧ Aside0 (Below w.heap.size w w'))
 case atStart => exact ⟨(([] : List (S42))), (0), rf_, H', ⟨Nat.le_refl _⟩, ⟨by first | exact Kd.R_nil _ _ _ _ _ | exact Kd.N_nil _ _ _ _ _ | exact Kd.V_nil _ _ _ _ _ | exact Kd.Q_nil _ _ _ _ _ | exact Kd.S_nil _ _ _ _ _⟩, ⟨hs_⟩⟩
 case round =>
  clear H'; (try clear c1); (try clear c2); (try clear p2); obtain ⟨x7_1, x16_1, rfl, HA, HK1, HO_7, HB⟩ := hrel
  cases gk with
  | zero => exact absurd HA.out (by simp [point_days.l0])
  | succ k1 =>
   have H := HA.out; clear HA; simp only [point_days.l0] at H
   by_cases c4 : x16_1 < (l1.length : Int)
   ·rw [if_pos c4] at H
    have c4b0 := decide_eq_true c4; clear c4
    by_cases c5 : 0 ≤ x16_1
    ·rw [if_pos c5] at H
     have c5b0 := decide_eq_true c5; clear c5
     by_cases c6 : x16_1 < (l1.length : Int)
     ·rw [if_pos c6] at H
      have c6b0 := decide_eq_true c6; clear c6; obtain ⟨⟨t105, t106⟩, A7, H⟩ := bi_ H; have H' := A_ H; clear H; have p104 : 0 ≤ (x16_1 : Int) := od_; have q104 : x16_1 < (l1.length : Int) := od_; obtain ⟨ad104, e104, hx104_0⟩ := Kd.at_int HR1.out x16_1 p104 q104
      cases e104
      replace hx104_0 := cl_ HB hx104_0; replace p104 := eq_true p104; replace q104 := eq_true q104; go_wp2_with (first | ((with_reducible refine gC 63 ?_); refine goesL_ (some 23) rfl rfl Tryd.func63 (by kernel_rfl) rfl #[.int .i64 a0, .int .i64 (rd l1 x16_1), .int .i64 1] rfl ml_ ?_; (with_reducible refine (civil_Number.calls a0 (rd l1 x16_1) 1 t105 t106 _ tl_ A7.out).mono ?_); rintro e w' ⟨rfl, ⟨nd, rfl⟩⟩; refine ⟨_, rfl, ?_⟩)); go_loopg [7, 28] k1 (fun kq v7 v28 w' => ∃ (x7_2 : List (S42)) (x28_2 : Int), v28 = .int .i64 x28_2 ∧ Aside0 (point_days.l1 kq a0 l2 x7_2 (rd l1 x16_1) t105 l1 (l1.length : Int) x16_1 l2 (l2.length : Int) x28_2 = some r) ∧ Aside0 (kq ≤ k1) ∧ Aside0 (Kd.R k42 42 w' w.heap.size (fun _ => True) v7 x7_2) ∧ Aside0 (Below w.heap.size w w'))
      case atStart => exact ⟨(x7_1), (0), rf_, H', ⟨Nat.le_refl _⟩, ⟨fxR_ HO_7.out⟩, ⟨hs_⟩⟩
      case round =>
       clear H'; (try clear c1); (try clear p1); (try clear q1); (try clear hx1); (try clear c2); (try clear p2); (try clear c4); (try clear c4b0); (try clear c5); (try clear c5b0); (try clear c6); (try clear c6b0); (try clear hx104_0); (try clear p104); (try clear p2); (try clear q104); obtain ⟨x7_2, x28_2, rfl, HA, HK2, HO_7, HB⟩ := hrel
       cases gk with
       | zero => exact absurd HA.out (by simp [point_days.l1])
       | succ k2 =>
        have H := HA.out; clear HA; simp only [point_days.l1] at H
        by_cases c8 : x28_2 < (l2.length : Int)
        ·rw [if_pos c8] at H
         have c8b0 := decide_eq_true c8; clear c8
         by_cases c9 : 0 ≤ x28_2
         ·rw [if_pos c9] at H
          have c9b0 := decide_eq_true c9; clear c9
          by_cases c10 : x28_2 < (l2.length : Int)
          ·rw [if_pos c10] at H
           have c10b0 := decide_eq_true c10; clear c10; obtain ⟨t108, A11, H⟩ := bi_ H
           by_cases c12 : (rd l2 x28_2) ≤ t108
           ·rw [if_pos c12] at H
            have c12b0 := decide_eq_true c12; clear c12
            by_cases c13 : x7_2.length < 8796093022208
            ·rw [if_pos c13] at H
             have LMc13 := A_ c13; clear c13; obtain ⟨y109, hy109⟩ : ∃ y_ : List (S42), y_ = (x7_2 ++ [(⟨wrap64 ((wrap64 (t105 + (rd l2 x28_2))) - 1), wrap64 ((wrap64 (t105 + (rd l2 x28_2))) - 1)⟩ : S42)]) := ⟨_, rfl⟩; (replace H : (point_days.l1 k2 a0 l2 y109 (rd l1 x16_1) t105 l1 (l1.length : Int) x16_1 l2 (l2.length : Int) (wrap64 (x28_2 + 1))) = some r := by first | (rw [hy109]; with_reducible exact H) | (have H2_ := (Option.bind_some _ _).symm.trans H; rw [hy109]; with_reducible exact H2_) | (have H2_ := (Option.bind_some _ _).symm.trans H; with_reducible exact H2_) | with_reducible exact H | (rw [hy109]; exact H) | exact H); have Ny109 := A_ hy109; clear hy109; have H' := A_ H; clear H; have p107 : 0 ≤ (x28_2 : Int) := od_; have q107 : x28_2 < (l2.length : Int) := od_; obtain ⟨ad107, e107, hx107_0⟩ := Kd.at_int HR2.out x28_2 p107 q107
             cases e107
             replace hx107_0 := cl_ HB hx107_0; replace p107 := eq_true p107; replace q107 := eq_true q107; go_wp2_with (first | ((with_reducible refine gC 64 ?_); refine goesL_ (some 35) rfl rfl Tryd.func64 (by kernel_rfl) rfl #[.int .i64 a0, .int .i64 (rd l1 x16_1)] rfl ml_ ?_; (with_reducible refine (civil_Days.calls a0 (rd l1 x16_1) t108 _ tl_ A11.out).mono ?_); rintro e w' ⟨rfl, ⟨nd, rfl⟩⟩; refine ⟨_, rfl, ?_⟩) | ((with_reducible refine gate_builtin (b := .append) (xs := #[.tmp 37, .tmp 47]) rfl ?_); at_builtin; refine Kd.R_append k42 (w0 := w) w.heap.size rfl (.tmp 37) (.tmp 47) 34 42 (.agg #[(.int .i64 0), (.int .i64 0)]) 16 rfl Tryd.underlying34 info42 rfl (by decide) (by omega) u7 x7_2 (⟨wrap64 ((wrap64 (t105 + (rd l2 x28_2))) - 1), wrap64 ((wrap64 (t105 + (rd l2 x28_2))) - 1)⟩ : S42) [.int .i64 (wrap64 ((wrap64 (t105 + (rd l2 x28_2))) - 1)), .int .i64 (wrap64 ((wrap64 (t105 + (rd l2 x28_2))) - 1))] (fun _ => True) (fun _ => False) rfl rfl ?aP (fun _ hk => hk.elim) ?aF ?aO ?aB ?aS ?aL ?_; (case aP => exact k42_mkM _ _ _ (⟨wrap64 ((wrap64 (t105 + (rd l2 x28_2))) - 1), wrap64 ((wrap64 (t105 + (rd l2 x28_2))) - 1)⟩ : S42)); (case aB => exact hs_); (case aF => exact (fun _ _ => trivial)); (case aO => exact (fxR_ HO_7.out)); (case aS => exact (below_size hs_)); (case aL => have := LMc13.out; omega); intro v110 w14 ho hb hg hat; rw [← Ny109.out] at ho; replace HB := A_ (hb); have HO111 := A_ (ho); clear HO_7; clear ho hb hg hat)); go_roundg k2
             case measure => have := HK1.out; have := HK2.out; omega
             case rel => exact ⟨(y109), (wrap64 (x28_2 + 1)), rf_, H', ⟨by have := HK1.out; have := HK2.out; omega⟩, ⟨fxR_ HO111.out⟩, ⟨hs_⟩⟩
            ·rw [if_neg c13] at H
             exact absurd H (by simp)
           ·rw [if_neg c12] at H
            have c12b0 := decide_eq_false c12; clear c12; have H' := A_ H; clear H; have p107 : 0 ≤ (x28_2 : Int) := od_; have q107 : x28_2 < (l2.length : Int) := od_; obtain ⟨ad107, e107, hx107_0⟩ := Kd.at_int HR2.out x28_2 p107 q107
            cases e107
            replace hx107_0 := cl_ HB hx107_0; replace p107 := eq_true p107; replace q107 := eq_true q107; go_wp2_with (first | ((with_reducible refine gC 64 ?_); refine goesL_ (some 35) rfl rfl Tryd.func64 (by kernel_rfl) rfl #[.int .i64 a0, .int .i64 (rd l1 x16_1)] rfl ml_ ?_; (with_reducible refine (civil_Days.calls a0 (rd l1 x16_1) t108 _ tl_ A11.out).mono ?_); rintro e w' ⟨rfl, ⟨nd, rfl⟩⟩; refine ⟨_, rfl, ?_⟩)); go_roundg k2
            case measure => have := HK1.out; have := HK2.out; omega
            case rel => exact ⟨(x7_2), (wrap64 (x28_2 + 1)), rf_, H', ⟨by have := HK1.out; have := HK2.out; omega⟩, ⟨fxR_ HO_7.out⟩, ⟨hs_⟩⟩
          ·rw [if_neg c10] at H
           exact absurd H (by simp)
         ·rw [if_neg c9] at H
          exact absurd H (by simp)
        ·rw [if_neg c8] at H
         have c8b0 := decide_eq_false c8; clear c8; have H' := A_ H; clear H; go_wp2; go_roundg k2
         case measure => have := HK1.out; have := HK2.out; omega
         case rel => exact ⟨(x7_2), (wrap64 (x16_1 + 1)), rf_, H', ⟨by have := HK1.out; have := HK2.out; omega⟩, ⟨fxR_ HO_7.out⟩, ⟨hs_⟩⟩
     ·rw [if_neg c6] at H
      exact absurd H (by simp)
    ·rw [if_neg c5] at H
     exact absurd H (by simp)
   ·rw [if_neg c4] at H
    have c4b0 := decide_eq_false c4; clear c4; obtain ⟨t101, A15, H⟩ := bi_ H; obtain rfl := Option.some.inj H; obtain ⟨Ao16, co16, eo16⟩ := Kd.R_slice HO_7.out; subst eo16; go_wp2_with (first | ((with_reducible refine gC 46 ?_); refine goesL_ (some 52) rfl rfl Tryd.func46 (by kernel_rfl) rfl #[.slice Ao16 x7_1.length co16] rfl ml_ ?_; (with_reducible refine (runs_Make.calls _ _ x7_1 t101 _ ?side1 ?side2 A15.out).mono ?_); (case side1 => repeat (first | exact (Kd.R_reads' HO_7.out).2.2 | (with_reducible refine Kd.C_alloc ?_ _) | (with_reducible refine Kd.C_drewN ?_ _) | (with_reducible refine Kd.C_drew ?_))); (case side2 => exact (Kd.R_reads' HO_7.out).2.1); rintro e w17 ⟨v102, rfl, ho0, hb⟩; refine ⟨_, rfl, ?_⟩; have HO103 := A_ (Kd.R_lower (Kd.R_new' ho0 (Kd.R_lt (fxR_ HO_7.out))) (below_size hs_)); replace HO_7 := A_ (Kd.R_elder' (fxR_ HO_7.out) (Kd.R_base ho0) hb); replace HB := bs_ hb; (try clear hb); (try clear ho0))); go_ret; exact ⟨_, by first | rfl | (simp [errW_none, errW_some] <;> rfl) | (simp [*, errW_none, errW_some] <;> rfl), by (with_reducible repeat (first | apply Kd.R_alloc | apply Kd.R_drewN | apply Kd.R_drew)); exact Kd.R_mono HO103.out (fun _ hk => trivial), hs_⟩
def point_dated.T1 : Bool × List (List Nat × List Nat) := (true, [([], []), ([0], [0]), ([1], [1]), ([], []), ([3], [3]), ([4, 2], [4]), ([], []), ([6], [6]), ([7, 5], [7]), ([2, 8, 0, 1, 2], [2]), ([5, 9, 0, 1, 2, 3, 4, 5, 9], [5]), ([8, 10, 0, 1, 2, 3, 4, 5, 6, 7, 8, 9, 10], [8])])
def point_dated.B1 : List Nat := [0, 1, 3, 0, 8, 31, 0, 64, 255, 511, 1023, 2047]
theorem point_dated.tab1 : rtab .any (opsOf Tryd.f31 1) = point_dated.T1 := by kernel_rfl
theorem point_dated.bits1 : waitsOk point_dated.T1.2 point_dated.B1 = true := by kernel_rfl
set_option maxHeartbeats 8000000 in
set_option maxRecDepth 100000 in
theorem point_dated.calls (k : Nat) (a0_0 : Int) (a0_1 a0_2 a0_3 : ByteArray) (r : List (S42)) (w : World) (htab : TL w.heap.size w) (h : point_dated.f k a0_0 a0_1 a0_2 a0_3 = some r) :
  Calls Tryd.prog 31 #[.agg #[.int .i64 a0_0, .string a0_1, .string a0_2, .string a0_3]] w fun e w' => ∃ v0_ : Value, e = .returned (v0_) ∧ Kd.R k42 42 w' w.heap.size (fun _ => True) v0_ r ∧ Below w.heap.size w w' := by
 have HTAB := A_ htab; clear htab; have hu23 := Tryd.underlying23; have hu42 := Tryd.underlying42; have HB := A_ (Below.refl w.heap.size w); have H : ((mask_Set.f a0_1).bind fun t102 => ((point_numbers.f k a0_2 12).bind fun t105 => ((point_numbers.f k a0_3 31).bind fun t108 => (if (t105.length : Int) = 12 then (point_dated.j0 k t102 t105 t108 ((t108.length : Int) == 31)) else (point_dated.j0 k t102 t105 t108 false))))) = some r := h; clear h; obtain ⟨t102, A2, H⟩ := bi_ H; obtain ⟨t105, A3, H⟩ := bi_ H; obtain ⟨t108, A4, H⟩ := bi_ H; have HC5 := A_ H; clear H; go_enter Tryd.func31, Tryd.ntmps31; (try go_wp2_with (first | ((with_reducible refine gD 1 ?_); (try (refine gate_guard (by rfl) ?_; dsimp only)); refine bxe_ 1 (n4_ a0_0 a0_1 a0_2 a0_3) 23 ?_; intro gb101 hg w6 hbox hb; have BK101 := A_ (hbox); have GW101 := gs_ w hg; have GE101 := gs_ w hg; replace HB := bs_ hb; clear hb hbox hg))); replace BK101 := A_ (blk_drew BK101.out); replace HB := A_ (below_drew1 HB.out); refine start_ (n := 12) (S := fun w' => C4 w' gb101 (.int .i64 a0_0) (.string a0_1) (.string a0_2) (.string a0_3)) (ds := []) (ab 12 0) (by kernel_rfl) rfl rfl (cq4_ BK101) (fun hHeld => ?_); refine with_tabW point_dated.tab1 point_dated.bits1 (fun HT_ HW_ => ?_); generalize w6.drew = w7 at BK101 HB hHeld ⊢; refine pA 0 10 12 1 ?_; refine pA 3 13 12 9 ?_; refine pA 6 16 12 73 ?_; refine tB 1 11 12 75 ?_; refine tB 4 14 12 91 ?_; refine tB 7 17 12 219 ?_; refine oA 2 (some 12) 12 223 fun K hK => ?_; refine goes_ Tryd.func30 (by kernel_rfl) rfl #[.string a0_1] (by rfl) rfl rfl ml_ ?_; (with_reducible refine (mask_Set.calls a0_1 t102 _ A2.out).mono ?_); rintro e w8 ⟨v103, rfl, ho0, hb⟩; refine ⟨_, rfl, ?_⟩; have HO104 := A_ (Kd.R_lower ho0 (below_size hs_)); replace BK101 := bb_ BK101 hb; replace HB := bs_ hb; (try clear hb); (try clear ho0); refine hK.out _ _ (cq4_ BK101) (fun hHeld => ?_); clear hK K; refine nA ?_; refine oA 5 (some 15) 12 255 fun K hK => ?_; refine goes_ Tryd.func41 (by kernel_rfl) rfl #[.string a0_2, .int .i64 12] (by rfl) rfl rfl ml_ ?_; (with_reducible refine (point_numbers.calls k a0_2 12 t105 _ A3.out).mono ?_); rintro e w9 ⟨v106, rfl, ho0, hb⟩; refine ⟨_, rfl, ?_⟩; replace HO104 := A_ (Kd.R_below (fxR_ HO104.out) hb); have HO107 := A_ (Kd.R_lower ho0 (below_size hs_)); replace BK101 := bb_ BK101 hb; replace HB := bs_ hb; (try clear hb); (try clear ho0); refine hK.out _ _ (cq4_ BK101) (fun hHeld => ?_); clear hK K; refine nA ?_; refine oA 8 (some 18) 12 511 fun K hK => ?_; refine goes_ Tryd.func41 (by kernel_rfl) rfl #[.string a0_3, .int .i64 31] (by rfl) rfl rfl ml_ ?_; (with_reducible refine (point_numbers.calls k a0_3 31 t108 _ A4.out).mono ?_); rintro e w10 ⟨v109, rfl, ho0, hb⟩; refine ⟨_, rfl, ?_⟩; replace HO104 := A_ (Kd.R_below (fxR_ HO104.out) hb); have HO110 := A_ (Kd.R_lower (Kd.R_new' ho0 (Kd.R_lt (fxR_ HO107.out))) (below_size hs_)); replace HO107 := A_ (Kd.R_elder' (fxR_ HO107.out) (Kd.R_base ho0) hb); replace BK101 := bb_ BK101 hb; replace HB := bs_ hb; (try clear hb); (try clear ho0); refine hK.out _ _ (cq4_ BK101) (fun hHeld => ?_); clear hK K; refine nA ?_; refine pA 9 3 12 1023 ?_; refine pA 10 4 12 2047 ?_; refine pA 11 5 12 4095 ?_
 refine done_ (done_of HT_.out (by kernel_rfl)) ?_; go_upto_region 2 with (fail); go_cut [26] (fun v26 wc => ∃ (kq : Nat) (x26_4 : Bool), v26 = .bool x26_4 ∧ Aside0 (point_dated.j0 kq t102 t105 t108 x26_4 = some r) ∧ Aside0 (kq ≤ k) ∧ Aside0 (Kd.R k42 42 wc w.heap.size (fun _ => True) v103 t102) ∧ Aside0 (Kd.R (Kd.int .i64) 3 wc w.heap.size (fun k_ => nv_ k_ v109) v106 t105) ∧ Aside0 (Kd.R (Kd.int .i64) 3 wc w.heap.size (fun k_ => nv_ k_ v106) v109 t108) ∧ Aside0 (wc.heap[gb101]? = some (.cells (n4_ a0_0 a0_1 a0_2 a0_3) 23 (0, 0))) ∧ Aside0 (Below w.heap.size w wc))
 case first =>
  have H := HC5.out; clear HC5
  by_cases c11 : (t105.length : Int) = 12
  ·rw [if_pos c11] at H
   have c11b0 : ((t105.length : Int) == 12) = true := beq_iff_eq.mpr c11; have c11b1 : ((t105.length : Int) != 12) = false := bne_eq_false_iff_eq.mpr c11; clear c11; (first | rw [c11b0] | (simp only [i64_w, i32_w]; rw [c11b0]) | skip); have H' := A_ H; clear H; obtain ⟨Ao12, co12, eo12⟩ := Kd.R_slice HO107.out; subst eo12; obtain ⟨Ao13, co13, eo13⟩ := Kd.R_slice HO110.out; subst eo13; go_wp2; go_meet
   case rel => exact ⟨_, (((t108.length : Int) == 31)), rf_, H', ⟨by first | omega | exact Nat.le_refl _⟩, ⟨fxR_ HO104.out⟩, ⟨by (with_reducible repeat (first | apply Kd.R_alloc | apply Kd.R_drewN | apply Kd.R_drew)); exact Kd.R_mono HO107.out (fun _ hk => hk.2)⟩, ⟨by (with_reducible repeat (first | apply Kd.R_alloc | apply Kd.R_drewN | apply Kd.R_drew)); exact Kd.R_mono HO110.out (fun _ hk => hk.2)⟩, ⟨bl_ BK101.out⟩, ⟨hs_⟩⟩
  ·rw [if_neg c11] at H
   have c11b0 : ((t105.length : Int) == 12) = false := beq_eq_false_iff_ne.mpr c11; have c11b1 : ((t105.length : Int) != 12) = true := bne_iff_ne.mpr c11; (first | rw [c11b0] | (simp only [i64_w, i32_w]; rw [c11b0]) | skip); have H' := A_ H; clear H; obtain ⟨Ao14, co14, eo14⟩ := Kd.R_slice HO107.out; subst eo14; go_wp2; go_meet
   case rel => exact ⟨_, (false), rf_, H', ⟨by first | omega | exact Nat.le_refl _⟩, ⟨fxR_ HO104.out⟩, ⟨by (with_reducible repeat (first | apply Kd.R_alloc | apply Kd.R_drewN | apply Kd.R_drew)); exact Kd.R_mono HO107.out (fun _ hk => hk.2)⟩, ⟨by (with_reducible repeat (first | apply Kd.R_alloc | apply Kd.R_drewN | apply Kd.R_drew)); exact Kd.R_mono HO110.out (fun _ hk => hk.2)⟩, ⟨bl_ BK101.out⟩, ⟨hs_⟩⟩
 case rest =>
  clear HC5; (try clear c1); (try clear p2); (try clear c5); (try clear c9); (try clear c11); (try clear c11b0); (try clear c11b1); obtain ⟨kq, x26_4, rfl, HA, HJ4, HO_3, HO_4, HO_5, BK101, HB⟩ := hcut
  cases kq with
  | zero => exact absurd HA.out (by simp [point_dated.j0])
  | succ kj4 =>
   have H := HA.out; clear HA; simp only [point_dated.j0] at H
   by_cases c15 : x26_4 = true
   ·subst c15
    replace H := iP_ H; obtain ⟨t111, A16, H⟩ := bi_ H; obtain rfl := Option.some.inj H; obtain ⟨Ao17, co17, eo17⟩ := Kd.R_slice HO_3.out; subst eo17; go_wp2_with (first | ((with_reducible refine gC 44 ?_); refine goesL_ (some 28) rfl rfl Tryd.func44 (by kernel_rfl) rfl #[.int .i64 3, .slice Ao17 t102.length co17] rfl ml_ ?_; (with_reducible refine (image_Cover.calls kj4 3 _ _ t102 t111 _ tl_ ?side1 ?side2 A16.out).mono ?_); (case side1 => repeat (first | exact (Kd.R_reads' HO_3.out).2.2 | (with_reducible refine Kd.C_alloc ?_ _) | (with_reducible refine Kd.C_drewN ?_ _) | (with_reducible refine Kd.C_drew ?_))); (case side2 => exact (Kd.R_reads' HO_3.out).2.1); rintro e w18 ⟨v112, rfl, ho0, hb⟩; refine ⟨_, rfl, ?_⟩; replace HO_4 := A_ (Kd.R_below (fxR_ HO_4.out) hb); replace HO_5 := A_ (Kd.R_below (fxR_ HO_5.out) hb); have HO113 := A_ (Kd.R_lower (Kd.R_new' ho0 (Kd.R_lt (fxR_ HO_3.out))) (below_size hs_)); replace HO_3 := A_ (Kd.R_elder' (fxR_ HO_3.out) (Kd.R_base ho0) hb); replace BK101 := bb_ BK101 hb; replace HB := bs_ hb; (try clear hb); (try clear ho0))); go_ret; exact ⟨_, by first | rfl | (simp [errW_none, errW_some] <;> rfl) | (simp [*, errW_none, errW_some] <;> rfl), by (with_reducible repeat (first | apply Kd.R_alloc | apply Kd.R_drewN | apply Kd.R_drew)); exact Kd.R_mono HO113.out (fun _ hk => trivial), hs_⟩
   ·replace c15 := Bool.eq_false_iff.mpr c15
    subst c15; replace H := iN_ H; have H' := A_ H; clear H; obtain ⟨Ao19, co19, eo19⟩ := Kd.R_slice HO_3.out; subst eo19; go_wp2; go_loopg [6, 31] kj4 (fun kq v6 v31 w' => ∃ (x6_2 : List (S42)) (x31_2 : Int), v31 = .int .i64 x31_2 ∧ Aside0 (point_dated.l0 kq t105 t108 x6_2 t102 (t102.length : Int) x31_2 = some r) ∧ Aside0 (kq ≤ kj4) ∧ Aside0 (Kd.R (Kd.int .i64) 3 w' w.heap.size (fun k_ => nv_ k_ v109) v106 t105) ∧ Aside0 (Kd.R (Kd.int .i64) 3 w' w.heap.size (fun k_ => nv_ k_ v106) v109 t108) ∧ Aside0 (Kd.R k42 42 w' w.heap.size (fun k_ => some k_ ≠ ((.slice Ao19 t102.length co19) : Value).ownBlock) v6 x6_2) ∧ Aside0 (Kd.R k42 42 w' w.heap.size (fun k_ => nv_ k_ v6) (.slice Ao19 t102.length co19) t102) ∧ Aside0 (w'.heap[gb101]? = some (.cells (n4_ a0_0 a0_1 a0_2 a0_3) 23 (0, 0))) ∧ Aside0 (Below w.heap.size w w'))
    case atStart => exact ⟨(([] : List (S42))), (0), rf_, H', ⟨Nat.le_refl _⟩, ⟨fxR_ HO_4.out⟩, ⟨fxR_ HO_5.out⟩, ⟨by first | exact Kd.R_nil _ _ _ _ _ | exact Kd.N_nil _ _ _ _ _ | exact Kd.V_nil _ _ _ _ _ | exact Kd.Q_nil _ _ _ _ _ | exact Kd.S_nil _ _ _ _ _⟩, ⟨by (with_reducible repeat (first | apply Kd.R_alloc | apply Kd.R_drewN | apply Kd.R_drew)); exact Kd.R_mono HO_3.out (fun _ hk => (by simp [Value.ownBlock]))⟩, ⟨bl_ BK101.out⟩, ⟨hs_⟩⟩
    case round =>
     clear H'; (try clear c1); (try clear p2); (try clear c5); (try clear c9); (try clear c11); (try clear c11b0); (try clear c11b1); (try clear c15); (try clear p2); obtain ⟨x6_2, x31_2, rfl, HA, HK2, HO_4, HO_5, HO_6, HO_29, BK101, HB⟩ := hrel
     cases gk with
     | zero => exact absurd HA.out (by simp [point_dated.l0])
     | succ k2 =>
      have H := HA.out; clear HA; simp only [point_dated.l0] at H
      by_cases c20 : x31_2 < (t102.length : Int)
      ·rw [if_pos c20] at H
       have c20b0 := decide_eq_true c20; clear c20
       by_cases c21 : 0 ≤ x31_2
       ·rw [if_pos c21] at H
        have c21b0 := decide_eq_true c21; clear c21
        by_cases c22 : x31_2 < (t102.length : Int)
        ·rw [if_pos c22] at H
         have c22b0 := decide_eq_true c22; clear c22; have H' := A_ H; clear H; have p117 : 0 ≤ (x31_2 : Int) := od_; have q117 : x31_2 < (t102.length : Int) := od_; obtain ⟨ad117, e117, hx117_0, hx117_1⟩ := at_T42 (Kd.R_reads' HO_29.out).2.2 x31_2 p117 q117
         cases e117
         replace p117 := eq_true p117; replace q117 := eq_true q117; go_wp2_with (first | ((with_reducible refine gD 8 ?_); (try (refine gate_guard (by rfl) ?_; dsimp only)); refine bxe_ 8 #[.int .i64 0, .int .i64 0] 42 ?_; intro gb118 hg w23 hbox hb; replace HO_4 := A_ (Kd.R_below (fxR_ HO_4.out) hb); replace HO_5 := A_ (Kd.R_below (fxR_ HO_5.out) hb); replace HO_6 := A_ (Kd.R_below (Kd.R_elderB (fxR_ HO_6.out) gb118 (Nat.le_of_eq hg.symm)) hb); replace HO_29 := A_ (Kd.R_below (Kd.R_elderB (fxR_ HO_29.out) gb118 (Nat.le_of_eq hg.symm)) hb); have BK118 := A_ (hbox); have GW118 := gs_ w hg; have GE118 := gs_ w hg; replace HB := bs_ hb; have NB101_118 := nl_ BK101 hg; have NB118_101 := ng_ BK101 hg; replace BK101 := bb_ BK101 hb; clear hb hbox hg; have hnb24 := NB118_101.out; have hnc24 := NB101_118.out; have Z25 := bz2_ BK118)); go_loopg [6, 9] k2 (fun kq v6 v9 w' => ∃ (x6_3 : List (S42)) (x9_3 : Int), v9 = .int .i64 x9_3 ∧ Aside0 (point_dated.l1 kq t105 t108 x6_3 x9_3 t102 (t102.length : Int) x31_2 ((rd_T42 t102 x31_2).f0) ((rd_T42 t102 x31_2).f1) = some r) ∧ Aside0 (kq ≤ k2) ∧ Aside0 (Kd.R (Kd.int .i64) 3 w' w.heap.size (fun k_ => nv_ k_ v109) v106 t105) ∧ Aside0 (Kd.R (Kd.int .i64) 3 w' w.heap.size (fun k_ => nv_ k_ v106) v109 t108) ∧ Aside0 (Kd.R k42 42 w' w.heap.size (fun k_ => some k_ ≠ ((.slice (some ad117) t102.length co19) : Value).ownBlock ∧ k_ ≠ gb118) v6 x6_3) ∧ Aside0 (Kd.R k42 42 w' w.heap.size (fun k_ => nv_ k_ v6 ∧ k_ ≠ gb118) (.slice (some ad117) t102.length co19) t102) ∧ Aside0 (w'.heap[gb101]? = some (.cells (n4_ a0_0 a0_1 a0_2 a0_3) 23 (0, 0))) ∧ Aside0 (w'.heap[gb118]? = some (.cells #[.int .i64 ((rd_T42 t102 x31_2).f0), .int .i64 ((rd_T42 t102 x31_2).f1)] 42 (0, 0))) ∧ Aside0 (Below w.heap.size w w'))
         case atStart => exact ⟨(x6_2), ((rd_T42 t102 x31_2).f0), rf_, H', ⟨Nat.le_refl _⟩, ⟨by (with_reducible repeat (first | apply Kd.R_alloc | apply Kd.R_drewN | apply Kd.R_drew)); exact Kd.R_mono (Kd.R_far (p := ⟨gb118, 1, none⟩) (Kd.R_far (p := ⟨gb118, 0, none⟩) (Kd.R_types HO_4.out BK118.out (by decide)) (fun _ hk => hk.2) (.int .i64 ((rd_T42 t102 x31_2).f0))) (fun _ hk => hk.2) (.int .i64 ((rd_T42 t102 x31_2).f1))) (fun _ hk => hk.1)⟩, ⟨by (with_reducible repeat (first | apply Kd.R_alloc | apply Kd.R_drewN | apply Kd.R_drew)); exact Kd.R_mono (Kd.R_far (p := ⟨gb118, 1, none⟩) (Kd.R_far (p := ⟨gb118, 0, none⟩) (Kd.R_types HO_5.out BK118.out (by decide)) (fun _ hk => hk.2) (.int .i64 ((rd_T42 t102 x31_2).f0))) (fun _ hk => hk.2) (.int .i64 ((rd_T42 t102 x31_2).f1))) (fun _ hk => hk.1)⟩, ⟨fpR_ HO_6.out⟩, ⟨fpR_ HO_29.out⟩, ⟨pf_ NB101_118 BK101⟩, ⟨pb_ BK118.out⟩, ⟨hs_⟩⟩
         case round =>
          clear H'; (try clear c1); (try clear p1); (try clear q1); (try clear hx1); (try clear c2); (try clear p2); (try clear c5); (try clear c9); (try clear c11); (try clear c11b0); (try clear c11b1); (try clear p11); (try clear q11); (try clear hx11); (try clear c15); (try clear c20); (try clear c20b0); (try clear c21); (try clear c21b0); (try clear c22); (try clear c22b0); (try clear c24); (try clear Z25); (try clear hx117_0); (try clear hx117_1); (try clear p117); (try clear p2); (try clear q117); obtain ⟨x6_3, x9_3, rfl, HA, HK3, HO_4, HO_5, HO_6, HO_29, BK101, BK118, HB⟩ := hrel
          cases gk with
          | zero => exact absurd HA.out (by simp [point_dated.l1])
          | succ k3 =>
           have H := HA.out; clear HA; simp only [point_dated.l1] at H
           by_cases c26 : x9_3 ≤ ((rd_T42 t102 x31_2).f1)
           ·rw [if_pos c26] at H
            have c26b0 := decide_eq_true c26; clear c26; obtain ⟨t119, A27, H⟩ := bi_ H
            by_cases c28 : x6_3.length + t119.length < 8796093022208
            ·rw [if_pos c28] at H
             have LMc28 := A_ c28; clear c28; obtain ⟨y122, hy122⟩ : ∃ y_ : List (S42), y_ = (x6_3 ++ t119) := ⟨_, rfl⟩; (replace H : (if (y122.length : Int) > 1200 then ((runs_Make.f y122).bind fun t125 => ((sets_Wide.f k3 t125).bind fun t128 => (if t128 = true then (some t125) else (point_dated.l1 k3 t105 t108 t125 (wrap64 (x9_3 + 1)) t102 (t102.length : Int) x31_2 ((rd_T42 t102 x31_2).f0) ((rd_T42 t102 x31_2).f1))))) else (point_dated.l1 k3 t105 t108 y122 (wrap64 (x9_3 + 1)) t102 (t102.length : Int) x31_2 ((rd_T42 t102 x31_2).f0) ((rd_T42 t102 x31_2).f1))) = some r := by first | (rw [hy122]; with_reducible exact H) | (have H2_ := (Option.bind_some _ _).symm.trans H; rw [hy122]; with_reducible exact H2_) | (have H2_ := (Option.bind_some _ _).symm.trans H; with_reducible exact H2_) | with_reducible exact H | (rw [hy122]; exact H) | exact H); have Ny122 := A_ hy122; clear hy122
             by_cases c29 : (y122.length : Int) > 1200
             ·rw [if_pos c29] at H
              have c29b0 := decide_eq_true c29; have c29b1 : decide (1200 < y122.length) = true := decide_eq_true (by omega); clear c29; obtain ⟨t125, A30, H⟩ := bi_ H; obtain ⟨t128, A31, H⟩ := bi_ H
              by_cases c32 : t128 = true
              ·subst c32
               replace H := iP_ H; obtain rfl := Option.some.inj H; have hnb33 := NB118_101.out; have hnc33 := NB101_118.out; have Z34 := bz2_ BK118; obtain ⟨Ao35, co35, eo35⟩ := Kd.R_slice HO_4.out; subst eo35; obtain ⟨Ao36, co36, eo36⟩ := Kd.R_slice HO_5.out; subst eo36; go_wp2_with (first | ((with_reducible refine gC 45 ?_); refine goesL_ (some 47) rfl rfl Tryd.func45 (by kernel_rfl) rfl #[.int .i64 x9_3, .slice Ao35 t105.length co35, .slice Ao36 t108.length co36] rfl ml_ ?_; (with_reducible refine (point_days.calls k3 x9_3 _ _ t105 _ _ t108 t119 _ tl_ ?side1 ?side2 ?side3 ?side4 A27.out).mono ?_); (case side1 => repeat (first | exact (Kd.R_reads' HO_4.out).2.2 | (with_reducible refine Kd.C_alloc ?_ _) | (with_reducible refine Kd.C_drewN ?_ _) | (with_reducible refine Kd.C_drew ?_))); (case side2 => exact (Kd.R_reads' HO_4.out).2.1); (case side3 => repeat (first | exact (Kd.R_reads' HO_5.out).2.2 | (with_reducible refine Kd.C_alloc ?_ _) | (with_reducible refine Kd.C_drewN ?_ _) | (with_reducible refine Kd.C_drew ?_))); (case side4 => exact (Kd.R_reads' HO_5.out).2.1); rintro e w37 ⟨v120, rfl, ho0, hb⟩; refine ⟨_, rfl, ?_⟩; replace HO_4 := A_ (Kd.R_below (fxR_ HO_4.out) hb); replace HO_5 := A_ (Kd.R_below (fxR_ HO_5.out) hb); have HO121 := A_ (Kd.R_lower (Kd.R_newB (Kd.R_new' (Kd.R_new' ho0 (Kd.R_lt (fxR_ HO_6.out))) (Kd.R_lt (fxR_ HO_29.out))) (g := gb118) (o := .cells #[.int .i64 ((rd_T42 t102 x31_2).f0), .int .i64 ((rd_T42 t102 x31_2).f1)] 42 (0, 0)) (bl_ BK118.out)) (below_size hs_)); replace HO_6 := A_ (Kd.R_elder' (fxR_ HO_6.out) (Kd.R_base ho0) hb); replace HO_29 := A_ (Kd.R_elder' (fxR_ HO_29.out) (Kd.R_base ho0) hb); replace BK101 := bb_ BK101 hb; replace BK118 := bb_ BK118 hb; replace HB := bs_ hb; (try clear hb); (try clear ho0); obtain ⟨Ao39, co39, eo39⟩ := Kd.R_slice HO121.out; subst eo39) | ((with_reducible refine gate_builtin (b := .append) (xs := #[.tmp 43, .tmp 47]) rfl ?_); (try (refine gate_guard (by rfl) ?_; dsimp only)); at_builtin; refine Kd.R_append_rows k42 (w0 := w) w.heap.size rfl (.tmp 43) (.tmp 47) 34 42 (.agg #[(.int .i64 0), (.int .i64 0)]) 16 rfl Tryd.underlying34 info42 rfl (by decide) (by omega) u6 x6_3 t119 _ _ _ (fun k_ => nv_ k_ (.slice (some ad117) t102.length co19) ∧ nv_ k_ (.slice Ao39 t119.length co39) ∧ k_ ≠ gb118) (fun _ => False) rfl rfl ?aO ?aR (fun _ _ h => h) (fun _ h => h.elim) ?aF ?aB ?aS ?aL ?_; (case aR => repeat (first | exact (Kd.R_reads' HO121.out).2.2 | (with_reducible refine Kd.C_alloc ?_ _) | (with_reducible refine Kd.C_drewN ?_ _) | (with_reducible refine Kd.C_drew ?_))); (case aB => exact hs_); (case aF => exact (fun k_ hk => ⟨Kd.fresh' (Kd.R_lt (fxR_ HO_29.out)) k_ hk, Kd.fresh' (Kd.R_lt (fxR_ HO121.out)) k_ hk, fb_ BK118 k_ hk⟩)); (case aO => exact (fmR_ HO_6.out)); (case aS => exact (below_size hs_)); (case aL => have := LMc28.out; omega); intro v123 w38 ho hb hg hat; rw [← Ny122.out] at ho; replace HO_4 := A_ (Kd.R_over' (fxR_ HO_4.out) (Kd.R_typed (fxR_ HO_6.out)) (by decide) hg); replace HO_5 := A_ (Kd.R_over' (fxR_ HO_5.out) (Kd.R_typed (fxR_ HO_6.out)) (by decide) hg); replace HO_29 := A_ (Kd.R_after (ok := (fun k_ => nv_ k_ (.slice Ao39 t119.length co39) ∧ k_ ≠ gb118)) (fmR_ HO_29.out) hg hat); replace BK101 := A_ (blk_grown (g := gb101) (o := .cells (n4_ a0_0 a0_1 a0_2 a0_3) 23 (0, 0)) (bl_ BK101.out) hg (Kd.R_ne HO_6.out BK101.out (by decide))); replace BK118 := A_ (blk_grown (g := gb118) (o := .cells #[.int .i64 ((rd_T42 t102 x31_2).f0), .int .i64 ((rd_T42 t102 x31_2).f1)] 42 (0, 0)) (bl_ BK118.out) hg (Kd.R_away HO_6.out (fun _ hk => hk.1.2))); replace HO121 := A_ (Kd.R_after (ok := (fun k_ => nv_ k_ (.slice (some ad117) t102.length co19) ∧ k_ ≠ gb118)) (fmR_ HO121.out) hg hat); replace HB := A_ (hb); have HO124 := A_ (ho); clear HO_6; clear ho hb hg hat; obtain ⟨Ao40, co40, eo40⟩ := Kd.R_slice HO124.out; subst eo40) | ((with_reducible refine gC 46 ?_); refine goesL_ (some 53) rfl rfl Tryd.func46 (by kernel_rfl) rfl #[.slice Ao40 y122.length co40] rfl ml_ ?_; (with_reducible refine (runs_Make.calls _ _ y122 t125 _ ?side1 ?side2 A30.out).mono ?_); (case side1 => repeat (first | exact (Kd.R_reads' HO124.out).2.2 | (with_reducible refine Kd.C_alloc ?_ _) | (with_reducible refine Kd.C_drewN ?_ _) | (with_reducible refine Kd.C_drew ?_))); (case side2 => exact (Kd.R_reads' HO124.out).2.1); rintro e w41 ⟨v126, rfl, ho0, hb⟩; refine ⟨_, rfl, ?_⟩; replace HO_4 := A_ (Kd.R_below (fxR_ HO_4.out) hb); replace HO_5 := A_ (Kd.R_below (fxR_ HO_5.out) hb); have HO127 := A_ (Kd.R_lower (Kd.R_newB (Kd.R_new' (Kd.R_new' (Kd.R_new' ho0 (Kd.R_lt (fxR_ HO_29.out))) (Kd.R_lt (fxR_ HO121.out))) (Kd.R_lt (fxR_ HO124.out))) (g := gb118) (o := .cells #[.int .i64 ((rd_T42 t102 x31_2).f0), .int .i64 ((rd_T42 t102 x31_2).f1)] 42 (0, 0)) (bl_ BK118.out)) (below_size hs_)); replace HO_29 := A_ (Kd.R_elder' (fxR_ HO_29.out) (Kd.R_base ho0) hb); replace HO121 := A_ (Kd.R_elder' (fxR_ HO121.out) (Kd.R_base ho0) hb); replace HO124 := A_ (Kd.R_elder' (fxR_ HO124.out) (Kd.R_base ho0) hb); replace BK101 := bb_ BK101 hb; replace BK118 := bb_ BK118 hb; replace HB := bs_ hb; (try clear hb); (try clear ho0); obtain ⟨Ao42, co42, eo42⟩ := Kd.R_slice HO127.out; subst eo42) | ((with_reducible refine gC 47 ?_); refine goesL_ (some 55) rfl rfl Tryd.func47 (by kernel_rfl) rfl #[.slice Ao42 t125.length co42] rfl ml_ ?_; (with_reducible refine (sets_Wide.calls k3 _ _ t125 true _ ?side1 ?side2 A31.out).mono ?_); (case side1 => repeat (first | exact (Kd.R_reads' HO127.out).2.2 | (with_reducible refine Kd.C_alloc ?_ _) | (with_reducible refine Kd.C_drewN ?_ _) | (with_reducible refine Kd.C_drew ?_))); (case side2 => exact (Kd.R_reads' HO127.out).2.1); rintro e w43 ⟨rfl, hb⟩; refine ⟨_, rfl, ?_⟩; replace HO_4 := A_ (Kd.R_below (fxR_ HO_4.out) hb); replace HO_5 := A_ (Kd.R_below (fxR_ HO_5.out) hb); replace HO_29 := A_ (Kd.R_below (fxR_ HO_29.out) hb); replace HO121 := A_ (Kd.R_below (fxR_ HO121.out) hb); replace HO124 := A_ (Kd.R_below (fxR_ HO124.out) hb); replace HO127 := A_ (Kd.R_below (fxR_ HO127.out) hb); replace BK101 := bb_ BK101 hb; replace BK118 := bb_ BK118 hb; replace HB := bs_ hb; (try clear hb)))
               go_ret; exact ⟨_, by first | rfl | (simp [errW_none, errW_some] <;> rfl) | (simp [*, errW_none, errW_some] <;> rfl), by (with_reducible repeat (first | apply Kd.R_alloc | apply Kd.R_drewN | apply Kd.R_drew)); exact Kd.R_mono HO127.out (fun _ hk => trivial), hs_⟩
              ·replace c32 := Bool.eq_false_iff.mpr c32
               subst c32; replace H := iN_ H; have H' := A_ H; clear H; have hnb44 := NB118_101.out; have hnc44 := NB101_118.out; have Z45 := bz2_ BK118; obtain ⟨Ao46, co46, eo46⟩ := Kd.R_slice HO_4.out; subst eo46; obtain ⟨Ao47, co47, eo47⟩ := Kd.R_slice HO_5.out; subst eo47; go_wp2_with (first | ((with_reducible refine gC 45 ?_); refine goesL_ (some 47) rfl rfl Tryd.func45 (by kernel_rfl) rfl #[.int .i64 x9_3, .slice Ao46 t105.length co46, .slice Ao47 t108.length co47] rfl ml_ ?_; (with_reducible refine (point_days.calls k3 x9_3 _ _ t105 _ _ t108 t119 _ tl_ ?side1 ?side2 ?side3 ?side4 A27.out).mono ?_); (case side1 => repeat (first | exact (Kd.R_reads' HO_4.out).2.2 | (with_reducible refine Kd.C_alloc ?_ _) | (with_reducible refine Kd.C_drewN ?_ _) | (with_reducible refine Kd.C_drew ?_))); (case side2 => exact (Kd.R_reads' HO_4.out).2.1); (case side3 => repeat (first | exact (Kd.R_reads' HO_5.out).2.2 | (with_reducible refine Kd.C_alloc ?_ _) | (with_reducible refine Kd.C_drewN ?_ _) | (with_reducible refine Kd.C_drew ?_))); (case side4 => exact (Kd.R_reads' HO_5.out).2.1); rintro e w48 ⟨v120, rfl, ho0, hb⟩; refine ⟨_, rfl, ?_⟩; replace HO_4 := A_ (Kd.R_below (fxR_ HO_4.out) hb); replace HO_5 := A_ (Kd.R_below (fxR_ HO_5.out) hb); have HO121 := A_ (Kd.R_lower (Kd.R_newB (Kd.R_new' (Kd.R_new' ho0 (Kd.R_lt (fxR_ HO_6.out))) (Kd.R_lt (fxR_ HO_29.out))) (g := gb118) (o := .cells #[.int .i64 ((rd_T42 t102 x31_2).f0), .int .i64 ((rd_T42 t102 x31_2).f1)] 42 (0, 0)) (bl_ BK118.out)) (below_size hs_)); replace HO_6 := A_ (Kd.R_elder' (fxR_ HO_6.out) (Kd.R_base ho0) hb); replace HO_29 := A_ (Kd.R_elder' (fxR_ HO_29.out) (Kd.R_base ho0) hb); replace BK101 := bb_ BK101 hb; replace BK118 := bb_ BK118 hb; replace HB := bs_ hb; (try clear hb); (try clear ho0); obtain ⟨Ao50, co50, eo50⟩ := Kd.R_slice HO121.out; subst eo50) | ((with_reducible refine gate_builtin (b := .append) (xs := #[.tmp 43, .tmp 47]) rfl ?_); (try (refine gate_guard (by rfl) ?_; dsimp only)); at_builtin; refine Kd.R_append_rows k42 (w0 := w) w.heap.size rfl (.tmp 43) (.tmp 47) 34 42 (.agg #[(.int .i64 0), (.int .i64 0)]) 16 rfl Tryd.underlying34 info42 rfl (by decide) (by omega) u6 x6_3 t119 _ _ _ (fun k_ => nv_ k_ (.slice (some ad117) t102.length co19) ∧ nv_ k_ (.slice Ao50 t119.length co50) ∧ k_ ≠ gb118) (fun _ => False) rfl rfl ?aO ?aR (fun _ _ h => h) (fun _ h => h.elim) ?aF ?aB ?aS ?aL ?_; (case aR => repeat (first | exact (Kd.R_reads' HO121.out).2.2 | (with_reducible refine Kd.C_alloc ?_ _) | (with_reducible refine Kd.C_drewN ?_ _) | (with_reducible refine Kd.C_drew ?_))); (case aB => exact hs_); (case aF => exact (fun k_ hk => ⟨Kd.fresh' (Kd.R_lt (fxR_ HO_29.out)) k_ hk, Kd.fresh' (Kd.R_lt (fxR_ HO121.out)) k_ hk, fb_ BK118 k_ hk⟩)); (case aO => exact (fmR_ HO_6.out)); (case aS => exact (below_size hs_)); (case aL => have := LMc28.out; omega); intro v123 w49 ho hb hg hat; rw [← Ny122.out] at ho; replace HO_4 := A_ (Kd.R_over' (fxR_ HO_4.out) (Kd.R_typed (fxR_ HO_6.out)) (by decide) hg); replace HO_5 := A_ (Kd.R_over' (fxR_ HO_5.out) (Kd.R_typed (fxR_ HO_6.out)) (by decide) hg); replace HO_29 := A_ (Kd.R_after (ok := (fun k_ => nv_ k_ (.slice Ao50 t119.length co50) ∧ k_ ≠ gb118)) (fmR_ HO_29.out) hg hat); replace BK101 := A_ (blk_grown (g := gb101) (o := .cells (n4_ a0_0 a0_1 a0_2 a0_3) 23 (0, 0)) (bl_ BK101.out) hg (Kd.R_ne HO_6.out BK101.out (by decide))); replace BK118 := A_ (blk_grown (g := gb118) (o := .cells #[.int .i64 ((rd_T42 t102 x31_2).f0), .int .i64 ((rd_T42 t102 x31_2).f1)] 42 (0, 0)) (bl_ BK118.out) hg (Kd.R_away HO_6.out (fun _ hk => hk.1.2))); replace HO121 := A_ (Kd.R_after (ok := (fun k_ => nv_ k_ (.slice (some ad117) t102.length co19) ∧ k_ ≠ gb118)) (fmR_ HO121.out) hg hat); replace HB := A_ (hb); have HO124 := A_ (ho); clear HO_6; clear ho hb hg hat; obtain ⟨Ao51, co51, eo51⟩ := Kd.R_slice HO124.out; subst eo51) | ((with_reducible refine gC 46 ?_); refine goesL_ (some 53) rfl rfl Tryd.func46 (by kernel_rfl) rfl #[.slice Ao51 y122.length co51] rfl ml_ ?_; (with_reducible refine (runs_Make.calls _ _ y122 t125 _ ?side1 ?side2 A30.out).mono ?_); (case side1 => repeat (first | exact (Kd.R_reads' HO124.out).2.2 | (with_reducible refine Kd.C_alloc ?_ _) | (with_reducible refine Kd.C_drewN ?_ _) | (with_reducible refine Kd.C_drew ?_))); (case side2 => exact (Kd.R_reads' HO124.out).2.1); rintro e w52 ⟨v126, rfl, ho0, hb⟩; refine ⟨_, rfl, ?_⟩; replace HO_4 := A_ (Kd.R_below (fxR_ HO_4.out) hb); replace HO_5 := A_ (Kd.R_below (fxR_ HO_5.out) hb); have HO127 := A_ (Kd.R_lower (Kd.R_newB (Kd.R_new' (Kd.R_new' (Kd.R_new' ho0 (Kd.R_lt (fxR_ HO_29.out))) (Kd.R_lt (fxR_ HO121.out))) (Kd.R_lt (fxR_ HO124.out))) (g := gb118) (o := .cells #[.int .i64 ((rd_T42 t102 x31_2).f0), .int .i64 ((rd_T42 t102 x31_2).f1)] 42 (0, 0)) (bl_ BK118.out)) (below_size hs_)); replace HO_29 := A_ (Kd.R_elder' (fxR_ HO_29.out) (Kd.R_base ho0) hb); replace HO121 := A_ (Kd.R_elder' (fxR_ HO121.out) (Kd.R_base ho0) hb); replace HO124 := A_ (Kd.R_elder' (fxR_ HO124.out) (Kd.R_base ho0) hb); replace BK101 := bb_ BK101 hb; replace BK118 := bb_ BK118 hb; replace HB := bs_ hb; (try clear hb); (try clear ho0); obtain ⟨Ao53, co53, eo53⟩ := Kd.R_slice HO127.out; subst eo53) | ((with_reducible refine gC 47 ?_); refine goesL_ (some 55) rfl rfl Tryd.func47 (by kernel_rfl) rfl #[.slice Ao53 t125.length co53] rfl ml_ ?_; (with_reducible refine (sets_Wide.calls k3 _ _ t125 false _ ?side1 ?side2 A31.out).mono ?_); (case side1 => repeat (first | exact (Kd.R_reads' HO127.out).2.2 | (with_reducible refine Kd.C_alloc ?_ _) | (with_reducible refine Kd.C_drewN ?_ _) | (with_reducible refine Kd.C_drew ?_))); (case side2 => exact (Kd.R_reads' HO127.out).2.1); rintro e w54 ⟨rfl, hb⟩; refine ⟨_, rfl, ?_⟩; replace HO_4 := A_ (Kd.R_below (fxR_ HO_4.out) hb); replace HO_5 := A_ (Kd.R_below (fxR_ HO_5.out) hb); replace HO_29 := A_ (Kd.R_below (fxR_ HO_29.out) hb); replace HO121 := A_ (Kd.R_below (fxR_ HO121.out) hb); replace HO124 := A_ (Kd.R_below (fxR_ HO124.out) hb); replace HO127 := A_ (Kd.R_below (fxR_ HO127.out) hb); replace BK101 := bb_ BK101 hb; replace BK118 := bb_ BK118 hb; replace HB := bs_ hb; (try clear hb)))
               go_roundg k3
               case measure => have := HJ4.out; have := HK2.out; have := HK3.out; omega
               case rel => exact ⟨(t125), (wrap64 (x9_3 + 1)), rf_, H', ⟨by have := HJ4.out; have := HK2.out; have := HK3.out; omega⟩, ⟨fxR_ HO_4.out⟩, ⟨fxR_ HO_5.out⟩, ⟨fmR_ HO127.out⟩, ⟨fmR_ HO_29.out⟩, ⟨bl_ BK101.out⟩, ⟨bl_ BK118.out⟩, ⟨hs_⟩⟩
             ·rw [if_neg c29] at H
              have c29b0 := decide_eq_false c29; have c29b1 : decide (1200 < y122.length) = false := decide_eq_false (by omega); clear c29; have H' := A_ H; clear H; have hnb55 := NB118_101.out; have hnc55 := NB101_118.out; have Z56 := bz2_ BK118; obtain ⟨Ao57, co57, eo57⟩ := Kd.R_slice HO_4.out; subst eo57; obtain ⟨Ao58, co58, eo58⟩ := Kd.R_slice HO_5.out; subst eo58; go_wp2_with (first | ((with_reducible refine gC 45 ?_); refine goesL_ (some 47) rfl rfl Tryd.func45 (by kernel_rfl) rfl #[.int .i64 x9_3, .slice Ao57 t105.length co57, .slice Ao58 t108.length co58] rfl ml_ ?_; (with_reducible refine (point_days.calls k3 x9_3 _ _ t105 _ _ t108 t119 _ tl_ ?side1 ?side2 ?side3 ?side4 A27.out).mono ?_); (case side1 => repeat (first | exact (Kd.R_reads' HO_4.out).2.2 | (with_reducible refine Kd.C_alloc ?_ _) | (with_reducible refine Kd.C_drewN ?_ _) | (with_reducible refine Kd.C_drew ?_))); (case side2 => exact (Kd.R_reads' HO_4.out).2.1); (case side3 => repeat (first | exact (Kd.R_reads' HO_5.out).2.2 | (with_reducible refine Kd.C_alloc ?_ _) | (with_reducible refine Kd.C_drewN ?_ _) | (with_reducible refine Kd.C_drew ?_))); (case side4 => exact (Kd.R_reads' HO_5.out).2.1); rintro e w59 ⟨v120, rfl, ho0, hb⟩; refine ⟨_, rfl, ?_⟩; replace HO_4 := A_ (Kd.R_below (fxR_ HO_4.out) hb); replace HO_5 := A_ (Kd.R_below (fxR_ HO_5.out) hb); have HO121 := A_ (Kd.R_lower (Kd.R_newB (Kd.R_new' (Kd.R_new' ho0 (Kd.R_lt (fxR_ HO_6.out))) (Kd.R_lt (fxR_ HO_29.out))) (g := gb118) (o := .cells #[.int .i64 ((rd_T42 t102 x31_2).f0), .int .i64 ((rd_T42 t102 x31_2).f1)] 42 (0, 0)) (bl_ BK118.out)) (below_size hs_)); replace HO_6 := A_ (Kd.R_elder' (fxR_ HO_6.out) (Kd.R_base ho0) hb); replace HO_29 := A_ (Kd.R_elder' (fxR_ HO_29.out) (Kd.R_base ho0) hb); replace BK101 := bb_ BK101 hb; replace BK118 := bb_ BK118 hb; replace HB := bs_ hb; (try clear hb); (try clear ho0); obtain ⟨Ao61, co61, eo61⟩ := Kd.R_slice HO121.out; subst eo61) | ((with_reducible refine gate_builtin (b := .append) (xs := #[.tmp 43, .tmp 47]) rfl ?_); (try (refine gate_guard (by rfl) ?_; dsimp only)); at_builtin; refine Kd.R_append_rows k42 (w0 := w) w.heap.size rfl (.tmp 43) (.tmp 47) 34 42 (.agg #[(.int .i64 0), (.int .i64 0)]) 16 rfl Tryd.underlying34 info42 rfl (by decide) (by omega) u6 x6_3 t119 _ _ _ (fun k_ => nv_ k_ (.slice (some ad117) t102.length co19) ∧ nv_ k_ (.slice Ao61 t119.length co61) ∧ k_ ≠ gb118) (fun _ => False) rfl rfl ?aO ?aR (fun _ _ h => h) (fun _ h => h.elim) ?aF ?aB ?aS ?aL ?_; (case aR => repeat (first | exact (Kd.R_reads' HO121.out).2.2 | (with_reducible refine Kd.C_alloc ?_ _) | (with_reducible refine Kd.C_drewN ?_ _) | (with_reducible refine Kd.C_drew ?_))); (case aB => exact hs_); (case aF => exact (fun k_ hk => ⟨Kd.fresh' (Kd.R_lt (fxR_ HO_29.out)) k_ hk, Kd.fresh' (Kd.R_lt (fxR_ HO121.out)) k_ hk, fb_ BK118 k_ hk⟩)); (case aO => exact (fmR_ HO_6.out)); (case aS => exact (below_size hs_)); (case aL => have := LMc28.out; omega); intro v123 w60 ho hb hg hat; rw [← Ny122.out] at ho; replace HO_4 := A_ (Kd.R_over' (fxR_ HO_4.out) (Kd.R_typed (fxR_ HO_6.out)) (by decide) hg); replace HO_5 := A_ (Kd.R_over' (fxR_ HO_5.out) (Kd.R_typed (fxR_ HO_6.out)) (by decide) hg); replace HO_29 := A_ (Kd.R_after (ok := (fun k_ => nv_ k_ (.slice Ao61 t119.length co61) ∧ k_ ≠ gb118)) (fmR_ HO_29.out) hg hat); replace BK101 := A_ (blk_grown (g := gb101) (o := .cells (n4_ a0_0 a0_1 a0_2 a0_3) 23 (0, 0)) (bl_ BK101.out) hg (Kd.R_ne HO_6.out BK101.out (by decide))); replace BK118 := A_ (blk_grown (g := gb118) (o := .cells #[.int .i64 ((rd_T42 t102 x31_2).f0), .int .i64 ((rd_T42 t102 x31_2).f1)] 42 (0, 0)) (bl_ BK118.out) hg (Kd.R_away HO_6.out (fun _ hk => hk.1.2))); replace HO121 := A_ (Kd.R_after (ok := (fun k_ => nv_ k_ (.slice (some ad117) t102.length co19) ∧ k_ ≠ gb118)) (fmR_ HO121.out) hg hat); replace HB := A_ (hb); have HO124 := A_ (ho); clear HO_6; clear ho hb hg hat; obtain ⟨Ao62, co62, eo62⟩ := Kd.R_slice HO124.out; subst eo62))
              go_roundg k3
              case measure => have := HJ4.out; have := HK2.out; have := HK3.out; omega
              case rel => exact ⟨(y122), (wrap64 (x9_3 + 1)), rf_, H', ⟨by have := HJ4.out; have := HK2.out; have := HK3.out; omega⟩, ⟨fxR_ HO_4.out⟩, ⟨fxR_ HO_5.out⟩, ⟨fmR_ HO124.out⟩, ⟨fmR_ HO_29.out⟩, ⟨bl_ BK101.out⟩, ⟨bl_ BK118.out⟩, ⟨hs_⟩⟩
            ·rw [if_neg c28] at H
             exact absurd H (by simp)
           ·rw [if_neg c26] at H
            have c26b0 := decide_eq_false c26; clear c26; have H' := A_ H; clear H; have hnb63 := NB118_101.out; have hnc63 := NB101_118.out; have Z64 := bz2_ BK118; go_wp2; go_roundg k3
            case measure => have := HJ4.out; have := HK2.out; have := HK3.out; omega
            case rel => exact ⟨(x6_3), (wrap64 (x31_2 + 1)), rf_, H', ⟨by have := HJ4.out; have := HK2.out; have := HK3.out; omega⟩, ⟨fxR_ HO_4.out⟩, ⟨fxR_ HO_5.out⟩, ⟨by (with_reducible repeat (first | apply Kd.R_alloc | apply Kd.R_drewN | apply Kd.R_drew)); exact Kd.R_mono HO_6.out (fun _ hk => hk.1)⟩, ⟨by (with_reducible repeat (first | apply Kd.R_alloc | apply Kd.R_drewN | apply Kd.R_drew)); exact Kd.R_mono HO_29.out (fun _ hk => hk.1)⟩, ⟨bl_ BK101.out⟩, ⟨hs_⟩⟩
        ·rw [if_neg c22] at H
         exact absurd H (by simp)
       ·rw [if_neg c21] at H
        exact absurd H (by simp)
      ·rw [if_neg c20] at H
       have c20b0 := decide_eq_false c20; clear c20; obtain ⟨t114, A65, H⟩ := bi_ H; obtain rfl := Option.some.inj H; obtain ⟨Ao66, co66, eo66⟩ := Kd.R_slice HO_6.out; subst eo66; go_wp2_with (first | ((with_reducible refine gC 46 ?_); refine goesL_ (some 59) rfl rfl Tryd.func46 (by kernel_rfl) rfl #[.slice Ao66 x6_2.length co66] rfl ml_ ?_; (with_reducible refine (runs_Make.calls _ _ x6_2 t114 _ ?side1 ?side2 A65.out).mono ?_); (case side1 => repeat (first | exact (Kd.R_reads' HO_6.out).2.2 | (with_reducible refine Kd.C_alloc ?_ _) | (with_reducible refine Kd.C_drewN ?_ _) | (with_reducible refine Kd.C_drew ?_))); (case side2 => exact (Kd.R_reads' HO_6.out).2.1); rintro e w67 ⟨v115, rfl, ho0, hb⟩; refine ⟨_, rfl, ?_⟩; replace HO_4 := A_ (Kd.R_below (fxR_ HO_4.out) hb); replace HO_5 := A_ (Kd.R_below (fxR_ HO_5.out) hb); have HO116 := A_ (Kd.R_lower (Kd.R_new' (Kd.R_new' ho0 (Kd.R_lt (fxR_ HO_6.out))) (Kd.R_lt (fxR_ HO_29.out))) (below_size hs_)); replace HO_6 := A_ (Kd.R_elder' (fxR_ HO_6.out) (Kd.R_base ho0) hb); replace HO_29 := A_ (Kd.R_elder' (fxR_ HO_29.out) (Kd.R_base ho0) hb); replace BK101 := bb_ BK101 hb; replace HB := bs_ hb; (try clear hb); (try clear ho0))); go_ret; exact ⟨_, by first | rfl | (simp [errW_none, errW_some] <;> rfl) | (simp [*, errW_none, errW_some] <;> rfl), by (with_reducible repeat (first | apply Kd.R_alloc | apply Kd.R_drewN | apply Kd.R_drew)); exact Kd.R_mono HO116.out (fun _ hk => trivial), hs_⟩
set_option maxHeartbeats 8000000 in
set_option maxRecDepth 100000 in
theorem point_parts.calls (k : Nat) (a0_0 : Int) (a0_1 a0_2 a0_3 : ByteArray) (a1 : Int) (r : List (S42)) (w : World) (h : point_parts.f k a0_0 a0_1 a0_2 a0_3 a1 = some r) :
  Calls Tryd.prog 32 #[.agg #[.int .i64 a0_0, .string a0_1, .string a0_2, .string a0_3], .int .i64 a1] w fun e w' => ∃ v0_ : Value, e = .returned (v0_) ∧ Kd.R k42 42 w' w.heap.size (fun _ => True) v0_ r ∧ Below w.heap.size w w' := by
 have hu23 := Tryd.underlying23; have hu42 := Tryd.underlying42; have HB := A_ (Below.refl w.heap.size w); have H : ((point_numbers.f k a0_2 a1).bind fun t130 => ((mask_Set.f a0_1).bind fun t133 => (point_parts.l0 k a1 ([] : List (S42)) t130 t133 (t133.length : Int) 0))) = some r := h; clear h; obtain ⟨t130, A3, H⟩ := bi_ H; obtain ⟨t133, A4, H⟩ := bi_ H; have H' := A_ H; clear H; go_enter Tryd.func32, Tryd.ntmps32; go_wp2_with (first | ((with_reducible refine gD 2 ?_); refine gx_ w 2 (n4_ a0_0 a0_1 a0_2 a0_3) 23 ?_; clear HB; intro gb129 w5 BK129 GE129 HB; have GW129 := GE129; have Z6 := bz4_ BK129) | ((with_reducible refine gC 41 ?_); refine goesL_ (some 15) rfl rfl Tryd.func41 (by kernel_rfl) rfl #[.string a0_2, .int .i64 a1] rfl ml_ ?_; (with_reducible refine (point_numbers.calls k a0_2 a1 t130 _ A3.out).mono ?_); rintro e w7 ⟨v131, rfl, ho0, hb⟩; refine ⟨_, rfl, ?_⟩; have HO132 := A_ (Kd.R_lower ho0 (below_size hs_)); replace BK129 := bb_ BK129 hb; replace HB := bs_ hb; (try clear hb); (try clear ho0); have Z8 := bz4_ BK129) | ((with_reducible refine gC 30 ?_); refine goesL_ (some 18) rfl rfl Tryd.func30 (by kernel_rfl) rfl #[.string a0_1] rfl ml_ ?_; (with_reducible refine (mask_Set.calls a0_1 t133 _ A4.out).mono ?_); rintro e w9 ⟨v134, rfl, ho0, hb⟩; refine ⟨_, rfl, ?_⟩; replace HO132 := A_ (Kd.R_below (fxR_ HO132.out) hb); have HO135 := A_ (Kd.R_lower ho0 (below_size hs_)); replace BK129 := bb_ BK129 hb; replace HB := bs_ hb; (try clear hb); (try clear ho0); obtain ⟨Ao10, co10, eo10⟩ := Kd.R_slice HO135.out; subst eo10))
 go_loopg [5, 20] k (fun kq v5 v20 w' => ∃ (x5_1 : List (S42)) (x20_1 : Int), v20 = .int .i64 x20_1 ∧ Aside0 (point_parts.l0 kq a1 x5_1 t130 t133 (t133.length : Int) x20_1 = some r) ∧ Aside0 (kq ≤ k) ∧ Aside0 (Kd.R k42 42 w' w.heap.size (fun k_ => some k_ ≠ ((.slice Ao10 t133.length co10) : Value).ownBlock) v5 x5_1) ∧ Aside0 (Kd.R (Kd.int .i64) 3 w' w.heap.size (fun _ => True) v131 t130) ∧ Aside0 (Kd.R k42 42 w' w.heap.size (fun k_ => nv_ k_ v5) (.slice Ao10 t133.length co10) t133) ∧ Aside0 (w'.heap[gb129]? = some (.cells (n4_ a0_0 a0_1 a0_2 a0_3) 23 (0, 0))) ∧ Aside0 (Below w.heap.size w w'))
 case atStart => exact ⟨(([] : List (S42))), (0), rf_, H', ⟨Nat.le_refl _⟩, ⟨by first | exact Kd.R_nil _ _ _ _ _ | exact Kd.N_nil _ _ _ _ _ | exact Kd.V_nil _ _ _ _ _ | exact Kd.Q_nil _ _ _ _ _ | exact Kd.S_nil _ _ _ _ _⟩, ⟨fxR_ HO132.out⟩, ⟨by (with_reducible repeat (first | apply Kd.R_alloc | apply Kd.R_drewN | apply Kd.R_drew)); exact Kd.R_mono HO135.out (fun _ hk => (by simp [Value.ownBlock]))⟩, ⟨bl_ BK129.out⟩, ⟨hs_⟩⟩
 case round =>
  clear H'; (try clear p2); (try clear c5); (try clear c9); (try clear Z6); (try clear Z8); obtain ⟨x5_1, x20_1, rfl, HA, HK1, HO_5, HO_6, HO_18, BK129, HB⟩ := hrel
  cases gk with
  | zero => exact absurd HA.out (by simp [point_parts.l0])
  | succ k1 =>
   have H := HA.out; clear HA; simp only [point_parts.l0] at H
   by_cases c11 : x20_1 < (t133.length : Int)
   ·rw [if_pos c11] at H
    have c11b0 := decide_eq_true c11; clear c11
    by_cases c12 : 0 ≤ x20_1
    ·rw [if_pos c12] at H
     have c12b0 := decide_eq_true c12; clear c12
     by_cases c13 : x20_1 < (t133.length : Int)
     ·rw [if_pos c13] at H
      have c13b0 := decide_eq_true c13; clear c13
      by_cases c14 : (t130.length : Int) = a1
      ·rw [if_pos c14] at H
       have c14b0 : ((t130.length : Int) == a1) = true := beq_iff_eq.mpr c14; have c14b1 : ((t130.length : Int) != a1) = false := bne_eq_false_iff_eq.mpr c14; clear c14
       by_cases c15 : x5_1.length < 8796093022208
       ·rw [if_pos c15] at H
        have LMc15 := A_ c15; clear c15; obtain ⟨y141, hy141⟩ : ∃ y_ : List (S42), y_ = (x5_1 ++ [(⟨wrap64 (((rd_T42 t133 x20_1).f0) * a1), wrap64 ((wrap64 ((wrap64 (((rd_T42 t133 x20_1).f1) * a1)) + a1)) - 1)⟩ : S42)]) := ⟨_, rfl⟩; (replace H : (point_parts.l0 k1 a1 y141 t130 t133 (t133.length : Int) (wrap64 (x20_1 + 1))) = some r := by first | (rw [hy141]; with_reducible exact H) | (have H2_ := (Option.bind_some _ _).symm.trans H; rw [hy141]; with_reducible exact H2_) | (have H2_ := (Option.bind_some _ _).symm.trans H; with_reducible exact H2_) | with_reducible exact H | (rw [hy141]; exact H) | exact H); have Ny141 := A_ hy141; clear hy141; have H' := A_ H; clear H; have p139 : 0 ≤ (x20_1 : Int) := od_; have q139 : x20_1 < (t133.length : Int) := od_; obtain ⟨ad139, e139, hx139_0, hx139_1⟩ := at_T42 (Kd.R_reads' HO_18.out).2.2 x20_1 p139 q139
        cases e139
        replace p139 := eq_true p139; replace q139 := eq_true q139; go_wp2_with (first | ((with_reducible refine gD 8 ?_); refine bxe_ 8 #[.int .i64 0, .int .i64 0] 42 ?_; intro gb140 hg w16 hbox hb; replace HO_5 := A_ (Kd.R_below (Kd.R_elderB (fxR_ HO_5.out) gb140 (Nat.le_of_eq hg.symm)) hb); replace HO_6 := A_ (Kd.R_below (fxR_ HO_6.out) hb); replace HO_18 := A_ (Kd.R_below (Kd.R_elderB (fxR_ HO_18.out) gb140 (Nat.le_of_eq hg.symm)) hb); have BK140 := A_ (hbox); have GW140 := gs_ w hg; have GE140 := gs_ w hg; replace HB := bs_ hb; have NB129_140 := nl_ BK129 hg; have NB140_129 := ng_ BK129 hg; replace BK129 := bb_ BK129 hb; clear hb hbox hg; have hnb17 := NB140_129.out; have hnc17 := NB129_140.out; have Z18 := bz2_ BK140; obtain ⟨Ao19, co19, eo19⟩ := Kd.R_slice HO_6.out; subst eo19) | ((with_reducible refine gate_builtin (b := .append) (xs := #[.tmp 28, .tmp 41]) rfl ?_); at_builtin; refine Kd.R_append k42 (w0 := w) w.heap.size rfl (.tmp 28) (.tmp 41) 34 42 (.agg #[(.int .i64 0), (.int .i64 0)]) 16 rfl Tryd.underlying34 info42 rfl (by decide) (by omega) u5 x5_1 (⟨wrap64 (((rd_T42 t133 x20_1).f0) * a1), wrap64 ((wrap64 ((wrap64 (((rd_T42 t133 x20_1).f1) * a1)) + a1)) - 1)⟩ : S42) [.int .i64 (wrap64 (((rd_T42 t133 x20_1).f0) * a1)), .int .i64 (wrap64 ((wrap64 ((wrap64 (((rd_T42 t133 x20_1).f1) * a1)) + a1)) - 1))] (fun k_ => nv_ k_ (.slice (some ad139) t133.length co10) ∧ k_ ≠ gb140) (fun _ => False) rfl (by first | (go_simp; done) | (go_simp; rfl)) ?aP (fun _ hk => hk.elim) ?aF ?aO ?aB ?aS ?aL ?_; (case aP => exact k42_mkM _ _ _ (⟨wrap64 (((rd_T42 t133 x20_1).f0) * a1), wrap64 ((wrap64 ((wrap64 (((rd_T42 t133 x20_1).f1) * a1)) + a1)) - 1)⟩ : S42)); (case aB => exact hs_); (case aF => exact (fun k_ hk => ⟨Kd.fresh' (Kd.R_lt (fxR_ HO_18.out)) k_ hk, fb_ BK140 k_ hk⟩)); (case aO => exact (fpR_ HO_5.out)); (case aS => exact (below_size hs_)); (case aL => have := LMc15.out; omega); intro v142 w20 ho hb hg hat; rw [← Ny141.out] at ho; replace HO_6 := A_ (Kd.R_over' (by (with_reducible repeat (first | apply Kd.R_alloc | apply Kd.R_drewN | apply Kd.R_drew)); exact (Kd.R_mono (Kd.R_far (p := ⟨gb140, 1, none⟩) (Kd.R_far (p := ⟨gb140, 0, none⟩) (Kd.R_types HO_6.out BK140.out (by decide)) (fun _ hk => hk.2) (.int .i64 ((rd_T42 t133 x20_1).f0))) (fun _ hk => hk.2) (.int .i64 ((rd_T42 t133 x20_1).f1))) (fun _ h_ => h_.1))) (Kd.R_typed (fxR_ HO_5.out)) (by decide) hg); replace HO_18 := A_ (Kd.R_after (ok := (fun k_ => k_ ≠ gb140)) (fpR_ HO_18.out) hg hat); replace BK129 := A_ (blk_grown (g := gb129) (o := .cells (n4_ a0_0 a0_1 a0_2 a0_3) 23 (0, 0)) (pf_ NB129_140 BK129) hg (Kd.R_ne HO_5.out BK129.out (by decide))); replace BK140 := A_ (blk_grown (g := gb140) (o := .cells #[.int .i64 ((rd_T42 t133 x20_1).f0), .int .i64 ((rd_T42 t133 x20_1).f1)] 42 (0, 0)) (pb_ BK140.out) hg (Kd.R_away HO_5.out (fun _ hk => hk.2))); replace HB := A_ (hb); have HO143 := A_ (ho); clear HO_5; clear ho hb hg hat))
        go_roundg k1
        case measure => have := HK1.out; omega
        case rel => exact ⟨(y141), (wrap64 (x20_1 + 1)), rf_, H', ⟨by have := HK1.out; omega⟩, ⟨by (with_reducible repeat (first | apply Kd.R_alloc | apply Kd.R_drewN | apply Kd.R_drew)); exact Kd.R_mono HO143.out (fun _ hk => hk.1)⟩, ⟨fxR_ HO_6.out⟩, ⟨by (with_reducible repeat (first | apply Kd.R_alloc | apply Kd.R_drewN | apply Kd.R_drew)); exact Kd.R_mono HO_18.out (fun _ hk => hk.2)⟩, ⟨bl_ BK129.out⟩, ⟨hs_⟩⟩
       ·rw [if_neg c15] at H
        exact absurd H (by simp)
      ·rw [if_neg c14] at H
       have c14b0 : ((t130.length : Int) == a1) = false := beq_eq_false_iff_ne.mpr c14; have c14b1 : ((t130.length : Int) != a1) = true := bne_iff_ne.mpr c14; have H' := A_ H; clear H; have p139 : 0 ≤ (x20_1 : Int) := od_; have q139 : x20_1 < (t133.length : Int) := od_; obtain ⟨ad139, e139, hx139_0, hx139_1⟩ := at_T42 (Kd.R_reads' HO_18.out).2.2 x20_1 p139 q139
       cases e139
       replace p139 := eq_true p139; replace q139 := eq_true q139; go_wp2_with (first | ((with_reducible refine gD 8 ?_); refine bxe_ 8 #[.int .i64 0, .int .i64 0] 42 ?_; intro gb140 hg w21 hbox hb; replace HO_5 := A_ (Kd.R_below (Kd.R_elderB (fxR_ HO_5.out) gb140 (Nat.le_of_eq hg.symm)) hb); replace HO_6 := A_ (Kd.R_below (fxR_ HO_6.out) hb); replace HO_18 := A_ (Kd.R_below (Kd.R_elderB (fxR_ HO_18.out) gb140 (Nat.le_of_eq hg.symm)) hb); have BK140 := A_ (hbox); have GW140 := gs_ w hg; have GE140 := gs_ w hg; replace HB := bs_ hb; have NB129_140 := nl_ BK129 hg; have NB140_129 := ng_ BK129 hg; replace BK129 := bb_ BK129 hb; clear hb hbox hg; have hnb22 := NB140_129.out; have hnc22 := NB129_140.out; have Z23 := bz2_ BK140; obtain ⟨Ao24, co24, eo24⟩ := Kd.R_slice HO_6.out; subst eo24)); go_loopg [5, 9] k1 (fun kq v5 v9 w' => ∃ (x5_2 : List (S42)) (x9_2 : Int), v9 = .int .i64 x9_2 ∧ Aside0 (point_parts.l1 kq a1 x5_2 t130 x9_2 t133 (t133.length : Int) x20_1 ((rd_T42 t133 x20_1).f0) ((rd_T42 t133 x20_1).f1) = some r) ∧ Aside0 (kq ≤ k1) ∧ Aside0 (Kd.R k42 42 w' w.heap.size (fun k_ => some k_ ≠ ((.slice (some ad139) t133.length co10) : Value).ownBlock ∧ k_ ≠ gb140) v5 x5_2) ∧ Aside0 (Kd.R (Kd.int .i64) 3 w' w.heap.size (fun _ => True) (.slice Ao24 t130.length co24) t130) ∧ Aside0 (Kd.R k42 42 w' w.heap.size (fun k_ => nv_ k_ v5 ∧ k_ ≠ gb140) (.slice (some ad139) t133.length co10) t133) ∧ Aside0 (w'.heap[gb129]? = some (.cells (n4_ a0_0 a0_1 a0_2 a0_3) 23 (0, 0))) ∧ Aside0 (w'.heap[gb140]? = some (.cells #[.int .i64 ((rd_T42 t133 x20_1).f0), .int .i64 ((rd_T42 t133 x20_1).f1)] 42 (0, 0))) ∧ Aside0 (Below w.heap.size w w'))
       case atStart => exact ⟨(x5_1), ((rd_T42 t133 x20_1).f0), rf_, H', ⟨Nat.le_refl _⟩, ⟨fpR_ HO_5.out⟩, ⟨by (with_reducible repeat (first | apply Kd.R_alloc | apply Kd.R_drewN | apply Kd.R_drew)); exact Kd.R_mono (Kd.R_far (p := ⟨gb140, 1, none⟩) (Kd.R_far (p := ⟨gb140, 0, none⟩) (Kd.R_types HO_6.out BK140.out (by decide)) (fun _ hk => hk.2) (.int .i64 ((rd_T42 t133 x20_1).f0))) (fun _ hk => hk.2) (.int .i64 ((rd_T42 t133 x20_1).f1))) (fun _ hk => trivial)⟩, ⟨fpR_ HO_18.out⟩, ⟨pf_ NB129_140 BK129⟩, ⟨pb_ BK140.out⟩, ⟨hs_⟩⟩
       case round =>
        clear H'; (try clear c1); (try clear p1); (try clear q1); (try clear hx1); (try clear c2); (try clear p2); (try clear c5); (try clear p6); (try clear c9); (try clear c11); (try clear c11b0); (try clear c12); (try clear c12b0); (try clear c13); (try clear c13b0); (try clear p13); (try clear q13); (try clear hx13); (try clear c14); (try clear c14b0); (try clear c14b1); (try clear c15); (try clear c17); (try clear c22); (try clear Z18); (try clear Z23); (try clear Z6); (try clear Z8); (try clear hx139_0); (try clear hx139_1); (try clear p139); (try clear p2); (try clear q139); obtain ⟨x5_2, x9_2, rfl, HA, HK2, HO_5, HO_6, HO_18, BK129, BK140, HB⟩ := hrel
        cases gk with
        | zero => exact absurd HA.out (by simp [point_parts.l1])
        | succ k2 =>
         have H := HA.out; clear HA; simp only [point_parts.l1] at H
         by_cases c25 : x9_2 ≤ ((rd_T42 t133 x20_1).f1)
         ·rw [if_pos c25] at H
          have c25b0 := decide_eq_true c25; clear c25; have H' := A_ H; clear H; have hnb26 := NB140_129.out; have hnc26 := NB129_140.out; have Z27 := bz2_ BK140; go_wp2; go_loopg [5, 53] k2 (fun kq v5 v53 w' => ∃ (x5_3 : List (S42)) (x53_3 : Int), v53 = .int .i64 x53_3 ∧ Aside0 (point_parts.l2 kq a1 x5_3 t130 x9_2 t133 (t133.length : Int) x20_1 t130 (t130.length : Int) x53_3 ((rd_T42 t133 x20_1).f0) ((rd_T42 t133 x20_1).f1) = some r) ∧ Aside0 (kq ≤ k2) ∧ Aside0 (Kd.R k42 42 w' w.heap.size (fun k_ => some k_ ≠ ((.slice (some ad139) t133.length co10) : Value).ownBlock ∧ k_ ≠ gb140) v5 x5_3) ∧ Aside0 (Kd.R (Kd.int .i64) 3 w' w.heap.size (fun _ => True) (.slice Ao24 t130.length co24) t130) ∧ Aside0 (Kd.R k42 42 w' w.heap.size (fun k_ => nv_ k_ v5 ∧ k_ ≠ gb140) (.slice (some ad139) t133.length co10) t133) ∧ Aside0 (Kd.R (Kd.int .i64) 3 w' w.heap.size (fun _ => True) (.slice Ao24 t130.length co24) t130) ∧ Aside0 (w'.heap[gb129]? = some (.cells (n4_ a0_0 a0_1 a0_2 a0_3) 23 (0, 0))) ∧ Aside0 (w'.heap[gb140]? = some (.cells #[.int .i64 ((rd_T42 t133 x20_1).f0), .int .i64 ((rd_T42 t133 x20_1).f1)] 42 (0, 0))) ∧ Aside0 (Below w.heap.size w w'))
          case atStart => exact ⟨(x5_2), (0), rf_, H', ⟨Nat.le_refl _⟩, ⟨fxR_ HO_5.out⟩, ⟨fxR_ HO_6.out⟩, ⟨fxR_ HO_18.out⟩, ⟨fxR_ HO_6.out⟩, ⟨bl_ BK129.out⟩, ⟨bl_ BK140.out⟩, ⟨hs_⟩⟩
          case round =>
           clear H'; (try clear c1); (try clear p1); (try clear q1); (try clear hx1); (try clear c2); (try clear p2); (try clear c5); (try clear p6); (try clear c9); (try clear c11); (try clear c11b0); (try clear c12); (try clear c12b0); (try clear c13); (try clear c13b0); (try clear p13); (try clear q13); (try clear hx13); (try clear c14); (try clear c14b0); (try clear c14b1); (try clear c15); (try clear c17); (try clear c22); (try clear c25); (try clear c25b0); (try clear c26); (try clear Z18); (try clear Z23); (try clear Z27); (try clear Z6); (try clear Z8); (try clear hx139_0); (try clear hx139_1); (try clear p1); (try clear p13); (try clear p139); (try clear p2); (try clear p6); (try clear q1); (try clear q13); (try clear q139); obtain ⟨x5_3, x53_3, rfl, HA, HK3, HO_5, HO_6, HO_18, HO_51, BK129, BK140, HB⟩ := hrel
           cases gk with
           | zero => exact absurd HA.out (by simp [point_parts.l2])
           | succ k3 =>
            have H := HA.out; clear HA; simp only [point_parts.l2] at H
            by_cases c28 : x53_3 < (t130.length : Int)
            ·rw [if_pos c28] at H
             have c28b0 := decide_eq_true c28; clear c28
             by_cases c29 : 0 ≤ x53_3
             ·rw [if_pos c29] at H
              have c29b0 := decide_eq_true c29; clear c29
              by_cases c30 : x53_3 < (t130.length : Int)
              ·rw [if_pos c30] at H
               have c30b0 := decide_eq_true c30; clear c30
               by_cases c31 : x5_3.length < 8796093022208
               ·rw [if_pos c31] at H
                have LMc31 := A_ c31; clear c31; obtain ⟨y145, hy145⟩ : ∃ y_ : List (S42), y_ = (x5_3 ++ [(⟨wrap64 ((wrap64 ((wrap64 (x9_2 * a1)) + (rd t130 x53_3))) - 1), wrap64 ((wrap64 ((wrap64 (x9_2 * a1)) + (rd t130 x53_3))) - 1)⟩ : S42)]) := ⟨_, rfl⟩; (replace H : (point_parts.l2 k3 a1 y145 t130 x9_2 t133 (t133.length : Int) x20_1 t130 (t130.length : Int) (wrap64 (x53_3 + 1)) ((rd_T42 t133 x20_1).f0) ((rd_T42 t133 x20_1).f1)) = some r := by first | (rw [hy145]; with_reducible exact H) | (have H2_ := (Option.bind_some _ _).symm.trans H; rw [hy145]; with_reducible exact H2_) | (have H2_ := (Option.bind_some _ _).symm.trans H; with_reducible exact H2_) | with_reducible exact H | (rw [hy145]; exact H) | exact H); have Ny145 := A_ hy145; clear hy145; have H' := A_ H; clear H; have p144 : 0 ≤ (x53_3 : Int) := od_; have q144 : x53_3 < (t130.length : Int) := od_; obtain ⟨ad144, e144, hx144_0⟩ := Kd.at_int (Kd.R_reads' HO_51.out).2.2 x53_3 p144 q144
                cases e144
                replace p144 := eq_true p144; replace q144 := eq_true q144; go_wp2_with (first | ((with_reducible refine gate_builtin (b := .append) (xs := #[.tmp 57, .tmp 71]) rfl ?_); at_builtin; refine Kd.R_append k42 (w0 := w) w.heap.size rfl (.tmp 57) (.tmp 71) 34 42 (.agg #[(.int .i64 0), (.int .i64 0)]) 16 rfl Tryd.underlying34 info42 rfl (by decide) (by omega) u5 x5_3 (⟨wrap64 ((wrap64 ((wrap64 (x9_2 * a1)) + (rd t130 x53_3))) - 1), wrap64 ((wrap64 ((wrap64 (x9_2 * a1)) + (rd t130 x53_3))) - 1)⟩ : S42) [.int .i64 (wrap64 ((wrap64 ((wrap64 (x9_2 * a1)) + (rd t130 x53_3))) - 1)), .int .i64 (wrap64 ((wrap64 ((wrap64 (x9_2 * a1)) + (rd t130 x53_3))) - 1))] (fun k_ => nv_ k_ (.slice (some ad139) t133.length co10) ∧ k_ ≠ gb140) (fun _ => False) rfl rfl ?aP (fun _ hk => hk.elim) ?aF ?aO ?aB ?aS ?aL ?_; (case aP => exact k42_mkM _ _ _ (⟨wrap64 ((wrap64 ((wrap64 (x9_2 * a1)) + (rd t130 x53_3))) - 1), wrap64 ((wrap64 ((wrap64 (x9_2 * a1)) + (rd t130 x53_3))) - 1)⟩ : S42)); (case aB => exact hs_); (case aF => exact (fun k_ hk => ⟨Kd.fresh' (Kd.R_lt (fxR_ HO_18.out)) k_ hk, fb_ BK140 k_ hk⟩)); (case aO => exact (fxR_ HO_5.out)); (case aS => exact (below_size hs_)); (case aL => have := LMc31.out; omega); intro v146 w32 ho hb hg hat; rw [← Ny145.out] at ho; replace HO_6 := A_ (Kd.R_over' (fxR_ HO_6.out) (Kd.R_typed (fxR_ HO_5.out)) (by decide) hg); replace HO_18 := A_ (Kd.R_after (ok := (fun k_ => k_ ≠ gb140)) (fmR_ HO_18.out) hg hat); replace HO_51 := A_ (Kd.R_over' (fxR_ HO_51.out) (Kd.R_typed (fxR_ HO_5.out)) (by decide) hg); replace BK129 := A_ (blk_grown (g := gb129) (o := .cells (n4_ a0_0 a0_1 a0_2 a0_3) 23 (0, 0)) (bl_ BK129.out) hg (Kd.R_ne HO_5.out BK129.out (by decide))); replace BK140 := A_ (blk_grown (g := gb140) (o := .cells #[.int .i64 ((rd_T42 t133 x20_1).f0), .int .i64 ((rd_T42 t133 x20_1).f1)] 42 (0, 0)) (bl_ BK140.out) hg (Kd.R_away HO_5.out (fun _ hk => hk.2))); replace HB := A_ (hb); have HO147 := A_ (ho); clear HO_5; clear ho hb hg hat)); go_roundg k3
                case measure => have := HK1.out; have := HK2.out; have := HK3.out; omega
                case rel => exact ⟨(y145), (wrap64 (x53_3 + 1)), rf_, H', ⟨by have := HK1.out; have := HK2.out; have := HK3.out; omega⟩, ⟨fxR_ HO147.out⟩, ⟨fxR_ HO_6.out⟩, ⟨fmR_ HO_18.out⟩, ⟨fxR_ HO_51.out⟩, ⟨bl_ BK129.out⟩, ⟨bl_ BK140.out⟩, ⟨hs_⟩⟩
               ·rw [if_neg c31] at H
                exact absurd H (by simp)
              ·rw [if_neg c30] at H
               exact absurd H (by simp)
             ·rw [if_neg c29] at H
              exact absurd H (by simp)
            ·rw [if_neg c28] at H
             have c28b0 := decide_eq_false c28; clear c28; have H' := A_ H; clear H; go_wp2; go_roundg k3
             case measure => have := HK1.out; have := HK2.out; have := HK3.out; omega
             case rel => exact ⟨(x5_3), (wrap64 (x9_2 + 1)), rf_, H', ⟨by have := HK1.out; have := HK2.out; have := HK3.out; omega⟩, ⟨fxR_ HO_5.out⟩, ⟨fxR_ HO_6.out⟩, ⟨fxR_ HO_18.out⟩, ⟨bl_ BK129.out⟩, ⟨bl_ BK140.out⟩, ⟨hs_⟩⟩
         ·rw [if_neg c25] at H
          have c25b0 := decide_eq_false c25; clear c25; have H' := A_ H; clear H; have hnb33 := NB140_129.out; have hnc33 := NB129_140.out; have Z34 := bz2_ BK140; go_wp2; go_roundg k2
          case measure => have := HK1.out; have := HK2.out; omega
          case rel => exact ⟨(x5_2), (wrap64 (x20_1 + 1)), rf_, H', ⟨by have := HK1.out; have := HK2.out; omega⟩, ⟨by (with_reducible repeat (first | apply Kd.R_alloc | apply Kd.R_drewN | apply Kd.R_drew)); exact Kd.R_mono HO_5.out (fun _ hk => hk.1)⟩, ⟨fxR_ HO_6.out⟩, ⟨by (with_reducible repeat (first | apply Kd.R_alloc | apply Kd.R_drewN | apply Kd.R_drew)); exact Kd.R_mono HO_18.out (fun _ hk => hk.1)⟩, ⟨bl_ BK129.out⟩, ⟨hs_⟩⟩
     ·rw [if_neg c13] at H
      exact absurd H (by simp)
    ·rw [if_neg c12] at H
     exact absurd H (by simp)
   ·rw [if_neg c11] at H
    have c11b0 := decide_eq_false c11; clear c11; obtain ⟨t136, A35, H⟩ := bi_ H; obtain rfl := Option.some.inj H; obtain ⟨Ao36, co36, eo36⟩ := Kd.R_slice HO_5.out; subst eo36; go_wp2_with (first | ((with_reducible refine gC 46 ?_); refine goesL_ (some 76) rfl rfl Tryd.func46 (by kernel_rfl) rfl #[.slice Ao36 x5_1.length co36] rfl ml_ ?_; (with_reducible refine (runs_Make.calls _ _ x5_1 t136 _ ?side1 ?side2 A35.out).mono ?_); (case side1 => repeat (first | exact (Kd.R_reads' HO_5.out).2.2 | (with_reducible refine Kd.C_alloc ?_ _) | (with_reducible refine Kd.C_drewN ?_ _) | (with_reducible refine Kd.C_drew ?_))); (case side2 => exact (Kd.R_reads' HO_5.out).2.1); rintro e w37 ⟨v137, rfl, ho0, hb⟩; refine ⟨_, rfl, ?_⟩; replace HO_6 := A_ (Kd.R_below (fxR_ HO_6.out) hb); have HO138 := A_ (Kd.R_lower (Kd.R_new' (Kd.R_new' ho0 (Kd.R_lt (fxR_ HO_5.out))) (Kd.R_lt (fxR_ HO_18.out))) (below_size hs_)); replace HO_5 := A_ (Kd.R_elder' (fxR_ HO_5.out) (Kd.R_base ho0) hb); replace HO_18 := A_ (Kd.R_elder' (fxR_ HO_18.out) (Kd.R_base ho0) hb); replace BK129 := bb_ BK129 hb; replace HB := bs_ hb; (try clear hb); (try clear ho0))); go_ret; exact ⟨_, by first | rfl | (simp [errW_none, errW_some] <;> rfl) | (simp [*, errW_none, errW_some] <;> rfl), by (with_reducible repeat (first | apply Kd.R_alloc | apply Kd.R_drewN | apply Kd.R_drew)); exact Kd.R_mono HO138.out (fun _ hk => trivial), hs_⟩
set_option maxHeartbeats 8000000 in
set_option maxRecDepth 100000 in
theorem point_known.calls (k : Nat) (a0 : Int) (P1_ : Nat → Prop) (A1 : Option Addr) (c1 : Nat) (l1 r1 : List (S42)) (r2 : Int) (w : World) (htab : TL w.heap.size w) (hs1 : Kd.V k42 42 w w.heap.size (fun k_ => P1_ k_) (.slice A1 l1.length c1) l1) (h : point_known.f k a0 l1 = some (r1, r2)) :
  Calls Tryd.prog 33 #[.int .i64 a0, .slice A1 l1.length c1] w fun e w' => ∃ v0_ : Value, e = .returned (.tuple #[v0_, .int .i64 r2]) ∧ Kd.V k42 42 w' w.heap.size (fun k_ => (P1_ k_ ∨ w.heap.size ≤ k_)) v0_ r1 ∧ Below w.heap.size w w' := by
 have HTAB := A_ htab; clear htab; have HO1 := A_ (show Kd.V k42 42 w w.heap.size (fun k_ => (P1_ k_ ∨ w.heap.size ≤ k_)) (.slice A1 l1.length c1) l1 from Kd.V_mono hs1 (fun k_ hk => .inl hk)); have HB := A_ (Below.refl w.heap.size w); have H : ((image_Starts.f k a0 l1).bind fun bt148 => (if bt148.2 = true then (some (l1, 0)) else (some (([] : List (S42)), 8)))) = some (r1, r2) := h; clear h; obtain ⟨⟨t148, t149⟩, A3, H⟩ := bi_ H
 by_cases c4 : t149 = true
 ·subst c4
  (have H1 : (some (l1, 0)) = some (r1, r2) := by rw [if_pos rfl] at H; exact H); clear H; have H := H1; clear H1; simp only [Option.some.injEq, Prod.mk.injEq] at H; obtain ⟨rfl, rfl⟩ := H; go_enter Tryd.func33, Tryd.ntmps33; go_wp2_with (first | ((with_reducible refine gC 48 ?_); refine goesL_ (some 11) rfl rfl Tryd.func48 (by kernel_rfl) rfl #[.int .i64 a0, .slice A1 l1.length c1] rfl ml_ ?_; (with_reducible refine (image_Starts.calls k a0 _ _ l1 t148 true _ tl_ ?side1 ?side2 A3.out).mono ?_); (case side1 => repeat (first | exact (Kd.V_reads' HO1.out).2.2 | (with_reducible refine Kd.C_alloc ?_ _) | (with_reducible refine Kd.C_drewN ?_ _) | (with_reducible refine Kd.C_drew ?_))); (case side2 => exact (Kd.V_reads' HO1.out).2.1); rintro e w5 ⟨v150, rfl, ho0, hb⟩; refine ⟨_, rfl, ?_⟩; replace HO1 := A_ (Kd.V_elder' (fxV_ HO1.out) (Kd.R_base ho0) hb); have HO151 := A_ (Kd.R_lower (Kd.R_newM (M := fun k_ => (w.heap.size ≤ k_)) ho0 (below_size hs_) (fun k_ h_ => h_)) (below_size hs_)); replace HB := bs_ hb; (try clear hb); (try clear ho0))); go_ret2; exact ⟨_, by first | rfl | (simp [errW_none, errW_some] <;> rfl) | (simp [*, errW_none, errW_some] <;> rfl), by (with_reducible repeat (first | apply Kd.V_alloc | apply Kd.V_drewN | apply Kd.V_drew)); exact Kd.V_mono HO1.out (fun _ hk => hk.1), hs_⟩
 ·replace c4 := Bool.eq_false_iff.mpr c4
  subst c4; (have H1 : (some (([] : List (S42)), 8)) = some (r1, r2) := by rw [if_neg (show ¬ (false = true) by decide)] at H; exact H); clear H; have H := H1; clear H1; simp only [Option.some.injEq, Prod.mk.injEq] at H; obtain ⟨rfl, rfl⟩ := H; go_enter Tryd.func33, Tryd.ntmps33; go_wp2_with (first | ((with_reducible refine gC 48 ?_); refine goesL_ (some 11) rfl rfl Tryd.func48 (by kernel_rfl) rfl #[.int .i64 a0, .slice A1 l1.length c1] rfl ml_ ?_; (with_reducible refine (image_Starts.calls k a0 _ _ l1 t148 false _ tl_ ?side1 ?side2 A3.out).mono ?_); (case side1 => repeat (first | exact (Kd.V_reads' HO1.out).2.2 | (with_reducible refine Kd.C_alloc ?_ _) | (with_reducible refine Kd.C_drewN ?_ _) | (with_reducible refine Kd.C_drew ?_))); (case side2 => exact (Kd.V_reads' HO1.out).2.1); rintro e w6 ⟨v150, rfl, ho0, hb⟩; refine ⟨_, rfl, ?_⟩; replace HO1 := A_ (Kd.V_elder' (fxV_ HO1.out) (Kd.R_base ho0) hb); have HO151 := A_ (Kd.R_lower (Kd.R_newM (M := fun k_ => (w.heap.size ≤ k_)) ho0 (below_size hs_) (fun k_ h_ => h_)) (below_size hs_)); replace HB := bs_ hb; (try clear hb); (try clear ho0))); go_ret2; exact ⟨_, by first | rfl | (simp [errW_none, errW_some] <;> rfl) | (simp [*, errW_none, errW_some] <;> rfl), Kd.V_nil _ _ _ _ _, hs_⟩
set_option maxHeartbeats 8000000 in
set_option maxRecDepth 100000 in
theorem point_some.calls (k : Nat) (a0 : ByteArray) (a1 a2 : Int) (r : Bool) (w : World) (h : point_some.f k a0 a1 a2 = some r) :
  Calls Tryd.prog 26 #[.string a0, .int .i64 a1, .int .i64 a2] w fun e w' => e = .returned (.bool r) ∧ Below w.heap.size w w' := by
 have HB := A_ (Below.refl w.heap.size w); have H : (if (a0.size : Int) = a1 then ((point_numbers.f k a0 a2).bind fun t142 => (some (decide ((t142.length : Int) > 0)))) else (some false)) = some r := h; clear h
 by_cases c4 : (a0.size : Int) = a1
 ·rw [if_pos c4] at H
  have c4b0 : ((a0.size : Int) == a1) = true := beq_iff_eq.mpr c4; have c4b1 : ((a0.size : Int) != a1) = false := bne_eq_false_iff_eq.mpr c4; clear c4; obtain ⟨t142, A5, H⟩ := bi_ H; obtain rfl := Option.some.inj H; go_enter Tryd.func26, Tryd.ntmps26; go_wp2_with (first | (go_at_call 41; (with_reducible refine (point_numbers.calls k a0 a2 t142 _ A5.out).mono ?_); rintro e w6 ⟨v143, rfl, ho0, hb⟩; have HO144 := A_ (Kd.R_lower ho0 (below_size hs_)); replace HB := bs_ hb; (try clear hb); (try clear ho0); obtain ⟨Ao7, co7, eo7⟩ := Kd.R_slice HO144.out; subst eo7)); go_ret; exact ⟨re_, hs_⟩
 ·rw [if_neg c4] at H
  have c4b0 : ((a0.size : Int) == a1) = false := beq_eq_false_iff_ne.mpr c4; have c4b1 : ((a0.size : Int) != a1) = true := bne_iff_ne.mpr c4; obtain rfl := Option.some.inj H; go_enter Tryd.func26, Tryd.ntmps26; go_wp2; go_ret; exact ⟨re_, hs_⟩
set_option maxHeartbeats 8000000 in
set_option maxRecDepth 100000 in
theorem point_Sane.calls (k : Nat) (a0_0 : Int) (a0_1 a0_2 a0_3 : ByteArray) (r : Bool) (w : World) (h : point_Sane.f k a0_0 a0_1 a0_2 a0_3 = some r) :
  Calls Tryd.prog 10 #[.agg #[.int .i64 a0_0, .string a0_1, .string a0_2, .string a0_3]] w fun e w' => e = .returned (.bool r) ∧ Below w.heap.size w w' := by
 have hu23 := Tryd.underlying23; have HB := A_ (Below.refl w.heap.size w); have H : ((mask_Sane.f a0_1).bind fun t146 => (if t146 = true then (if a0_2.toList = ([] : List UInt8) then (point_Sane.j0 k (a0_3.toList == ([] : List UInt8)) a0_0 a0_1 a0_2 a0_3) else (point_Sane.j0 k false a0_0 a0_1 a0_2 a0_3)) else (some false))) = some r := h; clear h; obtain ⟨t146, A2, H⟩ := bi_ H
 by_cases c3 : t146 = true
 ·subst c3
  replace H := iP_ H; have HC4 := A_ H; clear H; go_enter Tryd.func10, Tryd.ntmps10; go_upto_region 3 with (first | (refine gx_ w 1 (n4_ a0_0 a0_1 a0_2 a0_3) 23 ?_; clear HB; intro gb145 w5 BK145 GE145 HB; have GW145 := GE145; have Z6 := bz4_ BK145) | (refine gC 25 ?_; refine gL 6 Tryd.func25 #[.string a0_1] ?_; (with_reducible refine (mask_Sane.calls a0_1 true _ A2.out).mono ?_); rintro e w7 ⟨rfl, hb⟩; refine ⟨_, rfl, ?_⟩; replace BK145 := bb_ BK145 hb; replace HB := bs_ hb; (try clear hb))); (try simp only [Act.put, List.setIfInBounds_toArray, List.set_cons_zero, List.set_cons_succ]); go_cut [3] (fun v3 wc => ∃ (kq : Nat) (x3_3 : Bool), v3 = .bool x3_3 ∧ Aside0 (point_Sane.j0 kq x3_3 a0_0 a0_1 a0_2 a0_3 = some r) ∧ Aside0 (kq ≤ k) ∧ Aside0 (wc.heap[gb145]? = some (.cells (n4_ a0_0 a0_1 a0_2 a0_3) 23 (0, 0))) ∧ Aside0 (Below w.heap.size w wc))
  case first =>
   have H := HC4.out; clear HC4
   by_cases c8 : a0_2.toList = ([] : List UInt8)
   ·rw [if_pos c8] at H
    have c8b0 : (a0_2.toList == ([] : List UInt8)) = true := beq_iff_eq.mpr c8; have c8b1 : (a0_2.toList != ([] : List UInt8)) = false := bne_eq_false_iff_eq.mpr c8; clear c8; (first | rw [c8b0] | (simp only [i64_w, i32_w]; rw [c8b0]) | skip); have H' := A_ H; clear H; have Z9 := bz4_ BK145; go_wp2; go_meet
    case rel => exact ⟨_, ((a0_3.toList == ([] : List UInt8))), rf_, H', ⟨by first | omega | exact Nat.le_refl _⟩, ⟨bl_ BK145.out⟩, ⟨hs_⟩⟩
   ·rw [if_neg c8] at H
    have c8b0 : (a0_2.toList == ([] : List UInt8)) = false := beq_eq_false_iff_ne.mpr c8; have c8b1 : (a0_2.toList != ([] : List UInt8)) = true := bne_iff_ne.mpr c8; (first | rw [c8b0] | (simp only [i64_w, i32_w]; rw [c8b0]) | skip); have H' := A_ H; clear H; have Z10 := bz4_ BK145; go_wp2; go_meet
    case rel => exact ⟨_, (false), rf_, H', ⟨by first | omega | exact Nat.le_refl _⟩, ⟨bl_ BK145.out⟩, ⟨hs_⟩⟩
  case rest =>
   clear HC4; (try clear c2); (try clear p2); (try clear c3); (try clear c5); (try clear c8); (try clear c8b0); (try clear c8b1); (try clear Z10); (try clear Z6); (try clear Z9); obtain ⟨kq, x3_3, rfl, HA, HJ3, BK145, HB⟩ := hcut
   cases kq with
   | zero => exact absurd HA.out (by simp [point_Sane.j0])
   | succ kj3 =>
    have H := HA.out; clear HA; simp only [point_Sane.j0] at H
    by_cases c11 : a0_0 = 0
    ·rw [if_pos c11] at H
     have c11b0 : (a0_0 == 0) = true := beq_iff_eq.mpr c11; have c11b1 : (a0_0 != 0) = false := bne_eq_false_iff_eq.mpr c11; clear c11
     by_cases c12 : (a0_1.size : Int) = 4
     ·rw [if_pos c12] at H
      have c12b0 : ((a0_1.size : Int) == 4) = true := beq_iff_eq.mpr c12; have c12b1 : ((a0_1.size : Int) != 4) = false := bne_eq_false_iff_eq.mpr c12; clear c12; obtain ⟨t147, A13, H⟩ := bi_ H
      by_cases c14 : t147 = true
      ·subst c14
       replace H := iP_ H; obtain ⟨t148, A15, H⟩ := bi_ H; obtain rfl := Option.some.inj H; have Z16 := bz4_ BK145; go_wp2_with (first | (go_at_call 26; (with_reducible refine (point_some.calls kj3 a0_2 2 12 true _ A13.out).mono ?_); rintro e w17 ⟨rfl, hb⟩; replace BK145 := bb_ BK145 hb; replace HB := bs_ hb; (try clear hb); have Z18 := bz4_ BK145) | (go_at_call 26; (with_reducible refine (point_some.calls kj3 a0_3 2 31 t148 _ A15.out).mono ?_); rintro e w19 ⟨rfl, hb⟩; replace BK145 := bb_ BK145 hb; replace HB := bs_ hb; (try clear hb))); go_ret; exact ⟨re_, hs_⟩
      ·replace c14 := Bool.eq_false_iff.mpr c14
       subst c14; replace H := iN_ H; obtain rfl := Option.some.inj H; have Z20 := bz4_ BK145; go_wp2_with (first | (go_at_call 26; (with_reducible refine (point_some.calls kj3 a0_2 2 12 false _ A13.out).mono ?_); rintro e w21 ⟨rfl, hb⟩; replace BK145 := bb_ BK145 hb; replace HB := bs_ hb; (try clear hb))); go_ret; exact ⟨re_, hs_⟩
     ·rw [if_neg c12] at H
      have c12b0 : ((a0_1.size : Int) == 4) = false := beq_eq_false_iff_ne.mpr c12; have c12b1 : ((a0_1.size : Int) != 4) = true := bne_iff_ne.mpr c12; obtain rfl := Option.some.inj H; have Z22 := bz4_ BK145; go_wp2; go_ret; exact ⟨re_, hs_⟩
    ·rw [if_neg c11] at H
     have c11b0 : (a0_0 == 0) = false := beq_eq_false_iff_ne.mpr c11; have c11b1 : (a0_0 != 0) = true := bne_iff_ne.mpr c11
     by_cases c23 : a0_0 = 1
     ·rw [if_pos c23] at H
      have c23b0 : (a0_0 == 1) = true := beq_iff_eq.mpr c23; have c23b1 : (a0_0 != 1) = false := bne_eq_false_iff_eq.mpr c23; clear c23
      by_cases c24 : (a0_1.size : Int) = 4
      ·rw [if_pos c24] at H
       have c24b0 : ((a0_1.size : Int) == 4) = true := beq_iff_eq.mpr c24; have c24b1 : ((a0_1.size : Int) != 4) = false := bne_eq_false_iff_eq.mpr c24; clear c24; obtain ⟨t149, A25, H⟩ := bi_ H
       by_cases c26 : t149 = true
       ·subst c26
        replace H := iP_ H; obtain rfl := Option.some.inj H; have Z27 := bz4_ BK145; go_wp2_with (first | (go_at_call 26; (with_reducible refine (point_some.calls kj3 a0_2 2 12 true _ A25.out).mono ?_); rintro e w28 ⟨rfl, hb⟩; replace BK145 := bb_ BK145 hb; replace HB := bs_ hb; (try clear hb); have Z29 := bz4_ BK145)); go_ret; exact ⟨re_, hs_⟩
       ·replace c26 := Bool.eq_false_iff.mpr c26
        subst c26; replace H := iN_ H; obtain rfl := Option.some.inj H; have Z30 := bz4_ BK145; go_wp2_with (first | (go_at_call 26; (with_reducible refine (point_some.calls kj3 a0_2 2 12 false _ A25.out).mono ?_); rintro e w31 ⟨rfl, hb⟩; replace BK145 := bb_ BK145 hb; replace HB := bs_ hb; (try clear hb))); go_ret; exact ⟨re_, hs_⟩
      ·rw [if_neg c24] at H
       have c24b0 : ((a0_1.size : Int) == 4) = false := beq_eq_false_iff_ne.mpr c24; have c24b1 : ((a0_1.size : Int) != 4) = true := bne_iff_ne.mpr c24; obtain rfl := Option.some.inj H; have Z32 := bz4_ BK145; go_wp2; go_ret; exact ⟨re_, hs_⟩
     ·rw [if_neg c23] at H
      have c23b0 : (a0_0 == 1) = false := beq_eq_false_iff_ne.mpr c23; have c23b1 : (a0_0 != 1) = true := bne_iff_ne.mpr c23
      by_cases c33 : a0_0 = 2
      ·rw [if_pos c33] at H
       have c33b0 : (a0_0 == 2) = true := beq_iff_eq.mpr c33; have c33b1 : (a0_0 != 2) = false := bne_eq_false_iff_eq.mpr c33; clear c33
       by_cases c34 : (a0_1.size : Int) = 4
       ·rw [if_pos c34] at H
        have c34b0 : ((a0_1.size : Int) == 4) = true := beq_iff_eq.mpr c34; have c34b1 : ((a0_1.size : Int) != 4) = false := bne_eq_false_iff_eq.mpr c34; clear c34; obtain ⟨t150, A35, H⟩ := bi_ H
        by_cases c36 : t150 = true
        ·subst c36
         replace H := iP_ H; obtain rfl := Option.some.inj H; have Z37 := bz4_ BK145; go_wp2_with (first | (go_at_call 26; (with_reducible refine (point_some.calls kj3 a0_2 1 4 true _ A35.out).mono ?_); rintro e w38 ⟨rfl, hb⟩; replace BK145 := bb_ BK145 hb; replace HB := bs_ hb; (try clear hb); have Z39 := bz4_ BK145)); go_ret; exact ⟨re_, hs_⟩
        ·replace c36 := Bool.eq_false_iff.mpr c36
         subst c36; replace H := iN_ H; obtain rfl := Option.some.inj H; have Z40 := bz4_ BK145; go_wp2_with (first | (go_at_call 26; (with_reducible refine (point_some.calls kj3 a0_2 1 4 false _ A35.out).mono ?_); rintro e w41 ⟨rfl, hb⟩; replace BK145 := bb_ BK145 hb; replace HB := bs_ hb; (try clear hb))); go_ret; exact ⟨re_, hs_⟩
       ·rw [if_neg c34] at H
        have c34b0 : ((a0_1.size : Int) == 4) = false := beq_eq_false_iff_ne.mpr c34; have c34b1 : ((a0_1.size : Int) != 4) = true := bne_iff_ne.mpr c34; obtain rfl := Option.some.inj H; have Z42 := bz4_ BK145; go_wp2; go_ret; exact ⟨re_, hs_⟩
      ·rw [if_neg c33] at H
       have c33b0 : (a0_0 == 2) = false := beq_eq_false_iff_ne.mpr c33; have c33b1 : (a0_0 != 2) = true := bne_iff_ne.mpr c33
       by_cases c43 : a0_0 = 3
       ·rw [if_pos c43] at H
        have c43b0 : (a0_0 == 3) = true := beq_iff_eq.mpr c43; have c43b1 : (a0_0 != 3) = false := bne_eq_false_iff_eq.mpr c43; clear c43
        by_cases c44 : (a0_1.size : Int) = 4
        ·rw [if_pos c44] at H
         have c44b0 : ((a0_1.size : Int) == 4) = true := beq_iff_eq.mpr c44; have c44b1 : ((a0_1.size : Int) != 4) = false := bne_eq_false_iff_eq.mpr c44; clear c44; obtain rfl := Option.some.inj H; have Z45 := bz4_ BK145; go_wp2; go_ret; exact ⟨re_, hs_⟩
        ·rw [if_neg c44] at H
         have c44b0 : ((a0_1.size : Int) == 4) = false := beq_eq_false_iff_ne.mpr c44; have c44b1 : ((a0_1.size : Int) != 4) = true := bne_iff_ne.mpr c44; obtain rfl := Option.some.inj H; have Z46 := bz4_ BK145; go_wp2; go_ret; exact ⟨re_, hs_⟩
       ·rw [if_neg c43] at H
        have c43b0 : (a0_0 == 3) = false := beq_eq_false_iff_ne.mpr c43; have c43b1 : (a0_0 != 3) = true := bne_iff_ne.mpr c43
        by_cases c47 : a0_0 = 4
        ·rw [if_pos c47] at H
         have c47b0 : (a0_0 == 4) = true := beq_iff_eq.mpr c47; have c47b1 : (a0_0 != 4) = false := bne_eq_false_iff_eq.mpr c47; clear c47
         by_cases c48 : (a0_1.size : Int) = 3
         ·rw [if_pos c48] at H
          have c48b0 : ((a0_1.size : Int) == 3) = true := beq_iff_eq.mpr c48; have c48b1 : ((a0_1.size : Int) != 3) = false := bne_eq_false_iff_eq.mpr c48; clear c48; obtain rfl := Option.some.inj H; have Z49 := bz4_ BK145; go_wp2; go_ret; exact ⟨re_, hs_⟩
         ·rw [if_neg c48] at H
          have c48b0 : ((a0_1.size : Int) == 3) = false := beq_eq_false_iff_ne.mpr c48; have c48b1 : ((a0_1.size : Int) != 3) = true := bne_iff_ne.mpr c48; obtain rfl := Option.some.inj H; have Z50 := bz4_ BK145; go_wp2; go_ret; exact ⟨re_, hs_⟩
        ·rw [if_neg c47] at H
         have c47b0 : (a0_0 == 4) = false := beq_eq_false_iff_ne.mpr c47; have c47b1 : (a0_0 != 4) = true := bne_iff_ne.mpr c47
         by_cases c51 : a0_0 = 5
         ·rw [if_pos c51] at H
          have c51b0 : (a0_0 == 5) = true := beq_iff_eq.mpr c51; have c51b1 : (a0_0 != 5) = false := bne_eq_false_iff_eq.mpr c51; clear c51
          by_cases c52 : (a0_1.size : Int) = 2
          ·rw [if_pos c52] at H
           have c52b0 : ((a0_1.size : Int) == 2) = true := beq_iff_eq.mpr c52; have c52b1 : ((a0_1.size : Int) != 2) = false := bne_eq_false_iff_eq.mpr c52; clear c52; obtain rfl := Option.some.inj H; have Z53 := bz4_ BK145; go_wp2; go_ret; exact ⟨re_, hs_⟩
          ·rw [if_neg c52] at H
           have c52b0 : ((a0_1.size : Int) == 2) = false := beq_eq_false_iff_ne.mpr c52; have c52b1 : ((a0_1.size : Int) != 2) = true := bne_iff_ne.mpr c52; obtain rfl := Option.some.inj H; have Z54 := bz4_ BK145; go_wp2; go_ret; exact ⟨re_, hs_⟩
         ·rw [if_neg c51] at H
          have c51b0 : (a0_0 == 5) = false := beq_eq_false_iff_ne.mpr c51; have c51b1 : (a0_0 != 5) = true := bne_iff_ne.mpr c51; obtain rfl := Option.some.inj H; have Z55 := bz4_ BK145; go_wp2; go_ret; exact ⟨re_, hs_⟩
 ·replace c3 := Bool.eq_false_iff.mpr c3
  subst c3; replace H := iN_ H; obtain rfl := Option.some.inj H; go_enter Tryd.func10, Tryd.ntmps10; go_wp2_with (first | (refine gx_ w 1 (n4_ a0_0 a0_1 a0_2 a0_3) 23 ?_; clear HB; intro gb145 w56 BK145 GE145 HB; have GW145 := GE145; have Z57 := bz4_ BK145) | (refine gC 25 ?_; refine gL 6 Tryd.func25 #[.string a0_1] ?_; (with_reducible refine (mask_Sane.calls a0_1 false _ A2.out).mono ?_); rintro e w58 ⟨rfl, hb⟩; refine ⟨_, rfl, ?_⟩; replace BK145 := bb_ BK145 hb; replace HB := bs_ hb; (try clear hb))); go_ret; exact ⟨re_, hs_⟩
set_option maxHeartbeats 8000000 in
set_option maxRecDepth 100000 in
theorem point_Set.calls (k : Nat) (a0_0 : Int) (a0_1 a0_2 a0_3 : ByteArray) (r1 : List (S42)) (r2 : Int) (w : World) (htab : TL w.heap.size w) (h : point_Set.f k a0_0 a0_1 a0_2 a0_3 = some (r1, r2)) :
  Calls Tryd.prog 14 #[.agg #[.int .i64 a0_0, .string a0_1, .string a0_2, .string a0_3]] w fun e w' => ∃ v0_ : Value, e = .returned (.tuple #[v0_, .int .i64 r2]) ∧ Kd.V k42 42 w' w.heap.size (fun k_ => (w.heap.size ≤ k_)) v0_ r1 ∧ Below w.heap.size w w' := by
 have HTAB := A_ htab; clear htab; have hu23 := Tryd.underlying23; have HB := A_ (Below.refl w.heap.size w); have H : ((point_Sane.f k a0_0 a0_1 a0_2 a0_3).bind fun t153 => (if t153 = true then ((mask_Set.f a0_1).bind fun t154 => (if a0_0 = 0 then ((point_dated.f k a0_0 a0_1 a0_2 a0_3).bind fun t157 => ((point_known.f k a0_0 t157).bind fun bt160 => (some (bt160.1, bt160.2)))) else (if a0_0 = 1 then ((point_parts.f k a0_0 a0_1 a0_2 a0_3 12).bind fun t164 => ((point_known.f k a0_0 t164).bind fun bt167 => (some (bt167.1, bt167.2)))) else (if a0_0 = 2 then ((point_parts.f k a0_0 a0_1 a0_2 a0_3 4).bind fun t171 => ((point_known.f k a0_0 t171).bind fun bt174 => (some (bt174.1, bt174.2)))) else ((point_known.f k a0_0 t154).bind fun bt178 => (some (bt178.1, bt178.2))))))) else (some (([] : List (S42)), 2)))) = some (r1, r2) := h; clear h; obtain ⟨t153, A2, H⟩ := bi_ H
 by_cases c3 : t153 = true
 ·subst c3
  (have H1 : ((mask_Set.f a0_1).bind fun t154 => (if a0_0 = 0 then ((point_dated.f k a0_0 a0_1 a0_2 a0_3).bind fun t157 => ((point_known.f k a0_0 t157).bind fun bt160 => (some (bt160.1, bt160.2)))) else (if a0_0 = 1 then ((point_parts.f k a0_0 a0_1 a0_2 a0_3 12).bind fun t164 => ((point_known.f k a0_0 t164).bind fun bt167 => (some (bt167.1, bt167.2)))) else (if a0_0 = 2 then ((point_parts.f k a0_0 a0_1 a0_2 a0_3 4).bind fun t171 => ((point_known.f k a0_0 t171).bind fun bt174 => (some (bt174.1, bt174.2)))) else ((point_known.f k a0_0 t154).bind fun bt178 => (some (bt178.1, bt178.2))))))) = some (r1, r2) := by rw [if_pos rfl] at H; exact H); clear H; have H := H1; clear H1; obtain ⟨t154, A4, H⟩ := bi_ H
  by_cases c5 : a0_0 = 0
  ·rw [if_pos c5] at H
   have c5b0 : (a0_0 == 0) = true := beq_iff_eq.mpr c5; have c5b1 : (a0_0 != 0) = false := bne_eq_false_iff_eq.mpr c5; clear c5; obtain ⟨t157, A6, H⟩ := bi_ H; obtain ⟨⟨t160, t163⟩, A7, H⟩ := bi_ H; simp only [Option.some.injEq, Prod.mk.injEq] at H; obtain ⟨rfl, rfl⟩ := H; go_enter Tryd.func14, Tryd.ntmps14; go_wp2_with (first | ((with_reducible refine gD 1 ?_); refine gx_ w 1 (n4_ a0_0 a0_1 a0_2 a0_3) 23 ?_; clear HB; intro gb152 w8 BK152 GE152 HB; have GW152 := GE152; have Z9 := bz4_ BK152) | ((with_reducible refine gC 10 ?_); refine goesL_ (some 6) rfl rfl Tryd.func10 (by kernel_rfl) rfl #[.agg #[.int .i64 a0_0, .string a0_1, .string a0_2, .string a0_3]] rfl ml_ ?_; (with_reducible refine (point_Sane.calls k a0_0 a0_1 a0_2 a0_3 true _ A2.out).mono ?_); rintro e w10 ⟨rfl, hb⟩; refine ⟨_, rfl, ?_⟩; replace BK152 := bb_ BK152 hb; replace HB := bs_ hb; (try clear hb); have Z11 := bz4_ BK152) | ((with_reducible refine gC 30 ?_); refine goesL_ (some 10) rfl rfl Tryd.func30 (by kernel_rfl) rfl #[.string a0_1] rfl ml_ ?_; (with_reducible refine (mask_Set.calls a0_1 t154 _ A4.out).mono ?_); rintro e w12 ⟨v155, rfl, ho0, hb⟩; refine ⟨_, rfl, ?_⟩; have HO156 := A_ (Kd.R_lower (Kd.R_newM (M := fun k_ => (w.heap.size ≤ k_)) ho0 (below_size hs_) (fun k_ h_ => h_)) (below_size hs_)); replace BK152 := bb_ BK152 hb; replace HB := bs_ hb; (try clear hb); (try clear ho0); have Z13 := bz4_ BK152) | ((with_reducible refine gC 31 ?_); refine goesL_ (some 16) rfl rfl Tryd.func31 (by kernel_rfl) rfl #[.agg #[.int .i64 a0_0, .string a0_1, .string a0_2, .string a0_3]] rfl ml_ ?_; (with_reducible refine (point_dated.calls k a0_0 a0_1 a0_2 a0_3 t157 _ tl_ A6.out).mono ?_); rintro e w14 ⟨v158, rfl, ho0, hb⟩; refine ⟨_, rfl, ?_⟩; have HO159 := A_ (Kd.R_lower (Kd.R_new' (Kd.R_newM (M := fun k_ => (w.heap.size ≤ k_)) ho0 (below_size hs_) (fun k_ h_ => h_)) (Kd.R_lt (fxR_ HO156.out))) (below_size hs_)); replace HO156 := A_ (Kd.R_elder' (fxR_ HO156.out) (Kd.R_base ho0) hb); replace BK152 := bb_ BK152 hb; replace HB := bs_ hb; (try clear hb); (try clear ho0); have Z15 := bz4_ BK152; obtain ⟨Ao16, co16, eo16⟩ := Kd.R_slice HO159.out; subst eo16) | ((with_reducible refine gC 33 ?_); refine goesL_ (some 28) rfl rfl Tryd.func33 (by kernel_rfl) rfl #[.int .i64 a0_0, .slice Ao16 t157.length co16] rfl ml_ ?_; (with_reducible refine (point_known.calls k a0_0 (fun k_ => some k_ = (.slice Ao16 t157.length co16 : Value).ownBlock) _ _ t157 t160 t163 _ tl_ ?side1 A7.out).mono ?_); (case side1 => exact Kd.R_V (Kd.R_tight rfl (Kd.R_types (HO159.out) BK152.out (by decide)))); rintro e w17 ⟨v161, rfl, ho0, hb⟩; refine ⟨_, rfl, ?_⟩; have HO162 := A_ (Kd.V_lower (Kd.V_mono (ok' := fun k_ => (w.heap.size ≤ k_) ∧ nv_ k_ v155 ∧ k_ ≠ gb152) ho0 (fun k_ hk_ => ⟨Or.elim hk_ (fun hs_ => ((Kd.R_types (HO159.out) BK152.out (by decide)).1 k_ hs_.symm).1.1.1) (fun hn_ => (Nat.le_trans (below_size hs_) hn_)), Or.elim hk_ (fun hs_ => ((Kd.R_types (HO159.out) BK152.out (by decide)).1 k_ hs_.symm).1.2) (fun hn_ => (Kd.fresh' (Kd.R_lt (fxR_ HO156.out)) k_ hn_)), Or.elim hk_ (fun hs_ => ((Kd.R_types (HO159.out) BK152.out (by decide)).1 k_ hs_.symm).2) (fb_ BK152 k_)⟩)) (below_size hs_)); replace HO156 := A_ (Kd.R_below (fxR_ HO156.out) hb); replace HO159 := A_ (Kd.R_below (fxR_ HO159.out) hb); replace BK152 := bb_ BK152 hb; replace HB := bs_ hb; (try clear hb); (try clear ho0)))
   go_ret2; exact ⟨_, by first | rfl | (simp [errW_none, errW_some] <;> rfl) | (simp [*, errW_none, errW_some] <;> rfl), by (with_reducible repeat (first | apply Kd.V_alloc | apply Kd.V_drewN | apply Kd.V_drew)); exact Kd.V_mono HO162.out (fun _ hk => hk.1), hs_⟩
  ·rw [if_neg c5] at H
   have c5b0 : (a0_0 == 0) = false := beq_eq_false_iff_ne.mpr c5; have c5b1 : (a0_0 != 0) = true := bne_iff_ne.mpr c5
   by_cases c18 : a0_0 = 1
   ·rw [if_pos c18] at H
    have c18b0 : (a0_0 == 1) = true := beq_iff_eq.mpr c18; have c18b1 : (a0_0 != 1) = false := bne_eq_false_iff_eq.mpr c18; clear c18; obtain ⟨t164, A19, H⟩ := bi_ H; obtain ⟨⟨t167, t170⟩, A20, H⟩ := bi_ H; simp only [Option.some.injEq, Prod.mk.injEq] at H; obtain ⟨rfl, rfl⟩ := H; go_enter Tryd.func14, Tryd.ntmps14; go_wp2_with (first | ((with_reducible refine gD 1 ?_); refine gx_ w 1 (n4_ a0_0 a0_1 a0_2 a0_3) 23 ?_; clear HB; intro gb152 w21 BK152 GE152 HB; have GW152 := GE152; have Z22 := bz4_ BK152) | ((with_reducible refine gC 10 ?_); refine goesL_ (some 6) rfl rfl Tryd.func10 (by kernel_rfl) rfl #[.agg #[.int .i64 a0_0, .string a0_1, .string a0_2, .string a0_3]] rfl ml_ ?_; (with_reducible refine (point_Sane.calls k a0_0 a0_1 a0_2 a0_3 true _ A2.out).mono ?_); rintro e w23 ⟨rfl, hb⟩; refine ⟨_, rfl, ?_⟩; replace BK152 := bb_ BK152 hb; replace HB := bs_ hb; (try clear hb); have Z24 := bz4_ BK152) | ((with_reducible refine gC 30 ?_); refine goesL_ (some 10) rfl rfl Tryd.func30 (by kernel_rfl) rfl #[.string a0_1] rfl ml_ ?_; (with_reducible refine (mask_Set.calls a0_1 t154 _ A4.out).mono ?_); rintro e w25 ⟨v155, rfl, ho0, hb⟩; refine ⟨_, rfl, ?_⟩; have HO156 := A_ (Kd.R_lower (Kd.R_newM (M := fun k_ => (w.heap.size ≤ k_)) ho0 (below_size hs_) (fun k_ h_ => h_)) (below_size hs_)); replace BK152 := bb_ BK152 hb; replace HB := bs_ hb; (try clear hb); (try clear ho0); have Z26 := bz4_ BK152) | ((with_reducible refine gC 32 ?_); refine goesL_ (some 20) rfl rfl Tryd.func32 (by kernel_rfl) rfl #[.agg #[.int .i64 a0_0, .string a0_1, .string a0_2, .string a0_3], .int .i64 12] rfl ml_ ?_; (with_reducible refine (point_parts.calls k a0_0 a0_1 a0_2 a0_3 12 t164 _ A19.out).mono ?_); rintro e w27 ⟨v165, rfl, ho0, hb⟩; refine ⟨_, rfl, ?_⟩; have HO166 := A_ (Kd.R_lower (Kd.R_new' (Kd.R_newM (M := fun k_ => (w.heap.size ≤ k_)) ho0 (below_size hs_) (fun k_ h_ => h_)) (Kd.R_lt (fxR_ HO156.out))) (below_size hs_)); replace HO156 := A_ (Kd.R_elder' (fxR_ HO156.out) (Kd.R_base ho0) hb); replace BK152 := bb_ BK152 hb; replace HB := bs_ hb; (try clear hb); (try clear ho0); have Z28 := bz4_ BK152; obtain ⟨Ao29, co29, eo29⟩ := Kd.R_slice HO166.out; subst eo29) | ((with_reducible refine gC 33 ?_); refine goesL_ (some 28) rfl rfl Tryd.func33 (by kernel_rfl) rfl #[.int .i64 a0_0, .slice Ao29 t164.length co29] rfl ml_ ?_; (with_reducible refine (point_known.calls k a0_0 (fun k_ => some k_ = (.slice Ao29 t164.length co29 : Value).ownBlock) _ _ t164 t167 t170 _ tl_ ?side1 A20.out).mono ?_); (case side1 => exact Kd.R_V (Kd.R_tight rfl (Kd.R_types (HO166.out) BK152.out (by decide)))); rintro e w30 ⟨v168, rfl, ho0, hb⟩; refine ⟨_, rfl, ?_⟩; have HO169 := A_ (Kd.V_lower (Kd.V_mono (ok' := fun k_ => (w.heap.size ≤ k_) ∧ nv_ k_ v155 ∧ k_ ≠ gb152) ho0 (fun k_ hk_ => ⟨Or.elim hk_ (fun hs_ => ((Kd.R_types (HO166.out) BK152.out (by decide)).1 k_ hs_.symm).1.1.1) (fun hn_ => (Nat.le_trans (below_size hs_) hn_)), Or.elim hk_ (fun hs_ => ((Kd.R_types (HO166.out) BK152.out (by decide)).1 k_ hs_.symm).1.2) (fun hn_ => (Kd.fresh' (Kd.R_lt (fxR_ HO156.out)) k_ hn_)), Or.elim hk_ (fun hs_ => ((Kd.R_types (HO166.out) BK152.out (by decide)).1 k_ hs_.symm).2) (fb_ BK152 k_)⟩)) (below_size hs_)); replace HO156 := A_ (Kd.R_below (fxR_ HO156.out) hb); replace HO166 := A_ (Kd.R_below (fxR_ HO166.out) hb); replace BK152 := bb_ BK152 hb; replace HB := bs_ hb; (try clear hb); (try clear ho0)))
    go_ret2; exact ⟨_, by first | rfl | (simp [errW_none, errW_some] <;> rfl) | (simp [*, errW_none, errW_some] <;> rfl), by (with_reducible repeat (first | apply Kd.V_alloc | apply Kd.V_drewN | apply Kd.V_drew)); exact Kd.V_mono HO169.out (fun _ hk => hk.1), hs_⟩
   ·rw [if_neg c18] at H
    have c18b0 : (a0_0 == 1) = false := beq_eq_false_iff_ne.mpr c18; have c18b1 : (a0_0 != 1) = true := bne_iff_ne.mpr c18
    by_cases c31 : a0_0 = 2
    ·rw [if_pos c31] at H
     have c31b0 : (a0_0 == 2) = true := beq_iff_eq.mpr c31; have c31b1 : (a0_0 != 2) = false := bne_eq_false_iff_eq.mpr c31; clear c31; obtain ⟨t171, A32, H⟩ := bi_ H; obtain ⟨⟨t174, t177⟩, A33, H⟩ := bi_ H; simp only [Option.some.injEq, Prod.mk.injEq] at H; obtain ⟨rfl, rfl⟩ := H; go_enter Tryd.func14, Tryd.ntmps14; go_wp2_with (first | ((with_reducible refine gD 1 ?_); refine gx_ w 1 (n4_ a0_0 a0_1 a0_2 a0_3) 23 ?_; clear HB; intro gb152 w34 BK152 GE152 HB; have GW152 := GE152; have Z35 := bz4_ BK152) | ((with_reducible refine gC 10 ?_); refine goesL_ (some 6) rfl rfl Tryd.func10 (by kernel_rfl) rfl #[.agg #[.int .i64 a0_0, .string a0_1, .string a0_2, .string a0_3]] rfl ml_ ?_; (with_reducible refine (point_Sane.calls k a0_0 a0_1 a0_2 a0_3 true _ A2.out).mono ?_); rintro e w36 ⟨rfl, hb⟩; refine ⟨_, rfl, ?_⟩; replace BK152 := bb_ BK152 hb; replace HB := bs_ hb; (try clear hb); have Z37 := bz4_ BK152) | ((with_reducible refine gC 30 ?_); refine goesL_ (some 10) rfl rfl Tryd.func30 (by kernel_rfl) rfl #[.string a0_1] rfl ml_ ?_; (with_reducible refine (mask_Set.calls a0_1 t154 _ A4.out).mono ?_); rintro e w38 ⟨v155, rfl, ho0, hb⟩; refine ⟨_, rfl, ?_⟩; have HO156 := A_ (Kd.R_lower (Kd.R_newM (M := fun k_ => (w.heap.size ≤ k_)) ho0 (below_size hs_) (fun k_ h_ => h_)) (below_size hs_)); replace BK152 := bb_ BK152 hb; replace HB := bs_ hb; (try clear hb); (try clear ho0); have Z39 := bz4_ BK152) | ((with_reducible refine gC 32 ?_); refine goesL_ (some 24) rfl rfl Tryd.func32 (by kernel_rfl) rfl #[.agg #[.int .i64 a0_0, .string a0_1, .string a0_2, .string a0_3], .int .i64 4] rfl ml_ ?_; (with_reducible refine (point_parts.calls k a0_0 a0_1 a0_2 a0_3 4 t171 _ A32.out).mono ?_); rintro e w40 ⟨v172, rfl, ho0, hb⟩; refine ⟨_, rfl, ?_⟩; have HO173 := A_ (Kd.R_lower (Kd.R_new' (Kd.R_newM (M := fun k_ => (w.heap.size ≤ k_)) ho0 (below_size hs_) (fun k_ h_ => h_)) (Kd.R_lt (fxR_ HO156.out))) (below_size hs_)); replace HO156 := A_ (Kd.R_elder' (fxR_ HO156.out) (Kd.R_base ho0) hb); replace BK152 := bb_ BK152 hb; replace HB := bs_ hb; (try clear hb); (try clear ho0); have Z41 := bz4_ BK152; obtain ⟨Ao42, co42, eo42⟩ := Kd.R_slice HO173.out; subst eo42) | ((with_reducible refine gC 33 ?_); refine goesL_ (some 28) rfl rfl Tryd.func33 (by kernel_rfl) rfl #[.int .i64 a0_0, .slice Ao42 t171.length co42] rfl ml_ ?_; (with_reducible refine (point_known.calls k a0_0 (fun k_ => some k_ = (.slice Ao42 t171.length co42 : Value).ownBlock) _ _ t171 t174 t177 _ tl_ ?side1 A33.out).mono ?_); (case side1 => exact Kd.R_V (Kd.R_tight rfl (Kd.R_types (HO173.out) BK152.out (by decide)))); rintro e w43 ⟨v175, rfl, ho0, hb⟩; refine ⟨_, rfl, ?_⟩; have HO176 := A_ (Kd.V_lower (Kd.V_mono (ok' := fun k_ => (w.heap.size ≤ k_) ∧ nv_ k_ v155 ∧ k_ ≠ gb152) ho0 (fun k_ hk_ => ⟨Or.elim hk_ (fun hs_ => ((Kd.R_types (HO173.out) BK152.out (by decide)).1 k_ hs_.symm).1.1.1) (fun hn_ => (Nat.le_trans (below_size hs_) hn_)), Or.elim hk_ (fun hs_ => ((Kd.R_types (HO173.out) BK152.out (by decide)).1 k_ hs_.symm).1.2) (fun hn_ => (Kd.fresh' (Kd.R_lt (fxR_ HO156.out)) k_ hn_)), Or.elim hk_ (fun hs_ => ((Kd.R_types (HO173.out) BK152.out (by decide)).1 k_ hs_.symm).2) (fb_ BK152 k_)⟩)) (below_size hs_)); replace HO156 := A_ (Kd.R_below (fxR_ HO156.out) hb); replace HO173 := A_ (Kd.R_below (fxR_ HO173.out) hb); replace BK152 := bb_ BK152 hb; replace HB := bs_ hb; (try clear hb); (try clear ho0)))
     go_ret2; exact ⟨_, by first | rfl | (simp [errW_none, errW_some] <;> rfl) | (simp [*, errW_none, errW_some] <;> rfl), by (with_reducible repeat (first | apply Kd.V_alloc | apply Kd.V_drewN | apply Kd.V_drew)); exact Kd.V_mono HO176.out (fun _ hk => hk.1), hs_⟩
    ·rw [if_neg c31] at H
     have c31b0 : (a0_0 == 2) = false := beq_eq_false_iff_ne.mpr c31; have c31b1 : (a0_0 != 2) = true := bne_iff_ne.mpr c31; obtain ⟨⟨t178, t181⟩, A44, H⟩ := bi_ H; simp only [Option.some.injEq, Prod.mk.injEq] at H; obtain ⟨rfl, rfl⟩ := H; go_enter Tryd.func14, Tryd.ntmps14; go_wp2_with (first | ((with_reducible refine gD 1 ?_); refine gx_ w 1 (n4_ a0_0 a0_1 a0_2 a0_3) 23 ?_; clear HB; intro gb152 w45 BK152 GE152 HB; have GW152 := GE152; have Z46 := bz4_ BK152) | ((with_reducible refine gC 10 ?_); refine goesL_ (some 6) rfl rfl Tryd.func10 (by kernel_rfl) rfl #[.agg #[.int .i64 a0_0, .string a0_1, .string a0_2, .string a0_3]] rfl ml_ ?_; (with_reducible refine (point_Sane.calls k a0_0 a0_1 a0_2 a0_3 true _ A2.out).mono ?_); rintro e w47 ⟨rfl, hb⟩; refine ⟨_, rfl, ?_⟩; replace BK152 := bb_ BK152 hb; replace HB := bs_ hb; (try clear hb); have Z48 := bz4_ BK152) | ((with_reducible refine gC 30 ?_); refine goesL_ (some 10) rfl rfl Tryd.func30 (by kernel_rfl) rfl #[.string a0_1] rfl ml_ ?_; (with_reducible refine (mask_Set.calls a0_1 t154 _ A4.out).mono ?_); rintro e w49 ⟨v155, rfl, ho0, hb⟩; refine ⟨_, rfl, ?_⟩; have HO156 := A_ (Kd.R_lower (Kd.R_newM (M := fun k_ => (w.heap.size ≤ k_)) ho0 (below_size hs_) (fun k_ h_ => h_)) (below_size hs_)); replace BK152 := bb_ BK152 hb; replace HB := bs_ hb; (try clear hb); (try clear ho0); have Z50 := bz4_ BK152; obtain ⟨Ao51, co51, eo51⟩ := Kd.R_slice HO156.out; subst eo51) | ((with_reducible refine gC 33 ?_); refine goesL_ (some 28) rfl rfl Tryd.func33 (by kernel_rfl) rfl #[.int .i64 a0_0, .slice Ao51 t154.length co51] rfl ml_ ?_; (with_reducible refine (point_known.calls k a0_0 (fun k_ => some k_ = (.slice Ao51 t154.length co51 : Value).ownBlock) _ _ t154 t178 t181 _ tl_ ?side1 A44.out).mono ?_); (case side1 => exact Kd.R_V (Kd.R_tight rfl (Kd.R_types (HO156.out) BK152.out (by decide)))); rintro e w52 ⟨v179, rfl, ho0, hb⟩; refine ⟨_, rfl, ?_⟩; have HO180 := A_ (Kd.V_lower (Kd.V_mono (ok' := fun k_ => (w.heap.size ≤ k_) ∧ k_ ≠ gb152) ho0 (fun k_ hk_ => ⟨Or.elim hk_ (fun hs_ => ((Kd.R_types (HO156.out) BK152.out (by decide)).1 k_ hs_.symm).1.1) (fun hn_ => (Nat.le_trans (below_size hs_) hn_)), Or.elim hk_ (fun hs_ => ((Kd.R_types (HO156.out) BK152.out (by decide)).1 k_ hs_.symm).2) (fb_ BK152 k_)⟩)) (below_size hs_)); replace HO156 := A_ (Kd.R_below (fxR_ HO156.out) hb); replace BK152 := bb_ BK152 hb; replace HB := bs_ hb; (try clear hb); (try clear ho0)))
     go_ret2; exact ⟨_, by first | rfl | (simp [errW_none, errW_some] <;> rfl) | (simp [*, errW_none, errW_some] <;> rfl), by (with_reducible repeat (first | apply Kd.V_alloc | apply Kd.V_drewN | apply Kd.V_drew)); exact Kd.V_mono HO180.out (fun _ hk => hk.1), hs_⟩
 ·replace c3 := Bool.eq_false_iff.mpr c3
  subst c3; (have H1 : (some (([] : List (S42)), 2)) = some (r1, r2) := by rw [if_neg (show ¬ (false = true) by decide)] at H; exact H); clear H; have H := H1; clear H1; simp only [Option.some.injEq, Prod.mk.injEq] at H; obtain ⟨rfl, rfl⟩ := H; go_enter Tryd.func14, Tryd.ntmps14; go_wp2_with (first | ((with_reducible refine gD 1 ?_); refine gx_ w 1 (n4_ a0_0 a0_1 a0_2 a0_3) 23 ?_; clear HB; intro gb152 w53 BK152 GE152 HB; have GW152 := GE152; have Z54 := bz4_ BK152) | ((with_reducible refine gC 10 ?_); refine goesL_ (some 6) rfl rfl Tryd.func10 (by kernel_rfl) rfl #[.agg #[.int .i64 a0_0, .string a0_1, .string a0_2, .string a0_3]] rfl ml_ ?_; (with_reducible refine (point_Sane.calls k a0_0 a0_1 a0_2 a0_3 false _ A2.out).mono ?_); rintro e w55 ⟨rfl, hb⟩; refine ⟨_, rfl, ?_⟩; replace BK152 := bb_ BK152 hb; replace HB := bs_ hb; (try clear hb))); go_ret2; exact ⟨_, by first | rfl | (simp [errW_none, errW_some] <;> rfl) | (simp [*, errW_none, errW_some] <;> rfl), Kd.V_nil _ _ _ _ _, hs_⟩
end Go.Proofs.YthppfagfmjchoaaDoor.A
namespace Go.Proofs.YthppfagfmjchoaaDoor.A
open Go.RowKit Go.Proofs.YthppfagfmjchoaaDoorW.PrintWords Go.Proofs.YthppfagfmjchoaaDoorW.PrintLast Go.Proofs.YthppfagfmjchoaaDoorW.PrintMore
attribute [local go_sem] max2_int min2_int max_two min_two max_three min_three max_four min_four
attribute [local go_sem high] eqA42
set_option maxHeartbeats 8000000 in
set_option maxRecDepth 100000 in
theorem lustrumref04_Same.calls (k : Nat) (A0 : Option Addr) (c0 : Nat) (l0 : List (S42)) (A1 : Option Addr) (c1 : Nat) (l1 : List (S42)) (r : Bool) (w : World) (hr0 : Kd.C k42 w A0 l0.length l0) (hc0 : l0.length ≤ c0) (hr1 : Kd.C k42 w A1 l1.length l1) (hc1 : l1.length ≤ c1) (h : lustrumref04_Same.f k l0 l1 = some r) :
  Calls Tryd.prog 16 #[.slice A0 l0.length c0, .slice A1 l1.length c1] w fun e w' => e = .returned (.bool r) ∧ Drawn0 w w' := by
 have hu42 := Tryd.underlying42; have HR0 := A_ hr0; have HC0 := A_ hc0; clear hr0 hc0; have HR1 := A_ hr1; have HC1 := A_ hc1; clear hr1 hc1; have H : (if (l0.length : Int) = (l1.length : Int) then (lustrumref04_Same.l0 k l0 l1 0) else (some false)) = some r := h; clear h
 by_cases c3 : (l0.length : Int) = (l1.length : Int)
 ·rw [if_pos c3] at H
  have c3b0 : ((l0.length : Int) == (l1.length : Int)) = true := beq_iff_eq.mpr c3; have c3b1 : ((l0.length : Int) != (l1.length : Int)) = false := bne_eq_false_iff_eq.mpr c3; (have c3b2 : (l0.length == l1.length) = true := by first | simpa using c3 | (simp at c3 ⊢; omega)); clear c3; have H' := A_ H; clear H; go_enter Tryd.func16, Tryd.ntmps16; go_wp2
  repeat (go_quiet (fail); try go_wp2)
  go_loopg [5] k (fun kq v5 w' => ∃ (x5_1 : Int), v5 = .int .i64 x5_1 ∧ Aside0 (lustrumref04_Same.l0 kq l0 l1 x5_1 = some r) ∧ Aside0 (kq ≤ k) ∧ Drawn0 w w')
  case atStart => exact ⟨(0), rf_, H', ⟨Nat.le_refl _⟩, by repeat (first | exact Drawn0.refl _ | apply Drawn0.step)⟩
  case round =>
   clear H'; (try clear c1); (try clear p2); (try clear c3); (try clear c3b0); (try clear c3b1); (try clear c3b2); obtain ⟨x5_1, rfl, HA, HK1, ⟨m1, rfl⟩⟩ := hrel
   cases gk with
   | zero => exact absurd HA.out (by simp [lustrumref04_Same.l0])
   | succ k1 =>
    have H := HA.out; clear HA; simp only [lustrumref04_Same.l0] at H
    by_cases c4 : x5_1 < (l0.length : Int)
    ·rw [if_pos c4] at H
     have c4b0 := decide_eq_true c4; clear c4
     by_cases c5 : 0 ≤ x5_1
     ·rw [if_pos c5] at H
      have c5b0 := decide_eq_true c5; clear c5
      by_cases c6 : x5_1 < (l1.length : Int)
      ·rw [if_pos c6] at H
       have c6b0 := decide_eq_true c6; clear c6
       by_cases c7 : (!(((rd_T42 l0 x5_1).f0) == ((rd_T42 l1 x5_1).f0)) || (!(((rd_T42 l0 x5_1).f1) == ((rd_T42 l1 x5_1).f1)))) = true
       ·rw [if_pos c7] at H
        have c7b0 : (!(((rd_T42 l0 x5_1).f0) == ((rd_T42 l1 x5_1).f0)) || (!(((rd_T42 l0 x5_1).f1) == ((rd_T42 l1 x5_1).f1)))) = true := c7; clear c7; obtain rfl := Option.some.inj H; have p198 : 0 ≤ (x5_1 : Int) := od_; have q198 : x5_1 < (l0.length : Int) := od_; obtain ⟨ad198, e198, hx198_0, hx198_1⟩ := at_T42 HR0.out x5_1 p198 q198
        cases e198
        replace p198 := eq_true p198; replace q198 := eq_true q198; have p199 : 0 ≤ (x5_1 : Int) := od_; have q199 : x5_1 < (l1.length : Int) := od_; obtain ⟨ad199, e199, hx199_0, hx199_1⟩ := at_T42 HR1.out x5_1 p199 q199
        cases e199
        replace p199 := eq_true p199; replace q199 := eq_true q199; go_wp2
        repeat (go_quiet (fail); try go_wp2)
        go_ret; exact ⟨by first | rfl | (simp; done) | (simp [*]; done), by repeat (first | exact Drawn0.refl _ | apply Drawn0.step)⟩
       ·rw [if_neg c7] at H
        (have c7b0 : (!(((rd_T42 l0 x5_1).f0) == ((rd_T42 l1 x5_1).f0)) || (!(((rd_T42 l0 x5_1).f1) == ((rd_T42 l1 x5_1).f1)))) = false := by simpa using c7); clear c7; have H' := A_ H; clear H; have p198 : 0 ≤ (x5_1 : Int) := od_; have q198 : x5_1 < (l0.length : Int) := od_; obtain ⟨ad198, e198, hx198_0, hx198_1⟩ := at_T42 HR0.out x5_1 p198 q198
        cases e198
        replace p198 := eq_true p198; replace q198 := eq_true q198; have p199 : 0 ≤ (x5_1 : Int) := od_; have q199 : x5_1 < (l1.length : Int) := od_; obtain ⟨ad199, e199, hx199_0, hx199_1⟩ := at_T42 HR1.out x5_1 p199 q199
        cases e199
        replace p199 := eq_true p199; replace q199 := eq_true q199; go_wp2
        repeat (go_quiet (fail); try go_wp2)
        go_roundg k1
        case measure => have := HK1.out; omega
        case rel => exact ⟨(wrap64 (x5_1 + 1)), rf_, H', ⟨by have := HK1.out; omega⟩, by repeat (first | exact Drawn0.refl _ | apply Drawn0.step)⟩
      ·rw [if_neg c6] at H
       exact absurd H (by simp)
     ·rw [if_neg c5] at H
      exact absurd H (by simp)
    ·rw [if_neg c4] at H
     have c4b0 := decide_eq_false c4; clear c4; obtain rfl := Option.some.inj H; go_wp2
     repeat (go_quiet (fail); try go_wp2)
     go_ret; exact ⟨by first | rfl | (simp; done) | (simp [*]; done), by repeat (first | exact Drawn0.refl _ | apply Drawn0.step)⟩
 ·rw [if_neg c3] at H
  have c3b0 : ((l0.length : Int) == (l1.length : Int)) = false := beq_eq_false_iff_ne.mpr c3; have c3b1 : ((l0.length : Int) != (l1.length : Int)) = true := bne_iff_ne.mpr c3; (have c3b2 : (l0.length == l1.length) = false := by first | simpa using c3 | (simp at c3 ⊢; omega)); obtain rfl := Option.some.inj H; go_enter Tryd.func16, Tryd.ntmps16; go_wp2
  repeat (go_quiet (fail); try go_wp2)
  go_ret; exact ⟨by first | rfl | (simp; done) | (simp [*]; done), by repeat (first | exact Drawn0.refl _ | apply Drawn0.step)⟩
end Go.Proofs.YthppfagfmjchoaaDoor.A
namespace Go.Proofs.YthppfagfmjchoaaDoor.A
open Go.RowKit Go.Proofs.YthppfagfmjchoaaDoorW.PrintWords Go.Proofs.YthppfagfmjchoaaDoorW.PrintLast Go.Proofs.YthppfagfmjchoaaDoorW.PrintMore
attribute [local go_sem] max2_int min2_int max_two min_two max_three min_three max_four min_four
attribute [local go_sem] isSome_setCell
set_option maxHeartbeats 8000000 in
set_option maxRecDepth 100000 in
theorem point_Text.calls (k : Nat) (a0_0 : Int) (a0_1 a0_2 a0_3 r : ByteArray) (w : World) (h : point_Text.f k a0_0 a0_1 a0_2 a0_3 = some r) :
  Calls Tryd.prog 9 #[.agg #[.int .i64 a0_0, .string a0_1, .string a0_2, .string a0_3]] w fun e w' => e = .returned (.string r) ∧ Below w.heap.size w w' := by
 have hu23 := Tryd.underlying23; have HB := A_ (Below.refl w.heap.size w); have H : ((point_Sane.f k a0_0 a0_1 a0_2 a0_3).bind fun t188 => (if t188 = true then (if a0_0 = 0 then (if 1 + a0_3.size ≤ 9223372036854775807 then (if 1 + a0_2.size ≤ 9223372036854775807 then (if ((⟨#[45]⟩ : ByteArray) ++ a0_2).size + ((⟨#[45]⟩ : ByteArray) ++ a0_3).size ≤ 9223372036854775807 then (if a0_1.size + (((⟨#[45]⟩ : ByteArray) ++ a0_2) ++ ((⟨#[45]⟩ : ByteArray) ++ a0_3)).size ≤ 9223372036854775807 then (some (a0_1 ++ (((⟨#[45]⟩ : ByteArray) ++ a0_2) ++ ((⟨#[45]⟩ : ByteArray) ++ a0_3)))) else (none)) else (none)) else (none)) else (none)) else (if a0_0 = 1 then (if 1 + a0_2.size ≤ 9223372036854775807 then (if ((⟨#[45]⟩ : ByteArray) ++ a0_2).size + 0 ≤ 9223372036854775807 then (if a0_1.size + (((⟨#[45]⟩ : ByteArray) ++ a0_2) ++ (⟨#[]⟩ : ByteArray)).size ≤ 9223372036854775807 then (some (a0_1 ++ (((⟨#[45]⟩ : ByteArray) ++ a0_2) ++ (⟨#[]⟩ : ByteArray)))) else (none)) else (none)) else (none)) else (if a0_0 = 2 then (if 1 + a0_2.size ≤ 9223372036854775807 then (if a0_1.size + ((⟨#[115]⟩ : ByteArray) ++ a0_2).size ≤ 9223372036854775807 then (some (a0_1 ++ ((⟨#[115]⟩ : ByteArray) ++ a0_2))) else (none)) else (none)) else (if a0_0 = 4 then (if a0_1.size + 1 ≤ 9223372036854775807 then (some (a0_1 ++ (⟨#[100]⟩ : ByteArray))) else (none)) else (if a0_0 = 5 then (if a0_1.size + 1 ≤ 9223372036854775807 then (some (a0_1 ++ (⟨#[99]⟩ : ByteArray))) else (none)) else (if a0_1.size + 0 ≤ 9223372036854775807 then (some (a0_1 ++ (⟨#[]⟩ : ByteArray))) else (none))))))) else (some (⟨#[]⟩ : ByteArray)))) = some r := h; clear h; obtain ⟨t188, A2, H⟩ := bi_ H
 by_cases c3 : t188 = true
 ·subst c3
  replace H := iP_ H
  by_cases c4 : a0_0 = 0
  ·rw [if_pos c4] at H
   have c4b0 : (a0_0 == 0) = true := beq_iff_eq.mpr c4; have c4b1 : (a0_0 != 0) = false := bne_eq_false_iff_eq.mpr c4; clear c4
   by_cases c5 : 1 + a0_3.size ≤ 9223372036854775807
   ·rw [if_pos c5] at H
    have c5b0 := eq_true c5; have c5b1 := decide_eq_true c5; (try have c5b2 : (9223372036854775807 < 1 + a0_3.size) = False := eq_false (Nat.not_lt.2 c5))
    by_cases c6 : 1 + a0_2.size ≤ 9223372036854775807
    ·rw [if_pos c6] at H
     have c6b0 := eq_true c6; have c6b1 := decide_eq_true c6; (try have c6b2 : (9223372036854775807 < 1 + a0_2.size) = False := eq_false (Nat.not_lt.2 c6))
     by_cases c7 : ((⟨#[45]⟩ : ByteArray) ++ a0_2).size + ((⟨#[45]⟩ : ByteArray) ++ a0_3).size ≤ 9223372036854775807
     ·rw [if_pos c7] at H
      have c7b0 := eq_true c7; have c7b1 := decide_eq_true c7; (try have c7b2 : (9223372036854775807 < ((⟨#[45]⟩ : ByteArray) ++ a0_2).size + ((⟨#[45]⟩ : ByteArray) ++ a0_3).size) = False := eq_false (Nat.not_lt.2 c7)); (try have c7b3 : (9223372036854775807 < 1 + a0_2.size + (1 + a0_3.size)) = False := eq_false (Nat.not_lt.2 (by have h_ := c7; simp only [ByteArray.size_append] at h_; exact h_)))
      by_cases c8 : a0_1.size + (((⟨#[45]⟩ : ByteArray) ++ a0_2) ++ ((⟨#[45]⟩ : ByteArray) ++ a0_3)).size ≤ 9223372036854775807
      ·rw [if_pos c8] at H
       have c8b0 := eq_true c8; have c8b1 := decide_eq_true c8; (try have c8b2 : (9223372036854775807 < a0_1.size + (((⟨#[45]⟩ : ByteArray) ++ a0_2) ++ ((⟨#[45]⟩ : ByteArray) ++ a0_3)).size) = False := eq_false (Nat.not_lt.2 c8)); (try have c8b3 : (9223372036854775807 < a0_1.size + (1 + a0_2.size + (1 + a0_3.size))) = False := eq_false (Nat.not_lt.2 (by have h_ := c8; simp only [ByteArray.size_append] at h_; exact h_))); obtain rfl := Option.some.inj H; go_enter Tryd.func9, Tryd.ntmps9; go_wp2_with (first | (refine gx_ w 1 (n4_ a0_0 a0_1 a0_2 a0_3) 23 ?_; clear HB; intro gb187 w9 BK187 GE187 HB; have GW187 := GE187; have Z10 := bz4_ BK187) | (refine gC 10 ?_; refine gL 5 Tryd.func10 #[.agg (n4_ a0_0 a0_1 a0_2 a0_3)] ?_; (with_reducible refine (point_Sane.calls k a0_0 a0_1 a0_2 a0_3 true _ A2.out).mono ?_); rintro e w11 ⟨rfl, hb⟩; refine ⟨_, rfl, ?_⟩; replace BK187 := bb_ BK187 hb; replace HB := bs_ hb; (try clear hb); have Z12 := bz4_ BK187)); go_ret; exact ⟨re_, hs_⟩
      ·rw [if_neg c8] at H
       exact absurd H (by simp)
     ·rw [if_neg c7] at H
      exact absurd H (by simp)
    ·rw [if_neg c6] at H
     exact absurd H (by simp)
   ·rw [if_neg c5] at H
    exact absurd H (by simp)
  ·rw [if_neg c4] at H
   have c4b0 : (a0_0 == 0) = false := beq_eq_false_iff_ne.mpr c4; have c4b1 : (a0_0 != 0) = true := bne_iff_ne.mpr c4
   by_cases c13 : a0_0 = 1
   ·rw [if_pos c13] at H
    have c13b0 : (a0_0 == 1) = true := beq_iff_eq.mpr c13; have c13b1 : (a0_0 != 1) = false := bne_eq_false_iff_eq.mpr c13; clear c13
    by_cases c14 : 1 + a0_2.size ≤ 9223372036854775807
    ·rw [if_pos c14] at H
     have c14b0 := eq_true c14; have c14b1 := decide_eq_true c14; (try have c14b2 : (9223372036854775807 < 1 + a0_2.size) = False := eq_false (Nat.not_lt.2 c14))
     by_cases c15 : ((⟨#[45]⟩ : ByteArray) ++ a0_2).size + 0 ≤ 9223372036854775807
     ·rw [if_pos c15] at H
      have c15b0 := eq_true c15; have c15b1 := decide_eq_true c15; (try have c15b2 : (9223372036854775807 < ((⟨#[45]⟩ : ByteArray) ++ a0_2).size + 0) = False := eq_false (Nat.not_lt.2 c15)); (try have c15b3 : (9223372036854775807 < 1 + a0_2.size + 0) = False := eq_false (Nat.not_lt.2 (by have h_ := c15; simp only [ByteArray.size_append] at h_; exact h_)))
      by_cases c16 : a0_1.size + (((⟨#[45]⟩ : ByteArray) ++ a0_2) ++ (⟨#[]⟩ : ByteArray)).size ≤ 9223372036854775807
      ·rw [if_pos c16] at H
       have c16b0 := eq_true c16; have c16b1 := decide_eq_true c16; (try have c16b2 : (9223372036854775807 < a0_1.size + (((⟨#[45]⟩ : ByteArray) ++ a0_2) ++ (⟨#[]⟩ : ByteArray)).size) = False := eq_false (Nat.not_lt.2 c16)); (try have c16b3 : (9223372036854775807 < a0_1.size + (1 + a0_2.size + 0)) = False := eq_false (Nat.not_lt.2 (by have h_ := c16; simp only [ByteArray.size_append] at h_; exact h_))); obtain rfl := Option.some.inj H; go_enter Tryd.func9, Tryd.ntmps9; go_wp2_with (first | (refine gx_ w 1 (n4_ a0_0 a0_1 a0_2 a0_3) 23 ?_; clear HB; intro gb187 w17 BK187 GE187 HB; have GW187 := GE187; have Z18 := bz4_ BK187) | (refine gC 10 ?_; refine gL 5 Tryd.func10 #[.agg (n4_ a0_0 a0_1 a0_2 a0_3)] ?_; (with_reducible refine (point_Sane.calls k a0_0 a0_1 a0_2 a0_3 true _ A2.out).mono ?_); rintro e w19 ⟨rfl, hb⟩; refine ⟨_, rfl, ?_⟩; replace BK187 := bb_ BK187 hb; replace HB := bs_ hb; (try clear hb); have Z20 := bz4_ BK187)); go_ret; exact ⟨re_, hs_⟩
      ·rw [if_neg c16] at H
       exact absurd H (by simp)
     ·rw [if_neg c15] at H
      exact absurd H (by simp)
    ·rw [if_neg c14] at H
     exact absurd H (by simp)
   ·rw [if_neg c13] at H
    have c13b0 : (a0_0 == 1) = false := beq_eq_false_iff_ne.mpr c13; have c13b1 : (a0_0 != 1) = true := bne_iff_ne.mpr c13
    by_cases c21 : a0_0 = 2
    ·rw [if_pos c21] at H
     have c21b0 : (a0_0 == 2) = true := beq_iff_eq.mpr c21; have c21b1 : (a0_0 != 2) = false := bne_eq_false_iff_eq.mpr c21; clear c21
     by_cases c22 : 1 + a0_2.size ≤ 9223372036854775807
     ·rw [if_pos c22] at H
      have c22b0 := eq_true c22; have c22b1 := decide_eq_true c22; (try have c22b2 : (9223372036854775807 < 1 + a0_2.size) = False := eq_false (Nat.not_lt.2 c22))
      by_cases c23 : a0_1.size + ((⟨#[115]⟩ : ByteArray) ++ a0_2).size ≤ 9223372036854775807
      ·rw [if_pos c23] at H
       have c23b0 := eq_true c23; have c23b1 := decide_eq_true c23; (try have c23b2 : (9223372036854775807 < a0_1.size + ((⟨#[115]⟩ : ByteArray) ++ a0_2).size) = False := eq_false (Nat.not_lt.2 c23)); (try have c23b3 : (9223372036854775807 < a0_1.size + (1 + a0_2.size)) = False := eq_false (Nat.not_lt.2 (by have h_ := c23; simp only [ByteArray.size_append] at h_; exact h_))); obtain rfl := Option.some.inj H; go_enter Tryd.func9, Tryd.ntmps9; go_wp2_with (first | (refine gx_ w 1 (n4_ a0_0 a0_1 a0_2 a0_3) 23 ?_; clear HB; intro gb187 w24 BK187 GE187 HB; have GW187 := GE187; have Z25 := bz4_ BK187) | (refine gC 10 ?_; refine gL 5 Tryd.func10 #[.agg (n4_ a0_0 a0_1 a0_2 a0_3)] ?_; (with_reducible refine (point_Sane.calls k a0_0 a0_1 a0_2 a0_3 true _ A2.out).mono ?_); rintro e w26 ⟨rfl, hb⟩; refine ⟨_, rfl, ?_⟩; replace BK187 := bb_ BK187 hb; replace HB := bs_ hb; (try clear hb); have Z27 := bz4_ BK187)); go_ret; exact ⟨re_, hs_⟩
      ·rw [if_neg c23] at H
       exact absurd H (by simp)
     ·rw [if_neg c22] at H
      exact absurd H (by simp)
    ·rw [if_neg c21] at H
     have c21b0 : (a0_0 == 2) = false := beq_eq_false_iff_ne.mpr c21; have c21b1 : (a0_0 != 2) = true := bne_iff_ne.mpr c21
     by_cases c28 : a0_0 = 4
     ·rw [if_pos c28] at H
      have c28b0 : (a0_0 == 4) = true := beq_iff_eq.mpr c28; have c28b1 : (a0_0 != 4) = false := bne_eq_false_iff_eq.mpr c28; clear c28
      by_cases c29 : a0_1.size + 1 ≤ 9223372036854775807
      ·rw [if_pos c29] at H
       have c29b0 := eq_true c29; have c29b1 := decide_eq_true c29; (try have c29b2 : (9223372036854775807 < a0_1.size + 1) = False := eq_false (Nat.not_lt.2 c29)); obtain rfl := Option.some.inj H; go_enter Tryd.func9, Tryd.ntmps9; go_wp2_with (first | (refine gx_ w 1 (n4_ a0_0 a0_1 a0_2 a0_3) 23 ?_; clear HB; intro gb187 w30 BK187 GE187 HB; have GW187 := GE187; have Z31 := bz4_ BK187) | (refine gC 10 ?_; refine gL 5 Tryd.func10 #[.agg (n4_ a0_0 a0_1 a0_2 a0_3)] ?_; (with_reducible refine (point_Sane.calls k a0_0 a0_1 a0_2 a0_3 true _ A2.out).mono ?_); rintro e w32 ⟨rfl, hb⟩; refine ⟨_, rfl, ?_⟩; replace BK187 := bb_ BK187 hb; replace HB := bs_ hb; (try clear hb); have Z33 := bz4_ BK187)); go_ret; exact ⟨re_, hs_⟩
      ·rw [if_neg c29] at H
       exact absurd H (by simp)
     ·rw [if_neg c28] at H
      have c28b0 : (a0_0 == 4) = false := beq_eq_false_iff_ne.mpr c28; have c28b1 : (a0_0 != 4) = true := bne_iff_ne.mpr c28
      by_cases c34 : a0_0 = 5
      ·rw [if_pos c34] at H
       have c34b0 : (a0_0 == 5) = true := beq_iff_eq.mpr c34; have c34b1 : (a0_0 != 5) = false := bne_eq_false_iff_eq.mpr c34; clear c34
       by_cases c35 : a0_1.size + 1 ≤ 9223372036854775807
       ·rw [if_pos c35] at H
        have c35b0 := eq_true c35; have c35b1 := decide_eq_true c35; (try have c35b2 : (9223372036854775807 < a0_1.size + 1) = False := eq_false (Nat.not_lt.2 c35)); obtain rfl := Option.some.inj H; go_enter Tryd.func9, Tryd.ntmps9; go_wp2_with (first | (refine gx_ w 1 (n4_ a0_0 a0_1 a0_2 a0_3) 23 ?_; clear HB; intro gb187 w36 BK187 GE187 HB; have GW187 := GE187; have Z37 := bz4_ BK187) | (refine gC 10 ?_; refine gL 5 Tryd.func10 #[.agg (n4_ a0_0 a0_1 a0_2 a0_3)] ?_; (with_reducible refine (point_Sane.calls k a0_0 a0_1 a0_2 a0_3 true _ A2.out).mono ?_); rintro e w38 ⟨rfl, hb⟩; refine ⟨_, rfl, ?_⟩; replace BK187 := bb_ BK187 hb; replace HB := bs_ hb; (try clear hb); have Z39 := bz4_ BK187)); go_ret; exact ⟨re_, hs_⟩
       ·rw [if_neg c35] at H
        exact absurd H (by simp)
      ·rw [if_neg c34] at H
       have c34b0 : (a0_0 == 5) = false := beq_eq_false_iff_ne.mpr c34; have c34b1 : (a0_0 != 5) = true := bne_iff_ne.mpr c34
       by_cases c40 : a0_1.size + 0 ≤ 9223372036854775807
       ·rw [if_pos c40] at H
        have c40b0 := eq_true c40; have c40b1 := decide_eq_true c40; (try have c40b2 : (9223372036854775807 < a0_1.size + 0) = False := eq_false (Nat.not_lt.2 c40)); obtain rfl := Option.some.inj H; go_enter Tryd.func9, Tryd.ntmps9; go_wp2_with (first | (refine gx_ w 1 (n4_ a0_0 a0_1 a0_2 a0_3) 23 ?_; clear HB; intro gb187 w41 BK187 GE187 HB; have GW187 := GE187; have Z42 := bz4_ BK187) | (refine gC 10 ?_; refine gL 5 Tryd.func10 #[.agg (n4_ a0_0 a0_1 a0_2 a0_3)] ?_; (with_reducible refine (point_Sane.calls k a0_0 a0_1 a0_2 a0_3 true _ A2.out).mono ?_); rintro e w43 ⟨rfl, hb⟩; refine ⟨_, rfl, ?_⟩; replace BK187 := bb_ BK187 hb; replace HB := bs_ hb; (try clear hb); have Z44 := bz4_ BK187)); go_ret; exact ⟨re_, hs_⟩
       ·rw [if_neg c40] at H
        exact absurd H (by simp)
 ·replace c3 := Bool.eq_false_iff.mpr c3
  subst c3; replace H := iN_ H; obtain rfl := Option.some.inj H; go_enter Tryd.func9, Tryd.ntmps9; go_wp2_with (first | (refine gx_ w 1 (n4_ a0_0 a0_1 a0_2 a0_3) 23 ?_; clear HB; intro gb187 w45 BK187 GE187 HB; have GW187 := GE187; have Z46 := bz4_ BK187) | (refine gC 10 ?_; refine gL 5 Tryd.func10 #[.agg (n4_ a0_0 a0_1 a0_2 a0_3)] ?_; (with_reducible refine (point_Sane.calls k a0_0 a0_1 a0_2 a0_3 false _ A2.out).mono ?_); rintro e w47 ⟨rfl, hb⟩; refine ⟨_, rfl, ?_⟩; replace BK187 := bb_ BK187 hb; replace HB := bs_ hb; (try clear hb))); go_ret; exact ⟨re_, hs_⟩
set_option maxHeartbeats 8000000 in
set_option maxRecDepth 100000 in
theorem point_Radius.calls (a0 r : Int) (w : World) (h : point_Radius.f a0 = some r) :
  Calls Tryd.prog 22 #[.int .i64 a0] w fun e w' => e = .returned (.int .i64 r) ∧ Drawn0 w w' := by
 have H : (if a0 = 0 then (some 3) else (if a0 = 3 then (some 2) else (if a0 < 0 then (some 0) else (if a0 > 5 then (some 0) else (some 1))))) = some r := h; clear h
 by_cases c2 : a0 = 0
 ·rw [if_pos c2] at H
  have c2b0 : (a0 == 0) = true := beq_iff_eq.mpr c2; have c2b1 : (a0 != 0) = false := bne_eq_false_iff_eq.mpr c2; clear c2; obtain rfl := Option.some.inj H; go_enter Tryd.func22, Tryd.ntmps22; go_wp2; go_ret; exact ⟨by first | rfl | (simp; done) | (simp [*]; done), by repeat (first | exact Drawn0.refl _ | apply Drawn0.step)⟩
 ·rw [if_neg c2] at H
  have c2b0 : (a0 == 0) = false := beq_eq_false_iff_ne.mpr c2; have c2b1 : (a0 != 0) = true := bne_iff_ne.mpr c2
  by_cases c3 : a0 = 3
  ·rw [if_pos c3] at H
   have c3b0 : (a0 == 3) = true := beq_iff_eq.mpr c3; have c3b1 : (a0 != 3) = false := bne_eq_false_iff_eq.mpr c3; clear c3; obtain rfl := Option.some.inj H; go_enter Tryd.func22, Tryd.ntmps22; go_wp2; go_ret; exact ⟨by first | rfl | (simp; done) | (simp [*]; done), by repeat (first | exact Drawn0.refl _ | apply Drawn0.step)⟩
  ·rw [if_neg c3] at H
   have c3b0 : (a0 == 3) = false := beq_eq_false_iff_ne.mpr c3; have c3b1 : (a0 != 3) = true := bne_iff_ne.mpr c3
   by_cases c4 : a0 < 0
   ·rw [if_pos c4] at H
    have c4b0 := decide_eq_true c4; clear c4; obtain rfl := Option.some.inj H; go_enter Tryd.func22, Tryd.ntmps22; go_wp2; go_ret; exact ⟨by first | rfl | (simp; done) | (simp [*]; done), by repeat (first | exact Drawn0.refl _ | apply Drawn0.step)⟩
   ·rw [if_neg c4] at H
    have c4b0 := decide_eq_false c4; clear c4
    by_cases c5 : a0 > 5
    ·rw [if_pos c5] at H
     have c5b0 := decide_eq_true c5; clear c5; obtain rfl := Option.some.inj H; go_enter Tryd.func22, Tryd.ntmps22; go_wp2; go_ret; exact ⟨by first | rfl | (simp; done) | (simp [*]; done), by repeat (first | exact Drawn0.refl _ | apply Drawn0.step)⟩
    ·rw [if_neg c5] at H
     have c5b0 := decide_eq_false c5; clear c5; obtain rfl := Option.some.inj H; go_enter Tryd.func22, Tryd.ntmps22; go_wp2; go_ret; exact ⟨by first | rfl | (simp; done) | (simp [*]; done), by repeat (first | exact Drawn0.refl _ | apply Drawn0.step)⟩
set_option maxHeartbeats 8000000 in
set_option maxRecDepth 100000 in
theorem stringslite_HasSuffix.calls (a0 a1 : ByteArray) (r : Bool) (w : World) (h : stringslite_HasSuffix.f a0 a1 = some r) :
  Calls Tryd.prog 73 #[.string a0, .string a1] w fun e w' => e = .returned (.bool r) ∧ Drawn0 w w' := by
 have H : (if (a0.size : Int) ≥ (a1.size : Int) then (if 0 ≤ (wrap64 ((a0.size : Int) - (a1.size : Int))) then (if (wrap64 ((a0.size : Int) - (a1.size : Int))) ≤ (a0.size : Int) then (some ((a0.extract ((wrap64 ((a0.size : Int) - (a1.size : Int))) : Int).toNat a0.size).toList == a1.toList)) else (none)) else (none)) else (some false)) = some r := h; clear h
 by_cases c3 : (a0.size : Int) ≥ (a1.size : Int)
 ·rw [if_pos c3] at H
  have c3b0 := decide_eq_true c3; have c3b1 : decide (a1.size ≤ a0.size) = true := decide_eq_true (Int.ofNat_le.mp c3); clear c3; obtain ⟨ji4, hji4⟩ : ∃ j_ : Int, (wrap64 ((a0.size : Int) - (a1.size : Int))) = j_ := ⟨_, rfl⟩; (replace H : (if 0 ≤ (ji4) then (if (ji4) ≤ (a0.size : Int) then (some ((a0.extract ((ji4) : Int).toNat a0.size).toList == a1.toList)) else (none)) else (none)) = some r := by first | (rw [hji4] at H; exact H) | (simp only [hji4] at H ⊢; exact H)); have hji4w : (IntKind.i64.wrap ((a0.size : Int) - (a1.size : Int))) = ji4 := (i64_w _).trans hji4
  by_cases c5 : 0 ≤ (ji4)
  ·rw [if_pos c5] at H
   have c5b0 := eq_true c5; have c5b1 := decide_eq_true c5; clear c5
   by_cases c6 : (ji4) ≤ (a0.size : Int)
   ·rw [if_pos c6] at H
    have c6b0 := eq_true c6; have c6b1 := decide_eq_true c6; clear c6; obtain rfl := Option.some.inj H; go_enter Tryd.func73, Tryd.ntmps73; go_wp2; go_ret; exact ⟨by first | rfl | (simp; done) | (simp only [← hji4] <;> (first | rfl | simp)) | (simp [*]; done), by repeat (first | exact Drawn0.refl _ | apply Drawn0.step)⟩
   ·rw [if_neg c6] at H
    exact absurd H (by simp)
  ·rw [if_neg c5] at H
   exact absurd H (by simp)
 ·rw [if_neg c3] at H
  have c3b0 := decide_eq_false c3; have c3b1 : decide (a1.size ≤ a0.size) = false := decide_eq_false (fun h => c3 (Int.ofNat_le.mpr h)); clear c3; obtain rfl := Option.some.inj H; go_enter Tryd.func73, Tryd.ntmps73; go_wp2; go_ret; exact ⟨by first | rfl | (simp; done) | (simp [*]; done), by repeat (first | exact Drawn0.refl _ | apply Drawn0.step)⟩
set_option maxHeartbeats 8000000 in
set_option maxRecDepth 100000 in
theorem stringslite_CutSuffix.calls (a0 a1 r1 : ByteArray) (r2 : Bool) (w : World) (h : stringslite_CutSuffix.f a0 a1 = some (r1, r2)) :
  Calls Tryd.prog 58 #[.string a0, .string a1] w fun e w' => e = .returned (.tuple #[.string r1, .bool r2]) ∧ Drawn0 w w' := by
 have H : ((stringslite_HasSuffix.f a0 a1).bind fun t101 => (if t101 = true then (if 0 ≤ (wrap64 ((a0.size : Int) - (a1.size : Int))) then (if (wrap64 ((a0.size : Int) - (a1.size : Int))) ≤ (a0.size : Int) then (some (a0.extract 0 ((wrap64 ((a0.size : Int) - (a1.size : Int))) : Int).toNat, true)) else (none)) else (none)) else (some (a0, false)))) = some (r1, r2) := h; clear h; obtain ⟨t101, A3, H⟩ := bi_ H
 by_cases c4 : t101 = true
 ·subst c4
  (have H1 : (if 0 ≤ (wrap64 ((a0.size : Int) - (a1.size : Int))) then (if (wrap64 ((a0.size : Int) - (a1.size : Int))) ≤ (a0.size : Int) then (some (a0.extract 0 ((wrap64 ((a0.size : Int) - (a1.size : Int))) : Int).toNat, true)) else (none)) else (none)) = some (r1, r2) := by rw [if_pos rfl] at H; exact H); clear H; have H := H1; clear H1; obtain ⟨ji5, hji5⟩ : ∃ j_ : Int, (wrap64 ((a0.size : Int) - (a1.size : Int))) = j_ := ⟨_, rfl⟩; (replace H : (if 0 ≤ (ji5) then (if (ji5) ≤ (a0.size : Int) then (some (a0.extract 0 ((ji5) : Int).toNat, true)) else (none)) else (none)) = some (r1, r2) := by first | (rw [hji5] at H; exact H) | (simp only [hji5] at H ⊢; exact H)); (try rw [hji5] at A3); have hji5w : (IntKind.i64.wrap ((a0.size : Int) - (a1.size : Int))) = ji5 := (i64_w _).trans hji5
  by_cases c6 : 0 ≤ (ji5)
  ·rw [if_pos c6] at H
   have c6b0 := eq_true c6; have c6b1 := decide_eq_true c6; clear c6
   by_cases c7 : (ji5) ≤ (a0.size : Int)
   ·rw [if_pos c7] at H
    have c7b0 := eq_true c7; have c7b1 := decide_eq_true c7; clear c7; simp only [Option.some.injEq, Prod.mk.injEq] at H; obtain ⟨rfl, rfl⟩ := H; go_enter Tryd.func58, Tryd.ntmps58; go_wp2_with (first | ((with_reducible refine gC 73 ?_); refine goesL_ (some 8) rfl rfl Tryd.func73 (by kernel_rfl) rfl #[.string a0, .string a1] rfl ml_ ?_; (with_reducible refine (stringslite_HasSuffix.calls a0 a1 true _ A3.out).mono ?_); rintro e w' ⟨rfl, ⟨nd, rfl⟩⟩; refine ⟨_, rfl, ?_⟩)); go_ret2; exact ⟨by first | rfl | (simp; done) | (simp only [← hji5] <;> (first | rfl | simp)) | (simp [*]; done), by repeat (first | exact Drawn0.refl _ | apply Drawn0.step)⟩
   ·rw [if_neg c7] at H
    exact absurd H (by simp)
  ·rw [if_neg c6] at H
   exact absurd H (by simp)
 ·replace c4 := Bool.eq_false_iff.mpr c4
  subst c4; (have H1 : (some (a0, false)) = some (r1, r2) := by rw [if_neg (show ¬ (false = true) by decide)] at H; exact H); clear H; have H := H1; clear H1; simp only [Option.some.injEq, Prod.mk.injEq] at H; obtain ⟨rfl, rfl⟩ := H; go_enter Tryd.func58, Tryd.ntmps58; go_wp2_with (first | ((with_reducible refine gC 73 ?_); refine goesL_ (some 8) rfl rfl Tryd.func73 (by kernel_rfl) rfl #[.string a0, .string a1] rfl ml_ ?_; (with_reducible refine (stringslite_HasSuffix.calls a0 a1 false _ A3.out).mono ?_); rintro e w' ⟨rfl, ⟨nd, rfl⟩⟩; refine ⟨_, rfl, ?_⟩)); go_ret2; exact ⟨by first | rfl | (simp; done) | (simp [*]; done), by repeat (first | exact Drawn0.refl _ | apply Drawn0.step)⟩
set_option maxHeartbeats 8000000 in
set_option maxRecDepth 100000 in
theorem strings_CutSuffix.calls (a0 a1 r1 : ByteArray) (r2 : Bool) (w : World) (h : strings_CutSuffix.f a0 a1 = some (r1, r2)) :
  Calls Tryd.prog 42 #[.string a0, .string a1] w fun e w' => e = .returned (.tuple #[.string r1, .bool r2]) ∧ Drawn0 w w' := by
 have H : ((stringslite_CutSuffix.f a0 a1).bind fun bt102 => (some (bt102.1, bt102.2))) = some (r1, r2) := h; clear h; obtain ⟨⟨t102, t103⟩, A3, H⟩ := bi_ H; simp only [Option.some.injEq, Prod.mk.injEq] at H; obtain ⟨rfl, rfl⟩ := H; go_enter Tryd.func42, Tryd.ntmps42; go_wp2_with (first | ((with_reducible refine gC 58 ?_); refine goesL_ (some 8) rfl rfl Tryd.func58 (by kernel_rfl) rfl #[.string a0, .string a1] rfl ml_ ?_; (with_reducible refine (stringslite_CutSuffix.calls a0 a1 t102 t103 _ A3.out).mono ?_); rintro e w' ⟨rfl, ⟨nd, rfl⟩⟩; refine ⟨_, rfl, ?_⟩)); go_ret2; exact ⟨by first | rfl | (simp; done) | (simp [*]; done), by repeat (first | exact Drawn0.refl _ | apply Drawn0.step)⟩
set_option maxHeartbeats 8000000 in
set_option maxRecDepth 100000 in
theorem stringslite_Cut.calls (a0 a1 r1 r2 : ByteArray) (r3 : Bool) (w : World) (h : stringslite_Cut.f a0 a1 = some (r1, r2, r3)) :
  Calls Tryd.prog 59 #[.string a0, .string a1] w fun e w' => e = .returned (.tuple #[.string r1, .string r2, .bool r3]) ∧ Drawn0 w w' := by
 have H : ((stringslite_Index.f a0 a1).bind fun t104 => (if t104 ≥ 0 then (if 0 ≤ t104 then (if t104 ≤ (a0.size : Int) then (if 0 ≤ (wrap64 (t104 + (a1.size : Int))) then (if (wrap64 (t104 + (a1.size : Int))) ≤ (a0.size : Int) then (some (a0.extract 0 (t104 : Int).toNat, a0.extract ((wrap64 (t104 + (a1.size : Int))) : Int).toNat a0.size, true)) else (none)) else (none)) else (none)) else (none)) else (some (a0, (⟨#[]⟩ : ByteArray), false)))) = some (r1, r2, r3) := h; clear h; obtain ⟨t104, A3, H⟩ := bi_ H
 by_cases c4 : t104 ≥ 0
 ·rw [if_pos c4] at H
  have c4b0 := decide_eq_true c4; clear c4
  by_cases c5 : 0 ≤ t104
  ·rw [if_pos c5] at H
   have c5b0 := eq_true c5; have c5b1 := decide_eq_true c5; clear c5
   by_cases c6 : t104 ≤ (a0.size : Int)
   ·rw [if_pos c6] at H
    have c6b0 := eq_true c6; have c6b1 := decide_eq_true c6; clear c6; obtain ⟨ji7, hji7⟩ : ∃ j_ : Int, (wrap64 (t104 + (a1.size : Int))) = j_ := ⟨_, rfl⟩; (replace H : (if 0 ≤ (ji7) then (if (ji7) ≤ (a0.size : Int) then (some (a0.extract 0 (t104 : Int).toNat, a0.extract ((ji7) : Int).toNat a0.size, true)) else (none)) else (none)) = some (r1, r2, r3) := by first | (rw [hji7] at H; exact H) | (simp only [hji7] at H ⊢; exact H)); (try rw [hji7] at A3); have hji7w : (IntKind.i64.wrap (t104 + (a1.size : Int))) = ji7 := (i64_w _).trans hji7
    by_cases c8 : 0 ≤ (ji7)
    ·rw [if_pos c8] at H
     have c8b0 := eq_true c8; have c8b1 := decide_eq_true c8; clear c8
     by_cases c9 : (ji7) ≤ (a0.size : Int)
     ·rw [if_pos c9] at H
      have c9b0 := eq_true c9; have c9b1 := decide_eq_true c9; clear c9; simp only [Option.some.injEq, Prod.mk.injEq] at H; obtain ⟨rfl, rfl, rfl⟩ := H; go_enter Tryd.func59, Tryd.ntmps59; go_wp2_with (first | (go_at_call 74; (with_reducible refine (stringslite_Index.calls a0 a1 t104 _ A3.out).mono ?_); rintro e w' ⟨rfl, ⟨nd, rfl⟩⟩; (try first | exact ⟨rfl, _, World.drewN_drewN _ _ _⟩ | exact ⟨rfl, _, Eq.trans (World.drewN_drewN _ _ _) (congrArg (World.drewN _) (Nat.add_assoc _ _ _))⟩)))
      repeat (go_quiet (first | (go_at_call 74; (with_reducible refine (stringslite_Index.calls a0 a1 t104 _ A3.out).mono ?_); rintro e w' ⟨rfl, ⟨nd, rfl⟩⟩; (try first | exact ⟨rfl, _, World.drewN_drewN _ _ _⟩ | exact ⟨rfl, _, Eq.trans (World.drewN_drewN _ _ _) (congrArg (World.drewN _) (Nat.add_assoc _ _ _))⟩))); try go_wp2_with (first | (go_at_call 74; (with_reducible refine (stringslite_Index.calls a0 a1 t104 _ A3.out).mono ?_); rintro e w' ⟨rfl, ⟨nd, rfl⟩⟩; (try first | exact ⟨rfl, _, World.drewN_drewN _ _ _⟩ | exact ⟨rfl, _, Eq.trans (World.drewN_drewN _ _ _) (congrArg (World.drewN _) (Nat.add_assoc _ _ _))⟩))))
      go_ret3; exact ⟨by first | rfl | (simp; done) | (simp only [← hji7] <;> (first | rfl | simp)) | (simp [*]; done), by repeat (first | exact Drawn0.refl _ | apply Drawn0.step)⟩
     ·rw [if_neg c9] at H
      exact absurd H (by simp)
    ·rw [if_neg c8] at H
     exact absurd H (by simp)
   ·rw [if_neg c6] at H
    exact absurd H (by simp)
  ·rw [if_neg c5] at H
   exact absurd H (by simp)
 ·rw [if_neg c4] at H
  have c4b0 := decide_eq_false c4; clear c4; simp only [Option.some.injEq, Prod.mk.injEq] at H; obtain ⟨rfl, rfl, rfl⟩ := H; go_enter Tryd.func59, Tryd.ntmps59; go_wp2_with (first | (go_at_call 74; (with_reducible refine (stringslite_Index.calls a0 a1 t104 _ A3.out).mono ?_); rintro e w' ⟨rfl, ⟨nd, rfl⟩⟩; (try first | exact ⟨rfl, _, World.drewN_drewN _ _ _⟩ | exact ⟨rfl, _, Eq.trans (World.drewN_drewN _ _ _) (congrArg (World.drewN _) (Nat.add_assoc _ _ _))⟩)))
  repeat (go_quiet (first | (go_at_call 74; (with_reducible refine (stringslite_Index.calls a0 a1 t104 _ A3.out).mono ?_); rintro e w' ⟨rfl, ⟨nd, rfl⟩⟩; (try first | exact ⟨rfl, _, World.drewN_drewN _ _ _⟩ | exact ⟨rfl, _, Eq.trans (World.drewN_drewN _ _ _) (congrArg (World.drewN _) (Nat.add_assoc _ _ _))⟩))); try go_wp2_with (first | (go_at_call 74; (with_reducible refine (stringslite_Index.calls a0 a1 t104 _ A3.out).mono ?_); rintro e w' ⟨rfl, ⟨nd, rfl⟩⟩; (try first | exact ⟨rfl, _, World.drewN_drewN _ _ _⟩ | exact ⟨rfl, _, Eq.trans (World.drewN_drewN _ _ _) (congrArg (World.drewN _) (Nat.add_assoc _ _ _))⟩))))
  go_ret3; exact ⟨by first | rfl | (simp; done) | (simp [*]; done), by repeat (first | exact Drawn0.refl _ | apply Drawn0.step)⟩
set_option maxHeartbeats 8000000 in
set_option maxRecDepth 100000 in
theorem strings_Cut.calls (a0 a1 r1 r2 : ByteArray) (r3 : Bool) (w : World) (h : strings_Cut.f a0 a1 = some (r1, r2, r3)) :
  Calls Tryd.prog 43 #[.string a0, .string a1] w fun e w' => e = .returned (.tuple #[.string r1, .string r2, .bool r3]) ∧ Drawn0 w w' := by
 have H : ((stringslite_Cut.f a0 a1).bind fun bt105 => (some (bt105.1, bt105.2.1, bt105.2.2))) = some (r1, r2, r3) := h; clear h; obtain ⟨⟨t105, t106, t107⟩, A3, H⟩ := bi_ H; simp only [Option.some.injEq, Prod.mk.injEq] at H; obtain ⟨rfl, rfl, rfl⟩ := H; go_enter Tryd.func43, Tryd.ntmps43; go_wp2_with (first | ((with_reducible refine gC 59 ?_); refine goesL_ (some 9) rfl rfl Tryd.func59 (by kernel_rfl) rfl #[.string a0, .string a1] rfl ml_ ?_; (with_reducible refine (stringslite_Cut.calls a0 a1 t105 t106 t107 _ A3.out).mono ?_); rintro e w' ⟨rfl, ⟨nd, rfl⟩⟩; refine ⟨_, rfl, ?_⟩)); go_ret3; exact ⟨by first | rfl | (simp; done) | (simp [*]; done), by repeat (first | exact Drawn0.refl _ | apply Drawn0.step)⟩
set_option maxHeartbeats 8000000 in
set_option maxRecDepth 100000 in
theorem point_guess.calls (a0 : ByteArray) (r1 : Int) (r2 r3 r4 : ByteArray) (w : World) (h : point_guess.f a0 = some (r1, r2, r3, r4)) :
  Calls Tryd.prog 27 #[.string a0] w fun e w' => e = .returned (.agg #[.int .i64 r1, .string r2, .string r3, .string r4]) ∧ Below w.heap.size w w' := by
 have hu23 := Tryd.underlying23; have HB := A_ (Below.refl w.heap.size w); have H : ((strings_CutSuffix.f a0 (⟨#[100]⟩ : ByteArray)).bind fun bt109 => (if bt109.2 = true then (some (4, bt109.1, (⟨#[]⟩ : ByteArray), (⟨#[]⟩ : ByteArray))) else ((strings_CutSuffix.f a0 (⟨#[99]⟩ : ByteArray)).bind fun bt111 => (if bt111.2 = true then (some (5, bt111.1, (⟨#[]⟩ : ByteArray), (⟨#[]⟩ : ByteArray))) else ((strings_Cut.f a0 (⟨#[115]⟩ : ByteArray)).bind fun bt113 => (if bt113.2.2 = true then (some (2, bt113.1, bt113.2.1, (⟨#[]⟩ : ByteArray))) else ((strings_Cut.f a0 (⟨#[45]⟩ : ByteArray)).bind fun bt116 => (if bt116.2.2 = true then ((strings_Cut.f bt116.2.1 (⟨#[45]⟩ : ByteArray)).bind fun bt119 => (if bt119.2.2 = true then (some (0, bt116.1, bt119.1, bt119.2.1)) else (some (1, bt116.1, bt116.2.1, (⟨#[]⟩ : ByteArray))))) else (some (3, a0, (⟨#[]⟩ : ByteArray), (⟨#[]⟩ : ByteArray))))))))))) = some (r1, r2, r3, r4) := h; clear h; obtain ⟨⟨t109, t110⟩, A2, H⟩ := bi_ H
 by_cases c3 : t110 = true
 ·subst c3
  (have H1 : (some (4, t109, (⟨#[]⟩ : ByteArray), (⟨#[]⟩ : ByteArray))) = some (r1, r2, r3, r4) := by rw [if_pos rfl] at H; exact H); clear H; have H := H1; clear H1; simp only [Option.some.injEq, Prod.mk.injEq] at H; obtain ⟨rfl, rfl, rfl, rfl⟩ := H; go_enter Tryd.func27, Tryd.ntmps27; go_wp2_with (first | ((with_reducible refine gD 2 ?_); refine gx_ w 2 z4_ 23 ?_; clear HB; intro gb108 w4 BK108 GE108 HB; have GW108 := GE108) | ((with_reducible refine gC 42 ?_); refine goesL_ (some 17) rfl rfl Tryd.func42 (by kernel_rfl) rfl #[.string a0, .string ⟨#[100]⟩] rfl ml_ ?_; (with_reducible refine (strings_CutSuffix.calls a0 (⟨#[100]⟩ : ByteArray) t109 true _ A2.out).mono ?_); rintro e w' ⟨rfl, ⟨nd, rfl⟩⟩; refine ⟨_, rfl, ?_⟩; (try (rw [drewN_self w4]; generalize hq_ : World.drewN w4 _ = w4; have m0_ : Aside0 (w4.heap[gb108]? = some (.cells z4_ 23 (0, 0))) := ⟨by rw [← hq_]; exact (bl_ BK108.out)⟩; have m1_ : Aside0 (Below w.heap.size w w4) := ⟨by rw [← hq_]; exact hs_⟩; clear BK108 HB hq_; have BK108 := m0_; have HB := m1_; clear m0_ m1_)); have Z5 := bz4_ BK108)); refine bodyPost_ret (results_cell_row rfl _ _ gb108 23 #[.int .i64 4, .string t109, .string ⟨#[]⟩, .string ⟨#[]⟩] (0, 0) _ rfl (pb_ BK108.out) Tryd.underlying23 rfl (by kernel_rfl)) rfl ?_; exact ⟨re_, hs_⟩
 ·replace c3 := Bool.eq_false_iff.mpr c3
  subst c3; (have H1 : ((strings_CutSuffix.f a0 (⟨#[99]⟩ : ByteArray)).bind fun bt111 => (if bt111.2 = true then (some (5, bt111.1, (⟨#[]⟩ : ByteArray), (⟨#[]⟩ : ByteArray))) else ((strings_Cut.f a0 (⟨#[115]⟩ : ByteArray)).bind fun bt113 => (if bt113.2.2 = true then (some (2, bt113.1, bt113.2.1, (⟨#[]⟩ : ByteArray))) else ((strings_Cut.f a0 (⟨#[45]⟩ : ByteArray)).bind fun bt116 => (if bt116.2.2 = true then ((strings_Cut.f bt116.2.1 (⟨#[45]⟩ : ByteArray)).bind fun bt119 => (if bt119.2.2 = true then (some (0, bt116.1, bt119.1, bt119.2.1)) else (some (1, bt116.1, bt116.2.1, (⟨#[]⟩ : ByteArray))))) else (some (3, a0, (⟨#[]⟩ : ByteArray), (⟨#[]⟩ : ByteArray))))))))) = some (r1, r2, r3, r4) := by rw [if_neg (show ¬ (false = true) by decide)] at H; exact H); clear H; have H := H1; clear H1; obtain ⟨⟨t111, t112⟩, A6, H⟩ := bi_ H
  by_cases c7 : t112 = true
  ·subst c7
   (have H1 : (some (5, t111, (⟨#[]⟩ : ByteArray), (⟨#[]⟩ : ByteArray))) = some (r1, r2, r3, r4) := by rw [if_pos rfl] at H; exact H); clear H; have H := H1; clear H1; simp only [Option.some.injEq, Prod.mk.injEq] at H; obtain ⟨rfl, rfl, rfl, rfl⟩ := H; go_enter Tryd.func27, Tryd.ntmps27; go_wp2_with (first | ((with_reducible refine gD 2 ?_); refine gx_ w 2 z4_ 23 ?_; clear HB; intro gb108 w8 BK108 GE108 HB; have GW108 := GE108) | ((with_reducible refine gC 42 ?_); refine goesL_ (some 17) rfl rfl Tryd.func42 (by kernel_rfl) rfl #[.string a0, .string ⟨#[100]⟩] rfl ml_ ?_; (with_reducible refine (strings_CutSuffix.calls a0 (⟨#[100]⟩ : ByteArray) t109 false _ A2.out).mono ?_); rintro e w' ⟨rfl, ⟨nd, rfl⟩⟩; refine ⟨_, rfl, ?_⟩; (try (rw [drewN_self w8]; generalize hq_ : World.drewN w8 _ = w8; have m0_ : Aside0 (w8.heap[gb108]? = some (.cells z4_ 23 (0, 0))) := ⟨by rw [← hq_]; exact (bl_ BK108.out)⟩; have m1_ : Aside0 (Below w.heap.size w w8) := ⟨by rw [← hq_]; exact hs_⟩; clear BK108 HB hq_; have BK108 := m0_; have HB := m1_; clear m0_ m1_))) | ((with_reducible refine gC 42 ?_); refine goesL_ (some 25) rfl rfl Tryd.func42 (by kernel_rfl) rfl #[.string a0, .string ⟨#[99]⟩] rfl ml_ ?_; (with_reducible refine (strings_CutSuffix.calls a0 (⟨#[99]⟩ : ByteArray) t111 true _ A6.out).mono ?_); rintro e w' ⟨rfl, ⟨nd, rfl⟩⟩; refine ⟨_, rfl, ?_⟩; (try (rw [drewN_self w8]; generalize hq_ : World.drewN w8 _ = w8; have m0_ : Aside0 (w8.heap[gb108]? = some (.cells z4_ 23 (0, 0))) := ⟨by rw [← hq_]; exact (bl_ BK108.out)⟩; have m1_ : Aside0 (Below w.heap.size w w8) := ⟨by rw [← hq_]; exact hs_⟩; clear BK108 HB hq_; have BK108 := m0_; have HB := m1_; clear m0_ m1_)); have Z9 := bz4_ BK108)); refine bodyPost_ret (results_cell_row rfl _ _ gb108 23 #[.int .i64 5, .string t111, .string ⟨#[]⟩, .string ⟨#[]⟩] (0, 0) _ rfl (pb_ BK108.out) Tryd.underlying23 rfl (by kernel_rfl)) rfl ?_
   exact ⟨re_, hs_⟩
  ·replace c7 := Bool.eq_false_iff.mpr c7
   subst c7; (have H1 : ((strings_Cut.f a0 (⟨#[115]⟩ : ByteArray)).bind fun bt113 => (if bt113.2.2 = true then (some (2, bt113.1, bt113.2.1, (⟨#[]⟩ : ByteArray))) else ((strings_Cut.f a0 (⟨#[45]⟩ : ByteArray)).bind fun bt116 => (if bt116.2.2 = true then ((strings_Cut.f bt116.2.1 (⟨#[45]⟩ : ByteArray)).bind fun bt119 => (if bt119.2.2 = true then (some (0, bt116.1, bt119.1, bt119.2.1)) else (some (1, bt116.1, bt116.2.1, (⟨#[]⟩ : ByteArray))))) else (some (3, a0, (⟨#[]⟩ : ByteArray), (⟨#[]⟩ : ByteArray))))))) = some (r1, r2, r3, r4) := by rw [if_neg (show ¬ (false = true) by decide)] at H; exact H); clear H; have H := H1; clear H1; obtain ⟨⟨t113, t114, t115⟩, A10, H⟩ := bi_ H
   by_cases c11 : t115 = true
   ·subst c11
    (have H1 : (some (2, t113, t114, (⟨#[]⟩ : ByteArray))) = some (r1, r2, r3, r4) := by rw [if_pos rfl] at H; exact H); clear H; have H := H1; clear H1; simp only [Option.some.injEq, Prod.mk.injEq] at H; obtain ⟨rfl, rfl, rfl, rfl⟩ := H; go_enter Tryd.func27, Tryd.ntmps27; go_wp2_with (first | ((with_reducible refine gD 2 ?_); refine gx_ w 2 z4_ 23 ?_; clear HB; intro gb108 w12 BK108 GE108 HB; have GW108 := GE108) | ((with_reducible refine gC 42 ?_); refine goesL_ (some 17) rfl rfl Tryd.func42 (by kernel_rfl) rfl #[.string a0, .string ⟨#[100]⟩] rfl ml_ ?_; (with_reducible refine (strings_CutSuffix.calls a0 (⟨#[100]⟩ : ByteArray) t109 false _ A2.out).mono ?_); rintro e w' ⟨rfl, ⟨nd, rfl⟩⟩; refine ⟨_, rfl, ?_⟩; (try (rw [drewN_self w12]; generalize hq_ : World.drewN w12 _ = w12; have m0_ : Aside0 (w12.heap[gb108]? = some (.cells z4_ 23 (0, 0))) := ⟨by rw [← hq_]; exact (bl_ BK108.out)⟩; have m1_ : Aside0 (Below w.heap.size w w12) := ⟨by rw [← hq_]; exact hs_⟩; clear BK108 HB hq_; have BK108 := m0_; have HB := m1_; clear m0_ m1_))) | ((with_reducible refine gC 42 ?_); refine goesL_ (some 25) rfl rfl Tryd.func42 (by kernel_rfl) rfl #[.string a0, .string ⟨#[99]⟩] rfl ml_ ?_; (with_reducible refine (strings_CutSuffix.calls a0 (⟨#[99]⟩ : ByteArray) t111 false _ A6.out).mono ?_); rintro e w' ⟨rfl, ⟨nd, rfl⟩⟩; refine ⟨_, rfl, ?_⟩; (try (rw [drewN_self w12]; generalize hq_ : World.drewN w12 _ = w12; have m0_ : Aside0 (w12.heap[gb108]? = some (.cells z4_ 23 (0, 0))) := ⟨by rw [← hq_]; exact (bl_ BK108.out)⟩; have m1_ : Aside0 (Below w.heap.size w w12) := ⟨by rw [← hq_]; exact hs_⟩; clear BK108 HB hq_; have BK108 := m0_; have HB := m1_; clear m0_ m1_))) | ((with_reducible refine gC 43 ?_); refine goesL_ (some 33) rfl rfl Tryd.func43 (by kernel_rfl) rfl #[.string a0, .string ⟨#[115]⟩] rfl ml_ ?_; (with_reducible refine (strings_Cut.calls a0 (⟨#[115]⟩ : ByteArray) t113 t114 true _ A10.out).mono ?_); rintro e w' ⟨rfl, ⟨nd, rfl⟩⟩; refine ⟨_, rfl, ?_⟩; (try (rw [drewN_self w12]; generalize hq_ : World.drewN w12 _ = w12; have m0_ : Aside0 (w12.heap[gb108]? = some (.cells z4_ 23 (0, 0))) := ⟨by rw [← hq_]; exact (bl_ BK108.out)⟩; have m1_ : Aside0 (Below w.heap.size w w12) := ⟨by rw [← hq_]; exact hs_⟩; clear BK108 HB hq_; have BK108 := m0_; have HB := m1_; clear m0_ m1_)); have Z13 := bz4_ BK108))
    refine bodyPost_ret (results_cell_row rfl _ _ gb108 23 #[.int .i64 2, .string t113, .string t114, .string ⟨#[]⟩] (0, 0) _ rfl (pb_ BK108.out) Tryd.underlying23 rfl (by kernel_rfl)) rfl ?_; exact ⟨re_, hs_⟩
   ·replace c11 := Bool.eq_false_iff.mpr c11
    subst c11; (have H1 : ((strings_Cut.f a0 (⟨#[45]⟩ : ByteArray)).bind fun bt116 => (if bt116.2.2 = true then ((strings_Cut.f bt116.2.1 (⟨#[45]⟩ : ByteArray)).bind fun bt119 => (if bt119.2.2 = true then (some (0, bt116.1, bt119.1, bt119.2.1)) else (some (1, bt116.1, bt116.2.1, (⟨#[]⟩ : ByteArray))))) else (some (3, a0, (⟨#[]⟩ : ByteArray), (⟨#[]⟩ : ByteArray))))) = some (r1, r2, r3, r4) := by rw [if_neg (show ¬ (false = true) by decide)] at H; exact H); clear H; have H := H1; clear H1; obtain ⟨⟨t116, t117, t118⟩, A14, H⟩ := bi_ H
    by_cases c15 : t118 = true
    ·subst c15
     (have H1 : ((strings_Cut.f t117 (⟨#[45]⟩ : ByteArray)).bind fun bt119 => (if bt119.2.2 = true then (some (0, t116, bt119.1, bt119.2.1)) else (some (1, t116, t117, (⟨#[]⟩ : ByteArray))))) = some (r1, r2, r3, r4) := by rw [if_pos rfl] at H; exact H); clear H; have H := H1; clear H1; obtain ⟨⟨t119, t120, t121⟩, A16, H⟩ := bi_ H
     by_cases c17 : t121 = true
     ·subst c17
      (have H1 : (some (0, t116, t119, t120)) = some (r1, r2, r3, r4) := by rw [if_pos rfl] at H; exact H); clear H; have H := H1; clear H1; simp only [Option.some.injEq, Prod.mk.injEq] at H; obtain ⟨rfl, rfl, rfl, rfl⟩ := H; go_enter Tryd.func27, Tryd.ntmps27; go_wp2_with (first | ((with_reducible refine gD 2 ?_); refine gx_ w 2 z4_ 23 ?_; clear HB; intro gb108 w18 BK108 GE108 HB; have GW108 := GE108) | ((with_reducible refine gC 42 ?_); refine goesL_ (some 17) rfl rfl Tryd.func42 (by kernel_rfl) rfl #[.string a0, .string ⟨#[100]⟩] rfl ml_ ?_; (with_reducible refine (strings_CutSuffix.calls a0 (⟨#[100]⟩ : ByteArray) t109 false _ A2.out).mono ?_); rintro e w' ⟨rfl, ⟨nd, rfl⟩⟩; refine ⟨_, rfl, ?_⟩; (try (rw [drewN_self w18]; generalize hq_ : World.drewN w18 _ = w18; have m0_ : Aside0 (w18.heap[gb108]? = some (.cells z4_ 23 (0, 0))) := ⟨by rw [← hq_]; exact (bl_ BK108.out)⟩; have m1_ : Aside0 (Below w.heap.size w w18) := ⟨by rw [← hq_]; exact hs_⟩; clear BK108 HB hq_; have BK108 := m0_; have HB := m1_; clear m0_ m1_))) | ((with_reducible refine gC 42 ?_); refine goesL_ (some 25) rfl rfl Tryd.func42 (by kernel_rfl) rfl #[.string a0, .string ⟨#[99]⟩] rfl ml_ ?_; (with_reducible refine (strings_CutSuffix.calls a0 (⟨#[99]⟩ : ByteArray) t111 false _ A6.out).mono ?_); rintro e w' ⟨rfl, ⟨nd, rfl⟩⟩; refine ⟨_, rfl, ?_⟩; (try (rw [drewN_self w18]; generalize hq_ : World.drewN w18 _ = w18; have m0_ : Aside0 (w18.heap[gb108]? = some (.cells z4_ 23 (0, 0))) := ⟨by rw [← hq_]; exact (bl_ BK108.out)⟩; have m1_ : Aside0 (Below w.heap.size w w18) := ⟨by rw [← hq_]; exact hs_⟩; clear BK108 HB hq_; have BK108 := m0_; have HB := m1_; clear m0_ m1_))) | ((with_reducible refine gC 43 ?_); refine goesL_ (some 33) rfl rfl Tryd.func43 (by kernel_rfl) rfl #[.string a0, .string ⟨#[115]⟩] rfl ml_ ?_; (with_reducible refine (strings_Cut.calls a0 (⟨#[115]⟩ : ByteArray) t113 t114 false _ A10.out).mono ?_); rintro e w' ⟨rfl, ⟨nd, rfl⟩⟩; refine ⟨_, rfl, ?_⟩; (try (rw [drewN_self w18]; generalize hq_ : World.drewN w18 _ = w18; have m0_ : Aside0 (w18.heap[gb108]? = some (.cells z4_ 23 (0, 0))) := ⟨by rw [← hq_]; exact (bl_ BK108.out)⟩; have m1_ : Aside0 (Below w.heap.size w w18) := ⟨by rw [← hq_]; exact hs_⟩; clear BK108 HB hq_; have BK108 := m0_; have HB := m1_; clear m0_ m1_))) | ((with_reducible refine gC 43 ?_); refine goesL_ (some 43) rfl rfl Tryd.func43 (by kernel_rfl) rfl #[.string a0, .string ⟨#[45]⟩] rfl ml_ ?_; (with_reducible refine (strings_Cut.calls a0 (⟨#[45]⟩ : ByteArray) t116 t117 true _ A14.out).mono ?_); rintro e w' ⟨rfl, ⟨nd, rfl⟩⟩; refine ⟨_, rfl, ?_⟩; (try (rw [drewN_self w18]; generalize hq_ : World.drewN w18 _ = w18; have m0_ : Aside0 (w18.heap[gb108]? = some (.cells z4_ 23 (0, 0))) := ⟨by rw [← hq_]; exact (bl_ BK108.out)⟩; have m1_ : Aside0 (Below w.heap.size w w18) := ⟨by rw [← hq_]; exact hs_⟩; clear BK108 HB hq_; have BK108 := m0_; have HB := m1_; clear m0_ m1_))) | ((with_reducible refine gC 43 ?_); refine goesL_ (some 53) rfl rfl Tryd.func43 (by kernel_rfl) rfl #[.string t117, .string ⟨#[45]⟩] rfl ml_ ?_; (with_reducible refine (strings_Cut.calls t117 (⟨#[45]⟩ : ByteArray) t119 t120 true _ A16.out).mono ?_); rintro e w' ⟨rfl, ⟨nd, rfl⟩⟩; refine ⟨_, rfl, ?_⟩; (try (rw [drewN_self w18]; generalize hq_ : World.drewN w18 _ = w18; have m0_ : Aside0 (w18.heap[gb108]? = some (.cells z4_ 23 (0, 0))) := ⟨by rw [← hq_]; exact (bl_ BK108.out)⟩; have m1_ : Aside0 (Below w.heap.size w w18) := ⟨by rw [← hq_]; exact hs_⟩; clear BK108 HB hq_; have BK108 := m0_; have HB := m1_; clear m0_ m1_)); have Z19 := bz4_ BK108))
      refine bodyPost_ret (results_cell_row rfl _ _ gb108 23 #[.int .i64 0, .string t116, .string t119, .string t120] (0, 0) _ rfl (pb_ BK108.out) Tryd.underlying23 rfl (by kernel_rfl)) rfl ?_; exact ⟨re_, hs_⟩
     ·replace c17 := Bool.eq_false_iff.mpr c17
      subst c17; (have H1 : (some (1, t116, t117, (⟨#[]⟩ : ByteArray))) = some (r1, r2, r3, r4) := by rw [if_neg (show ¬ (false = true) by decide)] at H; exact H); clear H; have H := H1; clear H1; simp only [Option.some.injEq, Prod.mk.injEq] at H; obtain ⟨rfl, rfl, rfl, rfl⟩ := H; go_enter Tryd.func27, Tryd.ntmps27; go_wp2_with (first | ((with_reducible refine gD 2 ?_); refine gx_ w 2 z4_ 23 ?_; clear HB; intro gb108 w20 BK108 GE108 HB; have GW108 := GE108) | ((with_reducible refine gC 42 ?_); refine goesL_ (some 17) rfl rfl Tryd.func42 (by kernel_rfl) rfl #[.string a0, .string ⟨#[100]⟩] rfl ml_ ?_; (with_reducible refine (strings_CutSuffix.calls a0 (⟨#[100]⟩ : ByteArray) t109 false _ A2.out).mono ?_); rintro e w' ⟨rfl, ⟨nd, rfl⟩⟩; refine ⟨_, rfl, ?_⟩; (try (rw [drewN_self w20]; generalize hq_ : World.drewN w20 _ = w20; have m0_ : Aside0 (w20.heap[gb108]? = some (.cells z4_ 23 (0, 0))) := ⟨by rw [← hq_]; exact (bl_ BK108.out)⟩; have m1_ : Aside0 (Below w.heap.size w w20) := ⟨by rw [← hq_]; exact hs_⟩; clear BK108 HB hq_; have BK108 := m0_; have HB := m1_; clear m0_ m1_))) | ((with_reducible refine gC 42 ?_); refine goesL_ (some 25) rfl rfl Tryd.func42 (by kernel_rfl) rfl #[.string a0, .string ⟨#[99]⟩] rfl ml_ ?_; (with_reducible refine (strings_CutSuffix.calls a0 (⟨#[99]⟩ : ByteArray) t111 false _ A6.out).mono ?_); rintro e w' ⟨rfl, ⟨nd, rfl⟩⟩; refine ⟨_, rfl, ?_⟩; (try (rw [drewN_self w20]; generalize hq_ : World.drewN w20 _ = w20; have m0_ : Aside0 (w20.heap[gb108]? = some (.cells z4_ 23 (0, 0))) := ⟨by rw [← hq_]; exact (bl_ BK108.out)⟩; have m1_ : Aside0 (Below w.heap.size w w20) := ⟨by rw [← hq_]; exact hs_⟩; clear BK108 HB hq_; have BK108 := m0_; have HB := m1_; clear m0_ m1_))) | ((with_reducible refine gC 43 ?_); refine goesL_ (some 33) rfl rfl Tryd.func43 (by kernel_rfl) rfl #[.string a0, .string ⟨#[115]⟩] rfl ml_ ?_; (with_reducible refine (strings_Cut.calls a0 (⟨#[115]⟩ : ByteArray) t113 t114 false _ A10.out).mono ?_); rintro e w' ⟨rfl, ⟨nd, rfl⟩⟩; refine ⟨_, rfl, ?_⟩; (try (rw [drewN_self w20]; generalize hq_ : World.drewN w20 _ = w20; have m0_ : Aside0 (w20.heap[gb108]? = some (.cells z4_ 23 (0, 0))) := ⟨by rw [← hq_]; exact (bl_ BK108.out)⟩; have m1_ : Aside0 (Below w.heap.size w w20) := ⟨by rw [← hq_]; exact hs_⟩; clear BK108 HB hq_; have BK108 := m0_; have HB := m1_; clear m0_ m1_))) | ((with_reducible refine gC 43 ?_); refine goesL_ (some 43) rfl rfl Tryd.func43 (by kernel_rfl) rfl #[.string a0, .string ⟨#[45]⟩] rfl ml_ ?_; (with_reducible refine (strings_Cut.calls a0 (⟨#[45]⟩ : ByteArray) t116 t117 true _ A14.out).mono ?_); rintro e w' ⟨rfl, ⟨nd, rfl⟩⟩; refine ⟨_, rfl, ?_⟩; (try (rw [drewN_self w20]; generalize hq_ : World.drewN w20 _ = w20; have m0_ : Aside0 (w20.heap[gb108]? = some (.cells z4_ 23 (0, 0))) := ⟨by rw [← hq_]; exact (bl_ BK108.out)⟩; have m1_ : Aside0 (Below w.heap.size w w20) := ⟨by rw [← hq_]; exact hs_⟩; clear BK108 HB hq_; have BK108 := m0_; have HB := m1_; clear m0_ m1_))) | ((with_reducible refine gC 43 ?_); refine goesL_ (some 53) rfl rfl Tryd.func43 (by kernel_rfl) rfl #[.string t117, .string ⟨#[45]⟩] rfl ml_ ?_; (with_reducible refine (strings_Cut.calls t117 (⟨#[45]⟩ : ByteArray) t119 t120 false _ A16.out).mono ?_); rintro e w' ⟨rfl, ⟨nd, rfl⟩⟩; refine ⟨_, rfl, ?_⟩; (try (rw [drewN_self w20]; generalize hq_ : World.drewN w20 _ = w20; have m0_ : Aside0 (w20.heap[gb108]? = some (.cells z4_ 23 (0, 0))) := ⟨by rw [← hq_]; exact (bl_ BK108.out)⟩; have m1_ : Aside0 (Below w.heap.size w w20) := ⟨by rw [← hq_]; exact hs_⟩; clear BK108 HB hq_; have BK108 := m0_; have HB := m1_; clear m0_ m1_)); have Z21 := bz4_ BK108))
      refine bodyPost_ret (results_cell_row rfl _ _ gb108 23 #[.int .i64 1, .string t116, .string t117, .string ⟨#[]⟩] (0, 0) _ rfl (pb_ BK108.out) Tryd.underlying23 rfl (by kernel_rfl)) rfl ?_; exact ⟨re_, hs_⟩
    ·replace c15 := Bool.eq_false_iff.mpr c15
     subst c15; (have H1 : (some (3, a0, (⟨#[]⟩ : ByteArray), (⟨#[]⟩ : ByteArray))) = some (r1, r2, r3, r4) := by rw [if_neg (show ¬ (false = true) by decide)] at H; exact H); clear H; have H := H1; clear H1; simp only [Option.some.injEq, Prod.mk.injEq] at H; obtain ⟨rfl, rfl, rfl, rfl⟩ := H; go_enter Tryd.func27, Tryd.ntmps27; go_wp2_with (first | ((with_reducible refine gD 2 ?_); refine gx_ w 2 z4_ 23 ?_; clear HB; intro gb108 w22 BK108 GE108 HB; have GW108 := GE108) | ((with_reducible refine gC 42 ?_); refine goesL_ (some 17) rfl rfl Tryd.func42 (by kernel_rfl) rfl #[.string a0, .string ⟨#[100]⟩] rfl ml_ ?_; (with_reducible refine (strings_CutSuffix.calls a0 (⟨#[100]⟩ : ByteArray) t109 false _ A2.out).mono ?_); rintro e w' ⟨rfl, ⟨nd, rfl⟩⟩; refine ⟨_, rfl, ?_⟩; (try (rw [drewN_self w22]; generalize hq_ : World.drewN w22 _ = w22; have m0_ : Aside0 (w22.heap[gb108]? = some (.cells z4_ 23 (0, 0))) := ⟨by rw [← hq_]; exact (bl_ BK108.out)⟩; have m1_ : Aside0 (Below w.heap.size w w22) := ⟨by rw [← hq_]; exact hs_⟩; clear BK108 HB hq_; have BK108 := m0_; have HB := m1_; clear m0_ m1_))) | ((with_reducible refine gC 42 ?_); refine goesL_ (some 25) rfl rfl Tryd.func42 (by kernel_rfl) rfl #[.string a0, .string ⟨#[99]⟩] rfl ml_ ?_; (with_reducible refine (strings_CutSuffix.calls a0 (⟨#[99]⟩ : ByteArray) t111 false _ A6.out).mono ?_); rintro e w' ⟨rfl, ⟨nd, rfl⟩⟩; refine ⟨_, rfl, ?_⟩; (try (rw [drewN_self w22]; generalize hq_ : World.drewN w22 _ = w22; have m0_ : Aside0 (w22.heap[gb108]? = some (.cells z4_ 23 (0, 0))) := ⟨by rw [← hq_]; exact (bl_ BK108.out)⟩; have m1_ : Aside0 (Below w.heap.size w w22) := ⟨by rw [← hq_]; exact hs_⟩; clear BK108 HB hq_; have BK108 := m0_; have HB := m1_; clear m0_ m1_))) | ((with_reducible refine gC 43 ?_); refine goesL_ (some 33) rfl rfl Tryd.func43 (by kernel_rfl) rfl #[.string a0, .string ⟨#[115]⟩] rfl ml_ ?_; (with_reducible refine (strings_Cut.calls a0 (⟨#[115]⟩ : ByteArray) t113 t114 false _ A10.out).mono ?_); rintro e w' ⟨rfl, ⟨nd, rfl⟩⟩; refine ⟨_, rfl, ?_⟩; (try (rw [drewN_self w22]; generalize hq_ : World.drewN w22 _ = w22; have m0_ : Aside0 (w22.heap[gb108]? = some (.cells z4_ 23 (0, 0))) := ⟨by rw [← hq_]; exact (bl_ BK108.out)⟩; have m1_ : Aside0 (Below w.heap.size w w22) := ⟨by rw [← hq_]; exact hs_⟩; clear BK108 HB hq_; have BK108 := m0_; have HB := m1_; clear m0_ m1_))) | ((with_reducible refine gC 43 ?_); refine goesL_ (some 43) rfl rfl Tryd.func43 (by kernel_rfl) rfl #[.string a0, .string ⟨#[45]⟩] rfl ml_ ?_; (with_reducible refine (strings_Cut.calls a0 (⟨#[45]⟩ : ByteArray) t116 t117 false _ A14.out).mono ?_); rintro e w' ⟨rfl, ⟨nd, rfl⟩⟩; refine ⟨_, rfl, ?_⟩; (try (rw [drewN_self w22]; generalize hq_ : World.drewN w22 _ = w22; have m0_ : Aside0 (w22.heap[gb108]? = some (.cells z4_ 23 (0, 0))) := ⟨by rw [← hq_]; exact (bl_ BK108.out)⟩; have m1_ : Aside0 (Below w.heap.size w w22) := ⟨by rw [← hq_]; exact hs_⟩; clear BK108 HB hq_; have BK108 := m0_; have HB := m1_; clear m0_ m1_)); have Z23 := bz4_ BK108))
     refine bodyPost_ret (results_cell_row rfl _ _ gb108 23 #[.int .i64 3, .string a0, .string ⟨#[]⟩, .string ⟨#[]⟩] (0, 0) _ rfl (pb_ BK108.out) Tryd.underlying23 rfl (by kernel_rfl)) rfl ?_; exact ⟨re_, hs_⟩
set_option maxHeartbeats 8000000 in
set_option maxRecDepth 100000 in
theorem point_Read.calls (k : Nat) (a0 : ByteArray) (r1 : Int) (r2 r3 r4 : ByteArray) (r5 : Bool) (w : World) (h : point_Read.f k a0 = some (r1, r2, r3, r4, r5)) :
  Calls Tryd.prog 11 #[.string a0] w fun e w' => e = .returned (.tuple #[.agg #[.int .i64 r1, .string r2, .string r3, .string r4], .bool r5]) ∧ Below w.heap.size w w' := by
 have hu23 := Tryd.underlying23; have HB := A_ (Below.refl w.heap.size w); have H : ((point_guess.f a0).bind fun bt123 => ((point_Sane.f k bt123.1 bt123.2.1 bt123.2.2.1 bt123.2.2.2).bind fun t128 => (if t128 = true then (some (bt123.1, bt123.2.1, bt123.2.2.1, bt123.2.2.2, true)) else (some (0, (⟨#[]⟩ : ByteArray), (⟨#[]⟩ : ByteArray), (⟨#[]⟩ : ByteArray), false))))) = some (r1, r2, r3, r4, r5) := h; clear h; obtain ⟨⟨t123, t124, t125, t126⟩, A2, H⟩ := bi_ H; obtain ⟨t128, A3, H⟩ := bi_ H
 by_cases c4 : t128 = true
 ·subst c4
  (have H1 : (some (t123, t124, t125, t126, true)) = some (r1, r2, r3, r4, r5) := by rw [if_pos rfl] at H; exact H); clear H; have H := H1; clear H1; simp only [Option.some.injEq, Prod.mk.injEq] at H; obtain ⟨rfl, rfl, rfl, rfl, rfl⟩ := H; go_enter Tryd.func11, Tryd.ntmps11; go_wp2_with (first | ((with_reducible refine gD 2 ?_); refine gx_ w 2 z4_ 23 ?_; clear HB; intro gb122 w5 BK122 GE122 HB; have GW122 := GE122) | ((with_reducible refine gC 27 ?_); refine goesL_ (some 6) rfl rfl Tryd.func27 (by kernel_rfl) rfl #[.string a0] rfl ml_ ?_; (with_reducible refine (point_guess.calls a0 t123 t124 t125 t126 _ A2.out).mono ?_); rintro e w6 ⟨rfl, hb⟩; refine ⟨_, rfl, ?_⟩; replace BK122 := bb_ BK122 hb; replace HB := bs_ hb; (try clear hb)) | ((with_reducible refine gD 4 ?_); refine bxe_ 4 z4_ 23 ?_; intro gb127 hg w7 hbox hb; have BK127 := A_ (hbox); have GW127 := gs_ w hg; have GE127 := gs_ w hg; replace HB := bs_ hb; have NB122_127 := nl_ BK122 hg; have NB127_122 := ng_ BK122 hg; replace BK122 := bb_ BK122 hb; clear hb hbox hg; have hnb8 := NB127_122.out; have hnc8 := NB122_127.out; have Z9 := bz4_ BK127) | ((with_reducible refine gC 10 ?_); refine goesL_ (some 8) rfl rfl Tryd.func10 (by kernel_rfl) rfl #[.agg #[.int .i64 t123, .string t124, .string t125, .string t126]] rfl ml_ ?_; (with_reducible refine (point_Sane.calls k t123 t124 t125 t126 true _ A3.out).mono ?_); rintro e w10 ⟨rfl, hb⟩; refine ⟨_, rfl, ?_⟩; replace BK122 := A_ (blk_below (g := gb122) (o := .cells z4_ 23 (0, 0)) (pf_ NB122_127 BK122) hb); replace BK127 := bp_ BK127 (.cells (n4_ t123 t124 t125 t126) 23 (0, 0)) hb; replace HB := bs_ hb; (try clear hb); have Z11 := bz4_ BK127; have Z12 := bz4_ BK122))
  refine bodyPost_ret (results_ct rfl _ _ gb122 23 #[.int .i64 t123, .string t124, .string t125, .string t126] (0, 0) _ rfl (pb_ BK122.out) Tryd.underlying23 rfl (by kernel_rfl)) rfl ?_; exact ⟨re_, hs_⟩
 ·replace c4 := Bool.eq_false_iff.mpr c4
  subst c4; (have H1 : (some (0, (⟨#[]⟩ : ByteArray), (⟨#[]⟩ : ByteArray), (⟨#[]⟩ : ByteArray), false)) = some (r1, r2, r3, r4, r5) := by rw [if_neg (show ¬ (false = true) by decide)] at H; exact H); clear H; have H := H1; clear H1; simp only [Option.some.injEq, Prod.mk.injEq] at H; obtain ⟨rfl, rfl, rfl, rfl, rfl⟩ := H; go_enter Tryd.func11, Tryd.ntmps11; go_wp2_with (first | ((with_reducible refine gD 2 ?_); refine gx_ w 2 z4_ 23 ?_; clear HB; intro gb122 w13 BK122 GE122 HB; have GW122 := GE122) | ((with_reducible refine gC 27 ?_); refine goesL_ (some 6) rfl rfl Tryd.func27 (by kernel_rfl) rfl #[.string a0] rfl ml_ ?_; (with_reducible refine (point_guess.calls a0 t123 t124 t125 t126 _ A2.out).mono ?_); rintro e w14 ⟨rfl, hb⟩; refine ⟨_, rfl, ?_⟩; replace BK122 := bb_ BK122 hb; replace HB := bs_ hb; (try clear hb)) | ((with_reducible refine gD 4 ?_); refine bxe_ 4 z4_ 23 ?_; intro gb127 hg w15 hbox hb; have BK127 := A_ (hbox); have GW127 := gs_ w hg; have GE127 := gs_ w hg; replace HB := bs_ hb; have NB122_127 := nl_ BK122 hg; have NB127_122 := ng_ BK122 hg; replace BK122 := bb_ BK122 hb; clear hb hbox hg; have hnb16 := NB127_122.out; have hnc16 := NB122_127.out; have Z17 := bz4_ BK127) | ((with_reducible refine gC 10 ?_); refine goesL_ (some 8) rfl rfl Tryd.func10 (by kernel_rfl) rfl #[.agg #[.int .i64 t123, .string t124, .string t125, .string t126]] rfl ml_ ?_; (with_reducible refine (point_Sane.calls k t123 t124 t125 t126 false _ A3.out).mono ?_); rintro e w18 ⟨rfl, hb⟩; refine ⟨_, rfl, ?_⟩; replace BK122 := A_ (blk_below (g := gb122) (o := .cells z4_ 23 (0, 0)) (pf_ NB122_127 BK122) hb); replace BK127 := bp_ BK127 (.cells (n4_ t123 t124 t125 t126) 23 (0, 0)) hb; replace HB := bs_ hb; (try clear hb); have Z19 := bz4_ BK122))
  refine bodyPost_ret (results_ct rfl _ _ gb122 23 #[.int .i64 0, .string ⟨#[]⟩, .string ⟨#[]⟩, .string ⟨#[]⟩] (0, 0) _ rfl (pb_ BK122.out) Tryd.underlying23 rfl (by kernel_rfl)) rfl ?_; exact ⟨re_, hs_⟩
set_option maxHeartbeats 8000000 in
set_option maxRecDepth 100000 in
theorem lustrumlaw08_awake.calls (k : Nat)  (r : Bool) (w : World) (htab : TL w.heap.size w) (h : lustrumlaw08_awake.f k  = some r) :
  Calls Tryd.prog 7 #[] w fun e w' => e = .returned (.bool r) ∧ Below w.heap.size w w' := by
 have HTAB := A_ htab; clear htab; have hu23 := Tryd.underlying23; have HB := A_ (Below.refl w.heap.size w); have H : ((point_Read.f k (⟨#[49, 57, 56, 52, 115, 52]⟩ : ByteArray)).bind fun bt135 => ((point_Set.f k bt135.1 bt135.2.1 bt135.2.2.1 bt135.2.2.2.1).bind fun bt141 => ((point_Set.f k 3 (⟨#[88, 88, 88, 88]⟩ : ByteArray) (⟨#[]⟩ : ByteArray) (⟨#[]⟩ : ByteArray)).bind fun bt145 => (if bt135.2.2.2.2 = true then (if bt135.1 = 2 then (if bt135.2.1.toList = ([49, 57, 56, 52] : List UInt8) then (if bt135.2.2.1.toList = ([52] : List UInt8) then (if bt141.2 = 0 then (if (bt141.1.length : Int) = 1 then (if 0 < (bt141.1.length : Int) then (if ((rd_T42 bt141.1 0).f0) = 7939 then (if bt145.2 = 8 then ((point_Text.f k bt135.1 bt135.2.1 bt135.2.2.1 bt135.2.2.2.1).bind fun t150 => (if t150.toList = ([49, 57, 56, 52, 115, 52] : List UInt8) then ((point_Radius.f 0).bind fun t151 => (some (t151 == 3))) else (some false))) else (some false)) else (some false)) else (none)) else (some false)) else (some false)) else (some false)) else (some false)) else (some false)) else (some false))))) = some r := h; clear h; obtain ⟨⟨t135, t136, t137, t138, t139⟩, A1, H⟩ := bi_ H; obtain ⟨⟨t141, t144⟩, A2, H⟩ := bi_ H; obtain ⟨⟨t145, t148⟩, A3, H⟩ := bi_ H
 by_cases c4 : t139 = true
 ·subst c4
  replace H := iP_ H
  by_cases c5 : t135 = 2
  ·rw [if_pos c5] at H
   have c5b0 : (t135 == 2) = true := beq_iff_eq.mpr c5; have c5b1 : (t135 != 2) = false := bne_eq_false_iff_eq.mpr c5; clear c5
   by_cases c6 : t136.toList = ([49, 57, 56, 52] : List UInt8)
   ·rw [if_pos c6] at H
    have c6b0 : (t136.toList == ([49, 57, 56, 52] : List UInt8)) = true := beq_iff_eq.mpr c6; have c6b1 : (t136.toList != ([49, 57, 56, 52] : List UInt8)) = false := bne_eq_false_iff_eq.mpr c6; clear c6
    by_cases c7 : t137.toList = ([52] : List UInt8)
    ·rw [if_pos c7] at H
     have c7b0 : (t137.toList == ([52] : List UInt8)) = true := beq_iff_eq.mpr c7; have c7b1 : (t137.toList != ([52] : List UInt8)) = false := bne_eq_false_iff_eq.mpr c7; clear c7
     by_cases c8 : t144 = 0
     ·rw [if_pos c8] at H
      have c8b0 : (t144 == 0) = true := beq_iff_eq.mpr c8; have c8b1 : (t144 != 0) = false := bne_eq_false_iff_eq.mpr c8; clear c8
      by_cases c9 : (t141.length : Int) = 1
      ·rw [if_pos c9] at H
       have c9b0 : ((t141.length : Int) == 1) = true := beq_iff_eq.mpr c9; have c9b1 : ((t141.length : Int) != 1) = false := bne_eq_false_iff_eq.mpr c9; clear c9
       by_cases c10 : 0 < (t141.length : Int)
       ·rw [if_pos c10] at H
        have c10b0 := decide_eq_true c10; have c10b1 : decide (0 < t141.length) = true := decide_eq_true (by omega); clear c10
        by_cases c11 : ((rd_T42 t141 0).f0) = 7939
        ·rw [if_pos c11] at H
         have c11b0 : (((rd_T42 t141 0).f0) == 7939) = true := beq_iff_eq.mpr c11; have c11b1 : (((rd_T42 t141 0).f0) != 7939) = false := bne_eq_false_iff_eq.mpr c11; clear c11
         by_cases c12 : t148 = 8
         ·rw [if_pos c12] at H
          have c12b0 : (t148 == 8) = true := beq_iff_eq.mpr c12; have c12b1 : (t148 != 8) = false := bne_eq_false_iff_eq.mpr c12; clear c12; obtain ⟨t150, A13, H⟩ := bi_ H
          by_cases c14 : t150.toList = ([49, 57, 56, 52, 115, 52] : List UInt8)
          ·rw [if_pos c14] at H
           have c14b0 : (t150.toList == ([49, 57, 56, 52, 115, 52] : List UInt8)) = true := beq_iff_eq.mpr c14; have c14b1 : (t150.toList != ([49, 57, 56, 52, 115, 52] : List UInt8)) = false := bne_eq_false_iff_eq.mpr c14; clear c14; obtain ⟨t151, A15, H⟩ := bi_ H; obtain rfl := Option.some.inj H; go_enter Tryd.func7, Tryd.ntmps7; go_wp2_with (first | ((with_reducible refine gC 11 ?_); refine goesL_ (some 8) rfl rfl Tryd.func11 (by kernel_rfl) rfl #[.string ⟨#[49, 57, 56, 52, 115, 52]⟩] rfl ml_ ?_; (with_reducible refine (point_Read.calls k (⟨#[49, 57, 56, 52, 115, 52]⟩ : ByteArray) t135 t136 t137 t138 true _ A1.out).mono ?_); rintro e w16 ⟨rfl, hb⟩; refine ⟨_, rfl, ?_⟩; replace HB := bs_ hb; (try clear hb)) | ((with_reducible refine gD 1 ?_); (try (refine gate_guard (by rfl) ?_; dsimp only)); refine bxe_ 1 z4_ 23 ?_; intro gb140 hg w17 hbox hb; have BK140 := A_ (hbox); have GW140 := gs_ w hg; have GE140 := gs_ w hg; replace HB := bs_ hb; clear hb hbox hg; have Z18 := bz4_ BK140) | ((with_reducible refine gC 14 ?_); refine goesL_ (some 13) rfl rfl Tryd.func14 (by kernel_rfl) rfl #[.agg #[.int .i64 t135, .string t136, .string t137, .string t138]] rfl ml_ ?_; (with_reducible refine (point_Set.calls k t135 t136 t137 t138 t141 t144 _ tl_ A2.out).mono ?_); rintro e w19 ⟨v142, rfl, ho0, hb⟩; refine ⟨_, rfl, ?_⟩; have HO143 := A_ (Kd.V_lower (Kd.V_mono (ok' := fun k_ => k_ ≠ gb140) ho0 (fun k_ hk_ => (fb_ BK140 k_ hk_))) (below_size hs_)); replace BK140 := bp_ BK140 (.cells (n4_ t135 t136 t137 t138) 23 (0, 0)) hb; replace HB := bs_ hb; (try clear hb); (try clear ho0)) | ((with_reducible refine gC 14 ?_); refine goesL_ (some 18) rfl rfl Tryd.func14 (by kernel_rfl) rfl #[.agg #[.int .i64 3, .string ⟨#[88, 88, 88, 88]⟩, .string ⟨#[]⟩, .string ⟨#[]⟩]] rfl ml_ ?_; (with_reducible refine (point_Set.calls k 3 (⟨#[88, 88, 88, 88]⟩ : ByteArray) (⟨#[]⟩ : ByteArray) (⟨#[]⟩ : ByteArray) t145 t148 _ tl_ A3.out).mono ?_); rintro e w20 ⟨v146, rfl, ho0, hb⟩; refine ⟨_, rfl, ?_⟩; replace HO143 := bV_ HO143 hb; have HO147 := A_ (Kd.V_lower (Kd.V_mono (ok' := fun k_ => k_ ≠ gb140) ho0 (fun k_ hk_ => (fb_ BK140 k_ hk_))) (below_size hs_)); replace BK140 := bb_ BK140 hb; replace HB := bs_ hb; (try clear hb); (try clear ho0); have Z21 := bz4_ BK140; obtain ⟨Ao22, co22, eo22⟩ := Kd.V_slice HO143.out; subst eo22; have p149 : 0 ≤ (0 : Int) := (by omega); have q149 : 0 < (t141.length : Int) := od_; obtain ⟨ad149, e149, hx149_0, hx149_1⟩ := at_T42 (Kd.V_reads' HO143.out).2.2 0 p149 q149; cases e149; have qi149 : (0 < t141.length) = True := eq_true (by omega); replace hx149_0 := ai_ hx149_0; replace hx149_1 := ai_ hx149_1; replace p149 := eq_true p149; replace q149 := eq_true q149) | (go_at_call 9; (with_reducible refine (point_Text.calls k t135 t136 t137 t138 t150 _ A13.out).mono ?_); rintro e w23 ⟨rfl, hb⟩; replace HO143 := bV_ HO143 hb; replace HO147 := bV_ HO147 hb; replace BK140 := bb_ BK140 hb; replace HB := bs_ hb; (try clear hb)) | (go_at_call 22; (with_reducible refine (point_Radius.calls 0 t151 _ A15.out).mono ?_); rintro e w' ⟨rfl, ⟨nd, rfl⟩⟩))
           go_ret; exact ⟨re_, hs_⟩
          ·rw [if_neg c14] at H
           have c14b0 : (t150.toList == ([49, 57, 56, 52, 115, 52] : List UInt8)) = false := beq_eq_false_iff_ne.mpr c14; have c14b1 : (t150.toList != ([49, 57, 56, 52, 115, 52] : List UInt8)) = true := bne_iff_ne.mpr c14; obtain rfl := Option.some.inj H; go_enter Tryd.func7, Tryd.ntmps7; go_wp2_with (first | ((with_reducible refine gC 11 ?_); refine goesL_ (some 8) rfl rfl Tryd.func11 (by kernel_rfl) rfl #[.string ⟨#[49, 57, 56, 52, 115, 52]⟩] rfl ml_ ?_; (with_reducible refine (point_Read.calls k (⟨#[49, 57, 56, 52, 115, 52]⟩ : ByteArray) t135 t136 t137 t138 true _ A1.out).mono ?_); rintro e w24 ⟨rfl, hb⟩; refine ⟨_, rfl, ?_⟩; replace HB := bs_ hb; (try clear hb)) | ((with_reducible refine gD 1 ?_); (try (refine gate_guard (by rfl) ?_; dsimp only)); refine bxe_ 1 z4_ 23 ?_; intro gb140 hg w25 hbox hb; have BK140 := A_ (hbox); have GW140 := gs_ w hg; have GE140 := gs_ w hg; replace HB := bs_ hb; clear hb hbox hg; have Z26 := bz4_ BK140) | ((with_reducible refine gC 14 ?_); refine goesL_ (some 13) rfl rfl Tryd.func14 (by kernel_rfl) rfl #[.agg #[.int .i64 t135, .string t136, .string t137, .string t138]] rfl ml_ ?_; (with_reducible refine (point_Set.calls k t135 t136 t137 t138 t141 t144 _ tl_ A2.out).mono ?_); rintro e w27 ⟨v142, rfl, ho0, hb⟩; refine ⟨_, rfl, ?_⟩; have HO143 := A_ (Kd.V_lower (Kd.V_mono (ok' := fun k_ => k_ ≠ gb140) ho0 (fun k_ hk_ => (fb_ BK140 k_ hk_))) (below_size hs_)); replace BK140 := bp_ BK140 (.cells (n4_ t135 t136 t137 t138) 23 (0, 0)) hb; replace HB := bs_ hb; (try clear hb); (try clear ho0)) | ((with_reducible refine gC 14 ?_); refine goesL_ (some 18) rfl rfl Tryd.func14 (by kernel_rfl) rfl #[.agg #[.int .i64 3, .string ⟨#[88, 88, 88, 88]⟩, .string ⟨#[]⟩, .string ⟨#[]⟩]] rfl ml_ ?_; (with_reducible refine (point_Set.calls k 3 (⟨#[88, 88, 88, 88]⟩ : ByteArray) (⟨#[]⟩ : ByteArray) (⟨#[]⟩ : ByteArray) t145 t148 _ tl_ A3.out).mono ?_); rintro e w28 ⟨v146, rfl, ho0, hb⟩; refine ⟨_, rfl, ?_⟩; replace HO143 := bV_ HO143 hb; have HO147 := A_ (Kd.V_lower (Kd.V_mono (ok' := fun k_ => k_ ≠ gb140) ho0 (fun k_ hk_ => (fb_ BK140 k_ hk_))) (below_size hs_)); replace BK140 := bb_ BK140 hb; replace HB := bs_ hb; (try clear hb); (try clear ho0); have Z29 := bz4_ BK140; obtain ⟨Ao30, co30, eo30⟩ := Kd.V_slice HO143.out; subst eo30; have p149 : 0 ≤ (0 : Int) := (by omega); have q149 : 0 < (t141.length : Int) := od_; obtain ⟨ad149, e149, hx149_0, hx149_1⟩ := at_T42 (Kd.V_reads' HO143.out).2.2 0 p149 q149; cases e149; have qi149 : (0 < t141.length) = True := eq_true (by omega); replace hx149_0 := ai_ hx149_0; replace hx149_1 := ai_ hx149_1; replace p149 := eq_true p149; replace q149 := eq_true q149) | (go_at_call 9; (with_reducible refine (point_Text.calls k t135 t136 t137 t138 t150 _ A13.out).mono ?_); rintro e w31 ⟨rfl, hb⟩; replace HO143 := bV_ HO143 hb; replace HO147 := bV_ HO147 hb; replace BK140 := bb_ BK140 hb; replace HB := bs_ hb; (try clear hb)))
           go_ret; exact ⟨re_, hs_⟩
         ·rw [if_neg c12] at H
          have c12b0 : (t148 == 8) = false := beq_eq_false_iff_ne.mpr c12; have c12b1 : (t148 != 8) = true := bne_iff_ne.mpr c12; obtain rfl := Option.some.inj H; go_enter Tryd.func7, Tryd.ntmps7; go_wp2_with (first | ((with_reducible refine gC 11 ?_); refine goesL_ (some 8) rfl rfl Tryd.func11 (by kernel_rfl) rfl #[.string ⟨#[49, 57, 56, 52, 115, 52]⟩] rfl ml_ ?_; (with_reducible refine (point_Read.calls k (⟨#[49, 57, 56, 52, 115, 52]⟩ : ByteArray) t135 t136 t137 t138 true _ A1.out).mono ?_); rintro e w32 ⟨rfl, hb⟩; refine ⟨_, rfl, ?_⟩; replace HB := bs_ hb; (try clear hb)) | ((with_reducible refine gD 1 ?_); (try (refine gate_guard (by rfl) ?_; dsimp only)); refine bxe_ 1 z4_ 23 ?_; intro gb140 hg w33 hbox hb; have BK140 := A_ (hbox); have GW140 := gs_ w hg; have GE140 := gs_ w hg; replace HB := bs_ hb; clear hb hbox hg; have Z34 := bz4_ BK140) | ((with_reducible refine gC 14 ?_); refine goesL_ (some 13) rfl rfl Tryd.func14 (by kernel_rfl) rfl #[.agg #[.int .i64 t135, .string t136, .string t137, .string t138]] rfl ml_ ?_; (with_reducible refine (point_Set.calls k t135 t136 t137 t138 t141 t144 _ tl_ A2.out).mono ?_); rintro e w35 ⟨v142, rfl, ho0, hb⟩; refine ⟨_, rfl, ?_⟩; have HO143 := A_ (Kd.V_lower (Kd.V_mono (ok' := fun k_ => k_ ≠ gb140) ho0 (fun k_ hk_ => (fb_ BK140 k_ hk_))) (below_size hs_)); replace BK140 := bp_ BK140 (.cells (n4_ t135 t136 t137 t138) 23 (0, 0)) hb; replace HB := bs_ hb; (try clear hb); (try clear ho0)) | ((with_reducible refine gC 14 ?_); refine goesL_ (some 18) rfl rfl Tryd.func14 (by kernel_rfl) rfl #[.agg #[.int .i64 3, .string ⟨#[88, 88, 88, 88]⟩, .string ⟨#[]⟩, .string ⟨#[]⟩]] rfl ml_ ?_; (with_reducible refine (point_Set.calls k 3 (⟨#[88, 88, 88, 88]⟩ : ByteArray) (⟨#[]⟩ : ByteArray) (⟨#[]⟩ : ByteArray) t145 t148 _ tl_ A3.out).mono ?_); rintro e w36 ⟨v146, rfl, ho0, hb⟩; refine ⟨_, rfl, ?_⟩; replace HO143 := bV_ HO143 hb; have HO147 := A_ (Kd.V_lower (Kd.V_mono (ok' := fun k_ => k_ ≠ gb140) ho0 (fun k_ hk_ => (fb_ BK140 k_ hk_))) (below_size hs_)); replace BK140 := bb_ BK140 hb; replace HB := bs_ hb; (try clear hb); (try clear ho0); have Z37 := bz4_ BK140; obtain ⟨Ao38, co38, eo38⟩ := Kd.V_slice HO143.out; subst eo38; have p149 : 0 ≤ (0 : Int) := (by omega); have q149 : 0 < (t141.length : Int) := od_; obtain ⟨ad149, e149, hx149_0, hx149_1⟩ := at_T42 (Kd.V_reads' HO143.out).2.2 0 p149 q149; cases e149; have qi149 : (0 < t141.length) = True := eq_true (by omega); replace hx149_0 := ai_ hx149_0; replace hx149_1 := ai_ hx149_1; replace p149 := eq_true p149; replace q149 := eq_true q149))
          go_ret; exact ⟨re_, hs_⟩
        ·rw [if_neg c11] at H
         have c11b0 : (((rd_T42 t141 0).f0) == 7939) = false := beq_eq_false_iff_ne.mpr c11; have c11b1 : (((rd_T42 t141 0).f0) != 7939) = true := bne_iff_ne.mpr c11; obtain rfl := Option.some.inj H; go_enter Tryd.func7, Tryd.ntmps7; go_wp2_with (first | ((with_reducible refine gC 11 ?_); refine goesL_ (some 8) rfl rfl Tryd.func11 (by kernel_rfl) rfl #[.string ⟨#[49, 57, 56, 52, 115, 52]⟩] rfl ml_ ?_; (with_reducible refine (point_Read.calls k (⟨#[49, 57, 56, 52, 115, 52]⟩ : ByteArray) t135 t136 t137 t138 true _ A1.out).mono ?_); rintro e w39 ⟨rfl, hb⟩; refine ⟨_, rfl, ?_⟩; replace HB := bs_ hb; (try clear hb)) | ((with_reducible refine gD 1 ?_); (try (refine gate_guard (by rfl) ?_; dsimp only)); refine bxe_ 1 z4_ 23 ?_; intro gb140 hg w40 hbox hb; have BK140 := A_ (hbox); have GW140 := gs_ w hg; have GE140 := gs_ w hg; replace HB := bs_ hb; clear hb hbox hg; have Z41 := bz4_ BK140) | ((with_reducible refine gC 14 ?_); refine goesL_ (some 13) rfl rfl Tryd.func14 (by kernel_rfl) rfl #[.agg #[.int .i64 t135, .string t136, .string t137, .string t138]] rfl ml_ ?_; (with_reducible refine (point_Set.calls k t135 t136 t137 t138 t141 t144 _ tl_ A2.out).mono ?_); rintro e w42 ⟨v142, rfl, ho0, hb⟩; refine ⟨_, rfl, ?_⟩; have HO143 := A_ (Kd.V_lower (Kd.V_mono (ok' := fun k_ => k_ ≠ gb140) ho0 (fun k_ hk_ => (fb_ BK140 k_ hk_))) (below_size hs_)); replace BK140 := bp_ BK140 (.cells (n4_ t135 t136 t137 t138) 23 (0, 0)) hb; replace HB := bs_ hb; (try clear hb); (try clear ho0)) | ((with_reducible refine gC 14 ?_); refine goesL_ (some 18) rfl rfl Tryd.func14 (by kernel_rfl) rfl #[.agg #[.int .i64 3, .string ⟨#[88, 88, 88, 88]⟩, .string ⟨#[]⟩, .string ⟨#[]⟩]] rfl ml_ ?_; (with_reducible refine (point_Set.calls k 3 (⟨#[88, 88, 88, 88]⟩ : ByteArray) (⟨#[]⟩ : ByteArray) (⟨#[]⟩ : ByteArray) t145 t148 _ tl_ A3.out).mono ?_); rintro e w43 ⟨v146, rfl, ho0, hb⟩; refine ⟨_, rfl, ?_⟩; replace HO143 := bV_ HO143 hb; have HO147 := A_ (Kd.V_lower (Kd.V_mono (ok' := fun k_ => k_ ≠ gb140) ho0 (fun k_ hk_ => (fb_ BK140 k_ hk_))) (below_size hs_)); replace BK140 := bb_ BK140 hb; replace HB := bs_ hb; (try clear hb); (try clear ho0); have Z44 := bz4_ BK140; obtain ⟨Ao45, co45, eo45⟩ := Kd.V_slice HO143.out; subst eo45; have p149 : 0 ≤ (0 : Int) := (by omega); have q149 : 0 < (t141.length : Int) := od_; obtain ⟨ad149, e149, hx149_0, hx149_1⟩ := at_T42 (Kd.V_reads' HO143.out).2.2 0 p149 q149; cases e149; have qi149 : (0 < t141.length) = True := eq_true (by omega); replace hx149_0 := ai_ hx149_0; replace hx149_1 := ai_ hx149_1; replace p149 := eq_true p149; replace q149 := eq_true q149))
         go_ret; exact ⟨re_, hs_⟩
       ·rw [if_neg c10] at H
        exact absurd H (by simp)
      ·rw [if_neg c9] at H
       have c9b0 : ((t141.length : Int) == 1) = false := beq_eq_false_iff_ne.mpr c9; have c9b1 : ((t141.length : Int) != 1) = true := bne_iff_ne.mpr c9; obtain rfl := Option.some.inj H; go_enter Tryd.func7, Tryd.ntmps7; go_wp2_with (first | ((with_reducible refine gC 11 ?_); refine goesL_ (some 8) rfl rfl Tryd.func11 (by kernel_rfl) rfl #[.string ⟨#[49, 57, 56, 52, 115, 52]⟩] rfl ml_ ?_; (with_reducible refine (point_Read.calls k (⟨#[49, 57, 56, 52, 115, 52]⟩ : ByteArray) t135 t136 t137 t138 true _ A1.out).mono ?_); rintro e w46 ⟨rfl, hb⟩; refine ⟨_, rfl, ?_⟩; replace HB := bs_ hb; (try clear hb)) | ((with_reducible refine gD 1 ?_); (try (refine gate_guard (by rfl) ?_; dsimp only)); refine bxe_ 1 z4_ 23 ?_; intro gb140 hg w47 hbox hb; have BK140 := A_ (hbox); have GW140 := gs_ w hg; have GE140 := gs_ w hg; replace HB := bs_ hb; clear hb hbox hg; have Z48 := bz4_ BK140) | ((with_reducible refine gC 14 ?_); refine goesL_ (some 13) rfl rfl Tryd.func14 (by kernel_rfl) rfl #[.agg #[.int .i64 t135, .string t136, .string t137, .string t138]] rfl ml_ ?_; (with_reducible refine (point_Set.calls k t135 t136 t137 t138 t141 t144 _ tl_ A2.out).mono ?_); rintro e w49 ⟨v142, rfl, ho0, hb⟩; refine ⟨_, rfl, ?_⟩; have HO143 := A_ (Kd.V_lower (Kd.V_mono (ok' := fun k_ => k_ ≠ gb140) ho0 (fun k_ hk_ => (fb_ BK140 k_ hk_))) (below_size hs_)); replace BK140 := bp_ BK140 (.cells (n4_ t135 t136 t137 t138) 23 (0, 0)) hb; replace HB := bs_ hb; (try clear hb); (try clear ho0)) | ((with_reducible refine gC 14 ?_); refine goesL_ (some 18) rfl rfl Tryd.func14 (by kernel_rfl) rfl #[.agg #[.int .i64 3, .string ⟨#[88, 88, 88, 88]⟩, .string ⟨#[]⟩, .string ⟨#[]⟩]] rfl ml_ ?_; (with_reducible refine (point_Set.calls k 3 (⟨#[88, 88, 88, 88]⟩ : ByteArray) (⟨#[]⟩ : ByteArray) (⟨#[]⟩ : ByteArray) t145 t148 _ tl_ A3.out).mono ?_); rintro e w50 ⟨v146, rfl, ho0, hb⟩; refine ⟨_, rfl, ?_⟩; replace HO143 := bV_ HO143 hb; have HO147 := A_ (Kd.V_lower (Kd.V_mono (ok' := fun k_ => k_ ≠ gb140) ho0 (fun k_ hk_ => (fb_ BK140 k_ hk_))) (below_size hs_)); replace BK140 := bb_ BK140 hb; replace HB := bs_ hb; (try clear hb); (try clear ho0); have Z51 := bz4_ BK140; obtain ⟨Ao52, co52, eo52⟩ := Kd.V_slice HO143.out; subst eo52))
       go_ret; exact ⟨re_, hs_⟩
     ·rw [if_neg c8] at H
      have c8b0 : (t144 == 0) = false := beq_eq_false_iff_ne.mpr c8; have c8b1 : (t144 != 0) = true := bne_iff_ne.mpr c8; obtain rfl := Option.some.inj H; go_enter Tryd.func7, Tryd.ntmps7; go_wp2_with (first | ((with_reducible refine gC 11 ?_); refine goesL_ (some 8) rfl rfl Tryd.func11 (by kernel_rfl) rfl #[.string ⟨#[49, 57, 56, 52, 115, 52]⟩] rfl ml_ ?_; (with_reducible refine (point_Read.calls k (⟨#[49, 57, 56, 52, 115, 52]⟩ : ByteArray) t135 t136 t137 t138 true _ A1.out).mono ?_); rintro e w53 ⟨rfl, hb⟩; refine ⟨_, rfl, ?_⟩; replace HB := bs_ hb; (try clear hb)) | ((with_reducible refine gD 1 ?_); (try (refine gate_guard (by rfl) ?_; dsimp only)); refine bxe_ 1 z4_ 23 ?_; intro gb140 hg w54 hbox hb; have BK140 := A_ (hbox); have GW140 := gs_ w hg; have GE140 := gs_ w hg; replace HB := bs_ hb; clear hb hbox hg; have Z55 := bz4_ BK140) | ((with_reducible refine gC 14 ?_); refine goesL_ (some 13) rfl rfl Tryd.func14 (by kernel_rfl) rfl #[.agg #[.int .i64 t135, .string t136, .string t137, .string t138]] rfl ml_ ?_; (with_reducible refine (point_Set.calls k t135 t136 t137 t138 t141 t144 _ tl_ A2.out).mono ?_); rintro e w56 ⟨v142, rfl, ho0, hb⟩; refine ⟨_, rfl, ?_⟩; have HO143 := A_ (Kd.V_lower (Kd.V_mono (ok' := fun k_ => k_ ≠ gb140) ho0 (fun k_ hk_ => (fb_ BK140 k_ hk_))) (below_size hs_)); replace BK140 := bp_ BK140 (.cells (n4_ t135 t136 t137 t138) 23 (0, 0)) hb; replace HB := bs_ hb; (try clear hb); (try clear ho0)) | ((with_reducible refine gC 14 ?_); refine goesL_ (some 18) rfl rfl Tryd.func14 (by kernel_rfl) rfl #[.agg #[.int .i64 3, .string ⟨#[88, 88, 88, 88]⟩, .string ⟨#[]⟩, .string ⟨#[]⟩]] rfl ml_ ?_; (with_reducible refine (point_Set.calls k 3 (⟨#[88, 88, 88, 88]⟩ : ByteArray) (⟨#[]⟩ : ByteArray) (⟨#[]⟩ : ByteArray) t145 t148 _ tl_ A3.out).mono ?_); rintro e w57 ⟨v146, rfl, ho0, hb⟩; refine ⟨_, rfl, ?_⟩; replace HO143 := bV_ HO143 hb; have HO147 := A_ (Kd.V_lower (Kd.V_mono (ok' := fun k_ => k_ ≠ gb140) ho0 (fun k_ hk_ => (fb_ BK140 k_ hk_))) (below_size hs_)); replace BK140 := bb_ BK140 hb; replace HB := bs_ hb; (try clear hb); (try clear ho0); have Z58 := bz4_ BK140))
      go_ret; exact ⟨re_, hs_⟩
    ·rw [if_neg c7] at H
     have c7b0 : (t137.toList == ([52] : List UInt8)) = false := beq_eq_false_iff_ne.mpr c7; have c7b1 : (t137.toList != ([52] : List UInt8)) = true := bne_iff_ne.mpr c7; obtain rfl := Option.some.inj H; go_enter Tryd.func7, Tryd.ntmps7; go_wp2_with (first | ((with_reducible refine gC 11 ?_); refine goesL_ (some 8) rfl rfl Tryd.func11 (by kernel_rfl) rfl #[.string ⟨#[49, 57, 56, 52, 115, 52]⟩] rfl ml_ ?_; (with_reducible refine (point_Read.calls k (⟨#[49, 57, 56, 52, 115, 52]⟩ : ByteArray) t135 t136 t137 t138 true _ A1.out).mono ?_); rintro e w59 ⟨rfl, hb⟩; refine ⟨_, rfl, ?_⟩; replace HB := bs_ hb; (try clear hb)) | ((with_reducible refine gD 1 ?_); (try (refine gate_guard (by rfl) ?_; dsimp only)); refine bxe_ 1 z4_ 23 ?_; intro gb140 hg w60 hbox hb; have BK140 := A_ (hbox); have GW140 := gs_ w hg; have GE140 := gs_ w hg; replace HB := bs_ hb; clear hb hbox hg; have Z61 := bz4_ BK140) | ((with_reducible refine gC 14 ?_); refine goesL_ (some 13) rfl rfl Tryd.func14 (by kernel_rfl) rfl #[.agg #[.int .i64 t135, .string t136, .string t137, .string t138]] rfl ml_ ?_; (with_reducible refine (point_Set.calls k t135 t136 t137 t138 t141 t144 _ tl_ A2.out).mono ?_); rintro e w62 ⟨v142, rfl, ho0, hb⟩; refine ⟨_, rfl, ?_⟩; have HO143 := A_ (Kd.V_lower (Kd.V_mono (ok' := fun k_ => k_ ≠ gb140) ho0 (fun k_ hk_ => (fb_ BK140 k_ hk_))) (below_size hs_)); replace BK140 := bp_ BK140 (.cells (n4_ t135 t136 t137 t138) 23 (0, 0)) hb; replace HB := bs_ hb; (try clear hb); (try clear ho0)) | ((with_reducible refine gC 14 ?_); refine goesL_ (some 18) rfl rfl Tryd.func14 (by kernel_rfl) rfl #[.agg #[.int .i64 3, .string ⟨#[88, 88, 88, 88]⟩, .string ⟨#[]⟩, .string ⟨#[]⟩]] rfl ml_ ?_; (with_reducible refine (point_Set.calls k 3 (⟨#[88, 88, 88, 88]⟩ : ByteArray) (⟨#[]⟩ : ByteArray) (⟨#[]⟩ : ByteArray) t145 t148 _ tl_ A3.out).mono ?_); rintro e w63 ⟨v146, rfl, ho0, hb⟩; refine ⟨_, rfl, ?_⟩; replace HO143 := bV_ HO143 hb; have HO147 := A_ (Kd.V_lower (Kd.V_mono (ok' := fun k_ => k_ ≠ gb140) ho0 (fun k_ hk_ => (fb_ BK140 k_ hk_))) (below_size hs_)); replace BK140 := bb_ BK140 hb; replace HB := bs_ hb; (try clear hb); (try clear ho0); have Z64 := bz4_ BK140))
     go_ret; exact ⟨re_, hs_⟩
   ·rw [if_neg c6] at H
    have c6b0 : (t136.toList == ([49, 57, 56, 52] : List UInt8)) = false := beq_eq_false_iff_ne.mpr c6; have c6b1 : (t136.toList != ([49, 57, 56, 52] : List UInt8)) = true := bne_iff_ne.mpr c6; obtain rfl := Option.some.inj H; go_enter Tryd.func7, Tryd.ntmps7; go_wp2_with (first | ((with_reducible refine gC 11 ?_); refine goesL_ (some 8) rfl rfl Tryd.func11 (by kernel_rfl) rfl #[.string ⟨#[49, 57, 56, 52, 115, 52]⟩] rfl ml_ ?_; (with_reducible refine (point_Read.calls k (⟨#[49, 57, 56, 52, 115, 52]⟩ : ByteArray) t135 t136 t137 t138 true _ A1.out).mono ?_); rintro e w65 ⟨rfl, hb⟩; refine ⟨_, rfl, ?_⟩; replace HB := bs_ hb; (try clear hb)) | ((with_reducible refine gD 1 ?_); (try (refine gate_guard (by rfl) ?_; dsimp only)); refine bxe_ 1 z4_ 23 ?_; intro gb140 hg w66 hbox hb; have BK140 := A_ (hbox); have GW140 := gs_ w hg; have GE140 := gs_ w hg; replace HB := bs_ hb; clear hb hbox hg; have Z67 := bz4_ BK140) | ((with_reducible refine gC 14 ?_); refine goesL_ (some 13) rfl rfl Tryd.func14 (by kernel_rfl) rfl #[.agg #[.int .i64 t135, .string t136, .string t137, .string t138]] rfl ml_ ?_; (with_reducible refine (point_Set.calls k t135 t136 t137 t138 t141 t144 _ tl_ A2.out).mono ?_); rintro e w68 ⟨v142, rfl, ho0, hb⟩; refine ⟨_, rfl, ?_⟩; have HO143 := A_ (Kd.V_lower (Kd.V_mono (ok' := fun k_ => k_ ≠ gb140) ho0 (fun k_ hk_ => (fb_ BK140 k_ hk_))) (below_size hs_)); replace BK140 := bp_ BK140 (.cells (n4_ t135 t136 t137 t138) 23 (0, 0)) hb; replace HB := bs_ hb; (try clear hb); (try clear ho0)) | ((with_reducible refine gC 14 ?_); refine goesL_ (some 18) rfl rfl Tryd.func14 (by kernel_rfl) rfl #[.agg #[.int .i64 3, .string ⟨#[88, 88, 88, 88]⟩, .string ⟨#[]⟩, .string ⟨#[]⟩]] rfl ml_ ?_; (with_reducible refine (point_Set.calls k 3 (⟨#[88, 88, 88, 88]⟩ : ByteArray) (⟨#[]⟩ : ByteArray) (⟨#[]⟩ : ByteArray) t145 t148 _ tl_ A3.out).mono ?_); rintro e w69 ⟨v146, rfl, ho0, hb⟩; refine ⟨_, rfl, ?_⟩; replace HO143 := bV_ HO143 hb; have HO147 := A_ (Kd.V_lower (Kd.V_mono (ok' := fun k_ => k_ ≠ gb140) ho0 (fun k_ hk_ => (fb_ BK140 k_ hk_))) (below_size hs_)); replace BK140 := bb_ BK140 hb; replace HB := bs_ hb; (try clear hb); (try clear ho0); have Z70 := bz4_ BK140))
    go_ret; exact ⟨re_, hs_⟩
  ·rw [if_neg c5] at H
   have c5b0 : (t135 == 2) = false := beq_eq_false_iff_ne.mpr c5; have c5b1 : (t135 != 2) = true := bne_iff_ne.mpr c5; obtain rfl := Option.some.inj H; go_enter Tryd.func7, Tryd.ntmps7; go_wp2_with (first | ((with_reducible refine gC 11 ?_); refine goesL_ (some 8) rfl rfl Tryd.func11 (by kernel_rfl) rfl #[.string ⟨#[49, 57, 56, 52, 115, 52]⟩] rfl ml_ ?_; (with_reducible refine (point_Read.calls k (⟨#[49, 57, 56, 52, 115, 52]⟩ : ByteArray) t135 t136 t137 t138 true _ A1.out).mono ?_); rintro e w71 ⟨rfl, hb⟩; refine ⟨_, rfl, ?_⟩; replace HB := bs_ hb; (try clear hb)) | ((with_reducible refine gD 1 ?_); (try (refine gate_guard (by rfl) ?_; dsimp only)); refine bxe_ 1 z4_ 23 ?_; intro gb140 hg w72 hbox hb; have BK140 := A_ (hbox); have GW140 := gs_ w hg; have GE140 := gs_ w hg; replace HB := bs_ hb; clear hb hbox hg; have Z73 := bz4_ BK140) | ((with_reducible refine gC 14 ?_); refine goesL_ (some 13) rfl rfl Tryd.func14 (by kernel_rfl) rfl #[.agg #[.int .i64 t135, .string t136, .string t137, .string t138]] rfl ml_ ?_; (with_reducible refine (point_Set.calls k t135 t136 t137 t138 t141 t144 _ tl_ A2.out).mono ?_); rintro e w74 ⟨v142, rfl, ho0, hb⟩; refine ⟨_, rfl, ?_⟩; have HO143 := A_ (Kd.V_lower (Kd.V_mono (ok' := fun k_ => k_ ≠ gb140) ho0 (fun k_ hk_ => (fb_ BK140 k_ hk_))) (below_size hs_)); replace BK140 := bp_ BK140 (.cells (n4_ t135 t136 t137 t138) 23 (0, 0)) hb; replace HB := bs_ hb; (try clear hb); (try clear ho0)) | ((with_reducible refine gC 14 ?_); refine goesL_ (some 18) rfl rfl Tryd.func14 (by kernel_rfl) rfl #[.agg #[.int .i64 3, .string ⟨#[88, 88, 88, 88]⟩, .string ⟨#[]⟩, .string ⟨#[]⟩]] rfl ml_ ?_; (with_reducible refine (point_Set.calls k 3 (⟨#[88, 88, 88, 88]⟩ : ByteArray) (⟨#[]⟩ : ByteArray) (⟨#[]⟩ : ByteArray) t145 t148 _ tl_ A3.out).mono ?_); rintro e w75 ⟨v146, rfl, ho0, hb⟩; refine ⟨_, rfl, ?_⟩; replace HO143 := bV_ HO143 hb; have HO147 := A_ (Kd.V_lower (Kd.V_mono (ok' := fun k_ => k_ ≠ gb140) ho0 (fun k_ hk_ => (fb_ BK140 k_ hk_))) (below_size hs_)); replace BK140 := bb_ BK140 hb; replace HB := bs_ hb; (try clear hb); (try clear ho0); have Z76 := bz4_ BK140))
   go_ret; exact ⟨re_, hs_⟩
 ·replace c4 := Bool.eq_false_iff.mpr c4
  subst c4; replace H := iN_ H; obtain rfl := Option.some.inj H; go_enter Tryd.func7, Tryd.ntmps7; go_wp2_with (first | ((with_reducible refine gC 11 ?_); refine goesL_ (some 8) rfl rfl Tryd.func11 (by kernel_rfl) rfl #[.string ⟨#[49, 57, 56, 52, 115, 52]⟩] rfl ml_ ?_; (with_reducible refine (point_Read.calls k (⟨#[49, 57, 56, 52, 115, 52]⟩ : ByteArray) t135 t136 t137 t138 false _ A1.out).mono ?_); rintro e w77 ⟨rfl, hb⟩; refine ⟨_, rfl, ?_⟩; replace HB := bs_ hb; (try clear hb)) | ((with_reducible refine gD 1 ?_); (try (refine gate_guard (by rfl) ?_; dsimp only)); refine bxe_ 1 z4_ 23 ?_; intro gb140 hg w78 hbox hb; have BK140 := A_ (hbox); have GW140 := gs_ w hg; have GE140 := gs_ w hg; replace HB := bs_ hb; clear hb hbox hg; have Z79 := bz4_ BK140) | ((with_reducible refine gC 14 ?_); refine goesL_ (some 13) rfl rfl Tryd.func14 (by kernel_rfl) rfl #[.agg #[.int .i64 t135, .string t136, .string t137, .string t138]] rfl ml_ ?_; (with_reducible refine (point_Set.calls k t135 t136 t137 t138 t141 t144 _ tl_ A2.out).mono ?_); rintro e w80 ⟨v142, rfl, ho0, hb⟩; refine ⟨_, rfl, ?_⟩; have HO143 := A_ (Kd.V_lower (Kd.V_mono (ok' := fun k_ => k_ ≠ gb140) ho0 (fun k_ hk_ => (fb_ BK140 k_ hk_))) (below_size hs_)); replace BK140 := bp_ BK140 (.cells (n4_ t135 t136 t137 t138) 23 (0, 0)) hb; replace HB := bs_ hb; (try clear hb); (try clear ho0)) | ((with_reducible refine gC 14 ?_); refine goesL_ (some 18) rfl rfl Tryd.func14 (by kernel_rfl) rfl #[.agg #[.int .i64 3, .string ⟨#[88, 88, 88, 88]⟩, .string ⟨#[]⟩, .string ⟨#[]⟩]] rfl ml_ ?_; (with_reducible refine (point_Set.calls k 3 (⟨#[88, 88, 88, 88]⟩ : ByteArray) (⟨#[]⟩ : ByteArray) (⟨#[]⟩ : ByteArray) t145 t148 _ tl_ A3.out).mono ?_); rintro e w81 ⟨v146, rfl, ho0, hb⟩; refine ⟨_, rfl, ?_⟩; replace HO143 := bV_ HO143 hb; have HO147 := A_ (Kd.V_lower (Kd.V_mono (ok' := fun k_ => k_ ≠ gb140) ho0 (fun k_ hk_ => (fb_ BK140 k_ hk_))) (below_size hs_)); replace BK140 := bb_ BK140 hb; replace HB := bs_ hb; (try clear hb); (try clear ho0)))
  go_ret; exact ⟨re_, hs_⟩
def lustrumlaw08_PointOnly.T5 : Bool × List (List Nat × List Nat) := (true, [([], []), ([], []), ([1], [1]), ([], []), ([3, 2], [3]), ([0, 2, 4], [0, 2, 4]), ([], []), ([], []), ([7, 4], [7]), ([6, 8], [6, 8]), ([], []), ([10], [10]), ([], []), ([12], [12]), ([13], [13]), ([], []), ([15], [15]), ([16], [16]), ([5, 9, 11, 14, 17], [5, 9, 11, 14, 17]), ([18, 8, 0, 1, 2, 3, 4, 5, 6, 7, 8, 9, 10, 11, 12, 13, 14, 15, 16, 17, 18], [18])])
def lustrumlaw08_PointOnly.B5 : List Nat := [0, 0, 2, 0, 14, 31, 0, 0, 158, 478, 0, 1024, 0, 4096, 12288, 0, 32768, 98304, 262143, 524287]
theorem lustrumlaw08_PointOnly.tab5 : rtab .any (opsOf Tryd.f4 5) = lustrumlaw08_PointOnly.T5 := by kernel_rfl
theorem lustrumlaw08_PointOnly.bits5 : waitsOk lustrumlaw08_PointOnly.T5.2 lustrumlaw08_PointOnly.B5 = true := by kernel_rfl
set_option maxHeartbeats 8000000 in
set_option maxRecDepth 100000 in
theorem lustrumlaw08_PointOnly.calls (k : Nat) (a0 : Int) (r : Bool) (w : World) (hrT_ : r = true) (htab : TL w.heap.size w) (h : lustrumlaw08_PointOnly.f k a0 = some r) :
  Calls Tryd.prog 4 #[.int .i64 a0] w fun e w' => e = .returned (.bool r) ∧ Below w.heap.size w w' := by
 have HTAB := A_ htab; clear htab; have hu23 := Tryd.underlying23; have hu42 := Tryd.underlying42; have HB := A_ (Below.refl w.heap.size w); have H : ((lustrumlaw08_awake.f k).bind fun t140 => ((civil_Date.f k (Int.tmod (Go.bits .and .i64 a0 1073741823) 3652425)).bind fun bt141 => ((lustrumlaw08_digits.f k bt141.1 4).bind fun t144 => ((lustrumlaw08_digits.f k bt141.2.1 2).bind fun t145 => ((lustrumlaw08_digits.f k bt141.2.2 2).bind fun t146 => ((lustrumlaw08_digits.f k bt141.2.1 2).bind fun t147 => (if 0 ≤ 3 then (if 3 ≤ (t144.size : Int) then (if 0 ≤ 2 then (if 2 ≤ (t144.size : Int) then (lustrumlaw08_PointOnly.l0 k t140 (Int.tmod (Go.bits .and .i64 a0 1073741823) 3652425) bt141.2.1 bt141.2.2 t144 (([(⟨0, t144, t145, t146⟩ : S23), (⟨1, t144, t147, (⟨#[]⟩ : ByteArray)⟩ : S23), (⟨3, t144, (⟨#[]⟩ : ByteArray), (⟨#[]⟩ : ByteArray)⟩ : S23), (⟨4, t144.extract 0 3, (⟨#[]⟩ : ByteArray), (⟨#[]⟩ : ByteArray)⟩ : S23), (⟨5, t144.extract 0 2, (⟨#[]⟩ : ByteArray), (⟨#[]⟩ : ByteArray)⟩ : S23)] : List (S23))) 0) else (none)) else (none)) else (none)) else (none)))))))) = some r := h; clear h; obtain ⟨t140, A2, H⟩ := bi_ H; obtain ⟨⟨t141, t142, t143⟩, A3, H⟩ := bi_ H; obtain ⟨t144, A4, H⟩ := bi_ H; obtain ⟨t145, A5, H⟩ := bi_ H; obtain ⟨t146, A6, H⟩ := bi_ H; obtain ⟨t147, A7, H⟩ := bi_ H
 by_cases c8 : 0 ≤ 3
 ·rw [if_pos c8] at H
  have c8b0 := eq_true c8; have c8b1 := decide_eq_true c8; clear c8
  by_cases c9 : 3 ≤ (t144.size : Int)
  ·rw [if_pos c9] at H
   have c9b0 := eq_true c9; have c9b1 := decide_eq_true c9; clear c9
   by_cases c10 : 0 ≤ 2
   ·rw [if_pos c10] at H
    have c10b0 := eq_true c10; have c10b1 := decide_eq_true c10; clear c10
    by_cases c11 : 2 ≤ (t144.size : Int)
    ·rw [if_pos c11] at H
     have c11b0 := eq_true c11; have c11b1 := decide_eq_true c11; clear c11; obtain ⟨y148, hy148⟩ : ∃ y_ : List (S23), y_ = (([(⟨0, t144, t145, t146⟩ : S23), (⟨1, t144, t147, (⟨#[]⟩ : ByteArray)⟩ : S23), (⟨3, t144, (⟨#[]⟩ : ByteArray), (⟨#[]⟩ : ByteArray)⟩ : S23), (⟨4, t144.extract 0 3, (⟨#[]⟩ : ByteArray), (⟨#[]⟩ : ByteArray)⟩ : S23), (⟨5, t144.extract 0 2, (⟨#[]⟩ : ByteArray), (⟨#[]⟩ : ByteArray)⟩ : S23)] : List (S23))) := ⟨_, rfl⟩; (replace H : (lustrumlaw08_PointOnly.l0 k t140 (Int.tmod (Go.bits .and .i64 a0 1073741823) 3652425) t142 t143 t144 y148 0) = some r := by first | (rw [hy148]; with_reducible exact H) | (have H2_ := (Option.bind_some _ _).symm.trans H; rw [hy148]; with_reducible exact H2_) | (have H2_ := (Option.bind_some _ _).symm.trans H; with_reducible exact H2_) | with_reducible exact H | (rw [hy148]; exact H) | exact H); have Ny148 := A_ hy148; clear hy148; have H' := A_ H; clear H; go_enter Tryd.func4, Tryd.ntmps4; (try go_wp2_with (first | ((with_reducible refine gC 7 ?_); refine goesL_ (some 15) rfl rfl Tryd.func7 (by kernel_rfl) rfl #[] rfl ml_ ?_; (with_reducible refine (lustrumlaw08_awake.calls k  t140 _ tl_ A2.out).mono ?_); rintro e w12 ⟨rfl, hb⟩; refine ⟨_, rfl, ?_⟩; replace HB := bs_ hb; (try clear hb)) | ((with_reducible refine gC 12 ?_); refine goesL_ (some 21) rfl rfl Tryd.func12 (by kernel_rfl) rfl #[.int .i64 (Int.tmod (Go.bits .and .i64 a0 1073741823) 3652425)] rfl ml_ ?_; (with_reducible refine (civil_Date.calls k (Int.tmod (Go.bits .and .i64 a0 1073741823) 3652425) t141 t142 t143 _ A3.out).mono ?_); rintro e w' ⟨rfl, ⟨nd, rfl⟩⟩; refine ⟨_, rfl, ?_⟩) | ((with_reducible refine gC 13 ?_); refine goesL_ (some 26) rfl rfl Tryd.func13 (by kernel_rfl) rfl #[.int .i64 t141, .int .i64 4] rfl ml_ ?_; (with_reducible refine (lustrumlaw08_digits.calls k t141 4 t144 _ A4.out).mono ?_); rintro e w13 ⟨rfl, hb⟩; refine ⟨_, rfl, ?_⟩; replace HB := bs_ hb; (try clear hb)))); replace HB := A_ (below_drew1 HB.out); refine start_ (n := 20) (S := fun w' => True) (ds := []) (ab 20 0) (by kernel_rfl) rfl rfl trivial (fun hHeld => ?_); refine with_tabW lustrumlaw08_PointOnly.tab5 lustrumlaw08_PointOnly.bits5 (fun HT_ HW_ => ?_); generalize w13.drew = w14 at HB hHeld ⊢; refine pA 0 27 20 1 ?_; refine pA 1 28 20 3 ?_; refine pA 3 30 20 11 ?_; refine pA 6 33 20 75 ?_; refine pA 7 34 20 203 ?_; refine pA 10 37 20 1227 ?_; refine pA 11 38 20 3275 ?_; refine pA 12 39 20 7371 ?_; refine pA 13 40 20 15563 ?_; refine pA 14 41 20 31947 ?_; refine pA 15 42 20 64715 ?_; refine pA 16 43 20 130251 ?_; refine pA 17 44 20 261323 ?_; refine oA 2 (some 29) 20 261327 fun K hK => ?_; refine goes_ Tryd.func13 (by kernel_rfl) rfl #[.int .i64 t142, .int .i64 2] (by rfl) rfl rfl ml_ ?_; (with_reducible refine (lustrumlaw08_digits.calls k t142 2 t145 _ A5.out).mono ?_); rintro e w15 ⟨rfl, hb⟩; refine ⟨_, rfl, ?_⟩; replace HB := bs_ hb; (try clear hb); refine hK.out _ _ trivial (fun hHeld => ?_); clear hK K; refine nA ?_; refine oA 4 (some 31) 20 261343 fun K hK => ?_; refine goes_ Tryd.func13 (by kernel_rfl) rfl #[.int .i64 t143, .int .i64 2] (by rfl) rfl rfl ml_ ?_; (with_reducible refine (lustrumlaw08_digits.calls k t143 2 t146 _ A6.out).mono ?_); rintro e w16 ⟨rfl, hb⟩; refine ⟨_, rfl, ?_⟩; replace HB := bs_ hb; (try clear hb); refine hK.out _ _ trivial (fun hHeld => ?_); clear hK K; refine nA ?_; refine pA 5 32 20 261375 ?_; refine oA 8 (some 35) 20 261631 fun K hK => ?_
     refine goes_ Tryd.func13 (by kernel_rfl) rfl #[.int .i64 t142, .int .i64 2] (by rfl) rfl rfl ml_ ?_; (with_reducible refine (lustrumlaw08_digits.calls k t142 2 t147 _ A7.out).mono ?_); rintro e w17 ⟨rfl, hb⟩; refine ⟨_, rfl, ?_⟩; replace HB := bs_ hb; (try clear hb); refine hK.out _ _ trivial (fun hHeld => ?_); clear hK K; refine nA ?_; refine pA 9 36 20 262143 ?_; refine oA 18 (some 45) 20 524287 fun K hK => ?_; refine Kd.R_lit_step k23 _ 23 ?hg (N := 45) ?hd (xs := ([(⟨0, t144, t145, t146⟩ : S23), (⟨1, t144, t147, (⟨#[]⟩ : ByteArray)⟩ : S23), (⟨3, t144, (⟨#[]⟩ : ByteArray), (⟨#[]⟩ : ByteArray)⟩ : S23), (⟨4, t144.extract 0 3, (⟨#[]⟩ : ByteArray), (⟨#[]⟩ : ByteArray)⟩ : S23), (⟨5, t144.extract 0 2, (⟨#[]⟩ : ByteArray), (⟨#[]⟩ : ByteArray)⟩ : S23)] : List (S23))) (inner := [.int .i64 0, .string t144, .string t145, .string t146, .int .i64 1, .string t144, .string t147, .string ⟨#[]⟩, .int .i64 3, .string t144, .string ⟨#[]⟩, .string ⟨#[]⟩, .int .i64 4, .string (t144.extract 0 3), .string ⟨#[]⟩, .string ⟨#[]⟩, .int .i64 5, .string (t144.extract 0 2), .string ⟨#[]⟩, .string ⟨#[]⟩]) (ok := fun _ => True) (okp := fun _ => True) ?hr ?hp (fun _ hk => hk) trivial (Below.refl _ _) (Nat.le_refl _) (by simp) ?_; (case hd => rfl); (case hg => rfl); (case hr => first | (go_simp; done) | (go_simp; rfl)); (case hp => exact (Reps.c4 (show Kd.M k23 _ _ _ (⟨0, t144, t145, t146⟩ : S23) [.int .i64 0, .string t144, .string t145, .string t146] from (k23_mkM _ _ _ (⟨0, t144, t145, t146⟩ : S23) )) (Reps.c4 (show Kd.M k23 _ _ _ (⟨1, t144, t147, (⟨#[]⟩ : ByteArray)⟩ : S23) [.int .i64 1, .string t144, .string t147, .string ⟨#[]⟩] from (k23_mkM _ _ _ (⟨1, t144, t147, (⟨#[]⟩ : ByteArray)⟩ : S23) )) (Reps.c4 (show Kd.M k23 _ _ _ (⟨3, t144, (⟨#[]⟩ : ByteArray), (⟨#[]⟩ : ByteArray)⟩ : S23) [.int .i64 3, .string t144, .string ⟨#[]⟩, .string ⟨#[]⟩] from (k23_mkM _ _ _ (⟨3, t144, (⟨#[]⟩ : ByteArray), (⟨#[]⟩ : ByteArray)⟩ : S23) )) (Reps.c4 (show Kd.M k23 _ _ _ (⟨4, t144.extract 0 3, (⟨#[]⟩ : ByteArray), (⟨#[]⟩ : ByteArray)⟩ : S23) [.int .i64 4, .string (t144.extract 0 3), .string ⟨#[]⟩, .string ⟨#[]⟩] from (k23_mkM _ _ _ (⟨4, t144.extract 0 3, (⟨#[]⟩ : ByteArray), (⟨#[]⟩ : ByteArray)⟩ : S23) )) (Reps.c4 (show Kd.M k23 _ _ _ (⟨5, t144.extract 0 2, (⟨#[]⟩ : ByteArray), (⟨#[]⟩ : ByteArray)⟩ : S23) [.int .i64 5, .string (t144.extract 0 2), .string ⟨#[]⟩, .string ⟨#[]⟩] from (k23_mkM _ _ _ (⟨5, t144.extract 0 2, (⟨#[]⟩ : ByteArray), (⟨#[]⟩ : ByteArray)⟩ : S23) )) (Reps.none _ _))))))); intro v149 w18 ho19 hb hg_ hnew_; clear hg_ hnew_; (first | rw [← Ny148.out] at ho19 | (simp only [Int.reduceToNat] at ho19; rw [← Ny148.out] at ho19)); have HO150 := A_ (Kd.R_lower ho19 (below_size hs_)); replace HB := bs_ hb; clear hb ho19; refine hK.out _ _ trivial (fun hHeld => ?_); clear hK K; refine nA ?_; refine pA 19 9 20 1048575 ?_; refine done_ (done_of HT_.out (by kernel_rfl)) ?_; (try go_wp2); go_loopg [10] k (fun kq v10 w' => ∃ (x10_1 : Int), v10 = .int .i64 x10_1 ∧ Aside0 (lustrumlaw08_PointOnly.l0 kq t140 (Int.tmod (Go.bits .and .i64 a0 1073741823) 3652425) t142 t143 t144 y148 x10_1 = some r) ∧ Aside0 (kq ≤ k) ∧ Aside0 (Kd.R k23 23 w' w.heap.size (fun _ => True) v149 y148) ∧ Aside0 (Below w.heap.size w w'))
     case atStart => exact ⟨(0), rf_, H', ⟨Nat.le_refl _⟩, ⟨fxR_ HO150.out⟩, ⟨hs_⟩⟩
     case round =>
      clear H'; (try clear c1); (try clear p2); (try clear c4); (try clear c7); (try clear c8); (try clear c8b0); (try clear c8b1); (try clear c9); (try clear c9b0); (try clear c9b1); (try clear c10); (try clear c10b0); (try clear c10b1); (try clear c11); (try clear c11b0); (try clear c11b1); (try clear c12); (try clear c13); obtain ⟨x10_1, rfl, HA, HK1, HO_9, HB⟩ := hrel
      cases gk with
      | zero => exact absurd HA.out (by simp [lustrumlaw08_PointOnly.l0])
      | succ k1 =>
       have H := HA.out; clear HA; simp only [lustrumlaw08_PointOnly.l0] at H
       by_cases c20 : x10_1 < (y148.length : Int)
       ·rw [if_pos c20] at H
        have c20b0 := decide_eq_true c20; clear c20
        by_cases c21 : 0 ≤ x10_1
        ·rw [if_pos c21] at H
         have c21b0 := decide_eq_true c21; clear c21; obtain ⟨⟨t156, t159⟩, A22, H⟩ := bi_ H; obtain ⟨⟨t161, t162⟩, A23, H⟩ := bi_ H
         by_cases c24 : t159 = 0
         ·rw [if_pos c24] at H
          have c24b0 : (t159 == 0) = true := beq_iff_eq.mpr c24; have c24b1 : (t159 != 0) = false := bne_eq_false_iff_eq.mpr c24; clear c24
          by_cases c25 : t162 = true
          ·subst c25
           replace H := iP_ H; obtain ⟨y163, hy163⟩ : ∃ y_ : List (S42), y_ = (([(⟨t161, t161⟩ : S42)] : List (S42))) := ⟨_, rfl⟩; (replace H : ((lustrumref04_Same.f k1 t156 y163).bind fun t166 => (if t166 = true then (lustrumlaw08_PointOnly.l0 k1 t140 (Int.tmod (Go.bits .and .i64 a0 1073741823) 3652425) t142 t143 t144 y148 (wrap64 (x10_1 + 1))) else (some false))) = some r := by first | (rw [hy163]; with_reducible exact H) | (have H2_ := (Option.bind_some _ _).symm.trans H; rw [hy163]; with_reducible exact H2_) | (have H2_ := (Option.bind_some _ _).symm.trans H; with_reducible exact H2_) | with_reducible exact H | (rw [hy163]; exact H) | exact H); have Ny163 := A_ hy163; clear hy163; obtain ⟨t166, A26, H⟩ := bi_ H
           by_cases c27 : t166 = true
           ·subst c27
            replace H := iP_ H; have H' := A_ H; clear H; obtain ⟨Ao28, co28, eo28⟩ := Kd.R_slice HO_9.out; subst eo28; have p155 : 0 ≤ (x10_1 : Int) := od_; have q155 : x10_1 < (y148.length : Int) := od_; obtain ⟨ad155, e155, hx155_0, hx155_1, hx155_2, hx155_3⟩ := at_T23 (Kd.R_reads' HO_9.out).2.2 x10_1 p155 q155
            cases e155
            replace p155 := eq_true p155; replace q155 := eq_true q155; go_wp2_with (first | ((with_reducible refine gC 14 ?_); refine goesL_ (some 57) rfl rfl Tryd.func14 (by kernel_rfl) rfl #[.agg #[.int .i64 ((rd_T23 y148 x10_1).f0), .string ((rd_T23 y148 x10_1).f1), .string ((rd_T23 y148 x10_1).f2), .string ((rd_T23 y148 x10_1).f3)]] rfl ml_ ?_; (with_reducible refine (point_Set.calls k1 ((rd_T23 y148 x10_1).f0) ((rd_T23 y148 x10_1).f1) ((rd_T23 y148 x10_1).f2) ((rd_T23 y148 x10_1).f3) t156 t159 _ tl_ A22.out).mono ?_); rintro e w29 ⟨v157, rfl, ho0, hb⟩; refine ⟨_, rfl, ?_⟩; have HO158 := A_ (Kd.V_lower (Kd.V_mono (ok' := fun k_ => nv_ k_ (.slice (some ad155) y148.length co28)) ho0 (fun k_ hk_ => (Kd.fresh' (Kd.R_lt (fxR_ HO_9.out)) k_ hk_))) (below_size hs_)); replace HO_9 := A_ (Kd.R_below (fxR_ HO_9.out) hb); replace HB := bs_ hb; (try clear hb); (try clear ho0); have p160 : 0 ≤ (x10_1 : Int) := od_; have q160 : x10_1 < (y148.length : Int) := od_; obtain ⟨ad160, e160, hx160_0, hx160_1, hx160_2, hx160_3⟩ := at_T23 (Kd.R_reads' HO_9.out).2.2 x10_1 p160 q160; obtain rfl : ad155 = ad160 := (by injection e160); replace p160 := eq_true p160; replace q160 := eq_true q160) | ((with_reducible refine gC 15 ?_); refine goesL_ (some 67) rfl rfl Tryd.func15 (by kernel_rfl) rfl #[.int .i64 ((rd_T23 y148 x10_1).f0), .int .i64 (Int.tmod (Go.bits .and .i64 a0 1073741823) 3652425)] rfl ml_ ?_; (with_reducible refine (unit_Of.calls k1 ((rd_T23 y148 x10_1).f0) (Int.tmod (Go.bits .and .i64 a0 1073741823) 3652425) t161 true _ A23.out).mono ?_); rintro e w30 ⟨rfl, hb⟩; refine ⟨_, rfl, ?_⟩; replace HO_9 := A_ (Kd.R_below (fxR_ HO_9.out) hb); replace HO158 := bV_ HO158 hb; replace HB := bs_ hb; (try clear hb)) | ((with_reducible refine gD 81 ?_); (try (refine gate_guard (by rfl) ?_; dsimp only)); refine Kd.R_lit k42 _ 42 ?hg (N := 81) ?hd (xs := ([(⟨t161, t161⟩ : S42)] : List (S42))) (inner := [.int .i64 t161, .int .i64 t161]) (ok := fun _ => True) (okp := fun _ => True) ?hr ?hp (fun _ hk => hk) trivial (Below.refl _ _) (Nat.le_refl _) (by simp) ?_; (case hd => rfl); (case hg => rfl); (case hr => first | (go_simp; done) | (go_simp; rfl)); (case hp => exact (Reps.c2 (show Kd.M k42 _ _ _ (⟨t161, t161⟩ : S42) [.int .i64 t161, .int .i64 t161] from (k42_mkM _ _ _ (⟨t161, t161⟩ : S42) )) (Reps.none _ _))); intro v164 w31 ho32 hb hg_ hnew_; clear hg_ hnew_; (first | rw [← Ny163.out] at ho32 | (simp only [Int.reduceToNat] at ho32; rw [← Ny163.out] at ho32)); replace HO_9 := A_ (Kd.R_below (fxR_ HO_9.out) hb); replace HO158 := A_ (Kd.V_elder' (fxV_ HO158.out) (Kd.R_base ho32) hb); have HO165 := A_ (Kd.R_lower ho32 (below_size hs_)); replace HB := bs_ hb; clear hb ho32; obtain ⟨Ao33, co33, eo33⟩ := Kd.V_slice HO158.out; subst eo33; obtain ⟨Ao34, co34, eo34⟩ := Kd.R_slice HO165.out; subst eo34) | (go_at_call 16; (with_reducible refine (lustrumref04_Same.calls k1 _ _ t156 _ _ y163 true _ ?side1 ?side2 ?side3 ?side4 A26.out).mono ?_); (case side1 => repeat (first | exact (Kd.V_reads' HO158.out).2.2 | (with_reducible refine Kd.C_alloc ?_ _) | (with_reducible refine Kd.C_drewN ?_ _) | (with_reducible refine Kd.C_drew ?_))); (case side2 => exact (Kd.V_reads' HO158.out).2.1); (case side3 => repeat (first | exact (Kd.R_reads' HO165.out).2.2 | (with_reducible refine Kd.C_alloc ?_ _) | (with_reducible refine Kd.C_drewN ?_ _) | (with_reducible refine Kd.C_drew ?_))); (case side4 => exact (Kd.R_reads' HO165.out).2.1); rintro e w' ⟨rfl, ⟨nd, rfl⟩⟩))
            go_roundg k1
            case measure => have := HK1.out; omega
            case rel => exact ⟨(wrap64 (x10_1 + 1)), rf_, H', ⟨by have := HK1.out; omega⟩, ⟨fxR_ HO_9.out⟩, ⟨hs_⟩⟩
           ·replace c27 := Bool.eq_false_iff.mpr c27
            subst c27; replace H := iN_ H; exact absurd ((Option.some.inj H).trans hrT_) (by decide)
          ·replace c25 := Bool.eq_false_iff.mpr c25
           subst c25; replace H := iN_ H; exact absurd ((Option.some.inj H).trans hrT_) (by decide)
         ·rw [if_neg c24] at H
          have c24b0 : (t159 == 0) = false := beq_eq_false_iff_ne.mpr c24; have c24b1 : (t159 != 0) = true := bne_iff_ne.mpr c24; exact absurd ((Option.some.inj H).trans hrT_) (by decide)
        ·rw [if_neg c21] at H
         exact absurd H (by simp)
       ·rw [if_neg c20] at H
        have c20b0 := decide_eq_false c20; clear c20
        by_cases c48 : t140 = true
        ·subst c48
         replace H := iP_ H
         by_cases c49 : 0 < (y148.length : Int)
         ·rw [if_pos c49] at H
          have c49b0 := decide_eq_true c49; have c49b1 : decide (0 < y148.length) = true := decide_eq_true (by omega); clear c49; obtain ⟨t152, A50, H⟩ := bi_ H
          by_cases c51 : t144.size + 1 ≤ 9223372036854775807
          ·rw [if_pos c51] at H
           have c51b0 := eq_true c51; have c51b1 := decide_eq_true c51; (try have c51b2 : (9223372036854775807 < t144.size + 1) = False := eq_false (Nat.not_lt.2 c51)); obtain ⟨t153, A52, H⟩ := bi_ H
           by_cases c53 : (t144 ++ (⟨#[45]⟩ : ByteArray)).size + t153.size ≤ 9223372036854775807
           ·rw [if_pos c53] at H
            have c53b0 := eq_true c53; have c53b1 := decide_eq_true c53; have c53b3 : (9223372036854775807 < t144.size + 1 + t153.size) = False := eq_false (by have h_ := c53; rw [ByteArray.size_append] at h_; have h1_ : (⟨#[45]⟩ : ByteArray).size = 1 := rfl; omega); (try have c53b2 : (9223372036854775807 < (t144 ++ (⟨#[45]⟩ : ByteArray)).size + t153.size) = False := eq_false (Nat.not_lt.2 c53))
            by_cases c54 : ((t144 ++ (⟨#[45]⟩ : ByteArray)) ++ t153).size + 1 ≤ 9223372036854775807
            ·rw [if_pos c54] at H
             have c54b0 := eq_true c54; have c54b1 := decide_eq_true c54; have c54b3 : (9223372036854775807 < t144.size + 1 + t153.size + 1) = False := eq_false (by have h_ := c54; rw [ByteArray.size_append, ByteArray.size_append] at h_; have h1_ : (⟨#[45]⟩ : ByteArray).size = 1 := rfl; omega); (try have c54b2 : (9223372036854775807 < ((t144 ++ (⟨#[45]⟩ : ByteArray)) ++ t153).size + 1) = False := eq_false (Nat.not_lt.2 c54)); obtain ⟨t154, A55, H⟩ := bi_ H
             by_cases c56 : (((t144 ++ (⟨#[45]⟩ : ByteArray)) ++ t153) ++ (⟨#[45]⟩ : ByteArray)).size + t154.size ≤ 9223372036854775807
             ·rw [if_pos c56] at H
              have c56b0 := eq_true c56; have c56b1 : decide ((((t144 ++ (⟨#[45]⟩ : ByteArray)) ++ t153) ++ (⟨#[45]⟩ : ByteArray)).size + t154.size ≤ 9223372036854775807) = true := decide_eq_true c56; have c56b3 : (9223372036854775807 < t144.size + 1 + t153.size + 1 + t154.size) = False := eq_false (by have h_ := c56; rw [ByteArray.size_append, ByteArray.size_append, ByteArray.size_append] at h_; have h1_ : (⟨#[45]⟩ : ByteArray).size = 1 := rfl; omega); (try have c56b2 : (9223372036854775807 < (((t144 ++ (⟨#[45]⟩ : ByteArray)) ++ t153) ++ (⟨#[45]⟩ : ByteArray)).size + t154.size) = False := eq_false (Nat.not_lt.2 c56)); obtain rfl := Option.some.inj H; clear hrT_; obtain ⟨Ao57, co57, eo57⟩ := Kd.R_slice HO_9.out; subst eo57; have p151 : 0 ≤ (0 : Int) := (by omega); have q151 : 0 < (y148.length : Int) := od_; obtain ⟨ad151, e151, hx151_0, hx151_1, hx151_2, hx151_3⟩ := at_T23 (Kd.R_reads' HO_9.out).2.2 0 p151 q151
              cases e151
              have qi151 : (0 < y148.length) = True := eq_true (by omega); replace hx151_0 := ai_ hx151_0; replace hx151_1 := ai_ hx151_1; replace hx151_2 := ai_ hx151_2; replace hx151_3 := ai_ hx151_3; replace p151 := eq_true p151; replace q151 := eq_true q151; go_wp2_with (first | (go_at_call 9; (with_reducible refine (point_Text.calls k1 ((rd_T23 y148 0).f0) ((rd_T23 y148 0).f1) ((rd_T23 y148 0).f2) ((rd_T23 y148 0).f3) t152 _ A50.out).mono ?_); rintro e w58 ⟨rfl, hb⟩; replace HO_9 := A_ (Kd.R_below (fxR_ HO_9.out) hb); replace HB := bs_ hb; (try clear hb)) | (go_at_call 13; (with_reducible refine (lustrumlaw08_digits.calls k1 t142 2 t153 _ A52.out).mono ?_); rintro e w59 ⟨rfl, hb⟩; replace HO_9 := A_ (Kd.R_below (fxR_ HO_9.out) hb); replace HB := bs_ hb; (try clear hb)) | (go_at_call 13; (with_reducible refine (lustrumlaw08_digits.calls k1 t143 2 t154 _ A55.out).mono ?_); rintro e w60 ⟨rfl, hb⟩; replace HO_9 := A_ (Kd.R_below (fxR_ HO_9.out) hb); replace HB := bs_ hb; (try clear hb))); go_ret; exact ⟨re_, hs_⟩
             ·rw [if_neg c56] at H
              exact absurd H (by simp)
            ·rw [if_neg c54] at H
             exact absurd H (by simp)
           ·rw [if_neg c53] at H
            exact absurd H (by simp)
          ·rw [if_neg c51] at H
           exact absurd H (by simp)
         ·rw [if_neg c49] at H
          exact absurd H (by simp)
        ·replace c48 := Bool.eq_false_iff.mpr c48
         subst c48; replace H := iN_ H; exact absurd ((Option.some.inj H).trans hrT_) (by decide)
    ·rw [if_neg c11] at H
     exact absurd H (by simp)
   ·rw [if_neg c10] at H
    exact absurd H (by simp)
  ·rw [if_neg c9] at H
   exact absurd H (by simp)
 ·rw [if_neg c8] at H
  exact absurd H (by simp)
theorem Ev.ift {α : Type} {c : Prop} [Decidable c] {g f : Nat → Option α} {r : α} (hc : c) (h : Ev g r) : Ev (fun k => if c then g k else f k) r := Ev.congr (fun k => if_pos hc) h
theorem Ev.iff_ {α : Type} {c : Prop} [Decidable c] {g f : Nat → Option α} {r : α} (hc : ¬ c) (h : Ev f r) : Ev (fun k => if c then g k else f k) r := Ev.congr (fun k => if_neg hc) h
theorem Ev.bnow {α β : Type} {a : Option α} {f : Nat → α → Option β} {x : α} {r : β} (h : a = some x) (k : Ev (fun n => f n x) r) : Ev (fun n => a.bind (f n)) r := Ev.congr (fun n => by rw [h]; rfl) k
theorem sane_all {l : List UInt8} (h : saneL l = true) : l.all okB = true ∧ l ≠ [] ∧ l.length ≤ 4 := by
  unfold saneL at h
  simp only [Bool.and_eq_true, decide_eq_true_eq] at h
  exact ⟨h.1.1, h.1.2, h.2⟩
theorem sane_of {l : List UInt8} (h1 : l.all okB = true) (h2 : l ≠ []) (h3 : l.length ≤ 4) : saneL l = true := by
  unfold saneL; rw [h1, decide_eq_true h2, decide_eq_true h3]; rfl
theorem bsize (s : ByteArray) : s.size = s.data.toList.length := by simp
theorem Sane_l0 : ∀ (t p : List S42) (last : Int), (p ++ t).length ≤ 4611686018427387904 → -lim - 2 ≤ last → last ≤ lim →
    ∃ b, Ev (fun k => runs_Sane.l0 k last (p ++ t) ((p ++ t).length : Int) (p.length : Int)) b ∧ (b = true ↔ saneF last t)
  | [], p, last, _, _, _ => ⟨true, Ev.step (f := fun _ => some true) (fun k => by simp only [runs_Sane.l0]; rw [if_neg (at_end p)]) (Ev.now true), by simp [saneF]⟩
  | r :: t, p, last, hn, h1, h2 => by
    have e : ∀ k, runs_Sane.l0 (k + 1) last (p ++ r :: t) ((p ++ r :: t).length : Int) (p.length : Int) = (if r.f0 > r.f1 then some false else if r.f0 < last + 2 then some false else if r.f1 > 1099511627776 then some false else runs_Sane.l0 k r.f1 (p ++ r :: t) ((p ++ r :: t).length : Int) ((p ++ [r]).length : Int)) := fun k => by
      simp only [runs_Sane.l0]
      rw [if_pos (at_lt p r t), if_pos (at_0 p), if_pos (at_lt p r t), at_rd, at_next hn, w64 (by unfold lim at h1; omega) (by unfold lim at h2; omega)]
    by_cases c1 : r.f0 > r.f1
    · exact ⟨false, Ev.step (f := fun _ => some false) (fun k => by rw [e, if_pos c1]) (Ev.now _), by simp [saneF]; omega⟩
    by_cases c2 : r.f0 < last + 2
    · exact ⟨false, Ev.step (f := fun _ => some false) (fun k => by rw [e, if_neg c1, if_pos c2]) (Ev.now _), by simp [saneF]; omega⟩
    by_cases c3 : r.f1 > 1099511627776
    · exact ⟨false, Ev.step (f := fun _ => some false) (fun k => by rw [e, if_neg c1, if_neg c2, if_pos c3]) (Ev.now _), by simp [saneF, lim]; omega⟩
    obtain ⟨b, hb, hs⟩ := Sane_l0 t (p ++ [r]) r.f1 (by rw [← at_app]; exact hn) (by omega) (by unfold lim; omega)
    rw [← at_app] at hb
    refine ⟨b, Ev.step (fun k => by rw [e, if_neg c1, if_neg c2, if_neg c3]) hb, ?_⟩
    rw [hs, saneF]
    unfold lim
    exact ⟨fun h => ⟨by omega, by omega, by omega, h⟩, fun h => h.2.2.2⟩
theorem Sane_f (l : List S42) (hn : l.length ≤ 4611686018427387904) : ∃ b, Ev (fun k => runs_Sane.f k l) b ∧ (b = true ↔ sane l) := by
  obtain ⟨b, hb, hs⟩ := Sane_l0 l [] (-lim - 2) (by simpa using hn) (by omega) (by unfold lim; omega)
  exact ⟨b, hb, hs⟩
theorem mx_max (a b : Int) : mx a b = max a b := by unfold mx; omega
theorem mn_min (a b : Int) : mn a b = min a b := by unfold mn; omega
theorem sknown_s {l : List S42} (hs : sane l) (hn : l.length < 4398046511104) : Ev (fun k => sets_known.f k l) l := by
  obtain ⟨b, hb, h⟩ := Sane_f l (by omega)
  obtain rfl := h.2 hs
  exact Ev.bind hb (Ev.ift rfl (Ev.now _))
theorem mem_one (r : S42) (n : Int) : mem [r] n ↔ r.f0 ≤ n ∧ n ≤ r.f1 := by rw [mem_cons]; simp [mem_nil]
def both (r q : S42) : S42 := ⟨max r.f0 q.f0, min r.f1 q.f1⟩
def meet2 : List S42 → List S42 → List S42
  | [], _ => []
  | _ :: _, [] => []
  | r :: s, q :: t => (if (both r q).f0 ≤ (both r q).f1 then [both r q] else []) ++ (if r.f1 < q.f1 then meet2 s (q :: t) else meet2 (r :: s) t)
termination_by s t => s.length + t.length
theorem meet2_nil (s : List S42) : meet2 s [] = [] := by cases s <;> simp [meet2]
theorem meet2_cons (r : S42) (s : List S42) (q : S42) (t : List S42) : meet2 (r :: s) (q :: t) = (if (both r q).f0 ≤ (both r q).f1 then [both r q] else []) ++ (if r.f1 < q.f1 then meet2 s (q :: t) else meet2 (r :: s) t) := by rw [meet2]
theorem meet2_len : ∀ (m : Nat) (s t : List S42), s.length + t.length = m → (meet2 s t).length ≤ s.length + t.length
  | _, [], t, _ => by simp [meet2]
  | _, s, [], _ => by simp [meet2_nil]
  | m + 1, r :: s, q :: t, e => by
    simp only [List.length_cons] at e
    rw [meet2_cons, List.length_append]
    have h1 : (if (both r q).f0 ≤ (both r q).f1 then [both r q] else []).length ≤ 1 := by split <;> simp
    by_cases c : r.f1 < q.f1
    · rw [if_pos c]
      have := meet2_len m s (q :: t) (by simp only [List.length_cons]; omega)
      simp only [List.length_cons] at this ⊢
      omega
    · rw [if_neg c]
      have := meet2_len m (r :: s) t (by simp only [List.length_cons]; omega)
      simp only [List.length_cons] at this ⊢
      omega
theorem meet2_sane : ∀ (m : Nat) (s t : List S42) (a b : Int), s.length + t.length = m → saneF a s → saneF b t → saneF (max a b) (meet2 s t)
  | _, [], t, _, _, _, _, _ => by simp [meet2, saneF]
  | _, s, [], _, _, _, _, _ => by simp [meet2_nil, saneF]
  | m + 1, r :: s, q :: t, a, b, e, hs, ht => by
    simp only [List.length_cons] at e
    obtain ⟨r1, r2, r3, r4⟩ := hs
    obtain ⟨q1, q2, q3, q4⟩ := ht
    have ht : saneF (if r.f1 < q.f1 then max r.f1 b else max a q.f1) (if r.f1 < q.f1 then meet2 s (q :: t) else meet2 (r :: s) t) := by
      split
      · exact meet2_sane m s (q :: t) _ _ (by simp only [List.length_cons]; omega) r4 ⟨q1, q2, q3, q4⟩
      · exact meet2_sane m (r :: s) t _ _ (by simp only [List.length_cons]; omega) ⟨r1, r2, r3, r4⟩ q4
    rw [meet2_cons]
    by_cases c : (both r q).f0 ≤ (both r q).f1
    · rw [if_pos c]
      simp only [both] at c
      refine ⟨by simp only [both]; omega, by simp only [both]; exact c, by simp only [both]; omega, saneF_le ht ?_⟩
      simp only [both]
      split <;> omega
    · rw [if_neg c, List.nil_append]
      refine saneF_le ht ?_
      split <;> omega
theorem meet2_mem : ∀ (m : Nat) (s t : List S42) (a b : Int), s.length + t.length = m → saneF a s → saneF b t → ∀ n, mem (meet2 s t) n ↔ mem s n ∧ mem t n
  | _, [], t, _, _, _, _, _, n => by simp [meet2, mem_nil]
  | _, s, [], _, _, _, _, _, n => by simp [meet2_nil, mem_nil]
  | m + 1, r :: s, q :: t, a, b, e, hs, ht, n => by
    simp only [List.length_cons] at e
    have hs0 := hs; have ht0 := ht
    obtain ⟨r1, r2, r3, r4⟩ := hs
    obtain ⟨q1, q2, q3, q4⟩ := ht
    have ho : mem (if (both r q).f0 ≤ (both r q).f1 then [both r q] else []) n ↔ (r.f0 ≤ n ∧ n ≤ r.f1) ∧ q.f0 ≤ n ∧ n ≤ q.f1 := by
      by_cases c : (both r q).f0 ≤ (both r q).f1
      · rw [if_pos c, mem_one]; simp only [both]; omega
      · rw [if_neg c]; simp only [both] at c; constructor
        · exact fun h => absurd h (mem_nil _)
        · intro h; omega
    rw [meet2_cons, mem_append, ho]
    by_cases c : r.f1 < q.f1
    · rw [if_pos c, meet2_mem m s (q :: t) _ _ (by simp only [List.length_cons]; omega) r4 ht0 n, mem_cons, mem_cons]
      have h1 : mem t n → q.f1 + 2 ≤ n := fun h => (saneF_mem q4 h).1
      constructor
      · rintro (h | h)
        · exact ⟨.inl h.1, .inl h.2⟩
        · exact ⟨.inr h.1, h.2⟩
      · rintro ⟨h | h, h'⟩
        · rcases h' with h' | h'
          · exact .inl ⟨h, h'⟩
          · have := h1 h'; omega
        · exact .inr ⟨h, h'⟩
    · rw [if_neg c, meet2_mem m (r :: s) t _ _ (by simp only [List.length_cons]; omega) hs0 q4 n, mem_cons, mem_cons]
      have h1 : mem s n → r.f1 + 2 ≤ n := fun h => (saneF_mem r4 h).1
      constructor
      · rintro (h | h)
        · exact ⟨.inl h.1, .inl h.2⟩
        · exact ⟨h.1, .inr h.2⟩
      · rintro ⟨h, h' | h'⟩
        · rcases h with h | h
          · exact .inl ⟨h, h'⟩
          · have := h1 h; omega
        · exact .inr ⟨h, h'⟩
theorem Meet_l0 : ∀ (m : Nat) (s t p q acc : List S42), s.length + t.length = m → (p ++ s).length < 4398046511104 → (q ++ t).length < 4398046511104 → acc.length + s.length + t.length < 8796093022208 →
    Ev (fun k => sets_Meet.l0 k (p ++ s) (q ++ t) acc (p.length : Int) (q.length : Int)) (acc ++ meet2 s t)
  | _, [], t, p, q, acc, _, _, _, _ => by
    refine Ev.step (f := fun k => sets_Meet.j1 k (p ++ []) (q ++ t) acc (p.length : Int) (q.length : Int) false) (fun k => by rw [sets_Meet.l0, if_neg (at_end p)]) ?_
    refine Ev.step (f := fun _ => some (acc ++ meet2 [] t)) (fun k => by rw [sets_Meet.j1, if_neg (by simp)]; simp [meet2]) (Ev.now _)
  | _, r :: s, [], p, q, acc, _, _, _, _ => by
    refine Ev.step (f := fun k => sets_Meet.j1 k (p ++ r :: s) (q ++ []) acc (p.length : Int) (q.length : Int) false) (fun k => by rw [sets_Meet.l0, if_pos (at_lt p r s), decide_eq_false (at_end q)]) ?_
    refine Ev.step (f := fun _ => some (acc ++ meet2 (r :: s) [])) (fun k => by rw [sets_Meet.j1, if_neg (by simp)]; simp [meet2_nil]) (Ev.now _)
  | m + 1, r :: s, x :: t, p, q, acc, e, h1, h2, h3 => by
    simp only [List.length_cons] at e h3
    refine Ev.step (f := fun k => sets_Meet.j1 k (p ++ r :: s) (q ++ x :: t) acc (p.length : Int) (q.length : Int) true) (fun k => by rw [sets_Meet.l0, if_pos (at_lt p r s), decide_eq_true (at_lt q x t)]) ?_
    have hn1 := at_next (p := p) (r := r) (t := s) (by omega)
    have hn2 := at_next (p := q) (r := x) (t := t) (by omega)
    have hgo : ∀ acc' : List S42, acc'.length + (s.length + 1) + (t.length + 1) ≤ acc.length + (s.length + 1) + (t.length + 1) + 1 →
        Ev (fun k => if (r.f1) < (x.f1) then sets_Meet.l0 k (p ++ r :: s) (q ++ x :: t) acc' (wrap64 ((p.length : Int) + 1)) (q.length : Int) else sets_Meet.l0 k (p ++ r :: s) (q ++ x :: t) acc' (p.length : Int) (wrap64 ((q.length : Int) + 1)))
          (acc' ++ (if r.f1 < x.f1 then meet2 s (x :: t) else meet2 (r :: s) t)) := fun acc' ha => by
      by_cases c : r.f1 < x.f1
      · rw [if_pos c]
        refine Ev.ift c ?_
        rw [hn1]
        have := Meet_l0 m s (x :: t) (p ++ [r]) q acc' (by simp only [List.length_cons]; omega) (by rw [← at_app]; exact h1) h2 (by simp only [List.length_cons]; omega)
        rw [← at_app] at this
        exact this
      · rw [if_neg c]
        refine Ev.iff_ c ?_
        rw [hn2]
        have := Meet_l0 m (r :: s) t p (q ++ [x]) acc' (by simp only [List.length_cons]; omega) h1 (by rw [← at_app]; exact h2) (by simp only [List.length_cons]; omega)
        rw [← at_app] at this
        exact this
    rw [meet2_cons]
    by_cases c : (both r x).f0 ≤ (both r x).f1
    · rw [if_pos c, ← List.append_assoc]
      refine Ev.step (fun k => ?_) (hgo (acc ++ [both r x]) (by rw [List.length_append, List.length_singleton]; omega))
      rw [sets_Meet.j1, if_pos rfl, if_pos (at_0 p), if_pos (at_lt p r s), if_pos (at_0 q), if_pos (at_lt q x t), at_rd, at_rd, mx_max, mn_min, if_pos (show max r.f0 x.f0 ≤ min r.f1 x.f1 from c), if_pos (by omega)]
      rfl
    · rw [if_neg c, List.nil_append]
      refine Ev.step (fun k => ?_) (hgo acc (by omega))
      rw [sets_Meet.j1, if_pos rfl, if_pos (at_0 p), if_pos (at_lt p r s), if_pos (at_0 q), if_pos (at_lt q x t), at_rd, at_rd, mx_max, mn_min, if_neg (show ¬ max r.f0 x.f0 ≤ min r.f1 x.f1 from c)]
theorem Meet_s {a b : List S42} (ha : sane a) (hb : sane b) (h : a.length + b.length < 4398046511104) : Ev (fun k => sets_Meet.f k a b) (meet2 a b) ∧ (∀ n, mem (meet2 a b) n ↔ mem a n ∧ mem b n) ∧ sane (meet2 a b) ∧ (meet2 a b).length ≤ a.length + b.length := by
  refine ⟨Ev.bind (sknown_s ha (by omega)) (Ev.bind (sknown_s hb (by omega)) ?_), fun n => ?_, ?_, ?_⟩
  · have := Meet_l0 _ a b [] [] [] rfl (by simp; omega) (by simp; omega) (by simp; omega)
    simpa using this
  · exact meet2_mem _ a b _ _ rfl ha hb n
  · have := meet2_sane _ a b _ _ rfl ha hb
    rw [Int.max_self] at this
    exact this
  · exact meet2_len _ a b rfl
theorem setL_snoc (c : UInt8) : ∀ (l : List UInt8) (out : List S42), setL (l ++ [c]) out = (setL l out).flatMap (stepR c)
  | [], out => rfl
  | x :: l, out => by simp only [List.cons_append, setL]; exact setL_snoc c l _
theorem setL_fine (s : ByteArray) (h : saneL s.data.toList = true) : fine (setL s.data.toList [⟨0, 0⟩]) 10000 := by
  have ho := ok_of (s := s) (congrArg some h)
  have step : ∀ p, p ≤ s.size → ∃ out, setInv s p out := fun p => by
    induction p with
    | zero => exact fun _ => ⟨_, setInv_0 s⟩
    | succ p ih =>
      intro hp
      obtain ⟨out, hi⟩ := ih (by omega)
      exact ⟨_, setInv_step (by omega) (ho p (by omega)) hi⟩
  obtain ⟨out, h1, h2, h3⟩ := step s.size (Nat.le_refl _)
  have hd : setL (s.data.toList.drop s.size) out = out := by rw [List.drop_eq_nil_of_le (by rw [bsize]; exact Nat.le_refl _)]; rfl
  rw [hd] at h1
  rw [← h1]
  have h4 : s.size ≤ 4 := by rw [bsize]; exact (sane_all h).2.2
  have h10 : (10 ^ s.size : Nat) ≤ 10000 := Nat.pow_le_pow_right (n := 10) (by decide) h4
  have : ((10 ^ s.size : Nat) : Int) ≤ 10000 := Int.ofNat_le.2 h10
  exact fun q hq => by obtain ⟨a, b, c⟩ := h2 q hq; exact ⟨a, b, by omega⟩
theorem pow_small {m n : Nat} (h : m ≤ n) (hn : n ≤ 4) : (10 ^ m : Nat) ≤ 10000 := Nat.pow_le_pow_right (n := 10) (by decide) (Nat.le_trans h hn)
def refR : List UInt8 → Nat → Bool
  | [], _ => true
  | c :: r, u => (decide (c.toNat = 88) || decide (c.toNat = 48 + u % 10)) && refR r (u / 10)
def refV (s : List UInt8) (n : Int) : Bool := saneL s && decide (0 ≤ n) && decide (n < ((10 ^ s.length : Nat) : Int)) && refR s.reverse n.toNat
theorem tdiv10 {u : Nat} (hu : u < 4611686018427387904) : wrap64 (Int.tdiv (u : Int) 10) = ((u / 10 : Nat) : Int) := by
  rw [Int.tdiv_eq_ediv_of_nonneg (by omega), w64 (by omega) (by omega)]; omega
theorem tmod10 (u : Nat) : Int.tmod (u : Int) 10 = ((u % 10 : Nat) : Int) := by rw [Int.tmod_eq_emod_of_nonneg (by omega)]; omega
def gap : Int → List S42 → Prop
  | _, [] => True
  | a, r :: t => a + 2 ≤ r.f0 ∧ r.f0 ≤ r.f1 ∧ gap r.f1 t
theorem gap_le {a b : Int} {l : List S42} (h : gap a l) (hb : b ≤ a) : gap b l := by
  cases l with
  | nil => trivial
  | cons r t => exact ⟨by have := h.1; omega, h.2.1, h.2.2⟩
theorem gap_app : ∀ {u : List S42} {a c : Int} {v : List S42}, gap a u → (∀ x, x ∈ u → x.f1 ≤ c) → a ≤ c → gap c v → gap a (u ++ v)
  | [], a, c, v, _, _, hc, hv => gap_le hv hc
  | x :: u, a, c, v, ⟨h1, h2, h3⟩, hu, hc, hv => ⟨h1, h2, gap_app h3 (fun y hy => hu y (List.mem_cons_of_mem _ hy)) (hu x List.mem_cons_self) hv⟩
theorem gap_sane : ∀ {l : List S42} {a : Int}, gap a l → (∀ x, x ∈ l → x.f1 ≤ lim) → saneF a l
  | [], _, _, _ => trivial
  | x :: l, a, ⟨h1, h2, h3⟩, h => ⟨h1, h2, h x List.mem_cons_self, gap_sane h3 (fun y hy => h y (List.mem_cons_of_mem _ hy))⟩
theorem gap_ones (c : Int) : ∀ (m : Nat) (lo a : Int), a + 2 ≤ lo * 10 + (c - 48) → gap a ((upto lo m).map (one c))
  | 0, _, _, _ => trivial
  | m + 1, lo, a, h => ⟨h, Int.le_refl _, gap_ones c m (lo + 1) _ (by simp only [one]; omega)⟩
theorem gap_step (c : UInt8) (hc : 48 ≤ c.toNat ∧ c.toNat ≤ 57 ∨ c.toNat = 88) : ∀ (l : List S42) (a : Int), gap a l → gap (10 * a + 9) (l.flatMap (stepR c))
  | [], _, _ => trivial
  | q :: l, a, ⟨h1, h2, h3⟩ => by
    rw [List.flatMap_cons]
    refine gap_app (c := 10 * q.f1 + 9) ?_ ?_ (by omega) (gap_step c hc l q.f1 h3)
    · unfold stepR
      split
      · exact ⟨by simp only; omega, by simp only; omega, trivial⟩
      · exact gap_ones (c.toNat : Int) _ q.f0 _ (by omega)
    · intro x hx
      unfold stepR at hx
      split at hx
      · obtain rfl := List.mem_singleton.1 hx
        simp only; omega
      · obtain ⟨n, hn, rfl⟩ := List.mem_map.1 hx
        have := (upto_mem _ _ _).1 hn
        simp only; omega
theorem gap_set : ∀ (r : List UInt8), (∀ c, c ∈ r → 48 ≤ c.toNat ∧ c.toNat ≤ 57 ∨ c.toNat = 88) → gap (-((10 ^ r.length : Nat) : Int) - 1) (setL r.reverse [(⟨0, 0⟩ : S42)])
  | [], _ => ⟨by decide, Int.le_refl _, trivial⟩
  | c :: r, h => by
    have ih := gap_step c (h c List.mem_cons_self) _ _ (gap_set r (fun x hx => h x (List.mem_cons_of_mem _ hx)))
    rw [List.reverse_cons, setL_snoc, List.length_cons, Nat.pow_succ]
    refine gap_le ih ?_
    rw [Int.natCast_mul]
    generalize ((10 ^ r.length : Nat) : Int) = q
    omega
theorem mem_step (c : UInt8) (hc : 48 ≤ c.toNat ∧ c.toNat ≤ 57 ∨ c.toNat = 88) (l : List S42) (n : Int) : mem (l.flatMap (stepR c)) n ↔ mem l (n / 10) ∧ (c.toNat = 88 ∨ (c.toNat : Int) = 48 + n % 10) := by
  constructor
  · rintro ⟨x, hx, h1, h2⟩
    obtain ⟨q, hq, hx⟩ := List.mem_flatMap.1 hx
    unfold stepR at hx
    by_cases h : c.toNat = 88
    · rw [if_pos h] at hx
      obtain rfl := List.mem_singleton.1 hx
      simp only at h1 h2
      exact ⟨⟨q, hq, by omega, by omega⟩, .inl h⟩
    · rw [if_neg h] at hx
      obtain ⟨m, hm, rfl⟩ := List.mem_map.1 hx
      have hm := (upto_mem _ _ _).1 hm
      simp only at h1 h2
      exact ⟨⟨q, hq, by omega, by omega⟩, .inr (by omega)⟩
  · rintro ⟨⟨q, hq, h1, h2⟩, h⟩
    by_cases h8 : c.toNat = 88
    · exact ⟨⟨q.f0 * 10, q.f1 * 10 + 9⟩, List.mem_flatMap.2 ⟨q, hq, by unfold stepR; rw [if_pos h8]; exact List.mem_singleton.2 rfl⟩, by simp only; omega, by simp only; omega⟩
    · have h9 := h.resolve_left h8
      refine ⟨⟨(n / 10) * 10 + ((c.toNat : Int) - 48), (n / 10) * 10 + ((c.toNat : Int) - 48)⟩, List.mem_flatMap.2 ⟨q, hq, ?_⟩, by simp only; omega, by simp only; omega⟩
      unfold stepR
      rw [if_neg h8]
      exact List.mem_map.2 ⟨n / 10, (upto_mem _ _ _).2 ⟨h1, by omega⟩, rfl⟩
theorem mem_set : ∀ (r : List UInt8), (∀ c, c ∈ r → 48 ≤ c.toNat ∧ c.toNat ≤ 57 ∨ c.toNat = 88) → ∀ n : Int, mem (setL r.reverse [(⟨0, 0⟩ : S42)]) n ↔ 0 ≤ n ∧ n < ((10 ^ r.length : Nat) : Int) ∧ refR r n.toNat = true
  | [], _, n => by
    rw [List.reverse_nil, setL, mem_cons]
    simp [mem_nil, refR]; omega
  | c :: r, h, n => by
    have ih := mem_set r (fun x hx => h x (List.mem_cons_of_mem _ hx)) (n / 10)
    rw [List.reverse_cons, setL_snoc, mem_step c (h c List.mem_cons_self), ih, List.length_cons, Nat.pow_succ, Int.natCast_mul, refR, Bool.and_eq_true, Bool.or_eq_true, decide_eq_true_eq, decide_eq_true_eq]
    generalize ((10 ^ r.length : Nat) : Int) = q
    constructor
    · rintro ⟨⟨h1, h2, h3⟩, h4⟩
      have e : (n / 10).toNat = n.toNat / 10 := by omega
      rw [e] at h3
      exact ⟨by omega, by show n < q * 10; omega, by omega, h3⟩
    · rintro ⟨h1, h2, h4, h3⟩
      have e : (n / 10).toNat = n.toNat / 10 := by omega
      have h2 : n < q * 10 := h2
      rw [e]
      exact ⟨⟨by omega, by omega, h3⟩, by omega⟩
theorem sane_ok {l : List UInt8} (hs : saneL l = true) : ∀ c, c ∈ l.reverse → 48 ≤ c.toNat ∧ c.toNat ≤ 57 ∨ c.toNat = 88 := fun c hc => of_decide_eq_true (List.all_eq_true.1 (sane_all hs).1 c (List.mem_reverse.1 hc))
theorem set_is (s : ByteArray) (hs : saneL s.data.toList = true) : sane (setL s.data.toList [⟨0, 0⟩]) ∧ ∀ n, mem (setL s.data.toList [⟨0, 0⟩]) n ↔ refV s.data.toList n = true := by
  have h1 := gap_set s.data.toList.reverse (sane_ok hs)
  have h2 := mem_set s.data.toList.reverse (sane_ok hs)
  have hf := setL_fine s hs
  rw [List.reverse_reverse, List.length_reverse] at h1 h2
  have hp := pow_small (m := s.data.toList.length) (n := 4) (sane_all hs).2.2 (by omega)
  refine ⟨saneF_le (gap_sane h1 (fun x hx => by have := (hf x hx).2.2; unfold lim; omega)) (by unfold lim; omega), fun n => ?_⟩
  rw [h2 n]
  unfold refV
  rw [hs, Bool.true_and, Bool.and_eq_true, Bool.and_eq_true, decide_eq_true_eq, decide_eq_true_eq, and_assoc]
def setV (s : ByteArray) : List S42 := if saneL s.data.toList = true then setL s.data.toList [⟨0, 0⟩] else []
theorem setL_len (s : ByteArray) (h : saneL s.data.toList = true) : (setL s.data.toList [⟨0, 0⟩]).length ≤ 1000000 := by
  have ho := ok_of (s := s) (congrArg some h)
  have step : ∀ p, p ≤ s.size → ∃ out, setInv s p out := fun p => by
    induction p with
    | zero => exact fun _ => ⟨_, setInv_0 s⟩
    | succ p ih =>
      intro hp
      obtain ⟨out, hi⟩ := ih (by omega)
      exact ⟨_, setInv_step (by omega) (ho p (by omega)) hi⟩
  obtain ⟨out, h1, h2, h3⟩ := step s.size (Nat.le_refl _)
  have hd : setL (s.data.toList.drop s.size) out = out := by rw [List.drop_eq_nil_of_le (by rw [bsize]; exact Nat.le_refl _)]; rfl
  rw [hd] at h1
  rw [← h1]
  have h4 : s.size ≤ 4 := by rw [bsize]; exact (sane_all h).2.2
  have hl : lenB s.size ≤ 1000000 := by
    rcases (by omega : s.size = 0 ∨ s.size = 1 ∨ s.size = 2 ∨ s.size = 3 ∨ s.size = 4) with e | e | e | e | e <;> rw [e] <;> decide
  omega
theorem refV_sane {l : List UInt8} {n : Int} (h : saneL l = false) : refV l n = false := by unfold refV; rw [h]; rfl
theorem setV_is (s : ByteArray) : sane (setV s) ∧ (setV s).length ≤ 1000000 ∧ ∀ n, mem (setV s) n ↔ refV s.data.toList n = true := by
  unfold setV
  by_cases h : saneL s.data.toList = true
  · rw [if_pos h]
    exact ⟨(set_is s h).1, setL_len s h, (set_is s h).2⟩
  · rw [if_neg h]
    refine ⟨trivial, by simp, fun n => ?_⟩
    rw [refV_sane (Bool.eq_false_iff.2 h)]
    simp [mem_nil]
def numsR (r : S42) : List Int := upto r.f0 (r.f1 + 1 - r.f0).toNat
theorem nums_l1 (s : List S42) (i lo hi R' : Int) (hh : hi ≤ 1000) {R : List Int} : ∀ (m : Nat) (x : Int) (acc : List Int), 0 ≤ x → x + m = hi + 1 ∨ (m = 0 ∧ hi < x) → acc.length + m < 17592186044416 →
    Ev (fun k => point_numbers.l0 k (acc ++ upto x m) s (s.length : Int) (wrap64 (i + 1))) R → Ev (fun k => point_numbers.l1 k acc x s (s.length : Int) i lo hi) R
  | 0, x, acc, h0, hx, hl, h => by
    refine Ev.step (f := fun k => point_numbers.l0 k acc s (s.length : Int) (wrap64 (i + 1))) (fun k => by rw [point_numbers.l1, if_neg (by omega)]) ?_
    simpa [upto] using h
  | m + 1, x, acc, h0, hx, hl, h => by
    refine Ev.step (f := fun k => point_numbers.l1 k (acc ++ [x]) (x + 1) s (s.length : Int) i lo hi) (fun k => by rw [point_numbers.l1, if_pos (by omega), if_pos (by omega), w64 (by omega) (by omega)]) ?_
    refine nums_l1 s i lo hi R' hh m (x + 1) (acc ++ [x]) (by omega) (by omega) (by rw [List.length_append, List.length_singleton]; omega) ?_
    rw [List.append_assoc, List.singleton_append]
    exact h
theorem nums_l0 : ∀ (t p : List S42) (acc : List Int), (∀ r, r ∈ t → 1 ≤ r.f0 ∧ r.f1 ≤ 31) → acc.length + 32 * t.length < 17592186044416 → (p ++ t).length ≤ 4611686018427387904 →
    Ev (fun k => point_numbers.l0 k acc (p ++ t) ((p ++ t).length : Int) (p.length : Int)) (acc ++ t.flatMap numsR)
  | [], p, acc, _, _, _ => Ev.step (f := fun _ => some (acc ++ [])) (fun k => by rw [point_numbers.l0, if_neg (at_end p), List.append_nil]) (Ev.now _)
  | r :: t, p, acc, hr, hl, hp => by
    have h1 := hr r List.mem_cons_self
    refine Ev.step (f := fun k => point_numbers.l1 k acc r.f0 (p ++ r :: t) ((p ++ r :: t).length : Int) (p.length : Int) r.f0 r.f1) (fun k => by rw [point_numbers.l0, if_pos (at_lt p r t), if_pos (at_0 p), if_pos (at_lt p r t), at_rd]) ?_
    have hm : (r.f1 + 1 - r.f0).toNat ≤ 31 := by omega
    rw [List.length_cons] at hl
    refine nums_l1 (p ++ r :: t) (p.length : Int) r.f0 r.f1 0 (by omega) (r.f1 + 1 - r.f0).toNat r.f0 acc (by omega) (by omega) (by omega) ?_
    rw [at_next hp]
    have := nums_l0 t (p ++ [r]) (acc ++ numsR r) (fun q hq => hr q (List.mem_cons_of_mem _ hq)) (by rw [List.length_append]; unfold numsR; rw [upto_len]; omega) (by rw [← at_app]; exact hp)
    rw [← at_app] at this
    rw [List.flatMap_cons, ← List.append_assoc]
    exact this
def anyV (l : List UInt8) (i : Int) : Nat → Bool
  | 0 => false
  | m + 1 => refV l i || anyV l (i + 1) m
theorem anyV_iff (l : List UInt8) : ∀ (m : Nat) (i : Int), anyV l i m = true ↔ ∃ n, i ≤ n ∧ n < i + m ∧ refV l n = true
  | 0, i => by
    simp only [anyV]
    exact ⟨fun h => absurd h (by simp), fun ⟨n, h1, h2, _⟩ => by omega⟩
  | m + 1, i => by
    rw [anyV, Bool.or_eq_true, anyV_iff l m (i + 1)]
    constructor
    · rintro (h | ⟨n, h1, h2, h3⟩)
      · exact ⟨i, by omega, by omega, h⟩
      · exact ⟨n, by omega, by omega, h3⟩
    · rintro ⟨n, h1, h2, h3⟩
      rcases (by omega : n = i ∨ i + 1 ≤ n) with rfl | h
      · exact .inl h3
      · exact .inr ⟨n, h, by omega, h3⟩
theorem numbers_f (s : ByteArray) (m : Nat) (hm : 1 ≤ m ∧ m ≤ 31) : ∃ L : List Int, Ev (fun k => point_numbers.f k s (m : Int)) L ∧ (L ≠ [] ↔ anyV s.data.toList 1 m = true) := by
  obtain ⟨h1, h2, h3⟩ := setV_is s
  have hb : sane [(⟨1, (m : Int)⟩ : S42)] := ⟨by show -lim - 2 + 2 ≤ (1 : Int); unfold lim; omega, by show (1 : Int) ≤ (m : Int); omega, by show (m : Int) ≤ lim; unfold lim; omega, trivial⟩
  obtain ⟨e1, e2, e3, e4⟩ := Meet_s h1 hb (by simp; omega)
  have hin : ∀ r, r ∈ meet2 (setV s) [(⟨1, (m : Int)⟩ : S42)] → r.f0 ≤ r.f1 ∧ 1 ≤ r.f0 ∧ r.f1 ≤ (m : Int) := fun r hr => by
    have hle : r.f0 ≤ r.f1 := by
      have : ∀ {a : Int} {l : List S42}, saneF a l → ∀ q, q ∈ l → q.f0 ≤ q.f1 := by
        intro a l
        induction l generalizing a with
        | nil => intro _ q hq; cases hq
        | cons x t ih =>
          intro h q hq
          rcases List.mem_cons.1 hq with rfl | hq
          · exact h.2.1
          · exact ih h.2.2.2 q hq
      exact this e3 r hr
    have ha := (e2 r.f0).1 ⟨r, hr, Int.le_refl _, hle⟩
    have hc := (e2 r.f1).1 ⟨r, hr, hle, Int.le_refl _⟩
    have ha := (mem_one _ _).1 ha.2
    have hc := (mem_one _ _).1 hc.2
    simp only at ha hc
    exact ⟨hle, ha.1, hc.2⟩
  refine ⟨(meet2 (setV s) [(⟨1, (m : Int)⟩ : S42)]).flatMap numsR, ?_, ?_⟩
  · refine Ev.bnow (x := setV s) rfl ?_
    refine Ev.bind (Ev.bind e1 (Ev.now _)) ?_
    have := nums_l0 (meet2 (setV s) [(⟨1, (m : Int)⟩ : S42)]) [] [] (fun r hr => ⟨(hin r hr).2.1, by have := (hin r hr).2.2; omega⟩) (by simp at e4 ⊢; omega) (by simp at e4 ⊢; omega)
    simpa using this
  · rw [anyV_iff]
    constructor
    · intro h
      obtain ⟨n, hn⟩ := List.exists_mem_of_ne_nil _ h
      obtain ⟨r, hr, hn⟩ := List.mem_flatMap.1 hn
      have hn := (upto_mem _ _ _).1 hn
      obtain ⟨a, b, c⟩ := hin r hr
      have hmem := (e2 n).1 ⟨r, hr, hn.1, by omega⟩
      exact ⟨n, by omega, by omega, (h3 n).1 hmem.1⟩
    · rintro ⟨n, ha, hc, hv⟩
      obtain ⟨r, hr, hn1, hn2⟩ := (e2 n).2 ⟨(h3 n).2 hv, (mem_one _ _).2 ⟨by simp only; omega, by simp only; omega⟩⟩
      intro he
      have : n ∈ (meet2 (setV s) [(⟨1, (m : Int)⟩ : S42)]).flatMap numsR := List.mem_flatMap.2 ⟨r, hr, (upto_mem _ _ _).2 ⟨hn1, by omega⟩⟩
      rw [he] at this
      cases this
def someV (s : ByteArray) (n : Int) (m : Nat) : Bool := decide ((s.size : Int) = n) && anyV s.data.toList 1 m
theorem some_f (s : ByteArray) (n : Int) (m : Nat) (hm : 1 ≤ m ∧ m ≤ 31) : Ev (fun k => point_some.f k s n (m : Int)) (someV s n m) := by
  unfold someV
  by_cases h : (s.size : Int) = n
  · rw [decide_eq_true h, Bool.true_and]
    refine Ev.ift h ?_
    obtain ⟨L, h1, h2⟩ := numbers_f s m hm
    refine Ev.bind h1 (Ev.eq (Ev.now _) ?_)
    cases hv : anyV s.data.toList 1 m with
    | true =>
      have := h2.2 hv
      cases L with
      | nil => exact absurd rfl this
      | cons x t => exact decide_eq_true (by simp)
    | false =>
      cases L with
      | nil => rfl
      | cons x t => exact absurd (h2.1 (by simp)) (by rw [hv]; simp)
  · rw [decide_eq_false h, Bool.false_and]
    exact Ev.iff_ h (Ev.now _)
def emptyV (s : ByteArray) : Bool := s.toList == ([] : List UInt8)
def ptV (p : S23) : Bool := saneL p.f1.data.toList && (
  if p.f0 = 0 then decide ((p.f1.size : Int) = 4) && (someV p.f2 2 12 && someV p.f3 2 31)
  else if p.f0 = 1 then decide ((p.f1.size : Int) = 4) && (someV p.f2 2 12 && emptyV p.f3)
  else if p.f0 = 2 then decide ((p.f1.size : Int) = 4) && (someV p.f2 1 4 && emptyV p.f3)
  else if p.f0 = 3 then decide ((p.f1.size : Int) = 4) && (emptyV p.f2 && emptyV p.f3)
  else if p.f0 = 4 then decide ((p.f1.size : Int) = 3) && (emptyV p.f2 && emptyV p.f3)
  else if p.f0 = 5 then decide ((p.f1.size : Int) = 2) && (emptyV p.f2 && emptyV p.f3)
  else false)
theorem Ev.cond {c : Prop} [Decidable c] {g : Nat → Option Bool} {r : Bool} (h : c → Ev g r) : Ev (fun k => if c then g k else some false) (decide c && r) := by
  by_cases hc : c
  · rw [decide_eq_true hc, Bool.true_and]; exact Ev.ift hc (h hc)
  · rw [decide_eq_false hc, Bool.false_and]; exact Ev.iff_ hc (Ev.now _)
theorem Ev.andb {a : Nat → Option Bool} {g : Nat → Option Bool} {x r : Bool} (h1 : Ev a x) (h2 : Ev g r) : Ev (fun k => (a k).bind fun t => if t = true then g k else some false) (x && r) := by
  refine Ev.bind h1 ?_
  cases x with
  | true => rw [Bool.true_and]; exact Ev.ift rfl h2
  | false => exact Ev.iff_ (by simp) (Ev.now _)
theorem Ev.pick {c : Prop} [Decidable c] {g f : Nat → Option Bool} {r q : Bool} (h1 : Ev g r) (h2 : Ev f q) : Ev (fun k => if c then g k else f k) (if c then r else q) := by
  by_cases hc : c
  · rw [if_pos hc]; exact Ev.ift hc h1
  · rw [if_neg hc]; exact Ev.iff_ hc h2
theorem Ev.self {a : Nat → Option Bool} {x : Bool} (h : Ev a x) : Ev (fun k => (a k).bind fun t => some t) x := Ev.bind h (Ev.now _)
theorem bare_and (a b : ByteArray) : (if a.toList = ([] : List UInt8) then emptyV b else false) = (emptyV a && emptyV b) := by
  unfold emptyV
  by_cases h : a.toList = []
  · rw [if_pos h, h]; rfl
  · rw [if_neg h]
    have : (a.toList == ([] : List UInt8)) = false := by cases hl : a.toList with
      | nil => exact absurd hl h
      | cons x t => rfl
    rw [this]; rfl
theorem ptSane_f (p : S23) : Ev (fun k => point_Sane.f k p.f0 p.f1 p.f2 p.f3) (ptV p) := by
  unfold ptV
  refine Ev.bnow (x := saneL p.f1.data.toList) rfl ?_
  have hj : ∀ b : Bool, b = (emptyV p.f2 && emptyV p.f3) → Ev (fun k => point_Sane.j0 k b p.f0 p.f1 p.f2 p.f3) (
      if p.f0 = 0 then decide ((p.f1.size : Int) = 4) && (someV p.f2 2 12 && someV p.f3 2 31)
      else if p.f0 = 1 then decide ((p.f1.size : Int) = 4) && (someV p.f2 2 12 && emptyV p.f3)
      else if p.f0 = 2 then decide ((p.f1.size : Int) = 4) && (someV p.f2 1 4 && emptyV p.f3)
      else if p.f0 = 3 then decide ((p.f1.size : Int) = 4) && (emptyV p.f2 && emptyV p.f3)
      else if p.f0 = 4 then decide ((p.f1.size : Int) = 3) && (emptyV p.f2 && emptyV p.f3)
      else if p.f0 = 5 then decide ((p.f1.size : Int) = 2) && (emptyV p.f2 && emptyV p.f3)
      else false) := fun b hb => by
    subst hb
    refine Ev.step (fun k => by rw [point_Sane.j0]) ?_
    refine Ev.pick (Ev.cond fun _ => Ev.andb (some_f p.f2 2 12 (by omega)) (Ev.self (some_f p.f3 2 31 (by omega)))) ?_
    refine Ev.pick (Ev.cond fun _ => Ev.andb (some_f p.f2 2 12 (by omega)) (Ev.now _)) ?_
    refine Ev.pick (Ev.cond fun _ => Ev.andb (some_f p.f2 1 4 (by omega)) (Ev.now _)) ?_
    refine Ev.pick (Ev.cond fun _ => Ev.now _) ?_
    refine Ev.pick (Ev.cond fun _ => Ev.now _) ?_
    exact Ev.pick (Ev.cond fun _ => Ev.now _) (Ev.now _)
  cases hs : saneL p.f1.data.toList with
  | false => exact Ev.iff_ (by simp) (Ev.now _)
  | true =>
    rw [Bool.true_and]
    refine Ev.ift rfl ?_
    have hb := bare_and p.f2 p.f3
    by_cases h : p.f2.toList = ([] : List UInt8)
    · rw [if_pos h] at hb
      exact Ev.ift h (hj _ hb)
    · rw [if_neg h] at hb
      exact Ev.iff_ h (hj _ hb)
def bA (l : List UInt8) : ByteArray := ⟨l.toArray⟩
theorem bA_data (l : List UInt8) : (bA l).data.toList = l := rfl
theorem bA_size (l : List UInt8) : (bA l).size = l.length := by rw [bsize, bA_data]
theorem ba_eq {a b : ByteArray} (h : a.data.toList = b.data.toList) : a = b := by
  cases a; cases b
  simp only at h
  rw [Array.toList_inj] at h
  rw [h]
theorem ba_toList (s : ByteArray) : s.toList = s.data.toList := ByteArray.toList_eq s
def ptRaw (p : S23) : List UInt8 :=
  if p.f0 = 0 then p.f1.data.toList ++ 45 :: (p.f2.data.toList ++ 45 :: p.f3.data.toList)
  else if p.f0 = 1 then p.f1.data.toList ++ 45 :: p.f2.data.toList
  else if p.f0 = 2 then p.f1.data.toList ++ 115 :: p.f2.data.toList
  else if p.f0 = 4 then p.f1.data.toList ++ [100]
  else if p.f0 = 5 then p.f1.data.toList ++ [99]
  else p.f1.data.toList
def ptTxt (p : S23) : List UInt8 := if ptV p = true then ptRaw p else []
theorem any_sane {l : List UInt8} {m : Nat} {i : Int} (h : anyV l i m = true) : l.all okB = true := by
  obtain ⟨n, _, _, hn⟩ := (anyV_iff l m i).1 h
  cases hs : saneL l with
  | true => exact (sane_all hs).1
  | false => rw [refV_sane hs] at hn; cases hn
theorem pt_kinds {p : S23} (h : ptV p = true) : p.f1.data.toList.all okB = true ∧
    (p.f0 = 0 ∧ p.f1.data.toList.length = 4 ∧ p.f2.data.toList.length = 2 ∧ p.f2.data.toList.all okB = true ∧ p.f3.data.toList.length = 2 ∧ p.f3.data.toList.all okB = true
    ∨ p.f0 = 1 ∧ p.f1.data.toList.length = 4 ∧ p.f2.data.toList.length = 2 ∧ p.f2.data.toList.all okB = true ∧ p.f3.data.toList = []
    ∨ p.f0 = 2 ∧ p.f1.data.toList.length = 4 ∧ p.f2.data.toList.length = 1 ∧ p.f2.data.toList.all okB = true ∧ p.f3.data.toList = []
    ∨ p.f0 = 3 ∧ p.f1.data.toList.length = 4 ∧ p.f2.data.toList = [] ∧ p.f3.data.toList = []
    ∨ p.f0 = 4 ∧ p.f1.data.toList.length = 3 ∧ p.f2.data.toList = [] ∧ p.f3.data.toList = []
    ∨ p.f0 = 5 ∧ p.f1.data.toList.length = 2 ∧ p.f2.data.toList = [] ∧ p.f3.data.toList = []) := by
  have em : ∀ {s : ByteArray}, emptyV s = true → s.data.toList = [] := fun {s} h => by
    unfold emptyV at h
    rw [ba_toList] at h
    exact beq_iff_eq.1 h
  unfold ptV at h
  rw [Bool.and_eq_true] at h
  obtain ⟨h1, h2⟩ := h
  refine ⟨(sane_all h1).1, ?_⟩
  by_cases c0 : p.f0 = 0
  · rw [if_pos c0] at h2
    simp only [someV, Bool.and_eq_true, decide_eq_true_eq, bsize] at h2
    exact .inl ⟨c0, by omega, by omega, any_sane h2.2.1.2, by omega, any_sane h2.2.2.2⟩
  rw [if_neg c0] at h2
  by_cases c1 : p.f0 = 1
  · rw [if_pos c1] at h2
    simp only [someV, Bool.and_eq_true, decide_eq_true_eq, bsize] at h2
    exact .inr (.inl ⟨c1, by omega, by omega, any_sane h2.2.1.2, em h2.2.2⟩)
  rw [if_neg c1] at h2
  by_cases c2 : p.f0 = 2
  · rw [if_pos c2] at h2
    simp only [someV, Bool.and_eq_true, decide_eq_true_eq, bsize] at h2
    exact .inr (.inr (.inl ⟨c2, by omega, by omega, any_sane h2.2.1.2, em h2.2.2⟩))
  rw [if_neg c2] at h2
  by_cases c3 : p.f0 = 3
  · rw [if_pos c3] at h2
    simp only [Bool.and_eq_true, decide_eq_true_eq, bsize] at h2
    exact .inr (.inr (.inr (.inl ⟨c3, by omega, em h2.2.1, em h2.2.2⟩)))
  rw [if_neg c3] at h2
  by_cases c4 : p.f0 = 4
  · rw [if_pos c4] at h2
    simp only [Bool.and_eq_true, decide_eq_true_eq, bsize] at h2
    exact .inr (.inr (.inr (.inr (.inl ⟨c4, by omega, em h2.2.1, em h2.2.2⟩))))
  rw [if_neg c4] at h2
  by_cases c5 : p.f0 = 5
  · rw [if_pos c5] at h2
    simp only [Bool.and_eq_true, decide_eq_true_eq, bsize] at h2
    exact .inr (.inr (.inr (.inr (.inr ⟨c5, by omega, em h2.2.1, em h2.2.2⟩))))
  rw [if_neg c5] at h2
  cases h2
theorem ext_bA (p l r : List UInt8) : (bA (p ++ (l ++ r))).extract p.length (p.length + l.length) = bA l := ba_eq (by
  rw [ByteArray.data_extract, Array.toList_extract, bA_data]
  simp [List.extract]
  rfl)
def e0 : ByteArray := ⟨#[]⟩
theorem ext_to (a b : List UInt8) : (bA (a ++ b)).extract 0 a.length = bA a := by have := ext_bA [] a b; simpa using this
theorem ba_app (a b : ByteArray) : (a ++ b).data.toList = a.data.toList ++ b.data.toList := by rw [ByteArray.data_append, Array.toList_append]
theorem empty_size {s : ByteArray} (h : emptyV s = true) : s.size = 0 := by
  unfold emptyV at h
  rw [ba_toList] at h
  rw [bsize, beq_iff_eq.1 h]; rfl
theorem pt_sizes {p : S23} (h : ptV p = true) : p.f1.size ≤ 4 ∧ p.f2.size ≤ 2 ∧ p.f3.size ≤ 2 := by
  unfold ptV at h
  rw [Bool.and_eq_true] at h
  obtain ⟨h1, h2⟩ := h
  have hy : p.f1.size ≤ 4 := by rw [bsize]; exact (sane_all h1).2.2
  refine ⟨hy, ?_⟩
  by_cases c0 : p.f0 = 0
  · rw [if_pos c0] at h2
    simp only [someV, Bool.and_eq_true, decide_eq_true_eq] at h2
    omega
  rw [if_neg c0] at h2
  by_cases c1 : p.f0 = 1
  · rw [if_pos c1] at h2
    simp only [someV, Bool.and_eq_true, decide_eq_true_eq] at h2
    have := empty_size h2.2.2
    omega
  rw [if_neg c1] at h2
  by_cases c2 : p.f0 = 2
  · rw [if_pos c2] at h2
    simp only [someV, Bool.and_eq_true, decide_eq_true_eq] at h2
    have := empty_size h2.2.2
    omega
  rw [if_neg c2] at h2
  have fin : ∀ n : Int, (decide ((p.f1.size : Int) = n) && (emptyV p.f2 && emptyV p.f3)) = true → p.f2.size ≤ 2 ∧ p.f3.size ≤ 2 := fun n h => by
    simp only [Bool.and_eq_true] at h
    have a := empty_size h.2.1
    have b := empty_size h.2.2
    omega
  by_cases c3 : p.f0 = 3
  · rw [if_pos c3] at h2; exact fin _ h2
  rw [if_neg c3] at h2
  by_cases c4 : p.f0 = 4
  · rw [if_pos c4] at h2; exact fin _ h2
  rw [if_neg c4] at h2
  by_cases c5 : p.f0 = 5
  · rw [if_pos c5] at h2; exact fin _ h2
  rw [if_neg c5] at h2
  cases h2
theorem ptText_f (p : S23) : Ev (fun k => point_Text.f k p.f0 p.f1 p.f2 p.f3) (bA (ptTxt p)) := by
  refine Ev.bind (ptSane_f p) ?_
  unfold ptTxt
  cases hv : ptV p with
  | false => exact Ev.iff_ (by simp) (Ev.eq (Ev.now _) rfl)
  | true =>
    obtain ⟨h1, h2, h3⟩ := pt_sizes hv
    have e1 : (⟨#[45]⟩ : ByteArray).size = 1 := rfl
    have e2 : (⟨#[115]⟩ : ByteArray).size = 1 := rfl
    have e3 : (⟨#[]⟩ : ByteArray).size = 0 := rfl
    refine Ev.ift rfl ?_
    rw [if_pos rfl]
    unfold ptRaw
    by_cases c0 : p.f0 = 0
    · refine Ev.ift c0 ?_
      rw [if_pos c0]
      refine Ev.ift (by omega) (Ev.ift (by omega) (Ev.ift (by simp only [ByteArray.size_append]; omega) (Ev.ift (by simp only [ByteArray.size_append]; omega) (Ev.eq (Ev.now _) (ba_eq ?_)))))
      simp only [ba_app, bA_data]; rfl
    refine Ev.iff_ c0 ?_
    rw [if_neg c0]
    by_cases c1 : p.f0 = 1
    · refine Ev.ift c1 ?_
      rw [if_pos c1]
      refine Ev.ift (by omega) (Ev.ift (by simp only [ByteArray.size_append]; omega) (Ev.ift (by simp only [ByteArray.size_append]; omega) (Ev.eq (Ev.now _) (ba_eq ?_))))
      simp only [ba_app, bA_data, List.append_nil]; rfl
    refine Ev.iff_ c1 ?_
    rw [if_neg c1]
    by_cases c2 : p.f0 = 2
    · refine Ev.ift c2 ?_
      rw [if_pos c2]
      refine Ev.ift (by omega) (Ev.ift (by simp only [ByteArray.size_append]; omega) (Ev.eq (Ev.now _) (ba_eq ?_)))
      simp only [ba_app, bA_data]; rfl
    refine Ev.iff_ c2 ?_
    rw [if_neg c2]
    by_cases c4 : p.f0 = 4
    · refine Ev.ift c4 ?_
      rw [if_pos c4]
      exact Ev.ift (by omega) (Ev.eq (Ev.now _) (ba_eq (by simp only [ba_app, bA_data])))
    refine Ev.iff_ c4 ?_
    rw [if_neg c4]
    by_cases c5 : p.f0 = 5
    · refine Ev.ift c5 ?_
      rw [if_pos c5]
      exact Ev.ift (by omega) (Ev.eq (Ev.now _) (ba_eq (by simp only [ba_app, bA_data])))
    refine Ev.iff_ c5 ?_
    rw [if_neg c5]
    exact Ev.ift (by omega) (Ev.eq (Ev.now _) (ba_eq (by simp only [ba_app, bA_data, List.append_nil])))
theorem awake8 : Ev (fun k => lustrumlaw08_awake.f k) true := Ev.of lustrumlaw08_awake.mono (k := 400) (by decide +kernel)
end Go.Proofs.YthppfagfmjchoaaDoor.A