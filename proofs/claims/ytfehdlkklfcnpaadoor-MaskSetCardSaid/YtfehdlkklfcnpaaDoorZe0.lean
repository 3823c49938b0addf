/- Walks of functions, and plain facts about what they compute. No conditions. -/
import Derived.Test.YtfehdlkklfcnpaaDoorZea
import Derived.Test.YtfehdlkklfcnpaaDoorProg
import Derived.Lib.ItoaNum
import Derived.Lib.Bytealg
import Derived.Laws.RangeAny
import Derived.LoopTactic
import Derived.Shelf.Strings.Builder1
import Derived.Shelf.Strings.Builder2
import Derived.Shelf.Small.Bits
import Derived.Shelf.Strings.BuilderF
import Derived.Shelf.Strings.BuilderK
import Derived.Shelf.Utf8.RuneCount
import Derived.Shelf.Strings.Builder2Cap
import Derived.Shelf.Strconv.Itoa0
import Derived.Shelf.Strconv.Itoa1
import Derived.Shelf.LaysM
import Derived.Shelf.Strconv.Itoa2
import Derived.Shelf.Strconv.Itoa3
import Derived.Shelf.Strings.Search1
import Derived.Shelf.Strings.Search2
import Derived.Shelf.Strings.Search3
import Derived.Shelf.Strings.Count
import Derived.Shelf.Strings.Shaped
import Derived.Shelf.Strings.Prefix
import Derived.Shelf.Strings.Split
import Derived.Shelf.Strings.RuneCount
import Derived.Shelf.Bits.Mul64
import Derived.Shelf.Strings.Repeat
import Derived.Shelf.Strings.BuilderCap
import Derived.Ground.Names2Prog
import Derived.Shelf.Slices.SearchI
import Derived.Lib.AppendIntMem
import Derived.Test.YtfehdlkklfcnpaaDoorRows
import Derived.ProofKit
import Derived.LaidMore
import Derived.OpenShut
import Derived.Stop.Joined
set_option linter.unusedVariables false
set_option linter.unusedSimpArgs false
namespace Go.Proofs.YtfehdlkklfcnpaaDoor.A
open Go.RowKit Go.Proofs.YtfehdlkklfcnpaaDoorW.PrintWords Go.Proofs.YtfehdlkklfcnpaaDoorW.PrintLast Go.Proofs.YtfehdlkklfcnpaaDoorW.PrintMore
attribute [local go_sem] max2_int min2_int max_two min_two max_three min_three max_four min_four
def errW : Option Int → Value
  | none => .nilIface
  | some c => .iface 0 (.int .i64 c)
theorem errW_none : errW none = .nilIface := rfl
theorem errW_some (c : Int) : errW (some c) = .iface 0 (.int .i64 c) := rfl
theorem info37 : (Tryd.prog.info? 37).map (fun i => (i.zero, i.size, i.bytes)) = some (some (.agg #[(.int .i64 0), (.int .i64 0)]), 2, 16) := by kernel_rfl
structure S37 where
  f0 : Int
  f1 : Int
def z37 : S37 := ⟨(0 : Int), (0 : Int)⟩
def k37 : Kd S37 := Kd.iso (Kd.pair (Kd.int .i64) (Kd.int .i64)) (fun x : S37 => (x.f0, x.f1))
theorem k37_open {w : World} {x : S37} {cs : List Value} (h : k37.K w x cs) : cs = [.int .i64 x.f0, .int .i64 x.f1] := by
  obtain ⟨_, _, rfl, rfl, rfl⟩ := h
  exact rfl
theorem k37_mkM (w : World) (base : Nat) (ok : Nat → Prop) (x : S37)  : k37.M w base ok x [.int .i64 x.f0, .int .i64 x.f1] := ⟨[.int .i64 x.f0], [.int .i64 x.f1], rfl, rfl, rfl⟩
def rd_T37 (xs : List S37) (i : Int) : S37 := xs.getD i.toNat z37
theorem at_T37 {w : World} {A : Option Addr} {n : Nat} {xs : List S37} (h : Kd.C k37 w A n xs) (i : Int) (h0 : 0 ≤ i) (h1 : i < n) : ∃ ad , A = some ad ∧ w.cell? (ad.add (i.toNat * 2)) = some (.int .i64 (rd_T37 xs i).f0) ∧ w.cell? ⟨(ad.add (i.toNat * 2)).block, (ad.add (i.toNat * 2)).off + 1, none⟩ = some (.int .i64 (rd_T37 xs i).f1) := by
  obtain ⟨ad, c, e, _, hK, hc0⟩ := Kd.C_get h z37 i h0 h1
  have hc : ∀ j u, c[j]? = some u → w.cell? (ad.add (i.toNat * 2 + j)) = some u := hc0
  obtain rfl := k37_open hK
  exact ⟨ad, e, hc 0 _ rfl, by rw [← add_field _ _ 1 (by omega)]; exact hc 1 _ rfl⟩
def okB (c : UInt8) : Bool := decide (48 ≤ c.toNat ∧ c.toNat ≤ 57 ∨ c.toNat = 88)
def saneL (l : List UInt8) : Bool := l.all okB && decide (l ≠ []) && decide (l.length ≤ 4)
def mask_Sane.f (s : ByteArray) : Option Bool := some (saneL s.data.toList)
def agree : List UInt8 → List UInt8 → Bool
  | c :: l, d :: t => (decide (c.toNat = 88) || decide (c.toNat = d.toNat)) && agree l t
  | _, _ => true
def padded (n : Nat) (t : List UInt8) : List UInt8 := List.replicate (n - t.length) 48 ++ t
def matchL (l : List UInt8) (n : Int) : Bool := saneL l && decide (0 ≤ n) && decide ((Lib.itoa n).length ≤ l.length) && agree l (padded l.length (Lib.itoa n))
def mask_Match.f (s : ByteArray) (n : Int) : Option Bool := if -9223372036854775808 ≤ n ∧ n ≤ 9223372036854775807 then some (matchL s.data.toList n) else none
def meetL : List UInt8 → List UInt8 → Option (List UInt8)
  | x :: a, c :: b => if x.toNat = 88 then (meetL a b).map (c :: ·) else if c.toNat ≠ 88 ∧ c.toNat ≠ x.toNat then none else (meetL a b).map (x :: ·)
  | a, _ => some a
def meetS (a b : List UInt8) : Option (List UInt8) := if saneL a = true ∧ saneL b = true ∧ a.length = b.length then meetL a b else none
def mask_Meet.f (a b : ByteArray) : Option (ByteArray × Bool) := match meetS a.data.toList b.data.toList with
  | some l => some (⟨l.toArray⟩, true)
  | none => some (⟨#[]⟩, false)
def upto (lo : Int) : Nat → List Int
  | 0 => []
  | n + 1 => lo :: upto (lo + 1) n
def stepR (c : UInt8) (r : S37) : List S37 := if c.toNat = 88 then [⟨r.f0 * 10, r.f1 * 10 + 9⟩] else (upto r.f0 (r.f1 + 1 - r.f0).toNat).map fun n => ⟨n * 10 + ((c.toNat : Int) - 48), n * 10 + ((c.toNat : Int) - 48)⟩
def setL : List UInt8 → List S37 → List S37
  | [], out => out
  | c :: l, out => setL l (out.flatMap (stepR c))
def mask_Set.f (s : ByteArray) : Option (List S37) := some (if saneL s.data.toList = true then setL s.data.toList [⟨0, 0⟩] else [])
def strings_Count.f (s t : ByteArray) : Option Int := if t.data = #[88] then some (Lib.countByte s.data.toList 88 : Nat) else none
end Go.Proofs.YtfehdlkklfcnpaaDoor.A
namespace Go.Proofs.YtfehdlkklfcnpaaDoorW.PrintWords
open Go.RowKit Go.Proofs.YtfehdlkklfcnpaaDoorW.PrintLast Go.Proofs.YtfehdlkklfcnpaaDoorW.PrintMore
theorem isSome_setCell (w : World) (a : Addr) (v : Value) (b : Addr) : ((w.setCell a v).cell? b).isSome = (w.cell? b).isSome := by
  simp only [World.setCell, World.cell?, Array.getElem?_modify]
  by_cases hb : a.block = b.block
  · simp only [hb, if_true]
    cases hh : w.heap[b.block]? with
    | none => simp
    | some x => cases x <;> simp <;> (by_cases hs : b.spot.isSome <;> simp_all <;> grind)
  · simp [hb]
theorem od_ {p : Prop} [Decidable p] (h : decide p = true := by first | (with_reducible assumption) | assumption) : p := of_decide_eq_true h
theorem rf_ {p : Prop} (h : p := by first | rfl | (simp; done) | (simp [*]; done)) : p := h
theorem re_ {p : Prop} (h : p := by first | rfl | (simp [errW_none, errW_some] <;> rfl) | (simp [*, errW_none, errW_some] <;> rfl)) : p := h
theorem ml_ {p : Prop} (h : p := by (try simp only [List.map_toArray, List.map_cons, List.map_nil]); first | done | rfl | (simp only [List.length_drop, List.length_take]; rfl)) : p := h
theorem hb_ {p : Prop} (h : p := by repeat (first | (with_reducible first | exact HB.out | apply below_alloc | apply pw_below_drewN | apply below_drew1) | exact HB.out)) : p := h
theorem hk_ {p : Prop} (h : p := by repeat (first | (with_reducible first | exact HK.out | apply Kept.alloc | apply Kept.drewN | apply Kept.drew) | exact HK.out)) : p := h
end Go.Proofs.YtfehdlkklfcnpaaDoorW.PrintWords
namespace Go.Proofs.YtfehdlkklfcnpaaDoor.A
open Go.RowKit Go.Proofs.YtfehdlkklfcnpaaDoorW.PrintWords Go.Proofs.YtfehdlkklfcnpaaDoorW.PrintLast Go.Proofs.YtfehdlkklfcnpaaDoorW.PrintMore
theorem width_pos (s : ByteArray) (pos : Nat) (h : pos < s.size) : 1 ≤ (Utf8.decode s pos).2 := by
  by_cases ha : (s[pos]'h).toNat < 128
  · rw [decode_ascii s pos h ha]
    exact Nat.le_refl _
  · exact (decode_high s pos h (by omega)).2
theorem at_list (s : ByteArray) (pos : Nat) (h : pos < s.size) : s.data.toList[pos]? = some (s[pos]'h) := by
  rw [List.getElem?_eq_getElem (by simpa using h)]
  simp [ByteArray.getElem_eq_getElem_data]
theorem drop_at (s : ByteArray) (pos : Nat) (h : pos < s.size) : s.data.toList.drop pos = (s[pos]'h) :: s.data.toList.drop (pos + 1) := by
  have h1 : pos < s.data.toList.length := by simpa using h
  rw [List.drop_eq_getElem_cons h1]
  congr 1
theorem below_iter (w : World) (s : ByteArray) (pos : Nat) : Below w.heap.size w (w.iter s pos) := below_alloc (Below.refl _ _) _
set_option maxHeartbeats 4000000 in
set_option maxRecDepth 1000000 in
theorem mask_Sane.calls (a0 : ByteArray) (r : Bool) (w : World) (h : mask_Sane.f a0 = some r) :
    Calls Tryd.prog 13 #[.string a0] w fun e w' => e = .returned (.bool r) ∧ Below w.heap.size w w' := by
  obtain rfl := Option.some.inj h
  clear h
  go_enter Tryd.func13, Tryd.ntmps13
  go_wp2
  go_loopw [] (fun w' => ∃ pos : Nat, w' = w.iter a0 pos ∧ saneL a0.data.toList = ((a0.data.toList.drop pos).all okB && decide (a0.data.toList ≠ []) && decide (a0.data.toList.length ≤ 4))) (fun w' => a0.size - w'.iterPos w.heap.size)
  case atStart => exact ⟨0, rfl, rfl⟩
  case round =>
    obtain ⟨pos, rfl, hs⟩ := hrel
    by_cases hp : pos < a0.size
    · have hnx : ∀ ty, (Instr.next (.pointer (some ⟨w.heap.size, 0, none⟩)) true ty).run Tryd.prog (w.iter a0 pos) = _ := fun ty => run_next_any w a0 pos ty hp
      have hwd := width_pos a0 pos hp
      rw [drop_at a0 pos hp, List.all_cons] at hs
      have hb : okB (a0[pos]'hp) = true → Utf8.decode a0 pos = ((a0[pos]'hp).toNat, 1) := fun h => decode_ascii a0 pos hp (by have := of_decide_eq_true h; omega)
      have hn : okB (a0[pos]'hp) = false → ((Utf8.decode a0 pos).1 < 48 ∨ 57 < (Utf8.decode a0 pos).1) ∧ (Utf8.decode a0 pos).1 ≠ 88 := fun h => by
        have h := of_decide_eq_false h
        by_cases ha : (a0[pos]'hp).toNat < 128
        · rw [decode_ascii a0 pos hp ha]; simp only; omega
        · have := (decode_high a0 pos hp (by omega)).1; omega
      generalize hc : ((Utf8.decode a0 pos).1 : Int) = c at hnx
      by_cases hk : okB (a0[pos]'hp) = true
      · have hd := hb hk
        have hk2 := of_decide_eq_true hk
        rw [hd] at hc
        simp only at hc
        have d1 : decide (c < 48) = false := decide_eq_false (by omega)
        rw [hk, Bool.true_and] at hs
        by_cases h88 : c = 88
        · have d2 : decide (57 < c) = true := decide_eq_true (by omega)
          have d3 : (c != 88) = false := by subst h88; rfl
          go_wp2
          go_roundw
          case rel => exact ⟨pos + 1, rfl, hs⟩
          case measure => simp; omega
        · have d2 : decide (57 < c) = false := decide_eq_false (by omega)
          go_wp2
          go_roundw
          case rel => exact ⟨pos + 1, rfl, hs⟩
          case measure => simp; omega
      · have hk := Bool.eq_false_iff.mpr hk
        have hf : saneL a0.data.toList = false := by rw [hs, hk]; rfl
        obtain ⟨h1, h2⟩ := hn hk
        have d3 : (c != 88) = true := by rw [bne_iff_ne]; omega
        by_cases h48 : c < 48
        · have d1 : decide (c < 48) = true := decide_eq_true h48
          go_wp2
          go_ret
          exact ⟨by first | rfl | (rw [hf]; rfl), below_iter _ _ _⟩
        · have d1 : decide (c < 48) = false := decide_eq_false h48
          have d2 : decide (57 < c) = true := decide_eq_true (by omega)
          go_wp2
          go_ret
          exact ⟨by first | rfl | (rw [hf]; rfl), below_iter _ _ _⟩
    · have hnx : ∀ ty, (Instr.next (.pointer (some ⟨w.heap.size, 0, none⟩)) true ty).run Tryd.prog (w.iter a0 pos) = _ := fun ty => run_next_end w a0 pos ty hp
      rw [List.drop_eq_nil_of_le (by simpa using hp)] at hs
      simp only [List.all_nil, Bool.true_and] at hs
      have HS := Aside0.mk hs
      clear hs
      go_wp2
      · rename_i he
        rw [ByteArray.toList_eq] at he
        have hf : saneL a0.data.toList = false := by rw [HS.out, he]; rfl
        go_ret
        exact ⟨by first | rfl | (rw [hf]; rfl), below_iter _ _ _⟩
      · rename_i he
        rw [ByteArray.toList_eq] at he
        have hsz : a0.size = a0.data.toList.length := by simp
        have he3 : a0.toList.isEmpty = false := by rw [ByteArray.toList_eq]; cases hl : a0.data.toList <;> simp_all
        have hf : saneL a0.data.toList = decide ((a0.size : Int) ≤ 4) := by
          rw [HS.out, decide_eq_true he, Bool.true_and, hsz]
          exact decide_eq_decide.2 (by omega)
        clear he hsz HS
        go_ret
        exact ⟨by first | rfl | (rw [hf]; rfl) | (rw [hf, he3]; rfl) | (rw [hf]; simp [he3]), below_iter _ _ _⟩
end Go.Proofs.YtfehdlkklfcnpaaDoor.A
namespace Go.Proofs
open Go.Shelf
def Tryd.laysM171_ren : Go.Shelf.Ren := ⟨fun | 171 => 25 | 243 => 31 | 246 => 43 | 283 => 55 | 284 => 56 | 285 => 57 | 286 => 58 | 129 => 69 | 317 => 68 | 318 => 70 | 319 => 71 | 320 => 72 | 337 => 84 | 338 => 85 | n => n, fun | 3 => 3 | 9 => 9 | 2 => 2 | 4 => 4 | 171 => 78 | 0 => 0 | 53 => 67 | 37 => 34 | 5 => 5 | 173 => 81 | 212 => 90 | 51 => 64 | 20 => 20 | 213 => 91 | 46 => 47 | 232 => 107 | 233 => 108 | n => n, fun | 17 => 1 | 18 => 2 | 19 => 3 | n => n⟩
theorem Tryd.laysM171 : Go.Proofs.LaysM.n171 Tryd.prog Tryd.laysM171_ren := {
  mixed := by kernel_rfl
  f129 := Tryd.func69.trans (congrArg some (by kernel_rfl))
  f171 := Tryd.func25.trans (congrArg some (by kernel_rfl))
  f243 := Tryd.func31.trans (congrArg some (by kernel_rfl))
  f246 := Tryd.func43.trans (congrArg some (by kernel_rfl))
  f283 := Tryd.func55.trans (congrArg some (by kernel_rfl))
  f284 := Tryd.func56.trans (congrArg some (by kernel_rfl))
  f285 := Tryd.func57.trans (congrArg some (by kernel_rfl))
  f286 := Tryd.func58.trans (congrArg some (by kernel_rfl))
  f317 := Tryd.func68.trans (congrArg some (by kernel_rfl))
  f318 := Tryd.func70.trans (congrArg some (by kernel_rfl))
  f319 := Tryd.func71.trans (congrArg some (by kernel_rfl))
  f320 := Tryd.func72.trans (congrArg some (by kernel_rfl))
  f337 := Tryd.func84.trans (congrArg some (by kernel_rfl))
  f338 := Tryd.func85.trans (congrArg some (by kernel_rfl))
  t0 := Tryd.underlying0
  a0 := Tryd.isAgg0
  z0 := Tryd.sizeOf0
  v0 := Tryd.zeroValue0
  t2 := Tryd.underlying2
  a2 := Tryd.isAgg2
  z2 := Tryd.sizeOf2
  v2 := Tryd.zeroValue2
  t3 := Tryd.underlying3
  a3 := Tryd.isAgg3
  z3 := Tryd.sizeOf3
  v3 := Tryd.zeroValue3
  t4 := Tryd.underlying4
  a4 := Tryd.isAgg4
  z4 := Tryd.sizeOf4
  v4 := Tryd.zeroValue4
  t5 := Tryd.underlying5
  a5 := Tryd.isAgg5
  z5 := Tryd.sizeOf5
  v5 := Tryd.zeroValue5
  t9 := Tryd.underlying9
  a9 := Tryd.isAgg9
  z9 := Tryd.sizeOf9
  v9 := Tryd.zeroValue9
  t20 := Tryd.underlying20
  a20 := Tryd.isAgg20
  z20 := Tryd.sizeOf20
  v20 := Tryd.zeroValue20
  t37 := Tryd.underlying34
  a37 := Tryd.isAgg34
  z37 := Tryd.sizeOf34
  v37 := Tryd.zeroValue34
  t46 := Tryd.underlying47
  a46 := Tryd.isAgg47
  z46 := Tryd.sizeOf47
  v46 := Tryd.zeroValue47
  t51 := Tryd.underlying64
  a51 := Tryd.isAgg64
  z51 := Tryd.sizeOf64
  v51 := Tryd.zeroValue64
  t53 := Tryd.underlying67
  a53 := Tryd.isAgg67
  z53 := Tryd.sizeOf67
  v53 := Tryd.zeroValue67
  t171 := Tryd.underlying78
  a171 := Tryd.isAgg78
  z171 := Tryd.sizeOf78
  v171 := Tryd.zeroValue78
  t173 := Tryd.underlying81
  a173 := Tryd.isAgg81
  z173 := Tryd.sizeOf81
  v173 := Tryd.zeroValue81
  t212 := Tryd.underlying90
  a212 := Tryd.isAgg90
  z212 := Tryd.sizeOf90
  v212 := Tryd.zeroValue90
  t213 := Tryd.underlying91
  a213 := Tryd.isAgg91
  z213 := Tryd.sizeOf91
  t232 := Tryd.underlying107
  a232 := Tryd.isAgg107
  z232 := Tryd.sizeOf107
  v232 := Tryd.zeroValue107
  t233 := Tryd.underlying108
  a233 := Tryd.isAgg108
  z233 := Tryd.sizeOf108
  v233 := Tryd.zeroValue108
  g17 := by kernel_rfl
  g18 := by kernel_rfl
  g19 := by kernel_rfl
  i0 := by kernel_rfl
  i2 := by kernel_rfl
  i3 := by kernel_rfl
  i4 := by kernel_rfl
  i5 := by kernel_rfl
  i9 := by kernel_rfl
  i20 := by kernel_rfl
  i37 := by kernel_rfl
  i46 := by kernel_rfl
  i51 := by kernel_rfl
  i53 := by kernel_rfl
  i171 := by kernel_rfl
  i173 := by kernel_rfl
  i212 := by kernel_rfl
  i232 := by kernel_rfl
  i233 := by kernel_rfl
  m17 := by kernel_rfl
  m18 := by kernel_rfl
  m19 := by kernel_rfl }
open Go.RowKit Go.Sort Go.Lib in
theorem Tryd.strconv_Itoa (n : Int) (h0 : -9223372036854775808 ≤ n) (h1 : n ≤ 9223372036854775807) (w : World) (htab : Lib.TabIs Tryd.prog w "internal/strconv.uint64pow10" .u64 Lib.pow10Tab) :
    Calls Tryd.prog 25 #[.int .i64 n] w fun e w' => e = .returned (.string ⟨(Lib.itoa n).toArray⟩) ∧ ∃ k os, w' = grow (w.drewN k) os := Any.strconv_Itoa Tryd.laysM171 n h0 h1 w htab
def Tryd.lays138_ren : Go.Shelf.Ren := ⟨fun | 138 => 28 | 195 => 38 | 218 => 39 | 143 => 40 | 219 => 49 | 217 => 61 | 225 => 62 | 224 => 63 | 267 => 64 | 266 => 73 | 314 => 74 | n => n, fun | 9 => 9 | 3 => 3 | 4 => 4 | 5 => 5 | 0 => 0 | 46 => 47 | 146 => 65 | 51 => 64 | n => n, fun | 1 => 0 | n => n⟩
theorem Tryd.lays138 : Go.Proofs.Lays.n138 Tryd.prog Tryd.lays138_ren := {
  mixed := by kernel_rfl
  f138 := Tryd.func28.trans (congrArg some (by kernel_rfl))
  f143 := Tryd.func40.trans (congrArg some (by kernel_rfl))
  f195 := Tryd.func38.trans (congrArg some (by kernel_rfl))
  f217 := Tryd.func61.trans (congrArg some (by kernel_rfl))
  f218 := Tryd.func39.trans (congrArg some (by kernel_rfl))
  f219 := Tryd.func49.trans (congrArg some (by kernel_rfl))
  f224 := Tryd.func63.trans (congrArg some (by kernel_rfl))
  f225 := Tryd.func62.trans (congrArg some (by kernel_rfl))
  f266 := Tryd.func73.trans (congrArg some (by kernel_rfl))
  f267 := Tryd.func64.trans (congrArg some (by kernel_rfl))
  f314 := Tryd.func74.trans (congrArg some (by kernel_rfl))
  t0 := Tryd.underlying0
  a0 := Tryd.isAgg0
  z0 := Tryd.sizeOf0
  v0 := Tryd.zeroValue0
  t3 := Tryd.underlying3
  a3 := Tryd.isAgg3
  z3 := Tryd.sizeOf3
  v3 := Tryd.zeroValue3
  t4 := Tryd.underlying4
  a4 := Tryd.isAgg4
  z4 := Tryd.sizeOf4
  v4 := Tryd.zeroValue4
  t5 := Tryd.underlying5
  a5 := Tryd.isAgg5
  z5 := Tryd.sizeOf5
  v5 := Tryd.zeroValue5
  t9 := Tryd.underlying9
  a9 := Tryd.isAgg9
  z9 := Tryd.sizeOf9
  v9 := Tryd.zeroValue9
  t46 := Tryd.underlying47
  a46 := Tryd.isAgg47
  z46 := Tryd.sizeOf47
  v46 := Tryd.zeroValue47
  t51 := Tryd.underlying64
  a51 := Tryd.isAgg64
  z51 := Tryd.sizeOf64
  v51 := Tryd.zeroValue64
  t146 := Tryd.underlying65
  a146 := Tryd.isAgg65
  z146 := Tryd.sizeOf65
  v146 := Tryd.zeroValue65
  g1 := by kernel_rfl }
open Go.RowKit Go.Lib in
theorem Tryd.strings_Count_one (s : ByteArray) (c : UInt8) (w : World) :
    Calls Tryd.prog 28 #[.string s, .string ⟨#[c]⟩] w fun e w' => e = .returned (.int .i64 (Lib.countByte s.data.toList c)) ∧ w' = w := Any.strings_Count_one Tryd.lays138 s c w
open Go.RowKit Go.Lib in
theorem Tryd.strings_Count (s sub : ByteArray) (m : Int) (w : World) (hs : s.size < 4294967281) (hm : w.cell? ⟨0, 0, none⟩ = some (.int .i64 m)) (h2 : 2 ≤ sub.size) :
    Calls Tryd.prog 28 #[.string s, .string sub] w fun e w' => e = .returned (.int .i64 (Lib.countB s sub)) ∧ w' = w := Any.strings_Count Tryd.lays138 s sub m w hs hm h2
def Tryd.lays105_ren : Go.Shelf.Ren := ⟨fun | 105 => 26 | 212 => 32 | 99 => 33 | 165 => 34 | 166 => 35 | 170 => 36 | 169 => 37 | 263 => 44 | 264 => 45 | 206 => 46 | 240 => 47 | 241 => 48 | 276 => 59 | 277 => 60 | n => n, fun | 9 => 9 | 3 => 3 | 4 => 4 | 20 => 20 | 0 => 0 | 46 => 47 | 109 => 48 | 5 => 5 | 72 => 53 | 76 => 57 | 51 => 64 | 146 => 65 | 53 => 67 | 148 => 68 | 70 => 51 | 37 => 34 | 75 => 56 | 127 => 70 | 164 => 83 | 80 => 60 | n => n, fun | n => n⟩
theorem Tryd.lays105 : Go.Proofs.Lays.n105 Tryd.prog Tryd.lays105_ren := {
  mixed := by kernel_rfl
  f99 := Tryd.func33.trans (congrArg some (by kernel_rfl))
  f105 := Tryd.func26.trans (congrArg some (by kernel_rfl))
  f165 := Tryd.func34.trans (congrArg some (by kernel_rfl))
  f166 := Tryd.func35.trans (congrArg some (by kernel_rfl))
  f169 := Tryd.func37.trans (congrArg some (by kernel_rfl))
  f170 := Tryd.func36.trans (congrArg some (by kernel_rfl))
  f206 := Tryd.func46.trans (congrArg some (by kernel_rfl))
  f212 := Tryd.func32.trans (congrArg some (by kernel_rfl))
  f240 := Tryd.func47.trans (congrArg some (by kernel_rfl))
  f241 := Tryd.func48.trans (congrArg some (by kernel_rfl))
  f263 := Tryd.func44.trans (congrArg some (by kernel_rfl))
  f264 := Tryd.func45.trans (congrArg some (by kernel_rfl))
  f276 := Tryd.func59.trans (congrArg some (by kernel_rfl))
  f277 := Tryd.func60.trans (congrArg some (by kernel_rfl))
  t0 := Tryd.underlying0
  a0 := Tryd.isAgg0
  z0 := Tryd.sizeOf0
  v0 := Tryd.zeroValue0
  t3 := Tryd.underlying3
  a3 := Tryd.isAgg3
  z3 := Tryd.sizeOf3
  v3 := Tryd.zeroValue3
  t4 := Tryd.underlying4
  a4 := Tryd.isAgg4
  z4 := Tryd.sizeOf4
  v4 := Tryd.zeroValue4
  t5 := Tryd.underlying5
  a5 := Tryd.isAgg5
  z5 := Tryd.sizeOf5
  v5 := Tryd.zeroValue5
  t9 := Tryd.underlying9
  a9 := Tryd.isAgg9
  z9 := Tryd.sizeOf9
  v9 := Tryd.zeroValue9
  t20 := Tryd.underlying20
  a20 := Tryd.isAgg20
  z20 := Tryd.sizeOf20
  v20 := Tryd.zeroValue20
  t37 := Tryd.underlying34
  a37 := Tryd.isAgg34
  z37 := Tryd.sizeOf34
  v37 := Tryd.zeroValue34
  t46 := Tryd.underlying47
  a46 := Tryd.isAgg47
  z46 := Tryd.sizeOf47
  v46 := Tryd.zeroValue47
  t51 := Tryd.underlying64
  a51 := Tryd.isAgg64
  z51 := Tryd.sizeOf64
  v51 := Tryd.zeroValue64
  t53 := Tryd.underlying67
  a53 := Tryd.isAgg67
  z53 := Tryd.sizeOf67
  v53 := Tryd.zeroValue67
  t70 := Tryd.underlying51
  a70 := Tryd.isAgg51
  z70 := Tryd.sizeOf51
  v70 := Tryd.zeroValue51
  t72 := Tryd.underlying53
  a72 := Tryd.isAgg53
  z72 := Tryd.sizeOf53
  v72 := Tryd.zeroValue53
  t75 := Tryd.underlying56
  a75 := Tryd.isAgg56
  z75 := Tryd.sizeOf56
  v75 := Tryd.zeroValue56
  t76 := Tryd.underlying57
  a76 := Tryd.isAgg57
  z76 := Tryd.sizeOf57
  v76 := Tryd.zeroValue57
  t109 := Tryd.underlying48
  a109 := Tryd.isAgg48
  z109 := Tryd.sizeOf48
  v109 := Tryd.zeroValue48
  t127 := Tryd.underlying70
  a127 := Tryd.isAgg70
  z127 := Tryd.sizeOf70
  v127 := Tryd.zeroValue70
  t146 := Tryd.underlying65
  a146 := Tryd.isAgg65
  z146 := Tryd.sizeOf65
  v146 := Tryd.zeroValue65
  t148 := Tryd.underlying68
  a148 := Tryd.isAgg68
  z148 := Tryd.sizeOf68
  v148 := Tryd.zeroValue68
  t164 := Tryd.underlying83
  a164 := Tryd.isAgg83
  z164 := Tryd.sizeOf83
  v164 := Tryd.zeroValue83 }
theorem Tryd.Builder_Extra_105 : Builder.Extra Tryd.prog Tryd.lays105_ren := {
  sizeBuilder := by kernel_rfl
  liesBuilder := by kernel_rfl
  t5 := Tryd.underlying5
  a5 := Tryd.isAgg5
  z5 := Tryd.sizeOf5
  v5 := Tryd.zeroValue5
  infoByte := by kernel_rfl
  cellsByte := by kernel_rfl
  sizeByte := by kernel_rfl
  neB5 := by decide }
open Go.RowKit Go.Lib in
theorem Tryd.strings_Repeat (s : ByteArray) (c : Nat) (w : World) (hc : c ≤ 9223372036854775807) (hlen : s.size * c ≤ 140737488355328) :
    Calls Tryd.prog 26 #[.string s, .int .i64 c] w fun e w' => e = .returned (.string ⟨(Lib.repeatL s.data.toList c).toArray⟩) ∧ Below w.heap.size w w' := Any.strings_Repeat Tryd.lays105 Tryd.Builder_Extra_105 s c w hc hlen
end Go.Proofs
namespace Go.Proofs.YtfehdlkklfcnpaaDoor.A
open Go.RowKit Go.Proofs.YtfehdlkklfcnpaaDoorW.PrintWords Go.Proofs.YtfehdlkklfcnpaaDoorW.PrintLast Go.Proofs.YtfehdlkklfcnpaaDoorW.PrintMore
theorem ascii_of {s : ByteArray} (h : mask_Sane.f s = some true) : ∀ (pos : Nat) (hp : pos < s.size), (s[pos]'hp).toNat < 128 := fun pos hp => by
  have h := Option.some.inj h
  unfold saneL at h
  simp only [Bool.and_eq_true] at h
  have h2 := List.all_eq_true.1 h.1.1 (s[pos]'hp) (List.mem_of_getElem? (at_list s pos hp))
  have h3 := of_decide_eq_true h2
  omega
def TB (B : Nat) (w : World) : Prop := Lib.TabBelow Tryd.prog B w "internal/strconv.uint64pow10" .u64 Lib.pow10Tab
theorem TB.on {B : Nat} {w w1 : World} (h : TB B w) (hb : Below B w w1) : TB B w1 := Lib.TabBelow.on h hb
theorem itoa_calls (n : Int) (h0 : -9223372036854775808 ≤ n) (h1 : n ≤ 9223372036854775807) (w : World) {B : Nat} (ht : TB B w) (hB : B ≤ w.heap.size) :
    Calls Tryd.prog 25 #[.int .i64 n] w fun e w' => e = .returned (.string ⟨(Lib.itoa n).toArray⟩) ∧ Below B w w' :=
  (Tryd.strconv_Itoa n h0 h1 w ht.here).mono fun e w' ⟨he, k, os, hw⟩ => ⟨he, hw ▸ Lib.below_grow B w hB k os⟩
theorem repeat_one (c : Nat) : Lib.repeatL [48] c = List.replicate c 48 := by
  induction c with
  | zero => rfl
  | succ c ih => rw [Lib.repeatL, ih]; rfl
theorem padded_len (n : Nat) (t : List UInt8) (h : t.length ≤ n) : (padded n t).length = n := by unfold padded; simp; omega
theorem repeat_calls (c : Nat) (hc : c ≤ 4) (w : World) : Calls Tryd.prog 26 #[.string ⟨#[48]⟩, .int .i64 c] w fun e w' => e = .returned (.string ⟨(Lib.repeatL [48] c).toArray⟩) ∧ Below w.heap.size w w' :=
  Tryd.strings_Repeat ⟨#[48]⟩ c w (by omega) (by show 1 * c ≤ _; omega)
set_option maxHeartbeats 4000000 in
set_option maxRecDepth 1000000 in
theorem mask_Match.calls (a0 : ByteArray) (a1 : Int) (r : Bool) (w : World) (htab : TB w.heap.size w) (h : mask_Match.f a0 a1 = some r) :
    Calls Tryd.prog 15 #[.string a0, .int .i64 a1] w fun e w' => e = .returned (.bool r) ∧ Below w.heap.size w w' := by
  unfold mask_Match.f at h
  by_cases hr : -9223372036854775808 ≤ a1 ∧ a1 ≤ 9223372036854775807
  rotate_left
  · rw [if_neg hr] at h; exact absurd h (by simp)
  rw [if_pos hr] at h
  obtain ⟨r0, r1⟩ := hr
  obtain rfl := Option.some.inj h
  clear h
  have HT := Aside0.mk htab
  clear htab
  have HB := Aside0.mk (Below.refl w.heap.size w)
  by_cases hs : saneL a0.data.toList = true
  rotate_left
  · have hs := Bool.eq_false_iff.mpr hs
    have hf : matchL a0.data.toList a1 = false := by unfold matchL; rw [hs]; rfl
    have AS := Aside0.mk (show mask_Sane.f a0 = some false from congrArg some hs)
    clear hs
    go_enter Tryd.func15, Tryd.ntmps15
    go_wp2_with (first | (go_at_call 13; (with_reducible refine (mask_Sane.calls a0 false _ AS.out).mono ?_); rintro e w5 ⟨rfl, hb⟩; have HB2 := Aside0.mk (below_step hb_ hb); clear HB hb; have HB := HB2; clear HB2))
    go_ret
    exact ⟨by first | rfl | (rw [hf]; rfl), HB.out⟩
  have AS := Aside0.mk (show mask_Sane.f a0 = some true from congrArg some hs)
  by_cases hn : 0 ≤ a1
  rotate_left
  · have hf : matchL a0.data.toList a1 = false := by unfold matchL; rw [hs, decide_eq_false hn]; rfl
    have d1 : decide (a1 < 0) = true := decide_eq_true (by omega)
    clear hs hn
    go_enter Tryd.func15, Tryd.ntmps15
    go_wp2_with (first | (go_at_call 13; (with_reducible refine (mask_Sane.calls a0 true _ AS.out).mono ?_); rintro e w5 ⟨rfl, hb⟩; have HB2 := Aside0.mk (below_step hb_ hb); clear HB hb; have HB := HB2; clear HB2))
    go_ret
    exact ⟨by first | rfl | (rw [hf]; rfl), HB.out⟩
  have hf : matchL a0.data.toList a1 = (decide ((Lib.itoa a1).length ≤ a0.data.toList.length) && agree a0.data.toList (padded a0.data.toList.length (Lib.itoa a1))) := by unfold matchL; rw [hs, decide_eq_true hn]; rfl
  have d1 : decide (a1 < 0) = false := decide_eq_false (by omega)
  obtain ⟨T, hT⟩ : ∃ T : ByteArray, T = ⟨(Lib.itoa a1).toArray⟩ := ⟨_, rfl⟩
  have hTl : T.data.toList = Lib.itoa a1 := by rw [hT]
  rw [← hTl] at hf
  have HTT := Aside0.mk hT
  have R0 := Aside0.mk r0
  have R1 := Aside0.mk r1
  have HF := Aside0.mk hf
  have hsz : T.size = T.data.toList.length := by simp
  have hsa : a0.size = a0.data.toList.length := by simp
  have h4 : a0.data.toList.length ≤ 4 := by unfold saneL at hs; simp only [Bool.and_eq_true, decide_eq_true_eq] at hs; exact hs.2
  clear hs hn hT hTl r0 r1 hf
  by_cases hl : T.size ≤ a0.size
  rotate_left
  · have hf : matchL a0.data.toList a1 = false := by rw [HF.out, decide_eq_false (by omega)]; rfl
    have d2 : decide ((a0.size : Int) < (T.size : Int)) = true := decide_eq_true (by omega)
    have d3 : decide (a0.size < T.size) = true := decide_eq_true (by omega)
    have d4 : (a0.size < T.size) = True := eq_true (by omega)
    clear hl hsz hsa h4 HF
    go_enter Tryd.func15, Tryd.ntmps15
    go_wp2_with (first | (go_at_call 13; (with_reducible refine (mask_Sane.calls a0 true _ AS.out).mono ?_); rintro e w5 ⟨rfl, hb⟩; have HB2 := Aside0.mk (below_step hb_ hb); clear HB hb; have HB := HB2; clear HB2) | ((with_reducible refine gate_callee (f := 25) rfl ?_); refine goesL_ (some 16) rfl rfl Tryd.func25 (by kernel_rfl) rfl #[.int .i64 a1] rfl ml_ ?_; (with_reducible refine (itoa_calls a1 R0.out R1.out _ (TB.on HT.out HB.out) HB.out.size).mono ?_); rintro e w6 ⟨rfl, hb⟩; rw [← HTT.out]; refine ⟨_, rfl, ?_⟩; have HB2 := Aside0.mk (HB.out.trans hb); clear HB hb; have HB := HB2; clear HB2))
    go_ret
    exact ⟨by first | rfl | (rw [hf]; rfl), HB.out⟩
  have d2 : decide ((a0.size : Int) < (T.size : Int)) = false := decide_eq_false (by omega)
  have d3 : decide (a0.size < T.size) = false := decide_eq_false (by omega)
  have d4 : (a0.size < T.size) = False := eq_false (by omega)
  obtain ⟨c, hc⟩ : ∃ c : Nat, c = a0.size - T.size := ⟨_, rfl⟩
  have hw : IntKind.i64.wrap ((a0.size : Int) - (T.size : Int)) = (c : Int) := (i64_w _).trans (by unfold wrap64; omega)
  have HC := Aside0.mk (show c ≤ 4 by omega)
  obtain ⟨Z, hZ⟩ : ∃ Z : ByteArray, Z = ⟨(Lib.repeatL [48] c).toArray⟩ := ⟨_, rfl⟩
  have HZ := Aside0.mk hZ
  obtain ⟨U, hU⟩ : ∃ U : ByteArray, U = Z ++ T := ⟨_, rfl⟩
  have HU := Aside0.mk hU
  have hZs : Z.data.toList = List.replicate c 48 := by rw [hZ]; simp [repeat_one]
  have hUl : U.data.toList = padded a0.data.toList.length T.data.toList := by rw [hU]; unfold padded; rw [ByteArray.data_append, Array.toList_append, hZs, hc, hsa, hsz]
  have hTl : T.data.toList.length ≤ a0.data.toList.length := by omega
  have HG := Aside0.mk (show matchL a0.data.toList a1 = agree a0.data.toList U.data.toList by rw [HF.out, hUl, decide_eq_true hTl, Bool.true_and])
  have hUs : U.size = a0.size := by
    have h1 : U.size = U.data.toList.length := by simp
    rw [h1, hUl, padded_len _ _ hTl, hsa]
  have HUS := Aside0.mk hUs
  have HAS := Aside0.mk (ascii_of AS.out)
  have d5 : (9223372036854775807 < Z.size + T.size) = False := by
    have h1 : Z.size = Z.data.toList.length := by simp
    rw [hZs, List.length_replicate] at h1
    exact eq_false (by omega)
  clear hZ hU hl hsz hsa h4 hc hZs hUl hTl hUs HF
  go_enter Tryd.func15, Tryd.ntmps15
  go_wp2_with (first | (go_at_call 13; (with_reducible refine (mask_Sane.calls a0 true _ AS.out).mono ?_); rintro e w5 ⟨rfl, hb⟩; have HB2 := Aside0.mk (below_step hb_ hb); clear HB hb; have HB := HB2; clear HB2) | ((with_reducible refine gate_callee (f := 25) rfl ?_); refine goesL_ (some 16) rfl rfl Tryd.func25 (by kernel_rfl) rfl #[.int .i64 a1] rfl ml_ ?_; (with_reducible refine (itoa_calls a1 R0.out R1.out _ (TB.on HT.out HB.out) HB.out.size).mono ?_); rintro e w6 ⟨rfl, hb⟩; rw [← HTT.out]; refine ⟨_, rfl, ?_⟩; have HB2 := Aside0.mk (HB.out.trans hb); clear HB hb; have HB := HB2; clear HB2) | ((with_reducible refine gate_callee (f := 26) rfl ?_); refine goesL_ (some 27) rfl rfl Tryd.func26 (by kernel_rfl) rfl #[.string ⟨#[48]⟩, .int .i64 (c : Int)] rfl ml_ ?_; (with_reducible refine (repeat_calls c HC.out _).mono ?_); rintro e w7 ⟨rfl, hb⟩; rw [← HZ.out]; refine ⟨_, rfl, ?_⟩; have HB2 := Aside0.mk (below_step hb_ hb); clear HB hb; have HB := HB2; clear HB2))
  rw [← HU.out]
  go_loopw [] (fun w' => ∃ pos : Nat, w' = w7.iter a0 pos ∧ agree (a0.data.toList.drop pos) (U.data.toList.drop pos) = agree a0.data.toList U.data.toList) (fun w' => a0.size - w'.iterPos w7.heap.size)
  case atStart => exact ⟨0, rfl, rfl⟩
  case round =>
    obtain ⟨pos, rfl, hg⟩ := hrel
    have HX := Aside0.mk hg
    clear hg
    by_cases hp : pos < a0.size
    · have ha := HAS.out pos hp
      have hpU : pos < U.size := by rw [HUS.out]; exact hp
      have hnx : ∀ ty, (Instr.next (.pointer (some ⟨w7.heap.size, 0, none⟩)) true ty).run Tryd.prog (w7.iter a0 pos) = _ := fun ty => run_next_ascii w7 a0 pos ty hp ha
      have hst : (agree (a0.data.toList.drop pos) (U.data.toList.drop pos)) = ((decide ((a0[pos]'hp).toNat = 88) || decide ((a0[pos]'hp).toNat = (U[pos]'hpU).toNat)) && agree (a0.data.toList.drop (pos + 1)) (U.data.toList.drop (pos + 1))) := by
        rw [drop_at a0 pos hp, drop_at U pos hpU]; rfl
      have HST := Aside0.mk hst
      clear hst
      generalize hcv : ((a0[pos]'hp).toNat : Int) = c at hnx
      have p4 : (0 ≤ (pos : Int)) = True := eq_true (by omega)
      have q4 : ((pos : Int) < (U.size : Int)) = True := eq_true (by omega)
      have hu8 : IntKind.u8.wrap c = c := by rw [IntKind.wrap_u8]; omega
      by_cases h88 : c = 88
      · have hr2 : agree (a0.data.toList.drop (pos + 1)) (U.data.toList.drop (pos + 1)) = agree a0.data.toList U.data.toList := by
          rw [← HX.out, HST.out, decide_eq_true (p := (a0[pos]'hp).toNat = 88) (by omega)]; rfl
        have HR2 := Aside0.mk hr2
        clear hr2 HST
        have hm_ := Aside0.mk hp
        clear hcv ha hp hpU
        subst h88
        go_wp2
        go_roundw
        case rel => exact ⟨pos + 1, rfl, HR2.out⟩
        case measure => have := hm_.out; simp; omega
      · have d6 : (c != 88) = true := by rw [bne_iff_ne]; exact h88
        have hd88 : decide ((a0[pos]'hp).toNat = 88) = false := decide_eq_false (by omega)
        by_cases heq : c = ((U[pos]'hpU).toNat : Int)
        · have hr2 : agree (a0.data.toList.drop (pos + 1)) (U.data.toList.drop (pos + 1)) = agree a0.data.toList U.data.toList := by
            rw [← HX.out, HST.out, decide_eq_true (p := (a0[pos]'hp).toNat = (U[pos]'hpU).toNat) (by omega), Bool.or_true, Bool.true_and]
          have HR2 := Aside0.mk hr2
          have d7 : (c != ((U[pos]'hpU).toNat : Int)) = false := by rw [← heq]; exact bne_self_eq_false _
          have d8 : (c == ((U[pos]'hpU).toNat : Int)) = true := by rw [← heq]; exact beq_self_eq_true _
          have hm_ := Aside0.mk hp
          clear hr2 HST hd88 hcv ha heq h88
          go_wp2
          go_roundw
          case rel => exact ⟨pos + 1, rfl, HR2.out⟩
          case measure => have := hm_.out; simp; omega
        · have hf : matchL a0.data.toList a1 = false := by
            rw [HG.out, ← HX.out, HST.out, hd88, decide_eq_false (p := (a0[pos]'hp).toNat = (U[pos]'hpU).toNat) (by omega)]; rfl
          have d7 : (c != ((U[pos]'hpU).toNat : Int)) = true := by rw [bne_iff_ne]; exact heq
          have d8 : (c == ((U[pos]'hpU).toNat : Int)) = false := beq_eq_false_iff_ne.mpr heq
          have HF := Aside0.mk hf
          clear hf HST hd88 hcv ha heq h88
          go_wp2
          go_ret
          exact ⟨by first | rfl | (rw [HF.out]; rfl), below_alloc HB.out _⟩
    · have hf : matchL a0.data.toList a1 = true := by
        rw [HG.out, ← HX.out, List.drop_eq_nil_of_le (by simpa using hp)]; rfl
      have hnx : ∀ ty, (Instr.next (.pointer (some ⟨w7.heap.size, 0, none⟩)) true ty).run Tryd.prog (w7.iter a0 pos) = _ := fun ty => run_next_end w7 a0 pos ty hp
      have HF := Aside0.mk hf
      clear hf hp
      go_wp2
      go_ret
      exact ⟨by first | rfl | (rw [HF.out]; rfl), below_alloc HB.out _⟩
end Go.Proofs.YtfehdlkklfcnpaaDoor.A
namespace Go.Proofs.YtfehdlkklfcnpaaDoor.A
open Go.ChangeShapes Go.WideShapes Go.ChangeAt Go.WideMaps Go.WideElems Go.RowKit
def laid3 : List (String × DataW Unit) := [("math/bits.deBruijn32tab", Rows.laid_math_bits_deBruijn32tab), ("math/bits.deBruijn64tab", Rows.laid_math_bits_deBruijn64tab), ("internal/strconv.uint64pow10", Rows.laid_internal_strconv_uint64pow10)]
theorem own3 : ownKnob Tryd.prog.godebug = none := by kernel_rfl
set_option maxRecDepth 100000 in
theorem door_met (os : Os) (args : Array Value) : laidMetH Tryd.prog laid3 ((World.doorLaid Tryd.prog 24 os).forCall (fun _ _ => 0) ⟨#[], args, []⟩).memory :=
  laidMetH_of_parts3 (fuel := 8) (laidMet_of_run' 8 (by kernel_rfl) (by kernel_rfl)) (by kernel_rfl) (by kernel_rfl)
theorem tab_of_laid {W : World} (h : laidMetH Tryd.prog laid3 W) : Lib.TabIs Tryd.prog W "internal/strconv.uint64pow10" .u64 Lib.pow10Tab := by
  rw [MakeChecks.laidMetH_plain _ _ _ (by kernel_rfl)] at h
  obtain ⟨ps, ⟨g0, t0, cs0, f0, p0, q0, hg0, ht0, hv0, hd0, ⟨g1, t1, cs1, f1, p1, q1, hg1, ht1, hv1, hd1, ⟨g2, t2, cs2, f2, p2, q2, hg2, ht2, hv2, hd2, _, _⟩, _⟩, _⟩, _, _⟩ := h
  obtain rfl := Option.some.inj ((show Tryd.prog.globalNamed "internal/strconv.uint64pow10" = some 1 by kernel_rfl).symm.trans hg2)
  obtain rfl := Option.some.inj ((show (Tryd.prog.globals[1]?).map (·.type) = some 90 by kernel_rfl).symm.trans ht2)
  have e : Rows.laid_internal_strconv_uint64pow10 (H := Unit) = Lib.tabData .u64 Lib.pow10Tab := by kernel_rfl
  rw [e] at hd2
  unfold Lib.TabIs
  rw [hv2, ← Lib.cells_of_tab (n := 20) (e := 67) Tryd.underlying90 Tryd.underlying67 (by kernel_rfl) (by kernel_rfl) hd2]
end Go.Proofs.YtfehdlkklfcnpaaDoor.A
namespace Go.Proofs.YtfehdlkklfcnpaaDoor.A
open Go.RowKit Go.Proofs.YtfehdlkklfcnpaaDoorW.PrintWords Go.Proofs.YtfehdlkklfcnpaaDoorW.PrintLast Go.Proofs.YtfehdlkklfcnpaaDoorW.PrintMore
attribute [local go_sem] max2_int min2_int max_two min_two max_three min_three max_four min_four
def mask_Count.l0 : Nat → Int → Int → Int → Option (Int)
  | 0, _, _, _ => none
  | k + 1, x3, x8, x9 => if x9 < x8 then (mask_Count.l0 k (wrap64 (x3 * 10)) x8 (wrap64 (x9 + 1))) else (some x3)
def mask_Count.f (k : Nat) (a0 : ByteArray) : Option (Int) := (mask_Sane.f a0).bind fun t101 => (if t101 = true then ((strings_Count.f a0 (⟨#[88]⟩ : ByteArray)).bind fun t102 => (mask_Count.l0 k 1 t102 0)) else (some 0))
theorem mask_Count.mono_l : ∀ k, (∀ y0 y1 y2, LeO (mask_Count.l0 k y0 y1 y2) (mask_Count.l0 (k + 1) y0 y1 y2))
  | 0 => fun _ _ _ r h => by simp [mask_Count.l0] at h
  | k + 1 => by
    have ih0 := mask_Count.mono_l k
    · intro y0 y1 y2
      unfold mask_Count.l0
      repeat' first
      | (with_reducible exact ih0 _ _ _)
      | (with_reducible exact LeO.refl _)
      | (with_reducible exact LeO.none _)
      | (with_reducible refine LeO.ite ?_ ?_)
      | (with_reducible refine LeO.bind ?_ (fun _ => ?_))
      | exact ih0 _ _ _
      | exact LeO.none _
      | refine LeO.ite ?_ ?_
      | refine LeO.bind ?_ (fun _ => ?_)
theorem mask_Count.mono : ∀ a0 k, LeO (mask_Count.f k a0) (mask_Count.f (k + 1) a0) := by
  intro a0 k
  have ih0 := mask_Count.mono_l k
  unfold mask_Count.f
  repeat' first
      | (with_reducible exact ih0 _ _ _)
      | (with_reducible exact LeO.refl _)
      | (with_reducible exact LeO.none _)
      | (with_reducible refine LeO.ite ?_ ?_)
      | (with_reducible refine LeO.bind ?_ (fun _ => ?_))
      | exact ih0 _ _ _
      | exact LeO.none _
      | refine LeO.ite ?_ ?_
      | refine LeO.bind ?_ (fun _ => ?_)
def mask_Only.f (k : Nat) (a0 : ByteArray) : Option (Int × Bool) := (mask_Count.f k a0).bind fun t103 => (if t103 = 1 then ((mask_Set.f a0).bind fun t104 => (if 0 < (t104.length : Int) then (some ((rd_T37 t104 0).f0, true)) else (none))) else (some (0, false)))
theorem mask_Only.mono : ∀ a0 k, LeO (mask_Only.f k a0) (mask_Only.f (k + 1) a0) := by
  intro a0 k
  unfold mask_Only.f
  repeat' first
      | (with_reducible exact mask_Count.mono _ _)
      | (with_reducible exact LeO.refl _)
      | (with_reducible exact LeO.none _)
      | (with_reducible refine LeO.ite ?_ ?_)
      | (with_reducible refine LeO.bind ?_ (fun _ => ?_))
      | exact mask_Count.mono _ _
      | exact LeO.none _
      | refine LeO.ite ?_ ?_
      | refine LeO.bind ?_ (fun _ => ?_)
def lustrumlaw06_awake.f (k : Nat)  : Option (Bool) := (mask_Meet.f (⟨#[49, 88]⟩ : ByteArray) (⟨#[88, 50]⟩ : ByteArray)).bind fun bt108 => ((mask_Only.f k (⟨#[49, 50]⟩ : ByteArray)).bind fun bt110 => (if bt108.2 = true then (if bt108.1.toList = ([49, 50] : List UInt8) then (if bt110.2 = true then (if bt110.1 = 12 then ((mask_Match.f (⟨#[49, 57, 88, 52]⟩ : ByteArray) 1984).bind fun t112 => (if t112 = true then ((mask_Match.f (⟨#[49, 57, 88, 52]⟩ : ByteArray) 1985).bind fun t113 => (if t113 = true then (some false) else ((mask_Set.f (⟨#[49, 57, 88, 52]⟩ : ByteArray)).bind fun t114 => (if (t114.length : Int) = 10 then ((mask_Count.f k (⟨#[49, 57, 88, 52]⟩ : ByteArray)).bind fun t117 => (if t117 = 10 then ((mask_Sane.f (⟨#[88]⟩ : ByteArray)).bind fun t118 => (some t118)) else (some false))) else (some false))))) else (some false))) else (some false)) else (some false)) else (some false)) else (some false)))
theorem S37.ext2 {a b : S37} (h0 : a.f0 = b.f0) (h1 : a.f1 = b.f1) : a = b := by
  cases a; cases b
  simp only at h0 h1
  subst h0; subst h1; rfl
def lim : Int := 1099511627776
def mem (l : List S37) (n : Int) : Prop := ∃ r, r ∈ l ∧ r.f0 ≤ n ∧ n ≤ r.f1
def saneF : Int → List S37 → Prop
  | _, [] => True
  | a, r :: t => a + 2 ≤ r.f0 ∧ r.f0 ≤ r.f1 ∧ r.f1 ≤ lim ∧ saneF r.f1 t
def sane (l : List S37) : Prop := saneF (-lim - 2) l
theorem mem_nil (n : Int) : ¬ mem [] n := fun ⟨_, h, _⟩ => by simp at h
theorem mem_cons (r : S37) (t : List S37) (n : Int) : mem (r :: t) n ↔ (r.f0 ≤ n ∧ n ≤ r.f1) ∨ mem t n := by
  constructor
  · rintro ⟨q, hq, h⟩
    rcases List.mem_cons.1 hq with rfl | hq
    · exact .inl h
    · exact .inr ⟨q, hq, h⟩
  · rintro (h | ⟨q, hq, h⟩)
    · exact ⟨r, List.mem_cons_self, h⟩
    · exact ⟨q, List.mem_cons_of_mem _ hq, h⟩
theorem mem_append (s t : List S37) (n : Int) : mem (s ++ t) n ↔ mem s n ∨ mem t n := by
  induction s with
  | nil => simp [mem_nil]
  | cons r s ih => rw [List.cons_append, mem_cons, mem_cons, ih, or_assoc]
theorem saneF_mem : ∀ {a : Int} {l : List S37}, saneF a l → ∀ {n : Int}, mem l n → a + 2 ≤ n ∧ n ≤ lim
  | _, [], _, _, h => absurd h (mem_nil _)
  | a, r :: t, ⟨h1, h2, h3, h4⟩, n, h => by
    rcases (mem_cons _ _ _).1 h with h | h
    · omega
    · have := saneF_mem h4 h
      omega
theorem saneF_le {a b : Int} {l : List S37} (h : saneF a l) (hb : b ≤ a) : saneF b l := by
  cases l with
  | nil => trivial
  | cons r t =>
    obtain ⟨h1, h2, h3, h4⟩ := h
    exact ⟨by omega, h2, h3, h4⟩
theorem unique : ∀ {s t : List S37} {a b : Int}, saneF a s → saneF b t → (∀ n, mem s n ↔ mem t n) → s = t
  | [], [], _, _, _, _, _ => rfl
  | [], q :: t, _, _, _, ⟨_, h2, _⟩, h => absurd ((h q.f0).2 ((mem_cons _ _ _).2 (.inl ⟨Int.le_refl _, h2⟩))) (mem_nil _)
  | r :: s, [], _, _, ⟨_, h2, _⟩, _, h => absurd ((h r.f0).1 ((mem_cons _ _ _).2 (.inl ⟨Int.le_refl _, h2⟩))) (mem_nil _)
  | r :: s, q :: t, a, b, ⟨r1, r2, r3, r4⟩, ⟨q1, q2, q3, q4⟩, h => by
    have hr : ∀ n, mem (r :: s) n → r.f0 ≤ n := fun n hn => by
      rcases (mem_cons _ _ _).1 hn with hn | hn
      · exact hn.1
      · have := saneF_mem r4 hn; omega
    have hq : ∀ n, mem (q :: t) n → q.f0 ≤ n := fun n hn => by
      rcases (mem_cons _ _ _).1 hn with hn | hn
      · exact hn.1
      · have := saneF_mem q4 hn; omega
    have e0 : r.f0 = q.f0 := by
      have h1 := hq _ ((h r.f0).1 ((mem_cons _ _ _).2 (.inl ⟨Int.le_refl _, r2⟩)))
      have h2 := hr _ ((h q.f0).2 ((mem_cons _ _ _).2 (.inl ⟨Int.le_refl _, q2⟩)))
      omega
    have e1 : r.f1 = q.f1 := by
      rcases Int.lt_trichotomy r.f1 q.f1 with hlt | heq | hlt
      · have := (h (r.f1 + 1)).2 ((mem_cons _ _ _).2 (.inl ⟨by omega, by omega⟩))
        rcases (mem_cons _ _ _).1 this with hn | hn
        · omega
        · have := saneF_mem r4 hn; omega
      · exact heq
      · have := (h (q.f1 + 1)).1 ((mem_cons _ _ _).2 (.inl ⟨by omega, by omega⟩))
        rcases (mem_cons _ _ _).1 this with hn | hn
        · omega
        · have := saneF_mem q4 hn; omega
    have e2 : s = t := unique r4 q4 fun n => by
      constructor
      · intro hn
        have h1 := saneF_mem r4 hn
        rcases (mem_cons _ _ _).1 ((h n).1 ((mem_cons _ _ _).2 (.inr hn))) with h2 | h2
        · omega
        · exact h2
      · intro hn
        have h1 := saneF_mem q4 hn
        rcases (mem_cons _ _ _).1 ((h n).2 ((mem_cons _ _ _).2 (.inr hn))) with h2 | h2
        · omega
        · exact h2
    rw [S37.ext2 e0 e1, e2]
def ins (x : S37) : List S37 → List S37
  | [] => [x]
  | q :: t => if q.f1 < x.f0 - 1 then q :: ins x t else if x.f1 + 1 < q.f0 then x :: q :: t else ins ⟨min x.f0 q.f0, max x.f1 q.f1⟩ t
theorem ins_sane : ∀ (s : List S37) (x : S37) (a : Int), saneF a s → a + 2 ≤ x.f0 → x.f0 ≤ x.f1 → x.f1 ≤ lim → saneF a (ins x s)
  | [], x, a, _, h1, h2, h3 => ⟨h1, h2, h3, trivial⟩
  | q :: t, x, a, ⟨q1, q2, q3, q4⟩, h1, h2, h3 => by
    unfold ins
    by_cases c1 : q.f1 < x.f0 - 1
    · rw [if_pos c1]
      exact ⟨q1, q2, q3, ins_sane t x _ q4 (by omega) h2 h3⟩
    · rw [if_neg c1]
      by_cases c2 : x.f1 + 1 < q.f0
      · rw [if_pos c2]
        exact ⟨h1, h2, h3, by omega, q2, q3, q4⟩
      · rw [if_neg c2]
        exact ins_sane t _ a (saneF_le q4 (by omega)) (by simp only; omega) (by simp only; omega) (by simp only; omega)
theorem ins_mem : ∀ (s : List S37) (x : S37) (a : Int), saneF a s → x.f0 ≤ x.f1 → ∀ n, mem (ins x s) n ↔ (x.f0 ≤ n ∧ n ≤ x.f1) ∨ mem s n
  | [], x, a, _, h2, n => by unfold ins; rw [mem_cons]
  | q :: t, x, a, ⟨q1, q2, q3, q4⟩, h2, n => by
    unfold ins
    by_cases c1 : q.f1 < x.f0 - 1
    · rw [if_pos c1, mem_cons, mem_cons, ins_mem t x _ q4 h2 n, ← or_assoc, ← or_assoc]
      rw [or_comm (a := q.f0 ≤ n ∧ n ≤ q.f1)]
    · rw [if_neg c1]
      by_cases c2 : x.f1 + 1 < q.f0
      · rw [if_pos c2, mem_cons]
      · rw [if_neg c2, ins_mem t _ _ q4 (by simp only; omega) n, mem_cons, ← or_assoc]
        simp only
        constructor
        · rintro (h | h)
          · left; omega
          · exact .inr h
        · rintro (h | h)
          · left; omega
          · exact .inr h
def clamp (r : S37) : S37 := ⟨max r.f0 (-lim), min r.f1 lim⟩
def step (s : List S37) (r : S37) : List S37 := if (clamp r).f0 ≤ (clamp r).f1 then ins (clamp r) s else s
def norm (l : List S37) : List S37 := l.foldl step []
theorem step_sane {s : List S37} (h : sane s) (r : S37) : sane (step s r) := by
  unfold step
  by_cases c : (clamp r).f0 ≤ (clamp r).f1
  · rw [if_pos c]
    exact ins_sane _ _ _ h (by unfold clamp; simp only; omega) c (by unfold clamp; simp only; omega)
  · rw [if_neg c]; exact h
theorem step_mem {s : List S37} (h : sane s) (r : S37) (n : Int) : mem (step s r) n ↔ (-lim ≤ n ∧ n ≤ lim ∧ r.f0 ≤ n ∧ n ≤ r.f1) ∨ mem s n := by
  unfold step
  by_cases c : (clamp r).f0 ≤ (clamp r).f1
  · rw [if_pos c, ins_mem _ _ _ h c]
    unfold clamp; simp only
    constructor
    · rintro (h | h)
      · left; omega
      · exact .inr h
    · rintro (h | h)
      · left; omega
      · exact .inr h
  · rw [if_neg c]
    unfold clamp at c; simp only at c
    constructor
    · exact .inr
    · rintro (h | h)
      · exfalso; omega
      · exact h
theorem fold_sane : ∀ (l : List S37) (s : List S37), sane s → sane (l.foldl step s)
  | [], _, h => h
  | r :: l, _, h => fold_sane l _ (step_sane h r)
theorem fold_mem : ∀ (l : List S37) (s : List S37), sane s → ∀ n, mem (l.foldl step s) n ↔ (-lim ≤ n ∧ n ≤ lim ∧ mem l n) ∨ mem s n
  | [], s, h, n => by simp [mem_nil]
  | r :: l, s, h, n => by
    rw [List.foldl_cons, fold_mem l _ (step_sane h r), step_mem h, mem_cons]
    constructor
    · rintro (⟨h1, h2, h3⟩ | ⟨h1, h2, h3⟩ | h)
      · exact .inl ⟨h1, h2, .inr h3⟩
      · exact .inl ⟨h1, h2, .inl h3⟩
      · exact .inr h
    · rintro (⟨h1, h2, h3 | h3⟩ | h)
      · exact .inr (.inl ⟨h1, h2, h3⟩)
      · exact .inl ⟨h1, h2, h3⟩
      · exact .inr (.inr h)
theorem norm_sane (l : List S37) : sane (norm l) := fold_sane l [] trivial
theorem norm_mem (l : List S37) (n : Int) : mem (norm l) n ↔ -lim ≤ n ∧ n ≤ lim ∧ mem l n := by
  unfold norm
  rw [fold_mem l [] trivial]
  simp [mem_nil]
theorem sane_mem {s : List S37} (h : sane s) {n : Int} (hn : mem s n) : -lim ≤ n ∧ n ≤ lim := by
  have := saneF_mem h hn
  omega
theorem same {s t : List S37} (hs : sane s) (ht : sane t) (h : ∀ n, mem s n ↔ mem t n) : s = t := unique hs ht h
theorem norm_of_sane {s : List S37} (h : sane s) : norm s = s := same (norm_sane s) h fun n => by
  rw [norm_mem]
  exact ⟨fun h => h.2.2, fun hn => ⟨(sane_mem h hn).1, (sane_mem h hn).2, hn⟩⟩
def cnt : List S37 → Int
  | [] => 0
  | r :: t => (r.f1 - r.f0 + 1) + cnt t
def runs_Make.f (_ : List S37) : Option (List S37) := none
def risingHi : List S37 → Bool
  | [] => true
  | r :: t => t.all (fun q => decide (r.f1 ≤ q.f1)) && risingHi t
def runs_at.f (l0 : List S37) (a1 : Int) : Option Int := if risingHi l0 = true ∧ l0.length < 4398046511104 then some ((l0.countP fun r => decide (r.f1 < a1) : Nat) : Int) else none
theorem k37_heap : Kd.Heap k37 := Kd.heap_iso _ (Kd.heap_pair (Kd.heap_int .i64) (Kd.heap_int .i64))
def runs_Sane.l0 : Nat → Int → List (S37) → Int → Int → Option (Bool)
  | 0, _, _, _, _ => none
  | k + 1, x3, x6, x7, x8 => if x8 < x7 then (if 0 ≤ x8 then (if x8 < (x6.length : Int) then (if ((rd_T37 x6 x8).f0) > ((rd_T37 x6 x8).f1) then (some false) else (if ((rd_T37 x6 x8).f0) < (wrap64 (x3 + 2)) then (some false) else (if ((rd_T37 x6 x8).f1) > 1099511627776 then (some false) else (runs_Sane.l0 k ((rd_T37 x6 x8).f1) x6 x7 (wrap64 (x8 + 1)))))) else (none)) else (none)) else (some true)
def runs_Sane.f (k : Nat) (l0 : List (S37)) : Option (Bool) := runs_Sane.l0 k (-1099511627778) l0 (l0.length : Int) 0
def runs_known.f (k : Nat) (l0 : List (S37)) : Option ((List (S37))) := (runs_Sane.f k l0).bind fun t103 => (if t103 = true then (some l0) else ((runs_Make.f l0).bind fun t104 => (some t104)))
def runs_Next.f (k : Nat) (l0 : List (S37)) (a1 : Int) : Option (Int × Bool) := (runs_known.f k l0).bind fun t107 => ((runs_at.f t107 a1).bind fun t110 => (if t110 = (t107.length : Int) then (some (0, false)) else (if 0 ≤ t110 then (if t110 < (t107.length : Int) then (some (mx a1 ((rd_T37 t107 t110).f0), true)) else (none)) else (none))))
def runs_Has.f (k : Nat) (l0 : List (S37)) (a1 : Int) : Option (Bool) := (runs_Next.f k l0 a1).bind fun bt112 => (if bt112.2 = true then (some (bt112.1 == a1)) else (some false))
def runs_Count.l0 : Nat → Int → List (S37) → Int → Int → Option (Int)
  | 0, _, _, _, _ => none
  | k + 1, x3, x7, x8, x9 => if x9 < x8 then (if 0 ≤ x9 then (if x9 < (x7.length : Int) then (runs_Count.l0 k (wrap64 (x3 + (wrap64 ((wrap64 (((rd_T37 x7 x9).f1) - ((rd_T37 x7 x9).f0))) + 1)))) x7 x8 (wrap64 (x9 + 1))) else (none)) else (none)) else (some x3)
def runs_Count.f (k : Nat) (l0 : List (S37)) : Option (Int) := (runs_known.f k l0).bind fun t114 => (runs_Count.l0 k 0 t114 (t114.length : Int) 0)
def lustrumlaw06_MaskSet.f (k : Nat) (a0 : ByteArray) (a1 : Int) : Option (Bool) := (lustrumlaw06_awake.f k).bind fun t119 => ((mask_Set.f a0).bind fun t120 => (if t119 = true then ((runs_Sane.f k t120).bind fun t123 => (if t123 = true then ((runs_Has.f k t120 a1).bind fun t124 => ((mask_Match.f a0 a1).bind fun t125 => (if (t124 == t125) = true then ((runs_Count.f k t120).bind fun t126 => ((mask_Count.f k a0).bind fun t127 => (if t126 = t127 then ((mask_Count.f k a0).bind fun t128 => ((mask_Sane.f a0).bind fun t129 => (some ((decide (t128 > 0)) == t129)))) else (some false)))) else (some false)))) else (some false))) else (some false)))
end Go.Proofs.YtfehdlkklfcnpaaDoor.A
namespace Go.Proofs.YtfehdlkklfcnpaaDoor.A.B
open Go.RowKit Go.Proofs.YtfehdlkklfcnpaaDoorW.PrintWords Go.Proofs.YtfehdlkklfcnpaaDoorW.PrintLast Go.Proofs.YtfehdlkklfcnpaaDoorW.PrintMore
attribute [local go_sem] max2_int min2_int max_two min_two max_three min_three max_four min_four
mutual
def mask_Set.l0 : Nat → Int → List (S37) → List (S37) → Int → Int → Option ((List (S37)))
  | 0, _, _, _, _, _ => none
  | k + 1, x5, x6, x21, x22, x23 => if x23 < x22 then (if 0 ≤ x23 then (if x23 < (x21.length : Int) then (if x5 = 88 then (if x6.length < 8796093022208 then (mask_Set.l0 k x5 (x6 ++ [(⟨wrap64 (((rd_T37 x21 x23).f0) * 10), wrap64 ((wrap64 (((rd_T37 x21 x23).f1) * 10)) + 9)⟩ : S37)]) x21 x22 (wrap64 (x23 + 1))) else (none)) else (mask_Set.l1 k x5 x6 ((rd_T37 x21 x23).f0) x21 x22 x23 ((rd_T37 x21 x23).f0) ((rd_T37 x21 x23).f1))) else (none)) else (none)) else (some x6)
def mask_Set.l1 : Nat → Int → List (S37) → Int → List (S37) → Int → Int → Int → Int → Option ((List (S37)))
  | 0, _, _, _, _, _, _, _, _ => none
  | k + 1, x5, x6, x9, x21, x22, x23, x103000, x103001 => if x9 ≤ x103001 then (if x6.length < 8796093022208 then (mask_Set.l1 k x5 (x6 ++ [(⟨wrap64 ((wrap64 (x9 * 10)) + (wrap64 (wrap32 (x5 - 48)))), wrap64 ((wrap64 (x9 * 10)) + (wrap64 (wrap32 (x5 - 48))))⟩ : S37)]) (wrap64 (x9 + 1)) x21 x22 x23 x103000 x103001) else (none)) else (mask_Set.l0 k x5 x6 x21 x22 (wrap64 (x23 + 1)))
end
def mask_Set.f (k : Nat) (l0 : List (S37)) (a1 : Int) : Option ((List (S37))) := mask_Set.l0 k a1 ([] : List (S37)) l0 (l0.length : Int) 0
end Go.Proofs.YtfehdlkklfcnpaaDoor.A.B
namespace Go.Proofs.YtfehdlkklfcnpaaDoor.A
open Go.RowKit Go.Proofs.YtfehdlkklfcnpaaDoorW.PrintWords Go.Proofs.YtfehdlkklfcnpaaDoorW.PrintLast Go.Proofs.YtfehdlkklfcnpaaDoorW.PrintMore
attribute [local go_sem] max2_int min2_int max_two min_two max_three min_three max_four min_four
def itset (w : World) (g : Nat) (s : ByteArray) (pos : Nat) : World := { w with heap := w.heap.setIfInBounds g (.stringIter s pos) }
theorem itset_size (w : World) (g : Nat) (s : ByteArray) (pos : Nat) : (itset w g s pos).heap.size = w.heap.size := by simp [itset]
theorem itset_at {w : World} {g : Nat} {s : ByteArray} {pos q : Nat} (h : w.heap[g]? = some (.stringIter s q)) : (itset w g s pos).heap[g]? = some (.stringIter s pos) := by
  have := (Array.getElem?_eq_some_iff.1 h).1
  simp [itset, this]
theorem itset_ne (w : World) (g : Nat) (s : ByteArray) (pos : Nat) {k : Nat} (h : k ≠ g) : (itset w g s pos).heap[k]? = w.heap[k]? := by
  simp [itset, Array.getElem?_setIfInBounds, Ne.symm h]
theorem itset_below {B : Nat} {w0 w : World} {g : Nat} {s : ByteArray} {pos : Nat} (h : Below B w0 w) (hg : B ≤ g) : Below B w0 (itset w g s pos) :=
  ⟨h.os, h.tape, h.output, by rw [itset_size]; exact h.size, fun k hk => (itset_ne w g s pos (by omega)).trans (h.block k hk)⟩
theorem itset_keep (w : World) (g : Nat) (s : ByteArray) (pos : Nat) : KeepBut w (itset w g s pos) g none := ⟨by rw [itset_size]; exact Nat.le_refl _, fun k _ hk _ => itset_ne w g s pos hk⟩
theorem run_next_at {P : Program} {w : World} {g : Nat} {s : ByteArray} {pos : Nat} (ty : TypeId) (hg : w.heap[g]? = some (.stringIter s pos)) (h : pos < s.size) (ha : (s[pos]'h).toNat < 128) :
    (Instr.next (.pointer (some ⟨g, 0, none⟩)) true ty).run P w = .ok (.tuple #[.bool true, .int .i64 pos, .int .i32 (s[pos]'h).toNat]) (itset w g s (pos + 1)) := by
  simp only [Instr.next, getObj, setObj, Sem.run_bind, Sem.run, hg, Result.andThen, h, if_true, decode_ascii s pos h ha]
  simp [goInt, Sem.run, hg, itset]
theorem run_next_done {P : Program} {w : World} {g : Nat} {s : ByteArray} {pos : Nat} (ty : TypeId) (hg : w.heap[g]? = some (.stringIter s pos)) (h : ¬ pos < s.size) :
    (Instr.next (.pointer (some ⟨g, 0, none⟩)) true ty).run P w = .ok (.tuple #[.bool false]) w := by
  simp [Instr.next, getObj, Sem.run, hg, h]
theorem k37_E : k37.E = [] := rfl
theorem ok_of {s : ByteArray} (h : mask_Sane.f s = some true) : ∀ (pos : Nat) (hp : pos < s.size), 48 ≤ (s[pos]'hp).toNat ∧ (s[pos]'hp).toNat ≤ 57 ∨ (s[pos]'hp).toNat = 88 := fun pos hp => by
  have h := Option.some.inj h
  unfold saneL at h
  simp only [Bool.and_eq_true] at h
  have h2 := List.all_eq_true.1 h.1.1 (s[pos]'hp) (List.mem_of_getElem? (at_list s pos hp))
  exact of_decide_eq_true h2
theorem w64 {x : Int} (h1 : -9223372036854775808 ≤ x) (h2 : x ≤ 9223372036854775807) : wrap64 x = x := by unfold wrap64; omega
theorem at_rd (p : List S37) (r : S37) (t : List S37) : rd_T37 (p ++ r :: t) (p.length : Int) = r := by simp [rd_T37]
theorem at_lt {α : Type} (p : List α) (r : α) (t : List α) : (p.length : Int) < ((p ++ r :: t).length : Int) := by simp; omega
theorem at_end {α : Type} (p : List α) : ¬ (p.length : Int) < ((p ++ []).length : Int) := by simp
theorem at_0 {α : Type} (p : List α) : 0 ≤ (p.length : Int) := Int.natCast_nonneg _
theorem at_next {α : Type} {p : List α} {r : α} {t : List α} (h : (p ++ r :: t).length ≤ 4611686018427387904) : wrap64 ((p.length : Int) + 1) = ((p ++ [r]).length : Int) := by
  simp at h
  rw [w64 (by omega) (by omega)]
  simp
theorem at_app {α : Type} (p : List α) (r : α) (t : List α) : p ++ r :: t = (p ++ [r]) ++ t := by simp
theorem Ev.eq {α : Type} {g : Nat → Option α} {r q : α} (h : Ev g r) (e : r = q) : Ev g q := e ▸ h
def one (c : Int) (n : Int) : S37 := ⟨n * 10 + (c - 48), n * 10 + (c - 48)⟩
theorem upto_len (lo : Int) : ∀ n, (upto lo n).length = n
  | 0 => rfl
  | n + 1 => by rw [upto, List.length_cons, upto_len (lo + 1) n]
theorem set_l1 (c : Int) (hc : 48 ≤ c ∧ c ≤ 57) (x : List S37) (len i lo hi : Int) (hhi : hi < 1000) (z : List S37) : ∀ (m : Nat) (n : Int) (acc : List S37), 0 ≤ n → n + m = hi + 1 → acc.length + m < 8796093022208 →
    Ev (fun k => B.mask_Set.l0 k c (acc ++ (upto n m).map (one c)) x len (wrap64 (i + 1))) z → Ev (fun k => B.mask_Set.l1 k c acc n x len i lo hi) z
  | 0, n, acc, h0, hm, hl, h => by
    simp only [upto, List.map_nil, List.append_nil] at h
    refine Ev.step (fun k => ?_) h
    rw [B.mask_Set.l1, if_neg (by omega)]
  | m + 1, n, acc, h0, hm, hl, h => by
    have e : acc ++ (upto n (m + 1)).map (one c) = (acc ++ [one c n]) ++ (upto (n + 1) m).map (one c) := by rw [upto]; simp
    rw [e] at h
    have ih := set_l1 c hc x len i lo hi hhi z m (n + 1) (acc ++ [one c n]) (by omega) (by omega) (by rw [List.length_append, List.length_singleton]; omega) h
    refine Ev.step (fun k => ?_) ih
    have w1 : wrap32 (c - 48) = c - 48 := by unfold wrap32; omega
    rw [B.mask_Set.l1, if_pos (by omega), if_pos (by omega), w1, w64 (x := n * 10) (by omega) (by omega), w64 (x := c - 48) (by omega) (by omega), w64 (x := n * 10 + (c - 48)) (by omega) (by omega), w64 (x := n + 1) (by omega) (by omega)]
    rfl
def fine (out : List S37) (b : Int) : Prop := ∀ r, r ∈ out → 0 ≤ r.f0 ∧ r.f0 ≤ r.f1 ∧ r.f1 < b
theorem set_l0 (c : UInt8) (hc : 48 ≤ c.toNat ∧ c.toNat ≤ 57 ∨ c.toNat = 88) : ∀ (t p acc : List S37), fine t 1000 → (p ++ t).length < 1000000 → acc.length + t.length * 1000 < 100000000 →
    Ev (fun k => B.mask_Set.l0 k (c.toNat : Int) acc (p ++ t) ((p ++ t).length : Int) (p.length : Int)) (acc ++ t.flatMap (stepR c))
  | [], p, acc, _, _, _ => by
    refine Ev.step (f := fun _ => some (acc ++ [].flatMap (stepR c))) (fun k => ?_) (Ev.now _)
    rw [B.mask_Set.l0, if_neg (at_end p)]; simp
  | r :: t, p, acc, hf, hn, hl => by
    simp only [List.length_cons] at hl
    obtain ⟨f1, f2, f3⟩ := hf r List.mem_cons_self
    have hft : fine t 1000 := fun q hq => hf q (List.mem_cons_of_mem _ hq)
    by_cases h88 : c.toNat = 88
    · have ih := set_l0 c hc t (p ++ [r]) (acc ++ stepR c r) hft (by rw [← at_app]; exact hn) (by unfold stepR; rw [if_pos h88]; simp; omega)
      rw [← at_app] at ih
      refine Ev.eq (Ev.step (fun k => ?_) ih) (by simp)
      rw [B.mask_Set.l0, if_pos (at_lt p r t), if_pos (at_0 p), if_pos (at_lt p r t), if_pos (by omega), if_pos (by omega), at_rd, at_next (p := p) (r := r) (t := t) (by omega), w64 (x := r.f0 * 10) (by omega) (by omega), w64 (x := r.f1 * 10) (by omega) (by omega), w64 (x := r.f1 * 10 + 9) (by omega) (by omega)]
      unfold stepR
      rw [if_pos h88]
    · have hlen : (stepR c r).length = (r.f1 + 1 - r.f0).toNat := by unfold stepR; rw [if_neg h88, List.length_map, upto_len]
      have ih := set_l0 c hc t (p ++ [r]) (acc ++ stepR c r) hft (by rw [← at_app]; exact hn) (by rw [List.length_append, hlen]; omega)
      rw [← at_app] at ih
      have hgo := set_l1 (c.toNat : Int) (by omega) (p ++ r :: t) ((p ++ r :: t).length : Int) (p.length : Int) r.f0 r.f1 f3 (acc ++ stepR c r ++ t.flatMap (stepR c)) (r.f1 + 1 - r.f0).toNat r.f0 acc f1 (by omega) (by omega) (by
        rw [at_next (p := p) (r := r) (t := t) (by omega)]
        have e : (upto r.f0 (r.f1 + 1 - r.f0).toNat).map (one (c.toNat : Int)) = stepR c r := by unfold stepR; rw [if_neg h88]; rfl
        rw [e]
        exact ih)
      refine Ev.eq (Ev.step (fun k => ?_) hgo) (by simp)
      rw [B.mask_Set.l0, if_pos (at_lt p r t), if_pos (at_0 p), if_pos (at_lt p r t), if_neg (by omega), at_rd]
theorem set_body (c : UInt8) (hc : 48 ≤ c.toNat ∧ c.toNat ≤ 57 ∨ c.toNat = 88) (out : List S37) (hf : fine out 1000) (hl : out.length ≤ 1000) : Ev (fun k => B.mask_Set.f k out (c.toNat : Int)) (out.flatMap (stepR c)) := by
  have := set_l0 c hc out [] [] hf (by simp; omega) (by simp; omega)
  simp only [List.nil_append, List.length_nil] at this
  exact this
def lenB : Nat → Nat
  | 0 => 1
  | p + 1 => lenB p * 10 ^ p
theorem upto_mem (lo : Int) : ∀ (n : Nat) (x : Int), x ∈ upto lo n ↔ lo ≤ x ∧ x < lo + n
  | 0, x => by rw [upto]; constructor
               · intro h; cases h
               · intro h; omega
  | n + 1, x => by rw [upto, List.mem_cons, upto_mem (lo + 1) n x]; omega
theorem stepR_fine {c : UInt8} (hc : 48 ≤ c.toNat ∧ c.toNat ≤ 57 ∨ c.toNat = 88) {out : List S37} {b : Int} (h : fine out b) : fine (out.flatMap (stepR c)) (b * 10) := fun r hr => by
  obtain ⟨q, hq, hr⟩ := List.mem_flatMap.1 hr
  obtain ⟨h1, h2, h3⟩ := h q hq
  unfold stepR at hr
  by_cases h88 : c.toNat = 88
  · rw [if_pos h88] at hr
    obtain rfl := List.mem_singleton.1 hr
    simp only; omega
  · rw [if_neg h88] at hr
    obtain ⟨n, hn, rfl⟩ := List.mem_map.1 hr
    have hn := (upto_mem _ _ _).1 hn
    simp only; omega
theorem flat_len {α β : Type} (f : α → List β) (m : Nat) : ∀ l : List α, (∀ x, x ∈ l → (f x).length ≤ m) → (l.flatMap f).length ≤ l.length * m
  | [], _ => by simp
  | x :: l, h => by
    have h1 := h x List.mem_cons_self
    have h2 := flat_len f m l (fun y hy => h y (List.mem_cons_of_mem _ hy))
    rw [List.flatMap_cons, List.length_append, List.length_cons, Nat.succ_mul]
    omega
theorem stepR_len {c : UInt8} {out : List S37} {b : Nat} (hb : 1 ≤ b) (h : fine out b) : (out.flatMap (stepR c)).length ≤ out.length * b := flat_len _ _ _ fun q hq => by
  obtain ⟨h1, h2, h3⟩ := h q hq
  unfold stepR
  split
  · simp; exact hb
  · rw [List.length_map, upto_len]; omega
def setInv (s : ByteArray) (p : Nat) (out : List S37) : Prop := setL (s.data.toList.drop p) out = setL s.data.toList [⟨0, 0⟩] ∧ fine out (10 ^ p : Nat) ∧ out.length ≤ lenB p
theorem setInv_0 (s : ByteArray) : setInv s 0 [⟨0, 0⟩] := ⟨rfl, fun r hr => by obtain rfl := List.mem_singleton.1 hr; exact ⟨Int.le_refl _, Int.le_refl _, by decide⟩, by decide⟩
theorem setInv_step {s : ByteArray} {p : Nat} {out : List S37} (hp : p < s.size) (hok : 48 ≤ (s[p]'hp).toNat ∧ (s[p]'hp).toNat ≤ 57 ∨ (s[p]'hp).toNat = 88) (h : setInv s p out) : setInv s (p + 1) (out.flatMap (stepR (s[p]'hp))) := by
  obtain ⟨h1, h2, h3⟩ := h
  refine ⟨?_, ?_, ?_⟩
  · rw [← h1, drop_at s p hp]; rfl
  · have := stepR_fine hok h2
    rw [Nat.pow_succ]
    have e : (((10 ^ p * 10 : Nat)) : Int) = ((10 ^ p : Nat) : Int) * 10 := by push_cast; rfl
    rw [e]; exact this
  · have := stepR_len (c := s[p]'hp) (Nat.pow_pos (n := p) (by decide : 0 < 10)) h2
    rw [lenB]
    exact Nat.le_trans this (Nat.mul_le_mul_right _ h3)
theorem setInv_small {s : ByteArray} {p : Nat} {out : List S37} (hp : p ≤ 3) (h : setInv s p out) : fine out 1000 ∧ out.length ≤ 1000 := by
  obtain ⟨h1, h2, h3⟩ := h
  have h10 : (10 ^ p : Nat) ≤ 1000 := Nat.pow_le_pow_right (n := 10) (by decide) hp
  have hl : lenB p ≤ 1000 := by
    rcases (by omega : p = 0 ∨ p = 1 ∨ p = 2 ∨ p = 3) with rfl | rfl | rfl | rfl <;> decide
  refine ⟨fun r hr => ?_, by omega⟩
  obtain ⟨a, b, c⟩ := h2 r hr
  have : ((10 ^ p : Nat) : Int) ≤ 1000 := Int.ofNat_le.2 h10
  exact ⟨a, b, by omega⟩
theorem iterPos_of {w : World} {g : Nat} {s : ByteArray} {p : Nat} (h : w.heap[g]? = some (.stringIter s p)) : w.iterPos g = p := by unfold World.iterPos; rw [h]
set_option maxHeartbeats 8000000 in
set_option maxRecDepth 1000000 in
theorem mask_Set.calls (a0 : ByteArray) (rr : List S37) (w00 : World) (h : mask_Set.f a0 = some rr) :
    Calls Tryd.prog 18 #[.string a0] w00 fun e w' => ∃ v0_ : Value, e = .returned (v0_) ∧ Kd.R k37 37 w' w00.heap.size (fun _ => True) v0_ rr ∧ Below w00.heap.size w00 w' := by
  have hu37 := Tryd.underlying37
  obtain rfl := Option.some.inj h
  clear h
  have HB := Aside0.mk (Below.refl w00.heap.size w00)
  by_cases hs : saneL a0.data.toList = true
  rotate_left
  · have hs := Bool.eq_false_iff.mpr hs
    have AS := Aside0.mk (show mask_Sane.f a0 = some false from congrArg some hs)
    rw [hs]
    clear hs
    go_enter Tryd.func18, Tryd.ntmps18
    go_wp2_with (first | ((with_reducible refine gate_callee (f := 13) rfl ?_); refine goesL_ (some 12) rfl rfl Tryd.func13 (by kernel_rfl) rfl #[.string a0] rfl ml_ ?_; (with_reducible refine (mask_Sane.calls a0 false _ AS.out).mono ?_); rintro e w5 ⟨rfl, hb⟩; refine ⟨_, rfl, ?_⟩; have HB2 := Aside0.mk (below_step hb_ hb); clear HB hb; have HB := HB2; clear HB2))
    go_ret
    exact ⟨_, rfl, Kd.R_nil _ _ _ _ _, HB.out⟩
  have AS := Aside0.mk (show mask_Sane.f a0 = some true from congrArg some hs)
  rw [if_pos hs]
  have hsz : a0.size = a0.data.toList.length := by simp
  have h4 : a0.size ≤ 4 := by rw [hsz]; unfold saneL at hs; simp only [Bool.and_eq_true, decide_eq_true_eq] at hs; exact hs.2
  have HOK := Aside0.mk (ok_of AS.out)
  have H4 := Aside0.mk h4
  clear hs hsz h4
  go_enter Tryd.func18, Tryd.ntmps18
  go_wp2_with (first | ((with_reducible refine gate_callee (f := 13) rfl ?_); refine goesL_ (some 12) rfl rfl Tryd.func13 (by kernel_rfl) rfl #[.string a0] rfl ml_ ?_; (with_reducible refine (mask_Sane.calls a0 true _ AS.out).mono ?_); rintro e w5 ⟨rfl, hb⟩; refine ⟨_, rfl, ?_⟩; have HB2 := Aside0.mk (below_step hb_ hb); clear HB hb; have HB := HB2; clear HB2) | ((with_reducible refine gate_dst (N := 15) rfl ?_); refine Kd.R_lit k37 _ 37 ?hg (N := 15) ?hd (xs := ([(⟨0, 0⟩ : S37)] : List S37)) (inner := [.int .i64 0, .int .i64 0]) (ok := fun _ => True) (okp := fun _ => True) ?hr ?hp (fun _ hk => hk) trivial (Below.refl _ _) (Nat.le_refl _) (by simp) ?_; (case hd => rfl); (case hg => rfl); (case hr => first | (go_simp; done) | (go_simp; rfl)); (case hp => exact (Reps.c2 (show Kd.M k37 _ _ _ (⟨0, 0⟩ : S37) [.int .i64 0, .int .i64 0] from (k37_mkM _ _ _ (⟨0, 0⟩ : S37) )) (Reps.none _ _))); intro v3 w13 ho14 hb hg_ hnew_; clear hg_ hnew_; have HO := Aside0.mk (Kd.R_lower ho14 (below_size hb_)); have HB2 := Aside0.mk (below_step hb_ hb); clear HB hb ho14; have HB := HB2; clear HB2))
  obtain ⟨gi, hgi⟩ : ∃ g : Nat, g = w13.heap.size := ⟨_, rfl⟩
  have HI0 := Aside0.mk (show (w13.iter a0 0).heap[gi]? = some (.stringIter a0 0) by rw [hgi]; exact World.iter_heap w13 a0 0)
  have HO0 := Aside0.mk (show Kd.R k37 37 (w13.iter a0 0) w00.heap.size (fun k => k ≠ gi) v3 [(⟨0, 0⟩ : S37)] from Kd.R_alloc (Kd.R_reok k37_E HO.out (fun k hk => by
    have := Kd.R_lt HO.out
    have h := this k hk
    omega)) _)
  have HB0 := Aside0.mk (show Below w00.heap.size w00 (w13.iter a0 0) from below_alloc HB.out _)
  have HG0 := Aside0.mk (show w00.heap.size ≤ gi by rw [hgi]; exact HB.out.size)
  rw [← hgi]
  clear HO HB hgi
  go_loopw [3] (fun v3 w' => ∃ (p : Nat) (out : List S37), Aside0 (w'.heap[gi]? = some (.stringIter a0 p)) ∧ Aside0 (Kd.R k37 37 w' w00.heap.size (fun k => k ≠ gi) v3 out) ∧ Aside0 (Below w00.heap.size w00 w') ∧ Aside0 (setInv a0 p out)) (fun _ w' => a0.size - w'.iterPos gi)
  case atStart => exact ⟨0, _, HI0, HO0, HB0, ⟨setInv_0 a0⟩⟩
  case round =>
    clear HI0 HO0 HB0
    obtain ⟨p, l0, HI, HO, HBB, HD⟩ := hrel
    by_cases hp : p < a0.size
    · have hok := HOK.out p hp
      have hnx : ∀ ty, (Instr.next (.pointer (some ⟨gi, 0, none⟩)) true ty).run Tryd.prog wr = _ := fun ty => run_next_at ty HI.out hp (by omega)
      obtain ⟨hf, hl⟩ := setInv_small (by have := H4.out; omega) HD.out
      obtain ⟨k, hk⟩ := (set_body (a0[p]'hp) hok l0 hf hl).rounds
      have HD2 := Aside0.mk (setInv_step hp hok HD.out)
      obtain ⟨r, hr⟩ : ∃ r, r = l0.flatMap (stepR (a0[p]'hp)) := ⟨_, rfl⟩
      rw [← hr] at hk HD2
      obtain ⟨w, hw⟩ : ∃ w, w = itset wr gi a0 (p + 1) := ⟨_, rfl⟩
      rw [← hw] at hnx
      have HIw := Aside0.mk (show w.heap[gi]? = some (.stringIter a0 (p + 1)) by rw [hw]; exact itset_at HI.out)
      have HOw := Aside0.mk (show Kd.R k37 37 w w00.heap.size (fun k => k ≠ gi) u3 l0 by rw [hw]; exact Kd.R_keep HO.out (itset_keep _ _ _ _) (fun _ h => h))
      have HBw := Aside0.mk (show Below w00.heap.size w00 w by rw [hw]; exact itset_below HBB.out HG0.out)
      have hpos := Aside0.mk (iterPos_of HI.out)
      have hp2 := Aside0.mk hp
      obtain ⟨A0, c0, rfl⟩ := Kd.R_slice HOw.out
      have HR0 := Aside0.mk (Kd.R_reads' HOw.out).2.2
      have HC0 := Aside0.mk (Kd.R_reads' HOw.out).2.1
      have hend : ∀ (v : Value) (w' : World), Kd.R k37 37 w' w.heap.size (fun _ => True) v r → Below w.heap.size w w' → ∃ (p : Nat) (out : List S37), Aside0 (w'.heap[gi]? = some (.stringIter a0 p)) ∧ Aside0 (Kd.R k37 37 w' w00.heap.size (fun k => k ≠ gi) v out) ∧ Aside0 (Below w00.heap.size w00 w') ∧ Aside0 (setInv a0 p out) := fun v w' h1 h2 =>
        ⟨p + 1, r, ⟨blk_below HIw.out h2⟩, ⟨Kd.R_lower (Kd.R_reok k37_E h1 (fun k hk => by have h3 := Kd.R_base h1 k hk; have h4 := blk_lt HIw.out; omega)) HBw.out.size⟩, ⟨below_step HBw.out h2⟩, HD2⟩
      have hmeas : ∀ (w' : World), Below w.heap.size w w' → a0.size - w'.iterPos gi < a0.size - wr.iterPos gi := fun w' h2 => by
        rw [iterPos_of (blk_below HIw.out h2), hpos.out]; have := hp2.out; omega
      have HEND := Aside0.mk hend
      have HMEAS := Aside0.mk hmeas
      generalize ((a0[p]'hp).toNat : Int) = a1 at hnx hk
      have H' := Aside0.mk (show B.mask_Set.l0 k a1 ([] : List S37) l0 (l0.length : Int) 0 = some r from hk)
      have HB := Aside0.mk (Below.refl w.heap.size w)
      clear hk hr hw hf hl hok hend hmeas HD HI HO HBB HOw HIw HBw HD2 hpos hp2 hp
      go_wp2
      go_loopg [6, 23] k (fun kq v6 v23 w' => ∃ (x6_1 : List (S37)) (x23_1 : Int), v23 = .int .i64 x23_1 ∧ Aside0 (B.mask_Set.l0 kq a1 x6_1 l0 (l0.length : Int) x23_1 = some r) ∧ Aside0 (kq ≤ k) ∧ Aside0 (Kd.R k37 37 w' w.heap.size (fun _ => True) v6 x6_1) ∧ Aside0 (Below w.heap.size w w'))
      case atStart => exact ⟨(([] : List (S37))), (0), (by first | rfl | (simp; done) | (simp [*]; done)), H', ⟨Nat.le_refl _⟩, ⟨by first | exact Kd.R_nil _ _ _ _ _ | exact Kd.N_nil _ _ _ _ _ | exact Kd.V_nil _ _ _ _ _ | exact Kd.Q_nil _ _ _ _ _ | exact Kd.S_nil _ _ _ _ _⟩, ⟨by repeat (first | (with_reducible first | exact HB.out | apply below_alloc | apply pw_below_drewN | apply below_drew1) | exact HB.out)⟩⟩
      case round =>
        clear H'
        try clear c1
        try clear p2
        obtain ⟨x6_1, x23_1, rfl, HA, HK1, HO_6, HB⟩ := hrel
        cases gk with
        | zero => exact absurd HA.out (by simp [B.mask_Set.l0])
        | succ k1 =>
          have H := HA.out
          clear HA
          simp only [B.mask_Set.l0] at H
          by_cases c3 : x23_1 < (l0.length : Int)
          · rw [if_pos c3] at H
            have c3b0 : decide (x23_1 < (l0.length : Int)) = true := decide_eq_true c3
            clear c3
            by_cases c4 : 0 ≤ x23_1
            · rw [if_pos c4] at H
              have c4b0 : decide (0 ≤ x23_1) = true := decide_eq_true c4
              clear c4
              by_cases c5 : x23_1 < (l0.length : Int)
              · rw [if_pos c5] at H
                have c5b0 : decide (x23_1 < (l0.length : Int)) = true := decide_eq_true c5
                clear c5
                by_cases c6 : a1 = 88
                · rw [if_pos c6] at H
                  have c6b0 : (a1 == 88) = true := beq_iff_eq.mpr c6
                  have c6b1 : (a1 != 88) = false := bne_eq_false_iff_eq.mpr c6
                  clear c6
                  by_cases c7 : x6_1.length < 8796093022208
                  · rw [if_pos c7] at H
                    have LMc7 := Aside0.mk c7
                    clear c7
                    obtain ⟨y103, hy103⟩ : ∃ y_ : List (S37), y_ = (x6_1 ++ [(⟨wrap64 (((rd_T37 l0 x23_1).f0) * 10), wrap64 ((wrap64 (((rd_T37 l0 x23_1).f1) * 10)) + 9)⟩ : S37)]) := ⟨_, rfl⟩
                    replace H : (B.mask_Set.l0 k1 a1 y103 l0 (l0.length : Int) (wrap64 (x23_1 + 1))) = some r := by first | (rw [hy103]; with_reducible exact H) | (have H2_ := (Option.bind_some _ _).symm.trans H; rw [hy103]; with_reducible exact H2_) | (have H2_ := (Option.bind_some _ _).symm.trans H; with_reducible exact H2_) | with_reducible exact H | (rw [hy103]; exact H) | exact H
                    have Ny103 := Aside0.mk hy103
                    clear hy103
                    have H' := Aside0.mk H
                    clear H
                    have p101 : 0 ≤ (x23_1 : Int) := of_decide_eq_true (by first | (with_reducible assumption) | assumption)
                    have q101 : x23_1 < (l0.length : Int) := of_decide_eq_true (by first | (with_reducible assumption) | assumption)
                    obtain ⟨ad101, e101, hx101_0, hx101_1⟩ := at_T37 HR0.out x23_1 p101 q101
                    cases e101
                    replace hx101_0 := (HB.out.cell (World.block_lt_of_cell? w _ hx101_0)).trans hx101_0
                    replace hx101_1 := (HB.out.cell (World.block_lt_of_cell? w _ hx101_1)).trans hx101_1
                    replace p101 := eq_true p101
                    replace q101 := eq_true q101
                    go_wp2_with (first | ((with_reducible refine gate_dst (N := 8) rfl ?_); refine box_event ?hg (N := 8) ?hd (cs := #[.int .i64 0, .int .i64 0]) (t := 37) ?hr ?_; (case hd => rfl); (case hg => rfl); (case hr => first | (go_simp; done) | (go_simp; rfl)); intro gb102 hg w8 hbox hb; have n0_ := Aside0.mk (Kd.R_below (Kd.R_elderB (by (with_reducible repeat (first | apply Kd.R_alloc | apply Kd.R_drewN | apply Kd.R_drew)); exact HO_6.out) gb102 (Nat.le_of_eq hg.symm)) hb); have n1_ := Aside0.mk (below_step (by repeat (first | (with_reducible first | exact HB.out | apply below_alloc | apply pw_below_drewN | apply below_drew1) | exact HB.out)) hb); have n2_ := Aside0.mk (hbox); have n3_ := Aside0.mk ((by rw [hg]; exact (below_size (by repeat (first | (with_reducible first | exact HB.out | apply below_alloc | apply pw_below_drewN | apply below_drew1) | exact HB.out))) : w.heap.size ≤ gb102)); have n4_ := Aside0.mk ((by rw [hg]; exact (below_size (by repeat (first | (with_reducible first | exact HB.out | apply below_alloc | apply pw_below_drewN | apply below_drew1) | exact HB.out))) : w.heap.size ≤ gb102)); clear HO_6; clear HB; have HO_6 := n0_; have HB := n1_; have BK102 := n2_; have GW102 := n3_; have GE102 := n4_; clear n0_ n1_ n2_ n3_ n4_; clear hb hbox hg; have hcz9_0 : w8.cell? ⟨gb102, 0, none⟩ = some (.int .i64 0) := (blk_cell BK102.out 0).trans rfl; have hcz9_1 : w8.cell? ⟨gb102, 1, none⟩ = some (.int .i64 0) := (blk_cell BK102.out 1).trans rfl; have hfz9_0 := blk_frozen BK102.out 0; have hfz9_1 := blk_frozen BK102.out 1) | ((with_reducible refine gate_builtin (b := .append) (xs := #[.tmp 29, .tmp 38]) rfl ?_); at_builtin; refine Kd.R_append k37 (w0 := w) w.heap.size rfl (.tmp 29) (.tmp 38) 30 37 (.agg #[(.int .i64 0), (.int .i64 0)]) 16 rfl Tryd.underlying30 info37 rfl (by decide) (by omega) u6 x6_1 (⟨wrap64 (((rd_T37 l0 x23_1).f0) * 10), wrap64 ((wrap64 (((rd_T37 l0 x23_1).f1) * 10)) + 9)⟩ : S37) [.int .i64 (wrap64 (((rd_T37 l0 x23_1).f0) * 10)), .int .i64 (wrap64 ((wrap64 (((rd_T37 l0 x23_1).f1) * 10)) + 9))] (fun k_ => k_ ≠ gb102) (fun _ => False) rfl (by first | (go_simp; done) | (go_simp; rfl)) ?aP (fun _ hk => hk.elim) ?aF ?aO ?aB ?aS ?aL ?_; (case aP => exact k37_mkM _ _ _ (⟨wrap64 (((rd_T37 l0 x23_1).f0) * 10), wrap64 ((wrap64 (((rd_T37 l0 x23_1).f1) * 10)) + 9)⟩ : S37)); (case aB => exact (by repeat (first | (with_reducible first | exact HB.out | apply below_alloc | apply pw_below_drewN | apply below_drew1 | refine below_set ?_ GE102.out) | exact HB.out))); (case aF => exact (fun k_ hk => Kd.freshB (g := gb102) (o := .cells #[.int .i64 ((rd_T37 l0 x23_1).f0), .int .i64 ((rd_T37 l0 x23_1).f1)] 37 (0, 0)) (by (with_reducible repeat (first | refine blk_drewN ?_ _ | refine blk_drew ?_ | refine blk_alloc ?_ _)); refine blk_put (cs := #[.int .i64 ((rd_T37 l0 x23_1).f0), .int .i64 0]) ?_ 1 _ rfl; (with_reducible repeat (first | refine blk_drewN ?_ _ | refine blk_drew ?_ | refine blk_alloc ?_ _)); refine blk_put (cs := #[.int .i64 0, .int .i64 0]) ?_ 0 _ rfl; (with_reducible repeat (first | refine blk_drewN ?_ _ | refine blk_drew ?_ | refine blk_alloc ?_ _)); exact BK102.out) k_ hk)); (case aO => exact (by (with_reducible repeat (first | apply Kd.R_alloc | apply Kd.R_drewN | apply Kd.R_drew)); exact Kd.R_mono (Kd.R_far (p := ⟨gb102, 1, none⟩) (Kd.R_far (p := ⟨gb102, 0, none⟩) (Kd.R_mono HO_6.out (fun k_ hk => (⟨hk, hk.2⟩ : _ ∧ k_ ≠ gb102))) (fun _ hk => hk.2) (.int .i64 ((rd_T37 l0 x23_1).f0))) (fun _ hk => hk.2) (.int .i64 ((rd_T37 l0 x23_1).f1))) (fun _ hk => hk.1.2))); (case aS => exact (below_size (by repeat (first | (with_reducible first | exact HB.out | apply below_alloc | apply pw_below_drewN | apply below_drew1 | refine below_set ?_ GE102.out) | exact HB.out)))); (case aL => have := LMc7.out; omega); intro v104 w10 ho hb hg hat; rw [← Ny103.out] at ho; have n0_ := Aside0.mk (blk_grown (g := gb102) (o := .cells #[.int .i64 ((rd_T37 l0 x23_1).f0), .int .i64 ((rd_T37 l0 x23_1).f1)] 37 (0, 0)) (by (with_reducible repeat (first | refine blk_drewN ?_ _ | refine blk_drew ?_ | refine blk_alloc ?_ _)); refine blk_put (cs := #[.int .i64 ((rd_T37 l0 x23_1).f0), .int .i64 0]) ?_ 1 _ rfl; (with_reducible repeat (first | refine blk_drewN ?_ _ | refine blk_drew ?_ | refine blk_alloc ?_ _)); refine blk_put (cs := #[.int .i64 0, .int .i64 0]) ?_ 0 _ rfl; (with_reducible repeat (first | refine blk_drewN ?_ _ | refine blk_drew ?_ | refine blk_alloc ?_ _)); exact BK102.out) hg (Kd.R_away HO_6.out (fun _ hk => hk.2))); have n1_ := Aside0.mk (hb); have n2_ := Aside0.mk (ho); clear BK102; clear HB; clear HO_6; have BK102 := n0_; have HB := n1_; have HO105 := n2_; clear n0_ n1_ n2_; clear ho hb hg hat))
                    go_roundg k1
                    case measure => have := HK1.out; omega
                    case rel => exact ⟨(y103), (wrap64 (x23_1 + 1)), (by first | rfl | (simp; done) | (simp [*]; done)), H', ⟨by have := HK1.out; omega⟩, ⟨by (with_reducible repeat (first | apply Kd.R_alloc | apply Kd.R_drewN | apply Kd.R_drew)); exact Kd.R_mono HO105.out (fun _ hk => trivial)⟩, ⟨by repeat (first | (with_reducible first | exact HB.out | apply below_alloc | apply pw_below_drewN | apply below_drew1 | refine below_set ?_ GE102.out) | exact HB.out)⟩⟩
                  · rw [if_neg c7] at H
                    exact absurd H (by simp)
                · rw [if_neg c6] at H
                  have c6b0 : (a1 == 88) = false := beq_eq_false_iff_ne.mpr c6
                  have c6b1 : (a1 != 88) = true := bne_iff_ne.mpr c6
                  have H' := Aside0.mk H
                  clear H
                  have p101 : 0 ≤ (x23_1 : Int) := of_decide_eq_true (by first | (with_reducible assumption) | assumption)
                  have q101 : x23_1 < (l0.length : Int) := of_decide_eq_true (by first | (with_reducible assumption) | assumption)
                  obtain ⟨ad101, e101, hx101_0, hx101_1⟩ := at_T37 HR0.out x23_1 p101 q101
                  cases e101
                  replace hx101_0 := (HB.out.cell (World.block_lt_of_cell? w _ hx101_0)).trans hx101_0
                  replace hx101_1 := (HB.out.cell (World.block_lt_of_cell? w _ hx101_1)).trans hx101_1
                  replace p101 := eq_true p101
                  replace q101 := eq_true q101
                  go_wp2_with (first | ((with_reducible refine gate_dst (N := 8) rfl ?_); refine box_event ?hg (N := 8) ?hd (cs := #[.int .i64 0, .int .i64 0]) (t := 37) ?hr ?_; (case hd => rfl); (case hg => rfl); (case hr => first | (go_simp; done) | (go_simp; rfl)); intro gb102 hg w11 hbox hb; have n0_ := Aside0.mk (Kd.R_below (Kd.R_elderB (by (with_reducible repeat (first | apply Kd.R_alloc | apply Kd.R_drewN | apply Kd.R_drew)); exact HO_6.out) gb102 (Nat.le_of_eq hg.symm)) hb); have n1_ := Aside0.mk (below_step (by repeat (first | (with_reducible first | exact HB.out | apply below_alloc | apply pw_below_drewN | apply below_drew1) | exact HB.out)) hb); have n2_ := Aside0.mk (hbox); have n3_ := Aside0.mk ((by rw [hg]; exact (below_size (by repeat (first | (with_reducible first | exact HB.out | apply below_alloc | apply pw_below_drewN | apply below_drew1) | exact HB.out))) : w.heap.size ≤ gb102)); have n4_ := Aside0.mk ((by rw [hg]; exact (below_size (by repeat (first | (with_reducible first | exact HB.out | apply below_alloc | apply pw_below_drewN | apply below_drew1) | exact HB.out))) : w.heap.size ≤ gb102)); clear HO_6; clear HB; have HO_6 := n0_; have HB := n1_; have BK102 := n2_; have GW102 := n3_; have GE102 := n4_; clear n0_ n1_ n2_ n3_ n4_; clear hb hbox hg; have hcz12_0 : w11.cell? ⟨gb102, 0, none⟩ = some (.int .i64 0) := (blk_cell BK102.out 0).trans rfl; have hcz12_1 : w11.cell? ⟨gb102, 1, none⟩ = some (.int .i64 0) := (blk_cell BK102.out 1).trans rfl; have hfz12_0 := blk_frozen BK102.out 0; have hfz12_1 := blk_frozen BK102.out 1))
                  go_loopg [6, 9] k1 (fun kq v6 v9 w' => ∃ (x6_2 : List (S37)) (x9_2 : Int), v9 = .int .i64 x9_2 ∧ Aside0 (B.mask_Set.l1 kq a1 x6_2 x9_2 l0 (l0.length : Int) x23_1 ((rd_T37 l0 x23_1).f0) ((rd_T37 l0 x23_1).f1) = some r) ∧ Aside0 (kq ≤ k1) ∧ Aside0 (Kd.R k37 37 w' w.heap.size (fun k_ => k_ ≠ gb102) v6 x6_2) ∧ Aside0 (w'.heap[gb102]? = some (.cells #[.int .i64 ((rd_T37 l0 x23_1).f0), .int .i64 ((rd_T37 l0 x23_1).f1)] 37 (0, 0))) ∧ Aside0 (Below w.heap.size w w'))
                  case atStart => exact ⟨(x6_1), ((rd_T37 l0 x23_1).f0), (by first | rfl | (simp; done) | (simp [*]; done)), H', ⟨Nat.le_refl _⟩, ⟨by (with_reducible repeat (first | apply Kd.R_alloc | apply Kd.R_drewN | apply Kd.R_drew)); exact Kd.R_mono (Kd.R_far (p := ⟨gb102, 1, none⟩) (Kd.R_far (p := ⟨gb102, 0, none⟩) (Kd.R_mono HO_6.out (fun k_ hk => (⟨hk, hk.2⟩ : _ ∧ k_ ≠ gb102))) (fun _ hk => hk.2) (.int .i64 ((rd_T37 l0 x23_1).f0))) (fun _ hk => hk.2) (.int .i64 ((rd_T37 l0 x23_1).f1))) (fun _ hk => hk.1.2)⟩, ⟨by (with_reducible repeat (first | refine blk_drewN ?_ _ | refine blk_drew ?_ | refine blk_alloc ?_ _)); refine blk_put (cs := #[.int .i64 ((rd_T37 l0 x23_1).f0), .int .i64 0]) ?_ 1 _ rfl; (with_reducible repeat (first | refine blk_drewN ?_ _ | refine blk_drew ?_ | refine blk_alloc ?_ _)); refine blk_put (cs := #[.int .i64 0, .int .i64 0]) ?_ 0 _ rfl; (with_reducible repeat (first | refine blk_drewN ?_ _ | refine blk_drew ?_ | refine blk_alloc ?_ _)); exact BK102.out⟩, ⟨by repeat (first | (with_reducible first | exact HB.out | apply below_alloc | apply pw_below_drewN | apply below_drew1 | refine below_set ?_ GE102.out) | exact HB.out)⟩⟩
                  case round =>
                    clear H'
                    try clear c1
                    try clear p1
                    try clear q1
                    try clear hx1
                    try clear p2
                    try clear c3
                    try clear c3b0
                    try clear c4
                    try clear c4b0
                    try clear c5
                    try clear c5b0
                    try clear c6
                    try clear c6b0
                    try clear c6b1
                    try clear p6
                    try clear c7
                    try clear p10
                    try clear q10
                    try clear hx10
                    try clear hcz12_0
                    try clear hcz12_1
                    try clear hcz9_0
                    try clear hcz9_1
                    try clear hfz12_0
                    try clear hfz12_1
                    try clear hfz9_0
                    try clear hfz9_1
                    try clear hx101_0
                    try clear hx101_1
                    try clear p101
                    try clear p2
                    try clear q101
                    obtain ⟨x6_2, x9_2, rfl, HA, HK2, HO_6, BK102, HB⟩ := hrel
                    cases gk with
                    | zero => exact absurd HA.out (by simp [B.mask_Set.l1])
                    | succ k2 =>
                      have H := HA.out
                      clear HA
                      simp only [B.mask_Set.l1] at H
                      by_cases c13 : x9_2 ≤ ((rd_T37 l0 x23_1).f1)
                      · rw [if_pos c13] at H
                        have c13b0 : decide (x9_2 ≤ ((rd_T37 l0 x23_1).f1)) = true := decide_eq_true c13
                        clear c13
                        by_cases c14 : x6_2.length < 8796093022208
                        · rw [if_pos c14] at H
                          have LMc14 := Aside0.mk c14
                          clear c14
                          obtain ⟨y106, hy106⟩ : ∃ y_ : List (S37), y_ = (x6_2 ++ [(⟨wrap64 ((wrap64 (x9_2 * 10)) + (wrap64 (wrap32 (a1 - 48)))), wrap64 ((wrap64 (x9_2 * 10)) + (wrap64 (wrap32 (a1 - 48))))⟩ : S37)]) := ⟨_, rfl⟩
                          replace H : (B.mask_Set.l1 k2 a1 y106 (wrap64 (x9_2 + 1)) l0 (l0.length : Int) x23_1 ((rd_T37 l0 x23_1).f0) ((rd_T37 l0 x23_1).f1)) = some r := by first | (rw [hy106]; with_reducible exact H) | (have H2_ := (Option.bind_some _ _).symm.trans H; rw [hy106]; with_reducible exact H2_) | (have H2_ := (Option.bind_some _ _).symm.trans H; with_reducible exact H2_) | with_reducible exact H | (rw [hy106]; exact H) | exact H
                          have Ny106 := Aside0.mk hy106
                          clear hy106
                          have H' := Aside0.mk H
                          clear H
                          have hcz15_0 : wr.cell? ⟨gb102, 0, none⟩ = some (.int .i64 ((rd_T37 l0 x23_1).f0)) := (blk_cell BK102.out 0).trans rfl
                          have hcz15_1 : wr.cell? ⟨gb102, 1, none⟩ = some (.int .i64 ((rd_T37 l0 x23_1).f1)) := (blk_cell BK102.out 1).trans rfl
                          have hfz15_0 := blk_frozen BK102.out 0
                          have hfz15_1 := blk_frozen BK102.out 1
                          go_wp2_with (first | ((with_reducible refine gate_builtin (b := .append) (xs := #[.tmp 54, .tmp 58]) rfl ?_); at_builtin; refine Kd.R_append k37 (w0 := w) w.heap.size rfl (.tmp 54) (.tmp 58) 30 37 (.agg #[(.int .i64 0), (.int .i64 0)]) 16 rfl Tryd.underlying30 info37 rfl (by decide) (by omega) u6 x6_2 (⟨wrap64 ((wrap64 (x9_2 * 10)) + (wrap64 (wrap32 (a1 - 48)))), wrap64 ((wrap64 (x9_2 * 10)) + (wrap64 (wrap32 (a1 - 48))))⟩ : S37) [.int .i64 (wrap64 ((wrap64 (x9_2 * 10)) + (wrap64 (wrap32 (a1 - 48))))), .int .i64 (wrap64 ((wrap64 (x9_2 * 10)) + (wrap64 (wrap32 (a1 - 48)))))] (fun k_ => k_ ≠ gb102) (fun _ => False) rfl rfl ?aP (fun _ hk => hk.elim) ?aF ?aO ?aB ?aS ?aL ?_; (case aP => exact k37_mkM _ _ _ (⟨wrap64 ((wrap64 (x9_2 * 10)) + (wrap64 (wrap32 (a1 - 48)))), wrap64 ((wrap64 (x9_2 * 10)) + (wrap64 (wrap32 (a1 - 48))))⟩ : S37)); (case aB => exact (by repeat (first | (with_reducible first | exact HB.out | apply below_alloc | apply pw_below_drewN | apply below_drew1 | refine below_set ?_ GE102.out) | exact HB.out))); (case aF => exact (fun k_ hk => Kd.freshB (g := gb102) (o := .cells #[.int .i64 ((rd_T37 l0 x23_1).f0), .int .i64 ((rd_T37 l0 x23_1).f1)] 37 (0, 0)) (by (with_reducible repeat (first | refine blk_drewN ?_ _ | refine blk_drew ?_ | refine blk_alloc ?_ _)); exact BK102.out) k_ hk)); (case aO => exact (by (with_reducible repeat (first | apply Kd.R_alloc | apply Kd.R_drewN | apply Kd.R_drew)); exact HO_6.out)); (case aS => exact (below_size (by repeat (first | (with_reducible first | exact HB.out | apply below_alloc | apply pw_below_drewN | apply below_drew1 | refine below_set ?_ GE102.out) | exact HB.out)))); (case aL => have := LMc14.out; omega); intro v107 w16 ho hb hg hat; rw [← Ny106.out] at ho; have n0_ := Aside0.mk (blk_grown (g := gb102) (o := .cells #[.int .i64 ((rd_T37 l0 x23_1).f0), .int .i64 ((rd_T37 l0 x23_1).f1)] 37 (0, 0)) (by (with_reducible repeat (first | refine blk_drewN ?_ _ | refine blk_drew ?_ | refine blk_alloc ?_ _)); exact BK102.out) hg (Kd.R_away HO_6.out (fun _ hk => hk))); have n1_ := Aside0.mk (hb); have n2_ := Aside0.mk (ho); clear BK102; clear HB; clear HO_6; have BK102 := n0_; have HB := n1_; have HO108 := n2_; clear n0_ n1_ n2_; clear ho hb hg hat))
                          go_roundg k2
                          case measure => have := HK1.out; have := HK2.out; omega
                          case rel => exact ⟨(y106), (wrap64 (x9_2 + 1)), (by first | rfl | (simp; done) | (simp [*]; done)), H', ⟨by have := HK1.out; have := HK2.out; omega⟩, ⟨by (with_reducible repeat (first | apply Kd.R_alloc | apply Kd.R_drewN | apply Kd.R_drew)); exact HO108.out⟩, ⟨by (with_reducible repeat (first | refine blk_drewN ?_ _ | refine blk_drew ?_ | refine blk_alloc ?_ _)); exact BK102.out⟩, ⟨by repeat (first | (with_reducible first | exact HB.out | apply below_alloc | apply pw_below_drewN | apply below_drew1 | refine below_set ?_ GE102.out) | exact HB.out)⟩⟩
                        · rw [if_neg c14] at H
                          exact absurd H (by simp)
                      · rw [if_neg c13] at H
                        have c13b0 : decide (x9_2 ≤ ((rd_T37 l0 x23_1).f1)) = false := decide_eq_false c13
                        clear c13
                        have H' := Aside0.mk H
                        clear H
                        have hcz17_0 : wr.cell? ⟨gb102, 0, none⟩ = some (.int .i64 ((rd_T37 l0 x23_1).f0)) := (blk_cell BK102.out 0).trans rfl
                        have hcz17_1 : wr.cell? ⟨gb102, 1, none⟩ = some (.int .i64 ((rd_T37 l0 x23_1).f1)) := (blk_cell BK102.out 1).trans rfl
                        have hfz17_0 := blk_frozen BK102.out 0
                        have hfz17_1 := blk_frozen BK102.out 1
                        go_wp2
                        go_roundg k2
                        case measure => have := HK1.out; have := HK2.out; omega
                        case rel => exact ⟨(x6_2), (wrap64 (x23_1 + 1)), (by first | rfl | (simp; done) | (simp [*]; done)), H', ⟨by have := HK1.out; have := HK2.out; omega⟩, ⟨by (with_reducible repeat (first | apply Kd.R_alloc | apply Kd.R_drewN | apply Kd.R_drew)); exact Kd.R_mono HO_6.out (fun _ hk => trivial)⟩, ⟨by repeat (first | (with_reducible first | exact HB.out | apply below_alloc | apply pw_below_drewN | apply below_drew1 | refine below_set ?_ GE102.out) | exact HB.out)⟩⟩
              · rw [if_neg c5] at H
                exact absurd H (by simp)
            · rw [if_neg c4] at H
              exact absurd H (by simp)
          · rw [if_neg c3] at H
            have c3b0 : decide (x23_1 < (l0.length : Int)) = false := decide_eq_false c3
            clear c3
            obtain rfl := Option.some.inj H
            go_wp2
            go_roundw
            case rel => exact HEND.out _ _ HO_6.out HB.out
            case measure => exact HMEAS.out _ HB.out
    · have hnx : ∀ ty, (Instr.next (.pointer (some ⟨gi, 0, none⟩)) true ty).run Tryd.prog wr = _ := fun ty => run_next_done ty HI.out hp
      have hf : l0 = setL a0.data.toList [⟨0, 0⟩] := by rw [← HD.out.1, List.drop_eq_nil_of_le (by simpa using hp)]; rfl
      have HF := Aside0.mk hf
      clear hf hp
      go_wp2
      go_ret
      exact ⟨_, rfl, by rw [← HF.out]; exact Kd.R_mono HO.out (fun _ _ => trivial), HBB.out⟩
def bytesAt (w : World) (g : Nat) (l : List UInt8) : Prop := ∀ i, i < l.length → w.cell? ⟨g, i, none⟩ = some (.int .u8 ((l.getD i 0).toNat : Int)) ∧ w.frozen? ⟨g, i, none⟩ = false
theorem bytesAt_block {w w' : World} {g : Nat} {l : List UInt8} (h : bytesAt w g l) (e : w'.heap[g]? = w.heap[g]?) : bytesAt w' g l := fun i hi => by
  have h1 := h i hi
  simp only [World.cell?, World.frozen?] at h1 ⊢
  rw [e]; exact h1
theorem bytesAt_set {w : World} {g : Nat} {l : List UInt8} (h : bytesAt w g l) {p : Nat} (hp : p < l.length) (c : UInt8) : bytesAt (w.setCell ⟨g, p, none⟩ (.int .u8 (c.toNat : Int))) g (l.set p c) := fun i hi => by
  rw [List.length_set] at hi
  obtain ⟨h1, h2⟩ := h i hi
  refine ⟨?_, by rw [World.frozen?_setCell]; exact h2⟩
  by_cases e : p = i
  · subst e
    rw [World.cell?_setCell_same (h := h1)]
    simp [List.getD_eq_getElem?_getD, List.getElem?_set_self hp]
  · rw [World.cell?_setCell_other (h := by intro h; injection h; omega), h1]
    simp [List.getD_eq_getElem?_getD, List.getElem?_set_ne e]
def meetInv (a b : List UInt8) (p : Nat) (cur : List UInt8) : Prop := ∃ pre, pre.length = p ∧ cur = pre ++ a.drop p ∧ meetL a b = (meetL (a.drop p) (b.drop p)).map (pre ++ ·)
theorem meetInv_0 (a b : List UInt8) : meetInv a b 0 a := ⟨[], rfl, rfl, by simp⟩
theorem drop_cons {l : List UInt8} {p : Nat} (h : p < l.length) : l.drop p = l[p] :: l.drop (p + 1) := List.drop_eq_getElem_cons h
theorem meetInv_at {a b : List UInt8} {p : Nat} {cur : List UInt8} (h : meetInv a b p cur) (hp : p < a.length) : cur.length = a.length ∧ cur[p]? = some a[p] := by
  obtain ⟨pre, h1, h2, h3⟩ := h
  subst h2
  refine ⟨by simp; omega, ?_⟩
  rw [List.getElem?_append_right (by omega), h1, Nat.sub_self, drop_cons hp]; rfl
theorem meetInv_step {a b : List UInt8} {p : Nat} {cur : List UInt8} (h : meetInv a b p cur) (ha : p < a.length) (hb : p < b.length) (d : UInt8)
    (hd : meetL (a[p] :: a.drop (p + 1)) (b[p] :: b.drop (p + 1)) = (meetL (a.drop (p + 1)) (b.drop (p + 1))).map (d :: ·)) : meetInv a b (p + 1) (cur.set p d) := by
  obtain ⟨pre, h1, h2, h3⟩ := h
  subst h2
  refine ⟨pre ++ [d], by simp [h1], ?_, ?_⟩
  · rw [List.set_append_right _ _ (by omega), h1, Nat.sub_self, drop_cons ha, List.set_cons_zero]; simp
  · rw [h3, drop_cons ha, drop_cons hb, hd]
    cases meetL (a.drop (p + 1)) (b.drop (p + 1)) <;> simp
theorem set_self {l : List UInt8} {p : Nat} {x : UInt8} (h : l[p]? = some x) : l.set p x = l := by
  obtain ⟨hp, rfl⟩ := List.getElem?_eq_some_iff.1 h
  exact List.set_getElem_self hp
theorem meet_none {a b : List UInt8} {p : Nat} {cur : List UInt8} (h : meetInv a b p cur) (ha : p < a.length) (hb : p < b.length) (hd : meetL (a[p] :: a.drop (p + 1)) (b[p] :: b.drop (p + 1)) = none) : meetL a b = none := by
  obtain ⟨pre, h1, h2, h3⟩ := h
  rw [h3, drop_cons ha, drop_cons hb, hd]; rfl
theorem meet_end {a b : List UInt8} {p : Nat} {cur : List UInt8} (h : meetInv a b p cur) (ha : a.length ≤ p) : meetL a b = some cur := by
  obtain ⟨pre, h1, h2, h3⟩ := h
  rw [h3, List.drop_eq_nil_of_le ha, h2, List.drop_eq_nil_of_le ha]
  cases b.drop p <;> simp [meetL]
theorem meet_reads {w : World} {g : Nat} {l : List UInt8} (h : bytesAt w g l) (hl : l.length ≤ 4) : ReadsInt w .u8 (some ⟨g, 0, none⟩) l.length (l.map fun b => (b.toNat : Int)) :=
  ⟨by simp, by omega, fun _ => ⟨_, rfl, fun j hj => by
    rw [add_plain, (h j hj).1]
    simp [List.getD_eq_getElem?_getD, List.getElem?_eq_getElem hj]⟩⟩
theorem str_list (l : List UInt8) : strOfNums (l.map fun b => (b.toNat : Int)) = ⟨l.toArray⟩ := by
  unfold strOfNums
  congr 1
  rw [List.map_map]
  congr 1
  conv => rhs; rw [← List.map_id l]
  exact List.map_congr_left fun b _ => by simp
set_option maxHeartbeats 8000000 in
set_option maxRecDepth 1000000 in
theorem mask_Meet.calls (a0 a1 : ByteArray) (r1 : ByteArray) (r2 : Bool) (w : World) (h : mask_Meet.f a0 a1 = some (r1, r2)) :
    Calls Tryd.prog 9 #[.string a0, .string a1] w fun e w' => e = .returned (.tuple #[.string r1, .bool r2]) ∧ Below w.heap.size w w' := by
  have HB := Aside0.mk (Below.refl w.heap.size w)
  have hnone : meetS a0.data.toList a1.data.toList = none → r1 = ⟨#[]⟩ ∧ r2 = false := fun hm => by
    unfold mask_Meet.f at h
    rw [hm] at h
    simp only [Option.some.injEq, Prod.mk.injEq] at h
    exact ⟨h.1.symm, h.2.symm⟩
  have hz0 : a0.size = a0.data.toList.length := by simp
  have hz1 : a1.size = a1.data.toList.length := by simp
  by_cases hs : saneL a0.data.toList = true
  rotate_left
  · obtain ⟨rfl, rfl⟩ := hnone (by unfold meetS; rw [if_neg (fun h => hs h.1)])
    have AS := Aside0.mk (show mask_Sane.f a0 = some false from congrArg some (Bool.eq_false_iff.mpr hs))
    clear hs hnone h hz0 hz1
    go_enter Tryd.func9, Tryd.ntmps9
    go_wp2_with (first | (go_at_call 13; (with_reducible refine (mask_Sane.calls a0 false _ AS.out).mono ?_); rintro e w5 ⟨rfl, hb⟩; have HB2 := Aside0.mk (below_step hb_ hb); clear HB hb; have HB := HB2; clear HB2))
    go_ret2
    exact ⟨rfl, HB.out⟩
  have AS := Aside0.mk (show mask_Sane.f a0 = some true from congrArg some hs)
  by_cases hs1 : saneL a1.data.toList = true
  rotate_left
  · obtain ⟨rfl, rfl⟩ := hnone (by unfold meetS; rw [if_neg (fun h => hs1 h.2.1)])
    have AT := Aside0.mk (show mask_Sane.f a1 = some false from congrArg some (Bool.eq_false_iff.mpr hs1))
    clear hs hs1 hnone h hz0 hz1
    go_enter Tryd.func9, Tryd.ntmps9
    go_wp2_with (first | (go_at_call 13; (with_reducible refine (mask_Sane.calls a0 true _ AS.out).mono ?_); rintro e w5 ⟨rfl, hb⟩; have HB2 := Aside0.mk (below_step hb_ hb); clear HB hb; have HB := HB2; clear HB2) | (go_at_call 13; (with_reducible refine (mask_Sane.calls a1 false _ AT.out).mono ?_); rintro e w6 ⟨rfl, hb⟩; have HB2 := Aside0.mk (below_step hb_ hb); clear HB hb; have HB := HB2; clear HB2))
    go_ret2
    exact ⟨rfl, HB.out⟩
  have AT := Aside0.mk (show mask_Sane.f a1 = some true from congrArg some hs1)
  by_cases hl : a0.size = a1.size
  rotate_left
  · obtain ⟨rfl, rfl⟩ := hnone (by unfold meetS; rw [if_neg (fun h => hl (by rw [hz0, hz1]; exact h.2.2))])
    have d1 : ((a0.size : Int) != (a1.size : Int)) = true := by rw [bne_iff_ne]; omega
    have d2 : ((a0.size : Int) == (a1.size : Int)) = false := by rw [beq_eq_false_iff_ne]; omega
    clear hs hs1 hnone h hz0 hz1
    go_enter Tryd.func9, Tryd.ntmps9
    go_wp2_with (first | (go_at_call 13; (with_reducible refine (mask_Sane.calls a0 true _ AS.out).mono ?_); rintro e w5 ⟨rfl, hb⟩; have HB2 := Aside0.mk (below_step hb_ hb); clear HB hb; have HB := HB2; clear HB2) | (go_at_call 13; (with_reducible refine (mask_Sane.calls a1 true _ AT.out).mono ?_); rintro e w6 ⟨rfl, hb⟩; have HB2 := Aside0.mk (below_step hb_ hb); clear HB hb; have HB := HB2; clear HB2))
    go_ret2
    exact ⟨rfl, HB.out⟩
  have d1 : ((a0.size : Int) != (a1.size : Int)) = false := by rw [hl]; exact bne_self_eq_false _
  have d2 : ((a0.size : Int) == (a1.size : Int)) = true := by rw [hl]; exact beq_self_eq_true _
  have hms : meetS a0.data.toList a1.data.toList = meetL a0.data.toList a1.data.toList := by unfold meetS; rw [if_pos ⟨hs, hs1, by rw [← hz0, ← hz1]; exact hl⟩]
  have HH := Aside0.mk (show (match meetL a0.data.toList a1.data.toList with | some l => some ((⟨l.toArray⟩ : ByteArray), true) | none => some (⟨#[]⟩, false)) = some (r1, r2) by rw [← hms]; exact h)
  have HL := Aside0.mk hl
  have h4 : a0.size ≤ 4 := by rw [hz0]; unfold saneL at hs; simp only [Bool.and_eq_true, decide_eq_true_eq] at hs; exact hs.2
  have H4 := Aside0.mk h4
  have HAS := Aside0.mk (ascii_of AT.out)
  have kb := fun W => print_bytes (P := Tryd.prog) 9 34 5 Tryd.underlying9 Tryd.underlying34 Tryd.underlying5 a0 W
  clear hs hs1 hnone h hz0 hz1 hl h4 hms
  go_enter Tryd.func9, Tryd.ntmps9
  go_wp2_with (first | (go_at_call 13; (with_reducible refine (mask_Sane.calls a0 true _ AS.out).mono ?_); rintro e w5 ⟨rfl, hb⟩; have HB2 := Aside0.mk (below_step hb_ hb); clear HB hb; have HB := HB2; clear HB2) | (go_at_call 13; (with_reducible refine (mask_Sane.calls a1 true _ AT.out).mono ?_); rintro e w6 ⟨rfl, hb⟩; have HB2 := Aside0.mk (below_step hb_ hb); clear HB hb; have HB := HB2; clear HB2))
  obtain ⟨bo, hbo⟩ : ∃ g : Nat, g = w6.heap.size := ⟨_, rfl⟩
  obtain ⟨w7, hw7⟩ : ∃ x, x = Lib.bytesWorld w6 5 a0 := ⟨_, rfl⟩
  obtain ⟨gi, hgi⟩ : ∃ g : Nat, g = w7.heap.size := ⟨_, rfl⟩
  have hgs : gi = bo + 1 := by rw [hgi, hw7, Lib.bytesWorld_size, hbo]
  have hb7 : bytesAt w7 bo a0.data.toList := fun i hi => by
    rw [hw7, hbo]
    refine ⟨Lib.bytesWorld_cell w6 5 a0 i (by simpa using hi), ?_⟩
    simp only [World.frozen?, Lib.bytesWorld_at_new]
    have hsz : i < (Lib.bytesCells w6 5 a0).size := by unfold Lib.bytesCells; simp at hi ⊢; omega
    simp; omega
  have HI0 := Aside0.mk (show (w7.iter a1 0).heap[gi]? = some (.stringIter a1 0) by rw [hgi]; exact World.iter_heap w7 a1 0)
  have HO0 := Aside0.mk (show bytesAt (w7.iter a1 0) bo a0.data.toList from bytesAt_block hb7 (Below.heap_alloc _ _ _ (by rw [← hgi]; omega)))
  have HB0 := Aside0.mk (show Below w.heap.size w (w7.iter a1 0) from below_alloc (by rw [hw7]; exact bytes_below HB.out HB.out.size 5 a0) _)
  have HG0 := Aside0.mk (show w.heap.size ≤ bo ∧ gi = bo + 1 from ⟨by rw [hbo]; exact HB.out.size, hgs⟩)
  rw [← hw7, ← hgi, ← hbo]
  clear HB hgi hbo hw7 hb7 hgs kb
  go_loopw [] (fun w' => ∃ (p : Nat) (cur : List UInt8), Aside0 (w'.heap[gi]? = some (.stringIter a1 p)) ∧ Aside0 (bytesAt w' bo cur) ∧ Aside0 (Below w.heap.size w w') ∧ Aside0 (meetInv a0.data.toList a1.data.toList p cur ∧ p ≤ a0.size)) (fun w' => a1.size - w'.iterPos gi)
  case atStart => exact ⟨0, _, HI0, HO0, HB0, ⟨meetInv_0 _ _, Nat.zero_le _⟩⟩
  case round =>
    clear HI0 HO0 HB0
    obtain ⟨p, cur, HI, HO, HBB, HD⟩ := hrel
    by_cases hp : p < a1.size
    · have ha1 := HAS.out p hp
      have hp0 : p < a0.size := by rw [HL.out]; exact hp
      have hq0 : p < a0.data.toList.length := by simpa using hp0
      have hq1 : p < a1.data.toList.length := by simpa using hp
      have hnx : ∀ ty, (Instr.next (.pointer (some ⟨gi, 0, none⟩)) true ty).run Tryd.prog wr = _ := fun ty => run_next_at ty HI.out hp ha1
      obtain ⟨hcl, hcp⟩ := meetInv_at HD.out.1 hq0
      have hbi := HO.out p (by omega)
      rw [List.getD_eq_getElem?_getD, hcp, Option.getD_some] at hbi
      obtain ⟨w2, hw2⟩ : ∃ x, x = itset wr gi a1 (p + 1) := ⟨_, rfl⟩
      rw [← hw2] at hnx
      have hne : bo ≠ gi := by have := HG0.out.2; omega
      have hI2 : w2.heap[gi]? = some (.stringIter a1 (p + 1)) := by rw [hw2]; exact itset_at HI.out
      have hO2 : bytesAt w2 bo cur := bytesAt_block HO.out (by rw [hw2]; exact itset_ne _ _ _ _ hne)
      have hB2 : Below w.heap.size w w2 := by rw [hw2]; exact itset_below HBB.out (by have := HG0.out; omega)
      have hx := hO2 p (by omega)
      rw [List.getD_eq_getElem?_getD, hcp, Option.getD_some] at hx
      obtain ⟨hx1, hx2⟩ := hx
      have hpos := iterPos_of HI.out
      have e1 : a1[p]'hp = a1.data.toList[p] := by simp [ByteArray.getElem_eq_getElem_data]
      rw [e1] at hnx ha1
      obtain ⟨X, hX⟩ : ∃ x : UInt8, x = a0.data.toList[p] := ⟨_, rfl⟩
      obtain ⟨C, hC⟩ : ∃ x : UInt8, x = a1.data.toList[p] := ⟨_, rfl⟩
      rw [← hX] at hx1
      rw [← hC] at hnx ha1
      have hu8 : IntKind.u8.wrap (C.toNat : Int) = C.toNat := by rw [IntKind.wrap_u8]; omega
      have hstep : ∀ (d : UInt8), (meetL (X :: a0.data.toList.drop (p + 1)) (C :: a1.data.toList.drop (p + 1)) = (meetL (a0.data.toList.drop (p + 1)) (a1.data.toList.drop (p + 1))).map (d :: ·)) → meetInv a0.data.toList a1.data.toList (p + 1) (cur.set p d) := fun d hd => meetInv_step HD.out.1 hq0 hq1 d (by rw [← hX, ← hC]; exact hd)
      have hnn : meetL (X :: a0.data.toList.drop (p + 1)) (C :: a1.data.toList.drop (p + 1)) = none → meetL a0.data.toList a1.data.toList = none := fun hd => meet_none HD.out.1 hq0 hq1 (by rw [← hX, ← hC]; exact hd)
      have hss : cur.set p X = cur := by rw [hX]; exact set_self hcp
      have hrel : ∀ (w' : World) (cur' : List UInt8), w'.heap[gi]? = w2.heap[gi]? → bytesAt w' bo cur' → Below w.heap.size w w' → meetInv a0.data.toList a1.data.toList (p + 1) cur' → (∃ (p : Nat) (cur : List UInt8), Aside0 (w'.heap[gi]? = some (.stringIter a1 p)) ∧ Aside0 (bytesAt w' bo cur) ∧ Aside0 (Below w.heap.size w w') ∧ Aside0 (meetInv a0.data.toList a1.data.toList p cur ∧ p ≤ a0.size)) ∧ a1.size - w'.iterPos gi < a1.size - wr.iterPos gi := fun w' cur' h1 h2 h3 h4 =>
        ⟨⟨p + 1, cur', ⟨h1.trans hI2⟩, ⟨h2⟩, ⟨h3⟩, ⟨h4, hp0⟩⟩, by rw [iterPos_of (h1.trans hI2), hpos]; omega⟩
      have hset : bytesAt (w2.setCell ⟨bo, p, none⟩ (.int .u8 (C.toNat : Int))) bo (cur.set p C) ∧ (w2.setCell ⟨bo, p, none⟩ (.int .u8 (C.toNat : Int))).heap[gi]? = w2.heap[gi]? ∧ Below w.heap.size w (w2.setCell ⟨bo, p, none⟩ (.int .u8 (C.toNat : Int))) :=
        ⟨bytesAt_set hO2 (by omega) C, Below.heap_setCell _ _ _ _ (Ne.symm hne), below_set hB2 HG0.out.1⟩
      have HREL := Aside0.mk hrel
      have HSET := Aside0.mk hset
      have HSTEP := Aside0.mk hstep
      have HNN := Aside0.mk hnn
      have HSS := Aside0.mk hss
      have HO2 := Aside0.mk hO2
      have HB2 := Aside0.mk hB2
      have p4 : (0 ≤ (p : Int)) = True := eq_true (by omega)
      have q4 : ((p : Int) < (a0.size : Int)) = True := eq_true (by omega)
      clear HI HO HBB HD hp hp0 hq0 hcl hcp hbi hw2 hne hI2 hO2 hB2 hpos e1 hX hC ha1 hstep hnn hss hrel hset
      by_cases h88 : (X.toNat : Int) = 88
      · have d3 : ((X.toNat : Int) == 88) = true := beq_iff_eq.mpr h88
        have hm := Aside0.mk (HSTEP.out C (by rw [meetL, if_pos (by omega)]))
        clear h88
        go_wp2
        go_roundw
        case rel => exact (HREL.out _ _ HSET.out.2.1 HSET.out.1 HSET.out.2.2 hm.out).1
        case measure => exact (HREL.out _ _ HSET.out.2.1 HSET.out.1 HSET.out.2.2 hm.out).2
      · have d3 : ((X.toNat : Int) == 88) = false := beq_eq_false_iff_ne.mpr h88
        by_cases c88 : (C.toNat : Int) = 88
        · have d4 : ((C.toNat : Int) != 88) = false := bne_eq_false_iff_eq.mpr c88
          have d5 : ((C.toNat : Int) == 88) = true := beq_iff_eq.mpr c88
          have hm := Aside0.mk (HSS.out ▸ HSTEP.out X (by rw [meetL, if_neg (by omega), if_neg (fun h => h.1 (by omega))]))
          clear h88 c88
          go_wp2
          go_roundw
          case rel => exact (HREL.out _ _ rfl HO2.out HB2.out hm.out).1
          case measure => exact (HREL.out _ _ rfl HO2.out HB2.out hm.out).2
        · have d4 : ((C.toNat : Int) != 88) = true := bne_iff_ne.mpr c88
          have d5 : ((C.toNat : Int) == 88) = false := beq_eq_false_iff_ne.mpr c88
          by_cases heq : (C.toNat : Int) = (X.toNat : Int)
          · have d6 : ((C.toNat : Int) != (X.toNat : Int)) = false := bne_eq_false_iff_eq.mpr heq
            have d7 : ((C.toNat : Int) == (X.toNat : Int)) = true := beq_iff_eq.mpr heq
            have hm := Aside0.mk (HSS.out ▸ HSTEP.out X (by rw [meetL, if_neg (by omega), if_neg (fun h => h.2 (by omega))]))
            clear h88 c88 heq
            go_wp2
            go_roundw
            case rel => exact (HREL.out _ _ rfl HO2.out HB2.out hm.out).1
            case measure => exact (HREL.out _ _ rfl HO2.out HB2.out hm.out).2
          · have d6 : ((C.toNat : Int) != (X.toNat : Int)) = true := bne_iff_ne.mpr heq
            have d7 : ((C.toNat : Int) == (X.toNat : Int)) = false := beq_eq_false_iff_ne.mpr heq
            have hm := HNN.out (by rw [meetL, if_neg (by omega), if_pos ⟨by omega, by omega⟩])
            have hr := HH.out
            rw [hm] at hr
            simp only [Option.some.injEq, Prod.mk.injEq] at hr
            obtain ⟨rfl, rfl⟩ := hr
            clear h88 c88 heq hm
            go_wp2
            go_ret2
            exact ⟨rfl, HB2.out⟩
    · have hnx : ∀ ty, (Instr.next (.pointer (some ⟨gi, 0, none⟩)) true ty).run Tryd.prog wr = _ := fun ty => run_next_done ty HI.out hp
      have hl0 : a0.data.toList.length = a0.size := by simp
      have hps : p = a0.size := by have := HL.out; have := HD.out.2; omega
      have hm := meet_end HD.out.1 (by omega)
      have hr := HH.out
      rw [hm] at hr
      simp only [Option.some.injEq, Prod.mk.injEq] at hr
      obtain ⟨rfl, rfl⟩ := hr
      have hcl : cur.length = a0.size := by
        obtain ⟨pre, h1, h2, h3⟩ := HD.out.1
        rw [h2, List.drop_eq_nil_of_le (by omega), List.append_nil, h1, hps]
      have hrd := meet_reads HO.out (by have := H4.out; omega)
      rw [hcl] at hrd
      have hst := fun c => string_of_reads (P := Tryd.prog) (src := 34) (dst := 9) (e := 5) (c := c) Tryd.underlying34 Tryd.underlying5 Tryd.underlying9 hrd
      rw [str_list] at hst
      clear hl0 hps hm hcl hrd hp
      go_wp2
      go_ret2
      exact ⟨rfl, HBB.out⟩
theorem strings_Count.calls (s t : ByteArray) (r : Int) (w : World) (h : strings_Count.f s t = some r) :
    Calls Tryd.prog 28 #[.string s, .string t] w fun e w' => e = .returned (.int .i64 r) ∧ Drawn0 w w' := by
  unfold strings_Count.f at h
  by_cases c : t.data = #[88]
  · rw [if_pos c] at h
    obtain rfl := Option.some.inj h
    obtain ⟨td⟩ := t
    simp only at c
    subst c
    exact (Tryd.strings_Count_one s 88 w).mono fun e w' ⟨he, hw⟩ => ⟨he, hw ▸ Drawn0.refl w⟩
  · rw [if_neg c] at h; exact absurd h (by simp)
theorem TB.at_ {w w1 : World} (h : TB w.heap.size w) (hb : Below w.heap.size w w1) : TB w1.heap.size w1 := fun w' h' => h w' (below_step hb h')
set_option maxHeartbeats 8000000 in
set_option maxRecDepth 100000 in
theorem mask_Count.calls (k : Nat) (a0 : ByteArray) (r : Int) (w : World) (h : mask_Count.f k a0 = some r) :
  Calls Tryd.prog 20 #[.string a0] w fun e w' => e = .returned (.int .i64 r) ∧ Below w.heap.size w w' := by
 have HB := Aside0.mk (Below.refl w.heap.size w); have H : ((mask_Sane.f a0).bind fun t101 => (if t101 = true then ((strings_Count.f a0 (⟨#[88]⟩ : ByteArray)).bind fun t102 => (mask_Count.l0 k 1 t102 0)) else (some 0))) = some r := h; clear h; replace H := Option.bind_eq_some_iff.mp H; obtain ⟨t101, A20, H⟩ := H; replace H : (if t101 = true then ((strings_Count.f a0 (⟨#[88]⟩ : ByteArray)).bind fun t102 => (mask_Count.l0 k 1 t102 0)) else (some 0)) = some r := H; have A2 := Aside0.mk A20; clear A20
 by_cases c3 : t101 = true
 ·subst c3
  (have H1 : ((strings_Count.f a0 (⟨#[88]⟩ : ByteArray)).bind fun t102 => (mask_Count.l0 k 1 t102 0)) = some r := by rw [if_pos rfl] at H; exact H); clear H; have H := H1; clear H1; replace H := Option.bind_eq_some_iff.mp H; obtain ⟨t102, A40, H⟩ := H; replace H : (mask_Count.l0 k 1 t102 0) = some r := H; have A4 := Aside0.mk A40; clear A40; have H' := Aside0.mk H; clear H; go_enter Tryd.func20, Tryd.ntmps20; go_wp2_with (first | ((with_reducible refine gate_callee (f := 13) rfl ?_); refine goesL_ (some 5) rfl rfl Tryd.func13 (by kernel_rfl) rfl #[.string a0] rfl ml_ ?_; (with_reducible refine (mask_Sane.calls a0 true _ A2.out).mono ?_); rintro e w5 ⟨rfl, hb⟩; refine ⟨_, rfl, ?_⟩; have n0_ := Aside0.mk (below_step hb_ hb); clear HB; have HB := n0_; clear n0_; (try clear hb); (try clear hb2); (try clear hk); (try clear hi)) | ((with_reducible refine gate_callee (f := 28) rfl ?_); refine goesL_ (some 8) rfl rfl Tryd.func28 (by kernel_rfl) rfl #[.string a0, .string (⟨#[88]⟩ : ByteArray)] rfl ml_ ?_; (with_reducible refine (strings_Count.calls a0 (⟨#[88]⟩ : ByteArray) t102 _ A4.out).mono ?_); rintro e w' ⟨rfl, ⟨nd, rfl⟩⟩; refine ⟨_, rfl, ?_⟩)); go_loopg [3, 9] k (fun kq v3 v9 w' => ∃ (x3_1 : Int) (x9_1 : Int), v3 = .int .i64 x3_1 ∧ v9 = .int .i64 x9_1 ∧ Aside0 (mask_Count.l0 kq x3_1 t102 x9_1 = some r) ∧ Aside0 (kq ≤ k) ∧ Aside0 (Below w.heap.size w w'))
  case atStart => exact ⟨(1), (0), rf_, rf_, H', ⟨Nat.le_refl _⟩, ⟨hb_⟩⟩
  case round =>
   clear H'; (try clear c1); (try clear c2); (try clear p2); (try clear c3); obtain ⟨x3_1, x9_1, rfl, rfl, HA, HK1, HB⟩ := hrel
   cases gk with
   | zero => exact absurd HA.out (by simp [mask_Count.l0])
   | succ k1 =>
    have H := HA.out; clear HA; simp only [mask_Count.l0] at H
    by_cases c6 : x9_1 < t102
    ·rw [if_pos c6] at H
     have c6b0 : decide (x9_1 < t102) = true := decide_eq_true c6; clear c6; have H' := Aside0.mk H; clear H; go_wp2; go_roundg k1
     case measure => have := HK1.out; omega
     case rel => exact ⟨(wrap64 (x3_1 * 10)), (wrap64 (x9_1 + 1)), rf_, rf_, H', ⟨by have := HK1.out; omega⟩, ⟨hb_⟩⟩
    ·rw [if_neg c6] at H
     have c6b0 : decide (x9_1 < t102) = false := decide_eq_false c6; clear c6; obtain rfl := Option.some.inj H; go_wp2; go_ret; exact ⟨re_, hb_⟩
 ·replace c3 := Bool.eq_false_iff.mpr c3
  subst c3; (have H1 : (some 0) = some r := by rw [if_neg (show ¬ (false = true) by decide)] at H; exact H); clear H; have H := H1; clear H1; obtain rfl := Option.some.inj H; go_enter Tryd.func20, Tryd.ntmps20; go_wp2_with (first | ((with_reducible refine gate_callee (f := 13) rfl ?_); refine goesL_ (some 5) rfl rfl Tryd.func13 (by kernel_rfl) rfl #[.string a0] rfl ml_ ?_; (with_reducible refine (mask_Sane.calls a0 false _ A2.out).mono ?_); rintro e w7 ⟨rfl, hb⟩; refine ⟨_, rfl, ?_⟩; have n0_ := Aside0.mk (below_step hb_ hb); clear HB; have HB := n0_; clear n0_; (try clear hb); (try clear hb2); (try clear hk); (try clear hi))); go_ret; exact ⟨re_, hb_⟩
set_option maxHeartbeats 8000000 in
set_option maxRecDepth 100000 in
theorem mask_Only.calls (k : Nat) (a0 : ByteArray) (r1 : Int) (r2 : Bool) (w : World) (h : mask_Only.f k a0 = some (r1, r2)) :
  Calls Tryd.prog 11 #[.string a0] w fun e w' => e = .returned (.tuple #[.int .i64 r1, .bool r2]) ∧ Below w.heap.size w w' := by
 have HB := Aside0.mk (Below.refl w.heap.size w); have H : ((mask_Count.f k a0).bind fun t103 => (if t103 = 1 then ((mask_Set.f a0).bind fun t104 => (if 0 < (t104.length : Int) then (some ((rd_T37 t104 0).f0, true)) else (none))) else (some (0, false)))) = some (r1, r2) := h; clear h; replace H := Option.bind_eq_some_iff.mp H; obtain ⟨t103, A20, H⟩ := H; replace H : (if t103 = 1 then ((mask_Set.f a0).bind fun t104 => (if 0 < (t104.length : Int) then (some ((rd_T37 t104 0).f0, true)) else (none))) else (some (0, false))) = some (r1, r2) := H; have A2 := Aside0.mk A20; clear A20
 by_cases c3 : t103 = 1
 ·rw [if_pos c3] at H
  have c3b0 : (t103 == 1) = true := beq_iff_eq.mpr c3; have c3b1 : (t103 != 1) = false := bne_eq_false_iff_eq.mpr c3; clear c3; replace H := Option.bind_eq_some_iff.mp H; obtain ⟨t104, A40, H⟩ := H; replace H : (if 0 < (t104.length : Int) then (some ((rd_T37 t104 0).f0, true)) else (none)) = some (r1, r2) := H; have A4 := Aside0.mk A40; clear A40
  by_cases c5 : 0 < (t104.length : Int)
  ·rw [if_pos c5] at H
   have c5b0 : decide (0 < (t104.length : Int)) = true := decide_eq_true c5; have c5b1 : decide (0 < t104.length) = true := decide_eq_true (by omega); clear c5; simp only [Option.some.injEq, Prod.mk.injEq] at H; obtain ⟨rfl, rfl⟩ := H; go_enter Tryd.func11, Tryd.ntmps11; go_wp2_with (first | ((with_reducible refine gate_callee (f := 20) rfl ?_); refine goesL_ (some 5) rfl rfl Tryd.func20 (by kernel_rfl) rfl #[.string a0] rfl ml_ ?_; (with_reducible refine (mask_Count.calls k a0 t103 _ A2.out).mono ?_); rintro e w6 ⟨rfl, hb⟩; refine ⟨_, rfl, ?_⟩; have n0_ := Aside0.mk (below_step hb_ hb); clear HB; have HB := n0_; clear n0_; (try clear hb); (try clear hb2); (try clear hk); (try clear hi)) | ((with_reducible refine gate_callee (f := 18) rfl ?_); refine goesL_ (some 8) rfl rfl Tryd.func18 (by kernel_rfl) rfl #[.string a0] rfl ml_ ?_; (with_reducible refine (mask_Set.calls a0 t104 _ A4.out).mono ?_); rintro e w7 ⟨v105, rfl, ho0, hb⟩; refine ⟨_, rfl, ?_⟩; have n0_ := Aside0.mk (Kd.R_lower ho0 (below_size hb_)); have n1_ := Aside0.mk (below_step hb_ hb); clear HB; have HO106 := n0_; have HB := n1_; clear n0_ n1_; (try clear hb); (try clear hb2); (try clear hk); (try clear hi); (try clear ho0); obtain ⟨Ao8, co8, eo8⟩ := Kd.R_slice HO106.out; subst eo8; have p107 : 0 ≤ (0 : Int) := (by omega); have q107 : 0 < (t104.length : Int) := od_; obtain ⟨ad107, e107, hx107_0, hx107_1⟩ := at_T37 (Kd.R_reads' HO106.out).2.2 0 p107 q107; cases e107; have qi107 : (0 < t104.length) = True := eq_true (by omega); (try rw [show ((0 : Int)).toNat = 0 from rfl] at hx107_0); (try rw [show 0 * 2 = 0 from rfl] at hx107_0); (try rw [Addr.add_zero'] at hx107_0); (try rw [show ((0 : Int)).toNat = 0 from rfl] at hx107_1); (try rw [show 0 * 2 = 0 from rfl] at hx107_1); (try rw [Addr.add_zero'] at hx107_1); replace p107 := eq_true p107; replace q107 := eq_true q107)); go_ret2; exact ⟨re_, hb_⟩
  ·rw [if_neg c5] at H
   exact absurd H (by simp)
 ·rw [if_neg c3] at H
  have c3b0 : (t103 == 1) = false := beq_eq_false_iff_ne.mpr c3; have c3b1 : (t103 != 1) = true := bne_iff_ne.mpr c3; simp only [Option.some.injEq, Prod.mk.injEq] at H; obtain ⟨rfl, rfl⟩ := H; go_enter Tryd.func11, Tryd.ntmps11; go_wp2_with (first | ((with_reducible refine gate_callee (f := 20) rfl ?_); refine goesL_ (some 5) rfl rfl Tryd.func20 (by kernel_rfl) rfl #[.string a0] rfl ml_ ?_; (with_reducible refine (mask_Count.calls k a0 t103 _ A2.out).mono ?_); rintro e w9 ⟨rfl, hb⟩; refine ⟨_, rfl, ?_⟩; have n0_ := Aside0.mk (below_step hb_ hb); clear HB; have HB := n0_; clear n0_; (try clear hb); (try clear hb2); (try clear hk); (try clear hi))); go_ret2; exact ⟨re_, hb_⟩
set_option maxHeartbeats 8000000 in
set_option maxRecDepth 100000 in
theorem lustrumlaw06_awake.calls (k : Nat)  (r : Bool) (w : World) (htab : TB w.heap.size w) (h : lustrumlaw06_awake.f k  = some r) :
  Calls Tryd.prog 8 #[] w fun e w' => e = .returned (.bool r) ∧ Below w.heap.size w w' := by
 have HTAB := Aside0.mk htab; clear htab; have HB := Aside0.mk (Below.refl w.heap.size w); have H : ((mask_Meet.f (⟨#[49, 88]⟩ : ByteArray) (⟨#[88, 50]⟩ : ByteArray)).bind fun bt108 => ((mask_Only.f k (⟨#[49, 50]⟩ : ByteArray)).bind fun bt110 => (if bt108.2 = true then (if bt108.1.toList = ([49, 50] : List UInt8) then (if bt110.2 = true then (if bt110.1 = 12 then ((mask_Match.f (⟨#[49, 57, 88, 52]⟩ : ByteArray) 1984).bind fun t112 => (if t112 = true then ((mask_Match.f (⟨#[49, 57, 88, 52]⟩ : ByteArray) 1985).bind fun t113 => (if t113 = true then (some false) else ((mask_Set.f (⟨#[49, 57, 88, 52]⟩ : ByteArray)).bind fun t114 => (if (t114.length : Int) = 10 then ((mask_Count.f k (⟨#[49, 57, 88, 52]⟩ : ByteArray)).bind fun t117 => (if t117 = 10 then ((mask_Sane.f (⟨#[88]⟩ : ByteArray)).bind fun t118 => (some t118)) else (some false))) else (some false))))) else (some false))) else (some false)) else (some false)) else (some false)) else (some false)))) = some r := h; clear h; replace H := Option.bind_eq_some_iff.mp H; obtain ⟨⟨t108, t109⟩, A10, H⟩ := H; replace H : ((mask_Only.f k (⟨#[49, 50]⟩ : ByteArray)).bind fun bt110 => (if t109 = true then (if t108.toList = ([49, 50] : List UInt8) then (if bt110.2 = true then (if bt110.1 = 12 then ((mask_Match.f (⟨#[49, 57, 88, 52]⟩ : ByteArray) 1984).bind fun t112 => (if t112 = true then ((mask_Match.f (⟨#[49, 57, 88, 52]⟩ : ByteArray) 1985).bind fun t113 => (if t113 = true then (some false) else ((mask_Set.f (⟨#[49, 57, 88, 52]⟩ : ByteArray)).bind fun t114 => (if (t114.length : Int) = 10 then ((mask_Count.f k (⟨#[49, 57, 88, 52]⟩ : ByteArray)).bind fun t117 => (if t117 = 10 then ((mask_Sane.f (⟨#[88]⟩ : ByteArray)).bind fun t118 => (some t118)) else (some false))) else (some false))))) else (some false))) else (some false)) else (some false)) else (some false)) else (some false))) = some r := H; have A1 := Aside0.mk A10; clear A10; replace H := Option.bind_eq_some_iff.mp H; obtain ⟨⟨t110, t111⟩, A20, H⟩ := H; replace H : (if t109 = true then (if t108.toList = ([49, 50] : List UInt8) then (if t111 = true then (if t110 = 12 then ((mask_Match.f (⟨#[49, 57, 88, 52]⟩ : ByteArray) 1984).bind fun t112 => (if t112 = true then ((mask_Match.f (⟨#[49, 57, 88, 52]⟩ : ByteArray) 1985).bind fun t113 => (if t113 = true then (some false) else ((mask_Set.f (⟨#[49, 57, 88, 52]⟩ : ByteArray)).bind fun t114 => (if (t114.length : Int) = 10 then ((mask_Count.f k (⟨#[49, 57, 88, 52]⟩ : ByteArray)).bind fun t117 => (if t117 = 10 then ((mask_Sane.f (⟨#[88]⟩ : ByteArray)).bind fun t118 => (some t118)) else (some false))) else (some false))))) else (some false))) else (some false)) else (some false)) else (some false)) else (some false)) = some r := H; have A2 := Aside0.mk A20; clear A20
 by_cases c3 : t109 = true
 ·subst c3
  (have H1 : (if t108.toList = ([49, 50] : List UInt8) then (if t111 = true then (if t110 = 12 then ((mask_Match.f (⟨#[49, 57, 88, 52]⟩ : ByteArray) 1984).bind fun t112 => (if t112 = true then ((mask_Match.f (⟨#[49, 57, 88, 52]⟩ : ByteArray) 1985).bind fun t113 => (if t113 = true then (some false) else ((mask_Set.f (⟨#[49, 57, 88, 52]⟩ : ByteArray)).bind fun t114 => (if (t114.length : Int) = 10 then ((mask_Count.f k (⟨#[49, 57, 88, 52]⟩ : ByteArray)).bind fun t117 => (if t117 = 10 then ((mask_Sane.f (⟨#[88]⟩ : ByteArray)).bind fun t118 => (some t118)) else (some false))) else (some false))))) else (some false))) else (some false)) else (some false)) else (some false)) = some r := by rw [if_pos rfl] at H; exact H); clear H; have H := H1; clear H1
  by_cases c4 : t108.toList = ([49, 50] : List UInt8)
  ·rw [if_pos c4] at H
   have c4b0 : (t108.toList == ([49, 50] : List UInt8)) = true := beq_iff_eq.mpr c4; have c4b1 : (t108.toList != ([49, 50] : List UInt8)) = false := bne_eq_false_iff_eq.mpr c4; clear c4
   by_cases c5 : t111 = true
   ·subst c5
    (have H1 : (if t110 = 12 then ((mask_Match.f (⟨#[49, 57, 88, 52]⟩ : ByteArray) 1984).bind fun t112 => (if t112 = true then ((mask_Match.f (⟨#[49, 57, 88, 52]⟩ : ByteArray) 1985).bind fun t113 => (if t113 = true then (some false) else ((mask_Set.f (⟨#[49, 57, 88, 52]⟩ : ByteArray)).bind fun t114 => (if (t114.length : Int) = 10 then ((mask_Count.f k (⟨#[49, 57, 88, 52]⟩ : ByteArray)).bind fun t117 => (if t117 = 10 then ((mask_Sane.f (⟨#[88]⟩ : ByteArray)).bind fun t118 => (some t118)) else (some false))) else (some false))))) else (some false))) else (some false)) = some r := by rw [if_pos rfl] at H; exact H); clear H; have H := H1; clear H1
    by_cases c6 : t110 = 12
    ·rw [if_pos c6] at H
     have c6b0 : (t110 == 12) = true := beq_iff_eq.mpr c6; have c6b1 : (t110 != 12) = false := bne_eq_false_iff_eq.mpr c6; clear c6; replace H := Option.bind_eq_some_iff.mp H; obtain ⟨t112, A70, H⟩ := H; replace H : (if t112 = true then ((mask_Match.f (⟨#[49, 57, 88, 52]⟩ : ByteArray) 1985).bind fun t113 => (if t113 = true then (some false) else ((mask_Set.f (⟨#[49, 57, 88, 52]⟩ : ByteArray)).bind fun t114 => (if (t114.length : Int) = 10 then ((mask_Count.f k (⟨#[49, 57, 88, 52]⟩ : ByteArray)).bind fun t117 => (if t117 = 10 then ((mask_Sane.f (⟨#[88]⟩ : ByteArray)).bind fun t118 => (some t118)) else (some false))) else (some false))))) else (some false)) = some r := H; have A7 := Aside0.mk A70; clear A70
     by_cases c8 : t112 = true
     ·subst c8
      (have H1 : ((mask_Match.f (⟨#[49, 57, 88, 52]⟩ : ByteArray) 1985).bind fun t113 => (if t113 = true then (some false) else ((mask_Set.f (⟨#[49, 57, 88, 52]⟩ : ByteArray)).bind fun t114 => (if (t114.length : Int) = 10 then ((mask_Count.f k (⟨#[49, 57, 88, 52]⟩ : ByteArray)).bind fun t117 => (if t117 = 10 then ((mask_Sane.f (⟨#[88]⟩ : ByteArray)).bind fun t118 => (some t118)) else (some false))) else (some false))))) = some r := by rw [if_pos rfl] at H; exact H); clear H; have H := H1; clear H1; replace H := Option.bind_eq_some_iff.mp H; obtain ⟨t113, A90, H⟩ := H; replace H : (if t113 = true then (some false) else ((mask_Set.f (⟨#[49, 57, 88, 52]⟩ : ByteArray)).bind fun t114 => (if (t114.length : Int) = 10 then ((mask_Count.f k (⟨#[49, 57, 88, 52]⟩ : ByteArray)).bind fun t117 => (if t117 = 10 then ((mask_Sane.f (⟨#[88]⟩ : ByteArray)).bind fun t118 => (some t118)) else (some false))) else (some false)))) = some r := H; have A9 := Aside0.mk A90; clear A90
      by_cases c10 : t113 = true
      ·subst c10
       (have H1 : (some false) = some r := by rw [if_pos rfl] at H; exact H); clear H; have H := H1; clear H1; obtain rfl := Option.some.inj H; go_enter Tryd.func8, Tryd.ntmps8; go_wp2_with (first | ((with_reducible refine gate_callee (f := 9) rfl ?_); refine goesL_ (some 6) rfl rfl Tryd.func9 (by kernel_rfl) rfl #[.string (⟨#[49, 88]⟩ : ByteArray), .string (⟨#[88, 50]⟩ : ByteArray)] rfl ml_ ?_; (with_reducible refine (mask_Meet.calls (⟨#[49, 88]⟩ : ByteArray) (⟨#[88, 50]⟩ : ByteArray) t108 true _ A1.out).mono ?_); rintro e w11 ⟨rfl, hb⟩; refine ⟨_, rfl, ?_⟩; have n0_ := Aside0.mk (below_step hb_ hb); clear HB; have HB := n0_; clear n0_; (try clear hb); (try clear hb2); (try clear hk); (try clear hi)) | ((with_reducible refine gate_callee (f := 11) rfl ?_); refine goesL_ (some 10) rfl rfl Tryd.func11 (by kernel_rfl) rfl #[.string (⟨#[49, 50]⟩ : ByteArray)] rfl ml_ ?_; (with_reducible refine (mask_Only.calls k (⟨#[49, 50]⟩ : ByteArray) t110 true _ A2.out).mono ?_); rintro e w12 ⟨rfl, hb⟩; refine ⟨_, rfl, ?_⟩; have n0_ := Aside0.mk (below_step hb_ hb); clear HB; have HB := n0_; clear n0_; (try clear hb); (try clear hb2); (try clear hk); (try clear hi)) | (go_at_call 15; (with_reducible refine (mask_Match.calls (⟨#[49, 57, 88, 52]⟩ : ByteArray) 1984 true _ (TB.at_ HTAB.out hb_) A7.out).mono ?_); rintro e w13 ⟨rfl, hb⟩; have n0_ := Aside0.mk (below_step hb_ hb); clear HB; have HB := n0_; clear n0_; (try clear hb); (try clear hb2); (try clear hk); (try clear hi)) | (go_at_call 15; (with_reducible refine (mask_Match.calls (⟨#[49, 57, 88, 52]⟩ : ByteArray) 1985 true _ (TB.at_ HTAB.out hb_) A9.out).mono ?_); rintro e w14 ⟨rfl, hb⟩; have n0_ := Aside0.mk (below_step hb_ hb); clear HB; have HB := n0_; clear n0_; (try clear hb); (try clear hb2); (try clear hk); (try clear hi))); go_ret; exact ⟨re_, hb_⟩
      ·replace c10 := Bool.eq_false_iff.mpr c10
       subst c10; (have H1 : ((mask_Set.f (⟨#[49, 57, 88, 52]⟩ : ByteArray)).bind fun t114 => (if (t114.length : Int) = 10 then ((mask_Count.f k (⟨#[49, 57, 88, 52]⟩ : ByteArray)).bind fun t117 => (if t117 = 10 then ((mask_Sane.f (⟨#[88]⟩ : ByteArray)).bind fun t118 => (some t118)) else (some false))) else (some false))) = some r := by rw [if_neg (show ¬ (false = true) by decide)] at H; exact H); clear H; have H := H1; clear H1; replace H := Option.bind_eq_some_iff.mp H; obtain ⟨t114, A150, H⟩ := H; replace H : (if (t114.length : Int) = 10 then ((mask_Count.f k (⟨#[49, 57, 88, 52]⟩ : ByteArray)).bind fun t117 => (if t117 = 10 then ((mask_Sane.f (⟨#[88]⟩ : ByteArray)).bind fun t118 => (some t118)) else (some false))) else (some false)) = some r := H; have A15 := Aside0.mk A150; clear A150
       by_cases c16 : (t114.length : Int) = 10
       ·rw [if_pos c16] at H
        have c16b0 : ((t114.length : Int) == 10) = true := beq_iff_eq.mpr c16; have c16b1 : ((t114.length : Int) != 10) = false := bne_eq_false_iff_eq.mpr c16; clear c16; replace H := Option.bind_eq_some_iff.mp H; obtain ⟨t117, A170, H⟩ := H; replace H : (if t117 = 10 then ((mask_Sane.f (⟨#[88]⟩ : ByteArray)).bind fun t118 => (some t118)) else (some false)) = some r := H; have A17 := Aside0.mk A170; clear A170
        by_cases c18 : t117 = 10
        ·rw [if_pos c18] at H
         have c18b0 : (t117 == 10) = true := beq_iff_eq.mpr c18; have c18b1 : (t117 != 10) = false := bne_eq_false_iff_eq.mpr c18; clear c18; replace H := Option.bind_eq_some_iff.mp H; obtain ⟨t118, A190, H⟩ := H; replace H : (some t118) = some r := H; have A19 := Aside0.mk A190; clear A190; obtain rfl := Option.some.inj H; go_enter Tryd.func8, Tryd.ntmps8; go_wp2_with (first | ((with_reducible refine gate_callee (f := 9) rfl ?_); refine goesL_ (some 6) rfl rfl Tryd.func9 (by kernel_rfl) rfl #[.string (⟨#[49, 88]⟩ : ByteArray), .string (⟨#[88, 50]⟩ : ByteArray)] rfl ml_ ?_; (with_reducible refine (mask_Meet.calls (⟨#[49, 88]⟩ : ByteArray) (⟨#[88, 50]⟩ : ByteArray) t108 true _ A1.out).mono ?_); rintro e w20 ⟨rfl, hb⟩; refine ⟨_, rfl, ?_⟩; have n0_ := Aside0.mk (below_step hb_ hb); clear HB; have HB := n0_; clear n0_; (try clear hb); (try clear hb2); (try clear hk); (try clear hi)) | ((with_reducible refine gate_callee (f := 11) rfl ?_); refine goesL_ (some 10) rfl rfl Tryd.func11 (by kernel_rfl) rfl #[.string (⟨#[49, 50]⟩ : ByteArray)] rfl ml_ ?_; (with_reducible refine (mask_Only.calls k (⟨#[49, 50]⟩ : ByteArray) t110 true _ A2.out).mono ?_); rintro e w21 ⟨rfl, hb⟩; refine ⟨_, rfl, ?_⟩; have n0_ := Aside0.mk (below_step hb_ hb); clear HB; have HB := n0_; clear n0_; (try clear hb); (try clear hb2); (try clear hk); (try clear hi)) | (go_at_call 15; (with_reducible refine (mask_Match.calls (⟨#[49, 57, 88, 52]⟩ : ByteArray) 1984 true _ (TB.at_ HTAB.out hb_) A7.out).mono ?_); rintro e w22 ⟨rfl, hb⟩; have n0_ := Aside0.mk (below_step hb_ hb); clear HB; have HB := n0_; clear n0_; (try clear hb); (try clear hb2); (try clear hk); (try clear hi)) | (go_at_call 15; (with_reducible refine (mask_Match.calls (⟨#[49, 57, 88, 52]⟩ : ByteArray) 1985 false _ (TB.at_ HTAB.out hb_) A9.out).mono ?_); rintro e w23 ⟨rfl, hb⟩; have n0_ := Aside0.mk (below_step hb_ hb); clear HB; have HB := n0_; clear n0_; (try clear hb); (try clear hb2); (try clear hk); (try clear hi)) | (go_at_call 18; (with_reducible refine (mask_Set.calls (⟨#[49, 57, 88, 52]⟩ : ByteArray) t114 _ A15.out).mono ?_); rintro e w24 ⟨v115, rfl, ho0, hb⟩; have n0_ := Aside0.mk (Kd.R_lower ho0 (below_size hb_)); have n1_ := Aside0.mk (below_step hb_ hb); clear HB; have HO116 := n0_; have HB := n1_; clear n0_ n1_; (try clear hb); (try clear hb2); (try clear hk); (try clear hi); (try clear ho0); obtain ⟨Ao25, co25, eo25⟩ := Kd.R_slice HO116.out; subst eo25) | (go_at_call 20; (with_reducible refine (mask_Count.calls k (⟨#[49, 57, 88, 52]⟩ : ByteArray) t117 _ A17.out).mono ?_); rintro e w26 ⟨rfl, hb⟩; have n0_ := Aside0.mk (Kd.R_below (by (with_reducible repeat (first | apply Kd.R_alloc | apply Kd.R_drewN | apply Kd.R_drew)); exact HO116.out) hb); have n1_ := Aside0.mk (below_step hb_ hb); clear HO116; clear HB; have HO116 := n0_; have HB := n1_; clear n0_ n1_; (try clear hb); (try clear hb2); (try clear hk); (try clear hi)) | (go_at_call 13; (with_reducible refine (mask_Sane.calls (⟨#[88]⟩ : ByteArray) t118 _ A19.out).mono ?_); rintro e w27 ⟨rfl, hb⟩; have n0_ := Aside0.mk (Kd.R_below (by (with_reducible repeat (first | apply Kd.R_alloc | apply Kd.R_drewN | apply Kd.R_drew)); exact HO116.out) hb); have n1_ := Aside0.mk (below_step hb_ hb); clear HO116; clear HB; have HO116 := n0_; have HB := n1_; clear n0_ n1_; (try clear hb); (try clear hb2); (try clear hk); (try clear hi))); go_ret; exact ⟨re_, hb_⟩
        ·rw [if_neg c18] at H
         have c18b0 : (t117 == 10) = false := beq_eq_false_iff_ne.mpr c18; have c18b1 : (t117 != 10) = true := bne_iff_ne.mpr c18; obtain rfl := Option.some.inj H; go_enter Tryd.func8, Tryd.ntmps8; go_wp2_with (first | ((with_reducible refine gate_callee (f := 9) rfl ?_); refine goesL_ (some 6) rfl rfl Tryd.func9 (by kernel_rfl) rfl #[.string (⟨#[49, 88]⟩ : ByteArray), .string (⟨#[88, 50]⟩ : ByteArray)] rfl ml_ ?_; (with_reducible refine (mask_Meet.calls (⟨#[49, 88]⟩ : ByteArray) (⟨#[88, 50]⟩ : ByteArray) t108 true _ A1.out).mono ?_); rintro e w28 ⟨rfl, hb⟩; refine ⟨_, rfl, ?_⟩; have n0_ := Aside0.mk (below_step hb_ hb); clear HB; have HB := n0_; clear n0_; (try clear hb); (try clear hb2); (try clear hk); (try clear hi)) | ((with_reducible refine gate_callee (f := 11) rfl ?_); refine goesL_ (some 10) rfl rfl Tryd.func11 (by kernel_rfl) rfl #[.string (⟨#[49, 50]⟩ : ByteArray)] rfl ml_ ?_; (with_reducible refine (mask_Only.calls k (⟨#[49, 50]⟩ : ByteArray) t110 true _ A2.out).mono ?_); rintro e w29 ⟨rfl, hb⟩; refine ⟨_, rfl, ?_⟩; have n0_ := Aside0.mk (below_step hb_ hb); clear HB; have HB := n0_; clear n0_; (try clear hb); (try clear hb2); (try clear hk); (try clear hi)) | (go_at_call 15; (with_reducible refine (mask_Match.calls (⟨#[49, 57, 88, 52]⟩ : ByteArray) 1984 true _ (TB.at_ HTAB.out hb_) A7.out).mono ?_); rintro e w30 ⟨rfl, hb⟩; have n0_ := Aside0.mk (below_step hb_ hb); clear HB; have HB := n0_; clear n0_; (try clear hb); (try clear hb2); (try clear hk); (try clear hi)) | (go_at_call 15; (with_reducible refine (mask_Match.calls (⟨#[49, 57, 88, 52]⟩ : ByteArray) 1985 false _ (TB.at_ HTAB.out hb_) A9.out).mono ?_); rintro e w31 ⟨rfl, hb⟩; have n0_ := Aside0.mk (below_step hb_ hb); clear HB; have HB := n0_; clear n0_; (try clear hb); (try clear hb2); (try clear hk); (try clear hi)) | (go_at_call 18; (with_reducible refine (mask_Set.calls (⟨#[49, 57, 88, 52]⟩ : ByteArray) t114 _ A15.out).mono ?_); rintro e w32 ⟨v115, rfl, ho0, hb⟩; have n0_ := Aside0.mk (Kd.R_lower ho0 (below_size hb_)); have n1_ := Aside0.mk (below_step hb_ hb); clear HB; have HO116 := n0_; have HB := n1_; clear n0_ n1_; (try clear hb); (try clear hb2); (try clear hk); (try clear hi); (try clear ho0); obtain ⟨Ao33, co33, eo33⟩ := Kd.R_slice HO116.out; subst eo33) | (go_at_call 20; (with_reducible refine (mask_Count.calls k (⟨#[49, 57, 88, 52]⟩ : ByteArray) t117 _ A17.out).mono ?_); rintro e w34 ⟨rfl, hb⟩; have n0_ := Aside0.mk (Kd.R_below (by (with_reducible repeat (first | apply Kd.R_alloc | apply Kd.R_drewN | apply Kd.R_drew)); exact HO116.out) hb); have n1_ := Aside0.mk (below_step hb_ hb); clear HO116; clear HB; have HO116 := n0_; have HB := n1_; clear n0_ n1_; (try clear hb); (try clear hb2); (try clear hk); (try clear hi))); go_ret; exact ⟨re_, hb_⟩
       ·rw [if_neg c16] at H
        have c16b0 : ((t114.length : Int) == 10) = false := beq_eq_false_iff_ne.mpr c16; have c16b1 : ((t114.length : Int) != 10) = true := bne_iff_ne.mpr c16; obtain rfl := Option.some.inj H; go_enter Tryd.func8, Tryd.ntmps8; go_wp2_with (first | ((with_reducible refine gate_callee (f := 9) rfl ?_); refine goesL_ (some 6) rfl rfl Tryd.func9 (by kernel_rfl) rfl #[.string (⟨#[49, 88]⟩ : ByteArray), .string (⟨#[88, 50]⟩ : ByteArray)] rfl ml_ ?_; (with_reducible refine (mask_Meet.calls (⟨#[49, 88]⟩ : ByteArray) (⟨#[88, 50]⟩ : ByteArray) t108 true _ A1.out).mono ?_); rintro e w35 ⟨rfl, hb⟩; refine ⟨_, rfl, ?_⟩; have n0_ := Aside0.mk (below_step hb_ hb); clear HB; have HB := n0_; clear n0_; (try clear hb); (try clear hb2); (try clear hk); (try clear hi)) | ((with_reducible refine gate_callee (f := 11) rfl ?_); refine goesL_ (some 10) rfl rfl Tryd.func11 (by kernel_rfl) rfl #[.string (⟨#[49, 50]⟩ : ByteArray)] rfl ml_ ?_; (with_reducible refine (mask_Only.calls k (⟨#[49, 50]⟩ : ByteArray) t110 true _ A2.out).mono ?_); rintro e w36 ⟨rfl, hb⟩; refine ⟨_, rfl, ?_⟩; have n0_ := Aside0.mk (below_step hb_ hb); clear HB; have HB := n0_; clear n0_; (try clear hb); (try clear hb2); (try clear hk); (try clear hi)) | (go_at_call 15; (with_reducible refine (mask_Match.calls (⟨#[49, 57, 88, 52]⟩ : ByteArray) 1984 true _ (TB.at_ HTAB.out hb_) A7.out).mono ?_); rintro e w37 ⟨rfl, hb⟩; have n0_ := Aside0.mk (below_step hb_ hb); clear HB; have HB := n0_; clear n0_; (try clear hb); (try clear hb2); (try clear hk); (try clear hi)) | (go_at_call 15; (with_reducible refine (mask_Match.calls (⟨#[49, 57, 88, 52]⟩ : ByteArray) 1985 false _ (TB.at_ HTAB.out hb_) A9.out).mono ?_); rintro e w38 ⟨rfl, hb⟩; have n0_ := Aside0.mk (below_step hb_ hb); clear HB; have HB := n0_; clear n0_; (try clear hb); (try clear hb2); (try clear hk); (try clear hi)) | (go_at_call 18; (with_reducible refine (mask_Set.calls (⟨#[49, 57, 88, 52]⟩ : ByteArray) t114 _ A15.out).mono ?_); rintro e w39 ⟨v115, rfl, ho0, hb⟩; have n0_ := Aside0.mk (Kd.R_lower ho0 (below_size hb_)); have n1_ := Aside0.mk (below_step hb_ hb); clear HB; have HO116 := n0_; have HB := n1_; clear n0_ n1_; (try clear hb); (try clear hb2); (try clear hk); (try clear hi); (try clear ho0); obtain ⟨Ao40, co40, eo40⟩ := Kd.R_slice HO116.out; subst eo40)); go_ret; exact ⟨re_, hb_⟩
     ·replace c8 := Bool.eq_false_iff.mpr c8
      subst c8; (have H1 : (some false) = some r := by rw [if_neg (show ¬ (false = true) by decide)] at H; exact H); clear H; have H := H1; clear H1; obtain rfl := Option.some.inj H; go_enter Tryd.func8, Tryd.ntmps8; go_wp2_with (first | ((with_reducible refine gate_callee (f := 9) rfl ?_); refine goesL_ (some 6) rfl rfl Tryd.func9 (by kernel_rfl) rfl #[.string (⟨#[49, 88]⟩ : ByteArray), .string (⟨#[88, 50]⟩ : ByteArray)] rfl ml_ ?_; (with_reducible refine (mask_Meet.calls (⟨#[49, 88]⟩ : ByteArray) (⟨#[88, 50]⟩ : ByteArray) t108 true _ A1.out).mono ?_); rintro e w41 ⟨rfl, hb⟩; refine ⟨_, rfl, ?_⟩; have n0_ := Aside0.mk (below_step hb_ hb); clear HB; have HB := n0_; clear n0_; (try clear hb); (try clear hb2); (try clear hk); (try clear hi)) | ((with_reducible refine gate_callee (f := 11) rfl ?_); refine goesL_ (some 10) rfl rfl Tryd.func11 (by kernel_rfl) rfl #[.string (⟨#[49, 50]⟩ : ByteArray)] rfl ml_ ?_; (with_reducible refine (mask_Only.calls k (⟨#[49, 50]⟩ : ByteArray) t110 true _ A2.out).mono ?_); rintro e w42 ⟨rfl, hb⟩; refine ⟨_, rfl, ?_⟩; have n0_ := Aside0.mk (below_step hb_ hb); clear HB; have HB := n0_; clear n0_; (try clear hb); (try clear hb2); (try clear hk); (try clear hi)) | (go_at_call 15; (with_reducible refine (mask_Match.calls (⟨#[49, 57, 88, 52]⟩ : ByteArray) 1984 false _ (TB.at_ HTAB.out hb_) A7.out).mono ?_); rintro e w43 ⟨rfl, hb⟩; have n0_ := Aside0.mk (below_step hb_ hb); clear HB; have HB := n0_; clear n0_; (try clear hb); (try clear hb2); (try clear hk); (try clear hi))); go_ret; exact ⟨re_, hb_⟩
    ·rw [if_neg c6] at H
     have c6b0 : (t110 == 12) = false := beq_eq_false_iff_ne.mpr c6; have c6b1 : (t110 != 12) = true := bne_iff_ne.mpr c6; obtain rfl := Option.some.inj H; go_enter Tryd.func8, Tryd.ntmps8; go_wp2_with (first | ((with_reducible refine gate_callee (f := 9) rfl ?_); refine goesL_ (some 6) rfl rfl Tryd.func9 (by kernel_rfl) rfl #[.string (⟨#[49, 88]⟩ : ByteArray), .string (⟨#[88, 50]⟩ : ByteArray)] rfl ml_ ?_; (with_reducible refine (mask_Meet.calls (⟨#[49, 88]⟩ : ByteArray) (⟨#[88, 50]⟩ : ByteArray) t108 true _ A1.out).mono ?_); rintro e w44 ⟨rfl, hb⟩; refine ⟨_, rfl, ?_⟩; have n0_ := Aside0.mk (below_step hb_ hb); clear HB; have HB := n0_; clear n0_; (try clear hb); (try clear hb2); (try clear hk); (try clear hi)) | ((with_reducible refine gate_callee (f := 11) rfl ?_); refine goesL_ (some 10) rfl rfl Tryd.func11 (by kernel_rfl) rfl #[.string (⟨#[49, 50]⟩ : ByteArray)] rfl ml_ ?_; (with_reducible refine (mask_Only.calls k (⟨#[49, 50]⟩ : ByteArray) t110 true _ A2.out).mono ?_); rintro e w45 ⟨rfl, hb⟩; refine ⟨_, rfl, ?_⟩; have n0_ := Aside0.mk (below_step hb_ hb); clear HB; have HB := n0_; clear n0_; (try clear hb); (try clear hb2); (try clear hk); (try clear hi))); go_ret; exact ⟨re_, hb_⟩
   ·replace c5 := Bool.eq_false_iff.mpr c5
    subst c5; (have H1 : (some false) = some r := by rw [if_neg (show ¬ (false = true) by decide)] at H; exact H); clear H; have H := H1; clear H1; obtain rfl := Option.some.inj H; go_enter Tryd.func8, Tryd.ntmps8; go_wp2_with (first | ((with_reducible refine gate_callee (f := 9) rfl ?_); refine goesL_ (some 6) rfl rfl Tryd.func9 (by kernel_rfl) rfl #[.string (⟨#[49, 88]⟩ : ByteArray), .string (⟨#[88, 50]⟩ : ByteArray)] rfl ml_ ?_; (with_reducible refine (mask_Meet.calls (⟨#[49, 88]⟩ : ByteArray) (⟨#[88, 50]⟩ : ByteArray) t108 true _ A1.out).mono ?_); rintro e w46 ⟨rfl, hb⟩; refine ⟨_, rfl, ?_⟩; have n0_ := Aside0.mk (below_step hb_ hb); clear HB; have HB := n0_; clear n0_; (try clear hb); (try clear hb2); (try clear hk); (try clear hi)) | ((with_reducible refine gate_callee (f := 11) rfl ?_); refine goesL_ (some 10) rfl rfl Tryd.func11 (by kernel_rfl) rfl #[.string (⟨#[49, 50]⟩ : ByteArray)] rfl ml_ ?_; (with_reducible refine (mask_Only.calls k (⟨#[49, 50]⟩ : ByteArray) t110 false _ A2.out).mono ?_); rintro e w47 ⟨rfl, hb⟩; refine ⟨_, rfl, ?_⟩; have n0_ := Aside0.mk (below_step hb_ hb); clear HB; have HB := n0_; clear n0_; (try clear hb); (try clear hb2); (try clear hk); (try clear hi))); go_ret; exact ⟨re_, hb_⟩
  ·rw [if_neg c4] at H
   have c4b0 : (t108.toList == ([49, 50] : List UInt8)) = false := beq_eq_false_iff_ne.mpr c4; have c4b1 : (t108.toList != ([49, 50] : List UInt8)) = true := bne_iff_ne.mpr c4; obtain rfl := Option.some.inj H; go_enter Tryd.func8, Tryd.ntmps8; go_wp2_with (first | ((with_reducible refine gate_callee (f := 9) rfl ?_); refine goesL_ (some 6) rfl rfl Tryd.func9 (by kernel_rfl) rfl #[.string (⟨#[49, 88]⟩ : ByteArray), .string (⟨#[88, 50]⟩ : ByteArray)] rfl ml_ ?_; (with_reducible refine (mask_Meet.calls (⟨#[49, 88]⟩ : ByteArray) (⟨#[88, 50]⟩ : ByteArray) t108 true _ A1.out).mono ?_); rintro e w48 ⟨rfl, hb⟩; refine ⟨_, rfl, ?_⟩; have n0_ := Aside0.mk (below_step hb_ hb); clear HB; have HB := n0_; clear n0_; (try clear hb); (try clear hb2); (try clear hk); (try clear hi)) | ((with_reducible refine gate_callee (f := 11) rfl ?_); refine goesL_ (some 10) rfl rfl Tryd.func11 (by kernel_rfl) rfl #[.string (⟨#[49, 50]⟩ : ByteArray)] rfl ml_ ?_; (with_reducible refine (mask_Only.calls k (⟨#[49, 50]⟩ : ByteArray) t110 t111 _ A2.out).mono ?_); rintro e w49 ⟨rfl, hb⟩; refine ⟨_, rfl, ?_⟩; have n0_ := Aside0.mk (below_step hb_ hb); clear HB; have HB := n0_; clear n0_; (try clear hb); (try clear hb2); (try clear hk); (try clear hi))); go_ret; exact ⟨re_, hb_⟩
 ·replace c3 := Bool.eq_false_iff.mpr c3
  subst c3; (have H1 : (some false) = some r := by rw [if_neg (show ¬ (false = true) by decide)] at H; exact H); clear H; have H := H1; clear H1; obtain rfl := Option.some.inj H; go_enter Tryd.func8, Tryd.ntmps8; go_wp2_with (first | ((with_reducible refine gate_callee (f := 9) rfl ?_); refine goesL_ (some 6) rfl rfl Tryd.func9 (by kernel_rfl) rfl #[.string (⟨#[49, 88]⟩ : ByteArray), .string (⟨#[88, 50]⟩ : ByteArray)] rfl ml_ ?_; (with_reducible refine (mask_Meet.calls (⟨#[49, 88]⟩ : ByteArray) (⟨#[88, 50]⟩ : ByteArray) t108 false _ A1.out).mono ?_); rintro e w50 ⟨rfl, hb⟩; refine ⟨_, rfl, ?_⟩; have n0_ := Aside0.mk (below_step hb_ hb); clear HB; have HB := n0_; clear n0_; (try clear hb); (try clear hb2); (try clear hk); (try clear hi)) | ((with_reducible refine gate_callee (f := 11) rfl ?_); refine goesL_ (some 10) rfl rfl Tryd.func11 (by kernel_rfl) rfl #[.string (⟨#[49, 50]⟩ : ByteArray)] rfl ml_ ?_; (with_reducible refine (mask_Only.calls k (⟨#[49, 50]⟩ : ByteArray) t110 t111 _ A2.out).mono ?_); rintro e w51 ⟨rfl, hb⟩; refine ⟨_, rfl, ?_⟩; have n0_ := Aside0.mk (below_step hb_ hb); clear HB; have HB := n0_; clear n0_; (try clear hb); (try clear hb2); (try clear hk); (try clear hi))); go_ret; exact ⟨re_, hb_⟩
end Go.Proofs.YtfehdlkklfcnpaaDoor.A
namespace Go.Proofs.YtfehdlkklfcnpaaDoor.A.At
open Go.RowKit Go.Proofs.YtfehdlkklfcnpaaDoorW.PrintWords Go.Proofs.YtfehdlkklfcnpaaDoorW.PrintLast Go.Proofs.YtfehdlkklfcnpaaDoorW.PrintMore
attribute [local go_sem] max2_int min2_int max_two min_two max_three min_three max_four min_four
def cmp_isNaN_int.f (a0 : Int) : Option (Bool) := some (a0 != a0)
def cmp_Compare_int.f (a0 : Int) (a1 : Int) : Option (Int) := (cmp_isNaN_int.f a0).bind fun t101 => ((cmp_isNaN_int.f a1).bind fun t102 => (if t101 = true then (if t102 = true then (some 0) else (some (-1))) else (if t102 = true then (some 1) else (if a0 < a1 then (some (-1)) else (if a0 > a1 then (some 1) else (some 0))))))
def runs_at_1.f (a0_0 : Int) (a0_1 : Int) (a1 : Int) : Option (Int) := (cmp_Compare_int.f a0_1 a1).bind fun t104 => (some t104)
def api_Run_int.l0 : Nat → List (S37) → Int → Int → Int → Int → Option (Int × Bool)
  | 0, _, _, _, _, _ => none
  | k + 1, x0, x1, x8, x9, x10 => if x9 < x10 then (if 0 ≤ (wrap64 ((IntKind.u64.wrap (wrap64 (x9 + x10))) / 2)) then (if (wrap64 ((IntKind.u64.wrap (wrap64 (x9 + x10))) / 2)) < (x0.length : Int) then ((runs_at_1.f ((rd_T37 x0 (wrap64 ((IntKind.u64.wrap (wrap64 (x9 + x10))) / 2))).f0) ((rd_T37 x0 (wrap64 ((IntKind.u64.wrap (wrap64 (x9 + x10))) / 2))).f1) x1).bind fun t106 => (if t106 < 0 then (api_Run_int.l0 k x0 x1 x8 (wrap64 ((wrap64 ((IntKind.u64.wrap (wrap64 (x9 + x10))) / 2)) + 1)) x10) else (api_Run_int.l0 k x0 x1 x8 x9 (wrap64 ((IntKind.u64.wrap (wrap64 (x9 + x10))) / 2))))) else (none)) else (none)) else (if x9 < x8 then (if 0 ≤ x9 then (if x9 < (x0.length : Int) then ((runs_at_1.f ((rd_T37 x0 x9).f0) ((rd_T37 x0 x9).f1) x1).bind fun t108 => (some (x9, (t108 == 0)))) else (none)) else (none)) else (some (x9, false)))
def api_Run_int.f (k : Nat) (l0 : List (S37)) (a1 : Int)  : Option (Int × Bool) := api_Run_int.l0 k l0 a1 (l0.length : Int) 0 (l0.length : Int)
def runs_at.f (k : Nat) (l0 : List (S37)) (a1 : Int) : Option (Int) := (api_Run_int.f k l0 a1).bind fun bt109 => (some bt109.1)
end Go.Proofs.YtfehdlkklfcnpaaDoor.A.At
namespace Go.Proofs.YtfehdlkklfcnpaaDoor.A.At
open Go.RowKit Go.Proofs.YtfehdlkklfcnpaaDoorW.PrintWords Go.Proofs.YtfehdlkklfcnpaaDoorW.PrintLast Go.Proofs.YtfehdlkklfcnpaaDoorW.PrintMore
attribute [local go_sem] max2_int min2_int max_two min_two max_three min_three max_four min_four
attribute [local go_sem] isSome_setCell
set_option maxHeartbeats 8000000 in
set_option maxRecDepth 100000 in
theorem cmp_isNaN_int.calls (a0 : Int) (r : Bool) (w : World) (h : cmp_isNaN_int.f a0 = some r) :
  Calls Tryd.prog 65 #[.int .i64 a0] w fun e w' => e = .returned (.bool r) ∧ Drawn0 w w' := by
 have H : (some (a0 != a0)) = some r := h; clear h; obtain rfl := Option.some.inj H; go_enter Tryd.func65, Tryd.ntmps65; go_wp2; go_ret; exact ⟨by first | rfl | (simp; done) | (simp [*]; done), by repeat (first | exact Drawn0.refl _ | apply Drawn0.step)⟩
set_option maxHeartbeats 8000000 in
set_option maxRecDepth 100000 in
theorem cmp_Compare_int.calls (a0 : Int) (a1 : Int) (r : Int) (w : World) (h : cmp_Compare_int.f a0 a1 = some r) :
  Calls Tryd.prog 52 #[.int .i64 a0, .int .i64 a1] w fun e w' => e = .returned (.int .i64 r) ∧ Drawn0 w w' := by
 have H : ((cmp_isNaN_int.f a0).bind fun t101 => ((cmp_isNaN_int.f a1).bind fun t102 => (if t101 = true then (if t102 = true then (some 0) else (some (-1))) else (if t102 = true then (some 1) else (if a0 < a1 then (some (-1)) else (if a0 > a1 then (some 1) else (some 0))))))) = some r := h; clear h; replace H := Option.bind_eq_some_iff.mp H; obtain ⟨t101, A30, H⟩ := H; replace H : ((cmp_isNaN_int.f a1).bind fun t102 => (if t101 = true then (if t102 = true then (some 0) else (some (-1))) else (if t102 = true then (some 1) else (if a0 < a1 then (some (-1)) else (if a0 > a1 then (some 1) else (some 0)))))) = some r := H; have A3 := Aside0.mk A30; clear A30; replace H := Option.bind_eq_some_iff.mp H; obtain ⟨t102, A40, H⟩ := H; replace H : (if t101 = true then (if t102 = true then (some 0) else (some (-1))) else (if t102 = true then (some 1) else (if a0 < a1 then (some (-1)) else (if a0 > a1 then (some 1) else (some 0))))) = some r := H; have A4 := Aside0.mk A40; clear A40
 by_cases c5 : t101 = true
 ·subst c5
  (have H1 : (if t102 = true then (some 0) else (some (-1))) = some r := by rw [if_pos rfl] at H; exact H); clear H; have H := H1; clear H1
  by_cases c6 : t102 = true
  ·subst c6
   (have H1 : (some 0) = some r := by rw [if_pos rfl] at H; exact H); clear H; have H := H1; clear H1; obtain rfl := Option.some.inj H; go_enter Tryd.func52, Tryd.ntmps52; go_wp2_with (first | ((with_reducible refine gate_callee (f := 65) rfl ?_); refine goesL_ (some 8) rfl rfl Tryd.func65 (by kernel_rfl) rfl #[.int .i64 a0] rfl ml_ ?_; (with_reducible refine (cmp_isNaN_int.calls a0 true _ A3.out).mono ?_); rintro e w' ⟨rfl, ⟨nd, rfl⟩⟩; refine ⟨_, rfl, ?_⟩) | ((with_reducible refine gate_callee (f := 65) rfl ?_); refine goesL_ (some 10) rfl rfl Tryd.func65 (by kernel_rfl) rfl #[.int .i64 a1] rfl ml_ ?_; (with_reducible refine (cmp_isNaN_int.calls a1 true _ A4.out).mono ?_); rintro e w' ⟨rfl, ⟨nd, rfl⟩⟩; refine ⟨_, rfl, ?_⟩)); go_ret; exact ⟨by first | rfl | (simp; done) | (simp [*]; done), by repeat (first | exact Drawn0.refl _ | apply Drawn0.step)⟩
  ·replace c6 := Bool.eq_false_iff.mpr c6
   subst c6; (have H1 : (some (-1)) = some r := by rw [if_neg (show ¬ (false = true) by decide)] at H; exact H); clear H; have H := H1; clear H1; obtain rfl := Option.some.inj H; go_enter Tryd.func52, Tryd.ntmps52; go_wp2_with (first | ((with_reducible refine gate_callee (f := 65) rfl ?_); refine goesL_ (some 8) rfl rfl Tryd.func65 (by kernel_rfl) rfl #[.int .i64 a0] rfl ml_ ?_; (with_reducible refine (cmp_isNaN_int.calls a0 true _ A3.out).mono ?_); rintro e w' ⟨rfl, ⟨nd, rfl⟩⟩; refine ⟨_, rfl, ?_⟩) | ((with_reducible refine gate_callee (f := 65) rfl ?_); refine goesL_ (some 10) rfl rfl Tryd.func65 (by kernel_rfl) rfl #[.int .i64 a1] rfl ml_ ?_; (with_reducible refine (cmp_isNaN_int.calls a1 false _ A4.out).mono ?_); rintro e w' ⟨rfl, ⟨nd, rfl⟩⟩; refine ⟨_, rfl, ?_⟩)); go_ret; exact ⟨by first | rfl | (simp; done) | (simp [*]; done), by repeat (first | exact Drawn0.refl _ | apply Drawn0.step)⟩
 ·replace c5 := Bool.eq_false_iff.mpr c5
  subst c5; (have H1 : (if t102 = true then (some 1) else (if a0 < a1 then (some (-1)) else (if a0 > a1 then (some 1) else (some 0)))) = some r := by rw [if_neg (show ¬ (false = true) by decide)] at H; exact H); clear H; have H := H1; clear H1
  by_cases c7 : t102 = true
  ·subst c7
   (have H1 : (some 1) = some r := by rw [if_pos rfl] at H; exact H); clear H; have H := H1; clear H1; obtain rfl := Option.some.inj H; go_enter Tryd.func52, Tryd.ntmps52; go_wp2_with (first | ((with_reducible refine gate_callee (f := 65) rfl ?_); refine goesL_ (some 8) rfl rfl Tryd.func65 (by kernel_rfl) rfl #[.int .i64 a0] rfl ml_ ?_; (with_reducible refine (cmp_isNaN_int.calls a0 false _ A3.out).mono ?_); rintro e w' ⟨rfl, ⟨nd, rfl⟩⟩; refine ⟨_, rfl, ?_⟩) | ((with_reducible refine gate_callee (f := 65) rfl ?_); refine goesL_ (some 10) rfl rfl Tryd.func65 (by kernel_rfl) rfl #[.int .i64 a1] rfl ml_ ?_; (with_reducible refine (cmp_isNaN_int.calls a1 true _ A4.out).mono ?_); rintro e w' ⟨rfl, ⟨nd, rfl⟩⟩; refine ⟨_, rfl, ?_⟩)); go_ret; exact ⟨by first | rfl | (simp; done) | (simp [*]; done), by repeat (first | exact Drawn0.refl _ | apply Drawn0.step)⟩
  ·replace c7 := Bool.eq_false_iff.mpr c7
   subst c7; (have H1 : (if a0 < a1 then (some (-1)) else (if a0 > a1 then (some 1) else (some 0))) = some r := by rw [if_neg (show ¬ (false = true) by decide)] at H; exact H); clear H; have H := H1; clear H1
   by_cases c8 : a0 < a1
   ·rw [if_pos c8] at H
    have c8b0 : decide (a0 < a1) = true := decide_eq_true c8; clear c8; obtain rfl := Option.some.inj H; go_enter Tryd.func52, Tryd.ntmps52; go_wp2_with (first | ((with_reducible refine gate_callee (f := 65) rfl ?_); refine goesL_ (some 8) rfl rfl Tryd.func65 (by kernel_rfl) rfl #[.int .i64 a0] rfl ml_ ?_; (with_reducible refine (cmp_isNaN_int.calls a0 false _ A3.out).mono ?_); rintro e w' ⟨rfl, ⟨nd, rfl⟩⟩; refine ⟨_, rfl, ?_⟩) | ((with_reducible refine gate_callee (f := 65) rfl ?_); refine goesL_ (some 10) rfl rfl Tryd.func65 (by kernel_rfl) rfl #[.int .i64 a1] rfl ml_ ?_; (with_reducible refine (cmp_isNaN_int.calls a1 false _ A4.out).mono ?_); rintro e w' ⟨rfl, ⟨nd, rfl⟩⟩; refine ⟨_, rfl, ?_⟩)); go_ret; exact ⟨by first | rfl | (simp; done) | (simp [*]; done), by repeat (first | exact Drawn0.refl _ | apply Drawn0.step)⟩
   ·rw [if_neg c8] at H
    have c8b0 : decide (a0 < a1) = false := decide_eq_false c8; clear c8
    by_cases c9 : a0 > a1
    ·rw [if_pos c9] at H
     have c9b0 : decide (a1 < a0) = true := decide_eq_true c9; clear c9; obtain rfl := Option.some.inj H; go_enter Tryd.func52, Tryd.ntmps52; go_wp2_with (first | ((with_reducible refine gate_callee (f := 65) rfl ?_); refine goesL_ (some 8) rfl rfl Tryd.func65 (by kernel_rfl) rfl #[.int .i64 a0] rfl ml_ ?_; (with_reducible refine (cmp_isNaN_int.calls a0 false _ A3.out).mono ?_); rintro e w' ⟨rfl, ⟨nd, rfl⟩⟩; refine ⟨_, rfl, ?_⟩) | ((with_reducible refine gate_callee (f := 65) rfl ?_); refine goesL_ (some 10) rfl rfl Tryd.func65 (by kernel_rfl) rfl #[.int .i64 a1] rfl ml_ ?_; (with_reducible refine (cmp_isNaN_int.calls a1 false _ A4.out).mono ?_); rintro e w' ⟨rfl, ⟨nd, rfl⟩⟩; refine ⟨_, rfl, ?_⟩)); go_ret; exact ⟨by first | rfl | (simp; done) | (simp [*]; done), by repeat (first | exact Drawn0.refl _ | apply Drawn0.step)⟩
    ·rw [if_neg c9] at H
     have c9b0 : decide (a1 < a0) = false := decide_eq_false c9; clear c9; obtain rfl := Option.some.inj H; go_enter Tryd.func52, Tryd.ntmps52; go_wp2_with (first | ((with_reducible refine gate_callee (f := 65) rfl ?_); refine goesL_ (some 8) rfl rfl Tryd.func65 (by kernel_rfl) rfl #[.int .i64 a0] rfl ml_ ?_; (with_reducible refine (cmp_isNaN_int.calls a0 false _ A3.out).mono ?_); rintro e w' ⟨rfl, ⟨nd, rfl⟩⟩; refine ⟨_, rfl, ?_⟩) | ((with_reducible refine gate_callee (f := 65) rfl ?_); refine goesL_ (some 10) rfl rfl Tryd.func65 (by kernel_rfl) rfl #[.int .i64 a1] rfl ml_ ?_; (with_reducible refine (cmp_isNaN_int.calls a1 false _ A4.out).mono ?_); rintro e w' ⟨rfl, ⟨nd, rfl⟩⟩; refine ⟨_, rfl, ?_⟩)); go_ret; exact ⟨by first | rfl | (simp; done) | (simp [*]; done), by repeat (first | exact Drawn0.refl _ | apply Drawn0.step)⟩
set_option maxHeartbeats 8000000 in
set_option maxRecDepth 100000 in
theorem runs_at_1.calls (a0_0 : Int) (a0_1 : Int) (a1 : Int) (r : Int) (w : World) (h : runs_at_1.f a0_0 a0_1 a1 = some r) :
  Calls Tryd.prog 51 #[.agg #[.int .i64 a0_0, .int .i64 a0_1], .int .i64 a1] w fun e w' => e = .returned (.int .i64 r) ∧ Below w.heap.size w w' := by
 have hu37 := Tryd.underlying37; have HB := Aside0.mk (Below.refl w.heap.size w); have H : ((cmp_Compare_int.f a0_1 a1).bind fun t104 => (some t104)) = some r := h; clear h; replace H := Option.bind_eq_some_iff.mp H; obtain ⟨t104, A30, H⟩ := H; replace H : (some t104) = some r := H; have A3 := Aside0.mk A30; clear A30; obtain rfl := Option.some.inj H; go_enter Tryd.func51, Tryd.ntmps51; go_wp2_with (first | ((with_reducible refine gate_dst (N := 2) rfl ?_); refine box_event ?hg (N := 2) ?hd (cs := #[.int .i64 a0_0, .int .i64 a0_1]) (t := 37) ?hr ?_; (case hd => rfl); (case hg => rfl); (case hr => first | (go_simp; done) | (go_simp; rfl)); intro gb103 hg w4 hbox hb; have n0_ := Aside0.mk (below_step hb_ hb); have n1_ := Aside0.mk (hbox); have n2_ := Aside0.mk ((by rw [hg]; exact (below_size hb_) : w.heap.size ≤ gb103)); have n3_ := Aside0.mk ((by rw [hg]; exact (below_size hb_) : w.heap.size ≤ gb103)); clear HB; have HB := n0_; have BK103 := n1_; have GW103 := n2_; have GE103 := n3_; clear n0_ n1_ n2_ n3_; clear hb hbox hg; have hcz5_0 : w4.cell? ⟨gb103, 0, none⟩ = some (.int .i64 a0_0) := (blk_cell BK103.out 0).trans rfl; have hcz5_1 : w4.cell? ⟨gb103, 1, none⟩ = some (.int .i64 a0_1) := (blk_cell BK103.out 1).trans rfl; have hfz5_0 := blk_frozen BK103.out 0; have hfz5_1 := blk_frozen BK103.out 1) | ((with_reducible refine gate_callee (f := 52) rfl ?_); refine goesL_ (some 8) rfl rfl Tryd.func52 (by kernel_rfl) rfl #[.int .i64 a0_1, .int .i64 a1] rfl ml_ ?_; (with_reducible refine (cmp_Compare_int.calls a0_1 a1 t104 _ A3.out).mono ?_); rintro e w' ⟨rfl, ⟨nd, rfl⟩⟩; refine ⟨_, rfl, ?_⟩)); go_ret; exact ⟨re_, by repeat (first | (with_reducible first | exact HB.out | apply below_alloc | apply pw_below_drewN | apply below_drew1 | refine below_set ?_ GE103.out) | exact HB.out)⟩
set_option maxHeartbeats 8000000 in
set_option maxRecDepth 100000 in
theorem api_Run_int.calls (k : Nat) (A0 : Option Addr) (c0 : Nat) (l0 : List (S37)) (a1 : Int)  (r1 : Int) (r2 : Bool) (w : World) (hr0 : Kd.C k37 w A0 l0.length l0) (hc0 : l0.length ≤ c0) (h : api_Run_int.f k l0 a1 = some (r1, r2)) :
  Calls Tryd.prog 50 #[.slice A0 l0.length c0, .int .i64 a1, .func (.func 51) #[] #[]] w fun e w' => e = .returned (.tuple #[.int .i64 r1, .bool r2]) ∧ Below w.heap.size w w' := by
 have hu37 := Tryd.underlying37; have HR0 := Aside0.mk hr0; have HC0 := Aside0.mk hc0; clear hr0 hc0; have HB := Aside0.mk (Below.refl w.heap.size w); have H : (api_Run_int.l0 k l0 a1 (l0.length : Int) 0 (l0.length : Int)) = some (r1, r2) := h; clear h; have H' := Aside0.mk H; clear H; go_enter Tryd.func50, Tryd.ntmps50; go_wp2; go_loopg [9, 10] k (fun kq v9 v10 w' => ∃ (x9_1 : Int) (x10_1 : Int), v9 = .int .i64 x9_1 ∧ v10 = .int .i64 x10_1 ∧ Aside0 (api_Run_int.l0 kq l0 a1 (l0.length : Int) x9_1 x10_1 = some (r1, r2)) ∧ Aside0 (kq ≤ k) ∧ Aside0 (Below w.heap.size w w'))
 case atStart => exact ⟨(0), ((l0.length : Int)), rf_, rf_, H', ⟨Nat.le_refl _⟩, ⟨hb_⟩⟩
 case round =>
  clear H'; (try clear p2); obtain ⟨x9_1, x10_1, rfl, rfl, HA, HK1, HB⟩ := hrel
  cases gk with
  | zero => exact absurd HA.out (by simp [api_Run_int.l0])
  | succ k1 =>
   have H := HA.out; clear HA; simp only [api_Run_int.l0] at H
   by_cases c4 : x9_1 < x10_1
   ·rw [if_pos c4] at H
    have c4b0 : decide (x9_1 < x10_1) = true := decide_eq_true c4; clear c4; obtain ⟨ji5, hji5⟩ : ∃ j_ : Int, (wrap64 ((IntKind.u64.wrap (wrap64 (x9_1 + x10_1))) / 2)) = j_ := ⟨_, rfl⟩; (replace H : (if 0 ≤ (ji5) then (if (ji5) < (l0.length : Int) then ((runs_at_1.f ((rd_T37 l0 (ji5)).f0) ((rd_T37 l0 (ji5)).f1) a1).bind fun t106 => (if t106 < 0 then (api_Run_int.l0 k1 l0 a1 (l0.length : Int) (wrap64 ((ji5) + 1)) x10_1) else (api_Run_int.l0 k1 l0 a1 (l0.length : Int) x9_1 ji5))) else (none)) else (none)) = some (r1, r2) := by first | (rw [hji5] at H; exact H) | (simp only [hji5] at H ⊢; exact H)); have hji5w : (IntKind.i64.wrap ((IntKind.u64.wrap (wrap64 (x9_1 + x10_1))) / 2)) = ji5 := (i64_w _).trans hji5
    by_cases c6 : 0 ≤ (ji5)
    ·rw [if_pos c6] at H
     have c6b0 : decide (0 ≤ (ji5)) = true := decide_eq_true c6; clear c6
     by_cases c7 : (ji5) < (l0.length : Int)
     ·rw [if_pos c7] at H
      have c7b0 : decide ((ji5) < (l0.length : Int)) = true := decide_eq_true c7; clear c7; replace H := Option.bind_eq_some_iff.mp H; obtain ⟨t106, A80, H⟩ := H; replace H : (if t106 < 0 then (api_Run_int.l0 k1 l0 a1 (l0.length : Int) (wrap64 ((ji5) + 1)) x10_1) else (api_Run_int.l0 k1 l0 a1 (l0.length : Int) x9_1 ji5)) = some (r1, r2) := H; have A8 := Aside0.mk A80; clear A80
      by_cases c9 : t106 < 0
      ·rw [if_pos c9] at H
       have c9b0 : decide (t106 < 0) = true := decide_eq_true c9; clear c9; have H' := Aside0.mk H; clear H; have p105 : 0 ≤ ((ji5) : Int) := od_; have q105 : (ji5) < (l0.length : Int) := od_; obtain ⟨ad105, e105, hx105_0, hx105_1⟩ := at_T37 HR0.out (ji5) p105 q105
       cases e105
       replace hx105_0 := (HB.out.cell (World.block_lt_of_cell? w _ hx105_0)).trans hx105_0; replace hx105_1 := (HB.out.cell (World.block_lt_of_cell? w _ hx105_1)).trans hx105_1; replace p105 := eq_true p105; replace q105 := eq_true q105; go_wp2_with (first | (go_at_call 51; (refine (runs_at_1.calls ((rd_T37 l0 (ji5)).f0) ((rd_T37 l0 (ji5)).f1) a1 t106 _ A8.out).mono ?_); rintro e w10 ⟨rfl, hb⟩; have n0_ := Aside0.mk (below_step hb_ hb); clear HB; have HB := n0_; clear n0_; (try clear hb); (try clear hb2); (try clear hk); (try clear hi))); go_roundg k1
       case measure => have := HK1.out; omega
       case rel => exact ⟨(wrap64 ((ji5) + 1)), (x10_1), (by first | rfl | (simp; done) | (simp only [← hji5] <;> (first | rfl | simp)) | (simp [*]; done)), rf_, H', ⟨by have := HK1.out; omega⟩, ⟨hb_⟩⟩
      ·rw [if_neg c9] at H
       have c9b0 : decide (t106 < 0) = false := decide_eq_false c9; clear c9; have H' := Aside0.mk H; clear H; have p105 : 0 ≤ ((ji5) : Int) := od_; have q105 : (ji5) < (l0.length : Int) := od_; obtain ⟨ad105, e105, hx105_0, hx105_1⟩ := at_T37 HR0.out (ji5) p105 q105
       cases e105
       replace hx105_0 := (HB.out.cell (World.block_lt_of_cell? w _ hx105_0)).trans hx105_0; replace hx105_1 := (HB.out.cell (World.block_lt_of_cell? w _ hx105_1)).trans hx105_1; replace p105 := eq_true p105; replace q105 := eq_true q105; go_wp2_with (first | (go_at_call 51; (refine (runs_at_1.calls ((rd_T37 l0 (ji5)).f0) ((rd_T37 l0 (ji5)).f1) a1 t106 _ A8.out).mono ?_); rintro e w11 ⟨rfl, hb⟩; have n0_ := Aside0.mk (below_step hb_ hb); clear HB; have HB := n0_; clear n0_; (try clear hb); (try clear hb2); (try clear hk); (try clear hi))); go_roundg k1
       case measure => have := HK1.out; omega
       case rel => exact ⟨(x9_1), (ji5), rf_, (by first | rfl | (simp; done) | (simp only [← hji5] <;> (first | rfl | simp)) | (simp [*]; done)), H', ⟨by have := HK1.out; omega⟩, ⟨hb_⟩⟩
     ·rw [if_neg c7] at H
      exact absurd H (by simp)
    ·rw [if_neg c6] at H
     exact absurd H (by simp)
   ·rw [if_neg c4] at H
    have c4b0 : decide (x9_1 < x10_1) = false := decide_eq_false c4; clear c4
    by_cases c12 : x9_1 < (l0.length : Int)
    ·rw [if_pos c12] at H
     have c12b0 : decide (x9_1 < (l0.length : Int)) = true := decide_eq_true c12; clear c12
     by_cases c13 : 0 ≤ x9_1
     ·rw [if_pos c13] at H
      have c13b0 : decide (0 ≤ x9_1) = true := decide_eq_true c13; clear c13
      by_cases c14 : x9_1 < (l0.length : Int)
      ·rw [if_pos c14] at H
       have c14b0 : decide (x9_1 < (l0.length : Int)) = true := decide_eq_true c14; clear c14; replace H := Option.bind_eq_some_iff.mp H; obtain ⟨t108, A150, H⟩ := H; replace H : (some (x9_1, (t108 == 0))) = some (r1, r2) := H; have A15 := Aside0.mk A150; clear A150; simp only [Option.some.injEq, Prod.mk.injEq] at H; obtain ⟨rfl, rfl⟩ := H; have p107 : 0 ≤ (x9_1 : Int) := od_; have q107 : x9_1 < (l0.length : Int) := od_; obtain ⟨ad107, e107, hx107_0, hx107_1⟩ := at_T37 HR0.out x9_1 p107 q107
       cases e107
       replace hx107_0 := (HB.out.cell (World.block_lt_of_cell? w _ hx107_0)).trans hx107_0; replace hx107_1 := (HB.out.cell (World.block_lt_of_cell? w _ hx107_1)).trans hx107_1; replace p107 := eq_true p107; replace q107 := eq_true q107; go_wp2_with (first | (go_at_call 51; (refine (runs_at_1.calls ((rd_T37 l0 x9_1).f0) ((rd_T37 l0 x9_1).f1) a1 t108 _ A15.out).mono ?_); rintro e w16 ⟨rfl, hb⟩; have n0_ := Aside0.mk (below_step hb_ hb); clear HB; have HB := n0_; clear n0_; (try clear hb); (try clear hb2); (try clear hk); (try clear hi))); go_ret2; exact ⟨re_, hb_⟩
      ·rw [if_neg c14] at H
       exact absurd H (by simp)
     ·rw [if_neg c13] at H
      exact absurd H (by simp)
    ·rw [if_neg c12] at H
     have c12b0 : decide (x9_1 < (l0.length : Int)) = false := decide_eq_false c12; clear c12; simp only [Option.some.injEq, Prod.mk.injEq] at H; obtain ⟨rfl, rfl⟩ := H; go_wp2; go_ret2; exact ⟨re_, hb_⟩
set_option maxHeartbeats 8000000 in
set_option maxRecDepth 100000 in
theorem runs_at.calls (k : Nat) (A0 : Option Addr) (c0 : Nat) (l0 : List (S37)) (a1 : Int) (r : Int) (w : World) (hr0 : Kd.C k37 w A0 l0.length l0) (hc0 : l0.length ≤ c0) (h : runs_at.f k l0 a1 = some r) :
  Calls Tryd.prog 41 #[.slice A0 l0.length c0, .int .i64 a1] w fun e w' => e = .returned (.int .i64 r) ∧ Below w.heap.size w w' := by
 have HR0 := Aside0.mk hr0; have HC0 := Aside0.mk hc0; clear hr0 hc0; have HB := Aside0.mk (Below.refl w.heap.size w); have H : ((api_Run_int.f k l0 a1).bind fun bt109 => (some bt109.1)) = some r := h; clear h; replace H := Option.bind_eq_some_iff.mp H; obtain ⟨⟨t109, t110⟩, A30, H⟩ := H; replace H : (some t109) = some r := H; have A3 := Aside0.mk A30; clear A30; obtain rfl := Option.some.inj H; go_enter Tryd.func41, Tryd.ntmps41; go_wp2_with (first | ((with_reducible refine gate_callee (f := 50) rfl ?_); refine goesL_ (some 10) rfl rfl Tryd.func50 (by kernel_rfl) rfl #[.slice A0 l0.length c0, .int .i64 a1, .func (.func 51) #[] #[]] rfl ml_ ?_; (with_reducible refine (api_Run_int.calls k _ _ l0 a1  t109 t110 _ ?side1 ?side2 A3.out).mono ?_); (case side1 => repeat (first | exact HR0.out | (with_reducible refine Kd.C_alloc ?_ _) | (with_reducible refine Kd.C_drewN ?_ _) | (with_reducible refine Kd.C_drew ?_))); (case side2 => exact HC0.out); rintro e w4 ⟨rfl, hb⟩; refine ⟨_, rfl, ?_⟩; have n0_ := Aside0.mk (below_step hb_ hb); clear HB; have HB := n0_; clear n0_; (try clear hb); (try clear hb2); (try clear hk); (try clear hi))); go_ret; exact ⟨re_, hb_⟩
end Go.Proofs.YtfehdlkklfcnpaaDoor.A.At
namespace Go.Proofs.YtfehdlkklfcnpaaDoor.A
open Go.RowKit Go.Proofs.YtfehdlkklfcnpaaDoorW.PrintWords Go.Proofs.YtfehdlkklfcnpaaDoorW.PrintLast Go.Proofs.YtfehdlkklfcnpaaDoorW.PrintMore
theorem Compare_f (a b : Int) : At.cmp_Compare_int.f a b = some (if a < b then -1 else if a > b then 1 else 0) := by
  unfold At.cmp_Compare_int.f At.cmp_isNaN_int.f
  simp only [Option.bind_some, bne_self_eq_false]
  rw [if_neg (by simp), if_neg (by simp)]
  split
  · rfl
  · split <;> rfl
theorem at1_f (x y n : Int) : At.runs_at_1.f x y n = some (if y < n then -1 else if y > n then 1 else 0) := by
  unfold At.runs_at_1.f
  rw [Compare_f]; rfl
theorem rising_parted : ∀ {l : List S37} (_ : risingHi l = true) (n : Int), ∃ p t, l = p ++ t ∧ p.length = l.countP (fun r => decide (r.f1 < n)) ∧ (∀ r, r ∈ p → r.f1 < n) ∧ (∀ r, r ∈ t → n ≤ r.f1)
  | [], _, n => ⟨[], [], rfl, rfl, fun r h => by simp at h, fun r h => by simp at h⟩
  | r :: t, h, n => by
    unfold risingHi at h
    rw [Bool.and_eq_true, List.all_eq_true] at h
    obtain ⟨h1, h2⟩ := h
    by_cases c : r.f1 < n
    · obtain ⟨p, s, e1, e2, e3, e4⟩ := rising_parted h2 n
      refine ⟨r :: p, s, by rw [e1]; rfl, ?_, ?_, e4⟩
      · rw [List.countP_cons_of_pos (by simpa using c), ← e2]; rfl
      · intro q hq
        rcases List.mem_cons.1 hq with rfl | hq
        · exact c
        · exact e3 q hq
    · have hall : ∀ q, q ∈ r :: t → n ≤ q.f1 := fun q hq => by
        rcases List.mem_cons.1 hq with rfl | hq
        · omega
        · have := of_decide_eq_true (h1 q hq); omega
      refine ⟨[], r :: t, rfl, ?_, fun q h => by simp at h, hall⟩
      rw [eq_comm, List.length_nil, List.countP_eq_zero]
      intro q hq
      have := hall q hq
      simp; omega
theorem side_of {p t : List S37} {n : Int} (hp : ∀ r, r ∈ p → r.f1 < n) (ht : ∀ r, r ∈ t → n ≤ r.f1) (i : Int) (h0 : 0 ≤ i) (h1 : i < ((p ++ t).length : Int)) : (rd_T37 (p ++ t) i).f1 < n ↔ i < (p.length : Int) := by
  have hi : i.toNat < (p ++ t).length := by omega
  have e : rd_T37 (p ++ t) i = (p ++ t)[i.toNat] := by unfold rd_T37; rw [List.getD_eq_getElem?_getD, List.getElem?_eq_getElem hi, Option.getD_some]
  rw [e]
  by_cases c : i.toNat < p.length
  · rw [List.getElem_append_left c]
    exact ⟨fun _ => by omega, fun _ => hp _ (List.getElem_mem _)⟩
  · rw [List.getElem_append_right (by omega)]
    constructor
    · intro h
      have := ht _ (List.getElem_mem (l := t) (n := i.toNat - p.length) (by simp at hi; omega))
      omega
    · intro h; omega
theorem w64' {x : Int} (h1 : -9223372036854775808 ≤ x) (h2 : x ≤ 9223372036854775807) : wrap64 x = x := by unfold wrap64; omega
theorem mid_eq (i j : Int) (h0 : 0 ≤ i) (h1 : i < j) (h2 : j < 4398046511104) : wrap64 ((IntKind.u64.wrap (wrap64 (i + j))) / 2) = (i + j) / 2 := by
  rw [w64' (x := i + j) (by omega) (by omega)]
  have : IntKind.u64.wrap (i + j) = i + j := by simp [IntKind.wrap, IntKind.bits, IntKind.signed]; omega
  rw [this, w64' (by omega) (by omega)]
theorem search_l0 (p t : List S37) (n : Int) (hl : (p ++ t).length < 4398046511104) (hp : ∀ r, r ∈ p → r.f1 < n) (ht : ∀ r, r ∈ t → n ≤ r.f1) : ∀ (d : Nat) (i j : Int), (j - i).toNat ≤ d → 0 ≤ i → i ≤ (p.length : Int) → (p.length : Int) ≤ j → j ≤ ((p ++ t).length : Int) →
    ∃ b, Ev (fun k => At.api_Run_int.l0 k (p ++ t) n ((p ++ t).length : Int) i j) ((p.length : Int), b)
  | d, i, j, hd, h0, h1, h2, h3 => by
    by_cases c : i < j
    · have hm := mid_eq i j h0 c (by omega)
      have hs := side_of hp ht ((i + j) / 2) (by omega) (by omega)
      cases d with
      | zero => omega
      | succ d =>
        by_cases c2 : (rd_T37 (p ++ t) ((i + j) / 2)).f1 < n
        · have := hs.1 c2
          obtain ⟨b, hb⟩ := search_l0 p t n hl hp ht d ((i + j) / 2 + 1) j (by omega) (by omega) (by omega) h2 h3
          refine ⟨b, Ev.step (fun k => ?_) hb⟩
          rw [At.api_Run_int.l0, if_pos c, hm, if_pos (by omega), if_pos (by omega), at1_f, Option.bind_some, if_pos c2, if_pos (by omega), w64' (by omega) (by omega)]
        · have : ¬ (i + j) / 2 < (p.length : Int) := fun h => c2 (hs.2 h)
          obtain ⟨b, hb⟩ := search_l0 p t n hl hp ht d i ((i + j) / 2) (by omega) h0 (by omega) (by omega) (by omega)
          refine ⟨b, Ev.step (fun k => ?_) hb⟩
          rw [At.api_Run_int.l0, if_pos c, hm, if_pos (by omega), if_pos (by omega), at1_f, Option.bind_some, if_neg c2, if_neg (by split <;> omega)]
    · obtain rfl : i = (p.length : Int) := by omega
      by_cases c3 : (p.length : Int) < ((p ++ t).length : Int)
      · refine ⟨(if (rd_T37 (p ++ t) (p.length : Int)).f1 < n then (-1 : Int) else if (rd_T37 (p ++ t) (p.length : Int)).f1 > n then 1 else 0) == 0, Ev.step (f := fun _ => some ((p.length : Int), (if (rd_T37 (p ++ t) (p.length : Int)).f1 < n then (-1 : Int) else if (rd_T37 (p ++ t) (p.length : Int)).f1 > n then 1 else 0) == 0)) (fun k => ?_) (Ev.now _)⟩
        rw [At.api_Run_int.l0, if_neg c, if_pos c3, if_pos h0, if_pos c3, at1_f, Option.bind_some]
      · refine ⟨false, Ev.step (f := fun _ => some ((p.length : Int), false)) (fun k => ?_) (Ev.now _)⟩
        rw [At.api_Run_int.l0, if_neg c, if_neg c3]
theorem at_ev {l : List S37} {n r : Int} (h : runs_at.f l n = some r) : Ev (fun k => At.runs_at.f k l n) r := by
  unfold runs_at.f at h
  by_cases c : risingHi l = true ∧ l.length < 4398046511104
  · rw [if_pos c] at h
    obtain rfl := Option.some.inj h
    obtain ⟨p, t, e1, e2, e3, e4⟩ := rising_parted c.1 n
    rw [← e2]
    have hl := c.2
    rw [e1] at hl ⊢
    obtain ⟨b, hb⟩ := search_l0 p t n hl e3 e4 (p ++ t).length 0 ((p ++ t).length : Int) (by omega) (Int.le_refl _) (by omega) (by simp; omega) (Int.le_refl _)
    exact Ev.bind (g := fun k => At.api_Run_int.f k (p ++ t) n) (a := ((p.length : Int), b)) hb (Ev.now _)
  · rw [if_neg c] at h; simp at h
theorem runs_at.calls (A0 : Option Addr) (c0 : Nat) (l0 : List S37) (a1 : Int) (r : Int) (w : World) (hr0 : Kd.C k37 w A0 l0.length l0) (hc0 : l0.length ≤ c0) (h : runs_at.f l0 a1 = some r) :
    Calls Tryd.prog 41 #[.slice A0 l0.length c0, .int .i64 a1] w fun e w' => e = .returned (.int .i64 r) ∧ Below w.heap.size w w' := by
  obtain ⟨k, hk⟩ := (at_ev h).rounds
  exact At.runs_at.calls k A0 c0 l0 a1 r w hr0 hc0 hk
theorem runs_Make.calls (A0 : Option Addr) (c0 : Nat) (l0 : List S37) (r : List S37) (w : World) (hr0 : Kd.C k37 w A0 l0.length l0) (hc0 : l0.length ≤ c0) (h : runs_Make.f l0 = some r) :
    Calls Tryd.prog 42 #[.slice A0 l0.length c0] w fun e w' => ∃ v0_ : Value, e = .returned (v0_) ∧ Kd.R k37 37 w' w.heap.size (fun _ => True) v0_ r ∧ Below w.heap.size w w' := by
  exact absurd h (by simp [runs_Make.f])
end Go.Proofs.YtfehdlkklfcnpaaDoor.A
namespace Go.Proofs.YtfehdlkklfcnpaaDoor.A
open Go.RowKit Go.Proofs.YtfehdlkklfcnpaaDoorW.PrintWords Go.Proofs.YtfehdlkklfcnpaaDoorW.PrintLast Go.Proofs.YtfehdlkklfcnpaaDoorW.PrintMore
attribute [local go_sem] max2_int min2_int max_two min_two max_three min_three max_four min_four
attribute [local go_sem] isSome_setCell
set_option maxHeartbeats 8000000 in
set_option maxRecDepth 100000 in
theorem runs_Sane.calls (k : Nat) (A0 : Option Addr) (c0 : Nat) (l0 : List (S37)) (r : Bool) (w : World) (hr0 : Kd.C k37 w A0 l0.length l0) (hc0 : l0.length ≤ c0) (h : runs_Sane.f k l0 = some r) :
  Calls Tryd.prog 22 #[.slice A0 l0.length c0] w fun e w' => e = .returned (.bool r) ∧ Below w.heap.size w w' := by
 have hu37 := Tryd.underlying37; have HR0 := Aside0.mk hr0; have HC0 := Aside0.mk hc0; clear hr0 hc0; have HB := Aside0.mk (Below.refl w.heap.size w); have H : (runs_Sane.l0 k (-1099511627778) l0 (l0.length : Int) 0) = some r := h; clear h; have H' := Aside0.mk H; clear H; go_enter Tryd.func22, Tryd.ntmps22; go_wp2; go_loopg [3, 8] k (fun kq v3 v8 w' => ∃ (x3_1 : Int) (x8_1 : Int), v3 = .int .i64 x3_1 ∧ v8 = .int .i64 x8_1 ∧ Aside0 (runs_Sane.l0 kq x3_1 l0 (l0.length : Int) x8_1 = some r) ∧ Aside0 (kq ≤ k) ∧ Aside0 (Below w.heap.size w w'))
 case atStart => exact ⟨((-1099511627778)), (0), rf_, rf_, H', ⟨Nat.le_refl _⟩, ⟨hb_⟩⟩
 case round =>
  clear H'; obtain ⟨x3_1, x8_1, rfl, rfl, HA, HK1, HB⟩ := hrel
  cases gk with
  | zero => exact absurd HA.out (by simp [runs_Sane.l0])
  | succ k1 =>
   have H := HA.out; clear HA; simp only [runs_Sane.l0] at H
   by_cases c2 : x8_1 < (l0.length : Int)
   ·rw [if_pos c2] at H
    have c2b0 : decide (x8_1 < (l0.length : Int)) = true := decide_eq_true c2; clear c2
    by_cases c3 : 0 ≤ x8_1
    ·rw [if_pos c3] at H
     have c3b0 : decide (0 ≤ x8_1) = true := decide_eq_true c3; clear c3
     by_cases c4 : x8_1 < (l0.length : Int)
     ·rw [if_pos c4] at H
      have c4b0 : decide (x8_1 < (l0.length : Int)) = true := decide_eq_true c4; clear c4
      by_cases c5 : ((rd_T37 l0 x8_1).f0) > ((rd_T37 l0 x8_1).f1)
      ·rw [if_pos c5] at H
       have c5b0 : decide (((rd_T37 l0 x8_1).f1) < ((rd_T37 l0 x8_1).f0)) = true := decide_eq_true c5; clear c5; obtain rfl := Option.some.inj H; have p101 : 0 ≤ (x8_1 : Int) := od_; have q101 : x8_1 < (l0.length : Int) := od_; obtain ⟨ad101, e101, hx101_0, hx101_1⟩ := at_T37 HR0.out x8_1 p101 q101
       cases e101
       replace hx101_0 := (HB.out.cell (World.block_lt_of_cell? w _ hx101_0)).trans hx101_0; replace hx101_1 := (HB.out.cell (World.block_lt_of_cell? w _ hx101_1)).trans hx101_1; replace p101 := eq_true p101; replace q101 := eq_true q101; go_wp2_with (first | ((with_reducible refine gate_dst (N := 5) rfl ?_); refine box_event ?hg (N := 5) ?hd (cs := #[.int .i64 0, .int .i64 0]) (t := 37) ?hr ?_; (case hd => rfl); (case hg => rfl); (case hr => first | (go_simp; done) | (go_simp; rfl)); intro gb102 hg w6 hbox hb; have n0_ := Aside0.mk (below_step hb_ hb); have n1_ := Aside0.mk (hbox); have n2_ := Aside0.mk ((by rw [hg]; exact (below_size hb_) : w.heap.size ≤ gb102)); have n3_ := Aside0.mk ((by rw [hg]; exact (below_size hb_) : w.heap.size ≤ gb102)); clear HB; have HB := n0_; have BK102 := n1_; have GW102 := n2_; have GE102 := n3_; clear n0_ n1_ n2_ n3_; clear hb hbox hg; have hcz7_0 : w6.cell? ⟨gb102, 0, none⟩ = some (.int .i64 0) := (blk_cell BK102.out 0).trans rfl; have hcz7_1 : w6.cell? ⟨gb102, 1, none⟩ = some (.int .i64 0) := (blk_cell BK102.out 1).trans rfl; have hfz7_0 := blk_frozen BK102.out 0; have hfz7_1 := blk_frozen BK102.out 1)); go_ret; exact ⟨re_, by repeat (first | (with_reducible first | exact HB.out | apply below_alloc | apply pw_below_drewN | apply below_drew1 | refine below_set ?_ GE102.out) | exact HB.out)⟩
      ·rw [if_neg c5] at H
       have c5b0 : decide (((rd_T37 l0 x8_1).f1) < ((rd_T37 l0 x8_1).f0)) = false := decide_eq_false c5; clear c5
       by_cases c8 : ((rd_T37 l0 x8_1).f0) < (wrap64 (x3_1 + 2))
       ·rw [if_pos c8] at H
        have c8b0 : decide (((rd_T37 l0 x8_1).f0) < (wrap64 (x3_1 + 2))) = true := decide_eq_true c8; clear c8; obtain rfl := Option.some.inj H; have p101 : 0 ≤ (x8_1 : Int) := od_; have q101 : x8_1 < (l0.length : Int) := od_; obtain ⟨ad101, e101, hx101_0, hx101_1⟩ := at_T37 HR0.out x8_1 p101 q101
        cases e101
        replace hx101_0 := (HB.out.cell (World.block_lt_of_cell? w _ hx101_0)).trans hx101_0; replace hx101_1 := (HB.out.cell (World.block_lt_of_cell? w _ hx101_1)).trans hx101_1; replace p101 := eq_true p101; replace q101 := eq_true q101; go_wp2_with (first | ((with_reducible refine gate_dst (N := 5) rfl ?_); refine box_event ?hg (N := 5) ?hd (cs := #[.int .i64 0, .int .i64 0]) (t := 37) ?hr ?_; (case hd => rfl); (case hg => rfl); (case hr => first | (go_simp; done) | (go_simp; rfl)); intro gb102 hg w9 hbox hb; have n0_ := Aside0.mk (below_step hb_ hb); have n1_ := Aside0.mk (hbox); have n2_ := Aside0.mk ((by rw [hg]; exact (below_size hb_) : w.heap.size ≤ gb102)); have n3_ := Aside0.mk ((by rw [hg]; exact (below_size hb_) : w.heap.size ≤ gb102)); clear HB; have HB := n0_; have BK102 := n1_; have GW102 := n2_; have GE102 := n3_; clear n0_ n1_ n2_ n3_; clear hb hbox hg; have hcz10_0 : w9.cell? ⟨gb102, 0, none⟩ = some (.int .i64 0) := (blk_cell BK102.out 0).trans rfl; have hcz10_1 : w9.cell? ⟨gb102, 1, none⟩ = some (.int .i64 0) := (blk_cell BK102.out 1).trans rfl; have hfz10_0 := blk_frozen BK102.out 0; have hfz10_1 := blk_frozen BK102.out 1)); go_ret; exact ⟨re_, by repeat (first | (with_reducible first | exact HB.out | apply below_alloc | apply pw_below_drewN | apply below_drew1 | refine below_set ?_ GE102.out) | exact HB.out)⟩
       ·rw [if_neg c8] at H
        have c8b0 : decide (((rd_T37 l0 x8_1).f0) < (wrap64 (x3_1 + 2))) = false := decide_eq_false c8; clear c8
        by_cases c11 : ((rd_T37 l0 x8_1).f1) > 1099511627776
        ·rw [if_pos c11] at H
         have c11b0 : decide (1099511627776 < ((rd_T37 l0 x8_1).f1)) = true := decide_eq_true c11; clear c11; obtain rfl := Option.some.inj H; have p101 : 0 ≤ (x8_1 : Int) := od_; have q101 : x8_1 < (l0.length : Int) := od_; obtain ⟨ad101, e101, hx101_0, hx101_1⟩ := at_T37 HR0.out x8_1 p101 q101
         cases e101
         replace hx101_0 := (HB.out.cell (World.block_lt_of_cell? w _ hx101_0)).trans hx101_0; replace hx101_1 := (HB.out.cell (World.block_lt_of_cell? w _ hx101_1)).trans hx101_1; replace p101 := eq_true p101; replace q101 := eq_true q101; go_wp2_with (first | ((with_reducible refine gate_dst (N := 5) rfl ?_); refine box_event ?hg (N := 5) ?hd (cs := #[.int .i64 0, .int .i64 0]) (t := 37) ?hr ?_; (case hd => rfl); (case hg => rfl); (case hr => first | (go_simp; done) | (go_simp; rfl)); intro gb102 hg w12 hbox hb; have n0_ := Aside0.mk (below_step hb_ hb); have n1_ := Aside0.mk (hbox); have n2_ := Aside0.mk ((by rw [hg]; exact (below_size hb_) : w.heap.size ≤ gb102)); have n3_ := Aside0.mk ((by rw [hg]; exact (below_size hb_) : w.heap.size ≤ gb102)); clear HB; have HB := n0_; have BK102 := n1_; have GW102 := n2_; have GE102 := n3_; clear n0_ n1_ n2_ n3_; clear hb hbox hg; have hcz13_0 : w12.cell? ⟨gb102, 0, none⟩ = some (.int .i64 0) := (blk_cell BK102.out 0).trans rfl; have hcz13_1 : w12.cell? ⟨gb102, 1, none⟩ = some (.int .i64 0) := (blk_cell BK102.out 1).trans rfl; have hfz13_0 := blk_frozen BK102.out 0; have hfz13_1 := blk_frozen BK102.out 1)); go_ret; exact ⟨re_, by repeat (first | (with_reducible first | exact HB.out | apply below_alloc | apply pw_below_drewN | apply below_drew1 | refine below_set ?_ GE102.out) | exact HB.out)⟩
        ·rw [if_neg c11] at H
         have c11b0 : decide (1099511627776 < ((rd_T37 l0 x8_1).f1)) = false := decide_eq_false c11; clear c11; have H' := Aside0.mk H; clear H; have p101 : 0 ≤ (x8_1 : Int) := od_; have q101 : x8_1 < (l0.length : Int) := od_; obtain ⟨ad101, e101, hx101_0, hx101_1⟩ := at_T37 HR0.out x8_1 p101 q101
         cases e101
         replace hx101_0 := (HB.out.cell (World.block_lt_of_cell? w _ hx101_0)).trans hx101_0; replace hx101_1 := (HB.out.cell (World.block_lt_of_cell? w _ hx101_1)).trans hx101_1; replace p101 := eq_true p101; replace q101 := eq_true q101; go_wp2_with (first | ((with_reducible refine gate_dst (N := 5) rfl ?_); refine box_event ?hg (N := 5) ?hd (cs := #[.int .i64 0, .int .i64 0]) (t := 37) ?hr ?_; (case hd => rfl); (case hg => rfl); (case hr => first | (go_simp; done) | (go_simp; rfl)); intro gb102 hg w14 hbox hb; have n0_ := Aside0.mk (below_step hb_ hb); have n1_ := Aside0.mk (hbox); have n2_ := Aside0.mk ((by rw [hg]; exact (below_size hb_) : w.heap.size ≤ gb102)); have n3_ := Aside0.mk ((by rw [hg]; exact (below_size hb_) : w.heap.size ≤ gb102)); clear HB; have HB := n0_; have BK102 := n1_; have GW102 := n2_; have GE102 := n3_; clear n0_ n1_ n2_ n3_; clear hb hbox hg; have hcz15_0 : w14.cell? ⟨gb102, 0, none⟩ = some (.int .i64 0) := (blk_cell BK102.out 0).trans rfl; have hcz15_1 : w14.cell? ⟨gb102, 1, none⟩ = some (.int .i64 0) := (blk_cell BK102.out 1).trans rfl; have hfz15_0 := blk_frozen BK102.out 0; have hfz15_1 := blk_frozen BK102.out 1)); go_roundg k1
         case measure => have := HK1.out; omega
         case rel => exact ⟨((rd_T37 l0 x8_1).f1), (wrap64 (x8_1 + 1)), rf_, rf_, H', ⟨by have := HK1.out; omega⟩, ⟨by repeat (first | (with_reducible first | exact HB.out | apply below_alloc | apply pw_below_drewN | apply below_drew1 | refine below_set ?_ GE102.out) | exact HB.out)⟩⟩
     ·rw [if_neg c4] at H
      exact absurd H (by simp)
    ·rw [if_neg c3] at H
     exact absurd H (by simp)
   ·rw [if_neg c2] at H
    have c2b0 : decide (x8_1 < (l0.length : Int)) = false := decide_eq_false c2; clear c2; obtain rfl := Option.some.inj H; go_wp2; go_ret; exact ⟨re_, hb_⟩
set_option maxHeartbeats 8000000 in
set_option maxRecDepth 100000 in
theorem runs_known.calls (k : Nat) (P0_ : Nat → Prop) (A0 : Option Addr) (c0 : Nat) (l0 : List (S37)) (r : List (S37)) (w : World) (hs0 : Kd.V k37 37 w w.heap.size (fun k_ => P0_ k_) (.slice A0 l0.length c0) l0) (h : runs_known.f k l0 = some r) :
  Calls Tryd.prog 30 #[.slice A0 l0.length c0] w fun e w' => ∃ v0_ : Value, e = .returned (v0_) ∧ Kd.V k37 37 w' w.heap.size (fun k_ => (P0_ k_ ∨ w.heap.size ≤ k_)) v0_ r ∧ Below w.heap.size w w' := by
 have HO0 := Aside0.mk (show Kd.V k37 37 w w.heap.size (fun k_ => (P0_ k_ ∨ w.heap.size ≤ k_)) (.slice A0 l0.length c0) l0 from Kd.V_mono hs0 (fun k_ hk => .inl hk)); have HB := Aside0.mk (Below.refl w.heap.size w); have H : ((runs_Sane.f k l0).bind fun t103 => (if t103 = true then (some l0) else ((runs_Make.f l0).bind fun t104 => (some t104)))) = some r := h; clear h; replace H := Option.bind_eq_some_iff.mp H; obtain ⟨t103, A20, H⟩ := H; replace H : (if t103 = true then (some l0) else ((runs_Make.f l0).bind fun t104 => (some t104))) = some r := H; have A2 := Aside0.mk A20; clear A20
 by_cases c3 : t103 = true
 ·subst c3
  (have H1 : (some l0) = some r := by rw [if_pos rfl] at H; exact H); clear H; have H := H1; clear H1; obtain rfl := Option.some.inj H; go_enter Tryd.func30, Tryd.ntmps30; go_wp2_with (first | ((with_reducible refine gate_callee (f := 22) rfl ?_); refine goesL_ (some 4) rfl rfl Tryd.func22 (by kernel_rfl) rfl #[.slice A0 l0.length c0] rfl ml_ ?_; (with_reducible refine (runs_Sane.calls k _ _ l0 true _ ?side1 ?side2 A2.out).mono ?_); (case side1 => repeat (first | exact (Kd.V_reads' HO0.out).2.2 | (with_reducible refine Kd.C_alloc ?_ _) | (with_reducible refine Kd.C_drewN ?_ _) | (with_reducible refine Kd.C_drew ?_))); (case side2 => exact (Kd.V_reads' HO0.out).2.1); rintro e w4 ⟨rfl, hb⟩; refine ⟨_, rfl, ?_⟩; have n0_ := Aside0.mk (Kd.V_below (by (with_reducible repeat (first | apply Kd.V_alloc | apply Kd.V_drewN | apply Kd.V_drew)); exact HO0.out) hb); have n1_ := Aside0.mk (below_step hb_ hb); clear HO0; clear HB; have HO0 := n0_; have HB := n1_; clear n0_ n1_; (try clear hb); (try clear hb2); (try clear hk); (try clear hi))); go_ret; exact ⟨_, by first | rfl | (simp [errW_none, errW_some] <;> rfl) | (simp [*, errW_none, errW_some] <;> rfl), by (with_reducible repeat (first | apply Kd.V_alloc | apply Kd.V_drewN | apply Kd.V_drew)); exact HO0.out, hb_⟩
 ·replace c3 := Bool.eq_false_iff.mpr c3
  subst c3; (have H1 : ((runs_Make.f l0).bind fun t104 => (some t104)) = some r := by rw [if_neg (show ¬ (false = true) by decide)] at H; exact H); clear H; have H := H1; clear H1; replace H := Option.bind_eq_some_iff.mp H; obtain ⟨t104, A50, H⟩ := H; replace H : (some t104) = some r := H; have A5 := Aside0.mk A50; clear A50; obtain rfl := Option.some.inj H; go_enter Tryd.func30, Tryd.ntmps30; go_wp2_with (first | ((with_reducible refine gate_callee (f := 22) rfl ?_); refine goesL_ (some 4) rfl rfl Tryd.func22 (by kernel_rfl) rfl #[.slice A0 l0.length c0] rfl ml_ ?_; (with_reducible refine (runs_Sane.calls k _ _ l0 false _ ?side1 ?side2 A2.out).mono ?_); (case side1 => repeat (first | exact (Kd.V_reads' HO0.out).2.2 | (with_reducible refine Kd.C_alloc ?_ _) | (with_reducible refine Kd.C_drewN ?_ _) | (with_reducible refine Kd.C_drew ?_))); (case side2 => exact (Kd.V_reads' HO0.out).2.1); rintro e w6 ⟨rfl, hb⟩; refine ⟨_, rfl, ?_⟩; have n0_ := Aside0.mk (Kd.V_below (by (with_reducible repeat (first | apply Kd.V_alloc | apply Kd.V_drewN | apply Kd.V_drew)); exact HO0.out) hb); have n1_ := Aside0.mk (below_step hb_ hb); clear HO0; clear HB; have HO0 := n0_; have HB := n1_; clear n0_ n1_; (try clear hb); (try clear hb2); (try clear hk); (try clear hi)) | ((with_reducible refine gate_callee (f := 42) rfl ?_); refine goesL_ (some 7) rfl rfl Tryd.func42 (by kernel_rfl) rfl #[.slice A0 l0.length c0] rfl ml_ ?_; (with_reducible refine (runs_Make.calls _ _ l0 t104 _ ?side1 ?side2 A5.out).mono ?_); (case side1 => repeat (first | exact (Kd.V_reads' HO0.out).2.2 | (with_reducible refine Kd.C_alloc ?_ _) | (with_reducible refine Kd.C_drewN ?_ _) | (with_reducible refine Kd.C_drew ?_))); (case side2 => exact (Kd.V_reads' HO0.out).2.1); rintro e w7 ⟨v105, rfl, ho0, hb⟩; refine ⟨_, rfl, ?_⟩; have n0_ := Aside0.mk (Kd.V_elder' (by (with_reducible repeat (first | apply Kd.V_alloc | apply Kd.V_drewN | apply Kd.V_drew)); exact HO0.out) (Kd.R_base ho0) hb); have n1_ := Aside0.mk (Kd.R_lower (Kd.R_newM (M := fun k_ => (w.heap.size ≤ k_)) ho0 (below_size hb_) (fun k_ h_ => h_)) (below_size hb_)); have n2_ := Aside0.mk (below_step hb_ hb); clear HO0; clear HB; have HO0 := n0_; have HO106 := n1_; have HB := n2_; clear n0_ n1_ n2_; (try clear hb); (try clear hb2); (try clear hk); (try clear hi); (try clear ho0))); go_ret; exact ⟨_, by first | rfl | (simp [errW_none, errW_some] <;> rfl) | (simp [*, errW_none, errW_some] <;> rfl), Kd.V_mono (Kd.R_V (by (with_reducible repeat (first | apply Kd.R_alloc | apply Kd.R_drewN | apply Kd.R_drew)); exact Kd.R_mono HO106.out (fun _ hk => hk.1))) (fun k_ hk => by first | exact ⟨(.inr (hk.1)), hk.2⟩ | exact (.inr (hk))), hb_⟩
set_option maxHeartbeats 8000000 in
set_option maxRecDepth 100000 in
theorem runs_Next.calls (k : Nat) (A0 : Option Addr) (c0 : Nat) (l0 : List (S37)) (a1 : Int) (r1 : Int) (r2 : Bool) (w : World) (hr0 : Kd.C k37 w A0 l0.length l0) (hc0 : l0.length ≤ c0) (h : runs_Next.f k l0 a1 = some (r1, r2)) :
  Calls Tryd.prog 29 #[.slice A0 l0.length c0, .int .i64 a1] w fun e w' => e = .returned (.tuple #[.int .i64 r1, .bool r2]) ∧ Below w.heap.size w w' := by
 have HR0 := Aside0.mk hr0; have HC0 := Aside0.mk hc0; clear hr0 hc0; have HB := Aside0.mk (Below.refl w.heap.size w); have H : ((runs_known.f k l0).bind fun t107 => ((runs_at.f t107 a1).bind fun t110 => (if t110 = (t107.length : Int) then (some (0, false)) else (if 0 ≤ t110 then (if t110 < (t107.length : Int) then (some (mx a1 ((rd_T37 t107 t110).f0), true)) else (none)) else (none))))) = some (r1, r2) := h; clear h; replace H := Option.bind_eq_some_iff.mp H; obtain ⟨t107, A30, H⟩ := H; replace H : ((runs_at.f t107 a1).bind fun t110 => (if t110 = (t107.length : Int) then (some (0, false)) else (if 0 ≤ t110 then (if t110 < (t107.length : Int) then (some (mx a1 ((rd_T37 t107 t110).f0), true)) else (none)) else (none)))) = some (r1, r2) := H; have A3 := Aside0.mk A30; clear A30; replace H := Option.bind_eq_some_iff.mp H; obtain ⟨t110, A40, H⟩ := H; replace H : (if t110 = (t107.length : Int) then (some (0, false)) else (if 0 ≤ t110 then (if t110 < (t107.length : Int) then (some (mx a1 ((rd_T37 t107 t110).f0), true)) else (none)) else (none))) = some (r1, r2) := H; have A4 := Aside0.mk A40; clear A40
 by_cases c5 : t110 = (t107.length : Int)
 ·rw [if_pos c5] at H
  have c5b0 : (t110 == (t107.length : Int)) = true := beq_iff_eq.mpr c5; have c5b1 : (t110 != (t107.length : Int)) = false := bne_eq_false_iff_eq.mpr c5; clear c5; simp only [Option.some.injEq, Prod.mk.injEq] at H; obtain ⟨rfl, rfl⟩ := H; go_enter Tryd.func29, Tryd.ntmps29; go_wp2_with (first | ((with_reducible refine gate_callee (f := 30) rfl ?_); refine goesL_ (some 8) rfl rfl Tryd.func30 (by kernel_rfl) rfl #[.slice A0 l0.length c0] rfl ml_ ?_; (with_reducible refine (runs_known.calls k (fun k_ => k_ < w.heap.size) _ _ l0 t107 _ ?side1 A3.out).mono ?_); (case side1 => exact Kd.V_mk HC0.out (Kd.F_below (Kd.C_F k37_heap HR0.out) hb_)); rintro e w6 ⟨v108, rfl, ho0, hb⟩; refine ⟨_, rfl, ?_⟩; have n0_ := Aside0.mk (Kd.V_lower (Kd.V_mono (ok' := fun k_ => True) ho0 (fun k_ hk_ => trivial)) (below_size hb_)); have n1_ := Aside0.mk (below_step hb_ hb); clear HB; have HO109 := n0_; have HB := n1_; clear n0_ n1_; (try clear hb); (try clear hb2); (try clear hk); (try clear hi); (try clear ho0); obtain ⟨Ao7, co7, eo7⟩ := Kd.V_slice HO109.out; subst eo7) | ((with_reducible refine gate_callee (f := 41) rfl ?_); refine goesL_ (some 11) rfl rfl Tryd.func41 (by kernel_rfl) rfl #[.slice Ao7 t107.length co7, .int .i64 a1] rfl ml_ ?_; (with_reducible refine (runs_at.calls _ _ t107 a1 t110 _ ?side1 ?side2 A4.out).mono ?_); (case side1 => repeat (first | exact (Kd.V_reads' HO109.out).2.2 | (with_reducible refine Kd.C_alloc ?_ _) | (with_reducible refine Kd.C_drewN ?_ _) | (with_reducible refine Kd.C_drew ?_))); (case side2 => exact (Kd.V_reads' HO109.out).2.1); rintro e w8 ⟨rfl, hb⟩; refine ⟨_, rfl, ?_⟩; have n0_ := Aside0.mk (Kd.V_below (by (with_reducible repeat (first | apply Kd.V_alloc | apply Kd.V_drewN | apply Kd.V_drew)); exact HO109.out) hb); have n1_ := Aside0.mk (below_step hb_ hb); clear HO109; clear HB; have HO109 := n0_; have HB := n1_; clear n0_ n1_; (try clear hb); (try clear hb2); (try clear hk); (try clear hi))); go_ret2; exact ⟨re_, hb_⟩
 ·rw [if_neg c5] at H
  have c5b0 : (t110 == (t107.length : Int)) = false := beq_eq_false_iff_ne.mpr c5; have c5b1 : (t110 != (t107.length : Int)) = true := bne_iff_ne.mpr c5
  by_cases c9 : 0 ≤ t110
  ·rw [if_pos c9] at H
   have c9b0 : decide (0 ≤ t110) = true := decide_eq_true c9; clear c9
   by_cases c10 : t110 < (t107.length : Int)
   ·rw [if_pos c10] at H
    have c10b0 : decide (t110 < (t107.length : Int)) = true := decide_eq_true c10; clear c10; obtain ⟨ji11, hji11⟩ : ∃ j_ : Int, (mx a1 ((rd_T37 t107 t110).f0)) = j_ := ⟨_, rfl⟩; (replace H : (some (ji11, true)) = some (r1, r2) := by first | (rw [hji11] at H; exact H) | (simp only [hji11] at H ⊢; exact H)); (try rw [hji11] at A3); (try rw [hji11] at A4); have hji11_ : (if a1 < ((rd_T37 t107 t110).f0) then ((rd_T37 t107 t110).f0) else a1) = ji11 := hji11; simp only [Option.some.injEq, Prod.mk.injEq] at H; obtain ⟨rfl, rfl⟩ := H; go_enter Tryd.func29, Tryd.ntmps29; go_wp2_with (first | ((with_reducible refine gate_callee (f := 30) rfl ?_); refine goesL_ (some 8) rfl rfl Tryd.func30 (by kernel_rfl) rfl #[.slice A0 l0.length c0] rfl ml_ ?_; (with_reducible refine (runs_known.calls k (fun k_ => k_ < w.heap.size) _ _ l0 t107 _ ?side1 A3.out).mono ?_); (case side1 => exact Kd.V_mk HC0.out (Kd.F_below (Kd.C_F k37_heap HR0.out) hb_)); rintro e w12 ⟨v108, rfl, ho0, hb⟩; refine ⟨_, rfl, ?_⟩; have n0_ := Aside0.mk (Kd.V_lower (Kd.V_mono (ok' := fun k_ => True) ho0 (fun k_ hk_ => trivial)) (below_size hb_)); have n1_ := Aside0.mk (below_step hb_ hb); clear HB; have HO109 := n0_; have HB := n1_; clear n0_ n1_; (try clear hb); (try clear hb2); (try clear hk); (try clear hi); (try clear ho0); obtain ⟨Ao13, co13, eo13⟩ := Kd.V_slice HO109.out; subst eo13) | ((with_reducible refine gate_callee (f := 41) rfl ?_); refine goesL_ (some 11) rfl rfl Tryd.func41 (by kernel_rfl) rfl #[.slice Ao13 t107.length co13, .int .i64 a1] rfl ml_ ?_; (with_reducible refine (runs_at.calls _ _ t107 a1 t110 _ ?side1 ?side2 A4.out).mono ?_); (case side1 => repeat (first | exact (Kd.V_reads' HO109.out).2.2 | (with_reducible refine Kd.C_alloc ?_ _) | (with_reducible refine Kd.C_drewN ?_ _) | (with_reducible refine Kd.C_drew ?_))); (case side2 => exact (Kd.V_reads' HO109.out).2.1); rintro e w14 ⟨rfl, hb⟩; refine ⟨_, rfl, ?_⟩; have n0_ := Aside0.mk (Kd.V_below (by (with_reducible repeat (first | apply Kd.V_alloc | apply Kd.V_drewN | apply Kd.V_drew)); exact HO109.out) hb); have n1_ := Aside0.mk (below_step hb_ hb); clear HO109; clear HB; have HO109 := n0_; have HB := n1_; clear n0_ n1_; (try clear hb); (try clear hb2); (try clear hk); (try clear hi); have p111 : 0 ≤ (t110 : Int) := od_; have q111 : t110 < (t107.length : Int) := od_; obtain ⟨ad111, e111, hx111_0, hx111_1⟩ := at_T37 (Kd.V_reads' HO109.out).2.2 t110 p111 q111; cases e111; replace p111 := eq_true p111; replace q111 := eq_true q111)); go_ret2; exact ⟨by first | rfl | (simp [errW_none, errW_some] <;> rfl) | (simp only [← hji11]; first | rfl | (simp [errW_none, errW_some] <;> rfl)) | (simp [*, errW_none, errW_some] <;> rfl), hb_⟩
   ·rw [if_neg c10] at H
    exact absurd H (by simp)
  ·rw [if_neg c9] at H
   exact absurd H (by simp)
set_option maxHeartbeats 8000000 in
set_option maxRecDepth 100000 in
theorem runs_Has.calls (k : Nat) (A0 : Option Addr) (c0 : Nat) (l0 : List (S37)) (a1 : Int) (r : Bool) (w : World) (hr0 : Kd.C k37 w A0 l0.length l0) (hc0 : l0.length ≤ c0) (h : runs_Has.f k l0 a1 = some r) :
  Calls Tryd.prog 23 #[.slice A0 l0.length c0, .int .i64 a1] w fun e w' => e = .returned (.bool r) ∧ Below w.heap.size w w' := by
 have HR0 := Aside0.mk hr0; have HC0 := Aside0.mk hc0; clear hr0 hc0; have HB := Aside0.mk (Below.refl w.heap.size w); have H : ((runs_Next.f k l0 a1).bind fun bt112 => (if bt112.2 = true then (some (bt112.1 == a1)) else (some false))) = some r := h; clear h; replace H := Option.bind_eq_some_iff.mp H; obtain ⟨⟨t112, t113⟩, A30, H⟩ := H; replace H : (if t113 = true then (some (t112 == a1)) else (some false)) = some r := H; have A3 := Aside0.mk A30; clear A30
 by_cases c4 : t113 = true
 ·subst c4
  (have H1 : (some (t112 == a1)) = some r := by rw [if_pos rfl] at H; exact H); clear H; have H := H1; clear H1; obtain rfl := Option.some.inj H; go_enter Tryd.func23, Tryd.ntmps23; go_wp2_with (first | ((with_reducible refine gate_callee (f := 29) rfl ?_); refine goesL_ (some 10) rfl rfl Tryd.func29 (by kernel_rfl) rfl #[.slice A0 l0.length c0, .int .i64 a1] rfl ml_ ?_; (with_reducible refine (runs_Next.calls k _ _ l0 a1 t112 true _ ?side1 ?side2 A3.out).mono ?_); (case side1 => repeat (first | exact HR0.out | (with_reducible refine Kd.C_alloc ?_ _) | (with_reducible refine Kd.C_drewN ?_ _) | (with_reducible refine Kd.C_drew ?_))); (case side2 => exact HC0.out); rintro e w5 ⟨rfl, hb⟩; refine ⟨_, rfl, ?_⟩; have n0_ := Aside0.mk (below_step hb_ hb); clear HB; have HB := n0_; clear n0_; (try clear hb); (try clear hb2); (try clear hk); (try clear hi))); go_ret; exact ⟨re_, hb_⟩
 ·replace c4 := Bool.eq_false_iff.mpr c4
  subst c4; (have H1 : (some false) = some r := by rw [if_neg (show ¬ (false = true) by decide)] at H; exact H); clear H; have H := H1; clear H1; obtain rfl := Option.some.inj H; go_enter Tryd.func23, Tryd.ntmps23; go_wp2_with (first | ((with_reducible refine gate_callee (f := 29) rfl ?_); refine goesL_ (some 10) rfl rfl Tryd.func29 (by kernel_rfl) rfl #[.slice A0 l0.length c0, .int .i64 a1] rfl ml_ ?_; (with_reducible refine (runs_Next.calls k _ _ l0 a1 t112 false _ ?side1 ?side2 A3.out).mono ?_); (case side1 => repeat (first | exact HR0.out | (with_reducible refine Kd.C_alloc ?_ _) | (with_reducible refine Kd.C_drewN ?_ _) | (with_reducible refine Kd.C_drew ?_))); (case side2 => exact HC0.out); rintro e w6 ⟨rfl, hb⟩; refine ⟨_, rfl, ?_⟩; have n0_ := Aside0.mk (below_step hb_ hb); clear HB; have HB := n0_; clear n0_; (try clear hb); (try clear hb2); (try clear hk); (try clear hi))); go_ret; exact ⟨re_, hb_⟩
set_option maxHeartbeats 8000000 in
set_option maxRecDepth 100000 in
theorem runs_Count.calls (k : Nat) (A0 : Option Addr) (c0 : Nat) (l0 : List (S37)) (r : Int) (w : World) (hr0 : Kd.C k37 w A0 l0.length l0) (hc0 : l0.length ≤ c0) (h : runs_Count.f k l0 = some r) :
  Calls Tryd.prog 24 #[.slice A0 l0.length c0] w fun e w' => e = .returned (.int .i64 r) ∧ Below w.heap.size w w' := by
 have hu37 := Tryd.underlying37; have HR0 := Aside0.mk hr0; have HC0 := Aside0.mk hc0; clear hr0 hc0; have HB := Aside0.mk (Below.refl w.heap.size w); have H : ((runs_known.f k l0).bind fun t114 => (runs_Count.l0 k 0 t114 (t114.length : Int) 0)) = some r := h; clear h; replace H := Option.bind_eq_some_iff.mp H; obtain ⟨t114, A20, H⟩ := H; replace H : (runs_Count.l0 k 0 t114 (t114.length : Int) 0) = some r := H; have A2 := Aside0.mk A20; clear A20; have H' := Aside0.mk H; clear H; go_enter Tryd.func24, Tryd.ntmps24; go_wp2_with (first | ((with_reducible refine gate_callee (f := 30) rfl ?_); refine goesL_ (some 7) rfl rfl Tryd.func30 (by kernel_rfl) rfl #[.slice A0 l0.length c0] rfl ml_ ?_; (with_reducible refine (runs_known.calls k (fun k_ => k_ < w.heap.size) _ _ l0 t114 _ ?side1 A2.out).mono ?_); (case side1 => exact Kd.V_mk HC0.out (Kd.F_below (Kd.C_F k37_heap HR0.out) hb_)); rintro e w3 ⟨v115, rfl, ho0, hb⟩; refine ⟨_, rfl, ?_⟩; have n0_ := Aside0.mk (Kd.V_lower (Kd.V_mono (ok' := fun k_ => True) ho0 (fun k_ hk_ => trivial)) (below_size hb_)); have n1_ := Aside0.mk (below_step hb_ hb); clear HB; have HO116 := n0_; have HB := n1_; clear n0_ n1_; (try clear hb); (try clear hb2); (try clear hk); (try clear hi); (try clear ho0); obtain ⟨Ao4, co4, eo4⟩ := Kd.V_slice HO116.out; subst eo4)); go_loopg [3, 9] k (fun kq v3 v9 w' => ∃ (x3_1 : Int) (x9_1 : Int), v3 = .int .i64 x3_1 ∧ v9 = .int .i64 x9_1 ∧ Aside0 (runs_Count.l0 kq x3_1 t114 (t114.length : Int) x9_1 = some r) ∧ Aside0 (kq ≤ k) ∧ Aside0 (Kd.V k37 37 w' w.heap.size (fun _ => True) (.slice Ao4 t114.length co4) t114) ∧ Aside0 (Below w.heap.size w w'))
 case atStart => exact ⟨(0), (0), rf_, rf_, H', ⟨Nat.le_refl _⟩, ⟨by (with_reducible repeat (first | apply Kd.V_alloc | apply Kd.V_drewN | apply Kd.V_drew)); exact HO116.out⟩, ⟨hb_⟩⟩
 case round =>
  clear H'; (try clear c2); (try clear p2); (try clear c3); obtain ⟨x3_1, x9_1, rfl, rfl, HA, HK1, HO_7, HB⟩ := hrel
  cases gk with
  | zero => exact absurd HA.out (by simp [runs_Count.l0])
  | succ k1 =>
   have H := HA.out; clear HA; simp only [runs_Count.l0] at H
   by_cases c5 : x9_1 < (t114.length : Int)
   ·rw [if_pos c5] at H
    have c5b0 : decide (x9_1 < (t114.length : Int)) = true := decide_eq_true c5; clear c5
    by_cases c6 : 0 ≤ x9_1
    ·rw [if_pos c6] at H
     have c6b0 : decide (0 ≤ x9_1) = true := decide_eq_true c6; clear c6
     by_cases c7 : x9_1 < (t114.length : Int)
     ·rw [if_pos c7] at H
      have c7b0 : decide (x9_1 < (t114.length : Int)) = true := decide_eq_true c7; clear c7; have H' := Aside0.mk H; clear H; have p117 : 0 ≤ (x9_1 : Int) := od_; have q117 : x9_1 < (t114.length : Int) := od_; obtain ⟨ad117, e117, hx117_0, hx117_1⟩ := at_T37 (Kd.V_reads' HO_7.out).2.2 x9_1 p117 q117
      cases e117
      replace p117 := eq_true p117; replace q117 := eq_true q117; go_wp2_with (first | ((with_reducible refine gate_dst (N := 5) rfl ?_); refine box_event ?hg (N := 5) ?hd (cs := #[.int .i64 0, .int .i64 0]) (t := 37) ?hr ?_; (case hd => rfl); (case hg => rfl); (case hr => first | (go_simp; done) | (go_simp; rfl)); intro gb118 hg w8 hbox hb; have n0_ := Aside0.mk (Kd.V_below (Kd.V_elderB (by (with_reducible repeat (first | apply Kd.V_alloc | apply Kd.V_drewN | apply Kd.V_drew)); exact HO_7.out) gb118 (Nat.le_of_eq hg.symm)) hb); have n1_ := Aside0.mk (below_step hb_ hb); have n2_ := Aside0.mk (hbox); have n3_ := Aside0.mk ((by rw [hg]; exact (below_size hb_) : w.heap.size ≤ gb118)); have n4_ := Aside0.mk ((by rw [hg]; exact (below_size hb_) : w.heap.size ≤ gb118)); clear HO_7; clear HB; have HO_7 := n0_; have HB := n1_; have BK118 := n2_; have GW118 := n3_; have GE118 := n4_; clear n0_ n1_ n2_ n3_ n4_; clear hb hbox hg; have hcz9_0 : w8.cell? ⟨gb118, 0, none⟩ = some (.int .i64 0) := (blk_cell BK118.out 0).trans rfl; have hcz9_1 : w8.cell? ⟨gb118, 1, none⟩ = some (.int .i64 0) := (blk_cell BK118.out 1).trans rfl; have hfz9_0 := blk_frozen BK118.out 0; have hfz9_1 := blk_frozen BK118.out 1)); go_roundg k1
      case measure => have := HK1.out; omega
      case rel => exact ⟨(wrap64 (x3_1 + (wrap64 ((wrap64 (((rd_T37 t114 x9_1).f1) - ((rd_T37 t114 x9_1).f0))) + 1)))), (wrap64 (x9_1 + 1)), rf_, rf_, H', ⟨by have := HK1.out; omega⟩, ⟨by (with_reducible repeat (first | apply Kd.V_alloc | apply Kd.V_drewN | apply Kd.V_drew)); exact Kd.V_mono (Kd.V_far (p := ⟨gb118, 1, none⟩) (Kd.V_far (p := ⟨gb118, 0, none⟩) (Kd.V_mono HO_7.out (fun k_ hk => (⟨hk, hk.2⟩ : _ ∧ k_ ≠ gb118))) (fun _ hk => hk.2) (.int .i64 ((rd_T37 t114 x9_1).f0))) (fun _ hk => hk.2) (.int .i64 ((rd_T37 t114 x9_1).f1))) (fun _ hk => trivial)⟩, ⟨by repeat (first | (with_reducible first | exact HB.out | apply below_alloc | apply pw_below_drewN | apply below_drew1 | refine below_set ?_ GE118.out) | exact HB.out)⟩⟩
     ·rw [if_neg c7] at H
      exact absurd H (by simp)
    ·rw [if_neg c6] at H
     exact absurd H (by simp)
   ·rw [if_neg c5] at H
    have c5b0 : decide (x9_1 < (t114.length : Int)) = false := decide_eq_false c5; clear c5; obtain rfl := Option.some.inj H; go_wp2; go_ret; exact ⟨re_, hb_⟩
set_option maxHeartbeats 8000000 in
set_option maxRecDepth 100000 in
theorem lustrumlaw06_MaskSet.calls (k : Nat) (a0 : ByteArray) (a1 : Int) (r : Bool) (w : World) (htab : TB w.heap.size w) (h : lustrumlaw06_MaskSet.f k a0 a1 = some r) :
  Calls Tryd.prog 7 #[.string a0, .int .i64 a1] w fun e w' => e = .returned (.bool r) ∧ Below w.heap.size w w' := by
 have HTAB := Aside0.mk htab; clear htab; have HB := Aside0.mk (Below.refl w.heap.size w); have H : ((lustrumlaw06_awake.f k).bind fun t119 => ((mask_Set.f a0).bind fun t120 => (if t119 = true then ((runs_Sane.f k t120).bind fun t123 => (if t123 = true then ((runs_Has.f k t120 a1).bind fun t124 => ((mask_Match.f a0 a1).bind fun t125 => (if (t124 == t125) = true then ((runs_Count.f k t120).bind fun t126 => ((mask_Count.f k a0).bind fun t127 => (if t126 = t127 then ((mask_Count.f k a0).bind fun t128 => ((mask_Sane.f a0).bind fun t129 => (some ((decide (t128 > 0)) == t129)))) else (some false)))) else (some false)))) else (some false))) else (some false)))) = some r := h; clear h; replace H := Option.bind_eq_some_iff.mp H; obtain ⟨t119, A30, H⟩ := H; replace H : ((mask_Set.f a0).bind fun t120 => (if t119 = true then ((runs_Sane.f k t120).bind fun t123 => (if t123 = true then ((runs_Has.f k t120 a1).bind fun t124 => ((mask_Match.f a0 a1).bind fun t125 => (if (t124 == t125) = true then ((runs_Count.f k t120).bind fun t126 => ((mask_Count.f k a0).bind fun t127 => (if t126 = t127 then ((mask_Count.f k a0).bind fun t128 => ((mask_Sane.f a0).bind fun t129 => (some ((decide (t128 > 0)) == t129)))) else (some false)))) else (some false)))) else (some false))) else (some false))) = some r := H; have A3 := Aside0.mk A30; clear A30; replace H := Option.bind_eq_some_iff.mp H; obtain ⟨t120, A40, H⟩ := H; replace H : (if t119 = true then ((runs_Sane.f k t120).bind fun t123 => (if t123 = true then ((runs_Has.f k t120 a1).bind fun t124 => ((mask_Match.f a0 a1).bind fun t125 => (if (t124 == t125) = true then ((runs_Count.f k t120).bind fun t126 => ((mask_Count.f k a0).bind fun t127 => (if t126 = t127 then ((mask_Count.f k a0).bind fun t128 => ((mask_Sane.f a0).bind fun t129 => (some ((decide (t128 > 0)) == t129)))) else (some false)))) else (some false)))) else (some false))) else (some false)) = some r := H; have A4 := Aside0.mk A40; clear A40
 by_cases c5 : t119 = true
 ·subst c5
  (have H1 : ((runs_Sane.f k t120).bind fun t123 => (if t123 = true then ((runs_Has.f k t120 a1).bind fun t124 => ((mask_Match.f a0 a1).bind fun t125 => (if (t124 == t125) = true then ((runs_Count.f k t120).bind fun t126 => ((mask_Count.f k a0).bind fun t127 => (if t126 = t127 then ((mask_Count.f k a0).bind fun t128 => ((mask_Sane.f a0).bind fun t129 => (some ((decide (t128 > 0)) == t129)))) else (some false)))) else (some false)))) else (some false))) = some r := by rw [if_pos rfl] at H; exact H); clear H; have H := H1; clear H1; replace H := Option.bind_eq_some_iff.mp H; obtain ⟨t123, A60, H⟩ := H; replace H : (if t123 = true then ((runs_Has.f k t120 a1).bind fun t124 => ((mask_Match.f a0 a1).bind fun t125 => (if (t124 == t125) = true then ((runs_Count.f k t120).bind fun t126 => ((mask_Count.f k a0).bind fun t127 => (if t126 = t127 then ((mask_Count.f k a0).bind fun t128 => ((mask_Sane.f a0).bind fun t129 => (some ((decide (t128 > 0)) == t129)))) else (some false)))) else (some false)))) else (some false)) = some r := H; have A6 := Aside0.mk A60; clear A60
  by_cases c7 : t123 = true
  ·subst c7
   (have H1 : ((runs_Has.f k t120 a1).bind fun t124 => ((mask_Match.f a0 a1).bind fun t125 => (if (t124 == t125) = true then ((runs_Count.f k t120).bind fun t126 => ((mask_Count.f k a0).bind fun t127 => (if t126 = t127 then ((mask_Count.f k a0).bind fun t128 => ((mask_Sane.f a0).bind fun t129 => (some ((decide (t128 > 0)) == t129)))) else (some false)))) else (some false)))) = some r := by rw [if_pos rfl] at H; exact H); clear H; have H := H1; clear H1; replace H := Option.bind_eq_some_iff.mp H; obtain ⟨t124, A80, H⟩ := H; replace H : ((mask_Match.f a0 a1).bind fun t125 => (if (t124 == t125) = true then ((runs_Count.f k t120).bind fun t126 => ((mask_Count.f k a0).bind fun t127 => (if t126 = t127 then ((mask_Count.f k a0).bind fun t128 => ((mask_Sane.f a0).bind fun t129 => (some ((decide (t128 > 0)) == t129)))) else (some false)))) else (some false))) = some r := H; have A8 := Aside0.mk A80; clear A80; replace H := Option.bind_eq_some_iff.mp H; obtain ⟨t125, A90, H⟩ := H; replace H : (if (t124 == t125) = true then ((runs_Count.f k t120).bind fun t126 => ((mask_Count.f k a0).bind fun t127 => (if t126 = t127 then ((mask_Count.f k a0).bind fun t128 => ((mask_Sane.f a0).bind fun t129 => (some ((decide (t128 > 0)) == t129)))) else (some false)))) else (some false)) = some r := H; have A9 := Aside0.mk A90; clear A90
   by_cases c10 : (t124 == t125) = true
   ·rw [if_pos c10] at H
    have c10b0 : (t124 == t125) = true := c10; (try (have c10b1 : decide (t124 = t125) = true := by simpa using c10)); (try (have c10b2 : (t124 == t125) = true := by simpa using c10)); clear c10; replace H := Option.bind_eq_some_iff.mp H; obtain ⟨t126, A110, H⟩ := H; replace H : ((mask_Count.f k a0).bind fun t127 => (if t126 = t127 then ((mask_Count.f k a0).bind fun t128 => ((mask_Sane.f a0).bind fun t129 => (some ((decide (t128 > 0)) == t129)))) else (some false))) = some r := H; have A11 := Aside0.mk A110; clear A110; replace H := Option.bind_eq_some_iff.mp H; obtain ⟨t127, A120, H⟩ := H; replace H : (if t126 = t127 then ((mask_Count.f k a0).bind fun t128 => ((mask_Sane.f a0).bind fun t129 => (some ((decide (t128 > 0)) == t129)))) else (some false)) = some r := H; have A12 := Aside0.mk A120; clear A120
    by_cases c13 : t126 = t127
    ·rw [if_pos c13] at H
     have c13b0 : (t126 == t127) = true := beq_iff_eq.mpr c13; have c13b1 : (t126 != t127) = false := bne_eq_false_iff_eq.mpr c13; clear c13; replace H := Option.bind_eq_some_iff.mp H; obtain ⟨t128, A140, H⟩ := H; replace H : ((mask_Sane.f a0).bind fun t129 => (some ((decide (t128 > 0)) == t129))) = some r := H; have A14 := Aside0.mk A140; clear A140; replace H := Option.bind_eq_some_iff.mp H; obtain ⟨t129, A150, H⟩ := H; replace H : (some ((decide (t128 > 0)) == t129)) = some r := H; have A15 := Aside0.mk A150; clear A150; obtain rfl := Option.some.inj H; have e_ : t127 = t128 := Option.some.inj (A12.out.symm.trans A14.out); subst e_; go_enter Tryd.func7, Tryd.ntmps7; go_wp2_with (first | ((with_reducible refine gate_callee (f := 8) rfl ?_); refine goesL_ (some 7) rfl rfl Tryd.func8 (by kernel_rfl) rfl #[] rfl ml_ ?_; (with_reducible refine (lustrumlaw06_awake.calls k  true _ (TB.at_ HTAB.out hb_) A3.out).mono ?_); rintro e w16 ⟨rfl, hb⟩; refine ⟨_, rfl, ?_⟩; have n0_ := Aside0.mk (below_step hb_ hb); clear HB; have HB := n0_; clear n0_; (try clear hb); (try clear hb2); (try clear hk); (try clear hi)) | ((with_reducible refine gate_callee (f := 18) rfl ?_); refine goesL_ (some 9) rfl rfl Tryd.func18 (by kernel_rfl) rfl #[.string a0] rfl ml_ ?_; (with_reducible refine (mask_Set.calls a0 t120 _ A4.out).mono ?_); rintro e w17 ⟨v121, rfl, ho0, hb⟩; refine ⟨_, rfl, ?_⟩; have n0_ := Aside0.mk (Kd.R_lower ho0 (below_size hb_)); have n1_ := Aside0.mk (below_step hb_ hb); clear HB; have HO122 := n0_; have HB := n1_; clear n0_ n1_; (try clear hb); (try clear hb2); (try clear hk); (try clear hi); (try clear ho0); obtain ⟨Ao18, co18, eo18⟩ := Kd.R_slice HO122.out; subst eo18) | (go_at_call 22; (with_reducible refine (runs_Sane.calls k _ _ t120 true _ ?side1 ?side2 A6.out).mono ?_); (case side1 => repeat (first | exact (Kd.R_reads' HO122.out).2.2 | (with_reducible refine Kd.C_alloc ?_ _) | (with_reducible refine Kd.C_drewN ?_ _) | (with_reducible refine Kd.C_drew ?_))); (case side2 => exact (Kd.R_reads' HO122.out).2.1); rintro e w19 ⟨rfl, hb⟩; have n0_ := Aside0.mk (Kd.R_below (by (with_reducible repeat (first | apply Kd.R_alloc | apply Kd.R_drewN | apply Kd.R_drew)); exact HO122.out) hb); have n1_ := Aside0.mk (below_step hb_ hb); clear HO122; clear HB; have HO122 := n0_; have HB := n1_; clear n0_ n1_; (try clear hb); (try clear hb2); (try clear hk); (try clear hi)) | (go_at_call 23; (with_reducible refine (runs_Has.calls k _ _ t120 a1 t124 _ ?side1 ?side2 A8.out).mono ?_); (case side1 => repeat (first | exact (Kd.R_reads' HO122.out).2.2 | (with_reducible refine Kd.C_alloc ?_ _) | (with_reducible refine Kd.C_drewN ?_ _) | (with_reducible refine Kd.C_drew ?_))); (case side2 => exact (Kd.R_reads' HO122.out).2.1); rintro e w20 ⟨rfl, hb⟩; have n0_ := Aside0.mk (Kd.R_below (by (with_reducible repeat (first | apply Kd.R_alloc | apply Kd.R_drewN | apply Kd.R_drew)); exact HO122.out) hb); have n1_ := Aside0.mk (below_step hb_ hb); clear HO122; clear HB; have HO122 := n0_; have HB := n1_; clear n0_ n1_; (try clear hb); (try clear hb2); (try clear hk); (try clear hi)) | (go_at_call 15; (with_reducible refine (mask_Match.calls a0 a1 t125 _ (TB.at_ HTAB.out hb_) A9.out).mono ?_); rintro e w21 ⟨rfl, hb⟩; have n0_ := Aside0.mk (Kd.R_below (by (with_reducible repeat (first | apply Kd.R_alloc | apply Kd.R_drewN | apply Kd.R_drew)); exact HO122.out) hb); have n1_ := Aside0.mk (below_step hb_ hb); clear HO122; clear HB; have HO122 := n0_; have HB := n1_; clear n0_ n1_; (try clear hb); (try clear hb2); (try clear hk); (try clear hi)) | (go_at_call 24; (with_reducible refine (runs_Count.calls k _ _ t120 t126 _ ?side1 ?side2 A11.out).mono ?_); (case side1 => repeat (first | exact (Kd.R_reads' HO122.out).2.2 | (with_reducible refine Kd.C_alloc ?_ _) | (with_reducible refine Kd.C_drewN ?_ _) | (with_reducible refine Kd.C_drew ?_))); (case side2 => exact (Kd.R_reads' HO122.out).2.1); rintro e w22 ⟨rfl, hb⟩; have n0_ := Aside0.mk (Kd.R_below (by (with_reducible repeat (first | apply Kd.R_alloc | apply Kd.R_drewN | apply Kd.R_drew)); exact HO122.out) hb); have n1_ := Aside0.mk (below_step hb_ hb); clear HO122; clear HB; have HO122 := n0_; have HB := n1_; clear n0_ n1_; (try clear hb); (try clear hb2); (try clear hk); (try clear hi)) | (go_at_call 20; (with_reducible refine (mask_Count.calls k a0 t127 _ A12.out).mono ?_); rintro e w23 ⟨rfl, hb⟩; have n0_ := Aside0.mk (Kd.R_below (by (with_reducible repeat (first | apply Kd.R_alloc | apply Kd.R_drewN | apply Kd.R_drew)); exact HO122.out) hb); have n1_ := Aside0.mk (below_step hb_ hb); clear HO122; clear HB; have HO122 := n0_; have HB := n1_; clear n0_ n1_; (try clear hb); (try clear hb2); (try clear hk); (try clear hi)) | (go_at_call 20; (with_reducible refine (mask_Count.calls k a0 t128 _ A14.out).mono ?_); rintro e w24 ⟨rfl, hb⟩; have n0_ := Aside0.mk (Kd.R_below (by (with_reducible repeat (first | apply Kd.R_alloc | apply Kd.R_drewN | apply Kd.R_drew)); exact HO122.out) hb); have n1_ := Aside0.mk (below_step hb_ hb); clear HO122; clear HB; have HO122 := n0_; have HB := n1_; clear n0_ n1_; (try clear hb); (try clear hb2); (try clear hk); (try clear hi)) | (go_at_call 13; (with_reducible refine (mask_Sane.calls a0 t129 _ A15.out).mono ?_); rintro e w25 ⟨rfl, hb⟩; have n0_ := Aside0.mk (Kd.R_below (by (with_reducible repeat (first | apply Kd.R_alloc | apply Kd.R_drewN | apply Kd.R_drew)); exact HO122.out) hb); have n1_ := Aside0.mk (below_step hb_ hb); clear HO122; clear HB; have HO122 := n0_; have HB := n1_; clear n0_ n1_; (try clear hb); (try clear hb2); (try clear hk); (try clear hi)))
     go_ret; exact ⟨re_, hb_⟩
    ·rw [if_neg c13] at H
     have c13b0 : (t126 == t127) = false := beq_eq_false_iff_ne.mpr c13; have c13b1 : (t126 != t127) = true := bne_iff_ne.mpr c13; obtain rfl := Option.some.inj H; go_enter Tryd.func7, Tryd.ntmps7; go_wp2_with (first | ((with_reducible refine gate_callee (f := 8) rfl ?_); refine goesL_ (some 7) rfl rfl Tryd.func8 (by kernel_rfl) rfl #[] rfl ml_ ?_; (with_reducible refine (lustrumlaw06_awake.calls k  true _ (TB.at_ HTAB.out hb_) A3.out).mono ?_); rintro e w26 ⟨rfl, hb⟩; refine ⟨_, rfl, ?_⟩; have n0_ := Aside0.mk (below_step hb_ hb); clear HB; have HB := n0_; clear n0_; (try clear hb); (try clear hb2); (try clear hk); (try clear hi)) | ((with_reducible refine gate_callee (f := 18) rfl ?_); refine goesL_ (some 9) rfl rfl Tryd.func18 (by kernel_rfl) rfl #[.string a0] rfl ml_ ?_; (with_reducible refine (mask_Set.calls a0 t120 _ A4.out).mono ?_); rintro e w27 ⟨v121, rfl, ho0, hb⟩; refine ⟨_, rfl, ?_⟩; have n0_ := Aside0.mk (Kd.R_lower ho0 (below_size hb_)); have n1_ := Aside0.mk (below_step hb_ hb); clear HB; have HO122 := n0_; have HB := n1_; clear n0_ n1_; (try clear hb); (try clear hb2); (try clear hk); (try clear hi); (try clear ho0); obtain ⟨Ao28, co28, eo28⟩ := Kd.R_slice HO122.out; subst eo28) | (go_at_call 22; (with_reducible refine (runs_Sane.calls k _ _ t120 true _ ?side1 ?side2 A6.out).mono ?_); (case side1 => repeat (first | exact (Kd.R_reads' HO122.out).2.2 | (with_reducible refine Kd.C_alloc ?_ _) | (with_reducible refine Kd.C_drewN ?_ _) | (with_reducible refine Kd.C_drew ?_))); (case side2 => exact (Kd.R_reads' HO122.out).2.1); rintro e w29 ⟨rfl, hb⟩; have n0_ := Aside0.mk (Kd.R_below (by (with_reducible repeat (first | apply Kd.R_alloc | apply Kd.R_drewN | apply Kd.R_drew)); exact HO122.out) hb); have n1_ := Aside0.mk (below_step hb_ hb); clear HO122; clear HB; have HO122 := n0_; have HB := n1_; clear n0_ n1_; (try clear hb); (try clear hb2); (try clear hk); (try clear hi)) | (go_at_call 23; (with_reducible refine (runs_Has.calls k _ _ t120 a1 t124 _ ?side1 ?side2 A8.out).mono ?_); (case side1 => repeat (first | exact (Kd.R_reads' HO122.out).2.2 | (with_reducible refine Kd.C_alloc ?_ _) | (with_reducible refine Kd.C_drewN ?_ _) | (with_reducible refine Kd.C_drew ?_))); (case side2 => exact (Kd.R_reads' HO122.out).2.1); rintro e w30 ⟨rfl, hb⟩; have n0_ := Aside0.mk (Kd.R_below (by (with_reducible repeat (first | apply Kd.R_alloc | apply Kd.R_drewN | apply Kd.R_drew)); exact HO122.out) hb); have n1_ := Aside0.mk (below_step hb_ hb); clear HO122; clear HB; have HO122 := n0_; have HB := n1_; clear n0_ n1_; (try clear hb); (try clear hb2); (try clear hk); (try clear hi)) | (go_at_call 15; (with_reducible refine (mask_Match.calls a0 a1 t125 _ (TB.at_ HTAB.out hb_) A9.out).mono ?_); rintro e w31 ⟨rfl, hb⟩; have n0_ := Aside0.mk (Kd.R_below (by (with_reducible repeat (first | apply Kd.R_alloc | apply Kd.R_drewN | apply Kd.R_drew)); exact HO122.out) hb); have n1_ := Aside0.mk (below_step hb_ hb); clear HO122; clear HB; have HO122 := n0_; have HB := n1_; clear n0_ n1_; (try clear hb); (try clear hb2); (try clear hk); (try clear hi)) | (go_at_call 24; (with_reducible refine (runs_Count.calls k _ _ t120 t126 _ ?side1 ?side2 A11.out).mono ?_); (case side1 => repeat (first | exact (Kd.R_reads' HO122.out).2.2 | (with_reducible refine Kd.C_alloc ?_ _) | (with_reducible refine Kd.C_drewN ?_ _) | (with_reducible refine Kd.C_drew ?_))); (case side2 => exact (Kd.R_reads' HO122.out).2.1); rintro e w32 ⟨rfl, hb⟩; have n0_ := Aside0.mk (Kd.R_below (by (with_reducible repeat (first | apply Kd.R_alloc | apply Kd.R_drewN | apply Kd.R_drew)); exact HO122.out) hb); have n1_ := Aside0.mk (below_step hb_ hb); clear HO122; clear HB; have HO122 := n0_; have HB := n1_; clear n0_ n1_; (try clear hb); (try clear hb2); (try clear hk); (try clear hi)) | (go_at_call 20; (with_reducible refine (mask_Count.calls k a0 t127 _ A12.out).mono ?_); rintro e w33 ⟨rfl, hb⟩; have n0_ := Aside0.mk (Kd.R_below (by (with_reducible repeat (first | apply Kd.R_alloc | apply Kd.R_drewN | apply Kd.R_drew)); exact HO122.out) hb); have n1_ := Aside0.mk (below_step hb_ hb); clear HO122; clear HB; have HO122 := n0_; have HB := n1_; clear n0_ n1_; (try clear hb); (try clear hb2); (try clear hk); (try clear hi)))
     go_ret; exact ⟨re_, hb_⟩
   ·rw [if_neg c10] at H
    (have c10b0 : (t124 == t125) = false := by simpa using c10); (try (have c10b1 : decide (t124 = t125) = false := by simpa using c10)); (try (have c10b2 : (t124 == t125) = false := by simpa using c10)); (try (have c10b3 : ¬ (t124 = t125) := by simpa using c10)); clear c10; obtain rfl := Option.some.inj H; go_enter Tryd.func7, Tryd.ntmps7; go_wp2_with (first | ((with_reducible refine gate_callee (f := 8) rfl ?_); refine goesL_ (some 7) rfl rfl Tryd.func8 (by kernel_rfl) rfl #[] rfl ml_ ?_; (with_reducible refine (lustrumlaw06_awake.calls k  true _ (TB.at_ HTAB.out hb_) A3.out).mono ?_); rintro e w34 ⟨rfl, hb⟩; refine ⟨_, rfl, ?_⟩; have n0_ := Aside0.mk (below_step hb_ hb); clear HB; have HB := n0_; clear n0_; (try clear hb); (try clear hb2); (try clear hk); (try clear hi)) | ((with_reducible refine gate_callee (f := 18) rfl ?_); refine goesL_ (some 9) rfl rfl Tryd.func18 (by kernel_rfl) rfl #[.string a0] rfl ml_ ?_; (with_reducible refine (mask_Set.calls a0 t120 _ A4.out).mono ?_); rintro e w35 ⟨v121, rfl, ho0, hb⟩; refine ⟨_, rfl, ?_⟩; have n0_ := Aside0.mk (Kd.R_lower ho0 (below_size hb_)); have n1_ := Aside0.mk (below_step hb_ hb); clear HB; have HO122 := n0_; have HB := n1_; clear n0_ n1_; (try clear hb); (try clear hb2); (try clear hk); (try clear hi); (try clear ho0); obtain ⟨Ao36, co36, eo36⟩ := Kd.R_slice HO122.out; subst eo36) | (go_at_call 22; (with_reducible refine (runs_Sane.calls k _ _ t120 true _ ?side1 ?side2 A6.out).mono ?_); (case side1 => repeat (first | exact (Kd.R_reads' HO122.out).2.2 | (with_reducible refine Kd.C_alloc ?_ _) | (with_reducible refine Kd.C_drewN ?_ _) | (with_reducible refine Kd.C_drew ?_))); (case side2 => exact (Kd.R_reads' HO122.out).2.1); rintro e w37 ⟨rfl, hb⟩; have n0_ := Aside0.mk (Kd.R_below (by (with_reducible repeat (first | apply Kd.R_alloc | apply Kd.R_drewN | apply Kd.R_drew)); exact HO122.out) hb); have n1_ := Aside0.mk (below_step hb_ hb); clear HO122; clear HB; have HO122 := n0_; have HB := n1_; clear n0_ n1_; (try clear hb); (try clear hb2); (try clear hk); (try clear hi)) | (go_at_call 23; (with_reducible refine (runs_Has.calls k _ _ t120 a1 t124 _ ?side1 ?side2 A8.out).mono ?_); (case side1 => repeat (first | exact (Kd.R_reads' HO122.out).2.2 | (with_reducible refine Kd.C_alloc ?_ _) | (with_reducible refine Kd.C_drewN ?_ _) | (with_reducible refine Kd.C_drew ?_))); (case side2 => exact (Kd.R_reads' HO122.out).2.1); rintro e w38 ⟨rfl, hb⟩; have n0_ := Aside0.mk (Kd.R_below (by (with_reducible repeat (first | apply Kd.R_alloc | apply Kd.R_drewN | apply Kd.R_drew)); exact HO122.out) hb); have n1_ := Aside0.mk (below_step hb_ hb); clear HO122; clear HB; have HO122 := n0_; have HB := n1_; clear n0_ n1_; (try clear hb); (try clear hb2); (try clear hk); (try clear hi)) | (go_at_call 15; (with_reducible refine (mask_Match.calls a0 a1 t125 _ (TB.at_ HTAB.out hb_) A9.out).mono ?_); rintro e w39 ⟨rfl, hb⟩; have n0_ := Aside0.mk (Kd.R_below (by (with_reducible repeat (first | apply Kd.R_alloc | apply Kd.R_drewN | apply Kd.R_drew)); exact HO122.out) hb); have n1_ := Aside0.mk (below_step hb_ hb); clear HO122; clear HB; have HO122 := n0_; have HB := n1_; clear n0_ n1_; (try clear hb); (try clear hb2); (try clear hk); (try clear hi))); go_ret; exact ⟨re_, hb_⟩
  ·replace c7 := Bool.eq_false_iff.mpr c7
   subst c7; (have H1 : (some false) = some r := by rw [if_neg (show ¬ (false = true) by decide)] at H; exact H); clear H; have H := H1; clear H1; obtain rfl := Option.some.inj H; go_enter Tryd.func7, Tryd.ntmps7; go_wp2_with (first | ((with_reducible refine gate_callee (f := 8) rfl ?_); refine goesL_ (some 7) rfl rfl Tryd.func8 (by kernel_rfl) rfl #[] rfl ml_ ?_; (with_reducible refine (lustrumlaw06_awake.calls k  true _ (TB.at_ HTAB.out hb_) A3.out).mono ?_); rintro e w40 ⟨rfl, hb⟩; refine ⟨_, rfl, ?_⟩; have n0_ := Aside0.mk (below_step hb_ hb); clear HB; have HB := n0_; clear n0_; (try clear hb); (try clear hb2); (try clear hk); (try clear hi)) | ((with_reducible refine gate_callee (f := 18) rfl ?_); refine goesL_ (some 9) rfl rfl Tryd.func18 (by kernel_rfl) rfl #[.string a0] rfl ml_ ?_; (with_reducible refine (mask_Set.calls a0 t120 _ A4.out).mono ?_); rintro e w41 ⟨v121, rfl, ho0, hb⟩; refine ⟨_, rfl, ?_⟩; have n0_ := Aside0.mk (Kd.R_lower ho0 (below_size hb_)); have n1_ := Aside0.mk (below_step hb_ hb); clear HB; have HO122 := n0_; have HB := n1_; clear n0_ n1_; (try clear hb); (try clear hb2); (try clear hk); (try clear hi); (try clear ho0); obtain ⟨Ao42, co42, eo42⟩ := Kd.R_slice HO122.out; subst eo42) | (go_at_call 22; (with_reducible refine (runs_Sane.calls k _ _ t120 false _ ?side1 ?side2 A6.out).mono ?_); (case side1 => repeat (first | exact (Kd.R_reads' HO122.out).2.2 | (with_reducible refine Kd.C_alloc ?_ _) | (with_reducible refine Kd.C_drewN ?_ _) | (with_reducible refine Kd.C_drew ?_))); (case side2 => exact (Kd.R_reads' HO122.out).2.1); rintro e w43 ⟨rfl, hb⟩; have n0_ := Aside0.mk (Kd.R_below (by (with_reducible repeat (first | apply Kd.R_alloc | apply Kd.R_drewN | apply Kd.R_drew)); exact HO122.out) hb); have n1_ := Aside0.mk (below_step hb_ hb); clear HO122; clear HB; have HO122 := n0_; have HB := n1_; clear n0_ n1_; (try clear hb); (try clear hb2); (try clear hk); (try clear hi))); go_ret; exact ⟨re_, hb_⟩
 ·replace c5 := Bool.eq_false_iff.mpr c5
  subst c5; (have H1 : (some false) = some r := by rw [if_neg (show ¬ (false = true) by decide)] at H; exact H); clear H; have H := H1; clear H1; obtain rfl := Option.some.inj H; go_enter Tryd.func7, Tryd.ntmps7; go_wp2_with (first | ((with_reducible refine gate_callee (f := 8) rfl ?_); refine goesL_ (some 7) rfl rfl Tryd.func8 (by kernel_rfl) rfl #[] rfl ml_ ?_; (with_reducible refine (lustrumlaw06_awake.calls k  false _ (TB.at_ HTAB.out hb_) A3.out).mono ?_); rintro e w44 ⟨rfl, hb⟩; refine ⟨_, rfl, ?_⟩; have n0_ := Aside0.mk (below_step hb_ hb); clear HB; have HB := n0_; clear n0_; (try clear hb); (try clear hb2); (try clear hk); (try clear hi)) | ((with_reducible refine gate_callee (f := 18) rfl ?_); refine goesL_ (some 9) rfl rfl Tryd.func18 (by kernel_rfl) rfl #[.string a0] rfl ml_ ?_; (with_reducible refine (mask_Set.calls a0 t120 _ A4.out).mono ?_); rintro e w45 ⟨v121, rfl, ho0, hb⟩; refine ⟨_, rfl, ?_⟩; have n0_ := Aside0.mk (Kd.R_lower ho0 (below_size hb_)); have n1_ := Aside0.mk (below_step hb_ hb); clear HB; have HO122 := n0_; have HB := n1_; clear n0_ n1_; (try clear hb); (try clear hb2); (try clear hk); (try clear hi); (try clear ho0))); go_ret; exact ⟨re_, hb_⟩
theorem Ev.ift {α : Type} {c : Prop} [Decidable c] {g f : Nat → Option α} {r : α} (hc : c) (h : Ev g r) : Ev (fun k => if c then g k else f k) r := Ev.congr (fun k => if_pos hc) h
theorem Ev.iff_ {α : Type} {c : Prop} [Decidable c] {g f : Nat → Option α} {r : α} (hc : ¬ c) (h : Ev f r) : Ev (fun k => if c then g k else f k) r := Ev.congr (fun k => if_neg hc) h
theorem Ev.bnow {α β : Type} {a : Option α} {f : Nat → α → Option β} {x : α} {r : β} (h : a = some x) (k : Ev (fun n => f n x) r) : Ev (fun n => a.bind (f n)) r := Ev.congr (fun n => by rw [h]; rfl) k
theorem dec1 {u : Nat} (h : u < 10) : Lib.decDigits u = [UInt8.ofNat (48 + u)] := by rw [Lib.decDigits, dif_pos h]
theorem decS {u : Nat} (h : ¬ u < 10) : Lib.decDigits u = Lib.decDigits (u / 10) ++ [UInt8.ofNat (48 + u % 10)] := by rw [Lib.decDigits, dif_neg h]
theorem itoa1984 : Lib.itoa 1984 = [49, 57, 56, 52] := by
  show Lib.decDigits 1984 = _
  rw [decS (by decide), decS (u := 1984 / 10) (by decide), decS (u := 1984 / 10 / 10) (by decide), dec1 (by decide)]
  decide
theorem itoa1985 : Lib.itoa 1985 = [49, 57, 56, 53] := by
  show Lib.decDigits 1985 = _
  rw [decS (by decide), decS (u := 1985 / 10) (by decide), decS (u := 1985 / 10 / 10) (by decide), dec1 (by decide)]
  decide
theorem awake6 : Ev (fun k => lustrumlaw06_awake.f k) true := by
  have h1 : mask_Meet.f (⟨#[49, 88]⟩ : ByteArray) (⟨#[88, 50]⟩ : ByteArray) = some (⟨#[49, 50]⟩, true) := by decide +kernel
  have h2 : Ev (fun k => mask_Only.f k (⟨#[49, 50]⟩ : ByteArray)) (12, true) := Ev.of (mask_Only.mono _) (k := 8) (by decide +kernel)
  have h3 : mask_Match.f (⟨#[49, 57, 88, 52]⟩ : ByteArray) 1984 = some true := by unfold mask_Match.f matchL; rw [itoa1984]; decide +kernel
  have h4 : mask_Match.f (⟨#[49, 57, 88, 52]⟩ : ByteArray) 1985 = some false := by unfold mask_Match.f matchL; rw [itoa1985]; decide +kernel
  obtain ⟨l, h5, h6⟩ : ∃ l, mask_Set.f (⟨#[49, 57, 88, 52]⟩ : ByteArray) = some l ∧ l.length = 10 := ⟨_, rfl, by decide +kernel⟩
  have h7 : Ev (fun k => mask_Count.f k (⟨#[49, 57, 88, 52]⟩ : ByteArray)) 10 := Ev.of (mask_Count.mono _) (k := 8) (by decide +kernel)
  have h8 : mask_Sane.f (⟨#[88]⟩ : ByteArray) = some true := by decide +kernel
  exact Ev.bnow h1 (Ev.bind h2 (Ev.ift rfl (Ev.ift (by decide +kernel) (Ev.ift rfl (Ev.ift rfl (Ev.bnow h3 (Ev.ift rfl (Ev.bnow h4 (Ev.iff_ (by simp) (Ev.bnow h5 (Ev.ift (by omega) (Ev.bind h7 (Ev.ift rfl (Ev.bnow h8 (Ev.now _)))))))))))))))
theorem u8eq {x y : UInt8} (h : x.toNat = y.toNat) : x = y := UInt8.toNat_inj.1 h
theorem sane_all {l : List UInt8} (h : saneL l = true) : l.all okB = true ∧ l ≠ [] ∧ l.length ≤ 4 := by
  unfold saneL at h
  simp only [Bool.and_eq_true, decide_eq_true_eq] at h
  exact ⟨h.1.1, h.1.2, h.2⟩
theorem match_f (s : ByteArray) (n : Int) (h : -9223372036854775808 ≤ n ∧ n ≤ 9223372036854775807) : mask_Match.f s n = some (matchL s.data.toList n) := by unfold mask_Match.f; rw [if_pos h]
theorem bsize (s : ByteArray) : s.size = s.data.toList.length := by simp
theorem setL_snoc (c : UInt8) : ∀ (l : List UInt8) (out : List S37), setL (l ++ [c]) out = (setL l out).flatMap (stepR c)
  | [], out => rfl
  | x :: l, out => by simp only [List.cons_append, setL]; exact setL_snoc c l _
def xs : List UInt8 → Nat
  | [] => 0
  | c :: l => (if c.toNat = 88 then 1 else 0) + xs l
def tailR : List UInt8 → Nat
  | [] => 0
  | c :: r => if c.toNat = 88 then tailR r + 1 else 0
def headR : List UInt8 → Nat
  | [] => 0
  | c :: r => if c.toNat = 88 then headR r else xs r
theorem headTail : ∀ r, headR r + tailR r = xs r
  | [] => rfl
  | c :: r => by
    have := headTail r
    rw [headR, tailR, xs]
    by_cases h : c.toNat = 88
    · rw [if_pos h, if_pos h, if_pos h]; omega
    · rw [if_neg h, if_neg h, if_neg h]; omega
theorem flat_len_eq {α β : Type} (f : α → List β) (m : Nat) : ∀ l : List α, (∀ x, x ∈ l → (f x).length = m) → (l.flatMap f).length = l.length * m
  | [], _ => by simp
  | x :: l, h => by
    rw [List.flatMap_cons, List.length_append, List.length_cons, Nat.succ_mul, h x List.mem_cons_self, flat_len_eq f m l (fun y hy => h y (List.mem_cons_of_mem _ hy))]
    omega
theorem runs_of : ∀ (r : List UInt8), (∀ c, c ∈ r → 48 ≤ c.toNat ∧ c.toNat ≤ 57 ∨ c.toNat = 88) → (setL r.reverse [(⟨0, 0⟩ : S37)]).length = 10 ^ headR r ∧ ∀ q, q ∈ setL r.reverse [(⟨0, 0⟩ : S37)] → q.f1 - q.f0 + 1 = ((10 ^ tailR r : Nat) : Int)
  | [], _ => ⟨rfl, fun q hq => by obtain rfl := List.mem_singleton.1 hq; rfl⟩
  | c :: r, h => by
    obtain ⟨h1, h2⟩ := runs_of r (fun x hx => h x (List.mem_cons_of_mem _ hx))
    rw [List.reverse_cons, setL_snoc]
    by_cases hc : c.toNat = 88
    · have e : ∀ q : S37, stepR c q = [⟨q.f0 * 10, q.f1 * 10 + 9⟩] := fun q => by unfold stepR; rw [if_pos hc]
      refine ⟨?_, fun q hq => ?_⟩
      · rw [flat_len_eq _ 1 _ (fun x _ => by rw [e]; rfl), h1, Nat.mul_one, headR, if_pos hc]
      · obtain ⟨p, hp, hq⟩ := List.mem_flatMap.1 hq
        rw [e] at hq
        obtain rfl := List.mem_singleton.1 hq
        have h3 := h2 p hp
        rw [tailR, if_pos hc, Nat.pow_succ]
        show p.f1 * 10 + 9 - p.f0 * 10 + 1 = _
        rw [Int.natCast_mul, ← h3]
        omega
    · have e : ∀ q : S37, stepR c q = (upto q.f0 (q.f1 + 1 - q.f0).toNat).map (one (c.toNat : Int)) := fun q => by unfold stepR; rw [if_neg hc]; rfl
      refine ⟨?_, fun q hq => ?_⟩
      · rw [flat_len_eq _ (10 ^ tailR r) _ (fun x hx => by
          have h3 := h2 x hx
          rw [e, List.length_map, upto_len]; generalize (10 ^ tailR r) = m_ at h3 ⊢; omega), h1, ← Nat.pow_add, headTail, headR, if_neg hc]
      · obtain ⟨p, hp, hq⟩ := List.mem_flatMap.1 hq
        rw [e] at hq
        obtain ⟨n, hn, rfl⟩ := List.mem_map.1 hq
        rw [tailR, if_neg hc]
        simp only [one]
        show _ = (1 : Int)
        omega
theorem setL_fine (s : ByteArray) (h : saneL s.data.toList = true) : fine (setL s.data.toList [⟨0, 0⟩]) 10000 := by
  have ho := ok_of (s := s) (congrArg some h)
  have step : ∀ p, p ≤ s.size → ∃ out, setInv s p out := fun p => by
    induction p with
    | zero => exact fun _ => ⟨_, setInv_0 s⟩
    | succ p ih =>
      intro hp
      obtain ⟨out, hi⟩ := ih (by omega)
      exact ⟨_, setInv_step (by omega) (ho p (by omega)) hi⟩
  obtain ⟨out, h1, h2, h3⟩ := step s.size (Nat.le_refl _)
  have hd : setL (s.data.toList.drop s.size) out = out := by rw [List.drop_eq_nil_of_le (by rw [bsize]; exact Nat.le_refl _)]; rfl
  rw [hd] at h1
  rw [← h1]
  have h4 : s.size ≤ 4 := by rw [bsize]; exact (sane_all h).2.2
  have h10 : (10 ^ s.size : Nat) ≤ 10000 := Nat.pow_le_pow_right (n := 10) (by decide) h4
  have : ((10 ^ s.size : Nat) : Int) ≤ 10000 := Int.ofNat_le.2 h10
  exact fun q hq => by obtain ⟨a, b, c⟩ := h2 q hq; exact ⟨a, b, by omega⟩
theorem xs_count : ∀ l : List UInt8, Lib.countByte l 88 = xs l
  | [] => rfl
  | c :: l => by
    have ih := xs_count l
    unfold Lib.countByte at ih ⊢
    rw [List.count_cons, ih, xs]
    by_cases h : c.toNat = 88
    · obtain rfl : c = 88 := u8eq h
      simp; omega
    · have : (c == (88 : UInt8)) = false := by rw [beq_eq_false_iff_ne]; rintro rfl; exact h rfl
      rw [this, if_neg h]; simp
theorem xs_len : ∀ l : List UInt8, xs l ≤ l.length
  | [] => Nat.le_refl _
  | c :: l => by
    have := xs_len l
    rw [xs, List.length_cons]; split <;> omega
theorem pow_small {m n : Nat} (h : m ≤ n) (hn : n ≤ 4) : (10 ^ m : Nat) ≤ 10000 := Nat.pow_le_pow_right (n := 10) (by decide) (Nat.le_trans h hn)
theorem Count_l0 (n : Nat) (hn : n ≤ 4) : ∀ (m i : Nat), i + m = n → Ev (fun k => mask_Count.l0 k ((10 ^ i : Nat) : Int) (n : Int) (i : Int)) ((10 ^ n : Nat) : Int)
  | 0, i, e => by
    obtain rfl : i = n := by omega
    exact Ev.step (f := fun _ => some ((10 ^ i : Nat) : Int)) (fun k => by rw [mask_Count.l0, if_neg (by omega)]) (Ev.now _)
  | m + 1, i, e => by
    have ih := Count_l0 n hn m (i + 1) (by omega)
    have hp := pow_small (m := i) (n := n) (by omega) hn
    refine Ev.step (fun k => ?_) ih
    rw [mask_Count.l0, if_pos (by omega)]
    have e1 : wrap64 (((10 ^ i : Nat) : Int) * 10) = ((10 ^ (i + 1) : Nat) : Int) := by
      rw [Nat.pow_succ, Int.natCast_mul]
      generalize (10 ^ i : Nat) = q at hp ⊢
      rw [w64 (by omega) (by omega)]; rfl
    have e2 : wrap64 ((i : Int) + 1) = ((i + 1 : Nat) : Int) := by rw [w64 (by omega) (by omega)]; rfl
    rw [e1, e2]
def countV (s : ByteArray) : Int := if saneL s.data.toList = true then ((10 ^ xs s.data.toList : Nat) : Int) else 0
theorem Count_f (s : ByteArray) : Ev (fun k => mask_Count.f k s) (countV s) := by
  refine Ev.bnow (x := saneL s.data.toList) rfl ?_
  unfold countV
  by_cases hs : saneL s.data.toList = true
  · rw [if_pos hs]
    have h4 := (sane_all hs).2.2
    have hx := xs_len s.data.toList
    refine Ev.ift hs (Ev.bnow (x := ((xs s.data.toList : Nat) : Int)) (by unfold strings_Count.f; rw [if_pos rfl, xs_count]) ?_)
    exact Count_l0 (xs s.data.toList) (by omega) (xs s.data.toList) 0 (by omega)
  · rw [if_neg hs]
    exact Ev.iff_ hs (Ev.now _)
def refR : List UInt8 → Nat → Bool
  | [], _ => true
  | c :: r, u => (decide (c.toNat = 88) || decide (c.toNat = 48 + u % 10)) && refR r (u / 10)
def refV (s : List UInt8) (n : Int) : Bool := saneL s && decide (0 ≤ n) && decide (n < ((10 ^ s.length : Nat) : Int)) && refR s.reverse n.toNat
def dg : Nat → Nat → List UInt8
  | 0, _ => []
  | m + 1, u => dg m (u / 10) ++ [UInt8.ofNat (48 + u % 10)]
theorem dg_len : ∀ m u, (dg m u).length = m
  | 0, _ => rfl
  | m + 1, u => by rw [dg, List.length_append, dg_len m]; rfl
theorem dg_zero : ∀ m, dg m 0 = List.replicate m 48
  | 0 => rfl
  | m + 1 => by rw [dg, Nat.zero_div, dg_zero m, List.replicate_succ']; rfl
theorem dec_len : ∀ m u, (Lib.decDigits u).length ≤ m + 1 ↔ u < 10 ^ (m + 1)
  | 0, u => by
    by_cases h : u < 10
    · rw [dec1 h]; simp; exact h
    · rw [decS h, List.length_append, List.length_singleton]
      have h1 : 1 ≤ (Lib.decDigits (u / 10)).length := by
        by_cases h2 : u / 10 < 10
        · rw [dec1 h2]; simp
        · rw [decS h2]; simp
      rw [Nat.zero_add, Nat.pow_one]; omega
  | m + 1, u => by
    by_cases h : u < 10
    · rw [dec1 h]
      have : 10 ^ 1 ≤ 10 ^ (m + 1 + 1) := Nat.pow_le_pow_right (by decide) (by omega)
      simp; omega
    · rw [decS h, List.length_append, List.length_singleton]
      have ih := dec_len m (u / 10)
      rw [Nat.pow_succ]
      generalize (10 ^ (m + 1) : Nat) = q at ih ⊢
      omega
theorem padded_dg : ∀ m u, u < 10 ^ (m + 1) → padded (m + 1) (Lib.decDigits u) = dg (m + 1) u
  | 0, u, h => by
    have h : u < 10 := by simpa using h
    rw [dec1 h, dg, dg, Nat.mod_eq_of_lt h]; rfl
  | m + 1, u, h => by
    by_cases h1 : u < 10
    · rw [dec1 h1, dg, Nat.div_eq_of_lt h1, dg_zero, Nat.mod_eq_of_lt h1]
      rfl
    · have h2 : u / 10 < 10 ^ (m + 1) := by rw [Nat.pow_succ] at h; omega
      have ih := padded_dg m (u / 10) h2
      rw [decS h1, dg, ← ih]
      unfold padded
      rw [← List.append_assoc, List.length_append, List.length_singleton]
      congr 3
      omega
theorem agree_snoc : ∀ (l t : List UInt8) (c d : UInt8), l.length = t.length → agree (l ++ [c]) (t ++ [d]) = (agree l t && (decide (c.toNat = 88) || decide (c.toNat = d.toNat)))
  | [], [], c, d, _ => by simp [agree]
  | [], _ :: _, _, _, h => by simp at h
  | _ :: _, [], _, _, h => by simp at h
  | x :: l, y :: t, c, d, h => by
    simp only [List.cons_append, agree]
    rw [agree_snoc l t c d (by simpa using h), Bool.and_assoc]
theorem agree_ref : ∀ (r : List UInt8) (u : Nat), agree r.reverse (dg r.length u) = refR r u
  | [], _ => rfl
  | c :: r, u => by
    rw [List.reverse_cons, List.length_cons, dg, agree_snoc _ _ _ _ (by rw [List.length_reverse, dg_len]), agree_ref r (u / 10), refR, Bool.and_comm]
    congr 2
    have : (UInt8.ofNat (48 + u % 10)).toNat = 48 + u % 10 := by
      rw [UInt8.toNat_ofNat']; omega
    rw [this]
theorem match_ref (l : List UInt8) (n : Int) : matchL l n = refV l n := by
  unfold matchL refV
  by_cases hs : saneL l = true
  · by_cases h0 : 0 ≤ n
    · obtain ⟨u, rfl⟩ := Int.eq_ofNat_of_zero_le h0
      obtain ⟨a1, a2, a3⟩ := sane_all hs
      obtain ⟨m, hm⟩ : ∃ m, l.length = m + 1 := ⟨l.length - 1, by have : l.length ≠ 0 := fun e => a2 (List.length_eq_zero_iff.1 e); omega⟩
      have hi : Lib.itoa (u : Int) = Lib.decDigits u := by unfold Lib.itoa; rw [if_neg (by omega)]; rfl
      rw [hs, decide_eq_true h0, hi, hm, Bool.true_and, Bool.true_and, Int.toNat_natCast]
      by_cases hu : u < 10 ^ (m + 1)
      · rw [decide_eq_true ((dec_len m u).2 hu), decide_eq_true (p := (u : Int) < _) (Int.ofNat_lt.2 hu), Bool.true_and, padded_dg m u hu, ← hm]
        have := agree_ref l.reverse u
        rw [List.reverse_reverse, List.length_reverse] at this
        rw [this]
        rfl
      · rw [decide_eq_false (fun h => hu ((dec_len m u).1 h)), decide_eq_false (p := (u : Int) < _) (fun h => hu (Int.ofNat_lt.1 h))]
        rfl
    · rw [decide_eq_false h0]; simp
  · rw [Bool.eq_false_iff.mpr hs]; rfl
def gap : Int → List S37 → Prop
  | _, [] => True
  | a, r :: t => a + 2 ≤ r.f0 ∧ r.f0 ≤ r.f1 ∧ gap r.f1 t
theorem gap_le {a b : Int} {l : List S37} (h : gap a l) (hb : b ≤ a) : gap b l := by
  cases l with
  | nil => trivial
  | cons r t => exact ⟨by have := h.1; omega, h.2.1, h.2.2⟩
theorem gap_app : ∀ {u : List S37} {a c : Int} {v : List S37}, gap a u → (∀ x, x ∈ u → x.f1 ≤ c) → a ≤ c → gap c v → gap a (u ++ v)
  | [], a, c, v, _, _, hc, hv => gap_le hv hc
  | x :: u, a, c, v, ⟨h1, h2, h3⟩, hu, hc, hv => ⟨h1, h2, gap_app h3 (fun y hy => hu y (List.mem_cons_of_mem _ hy)) (hu x List.mem_cons_self) hv⟩
theorem gap_sane : ∀ {l : List S37} {a : Int}, gap a l → (∀ x, x ∈ l → x.f1 ≤ lim) → saneF a l
  | [], _, _, _ => trivial
  | x :: l, a, ⟨h1, h2, h3⟩, h => ⟨h1, h2, h x List.mem_cons_self, gap_sane h3 (fun y hy => h y (List.mem_cons_of_mem _ hy))⟩
theorem gap_ones (c : Int) : ∀ (m : Nat) (lo a : Int), a + 2 ≤ lo * 10 + (c - 48) → gap a ((upto lo m).map (one c))
  | 0, _, _, _ => trivial
  | m + 1, lo, a, h => ⟨h, Int.le_refl _, gap_ones c m (lo + 1) _ (by simp only [one]; omega)⟩
theorem gap_step (c : UInt8) (hc : 48 ≤ c.toNat ∧ c.toNat ≤ 57 ∨ c.toNat = 88) : ∀ (l : List S37) (a : Int), gap a l → gap (10 * a + 9) (l.flatMap (stepR c))
  | [], _, _ => trivial
  | q :: l, a, ⟨h1, h2, h3⟩ => by
    rw [List.flatMap_cons]
    refine gap_app (c := 10 * q.f1 + 9) ?_ ?_ (by omega) (gap_step c hc l q.f1 h3)
    · unfold stepR
      split
      · exact ⟨by simp only; omega, by simp only; omega, trivial⟩
      · exact gap_ones (c.toNat : Int) _ q.f0 _ (by omega)
    · intro x hx
      unfold stepR at hx
      split at hx
      · obtain rfl := List.mem_singleton.1 hx
        simp only; omega
      · obtain ⟨n, hn, rfl⟩ := List.mem_map.1 hx
        have := (upto_mem _ _ _).1 hn
        simp only; omega
theorem gap_set : ∀ (r : List UInt8), (∀ c, c ∈ r → 48 ≤ c.toNat ∧ c.toNat ≤ 57 ∨ c.toNat = 88) → gap (-((10 ^ r.length : Nat) : Int) - 1) (setL r.reverse [(⟨0, 0⟩ : S37)])
  | [], _ => ⟨by decide, Int.le_refl _, trivial⟩
  | c :: r, h => by
    have ih := gap_step c (h c List.mem_cons_self) _ _ (gap_set r (fun x hx => h x (List.mem_cons_of_mem _ hx)))
    rw [List.reverse_cons, setL_snoc, List.length_cons, Nat.pow_succ]
    refine gap_le ih ?_
    rw [Int.natCast_mul]
    generalize ((10 ^ r.length : Nat) : Int) = q
    omega
theorem mem_step (c : UInt8) (hc : 48 ≤ c.toNat ∧ c.toNat ≤ 57 ∨ c.toNat = 88) (l : List S37) (n : Int) : mem (l.flatMap (stepR c)) n ↔ mem l (n / 10) ∧ (c.toNat = 88 ∨ (c.toNat : Int) = 48 + n % 10) := by
  constructor
  · rintro ⟨x, hx, h1, h2⟩
    obtain ⟨q, hq, hx⟩ := List.mem_flatMap.1 hx
    unfold stepR at hx
    by_cases h : c.toNat = 88
    · rw [if_pos h] at hx
      obtain rfl := List.mem_singleton.1 hx
      simp only at h1 h2
      exact ⟨⟨q, hq, by omega, by omega⟩, .inl h⟩
    · rw [if_neg h] at hx
      obtain ⟨m, hm, rfl⟩ := List.mem_map.1 hx
      have hm := (upto_mem _ _ _).1 hm
      simp only at h1 h2
      exact ⟨⟨q, hq, by omega, by omega⟩, .inr (by omega)⟩
  · rintro ⟨⟨q, hq, h1, h2⟩, h⟩
    by_cases h8 : c.toNat = 88
    · exact ⟨⟨q.f0 * 10, q.f1 * 10 + 9⟩, List.mem_flatMap.2 ⟨q, hq, by unfold stepR; rw [if_pos h8]; exact List.mem_singleton.2 rfl⟩, by simp only; omega, by simp only; omega⟩
    · have h9 := h.resolve_left h8
      refine ⟨⟨(n / 10) * 10 + ((c.toNat : Int) - 48), (n / 10) * 10 + ((c.toNat : Int) - 48)⟩, List.mem_flatMap.2 ⟨q, hq, ?_⟩, by simp only; omega, by simp only; omega⟩
      unfold stepR
      rw [if_neg h8]
      exact List.mem_map.2 ⟨n / 10, (upto_mem _ _ _).2 ⟨h1, by omega⟩, rfl⟩
theorem mem_set : ∀ (r : List UInt8), (∀ c, c ∈ r → 48 ≤ c.toNat ∧ c.toNat ≤ 57 ∨ c.toNat = 88) → ∀ n : Int, mem (setL r.reverse [(⟨0, 0⟩ : S37)]) n ↔ 0 ≤ n ∧ n < ((10 ^ r.length : Nat) : Int) ∧ refR r n.toNat = true
  | [], _, n => by
    rw [List.reverse_nil, setL, mem_cons]
    simp [mem_nil, refR]; omega
  | c :: r, h, n => by
    have ih := mem_set r (fun x hx => h x (List.mem_cons_of_mem _ hx)) (n / 10)
    rw [List.reverse_cons, setL_snoc, mem_step c (h c List.mem_cons_self), ih, List.length_cons, Nat.pow_succ, Int.natCast_mul, refR, Bool.and_eq_true, Bool.or_eq_true, decide_eq_true_eq, decide_eq_true_eq]
    generalize ((10 ^ r.length : Nat) : Int) = q
    constructor
    · rintro ⟨⟨h1, h2, h3⟩, h4⟩
      have e : (n / 10).toNat = n.toNat / 10 := by omega
      rw [e] at h3
      exact ⟨by omega, by show n < q * 10; omega, by omega, h3⟩
    · rintro ⟨h1, h2, h4, h3⟩
      have e : (n / 10).toNat = n.toNat / 10 := by omega
      have h2 : n < q * 10 := h2
      rw [e]
      exact ⟨⟨by omega, by omega, h3⟩, by omega⟩
theorem sane_ok {l : List UInt8} (hs : saneL l = true) : ∀ c, c ∈ l.reverse → 48 ≤ c.toNat ∧ c.toNat ≤ 57 ∨ c.toNat = 88 := fun c hc => of_decide_eq_true (List.all_eq_true.1 (sane_all hs).1 c (List.mem_reverse.1 hc))
theorem set_is (s : ByteArray) (hs : saneL s.data.toList = true) : sane (setL s.data.toList [⟨0, 0⟩]) ∧ ∀ n, mem (setL s.data.toList [⟨0, 0⟩]) n ↔ refV s.data.toList n = true := by
  have h1 := gap_set s.data.toList.reverse (sane_ok hs)
  have h2 := mem_set s.data.toList.reverse (sane_ok hs)
  have hf := setL_fine s hs
  rw [List.reverse_reverse, List.length_reverse] at h1 h2
  have hp := pow_small (m := s.data.toList.length) (n := 4) (sane_all hs).2.2 (by omega)
  refine ⟨saneF_le (gap_sane h1 (fun x hx => by have := (hf x hx).2.2; unfold lim; omega)) (by unfold lim; omega), fun n => ?_⟩
  rw [h2 n]
  unfold refV
  rw [hs, Bool.true_and, Bool.and_eq_true, Bool.and_eq_true, decide_eq_true_eq, decide_eq_true_eq, and_assoc]
def setV (s : ByteArray) : List S37 := if saneL s.data.toList = true then setL s.data.toList [⟨0, 0⟩] else []
theorem setV_sane (s : ByteArray) : sane (setV s) := by
  unfold setV
  by_cases hs : saneL s.data.toList = true
  · rw [if_pos hs]; exact (set_is s hs).1
  · rw [if_neg hs]; trivial
theorem setV_len (s : ByteArray) (hs : saneL s.data.toList = true) : (setV s).length = 10 ^ headR s.data.toList.reverse := by
  unfold setV
  rw [if_pos hs]
  have := (runs_of s.data.toList.reverse (sane_ok hs)).1
  rwa [List.reverse_reverse] at this
theorem headR_le (s : ByteArray) (hs : saneL s.data.toList = true) : headR s.data.toList.reverse ≤ 4 := by
  have h2 := headTail s.data.toList.reverse
  have h4 := xs_len s.data.toList.reverse
  rw [List.length_reverse] at h4
  have h5 := (sane_all hs).2.2
  omega
theorem setV_short (s : ByteArray) : (setV s).length ≤ 10000 := by
  by_cases hs : saneL s.data.toList = true
  · rw [setV_len s hs]; exact pow_small (headR_le s hs) (Nat.le_refl 4)
  · unfold setV; rw [if_neg hs]; exact Nat.zero_le _
theorem xs_app : ∀ (a b : List UInt8), xs (a ++ b) = xs a + xs b
  | [], b => by simp [xs]
  | c :: a, b => by rw [List.cons_append, xs, xs, xs_app a b]; omega
theorem RSane_l0 : ∀ (t p : List S37) (last : Int), (p ++ t).length ≤ 4611686018427387904 → -lim - 2 ≤ last → last ≤ lim →
    ∃ b, Ev (fun k => runs_Sane.l0 k last (p ++ t) ((p ++ t).length : Int) (p.length : Int)) b ∧ (b = true ↔ saneF last t)
  | [], p, last, _, _, _ => ⟨true, Ev.step (f := fun _ => some true) (fun k => by simp only [runs_Sane.l0]; rw [if_neg (at_end p)]) (Ev.now true), by simp [saneF]⟩
  | r :: t, p, last, hn, h1, h2 => by
    have e : ∀ k, runs_Sane.l0 (k + 1) last (p ++ r :: t) ((p ++ r :: t).length : Int) (p.length : Int) = (if r.f0 > r.f1 then some false else if r.f0 < last + 2 then some false else if r.f1 > 1099511627776 then some false else runs_Sane.l0 k r.f1 (p ++ r :: t) ((p ++ r :: t).length : Int) ((p ++ [r]).length : Int)) := fun k => by
      simp only [runs_Sane.l0]
      rw [if_pos (at_lt p r t), if_pos (at_0 p), if_pos (at_lt p r t), at_rd, at_next hn, w64 (by unfold lim at h1; omega) (by unfold lim at h2; omega)]
    by_cases c1 : r.f0 > r.f1
    · exact ⟨false, Ev.step (f := fun _ => some false) (fun k => by rw [e, if_pos c1]) (Ev.now _), by simp [saneF]; omega⟩
    by_cases c2 : r.f0 < last + 2
    · exact ⟨false, Ev.step (f := fun _ => some false) (fun k => by rw [e, if_neg c1, if_pos c2]) (Ev.now _), by simp [saneF]; omega⟩
    by_cases c3 : r.f1 > 1099511627776
    · exact ⟨false, Ev.step (f := fun _ => some false) (fun k => by rw [e, if_neg c1, if_neg c2, if_pos c3]) (Ev.now _), by simp [saneF, lim]; omega⟩
    obtain ⟨b, hb, hs⟩ := RSane_l0 t (p ++ [r]) r.f1 (by rw [← at_app]; exact hn) (by omega) (by unfold lim; omega)
    rw [← at_app] at hb
    refine ⟨b, Ev.step (fun k => by rw [e, if_neg c1, if_neg c2, if_neg c3]) hb, ?_⟩
    rw [hs, saneF]
    unfold lim
    exact ⟨fun h => ⟨by omega, by omega, by omega, h⟩, fun h => h.2.2.2⟩
theorem RSane_f (l : List S37) (hn : l.length ≤ 4611686018427387904) : ∃ b, Ev (fun k => runs_Sane.f k l) b ∧ (b = true ↔ sane l) := by
  obtain ⟨b, hb, hs⟩ := RSane_l0 l [] (-lim - 2) (by simpa using hn) (by omega) (by unfold lim; omega)
  exact ⟨b, hb, hs⟩
theorem known_f (l : List S37) (hsn : sane l) (hn : l.length < 4398046511104) : Ev (fun k => runs_known.f k l) (norm l) := by
  obtain ⟨b, hb, hs⟩ := RSane_f l (by omega)
  refine Ev.bind hb ?_
  cases b with
  | true => exact Ev.congr (fun k => by rw [if_pos rfl, norm_of_sane hsn]) (Ev.now (norm l))
  | false => exact absurd (hs.2 hsn) (by simp)
theorem ins_len : ∀ (s : List S37) (x : S37), (ins x s).length ≤ s.length + 1
  | [], x => by unfold ins; simp
  | q :: t, x => by
    unfold ins
    split
    · have := ins_len t x; simp; omega
    · split
      · simp
      · have := ins_len t ⟨min x.f0 q.f0, max x.f1 q.f1⟩; simp; omega
theorem fold_len : ∀ (l s : List S37), (l.foldl step s).length ≤ s.length + l.length
  | [], s => by simp
  | r :: l, s => by
    have h1 := fold_len l (step s r)
    have h2 : (step s r).length ≤ s.length + 1 := by unfold step; split; exact ins_len _ _; omega
    simp; omega
theorem norm_len (l : List S37) : (norm l).length ≤ l.length := by have := fold_len l []; simpa [norm] using this
theorem saneF_rising : ∀ {a : Int} {l : List S37}, saneF a l → risingHi l = true ∧ ∀ q, q ∈ l → a < q.f1
  | _, [], _ => ⟨rfl, fun q h => by simp at h⟩
  | a, r :: t, ⟨h1, h2, h3, h4⟩ => by
    obtain ⟨i1, i2⟩ := saneF_rising h4
    refine ⟨?_, ?_⟩
    · unfold risingHi
      rw [i1, Bool.and_true, List.all_eq_true]
      intro q hq
      have := i2 q hq
      simp; omega
    · intro q hq
      rcases List.mem_cons.1 hq with rfl | hq
      · omega
      · have := i2 q hq; omega
theorem at_f {l : List S37} (h : sane l) (hn : l.length < 4398046511104) (n : Int) : runs_at.f l n = some ((l.countP fun r => decide (r.f1 < n) : Nat) : Int) := by
  unfold runs_at.f
  rw [if_pos ⟨(saneF_rising h).1, hn⟩]
theorem parted : ∀ {a : Int} {l : List S37} (_ : saneF a l) (n : Int), ∃ p t, l = p ++ t ∧ p.length = l.countP (fun r => decide (r.f1 < n)) ∧ (∀ r, r ∈ p → r.f1 < n) ∧ (∀ r, r ∈ t → n ≤ r.f1)
  | _, [], _, n => ⟨[], [], rfl, rfl, fun r h => by simp at h, fun r h => by simp at h⟩
  | a, r :: t, ⟨h1, h2, h3, h4⟩, n => by
    by_cases c : r.f1 < n
    · obtain ⟨p, s, e1, e2, e3, e4⟩ := parted h4 n
      refine ⟨r :: p, s, by rw [e1]; rfl, ?_, ?_, e4⟩
      · rw [List.countP_cons_of_pos (by simpa using c), ← e2]; rfl
      · intro q hq
        rcases List.mem_cons.1 hq with rfl | hq
        · exact c
        · exact e3 q hq
    · have hall : ∀ q, q ∈ r :: t → n ≤ q.f1 := fun q hq => by
        rcases List.mem_cons.1 hq with rfl | hq
        · omega
        · have := (saneF_rising h4).2 q hq; omega
      refine ⟨[], r :: t, rfl, ?_, fun q h => by simp at h, hall⟩
      rw [eq_comm, List.length_nil, List.countP_eq_zero]
      intro q hq
      have := hall q hq
      simp; omega
theorem mx_max (a b : Int) : mx a b = max a b := by unfold mx; omega
def nextOf (s : List S37) (n : Int) (r : Int × Bool) : Prop := (r.2 = true ∧ mem s r.1 ∧ n ≤ r.1 ∧ ∀ m, mem s m → n ≤ m → r.1 ≤ m) ∨ (r = (0, false) ∧ ∀ m, mem s m → m < n)
theorem nextOf_at {a : Int} {p t : List S37} {r : S37} {n : Int} (h : saneF a (p ++ r :: t)) (hp : ∀ q, q ∈ p → q.f1 < n) (hr : n ≤ r.f1) : nextOf (p ++ r :: t) n (max n r.f0, true) := by
  have hs : ∀ {a : Int} {p : List S37}, saneF a (p ++ r :: t) → (∃ b, saneF b (r :: t)) := by
    intro a p
    induction p generalizing a with
    | nil => exact fun h => ⟨a, h⟩
    | cons q p ih => exact fun h => ih h.2.2.2
  obtain ⟨b, h1, h2, h3, h4⟩ := hs h
  left
  refine ⟨rfl, ?_, by simp only; omega, ?_⟩
  · rw [mem_append, mem_cons]
    right; left; simp only; omega
  · intro m hm hn
    rw [mem_append, mem_cons] at hm
    rcases hm with ⟨q, hq, hm⟩ | hm | hm
    · have := hp q hq; omega
    · simp only; omega
    · have := saneF_mem h4 hm; simp only; omega
theorem nextOf_none {s : List S37} {n : Int} (h : ∀ q, q ∈ s → q.f1 < n) : nextOf s n (0, false) :=
  .inr ⟨rfl, fun m ⟨q, hq, hm⟩ => by have := h q hq; omega⟩
theorem RNext_f (l : List S37) (hsn : sane l) (hn : l.length < 4398046511104) (n : Int) : ∃ r, Ev (fun k => runs_Next.f k l n) r ∧ nextOf (norm l) n r := by
  have hs := norm_sane l
  have hl := norm_len l
  obtain ⟨p, t, e1, e2, e3, e4⟩ := parted hs n
  have hat := at_f hs (by omega) n
  rw [← e2] at hat
  cases t with
  | nil =>
    refine ⟨(0, false), Ev.bind (known_f l hsn hn) (Ev.congr (fun k => ?_) (Ev.now (0, false))), nextOf_none (by rw [e1]; simpa using e3)⟩
    rw [hat, Option.bind_some, if_pos (by rw [e1]; simp)]
  | cons r t =>
    have h1 := nextOf_at (n := n) (by rw [← e1]; exact hs) e3 (e4 r List.mem_cons_self)
    rw [← e1] at h1
    refine ⟨_, Ev.bind (known_f l hsn hn) (Ev.congr (fun k => ?_) (Ev.now _)), h1⟩
    rw [hat, Option.bind_some, e1, if_neg (by simp; omega), if_pos (at_0 p), if_pos (at_lt p r t), at_rd, mx_max]
theorem nextOf_has {s : List S37} {n : Int} {r : Int × Bool} (h : nextOf s n r) : (r.2 = true ∧ r.1 = n) ↔ mem s n := by
  constructor
  · rintro ⟨h1, h2⟩
    rcases h with ⟨_, h, _⟩ | ⟨h, _⟩
    · rwa [h2] at h
    · rw [h] at h1; simp at h1
  · intro hm
    rcases h with ⟨h1, h2, h3, h4⟩ | ⟨_, h⟩
    · have := h4 n hm (Int.le_refl _)
      exact ⟨h1, by omega⟩
    · have := h n hm; omega
theorem RHas_f (l : List S37) (hsn : sane l) (hn : l.length < 4398046511104) (n : Int) : ∃ b, Ev (fun k => runs_Has.f k l n) b ∧ (b = true ↔ mem (norm l) n) := by
  obtain ⟨⟨m, ok⟩, hr, h⟩ := RNext_f l hsn hn n
  rw [← nextOf_has h]
  cases ok with
  | true => exact ⟨m == n, Ev.bind hr (Ev.congr (fun k => by rw [if_pos rfl]) (Ev.now _)), by simp⟩
  | false => exact ⟨false, Ev.bind hr (Ev.congr (fun k => by rw [if_neg (by simp)]) (Ev.now _)), by simp⟩
theorem RCount_l0 : ∀ (t p : List S37) (a b : Int), (p ++ t).length ≤ 4611686018427387904 → saneF b t → -lim - 2 ≤ b → b ≤ lim → 0 ≤ a → a ≤ b + lim + 2 →
    Ev (fun k => runs_Count.l0 k a (p ++ t) ((p ++ t).length : Int) (p.length : Int)) (a + cnt t)
  | [], p, a, b, _, _, _, _, _, _ => Ev.step (f := fun _ => some (a + cnt [])) (fun k => by simp only [runs_Count.l0]; rw [if_neg (at_end p)]; simp [cnt]) (Ev.now _)
  | r :: t, p, a, b, hn, ⟨s1, s2, s3, s4⟩, h1, h2, h3, h4 => by
    have ih := RCount_l0 t (p ++ [r]) (a + (r.f1 - r.f0 + 1)) r.f1 (by rw [← at_app]; exact hn) s4 (by omega) s3 (by omega) (by omega)
    rw [← at_app] at ih
    refine Ev.step (fun k => ?_) (show Ev _ (a + cnt (r :: t)) by rw [show a + cnt (r :: t) = a + (r.f1 - r.f0 + 1) + cnt t by show a + (_ + _) = _; omega]; exact ih)
    unfold lim at h1 h2 s3 h4
    simp only [runs_Count.l0]
    rw [if_pos (at_lt p r t), if_pos (at_0 p), if_pos (at_lt p r t), at_rd, at_next hn, w64 (x := r.f1 - r.f0) (by omega) (by omega), w64 (x := r.f1 - r.f0 + 1) (by omega) (by omega), w64 (by omega) (by omega)]
theorem RCount_f (l : List S37) (hsn : sane l) (hn : l.length < 4398046511104) : Ev (fun k => runs_Count.f k l) (cnt (norm l)) := by
  have h := RCount_l0 (norm l) [] 0 (-lim - 2) (by have := norm_len l; simp; omega) (norm_sane l) (Int.le_refl _) (by unfold lim; omega) (Int.le_refl _) (by unfold lim; omega)
  rw [Int.zero_add] at h
  exact Ev.bind (known_f l hsn hn) h
theorem cnt_eq (c : Int) : ∀ l : List S37, (∀ q, q ∈ l → q.f1 - q.f0 + 1 = c) → cnt l = (l.length : Int) * c
  | [], _ => by simp [cnt]
  | r :: t, h => by
    have ih := cnt_eq c t (fun q hq => h q (List.mem_cons_of_mem _ hq))
    have h1 := h r List.mem_cons_self
    rw [cnt, ih, List.length_cons, h1, Int.natCast_add, Int.add_mul]
    show c + _ = _ + 1 * c
    omega
theorem cnt_setV (s : ByteArray) : cnt (setV s) = countV s := by
  unfold setV countV
  by_cases hs : saneL s.data.toList = true
  · rw [if_pos hs, if_pos hs]
    obtain ⟨h1, h2⟩ := runs_of s.data.toList.reverse (sane_ok hs)
    rw [List.reverse_reverse] at h1 h2
    rw [cnt_eq _ _ h2, h1, ← Int.natCast_mul, ← Nat.pow_add, headTail]
    have hx : ∀ l : List UInt8, xs l.reverse = xs l := fun l => by
      induction l with
      | nil => rfl
      | cons c l ih => rw [List.reverse_cons, xs_app, ih, xs, xs, xs]; omega
    rw [hx]
  · rw [if_neg hs, if_neg hs]; rfl
theorem MaskSet_t (s : ByteArray) (n : Int) (hn : -9223372036854775808 ≤ n ∧ n ≤ 9223372036854775807) : Ev (fun k => lustrumlaw06_MaskSet.f k s n) true := by
  have hl := setV_short s
  have hsn := setV_sane s
  obtain ⟨b, hb, hbs⟩ := RSane_f (setV s) (by omega)
  obtain rfl := hbs.2 hsn
  obtain ⟨c, hc, hcs⟩ := RHas_f (setV s) hsn (by omega) n
  have hcnt := RCount_f (setV s) hsn (by omega)
  rw [norm_of_sane hsn] at hcs hcnt
  rw [cnt_setV] at hcnt
  refine Ev.bind awake6 (Ev.bnow (x := setV s) rfl (Ev.ift rfl (Ev.bind hb (Ev.ift rfl (Ev.bind hc (Ev.bnow (match_f s n hn) ?_))))))
  have e : c = matchL s.data.toList n := by
    rw [match_ref, Bool.eq_iff_iff, hcs]
    unfold setV
    by_cases hs : saneL s.data.toList = true
    · rw [if_pos hs]; exact (set_is s hs).2 n
    · rw [if_neg hs]
      unfold refV
      rw [Bool.eq_false_iff.mpr hs]
      exact ⟨fun h => absurd h (mem_nil n), fun h => absurd h (by simp)⟩
  rw [e]
  refine Ev.ift (by simp) (Ev.bind hcnt (Ev.bind (Count_f s) (Ev.ift rfl (Ev.bind (Count_f s) (Ev.bnow (x := saneL s.data.toList) rfl (Ev.eq (Ev.now _) ?_))))))
  unfold countV
  by_cases hs : saneL s.data.toList = true
  · have hp : ((10 ^ xs s.data.toList : Nat) : Int) > 0 := Int.ofNat_lt.2 (Nat.pow_pos (by decide)); rw [if_pos hs, hs, decide_eq_true hp]; rfl
  · rw [if_neg hs, Bool.eq_false_iff.mpr hs]; rfl
end Go.Proofs.YtfehdlkklfcnpaaDoor.A