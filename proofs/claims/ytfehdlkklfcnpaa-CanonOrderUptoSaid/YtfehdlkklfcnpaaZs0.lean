/- Walks of functions, and plain facts about what they compute. No conditions. -/
import Derived.Test.YtfehdlkklfcnpaaZsa
import Derived.Test.YtfehdlkklfcnpaaProg
import Derived.Lib.ItoaNum
import Derived.Laws.RangeAny
import Derived.LoopTactic
import Derived.Lib.Join
set_option linter.unusedVariables false
set_option linter.unusedSimpArgs false
namespace Go.Proofs.Ytfehdlkklfcnpaa.A
open Go.RowKit Go.Proofs.YtfehdlkklfcnpaaW.PrintWords Go.Proofs.YtfehdlkklfcnpaaW.PrintLast Go.Proofs.YtfehdlkklfcnpaaW.PrintMore
attribute [local go_sem] max2_int min2_int max_two min_two max_three min_three max_four min_four
def errW : Option Int → Value
  | none => .nilIface
  | some c => .iface 0 (.int .i64 c)
theorem errW_none : errW none = .nilIface := rfl
theorem errW_some (c : Int) : errW (some c) = .iface 0 (.int .i64 c) := rfl
theorem info3 : (Try.prog.info? 3).map (fun i => (i.zero, i.size, i.bytes)) = some (some (.int .i64 0), 1, 8) := by kernel_rfl
theorem info26 : (Try.prog.info? 26).map (fun i => (i.zero, i.size, i.bytes)) = some (some (.agg #[(.int .i64 0), (.int .i64 0), (.string ⟨#[]⟩), (.string ⟨#[]⟩), (.string ⟨#[]⟩), (.bool false), (.bool false), (.slice none 0 0)]), 8, 96) := by kernel_rfl
theorem info86 : (Try.prog.info? 86).map (fun i => (i.zero, i.size, i.bytes)) = some (some (.agg #[(.int .i64 0), (.int .i64 0)]), 2, 16) := by kernel_rfl
structure S86 where
  f0 : Int
  f1 : Int
def z86 : S86 := ⟨(0 : Int), (0 : Int)⟩
def k86 : Kd S86 := Kd.iso (Kd.pair (Kd.int .i64) (Kd.int .i64)) (fun x : S86 => (x.f0, x.f1))
theorem k86_heap : Kd.Heap k86 := Kd.heap_iso _ (Kd.heap_pair (Kd.heap_int .i64) (Kd.heap_int .i64))
theorem k86_open {w : World} {x : S86} {cs : List Value} (h : k86.K w x cs) : cs = [.int .i64 x.f0, .int .i64 x.f1] := by
  obtain ⟨_, _, rfl, rfl, rfl⟩ := h
  exact rfl
theorem k86_mkM (w : World) (base : Nat) (ok : Nat → Prop) (x : S86)  : k86.M w base ok x [.int .i64 x.f0, .int .i64 x.f1] := ⟨[.int .i64 x.f0], [.int .i64 x.f1], rfl, rfl, rfl⟩
def rd_T86 (xs : List S86) (i : Int) : S86 := xs.getD i.toNat z86
theorem at_T86 {w : World} {A : Option Addr} {n : Nat} {xs : List S86} (h : Kd.C k86 w A n xs) (i : Int) (h0 : 0 ≤ i) (h1 : i < n) : ∃ ad , A = some ad ∧ w.cell? (ad.add (i.toNat * 2)) = some (.int .i64 (rd_T86 xs i).f0) ∧ w.cell? ⟨(ad.add (i.toNat * 2)).block, (ad.add (i.toNat * 2)).off + 1, none⟩ = some (.int .i64 (rd_T86 xs i).f1) := by
  obtain ⟨ad, c, e, _, hK, hc0⟩ := Kd.C_get h z86 i h0 h1
  have hc : ∀ j u, c[j]? = some u → w.cell? (ad.add (i.toNat * 2 + j)) = some u := hc0
  obtain rfl := k86_open hK
  exact ⟨ad, e, hc 0 _ rfl, by rw [← add_field _ _ 1 (by omega)]; exact hc 1 _ rfl⟩
structure S23 where
  f0 : Int
  f1 : ByteArray
  f2 : ByteArray
  f3 : ByteArray
def z23 : S23 := ⟨(0 : Int), (⟨#[]⟩ : ByteArray), (⟨#[]⟩ : ByteArray), (⟨#[]⟩ : ByteArray)⟩
def k23 : Kd S23 := Kd.iso (Kd.pair (Kd.int .i64) (Kd.pair Kd.string (Kd.pair Kd.string Kd.string))) (fun x : S23 => (x.f0, x.f1, x.f2, x.f3))
theorem k23_heap : Kd.Heap k23 := Kd.heap_iso _ (Kd.heap_pair (Kd.heap_int .i64) (Kd.heap_pair Kd.heap_string (Kd.heap_pair Kd.heap_string Kd.heap_string)))
theorem k23_open {w : World} {x : S23} {cs : List Value} (h : k23.K w x cs) : cs = [.int .i64 x.f0, .string x.f1, .string x.f2, .string x.f3] := by
  obtain ⟨_, _, rfl, rfl, ⟨_, _, rfl, rfl, ⟨_, _, rfl, rfl, rfl⟩⟩⟩ := h
  exact rfl
theorem k23_mk (w : World) (x : S23)  : k23.K w x [.int .i64 x.f0, .string x.f1, .string x.f2, .string x.f3] := ⟨[.int .i64 x.f0], [.string x.f1, .string x.f2, .string x.f3], rfl, rfl, ⟨[.string x.f1], [.string x.f2, .string x.f3], rfl, rfl, ⟨[.string x.f2], [.string x.f3], rfl, rfl, rfl⟩⟩⟩
structure S26 where
  f0 : Int
  f1 : S23
  f2 : Bool
  f3 : Bool
  f4 : (List S26)
def z26 : S26 := ⟨(0 : Int), z23, false, false, ([] : List S26)⟩
def F26 (d : Kd S26) : Kd S26 := Kd.iso (Kd.pair (Kd.int .i64) (Kd.pair k23 (Kd.pair Kd.bool (Kd.pair Kd.bool (Kd.slice 26 d))))) (fun x : S26 => (x.f0, x.f1, x.f2, x.f3, x.f4))
theorem mono26 : Kd.Mono F26 := Kd.mono_iso _ (Kd.mono_pair (Kd.mono_const _) (Kd.mono_pair (Kd.mono_const _) (Kd.mono_pair (Kd.mono_const _) (Kd.mono_pair (Kd.mono_const _) (Kd.mono_slice 26 Kd.mono_id)))))
theorem sub26 : Kd.Sub F26 [26] := Kd.sub_iso _ (Kd.sub_pair (Kd.sub_const _ (by decide)) (Kd.sub_pair (Kd.sub_const _ (by decide)) (Kd.sub_pair (Kd.sub_const _ (by decide)) (Kd.sub_pair (Kd.sub_const _ (by decide)) (Kd.sub_slice 26 (by decide) Kd.sub_id)))))
theorem sz26 : ∀ n, (Kd.upto F26 8 [26] n).sz = 8 := Kd.upto_sz (fun _ => rfl)
def k26 : Kd S26 := Kd.fix F26 8 [26] sz26 (Kd.upto_E sub26)
theorem k26_heap : Kd.Heap k26 := Kd.heap_fix (fun _ h_ => Kd.heap_iso _ (Kd.heap_pair (Kd.heap_int .i64) (Kd.heap_pair k23_heap (Kd.heap_pair Kd.heap_bool (Kd.heap_pair Kd.heap_bool (Kd.heap_slice 26 h_))))))
theorem k26_open {w : World} {x : S26} {cs : List Value} (h : k26.K w x cs) : ∃ A7 c7, cs = [.int .i64 x.f0, .int .i64 x.f1.f0, .string x.f1.f1, .string x.f1.f2, .string x.f1.f3, .bool x.f2, .bool x.f3, .slice A7 x.f4.length c7] ∧ x.f4.length ≤ c7 ∧ k26.C w A7 x.f4.length x.f4 := by
  obtain ⟨n, h⟩ := h
  cases n with
  | zero => exact h.elim
  | succ n =>
    obtain ⟨_, _, rfl, rfl, ⟨_, _, rfl, s1, ⟨_, _, rfl, rfl, ⟨_, _, rfl, rfl, ⟨A7, c7, rfl, l7, g7⟩⟩⟩⟩⟩ := h
    obtain rfl := k23_open s1
    exact ⟨A7, c7, rfl, l7, Kd.fix_C g7⟩
theorem k26_mk (w : World) (x : S26) {A7 : Option Addr} {c7 : Nat} (l7 : x.f4.length ≤ c7) (g7 : k26.C w A7 x.f4.length x.f4) : k26.K w x [.int .i64 x.f0, .int .i64 x.f1.f0, .string x.f1.f1, .string x.f1.f2, .string x.f1.f3, .bool x.f2, .bool x.f3, .slice A7 x.f4.length c7] := by
  obtain ⟨n7, q7⟩ := Kd.fix_C_back mono26 g7
  have r7 := Kd.upto_C_le mono26 sz26 (show n7 ≤ n7 by omega) q7
  exact ⟨n7 + 1, ⟨[.int .i64 x.f0], [.int .i64 x.f1.f0, .string x.f1.f1, .string x.f1.f2, .string x.f1.f3, .bool x.f2, .bool x.f3, .slice A7 x.f4.length c7], rfl, rfl, ⟨[.int .i64 x.f1.f0, .string x.f1.f1, .string x.f1.f2, .string x.f1.f3], [.bool x.f2, .bool x.f3, .slice A7 x.f4.length c7], rfl, (k23_mk w x.f1 ), ⟨[.bool x.f2], [.bool x.f3, .slice A7 x.f4.length c7], rfl, rfl, ⟨[.bool x.f3], [.slice A7 x.f4.length c7], rfl, rfl, ⟨A7, c7, rfl, l7, r7⟩⟩⟩⟩⟩⟩
theorem k26_openF {W : World} {ok : Nat → Prop} {x : S26} {cs : List Value} (h : Kd.FK k26 W ok x cs) : ∃ A7 c7, cs = [.int .i64 x.f0, .int .i64 x.f1.f0, .string x.f1.f1, .string x.f1.f2, .string x.f1.f3, .bool x.f2, .bool x.f3, .slice A7 x.f4.length c7] ∧ x.f4.length ≤ c7 ∧ Kd.F k26 W ok A7 x.f4.length x.f4 := by
  obtain ⟨A7, c7, rfl, l7, _⟩ := k26_open (Kd.FK_now h)
  exact ⟨A7, c7, rfl, l7, (fun W' hW => by obtain ⟨A7_, c7_, he, l7_, g7_⟩ := k26_open (h W' hW); injection (Option.some.inj (show some (Value.slice A7 x.f4.length c7) = some (Value.slice A7_ x.f4.length c7_) from congrArg (fun l => l[7]?) he)) with ha_ _ _; rw [ha_]; exact g7_)⟩
theorem k26_mkF (W : World) (ok : Nat → Prop) (x : S26) {A7 : Option Addr} {c7 : Nat} (l7 : x.f4.length ≤ c7) (g7 : Kd.F k26 W ok A7 x.f4.length x.f4) : Kd.FK k26 W ok x [.int .i64 x.f0, .int .i64 x.f1.f0, .string x.f1.f1, .string x.f1.f2, .string x.f1.f3, .bool x.f2, .bool x.f3, .slice A7 x.f4.length c7] := fun W2 hW => k26_mk W2 x l7 (g7 W2 hW)
def rd_T26 (xs : List S26) (i : Int) : S26 := xs.getD i.toNat z26
theorem at_T26 {w : World} {A : Option Addr} {n : Nat} {xs : List S26} (h : Kd.C k26 w A n xs) (i : Int) (h0 : 0 ≤ i) (h1 : i < n) : ∃ ad A7 c7, A = some ad ∧ w.cell? (ad.add (i.toNat * 8)) = some (.int .i64 (rd_T26 xs i).f0) ∧ w.cell? ⟨(ad.add (i.toNat * 8)).block, (ad.add (i.toNat * 8)).off + 1, none⟩ = some (.int .i64 (rd_T26 xs i).f1.f0) ∧ w.cell? ⟨(ad.add (i.toNat * 8)).block, (ad.add (i.toNat * 8)).off + 2, none⟩ = some (.string (rd_T26 xs i).f1.f1) ∧ w.cell? ⟨(ad.add (i.toNat * 8)).block, (ad.add (i.toNat * 8)).off + 3, none⟩ = some (.string (rd_T26 xs i).f1.f2) ∧ w.cell? ⟨(ad.add (i.toNat * 8)).block, (ad.add (i.toNat * 8)).off + 4, none⟩ = some (.string (rd_T26 xs i).f1.f3) ∧ w.cell? ⟨(ad.add (i.toNat * 8)).block, (ad.add (i.toNat * 8)).off + 5, none⟩ = some (.bool (rd_T26 xs i).f2) ∧ w.cell? ⟨(ad.add (i.toNat * 8)).block, (ad.add (i.toNat * 8)).off + 6, none⟩ = some (.bool (rd_T26 xs i).f3) ∧ w.cell? ⟨(ad.add (i.toNat * 8)).block, (ad.add (i.toNat * 8)).off + 7, none⟩ = some (.slice A7 (rd_T26 xs i).f4.length c7) ∧ (rd_T26 xs i).f4.length ≤ c7 ∧ k26.C w A7 (rd_T26 xs i).f4.length (rd_T26 xs i).f4 := by
  obtain ⟨ad, c, e, _, hK, hc0⟩ := Kd.C_get h z26 i h0 h1
  have hc : ∀ j u, c[j]? = some u → w.cell? (ad.add (i.toNat * 8 + j)) = some u := hc0
  obtain ⟨A7, c7, rfl, l7, g7⟩ := k26_open hK
  exact ⟨ad, A7, c7, e, hc 0 _ rfl, by rw [← add_field _ _ 1 (by omega)]; exact hc 1 _ rfl, by rw [← add_field _ _ 2 (by omega)]; exact hc 2 _ rfl, by rw [← add_field _ _ 3 (by omega)]; exact hc 3 _ rfl, by rw [← add_field _ _ 4 (by omega)]; exact hc 4 _ rfl, by rw [← add_field _ _ 5 (by omega)]; exact hc 5 _ rfl, by rw [← add_field _ _ 6 (by omega)]; exact hc 6 _ rfl, by rw [← add_field _ _ 7 (by omega)]; exact hc 7 _ rfl, l7, g7⟩
def okB (c : UInt8) : Bool := decide (48 ≤ c.toNat ∧ c.toNat ≤ 57 ∨ c.toNat = 88)
def saneL (l : List UInt8) : Bool := l.all okB && decide (l ≠ []) && decide (l.length ≤ 4)
def mask_Sane.f (s : ByteArray) : Option Bool := some (saneL s.data.toList)
def upto (lo : Int) : Nat → List Int
  | 0 => []
  | n + 1 => lo :: upto (lo + 1) n
def stepR (c : UInt8) (r : S86) : List S86 := if c.toNat = 88 then [⟨r.f0 * 10, r.f1 * 10 + 9⟩] else (upto r.f0 (r.f1 + 1 - r.f0).toNat).map fun n => ⟨n * 10 + ((c.toNat : Int) - 48), n * 10 + ((c.toNat : Int) - 48)⟩
def setL : List UInt8 → List S86 → List S86
  | [], out => out
  | c :: l, out => setL l (out.flatMap (stepR c))
def mask_Set.f (s : ByteArray) : Option (List S86) := some (if saneL s.data.toList = true then setL s.data.toList [⟨0, 0⟩] else [])
theorem width_pos (s : ByteArray) (pos : Nat) (h : pos < s.size) : 1 ≤ (Utf8.decode s pos).2 := by
  by_cases ha : (s[pos]'h).toNat < 128
  · rw [decode_ascii s pos h ha]
    exact Nat.le_refl _
  · exact (decode_high s pos h (by omega)).2
theorem at_list (s : ByteArray) (pos : Nat) (h : pos < s.size) : s.data.toList[pos]? = some (s[pos]'h) := by
  rw [List.getElem?_eq_getElem (by simpa using h)]
  simp [ByteArray.getElem_eq_getElem_data]
theorem drop_at (s : ByteArray) (pos : Nat) (h : pos < s.size) : s.data.toList.drop pos = (s[pos]'h) :: s.data.toList.drop (pos + 1) := by
  have h1 : pos < s.data.toList.length := by simpa using h
  rw [List.drop_eq_getElem_cons h1]
  congr 1
theorem below_iter (w : World) (s : ByteArray) (pos : Nat) : Below w.heap.size w (w.iter s pos) := below_alloc (Below.refl _ _) _
set_option maxHeartbeats 4000000 in
set_option maxRecDepth 1000000 in
theorem mask_Sane.calls (a0 : ByteArray) (r : Bool) (w : World) (h : mask_Sane.f a0 = some r) :
    Calls Try.prog 55 #[.string a0] w fun e w' => e = .returned (.bool r) ∧ Below w.heap.size w w' := by
  obtain rfl := Option.some.inj h
  clear h
  go_enter Try.func55, Try.ntmps55
  go_wp2
  go_loopw [] (fun w' => ∃ pos : Nat, w' = w.iter a0 pos ∧ saneL a0.data.toList = ((a0.data.toList.drop pos).all okB && decide (a0.data.toList ≠ []) && decide (a0.data.toList.length ≤ 4))) (fun w' => a0.size - w'.iterPos w.heap.size)
  case atStart => exact ⟨0, rfl, rfl⟩
  case round =>
    obtain ⟨pos, rfl, hs⟩ := hrel
    by_cases hp : pos < a0.size
    · have hnx : ∀ ty, (Instr.next (.pointer (some ⟨w.heap.size, 0, none⟩)) true ty).run Try.prog (w.iter a0 pos) = _ := fun ty => run_next_any w a0 pos ty hp
      have hwd := width_pos a0 pos hp
      rw [drop_at a0 pos hp, List.all_cons] at hs
      have hb : okB (a0[pos]'hp) = true → Utf8.decode a0 pos = ((a0[pos]'hp).toNat, 1) := fun h => decode_ascii a0 pos hp (by have := of_decide_eq_true h; omega)
      have hn : okB (a0[pos]'hp) = false → ((Utf8.decode a0 pos).1 < 48 ∨ 57 < (Utf8.decode a0 pos).1) ∧ (Utf8.decode a0 pos).1 ≠ 88 := fun h => by
        have h := of_decide_eq_false h
        by_cases ha : (a0[pos]'hp).toNat < 128
        · rw [decode_ascii a0 pos hp ha]; simp only; omega
        · have := (decode_high a0 pos hp (by omega)).1; omega
      generalize hc : ((Utf8.decode a0 pos).1 : Int) = c at hnx
      by_cases hk : okB (a0[pos]'hp) = true
      · have hd := hb hk
        have hk2 := of_decide_eq_true hk
        rw [hd] at hc
        simp only at hc
        have d1 : decide (c < 48) = false := decide_eq_false (by omega)
        rw [hk, Bool.true_and] at hs
        by_cases h88 : c = 88
        · have d2 : decide (57 < c) = true := decide_eq_true (by omega)
          have d3 : (c != 88) = false := by subst h88; rfl
          go_wp2
          go_roundw
          case rel => exact ⟨pos + 1, rfl, hs⟩
          case measure => simp; omega
        · have d2 : decide (57 < c) = false := decide_eq_false (by omega)
          go_wp2
          go_roundw
          case rel => exact ⟨pos + 1, rfl, hs⟩
          case measure => simp; omega
      · have hk := Bool.eq_false_iff.mpr hk
        have hf : saneL a0.data.toList = false := by rw [hs, hk]; rfl
        obtain ⟨h1, h2⟩ := hn hk
        have d3 : (c != 88) = true := by rw [bne_iff_ne]; omega
        by_cases h48 : c < 48
        · have d1 : decide (c < 48) = true := decide_eq_true h48
          go_wp2
          go_ret
          exact ⟨by first | rfl | (rw [hf]; rfl), below_iter _ _ _⟩
        · have d1 : decide (c < 48) = false := decide_eq_false h48
          have d2 : decide (57 < c) = true := decide_eq_true (by omega)
          go_wp2
          go_ret
          exact ⟨by first | rfl | (rw [hf]; rfl), below_iter _ _ _⟩
    · have hnx : ∀ ty, (Instr.next (.pointer (some ⟨w.heap.size, 0, none⟩)) true ty).run Try.prog (w.iter a0 pos) = _ := fun ty => run_next_end w a0 pos ty hp
      rw [List.drop_eq_nil_of_le (by simpa using hp)] at hs
      simp only [List.all_nil, Bool.true_and] at hs
      have HS := A_ hs
      clear hs
      go_wp2
      · rename_i he
        rw [ByteArray.toList_eq] at he
        have hf : saneL a0.data.toList = false := by rw [HS.out, he]; rfl
        go_ret
        exact ⟨by first | rfl | (rw [hf]; rfl), below_iter _ _ _⟩
      · rename_i he
        rw [ByteArray.toList_eq] at he
        have hsz : a0.size = a0.data.toList.length := by simp
        have he3 : a0.toList.isEmpty = false := by rw [ByteArray.toList_eq]; cases hl : a0.data.toList <;> simp_all
        have hf : saneL a0.data.toList = decide ((a0.size : Int) ≤ 4) := by
          rw [HS.out, decide_eq_true he, Bool.true_and, hsz]
          exact decide_eq_decide.2 (by omega)
        clear he hsz HS
        go_ret
        exact ⟨by first | rfl | (rw [hf]; rfl) | (rw [hf, he3]; rfl) | (rw [hf]; simp [he3]), below_iter _ _ _⟩
end Go.Proofs.Ytfehdlkklfcnpaa.A
namespace Go.Proofs.Ytfehdlkklfcnpaa.A.B
open Go.RowKit Go.Proofs.YtfehdlkklfcnpaaW.PrintWords Go.Proofs.YtfehdlkklfcnpaaW.PrintLast Go.Proofs.YtfehdlkklfcnpaaW.PrintMore
attribute [local go_sem] max2_int min2_int max_two min_two max_three min_three max_four min_four
mutual
def mask_Set.l0 : Nat → Int → List (S86) → List (S86) → Int → Int → Option ((List (S86)))
  | 0, _, _, _, _, _ => none
  | k + 1, x5, x6, x21, x22, x23 => if x23 < x22 then (if 0 ≤ x23 then (if x23 < (x21.length : Int) then (if x5 = 88 then (if x6.length < 8796093022208 then (mask_Set.l0 k x5 (x6 ++ [(⟨wrap64 (((rd_T86 x21 x23).f0) * 10), wrap64 ((wrap64 (((rd_T86 x21 x23).f1) * 10)) + 9)⟩ : S86)]) x21 x22 (wrap64 (x23 + 1))) else (none)) else (mask_Set.l1 k x5 x6 ((rd_T86 x21 x23).f0) x21 x22 x23 ((rd_T86 x21 x23).f0) ((rd_T86 x21 x23).f1))) else (none)) else (none)) else (some x6)
def mask_Set.l1 : Nat → Int → List (S86) → Int → List (S86) → Int → Int → Int → Int → Option ((List (S86)))
  | 0, _, _, _, _, _, _, _, _ => none
  | k + 1, x5, x6, x9, x21, x22, x23, x103000, x103001 => if x9 ≤ x103001 then (if x6.length < 8796093022208 then (mask_Set.l1 k x5 (x6 ++ [(⟨wrap64 ((wrap64 (x9 * 10)) + (wrap64 (wrap32 (x5 - 48)))), wrap64 ((wrap64 (x9 * 10)) + (wrap64 (wrap32 (x5 - 48))))⟩ : S86)]) (wrap64 (x9 + 1)) x21 x22 x23 x103000 x103001) else (none)) else (mask_Set.l0 k x5 x6 x21 x22 (wrap64 (x23 + 1)))
end
def mask_Set.f (k : Nat) (l0 : List (S86)) (a1 : Int) : Option ((List (S86))) := mask_Set.l0 k a1 ([] : List (S86)) l0 (l0.length : Int) 0
end Go.Proofs.Ytfehdlkklfcnpaa.A.B
namespace Go.Proofs.Ytfehdlkklfcnpaa.A
open Go.RowKit Go.Proofs.YtfehdlkklfcnpaaW.PrintWords Go.Proofs.YtfehdlkklfcnpaaW.PrintLast Go.Proofs.YtfehdlkklfcnpaaW.PrintMore
attribute [local go_sem] max2_int min2_int max_two min_two max_three min_three max_four min_four
def itset (w : World) (g : Nat) (s : ByteArray) (pos : Nat) : World := { w with heap := w.heap.setIfInBounds g (.stringIter s pos) }
theorem itset_size (w : World) (g : Nat) (s : ByteArray) (pos : Nat) : (itset w g s pos).heap.size = w.heap.size := by simp [itset]
theorem itset_at {w : World} {g : Nat} {s : ByteArray} {pos q : Nat} (h : w.heap[g]? = some (.stringIter s q)) : (itset w g s pos).heap[g]? = some (.stringIter s pos) := by
  have := (Array.getElem?_eq_some_iff.1 h).1
  simp [itset, this]
theorem itset_ne (w : World) (g : Nat) (s : ByteArray) (pos : Nat) {k : Nat} (h : k ≠ g) : (itset w g s pos).heap[k]? = w.heap[k]? := by
  simp [itset, Array.getElem?_setIfInBounds, Ne.symm h]
theorem itset_below {B : Nat} {w0 w : World} {g : Nat} {s : ByteArray} {pos : Nat} (h : Below B w0 w) (hg : B ≤ g) : Below B w0 (itset w g s pos) :=
  ⟨h.os, h.tape, h.output, by rw [itset_size]; exact h.size, fun k hk => (itset_ne w g s pos (by omega)).trans (h.block k hk)⟩
theorem itset_keep (w : World) (g : Nat) (s : ByteArray) (pos : Nat) : KeepBut w (itset w g s pos) g none := ⟨by rw [itset_size]; exact Nat.le_refl _, fun k _ hk _ => itset_ne w g s pos hk⟩
theorem run_next_at {P : Program} {w : World} {g : Nat} {s : ByteArray} {pos : Nat} (ty : TypeId) (hg : w.heap[g]? = some (.stringIter s pos)) (h : pos < s.size) (ha : (s[pos]'h).toNat < 128) :
    (Instr.next (.pointer (some ⟨g, 0, none⟩)) true ty).run P w = .ok (.tuple #[.bool true, .int .i64 pos, .int .i32 (s[pos]'h).toNat]) (itset w g s (pos + 1)) := by
  simp only [Instr.next, getObj, setObj, Sem.run_bind, Sem.run, hg, Result.andThen, h, if_true, decode_ascii s pos h ha]
  simp [goInt, Sem.run, hg, itset]
theorem run_next_done {P : Program} {w : World} {g : Nat} {s : ByteArray} {pos : Nat} (ty : TypeId) (hg : w.heap[g]? = some (.stringIter s pos)) (h : ¬ pos < s.size) :
    (Instr.next (.pointer (some ⟨g, 0, none⟩)) true ty).run P w = .ok (.tuple #[.bool false]) w := by
  simp [Instr.next, getObj, Sem.run, hg, h]
theorem k86_E : k86.E = [] := rfl
theorem ok_of {s : ByteArray} (h : mask_Sane.f s = some true) : ∀ (pos : Nat) (hp : pos < s.size), 48 ≤ (s[pos]'hp).toNat ∧ (s[pos]'hp).toNat ≤ 57 ∨ (s[pos]'hp).toNat = 88 := fun pos hp => by
  have h := Option.some.inj h
  unfold saneL at h
  simp only [Bool.and_eq_true] at h
  have h2 := List.all_eq_true.1 h.1.1 (s[pos]'hp) (List.mem_of_getElem? (at_list s pos hp))
  exact of_decide_eq_true h2
theorem w64 {x : Int} (h1 : -9223372036854775808 ≤ x) (h2 : x ≤ 9223372036854775807) : wrap64 x = x := by unfold wrap64; omega
theorem at_rd (p : List S86) (r : S86) (t : List S86) : rd_T86 (p ++ r :: t) (p.length : Int) = r := by simp [rd_T86]
theorem at_lt {α : Type} (p : List α) (r : α) (t : List α) : (p.length : Int) < ((p ++ r :: t).length : Int) := by simp; omega
theorem at_end {α : Type} (p : List α) : ¬ (p.length : Int) < ((p ++ []).length : Int) := by simp
theorem at_0 {α : Type} (p : List α) : 0 ≤ (p.length : Int) := Int.natCast_nonneg _
theorem at_next {α : Type} {p : List α} {r : α} {t : List α} (h : (p ++ r :: t).length ≤ 4611686018427387904) : wrap64 ((p.length : Int) + 1) = ((p ++ [r]).length : Int) := by
  simp at h
  rw [w64 (by omega) (by omega)]
  simp
theorem at_app {α : Type} (p : List α) (r : α) (t : List α) : p ++ r :: t = (p ++ [r]) ++ t := by simp
theorem Ev.eq {α : Type} {g : Nat → Option α} {r q : α} (h : Ev g r) (e : r = q) : Ev g q := e ▸ h
def one (c n : Int) : S86 := ⟨n * 10 + (c - 48), n * 10 + (c - 48)⟩
theorem upto_len (lo : Int) : ∀ n, (upto lo n).length = n
  | 0 => rfl
  | n + 1 => by rw [upto, List.length_cons, upto_len (lo + 1) n]
theorem set_l1 (c : Int) (hc : 48 ≤ c ∧ c ≤ 57) (x : List S86) (len i lo hi : Int) (hhi : hi < 1000) (z : List S86) : ∀ (m : Nat) (n : Int) (acc : List S86), 0 ≤ n → n + m = hi + 1 → acc.length + m < 8796093022208 →
    Ev (fun k => B.mask_Set.l0 k c (acc ++ (upto n m).map (one c)) x len (wrap64 (i + 1))) z → Ev (fun k => B.mask_Set.l1 k c acc n x len i lo hi) z
  | 0, n, acc, h0, hm, hl, h => by
    simp only [upto, List.map_nil, List.append_nil] at h
    refine Ev.step (fun k => ?_) h
    rw [B.mask_Set.l1, if_neg (by omega)]
  | m + 1, n, acc, h0, hm, hl, h => by
    have e : acc ++ (upto n (m + 1)).map (one c) = (acc ++ [one c n]) ++ (upto (n + 1) m).map (one c) := by rw [upto]; simp
    rw [e] at h
    have ih := set_l1 c hc x len i lo hi hhi z m (n + 1) (acc ++ [one c n]) (by omega) (by omega) (by rw [List.length_append, List.length_singleton]; omega) h
    refine Ev.step (fun k => ?_) ih
    have w1 : wrap32 (c - 48) = c - 48 := by unfold wrap32; omega
    rw [B.mask_Set.l1, if_pos (by omega), if_pos (by omega), w1, w64 (x := n * 10) (by omega) (by omega), w64 (x := c - 48) (by omega) (by omega), w64 (x := n * 10 + (c - 48)) (by omega) (by omega), w64 (x := n + 1) (by omega) (by omega)]
    rfl
def fine (out : List S86) (b : Int) : Prop := ∀ r, r ∈ out → 0 ≤ r.f0 ∧ r.f0 ≤ r.f1 ∧ r.f1 < b
theorem set_l0 (c : UInt8) (hc : 48 ≤ c.toNat ∧ c.toNat ≤ 57 ∨ c.toNat = 88) : ∀ (t p acc : List S86), fine t 1000 → (p ++ t).length < 1000000 → acc.length + t.length * 1000 < 100000000 →
    Ev (fun k => B.mask_Set.l0 k (c.toNat : Int) acc (p ++ t) ((p ++ t).length : Int) (p.length : Int)) (acc ++ t.flatMap (stepR c))
  | [], p, acc, _, _, _ => by
    refine Ev.step (f := fun _ => some (acc ++ [].flatMap (stepR c))) (fun k => ?_) (Ev.now _)
    rw [B.mask_Set.l0, if_neg (at_end p)]; simp
  | r :: t, p, acc, hf, hn, hl => by
    simp only [List.length_cons] at hl
    obtain ⟨f1, f2, f3⟩ := hf r List.mem_cons_self
    have hft : fine t 1000 := fun q hq => hf q (List.mem_cons_of_mem _ hq)
    by_cases h88 : c.toNat = 88
    · have ih := set_l0 c hc t (p ++ [r]) (acc ++ stepR c r) hft (by rw [← at_app]; exact hn) (by unfold stepR; rw [if_pos h88]; simp; omega)
      rw [← at_app] at ih
      refine Ev.eq (Ev.step (fun k => ?_) ih) (by simp)
      rw [B.mask_Set.l0, if_pos (at_lt p r t), if_pos (at_0 p), if_pos (at_lt p r t), if_pos (by omega), if_pos (by omega), at_rd, at_next (p := p) (r := r) (t := t) (by omega), w64 (x := r.f0 * 10) (by omega) (by omega), w64 (x := r.f1 * 10) (by omega) (by omega), w64 (x := r.f1 * 10 + 9) (by omega) (by omega)]
      unfold stepR
      rw [if_pos h88]
    · have hlen : (stepR c r).length = (r.f1 + 1 - r.f0).toNat := by unfold stepR; rw [if_neg h88, List.length_map, upto_len]
      have ih := set_l0 c hc t (p ++ [r]) (acc ++ stepR c r) hft (by rw [← at_app]; exact hn) (by rw [List.length_append, hlen]; omega)
      rw [← at_app] at ih
      have hgo := set_l1 (c.toNat : Int) (by omega) (p ++ r :: t) ((p ++ r :: t).length : Int) (p.length : Int) r.f0 r.f1 f3 (acc ++ stepR c r ++ t.flatMap (stepR c)) (r.f1 + 1 - r.f0).toNat r.f0 acc f1 (by omega) (by omega) (by
        rw [at_next (p := p) (r := r) (t := t) (by omega)]
        have e : (upto r.f0 (r.f1 + 1 - r.f0).toNat).map (one (c.toNat : Int)) = stepR c r := by unfold stepR; rw [if_neg h88]; rfl
        rw [e]
        exact ih)
      refine Ev.eq (Ev.step (fun k => ?_) hgo) (by simp)
      rw [B.mask_Set.l0, if_pos (at_lt p r t), if_pos (at_0 p), if_pos (at_lt p r t), if_neg (by omega), at_rd]
theorem set_body (c : UInt8) (hc : 48 ≤ c.toNat ∧ c.toNat ≤ 57 ∨ c.toNat = 88) (out : List S86) (hf : fine out 1000) (hl : out.length ≤ 1000) : Ev (fun k => B.mask_Set.f k out (c.toNat : Int)) (out.flatMap (stepR c)) := by
  have := set_l0 c hc out [] [] hf (by simp; omega) (by simp; omega)
  simp only [List.nil_append, List.length_nil] at this
  exact this
def lenB : Nat → Nat
  | 0 => 1
  | p + 1 => lenB p * 10 ^ p
theorem upto_mem (lo : Int) : ∀ (n : Nat) (x : Int), x ∈ upto lo n ↔ lo ≤ x ∧ x < lo + n
  | 0, x => by rw [upto]; constructor
               · intro h; cases h
               · intro h; omega
  | n + 1, x => by rw [upto, List.mem_cons, upto_mem (lo + 1) n x]; omega
theorem stepR_fine {c : UInt8} (hc : 48 ≤ c.toNat ∧ c.toNat ≤ 57 ∨ c.toNat = 88) {out : List S86} {b : Int} (h : fine out b) : fine (out.flatMap (stepR c)) (b * 10) := fun r hr => by
  obtain ⟨q, hq, hr⟩ := List.mem_flatMap.1 hr
  obtain ⟨h1, h2, h3⟩ := h q hq
  unfold stepR at hr
  by_cases h88 : c.toNat = 88
  · rw [if_pos h88] at hr
    obtain rfl := List.mem_singleton.1 hr
    simp only; omega
  · rw [if_neg h88] at hr
    obtain ⟨n, hn, rfl⟩ := List.mem_map.1 hr
    have hn := (upto_mem _ _ _).1 hn
    simp only; omega
theorem flat_len {α β : Type} (f : α → List β) (m : Nat) : ∀ l : List α, (∀ x, x ∈ l → (f x).length ≤ m) → (l.flatMap f).length ≤ l.length * m
  | [], _ => by simp
  | x :: l, h => by
    have h1 := h x List.mem_cons_self
    have h2 := flat_len f m l (fun y hy => h y (List.mem_cons_of_mem _ hy))
    rw [List.flatMap_cons, List.length_append, List.length_cons, Nat.succ_mul]
    omega
theorem stepR_len {c : UInt8} {out : List S86} {b : Nat} (hb : 1 ≤ b) (h : fine out b) : (out.flatMap (stepR c)).length ≤ out.length * b := flat_len _ _ _ fun q hq => by
  obtain ⟨h1, h2, h3⟩ := h q hq
  unfold stepR
  split
  · simp; exact hb
  · rw [List.length_map, upto_len]; omega
def setInv (s : ByteArray) (p : Nat) (out : List S86) : Prop := setL (s.data.toList.drop p) out = setL s.data.toList [⟨0, 0⟩] ∧ fine out (10 ^ p : Nat) ∧ out.length ≤ lenB p
theorem setInv_0 (s : ByteArray) : setInv s 0 [⟨0, 0⟩] := ⟨rfl, fun r hr => by obtain rfl := List.mem_singleton.1 hr; exact ⟨Int.le_refl _, Int.le_refl _, by decide⟩, by decide⟩
theorem setInv_step {s : ByteArray} {p : Nat} {out : List S86} (hp : p < s.size) (hok : 48 ≤ (s[p]'hp).toNat ∧ (s[p]'hp).toNat ≤ 57 ∨ (s[p]'hp).toNat = 88) (h : setInv s p out) : setInv s (p + 1) (out.flatMap (stepR (s[p]'hp))) := by
  obtain ⟨h1, h2, h3⟩ := h
  refine ⟨?_, ?_, ?_⟩
  · rw [← h1, drop_at s p hp]; rfl
  · have := stepR_fine hok h2
    rw [Nat.pow_succ]
    have e : (((10 ^ p * 10 : Nat)) : Int) = ((10 ^ p : Nat) : Int) * 10 := by push_cast; rfl
    rw [e]; exact this
  · have := stepR_len (c := s[p]'hp) (Nat.pow_pos (n := p) (by decide : 0 < 10)) h2
    rw [lenB]
    exact Nat.le_trans this (Nat.mul_le_mul_right _ h3)
theorem setInv_small {s : ByteArray} {p : Nat} {out : List S86} (hp : p ≤ 3) (h : setInv s p out) : fine out 1000 ∧ out.length ≤ 1000 := by
  obtain ⟨h1, h2, h3⟩ := h
  have h10 : (10 ^ p : Nat) ≤ 1000 := Nat.pow_le_pow_right (n := 10) (by decide) hp
  have hl : lenB p ≤ 1000 := by
    rcases (by omega : p = 0 ∨ p = 1 ∨ p = 2 ∨ p = 3) with rfl | rfl | rfl | rfl <;> decide
  refine ⟨fun r hr => ?_, by omega⟩
  obtain ⟨a, b, c⟩ := h2 r hr
  have : ((10 ^ p : Nat) : Int) ≤ 1000 := Int.ofNat_le.2 h10
  exact ⟨a, b, by omega⟩
theorem iterPos_of {w : World} {g : Nat} {s : ByteArray} {p : Nat} (h : w.heap[g]? = some (.stringIter s p)) : w.iterPos g = p := by unfold World.iterPos; rw [h]
set_option maxHeartbeats 8000000 in
set_option maxRecDepth 1000000 in
theorem mask_Set.calls (a0 : ByteArray) (rr : List S86) (w00 : World) (h : mask_Set.f a0 = some rr) :
    Calls Try.prog 83 #[.string a0] w00 fun e w' => ∃ v0_ : Value, e = .returned (v0_) ∧ Kd.R k86 86 w' w00.heap.size (fun _ => True) v0_ rr ∧ Below w00.heap.size w00 w' := by
  have hu37 := Try.underlying86
  obtain rfl := Option.some.inj h
  clear h
  have HB := A_ (Below.refl w00.heap.size w00)
  by_cases hs : saneL a0.data.toList = true
  rotate_left
  · have hs := Bool.eq_false_iff.mpr hs
    have AS := A_ (show mask_Sane.f a0 = some false from congrArg some hs)
    rw [hs]
    clear hs
    go_enter Try.func83, Try.ntmps83
    go_wp2_with (first | (refine gC 55 ?_; refine gL 12 Try.func55 #[.string a0] ?_; (with_reducible refine (mask_Sane.calls a0 false _ AS.out).mono ?_); rintro e w5 ⟨rfl, hb⟩; refine ⟨_, rfl, ?_⟩; have HB2 := bs_ hb; clear HB hb; have HB := HB2; clear HB2))
    go_ret
    exact ⟨_, rfl, Kd.R_nil _ _ _ _ _, HB.out⟩
  have AS := A_ (show mask_Sane.f a0 = some true from congrArg some hs)
  rw [if_pos hs]
  have hsz : a0.size = a0.data.toList.length := by simp
  have h4 : a0.size ≤ 4 := by rw [hsz]; unfold saneL at hs; simp only [Bool.and_eq_true, decide_eq_true_eq] at hs; exact hs.2
  have HOK := A_ (ok_of AS.out)
  have H4 := A_ h4
  clear hs hsz h4
  go_enter Try.func83, Try.ntmps83
  go_wp2_with (first | (refine gC 55 ?_; refine gL 12 Try.func55 #[.string a0] ?_; (with_reducible refine (mask_Sane.calls a0 true _ AS.out).mono ?_); rintro e w5 ⟨rfl, hb⟩; refine ⟨_, rfl, ?_⟩; have HB2 := bs_ hb; clear HB hb; have HB := HB2; clear HB2) | (refine gD 15 ?_; refine Kd.R_lit k86 _ 86 ?hg (N := 15) ?hd (xs := ([(⟨0, 0⟩ : S86)] : List S86)) (inner := [.int .i64 0, .int .i64 0]) (ok := fun _ => True) (okp := fun _ => True) ?hr ?hp (fun _ hk => hk) trivial (Below.refl _ _) (Nat.le_refl _) (by simp) ?_; (case hd => rfl); (case hg => rfl); (case hr => first | (go_simp; done) | (go_simp; rfl)); (case hp => exact (Reps.c2 (show Kd.M k86 _ _ _ (⟨0, 0⟩ : S86) [.int .i64 0, .int .i64 0] from (k86_mkM _ _ _ (⟨0, 0⟩ : S86) )) (Reps.none _ _))); intro v3 w13 ho14 hb hg_ hnew_; clear hg_ hnew_; have HO := A_ (Kd.R_lower ho14 (below_size hs_)); have HB2 := bs_ hb; clear HB hb ho14; have HB := HB2; clear HB2))
  obtain ⟨gi, hgi⟩ : ∃ g : Nat, g = w13.heap.size := ⟨_, rfl⟩
  have HI0 := A_ (show (w13.iter a0 0).heap[gi]? = some (.stringIter a0 0) by rw [hgi]; exact World.iter_heap w13 a0 0)
  have HO0 := A_ (show Kd.R k86 86 (w13.iter a0 0) w00.heap.size (fun k => k ≠ gi) v3 [(⟨0, 0⟩ : S86)] from Kd.R_alloc (Kd.R_reok k86_E HO.out (fun k hk => by
    have := Kd.R_lt HO.out
    have h := this k hk
    omega)) _)
  have HB0 := A_ (show Below w00.heap.size w00 (w13.iter a0 0) from below_alloc HB.out _)
  have HG0 := A_ (show w00.heap.size ≤ gi by rw [hgi]; exact HB.out.size)
  rw [← hgi]
  clear HO HB hgi
  go_loopw [3] (fun v3 w' => ∃ (p : Nat) (out : List S86), Aside0 (w'.heap[gi]? = some (.stringIter a0 p)) ∧ Aside0 (Kd.R k86 86 w' w00.heap.size (fun k => k ≠ gi) v3 out) ∧ Aside0 (Below w00.heap.size w00 w') ∧ Aside0 (setInv a0 p out)) (fun _ w' => a0.size - w'.iterPos gi)
  case atStart => exact ⟨0, _, HI0, HO0, HB0, ⟨setInv_0 a0⟩⟩
  case round =>
    clear HI0 HO0 HB0
    obtain ⟨p, l0, HI, HO, HBB, HD⟩ := hrel
    by_cases hp : p < a0.size
    · have hok := HOK.out p hp
      have hnx : ∀ ty, (Instr.next (.pointer (some ⟨gi, 0, none⟩)) true ty).run Try.prog wr = _ := fun ty => run_next_at ty HI.out hp (by omega)
      obtain ⟨hf, hl⟩ := setInv_small (by have := H4.out; omega) HD.out
      obtain ⟨k, hk⟩ := (set_body (a0[p]'hp) hok l0 hf hl).rounds
      have HD2 := A_ (setInv_step hp hok HD.out)
      obtain ⟨r, hr⟩ : ∃ r, r = l0.flatMap (stepR (a0[p]'hp)) := ⟨_, rfl⟩
      rw [← hr] at hk HD2
      obtain ⟨w, hw⟩ : ∃ w, w = itset wr gi a0 (p + 1) := ⟨_, rfl⟩
      rw [← hw] at hnx
      have HIw := A_ (show w.heap[gi]? = some (.stringIter a0 (p + 1)) by rw [hw]; exact itset_at HI.out)
      have HOw := A_ (show Kd.R k86 86 w w00.heap.size (fun k => k ≠ gi) u3 l0 by rw [hw]; exact Kd.R_keep HO.out (itset_keep _ _ _ _) (fun _ h => h))
      have HBw := A_ (show Below w00.heap.size w00 w by rw [hw]; exact itset_below HBB.out HG0.out)
      have hpos := A_ (iterPos_of HI.out)
      have hp2 := A_ hp
      obtain ⟨A0, c0, rfl⟩ := Kd.R_slice HOw.out
      have HR0 := A_ (Kd.R_reads' HOw.out).2.2
      have HC0 := A_ (Kd.R_reads' HOw.out).2.1
      have hend : ∀ (v : Value) (w' : World), Kd.R k86 86 w' w.heap.size (fun _ => True) v r → Below w.heap.size w w' → ∃ (p : Nat) (out : List S86), Aside0 (w'.heap[gi]? = some (.stringIter a0 p)) ∧ Aside0 (Kd.R k86 86 w' w00.heap.size (fun k => k ≠ gi) v out) ∧ Aside0 (Below w00.heap.size w00 w') ∧ Aside0 (setInv a0 p out) := fun v w' h1 h2 =>
        ⟨p + 1, r, ⟨blk_below HIw.out h2⟩, ⟨Kd.R_lower (Kd.R_reok k86_E h1 (fun k hk => by have h3 := Kd.R_base h1 k hk; have h4 := blk_lt HIw.out; omega)) HBw.out.size⟩, ⟨below_step HBw.out h2⟩, HD2⟩
      have hmeas : ∀ (w' : World), Below w.heap.size w w' → a0.size - w'.iterPos gi < a0.size - wr.iterPos gi := fun w' h2 => by
        rw [iterPos_of (blk_below HIw.out h2), hpos.out]; have := hp2.out; omega
      have HEND := A_ hend
      have HMEAS := A_ hmeas
      generalize ((a0[p]'hp).toNat : Int) = a1 at hnx hk
      have H' := A_ (show B.mask_Set.l0 k a1 ([] : List S86) l0 (l0.length : Int) 0 = some r from hk)
      have HB := A_ (Below.refl w.heap.size w)
      clear hk hr hw hf hl hok hend hmeas HD HI HO HBB HOw HIw HBw HD2 hpos hp2 hp
      go_wp2
      go_loopg [6, 23] k (fun kq v6 v23 w' => ∃ (x6_1 : List (S86)) (x23_1 : Int), v23 = .int .i64 x23_1 ∧ Aside0 (B.mask_Set.l0 kq a1 x6_1 l0 (l0.length : Int) x23_1 = some r) ∧ Aside0 (kq ≤ k) ∧ Aside0 (Kd.R k86 86 w' w.heap.size (fun _ => True) v6 x6_1) ∧ Aside0 (Below w.heap.size w w'))
      case atStart => exact ⟨(([] : List (S86))), (0), (by first | rfl | (simp; done) | (simp [*]; done)), H', ⟨Nat.le_refl _⟩, ⟨by first | exact Kd.R_nil _ _ _ _ _ | exact Kd.N_nil _ _ _ _ _ | exact Kd.V_nil _ _ _ _ _ | exact Kd.Q_nil _ _ _ _ _ | exact Kd.S_nil _ _ _ _ _⟩, ⟨hs_⟩⟩
      case round =>
        clear H'
        try clear p2
        obtain ⟨x6_1, x23_1, rfl, HA, HK1, HO_6, HB⟩ := hrel
        cases gk with
        | zero => exact absurd HA.out (by simp [B.mask_Set.l0])
        | succ k1 =>
          have H := HA.out
          clear HA
          simp only [B.mask_Set.l0] at H
          by_cases c3 : x23_1 < (l0.length : Int)
          · rw [if_pos c3] at H
            have c3b0 := decide_eq_true c3
            clear c3
            by_cases c4 : 0 ≤ x23_1
            · rw [if_pos c4] at H
              have c4b0 := decide_eq_true c4
              clear c4
              by_cases c5 : x23_1 < (l0.length : Int)
              · rw [if_pos c5] at H
                have c5b0 := decide_eq_true c5
                clear c5
                by_cases c6 : a1 = 88
                · rw [if_pos c6] at H
                  have c6b0 : (a1 == 88) = true := beq_iff_eq.mpr c6
                  have c6b1 : (a1 != 88) = false := bne_eq_false_iff_eq.mpr c6
                  clear c6
                  by_cases c7 : x6_1.length < 8796093022208
                  · rw [if_pos c7] at H
                    have LMc7 := A_ c7
                    clear c7
                    obtain ⟨y103, hy103⟩ : ∃ y_ : List (S86), y_ = (x6_1 ++ [(⟨wrap64 (((rd_T86 l0 x23_1).f0) * 10), wrap64 ((wrap64 (((rd_T86 l0 x23_1).f1) * 10)) + 9)⟩ : S86)]) := ⟨_, rfl⟩
                    replace H : (B.mask_Set.l0 k1 a1 y103 l0 (l0.length : Int) (wrap64 (x23_1 + 1))) = some r := by first | (rw [hy103]; with_reducible exact H) | (have H2_ := (Option.bind_some _ _).symm.trans H; rw [hy103]; with_reducible exact H2_) | (have H2_ := (Option.bind_some _ _).symm.trans H; with_reducible exact H2_) | with_reducible exact H | (rw [hy103]; exact H) | exact H
                    have Ny103 := A_ hy103
                    clear hy103
                    have H' := A_ H
                    clear H
                    have p101 : 0 ≤ (x23_1 : Int) := of_decide_eq_true (by first | (with_reducible assumption) | assumption)
                    have q101 : x23_1 < (l0.length : Int) := of_decide_eq_true (by first | (with_reducible assumption) | assumption)
                    obtain ⟨ad101, e101, hx101_0, hx101_1⟩ := at_T86 HR0.out x23_1 p101 q101
                    cases e101
                    replace hx101_0 := cl_ HB hx101_0
                    replace hx101_1 := cl_ HB hx101_1
                    replace p101 := eq_true p101
                    replace q101 := eq_true q101
                    go_wp2_with (first | (refine gD 8 ?_; refine bxe_ 8 #[.int .i64 0, .int .i64 0] 86 ?_; intro gb102 hg w8 hbox hb; replace HO_6 := A_ (Kd.R_below (Kd.R_elderB (fxR_ HO_6.out) gb102 (Nat.le_of_eq hg.symm)) hb); have BK102 := A_ (hbox); have GW102 := gs_ w hg; have GE102 := gs_ w hg; replace HB := bs_ hb; clear hb hbox hg; have hcz9_0 : w8.cell? ⟨gb102, 0, none⟩ = some (.int .i64 0) := bq_ BK102 0; have hcz9_1 : w8.cell? ⟨gb102, 1, none⟩ = some (.int .i64 0) := bq_ BK102 1; have hfz9_0 := blk_frozen BK102.out 0; have hfz9_1 := blk_frozen BK102.out 1) | ((with_reducible refine gate_builtin (b := .append) (xs := #[.tmp 29, .tmp 38]) rfl ?_); at_builtin; refine Kd.R_append k86 (w0 := w) w.heap.size rfl (.tmp 29) (.tmp 38) 82 86 (.agg #[(.int .i64 0), (.int .i64 0)]) 16 rfl Try.underlying82 info86 rfl (by decide) (by omega) u6 x6_1 (⟨wrap64 (((rd_T86 l0 x23_1).f0) * 10), wrap64 ((wrap64 (((rd_T86 l0 x23_1).f1) * 10)) + 9)⟩ : S86) [.int .i64 (wrap64 (((rd_T86 l0 x23_1).f0) * 10)), .int .i64 (wrap64 ((wrap64 (((rd_T86 l0 x23_1).f1) * 10)) + 9))] (fun k_ => k_ ≠ gb102) (fun _ => False) rfl (by first | (go_simp; done) | (go_simp; rfl)) ?aP (fun _ hk => hk.elim) ?aF ?aO ?aB ?aS ?aL ?_; (case aP => exact k86_mkM _ _ _ (⟨wrap64 (((rd_T86 l0 x23_1).f0) * 10), wrap64 ((wrap64 (((rd_T86 l0 x23_1).f1) * 10)) + 9)⟩ : S86)); (case aB => exact hs_); (case aF => exact (fun k_ hk => fb_ BK102 k_ hk)); (case aO => exact (fpR_ HO_6.out)); (case aS => exact (below_size hs_)); (case aL => have := LMc7.out; omega); intro v104 w10 ho hb hg hat; rw [← Ny103.out] at ho; replace BK102 := A_ (blk_grown (g := gb102) (o := .cells #[.int .i64 ((rd_T86 l0 x23_1).f0), .int .i64 ((rd_T86 l0 x23_1).f1)] 86 (0, 0)) (pb_ BK102.out) hg (Kd.R_away HO_6.out (fun _ hk => hk.2))); replace HB := A_ (hb); have HO105 := A_ (ho); clear HO_6; clear ho hb hg hat))
                    go_roundg k1
                    case measure => have := HK1.out; omega
                    case rel => exact ⟨(y103), (wrap64 (x23_1 + 1)), (by first | rfl | (simp; done) | (simp [*]; done)), H', ⟨by have := HK1.out; omega⟩, ⟨by (with_reducible repeat (first | apply Kd.R_alloc | apply Kd.R_drewN | apply Kd.R_drew)); exact Kd.R_mono HO105.out (fun _ hk => trivial)⟩, ⟨hs_⟩⟩
                  · rw [if_neg c7] at H
                    exact absurd H (by simp)
                · rw [if_neg c6] at H
                  have c6b0 : (a1 == 88) = false := beq_eq_false_iff_ne.mpr c6
                  have c6b1 : (a1 != 88) = true := bne_iff_ne.mpr c6
                  have H' := A_ H
                  clear H
                  have p101 : 0 ≤ (x23_1 : Int) := of_decide_eq_true (by first | (with_reducible assumption) | assumption)
                  have q101 : x23_1 < (l0.length : Int) := of_decide_eq_true (by first | (with_reducible assumption) | assumption)
                  obtain ⟨ad101, e101, hx101_0, hx101_1⟩ := at_T86 HR0.out x23_1 p101 q101
                  cases e101
                  replace hx101_0 := cl_ HB hx101_0
                  replace hx101_1 := cl_ HB hx101_1
                  replace p101 := eq_true p101
                  replace q101 := eq_true q101
                  go_wp2_with (first | (refine gD 8 ?_; refine bxe_ 8 #[.int .i64 0, .int .i64 0] 86 ?_; intro gb102 hg w11 hbox hb; replace HO_6 := A_ (Kd.R_below (Kd.R_elderB (fxR_ HO_6.out) gb102 (Nat.le_of_eq hg.symm)) hb); have BK102 := A_ (hbox); have GW102 := gs_ w hg; have GE102 := gs_ w hg; replace HB := bs_ hb; clear hb hbox hg; have hcz12_0 : w11.cell? ⟨gb102, 0, none⟩ = some (.int .i64 0) := bq_ BK102 0; have hcz12_1 : w11.cell? ⟨gb102, 1, none⟩ = some (.int .i64 0) := bq_ BK102 1; have hfz12_0 := blk_frozen BK102.out 0; have hfz12_1 := blk_frozen BK102.out 1))
                  go_loopg [6, 9] k1 (fun kq v6 v9 w' => ∃ (x6_2 : List (S86)) (x9_2 : Int), v9 = .int .i64 x9_2 ∧ Aside0 (B.mask_Set.l1 kq a1 x6_2 x9_2 l0 (l0.length : Int) x23_1 ((rd_T86 l0 x23_1).f0) ((rd_T86 l0 x23_1).f1) = some r) ∧ Aside0 (kq ≤ k1) ∧ Aside0 (Kd.R k86 86 w' w.heap.size (fun k_ => k_ ≠ gb102) v6 x6_2) ∧ Aside0 (w'.heap[gb102]? = some (.cells #[.int .i64 ((rd_T86 l0 x23_1).f0), .int .i64 ((rd_T86 l0 x23_1).f1)] 86 (0, 0))) ∧ Aside0 (Below w.heap.size w w'))
                  case atStart => exact ⟨(x6_1), ((rd_T86 l0 x23_1).f0), (by first | rfl | (simp; done) | (simp [*]; done)), H', ⟨Nat.le_refl _⟩, ⟨fpR_ HO_6.out⟩, ⟨pb_ BK102.out⟩, ⟨hs_⟩⟩
                  case round =>
                    clear H'
                    try clear p1
                    try clear q1
                    try clear hx1
                    try clear p2
                    try clear c3
                    try clear c3b0
                    try clear c4
                    try clear c4b0
                    try clear c5
                    try clear c5b0
                    try clear c6
                    try clear c6b0
                    try clear c6b1
                    try clear p6
                    try clear c7
                    try clear c8
                    try clear p10
                    try clear q10
                    try clear hx10
                    try clear hcz12_0
                    try clear hcz12_1
                    try clear hcz9_0
                    try clear hcz9_1
                    try clear hfz12_0
                    try clear hfz12_1
                    try clear hfz9_0
                    try clear hfz9_1
                    try clear hx101_0
                    try clear hx101_1
                    try clear p101
                    try clear p2
                    try clear q101
                    obtain ⟨x6_2, x9_2, rfl, HA, HK2, HO_6, BK102, HB⟩ := hrel
                    cases gk with
                    | zero => exact absurd HA.out (by simp [B.mask_Set.l1])
                    | succ k2 =>
                      have H := HA.out
                      clear HA
                      simp only [B.mask_Set.l1] at H
                      by_cases c13 : x9_2 ≤ ((rd_T86 l0 x23_1).f1)
                      · rw [if_pos c13] at H
                        have c13b0 := decide_eq_true c13
                        clear c13
                        by_cases c14 : x6_2.length < 8796093022208
                        · rw [if_pos c14] at H
                          have LMc14 := A_ c14
                          clear c14
                          obtain ⟨y106, hy106⟩ : ∃ y_ : List (S86), y_ = (x6_2 ++ [(⟨wrap64 ((wrap64 (x9_2 * 10)) + (wrap64 (wrap32 (a1 - 48)))), wrap64 ((wrap64 (x9_2 * 10)) + (wrap64 (wrap32 (a1 - 48))))⟩ : S86)]) := ⟨_, rfl⟩
                          replace H : (B.mask_Set.l1 k2 a1 y106 (wrap64 (x9_2 + 1)) l0 (l0.length : Int) x23_1 ((rd_T86 l0 x23_1).f0) ((rd_T86 l0 x23_1).f1)) = some r := by first | (rw [hy106]; with_reducible exact H) | (have H2_ := (Option.bind_some _ _).symm.trans H; rw [hy106]; with_reducible exact H2_) | (have H2_ := (Option.bind_some _ _).symm.trans H; with_reducible exact H2_) | with_reducible exact H | (rw [hy106]; exact H) | exact H
                          have Ny106 := A_ hy106
                          clear hy106
                          have H' := A_ H
                          clear H
                          have hcz15_0 : wr.cell? ⟨gb102, 0, none⟩ = some (.int .i64 ((rd_T86 l0 x23_1).f0)) := bq_ BK102 0
                          have hcz15_1 : wr.cell? ⟨gb102, 1, none⟩ = some (.int .i64 ((rd_T86 l0 x23_1).f1)) := bq_ BK102 1
                          have hfz15_0 := blk_frozen BK102.out 0
                          have hfz15_1 := blk_frozen BK102.out 1
                          go_wp2_with (first | ((with_reducible refine gate_builtin (b := .append) (xs := #[.tmp 54, .tmp 58]) rfl ?_); at_builtin; refine Kd.R_append k86 (w0 := w) w.heap.size rfl (.tmp 54) (.tmp 58) 82 86 (.agg #[(.int .i64 0), (.int .i64 0)]) 16 rfl Try.underlying82 info86 rfl (by decide) (by omega) u6 x6_2 (⟨wrap64 ((wrap64 (x9_2 * 10)) + (wrap64 (wrap32 (a1 - 48)))), wrap64 ((wrap64 (x9_2 * 10)) + (wrap64 (wrap32 (a1 - 48))))⟩ : S86) [.int .i64 (wrap64 ((wrap64 (x9_2 * 10)) + (wrap64 (wrap32 (a1 - 48))))), .int .i64 (wrap64 ((wrap64 (x9_2 * 10)) + (wrap64 (wrap32 (a1 - 48)))))] (fun k_ => k_ ≠ gb102) (fun _ => False) rfl rfl ?aP (fun _ hk => hk.elim) ?aF ?aO ?aB ?aS ?aL ?_; (case aP => exact k86_mkM _ _ _ (⟨wrap64 ((wrap64 (x9_2 * 10)) + (wrap64 (wrap32 (a1 - 48)))), wrap64 ((wrap64 (x9_2 * 10)) + (wrap64 (wrap32 (a1 - 48))))⟩ : S86)); (case aB => exact hs_); (case aF => exact (fun k_ hk => fb_ BK102 k_ hk)); (case aO => exact (fxR_ HO_6.out)); (case aS => exact (below_size hs_)); (case aL => have := LMc14.out; omega); intro v107 w16 ho hb hg hat; rw [← Ny106.out] at ho; replace BK102 := A_ (blk_grown (g := gb102) (o := .cells #[.int .i64 ((rd_T86 l0 x23_1).f0), .int .i64 ((rd_T86 l0 x23_1).f1)] 86 (0, 0)) (bl_ BK102.out) hg (Kd.R_away HO_6.out (fun _ hk => hk))); replace HB := A_ (hb); have HO108 := A_ (ho); clear HO_6; clear ho hb hg hat))
                          go_roundg k2
                          case measure => have := HK1.out; have := HK2.out; omega
                          case rel => exact ⟨(y106), (wrap64 (x9_2 + 1)), (by first | rfl | (simp; done) | (simp [*]; done)), H', ⟨by have := HK1.out; have := HK2.out; omega⟩, ⟨fxR_ HO108.out⟩, ⟨bl_ BK102.out⟩, ⟨hs_⟩⟩
                        · rw [if_neg c14] at H
                          exact absurd H (by simp)
                      · rw [if_neg c13] at H
                        have c13b0 := decide_eq_false c13
                        clear c13
                        have H' := A_ H
                        clear H
                        have hcz17_0 : wr.cell? ⟨gb102, 0, none⟩ = some (.int .i64 ((rd_T86 l0 x23_1).f0)) := bq_ BK102 0
                        have hcz17_1 : wr.cell? ⟨gb102, 1, none⟩ = some (.int .i64 ((rd_T86 l0 x23_1).f1)) := bq_ BK102 1
                        have hfz17_0 := blk_frozen BK102.out 0
                        have hfz17_1 := blk_frozen BK102.out 1
                        go_wp2
                        go_roundg k2
                        case measure => have := HK1.out; have := HK2.out; omega
                        case rel => exact ⟨(x6_2), (wrap64 (x23_1 + 1)), (by first | rfl | (simp; done) | (simp [*]; done)), H', ⟨by have := HK1.out; have := HK2.out; omega⟩, ⟨by (with_reducible repeat (first | apply Kd.R_alloc | apply Kd.R_drewN | apply Kd.R_drew)); exact Kd.R_mono HO_6.out (fun _ hk => trivial)⟩, ⟨hs_⟩⟩
              · rw [if_neg c5] at H
                exact absurd H (by simp)
            · rw [if_neg c4] at H
              exact absurd H (by simp)
          · rw [if_neg c3] at H
            have c3b0 := decide_eq_false c3
            clear c3
            obtain rfl := Option.some.inj H
            go_wp2
            go_roundw
            case rel => exact HEND.out _ _ HO_6.out HB.out
            case measure => exact HMEAS.out _ HB.out
    · have hnx : ∀ ty, (Instr.next (.pointer (some ⟨gi, 0, none⟩)) true ty).run Try.prog wr = _ := fun ty => run_next_done ty HI.out hp
      have hf : l0 = setL a0.data.toList [⟨0, 0⟩] := by rw [← HD.out.1, List.drop_eq_nil_of_le (by simpa using hp)]; rfl
      have HF := A_ hf
      clear hf hp
      go_wp2
      go_ret
      exact ⟨_, rfl, by rw [← HF.out]; exact Kd.R_mono HO.out (fun _ _ => trivial), HBB.out⟩
def runs_Sane.l0 : Nat → Int → List (S86) → Int → Int → Option (Bool)
  | 0, _, _, _, _ => none
  | k + 1, x3, x6, x7, x8 => if x8 < x7 then (if 0 ≤ x8 then (if x8 < (x6.length : Int) then (if ((rd_T86 x6 x8).f0) > ((rd_T86 x6 x8).f1) then (some false) else (if ((rd_T86 x6 x8).f0) < (wrap64 (x3 + 2)) then (some false) else (if ((rd_T86 x6 x8).f1) > 1099511627776 then (some false) else (runs_Sane.l0 k ((rd_T86 x6 x8).f1) x6 x7 (wrap64 (x8 + 1)))))) else (none)) else (none)) else (some true)
def runs_Sane.f (k : Nat) (l0 : List (S86)) : Option (Bool) := runs_Sane.l0 k (-1099511627778) l0 (l0.length : Int) 0
theorem runs_Sane.mono_l : ∀ k, (∀ y0 y1 y2 y3, LeO (runs_Sane.l0 k y0 y1 y2 y3) (runs_Sane.l0 (k + 1) y0 y1 y2 y3))
  | 0 => fun _ _ _ _ r h => by simp [runs_Sane.l0] at h
  | k + 1 => by
    have ih0 := runs_Sane.mono_l k
    · intro y0 y1 y2 y3
      unfold runs_Sane.l0
      repeat' (with_reducible first | apply ih0 | exact LeO.refl _ | exact LeO.none _ | refine LeO.ite ?_ ?_ | refine LeO.bind ?_ fun _ => ?_)
theorem runs_Sane.mono : ∀ a0 k, LeO (runs_Sane.f k a0) (runs_Sane.f (k + 1) a0) := by
  intro a0 k
  have ih0 := runs_Sane.mono_l k
  unfold runs_Sane.f
  repeat' (with_reducible first | apply ih0 | exact LeO.refl _ | exact LeO.none _ | refine LeO.ite ?_ ?_ | refine LeO.bind ?_ fun _ => ?_)
def runs_Make.f (_ : List S86) : Option (List S86) := none
def sets_known.f (k : Nat) (l0 : List (S86)) : Option ((List (S86))) := (runs_Sane.f k l0).bind fun t103 => (if t103 = true then (some l0) else ((runs_Make.f l0).bind fun t104 => (some t104)))
theorem sets_known.mono : ∀ a0 k, LeO (sets_known.f k a0) (sets_known.f (k + 1) a0) := by
  intro a0 k
  unfold sets_known.f
  repeat' (with_reducible first | apply runs_Sane.mono | exact LeO.refl _ | exact LeO.none _ | refine LeO.ite ?_ ?_ | refine LeO.bind ?_ fun _ => ?_)
mutual
def sets_Meet.l0 : Nat → List (S86) → List (S86) → List (S86) → Int → Int → Option ((List (S86)))
  | 0, _, _, _, _, _ => none
  | k + 1, x0, x1, x5, x6, x7 => if x6 < (x0.length : Int) then (sets_Meet.j1 k x0 x1 x5 x6 x7 (decide (x7 < (x1.length : Int)))) else (sets_Meet.j1 k x0 x1 x5 x6 x7 false)
def sets_Meet.j1 : Nat → List (S86) → List (S86) → List (S86) → Int → Int → Bool → Option ((List (S86)))
  | 0, _, _, _, _, _, _ => none
  | k + 1, x0, x1, x5, x6, x7, x22 => if x22 = true then (if 0 ≤ x6 then (if x6 < (x0.length : Int) then (if 0 ≤ x7 then (if x7 < (x1.length : Int) then (if (mx ((rd_T86 x0 x6).f0) ((rd_T86 x1 x7).f0)) ≤ (mn ((rd_T86 x0 x6).f1) ((rd_T86 x1 x7).f1)) then (if x5.length < 8796093022208 then ((some (x5 ++ [(⟨mx ((rd_T86 x0 x6).f0) ((rd_T86 x1 x7).f0), mn ((rd_T86 x0 x6).f1) ((rd_T86 x1 x7).f1)⟩ : S86)] : List (S86))).bind fun y118 => (if ((rd_T86 x0 x6).f1) < ((rd_T86 x1 x7).f1) then (sets_Meet.l0 k x0 x1 y118 (wrap64 (x6 + 1)) x7) else (sets_Meet.l0 k x0 x1 y118 x6 (wrap64 (x7 + 1))))) else (none)) else (if ((rd_T86 x0 x6).f1) < ((rd_T86 x1 x7).f1) then (sets_Meet.l0 k x0 x1 x5 (wrap64 (x6 + 1)) x7) else (sets_Meet.l0 k x0 x1 x5 x6 (wrap64 (x7 + 1))))) else (none)) else (none)) else (none)) else (none)) else (some x5)
end
def sets_Meet.f (k : Nat) (l0 : List (S86)) (l1 : List (S86)) : Option ((List (S86))) := (sets_known.f k l0).bind fun t107 => ((sets_known.f k l1).bind fun t110 => (sets_Meet.l0 k t107 t110 ([] : List (S86)) 0 0))
theorem sets_Meet.mono_l : ∀ k, (∀ y0 y1 y2 y3 y4, LeO (sets_Meet.l0 k y0 y1 y2 y3 y4) (sets_Meet.l0 (k + 1) y0 y1 y2 y3 y4)) ∧ (∀ y0 y1 y2 y3 y4 y5, LeO (sets_Meet.j1 k y0 y1 y2 y3 y4 y5) (sets_Meet.j1 (k + 1) y0 y1 y2 y3 y4 y5))
  | 0 => ⟨fun _ _ _ _ _ r h => by simp [sets_Meet.l0] at h, fun _ _ _ _ _ _ r h => by simp [sets_Meet.j1] at h⟩
  | k + 1 => by
    obtain ⟨ih0, ih1⟩ := sets_Meet.mono_l k
    refine ⟨?_, ?_⟩
    · intro y0 y1 y2 y3 y4
      unfold sets_Meet.l0
      repeat' (with_reducible first | apply ih0 | apply ih1 | apply sets_known.mono | exact LeO.refl _ | exact LeO.none _ | refine LeO.ite ?_ ?_ | refine LeO.bind ?_ fun _ => ?_)
    · intro y0 y1 y2 y3 y4 y5
      unfold sets_Meet.j1
      repeat' (with_reducible first | apply ih0 | apply ih1 | apply sets_known.mono | exact LeO.refl _ | exact LeO.none _ | refine LeO.ite ?_ ?_ | refine LeO.bind ?_ fun _ => ?_)
theorem sets_Meet.mono : ∀ a0 a1 k, LeO (sets_Meet.f k a0 a1) (sets_Meet.f (k + 1) a0 a1) := by
  intro a0 a1 k
  obtain ⟨ih0, ih1⟩ := sets_Meet.mono_l k
  unfold sets_Meet.f
  repeat' (with_reducible first | apply ih0 | apply ih1 | apply sets_known.mono | exact LeO.refl _ | exact LeO.none _ | refine LeO.ite ?_ ?_ | refine LeO.bind ?_ fun _ => ?_)
def lim : Int := 1099511627776
def mem (l : List S86) (n : Int) : Prop := ∃ r, r ∈ l ∧ r.f0 ≤ n ∧ n ≤ r.f1
def saneF : Int → List S86 → Prop
  | _, [] => True
  | a, r :: t => a + 2 ≤ r.f0 ∧ r.f0 ≤ r.f1 ∧ r.f1 ≤ lim ∧ saneF r.f1 t
def sane (l : List S86) : Prop := saneF (-lim - 2) l
theorem mem_nil (n : Int) : ¬ mem [] n := fun ⟨_, h, _⟩ => by simp at h
theorem mem_cons (r : S86) (t : List S86) (n : Int) : mem (r :: t) n ↔ (r.f0 ≤ n ∧ n ≤ r.f1) ∨ mem t n := by
  constructor
  · rintro ⟨q, hq, h⟩
    rcases List.mem_cons.1 hq with rfl | hq
    · exact .inl h
    · exact .inr ⟨q, hq, h⟩
  · rintro (h | ⟨q, hq, h⟩)
    · exact ⟨r, List.mem_cons_self, h⟩
    · exact ⟨q, List.mem_cons_of_mem _ hq, h⟩
theorem mem_append (s t : List S86) (n : Int) : mem (s ++ t) n ↔ mem s n ∨ mem t n := by
  induction s with
  | nil => simp [mem_nil]
  | cons r s ih => rw [List.cons_append, mem_cons, mem_cons, ih, or_assoc]
theorem saneF_mem : ∀ {a : Int} {l : List S86}, saneF a l → ∀ {n : Int}, mem l n → a + 2 ≤ n ∧ n ≤ lim
  | _, [], _, _, h => absurd h (mem_nil _)
  | a, r :: t, ⟨h1, h2, h3, h4⟩, n, h => by
    rcases (mem_cons _ _ _).1 h with h | h
    · omega
    · have := saneF_mem h4 h
      omega
theorem saneF_le {a b : Int} {l : List S86} (h : saneF a l) (hb : b ≤ a) : saneF b l := by
  cases l with
  | nil => trivial
  | cons r t =>
    obtain ⟨h1, h2, h3, h4⟩ := h
    exact ⟨by omega, h2, h3, h4⟩
def ins (x : S86) : List S86 → List S86
  | [] => [x]
  | q :: t => if q.f1 < x.f0 - 1 then q :: ins x t else if x.f1 + 1 < q.f0 then x :: q :: t else ins ⟨min x.f0 q.f0, max x.f1 q.f1⟩ t
def clamp (r : S86) : S86 := ⟨max r.f0 (-lim), min r.f1 lim⟩
def step (s : List S86) (r : S86) : List S86 := if (clamp r).f0 ≤ (clamp r).f1 then ins (clamp r) s else s
theorem Ev.ift {α : Type} {c : Prop} [Decidable c] {g f : Nat → Option α} {r : α} (hc : c) (h : Ev g r) : Ev (fun k => if c then g k else f k) r := Ev.congr (fun k => if_pos hc) h
theorem Ev.iff_ {α : Type} {c : Prop} [Decidable c] {g f : Nat → Option α} {r : α} (hc : ¬ c) (h : Ev f r) : Ev (fun k => if c then g k else f k) r := Ev.congr (fun k => if_neg hc) h
theorem Ev.bnow {α β : Type} {a : Option α} {f : Nat → α → Option β} {x : α} {r : β} (h : a = some x) (k : Ev (fun n => f n x) r) : Ev (fun n => a.bind (f n)) r := Ev.congr (fun n => by rw [h]; rfl) k
theorem sane_all {l : List UInt8} (h : saneL l = true) : l.all okB = true ∧ l ≠ [] ∧ l.length ≤ 4 := by
  unfold saneL at h
  simp only [Bool.and_eq_true, decide_eq_true_eq] at h
  exact ⟨h.1.1, h.1.2, h.2⟩
theorem bsize (s : ByteArray) : s.size = s.data.toList.length := by simp
theorem Sane_l0 : ∀ (t p : List S86) (last : Int), (p ++ t).length ≤ 4611686018427387904 → -lim - 2 ≤ last → last ≤ lim →
    ∃ b, Ev (fun k => runs_Sane.l0 k last (p ++ t) ((p ++ t).length : Int) (p.length : Int)) b ∧ (b = true ↔ saneF last t)
  | [], p, last, _, _, _ => ⟨true, Ev.step (f := fun _ => some true) (fun k => by simp only [runs_Sane.l0]; rw [if_neg (at_end p)]) (Ev.now true), by simp [saneF]⟩
  | r :: t, p, last, hn, h1, h2 => by
    have e : ∀ k, runs_Sane.l0 (k + 1) last (p ++ r :: t) ((p ++ r :: t).length : Int) (p.length : Int) = (if r.f0 > r.f1 then some false else if r.f0 < last + 2 then some false else if r.f1 > 1099511627776 then some false else runs_Sane.l0 k r.f1 (p ++ r :: t) ((p ++ r :: t).length : Int) ((p ++ [r]).length : Int)) := fun k => by
      simp only [runs_Sane.l0]
      rw [if_pos (at_lt p r t), if_pos (at_0 p), if_pos (at_lt p r t), at_rd, at_next hn, w64 (by unfold lim at h1; omega) (by unfold lim at h2; omega)]
    by_cases c1 : r.f0 > r.f1
    · exact ⟨false, Ev.step (f := fun _ => some false) (fun k => by rw [e, if_pos c1]) (Ev.now _), by simp [saneF]; omega⟩
    by_cases c2 : r.f0 < last + 2
    · exact ⟨false, Ev.step (f := fun _ => some false) (fun k => by rw [e, if_neg c1, if_pos c2]) (Ev.now _), by simp [saneF]; omega⟩
    by_cases c3 : r.f1 > 1099511627776
    · exact ⟨false, Ev.step (f := fun _ => some false) (fun k => by rw [e, if_neg c1, if_neg c2, if_pos c3]) (Ev.now _), by simp [saneF, lim]; omega⟩
    obtain ⟨b, hb, hs⟩ := Sane_l0 t (p ++ [r]) r.f1 (by rw [← at_app]; exact hn) (by omega) (by unfold lim; omega)
    rw [← at_app] at hb
    refine ⟨b, Ev.step (fun k => by rw [e, if_neg c1, if_neg c2, if_neg c3]) hb, ?_⟩
    rw [hs, saneF]
    unfold lim
    exact ⟨fun h => ⟨by omega, by omega, by omega, h⟩, fun h => h.2.2.2⟩
theorem Sane_f (l : List S86) (hn : l.length ≤ 4611686018427387904) : ∃ b, Ev (fun k => runs_Sane.f k l) b ∧ (b = true ↔ sane l) := by
  obtain ⟨b, hb, hs⟩ := Sane_l0 l [] (-lim - 2) (by simpa using hn) (by omega) (by unfold lim; omega)
  exact ⟨b, hb, hs⟩
theorem mx_max (a b : Int) : mx a b = max a b := by unfold mx; omega
theorem mn_min (a b : Int) : mn a b = min a b := by unfold mn; omega
theorem sknown_s {l : List S86} (hs : sane l) (hn : l.length < 4398046511104) : Ev (fun k => sets_known.f k l) l := by
  obtain ⟨b, hb, h⟩ := Sane_f l (by omega)
  obtain rfl := h.2 hs
  exact Ev.bind hb (Ev.ift rfl (Ev.now _))
theorem mem_one (r : S86) (n : Int) : mem [r] n ↔ r.f0 ≤ n ∧ n ≤ r.f1 := by rw [mem_cons]; simp [mem_nil]
def both (r q : S86) : S86 := ⟨max r.f0 q.f0, min r.f1 q.f1⟩
def meet2 : List S86 → List S86 → List S86
  | [], _ => []
  | _ :: _, [] => []
  | r :: s, q :: t => (if (both r q).f0 ≤ (both r q).f1 then [both r q] else []) ++ (if r.f1 < q.f1 then meet2 s (q :: t) else meet2 (r :: s) t)
termination_by s t => s.length + t.length
theorem meet2_nil (s : List S86) : meet2 s [] = [] := by cases s <;> simp [meet2]
theorem meet2_cons (r : S86) (s : List S86) (q : S86) (t : List S86) : meet2 (r :: s) (q :: t) = (if (both r q).f0 ≤ (both r q).f1 then [both r q] else []) ++ (if r.f1 < q.f1 then meet2 s (q :: t) else meet2 (r :: s) t) := by rw [meet2]
theorem meet2_len : ∀ (m : Nat) (s t : List S86), s.length + t.length = m → (meet2 s t).length ≤ s.length + t.length
  | _, [], t, _ => by simp [meet2]
  | _, s, [], _ => by simp [meet2_nil]
  | m + 1, r :: s, q :: t, e => by
    simp only [List.length_cons] at e
    rw [meet2_cons, List.length_append]
    have h1 : (if (both r q).f0 ≤ (both r q).f1 then [both r q] else []).length ≤ 1 := by split <;> simp
    by_cases c : r.f1 < q.f1
    · rw [if_pos c]
      have := meet2_len m s (q :: t) (by simp only [List.length_cons]; omega)
      simp only [List.length_cons] at this ⊢
      omega
    · rw [if_neg c]
      have := meet2_len m (r :: s) t (by simp only [List.length_cons]; omega)
      simp only [List.length_cons] at this ⊢
      omega
theorem meet2_sane : ∀ (m : Nat) (s t : List S86) (a b : Int), s.length + t.length = m → saneF a s → saneF b t → saneF (max a b) (meet2 s t)
  | _, [], t, _, _, _, _, _ => by simp [meet2, saneF]
  | _, s, [], _, _, _, _, _ => by simp [meet2_nil, saneF]
  | m + 1, r :: s, q :: t, a, b, e, hs, ht => by
    simp only [List.length_cons] at e
    obtain ⟨r1, r2, r3, r4⟩ := hs
    obtain ⟨q1, q2, q3, q4⟩ := ht
    have ht : saneF (if r.f1 < q.f1 then max r.f1 b else max a q.f1) (if r.f1 < q.f1 then meet2 s (q :: t) else meet2 (r :: s) t) := by
      split
      · exact meet2_sane m s (q :: t) _ _ (by simp only [List.length_cons]; omega) r4 ⟨q1, q2, q3, q4⟩
      · exact meet2_sane m (r :: s) t _ _ (by simp only [List.length_cons]; omega) ⟨r1, r2, r3, r4⟩ q4
    rw [meet2_cons]
    by_cases c : (both r q).f0 ≤ (both r q).f1
    · rw [if_pos c]
      simp only [both] at c
      refine ⟨by simp only [both]; omega, by simp only [both]; exact c, by simp only [both]; omega, saneF_le ht ?_⟩
      simp only [both]
      split <;> omega
    · rw [if_neg c, List.nil_append]
      refine saneF_le ht ?_
      split <;> omega
theorem meet2_mem : ∀ (m : Nat) (s t : List S86) (a b : Int), s.length + t.length = m → saneF a s → saneF b t → ∀ n, mem (meet2 s t) n ↔ mem s n ∧ mem t n
  | _, [], t, _, _, _, _, _, n => by simp [meet2, mem_nil]
  | _, s, [], _, _, _, _, _, n => by simp [meet2_nil, mem_nil]
  | m + 1, r :: s, q :: t, a, b, e, hs, ht, n => by
    simp only [List.length_cons] at e
    have hs0 := hs; have ht0 := ht
    obtain ⟨r1, r2, r3, r4⟩ := hs
    obtain ⟨q1, q2, q3, q4⟩ := ht
    have ho : mem (if (both r q).f0 ≤ (both r q).f1 then [both r q] else []) n ↔ (r.f0 ≤ n ∧ n ≤ r.f1) ∧ q.f0 ≤ n ∧ n ≤ q.f1 := by
      by_cases c : (both r q).f0 ≤ (both r q).f1
      · rw [if_pos c, mem_one]; simp only [both]; omega
      · rw [if_neg c]; simp only [both] at c; constructor
        · exact fun h => absurd h (mem_nil _)
        · intro h; omega
    rw [meet2_cons, mem_append, ho]
    by_cases c : r.f1 < q.f1
    · rw [if_pos c, meet2_mem m s (q :: t) _ _ (by simp only [List.length_cons]; omega) r4 ht0 n, mem_cons, mem_cons]
      have h1 : mem t n → q.f1 + 2 ≤ n := fun h => (saneF_mem q4 h).1
      constructor
      · rintro (h | h)
        · exact ⟨.inl h.1, .inl h.2⟩
        · exact ⟨.inr h.1, h.2⟩
      · rintro ⟨h | h, h'⟩
        · rcases h' with h' | h'
          · exact .inl ⟨h, h'⟩
          · have := h1 h'; omega
        · exact .inr ⟨h, h'⟩
    · rw [if_neg c, meet2_mem m (r :: s) t _ _ (by simp only [List.length_cons]; omega) hs0 q4 n, mem_cons, mem_cons]
      have h1 : mem s n → r.f1 + 2 ≤ n := fun h => (saneF_mem r4 h).1
      constructor
      · rintro (h | h)
        · exact ⟨.inl h.1, .inl h.2⟩
        · exact ⟨h.1, .inr h.2⟩
      · rintro ⟨h, h' | h'⟩
        · rcases h with h | h
          · exact .inl ⟨h, h'⟩
          · have := h1 h; omega
        · exact .inr ⟨h, h'⟩
theorem Meet_l0 : ∀ (m : Nat) (s t p q acc : List S86), s.length + t.length = m → (p ++ s).length < 4398046511104 → (q ++ t).length < 4398046511104 → acc.length + s.length + t.length < 8796093022208 →
    Ev (fun k => sets_Meet.l0 k (p ++ s) (q ++ t) acc (p.length : Int) (q.length : Int)) (acc ++ meet2 s t)
  | _, [], t, p, q, acc, _, _, _, _ => by
    refine Ev.step (f := fun k => sets_Meet.j1 k (p ++ []) (q ++ t) acc (p.length : Int) (q.length : Int) false) (fun k => by rw [sets_Meet.l0, if_neg (at_end p)]) ?_
    refine Ev.step (f := fun _ => some (acc ++ meet2 [] t)) (fun k => by rw [sets_Meet.j1, if_neg (by simp)]; simp [meet2]) (Ev.now _)
  | _, r :: s, [], p, q, acc, _, _, _, _ => by
    refine Ev.step (f := fun k => sets_Meet.j1 k (p ++ r :: s) (q ++ []) acc (p.length : Int) (q.length : Int) false) (fun k => by rw [sets_Meet.l0, if_pos (at_lt p r s), decide_eq_false (at_end q)]) ?_
    refine Ev.step (f := fun _ => some (acc ++ meet2 (r :: s) [])) (fun k => by rw [sets_Meet.j1, if_neg (by simp)]; simp [meet2_nil]) (Ev.now _)
  | m + 1, r :: s, x :: t, p, q, acc, e, h1, h2, h3 => by
    simp only [List.length_cons] at e h3
    refine Ev.step (f := fun k => sets_Meet.j1 k (p ++ r :: s) (q ++ x :: t) acc (p.length : Int) (q.length : Int) true) (fun k => by rw [sets_Meet.l0, if_pos (at_lt p r s), decide_eq_true (at_lt q x t)]) ?_
    have hn1 := at_next (p := p) (r := r) (t := s) (by omega)
    have hn2 := at_next (p := q) (r := x) (t := t) (by omega)
    have hgo : ∀ acc' : List S86, acc'.length + (s.length + 1) + (t.length + 1) ≤ acc.length + (s.length + 1) + (t.length + 1) + 1 →
        Ev (fun k => if (r.f1) < (x.f1) then sets_Meet.l0 k (p ++ r :: s) (q ++ x :: t) acc' (wrap64 ((p.length : Int) + 1)) (q.length : Int) else sets_Meet.l0 k (p ++ r :: s) (q ++ x :: t) acc' (p.length : Int) (wrap64 ((q.length : Int) + 1)))
          (acc' ++ (if r.f1 < x.f1 then meet2 s (x :: t) else meet2 (r :: s) t)) := fun acc' ha => by
      by_cases c : r.f1 < x.f1
      · rw [if_pos c]
        refine Ev.ift c ?_
        rw [hn1]
        have := Meet_l0 m s (x :: t) (p ++ [r]) q acc' (by simp only [List.length_cons]; omega) (by rw [← at_app]; exact h1) h2 (by simp only [List.length_cons]; omega)
        rw [← at_app] at this
        exact this
      · rw [if_neg c]
        refine Ev.iff_ c ?_
        rw [hn2]
        have := Meet_l0 m (r :: s) t p (q ++ [x]) acc' (by simp only [List.length_cons]; omega) h1 (by rw [← at_app]; exact h2) (by simp only [List.length_cons]; omega)
        rw [← at_app] at this
        exact this
    rw [meet2_cons]
    by_cases c : (both r x).f0 ≤ (both r x).f1
    · rw [if_pos c, ← List.append_assoc]
      refine Ev.step (fun k => ?_) (hgo (acc ++ [both r x]) (by rw [List.length_append, List.length_singleton]; omega))
      rw [sets_Meet.j1, if_pos rfl, if_pos (at_0 p), if_pos (at_lt p r s), if_pos (at_0 q), if_pos (at_lt q x t), at_rd, at_rd, mx_max, mn_min, if_pos (show max r.f0 x.f0 ≤ min r.f1 x.f1 from c), if_pos (by omega)]
      rfl
    · rw [if_neg c, List.nil_append]
      refine Ev.step (fun k => ?_) (hgo acc (by omega))
      rw [sets_Meet.j1, if_pos rfl, if_pos (at_0 p), if_pos (at_lt p r s), if_pos (at_0 q), if_pos (at_lt q x t), at_rd, at_rd, mx_max, mn_min, if_neg (show ¬ max r.f0 x.f0 ≤ min r.f1 x.f1 from c)]
theorem Meet_s {a b : List S86} (ha : sane a) (hb : sane b) (h : a.length + b.length < 4398046511104) : Ev (fun k => sets_Meet.f k a b) (meet2 a b) ∧ (∀ n, mem (meet2 a b) n ↔ mem a n ∧ mem b n) ∧ sane (meet2 a b) ∧ (meet2 a b).length ≤ a.length + b.length := by
  refine ⟨Ev.bind (sknown_s ha (by omega)) (Ev.bind (sknown_s hb (by omega)) ?_), fun n => ?_, ?_, ?_⟩
  · have := Meet_l0 _ a b [] [] [] rfl (by simp; omega) (by simp; omega) (by simp; omega)
    simpa using this
  · exact meet2_mem _ a b _ _ rfl ha hb n
  · have := meet2_sane _ a b _ _ rfl ha hb
    rw [Int.max_self] at this
    exact this
  · exact meet2_len _ a b rfl
def lustrumref06_Sane.l0 : Nat → ByteArray → Int → Option (Bool)
  | 0, _, _ => none
  | k + 1, x0, x3 => if x3 < (x0.size : Int) then (if 0 ≤ x3 then (if (bt x0 x3) < 48 then (if (bt x0 x3) = 88 then (lustrumref06_Sane.l0 k x0 (wrap64 (x3 + 1))) else (some false)) else (if (bt x0 x3) > 57 then (if (bt x0 x3) = 88 then (lustrumref06_Sane.l0 k x0 (wrap64 (x3 + 1))) else (some false)) else (lustrumref06_Sane.l0 k x0 (wrap64 (x3 + 1))))) else (none)) else (if (x0.size : Int) ≥ 1 then (some (decide ((x0.size : Int) ≤ 4))) else (some false))
def lustrumref06_Sane.f (k : Nat) (a0 : ByteArray) : Option (Bool) := lustrumref06_Sane.l0 k a0 0
def lustrumref06_most.l0 : Nat → Int → Int → Int → Option (Int)
  | 0, _, _, _ => none
  | k + 1, x0, x3, x4 => if x4 < x0 then (lustrumref06_most.l0 k x0 (wrap64 (x3 * 10)) (wrap64 (x4 + 1))) else (some x3)
def lustrumref06_most.f (k : Nat) (a0 : Int) : Option (Int) := lustrumref06_most.l0 k a0 1 0
mutual
def lustrumref06_Match.j0 : Nat → ByteArray → Int → Bool → Option (Bool)
  | 0, _, _, _ => none
  | k + 1, x0, x1, x19 => if x19 = true then (some false) else (lustrumref06_Match.l0 k x0 x1 (wrap64 ((x0.size : Int) - 1)))
def lustrumref06_Match.l0 : Nat → ByteArray → Int → Int → Option (Bool)
  | 0, _, _, _ => none
  | k + 1, x0, x1, x5 => if x5 ≥ 0 then (if 0 ≤ x5 then (if x5 < (x0.size : Int) then (if (bt x0 x5) = 88 then (lustrumref06_Match.l0 k x0 (wrap64 (Int.tdiv x1 10)) (wrap64 (x5 - 1))) else (if (wrap64 ((wrap64 (bt x0 x5)) - 48)) = (Int.tmod x1 10) then (lustrumref06_Match.l0 k x0 (wrap64 (Int.tdiv x1 10)) (wrap64 (x5 - 1))) else (some false))) else (none)) else (none)) else (some true)
end
def lustrumref06_Match.f (k : Nat) (a0 : ByteArray) (a1 : Int) : Option (Bool) := (lustrumref06_Sane.f k a0).bind fun t241 => (if t241 = true then (if a1 < 0 then (lustrumref06_Match.j0 k a0 a1 true) else ((lustrumref06_most.f k (a0.size : Int)).bind fun t242 => (lustrumref06_Match.j0 k a0 a1 (decide (a1 ≥ t242))))) else (lustrumref06_Match.j0 k a0 a1 true))
theorem setL_snoc (c : UInt8) : ∀ (l : List UInt8) (out : List S86), setL (l ++ [c]) out = (setL l out).flatMap (stepR c)
  | [], out => rfl
  | x :: l, out => by simp only [List.cons_append, setL]; exact setL_snoc c l _
theorem setL_fine (s : ByteArray) (h : saneL s.data.toList = true) : fine (setL s.data.toList [⟨0, 0⟩]) 10000 := by
  have ho := ok_of (s := s) (congrArg some h)
  have step : ∀ p, p ≤ s.size → ∃ out, setInv s p out := fun p => by
    induction p with
    | zero => exact fun _ => ⟨_, setInv_0 s⟩
    | succ p ih =>
      intro hp
      obtain ⟨out, hi⟩ := ih (by omega)
      exact ⟨_, setInv_step (by omega) (ho p (by omega)) hi⟩
  obtain ⟨out, h1, h2, h3⟩ := step s.size (Nat.le_refl _)
  have hd : setL (s.data.toList.drop s.size) out = out := by rw [List.drop_eq_nil_of_le (by rw [bsize]; exact Nat.le_refl _)]; rfl
  rw [hd] at h1
  rw [← h1]
  have h4 : s.size ≤ 4 := by rw [bsize]; exact (sane_all h).2.2
  have h10 : (10 ^ s.size : Nat) ≤ 10000 := Nat.pow_le_pow_right (n := 10) (by decide) h4
  have : ((10 ^ s.size : Nat) : Int) ≤ 10000 := Int.ofNat_le.2 h10
  exact fun q hq => by obtain ⟨a, b, c⟩ := h2 q hq; exact ⟨a, b, by omega⟩
theorem bt_list (s : ByteArray) (i : Nat) (h : i < s.data.toList.length) : bt s (i : Int) = ((s.data.toList[i]).toNat : Int) := by
  unfold bt
  rw [Int.toNat_natCast, dif_pos (by rw [bsize]; exact h)]
  simp [ByteArray.getElem_eq_getElem_data]
theorem rSane_l0 (s : ByteArray) (hs : s.size ≤ 9223372036854775807) : ∀ (m i : Nat), i + m = s.size → Ev (fun k => lustrumref06_Sane.l0 k s (i : Int)) ((s.data.toList.drop i).all okB && decide (1 ≤ s.size) && decide (s.size ≤ 4))
  | 0, i, e => by
    rw [List.drop_eq_nil_of_le (by rw [← bsize]; omega)]
    refine Ev.step (f := fun _ => some (decide (1 ≤ s.size) && decide (s.size ≤ 4))) (fun k => ?_) (Ev.now _)
    rw [lustrumref06_Sane.l0, if_neg (by omega)]
    by_cases h : 1 ≤ s.size
    · rw [if_pos (by omega), decide_eq_true h, Bool.true_and]
      exact congrArg some (decide_eq_decide.2 (by omega))
    · rw [if_neg (by omega), decide_eq_false h]; rfl
  | m + 1, i, e => by
    have hi : i < s.data.toList.length := by rw [← bsize]; omega
    have ih := rSane_l0 s hs m (i + 1) (by omega)
    have hb := bt_list s i hi
    have hw : wrap64 ((i : Int) + 1) = ((i + 1 : Nat) : Int) := by rw [w64 (by omega) (by omega)]; rfl
    rw [List.drop_eq_getElem_cons hi, List.all_cons]
    have base : ∀ k, lustrumref06_Sane.l0 (k + 1) s (i : Int) = (if okB (s.data.toList[i]) = true then lustrumref06_Sane.l0 k s ((i + 1 : Nat) : Int) else some false) := fun k => by
      rw [lustrumref06_Sane.l0, if_pos (by omega), if_pos (by omega), hb, hw]
      unfold okB
      by_cases h1 : ((s.data.toList[i]).toNat : Int) < 48
      · rw [if_pos h1]
        by_cases h2 : ((s.data.toList[i]).toNat : Int) = 88
        · omega
        · rw [if_neg h2, if_neg (by rw [decide_eq_true_eq]; omega)]
      · rw [if_neg h1]
        by_cases h3 : ((s.data.toList[i]).toNat : Int) > 57
        · rw [if_pos h3]
          by_cases h2 : ((s.data.toList[i]).toNat : Int) = 88
          · rw [if_pos h2, if_pos (by rw [decide_eq_true_eq]; omega)]
          · rw [if_neg h2, if_neg (by rw [decide_eq_true_eq]; omega)]
        · rw [if_neg h3, if_pos (by rw [decide_eq_true_eq]; omega)]
    cases hk : okB (s.data.toList[i]) with
    | true => exact Ev.step (fun k => by rw [base, hk, if_pos rfl]) (by simpa using ih)
    | false => exact Ev.step (f := fun _ => some false) (fun k => by rw [base, hk, if_neg (by simp)]) (by simpa using Ev.now false)
theorem rSane_f (s : ByteArray) (hs : s.size ≤ 9223372036854775807) : Ev (fun k => lustrumref06_Sane.f k s) (saneL s.data.toList) := by
  have h := rSane_l0 s hs s.size 0 (by omega)
  have e : ((s.data.toList.drop 0).all okB && decide (1 ≤ s.size) && decide (s.size ≤ 4)) = saneL s.data.toList := by
    unfold saneL
    rw [List.drop_zero, ← bsize]
    congr 2
    exact decide_eq_decide.2 (by rw [bsize]; cases s.data.toList <;> simp)
  rw [e] at h
  exact h
theorem pow_small {m n : Nat} (h : m ≤ n) (hn : n ≤ 4) : (10 ^ m : Nat) ≤ 10000 := Nat.pow_le_pow_right (n := 10) (by decide) (Nat.le_trans h hn)
theorem most_l0 (n : Nat) (hn : n ≤ 4) : ∀ (m i : Nat), i + m = n → Ev (fun k => lustrumref06_most.l0 k (n : Int) ((10 ^ i : Nat) : Int) (i : Int)) ((10 ^ n : Nat) : Int)
  | 0, i, e => by
    obtain rfl : i = n := by omega
    exact Ev.step (f := fun _ => some ((10 ^ i : Nat) : Int)) (fun k => by rw [lustrumref06_most.l0, if_neg (by omega)]) (Ev.now _)
  | m + 1, i, e => by
    have ih := most_l0 n hn m (i + 1) (by omega)
    have hp := pow_small (m := i) (n := n) (by omega) hn
    refine Ev.step (fun k => ?_) ih
    have e1 : wrap64 (((10 ^ i : Nat) : Int) * 10) = ((10 ^ (i + 1) : Nat) : Int) := by
      rw [Nat.pow_succ, Int.natCast_mul]
      generalize (10 ^ i : Nat) = q at hp ⊢
      rw [w64 (by omega) (by omega)]; rfl
    have e2 : wrap64 ((i : Int) + 1) = ((i + 1 : Nat) : Int) := by rw [w64 (by omega) (by omega)]; rfl
    rw [lustrumref06_most.l0, if_pos (by omega), e1, e2]
theorem most_f (n : Nat) (hn : n ≤ 4) : Ev (fun k => lustrumref06_most.f k (n : Int)) ((10 ^ n : Nat) : Int) := most_l0 n hn n 0 (by omega)
def refR : List UInt8 → Nat → Bool
  | [], _ => true
  | c :: r, u => (decide (c.toNat = 88) || decide (c.toNat = 48 + u % 10)) && refR r (u / 10)
def refV (s : List UInt8) (n : Int) : Bool := saneL s && decide (0 ≤ n) && decide (n < ((10 ^ s.length : Nat) : Int)) && refR s.reverse n.toNat
theorem tdiv10 {u : Nat} (hu : u < 4611686018427387904) : wrap64 (Int.tdiv (u : Int) 10) = ((u / 10 : Nat) : Int) := by
  rw [Int.tdiv_eq_ediv_of_nonneg (by omega), w64 (by omega) (by omega)]; omega
theorem tmod10 (u : Nat) : Int.tmod (u : Int) 10 = ((u % 10 : Nat) : Int) := by rw [Int.tmod_eq_emod_of_nonneg (by omega)]; omega
theorem byte48 (c : UInt8) : wrap64 (wrap64 (c.toNat : Int) - 48) = (c.toNat : Int) - 48 := by
  have : c.toNat < 256 := c.toNat_lt
  rw [w64 (x := (c.toNat : Int)) (by omega) (by omega), w64 (by omega) (by omega)]
theorem dig_iff {c u : Nat} : (c : Int) - 48 = ((u % 10 : Nat) : Int) ↔ c = 48 + u % 10 := by omega
theorem dig_ne {c : Nat} (h : ¬ c = 88) : ¬ (c : Int) = 88 := by omega
theorem rMatch_l0 (s : ByteArray) (hs : saneL s.data.toList = true) : ∀ (m u : Nat), m ≤ s.data.toList.length → u < 4611686018427387904 → Ev (fun k => lustrumref06_Match.l0 k s (u : Int) ((m : Int) - 1)) (refR (s.data.toList.take m).reverse u)
  | 0, u, _, _ => Ev.step (f := fun _ => some true) (fun k => by rw [lustrumref06_Match.l0, if_neg (by omega)]) (Ev.now _)
  | m + 1, u, hm, hu => by
    have hi : m < s.data.toList.length := by omega
    have h4 := (sane_all hs).2.2
    have hb := bt_list s m hi
    have hz := bsize s
    have ih := rMatch_l0 s hs m (u / 10) (by omega) (by omega)
    have ht : (s.data.toList.take (m + 1)).reverse = s.data.toList[m] :: (s.data.toList.take m).reverse := by
      rw [List.take_succ_eq_append_getElem hi, List.reverse_append]; rfl
    have hok := of_decide_eq_true (List.all_eq_true.1 (sane_all hs).1 (s.data.toList[m]) (List.getElem_mem hi))
    rw [ht, refR]
    have e : ((m + 1 : Nat) : Int) - 1 = (m : Int) := by omega
    have e1 : wrap64 ((m : Int) - 1) = (m : Int) - 1 := w64 (by omega) (by omega)
    have g1 : (m : Int) ≥ 0 := by omega
    have g2 : (m : Int) < (s.size : Int) := by omega
    rw [e]
    by_cases h : (s.data.toList[m]).toNat = 88
    · rw [decide_eq_true h, Bool.true_or, Bool.true_and]
      refine Ev.step (fun k => ?_) ih
      rw [lustrumref06_Match.l0, if_pos g1, if_pos g1, if_pos g2, hb, if_pos (by rw [h]; rfl), e1, tdiv10 hu]
    · rw [decide_eq_false h, Bool.false_or]
      by_cases hd : (s.data.toList[m]).toNat = 48 + u % 10
      · rw [decide_eq_true hd, Bool.true_and]
        refine Ev.step (fun k => ?_) ih
        rw [lustrumref06_Match.l0, if_pos g1, if_pos g1, if_pos g2, hb, if_neg (dig_ne h), byte48, tmod10, if_pos (dig_iff.2 hd), e1, tdiv10 hu]
      · rw [decide_eq_false hd, Bool.false_and]
        refine Ev.step (f := fun _ => some false) (fun k => ?_) (Ev.now _)
        rw [lustrumref06_Match.l0, if_pos g1, if_pos g1, if_pos g2, hb, if_neg (dig_ne h), byte48, tmod10, if_neg (fun h' => hd (dig_iff.1 h'))]
theorem rMatch_f (s : ByteArray) (hz : s.size ≤ 9223372036854775807) (n : Int) (hn : n ≤ 9223372036854775807) : Ev (fun k => lustrumref06_Match.f k s n) (refV s.data.toList n) := by
  refine Ev.bind (rSane_f s hz) ?_
  have out : Ev (fun k => lustrumref06_Match.j0 k s n true) false := Ev.step (f := fun _ => some false) (fun k => by rw [lustrumref06_Match.j0, if_pos rfl]) (Ev.now _)
  unfold refV
  by_cases hs : saneL s.data.toList = true
  · rw [hs, Bool.true_and]
    have h4 := (sane_all hs).2.2
    have hb := bsize s
    refine Ev.ift rfl ?_
    by_cases h0 : n < 0
    · rw [decide_eq_false (p := 0 ≤ n) (by omega)]
      exact Ev.ift h0 out
    · rw [decide_eq_true (p := 0 ≤ n) (by omega), Bool.true_and]
      refine Ev.iff_ h0 ?_
      rw [hb]
      refine Ev.bind (most_f s.data.toList.length h4) ?_
      have hp := pow_small (m := s.data.toList.length) (n := 4) h4 (by omega)
      by_cases h1 : n ≥ ((10 ^ s.data.toList.length : Nat) : Int)
      · rw [decide_eq_true h1, decide_eq_false (p := n < _) (by omega)]
        exact out
      · rw [decide_eq_false h1, decide_eq_true (p := n < _) (by omega), Bool.true_and]
        obtain ⟨u, rfl⟩ := Int.eq_ofNat_of_zero_le (by omega : 0 ≤ n)
        have h := rMatch_l0 s hs s.data.toList.length u (Nat.le_refl _) (by generalize (10 ^ s.data.toList.length : Nat) = q at h1 hp; simp at h1; omega)
        rw [List.take_length] at h
        refine Ev.step (fun k => ?_) h
        rw [lustrumref06_Match.j0, if_neg (by simp), hb, w64 (by omega) (by omega)]
  · rw [Bool.eq_false_iff.mpr hs]
    exact Ev.iff_ (by simp) out
def gap : Int → List S86 → Prop
  | _, [] => True
  | a, r :: t => a + 2 ≤ r.f0 ∧ r.f0 ≤ r.f1 ∧ gap r.f1 t
theorem gap_le {a b : Int} {l : List S86} (h : gap a l) (hb : b ≤ a) : gap b l := by
  cases l with
  | nil => trivial
  | cons r t => exact ⟨by have := h.1; omega, h.2.1, h.2.2⟩
theorem gap_app : ∀ {u : List S86} {a c : Int} {v : List S86}, gap a u → (∀ x, x ∈ u → x.f1 ≤ c) → a ≤ c → gap c v → gap a (u ++ v)
  | [], a, c, v, _, _, hc, hv => gap_le hv hc
  | x :: u, a, c, v, ⟨h1, h2, h3⟩, hu, hc, hv => ⟨h1, h2, gap_app h3 (fun y hy => hu y (List.mem_cons_of_mem _ hy)) (hu x List.mem_cons_self) hv⟩
theorem gap_sane : ∀ {l : List S86} {a : Int}, gap a l → (∀ x, x ∈ l → x.f1 ≤ lim) → saneF a l
  | [], _, _, _ => trivial
  | x :: l, a, ⟨h1, h2, h3⟩, h => ⟨h1, h2, h x List.mem_cons_self, gap_sane h3 (fun y hy => h y (List.mem_cons_of_mem _ hy))⟩
theorem gap_ones (c : Int) : ∀ (m : Nat) (lo a : Int), a + 2 ≤ lo * 10 + (c - 48) → gap a ((upto lo m).map (one c))
  | 0, _, _, _ => trivial
  | m + 1, lo, a, h => ⟨h, Int.le_refl _, gap_ones c m (lo + 1) _ (by simp only [one]; omega)⟩
theorem gap_step (c : UInt8) (hc : 48 ≤ c.toNat ∧ c.toNat ≤ 57 ∨ c.toNat = 88) : ∀ (l : List S86) (a : Int), gap a l → gap (10 * a + 9) (l.flatMap (stepR c))
  | [], _, _ => trivial
  | q :: l, a, ⟨h1, h2, h3⟩ => by
    rw [List.flatMap_cons]
    refine gap_app (c := 10 * q.f1 + 9) ?_ ?_ (by omega) (gap_step c hc l q.f1 h3)
    · unfold stepR
      split
      · exact ⟨by simp only; omega, by simp only; omega, trivial⟩
      · exact gap_ones (c.toNat : Int) _ q.f0 _ (by omega)
    · intro x hx
      unfold stepR at hx
      split at hx
      · obtain rfl := List.mem_singleton.1 hx
        simp only; omega
      · obtain ⟨n, hn, rfl⟩ := List.mem_map.1 hx
        have := (upto_mem _ _ _).1 hn
        simp only; omega
theorem gap_set : ∀ (r : List UInt8), (∀ c, c ∈ r → 48 ≤ c.toNat ∧ c.toNat ≤ 57 ∨ c.toNat = 88) → gap (-((10 ^ r.length : Nat) : Int) - 1) (setL r.reverse [(⟨0, 0⟩ : S86)])
  | [], _ => ⟨by decide, Int.le_refl _, trivial⟩
  | c :: r, h => by
    have ih := gap_step c (h c List.mem_cons_self) _ _ (gap_set r (fun x hx => h x (List.mem_cons_of_mem _ hx)))
    rw [List.reverse_cons, setL_snoc, List.length_cons, Nat.pow_succ]
    refine gap_le ih ?_
    rw [Int.natCast_mul]
    generalize ((10 ^ r.length : Nat) : Int) = q
    omega
theorem mem_step (c : UInt8) (hc : 48 ≤ c.toNat ∧ c.toNat ≤ 57 ∨ c.toNat = 88) (l : List S86) (n : Int) : mem (l.flatMap (stepR c)) n ↔ mem l (n / 10) ∧ (c.toNat = 88 ∨ (c.toNat : Int) = 48 + n % 10) := by
  constructor
  · rintro ⟨x, hx, h1, h2⟩
    obtain ⟨q, hq, hx⟩ := List.mem_flatMap.1 hx
    unfold stepR at hx
    by_cases h : c.toNat = 88
    · rw [if_pos h] at hx
      obtain rfl := List.mem_singleton.1 hx
      simp only at h1 h2
      exact ⟨⟨q, hq, by omega, by omega⟩, .inl h⟩
    · rw [if_neg h] at hx
      obtain ⟨m, hm, rfl⟩ := List.mem_map.1 hx
      have hm := (upto_mem _ _ _).1 hm
      simp only at h1 h2
      exact ⟨⟨q, hq, by omega, by omega⟩, .inr (by omega)⟩
  · rintro ⟨⟨q, hq, h1, h2⟩, h⟩
    by_cases h8 : c.toNat = 88
    · exact ⟨⟨q.f0 * 10, q.f1 * 10 + 9⟩, List.mem_flatMap.2 ⟨q, hq, by unfold stepR; rw [if_pos h8]; exact List.mem_singleton.2 rfl⟩, by simp only; omega, by simp only; omega⟩
    · have h9 := h.resolve_left h8
      refine ⟨⟨(n / 10) * 10 + ((c.toNat : Int) - 48), (n / 10) * 10 + ((c.toNat : Int) - 48)⟩, List.mem_flatMap.2 ⟨q, hq, ?_⟩, by simp only; omega, by simp only; omega⟩
      unfold stepR
      rw [if_neg h8]
      exact List.mem_map.2 ⟨n / 10, (upto_mem _ _ _).2 ⟨h1, by omega⟩, rfl⟩
theorem mem_set : ∀ (r : List UInt8), (∀ c, c ∈ r → 48 ≤ c.toNat ∧ c.toNat ≤ 57 ∨ c.toNat = 88) → ∀ n : Int, mem (setL r.reverse [(⟨0, 0⟩ : S86)]) n ↔ 0 ≤ n ∧ n < ((10 ^ r.length : Nat) : Int) ∧ refR r n.toNat = true
  | [], _, n => by
    rw [List.reverse_nil, setL, mem_cons]
    simp [mem_nil, refR]; omega
  | c :: r, h, n => by
    have ih := mem_set r (fun x hx => h x (List.mem_cons_of_mem _ hx)) (n / 10)
    rw [List.reverse_cons, setL_snoc, mem_step c (h c List.mem_cons_self), ih, List.length_cons, Nat.pow_succ, Int.natCast_mul, refR, Bool.and_eq_true, Bool.or_eq_true, decide_eq_true_eq, decide_eq_true_eq]
    generalize ((10 ^ r.length : Nat) : Int) = q
    constructor
    · rintro ⟨⟨h1, h2, h3⟩, h4⟩
      have e : (n / 10).toNat = n.toNat / 10 := by omega
      rw [e] at h3
      exact ⟨by omega, by show n < q * 10; omega, by omega, h3⟩
    · rintro ⟨h1, h2, h4, h3⟩
      have e : (n / 10).toNat = n.toNat / 10 := by omega
      have h2 : n < q * 10 := h2
      rw [e]
      exact ⟨⟨by omega, by omega, h3⟩, by omega⟩
theorem sane_ok {l : List UInt8} (hs : saneL l = true) : ∀ c, c ∈ l.reverse → 48 ≤ c.toNat ∧ c.toNat ≤ 57 ∨ c.toNat = 88 := fun c hc => of_decide_eq_true (List.all_eq_true.1 (sane_all hs).1 c (List.mem_reverse.1 hc))
theorem set_is (s : ByteArray) (hs : saneL s.data.toList = true) : sane (setL s.data.toList [⟨0, 0⟩]) ∧ ∀ n, mem (setL s.data.toList [⟨0, 0⟩]) n ↔ refV s.data.toList n = true := by
  have h1 := gap_set s.data.toList.reverse (sane_ok hs)
  have h2 := mem_set s.data.toList.reverse (sane_ok hs)
  have hf := setL_fine s hs
  rw [List.reverse_reverse, List.length_reverse] at h1 h2
  have hp := pow_small (m := s.data.toList.length) (n := 4) (sane_all hs).2.2 (by omega)
  refine ⟨saneF_le (gap_sane h1 (fun x hx => by have := (hf x hx).2.2; unfold lim; omega)) (by unfold lim; omega), fun n => ?_⟩
  rw [h2 n]
  unfold refV
  rw [hs, Bool.true_and, Bool.and_eq_true, Bool.and_eq_true, decide_eq_true_eq, decide_eq_true_eq, and_assoc]
def sets_Clip.f (k : Nat) (l0 : List (S86)) (a1 : Int) (a2 : Int) : Option ((List (S86))) := (sets_Meet.f k l0 (([(⟨a1, a2⟩ : S86)] : List (S86)))).bind fun t128 => (some t128)
theorem sets_Clip.mono : ∀ a0 a1 a2 k, LeO (sets_Clip.f k a0 a1 a2) (sets_Clip.f (k + 1) a0 a1 a2) := by
  intro a0 a1 a2 k
  unfold sets_Clip.f
  repeat' (with_reducible first | apply sets_Meet.mono | exact LeO.refl _ | exact LeO.none _ | refine LeO.ite ?_ ?_ | refine LeO.bind ?_ fun _ => ?_)
mutual
def point_numbers.l0 : Nat → List Int → List (S86) → Int → Int → Option (List Int)
  | 0, _, _, _, _ => none
  | k + 1, x5, x12, x13, x14 => if x14 < x13 then (if 0 ≤ x14 then (if x14 < (x12.length : Int) then (point_numbers.l1 k x5 ((rd_T86 x12 x14).f0) x12 x13 x14 ((rd_T86 x12 x14).f0) ((rd_T86 x12 x14).f1)) else (none)) else (none)) else (some x5)
def point_numbers.l1 : Nat → List Int → Int → List (S86) → Int → Int → Int → Int → Option (List Int)
  | 0, _, _, _, _, _, _, _ => none
  | k + 1, x5, x8, x12, x13, x14, x139000, x139001 => if x8 ≤ x139001 then (if x5.length < 17592186044416 then (point_numbers.l1 k (x5 ++ [x8]) (wrap64 (x8 + 1)) x12 x13 x14 x139000 x139001) else (none)) else (point_numbers.l0 k x5 x12 x13 (wrap64 (x14 + 1)))
end
def point_numbers.f (k : Nat) (a0 : ByteArray) (a1 : Int) : Option (List Int) := (mask_Set.f a0).bind fun t131 => ((sets_Clip.f k t131 1 a1).bind fun t134 => (point_numbers.l0 k ([] : List Int) t134 (t134.length : Int) 0))
theorem point_numbers.mono_l : ∀ k, (∀ y0 y1 y2 y3, LeO (point_numbers.l0 k y0 y1 y2 y3) (point_numbers.l0 (k + 1) y0 y1 y2 y3)) ∧ (∀ y0 y1 y2 y3 y4 y5 y6, LeO (point_numbers.l1 k y0 y1 y2 y3 y4 y5 y6) (point_numbers.l1 (k + 1) y0 y1 y2 y3 y4 y5 y6))
  | 0 => ⟨fun _ _ _ _ r h => by simp [point_numbers.l0] at h, fun _ _ _ _ _ _ _ r h => by simp [point_numbers.l1] at h⟩
  | k + 1 => by
    obtain ⟨ih0, ih1⟩ := point_numbers.mono_l k
    refine ⟨?_, ?_⟩
    · intro y0 y1 y2 y3
      unfold point_numbers.l0
      repeat' (with_reducible first | apply ih0 | apply ih1 | apply sets_Clip.mono | exact LeO.refl _ | exact LeO.none _ | refine LeO.ite ?_ ?_ | refine LeO.bind ?_ fun _ => ?_)
    · intro y0 y1 y2 y3 y4 y5 y6
      unfold point_numbers.l1
      repeat' (with_reducible first | apply ih0 | apply ih1 | apply sets_Clip.mono | exact LeO.refl _ | exact LeO.none _ | refine LeO.ite ?_ ?_ | refine LeO.bind ?_ fun _ => ?_)
theorem point_numbers.mono : ∀ a0 a1 k, LeO (point_numbers.f k a0 a1) (point_numbers.f (k + 1) a0 a1) := by
  intro a0 a1 k
  obtain ⟨ih0, ih1⟩ := point_numbers.mono_l k
  unfold point_numbers.f
  repeat' (with_reducible first | apply ih0 | apply ih1 | apply sets_Clip.mono | exact LeO.refl _ | exact LeO.none _ | refine LeO.ite ?_ ?_ | refine LeO.bind ?_ fun _ => ?_)
def point_some.f (k : Nat) (a0 : ByteArray) (a1 : Int) (a2 : Int) : Option (Bool) := if (a0.size : Int) = a1 then ((point_numbers.f k a0 a2).bind fun t142 => (some (decide ((t142.length : Int) > 0)))) else (some false)
theorem point_some.mono : ∀ a0 a1 a2 k, LeO (point_some.f k a0 a1 a2) (point_some.f (k + 1) a0 a1 a2) := by
  intro a0 a1 a2 k
  unfold point_some.f
  repeat' (with_reducible first | apply point_numbers.mono | exact LeO.refl _ | exact LeO.none _ | refine LeO.ite ?_ ?_ | refine LeO.bind ?_ fun _ => ?_)
def point_Sane.j0 : Nat → Bool → Int → ByteArray → ByteArray → ByteArray → Option (Bool)
  | 0, _, _, _, _, _ => none
  | k + 1, x3, x146000, x146001, x146002, x146003 => if x146000 = 0 then (if (x146001.size : Int) = 4 then ((point_some.f k x146002 2 12).bind fun t147 => (if t147 = true then ((point_some.f k x146003 2 31).bind fun t148 => (some t148)) else (some false))) else (some false)) else (if x146000 = 1 then (if (x146001.size : Int) = 4 then ((point_some.f k x146002 2 12).bind fun t149 => (if t149 = true then (some (x146003.toList == ([] : List UInt8))) else (some false))) else (some false)) else (if x146000 = 2 then (if (x146001.size : Int) = 4 then ((point_some.f k x146002 1 4).bind fun t150 => (if t150 = true then (some (x146003.toList == ([] : List UInt8))) else (some false))) else (some false)) else (if x146000 = 3 then (if (x146001.size : Int) = 4 then (some x3) else (some false)) else (if x146000 = 4 then (if (x146001.size : Int) = 3 then (some x3) else (some false)) else (if x146000 = 5 then (if (x146001.size : Int) = 2 then (some x3) else (some false)) else (some false))))))
def point_Sane.f (k : Nat) (a0_0 : Int) (a0_1 : ByteArray) (a0_2 : ByteArray) (a0_3 : ByteArray) : Option (Bool) := (mask_Sane.f a0_1).bind fun t146 => (if t146 = true then (if a0_2.toList = ([] : List UInt8) then (point_Sane.j0 k (a0_3.toList == ([] : List UInt8)) a0_0 a0_1 a0_2 a0_3) else (point_Sane.j0 k false a0_0 a0_1 a0_2 a0_3)) else (some false))
theorem point_Sane.mono_l : ∀ k, (∀ y0 y1 y2 y3 y4, LeO (point_Sane.j0 k y0 y1 y2 y3 y4) (point_Sane.j0 (k + 1) y0 y1 y2 y3 y4))
  | 0 => fun _ _ _ _ _ r h => by simp [point_Sane.j0] at h
  | k + 1 => by
    have ih0 := point_Sane.mono_l k
    · intro y0 y1 y2 y3 y4
      unfold point_Sane.j0
      repeat' (with_reducible first | apply ih0 | apply point_some.mono | exact LeO.refl _ | exact LeO.none _ | refine LeO.ite ?_ ?_ | refine LeO.bind ?_ fun _ => ?_)
theorem point_Sane.mono : ∀ a0 a1 a2 a3 k, LeO (point_Sane.f k a0 a1 a2 a3) (point_Sane.f (k + 1) a0 a1 a2 a3) := by
  intro a0 a1 a2 a3 k
  have ih0 := point_Sane.mono_l k
  unfold point_Sane.f
  repeat' (with_reducible first | apply ih0 | apply point_some.mono | exact LeO.refl _ | exact LeO.none _ | refine LeO.ite ?_ ?_ | refine LeO.bind ?_ fun _ => ?_)
def lustrumref08_some.l0 : Nat → ByteArray → Int → Int → Option (Bool)
  | 0, _, _, _ => none
  | k + 1, x0, x2, x7 => if x7 ≤ x2 then ((lustrumref06_Match.f k x0 x7).bind fun t243 => (if t243 = true then (some true) else (lustrumref08_some.l0 k x0 x2 (wrap64 (x7 + 1))))) else (some false)
def lustrumref08_some.f (k : Nat) (a0 : ByteArray) (a1 : Int) (a2 : Int) : Option (Bool) := if (a0.size : Int) = a1 then (lustrumref08_some.l0 k a0 a2 1) else (some false)
def lustrumref08_Sane.f (k : Nat) (a0_0 : Int) (a0_1 : ByteArray) (a0_2 : ByteArray) (a0_3 : ByteArray) : Option (Bool) := (lustrumref06_Sane.f k a0_1).bind fun t245 => (if t245 = true then (if a0_0 = 0 then (if (a0_1.size : Int) = 4 then ((lustrumref08_some.f k a0_2 2 12).bind fun t246 => (if t246 = true then ((lustrumref08_some.f k a0_3 2 31).bind fun t247 => (some t247)) else (some false))) else (some false)) else (if a0_0 = 1 then (if (a0_1.size : Int) = 4 then ((lustrumref08_some.f k a0_2 2 12).bind fun t248 => (if t248 = true then (some (a0_3.toList == ([] : List UInt8))) else (some false))) else (some false)) else (if a0_0 = 2 then (if (a0_1.size : Int) = 4 then ((lustrumref08_some.f k a0_2 1 4).bind fun t249 => (if t249 = true then (some (a0_3.toList == ([] : List UInt8))) else (some false))) else (some false)) else (if a0_0 = 3 then (if (a0_1.size : Int) = 4 then (if a0_2.toList = ([] : List UInt8) then (some (a0_3.toList == ([] : List UInt8))) else (some false)) else (some false)) else (if a0_0 = 4 then (if (a0_1.size : Int) = 3 then (if a0_2.toList = ([] : List UInt8) then (some (a0_3.toList == ([] : List UInt8))) else (some false)) else (some false)) else (if a0_0 = 5 then (if (a0_1.size : Int) = 2 then (if a0_2.toList = ([] : List UInt8) then (some (a0_3.toList == ([] : List UInt8))) else (some false)) else (some false)) else (some false))))))) else (some false))
def setV (s : ByteArray) : List S86 := if saneL s.data.toList = true then setL s.data.toList [⟨0, 0⟩] else []
theorem setL_len (s : ByteArray) (h : saneL s.data.toList = true) : (setL s.data.toList [⟨0, 0⟩]).length ≤ 1000000 := by
  have ho := ok_of (s := s) (congrArg some h)
  have step : ∀ p, p ≤ s.size → ∃ out, setInv s p out := fun p => by
    induction p with
    | zero => exact fun _ => ⟨_, setInv_0 s⟩
    | succ p ih =>
      intro hp
      obtain ⟨out, hi⟩ := ih (by omega)
      exact ⟨_, setInv_step (by omega) (ho p (by omega)) hi⟩
  obtain ⟨out, h1, h2, h3⟩ := step s.size (Nat.le_refl _)
  have hd : setL (s.data.toList.drop s.size) out = out := by rw [List.drop_eq_nil_of_le (by rw [bsize]; exact Nat.le_refl _)]; rfl
  rw [hd] at h1
  rw [← h1]
  have h4 : s.size ≤ 4 := by rw [bsize]; exact (sane_all h).2.2
  have hl : lenB s.size ≤ 1000000 := by
    rcases (by omega : s.size = 0 ∨ s.size = 1 ∨ s.size = 2 ∨ s.size = 3 ∨ s.size = 4) with e | e | e | e | e <;> rw [e] <;> decide
  omega
theorem refV_sane {l : List UInt8} {n : Int} (h : saneL l = false) : refV l n = false := by unfold refV; rw [h]; rfl
theorem setV_is (s : ByteArray) : sane (setV s) ∧ (setV s).length ≤ 1000000 ∧ ∀ n, mem (setV s) n ↔ refV s.data.toList n = true := by
  unfold setV
  by_cases h : saneL s.data.toList = true
  · rw [if_pos h]
    exact ⟨(set_is s h).1, setL_len s h, (set_is s h).2⟩
  · rw [if_neg h]
    refine ⟨trivial, by simp, fun n => ?_⟩
    rw [refV_sane (Bool.eq_false_iff.2 h)]
    simp [mem_nil]
def numsR (r : S86) : List Int := upto r.f0 (r.f1 + 1 - r.f0).toNat
theorem nums_l1 (s : List S86) (i lo hi R' : Int) (hh : hi ≤ 1000) {R : List Int} : ∀ (m : Nat) (x : Int) (acc : List Int), 0 ≤ x → x + m = hi + 1 ∨ (m = 0 ∧ hi < x) → acc.length + m < 17592186044416 →
    Ev (fun k => point_numbers.l0 k (acc ++ upto x m) s (s.length : Int) (wrap64 (i + 1))) R → Ev (fun k => point_numbers.l1 k acc x s (s.length : Int) i lo hi) R
  | 0, x, acc, h0, hx, hl, h => by
    refine Ev.step (f := fun k => point_numbers.l0 k acc s (s.length : Int) (wrap64 (i + 1))) (fun k => by rw [point_numbers.l1, if_neg (by omega)]) ?_
    simpa [upto] using h
  | m + 1, x, acc, h0, hx, hl, h => by
    refine Ev.step (f := fun k => point_numbers.l1 k (acc ++ [x]) (x + 1) s (s.length : Int) i lo hi) (fun k => by rw [point_numbers.l1, if_pos (by omega), if_pos (by omega), w64 (by omega) (by omega)]) ?_
    refine nums_l1 s i lo hi R' hh m (x + 1) (acc ++ [x]) (by omega) (by omega) (by rw [List.length_append, List.length_singleton]; omega) ?_
    rw [List.append_assoc, List.singleton_append]
    exact h
theorem nums_l0 : ∀ (t p : List S86) (acc : List Int), (∀ r, r ∈ t → 1 ≤ r.f0 ∧ r.f1 ≤ 31) → acc.length + 32 * t.length < 17592186044416 → (p ++ t).length ≤ 4611686018427387904 →
    Ev (fun k => point_numbers.l0 k acc (p ++ t) ((p ++ t).length : Int) (p.length : Int)) (acc ++ t.flatMap numsR)
  | [], p, acc, _, _, _ => Ev.step (f := fun _ => some (acc ++ [])) (fun k => by rw [point_numbers.l0, if_neg (at_end p), List.append_nil]) (Ev.now _)
  | r :: t, p, acc, hr, hl, hp => by
    have h1 := hr r List.mem_cons_self
    refine Ev.step (f := fun k => point_numbers.l1 k acc r.f0 (p ++ r :: t) ((p ++ r :: t).length : Int) (p.length : Int) r.f0 r.f1) (fun k => by rw [point_numbers.l0, if_pos (at_lt p r t), if_pos (at_0 p), if_pos (at_lt p r t), at_rd]) ?_
    have hm : (r.f1 + 1 - r.f0).toNat ≤ 31 := by omega
    rw [List.length_cons] at hl
    refine nums_l1 (p ++ r :: t) (p.length : Int) r.f0 r.f1 0 (by omega) (r.f1 + 1 - r.f0).toNat r.f0 acc (by omega) (by omega) (by omega) ?_
    rw [at_next hp]
    have := nums_l0 t (p ++ [r]) (acc ++ numsR r) (fun q hq => hr q (List.mem_cons_of_mem _ hq)) (by rw [List.length_append]; unfold numsR; rw [upto_len]; omega) (by rw [← at_app]; exact hp)
    rw [← at_app] at this
    rw [List.flatMap_cons, ← List.append_assoc]
    exact this
def anyV (l : List UInt8) (i : Int) : Nat → Bool
  | 0 => false
  | m + 1 => refV l i || anyV l (i + 1) m
theorem anyV_iff (l : List UInt8) : ∀ (m : Nat) (i : Int), anyV l i m = true ↔ ∃ n, i ≤ n ∧ n < i + m ∧ refV l n = true
  | 0, i => by
    simp only [anyV]
    exact ⟨fun h => absurd h (by simp), fun ⟨n, h1, h2, _⟩ => by omega⟩
  | m + 1, i => by
    rw [anyV, Bool.or_eq_true, anyV_iff l m (i + 1)]
    constructor
    · rintro (h | ⟨n, h1, h2, h3⟩)
      · exact ⟨i, by omega, by omega, h⟩
      · exact ⟨n, by omega, by omega, h3⟩
    · rintro ⟨n, h1, h2, h3⟩
      rcases (by omega : n = i ∨ i + 1 ≤ n) with rfl | h
      · exact .inl h3
      · exact .inr ⟨n, h, by omega, h3⟩
theorem numbers_f (s : ByteArray) (m : Nat) (hm : 1 ≤ m ∧ m ≤ 31) : ∃ L : List Int, Ev (fun k => point_numbers.f k s (m : Int)) L ∧ (L ≠ [] ↔ anyV s.data.toList 1 m = true) := by
  obtain ⟨h1, h2, h3⟩ := setV_is s
  have hb : sane [(⟨1, (m : Int)⟩ : S86)] := ⟨by show -lim - 2 + 2 ≤ (1 : Int); unfold lim; omega, by show (1 : Int) ≤ (m : Int); omega, by show (m : Int) ≤ lim; unfold lim; omega, trivial⟩
  obtain ⟨e1, e2, e3, e4⟩ := Meet_s h1 hb (by simp; omega)
  have hin : ∀ r, r ∈ meet2 (setV s) [(⟨1, (m : Int)⟩ : S86)] → r.f0 ≤ r.f1 ∧ 1 ≤ r.f0 ∧ r.f1 ≤ (m : Int) := fun r hr => by
    have hle : r.f0 ≤ r.f1 := by
      have : ∀ {a : Int} {l : List S86}, saneF a l → ∀ q, q ∈ l → q.f0 ≤ q.f1 := by
        intro a l
        induction l generalizing a with
        | nil => intro _ q hq; cases hq
        | cons x t ih =>
          intro h q hq
          rcases List.mem_cons.1 hq with rfl | hq
          · exact h.2.1
          · exact ih h.2.2.2 q hq
      exact this e3 r hr
    have ha := (e2 r.f0).1 ⟨r, hr, Int.le_refl _, hle⟩
    have hc := (e2 r.f1).1 ⟨r, hr, hle, Int.le_refl _⟩
    have ha := (mem_one _ _).1 ha.2
    have hc := (mem_one _ _).1 hc.2
    simp only at ha hc
    exact ⟨hle, ha.1, hc.2⟩
  refine ⟨(meet2 (setV s) [(⟨1, (m : Int)⟩ : S86)]).flatMap numsR, ?_, ?_⟩
  · refine Ev.bnow (x := setV s) rfl ?_
    refine Ev.bind (Ev.bind e1 (Ev.now _)) ?_
    have := nums_l0 (meet2 (setV s) [(⟨1, (m : Int)⟩ : S86)]) [] [] (fun r hr => ⟨(hin r hr).2.1, by have := (hin r hr).2.2; omega⟩) (by simp at e4 ⊢; omega) (by simp at e4 ⊢; omega)
    simpa using this
  · rw [anyV_iff]
    constructor
    · intro h
      obtain ⟨n, hn⟩ := List.exists_mem_of_ne_nil _ h
      obtain ⟨r, hr, hn⟩ := List.mem_flatMap.1 hn
      have hn := (upto_mem _ _ _).1 hn
      obtain ⟨a, b, c⟩ := hin r hr
      have hmem := (e2 n).1 ⟨r, hr, hn.1, by omega⟩
      exact ⟨n, by omega, by omega, (h3 n).1 hmem.1⟩
    · rintro ⟨n, ha, hc, hv⟩
      obtain ⟨r, hr, hn1, hn2⟩ := (e2 n).2 ⟨(h3 n).2 hv, (mem_one _ _).2 ⟨by simp only; omega, by simp only; omega⟩⟩
      intro he
      have : n ∈ (meet2 (setV s) [(⟨1, (m : Int)⟩ : S86)]).flatMap numsR := List.mem_flatMap.2 ⟨r, hr, (upto_mem _ _ _).2 ⟨hn1, by omega⟩⟩
      rw [he] at this
      cases this
def someV (s : ByteArray) (n : Int) (m : Nat) : Bool := decide ((s.size : Int) = n) && anyV s.data.toList 1 m
theorem some_f (s : ByteArray) (n : Int) (m : Nat) (hm : 1 ≤ m ∧ m ≤ 31) : Ev (fun k => point_some.f k s n (m : Int)) (someV s n m) := by
  unfold someV
  by_cases h : (s.size : Int) = n
  · rw [decide_eq_true h, Bool.true_and]
    refine Ev.ift h ?_
    obtain ⟨L, h1, h2⟩ := numbers_f s m hm
    refine Ev.bind h1 (Ev.eq (Ev.now _) ?_)
    cases hv : anyV s.data.toList 1 m with
    | true =>
      have := h2.2 hv
      cases L with
      | nil => exact absurd rfl this
      | cons x t => exact decide_eq_true (by simp)
    | false =>
      cases L with
      | nil => rfl
      | cons x t => exact absurd (h2.1 (by simp)) (by rw [hv]; simp)
  · rw [decide_eq_false h, Bool.false_and]
    exact Ev.iff_ h (Ev.now _)
theorem rsome_l0 (s : ByteArray) (hz : s.size ≤ 9223372036854775807) (most : Int) (hm : most ≤ 31) : ∀ (m : Nat) (i : Int), 0 ≤ i → i + m = most + 1 → Ev (fun k => lustrumref08_some.l0 k s most i) (anyV s.data.toList i m)
  | 0, i, h0, h => Ev.step (f := fun _ => some false) (fun k => by rw [lustrumref08_some.l0, if_neg (by omega)]) (Ev.now _)
  | m + 1, i, h0, h => by
    refine Ev.step (f := fun k => (lustrumref06_Match.f k s i).bind fun t => if t = true then some true else lustrumref08_some.l0 k s most (i + 1)) (fun k => by rw [lustrumref08_some.l0, if_pos (by omega), w64 (by omega) (by omega)]) ?_
    refine Ev.bind (rMatch_f s hz i (by omega)) ?_
    rw [anyV]
    cases hv : refV s.data.toList i with
    | true => exact Ev.ift rfl (Ev.now _)
    | false => exact Ev.iff_ (by simp) (rsome_l0 s hz most hm m (i + 1) (by omega) (by omega))
theorem rsome_f (s : ByteArray) (hz : s.size ≤ 9223372036854775807) (n : Int) (m : Nat) (hm : 1 ≤ m ∧ m ≤ 31) : Ev (fun k => lustrumref08_some.f k s n (m : Int)) (someV s n m) := by
  unfold someV
  by_cases h : (s.size : Int) = n
  · rw [decide_eq_true h, Bool.true_and]
    exact Ev.ift h (rsome_l0 s hz m (by omega) m 1 (by omega) (by omega))
  · rw [decide_eq_false h, Bool.false_and]
    exact Ev.iff_ h (Ev.now _)
def emptyV (s : ByteArray) : Bool := s.toList == ([] : List UInt8)
def ptV (p : S23) : Bool := saneL p.f1.data.toList && (
  if p.f0 = 0 then decide ((p.f1.size : Int) = 4) && (someV p.f2 2 12 && someV p.f3 2 31)
  else if p.f0 = 1 then decide ((p.f1.size : Int) = 4) && (someV p.f2 2 12 && emptyV p.f3)
  else if p.f0 = 2 then decide ((p.f1.size : Int) = 4) && (someV p.f2 1 4 && emptyV p.f3)
  else if p.f0 = 3 then decide ((p.f1.size : Int) = 4) && (emptyV p.f2 && emptyV p.f3)
  else if p.f0 = 4 then decide ((p.f1.size : Int) = 3) && (emptyV p.f2 && emptyV p.f3)
  else if p.f0 = 5 then decide ((p.f1.size : Int) = 2) && (emptyV p.f2 && emptyV p.f3)
  else false)
theorem Ev.cond {c : Prop} [Decidable c] {g : Nat → Option Bool} {r : Bool} (h : c → Ev g r) : Ev (fun k => if c then g k else some false) (decide c && r) := by
  by_cases hc : c
  · rw [decide_eq_true hc, Bool.true_and]; exact Ev.ift hc (h hc)
  · rw [decide_eq_false hc, Bool.false_and]; exact Ev.iff_ hc (Ev.now _)
theorem Ev.andb {a : Nat → Option Bool} {g : Nat → Option Bool} {x r : Bool} (h1 : Ev a x) (h2 : Ev g r) : Ev (fun k => (a k).bind fun t => if t = true then g k else some false) (x && r) := by
  refine Ev.bind h1 ?_
  cases x with
  | true => rw [Bool.true_and]; exact Ev.ift rfl h2
  | false => exact Ev.iff_ (by simp) (Ev.now _)
theorem Ev.pick {c : Prop} [Decidable c] {g f : Nat → Option Bool} {r q : Bool} (h1 : Ev g r) (h2 : Ev f q) : Ev (fun k => if c then g k else f k) (if c then r else q) := by
  by_cases hc : c
  · rw [if_pos hc]; exact Ev.ift hc h1
  · rw [if_neg hc]; exact Ev.iff_ hc h2
theorem Ev.self {a : Nat → Option Bool} {x : Bool} (h : Ev a x) : Ev (fun k => (a k).bind fun t => some t) x := Ev.bind h (Ev.now _)
theorem bare_and (a b : ByteArray) : (if a.toList = ([] : List UInt8) then emptyV b else false) = (emptyV a && emptyV b) := by
  unfold emptyV
  by_cases h : a.toList = []
  · rw [if_pos h, h]; rfl
  · rw [if_neg h]
    have : (a.toList == ([] : List UInt8)) = false := by cases hl : a.toList with
      | nil => exact absurd hl h
      | cons x t => rfl
    rw [this]; rfl
theorem ptSane_f (p : S23) : Ev (fun k => point_Sane.f k p.f0 p.f1 p.f2 p.f3) (ptV p) := by
  unfold ptV
  refine Ev.bnow (x := saneL p.f1.data.toList) rfl ?_
  have hj : ∀ b : Bool, b = (emptyV p.f2 && emptyV p.f3) → Ev (fun k => point_Sane.j0 k b p.f0 p.f1 p.f2 p.f3) (
      if p.f0 = 0 then decide ((p.f1.size : Int) = 4) && (someV p.f2 2 12 && someV p.f3 2 31)
      else if p.f0 = 1 then decide ((p.f1.size : Int) = 4) && (someV p.f2 2 12 && emptyV p.f3)
      else if p.f0 = 2 then decide ((p.f1.size : Int) = 4) && (someV p.f2 1 4 && emptyV p.f3)
      else if p.f0 = 3 then decide ((p.f1.size : Int) = 4) && (emptyV p.f2 && emptyV p.f3)
      else if p.f0 = 4 then decide ((p.f1.size : Int) = 3) && (emptyV p.f2 && emptyV p.f3)
      else if p.f0 = 5 then decide ((p.f1.size : Int) = 2) && (emptyV p.f2 && emptyV p.f3)
      else false) := fun b hb => by
    subst hb
    refine Ev.step (fun k => by rw [point_Sane.j0]) ?_
    refine Ev.pick (Ev.cond fun _ => Ev.andb (some_f p.f2 2 12 (by omega)) (Ev.self (some_f p.f3 2 31 (by omega)))) ?_
    refine Ev.pick (Ev.cond fun _ => Ev.andb (some_f p.f2 2 12 (by omega)) (Ev.now _)) ?_
    refine Ev.pick (Ev.cond fun _ => Ev.andb (some_f p.f2 1 4 (by omega)) (Ev.now _)) ?_
    refine Ev.pick (Ev.cond fun _ => Ev.now _) ?_
    refine Ev.pick (Ev.cond fun _ => Ev.now _) ?_
    exact Ev.pick (Ev.cond fun _ => Ev.now _) (Ev.now _)
  cases hs : saneL p.f1.data.toList with
  | false => exact Ev.iff_ (by simp) (Ev.now _)
  | true =>
    rw [Bool.true_and]
    refine Ev.ift rfl ?_
    have hb := bare_and p.f2 p.f3
    by_cases h : p.f2.toList = ([] : List UInt8)
    · rw [if_pos h] at hb
      exact Ev.ift h (hj _ hb)
    · rw [if_neg h] at hb
      exact Ev.iff_ h (hj _ hb)
theorem rptSane_f (p : S23) (h1 : p.f1.size ≤ 9223372036854775807) (h2 : p.f2.size ≤ 9223372036854775807) (h3 : p.f3.size ≤ 9223372036854775807) : Ev (fun k => lustrumref08_Sane.f k p.f0 p.f1 p.f2 p.f3) (ptV p) := by
  unfold ptV
  refine Ev.andb (rSane_f p.f1 h1) ?_
  have hbare : Ev (fun _ : Nat => if p.f2.toList = ([] : List UInt8) then some (p.f3.toList == ([] : List UInt8)) else some false) (emptyV p.f2 && emptyV p.f3) := by
    rw [← bare_and]
    exact Ev.pick (Ev.now _) (Ev.now _)
  refine Ev.pick (Ev.cond fun _ => Ev.andb (rsome_f p.f2 h2 2 12 (by omega)) (Ev.self (rsome_f p.f3 h3 2 31 (by omega)))) ?_
  refine Ev.pick (Ev.cond fun _ => Ev.andb (rsome_f p.f2 h2 2 12 (by omega)) (Ev.now _)) ?_
  refine Ev.pick (Ev.cond fun _ => Ev.andb (rsome_f p.f2 h2 1 4 (by omega)) (Ev.now _)) ?_
  refine Ev.pick (Ev.cond fun _ => hbare) ?_
  refine Ev.pick (Ev.cond fun _ => hbare) ?_
  exact Ev.pick (Ev.cond fun _ => hbare) (Ev.now _)
mutual
def slices_EqualFunc.l0 : Nat → List (S26) → List (S26) → Int → Int → Option (Bool)
  | 0, _, _, _, _ => none
  | k + 1, x1, x15, x16, x17 => if x17 < x16 then (if 0 ≤ x17 then (if x17 < (x15.length : Int) then (if x17 < (x1.length : Int) then ((tree_Same.f k ((rd_T26 x15 x17).f0) ((rd_T26 x15 x17).f1.f0) ((rd_T26 x15 x17).f1.f1) ((rd_T26 x15 x17).f1.f2) ((rd_T26 x15 x17).f1.f3) ((rd_T26 x15 x17).f2) ((rd_T26 x15 x17).f3) ((rd_T26 x15 x17).f4) ((rd_T26 x1 x17).f0) ((rd_T26 x1 x17).f1.f0) ((rd_T26 x1 x17).f1.f1) ((rd_T26 x1 x17).f1.f2) ((rd_T26 x1 x17).f1.f3) ((rd_T26 x1 x17).f2) ((rd_T26 x1 x17).f3) ((rd_T26 x1 x17).f4)).bind fun t105 => (if t105 = true then (slices_EqualFunc.l0 k x1 x15 x16 (wrap64 (x17 + 1))) else (some false))) else (none)) else (none)) else (none)) else (some true)
def tree_Same.f : Nat → Int → Int → ByteArray → ByteArray → ByteArray → Bool → Bool → List (S26) → Int → Int → ByteArray → ByteArray → ByteArray → Bool → Bool → List (S26) → Option (Bool)
  | 0, _, _, _, _, _, _, _, _, _, _, _, _, _, _, _, _ => none
  | k + 1, a0_0, a0_1, a0_2, a0_3, a0_4, a0_5, a0_6, l0_7, a1_0, a1_1, a1_2, a1_3, a1_4, a1_5, a1_6, l1_7 => if a0_0 = a1_0 then (if (a0_1 == a1_1 && (a0_2.toList == a1_2.toList && (a0_3.toList == a1_3.toList && (a0_4.toList == a1_4.toList)))) = true then (if (a0_5 == a1_5) = true then (if (a0_6 == a1_6) = true then ((if (l0_7.length : Int) = (l1_7.length : Int) then (slices_EqualFunc.l0 k l1_7 l0_7 (l0_7.length : Int) 0) else (some false)).bind fun t103 => (some t103)) else (some false)) else (some false)) else (some false)) else (some false)
end
def slices_EqualFunc.f (k : Nat) (l0 : List (S26)) (l1 : List (S26))  : Option (Bool) := if (l0.length : Int) = (l1.length : Int) then (slices_EqualFunc.l0 k l1 l0 (l0.length : Int) 0) else (some false)
theorem tree_Same.f_succ (k : Nat) (a0_0 : Int) (a0_1 : Int) (a0_2 : ByteArray) (a0_3 : ByteArray) (a0_4 : ByteArray) (a0_5 : Bool) (a0_6 : Bool) (l0_7 : List (S26)) (a1_0 : Int) (a1_1 : Int) (a1_2 : ByteArray) (a1_3 : ByteArray) (a1_4 : ByteArray) (a1_5 : Bool) (a1_6 : Bool) (l1_7 : List (S26)) : tree_Same.f (k + 1) a0_0 a0_1 a0_2 a0_3 a0_4 a0_5 a0_6 l0_7 a1_0 a1_1 a1_2 a1_3 a1_4 a1_5 a1_6 l1_7 = if a0_0 = a1_0 then (if (a0_1 == a1_1 && (a0_2.toList == a1_2.toList && (a0_3.toList == a1_3.toList && (a0_4.toList == a1_4.toList)))) = true then (if (a0_5 == a1_5) = true then (if (a0_6 == a1_6) = true then ((slices_EqualFunc.f k l0_7 l1_7).bind fun t103 => (some t103)) else (some false)) else (some false)) else (some false)) else (some false) := by
  rw [tree_Same.f]
  rfl
theorem tree_Same.mono_l : ∀ k, (∀ y0 y1 y2 y3 y4 y5 y6 y7 y8 y9 y10 y11 y12 y13 y14 y15, LeO (tree_Same.f k y0 y1 y2 y3 y4 y5 y6 y7 y8 y9 y10 y11 y12 y13 y14 y15) (tree_Same.f (k + 1) y0 y1 y2 y3 y4 y5 y6 y7 y8 y9 y10 y11 y12 y13 y14 y15)) ∧ (∀ y0 y1 y2 y3, LeO (slices_EqualFunc.l0 k y0 y1 y2 y3) (slices_EqualFunc.l0 (k + 1) y0 y1 y2 y3))
  | 0 => ⟨fun _ _ _ _ _ _ _ _ _ _ _ _ _ _ _ _ r h => by simp [tree_Same.f] at h, fun _ _ _ _ r h => by simp [slices_EqualFunc.l0] at h⟩
  | k + 1 => by
    obtain ⟨ih0, ih1⟩ := tree_Same.mono_l k
    refine ⟨?_, ?_⟩
    · intro y0 y1 y2 y3 y4 y5 y6 y7 y8 y9 y10 y11 y12 y13 y14 y15
      unfold tree_Same.f
      repeat' (with_reducible first | apply ih0 | apply ih1 | exact LeO.refl _ | exact LeO.none _ | refine LeO.ite ?_ ?_ | refine LeO.bind ?_ fun _ => ?_)
    · intro y0 y1 y2 y3
      unfold slices_EqualFunc.l0
      repeat' (with_reducible first | apply ih0 | apply ih1 | exact LeO.refl _ | exact LeO.none _ | refine LeO.ite ?_ ?_ | refine LeO.bind ?_ fun _ => ?_)
theorem tree_Same.mono : ∀ a0 a1 a2 a3 a4 a5 a6 a7 a8 a9 a10 a11 a12 a13 a14 a15 k, LeO (tree_Same.f k a0 a1 a2 a3 a4 a5 a6 a7 a8 a9 a10 a11 a12 a13 a14 a15) (tree_Same.f (k + 1) a0 a1 a2 a3 a4 a5 a6 a7 a8 a9 a10 a11 a12 a13 a14 a15) := fun a0 a1 a2 a3 a4 a5 a6 a7 a8 a9 a10 a11 a12 a13 a14 a15 k => (tree_Same.mono_l k).1 a0 a1 a2 a3 a4 a5 a6 a7 a8 a9 a10 a11 a12 a13 a14 a15
def tree_bare.f (a0_0 : Int) (a0_1 : Int) (a0_2 : ByteArray) (a0_3 : ByteArray) (a0_4 : ByteArray) (a0_5 : Bool) (a0_6 : Bool) (l0_7 : List (S26)) : Option (Bool) := if (a0_1 == 0 && (a0_2.toList == ([] : List UInt8) && (a0_3.toList == ([] : List UInt8) && (a0_4.toList == ([] : List UInt8))))) = true then (if a0_5 = true then (some false) else (some (!a0_6))) else (some false)
def tree_End.f (k : Nat) (a0_0 : Int) (a0_1 : Int) (a0_2 : ByteArray) (a0_3 : ByteArray) (a0_4 : ByteArray) (a0_5 : Bool) (a0_6 : Bool) (l0_7 : List (S26)) : Option (Bool) := if a0_0 = 0 then (if (l0_7.length : Int) = 0 then ((point_Sane.f k a0_1 a0_2 a0_3 a0_4).bind fun t153 => (some t153)) else (some false)) else (if a0_0 = 3 then (if (l0_7.length : Int) = 0 then ((tree_bare.f a0_0 a0_1 a0_2 a0_3 a0_4 a0_5 a0_6 l0_7).bind fun t154 => (some t154)) else (some false)) else (if a0_0 = 4 then (if (l0_7.length : Int) = 0 then ((tree_bare.f a0_0 a0_1 a0_2 a0_3 a0_4 a0_5 a0_6 l0_7).bind fun t155 => (some t155)) else (some false)) else (some false)))
theorem tree_End.mono : ∀ a0 a1 a2 a3 a4 a5 a6 a7 k, LeO (tree_End.f k a0 a1 a2 a3 a4 a5 a6 a7) (tree_End.f (k + 1) a0 a1 a2 a3 a4 a5 a6 a7) := by
  intro a0 a1 a2 a3 a4 a5 a6 a7 k
  unfold tree_End.f
  repeat' (with_reducible first | apply point_Sane.mono | exact LeO.refl _ | exact LeO.none _ | refine LeO.ite ?_ ?_ | refine LeO.bind ?_ fun _ => ?_)
mutual
def slices_IndexFunc.l0 : Nat → List (S26) → Int → Int → Option (Int)
  | 0, _, _, _ => none
  | k + 1, x0, x7, x8 => if x8 < x7 then (if 0 ≤ x8 then (if x8 < (x0.length : Int) then (((tree_right.f k ((rd_T26 x0 x8).f0) ((rd_T26 x0 x8).f1.f0) ((rd_T26 x0 x8).f1.f1) ((rd_T26 x0 x8).f1.f2) ((rd_T26 x0 x8).f1.f3) ((rd_T26 x0 x8).f2) ((rd_T26 x0 x8).f3) ((rd_T26 x0 x8).f4)).bind fun t102_ => (some (!t102_))).bind fun t102 => (if t102 = true then (some x8) else (slices_IndexFunc.l0 k x0 x7 (wrap64 (x8 + 1))))) else (none)) else (none)) else (some (-1))
def tree_right.f : Nat → Int → Int → ByteArray → ByteArray → ByteArray → Bool → Bool → List (S26) → Option (Bool)
  | 0, _, _, _, _, _, _, _, _ => none
  | k + 1, a0_0, a0_1, a0_2, a0_3, a0_4, a0_5, a0_6, l0_7 => if a0_0 = 0 then ((tree_End.f k a0_0 a0_1 a0_2 a0_3 a0_4 a0_5 a0_6 l0_7).bind fun t105 => (some t105)) else (if a0_0 = 1 then ((tree_bare.f a0_0 a0_1 a0_2 a0_3 a0_4 a0_5 a0_6 l0_7).bind fun t106 => (if t106 = true then (if (l0_7.length : Int) = 2 then (if 0 < (l0_7.length : Int) then ((tree_End.f k ((rd_T26 l0_7 0).f0) ((rd_T26 l0_7 0).f1.f0) ((rd_T26 l0_7 0).f1.f1) ((rd_T26 l0_7 0).f1.f2) ((rd_T26 l0_7 0).f1.f3) ((rd_T26 l0_7 0).f2) ((rd_T26 l0_7 0).f3) ((rd_T26 l0_7 0).f4)).bind fun t108 => (if t108 = true then (if 1 < (l0_7.length : Int) then ((tree_End.f k ((rd_T26 l0_7 1).f0) ((rd_T26 l0_7 1).f1.f0) ((rd_T26 l0_7 1).f1.f1) ((rd_T26 l0_7 1).f1.f2) ((rd_T26 l0_7 1).f1.f3) ((rd_T26 l0_7 1).f2) ((rd_T26 l0_7 1).f3) ((rd_T26 l0_7 1).f4)).bind fun t110 => (some t110)) else (none)) else (some false))) else (none)) else (some false)) else (some false))) else (if a0_0 = 2 then ((tree_bare.f a0_0 a0_1 a0_2 a0_3 a0_4 a0_5 a0_6 l0_7).bind fun t111 => (if t111 = true then (if (l0_7.length : Int) > 0 then (((slices_IndexFunc.l0 k l0_7 (l0_7.length : Int) 0).bind fun t103 => (some (decide (t103 ≥ 0)))).bind fun t112 => (some (!t112))) else (some false)) else (some false))) else (some false)))
end
def tree_right_1.f (k : Nat) (a0_0 : Int) (a0_1 : Int) (a0_2 : ByteArray) (a0_3 : ByteArray) (a0_4 : ByteArray) (a0_5 : Bool) (a0_6 : Bool) (l0_7 : List (S26)) : Option (Bool) := (tree_right.f k a0_0 a0_1 a0_2 a0_3 a0_4 a0_5 a0_6 l0_7).bind fun t102 => (some (!t102))
def slices_IndexFunc.f (k : Nat) (l0 : List (S26))  : Option (Int) := slices_IndexFunc.l0 k l0 (l0.length : Int) 0
def slices_ContainsFunc.f (k : Nat) (l0 : List (S26))  : Option (Bool) := (slices_IndexFunc.f k l0).bind fun t103 => (some (decide (t103 ≥ 0)))
def tree_rightR.f (k : Nat) (a0_0 : Int) (a0_1 : Int) (a0_2 : ByteArray) (a0_3 : ByteArray) (a0_4 : ByteArray) (a0_5 : Bool) (a0_6 : Bool) (l0_7 : List (S26)) : Option (Bool) := if a0_0 = 0 then ((tree_End.f k a0_0 a0_1 a0_2 a0_3 a0_4 a0_5 a0_6 l0_7).bind fun t105 => (some t105)) else (if a0_0 = 1 then ((tree_bare.f a0_0 a0_1 a0_2 a0_3 a0_4 a0_5 a0_6 l0_7).bind fun t106 => (if t106 = true then (if (l0_7.length : Int) = 2 then (if 0 < (l0_7.length : Int) then ((tree_End.f k ((rd_T26 l0_7 0).f0) ((rd_T26 l0_7 0).f1.f0) ((rd_T26 l0_7 0).f1.f1) ((rd_T26 l0_7 0).f1.f2) ((rd_T26 l0_7 0).f1.f3) ((rd_T26 l0_7 0).f2) ((rd_T26 l0_7 0).f3) ((rd_T26 l0_7 0).f4)).bind fun t108 => (if t108 = true then (if 1 < (l0_7.length : Int) then ((tree_End.f k ((rd_T26 l0_7 1).f0) ((rd_T26 l0_7 1).f1.f0) ((rd_T26 l0_7 1).f1.f1) ((rd_T26 l0_7 1).f1.f2) ((rd_T26 l0_7 1).f1.f3) ((rd_T26 l0_7 1).f2) ((rd_T26 l0_7 1).f3) ((rd_T26 l0_7 1).f4)).bind fun t110 => (some t110)) else (none)) else (some false))) else (none)) else (some false)) else (some false))) else (if a0_0 = 2 then ((tree_bare.f a0_0 a0_1 a0_2 a0_3 a0_4 a0_5 a0_6 l0_7).bind fun t111 => (if t111 = true then (if (l0_7.length : Int) > 0 then ((slices_ContainsFunc.f k l0_7).bind fun t112 => (some (!t112))) else (some false)) else (some false))) else (some false)))
theorem slices_IndexFunc.l0_succ (k : Nat) (x0 : List S26) (x7 x8 : Int) : slices_IndexFunc.l0 (k + 1) x0 x7 x8 = if x8 < x7 then (if 0 ≤ x8 then (if x8 < (x0.length : Int) then ((tree_right_1.f k ((rd_T26 x0 x8).f0) ((rd_T26 x0 x8).f1.f0) ((rd_T26 x0 x8).f1.f1) ((rd_T26 x0 x8).f1.f2) ((rd_T26 x0 x8).f1.f3) ((rd_T26 x0 x8).f2) ((rd_T26 x0 x8).f3) ((rd_T26 x0 x8).f4)).bind fun t102 => (if t102 = true then (some x8) else (slices_IndexFunc.l0 k x0 x7 (wrap64 (x8 + 1))))) else (none)) else (none)) else (some (-1)) := by
  rw [slices_IndexFunc.l0]
  rfl
theorem tree_right.f_succ (k : Nat) (a0_0 : Int) (a0_1 : Int) (a0_2 : ByteArray) (a0_3 : ByteArray) (a0_4 : ByteArray) (a0_5 : Bool) (a0_6 : Bool) (l0_7 : List (S26)) : tree_right.f (k + 1) a0_0 a0_1 a0_2 a0_3 a0_4 a0_5 a0_6 l0_7 = tree_rightR.f k a0_0 a0_1 a0_2 a0_3 a0_4 a0_5 a0_6 l0_7 := by
  rw [tree_right.f]
  rfl
theorem tree_right.mono_l : ∀ k, (∀ y0 y1 y2 y3 y4 y5 y6 y7, LeO (tree_right.f k y0 y1 y2 y3 y4 y5 y6 y7) (tree_right.f (k + 1) y0 y1 y2 y3 y4 y5 y6 y7)) ∧ (∀ y0 y1 y2, LeO (slices_IndexFunc.l0 k y0 y1 y2) (slices_IndexFunc.l0 (k + 1) y0 y1 y2))
  | 0 => ⟨fun _ _ _ _ _ _ _ _ r h => by simp [tree_right.f] at h, fun _ _ _ r h => by simp [slices_IndexFunc.l0] at h⟩
  | k + 1 => by
    obtain ⟨ih0, ih1⟩ := tree_right.mono_l k
    refine ⟨?_, ?_⟩
    · intro y0 y1 y2 y3 y4 y5 y6 y7
      unfold tree_right.f
      repeat' (with_reducible first | apply ih0 | apply ih1 | apply tree_End.mono | exact LeO.refl _ | exact LeO.none _ | refine LeO.ite ?_ ?_ | refine LeO.bind ?_ fun _ => ?_)
    · intro y0 y1 y2
      unfold slices_IndexFunc.l0
      repeat' (with_reducible first | apply ih0 | apply ih1 | apply tree_End.mono | exact LeO.refl _ | exact LeO.none _ | refine LeO.ite ?_ ?_ | refine LeO.bind ?_ fun _ => ?_)
theorem tree_right.mono : ∀ a0 a1 a2 a3 a4 a5 a6 a7 k, LeO (tree_right.f k a0 a1 a2 a3 a4 a5 a6 a7) (tree_right.f (k + 1) a0 a1 a2 a3 a4 a5 a6 a7) := fun a0 a1 a2 a3 a4 a5 a6 a7 k => (tree_right.mono_l k).1 a0 a1 a2 a3 a4 a5 a6 a7
mutual
def tree_Count_1.l0 : Nat → Int → List (S26) → Int → Int → Option (Int)
  | 0, _, _, _, _ => none
  | k + 1, x1, x9, x10, x11 => if x11 < x10 then (if 0 ≤ x11 then (if x11 < (x9.length : Int) then ((tree_Count_1.f k ((rd_T26 x9 x11).f0) ((rd_T26 x9 x11).f1.f0) ((rd_T26 x9 x11).f1.f1) ((rd_T26 x9 x11).f1.f2) ((rd_T26 x9 x11).f1.f3) ((rd_T26 x9 x11).f2) ((rd_T26 x9 x11).f3) ((rd_T26 x9 x11).f4) x1).bind fun t104 => (tree_Count_1.l0 k t104 x9 x10 (wrap64 (x11 + 1)))) else (none)) else (none)) else (some x1)
def tree_Count_1.f : Nat → Int → Int → ByteArray → ByteArray → ByteArray → Bool → Bool → List (S26) → Int → Option (Int)
  | 0, _, _, _, _, _, _, _, _, _ => none
  | k + 1, a0_0, a0_1, a0_2, a0_3, a0_4, a0_5, a0_6, l0_7, a1 => tree_Count_1.l0 k (wrap64 (a1 + 1)) l0_7 (l0_7.length : Int) 0
end
theorem tree_Count_1.mono_l : ∀ k, (∀ y0 y1 y2 y3 y4 y5 y6 y7 y8, LeO (tree_Count_1.f k y0 y1 y2 y3 y4 y5 y6 y7 y8) (tree_Count_1.f (k + 1) y0 y1 y2 y3 y4 y5 y6 y7 y8)) ∧ (∀ y0 y1 y2 y3, LeO (tree_Count_1.l0 k y0 y1 y2 y3) (tree_Count_1.l0 (k + 1) y0 y1 y2 y3))
  | 0 => ⟨fun _ _ _ _ _ _ _ _ _ r h => by simp [tree_Count_1.f] at h, fun _ _ _ _ r h => by simp [tree_Count_1.l0] at h⟩
  | k + 1 => by
    obtain ⟨ih0, ih1⟩ := tree_Count_1.mono_l k
    refine ⟨?_, ?_⟩
    · intro y0 y1 y2 y3 y4 y5 y6 y7 y8
      unfold tree_Count_1.f
      repeat' (with_reducible first | apply ih0 | apply ih1 | exact LeO.refl _ | exact LeO.none _ | refine LeO.ite ?_ ?_ | refine LeO.bind ?_ fun _ => ?_)
    · intro y0 y1 y2 y3
      unfold tree_Count_1.l0
      repeat' (with_reducible first | apply ih0 | apply ih1 | exact LeO.refl _ | exact LeO.none _ | refine LeO.ite ?_ ?_ | refine LeO.bind ?_ fun _ => ?_)
theorem tree_Count_1.mono : ∀ a0 a1 a2 a3 a4 a5 a6 a7 a8 k, LeO (tree_Count_1.f k a0 a1 a2 a3 a4 a5 a6 a7 a8) (tree_Count_1.f (k + 1) a0 a1 a2 a3 a4 a5 a6 a7 a8) := by
  intro a0 a1 a2 a3 a4 a5 a6 a7 a8 k
  obtain ⟨ih0, ih1⟩ := tree_Count_1.mono_l k
  exact ih0 a0 a1 a2 a3 a4 a5 a6 a7 a8
mutual
def tree_Deep_1.j0 : Nat → Int → Int → Int → Int → ByteArray → ByteArray → ByteArray → Bool → Bool → List (S26) → Option (Int)
  | 0, _, _, _, _, _, _, _, _, _, _ => none
  | k + 1, x1, x2, x106000, x106001, x106002, x106003, x106004, x106005, x106006, x106007 => tree_Deep_1.l0 k x1 (mx x2 x1) x106007 (x106007.length : Int) 0
def tree_Deep_1.l0 : Nat → Int → Int → List (S26) → Int → Int → Option (Int)
  | 0, _, _, _, _, _ => none
  | k + 1, x1, x2, x17, x18, x19 => if x19 < x18 then (if 0 ≤ x19 then (if x19 < (x17.length : Int) then ((tree_Deep_1.f k ((rd_T26 x17 x19).f0) ((rd_T26 x17 x19).f1.f0) ((rd_T26 x17 x19).f1.f1) ((rd_T26 x17 x19).f1.f2) ((rd_T26 x17 x19).f1.f3) ((rd_T26 x17 x19).f2) ((rd_T26 x17 x19).f3) ((rd_T26 x17 x19).f4) x1 x2).bind fun t108 => (tree_Deep_1.l0 k x1 t108 x17 x18 (wrap64 (x19 + 1)))) else (none)) else (none)) else (some x2)
def tree_Deep_1.f : Nat → Int → Int → ByteArray → ByteArray → ByteArray → Bool → Bool → List (S26) → Int → Int → Option (Int)
  | 0, _, _, _, _, _, _, _, _, _, _ => none
  | k + 1, a0_0, a0_1, a0_2, a0_3, a0_4, a0_5, a0_6, l0_7, a1, a2 => if a0_0 = 2 then (tree_Deep_1.j0 k (wrap64 (a1 + 1)) a2 a0_0 a0_1 a0_2 a0_3 a0_4 a0_5 a0_6 l0_7) else (tree_Deep_1.j0 k a1 a2 a0_0 a0_1 a0_2 a0_3 a0_4 a0_5 a0_6 l0_7)
end
theorem tree_Deep_1.mono_l : ∀ k, (∀ y0 y1 y2 y3 y4 y5 y6 y7 y8 y9, LeO (tree_Deep_1.f k y0 y1 y2 y3 y4 y5 y6 y7 y8 y9) (tree_Deep_1.f (k + 1) y0 y1 y2 y3 y4 y5 y6 y7 y8 y9)) ∧ (∀ y0 y1 y2 y3 y4 y5 y6 y7 y8 y9, LeO (tree_Deep_1.j0 k y0 y1 y2 y3 y4 y5 y6 y7 y8 y9) (tree_Deep_1.j0 (k + 1) y0 y1 y2 y3 y4 y5 y6 y7 y8 y9)) ∧ (∀ y0 y1 y2 y3 y4, LeO (tree_Deep_1.l0 k y0 y1 y2 y3 y4) (tree_Deep_1.l0 (k + 1) y0 y1 y2 y3 y4))
  | 0 => ⟨fun _ _ _ _ _ _ _ _ _ _ r h => by simp [tree_Deep_1.f] at h, fun _ _ _ _ _ _ _ _ _ _ r h => by simp [tree_Deep_1.j0] at h, fun _ _ _ _ _ r h => by simp [tree_Deep_1.l0] at h⟩
  | k + 1 => by
    obtain ⟨ih0, ih1, ih2⟩ := tree_Deep_1.mono_l k
    refine ⟨?_, ?_, ?_⟩
    · intro y0 y1 y2 y3 y4 y5 y6 y7 y8 y9
      unfold tree_Deep_1.f
      repeat' (with_reducible first | apply ih0 | apply ih1 | apply ih2 | exact LeO.refl _ | exact LeO.none _ | refine LeO.ite ?_ ?_ | refine LeO.bind ?_ fun _ => ?_)
    · intro y0 y1 y2 y3 y4 y5 y6 y7 y8 y9
      unfold tree_Deep_1.j0
      repeat' (with_reducible first | apply ih0 | apply ih1 | apply ih2 | exact LeO.refl _ | exact LeO.none _ | refine LeO.ite ?_ ?_ | refine LeO.bind ?_ fun _ => ?_)
    · intro y0 y1 y2 y3 y4
      unfold tree_Deep_1.l0
      repeat' (with_reducible first | apply ih0 | apply ih1 | apply ih2 | exact LeO.refl _ | exact LeO.none _ | refine LeO.ite ?_ ?_ | refine LeO.bind ?_ fun _ => ?_)
theorem tree_Deep_1.mono : ∀ a0 a1 a2 a3 a4 a5 a6 a7 a8 a9 k, LeO (tree_Deep_1.f k a0 a1 a2 a3 a4 a5 a6 a7 a8 a9) (tree_Deep_1.f (k + 1) a0 a1 a2 a3 a4 a5 a6 a7 a8 a9) := by
  intro a0 a1 a2 a3 a4 a5 a6 a7 a8 a9 k
  obtain ⟨ih0, ih1, ih2⟩ := tree_Deep_1.mono_l k
  exact ih0 a0 a1 a2 a3 a4 a5 a6 a7 a8 a9
def tree_Count.f (k : Nat) (a0_0 : Int) (a0_1 : Int) (a0_2 : ByteArray) (a0_3 : ByteArray) (a0_4 : ByteArray) (a0_5 : Bool) (a0_6 : Bool) (l0_7 : List (S26)) : Option (Int) := tree_Count_1.f k a0_0 a0_1 a0_2 a0_3 a0_4 a0_5 a0_6 l0_7 0
theorem tree_Count.mono : ∀ a0 a1 a2 a3 a4 a5 a6 a7 k, LeO (tree_Count.f k a0 a1 a2 a3 a4 a5 a6 a7) (tree_Count.f (k + 1) a0 a1 a2 a3 a4 a5 a6 a7) := fun a0 a1 a2 a3 a4 a5 a6 a7 k => tree_Count_1.mono a0 a1 a2 a3 a4 a5 a6 a7 0 k
def tree_Deep.f (k : Nat) (a0_0 : Int) (a0_1 : Int) (a0_2 : ByteArray) (a0_3 : ByteArray) (a0_4 : ByteArray) (a0_5 : Bool) (a0_6 : Bool) (l0_7 : List (S26)) : Option (Int) := tree_Deep_1.f k a0_0 a0_1 a0_2 a0_3 a0_4 a0_5 a0_6 l0_7 0 0
theorem tree_Deep.mono : ∀ a0 a1 a2 a3 a4 a5 a6 a7 k, LeO (tree_Deep.f k a0 a1 a2 a3 a4 a5 a6 a7) (tree_Deep.f (k + 1) a0 a1 a2 a3 a4 a5 a6 a7) := fun a0 a1 a2 a3 a4 a5 a6 a7 k => tree_Deep_1.mono a0 a1 a2 a3 a4 a5 a6 a7 0 0 k
def tree_Sane.f (k : Nat) (a0_0 : Int) (a0_1 : Int) (a0_2 : ByteArray) (a0_3 : ByteArray) (a0_4 : ByteArray) (a0_5 : Bool) (a0_6 : Bool) (l0_7 : List (S26)) : Option (Bool) := (tree_Count.f k a0_0 a0_1 a0_2 a0_3 a0_4 a0_5 a0_6 l0_7).bind fun t157 => (if t157 ≤ 64 then ((tree_Deep.f k a0_0 a0_1 a0_2 a0_3 a0_4 a0_5 a0_6 l0_7).bind fun t158 => (if t158 ≤ 8 then ((tree_right.f k a0_0 a0_1 a0_2 a0_3 a0_4 a0_5 a0_6 l0_7).bind fun t159 => (some t159)) else (some false))) else (some false))
theorem tree_Sane.mono : ∀ a0 a1 a2 a3 a4 a5 a6 a7 k, LeO (tree_Sane.f k a0 a1 a2 a3 a4 a5 a6 a7) (tree_Sane.f (k + 1) a0 a1 a2 a3 a4 a5 a6 a7) := by
  intro a0 a1 a2 a3 a4 a5 a6 a7 k
  unfold tree_Sane.f
  repeat' (with_reducible first | apply tree_Count.mono | apply tree_Deep.mono | apply tree_right.mono | exact LeO.refl _ | exact LeO.none _ | refine LeO.ite ?_ ?_ | refine LeO.bind ?_ fun _ => ?_)
mutual
def lustrumref10_Count.l0 : Nat → Int → Int → Int → Int → ByteArray → ByteArray → ByteArray → Bool → Bool → List (S26) → Option (Int)
  | 0, _, _, _, _, _, _, _, _, _, _ => none
  | k + 1, x3, x4, x230000, x230001, x230002, x230003, x230004, x230005, x230006, x230007 => if x4 < (x230007.length : Int) then (if 0 ≤ x4 then ((lustrumref10_Count.f k ((rd_T26 x230007 x4).f0) ((rd_T26 x230007 x4).f1.f0) ((rd_T26 x230007 x4).f1.f1) ((rd_T26 x230007 x4).f1.f2) ((rd_T26 x230007 x4).f1.f3) ((rd_T26 x230007 x4).f2) ((rd_T26 x230007 x4).f3) ((rd_T26 x230007 x4).f4)).bind fun t231 => (lustrumref10_Count.l0 k (wrap64 (x3 + t231)) (wrap64 (x4 + 1)) x230000 x230001 x230002 x230003 x230004 x230005 x230006 x230007)) else (none)) else (some x3)
def lustrumref10_Count.f : Nat → Int → Int → ByteArray → ByteArray → ByteArray → Bool → Bool → List (S26) → Option (Int)
  | 0, _, _, _, _, _, _, _, _ => none
  | k + 1, a0_0, a0_1, a0_2, a0_3, a0_4, a0_5, a0_6, l0_7 => lustrumref10_Count.l0 k 1 0 a0_0 a0_1 a0_2 a0_3 a0_4 a0_5 a0_6 l0_7
end
theorem lustrumref10_Count.mono_l : ∀ k, (∀ y0 y1 y2 y3 y4 y5 y6 y7, LeO (lustrumref10_Count.f k y0 y1 y2 y3 y4 y5 y6 y7) (lustrumref10_Count.f (k + 1) y0 y1 y2 y3 y4 y5 y6 y7)) ∧ (∀ y0 y1 y2 y3 y4 y5 y6 y7 y8 y9, LeO (lustrumref10_Count.l0 k y0 y1 y2 y3 y4 y5 y6 y7 y8 y9) (lustrumref10_Count.l0 (k + 1) y0 y1 y2 y3 y4 y5 y6 y7 y8 y9))
  | 0 => ⟨fun _ _ _ _ _ _ _ _ r h => by simp [lustrumref10_Count.f] at h, fun _ _ _ _ _ _ _ _ _ _ r h => by simp [lustrumref10_Count.l0] at h⟩
  | k + 1 => by
    obtain ⟨ih0, ih1⟩ := lustrumref10_Count.mono_l k
    refine ⟨?_, ?_⟩
    · intro y0 y1 y2 y3 y4 y5 y6 y7
      unfold lustrumref10_Count.f
      repeat' (with_reducible first | apply ih0 | apply ih1 | exact LeO.refl _ | exact LeO.none _ | refine LeO.ite ?_ ?_ | refine LeO.bind ?_ fun _ => ?_)
    · intro y0 y1 y2 y3 y4 y5 y6 y7 y8 y9
      unfold lustrumref10_Count.l0
      repeat' (with_reducible first | apply ih0 | apply ih1 | exact LeO.refl _ | exact LeO.none _ | refine LeO.ite ?_ ?_ | refine LeO.bind ?_ fun _ => ?_)
theorem lustrumref10_Count.mono : ∀ a0 a1 a2 a3 a4 a5 a6 a7 k, LeO (lustrumref10_Count.f k a0 a1 a2 a3 a4 a5 a6 a7) (lustrumref10_Count.f (k + 1) a0 a1 a2 a3 a4 a5 a6 a7) := by
  intro a0 a1 a2 a3 a4 a5 a6 a7 k
  obtain ⟨ih0, ih1⟩ := lustrumref10_Count.mono_l k
  exact ih0 a0 a1 a2 a3 a4 a5 a6 a7
mutual
def lustrumref10_short.j0 : Nat → Bool → Int → Int → ByteArray → ByteArray → ByteArray → Bool → Bool → List (S26) → Option (Bool)
  | 0, _, _, _, _, _, _, _, _, _ => none
  | k + 1, x22, x233000, x233001, x233002, x233003, x233004, x233005, x233006, x233007 => if x22 = true then (some false) else (lustrumref10_short.l0 k 0 x233000 x233001 x233002 x233003 x233004 x233005 x233006 x233007)
def lustrumref10_short.l0 : Nat → Int → Int → Int → ByteArray → ByteArray → ByteArray → Bool → Bool → List (S26) → Option (Bool)
  | 0, _, _, _, _, _, _, _, _, _ => none
  | k + 1, x3, x233000, x233001, x233002, x233003, x233004, x233005, x233006, x233007 => if x3 < (x233007.length : Int) then (if 0 ≤ x3 then ((lustrumref10_short.f k ((rd_T26 x233007 x3).f0) ((rd_T26 x233007 x3).f1.f0) ((rd_T26 x233007 x3).f1.f1) ((rd_T26 x233007 x3).f1.f2) ((rd_T26 x233007 x3).f1.f3) ((rd_T26 x233007 x3).f2) ((rd_T26 x233007 x3).f3) ((rd_T26 x233007 x3).f4)).bind fun t234 => (if t234 = true then (lustrumref10_short.l0 k (wrap64 (x3 + 1)) x233000 x233001 x233002 x233003 x233004 x233005 x233006 x233007) else (some false))) else (none)) else (some true)
def lustrumref10_short.f : Nat → Int → Int → ByteArray → ByteArray → ByteArray → Bool → Bool → List (S26) → Option (Bool)
  | 0, _, _, _, _, _, _, _, _ => none
  | k + 1, a0_0, a0_1, a0_2, a0_3, a0_4, a0_5, a0_6, l0_7 => if (a0_2.size : Int) > 10 then (lustrumref10_short.j0 k true a0_0 a0_1 a0_2 a0_3 a0_4 a0_5 a0_6 l0_7) else (if (a0_3.size : Int) > 10 then (lustrumref10_short.j0 k true a0_0 a0_1 a0_2 a0_3 a0_4 a0_5 a0_6 l0_7) else (lustrumref10_short.j0 k (decide ((a0_4.size : Int) > 10)) a0_0 a0_1 a0_2 a0_3 a0_4 a0_5 a0_6 l0_7))
end
theorem lustrumref10_short.mono_l : ∀ k, (∀ y0 y1 y2 y3 y4 y5 y6 y7, LeO (lustrumref10_short.f k y0 y1 y2 y3 y4 y5 y6 y7) (lustrumref10_short.f (k + 1) y0 y1 y2 y3 y4 y5 y6 y7)) ∧ (∀ y0 y1 y2 y3 y4 y5 y6 y7 y8, LeO (lustrumref10_short.j0 k y0 y1 y2 y3 y4 y5 y6 y7 y8) (lustrumref10_short.j0 (k + 1) y0 y1 y2 y3 y4 y5 y6 y7 y8)) ∧ (∀ y0 y1 y2 y3 y4 y5 y6 y7 y8, LeO (lustrumref10_short.l0 k y0 y1 y2 y3 y4 y5 y6 y7 y8) (lustrumref10_short.l0 (k + 1) y0 y1 y2 y3 y4 y5 y6 y7 y8))
  | 0 => ⟨fun _ _ _ _ _ _ _ _ r h => by simp [lustrumref10_short.f] at h, fun _ _ _ _ _ _ _ _ _ r h => by simp [lustrumref10_short.j0] at h, fun _ _ _ _ _ _ _ _ _ r h => by simp [lustrumref10_short.l0] at h⟩
  | k + 1 => by
    obtain ⟨ih0, ih1, ih2⟩ := lustrumref10_short.mono_l k
    refine ⟨?_, ?_, ?_⟩
    · intro y0 y1 y2 y3 y4 y5 y6 y7
      unfold lustrumref10_short.f
      repeat' (with_reducible first | apply ih0 | apply ih1 | apply ih2 | exact LeO.refl _ | exact LeO.none _ | refine LeO.ite ?_ ?_ | refine LeO.bind ?_ fun _ => ?_)
    · intro y0 y1 y2 y3 y4 y5 y6 y7 y8
      unfold lustrumref10_short.j0
      repeat' (with_reducible first | apply ih0 | apply ih1 | apply ih2 | exact LeO.refl _ | exact LeO.none _ | refine LeO.ite ?_ ?_ | refine LeO.bind ?_ fun _ => ?_)
    · intro y0 y1 y2 y3 y4 y5 y6 y7 y8
      unfold lustrumref10_short.l0
      repeat' (with_reducible first | apply ih0 | apply ih1 | apply ih2 | exact LeO.refl _ | exact LeO.none _ | refine LeO.ite ?_ ?_ | refine LeO.bind ?_ fun _ => ?_)
theorem lustrumref10_short.mono : ∀ a0 a1 a2 a3 a4 a5 a6 a7 k, LeO (lustrumref10_short.f k a0 a1 a2 a3 a4 a5 a6 a7) (lustrumref10_short.f (k + 1) a0 a1 a2 a3 a4 a5 a6 a7) := by
  intro a0 a1 a2 a3 a4 a5 a6 a7 k
  obtain ⟨ih0, ih1, ih2⟩ := lustrumref10_short.mono_l k
  exact ih0 a0 a1 a2 a3 a4 a5 a6 a7
def lustrumref10_Few.f (k : Nat) (a0_0 : Int) (a0_1 : Int) (a0_2 : ByteArray) (a0_3 : ByteArray) (a0_4 : ByteArray) (a0_5 : Bool) (a0_6 : Bool) (l0_7 : List (S26)) : Option (Bool) := (lustrumref10_Count.f k a0_0 a0_1 a0_2 a0_3 a0_4 a0_5 a0_6 l0_7).bind fun t236 => (if t236 ≤ 120 then ((lustrumref10_short.f k a0_0 a0_1 a0_2 a0_3 a0_4 a0_5 a0_6 l0_7).bind fun t237 => (some t237)) else (some false))
theorem lustrumref10_Few.mono : ∀ a0 a1 a2 a3 a4 a5 a6 a7 k, LeO (lustrumref10_Few.f k a0 a1 a2 a3 a4 a5 a6 a7) (lustrumref10_Few.f (k + 1) a0 a1 a2 a3 a4 a5 a6 a7) := by
  intro a0 a1 a2 a3 a4 a5 a6 a7 k
  unfold lustrumref10_Few.f
  repeat' (with_reducible first | apply lustrumref10_Count.mono | apply lustrumref10_short.mono | exact LeO.refl _ | exact LeO.none _ | refine LeO.ite ?_ ?_ | refine LeO.bind ?_ fun _ => ?_)
mutual
def lustrumref10_Deep.l0 : Nat → Int → Int → Int → Int → ByteArray → ByteArray → ByteArray → Bool → Bool → List (S26) → Option (Int)
  | 0, _, _, _, _, _, _, _, _, _, _ => none
  | k + 1, x3, x4, x239000, x239001, x239002, x239003, x239004, x239005, x239006, x239007 => if x4 < (x239007.length : Int) then (if 0 ≤ x4 then ((lustrumref10_Deep.f k ((rd_T26 x239007 x4).f0) ((rd_T26 x239007 x4).f1.f0) ((rd_T26 x239007 x4).f1.f1) ((rd_T26 x239007 x4).f1.f2) ((rd_T26 x239007 x4).f1.f3) ((rd_T26 x239007 x4).f2) ((rd_T26 x239007 x4).f3) ((rd_T26 x239007 x4).f4)).bind fun t240 => (lustrumref10_Deep.l0 k (mx x3 t240) (wrap64 (x4 + 1)) x239000 x239001 x239002 x239003 x239004 x239005 x239006 x239007)) else (none)) else (if x239000 = 2 then (some (wrap64 (x3 + 1))) else (some x3))
def lustrumref10_Deep.f : Nat → Int → Int → ByteArray → ByteArray → ByteArray → Bool → Bool → List (S26) → Option (Int)
  | 0, _, _, _, _, _, _, _, _ => none
  | k + 1, a0_0, a0_1, a0_2, a0_3, a0_4, a0_5, a0_6, l0_7 => lustrumref10_Deep.l0 k 0 0 a0_0 a0_1 a0_2 a0_3 a0_4 a0_5 a0_6 l0_7
end
def lustrumref10_bare.f (a0_0 : Int) (a0_1 : Int) (a0_2 : ByteArray) (a0_3 : ByteArray) (a0_4 : ByteArray) (a0_5 : Bool) (a0_6 : Bool) (l0_7 : List (S26)) : Option (Bool) := if (a0_1 == 0 && (a0_2.toList == ([] : List UInt8) && (a0_3.toList == ([] : List UInt8) && (a0_4.toList == ([] : List UInt8))))) = true then (if a0_5 = true then (some false) else (some (!a0_6))) else (some false)
def lustrumref10_End.f (k : Nat) (a0_0 : Int) (a0_1 : Int) (a0_2 : ByteArray) (a0_3 : ByteArray) (a0_4 : ByteArray) (a0_5 : Bool) (a0_6 : Bool) (l0_7 : List (S26)) : Option (Bool) := if (l0_7.length : Int) > 0 then (some false) else (if a0_0 = 0 then ((lustrumref08_Sane.f k a0_1 a0_2 a0_3 a0_4).bind fun t253 => (some t253)) else (if a0_0 = 3 then ((lustrumref10_bare.f a0_0 a0_1 a0_2 a0_3 a0_4 a0_5 a0_6 l0_7).bind fun t254 => (some t254)) else (if a0_0 = 4 then ((lustrumref10_bare.f a0_0 a0_1 a0_2 a0_3 a0_4 a0_5 a0_6 l0_7).bind fun t255 => (some t255)) else (some false))))
mutual
def lustrumref10_right.l0 : Nat → Int → Int → Int → ByteArray → ByteArray → ByteArray → Bool → Bool → List (S26) → Option (Bool)
  | 0, _, _, _, _, _, _, _, _, _ => none
  | k + 1, x3, x257000, x257001, x257002, x257003, x257004, x257005, x257006, x257007 => if x3 < (x257007.length : Int) then (if 0 ≤ x3 then ((lustrumref10_right.f k ((rd_T26 x257007 x3).f0) ((rd_T26 x257007 x3).f1.f0) ((rd_T26 x257007 x3).f1.f1) ((rd_T26 x257007 x3).f1.f2) ((rd_T26 x257007 x3).f1.f3) ((rd_T26 x257007 x3).f2) ((rd_T26 x257007 x3).f3) ((rd_T26 x257007 x3).f4)).bind fun t264 => (if t264 = true then (lustrumref10_right.l0 k (wrap64 (x3 + 1)) x257000 x257001 x257002 x257003 x257004 x257005 x257006 x257007) else (some false))) else (none)) else ((lustrumref10_bare.f x257000 x257001 x257002 x257003 x257004 x257005 x257006 x257007).bind fun t265 => (if t265 = true then (some (decide ((x257007.length : Int) ≥ 1))) else (some false)))
def lustrumref10_right.f : Nat → Int → Int → ByteArray → ByteArray → ByteArray → Bool → Bool → List (S26) → Option (Bool)
  | 0, _, _, _, _, _, _, _, _ => none
  | k + 1, a0_0, a0_1, a0_2, a0_3, a0_4, a0_5, a0_6, l0_7 => if a0_0 = 0 then ((lustrumref10_End.f k a0_0 a0_1 a0_2 a0_3 a0_4 a0_5 a0_6 l0_7).bind fun t257 => (some t257)) else (if a0_0 = 1 then ((lustrumref10_bare.f a0_0 a0_1 a0_2 a0_3 a0_4 a0_5 a0_6 l0_7).bind fun t258 => (if t258 = true then (if (l0_7.length : Int) = 2 then (if 0 < (l0_7.length : Int) then ((lustrumref10_End.f k ((rd_T26 l0_7 0).f0) ((rd_T26 l0_7 0).f1.f0) ((rd_T26 l0_7 0).f1.f1) ((rd_T26 l0_7 0).f1.f2) ((rd_T26 l0_7 0).f1.f3) ((rd_T26 l0_7 0).f2) ((rd_T26 l0_7 0).f3) ((rd_T26 l0_7 0).f4)).bind fun t260 => (if t260 = true then (if 1 < (l0_7.length : Int) then ((lustrumref10_End.f k ((rd_T26 l0_7 1).f0) ((rd_T26 l0_7 1).f1.f0) ((rd_T26 l0_7 1).f1.f1) ((rd_T26 l0_7 1).f1.f2) ((rd_T26 l0_7 1).f1.f3) ((rd_T26 l0_7 1).f2) ((rd_T26 l0_7 1).f3) ((rd_T26 l0_7 1).f4)).bind fun t262 => (some t262)) else (none)) else (some false))) else (none)) else (some false)) else (some false))) else (if a0_0 = 2 then (lustrumref10_right.l0 k 0 a0_0 a0_1 a0_2 a0_3 a0_4 a0_5 a0_6 l0_7) else (some false)))
end
def lustrumref10_Sane.f (k : Nat) (a0_0 : Int) (a0_1 : Int) (a0_2 : ByteArray) (a0_3 : ByteArray) (a0_4 : ByteArray) (a0_5 : Bool) (a0_6 : Bool) (l0_7 : List (S26)) : Option (Bool) := (lustrumref10_Count.f k a0_0 a0_1 a0_2 a0_3 a0_4 a0_5 a0_6 l0_7).bind fun t267 => (if t267 ≤ 64 then ((lustrumref10_Deep.f k a0_0 a0_1 a0_2 a0_3 a0_4 a0_5 a0_6 l0_7).bind fun t268 => (if t268 ≤ 8 then ((lustrumref10_right.f k a0_0 a0_1 a0_2 a0_3 a0_4 a0_5 a0_6 l0_7).bind fun t269 => (some t269)) else (some false))) else (some false))
mutual
def lustrumref10_Same.j0 : Nat → Bool → Int → Int → ByteArray → ByteArray → ByteArray → Bool → Bool → List (S26) → Int → Int → ByteArray → ByteArray → ByteArray → Bool → Bool → List (S26) → Option (Bool)
  | 0, _, _, _, _, _, _, _, _, _, _, _, _, _, _, _, _, _ => none
  | k + 1, x40, x271000, x271001, x271002, x271003, x271004, x271005, x271006, x271007, x272000, x272001, x272002, x272003, x272004, x272005, x272006, x272007 => if x40 = true then (some false) else (lustrumref10_Same.l0 k 0 x271000 x271001 x271002 x271003 x271004 x271005 x271006 x271007 x272000 x272001 x272002 x272003 x272004 x272005 x272006 x272007)
def lustrumref10_Same.l0 : Nat → Int → Int → Int → ByteArray → ByteArray → ByteArray → Bool → Bool → List (S26) → Int → Int → ByteArray → ByteArray → ByteArray → Bool → Bool → List (S26) → Option (Bool)
  | 0, _, _, _, _, _, _, _, _, _, _, _, _, _, _, _, _, _ => none
  | k + 1, x5, x271000, x271001, x271002, x271003, x271004, x271005, x271006, x271007, x272000, x272001, x272002, x272003, x272004, x272005, x272006, x272007 => if x5 < (x271007.length : Int) then (if 0 ≤ x5 then (if x5 < (x272007.length : Int) then ((lustrumref10_Same.f k ((rd_T26 x271007 x5).f0) ((rd_T26 x271007 x5).f1.f0) ((rd_T26 x271007 x5).f1.f1) ((rd_T26 x271007 x5).f1.f2) ((rd_T26 x271007 x5).f1.f3) ((rd_T26 x271007 x5).f2) ((rd_T26 x271007 x5).f3) ((rd_T26 x271007 x5).f4) ((rd_T26 x272007 x5).f0) ((rd_T26 x272007 x5).f1.f0) ((rd_T26 x272007 x5).f1.f1) ((rd_T26 x272007 x5).f1.f2) ((rd_T26 x272007 x5).f1.f3) ((rd_T26 x272007 x5).f2) ((rd_T26 x272007 x5).f3) ((rd_T26 x272007 x5).f4)).bind fun t274 => (if t274 = true then (lustrumref10_Same.l0 k (wrap64 (x5 + 1)) x271000 x271001 x271002 x271003 x271004 x271005 x271006 x271007 x272000 x272001 x272002 x272003 x272004 x272005 x272006 x272007) else (some false))) else (none)) else (none)) else (some true)
def lustrumref10_Same.f : Nat → Int → Int → ByteArray → ByteArray → ByteArray → Bool → Bool → List (S26) → Int → Int → ByteArray → ByteArray → ByteArray → Bool → Bool → List (S26) → Option (Bool)
  | 0, _, _, _, _, _, _, _, _, _, _, _, _, _, _, _, _ => none
  | k + 1, a0_0, a0_1, a0_2, a0_3, a0_4, a0_5, a0_6, l0_7, a1_0, a1_1, a1_2, a1_3, a1_4, a1_5, a1_6, l1_7 => if a0_0 = a1_0 then (if (!(a0_1 == a1_1) || (!(a0_2.toList == a1_2.toList) || (!(a0_3.toList == a1_3.toList) || (!(a0_4.toList == a1_4.toList))))) = true then (lustrumref10_Same.j0 k true a0_0 a0_1 a0_2 a0_3 a0_4 a0_5 a0_6 l0_7 a1_0 a1_1 a1_2 a1_3 a1_4 a1_5 a1_6 l1_7) else (if (a0_5 != a1_5) = true then (lustrumref10_Same.j0 k true a0_0 a0_1 a0_2 a0_3 a0_4 a0_5 a0_6 l0_7 a1_0 a1_1 a1_2 a1_3 a1_4 a1_5 a1_6 l1_7) else (if (a0_6 != a1_6) = true then (lustrumref10_Same.j0 k true a0_0 a0_1 a0_2 a0_3 a0_4 a0_5 a0_6 l0_7 a1_0 a1_1 a1_2 a1_3 a1_4 a1_5 a1_6 l1_7) else (lustrumref10_Same.j0 k ((l0_7.length : Int) != (l1_7.length : Int)) a0_0 a0_1 a0_2 a0_3 a0_4 a0_5 a0_6 l0_7 a1_0 a1_1 a1_2 a1_3 a1_4 a1_5 a1_6 l1_7)))) else (lustrumref10_Same.j0 k true a0_0 a0_1 a0_2 a0_3 a0_4 a0_5 a0_6 l0_7 a1_0 a1_1 a1_2 a1_3 a1_4 a1_5 a1_6 l1_7)
end
mutual
def nd : S26 → Nat
  | ⟨_, _, _, _, l⟩ => ndL l + 1
def ndL : List S26 → Nat
  | [] => 0
  | x :: l => nd x + ndL l
end
mutual
def dp : S26 → Nat
  | ⟨k, _, _, _, l⟩ => if k = 2 then dpL l + 1 else dpL l
def dpL : List S26 → Nat
  | [] => 0
  | x :: l => max (dp x) (dpL l)
end
mutual
def sm : S26 → S26 → Bool
  | ⟨k, p, a, t, l⟩, n => decide (k = n.f0) && (decide (p.f0 = n.f1.f0) && (decide (p.f1.toList = n.f1.f1.toList) && (decide (p.f2.toList = n.f1.f2.toList) && decide (p.f3.toList = n.f1.f3.toList)))) && (a == n.f2) && (t == n.f3) && smL l n.f4
def smL : List S26 → List S26 → Bool
  | [], [] => true
  | x :: l, y :: m => sm x y && smL l m
  | _, _ => false
end
def bareV (n : S26) : Bool := decide (n.f1.f0 = 0) && (emptyV n.f1.f1 && (emptyV n.f1.f2 && emptyV n.f1.f3)) && !n.f2 && !n.f3
def endV (n : S26) : Bool := decide (n.f4 = []) && (if n.f0 = 0 then ptV n.f1 else if n.f0 = 3 ∨ n.f0 = 4 then bareV n else false)
def two : List S26 → Bool
  | [x, y] => endV x && endV y
  | _ => false
mutual
def rt : S26 → Bool
  | ⟨k, p, a, t, l⟩ => if k = 0 then endV ⟨k, p, a, t, l⟩ else if k = 1 then bareV ⟨k, p, a, t, l⟩ && two l else if k = 2 then bareV ⟨k, p, a, t, l⟩ && (decide (l ≠ []) && rtL l) else false
def rtL : List S26 → Bool
  | [] => true
  | x :: l => rt x && rtL l
end
mutual
def sh : S26 → Bool
  | ⟨_, p, _, _, l⟩ => decide (p.f1.size ≤ 10) && (decide (p.f2.size ≤ 10) && decide (p.f3.size ≤ 10)) && shL l
def shL : List S26 → Bool
  | [] => true
  | x :: l => sh x && shL l
end
theorem nd_eq (n : S26) : nd n = ndL n.f4 + 1 := by cases n; rw [nd]
theorem dp_eq (n : S26) : dp n = if n.f0 = 2 then dpL n.f4 + 1 else dpL n.f4 := by cases n; rw [dp]
theorem sm_eq (a n : S26) : sm a n = (decide (a.f0 = n.f0) && (decide (a.f1.f0 = n.f1.f0) && (decide (a.f1.f1.toList = n.f1.f1.toList) && (decide (a.f1.f2.toList = n.f1.f2.toList) && decide (a.f1.f3.toList = n.f1.f3.toList)))) && (a.f2 == n.f2) && (a.f3 == n.f3) && smL a.f4 n.f4) := by cases a; rw [sm]
theorem rt_eq (n : S26) : rt n = if n.f0 = 0 then endV n else if n.f0 = 1 then bareV n && two n.f4 else if n.f0 = 2 then bareV n && (decide (n.f4 ≠ []) && rtL n.f4) else false := by cases n; rw [rt]
theorem sh_eq (n : S26) : sh n = (decide (n.f1.f1.size ≤ 10) && (decide (n.f1.f2.size ≤ 10) && decide (n.f1.f3.size ≤ 10)) && shL n.f4) := by cases n; rw [sh]
theorem nd_pos (n : S26) : 1 ≤ nd n := by rw [nd_eq]; omega
theorem len_nd : ∀ l : List S26, l.length ≤ ndL l
  | [] => Nat.le_refl _
  | x :: l => by have h1 := nd_pos x; have h2 := len_nd l; rw [ndL, List.length_cons]; omega
theorem dp_le : ∀ (m : Nat) (n : S26), nd n ≤ m → dp n ≤ nd n
  | 0, n, h => by have := nd_pos n; omega
  | m + 1, n, h => by
    have hl : ∀ l : List S26, ndL l ≤ m → dpL l ≤ ndL l := fun l => by
      induction l with
      | nil => intro _; exact Nat.le_refl _
      | cons x t ih =>
        intro hh
        rw [ndL] at hh ⊢
        rw [dpL]
        have h1 := dp_le m x (by omega)
        have h2 := ih (by omega)
        omega
    have hn := nd_eq n
    have := hl n.f4 (by omega)
    rw [dp_eq]
    split <;> omega
inductive wfN : S26 → Prop
  | mk (n : S26) (h1 : n.f1.f1.size ≤ 140737488351232) (h2 : n.f1.f2.size ≤ 140737488351232) (h3 : n.f1.f3.size ≤ 140737488351232) (hl : n.f4.length ≤ 1466015503711) (hc : ∀ x, x ∈ n.f4 → wfN x) : wfN n
theorem wfN.s1 {n : S26} (h : wfN n) : n.f1.f1.size ≤ 140737488351232 := by cases h; assumption
theorem wfN.s2 {n : S26} (h : wfN n) : n.f1.f2.size ≤ 140737488351232 := by cases h; assumption
theorem wfN.s3 {n : S26} (h : wfN n) : n.f1.f3.size ≤ 140737488351232 := by cases h; assumption
theorem wfN.len {n : S26} (h : wfN n) : n.f4.length ≤ 1466015503711 := by cases h; assumption
theorem wfN.all {n : S26} (h : wfN n) : ∀ x, x ∈ n.f4 → wfN x := by cases h; assumption
theorem at_rd26 (p : List S26) (r : S26) (t : List S26) : rd_T26 (p ++ r :: t) (p.length : Int) = r := by simp [rd_T26]
abbrev cn1 (k : Nat) (n : S26) (c : Int) : Option Int := tree_Count_1.f k n.f0 n.f1.f0 n.f1.f1 n.f1.f2 n.f1.f3 n.f2 n.f3 n.f4 c
abbrev dp1 (k : Nat) (n : S26) (i c : Int) : Option Int := tree_Deep_1.f k n.f0 n.f1.f0 n.f1.f1 n.f1.f2 n.f1.f3 n.f2 n.f3 n.f4 i c
abbrev tCount (k : Nat) (n : S26) : Option Int := tree_Count.f k n.f0 n.f1.f0 n.f1.f1 n.f1.f2 n.f1.f3 n.f2 n.f3 n.f4
abbrev tDeep (k : Nat) (n : S26) : Option Int := tree_Deep.f k n.f0 n.f1.f0 n.f1.f1 n.f1.f2 n.f1.f3 n.f2 n.f3 n.f4
abbrev tEnd (k : Nat) (n : S26) : Option Bool := tree_End.f k n.f0 n.f1.f0 n.f1.f1 n.f1.f2 n.f1.f3 n.f2 n.f3 n.f4
abbrev tBare (n : S26) : Option Bool := tree_bare.f n.f0 n.f1.f0 n.f1.f1 n.f1.f2 n.f1.f3 n.f2 n.f3 n.f4
abbrev tRight (k : Nat) (n : S26) : Option Bool := tree_right.f k n.f0 n.f1.f0 n.f1.f1 n.f1.f2 n.f1.f3 n.f2 n.f3 n.f4
abbrev tSane (k : Nat) (n : S26) : Option Bool := tree_Sane.f k n.f0 n.f1.f0 n.f1.f1 n.f1.f2 n.f1.f3 n.f2 n.f3 n.f4
abbrev tSame (k : Nat) (n m : S26) : Option Bool := tree_Same.f k n.f0 n.f1.f0 n.f1.f1 n.f1.f2 n.f1.f3 n.f2 n.f3 n.f4 m.f0 m.f1.f0 m.f1.f1 m.f1.f2 m.f1.f3 m.f2 m.f3 m.f4
abbrev rCount (k : Nat) (n : S26) : Option Int := lustrumref10_Count.f k n.f0 n.f1.f0 n.f1.f1 n.f1.f2 n.f1.f3 n.f2 n.f3 n.f4
abbrev rDeep (k : Nat) (n : S26) : Option Int := lustrumref10_Deep.f k n.f0 n.f1.f0 n.f1.f1 n.f1.f2 n.f1.f3 n.f2 n.f3 n.f4
abbrev rEnd (k : Nat) (n : S26) : Option Bool := lustrumref10_End.f k n.f0 n.f1.f0 n.f1.f1 n.f1.f2 n.f1.f3 n.f2 n.f3 n.f4
abbrev rBare (n : S26) : Option Bool := lustrumref10_bare.f n.f0 n.f1.f0 n.f1.f1 n.f1.f2 n.f1.f3 n.f2 n.f3 n.f4
abbrev rRight (k : Nat) (n : S26) : Option Bool := lustrumref10_right.f k n.f0 n.f1.f0 n.f1.f1 n.f1.f2 n.f1.f3 n.f2 n.f3 n.f4
abbrev rSane (k : Nat) (n : S26) : Option Bool := lustrumref10_Sane.f k n.f0 n.f1.f0 n.f1.f1 n.f1.f2 n.f1.f3 n.f2 n.f3 n.f4
abbrev rSame (k : Nat) (n m : S26) : Option Bool := lustrumref10_Same.f k n.f0 n.f1.f0 n.f1.f1 n.f1.f2 n.f1.f3 n.f2 n.f3 n.f4 m.f0 m.f1.f0 m.f1.f1 m.f1.f2 m.f1.f3 m.f2 m.f3 m.f4
abbrev rShort (k : Nat) (n : S26) : Option Bool := lustrumref10_short.f k n.f0 n.f1.f0 n.f1.f1 n.f1.f2 n.f1.f3 n.f2 n.f3 n.f4
abbrev rFew (k : Nat) (n : S26) : Option Bool := lustrumref10_Few.f k n.f0 n.f1.f0 n.f1.f1 n.f1.f2 n.f1.f3 n.f2 n.f3 n.f4
theorem cn_f : ∀ (m : Nat) (n : S26) (c : Int), nd n ≤ m → 0 ≤ c → c + nd n ≤ 4611686018427387904 → Ev (fun k => cn1 k n c) (c + nd n)
  | 0, n, c, h, _, _ => by have := nd_pos n; omega
  | m + 1, n, c, h, h0, hb => by
    have loop : ∀ (t p : List S26) (c : Int), ndL t ≤ m → 0 ≤ c → c + ndL t ≤ 4611686018427387904 → (p ++ t).length ≤ 4611686018427387904 → Ev (fun k => tree_Count_1.l0 k c (p ++ t) ((p ++ t).length : Int) (p.length : Int)) (c + ndL t) := fun t => by
      induction t with
      | nil => exact fun p c _ _ _ _ => Ev.step (f := fun _ => some c) (fun k => by rw [tree_Count_1.l0, if_neg (at_end p)]) (Ev.eq (Ev.now _) (by simp [ndL]))
      | cons x t ih =>
        intro p c hm hc hb hp
        rw [ndL] at hm hb ⊢
        refine Ev.step (f := fun k => (cn1 k x c).bind fun t' => tree_Count_1.l0 k t' (p ++ x :: t) ((p ++ x :: t).length : Int) ((p ++ [x]).length : Int)) (fun k => by rw [tree_Count_1.l0, if_pos (at_lt p x t), if_pos (at_0 p), if_pos (at_lt p x t), at_rd26, at_next hp]) ?_
        refine Ev.bind (cn_f m x c (by omega) hc (by omega)) ?_
        have := ih (p ++ [x]) (c + nd x) (by omega) (by omega) (by omega) (by rw [← at_app]; exact hp)
        rw [← at_app] at this
        exact Ev.eq this (by omega)
    have hn := nd_eq n
    have hl := len_nd n.f4
    refine Ev.step (f := fun k => tree_Count_1.l0 k (c + 1) n.f4 (n.f4.length : Int) 0) (fun k => by show tree_Count_1.f (k + 1) _ _ _ _ _ _ _ _ _ = _; rw [tree_Count_1.f, w64 (by omega) (by omega)]) ?_
    have := loop n.f4 [] (c + 1) (by omega) (by omega) (by omega) (by simp; omega)
    exact Ev.eq this (by omega)
theorem tCount_f (n : S26) (h : nd n ≤ 4611686018427387904) : Ev (fun k => tCount k n) (nd n : Int) := Ev.eq (cn_f _ n 0 (Nat.le_refl _) (Int.le_refl _) (by omega)) (by omega)
theorem rCount_f : ∀ (m : Nat) (n : S26), nd n ≤ m → nd n ≤ 4611686018427387904 → Ev (fun k => rCount k n) (nd n : Int)
  | 0, n, h, _ => by have := nd_pos n; omega
  | m + 1, n, h, hb => by
    have loop : ∀ (t p : List S26) (c : Int), p ++ t = n.f4 → ndL t ≤ m → 0 ≤ c → c + ndL t ≤ 4611686018427387904 → (p ++ t).length ≤ 4611686018427387904 → Ev (fun k => lustrumref10_Count.l0 k c (p.length : Int) n.f0 n.f1.f0 n.f1.f1 n.f1.f2 n.f1.f3 n.f2 n.f3 (p ++ t)) (c + ndL t) := fun t => by
      induction t with
      | nil => exact fun p c _ _ _ _ _ => Ev.step (f := fun _ => some c) (fun k => by rw [lustrumref10_Count.l0, if_neg (at_end p)]) (Ev.eq (Ev.now _) (by simp [ndL]))
      | cons x t ih =>
        intro p c he hm hc hb hp
        rw [ndL] at hm hb ⊢
        refine Ev.step (f := fun k => (rCount k x).bind fun t' => lustrumref10_Count.l0 k (wrap64 (c + t')) ((p ++ [x]).length : Int) n.f0 n.f1.f0 n.f1.f1 n.f1.f2 n.f1.f3 n.f2 n.f3 (p ++ x :: t)) (fun k => by rw [lustrumref10_Count.l0, if_pos (at_lt p x t), if_pos (at_0 p), at_rd26, at_next hp]) ?_
        refine Ev.bind (rCount_f m x (by omega) (by omega)) ?_
        rw [w64 (by omega) (by omega)]
        have := ih (p ++ [x]) (c + nd x) (by rw [← at_app]; exact he) (by omega) (by omega) (by omega) (by rw [← at_app]; exact hp)
        rw [← at_app] at this
        exact Ev.eq this (by omega)
    have hn := nd_eq n
    have hl := len_nd n.f4
    refine Ev.step (f := fun k => lustrumref10_Count.l0 k 1 0 n.f0 n.f1.f0 n.f1.f1 n.f1.f2 n.f1.f3 n.f2 n.f3 n.f4) (fun k => by show lustrumref10_Count.f (k + 1) _ _ _ _ _ _ _ _ = _; rw [lustrumref10_Count.f]) ?_
    have := loop n.f4 [] 1 rfl (by omega) (by omega) (by omega) (by simp; omega)
    exact Ev.eq this (by omega)
theorem rCount_some : ∀ (m : Nat) (n : S26), nd n ≤ m → wfN n → ∃ v, Ev (fun k => rCount k n) v
  | 0, n, h, _ => by have := nd_pos n; omega
  | m + 1, n, h, hw => by
    have loop : ∀ (t p : List S26) (c : Int), ndL t ≤ m → (∀ x, x ∈ t → wfN x) → (p ++ t).length ≤ 4611686018427387904 → ∃ v, Ev (fun k => lustrumref10_Count.l0 k c (p.length : Int) n.f0 n.f1.f0 n.f1.f1 n.f1.f2 n.f1.f3 n.f2 n.f3 (p ++ t)) v := fun t => by
      induction t with
      | nil => exact fun p c _ _ _ => ⟨c, Ev.step (f := fun _ => some c) (fun k => by rw [lustrumref10_Count.l0, if_neg (at_end p)]) (Ev.now _)⟩
      | cons x t ih =>
        intro p c hm hx hp
        rw [ndL] at hm
        obtain ⟨v, hv⟩ := rCount_some m x (by omega) (hx x List.mem_cons_self)
        obtain ⟨u, hu⟩ := ih (p ++ [x]) (wrap64 (c + v)) (by have := nd_pos x; omega) (fun y hy => hx y (List.mem_cons_of_mem _ hy)) (by rw [← at_app]; exact hp)
        rw [← at_app] at hu
        exact ⟨u, Ev.step (f := fun k => (rCount k x).bind fun t' => lustrumref10_Count.l0 k (wrap64 (c + t')) ((p ++ [x]).length : Int) n.f0 n.f1.f0 n.f1.f1 n.f1.f2 n.f1.f3 n.f2 n.f3 (p ++ x :: t)) (fun k => by rw [lustrumref10_Count.l0, if_pos (at_lt p x t), if_pos (at_0 p), at_rd26, at_next hp]) (Ev.bind hv hu)⟩
    have hn := nd_eq n
    have hl := hw.len
    obtain ⟨v, hv⟩ := loop n.f4 [] 1 (by omega) hw.all (by simp; omega)
    exact ⟨v, Ev.step (f := fun k => lustrumref10_Count.l0 k 1 0 n.f0 n.f1.f0 n.f1.f1 n.f1.f2 n.f1.f3 n.f2 n.f3 n.f4) (fun k => by show lustrumref10_Count.f (k + 1) _ _ _ _ _ _ _ _ = _; rw [lustrumref10_Count.f]) hv⟩
theorem dp_f : ∀ (m : Nat) (n : S26) (i c : Int), nd n ≤ m → 0 ≤ i → 0 ≤ c → i + nd n ≤ 4611686018427387904 → Ev (fun k => dp1 k n i c) (max c (i + dp n))
  | 0, n, i, c, h, _, _, _ => by have := nd_pos n; omega
  | m + 1, n, i, c, h, h0, hc, hb => by
    have loop : ∀ (t p : List S26) (i c : Int), ndL t ≤ m → 0 ≤ i → i ≤ c → i + ndL t ≤ 4611686018427387904 → (p ++ t).length ≤ 4611686018427387904 → Ev (fun k => tree_Deep_1.l0 k i c (p ++ t) ((p ++ t).length : Int) (p.length : Int)) (max c (i + dpL t)) := fun t => by
      induction t with
      | nil => exact fun p i c _ _ h _ _ => Ev.step (f := fun _ => some c) (fun k => by rw [tree_Deep_1.l0, if_neg (at_end p)]) (Ev.eq (Ev.now _) (by simp only [dpL]; omega))
      | cons x t ih =>
        intro p i c hm hi hc hb hp
        rw [ndL] at hm hb
        rw [dpL]
        refine Ev.step (f := fun k => (dp1 k x i c).bind fun t' => tree_Deep_1.l0 k i t' (p ++ x :: t) ((p ++ x :: t).length : Int) ((p ++ [x]).length : Int)) (fun k => by rw [tree_Deep_1.l0, if_pos (at_lt p x t), if_pos (at_0 p), if_pos (at_lt p x t), at_rd26, at_next hp]) ?_
        refine Ev.bind (dp_f m x i c (by omega) hi (by omega) (by omega)) ?_
        have := ih (p ++ [x]) i (max c (i + dp x)) (by have := nd_pos x; omega) hi (by omega) (by omega) (by rw [← at_app]; exact hp)
        rw [← at_app] at this
        exact Ev.eq this (by omega)
    have hn := nd_eq n
    have hl := len_nd n.f4
    have hj : ∀ x1 : Int, 0 ≤ x1 → x1 ≤ i + 1 → Ev (fun k => tree_Deep_1.j0 k x1 c n.f0 n.f1.f0 n.f1.f1 n.f1.f2 n.f1.f3 n.f2 n.f3 n.f4) (max c (x1 + dpL n.f4)) := fun x1 h1 h2 => by
      refine Ev.step (f := fun k => tree_Deep_1.l0 k x1 (mx c x1) n.f4 (n.f4.length : Int) 0) (fun k => by rw [tree_Deep_1.j0]) ?_
      have := loop n.f4 [] x1 (mx c x1) (by omega) h1 (by rw [mx_max]; omega) (by omega) (by simp; omega)
      rw [mx_max] at this ⊢
      exact Ev.eq this (by omega)
    rw [dp_eq]
    by_cases h2 : n.f0 = 2
    · rw [if_pos h2]
      refine Ev.step (f := fun k => tree_Deep_1.j0 k (i + 1) c n.f0 n.f1.f0 n.f1.f1 n.f1.f2 n.f1.f3 n.f2 n.f3 n.f4) (fun k => by show tree_Deep_1.f (k + 1) _ _ _ _ _ _ _ _ _ _ = _; rw [tree_Deep_1.f, if_pos h2, w64 (by omega) (by omega)]) ?_
      exact Ev.eq (hj (i + 1) (by omega) (by omega)) (by omega)
    · rw [if_neg h2]
      refine Ev.step (f := fun k => tree_Deep_1.j0 k i c n.f0 n.f1.f0 n.f1.f1 n.f1.f2 n.f1.f3 n.f2 n.f3 n.f4) (fun k => by show tree_Deep_1.f (k + 1) _ _ _ _ _ _ _ _ _ _ = _; rw [tree_Deep_1.f, if_neg h2]) ?_
      exact hj i (by omega) (by omega)
theorem tDeep_f (n : S26) (h : nd n ≤ 4611686018427387904) : Ev (fun k => tDeep k n) (dp n : Int) := Ev.eq (dp_f _ n 0 0 (Nat.le_refl _) (Int.le_refl _) (Int.le_refl _) (by omega)) (by omega)
theorem rDeep_f : ∀ (m : Nat) (n : S26), nd n ≤ m → nd n ≤ 4611686018427387904 → Ev (fun k => rDeep k n) (dp n : Int)
  | 0, n, h, _ => by have := nd_pos n; omega
  | m + 1, n, h, hb => by
    have loop : ∀ (t p : List S26) (c : Int), p ++ t = n.f4 → ndL t ≤ m → 0 ≤ c → c ≤ 4611686018427387904 → ndL t ≤ 4611686018427387904 → (p ++ t).length ≤ 4611686018427387904 → Ev (fun k => lustrumref10_Deep.l0 k c (p.length : Int) n.f0 n.f1.f0 n.f1.f1 n.f1.f2 n.f1.f3 n.f2 n.f3 (p ++ t)) (if n.f0 = 2 then max c (dpL t : Int) + 1 else max c (dpL t : Int)) := fun t => by
      induction t with
      | nil =>
        intro p c _ _ h0 h1 _ _
        refine Ev.step (f := fun _ => if n.f0 = 2 then some (c + 1) else some c) (fun k => by rw [lustrumref10_Deep.l0, if_neg (at_end p), w64 (by omega) (by omega)]) ?_
        have e : max c ((dpL [] : Nat) : Int) = c := by simp only [dpL]; omega
        rw [e]
        by_cases h2 : n.f0 = 2
        · exact Ev.eq (Ev.ift h2 (Ev.now _)) (by rw [if_pos h2])
        · exact Ev.eq (Ev.iff_ h2 (Ev.now _)) (by rw [if_neg h2])
      | cons x t ih =>
        intro p c he hm h0 h1 hb hp
        rw [ndL] at hm hb
        have hx := dp_le _ x (Nat.le_refl _)
        refine Ev.step (f := fun k => (rDeep k x).bind fun t' => lustrumref10_Deep.l0 k (mx c t') ((p ++ [x]).length : Int) n.f0 n.f1.f0 n.f1.f1 n.f1.f2 n.f1.f3 n.f2 n.f3 (p ++ x :: t)) (fun k => by rw [lustrumref10_Deep.l0, if_pos (at_lt p x t), if_pos (at_0 p), at_rd26, at_next hp]) ?_
        refine Ev.bind (rDeep_f m x (by omega) (by omega)) ?_
        rw [mx_max]
        have := ih (p ++ [x]) (max c (dp x : Int)) (by rw [← at_app]; exact he) (by have := nd_pos x; omega) (by omega) (by omega) (by omega) (by rw [← at_app]; exact hp)
        rw [← at_app] at this
        refine Ev.eq this ?_
        rw [dpL]
        have e : max (max c (dp x : Int)) (dpL t : Int) = max c ((max (dp x) (dpL t) : Nat) : Int) := by omega
        rw [e]
    have hn := nd_eq n
    have hl := len_nd n.f4
    refine Ev.step (f := fun k => lustrumref10_Deep.l0 k 0 0 n.f0 n.f1.f0 n.f1.f1 n.f1.f2 n.f1.f3 n.f2 n.f3 n.f4) (fun k => by show lustrumref10_Deep.f (k + 1) _ _ _ _ _ _ _ _ = _; rw [lustrumref10_Deep.f]) ?_
    have := loop n.f4 [] 0 rfl (by omega) (by omega) (by omega) (by omega) (by simp; omega)
    refine Ev.eq this ?_
    rw [dp_eq]
    have e : max 0 (dpL n.f4 : Int) = (dpL n.f4 : Int) := by omega
    rw [e]
    split <;> simp
def tree_Of.f (a0_0 : Int) (a0_1 : ByteArray) (a0_2 : ByteArray) (a0_3 : ByteArray) (a1 : Bool) (a2 : Bool) : Option (Int × Int × ByteArray × ByteArray × ByteArray × Bool × Bool × (List (S26))) := some (0, a0_0, a0_1, a0_2, a0_3, a1, a2, ([] : List (S26)))
def slices_Clone.f (l0 : List (S26)) : Option (List (S26)) := if l0.length < 1466015503701 then some l0 else none
def tree_OneOf.f (l0 : List (S26)) : Option (Int × Int × ByteArray × ByteArray × ByteArray × Bool × Bool × (List (S26))) := (slices_Clone.f l0).bind fun t169 => (some (2, 0, (⟨#[]⟩ : ByteArray), (⟨#[]⟩ : ByteArray), (⟨#[]⟩ : ByteArray), false, false, t169))
theorem smL_len : ∀ (l u : List S26), smL l u = true → l.length = u.length
  | [], [], _ => rfl
  | [], y :: u, h => by rw [smL] at h; · cases h
                        all_goals simp
  | x :: l, [], h => by rw [smL] at h; · cases h
                        all_goals simp
  | x :: l, y :: u, h => by
    rw [smL, Bool.and_eq_true] at h
    rw [List.length_cons, List.length_cons, smL_len l u h.2]
theorem at_rd26' (p q : List S26) (r : S26) (t : List S26) (e : p.length = q.length) : rd_T26 (q ++ r :: t) (p.length : Int) = r := by rw [e, at_rd26]
theorem at_lt' (p q : List S26) (r : S26) (t : List S26) (e : p.length = q.length) : (p.length : Int) < ((q ++ r :: t).length : Int) := by rw [e]; exact at_lt q r t
theorem tSame_f : ∀ (m : Nat) (a b : S26), nd a ≤ m → wfN a → Ev (fun k => tSame k a b) (sm a b)
  | 0, a, _, h, _ => by have := nd_pos a; omega
  | m + 1, a, b, h, hw => by
    have loop : ∀ (t u p q : List S26), ndL t ≤ m → (∀ x, x ∈ t → wfN x) → p.length = q.length → t.length = u.length → (p ++ t).length ≤ 4611686018427387904 → Ev (fun k => slices_EqualFunc.l0 k (q ++ u) (p ++ t) ((p ++ t).length : Int) (p.length : Int)) (smL t u) := fun t => by
      induction t with
      | nil =>
        intro u p q _ _ _ hu _
        cases u with
        | nil => exact Ev.step (f := fun _ => some true) (fun k => by rw [slices_EqualFunc.l0, if_neg (at_end p)]) (Ev.eq (Ev.now _) (by rw [smL]))
        | cons y u => simp at hu
      | cons x t ih =>
        intro u p q hm hx hpq hu hp
        cases u with
        | nil => simp at hu
        | cons y u =>
          rw [ndL] at hm
          rw [smL]
          refine Ev.step (f := fun k => (tSame k x y).bind fun t' => if t' = true then slices_EqualFunc.l0 k (q ++ y :: u) (p ++ x :: t) ((p ++ x :: t).length : Int) ((p ++ [x]).length : Int) else some false) (fun k => by rw [slices_EqualFunc.l0, if_pos (at_lt p x t), if_pos (at_0 p), if_pos (at_lt p x t), if_pos (at_lt' p q y u hpq), at_rd26, at_rd26' p q y u hpq, at_next hp]) ?_
          refine Ev.andb (tSame_f m x y (by omega) (hx x List.mem_cons_self)) ?_
          have := ih u (p ++ [x]) (q ++ [y]) (by have := nd_pos x; omega) (fun z hz => hx z (List.mem_cons_of_mem _ hz)) (by simp [hpq]) (by simpa using hu) (by rw [← at_app]; exact hp)
          rw [← at_app, ← at_app] at this
          exact this
    have hn := nd_eq a
    have hl := hw.len
    refine Ev.step (fun k => by show tree_Same.f (k + 1) _ _ _ _ _ _ _ _ _ _ _ _ _ _ _ _ = _; rw [tree_Same.f_succ]) ?_
    have hE : Ev (fun k => slices_EqualFunc.f k a.f4 b.f4) (smL a.f4 b.f4) := by
      by_cases c : (a.f4.length : Int) = (b.f4.length : Int)
      · have := loop a.f4 b.f4 [] [] (by omega) hw.all rfl (by omega) (by simp; omega)
        exact Ev.ift c this
      · refine Ev.iff_ c (Ev.eq (Ev.now _) ?_)
        cases hs : smL a.f4 b.f4 with
        | false => rfl
        | true => exact absurd (smL_len _ _ hs) (by omega)
    refine Ev.eq (Ev.cond fun _ => Ev.cond fun _ => Ev.cond fun _ => Ev.cond fun _ => Ev.self hE) ?_
    rw [sm_eq, Bool.eq_iff_iff]
    simp [and_assoc]
theorem rj_true (k' : Nat) (a b : S26) : Ev (fun k => lustrumref10_Same.j0 k true a.f0 a.f1.f0 a.f1.f1 a.f1.f2 a.f1.f3 a.f2 a.f3 a.f4 b.f0 b.f1.f0 b.f1.f1 b.f1.f2 b.f1.f3 b.f2 b.f3 b.f4) false := Ev.step (f := fun _ => some false) (fun k => by rw [lustrumref10_Same.j0, if_pos rfl]) (Ev.now _)
theorem rSame_f : ∀ (m : Nat) (a b : S26), nd a ≤ m → wfN a → Ev (fun k => rSame k a b) (sm a b)
  | 0, a, _, h, _ => by have := nd_pos a; omega
  | m + 1, a, b, h, hw => by
    have loop : ∀ (t u p q : List S26), ndL t ≤ m → (∀ x, x ∈ t → wfN x) → p.length = q.length → t.length = u.length → (p ++ t).length ≤ 4611686018427387904 → Ev (fun k => lustrumref10_Same.l0 k (p.length : Int) a.f0 a.f1.f0 a.f1.f1 a.f1.f2 a.f1.f3 a.f2 a.f3 (p ++ t) b.f0 b.f1.f0 b.f1.f1 b.f1.f2 b.f1.f3 b.f2 b.f3 (q ++ u)) (smL t u) := fun t => by
      induction t with
      | nil =>
        intro u p q _ _ _ hu _
        cases u with
        | nil => exact Ev.step (f := fun _ => some true) (fun k => by rw [lustrumref10_Same.l0, if_neg (at_end p)]) (Ev.eq (Ev.now _) (by rw [smL]))
        | cons y u => simp at hu
      | cons x t ih =>
        intro u p q hm hx hpq hu hp
        cases u with
        | nil => simp at hu
        | cons y u =>
          rw [ndL] at hm
          rw [smL]
          refine Ev.step (f := fun k => (rSame k x y).bind fun t' => if t' = true then lustrumref10_Same.l0 k ((p ++ [x]).length : Int) a.f0 a.f1.f0 a.f1.f1 a.f1.f2 a.f1.f3 a.f2 a.f3 (p ++ x :: t) b.f0 b.f1.f0 b.f1.f1 b.f1.f2 b.f1.f3 b.f2 b.f3 (q ++ y :: u) else some false) (fun k => by rw [lustrumref10_Same.l0, if_pos (at_lt p x t), if_pos (at_0 p), if_pos (at_lt' p q y u hpq), at_rd26, at_rd26' p q y u hpq, at_next hp]) ?_
          refine Ev.andb (rSame_f m x y (by omega) (hx x List.mem_cons_self)) ?_
          have := ih u (p ++ [x]) (q ++ [y]) (by have := nd_pos x; omega) (fun z hz => hx z (List.mem_cons_of_mem _ hz)) (by simp [hpq]) (by simpa using hu) (by rw [← at_app]; exact hp)
          rw [← at_app, ← at_app] at this
          exact this
    have hn := nd_eq a
    have hl := hw.len
    refine Ev.step (fun k => by show lustrumref10_Same.f (k + 1) _ _ _ _ _ _ _ _ _ _ _ _ _ _ _ _ = _; rw [lustrumref10_Same.f]) ?_
    have hs := sm_eq a b
    by_cases c1 : a.f0 = b.f0
    · refine Ev.ift c1 ?_
      by_cases c2 : (!(a.f1.f0 == b.f1.f0) || (!(a.f1.f1.toList == b.f1.f1.toList) || (!(a.f1.f2.toList == b.f1.f2.toList) || (!(a.f1.f3.toList == b.f1.f3.toList))))) = true
      · refine Ev.ift c2 (Ev.eq (rj_true 0 a b) ?_)
        rw [hs]
        cases hv : (decide (a.f1.f0 = b.f1.f0) && (decide (a.f1.f1.toList = b.f1.f1.toList) && (decide (a.f1.f2.toList = b.f1.f2.toList) && decide (a.f1.f3.toList = b.f1.f3.toList)))) with
        | false => simp
        | true =>
          simp only [Bool.and_eq_true, decide_eq_true_eq] at hv
          obtain ⟨h1, h2, h3, h4⟩ := hv
          rw [h1, h2, h3, h4] at c2
          simp at c2
      · refine Ev.iff_ c2 ?_
        by_cases c3 : (a.f2 != b.f2) = true
        · refine Ev.ift c3 (Ev.eq (rj_true 0 a b) ?_)
          have : (a.f2 == b.f2) = false := by simpa using c3
          rw [hs, this]
          simp
        · refine Ev.iff_ c3 ?_
          by_cases c4 : (a.f3 != b.f3) = true
          · refine Ev.ift c4 (Ev.eq (rj_true 0 a b) ?_)
            have : (a.f3 == b.f3) = false := by simpa using c4
            rw [hs, this]
            simp
          · refine Ev.iff_ c4 ?_
            have hv : sm a b = smL a.f4 b.f4 := by
              rw [hs]
              simp only [Bool.or_eq_true, Bool.not_eq_true', beq_eq_false_iff_ne, not_or, Decidable.not_not] at c2
              obtain ⟨h1, h2, h3, h4⟩ := c2
              have h5 : (a.f2 == b.f2) = true := by simpa using c3
              have h6 : (a.f3 == b.f3) = true := by simpa using c4
              rw [decide_eq_true c1, decide_eq_true h1, decide_eq_true h2, decide_eq_true h3, decide_eq_true h4, h5, h6]
              simp
            rw [hv]
            by_cases c : (a.f4.length : Int) = (b.f4.length : Int)
            · refine Ev.step (f := fun k => lustrumref10_Same.l0 k 0 a.f0 a.f1.f0 a.f1.f1 a.f1.f2 a.f1.f3 a.f2 a.f3 a.f4 b.f0 b.f1.f0 b.f1.f1 b.f1.f2 b.f1.f3 b.f2 b.f3 b.f4) (fun k => by rw [lustrumref10_Same.j0, if_neg (by simp [c])]) ?_
              have := loop a.f4 b.f4 [] [] (by omega) hw.all rfl (by omega) (by simp; omega)
              exact this
            · refine Ev.step (f := fun _ => some false) (fun k => by rw [lustrumref10_Same.j0, if_pos (by simp only [bne_iff_ne]; exact c)]) (Ev.eq (Ev.now _) ?_)
              cases hs : smL a.f4 b.f4 with
              | false => rfl
              | true => exact absurd (smL_len _ _ hs) (by omega)
    · refine Ev.iff_ c1 (Ev.eq (rj_true 0 a b) ?_)
      rw [hs, decide_eq_false c1]
      simp
theorem shj_true (a : S26) : Ev (fun k => lustrumref10_short.j0 k true a.f0 a.f1.f0 a.f1.f1 a.f1.f2 a.f1.f3 a.f2 a.f3 a.f4) false := Ev.step (f := fun _ => some false) (fun k => by rw [lustrumref10_short.j0, if_pos rfl]) (Ev.now _)
theorem rShort_f : ∀ (m : Nat) (n : S26), nd n ≤ m → wfN n → Ev (fun k => rShort k n) (sh n)
  | 0, a, h, _ => by have := nd_pos a; omega
  | m + 1, n, h, hw => by
    have loop : ∀ (t p : List S26), ndL t ≤ m → (∀ x, x ∈ t → wfN x) → (p ++ t).length ≤ 4611686018427387904 → Ev (fun k => lustrumref10_short.l0 k (p.length : Int) n.f0 n.f1.f0 n.f1.f1 n.f1.f2 n.f1.f3 n.f2 n.f3 (p ++ t)) (shL t) := fun t => by
      induction t with
      | nil => exact fun p _ _ _ => Ev.step (f := fun _ => some true) (fun k => by rw [lustrumref10_short.l0, if_neg (at_end p)]) (Ev.eq (Ev.now _) (by rw [shL]))
      | cons x t ih =>
        intro p hm hx hp
        rw [ndL] at hm
        rw [shL]
        refine Ev.step (f := fun k => (rShort k x).bind fun t' => if t' = true then lustrumref10_short.l0 k ((p ++ [x]).length : Int) n.f0 n.f1.f0 n.f1.f1 n.f1.f2 n.f1.f3 n.f2 n.f3 (p ++ x :: t) else some false) (fun k => by rw [lustrumref10_short.l0, if_pos (at_lt p x t), if_pos (at_0 p), at_rd26, at_next hp]) ?_
        refine Ev.andb (rShort_f m x (by omega) (hx x List.mem_cons_self)) ?_
        have := ih (p ++ [x]) (by have := nd_pos x; omega) (fun z hz => hx z (List.mem_cons_of_mem _ hz)) (by rw [← at_app]; exact hp)
        rw [← at_app] at this
        exact this
    have hn := nd_eq n
    have hl := hw.len
    have hL := loop n.f4 [] (by omega) hw.all (by simp; omega)
    refine Ev.step (fun k => by show lustrumref10_short.f (k + 1) _ _ _ _ _ _ _ _ = _; rw [lustrumref10_short.f]) ?_
    have hs := sh_eq n
    by_cases c1 : (n.f1.f1.size : Int) > 10
    · refine Ev.ift c1 (Ev.eq (shj_true n) ?_)
      rw [hs, decide_eq_false (show ¬ n.f1.f1.size ≤ 10 by omega)]; simp
    · refine Ev.iff_ c1 ?_
      by_cases c2 : (n.f1.f2.size : Int) > 10
      · refine Ev.ift c2 (Ev.eq (shj_true n) ?_)
        rw [hs, decide_eq_false (show ¬ n.f1.f2.size ≤ 10 by omega)]; simp
      · refine Ev.iff_ c2 ?_
        by_cases c3 : (n.f1.f3.size : Int) > 10
        · rw [decide_eq_true c3]
          refine Ev.eq (shj_true n) ?_
          rw [hs, decide_eq_false (show ¬ n.f1.f3.size ≤ 10 by omega)]; simp
        · rw [decide_eq_false c3]
          refine Ev.step (f := fun k => lustrumref10_short.l0 k 0 n.f0 n.f1.f0 n.f1.f1 n.f1.f2 n.f1.f3 n.f2 n.f3 n.f4) (fun k => by rw [lustrumref10_short.j0, if_neg (by simp)]) ?_
          refine Ev.eq hL ?_
          rw [hs, decide_eq_true (show n.f1.f1.size ≤ 10 by omega), decide_eq_true (show n.f1.f2.size ≤ 10 by omega), decide_eq_true (show n.f1.f3.size ≤ 10 by omega)]
          simp
theorem rFew_f (n : S26) (hw : wfN n) : ∃ b, Ev (fun k => rFew k n) b ∧ (b = true → sh n = true) := by
  obtain ⟨v, hv⟩ := rCount_some _ n (Nat.le_refl _) hw
  refine ⟨decide (v ≤ 120) && sh n, Ev.bind hv (Ev.cond fun _ => Ev.self (rShort_f _ n (Nat.le_refl _) hw)), fun h => ?_⟩
  rw [Bool.and_eq_true] at h
  exact h.2
theorem tBare_f (n : S26) : tBare n = some (bareV n) := by
  show tree_bare.f _ _ _ _ _ _ _ _ = _
  unfold tree_bare.f bareV emptyV
  cases h : (n.f1.f0 == 0 && (n.f1.f1.toList == ([] : List UInt8) && (n.f1.f2.toList == ([] : List UInt8) && (n.f1.f3.toList == ([] : List UInt8))))) with
  | true =>
    rw [if_pos rfl]
    cases n.f2 <;> cases n.f3 <;> rfl
  | false =>
    rw [if_neg (by simp)]
    simp
theorem rBare_f (n : S26) : rBare n = some (bareV n) := tBare_f n
theorem tEnd_f (n : S26) : Ev (fun k => tEnd k n) (endV n) := by
  refine Ev.eq (Ev.pick (Ev.cond fun _ => Ev.self (ptSane_f n.f1)) (Ev.pick (Ev.cond fun _ => Ev.bnow (tBare_f n) (Ev.now _)) (Ev.pick (Ev.cond fun _ => Ev.bnow (tBare_f n) (Ev.now _)) (Ev.now false)))) ?_
  unfold endV
  have e : decide ((n.f4.length : Int) = 0) = decide (n.f4 = []) := by rw [Bool.eq_iff_iff]; simp
  rw [e]
  by_cases c0 : n.f0 = 0
  · rw [if_pos c0, if_pos c0]
  · by_cases c3 : n.f0 = 3
    · rw [if_neg c0, if_pos c3, if_neg c0, if_pos (.inl c3)]
    · by_cases c4 : n.f0 = 4
      · rw [if_neg c0, if_neg c3, if_pos c4, if_neg c0, if_pos (.inr c4)]
      · rw [if_neg c0, if_neg c3, if_neg c4, if_neg c0, if_neg (by rintro (h | h) <;> contradiction)]; simp
theorem rEnd_f (n : S26) (hw : wfN n) : Ev (fun k => rEnd k n) (endV n) := by
  have h1 := hw.s1
  have h2 := hw.s2
  have h3 := hw.s3
  unfold endV
  by_cases c : n.f4 = []
  · rw [decide_eq_true c, Bool.true_and]
    refine Ev.iff_ (by rw [c]; simp) ?_
    refine Ev.eq (Ev.pick (Ev.self (rptSane_f n.f1 (by omega) (by omega) (by omega))) (Ev.pick (Ev.bnow (rBare_f n) (Ev.now _)) (Ev.pick (Ev.bnow (rBare_f n) (Ev.now _)) (Ev.now false)))) ?_
    by_cases c0 : n.f0 = 0
    · rw [if_pos c0, if_pos c0]
    · by_cases c3 : n.f0 = 3
      · rw [if_neg c0, if_pos c3, if_neg c0, if_pos (.inl c3)]
      · by_cases c4 : n.f0 = 4
        · rw [if_neg c0, if_neg c3, if_pos c4, if_neg c0, if_pos (.inr c4)]
        · rw [if_neg c0, if_neg c3, if_neg c4, if_neg c0, if_neg (by rintro (h | h) <;> contradiction)]
  · rw [decide_eq_false c, Bool.false_and]
    refine Ev.ift ?_ (Ev.now _)
    cases h : n.f4 with
    | nil => exact absurd h c
    | cons x t => simp
theorem two_f (E : Nat → S26 → Option Bool) (l : List S26) (hE : ∀ x, x ∈ l → Ev (fun k => E k x) (endV x)) :
    Ev (fun k => if (l.length : Int) = 2 then (if 0 < (l.length : Int) then ((E k (rd_T26 l 0)).bind fun t108 => (if t108 = true then (if 1 < (l.length : Int) then ((E k (rd_T26 l 1)).bind fun t110 => (some t110)) else (none)) else (some false))) else (none)) else (some false)) (two l) := by
  match l, hE with
  | [], _ => exact Ev.iff_ (by simp) (Ev.now _)
  | [x], _ => exact Ev.iff_ (by simp) (Ev.now _)
  | [x, y], hE =>
    refine Ev.ift (by simp) (Ev.ift (by simp) ?_)
    refine Ev.andb (hE x (by simp)) (Ev.ift (by simp) (Ev.self (hE y (by simp))))
  | x :: y :: z :: l, _ => exact Ev.iff_ (by simp; omega) (Ev.now _)
theorem tRight_f : ∀ (m : Nat) (n : S26), nd n ≤ m → wfN n → Ev (fun k => tRight k n) (rt n)
  | 0, a, h, _ => by have := nd_pos a; omega
  | m + 1, n, h, hw => by
    have loop : ∀ (t p : List S26), ndL t ≤ m → (∀ x, x ∈ t → wfN x) → (p ++ t).length ≤ 4611686018427387904 → ∃ v, Ev (fun k => slices_IndexFunc.l0 k (p ++ t) ((p ++ t).length : Int) (p.length : Int)) v ∧ decide (v ≥ 0) = !rtL t := fun t => by
      induction t with
      | nil => exact fun p _ _ _ => ⟨-1, Ev.step (f := fun _ => some (-1)) (fun k => by rw [slices_IndexFunc.l0_succ, if_neg (at_end p)]) (Ev.now _), by rw [rtL]; rfl⟩
      | cons x t ih =>
        intro p hm hx hp
        rw [ndL] at hm
        rw [rtL]
        have hstep : ∀ k, slices_IndexFunc.l0 (k + 1) (p ++ x :: t) ((p ++ x :: t).length : Int) (p.length : Int) = ((tRight k x).bind fun t_ => some (!t_)).bind fun t' => if t' = true then some (p.length : Int) else slices_IndexFunc.l0 k (p ++ x :: t) ((p ++ x :: t).length : Int) ((p ++ [x]).length : Int) := fun k => by
          rw [slices_IndexFunc.l0_succ, if_pos (at_lt p x t), if_pos (at_0 p), if_pos (at_lt p x t), at_rd26, at_next hp]
          rfl
        have hR := tRight_f m x (by omega) (hx x List.mem_cons_self)
        cases hv : rt x with
        | false =>
          rw [hv] at hR
          exact ⟨(p.length : Int), Ev.step hstep (Ev.bind (Ev.bind hR (Ev.now _)) (Ev.ift rfl (Ev.now _))), by simp⟩
        | true =>
          rw [hv] at hR
          obtain ⟨v, h1, h2⟩ := ih (p ++ [x]) (by have := nd_pos x; omega) (fun z hz => hx z (List.mem_cons_of_mem _ hz)) (by rw [← at_app]; exact hp)
          rw [← at_app] at h1
          exact ⟨v, Ev.step hstep (Ev.bind (Ev.bind hR (Ev.now _)) (Ev.iff_ (by simp) h1)), by rw [h2, Bool.true_and]⟩
    have hn := nd_eq n
    have hl := hw.len
    refine Ev.step (f := fun k => tree_rightR.f k n.f0 n.f1.f0 n.f1.f1 n.f1.f2 n.f1.f3 n.f2 n.f3 n.f4) (fun k => by show tree_right.f (k + 1) _ _ _ _ _ _ _ _ = _; rw [tree_right.f_succ]) ?_
    have h2 := two_f (fun k x => tEnd k x) n.f4 (fun x _ => tEnd_f x)
    have hc : Ev (fun k => (slices_ContainsFunc.f k n.f4).bind fun t112 => some (!t112)) (rtL n.f4) := by
      obtain ⟨v, h1, h3⟩ := loop n.f4 [] (by omega) hw.all (by simp; omega)
      refine Ev.bind (Ev.bind (show Ev (fun k => slices_IndexFunc.f k n.f4) v from h1) (Ev.now _)) (Ev.eq (Ev.now _) ?_)
      rw [h3, Bool.not_not]
    refine Ev.eq (Ev.pick (Ev.self (tEnd_f n)) (Ev.pick (Ev.bnow (tBare_f n) (Ev.cond fun _ => h2)) (Ev.pick (Ev.bnow (tBare_f n) (Ev.cond fun _ => Ev.cond fun _ => hc)) (Ev.now false)))) ?_
    rw [rt_eq]
    have e : decide ((n.f4.length : Int) > 0) = decide (n.f4 ≠ []) := by
      rw [Bool.eq_iff_iff]
      simp only [decide_eq_true_eq]
      cases n.f4 <;> simp
    rw [e, Bool.decide_eq_true]
theorem rRight_f : ∀ (m : Nat) (n : S26), nd n ≤ m → wfN n → Ev (fun k => rRight k n) (rt n)
  | 0, a, h, _ => by have := nd_pos a; omega
  | m + 1, n, h, hw => by
    have loop : ∀ (t p : List S26), p ++ t = n.f4 → ndL t ≤ m → (∀ x, x ∈ t → wfN x) → (p ++ t).length ≤ 4611686018427387904 → Ev (fun k => lustrumref10_right.l0 k (p.length : Int) n.f0 n.f1.f0 n.f1.f1 n.f1.f2 n.f1.f3 n.f2 n.f3 (p ++ t)) (rtL t && (bareV n && decide (n.f4 ≠ []))) := fun t => by
      induction t with
      | nil =>
        intro p he _ _ _
        refine Ev.step (f := fun _ => if bareV n = true then some (decide (n.f4 ≠ [])) else some false) (fun k => ?_) (Ev.eq (Ev.cond fun _ => Ev.now _) (by rw [rtL, Bool.decide_eq_true, Bool.true_and]))
        rw [lustrumref10_right.l0, if_neg (at_end p), he]
        have hb := rBare_f n
        show (rBare n).bind _ = _
        rw [hb, Option.bind_some]
        have e : decide ((n.f4.length : Int) ≥ 1) = decide (n.f4 ≠ []) := by
          rw [Bool.eq_iff_iff]
          simp only [decide_eq_true_eq]
          cases n.f4 <;> simp <;> omega
        rw [e]
      | cons x t ih =>
        intro p he hm hx hp
        rw [ndL] at hm
        rw [rtL, Bool.and_assoc]
        refine Ev.step (f := fun k => (rRight k x).bind fun t' => if t' = true then lustrumref10_right.l0 k ((p ++ [x]).length : Int) n.f0 n.f1.f0 n.f1.f1 n.f1.f2 n.f1.f3 n.f2 n.f3 (p ++ x :: t) else some false) (fun k => by rw [lustrumref10_right.l0, if_pos (at_lt p x t), if_pos (at_0 p), at_rd26, at_next hp]) ?_
        refine Ev.andb (rRight_f m x (by omega) (hx x List.mem_cons_self)) ?_
        have := ih (p ++ [x]) (by rw [← at_app]; exact he) (by have := nd_pos x; omega) (fun z hz => hx z (List.mem_cons_of_mem _ hz)) (by rw [← at_app]; exact hp)
        rw [← at_app] at this
        exact this
    have hn := nd_eq n
    have hl := hw.len
    refine Ev.step (fun k => by show lustrumref10_right.f (k + 1) _ _ _ _ _ _ _ _ = _; rw [lustrumref10_right.f]) ?_
    have h2 := two_f (fun k x => rEnd k x) n.f4 (fun x hx => rEnd_f x (hw.all x hx))
    have hL := loop n.f4 [] rfl (by omega) hw.all (by simp; omega)
    refine Ev.eq (Ev.pick (Ev.self (rEnd_f n hw)) (Ev.pick (Ev.bnow (rBare_f n) (Ev.cond fun _ => h2)) (Ev.pick hL (Ev.now false)))) ?_
    rw [rt_eq, Bool.decide_eq_true]
    by_cases c : n.f0 = 2
    · rw [if_pos c, if_pos c]
      cases rtL n.f4 <;> cases bareV n <;> simp
    · rw [if_neg c, if_neg c]
def saneV (n : S26) : Bool := decide (nd n ≤ 64) && (decide (dp n ≤ 8) && rt n)
theorem le_dec (a b : Nat) : decide ((a : Int) ≤ (b : Int)) = decide (a ≤ b) := by rw [Bool.eq_iff_iff]; simp
theorem tSane_f (n : S26) (hw : wfN n) (h : nd n ≤ 4611686018427387904) : Ev (fun k => tSane k n) (saneV n) := by
  refine Ev.eq (Ev.bind (tCount_f n h) (Ev.cond fun _ => Ev.bind (tDeep_f n h) (Ev.cond fun _ => Ev.self (tRight_f _ n (Nat.le_refl _) hw)))) ?_
  unfold saneV
  rw [← le_dec, ← le_dec]; rfl
theorem rSane_f10 (n : S26) (hw : wfN n) (h : nd n ≤ 4611686018427387904) : Ev (fun k => rSane k n) (saneV n) := by
  refine Ev.eq (Ev.bind (rCount_f _ n (Nat.le_refl _) h) (Ev.cond fun _ => Ev.bind (rDeep_f _ n (Nat.le_refl _) h) (Ev.cond fun _ => Ev.self (rRight_f _ n (Nat.le_refl _) hw)))) ?_
  unfold saneV
  rw [← le_dec, ← le_dec]; rfl
theorem sm_refl : ∀ (m : Nat) (n : S26), nd n ≤ m → sm n n = true
  | 0, n, h => by have := nd_pos n; omega
  | m + 1, n, h => by
    have hl : ∀ l : List S26, ndL l ≤ m → smL l l = true := fun l => by
      induction l with
      | nil => intro _; rw [smL]
      | cons x t ih =>
        intro hh
        rw [ndL] at hh
        rw [smL, sm_refl m x (by omega), ih (by omega)]; rfl
    have hn := nd_eq n
    rw [sm_eq, hl n.f4 (by omega)]
    simp
def eP : S23 := ⟨0, ⟨#[]⟩, ⟨#[]⟩, ⟨#[]⟩⟩
def lN (l : List S26) : S26 := ⟨2, eP, false, false, l⟩
theorem wf_leaf (k : Int) (p : S23) (a t : Bool) (h1 : p.f1.size ≤ 140737488351232) (h2 : p.f2.size ≤ 140737488351232) (h3 : p.f3.size ≤ 140737488351232) : wfN ⟨k, p, a, t, []⟩ := .mk _ h1 h2 h3 (by simp) (fun x hx => by cases hx)
theorem emptyV_nil : emptyV ⟨#[]⟩ = true := by unfold emptyV; rw [ByteArray.toList_eq]; rfl
theorem ndL_app : ∀ (l u : List S26), ndL (l ++ u) = ndL l + ndL u
  | [], u => by rw [List.nil_append, ndL, Nat.zero_add]
  | x :: l, u => by rw [List.cons_append, ndL, ndL, ndL_app l u]; omega
def point_Text.f (k : Nat) (a0_0 : Int) (a0_1 : ByteArray) (a0_2 : ByteArray) (a0_3 : ByteArray) : Option (ByteArray) := (point_Sane.f k a0_0 a0_1 a0_2 a0_3).bind fun t188 => (if t188 = true then (if a0_0 = 0 then (if 1 + a0_3.size ≤ 9223372036854775807 then (if 1 + a0_2.size ≤ 9223372036854775807 then (if ((⟨#[45]⟩ : ByteArray) ++ a0_2).size + ((⟨#[45]⟩ : ByteArray) ++ a0_3).size ≤ 9223372036854775807 then (if a0_1.size + (((⟨#[45]⟩ : ByteArray) ++ a0_2) ++ ((⟨#[45]⟩ : ByteArray) ++ a0_3)).size ≤ 9223372036854775807 then (some (a0_1 ++ (((⟨#[45]⟩ : ByteArray) ++ a0_2) ++ ((⟨#[45]⟩ : ByteArray) ++ a0_3)))) else (none)) else (none)) else (none)) else (none)) else (if a0_0 = 1 then (if 1 + a0_2.size ≤ 9223372036854775807 then (if ((⟨#[45]⟩ : ByteArray) ++ a0_2).size + 0 ≤ 9223372036854775807 then (if a0_1.size + (((⟨#[45]⟩ : ByteArray) ++ a0_2) ++ (⟨#[]⟩ : ByteArray)).size ≤ 9223372036854775807 then (some (a0_1 ++ (((⟨#[45]⟩ : ByteArray) ++ a0_2) ++ (⟨#[]⟩ : ByteArray)))) else (none)) else (none)) else (none)) else (if a0_0 = 2 then (if 1 + a0_2.size ≤ 9223372036854775807 then (if a0_1.size + ((⟨#[115]⟩ : ByteArray) ++ a0_2).size ≤ 9223372036854775807 then (some (a0_1 ++ ((⟨#[115]⟩ : ByteArray) ++ a0_2))) else (none)) else (none)) else (if a0_0 = 4 then (if a0_1.size + 1 ≤ 9223372036854775807 then (some (a0_1 ++ (⟨#[100]⟩ : ByteArray))) else (none)) else (if a0_0 = 5 then (if a0_1.size + 1 ≤ 9223372036854775807 then (some (a0_1 ++ (⟨#[99]⟩ : ByteArray))) else (none)) else (if a0_1.size + 0 ≤ 9223372036854775807 then (some (a0_1 ++ (⟨#[]⟩ : ByteArray))) else (none))))))) else (some (⟨#[]⟩ : ByteArray)))
theorem point_Text.mono : ∀ a0 a1 a2 a3 k, LeO (point_Text.f k a0 a1 a2 a3) (point_Text.f (k + 1) a0 a1 a2 a3) := by
  intro a0 a1 a2 a3 k
  unfold point_Text.f
  repeat' (with_reducible first | apply point_Sane.mono | exact LeO.refl _ | exact LeO.none _ | refine LeO.ite ?_ ?_ | refine LeO.bind ?_ fun _ => ?_)
def strings_Join.f (l : List ByteArray) (sep : ByteArray) : Option ByteArray :=
  if l.length ≤ 140737488355328 then (if (Lib.join (l.map (·.data.toList)) sep.data.toList).length ≤ 140737488355328 then some ⟨(Lib.join (l.map (·.data.toList)) sep.data.toList).toArray⟩ else none) else none
def print_join.f (l0 : List ByteArray) : Option (ByteArray) := (strings_Join.f l0 (⟨#[]⟩ : ByteArray)).bind fun t189 => (some t189)
def print_mark.f (a0 : Bool) (a1 : ByteArray) : Option (ByteArray) := if a0 = true then (some a1) else (some (⟨#[]⟩ : ByteArray))
mutual
def print_text.l0 : Nat → List ByteArray → List (S26) → Int → Int → Option (ByteArray)
  | 0, _, _, _, _ => none
  | k + 1, x3, x25, x26, x27 => if x27 < x26 then (if 0 ≤ x27 then (if x27 < (x25.length : Int) then ((print_text.f k ((rd_T26 x25 x27).f0) ((rd_T26 x25 x27).f1.f0) ((rd_T26 x25 x27).f1.f1) ((rd_T26 x25 x27).f1.f2) ((rd_T26 x25 x27).f1.f3) ((rd_T26 x25 x27).f2) ((rd_T26 x25 x27).f3) ((rd_T26 x25 x27).f4)).bind fun t201 => (if x3.length < 8796093022208 then (print_text.l0 k (x3 ++ [t201]) x25 x26 (wrap64 (x27 + 1))) else (none))) else (none)) else (none)) else ((strings_Join.f x3 (⟨#[44, 32]⟩ : ByteArray)).bind fun t205 => ((print_join.f (([(⟨#[91]⟩ : ByteArray), t205, (⟨#[93]⟩ : ByteArray)] : List ByteArray))).bind fun t209 => (some t209)))
def print_text.f : Nat → Int → Int → ByteArray → ByteArray → ByteArray → Bool → Bool → List (S26) → Option (ByteArray)
  | 0, _, _, _, _, _, _, _, _ => none
  | k + 1, a0_0, a0_1, a0_2, a0_3, a0_4, a0_5, a0_6, l0_7 => if a0_0 = 1 then (if 0 < (l0_7.length : Int) then ((print_text.f k ((rd_T26 l0_7 0).f0) ((rd_T26 l0_7 0).f1.f0) ((rd_T26 l0_7 0).f1.f1) ((rd_T26 l0_7 0).f1.f2) ((rd_T26 l0_7 0).f1.f3) ((rd_T26 l0_7 0).f2) ((rd_T26 l0_7 0).f3) ((rd_T26 l0_7 0).f4)).bind fun t192 => (if 1 < (l0_7.length : Int) then ((print_text.f k ((rd_T26 l0_7 1).f0) ((rd_T26 l0_7 1).f1.f0) ((rd_T26 l0_7 1).f1.f1) ((rd_T26 l0_7 1).f1.f2) ((rd_T26 l0_7 1).f1.f3) ((rd_T26 l0_7 1).f2) ((rd_T26 l0_7 1).f3) ((rd_T26 l0_7 1).f4)).bind fun t194 => ((print_join.f (([t192, (⟨#[47]⟩ : ByteArray), t194] : List ByteArray))).bind fun t198 => (some t198))) else (none))) else (none)) else (if a0_0 = 2 then (print_text.l0 k ([] : List ByteArray) l0_7 (l0_7.length : Int) 0) else (if a0_0 = 3 then (some (⟨#[46, 46]⟩ : ByteArray)) else (if a0_0 = 4 then (some (⟨#[42]⟩ : ByteArray)) else ((point_Text.f k a0_1 a0_2 a0_3 a0_4).bind fun t210 => ((print_mark.f a0_5 (⟨#[63]⟩ : ByteArray)).bind fun t211 => ((print_mark.f a0_6 (⟨#[126]⟩ : ByteArray)).bind fun t212 => ((print_join.f (([t210, t211, t212] : List ByteArray))).bind fun t216 => (some t216))))))))
end
theorem print_text.mono_l : ∀ k, (∀ y0 y1 y2 y3 y4 y5 y6 y7, LeO (print_text.f k y0 y1 y2 y3 y4 y5 y6 y7) (print_text.f (k + 1) y0 y1 y2 y3 y4 y5 y6 y7)) ∧ (∀ y0 y1 y2 y3, LeO (print_text.l0 k y0 y1 y2 y3) (print_text.l0 (k + 1) y0 y1 y2 y3))
  | 0 => ⟨fun _ _ _ _ _ _ _ _ r h => by simp [print_text.f] at h, fun _ _ _ _ r h => by simp [print_text.l0] at h⟩
  | k + 1 => by
    obtain ⟨ih0, ih1⟩ := print_text.mono_l k
    refine ⟨?_, ?_⟩
    · intro y0 y1 y2 y3 y4 y5 y6 y7
      unfold print_text.f
      repeat' (with_reducible first | apply ih0 | apply ih1 | apply point_Text.mono | exact LeO.refl _ | exact LeO.none _ | refine LeO.ite ?_ ?_ | refine LeO.bind ?_ fun _ => ?_)
    · intro y0 y1 y2 y3
      unfold print_text.l0
      repeat' (with_reducible first | apply ih0 | apply ih1 | apply point_Text.mono | exact LeO.refl _ | exact LeO.none _ | refine LeO.ite ?_ ?_ | refine LeO.bind ?_ fun _ => ?_)
theorem print_text.mono : ∀ a0 a1 a2 a3 a4 a5 a6 a7 k, LeO (print_text.f k a0 a1 a2 a3 a4 a5 a6 a7) (print_text.f (k + 1) a0 a1 a2 a3 a4 a5 a6 a7) := by
  intro a0 a1 a2 a3 a4 a5 a6 a7 k
  obtain ⟨ih0, ih1⟩ := print_text.mono_l k
  exact ih0 a0 a1 a2 a3 a4 a5 a6 a7
def print_Text.f (k : Nat) (a0_0 : Int) (a0_1 : Int) (a0_2 : ByteArray) (a0_3 : ByteArray) (a0_4 : ByteArray) (a0_5 : Bool) (a0_6 : Bool) (l0_7 : List (S26)) : Option (ByteArray) := (tree_Sane.f k a0_0 a0_1 a0_2 a0_3 a0_4 a0_5 a0_6 l0_7).bind fun t218 => (if t218 = true then ((print_text.f k a0_0 a0_1 a0_2 a0_3 a0_4 a0_5 a0_6 l0_7).bind fun t219 => (some t219)) else (some (⟨#[]⟩ : ByteArray)))
theorem print_Text.mono : ∀ a0 a1 a2 a3 a4 a5 a6 a7 k, LeO (print_Text.f k a0 a1 a2 a3 a4 a5 a6 a7) (print_Text.f (k + 1) a0 a1 a2 a3 a4 a5 a6 a7) := by
  intro a0 a1 a2 a3 a4 a5 a6 a7 k
  unfold print_Text.f
  repeat' (with_reducible first | apply print_text.mono | apply tree_Sane.mono | exact LeO.refl _ | exact LeO.none _ | refine LeO.ite ?_ ?_ | refine LeO.bind ?_ fun _ => ?_)
def lustrumref08_Text.f (k : Nat) (a0_0 : Int) (a0_1 : ByteArray) (a0_2 : ByteArray) (a0_3 : ByteArray) : Option (ByteArray) := (lustrumref08_Sane.f k a0_0 a0_1 a0_2 a0_3).bind fun t300 => (if t300 = true then (if a0_0 = 0 then (if a0_1.size + 1 ≤ 9223372036854775807 then (if (a0_1 ++ (⟨#[45]⟩ : ByteArray)).size + a0_2.size ≤ 9223372036854775807 then (if ((a0_1 ++ (⟨#[45]⟩ : ByteArray)) ++ a0_2).size + 1 ≤ 9223372036854775807 then (if (((a0_1 ++ (⟨#[45]⟩ : ByteArray)) ++ a0_2) ++ (⟨#[45]⟩ : ByteArray)).size + a0_3.size ≤ 9223372036854775807 then (some ((((a0_1 ++ (⟨#[45]⟩ : ByteArray)) ++ a0_2) ++ (⟨#[45]⟩ : ByteArray)) ++ a0_3)) else (none)) else (none)) else (none)) else (none)) else (if a0_0 = 1 then (if a0_1.size + 1 ≤ 9223372036854775807 then (if (a0_1 ++ (⟨#[45]⟩ : ByteArray)).size + a0_2.size ≤ 9223372036854775807 then (some ((a0_1 ++ (⟨#[45]⟩ : ByteArray)) ++ a0_2)) else (none)) else (none)) else (if a0_0 = 2 then (if a0_1.size + 1 ≤ 9223372036854775807 then (if (a0_1 ++ (⟨#[115]⟩ : ByteArray)).size + a0_2.size ≤ 9223372036854775807 then (some ((a0_1 ++ (⟨#[115]⟩ : ByteArray)) ++ a0_2)) else (none)) else (none)) else (if a0_0 = 4 then (if a0_1.size + 1 ≤ 9223372036854775807 then (some (a0_1 ++ (⟨#[100]⟩ : ByteArray))) else (none)) else (if a0_0 = 5 then (if a0_1.size + 1 ≤ 9223372036854775807 then (some (a0_1 ++ (⟨#[99]⟩ : ByteArray))) else (none)) else (some a0_1)))))) else (some (⟨#[]⟩ : ByteArray)))
mutual
def lustrumref11_text.l0 : Nat → ByteArray → Int → Int → Int → ByteArray → ByteArray → ByteArray → Bool → Bool → List (S26) → Option (ByteArray)
  | 0, _, _, _, _, _, _, _, _, _, _ => none
  | k + 1, x3, x4, x302000, x302001, x302002, x302003, x302004, x302005, x302006, x302007 => if x4 < (x302007.length : Int) then (if x4 > 0 then (if x3.size + 2 ≤ 9223372036854775807 then (if 0 ≤ x4 then ((lustrumref11_text.f k ((rd_T26 x302007 x4).f0) ((rd_T26 x302007 x4).f1.f0) ((rd_T26 x302007 x4).f1.f1) ((rd_T26 x302007 x4).f1.f2) ((rd_T26 x302007 x4).f1.f3) ((rd_T26 x302007 x4).f2) ((rd_T26 x302007 x4).f3) ((rd_T26 x302007 x4).f4)).bind fun t307 => (if (x3 ++ (⟨#[44, 32]⟩ : ByteArray)).size + t307.size ≤ 9223372036854775807 then (lustrumref11_text.l0 k ((x3 ++ (⟨#[44, 32]⟩ : ByteArray)) ++ t307) (wrap64 (x4 + 1)) x302000 x302001 x302002 x302003 x302004 x302005 x302006 x302007) else (none))) else (none)) else (none)) else (if 0 ≤ x4 then ((lustrumref11_text.f k ((rd_T26 x302007 x4).f0) ((rd_T26 x302007 x4).f1.f0) ((rd_T26 x302007 x4).f1.f1) ((rd_T26 x302007 x4).f1.f2) ((rd_T26 x302007 x4).f1.f3) ((rd_T26 x302007 x4).f2) ((rd_T26 x302007 x4).f3) ((rd_T26 x302007 x4).f4)).bind fun t309 => (if x3.size + t309.size ≤ 9223372036854775807 then (lustrumref11_text.l0 k (x3 ++ t309) (wrap64 (x4 + 1)) x302000 x302001 x302002 x302003 x302004 x302005 x302006 x302007) else (none))) else (none))) else (if x3.size + 1 ≤ 9223372036854775807 then (some (x3 ++ (⟨#[93]⟩ : ByteArray))) else (none))
def lustrumref11_text.f : Nat → Int → Int → ByteArray → ByteArray → ByteArray → Bool → Bool → List (S26) → Option (ByteArray)
  | 0, _, _, _, _, _, _, _, _ => none
  | k + 1, a0_0, a0_1, a0_2, a0_3, a0_4, a0_5, a0_6, l0_7 => if a0_0 = 1 then (if 0 < (l0_7.length : Int) then ((lustrumref11_text.f k ((rd_T26 l0_7 0).f0) ((rd_T26 l0_7 0).f1.f0) ((rd_T26 l0_7 0).f1.f1) ((rd_T26 l0_7 0).f1.f2) ((rd_T26 l0_7 0).f1.f3) ((rd_T26 l0_7 0).f2) ((rd_T26 l0_7 0).f3) ((rd_T26 l0_7 0).f4)).bind fun t303 => (if t303.size + 1 ≤ 9223372036854775807 then (if 1 < (l0_7.length : Int) then ((lustrumref11_text.f k ((rd_T26 l0_7 1).f0) ((rd_T26 l0_7 1).f1.f0) ((rd_T26 l0_7 1).f1.f1) ((rd_T26 l0_7 1).f1.f2) ((rd_T26 l0_7 1).f1.f3) ((rd_T26 l0_7 1).f2) ((rd_T26 l0_7 1).f3) ((rd_T26 l0_7 1).f4)).bind fun t305 => (if (t303 ++ (⟨#[47]⟩ : ByteArray)).size + t305.size ≤ 9223372036854775807 then (some ((t303 ++ (⟨#[47]⟩ : ByteArray)) ++ t305)) else (none))) else (none)) else (none))) else (none)) else (if a0_0 = 2 then (lustrumref11_text.l0 k (⟨#[91]⟩ : ByteArray) 0 a0_0 a0_1 a0_2 a0_3 a0_4 a0_5 a0_6 l0_7) else (if a0_0 = 3 then (some (⟨#[46, 46]⟩ : ByteArray)) else (if a0_0 = 4 then (some (⟨#[42]⟩ : ByteArray)) else ((lustrumref08_Text.f k a0_1 a0_2 a0_3 a0_4).bind fun t310 => (if a0_5 = true then (if t310.size + 1 ≤ 9223372036854775807 then (if a0_6 = true then (if (t310 ++ (⟨#[63]⟩ : ByteArray)).size + 1 ≤ 9223372036854775807 then (some ((t310 ++ (⟨#[63]⟩ : ByteArray)) ++ (⟨#[126]⟩ : ByteArray))) else (none)) else (some (t310 ++ (⟨#[63]⟩ : ByteArray)))) else (none)) else (if a0_6 = true then (if t310.size + 1 ≤ 9223372036854775807 then (some (t310 ++ (⟨#[126]⟩ : ByteArray))) else (none)) else (some t310)))))))
end
def lustrumref11_Text.f (k : Nat) (a0_0 : Int) (a0_1 : Int) (a0_2 : ByteArray) (a0_3 : ByteArray) (a0_4 : ByteArray) (a0_5 : Bool) (a0_6 : Bool) (l0_7 : List (S26)) : Option (ByteArray) := (lustrumref10_Sane.f k a0_0 a0_1 a0_2 a0_3 a0_4 a0_5 a0_6 l0_7).bind fun t312 => (if t312 = true then ((lustrumref11_text.f k a0_0 a0_1 a0_2 a0_3 a0_4 a0_5 a0_6 l0_7).bind fun t313 => (some t313)) else (some (⟨#[]⟩ : ByteArray)))
def bA (l : List UInt8) : ByteArray := ⟨l.toArray⟩
theorem bA_data (l : List UInt8) : (bA l).data.toList = l := rfl
theorem bA_size (l : List UInt8) : (bA l).size = l.length := by rw [bsize, bA_data]
theorem ba_eq {a b : ByteArray} (h : a.data.toList = b.data.toList) : a = b := by
  cases a; cases b
  simp only at h
  rw [Array.toList_inj] at h
  rw [h]
theorem bA_mk (s : ByteArray) : bA s.data.toList = s := ba_eq rfl
theorem ba_app (a b : ByteArray) : (a ++ b).data.toList = a.data.toList ++ b.data.toList := by rw [ByteArray.data_append, Array.toList_append]
theorem bA_app (l u : List UInt8) : bA l ++ bA u = bA (l ++ u) := ba_eq (by rw [ba_app]; rfl)
theorem bA_toList (l : List UInt8) : (bA l).toList = l := by rw [ByteArray.toList_eq]; rfl
theorem ba_toList (s : ByteArray) : s.toList = s.data.toList := ByteArray.toList_eq s
theorem empty_size {s : ByteArray} (h : emptyV s = true) : s.size = 0 := by
  unfold emptyV at h
  rw [ba_toList] at h
  rw [bsize, beq_iff_eq.1 h]; rfl
def ptRaw (p : S23) : List UInt8 :=
  if p.f0 = 0 then p.f1.data.toList ++ 45 :: (p.f2.data.toList ++ 45 :: p.f3.data.toList)
  else if p.f0 = 1 then p.f1.data.toList ++ 45 :: p.f2.data.toList
  else if p.f0 = 2 then p.f1.data.toList ++ 115 :: p.f2.data.toList
  else if p.f0 = 4 then p.f1.data.toList ++ [100]
  else if p.f0 = 5 then p.f1.data.toList ++ [99]
  else p.f1.data.toList
def ptTxt (p : S23) : List UInt8 := if ptV p = true then ptRaw p else []
theorem pt_sizes {p : S23} (h : ptV p = true) : p.f1.size ≤ 4 ∧ p.f2.size ≤ 2 ∧ p.f3.size ≤ 2 := by
  unfold ptV at h
  rw [Bool.and_eq_true] at h
  obtain ⟨h1, h2⟩ := h
  have hy : p.f1.size ≤ 4 := by rw [bsize]; exact (sane_all h1).2.2
  refine ⟨hy, ?_⟩
  by_cases c0 : p.f0 = 0
  · rw [if_pos c0] at h2
    simp only [someV, Bool.and_eq_true, decide_eq_true_eq] at h2
    omega
  rw [if_neg c0] at h2
  by_cases c1 : p.f0 = 1
  · rw [if_pos c1] at h2
    simp only [someV, Bool.and_eq_true, decide_eq_true_eq] at h2
    have := empty_size h2.2.2
    omega
  rw [if_neg c1] at h2
  by_cases c2 : p.f0 = 2
  · rw [if_pos c2] at h2
    simp only [someV, Bool.and_eq_true, decide_eq_true_eq] at h2
    have := empty_size h2.2.2
    omega
  rw [if_neg c2] at h2
  have fin : ∀ n : Int, (decide ((p.f1.size : Int) = n) && (emptyV p.f2 && emptyV p.f3)) = true → p.f2.size ≤ 2 ∧ p.f3.size ≤ 2 := fun n h => by
    simp only [Bool.and_eq_true] at h
    have a := empty_size h.2.1
    have b := empty_size h.2.2
    omega
  by_cases c3 : p.f0 = 3
  · rw [if_pos c3] at h2; exact fin _ h2
  rw [if_neg c3] at h2
  by_cases c4 : p.f0 = 4
  · rw [if_pos c4] at h2; exact fin _ h2
  rw [if_neg c4] at h2
  by_cases c5 : p.f0 = 5
  · rw [if_pos c5] at h2; exact fin _ h2
  rw [if_neg c5] at h2
  cases h2
theorem ptTxt_len (p : S23) : (ptTxt p).length ≤ 10 := by
  unfold ptTxt
  split
  · rename_i h
    obtain ⟨h1, h2, h3⟩ := pt_sizes h
    rw [bsize] at h1 h2 h3
    unfold ptRaw
    repeat' split
    all_goals (first | (simp only [List.length_append, List.length_cons, List.length_nil]; omega) | omega)
  · simp
theorem ptText_f (p : S23) : Ev (fun k => point_Text.f k p.f0 p.f1 p.f2 p.f3) (bA (ptTxt p)) := by
  refine Ev.bind (ptSane_f p) ?_
  unfold ptTxt
  cases hv : ptV p with
  | false => exact Ev.iff_ (by simp) (Ev.eq (Ev.now _) rfl)
  | true =>
    obtain ⟨h1, h2, h3⟩ := pt_sizes hv
    have e1 : (⟨#[45]⟩ : ByteArray).size = 1 := rfl
    have e2 : (⟨#[115]⟩ : ByteArray).size = 1 := rfl
    have e3 : (⟨#[]⟩ : ByteArray).size = 0 := rfl
    refine Ev.ift rfl ?_
    rw [if_pos rfl]
    unfold ptRaw
    by_cases c0 : p.f0 = 0
    · refine Ev.ift c0 ?_
      rw [if_pos c0]
      refine Ev.ift (by omega) (Ev.ift (by omega) (Ev.ift (by simp only [ByteArray.size_append]; omega) (Ev.ift (by simp only [ByteArray.size_append]; omega) (Ev.eq (Ev.now _) (ba_eq ?_)))))
      simp only [ba_app, bA_data]; rfl
    refine Ev.iff_ c0 ?_
    rw [if_neg c0]
    by_cases c1 : p.f0 = 1
    · refine Ev.ift c1 ?_
      rw [if_pos c1]
      refine Ev.ift (by omega) (Ev.ift (by simp only [ByteArray.size_append]; omega) (Ev.ift (by simp only [ByteArray.size_append]; omega) (Ev.eq (Ev.now _) (ba_eq ?_))))
      simp only [ba_app, bA_data, List.append_nil]; rfl
    refine Ev.iff_ c1 ?_
    rw [if_neg c1]
    by_cases c2 : p.f0 = 2
    · refine Ev.ift c2 ?_
      rw [if_pos c2]
      refine Ev.ift (by omega) (Ev.ift (by simp only [ByteArray.size_append]; omega) (Ev.eq (Ev.now _) (ba_eq ?_)))
      simp only [ba_app, bA_data]; rfl
    refine Ev.iff_ c2 ?_
    rw [if_neg c2]
    by_cases c4 : p.f0 = 4
    · refine Ev.ift c4 ?_
      rw [if_pos c4]
      exact Ev.ift (by omega) (Ev.eq (Ev.now _) (ba_eq (by simp only [ba_app, bA_data])))
    refine Ev.iff_ c4 ?_
    rw [if_neg c4]
    by_cases c5 : p.f0 = 5
    · refine Ev.ift c5 ?_
      rw [if_pos c5]
      exact Ev.ift (by omega) (Ev.eq (Ev.now _) (ba_eq (by simp only [ba_app, bA_data])))
    refine Ev.iff_ c5 ?_
    rw [if_neg c5]
    exact Ev.ift (by omega) (Ev.eq (Ev.now _) (ba_eq (by simp only [ba_app, bA_data, List.append_nil])))
theorem rptText_f (p : S23) (g1 : p.f1.size ≤ 9223372036854775807) (g2 : p.f2.size ≤ 9223372036854775807) (g3 : p.f3.size ≤ 9223372036854775807) : Ev (fun k => lustrumref08_Text.f k p.f0 p.f1 p.f2 p.f3) (bA (ptTxt p)) := by
  refine Ev.bind (rptSane_f p g1 g2 g3) ?_
  unfold ptTxt
  cases hv : ptV p with
  | false => exact Ev.iff_ (by simp) (Ev.eq (Ev.now _) rfl)
  | true =>
    obtain ⟨h1, h2, h3⟩ := pt_sizes hv
    have e1 : (⟨#[45]⟩ : ByteArray).size = 1 := rfl
    have e2 : (⟨#[115]⟩ : ByteArray).size = 1 := rfl
    refine Ev.ift rfl ?_
    rw [if_pos rfl]
    unfold ptRaw
    by_cases c0 : p.f0 = 0
    · refine Ev.ift c0 ?_
      rw [if_pos c0]
      refine Ev.ift (by omega) (Ev.ift (by simp only [ByteArray.size_append]; omega) (Ev.ift (by simp only [ByteArray.size_append]; omega) (Ev.ift (by simp only [ByteArray.size_append]; omega) (Ev.eq (Ev.now _) (ba_eq ?_)))))
      simp only [ba_app, bA_data, List.append_assoc]; rfl
    refine Ev.iff_ c0 ?_
    rw [if_neg c0]
    by_cases c1 : p.f0 = 1
    · refine Ev.ift c1 ?_
      rw [if_pos c1]
      refine Ev.ift (by omega) (Ev.ift (by simp only [ByteArray.size_append]; omega) (Ev.eq (Ev.now _) (ba_eq ?_)))
      simp only [ba_app, bA_data, List.append_assoc]; rfl
    refine Ev.iff_ c1 ?_
    rw [if_neg c1]
    by_cases c2 : p.f0 = 2
    · refine Ev.ift c2 ?_
      rw [if_pos c2]
      refine Ev.ift (by omega) (Ev.ift (by simp only [ByteArray.size_append]; omega) (Ev.eq (Ev.now _) (ba_eq ?_)))
      simp only [ba_app, bA_data, List.append_assoc]; rfl
    refine Ev.iff_ c2 ?_
    rw [if_neg c2]
    by_cases c4 : p.f0 = 4
    · refine Ev.ift c4 ?_
      rw [if_pos c4]
      exact Ev.ift (by omega) (Ev.eq (Ev.now _) (ba_eq (by simp only [ba_app, bA_data])))
    refine Ev.iff_ c4 ?_
    rw [if_neg c4]
    by_cases c5 : p.f0 = 5
    · refine Ev.ift c5 ?_
      rw [if_pos c5]
      exact Ev.ift (by omega) (Ev.eq (Ev.now _) (ba_eq (by simp only [ba_app, bA_data])))
    refine Ev.iff_ c5 ?_
    rw [if_neg c5]
    exact Ev.eq (Ev.now _) (bA_mk _).symm
def span2 : List (List UInt8) → List UInt8
  | x :: y :: _ => x ++ 47 :: y
  | _ => []
def markV (a : Bool) (c : UInt8) : List UInt8 := if a = true then [c] else []
mutual
def tx : S26 → List UInt8
  | ⟨k, p, a, t, l⟩ => if k = 1 then span2 (txL l) else if k = 2 then 91 :: (Lib.join (txL l) [44, 32] ++ [93]) else if k = 3 then [46, 46] else if k = 4 then [42] else ptTxt p ++ (markV a 63 ++ markV t 126)
def txL : List S26 → List (List UInt8)
  | [] => []
  | x :: l => tx x :: txL l
end
theorem tx_eq (n : S26) : tx n = if n.f0 = 1 then span2 (txL n.f4) else if n.f0 = 2 then 91 :: (Lib.join (txL n.f4) [44, 32] ++ [93]) else if n.f0 = 3 then [46, 46] else if n.f0 = 4 then [42] else ptTxt n.f1 ++ (markV n.f2 63 ++ markV n.f3 126) := by cases n; rw [tx]
theorem txL_app : ∀ (l u : List S26), txL (l ++ u) = txL l ++ txL u
  | [], u => by rw [List.nil_append, txL, List.nil_append]
  | x :: l, u => by rw [List.cons_append, txL, txL, txL_app l u, List.cons_append]
theorem txL_len : ∀ l : List S26, (txL l).length = l.length
  | [] => by rw [txL]; rfl
  | x :: l => by rw [txL, List.length_cons, List.length_cons, txL_len l]
theorem markV_len (a : Bool) (c : UInt8) : (markV a c).length ≤ 1 := by unfold markV; split <;> simp
theorem join_len : ∀ xs : List (List UInt8), (Lib.join xs [44, 32]).length ≤ Lib.lens xs + 2 * xs.length
  | [] => by rw [Lib.join_nil]; simp
  | x :: r => by
    rw [Lib.join_cons, List.length_append, Lib.joinTail_length]
    simp only [Lib.lens, List.map_cons, List.sum_cons, List.length_cons, List.length_nil]
    omega
theorem lens_cons (x : List UInt8) (l : List (List UInt8)) : Lib.lens (x :: l) = x.length + Lib.lens l := by simp [Lib.lens]
theorem tx_len : ∀ (m : Nat) (n : S26), nd n ≤ m → (tx n).length + 2 ≤ 31 * nd n
  | 0, n, h => by have := nd_pos n; omega
  | m + 1, n, h => by
    have hl : ∀ l : List S26, ndL l ≤ m → Lib.lens (txL l) + 2 * l.length ≤ 31 * ndL l := fun l => by
      induction l with
      | nil => intro _; rw [txL]; simp [Lib.lens, ndL]
      | cons x t ih =>
        intro hh
        rw [ndL] at hh ⊢
        rw [txL, lens_cons, List.length_cons]
        have h1 := tx_len m x (by omega)
        have h2 := ih (by omega)
        omega
    have hn := nd_eq n
    have hL := hl n.f4 (by omega)
    have hS : (span2 (txL n.f4)).length ≤ Lib.lens (txL n.f4) + 1 := by
      cases txL n.f4 with
      | nil => simp [span2]
      | cons x t =>
        cases t with
        | nil => simp [span2]
        | cons y t => rw [lens_cons, lens_cons]; simp only [span2, List.length_append, List.length_cons]; omega
    have hJ := join_len (txL n.f4)
    rw [txL_len] at hJ
    have hp := ptTxt_len n.f1
    have ha := markV_len n.f2 63
    have ht := markV_len n.f3 126
    rw [tx_eq]
    repeat' split
    all_goals (first | (simp only [List.length_append, List.length_cons, List.length_nil]; omega) | omega)
theorem join_le (l : List S26) : (Lib.join (txL l) [44, 32]).length ≤ 31 * ndL l := by
  have h1 := join_len (txL l)
  rw [txL_len] at h1
  have hl : ∀ l : List S26, Lib.lens (txL l) + 2 * l.length ≤ 31 * ndL l := fun l => by
    induction l with
    | nil => rw [txL]; simp [Lib.lens, ndL]
    | cons x t ih =>
      rw [ndL, txL, lens_cons, List.length_cons]
      have h1 := tx_len _ x (Nat.le_refl _)
      omega
  have := hl l
  omega
theorem join_snoc (xs : List (List UInt8)) (y : List UInt8) (h : xs ≠ []) : Lib.join (xs ++ [y]) [44, 32] = Lib.join xs [44, 32] ++ [44, 32] ++ y := by
  cases xs with
  | nil => exact absurd rfl h
  | cons x r =>
    rw [List.cons_append, Lib.join_cons, Lib.join_cons]
    simp [Lib.joinTail]
theorem Join_f (l : List ByteArray) (sep : ByteArray) (h1 : l.length ≤ 140737488355328) (h2 : (Lib.join (l.map (·.data.toList)) sep.data.toList).length ≤ 140737488355328) : strings_Join.f l sep = some (bA (Lib.join (l.map (·.data.toList)) sep.data.toList)) := by
  unfold strings_Join.f
  rw [if_pos h1, if_pos h2]; rfl
theorem join3_f (a b c : List UInt8) (h : a.length + b.length + c.length ≤ 140737488355328) : print_join.f [bA a, bA b, bA c] = some (bA (a ++ (b ++ c))) := by
  have e : Lib.join (([bA a, bA b, bA c] : List ByteArray).map (·.data.toList)) ((⟨#[]⟩ : ByteArray).data.toList) = a ++ (b ++ c) := by
    simp only [List.map_cons, List.map_nil, bA_data]
    rw [Lib.join_cons]
    simp [Lib.joinTail]
  unfold print_join.f
  rw [Join_f _ _ (by simp) (by rw [e]; simp only [List.length_append]; omega), e]; rfl
theorem mark_f (a : Bool) (c : ByteArray) (u : UInt8) (hc : c = bA [u]) : print_mark.f a c = some (bA (markV a u)) := by
  subst hc
  unfold print_mark.f markV
  cases a <;> rfl
abbrev pText (k : Nat) (n : S26) : Option ByteArray := print_text.f k n.f0 n.f1.f0 n.f1.f1 n.f1.f2 n.f1.f3 n.f2 n.f3 n.f4
abbrev qText (k : Nat) (n : S26) : Option ByteArray := lustrumref11_text.f k n.f0 n.f1.f0 n.f1.f1 n.f1.f2 n.f1.f3 n.f2 n.f3 n.f4
abbrev pTx (k : Nat) (n : S26) : Option ByteArray := print_Text.f k n.f0 n.f1.f0 n.f1.f1 n.f1.f2 n.f1.f3 n.f2 n.f3 n.f4
abbrev qTx (k : Nat) (n : S26) : Option ByteArray := lustrumref11_Text.f k n.f0 n.f1.f0 n.f1.f1 n.f1.f2 n.f1.f3 n.f2 n.f3 n.f4
theorem two_inv {l : List S26} (h : two l = true) : ∃ x y, l = [x, y] ∧ endV x = true ∧ endV y = true := by
  match l, h with
  | [x, y], h => rw [two, Bool.and_eq_true] at h; exact ⟨x, y, rfl, h.1, h.2⟩
def rte (n : S26) : Prop := rt n = true ∨ endV n = true
theorem rte_one {n : S26} (h : rte n) (c : n.f0 = 1) : ∃ x y, n.f4 = [x, y] ∧ endV x = true ∧ endV y = true := by
  rcases h with h | h
  · rw [rt_eq, if_neg (by omega), if_pos c, Bool.and_eq_true] at h
    exact two_inv h.2
  · unfold endV at h
    rw [if_neg (by omega), if_neg (by omega)] at h
    simp at h
theorem rte_two {n : S26} (h : rte n) (c : n.f0 = 2) : rtL n.f4 = true := by
  rcases h with h | h
  · rw [rt_eq, if_neg (by omega), if_neg (by omega), if_pos c] at h
    simp only [Bool.and_eq_true] at h
    exact h.2.2
  · unfold endV at h
    rw [if_neg (by omega), if_neg (by omega)] at h
    simp at h
theorem pText_f : ∀ (m : Nat) (n : S26), nd n ≤ m → nd n ≤ 1048576 → rte n → Ev (fun k => pText k n) (bA (tx n))
  | 0, n, h, _, _ => by have := nd_pos n; omega
  | m + 1, n, h, hb, hr => by
    have hn := nd_eq n
    have hl := len_nd n.f4
    rw [tx_eq]
    by_cases c1 : n.f0 = 1
    · rw [if_pos c1]
      obtain ⟨x, y, e, hx, hy⟩ := rte_one hr c1
      have hxy : ndL n.f4 = nd x + nd y := by rw [e, ndL, ndL, ndL]; omega
      have ht : txL n.f4 = [tx x, tx y] := by rw [e, txL, txL, txL]
      have hX := pText_f m x (by omega) (by omega) (.inr hx)
      have hY := pText_f m y (by omega) (by omega) (.inr hy)
      have lx := tx_len _ x (Nat.le_refl _)
      have ly := tx_len _ y (Nat.le_refl _)
      have hj := join3_f (tx x) [47] (tx y) (by simp only [List.length_cons, List.length_nil]; omega)
      rw [ht]
      refine Ev.step (fun k => by show print_text.f (k + 1) _ _ _ _ _ _ _ _ = _; rw [print_text.f, if_pos c1, e]) ?_
      exact Ev.ift (by simp) (Ev.bind hX (Ev.ift (by simp) (Ev.bind hY (Ev.bnow hj (Ev.now _)))))
    rw [if_neg c1]
    by_cases c2 : n.f0 = 2
    · rw [if_pos c2]
      have hL := rte_two hr c2
      have loop : ∀ (t p : List S26), p ++ t = n.f4 → rtL t = true → Ev (fun k => print_text.l0 k ((txL p).map bA) (p ++ t) ((p ++ t).length : Int) (p.length : Int)) (bA (91 :: (Lib.join (txL n.f4) [44, 32] ++ [93]))) := fun t => by
        induction t with
        | nil =>
          intro p he _
          rw [List.append_nil] at he ⊢
          subst he
          have hj := join_le n.f4
          have em : ((txL n.f4).map bA).map (·.data.toList) = txL n.f4 := by rw [List.map_map]; conv => rhs; rw [← List.map_id (txL n.f4)]
                                                                             rfl
          have h1 := Join_f ((txL n.f4).map bA) ⟨#[44, 32]⟩ (by rw [List.length_map, txL_len]; omega) (by rw [em]; show (Lib.join (txL n.f4) [44, 32]).length ≤ _; omega)
          rw [em] at h1
          have h2 := join3_f [91] (Lib.join (txL n.f4) [44, 32]) [93] (by simp only [List.length_cons, List.length_nil]; omega)
          refine Ev.step (fun k => by rw [print_text.l0, if_neg (by omega)]) ?_
          exact Ev.bnow h1 (Ev.bnow h2 (Ev.now _))
        | cons x t ih =>
          intro p he hrt
          rw [rtL, Bool.and_eq_true] at hrt
          have hxl : nd x + ndL p ≤ ndL n.f4 := by rw [← he, ndL_app, ndL]; omega
          have hp : (p ++ x :: t).length ≤ 4611686018427387904 := by rw [he]; omega
          have hlp : p.length ≤ n.f4.length := by rw [← he]; simp
          refine Ev.step (f := fun k => (pText k x).bind fun t' => if ((txL p).map bA).length < 8796093022208 then print_text.l0 k ((txL p).map bA ++ [t']) (p ++ x :: t) ((p ++ x :: t).length : Int) ((p ++ [x]).length : Int) else none) (fun k => by rw [print_text.l0, if_pos (at_lt p x t), if_pos (at_0 p), if_pos (at_lt p x t), at_rd26, at_next hp]) ?_
          refine Ev.bind (pText_f m x (by omega) (by omega) (.inl hrt.1)) (Ev.ift (by rw [List.length_map, txL_len]; omega) ?_)
          have := ih (p ++ [x]) (by rw [← at_app]; exact he) hrt.2
          rw [← at_app, txL_app, List.map_append] at this
          have e1 : (txL [x]).map bA = [bA (tx x)] := by rw [txL, txL]; rfl
          rw [e1] at this
          exact this
      refine Ev.step (f := fun k => print_text.l0 k [] n.f4 (n.f4.length : Int) 0) (fun k => by show print_text.f (k + 1) _ _ _ _ _ _ _ _ = _; rw [print_text.f, if_neg c1, if_pos c2]) ?_
      have := loop n.f4 [] rfl hL
      rw [txL] at this
      exact this
    rw [if_neg c2]
    by_cases c3 : n.f0 = 3
    · rw [if_pos c3]
      exact Ev.step (f := fun _ => some (bA [46, 46])) (fun k => by show print_text.f (k + 1) _ _ _ _ _ _ _ _ = _; rw [print_text.f, if_neg c1, if_neg c2, if_pos c3]; rfl) (Ev.now _)
    rw [if_neg c3]
    by_cases c4 : n.f0 = 4
    · rw [if_pos c4]
      exact Ev.step (f := fun _ => some (bA [42])) (fun k => by show print_text.f (k + 1) _ _ _ _ _ _ _ _ = _; rw [print_text.f, if_neg c1, if_neg c2, if_neg c3, if_pos c4]; rfl) (Ev.now _)
    rw [if_neg c4]
    have hp := ptTxt_len n.f1
    have ha := markV_len n.f2 63
    have ht := markV_len n.f3 126
    refine Ev.step (fun k => by show print_text.f (k + 1) _ _ _ _ _ _ _ _ = _; rw [print_text.f, if_neg c1, if_neg c2, if_neg c3, if_neg c4]) ?_
    exact Ev.bind (ptText_f n.f1) (Ev.bnow (mark_f _ _ 63 rfl) (Ev.bnow (mark_f _ _ 126 rfl) (Ev.bnow (join3_f _ _ _ (by omega)) (Ev.now _))))
theorem marks_f (a t : Bool) (L : List UInt8) (hl : L.length ≤ 100) :
    (if a = true then (if (bA L).size + 1 ≤ 9223372036854775807 then (if t = true then (if ((bA L) ++ (⟨#[63]⟩ : ByteArray)).size + 1 ≤ 9223372036854775807 then (some (((bA L) ++ (⟨#[63]⟩ : ByteArray)) ++ (⟨#[126]⟩ : ByteArray))) else (none)) else (some ((bA L) ++ (⟨#[63]⟩ : ByteArray)))) else (none)) else (if t = true then (if (bA L).size + 1 ≤ 9223372036854775807 then (some ((bA L) ++ (⟨#[126]⟩ : ByteArray))) else (none)) else (some (bA L)))) = some (bA (L ++ (markV a 63 ++ markV t 126))) := by
  have e1 : (⟨#[63]⟩ : ByteArray) = bA [63] := rfl
  have e2 : (⟨#[126]⟩ : ByteArray) = bA [126] := rfl
  rw [e1, e2]
  simp only [bA_app, bA_size, List.length_append, List.length_cons, List.length_nil]
  cases a <;> cases t
  · simp [markV]
  · rw [if_neg (by simp), if_pos rfl, if_pos (by omega)]; simp [markV]
  · rw [if_pos rfl, if_pos (by omega), if_neg (by simp)]; simp [markV]
  · rw [if_pos rfl, if_pos (by omega), if_pos rfl, if_pos (by omega)]; simp [markV]
theorem qText_f : ∀ (m : Nat) (n : S26), nd n ≤ m → nd n ≤ 1048576 → rte n → wfN n → Ev (fun k => qText k n) (bA (tx n))
  | 0, n, h, _, _, _ => by have := nd_pos n; omega
  | m + 1, n, h, hb, hr, hw => by
    have hn := nd_eq n
    have hl := len_nd n.f4
    rw [tx_eq]
    by_cases c1 : n.f0 = 1
    · rw [if_pos c1]
      obtain ⟨x, y, e, hx, hy⟩ := rte_one hr c1
      have hxy : ndL n.f4 = nd x + nd y := by rw [e, ndL, ndL, ndL]; omega
      have ht : txL n.f4 = [tx x, tx y] := by rw [e, txL, txL, txL]
      have hX := qText_f m x (by omega) (by omega) (.inr hx) (hw.all x (by rw [e]; simp))
      have hY := qText_f m y (by omega) (by omega) (.inr hy) (hw.all y (by rw [e]; simp))
      have lx := tx_len _ x (Nat.le_refl _)
      have ly := tx_len _ y (Nat.le_refl _)
      rw [ht]
      refine Ev.step (fun k => by show lustrumref11_text.f (k + 1) _ _ _ _ _ _ _ _ = _; rw [lustrumref11_text.f, if_pos c1, e]) ?_
      refine Ev.ift (by simp) (Ev.bind hX (Ev.ift (by rw [bA_size]; omega) (Ev.ift (by simp) (Ev.bind hY ?_))))
      have e1 : (⟨#[47]⟩ : ByteArray) = bA [47] := rfl
      refine Ev.ift (by rw [e1, bA_app, bA_size, bA_size]; simp only [List.length_append, List.length_cons, List.length_nil]; omega) (Ev.eq (Ev.now _) ?_)
      rw [e1, bA_app, bA_app]
      simp [span2]
    rw [if_neg c1]
    by_cases c2 : n.f0 = 2
    · rw [if_pos c2]
      have hL := rte_two hr c2
      have e1 : (⟨#[44, 32]⟩ : ByteArray) = bA [44, 32] := rfl
      have e2 : (⟨#[93]⟩ : ByteArray) = bA [93] := rfl
      have loop : ∀ (t p : List S26), p ++ t = n.f4 → rtL t = true → Ev (fun k => lustrumref11_text.l0 k (bA (91 :: Lib.join (txL p) [44, 32])) (p.length : Int) n.f0 n.f1.f0 n.f1.f1 n.f1.f2 n.f1.f3 n.f2 n.f3 (p ++ t)) (bA (91 :: (Lib.join (txL n.f4) [44, 32] ++ [93]))) := fun t => by
        induction t with
        | nil =>
          intro p he _
          rw [List.append_nil] at he
          have hj := join_le n.f4
          refine Ev.step (f := fun _ => some (bA (91 :: (Lib.join (txL n.f4) [44, 32] ++ [93])))) (fun k => ?_) (Ev.now _)
          rw [lustrumref11_text.l0, if_neg (at_end p), he, e2, bA_app, bA_size, if_pos (by simp only [List.length_cons]; omega)]
          rfl
        | cons x t ih =>
          intro p he hrt
          rw [rtL, Bool.and_eq_true] at hrt
          have hpl : ndL p + nd x ≤ ndL n.f4 := by rw [← he, ndL_app, ndL]; omega
          have hp : (p ++ x :: t).length ≤ 4611686018427387904 := by rw [he]; omega
          have hjp := join_le p
          have lx := tx_len _ x (Nat.le_refl _)
          have hwx : wfN x := hw.all x (by rw [← he]; simp)
          have hX := qText_f m x (by omega) (by omega) (.inl hrt.1) hwx
          have next := ih (p ++ [x]) (by rw [← at_app]; exact he) hrt.2
          rw [← at_app, txL_app] at next
          by_cases c0 : p = []
          · subst c0
            refine Ev.step (f := fun k => (qText k x).bind fun t' => if (bA (91 :: Lib.join (txL []) [44, 32])).size + t'.size ≤ 9223372036854775807 then lustrumref11_text.l0 k (bA (91 :: Lib.join (txL []) [44, 32]) ++ t') (([] ++ [x] : List S26).length : Int) n.f0 n.f1.f0 n.f1.f1 n.f1.f2 n.f1.f3 n.f2 n.f3 ([] ++ x :: t) else none) (fun k => by rw [lustrumref11_text.l0, if_pos (at_lt [] x t), if_neg (by simp), if_pos (at_0 []), at_rd26, at_next hp]) ?_
            refine Ev.bind hX (Ev.ift (by rw [bA_size, bA_size, List.length_cons]; omega) ?_)
            rw [bA_app]
            have e3 : 91 :: Lib.join (txL []) [44, 32] ++ tx x = 91 :: Lib.join (txL [] ++ txL [x]) [44, 32] := by rw [txL, txL, txL, List.nil_append, Lib.join_one]; rfl
            rw [e3]
            exact next
          · have hpos : (p.length : Int) > 0 := by
              have := List.length_pos_iff.2 c0
              omega
            refine Ev.step (f := fun k => if (bA (91 :: Lib.join (txL p) [44, 32])).size + 2 ≤ 9223372036854775807 then (qText k x).bind fun t' => if (bA (91 :: Lib.join (txL p) [44, 32]) ++ (⟨#[44, 32]⟩ : ByteArray)).size + t'.size ≤ 9223372036854775807 then lustrumref11_text.l0 k ((bA (91 :: Lib.join (txL p) [44, 32]) ++ (⟨#[44, 32]⟩ : ByteArray)) ++ t') ((p ++ [x]).length : Int) n.f0 n.f1.f0 n.f1.f1 n.f1.f2 n.f1.f3 n.f2 n.f3 (p ++ x :: t) else none else none) (fun k => by rw [lustrumref11_text.l0, if_pos (at_lt p x t), if_pos hpos, if_pos (at_0 p), at_rd26, at_next hp]) ?_
            rw [e1, bA_app]
            refine Ev.ift (by rw [bA_size, List.length_cons]; omega) (Ev.bind hX (Ev.ift (by rw [bA_size, bA_size]; simp only [List.length_append, List.length_cons, List.length_nil]; omega) ?_))
            rw [bA_app]
            have e3 : 91 :: Lib.join (txL p) [44, 32] ++ [44, 32] ++ tx x = 91 :: Lib.join (txL p ++ txL [x]) [44, 32] := by
              have : txL [x] = [tx x] := by rw [txL, txL]
              rw [this, join_snoc _ _ (by intro hh; have := txL_len p; rw [hh] at this; exact c0 (List.length_eq_zero_iff.1 this.symm))]
              rfl
            rw [e3]
            exact next
      refine Ev.step (f := fun k => lustrumref11_text.l0 k (⟨#[91]⟩ : ByteArray) 0 n.f0 n.f1.f0 n.f1.f1 n.f1.f2 n.f1.f3 n.f2 n.f3 n.f4) (fun k => by show lustrumref11_text.f (k + 1) _ _ _ _ _ _ _ _ = _; rw [lustrumref11_text.f, if_neg c1, if_pos c2]) ?_
      have := loop n.f4 [] rfl hL
      rw [txL] at this
      exact this
    rw [if_neg c2]
    by_cases c3 : n.f0 = 3
    · rw [if_pos c3]
      exact Ev.step (f := fun _ => some (bA [46, 46])) (fun k => by show lustrumref11_text.f (k + 1) _ _ _ _ _ _ _ _ = _; rw [lustrumref11_text.f, if_neg c1, if_neg c2, if_pos c3]; rfl) (Ev.now _)
    rw [if_neg c3]
    by_cases c4 : n.f0 = 4
    · rw [if_pos c4]
      exact Ev.step (f := fun _ => some (bA [42])) (fun k => by show lustrumref11_text.f (k + 1) _ _ _ _ _ _ _ _ = _; rw [lustrumref11_text.f, if_neg c1, if_neg c2, if_neg c3, if_pos c4]; rfl) (Ev.now _)
    rw [if_neg c4]
    have hp := ptTxt_len n.f1
    have h1 := hw.s1
    have h2 := hw.s2
    have h3 := hw.s3
    refine Ev.step (fun k => by show lustrumref11_text.f (k + 1) _ _ _ _ _ _ _ _ = _; rw [lustrumref11_text.f, if_neg c1, if_neg c2, if_neg c3, if_neg c4]) ?_
    refine Ev.bind (rptText_f n.f1 (by omega) (by omega) (by omega)) ?_
    rw [marks_f _ _ _ (by omega)]
    exact Ev.now _
def txV (n : S26) : List UInt8 := if saneV n = true then tx n else []
theorem sane_rt {n : S26} (h : saneV n = true) : nd n ≤ 64 ∧ dp n ≤ 8 ∧ rt n = true := by
  unfold saneV at h
  simp only [Bool.and_eq_true, decide_eq_true_eq] at h
  exact h
theorem pTx_f (n : S26) (hw : wfN n) (hb : nd n ≤ 1048576) : Ev (fun k => pTx k n) (bA (txV n)) := by
  refine Ev.bind (tSane_f n hw (by omega)) ?_
  unfold txV
  cases hv : saneV n with
  | false => exact Ev.iff_ (by simp) (Ev.eq (Ev.now _) rfl)
  | true =>
    refine Ev.ift rfl ?_
    rw [if_pos rfl]
    exact Ev.bind (pText_f _ n (Nat.le_refl _) hb (.inl (sane_rt hv).2.2)) (Ev.now _)
theorem qTx_f (n : S26) (hw : wfN n) (hb : nd n ≤ 1048576) : Ev (fun k => qTx k n) (bA (txV n)) := by
  refine Ev.bind (rSane_f10 n hw (by omega)) ?_
  unfold txV
  cases hv : saneV n with
  | false => exact Ev.iff_ (by simp) (Ev.eq (Ev.now _) rfl)
  | true =>
    refine Ev.ift rfl ?_
    rw [if_pos rfl]
    exact Ev.bind (qText_f _ n (Nat.le_refl _) hb (.inl (sane_rt hv).2.2) hw) (Ev.now _)
theorem bare_e (k : Int) (l : List S26) : bareV ⟨k, eP, false, false, l⟩ = true := by
  show (true && (emptyV ⟨#[]⟩ && (emptyV ⟨#[]⟩ && emptyV ⟨#[]⟩)) && !false && !false) = true
  rw [emptyV_nil]; decide
def zN : S26 := ⟨0, eP, false, false, []⟩
theorem ptTxt_pos {p : S23} (h : ptV p = true) : 0 < (ptTxt p).length := by
  have hs : p.f1.data.toList ≠ [] := by
    unfold ptV at h
    rw [Bool.and_eq_true] at h
    exact (sane_all h.1).2.1
  have hl := List.length_pos_iff.2 hs
  unfold ptTxt
  rw [if_pos h]
  unfold ptRaw
  repeat' split
  all_goals (first | (simp only [List.length_append, List.length_cons, List.length_nil]; omega) | omega)
theorem tx_pos {n : S26} (h : rt n = true) : 0 < (tx n).length := by
  rw [rt_eq] at h
  rw [tx_eq]
  by_cases c0 : n.f0 = 0
  · rw [if_pos c0] at h
    unfold endV at h
    rw [if_pos c0, Bool.and_eq_true] at h
    have := ptTxt_pos h.2
    rw [if_neg (by omega), if_neg (by omega), if_neg (by omega), if_neg (by omega), List.length_append]
    omega
  rw [if_neg c0] at h
  by_cases c1 : n.f0 = 1
  · rw [if_pos c1, Bool.and_eq_true] at h
    obtain ⟨x, y, e, _, _⟩ := two_inv h.2
    rw [if_pos c1, e, txL, txL, txL]
    simp only [span2, List.length_append, List.length_cons]; omega
  rw [if_neg c1] at h
  by_cases c2 : n.f0 = 2
  · rw [if_neg c1, if_pos c2]; simp
  rw [if_neg c2] at h
  cases h
theorem dpL_mem {x : S26} : ∀ {l : List S26}, x ∈ l → dp x ≤ dpL l
  | [], h => by cases h
  | y :: l, h => by
    rw [dpL]
    rcases List.mem_cons.1 h with rfl | h
    · omega
    · have := dpL_mem h; omega
theorem ndL_mem {x : S26} : ∀ {l : List S26}, x ∈ l → nd x ≤ ndL l
  | [], h => by cases h
  | y :: l, h => by
    rw [ndL]
    rcases List.mem_cons.1 h with rfl | h
    · omega
    · have := ndL_mem h; omega
theorem rtL_mem {x : S26} : ∀ {l : List S26}, rtL l = true → x ∈ l → rt x = true
  | [], _, h => by cases h
  | y :: l, hl, h => by
    rw [rtL, Bool.and_eq_true] at hl
    rcases List.mem_cons.1 h with rfl | h
    · exact hl.1
    · exact rtL_mem hl.2 h
theorem sane_part {n x : S26} (h : saneV n = true) (c : n.f0 = 2) (hx : x ∈ n.f4) : saneV x = true := by
  obtain ⟨h1, h2, h3⟩ := sane_rt h
  have hn := nd_eq n
  have h4 := ndL_mem hx
  rw [dp_eq, if_pos c] at h2
  have h5 := dpL_mem hx
  have h6 := rtL_mem (rte_two (.inl h3) c) hx
  unfold saneV
  rw [h6, decide_eq_true (by omega), decide_eq_true (by omega)]; rfl
def isW (c : UInt8) : Bool := okB c || (c == 45 || (c == 115 || (c == 100 || c == 99)))
def noW : List UInt8 → Prop
  | [] => True
  | c :: _ => isW c = false
theorem word_apart : ∀ (l u r s : List UInt8), l.all isW = true → u.all isW = true → noW r → noW s → l ++ r = u ++ s → l = u ∧ r = s
  | [], [], r, s, _, _, _, _, h => ⟨rfl, h⟩
  | [], c :: u, r, s, _, hu, hr, _, h => by
    rw [List.nil_append, List.cons_append] at h
    subst h
    rw [List.all_cons, Bool.and_eq_true] at hu
    simp only [noW] at hr
    rw [hr] at hu
    cases hu.1
  | c :: l, [], r, s, hl, _, _, hs, h => by
    rw [List.nil_append, List.cons_append] at h
    subst h
    rw [List.all_cons, Bool.and_eq_true] at hl
    simp only [noW] at hs
    rw [hs] at hl
    cases hl.1
  | c :: l, d :: u, r, s, hl, hu, hr, hs, h => by
    rw [List.cons_append, List.cons_append] at h
    injection h with h1 h2
    rw [List.all_cons, Bool.and_eq_true] at hl hu
    obtain ⟨e1, e2⟩ := word_apart l u r s hl.2 hu.2 hr hs h2
    exact ⟨by rw [h1, e1], e2⟩
theorem ok_W {l : List UInt8} (h : l.all okB = true) : l.all isW = true := by
  rw [List.all_eq_true] at h ⊢
  intro x hx
  unfold isW
  rw [h x hx]; rfl
theorem any_sane {l : List UInt8} {m : Nat} {i : Int} (h : anyV l i m = true) : l.all okB = true := by
  obtain ⟨n, _, _, hn⟩ := (anyV_iff l m i).1 h
  cases hs : saneL l with
  | true => exact (sane_all hs).1
  | false => rw [refV_sane hs] at hn; cases hn
theorem pt_kinds {p : S23} (h : ptV p = true) : p.f1.data.toList.all okB = true ∧
    (p.f0 = 0 ∧ p.f1.data.toList.length = 4 ∧ p.f2.data.toList.length = 2 ∧ p.f2.data.toList.all okB = true ∧ p.f3.data.toList.length = 2 ∧ p.f3.data.toList.all okB = true
    ∨ p.f0 = 1 ∧ p.f1.data.toList.length = 4 ∧ p.f2.data.toList.length = 2 ∧ p.f2.data.toList.all okB = true ∧ p.f3.data.toList = []
    ∨ p.f0 = 2 ∧ p.f1.data.toList.length = 4 ∧ p.f2.data.toList.length = 1 ∧ p.f2.data.toList.all okB = true ∧ p.f3.data.toList = []
    ∨ p.f0 = 3 ∧ p.f1.data.toList.length = 4 ∧ p.f2.data.toList = [] ∧ p.f3.data.toList = []
    ∨ p.f0 = 4 ∧ p.f1.data.toList.length = 3 ∧ p.f2.data.toList = [] ∧ p.f3.data.toList = []
    ∨ p.f0 = 5 ∧ p.f1.data.toList.length = 2 ∧ p.f2.data.toList = [] ∧ p.f3.data.toList = []) := by
  have em : ∀ {s : ByteArray}, emptyV s = true → s.data.toList = [] := fun {s} h => by
    unfold emptyV at h
    rw [ba_toList] at h
    exact beq_iff_eq.1 h
  unfold ptV at h
  rw [Bool.and_eq_true] at h
  obtain ⟨h1, h2⟩ := h
  refine ⟨(sane_all h1).1, ?_⟩
  by_cases c0 : p.f0 = 0
  · rw [if_pos c0] at h2
    simp only [someV, Bool.and_eq_true, decide_eq_true_eq, bsize] at h2
    exact .inl ⟨c0, by omega, by omega, any_sane h2.2.1.2, by omega, any_sane h2.2.2.2⟩
  rw [if_neg c0] at h2
  by_cases c1 : p.f0 = 1
  · rw [if_pos c1] at h2
    simp only [someV, Bool.and_eq_true, decide_eq_true_eq, bsize] at h2
    exact .inr (.inl ⟨c1, by omega, by omega, any_sane h2.2.1.2, em h2.2.2⟩)
  rw [if_neg c1] at h2
  by_cases c2 : p.f0 = 2
  · rw [if_pos c2] at h2
    simp only [someV, Bool.and_eq_true, decide_eq_true_eq, bsize] at h2
    exact .inr (.inr (.inl ⟨c2, by omega, by omega, any_sane h2.2.1.2, em h2.2.2⟩))
  rw [if_neg c2] at h2
  by_cases c3 : p.f0 = 3
  · rw [if_pos c3] at h2
    simp only [Bool.and_eq_true, decide_eq_true_eq, bsize] at h2
    exact .inr (.inr (.inr (.inl ⟨c3, by omega, em h2.2.1, em h2.2.2⟩)))
  rw [if_neg c3] at h2
  by_cases c4 : p.f0 = 4
  · rw [if_pos c4] at h2
    simp only [Bool.and_eq_true, decide_eq_true_eq, bsize] at h2
    exact .inr (.inr (.inr (.inr (.inl ⟨c4, by omega, em h2.2.1, em h2.2.2⟩))))
  rw [if_neg c4] at h2
  by_cases c5 : p.f0 = 5
  · rw [if_pos c5] at h2
    simp only [Bool.and_eq_true, decide_eq_true_eq, bsize] at h2
    exact .inr (.inr (.inr (.inr (.inr ⟨c5, by omega, em h2.2.1, em h2.2.2⟩))))
  rw [if_neg c5] at h2
  cases h2
theorem S23.ext4 {a b : S23} (h0 : a.f0 = b.f0) (h1 : a.f1.data.toList = b.f1.data.toList) (h2 : a.f2.data.toList = b.f2.data.toList) (h3 : a.f3.data.toList = b.f3.data.toList) : a = b := by
  cases a; cases b
  simp only at h0 h1 h2 h3
  rw [h0, ba_eq h1, ba_eq h2, ba_eq h3]
theorem app_len {l u r s : List UInt8} (h : l ++ r = u ++ s) (hl : l.length = u.length) : l = u ∧ r = s := List.append_inj h hl
theorem raw_W {p : S23} (h : ptV p = true) : (ptRaw p).all isW = true := by
  obtain ⟨h1, hk⟩ := pt_kinds h
  have w1 := ok_W h1
  unfold ptRaw
  rcases hk with ⟨c, _, _, a, _, b⟩ | ⟨c, _, _, a, _⟩ | ⟨c, _, _, a, _⟩ | ⟨c, _⟩ | ⟨c, _⟩ | ⟨c, _⟩ <;> rw [c]
  · have wa := ok_W a
    have wb := ok_W b
    simp only [if_true, List.all_append, List.all_cons, w1, wa, wb]; decide
  · have wa := ok_W a
    simp [List.all_append, List.all_cons, w1, wa]; decide
  · have wa := ok_W a
    simp [List.all_append, List.all_cons, w1, wa]; decide
  · simpa using w1
  · simp [List.all_append, List.all_cons, w1]; decide
  · simp [List.all_append, List.all_cons, w1]; decide
theorem raw_kinds {p : S23} (h : ptV p = true) :
    p.f0 = 0 ∧ ptRaw p = p.f1.data.toList ++ 45 :: (p.f2.data.toList ++ 45 :: p.f3.data.toList) ∧ (ptRaw p).length = 10
    ∨ p.f0 = 1 ∧ ptRaw p = p.f1.data.toList ++ 45 :: p.f2.data.toList ∧ (ptRaw p).length = 7
    ∨ p.f0 = 2 ∧ ptRaw p = p.f1.data.toList ++ 115 :: p.f2.data.toList ∧ (ptRaw p).length = 6
    ∨ p.f0 = 3 ∧ ptRaw p = p.f1.data.toList ∧ (ptRaw p).length = 4
    ∨ p.f0 = 4 ∧ ptRaw p = p.f1.data.toList ++ [100] ∧ (ptRaw p).length = 4
    ∨ p.f0 = 5 ∧ ptRaw p = p.f1.data.toList ++ [99] ∧ (ptRaw p).length = 3 := by
  obtain ⟨_, hk⟩ := pt_kinds h
  rcases hk with ⟨c, a1, a2, a3, a4, a5⟩ | ⟨c, a1, a2, a3, a4⟩ | ⟨c, a1, a2, a3, a4⟩ | ⟨c, a1, a2, a3⟩ | ⟨c, a1, a2, a3⟩ | ⟨c, a1, a2, a3⟩
  · have e : ptRaw p = p.f1.data.toList ++ 45 :: (p.f2.data.toList ++ 45 :: p.f3.data.toList) := by unfold ptRaw; rw [c]; rfl
    exact .inl ⟨c, e, by rw [e]; simp only [List.length_append, List.length_cons]; omega⟩
  · have e : ptRaw p = p.f1.data.toList ++ 45 :: p.f2.data.toList := by unfold ptRaw; rw [c]; rfl
    exact .inr (.inl ⟨c, e, by rw [e]; simp only [List.length_append, List.length_cons]; omega⟩)
  · have e : ptRaw p = p.f1.data.toList ++ 115 :: p.f2.data.toList := by unfold ptRaw; rw [c]; rfl
    exact .inr (.inr (.inl ⟨c, e, by rw [e]; simp only [List.length_append, List.length_cons]; omega⟩))
  · have e : ptRaw p = p.f1.data.toList := by unfold ptRaw; rw [c]; rfl
    exact .inr (.inr (.inr (.inl ⟨c, e, by rw [e]; omega⟩)))
  · have e : ptRaw p = p.f1.data.toList ++ [100] := by unfold ptRaw; rw [c]; rfl
    exact .inr (.inr (.inr (.inr (.inl ⟨c, e, by rw [e]; simp only [List.length_append, List.length_cons, List.length_nil]; omega⟩))))
  · have e : ptRaw p = p.f1.data.toList ++ [99] := by unfold ptRaw; rw [c]; rfl
    exact .inr (.inr (.inr (.inr (.inr ⟨c, e, by rw [e]; simp only [List.length_append, List.length_cons, List.length_nil]; omega⟩))))
theorem no_d {l u : List UInt8} (hl : l.all okB = true) (h : l = u ++ [100]) : False := by
  rw [h, List.all_append, Bool.and_eq_true] at hl
  have := hl.2
  revert this; decide
theorem k0 {p : S23} (h : ptV p = true) (c : p.f0 = 0) : p.f1.data.toList.length = 4 ∧ p.f2.data.toList.length = 2 := by
  obtain ⟨_, hk⟩ := pt_kinds h
  rcases hk with ⟨d, a, b, _⟩ | ⟨d, _⟩ | ⟨d, _⟩ | ⟨d, _⟩ | ⟨d, _⟩ | ⟨d, _⟩ <;> first | exact ⟨a, b⟩ | omega
theorem k12 {p : S23} (h : ptV p = true) (c : p.f0 = 1 ∨ p.f0 = 2) : p.f1.data.toList.length = 4 ∧ p.f3.data.toList = [] := by
  obtain ⟨_, hk⟩ := pt_kinds h
  rcases hk with ⟨d, _⟩ | ⟨d, a, _, _, b⟩ | ⟨d, a, _, _, b⟩ | ⟨d, _⟩ | ⟨d, _⟩ | ⟨d, _⟩ <;> first | exact ⟨a, b⟩ | omega
theorem k345 {p : S23} (h : ptV p = true) (c : p.f0 = 3 ∨ p.f0 = 4 ∨ p.f0 = 5) : p.f2.data.toList = [] ∧ p.f3.data.toList = [] := by
  obtain ⟨_, hk⟩ := pt_kinds h
  rcases hk with ⟨d, _⟩ | ⟨d, _⟩ | ⟨d, _⟩ | ⟨d, _, a⟩ | ⟨d, _, a⟩ | ⟨d, _, a⟩ <;> first | exact a | omega
theorem raw_inj {p q : S23} (hp : ptV p = true) (hq : ptV q = true) (h : ptRaw p = ptRaw q) : p = q := by
  have hl : (ptRaw p).length = (ptRaw q).length := by rw [h]
  have p1 := (pt_kinds hp).1
  have q1 := (pt_kinds hq).1
  rcases raw_kinds hp with ⟨c, e, n⟩ | ⟨c, e, n⟩ | ⟨c, e, n⟩ | ⟨c, e, n⟩ | ⟨c, e, n⟩ | ⟨c, e, n⟩ <;>
  rcases raw_kinds hq with ⟨d, f, m⟩ | ⟨d, f, m⟩ | ⟨d, f, m⟩ | ⟨d, f, m⟩ | ⟨d, f, m⟩ | ⟨d, f, m⟩ <;>
  first | (exfalso; omega) | skip
  all_goals rw [e, f] at h
  · obtain ⟨a1, a2⟩ := k0 hp c
    obtain ⟨b1, b2⟩ := k0 hq d
    obtain ⟨g1, g2⟩ := app_len h (by omega)
    injection g2 with _ g2
    obtain ⟨g3, g4⟩ := app_len g2 (by omega)
    injection g4 with _ g4
    exact S23.ext4 (by omega) g1 g3 g4
  · obtain ⟨a1, a2⟩ := k12 hp (.inl c)
    obtain ⟨b1, b2⟩ := k12 hq (.inl d)
    obtain ⟨g1, g2⟩ := app_len h (by omega)
    injection g2 with _ g2
    exact S23.ext4 (by omega) g1 g2 (by rw [a2, b2])
  · obtain ⟨a1, a2⟩ := k12 hp (.inr c)
    obtain ⟨b1, b2⟩ := k12 hq (.inr d)
    obtain ⟨g1, g2⟩ := app_len h (by omega)
    injection g2 with _ g2
    exact S23.ext4 (by omega) g1 g2 (by rw [a2, b2])
  · obtain ⟨a1, a2⟩ := k345 hp (.inl c)
    obtain ⟨b1, b2⟩ := k345 hq (.inl d)
    exact S23.ext4 (by omega) h (by rw [a1, b1]) (by rw [a2, b2])
  · exact absurd (no_d p1 h) (by simp)
  · exact absurd (no_d q1 h.symm) (by simp)
  · obtain ⟨a1, a2⟩ := k345 hp (.inr (.inl c))
    obtain ⟨b1, b2⟩ := k345 hq (.inr (.inl d))
    exact S23.ext4 (by omega) (List.append_cancel_right h) (by rw [a1, b1]) (by rw [a2, b2])
  · obtain ⟨a1, a2⟩ := k345 hp (.inr (.inr c))
    obtain ⟨b1, b2⟩ := k345 hq (.inr (.inr d))
    exact S23.ext4 (by omega) (List.append_cancel_right h) (by rw [a1, b1]) (by rw [a2, b2])
theorem S26.ext5 {a b : S26} (h0 : a.f0 = b.f0) (h1 : a.f1 = b.f1) (h2 : a.f2 = b.f2) (h3 : a.f3 = b.f3) (h4 : a.f4 = b.f4) : a = b := by
  cases a; cases b
  simp only at h0 h1 h2 h3 h4
  rw [h0, h1, h2, h3, h4]
theorem bare_inj {a b : S26} (ha : bareV a = true) (hb : bareV b = true) (h0 : a.f0 = b.f0) (h4 : a.f4 = b.f4) : a = b := by
  unfold bareV at ha hb
  simp only [Bool.and_eq_true, decide_eq_true_eq, Bool.not_eq_true'] at ha hb
  have em : ∀ {s : ByteArray}, emptyV s = true → s.data.toList = [] := fun {s} h => by
    unfold emptyV at h
    rw [ba_toList] at h
    exact beq_iff_eq.1 h
  obtain ⟨⟨⟨a0, a1, a2, a3⟩, a4⟩, a5⟩ := ha
  obtain ⟨⟨⟨b0, b1, b2, b3⟩, b4⟩, b5⟩ := hb
  have e1 : a.f1 = b.f1 := S23.ext4 (by omega) (by rw [em a1, em b1]) (by rw [em a2, em b2]) (by rw [em a3, em b3])
  exact S26.ext5 h0 e1 (by rw [a4, b4]) (by rw [a5, b5]) h4
theorem end_kinds {n : S26} (h : endV n = true) : n.f4 = [] ∧ (n.f0 = 0 ∧ ptV n.f1 = true ∨ n.f0 = 3 ∧ bareV n = true ∨ n.f0 = 4 ∧ bareV n = true) := by
  unfold endV at h
  rw [Bool.and_eq_true, decide_eq_true_eq] at h
  refine ⟨h.1, ?_⟩
  have h2 := h.2
  by_cases c0 : n.f0 = 0
  · rw [if_pos c0] at h2; exact .inl ⟨c0, h2⟩
  rw [if_neg c0] at h2
  by_cases c3 : n.f0 = 3 ∨ n.f0 = 4
  · rw [if_pos c3] at h2
    rcases c3 with c | c
    · exact .inr (.inl ⟨c, h2⟩)
    · exact .inr (.inr ⟨c, h2⟩)
  · rw [if_neg c3] at h2; cases h2
def sep : List UInt8 → Prop
  | [] => True
  | c :: _ => c = 47 ∨ c = 44 ∨ c = 93
theorem tx_pt {n : S26} (c : n.f0 = 0) (h : ptV n.f1 = true) : tx n = ptRaw n.f1 ++ (markV n.f2 63 ++ markV n.f3 126) := by
  rw [tx_eq, if_neg (by omega), if_neg (by omega), if_neg (by omega), if_neg (by omega), ptTxt, if_pos h]
theorem sep47 (l : List UInt8) : sep (47 :: l) := .inl rfl
theorem marks_noW (a t : Bool) {r : List UInt8} (hr : sep r) : noW (markV a 63 ++ markV t 126 ++ r) := by
  cases a <;> cases t
  · cases r with
    | nil => trivial
    | cons c r => simp only [sep] at hr; show isW c = false; rcases hr with rfl | rfl | rfl <;> decide
  · show isW 126 = false; decide
  · show isW 63 = false; decide
  · show isW 63 = false; decide
theorem marks_inj {a t b u : Bool} {r s : List UInt8} (hr : sep r) (hs : sep s) (h : markV a 63 ++ markV t 126 ++ r = markV b 63 ++ markV u 126 ++ s) : a = b ∧ t = u ∧ r = s := by
  have no : ∀ {x y : List UInt8} {c : UInt8}, sep x → (c = 63 ∨ c = 126) → x = c :: y → False := fun {x y c} hx hc e => by
    subst e
    simp only [sep] at hx
    rcases hc with rfl | rfl <;> rcases hx with hx | hx | hx <;> exact absurd hx (by decide)
  cases a <;> cases t <;> cases b <;> cases u <;> simp [markV] at h ⊢ <;> first | exact h | exact no hr (.inl rfl) h | exact no hr (.inr rfl) h | exact no hs (.inl rfl) h.symm | exact no hs (.inr rfl) h.symm
theorem raw_head {p : S23} (h : ptV p = true) : ∃ c l, ptRaw p = c :: l ∧ isW c = true := by
  have hw := raw_W h
  have hp := ptTxt_pos h
  unfold ptTxt at hp
  rw [if_pos h] at hp
  cases e : ptRaw p with
  | nil => rw [e] at hp; simp at hp
  | cons c l => rw [e, List.all_cons, Bool.and_eq_true] at hw; exact ⟨c, l, rfl, hw.1⟩
theorem end_inj {a b : S26} {r s : List UInt8} (ha : endV a = true) (hb : endV b = true) (hr : sep r) (hs : sep s) (h : tx a ++ r = tx b ++ s) : a = b ∧ r = s := by
  obtain ⟨a4, ak⟩ := end_kinds ha
  obtain ⟨b4, bk⟩ := end_kinds hb
  have t3 : ∀ {n : S26}, n.f0 = 3 → tx n = [46, 46] := fun {n} c => by rw [tx_eq, if_neg (by omega), if_neg (by omega), if_pos c]
  have t4 : ∀ {n : S26}, n.f0 = 4 → tx n = [42] := fun {n} c => by rw [tx_eq, if_neg (by omega), if_neg (by omega), if_neg (by omega), if_pos c]
  have head : ∀ {n : S26} {r x : List UInt8} {c : UInt8}, n.f0 = 0 → ptV n.f1 = true → tx n ++ r = c :: x → isW c = true := fun {n r x c} c0 hp e => by
    obtain ⟨d, l, e1, hd⟩ := raw_head hp
    rw [tx_pt c0 hp, e1] at e
    injection e with e _
    rw [← e]; exact hd
  rcases ak with ⟨c, hp⟩ | ⟨c, hp⟩ | ⟨c, hp⟩ <;> rcases bk with ⟨d, hq⟩ | ⟨d, hq⟩ | ⟨d, hq⟩
  · rw [tx_pt c hp, tx_pt d hq, List.append_assoc (ptRaw a.f1), List.append_assoc (ptRaw b.f1)] at h
    obtain ⟨h1, h2⟩ := word_apart _ _ _ _ (raw_W hp) (raw_W hq) (marks_noW _ _ hr) (marks_noW _ _ hs) h
    obtain ⟨e2, e3, e4⟩ := marks_inj hr hs h2
    have e1 := raw_inj hp hq h1
    exact ⟨S26.ext5 (by omega) e1 e2 e3 (by rw [a4, b4]), e4⟩
  · rw [t3 d] at h; exact absurd (head c hp h) (by decide)
  · rw [t4 d] at h; exact absurd (head c hp h) (by decide)
  · rw [t3 c] at h; exact absurd (head d hq h.symm) (by decide)
  · rw [t3 c, t3 d] at h
    injection h with _ h; injection h with _ h
    exact ⟨bare_inj hp hq (by omega) (by rw [a4, b4]), h⟩
  · rw [t3 c, t4 d] at h
    injection h with h _; exact absurd h (by decide)
  · rw [t4 c] at h; exact absurd (head d hq h.symm) (by decide)
  · rw [t4 c, t3 d] at h
    injection h with h _; exact absurd h (by decide)
  · rw [t4 c, t4 d] at h
    injection h with _ h
    exact ⟨bare_inj hp hq (by omega) (by rw [a4, b4]), h⟩
def stop : List UInt8 → Prop
  | [] => True
  | c :: _ => c = 44 ∨ c = 93
theorem stop_sep {r : List UInt8} (h : stop r) : sep r := by
  cases r with
  | nil => trivial
  | cons c r => exact .inr h
theorem rt_kinds {n : S26} (h : rt n = true) : endV n = true ∧ n.f0 = 0 ∨ (n.f0 = 1 ∧ bareV n = true ∧ ∃ x y, n.f4 = [x, y] ∧ endV x = true ∧ endV y = true ∧ tx n = tx x ++ 47 :: tx y) ∨ (n.f0 = 2 ∧ bareV n = true ∧ n.f4 ≠ [] ∧ rtL n.f4 = true ∧ tx n = 91 :: (Lib.join (txL n.f4) [44, 32] ++ [93])) := by
  rw [rt_eq] at h
  by_cases c0 : n.f0 = 0
  · rw [if_pos c0] at h; exact .inl ⟨h, c0⟩
  rw [if_neg c0] at h
  by_cases c1 : n.f0 = 1
  · rw [if_pos c1, Bool.and_eq_true] at h
    obtain ⟨x, y, e, hx, hy⟩ := two_inv h.2
    exact .inr (.inl ⟨c1, h.1, x, y, e, hx, hy, by rw [tx_eq, if_pos c1, e, txL, txL, txL]; rfl⟩)
  rw [if_neg c1] at h
  by_cases c2 : n.f0 = 2
  · rw [if_pos c2] at h
    simp only [Bool.and_eq_true, decide_eq_true_eq] at h
    exact .inr (.inr ⟨c2, h.1, h.2.1, h.2.2, by rw [tx_eq, if_neg c1, if_pos c2]⟩)
  rw [if_neg c2] at h
  cases h
theorem end_head {n : S26} (h : endV n = true) : ∃ c l, tx n = c :: l ∧ c ≠ 91 := by
  obtain ⟨_, k⟩ := end_kinds h
  rcases k with ⟨c, hp⟩ | ⟨c, _⟩ | ⟨c, _⟩
  · obtain ⟨d, l, e, hd⟩ := raw_head hp
    refine ⟨d, _, by rw [tx_pt c hp, e]; rfl, fun e => ?_⟩
    subst e; revert hd; decide
  · exact ⟨46, [46], by rw [tx_eq, if_neg (by omega), if_neg (by omega), if_pos c], by decide⟩
  · exact ⟨42, [], by rw [tx_eq, if_neg (by omega), if_neg (by omega), if_neg (by omega), if_pos c], by decide⟩
def tailT (l : List S26) (r : List UInt8) : List UInt8 := if l = [] then 93 :: r else 44 :: 32 :: (Lib.join (txL l) [44, 32] ++ 93 :: r)
theorem join_cons_tail (x : S26) (l : List S26) (r : List UInt8) : Lib.join (txL (x :: l)) [44, 32] ++ 93 :: r = tx x ++ tailT l r := by
  rw [txL, Lib.join_cons]
  unfold tailT
  cases l with
  | nil => rw [if_pos rfl, txL]; simp [Lib.joinTail]
  | cons y t => rw [if_neg (by simp), txL, Lib.join_cons]; simp [Lib.joinTail]
theorem tailT_stop (l : List S26) (r : List UInt8) : stop (tailT l r) := by
  unfold tailT
  split
  · exact .inr rfl
  · exact .inl rfl
theorem tx_inj : ∀ (m : Nat) (a b : S26) (r s : List UInt8), nd a ≤ m → rt a = true → rt b = true → stop r → stop s → tx a ++ r = tx b ++ s → a = b ∧ r = s
  | 0, a, _, _, _, h, _, _, _, _, _ => by have := nd_pos a; omega
  | m + 1, a, b, r, s, hm, ha, hb, hr, hs, h => by
    have lists : ∀ (l u : List S26) (r s : List UInt8), ndL l ≤ m → l ≠ [] → u ≠ [] → rtL l = true → rtL u = true → Lib.join (txL l) [44, 32] ++ 93 :: r = Lib.join (txL u) [44, 32] ++ 93 :: s → l = u ∧ r = s := fun l => by
      induction l with
      | nil => intro _ _ _ _ h; exact absurd rfl h
      | cons x t ih =>
        intro u r s hm _ hu hl hul h
        cases u with
        | nil => exact absurd rfl hu
        | cons y u =>
          rw [ndL] at hm
          rw [rtL, Bool.and_eq_true] at hl hul
          rw [join_cons_tail, join_cons_tail] at h
          obtain ⟨e1, e2⟩ := tx_inj m x y _ _ (by omega) hl.1 hul.1 (tailT_stop _ _) (tailT_stop _ _) h
          unfold tailT at e2
          by_cases c : t = []
          · by_cases d : u = []
            · rw [if_pos c, if_pos d] at e2
              injection e2 with _ e2
              exact ⟨by rw [e1, c, d], e2⟩
            · rw [if_pos c, if_neg d] at e2
              injection e2 with e2 _; exact absurd e2 (by decide)
          · by_cases d : u = []
            · rw [if_neg c, if_pos d] at e2
              injection e2 with e2 _; exact absurd e2 (by decide)
            · rw [if_neg c, if_neg d] at e2
              injection e2 with _ e2; injection e2 with _ e2
              obtain ⟨e3, e4⟩ := ih u r s (by have := nd_pos x; omega) c d hl.2 hul.2 e2
              exact ⟨by rw [e1, e3], e4⟩
    have hn := nd_eq a
    rcases rt_kinds ha with ⟨hea, ca⟩ | ⟨ca, hba, x, y, ex, hx, hy, et⟩ | ⟨ca, hba, hla, hra, et⟩ <;> rcases rt_kinds hb with ⟨heb, cb⟩ | ⟨cb, hbb, z, w, ez, hz, hw, eu⟩ | ⟨cb, hbb, hlb, hrb, eu⟩
    · exact end_inj hea heb (stop_sep hr) (stop_sep hs) h
    · rw [eu, List.append_assoc] at h
      obtain ⟨_, e⟩ := end_inj hea hz (stop_sep hr) (sep47 _) h
      subst e
      rcases hr with hr | hr <;> exact absurd hr (by decide)
    · obtain ⟨c, l, e, hc⟩ := end_head hea
      rw [e, eu] at h
      injection h with h _
      exact absurd h hc
    · rw [et, List.append_assoc] at h
      obtain ⟨_, e⟩ := end_inj hx heb (sep47 _) (stop_sep hs) h
      subst e
      rcases hs with hs | hs <;> exact absurd hs (by decide)
    · rw [et, eu, List.append_assoc, List.append_assoc] at h
      obtain ⟨e1, e2⟩ := end_inj hx hz (sep47 _) (sep47 _) h
      injection e2 with _ e2
      obtain ⟨e3, e4⟩ := end_inj hy hw (stop_sep hr) (stop_sep hs) e2
      exact ⟨bare_inj hba hbb (by omega) (by rw [ex, ez, e1, e3]), e4⟩
    · obtain ⟨c, l, e, hc⟩ := end_head hx
      rw [et, eu, e] at h
      injection h with h _
      exact absurd h hc
    · obtain ⟨c, l, e, hc⟩ := end_head heb
      rw [e, et] at h
      injection h with h _
      exact absurd h.symm hc
    · obtain ⟨c, l, e, hc⟩ := end_head hz
      rw [et, eu, e] at h
      injection h with h _
      exact absurd h.symm hc
    · rw [et, eu] at h
      rw [List.cons_append, List.cons_append, List.append_assoc, List.append_assoc] at h
      injection h with _ h
      obtain ⟨e1, e2⟩ := lists a.f4 b.f4 r s (by omega) hla hlb hra hrb h
      exact ⟨bare_inj hba hbb (by omega) e1, e2⟩
mutual
def lustrumref12_flat.l0 : Nat → List (S26) → Int → Int → Int → ByteArray → ByteArray → ByteArray → Bool → Bool → List (S26) → Option ((List (S26)))
  | 0, _, _, _, _, _, _, _, _, _, _ => none
  | k + 1, x3, x4, x363000, x363001, x363002, x363003, x363004, x363005, x363006, x363007 => if x4 < (x363007.length : Int) then (if 0 ≤ x4 then ((lustrumref12_flat.f k ((rd_T26 x363007 x4).f0) ((rd_T26 x363007 x4).f1.f0) ((rd_T26 x363007 x4).f1.f1) ((rd_T26 x363007 x4).f1.f2) ((rd_T26 x363007 x4).f1.f3) ((rd_T26 x363007 x4).f2) ((rd_T26 x363007 x4).f3) ((rd_T26 x363007 x4).f4)).bind fun t367 => (if x3.length + t367.length < 1466015503701 then (lustrumref12_flat.l0 k (x3 ++ t367) (wrap64 (x4 + 1)) x363000 x363001 x363002 x363003 x363004 x363005 x363006 x363007) else (none))) else (none)) else (some x3)
def lustrumref12_flat.f : Nat → Int → Int → ByteArray → ByteArray → ByteArray → Bool → Bool → List (S26) → Option ((List (S26)))
  | 0, _, _, _, _, _, _, _, _ => none
  | k + 1, a0_0, a0_1, a0_2, a0_3, a0_4, a0_5, a0_6, l0_7 => if a0_0 = 2 then (lustrumref12_flat.l0 k ([] : List (S26)) 0 a0_0 a0_1 a0_2 a0_3 a0_4 a0_5 a0_6 l0_7) else (some (([(⟨a0_0, (⟨a0_1, a0_2, a0_3, a0_4⟩ : S23), a0_5, a0_6, l0_7⟩ : S26)] : List (S26))))
end
mutual
def lustrumref12_put.l0 : Nat → List (S26) → ByteArray → List (S26) → Bool → Int → Int → Int → ByteArray → ByteArray → ByteArray → Bool → Bool → List (S26) → Option ((List (S26)))
  | 0, _, _, _, _, _, _, _, _, _, _, _, _, _ => none
  | k + 1, x0, x5, x6, x7, x8, x389000, x389001, x389002, x389003, x389004, x389005, x389006, x389007 => if x8 < (x0.length : Int) then (if 0 ≤ x8 then ((lustrumref11_Text.f k ((rd_T26 x0 x8).f0) ((rd_T26 x0 x8).f1.f0) ((rd_T26 x0 x8).f1.f1) ((rd_T26 x0 x8).f1.f2) ((rd_T26 x0 x8).f1.f3) ((rd_T26 x0 x8).f2) ((rd_T26 x0 x8).f3) ((rd_T26 x0 x8).f4)).bind fun t394 => (if x7 = true then (lustrumref12_put.j1 k x0 x5 x6 x7 x8 t394 false x389000 x389001 x389002 x389003 x389004 x389005 x389006 x389007) else (lustrumref12_put.j1 k x0 x5 x6 x7 x8 t394 (!(Op.bytesLess t394.toList x5.toList)) x389000 x389001 x389002 x389003 x389004 x389005 x389006 x389007))) else (none)) else (if x7 = true then (some x6) else (if x6.length < 1466015503701 then (some (x6 ++ [(⟨x389000, (⟨x389001, x389002, x389003, x389004⟩ : S23), x389005, x389006, x389007⟩ : S26)])) else (none)))
def lustrumref12_put.j1 : Nat → List (S26) → ByteArray → List (S26) → Bool → Int → ByteArray → Bool → Int → Int → ByteArray → ByteArray → ByteArray → Bool → Bool → List (S26) → Option ((List (S26)))
  | 0, _, _, _, _, _, _, _, _, _, _, _, _, _, _, _ => none
  | k + 1, x0, x5, x6, x7, x8, x9, x29, x389000, x389001, x389002, x389003, x389004, x389005, x389006, x389007 => if x29 = true then (if (Op.bytesLess x5.toList x9.toList) = true then (if x6.length < 1466015503701 then ((some (x6 ++ [(⟨x389000, (⟨x389001, x389002, x389003, x389004⟩ : S23), x389005, x389006, x389007⟩ : S26)] : List (S26))).bind fun y395 => (if 0 ≤ x8 then (if x8 < (x0.length : Int) then (if y395.length < 1466015503701 then (lustrumref12_put.l0 k x0 x5 (y395 ++ [(⟨(rd_T26 x0 x8).f0, (⟨(rd_T26 x0 x8).f1.f0, (rd_T26 x0 x8).f1.f1, (rd_T26 x0 x8).f1.f2, (rd_T26 x0 x8).f1.f3⟩ : S23), (rd_T26 x0 x8).f2, (rd_T26 x0 x8).f3, (rd_T26 x0 x8).f4⟩ : S26)]) true (wrap64 (x8 + 1)) x389000 x389001 x389002 x389003 x389004 x389005 x389006 x389007) else (none)) else (none)) else (none))) else (none)) else (if 0 ≤ x8 then (if x8 < (x0.length : Int) then (if x6.length < 1466015503701 then (lustrumref12_put.l0 k x0 x5 (x6 ++ [(⟨(rd_T26 x0 x8).f0, (⟨(rd_T26 x0 x8).f1.f0, (rd_T26 x0 x8).f1.f1, (rd_T26 x0 x8).f1.f2, (rd_T26 x0 x8).f1.f3⟩ : S23), (rd_T26 x0 x8).f2, (rd_T26 x0 x8).f3, (rd_T26 x0 x8).f4⟩ : S26)]) true (wrap64 (x8 + 1)) x389000 x389001 x389002 x389003 x389004 x389005 x389006 x389007) else (none)) else (none)) else (none))) else (if 0 ≤ x8 then (if x8 < (x0.length : Int) then (if x6.length < 1466015503701 then (lustrumref12_put.l0 k x0 x5 (x6 ++ [(⟨(rd_T26 x0 x8).f0, (⟨(rd_T26 x0 x8).f1.f0, (rd_T26 x0 x8).f1.f1, (rd_T26 x0 x8).f1.f2, (rd_T26 x0 x8).f1.f3⟩ : S23), (rd_T26 x0 x8).f2, (rd_T26 x0 x8).f3, (rd_T26 x0 x8).f4⟩ : S26)]) x7 (wrap64 (x8 + 1)) x389000 x389001 x389002 x389003 x389004 x389005 x389006 x389007) else (none)) else (none)) else (none))
end
def lustrumref12_put.f (k : Nat) (l0 : List (S26)) (a1_0 : Int) (a1_1 : Int) (a1_2 : ByteArray) (a1_3 : ByteArray) (a1_4 : ByteArray) (a1_5 : Bool) (a1_6 : Bool) (l1_7 : List (S26)) : Option ((List (S26))) := (lustrumref11_Text.f k a1_0 a1_1 a1_2 a1_3 a1_4 a1_5 a1_6 l1_7).bind fun t389 => (lustrumref12_put.l0 k l0 t389 ([] : List (S26)) false 0 a1_0 a1_1 a1_2 a1_3 a1_4 a1_5 a1_6 l1_7)
def lustrumref12_Canon.l0 : Nat → List (S26) → List (S26) → Int → Option (Int × Int × ByteArray × ByteArray × ByteArray × Bool × Bool × (List (S26)))
  | 0, _, _, _ => none
  | k + 1, x3, x4, x5 => if x5 < (x3.length : Int) then (if 0 ≤ x5 then ((lustrumref12_put.f k x4 ((rd_T26 x3 x5).f0) ((rd_T26 x3 x5).f1.f0) ((rd_T26 x3 x5).f1.f1) ((rd_T26 x3 x5).f1.f2) ((rd_T26 x3 x5).f1.f3) ((rd_T26 x3 x5).f2) ((rd_T26 x3 x5).f3) ((rd_T26 x3 x5).f4)).bind fun t417 => (lustrumref12_Canon.l0 k x3 t417 (wrap64 (x5 + 1)))) else (none)) else (if (x4.length : Int) = 1 then (if 0 < (x4.length : Int) then (some ((rd_T26 x4 0).f0, (rd_T26 x4 0).f1.f0, (rd_T26 x4 0).f1.f1, (rd_T26 x4 0).f1.f2, (rd_T26 x4 0).f1.f3, (rd_T26 x4 0).f2, (rd_T26 x4 0).f3, (rd_T26 x4 0).f4)) else (none)) else (some (2, 0, (⟨#[]⟩ : ByteArray), (⟨#[]⟩ : ByteArray), (⟨#[]⟩ : ByteArray), false, false, x4)))
def lustrumref12_Canon.f (k : Nat) (a0_0 : Int) (a0_1 : Int) (a0_2 : ByteArray) (a0_3 : ByteArray) (a0_4 : ByteArray) (a0_5 : Bool) (a0_6 : Bool) (l0_7 : List (S26)) : Option (Int × Int × ByteArray × ByteArray × ByteArray × Bool × Bool × (List (S26))) := (lustrumref10_Sane.f k a0_0 a0_1 a0_2 a0_3 a0_4 a0_5 a0_6 l0_7).bind fun t412 => (if t412 = true then (if a0_0 = 2 then ((lustrumref12_flat.f k a0_0 a0_1 a0_2 a0_3 a0_4 a0_5 a0_6 l0_7).bind fun t413 => (lustrumref12_Canon.l0 k t413 ([] : List (S26)) 0)) else (some (a0_0, a0_1, a0_2, a0_3, a0_4, a0_5, a0_6, l0_7))) else (some (0, 0, (⟨#[]⟩ : ByteArray), (⟨#[]⟩ : ByteArray), (⟨#[]⟩ : ByteArray), false, false, ([] : List (S26)))))
mutual
def canon_flat.l0 : Nat → List S26 → List (S26) → Int → Int → Option (List S26)
  | 0, _, _, _, _ => none
  | k + 1, x3, x16, x17, x18 => if x18 < x17 then (if 0 ≤ x18 then (if x18 < (x16.length : Int) then ((canon_flat.f k ((rd_T26 x16 x18).f0) ((rd_T26 x16 x18).f1.f0) ((rd_T26 x16 x18).f1.f1) ((rd_T26 x16 x18).f1.f2) ((rd_T26 x16 x18).f1.f3) ((rd_T26 x16 x18).f2) ((rd_T26 x16 x18).f3) ((rd_T26 x16 x18).f4)).bind fun t139 => (if x3.length + t139.length < 8796093022208 then (canon_flat.l0 k (x3 ++ t139) x16 x17 (wrap64 (x18 + 1))) else (none))) else (none)) else (none)) else (some x3)
def canon_flat.f : Nat → Int → Int → ByteArray → ByteArray → ByteArray → Bool → Bool → List (S26) → Option (List S26)
  | 0, _, _, _, _, _, _, _, _ => none
  | k + 1, a0_0, a0_1, a0_2, a0_3, a0_4, a0_5, a0_6, l0_7 => if a0_0 = 2 then (canon_flat.l0 k ([] : List S26) l0_7 (l0_7.length : Int) 0) else ((print_Text.f k a0_0 a0_1 a0_2 a0_3 a0_4 a0_5 a0_6 l0_7).bind fun t133 => (some (([(⟨a0_0, ⟨a0_1, a0_2, a0_3, a0_4⟩, a0_5, a0_6, l0_7⟩ : S26)] : List S26))))
end
theorem canon_flat.mono_l : ∀ k, (∀ y0 y1 y2 y3 y4 y5 y6 y7, LeO (canon_flat.f k y0 y1 y2 y3 y4 y5 y6 y7) (canon_flat.f (k + 1) y0 y1 y2 y3 y4 y5 y6 y7)) ∧ (∀ y0 y1 y2 y3, LeO (canon_flat.l0 k y0 y1 y2 y3) (canon_flat.l0 (k + 1) y0 y1 y2 y3))
  | 0 => ⟨fun _ _ _ _ _ _ _ _ r h => by simp [canon_flat.f] at h, fun _ _ _ _ r h => by simp [canon_flat.l0] at h⟩
  | k + 1 => by
    obtain ⟨ih0, ih1⟩ := canon_flat.mono_l k
    refine ⟨?_, ?_⟩
    · intro y0 y1 y2 y3 y4 y5 y6 y7
      unfold canon_flat.f
      repeat' (with_reducible first | apply ih0 | apply ih1 | apply print_Text.mono | exact LeO.refl _ | exact LeO.none _ | refine LeO.ite ?_ ?_ | refine LeO.bind ?_ fun _ => ?_)
    · intro y0 y1 y2 y3
      unfold canon_flat.l0
      repeat' (with_reducible first | apply ih0 | apply ih1 | apply print_Text.mono | exact LeO.refl _ | exact LeO.none _ | refine LeO.ite ?_ ?_ | refine LeO.bind ?_ fun _ => ?_)
theorem canon_flat.mono : ∀ a0 a1 a2 a3 a4 a5 a6 a7 k, LeO (canon_flat.f k a0 a1 a2 a3 a4 a5 a6 a7) (canon_flat.f (k + 1) a0 a1 a2 a3 a4 a5 a6 a7) := by
  intro a0 a1 a2 a3 a4 a5 a6 a7 k
  obtain ⟨ih0, ih1⟩ := canon_flat.mono_l k
  exact ih0 a0 a1 a2 a3 a4 a5 a6 a7
structure KE where
  nd : S26
  A : Option Addr
  c : Nat
open Classical in
noncomputable def tyT (n : S26) : ByteArray := if h : ∃ t, ∃ k, print_Text.f k n.f0 n.f1.f0 n.f1.f1 n.f1.f2 n.f1.f3 n.f2 n.f3 n.f4 = some t then h.choose else ⟨#[]⟩
theorem tyT_is {k : Nat} {n : S26} {t : ByteArray} (h : print_Text.f k n.f0 n.f1.f0 n.f1.f1 n.f1.f2 n.f1.f3 n.f2 n.f3 n.f4 = some t) : tyT n = t := by
  have he : ∃ t, ∃ k, print_Text.f k n.f0 n.f1.f0 n.f1.f1 n.f1.f2 n.f1.f3 n.f2 n.f3 n.f4 = some t := ⟨t, k, h⟩
  unfold tyT
  rw [dif_pos he]
  obtain ⟨j, hj⟩ := he.choose_spec
  have up : ∀ (i j : Nat) (t : ByteArray), print_Text.f j n.f0 n.f1.f0 n.f1.f1 n.f1.f2 n.f1.f3 n.f2 n.f3 n.f4 = some t → print_Text.f (j + i) n.f0 n.f1.f0 n.f1.f1 n.f1.f2 n.f1.f3 n.f2 n.f3 n.f4 = some t := fun i => by
    induction i with
    | zero => exact fun j t h => h
    | succ i ih => exact fun j t h => print_Text.mono _ _ _ _ _ _ _ _ (j + i) t (ih j t h)
  have h1 := up k j _ hj
  have h2 := up j k _ h
  rw [Nat.add_comm] at h2
  exact Option.some.inj (h1.symm.trans h2)
noncomputable def cellsK (x : KE) : Value := .agg #[.int .i64 x.nd.f0, .int .i64 x.nd.f1.f0, .string x.nd.f1.f1, .string x.nd.f1.f2, .string x.nd.f1.f3, .bool x.nd.f2, .bool x.nd.f3, .slice x.A x.nd.f4.length x.c, .string (tyT x.nd)]
noncomputable abbrev encK (x : KE) : Value := .iface 79 (cellsK x)
noncomputable abbrev kKE : Kd KE := Kd.scalar encK (fun _ => rfl)
def zKE : KE := ⟨z26, none, 0⟩
noncomputable def canon_element_key.f (x : KE) : Option ByteArray := some (tyT x.nd)
mutual
noncomputable def canon_sink.l0 : Nat → List KE → Int → Option (List KE)
  | 0, _, _ => none
  | k + 1, x0, x1 => (some (([wrap64 ((wrap64 (2 * x1)) + 1), wrap64 ((wrap64 (2 * x1)) + 2)] : List Int) : List Int)).bind fun y101 => (canon_sink.l1 k x0 x1 x1 y101 (y101.length : Int) 0)
noncomputable def canon_sink.l1 : Nat → List KE → Int → Int → List Int → Int → Int → Option (List KE)
  | 0, _, _, _, _, _, _ => none
  | k + 1, x0, x1, x4, x14, x15, x16 => if x16 < x15 then (if 0 ≤ x16 then (if x16 < (x14.length : Int) then (if (rd x14 x16) < (x0.length : Int) then (if 0 ≤ (rd x14 x16) then ((canon_element_key.f (rdOf zKE x0 (rd x14 x16))).bind fun t110 => (if 0 ≤ x4 then (if x4 < (x0.length : Int) then ((canon_element_key.f (rdOf zKE x0 x4)).bind fun t112 => (if (Op.bytesLess t110.toList t112.toList) = true then (canon_sink.l1 k x0 x1 (rd x14 x16) x14 x15 (wrap64 (x16 + 1))) else (canon_sink.l1 k x0 x1 x4 x14 x15 (wrap64 (x16 + 1))))) else (none)) else (none))) else (none)) else (canon_sink.l1 k x0 x1 x4 x14 x15 (wrap64 (x16 + 1)))) else (none)) else (none)) else (if x4 = x1 then (some x0) else (if 0 ≤ x4 then (if x4 < (x0.length : Int) then (if 0 ≤ x1 then (if x1 < (x0.length : Int) then (canon_sink.l0 k ((x0.set (x1 : Int).toNat (rdOf zKE x0 x4)).set (x4 : Int).toNat (rdOf zKE x0 x1)) x4) else (none)) else (none)) else (none)) else (none)))
end
noncomputable def canon_sink.f (k : Nat) (l0 : List KE) (a1 : Int) : Option (List KE) := canon_sink.l0 k l0 a1
theorem canon_sink.mono_l : ∀ k, (∀ y0 y1, LeO (canon_sink.l0 k y0 y1) (canon_sink.l0 (k + 1) y0 y1)) ∧ (∀ y0 y1 y2 y3 y4 y5, LeO (canon_sink.l1 k y0 y1 y2 y3 y4 y5) (canon_sink.l1 (k + 1) y0 y1 y2 y3 y4 y5))
  | 0 => ⟨fun _ _ r h => by simp [canon_sink.l0] at h, fun _ _ _ _ _ _ r h => by simp [canon_sink.l1] at h⟩
  | k + 1 => by
    obtain ⟨ih0, ih1⟩ := canon_sink.mono_l k
    refine ⟨?_, ?_⟩
    · intro y0 y1
      unfold canon_sink.l0
      repeat' (with_reducible first | apply ih0 | apply ih1 | exact LeO.refl _ | exact LeO.none _ | refine LeO.ite ?_ ?_ | refine LeO.bind ?_ fun _ => ?_)
    · intro y0 y1 y2 y3 y4 y5
      unfold canon_sink.l1
      repeat' (with_reducible first | apply ih0 | apply ih1 | exact LeO.refl _ | exact LeO.none _ | refine LeO.ite ?_ ?_ | refine LeO.bind ?_ fun _ => ?_)
theorem canon_sink.mono : ∀ a0 a1 k, LeO (canon_sink.f k a0 a1) (canon_sink.f (k + 1) a0 a1) := by
  intro a0 a1 k
  obtain ⟨ih0, ih1⟩ := canon_sink.mono_l k
  unfold canon_sink.f
  repeat' (with_reducible first | apply ih0 | apply ih1 | exact LeO.refl _ | exact LeO.none _ | refine LeO.ite ?_ ?_ | refine LeO.bind ?_ fun _ => ?_)
mutual
noncomputable def canonK_rising.l0 : Nat → List KE → Int → Option (List KE)
  | 0, _, _ => none
  | k + 1, x0, x3 => if x3 ≥ 0 then ((canon_sink.f k x0 x3).bind fun t113 => (canonK_rising.l0 k t113 (wrap64 (x3 - 1)))) else (canonK_rising.l1 k x0 ([] : List KE) (⟨#[]⟩ : ByteArray))
noncomputable def canonK_rising.l1 : Nat → List KE → List KE → ByteArray → Option (List KE)
  | 0, _, _, _ => none
  | k + 1, x0, x4, x5 => if (x0.length : Int) > 0 then (if 0 < (x0.length : Int) then ((canon_element_key.f (rdOf zKE x0 0)).bind fun t115 => (if t115.toList = x5.toList then (if 0 ≤ (wrap64 ((x0.length : Int) - 1)) then (if (wrap64 ((x0.length : Int) - 1)) < (x0.length : Int) then (if (wrap64 ((x0.length : Int) - 1)) ≤ (x0.length : Int) then ((canon_sink.f k ((x0.set (0 : Int).toNat (rdOf zKE x0 (wrap64 ((x0.length : Int) - 1)))).take ((wrap64 ((x0.length : Int) - 1)) : Int).toNat) 0).bind fun t121 => (canonK_rising.l1 k t121 x4 x5)) else (none)) else (none)) else (none)) else (if x4.length < 1466015503701 then (if 0 ≤ (wrap64 ((x0.length : Int) - 1)) then (if (wrap64 ((x0.length : Int) - 1)) < (x0.length : Int) then (if (wrap64 ((x0.length : Int) - 1)) ≤ (x0.length : Int) then ((canon_sink.f k ((x0.set (0 : Int).toNat (rdOf zKE x0 (wrap64 ((x0.length : Int) - 1)))).take ((wrap64 ((x0.length : Int) - 1)) : Int).toNat) 0).bind fun t131 => (canonK_rising.l1 k t131 (x4 ++ [rdOf zKE x0 0]) t115)) else (none)) else (none)) else (none)) else (none)))) else (none)) else (some x4)
end
noncomputable def canonK_rising.f (k : Nat) (l0 : List KE) : Option (List KE) := canonK_rising.l0 k l0 (wrap64 ((wrap64 ((l0.length : Int) / 2)) - 1))
theorem canonK_rising.mono_l : ∀ k, (∀ y0 y1, LeO (canonK_rising.l0 k y0 y1) (canonK_rising.l0 (k + 1) y0 y1)) ∧ (∀ y0 y1 y2, LeO (canonK_rising.l1 k y0 y1 y2) (canonK_rising.l1 (k + 1) y0 y1 y2))
  | 0 => ⟨fun _ _ r h => by simp [canonK_rising.l0] at h, fun _ _ _ r h => by simp [canonK_rising.l1] at h⟩
  | k + 1 => by
    obtain ⟨ih0, ih1⟩ := canonK_rising.mono_l k
    refine ⟨?_, ?_⟩
    · intro y0 y1
      unfold canonK_rising.l0
      repeat' (with_reducible first | apply ih0 | apply ih1 | apply canon_sink.mono | exact LeO.refl _ | exact LeO.none _ | refine LeO.ite ?_ ?_ | refine LeO.bind ?_ fun _ => ?_)
    · intro y0 y1 y2
      unfold canonK_rising.l1
      repeat' (with_reducible first | apply ih0 | apply ih1 | apply canon_sink.mono | exact LeO.refl _ | exact LeO.none _ | refine LeO.ite ?_ ?_ | refine LeO.bind ?_ fun _ => ?_)
theorem canonK_rising.mono : ∀ a0 k, LeO (canonK_rising.f k a0) (canonK_rising.f (k + 1) a0) := by
  intro a0 k
  obtain ⟨ih0, ih1⟩ := canonK_rising.mono_l k
  unfold canonK_rising.f
  repeat' (with_reducible first | apply ih0 | apply ih1 | apply canon_sink.mono | exact LeO.refl _ | exact LeO.none _ | refine LeO.ite ?_ ?_ | refine LeO.bind ?_ fun _ => ?_)
def mkK (n : S26) : KE := ⟨n, none, 0⟩
abbrev phiK (x : KE) : KE := mkK x.nd
def LiftK (Q : KE → Prop) (a b : Option (List KE)) : Prop := ∀ r, a = some r → ∃ r', b = some r' ∧ r'.map phiK = r ∧ ∀ x, x ∈ r' → Q x
section
variable {Q : KE → Prop} {a b a' b' : Option (List KE)}
theorem LiftK.none : LiftK Q none b := fun r h => by cases h
theorem LiftK.some {l : List KE} (h : ∀ x, x ∈ l → Q x) : LiftK Q (some (l.map phiK)) (some l) := fun r hr => ⟨l, rfl, Option.some.inj hr, h⟩
theorem LiftK.ite {c : Prop} [Decidable c] (h : LiftK Q a b) (h' : LiftK Q a' b') : LiftK Q (if c then a else a') (if c then b else b') := by
  by_cases hc : c
  · rw [if_pos hc, if_pos hc]; exact h
  · rw [if_neg hc, if_neg hc]; exact h'
theorem LiftK.key {α : Type} {o : Option α} {g g' : α → Option (List KE)} (h : ∀ t, LiftK Q (g t) (g' t)) : LiftK Q (o.bind g) (o.bind g') := by
  cases o with
  | none => exact LiftK.none
  | some t => exact h t
theorem LiftK.bind {g g' : List KE → Option (List KE)} (h : LiftK Q a b) (hg : ∀ l, (∀ x, x ∈ l → Q x) → LiftK Q (g (l.map phiK)) (g' l)) : LiftK Q (a.bind g) (b.bind g') := by
  intro r hr
  obtain ⟨m, hm, hr⟩ := Option.bind_eq_some_iff.mp hr
  obtain ⟨m', hb, rfl, hq⟩ := h m hm
  obtain ⟨r', h1, h2⟩ := hg m' hq r hr
  exact ⟨r', Option.bind_eq_some_iff.mpr ⟨m', hb, h1⟩, h2⟩
end
theorem rdOf_phi (l : List KE) (i : Int) : rdOf zKE (l.map phiK) i = phiK (rdOf zKE l i) := by
  unfold rdOf
  rw [List.getD_eq_getElem?_getD, List.getD_eq_getElem?_getD, List.getElem?_map]
  cases l[i.toNat]? <;> rfl
theorem rdOf_Q {Q : KE → Prop} (hz : Q zKE) {l : List KE} (h : ∀ x, x ∈ l → Q x) (i : Int) : Q (rdOf zKE l i) := by
  unfold rdOf
  rw [List.getD_eq_getElem?_getD]
  cases e : l[i.toNat]? with
  | none => exact hz
  | some x => exact h x (List.mem_of_getElem? e)
theorem set_Q {Q : KE → Prop} {l : List KE} (h : ∀ x, x ∈ l → Q x) (i : Nat) {y : KE} (hy : Q y) : ∀ x, x ∈ l.set i y → Q x := fun x hx => by
  rcases List.mem_or_eq_of_mem_set hx with hx | rfl
  · exact h x hx
  · exact hy
theorem key_phi (x : KE) : canon_element_key.f (phiK x) = canon_element_key.f x := rfl
theorem sink_lift {Q : KE → Prop} (hz : Q zKE) : ∀ k, (∀ (l : List KE) i, (∀ x, x ∈ l → Q x) → LiftK Q (canon_sink.l0 k (l.map phiK) i) (canon_sink.l0 k l i)) ∧ (∀ (l : List KE) y1 y2 y3 y4 y5, (∀ x, x ∈ l → Q x) → LiftK Q (canon_sink.l1 k (l.map phiK) y1 y2 y3 y4 y5) (canon_sink.l1 k l y1 y2 y3 y4 y5))
  | 0 => ⟨fun _ _ _ => by simp only [canon_sink.l0]; exact LiftK.none, fun _ _ _ _ _ _ _ => by simp only [canon_sink.l1]; exact LiftK.none⟩
  | k + 1 => by
    obtain ⟨ih0, ih1⟩ := sink_lift hz k
    refine ⟨fun l i hl => ?_, fun l y1 y2 y3 y4 y5 hl => ?_⟩
    · simp only [canon_sink.l0]
      exact LiftK.key (fun t => ih1 l i i t _ 0 hl)
    · simp only [canon_sink.l1, List.length_map, rdOf_phi, key_phi]
      refine LiftK.ite ?_ ?_
      · refine LiftK.ite (LiftK.ite (LiftK.ite (LiftK.ite (LiftK.key fun t => LiftK.ite (LiftK.ite (LiftK.key fun t' => LiftK.ite (ih1 _ _ _ _ _ _ hl) (ih1 _ _ _ _ _ _ hl)) LiftK.none) LiftK.none) LiftK.none) (ih1 _ _ _ _ _ _ hl)) LiftK.none) LiftK.none
      · refine LiftK.ite (LiftK.some hl) (LiftK.ite (LiftK.ite (LiftK.ite (LiftK.ite ?_ LiftK.none) LiftK.none) LiftK.none) LiftK.none)
        rw [← List.map_set, ← List.map_set]
        exact ih0 _ _ (set_Q (set_Q hl _ (rdOf_Q hz hl _)) _ (rdOf_Q hz hl _))
theorem take_Q {Q : KE → Prop} {l : List KE} (h : ∀ x, x ∈ l → Q x) (m : Nat) : ∀ x, x ∈ l.take m → Q x := fun x hx => h x (List.mem_of_mem_take hx)
theorem rising_lift {Q : KE → Prop} (hz : Q zKE) : ∀ k, (∀ (l : List KE) i, (∀ x, x ∈ l → Q x) → LiftK Q (canonK_rising.l0 k (l.map phiK) i) (canonK_rising.l0 k l i)) ∧ (∀ (l m : List KE) y, (∀ x, x ∈ l → Q x) → (∀ x, x ∈ m → Q x) → LiftK Q (canonK_rising.l1 k (l.map phiK) (m.map phiK) y) (canonK_rising.l1 k l m y))
  | 0 => ⟨fun _ _ _ => by simp only [canonK_rising.l0]; exact LiftK.none, fun _ _ _ _ _ => by simp only [canonK_rising.l1]; exact LiftK.none⟩
  | k + 1 => by
    obtain ⟨ih0, ih1⟩ := rising_lift hz k
    refine ⟨fun l i hl => ?_, fun l m y hl hm => ?_⟩
    · simp only [canonK_rising.l0, canon_sink.f]
      exact LiftK.ite (LiftK.bind ((sink_lift hz k).1 l i hl) (fun l' hl' => ih0 l' _ hl')) (ih1 l [] _ hl (fun x hx => by simp at hx))
    · simp only [canonK_rising.l1, canon_sink.f, List.length_map, rdOf_phi, key_phi]
      have hs : ∀ (x y : KE) (i j : Nat), (((l.map phiK).set i (phiK x)).take j) = (((l.set i x).take j).map phiK) := fun x y i j => by rw [List.map_take, List.map_set]
      refine LiftK.ite (LiftK.ite (LiftK.key fun t => LiftK.ite (LiftK.ite (LiftK.ite (LiftK.ite ?_ LiftK.none) LiftK.none) LiftK.none) (LiftK.ite (LiftK.ite (LiftK.ite (LiftK.ite ?_ LiftK.none) LiftK.none) LiftK.none) LiftK.none)) LiftK.none) (LiftK.some hm)
      · rw [hs _ zKE]
        exact LiftK.bind ((sink_lift hz k).1 _ _ (take_Q (set_Q hl _ (rdOf_Q hz hl _)) _)) (fun l' hl' => ih1 l' m _ hl' hm)
      · rw [hs _ zKE]
        have hm' : m.map phiK ++ [phiK (rdOf zKE l 0)] = (m ++ [rdOf zKE l 0]).map phiK := by rw [List.map_append]; rfl
        rw [hm']
        refine LiftK.bind ((sink_lift hz k).1 _ _ (take_Q (set_Q hl _ (rdOf_Q hz hl _)) _)) (fun l' hl' => ih1 l' _ _ hl' (fun x hx => ?_))
        rcases List.mem_append.1 hx with hx | hx
        · exact hm x hx
        · rw [List.mem_singleton.1 hx]; exact rdOf_Q hz hl _
noncomputable def risingN (k : Nat) (l : List S26) : Option (List S26) := (canonK_rising.f k (l.map mkK)).map (fun r => r.map KE.nd)
theorem rising_of {Q : KE → Prop} (hz : Q zKE) {k : Nat} {l : List KE} {r : List S26} (h : risingN k (l.map KE.nd) = some r) (hl : ∀ x, x ∈ l → Q x) : ∃ r', canonK_rising.f k l = some r' ∧ r'.map KE.nd = r ∧ ∀ x, x ∈ r' → Q x := by
  obtain ⟨r1, h1, rfl⟩ := Option.map_eq_some_iff.mp h
  rw [List.map_map] at h1
  have h2 : canonK_rising.f k (l.map phiK) = some r1 := h1
  unfold canonK_rising.f at h2 ⊢
  rw [List.length_map] at h2
  obtain ⟨r', h3, rfl, h4⟩ := (rising_lift hz k).1 l _ hl r1 h2
  exact ⟨r', h3, by rw [List.map_map]; rfl, h4⟩
noncomputable def canon_rising.f (k : Nat) (a0_0 a0_1 : Int) (a0_2 a0_3 a0_4 : ByteArray) (a0_5 a0_6 : Bool) (l0_7 : List S26) : Option (List S26) := (canon_flat.f k a0_0 a0_1 a0_2 a0_3 a0_4 a0_5 a0_6 l0_7).bind fun t => risingN k t
theorem risingN_mono (l : List S26) (k : Nat) : LeO (risingN k l) (risingN (k + 1) l) := by
  intro r h
  obtain ⟨r1, h1, rfl⟩ := Option.map_eq_some_iff.mp h
  exact Option.map_eq_some_iff.mpr ⟨r1, canonK_rising.mono _ _ _ h1, rfl⟩
theorem canon_rising.mono : ∀ a0 a1 a2 a3 a4 a5 a6 a7 k, LeO (canon_rising.f k a0 a1 a2 a3 a4 a5 a6 a7) (canon_rising.f (k + 1) a0 a1 a2 a3 a4 a5 a6 a7) := fun a0 a1 a2 a3 a4 a5 a6 a7 k => by
  unfold canon_rising.f
  exact LeO.bind (canon_flat.mono _ _ _ _ _ _ _ _ _) (fun t => risingN_mono t k)
mutual
def flV : S26 → List S26
  | ⟨k, p, a, t, l⟩ => if k = 2 then flVL l else [⟨k, p, a, t, l⟩]
def flVL : List S26 → List S26
  | [] => []
  | x :: l => flV x ++ flVL l
end
theorem flV_eq (n : S26) : flV n = if n.f0 = 2 then flVL n.f4 else [n] := by cases n; rw [flV]
theorem flVL_app : ∀ l u : List S26, flVL (l ++ u) = flVL l ++ flVL u
  | [], u => rfl
  | x :: l, u => by rw [List.cons_append, flVL, flVL, flVL_app l u, List.append_assoc]
theorem flV_len : ∀ (m : Nat) (n : S26), nd n ≤ m → (flV n).length ≤ nd n
  | 0, n, h => by have := nd_pos n; omega
  | m + 1, n, h => by
    have hn := nd_eq n
    rw [flV_eq]
    by_cases c : n.f0 = 2
    · rw [if_pos c]
      have : ∀ l : List S26, ndL l ≤ m → (flVL l).length ≤ ndL l := fun l => by
        induction l with
        | nil => intro _; rw [flVL]; simp
        | cons x l ih =>
          intro hl
          rw [ndL] at hl
          have h1 := flV_len m x (by omega)
          have h2 := ih (by omega)
          rw [flVL, ndL, List.length_append]
          omega
      have := this n.f4 (by omega)
      omega
    · rw [if_neg c]
      simp only [List.length_singleton]
      omega
theorem flVL_len (l : List S26) : (flVL l).length ≤ ndL l := by
  induction l with
  | nil => rw [flVL]; simp
  | cons x l ih =>
    have h1 := flV_len _ x (Nat.le_refl _)
    rw [flVL, ndL, List.length_append]
    omega
theorem flV_sane : ∀ (m : Nat) (n : S26), nd n ≤ m → saneV n = true → ∀ x, x ∈ flV n → saneV x = true ∧ x.f0 ≠ 2
  | 0, n, h, _ => by have := nd_pos n; omega
  | m + 1, n, h, hs => by
    have hn := nd_eq n
    rw [flV_eq]
    by_cases c : n.f0 = 2
    · rw [if_pos c]
      have : ∀ l : List S26, (∀ y, y ∈ l → y ∈ n.f4) → ∀ x, x ∈ flVL l → saneV x = true ∧ x.f0 ≠ 2 := fun l => by
        induction l with
        | nil => intro _ x hx; rw [flVL] at hx; simp at hx
        | cons y l ih =>
          intro hl x hx
          rw [flVL] at hx
          rcases List.mem_append.1 hx with hx | hx
          · have hy := hl y (by simp)
            have := ndL_mem hy
            exact flV_sane m y (by omega) (sane_part hs c hy) x hx
          · exact ih (fun z hz => hl z (List.mem_cons_of_mem _ hz)) x hx
      exact this n.f4 (fun _ h => h)
    · rw [if_neg c]
      intro x hx
      rw [List.mem_singleton.1 hx]
      exact ⟨hs, c⟩
theorem flV_wf : ∀ (m : Nat) (n : S26), nd n ≤ m → wfN n → ∀ x, x ∈ flV n → wfN x ∧ nd x ≤ nd n
  | 0, n, h, _ => by have := nd_pos n; omega
  | m + 1, n, h, hw => by
    have hn := nd_eq n
    rw [flV_eq]
    by_cases c : n.f0 = 2
    · rw [if_pos c]
      have : ∀ l : List S26, (∀ y, y ∈ l → y ∈ n.f4) → ∀ x, x ∈ flVL l → wfN x ∧ nd x ≤ nd n := fun l => by
        induction l with
        | nil => intro _ x hx; rw [flVL] at hx; simp at hx
        | cons y l ih =>
          intro hl x hx
          rw [flVL] at hx
          rcases List.mem_append.1 hx with hx | hx
          · have hy := hl y (by simp)
            have := ndL_mem hy
            have h2 := flV_wf m y (by omega) (hw.all y hy) x hx
            exact ⟨h2.1, by omega⟩
          · exact ih (fun z hz => hl z (List.mem_cons_of_mem _ hz)) x hx
      exact this n.f4 (fun _ h => h)
    · rw [if_neg c]
      intro x hx
      rw [List.mem_singleton.1 hx]
      exact ⟨hw, Nat.le_refl _⟩
theorem S26.eta (n : S26) : (⟨n.f0, ⟨n.f1.f0, n.f1.f1, n.f1.f2, n.f1.f3⟩, n.f2, n.f3, n.f4⟩ : S26) = n := by cases n; rfl
theorem rflat_f : ∀ (m : Nat) (n : S26), nd n ≤ m → nd n ≤ 1048576 → Ev (fun k => lustrumref12_flat.f k n.f0 n.f1.f0 n.f1.f1 n.f1.f2 n.f1.f3 n.f2 n.f3 n.f4) (flV n)
  | 0, n, h, _ => by have := nd_pos n; omega
  | m + 1, n, h, hb => by
    have hn := nd_eq n
    have hl := len_nd n.f4
    have hfl := flVL_len n.f4
    rw [flV_eq]
    by_cases c : n.f0 = 2
    · rw [if_pos c]
      have loop : ∀ (t p : List S26), p ++ t = n.f4 → Ev (fun k => lustrumref12_flat.l0 k (flVL p) (p.length : Int) n.f0 n.f1.f0 n.f1.f1 n.f1.f2 n.f1.f3 n.f2 n.f3 (p ++ t)) (flVL n.f4) := fun t => by
        induction t with
        | nil =>
          intro p he
          rw [List.append_nil] at he ⊢
          subst he
          refine Ev.step (fun k => by rw [lustrumref12_flat.l0, if_neg (by omega)]) ?_
          exact Ev.now _
        | cons x t ih =>
          intro p he
          have hxl : nd x + ndL p ≤ ndL n.f4 := by rw [← he, ndL_app, ndL]; omega
          have hp : (p ++ x :: t).length ≤ 4611686018427387904 := by rw [he]; omega
          have h1 := flV_len _ x (Nat.le_refl _)
          have h2 := flVL_len p
          refine Ev.step (f := fun k => (lustrumref12_flat.f k x.f0 x.f1.f0 x.f1.f1 x.f1.f2 x.f1.f3 x.f2 x.f3 x.f4).bind fun t' => if (flVL p).length + t'.length < 1466015503701 then lustrumref12_flat.l0 k (flVL p ++ t') ((p ++ [x]).length : Int) n.f0 n.f1.f0 n.f1.f1 n.f1.f2 n.f1.f3 n.f2 n.f3 (p ++ x :: t) else none) (fun k => by rw [lustrumref12_flat.l0, if_pos (at_lt p x t), if_pos (at_0 p), at_rd26, at_next hp]) ?_
          refine Ev.bind (rflat_f m x (by omega) (by omega)) (Ev.ift (by omega) ?_)
          have := ih (p ++ [x]) (by rw [← at_app]; exact he)
          rw [← at_app, flVL_app] at this
          have e1 : flVL [x] = flV x := by rw [flVL, flVL, List.append_nil]
          rw [e1] at this
          exact this
      refine Ev.step (f := fun k => lustrumref12_flat.l0 k [] 0 n.f0 n.f1.f0 n.f1.f1 n.f1.f2 n.f1.f3 n.f2 n.f3 n.f4) (fun k => by rw [lustrumref12_flat.f, if_pos c]) ?_
      have := loop n.f4 [] rfl
      rw [flVL] at this
      exact this
    · rw [if_neg c]
      refine Ev.step (fun k => by rw [lustrumref12_flat.f, if_neg c]) ?_
      rw [S26.eta]
      exact Ev.now _
theorem flat_f : ∀ (m : Nat) (n : S26), nd n ≤ m → nd n ≤ 1048576 → wfN n → saneV n = true → Ev (fun k => canon_flat.f k n.f0 n.f1.f0 n.f1.f1 n.f1.f2 n.f1.f3 n.f2 n.f3 n.f4) (flV n)
  | 0, n, h, _, _, _ => by have := nd_pos n; omega
  | m + 1, n, h, hb, hw, hs => by
    have hn := nd_eq n
    have hl := len_nd n.f4
    have hfl := flVL_len n.f4
    rw [flV_eq]
    by_cases c : n.f0 = 2
    · rw [if_pos c]
      have loop : ∀ (t p : List S26), p ++ t = n.f4 → Ev (fun k => canon_flat.l0 k (flVL p) (p ++ t) ((p ++ t).length : Int) (p.length : Int)) (flVL n.f4) := fun t => by
        induction t with
        | nil =>
          intro p he
          rw [List.append_nil] at he ⊢
          subst he
          refine Ev.step (fun k => by rw [canon_flat.l0, if_neg (by omega)]) ?_
          exact Ev.now _
        | cons x t ih =>
          intro p he
          have hxl : nd x + ndL p ≤ ndL n.f4 := by rw [← he, ndL_app, ndL]; omega
          have hx : x ∈ n.f4 := by rw [← he]; simp
          have hp : (p ++ x :: t).length ≤ 4611686018427387904 := by rw [he]; omega
          have h1 := flV_len _ x (Nat.le_refl _)
          have h2 := flVL_len p
          refine Ev.step (f := fun k => (canon_flat.f k x.f0 x.f1.f0 x.f1.f1 x.f1.f2 x.f1.f3 x.f2 x.f3 x.f4).bind fun t' => if (flVL p).length + t'.length < 8796093022208 then canon_flat.l0 k (flVL p ++ t') (p ++ x :: t) ((p ++ x :: t).length : Int) ((p ++ [x]).length : Int) else none) (fun k => by rw [canon_flat.l0, if_pos (at_lt p x t), if_pos (at_0 p), if_pos (at_lt p x t), at_rd26, at_next hp]) ?_
          refine Ev.bind (flat_f m x (by omega) (by omega) (hw.all x hx) (sane_part hs c hx)) (Ev.ift (by omega) ?_)
          have := ih (p ++ [x]) (by rw [← at_app]; exact he)
          rw [← at_app, flVL_app] at this
          have e1 : flVL [x] = flV x := by rw [flVL, flVL, List.append_nil]
          rw [e1] at this
          exact this
      refine Ev.step (f := fun k => canon_flat.l0 k [] n.f4 (n.f4.length : Int) 0) (fun k => by rw [canon_flat.f, if_pos c]) ?_
      have := loop n.f4 [] rfl
      rw [flVL] at this
      exact this
    · rw [if_neg c]
      refine Ev.step (fun k => by rw [canon_flat.f, if_neg c]) ?_
      refine Ev.bind (pTx_f n hw hb) ?_
      rw [S26.eta]
      exact Ev.now _
theorem tyT_txV (n : S26) (hw : wfN n) (hb : nd n ≤ 1048576) : tyT n = bA (txV n) := by
  obtain ⟨K, hK⟩ := pTx_f n hw hb
  exact tyT_is (hK K (Nat.le_refl _))
abbrev lsT (a b : S26) : Bool := Op.bytesLess (txV a) (txV b)
def putV (n : S26) : List S26 → List S26
  | [] => [n]
  | x :: l => if lsT x n = true then x :: putV n l else if lsT n x = true then n :: x :: l else x :: l
theorem putV_len (n : S26) : ∀ l : List S26, (putV n l).length ≤ l.length + 1
  | [] => by simp [putV]
  | x :: l => by
    have := putV_len n l
    rw [putV]
    split
    · simp only [List.length_cons]; omega
    · split <;> simp
theorem putV_mem (n : S26) : ∀ (l : List S26) (x : S26), x ∈ putV n l → x = n ∨ x ∈ l
  | [], x, h => by simpa [putV] using h
  | y :: l, x, h => by
    rw [putV] at h
    split at h
    · rcases List.mem_cons.1 h with h | h
      · exact .inr (h ▸ List.mem_cons_self)
      · rcases putV_mem n l x h with h | h
        · exact .inl h
        · exact .inr (List.mem_cons_of_mem _ h)
    · split at h
      · rcases List.mem_cons.1 h with h | h
        · exact .inl h
        · exact .inr h
      · exact .inr h
def goodN (x : S26) : Prop := wfN x ∧ nd x ≤ 1048576
theorem put_done (n : S26) (s : ByteArray) : ∀ (t p acc : List S26), (∀ x, x ∈ t → goodN x) → (p ++ t).length ≤ 2097152 → acc.length + t.length ≤ 2097153 →
    Ev (fun k => lustrumref12_put.l0 k (p ++ t) s acc true (p.length : Int) n.f0 n.f1.f0 n.f1.f1 n.f1.f2 n.f1.f3 n.f2 n.f3 n.f4) (acc ++ t)
  | [], p, acc, _, hp, hb => by
    rw [List.append_nil, List.append_nil]
    refine Ev.step (fun k => by rw [lustrumref12_put.l0, if_neg (by omega), if_pos rfl]) ?_
    exact Ev.now _
  | x :: t, p, acc, hg, hp, hb => by
    simp only [List.length_cons] at hb
    have hx := hg x (by simp)
    have hq : (p ++ x :: t).length ≤ 4611686018427387904 := by omega
    refine Ev.step (f := fun k => (qTx k x).bind fun u => lustrumref12_put.j1 k (p ++ x :: t) s acc true (p.length : Int) u false n.f0 n.f1.f0 n.f1.f1 n.f1.f2 n.f1.f3 n.f2 n.f3 n.f4) (fun k => by rw [lustrumref12_put.l0, if_pos (at_lt p x t), if_pos (at_0 p), at_rd26]; rfl) ?_
    refine Ev.bind (qTx_f x hx.1 hx.2) ?_
    refine Ev.step (f := fun k => lustrumref12_put.l0 k (p ++ x :: t) s (acc ++ [x]) true ((p ++ [x]).length : Int) n.f0 n.f1.f0 n.f1.f1 n.f1.f2 n.f1.f3 n.f2 n.f3 n.f4) (fun k => by rw [lustrumref12_put.j1, if_neg (by decide), if_pos (at_0 p), if_pos (at_lt p x t), if_pos (by omega), at_rd26, S26.eta, at_next hq]) ?_
    have := put_done n s t (p ++ [x]) (acc ++ [x]) (fun y hy => hg y (List.mem_cons_of_mem _ hy)) (by rw [← at_app]; exact hp) (by rw [List.length_append, List.length_singleton]; omega)
    rw [← at_app, List.append_assoc] at this
    exact this
theorem put_l0 (n : S26) (hn : goodN n) : ∀ (t p acc : List S26), (∀ x, x ∈ t → goodN x) → (p ++ t).length ≤ 2097152 → acc.length + t.length ≤ 2097152 →
    Ev (fun k => lustrumref12_put.l0 k (p ++ t) (bA (txV n)) acc false (p.length : Int) n.f0 n.f1.f0 n.f1.f1 n.f1.f2 n.f1.f3 n.f2 n.f3 n.f4) (acc ++ putV n t)
  | [], p, acc, _, hp, hb => by
    rw [List.append_nil, putV]
    refine Ev.step (fun k => by rw [lustrumref12_put.l0, if_neg (by omega), if_neg (by decide), if_pos (by simp only [List.length_nil] at hb; omega), S26.eta]) ?_
    exact Ev.now _
  | x :: t, p, acc, hg, hp, hb => by
    simp only [List.length_cons] at hb
    have hx := hg x (by simp)
    have hq : (p ++ x :: t).length ≤ 4611686018427387904 := by omega
    have e1 : (bA (txV x)).toList = txV x := bA_toList _
    have e2 : (bA (txV n)).toList = txV n := bA_toList _
    refine Ev.step (f := fun k => (qTx k x).bind fun u => lustrumref12_put.j1 k (p ++ x :: t) (bA (txV n)) acc false (p.length : Int) u (!(Op.bytesLess u.toList (bA (txV n)).toList)) n.f0 n.f1.f0 n.f1.f1 n.f1.f2 n.f1.f3 n.f2 n.f3 n.f4) (fun k => by rw [lustrumref12_put.l0, if_pos (at_lt p x t), if_pos (at_0 p), at_rd26]; rfl) ?_
    refine Ev.bind (qTx_f x hx.1 hx.2) ?_
    rw [e1, e2, putV]
    by_cases h1 : lsT x n = true
    · rw [if_pos h1]
      have h1' : Op.bytesLess (txV x) (txV n) = true := h1
      refine Ev.step (f := fun k => lustrumref12_put.l0 k (p ++ x :: t) (bA (txV n)) (acc ++ [x]) false ((p ++ [x]).length : Int) n.f0 n.f1.f0 n.f1.f1 n.f1.f2 n.f1.f3 n.f2 n.f3 n.f4) (fun k => by rw [lustrumref12_put.j1, h1', if_neg (by decide), if_pos (at_0 p), if_pos (at_lt p x t), if_pos (by omega), at_rd26, S26.eta, at_next hq]) ?_
      have := put_l0 n hn t (p ++ [x]) (acc ++ [x]) (fun y hy => hg y (List.mem_cons_of_mem _ hy)) (by rw [← at_app]; exact hp) (by rw [List.length_append, List.length_singleton]; omega)
      rw [← at_app, List.append_assoc] at this
      exact this
    · rw [if_neg h1]
      have h1' : Op.bytesLess (txV x) (txV n) = false := by simpa using h1
      have dn := fun (acc' : List S26) (ha : acc'.length + t.length ≤ 2097152) => put_done n (bA (txV n)) t (p ++ [x]) (acc' ++ [x]) (fun y hy => hg y (List.mem_cons_of_mem _ hy)) (by rw [← at_app]; exact hp) (by rw [List.length_append, List.length_singleton]; omega)
      by_cases h2 : lsT n x = true
      · rw [if_pos h2]
        have h2' : Op.bytesLess (bA (txV n)).toList (bA (txV x)).toList = true := by rw [e1, e2]; exact h2
        refine Ev.step (f := fun k => lustrumref12_put.l0 k (p ++ x :: t) (bA (txV n)) ((acc ++ [n]) ++ [x]) true ((p ++ [x]).length : Int) n.f0 n.f1.f0 n.f1.f1 n.f1.f2 n.f1.f3 n.f2 n.f3 n.f4) (fun k => by
          rw [lustrumref12_put.j1, h1', if_pos (by decide), if_pos h2', if_pos (by omega)]
          simp only [Option.bind_some]
          rw [if_pos (at_0 p), if_pos (at_lt p x t), if_pos (by rw [List.length_append, List.length_singleton]; omega), at_rd26, S26.eta, S26.eta, at_next hq]) ?_
        have := dn (acc ++ [n]) (by rw [List.length_append, List.length_singleton]; omega)
        rw [← at_app] at this
        simp only [List.append_assoc, List.cons_append, List.nil_append] at this ⊢
        exact this
      · rw [if_neg h2]
        have h2' : ¬ Op.bytesLess (bA (txV n)).toList (bA (txV x)).toList = true := by rw [e1, e2]; exact h2
        refine Ev.step (f := fun k => lustrumref12_put.l0 k (p ++ x :: t) (bA (txV n)) (acc ++ [x]) true ((p ++ [x]).length : Int) n.f0 n.f1.f0 n.f1.f1 n.f1.f2 n.f1.f3 n.f2 n.f3 n.f4) (fun k => by
          rw [lustrumref12_put.j1, h1', if_pos (by decide), if_neg h2', if_pos (at_0 p), if_pos (at_lt p x t), if_pos (by omega), at_rd26, S26.eta, at_next hq]) ?_
        have := dn acc (by omega)
        rw [← at_app] at this
        simp only [List.append_assoc, List.cons_append, List.nil_append] at this ⊢
        exact this
theorem put_f (n : S26) (hn : goodN n) (l : List S26) (hg : ∀ x, x ∈ l → goodN x) (hl : l.length ≤ 2097152) : Ev (fun k => lustrumref12_put.f k l n.f0 n.f1.f0 n.f1.f1 n.f1.f2 n.f1.f3 n.f2 n.f3 n.f4) (putV n l) := by
  refine Ev.bind (qTx_f n hn.1 hn.2) ?_
  exact put_l0 n hn l [] [] hg (by simpa using hl) (by simpa using hl)
end Go.Proofs.Ytfehdlkklfcnpaa.A