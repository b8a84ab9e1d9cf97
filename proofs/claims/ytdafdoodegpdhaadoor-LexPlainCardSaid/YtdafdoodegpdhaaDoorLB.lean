/- Contracts of Go's library for the lexer, laid off the shelf (printed by wip/lays.py): strings.HasPrefix, HasSuffix, IndexByte, Index; and lex's small functions on bytes. -/
import Derived.Test.YtdafdoodegpdhaaDoorPB
import Derived.Test.YtdafdoodegpdhaaDoorPMA
import Derived.Test.YtdafdoodegpdhaaDoorPMD
import Derived.Test.YtdafdoodegpdhaaDoorPMF
import Derived.Test.YtdafdoodegpdhaaDoorLA
import Derived.Shelf.Strings.Prefix
import Derived.Shelf.Small.Strs
import Derived.Shelf.Strings.Search3
namespace Go.Proofs.YtdafdoodegpdhaaDoor
open Go Go.RowKit Go.BigFrame
set_option linter.unusedVariables false
set_option linter.unusedSimpArgs false
set_option maxRecDepth 100000
def layPre_ren : Go.Shelf.Ren := ⟨fun | 99 => 57 | 206 => 75 | n => n, fun | 3 => 3 | 4 => 4 | 9 => 9 | n => n, fun | n => n⟩
theorem layPre : Go.Proofs.Lays.n99 Tryd.prog layPre_ren := {
  mixed := by kernel_rfl
  f99 := Tryd.func57.trans (congrArg some (by kernel_rfl))
  f206 := Tryd.func75.trans (congrArg some (by kernel_rfl))
  t3 := Tryd.underlying3
  a3 := Tryd.isAgg3
  z3 := Tryd.sizeOf3
  v3 := Tryd.zeroValue3
  t4 := Tryd.underlying4
  a4 := Tryd.isAgg4
  z4 := Tryd.sizeOf4
  v4 := Tryd.zeroValue4
  t9 := Tryd.underlying9
  a9 := Tryd.isAgg9
  z9 := Tryd.sizeOf9
  v9 := Tryd.zeroValue9 }
def laySuf_ren : Go.Shelf.Ren := ⟨fun | 100 => 86 | 207 => 106 | n => n, fun | 3 => 3 | 4 => 4 | 9 => 9 | n => n, fun | n => n⟩
theorem laySuf : Go.Proofs.Lays.n100 Tryd.prog laySuf_ren := {
  mixed := by kernel_rfl
  f100 := Tryd.func86.trans (congrArg some (by kernel_rfl))
  f207 := Tryd.func106.trans (congrArg some (by kernel_rfl))
  t3 := Tryd.underlying3
  a3 := Tryd.isAgg3
  z3 := Tryd.sizeOf3
  v3 := Tryd.zeroValue3
  t4 := Tryd.underlying4
  a4 := Tryd.isAgg4
  z4 := Tryd.sizeOf4
  v4 := Tryd.zeroValue4
  t9 := Tryd.underlying9
  a9 := Tryd.isAgg9
  z9 := Tryd.sizeOf9
  v9 := Tryd.zeroValue9 }
def layIB_ren : Go.Shelf.Ren := ⟨fun | 137 => 38 | 217 => 54 | 266 => 73 | n => n, fun | 3 => 3 | 5 => 5 | 9 => 9 | n => n, fun | n => n⟩
theorem layIB : Go.Proofs.Lays.n137 Tryd.prog layIB_ren := {
  mixed := by kernel_rfl
  f137 := Tryd.func38.trans (congrArg some (by kernel_rfl))
  f217 := Tryd.func54.trans (congrArg some (by kernel_rfl))
  f266 := Tryd.func73.trans (congrArg some (by kernel_rfl))
  t3 := Tryd.underlying3
  a3 := Tryd.isAgg3
  z3 := Tryd.sizeOf3
  v3 := Tryd.zeroValue3
  t5 := Tryd.underlying5
  a5 := Tryd.isAgg5
  z5 := Tryd.sizeOf5
  v5 := Tryd.zeroValue5
  t9 := Tryd.underlying9
  a9 := Tryd.isAgg9
  z9 := Tryd.sizeOf9
  v9 := Tryd.zeroValue9 }
def layIx_ren : Go.Shelf.Ren := ⟨fun | 143 => 60 | 217 => 54 | 219 => 79 | 224 => 104 | 225 => 103 | 266 => 73 | 267 => 105 | 314 => 132 | n => n, fun | 3 => 3 | 4 => 4 | 5 => 5 | 9 => 9 | 46 => 120 | 51 => 122 | 146 => 142 | n => n, fun | 1 => 0 | n => n⟩
theorem layIx : Go.Proofs.Lays.n143 Tryd.prog layIx_ren := {
  mixed := by kernel_rfl
  f143 := Tryd.func60.trans (congrArg some (by kernel_rfl))
  f217 := Tryd.func54.trans (congrArg some (by kernel_rfl))
  f219 := Tryd.func79.trans (congrArg some (by kernel_rfl))
  f224 := Tryd.func104.trans (congrArg some (by kernel_rfl))
  f225 := Tryd.func103.trans (congrArg some (by kernel_rfl))
  f266 := Tryd.func73.trans (congrArg some (by kernel_rfl))
  f267 := Tryd.func105.trans (congrArg some (by kernel_rfl))
  f314 := Tryd.func132.trans (congrArg some (by kernel_rfl))
  t3 := Tryd.underlying3
  a3 := Tryd.isAgg3
  z3 := Tryd.sizeOf3
  v3 := Tryd.zeroValue3
  t4 := Tryd.underlying4
  a4 := Tryd.isAgg4
  z4 := Tryd.sizeOf4
  v4 := Tryd.zeroValue4
  t5 := Tryd.underlying5
  a5 := Tryd.isAgg5
  z5 := Tryd.sizeOf5
  v5 := Tryd.zeroValue5
  t9 := Tryd.underlying9
  a9 := Tryd.isAgg9
  z9 := Tryd.sizeOf9
  v9 := Tryd.zeroValue9
  t46 := Tryd.underlying120
  a46 := Tryd.isAgg120
  z46 := Tryd.sizeOf120
  v46 := Tryd.zeroValue120
  t51 := Tryd.underlying122
  a51 := Tryd.isAgg122
  z51 := Tryd.sizeOf122
  v51 := Tryd.zeroValue122
  t146 := Tryd.underlying142
  a146 := Tryd.isAgg142
  z146 := Tryd.sizeOf142
  v146 := Tryd.zeroValue142
  g1 := by kernel_rfl }

theorem HasPrefix_any (s p : ByteArray) (w : World) : Calls Tryd.prog 57 #[.string s, .string p] w (RVal (.bool (Lib.hasPrefix s.data.toList p.data.toList)) w) :=
  (Any.strings_HasPrefix layPre s p w).mono fun _ _ ⟨h1, h2⟩ => ⟨h1, h2 ▸ Ext.refl w⟩
theorem HasSuffix_any (s p : ByteArray) (w : World) (hs : s.size ≤ 9223372036854775807) : Calls Tryd.prog 86 #[.string s, .string p] w (RVal (.bool (Lib.hasSuffix s.data.toList p.data.toList)) w) :=
  (Any.strings_HasSuffix laySuf s p w hs).mono fun _ _ ⟨h1, h2⟩ => ⟨h1, h2 ▸ Ext.refl w⟩
theorem IndexByte_any (s : ByteArray) (c : UInt8) (z : Int) (hz : z = (c.toNat : Int)) (w : World) : Calls Tryd.prog 38 #[.string s, .int .u8 z] w (RVal (.int .i64 (Lib.indexByte s.data.toList c)) w) := by
  subst hz
  refine (Any.strings_IndexByte layIB s (c.toNat : Int) w).mono fun _ _ ⟨h1, h2⟩ => ⟨h1.trans ?_, h2 ▸ Ext.refl w⟩
  have e : ((c.toNat : Int)).toNat.toUInt8 = c := by simp
  rw [e]
theorem Index_any (s sub : ByteArray) (m : Int) (w : World) (hs : s.size < 4294967281) (hm : w.cell? ⟨0, 0, none⟩ = some (.int .i64 m)) : Calls Tryd.prog 60 #[.string s, .string sub] w (RVal (.int .i64 (Lib.index s.data.toList sub.data.toList)) w) :=
  (Any.strings_Index layIx s sub m w hs hm).mono fun _ _ ⟨h1, h2⟩ => ⟨h1, h2 ▸ Ext.refl w⟩

set_option maxHeartbeats 400000 in
theorem xdigit_any (c : UInt8) (w : World) : Calls Tryd.prog 83 #[.int .u8 (c.toNat : Int)] w (RBool (digitB c) w) := by
  have x := Ext.refl w
  obtain ⟨b, hb⟩ : ∃ b, digitB c = b := ⟨_, rfl⟩
  rw [hb]
  unfold digitB at hb
  have HB := Lib.hid hb
  clear hb
  by_cases h1 : (48 : Int) ≤ (c.toNat : Int)
  · by_cases h2 : (c.toNat : Int) ≤ 57
    · have e : b = true := by rw [← HB.out]; exact decide_eq_true (by omega)
      subst e
      go_enter Tryd.func83, Tryd.ntmps83
      go_wp2
      go_ret
      exact ⟨rfl, x⟩
    · have e : b = false := by rw [← HB.out]; exact decide_eq_false (by omega)
      subst e
      go_enter Tryd.func83, Tryd.ntmps83
      go_wp2
      go_ret
      exact ⟨rfl, x⟩
  · have e : b = false := by rw [← HB.out]; exact decide_eq_false (by omega)
    subst e
    go_enter Tryd.func83, Tryd.ntmps83
    go_wp2
    go_ret
    exact ⟨rfl, x⟩
set_option maxHeartbeats 400000 in
theorem xblank_any (c : UInt8) (w : World) : Calls Tryd.prog 85 #[.int .u8 (c.toNat : Int)] w (RBool (blankB c) w) := by
  have x := Ext.refl w
  obtain ⟨b, hb⟩ : ∃ b, blankB c = b := ⟨_, rfl⟩
  rw [hb]
  have hbi : ∀ c : UInt8, blankB c = decide (c.toNat = 32 ∨ 9 ≤ c.toNat ∧ c.toNat ≤ 13 ∧ c.toNat ≠ 11) := by
    exact all_bytes (p := fun c => blankB c = decide (c.toNat = 32 ∨ 9 ≤ c.toNat ∧ c.toNat ≤ 13 ∧ c.toNat ≠ 11)) (by decide +kernel)
  have HB := Lib.hid ((hbi c).symm.trans hb)
  clear hb hbi
  by_cases h0 : c.toNat = 32
  · have e : b = true := by rw [← HB.out]; exact decide_eq_true (.inl h0)
    have e0 : ((c.toNat : Int) == 32) = true := by rw [h0]; rfl
    subst e
    clear h0
    go_enter Tryd.func85, Tryd.ntmps85
    go_wp2
    go_ret
    exact ⟨rfl, x⟩
  have e0 : ((c.toNat : Int) == 32) = false := by rw [beq_eq_false_iff_ne]; omega
  by_cases h1 : (9 : Int) ≤ (c.toNat : Int)
  · by_cases h2 : (c.toNat : Int) ≤ 13
    · by_cases h3 : c.toNat = 11
      · have e : b = false := by rw [← HB.out]; exact decide_eq_false (by omega)
        have e1 : ((c.toNat : Int) == 11) = true := by rw [h3]; rfl
        have e2 : ((c.toNat : Int) != 11) = false := by simp [bne, e1]
        subst e
        clear h3 h0
        go_enter Tryd.func85, Tryd.ntmps85
        go_wp2
        go_ret
        exact ⟨by first | rfl | (rw [e2]), x⟩
      · have e : b = true := by rw [← HB.out]; exact decide_eq_true (by omega)
        have e1 : ((c.toNat : Int) == 11) = false := by rw [beq_eq_false_iff_ne]; omega
        have e2 : ((c.toNat : Int) != 11) = true := by simp [bne, e1]
        subst e
        clear h3 h0
        go_enter Tryd.func85, Tryd.ntmps85
        go_wp2
        go_ret
        exact ⟨by first | rfl | (rw [e2]), x⟩
    · have e : b = false := by rw [← HB.out]; exact decide_eq_false (by omega)
      subst e
      go_enter Tryd.func85, Tryd.ntmps85
      go_wp2
      go_ret
      exact ⟨rfl, x⟩
  · have e : b = false := by rw [← HB.out]; exact decide_eq_false (by omega)
    subst e
    go_enter Tryd.func85, Tryd.ntmps85
    go_wp2
    go_ret
    exact ⟨rfl, x⟩
/-- the option's text, and whether there is one -/
def optV (o : Option (List UInt8)) : Value := .tuple #[.string (bs (o.getD [])), .bool o.isSome]
theorem list_beq (a b : List UInt8) : ((bs a).toList == (bs b).toList) = decide (a = b) := by
  rw [ByteArray.toList_eq, ByteArray.toList_eq]
  have e1 : (bs a).data.toList = a := by simp
  have e2 : (bs b).data.toList = b := by simp
  rw [e1, e2, Bool.eq_iff_iff, beq_iff_eq, decide_eq_true_eq]
set_option maxHeartbeats 1000000 in
theorem named_any (s : ByteArray) (w : World) : Calls Tryd.prog 56 #[.string s] w (RVal (optV (namedL s.data.toList)) w) := by
  have x := Ext.refl w
  obtain ⟨r, hr⟩ : ∃ r, namedL s.data.toList = r := ⟨_, rfl⟩
  rw [hr]
  unfold namedL at hr
  have HR := Lib.hid hr
  clear hr
  by_cases h0 : s.data.toList = [97, 109, 112]
  · have e : r = some [38] := by rw [← HR.out, if_pos h0]
    have e0 : (s.toList == ([97, 109, 112] : List UInt8)) = true := by rw [ByteArray.toList_eq, h0]; rfl
    subst e
    clear  h0
    go_enter Tryd.func56, Tryd.ntmps56
    go_wp2
    go_ret2
    exact ⟨rfl, x⟩
  have e0 : (s.toList == ([97, 109, 112] : List UInt8)) = false := by rw [ByteArray.toList_eq, beq_eq_false_iff_ne]; exact h0
  by_cases h1 : s.data.toList = [108, 116]
  · have e : r = some [60] := by rw [← HR.out, if_neg h0, if_pos h1]
    have e1 : (s.toList == ([108, 116] : List UInt8)) = true := by rw [ByteArray.toList_eq, h1]; rfl
    subst e
    clear h0 h1
    go_enter Tryd.func56, Tryd.ntmps56
    go_wp2
    go_ret2
    exact ⟨rfl, x⟩
  have e1 : (s.toList == ([108, 116] : List UInt8)) = false := by rw [ByteArray.toList_eq, beq_eq_false_iff_ne]; exact h1
  by_cases h2 : s.data.toList = [103, 116]
  · have e : r = some [62] := by rw [← HR.out, if_neg h0, if_neg h1, if_pos h2]
    have e2 : (s.toList == ([103, 116] : List UInt8)) = true := by rw [ByteArray.toList_eq, h2]; rfl
    subst e
    clear h0 h1 h2
    go_enter Tryd.func56, Tryd.ntmps56
    go_wp2
    go_ret2
    exact ⟨rfl, x⟩
  have e2 : (s.toList == ([103, 116] : List UInt8)) = false := by rw [ByteArray.toList_eq, beq_eq_false_iff_ne]; exact h2
  by_cases h3 : s.data.toList = [113, 117, 111, 116]
  · have e : r = some [34] := by rw [← HR.out, if_neg h0, if_neg h1, if_neg h2, if_pos h3]
    have e3 : (s.toList == ([113, 117, 111, 116] : List UInt8)) = true := by rw [ByteArray.toList_eq, h3]; rfl
    subst e
    clear h0 h1 h2 h3
    go_enter Tryd.func56, Tryd.ntmps56
    go_wp2
    go_ret2
    exact ⟨rfl, x⟩
  have e3 : (s.toList == ([113, 117, 111, 116] : List UInt8)) = false := by rw [ByteArray.toList_eq, beq_eq_false_iff_ne]; exact h3
  by_cases h4 : s.data.toList = [97, 112, 111, 115]
  · have e : r = some [39] := by rw [← HR.out, if_neg h0, if_neg h1, if_neg h2, if_neg h3, if_pos h4]
    have e4 : (s.toList == ([97, 112, 111, 115] : List UInt8)) = true := by rw [ByteArray.toList_eq, h4]; rfl
    subst e
    clear h0 h1 h2 h3 h4
    go_enter Tryd.func56, Tryd.ntmps56
    go_wp2
    go_ret2
    exact ⟨rfl, x⟩
  have e4 : (s.toList == ([97, 112, 111, 115] : List UInt8)) = false := by rw [ByteArray.toList_eq, beq_eq_false_iff_ne]; exact h4
  by_cases h5 : s.data.toList = [110, 98, 115, 112]
  · have e : r = some [194, 160] := by rw [← HR.out, if_neg h0, if_neg h1, if_neg h2, if_neg h3, if_neg h4, if_pos h5]
    have e5 : (s.toList == ([110, 98, 115, 112] : List UInt8)) = true := by rw [ByteArray.toList_eq, h5]; rfl
    subst e
    clear h0 h1 h2 h3 h4 h5
    go_enter Tryd.func56, Tryd.ntmps56
    go_wp2
    go_ret2
    exact ⟨rfl, x⟩
  have e5 : (s.toList == ([110, 98, 115, 112] : List UInt8)) = false := by rw [ByteArray.toList_eq, beq_eq_false_iff_ne]; exact h5
  have e : r = none := by rw [← HR.out, if_neg h0, if_neg h1, if_neg h2, if_neg h3, if_neg h4, if_neg h5]
  subst e
  clear h0 h1 h2 h3 h4 h5
  go_enter Tryd.func56, Tryd.ntmps56
  go_wp2
  go_ret2
  exact ⟨rfl, x⟩
theorem bits_or32 (c : UInt8) : bits BinOp.or IntKind.u8 (c.toNat : Int) 32 = ((c ||| 32).toNat : Int) := by
  revert c
  exact all_bytes (p := fun c => bits BinOp.or IntKind.u8 (c.toNat : Int) 32 = ((c ||| 32).toNat : Int)) (by decide +kernel)
set_option maxHeartbeats 400000 in
theorem xletter_any (c : UInt8) (w : World) : Calls Tryd.prog 62 #[.int .u8 (c.toNat : Int)] w (RBool (letterB c) w) := by
  have x := Ext.refl w
  obtain ⟨b, hb⟩ : ∃ b, letterB c = b := ⟨_, rfl⟩
  rw [hb]
  unfold letterB at hb
  have hor := bits_or32 c
  generalize c ||| 32 = d at *
  have HB := Lib.hid hb
  clear hb
  by_cases h1 : (97 : Int) ≤ (d.toNat : Int)
  · by_cases h2 : (d.toNat : Int) ≤ 122
    · have e : b = true := by rw [← HB.out]; exact decide_eq_true (by omega)
      subst e
      go_enter Tryd.func62, Tryd.ntmps62
      go_wp2
      go_ret
      exact ⟨rfl, x⟩
    · have e : b = false := by rw [← HB.out]; exact decide_eq_false (by omega)
      subst e
      go_enter Tryd.func62, Tryd.ntmps62
      go_wp2
      go_ret
      exact ⟨rfl, x⟩
  · have e : b = false := by rw [← HB.out]; exact decide_eq_false (by omega)
    subst e
    go_enter Tryd.func62, Tryd.ntmps62
    go_wp2
    go_ret
    exact ⟨rfl, x⟩
set_option maxHeartbeats 400000 in
/-- a text written anew -/
theorem xanew_any (s : ByteArray) (hs : s.size ≤ 1000000000000) (w : World) : Calls Tryd.prog 37 #[.string s] w (RVal (.string (anewB s)) w) := by
  obtain ⟨v, w', h1, v2, hv, hx, hr, hc⟩ := runes_run s hs w
  cases hv
  have H1 := Lib.hid h1
  have H2 := Lib.hid (hc w' (Ext.refl w'))
  have HX := Lib.hid hx
  clear h1 hr hc hx hs
  go_enter Tryd.func37, Tryd.ntmps37
  go_wp2_with fail
  rw [H1.out]
  go_wp2_with fail
  rw [H2.out]
  go_wp2_with fail
  go_ret
  exact ⟨rfl, HX.out⟩
/-- no byte of the row is shared with a string -/
def Fr (g cap : Nat) (w : World) : Prop := ∃ cur fz, w.heap[g]? = some (.cells cur 5 fz) ∧ cap ≤ fz.1
theorem run_toBytesF (w : World) (s : ByteArray) (hs : s.size ≤ 140737488355328) : ∃ g cap w', (Go.convert 9 30 (.string s)).run Tryd.prog w = .ok (.slice (some ⟨g, 0, none⟩) s.size cap) w' ∧ Buf w (.slice (some ⟨g, 0, none⟩) s.size cap) s.data.toList w' ∧ Fr g cap w' := by
  obtain ⟨v, w', h1, h2⟩ := run_toBytes w s hs
  have h3 := Lib.run_convert_string_bytes (P := Tryd.prog) w 9 30 5 s Tryd.underlying9 Tryd.underlying30 Tryd.underlying5
  rw [h3] at h1
  injection h1 with e1 e2
  subst e1
  subst e2
  refine ⟨_, _, _, h3, h2, _, _, Lib.bytesWorld_at_new w 5 s, ?_⟩
  have hge := grownCap_ge w s.size 0 5
  have : (Lib.bytesCells w 5 s).size = grownCap w s.size 0 5 := by
    unfold Lib.bytesCells
    simp
    show s.size + _ = _
    omega
  exact Nat.le_of_eq this.symm
/-- one byte of a row in new memory is written -/
theorem Buf.set {W0 w : World} {l : List UInt8} {g n cap : Nat} (h : Buf W0 (.slice (some ⟨g, 0, none⟩) n cap) l w) (hf : Fr g cap w) {k : Nat} (hk : k < l.length) (c : UInt8) :
    w.frozen? ⟨g, k, none⟩ = false ∧ Buf W0 (.slice (some ⟨g, 0, none⟩) n cap) (l.set k c) (w.setCell ⟨g, k, none⟩ (.int .u8 (c.toNat : Int))) ∧ Fr g cap (w.setCell ⟨g, k, none⟩ (.int .u8 (c.toNat : Int))) := by
  obtain ⟨g', cap', cur, fz, h1, h2, h3, h4, h5, h6, h7, h8, h9, h10⟩ := h
  cases h1
  obtain ⟨cur2, fz2, h11, h12⟩ := hf
  rw [h3] at h11
  cases h11
  refine ⟨?_, ⟨g, cap, _, fz, by rw [List.length_set], h2, heap_setCell_same (i := k) h3 _, by rw [List.length_set]; exact h4, by rw [List.length_set]; exact h5, h6, by simpa using h7, ?_, h9.setCell (p := ⟨g, k, none⟩) h2 _, by simpa using h10⟩, _, fz, heap_setCell_same (i := k) h3 _, h12⟩
  · unfold World.frozen?
    simp only [h3]
    simp
    omega
  · rw [Array.toList_setIfInBounds, List.length_set, List.take_set, h8]
    unfold Lib.byteCells
    rw [List.map_set]
theorem part_step {l : List UInt8} {k : Nat} {c : UInt8} (h : l[k]? = some c) : (l.take (k + 1)).map smallC ++ l.drop (k + 1) = ((l.take k).map smallC ++ l.drop k).set k (smallC c) := by
  obtain ⟨hk, e⟩ := List.getElem?_eq_some_iff.1 h
  have hm : min k l.length = k := Nat.min_eq_left (Nat.le_of_lt hk)
  rw [List.take_succ_eq_append_getElem hk, List.map_append, List.drop_eq_getElem_cons hk, e, List.set_append_right _ _ (by simp; omega)]
  simp [hm]
theorem part_same {l : List UInt8} {k : Nat} {c : UInt8} (h : l[k]? = some c) (hc : smallC c = c) : (l.take (k + 1)).map smallC ++ l.drop (k + 1) = (l.take k).map smallC ++ l.drop k := by
  obtain ⟨hk, e⟩ := List.getElem?_eq_some_iff.1 h
  rw [List.take_succ_eq_append_getElem hk, List.map_append, List.drop_eq_getElem_cons hk, e]
  simp [hc]
set_option maxHeartbeats 1000000 in
/-- with small letters -/
theorem small_any (s : ByteArray) (hs : s.size ≤ 1000000000000) (w : World) : Calls Tryd.prog 81 #[.string s] w (RVal (.string (bs (s.data.toList.map smallC))) w) := by
  obtain ⟨g, cap, w1, h1, hb1, hf1⟩ := run_toBytesF w s (by omega)
  have hsz : s.data.toList.length = s.size := rfl
  obtain ⟨l, hl⟩ : ∃ l, s.data.toList = l := ⟨_, rfl⟩
  obtain ⟨N, hN⟩ : ∃ N, s.size = N := ⟨_, rfl⟩
  rw [hl] at hb1 hsz ⊢
  rw [hN] at hsz hb1 h1 hs
  have H1 := Lib.hid h1
  have HB1 := Lib.hid hb1
  have HF1 := Lib.hid hf1
  clear h1 hb1 hf1 hl hN
  go_enter Tryd.func81, Tryd.ntmps81
  go_wp2_with fail
  rw [H1.out]
  go_wp2_with fail
  go_loopw [4, 5, 10] (fun _ _ i wr => ∃ k : Nat, k ≤ N ∧ i = .int .i64 k ∧ Buf w (.slice (some ⟨g, 0, none⟩) N cap) ((l.take k).map smallC ++ l.drop k) wr ∧ Fr g cap wr) (fun _ _ i _ => N - (intOf i).toNat)
  case atStart => exact ⟨0, Nat.zero_le _, rfl, by simpa using HB1.out, HF1.out⟩
  case round =>
    obtain ⟨k, hk, rfl, hbr, hfr⟩ := hrel
    have HBR := Lib.hid hbr
    have HFR := Lib.hid hfr
    by_cases hlt : k < N
    · obtain ⟨c, hc⟩ : ∃ c, l[k]? = some c := ⟨l[k]'(by omega), List.getElem?_eq_getElem (by omega)⟩
      have hlen : ((l.take k).map smallC ++ l.drop k).length = N := by simp; omega
      have hcur : ((l.take k).map smallC ++ l.drop k)[k]? = some c := by
        rw [List.getElem?_append_right (by simp; omega)]
        have hm : min k l.length = k := Nat.min_eq_left (by omega)
        simp [hm, hc]
      have q := hbr.cells rfl k (.int .u8 (c.toNat : Int)) (by unfold Lib.byteCells; rw [List.getElem?_map, hcur]; rfl)
      rw [Addr.add_lit, Nat.zero_add] at q
      obtain ⟨fq, hset, hfs⟩ := hbr.set hfr (k := k) (by omega) (smallC c)
      rw [← part_step hc] at hset
      have HSET := Lib.hid (And.intro hset hfs)
      have HSAME := Lib.hid (fun h : smallC c = c => part_same hc h)
      have hor := bits_or32 c
      clear hset hbr hcur hlen hc hfr hfs
      by_cases b1 : (65 : Int) ≤ (c.toNat : Int)
      · by_cases b2 : (c.toNat : Int) ≤ 90
        · have e : smallC c = c ||| 32 := by unfold smallC; rw [if_pos ⟨by omega, by omega⟩]
          rw [e] at HSET
          clear e
          go_wp2_with fail
          go_roundw
          case rel => exact ⟨k + 1, by omega, by go_num, HSET.out.1, HSET.out.2⟩
          case measure => simp [intOf]; omega
        · have e := HSAME.out (by unfold smallC; rw [if_neg (by omega)])
          have HSM := Lib.hid e
          clear e
          go_wp2_with fail
          go_roundw
          case rel => exact ⟨k + 1, by omega, by go_num, by rw [HSM.out]; exact HBR.out, HFR.out⟩
          case measure => simp [intOf]; omega
      · have e := HSAME.out (by unfold smallC; rw [if_neg (by omega)])
        have HSM := Lib.hid e
        clear e
        go_wp2_with fail
        go_roundw
        case rel => exact ⟨k + 1, by omega, by go_num, by rw [HSM.out]; exact HBR.out, HFR.out⟩
        case measure => simp [intOf]; omega
    · obtain rfl : k = N := by omega
      have e : (l.take k).map smallC ++ l.drop k = l.map smallC := by rw [List.take_of_length_le (by omega), List.drop_eq_nil_of_le (by omega), List.append_nil]
      rw [e] at hbr HBR
      have hcv := run_ofBytes hbr
      have HCV := Lib.hid hcv
      clear hbr hcv e
      go_wp2_with fail
      rw [HCV.out]
      go_wp2_with fail
      go_ret
      exact ⟨rfl, HBR.out.ex⟩
end Go.Proofs.YtdafdoodegpdhaaDoor
