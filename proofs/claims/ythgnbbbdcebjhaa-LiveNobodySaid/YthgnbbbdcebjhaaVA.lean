/- Package live: what is answered of a nil tree, and of one that New did not make. No conditions. -/
import Derived.Test.YthgnbbbdcebjhaaV3
import Derived.Test.YthgnbbbdcebjhaaVQ
namespace Go.Proofs.Ythgnbbbdcebjhaa
open Go Go.RowKit Go.BigFrame
set_option linter.unusedVariables false
set_option linter.unusedSimpArgs false

theorem none_nil (w : World) : Calls Try.prog 17 #[.pointer none] w (RSame (.bool true) w) := by
  go_enter Try.func17, Try.ntmps17
  go_wp2_with fail
  go_ret
  exact ⟨rfl, rfl⟩
theorem none_bare {w : World} {b : Nat} (h : w.cell? ⟨b, 0, none⟩ = some (.pointer none)) : Calls Try.prog 17 #[.pointer (some ⟨b, 0, none⟩)] w (RSame (.bool true) w) := by
  go_enter Try.func17, Try.ntmps17
  go_wp2_with fail
  go_ret
  exact ⟨rfl, rfl⟩
theorem none_some {w : World} {b : Nat} {a : Addr} (h : w.cell? ⟨b, 0, none⟩ = some (.pointer (some a))) : Calls Try.prog 17 #[.pointer (some ⟨b, 0, none⟩)] w (RSame (.bool false) w) := by
  go_enter Try.func17, Try.ntmps17
  go_wp2_with fail
  go_ret
  exact ⟨rfl, rfl⟩
/-- a live tree that is none -/
def NoneIs (pv : Value) (w : World) : Prop := pv = .pointer none ∨ ∃ b, pv = .pointer (some ⟨b, 0, none⟩) ∧ w.cell? ⟨b, 0, none⟩ = some (.pointer none)
theorem NoneIs.ext {pv : Value} {w w' : World} (h : NoneIs pv w) (x : Ext w w') : NoneIs pv w' := by
  rcases h with h | ⟨b, h1, h2⟩
  · exact .inl h
  · exact .inr ⟨b, h1, x.cell h2⟩
theorem NoneIs.calls {pv : Value} {w : World} (h : NoneIs pv w) : Calls Try.prog 17 #[pv] w (RSame (.bool true) w) := by
  rcases h with rfl | ⟨b, rfl, h2⟩
  · exact none_nil w
  · exact none_bare h2
theorem NoneIs.ptr {pv : Value} {w : World} (h : NoneIs pv w) : ∃ a, pv = .pointer a := by
  rcases h with rfl | ⟨b, rfl, _⟩
  · exact ⟨_, rfl⟩
  · exact ⟨_, rfl⟩
set_option maxHeartbeats 1000000 in
theorem vInsert_none {pv : Value} {w : World} (h : NoneIs pv w) (x y z : Int) : Calls Try.prog 10 #[pv, .int .i64 x, .int .i64 y, .int .i64 z] w (RVal (.int .i64 1) w) := by
  obtain ⟨a, rfl⟩ := h.ptr
  have HC := Lib.hid (fun (W : World) (x : Ext w W) => (h.ext x).calls)
  have xw := Ext.refl w
  clear h
  go_enter Try.func10, Try.ntmps10
  go_wp2_with (go_at_call 17; refine (HC.out _ (by first | exact Ext.refl _ | exact ((Ext.refl _).alloc _) | exact (((Ext.refl _).alloc _).alloc _) | exact ((((Ext.refl _).alloc _).alloc _).alloc _))).mono ?_; rintro e w' ⟨rfl, rfl⟩)
  go_ret
  exact ⟨rfl, by first | exact Ext.refl _ | exact ((Ext.refl _).alloc _) | exact (((Ext.refl _).alloc _).alloc _) | exact ((((Ext.refl _).alloc _).alloc _).alloc _)⟩
set_option maxHeartbeats 1000000 in
theorem vRemove_none {pv : Value} {w : World} (h : NoneIs pv w) (x : Int) : Calls Try.prog 11 #[pv, .int .i64 x] w (RVal (.int .i64 1) w) := by
  obtain ⟨a, rfl⟩ := h.ptr
  have HC := Lib.hid (fun (W : World) (x : Ext w W) => (h.ext x).calls)
  have xw := Ext.refl w
  clear h
  go_enter Try.func11, Try.ntmps11
  go_wp2_with (go_at_call 17; refine (HC.out _ (by first | exact Ext.refl _ | exact ((Ext.refl _).alloc _) | exact (((Ext.refl _).alloc _).alloc _) | exact ((((Ext.refl _).alloc _).alloc _).alloc _))).mono ?_; rintro e w' ⟨rfl, rfl⟩)
  go_ret
  exact ⟨rfl, by first | exact Ext.refl _ | exact ((Ext.refl _).alloc _) | exact (((Ext.refl _).alloc _).alloc _) | exact ((((Ext.refl _).alloc _).alloc _).alloc _)⟩
set_option maxHeartbeats 1000000 in
theorem vDrop_none {pv : Value} {w : World} (h : NoneIs pv w) (x : Int) : Calls Try.prog 12 #[pv, .int .i64 x] w (RVal (.int .i64 1) w) := by
  obtain ⟨a, rfl⟩ := h.ptr
  have HC := Lib.hid (fun (W : World) (x : Ext w W) => (h.ext x).calls)
  have xw := Ext.refl w
  clear h
  go_enter Try.func12, Try.ntmps12
  go_wp2_with (go_at_call 17; refine (HC.out _ (by first | exact Ext.refl _ | exact ((Ext.refl _).alloc _) | exact (((Ext.refl _).alloc _).alloc _) | exact ((((Ext.refl _).alloc _).alloc _).alloc _))).mono ?_; rintro e w' ⟨rfl, rfl⟩)
  go_ret
  exact ⟨rfl, by first | exact Ext.refl _ | exact ((Ext.refl _).alloc _) | exact (((Ext.refl _).alloc _).alloc _) | exact ((((Ext.refl _).alloc _).alloc _).alloc _)⟩
set_option maxHeartbeats 1000000 in
theorem vFree_none {pv : Value} {w : World} (h : NoneIs pv w) (x : Int) : Calls Try.prog 8 #[pv, .int .i64 x] w (RVal (.int .i64 1) w) := by
  obtain ⟨a, rfl⟩ := h.ptr
  have HC := Lib.hid (fun (W : World) (x : Ext w W) => (h.ext x).calls)
  have xw := Ext.refl w
  clear h
  go_enter Try.func8, Try.ntmps8
  go_wp2_with (go_at_call 17; refine (HC.out _ (by first | exact Ext.refl _ | exact ((Ext.refl _).alloc _) | exact (((Ext.refl _).alloc _).alloc _) | exact ((((Ext.refl _).alloc _).alloc _).alloc _))).mono ?_; rintro e w' ⟨rfl, rfl⟩)
  go_ret
  exact ⟨rfl, by first | exact Ext.refl _ | exact ((Ext.refl _).alloc _) | exact (((Ext.refl _).alloc _).alloc _) | exact ((((Ext.refl _).alloc _).alloc _).alloc _)⟩
set_option maxHeartbeats 1000000 in
theorem vSetText_none {pv : Value} {w : World} (h : NoneIs pv w) (x : Int) (s : ByteArray) : Calls Try.prog 14 #[pv, .int .i64 x, .string s] w (RVal (.int .i64 1) w) := by
  obtain ⟨a, rfl⟩ := h.ptr
  have HC := Lib.hid (fun (W : World) (x : Ext w W) => (h.ext x).calls)
  have xw := Ext.refl w
  clear h
  go_enter Try.func14, Try.ntmps14
  go_wp2_with (go_at_call 17; refine (HC.out _ (by first | exact Ext.refl _ | exact ((Ext.refl _).alloc _) | exact (((Ext.refl _).alloc _).alloc _) | exact ((((Ext.refl _).alloc _).alloc _).alloc _))).mono ?_; rintro e w' ⟨rfl, rfl⟩)
  go_ret
  exact ⟨rfl, by first | exact Ext.refl _ | exact ((Ext.refl _).alloc _) | exact (((Ext.refl _).alloc _).alloc _) | exact ((((Ext.refl _).alloc _).alloc _).alloc _)⟩
set_option maxHeartbeats 1000000 in
theorem vReplace_none {pv : Value} {w : World} (h : NoneIs pv w) (x y z : Int) (s : ByteArray) : Calls Try.prog 13 #[pv, .int .i64 x, .int .i64 y, .int .i64 z, .string s] w (RVal (.int .i64 1) w) := by
  obtain ⟨a, rfl⟩ := h.ptr
  have HC := Lib.hid (fun (W : World) (x : Ext w W) => (h.ext x).calls)
  have xw := Ext.refl w
  clear h
  go_enter Try.func13, Try.ntmps13
  go_wp2_with (go_at_call 17; refine (HC.out _ (by first | exact Ext.refl _ | exact ((Ext.refl _).alloc _) | exact (((Ext.refl _).alloc _).alloc _) | exact ((((Ext.refl _).alloc _).alloc _).alloc _))).mono ?_; rintro e w' ⟨rfl, rfl⟩)
  go_ret
  exact ⟨rfl, by first | exact Ext.refl _ | exact ((Ext.refl _).alloc _) | exact (((Ext.refl _).alloc _).alloc _) | exact ((((Ext.refl _).alloc _).alloc _).alloc _)⟩
set_option maxHeartbeats 1000000 in
theorem vPlace_none {pv : Value} {w : World} (h : NoneIs pv w) (k x y : Int) : Calls Try.prog 7 #[pv, .int .i64 k, .agg #[.int .i64 x, .int .i64 y]] w (RVal (.int .i64 1) w) := by
  obtain ⟨a, rfl⟩ := h.ptr
  have HC := Lib.hid (fun (W : World) (x : Ext w W) => (h.ext x).calls)
  have xw := Ext.refl w
  clear h
  go_enter Try.func7, Try.ntmps7
  go_wp2_with (go_at_call 17; refine (HC.out _ (by first | exact Ext.refl _ | exact ((Ext.refl _).alloc _) | exact (((Ext.refl _).alloc _).alloc _) | exact ((((Ext.refl _).alloc _).alloc _).alloc _))).mono ?_; rintro e w' ⟨rfl, rfl⟩)
  go_ret
  exact ⟨rfl, by first | exact Ext.refl _ | exact ((Ext.refl _).alloc _) | exact (((Ext.refl _).alloc _).alloc _) | exact ((((Ext.refl _).alloc _).alloc _).alloc _)⟩
set_option maxHeartbeats 1000000 in
theorem vHold_none {pv : Value} {w : World} (h : NoneIs pv w) (x y : Int) : Calls Try.prog 4 #[pv, .agg #[.int .i64 x, .int .i64 y]] w (RTwo (.int .i64 0) (.int .i64 1) w) := by
  obtain ⟨a, rfl⟩ := h.ptr
  have xa := (Ext.refl w).alloc (.cells #[.int .i64 x, .int .i64 y] 32)
  obtain ⟨wa, hwa⟩ : ∃ W : World, W = w.alloc (.cells #[.int .i64 x, .int .i64 y] 32) := ⟨_, rfl⟩
  rw [← hwa] at xa
  have HC := Lib.hid (fun u : ExtOf wa => inExt (u := u) ((h.ext (xa.trans u.ext)).calls.mono fun e w' hh => ⟨hh.1, hh.2 ▸ Ext.refl _⟩))
  have XA := Lib.hid xa
  have HWA := Lib.hid hwa
  clear h xa hwa
  go_enter Try.func4, Try.ntmps4
  go_upto_region 1 with fail
  rw [← HWA.out]
  refine wp_region_ext (by kernel_rfl) (by kernel_rfl) ?_
  repeat (go_big_quiet_step ((go_at_call 17; exact HC.out _)))
  refine wpQuiet_nil ?_
  rintro _ ⟨u, rfl⟩
  have XU := Lib.hid (XA.out.trans u.ext)
  go_wp2_with fail
  go_ret2
  exact ⟨rfl, XU.out⟩
set_option maxHeartbeats 1000000 in
theorem vGraft_none {pv : Value} {w : World} (h : NoneIs pv w) (x y : Int) (p q r u : Value) : Calls Try.prog 6 #[pv, .int .i64 x, .int .i64 y, .agg #[p, q, r, u]] w (RTwo (.int .i64 0) (.int .i64 1) w) := by
  obtain ⟨a, rfl⟩ := h.ptr
  have HC := Lib.hid (fun (W : World) (x : Ext w W) => (h.ext x).calls)
  have xw := Ext.refl w
  clear h
  go_enter Try.func6, Try.ntmps6
  go_wp2_with (go_at_call 17; refine (HC.out _ (by first | exact Ext.refl _ | exact ((Ext.refl _).alloc _) | exact (((Ext.refl _).alloc _).alloc _) | exact ((((Ext.refl _).alloc _).alloc _).alloc _))).mono ?_; rintro e w' ⟨rfl, rfl⟩)
  go_ret2
  exact ⟨rfl, by first | exact Ext.refl _ | exact ((Ext.refl _).alloc _) | exact (((Ext.refl _).alloc _).alloc _) | exact ((((Ext.refl _).alloc _).alloc _).alloc _)⟩
set_option maxHeartbeats 1000000 in
theorem vHandles_none {pv : Value} {w : World} (h : NoneIs pv w) : Calls Try.prog 9 #[pv] w (RVal (.slice none 0 0) w) := by
  obtain ⟨a, rfl⟩ := h.ptr
  have HC := Lib.hid (fun (W : World) (x : Ext w W) => (h.ext x).calls)
  have xw := Ext.refl w
  clear h
  go_enter Try.func9, Try.ntmps9
  go_wp2_with (go_at_call 17; refine (HC.out _ (by first | exact Ext.refl _ | exact ((Ext.refl _).alloc _) | exact (((Ext.refl _).alloc _).alloc _) | exact ((((Ext.refl _).alloc _).alloc _).alloc _))).mono ?_; rintro e w' ⟨rfl, rfl⟩)
  go_ret
  exact ⟨rfl, by first | exact Ext.refl _ | exact ((Ext.refl _).alloc _) | exact (((Ext.refl _).alloc _).alloc _) | exact ((((Ext.refl _).alloc _).alloc _).alloc _)⟩
set_option maxHeartbeats 1000000 in
theorem vCopy_none {pv : Value} {w : World} (h : NoneIs pv w) : Calls Try.prog 15 #[pv] w (RVal (.pointer none) w) := by
  obtain ⟨a, rfl⟩ := h.ptr
  have HC := Lib.hid (fun (W : World) (x : Ext w W) => (h.ext x).calls)
  have xw := Ext.refl w
  clear h
  go_enter Try.func15, Try.ntmps15
  go_wp2_with (go_at_call 17; refine (HC.out _ (by first | exact Ext.refl _ | exact ((Ext.refl _).alloc _) | exact (((Ext.refl _).alloc _).alloc _) | exact ((((Ext.refl _).alloc _).alloc _).alloc _))).mono ?_; rintro e w' ⟨rfl, rfl⟩)
  go_ret
  exact ⟨rfl, by first | exact Ext.refl _ | exact ((Ext.refl _).alloc _) | exact (((Ext.refl _).alloc _).alloc _) | exact ((((Ext.refl _).alloc _).alloc _).alloc _)⟩
set_option maxHeartbeats 1000000 in
theorem vis_none {pv : Value} {w : World} (h : NoneIs pv w) (x : Int) : Calls Try.prog 21 #[pv, .int .i64 x] w (RBool false w) := by
  obtain ⟨a, rfl⟩ := h.ptr
  have HC := Lib.hid (fun (W : World) (x : Ext w W) => (h.ext x).calls)
  have xw := Ext.refl w
  clear h
  go_enter Try.func21, Try.ntmps21
  go_wp2_with (go_at_call 17; refine (HC.out _ (by first | exact Ext.refl _ | exact ((Ext.refl _).alloc _) | exact (((Ext.refl _).alloc _).alloc _) | exact ((((Ext.refl _).alloc _).alloc _).alloc _))).mono ?_; rintro e w' ⟨rfl, rfl⟩)
  go_ret
  exact ⟨rfl, by first | exact Ext.refl _ | exact ((Ext.refl _).alloc _) | exact (((Ext.refl _).alloc _).alloc _) | exact ((((Ext.refl _).alloc _).alloc _).alloc _)⟩
set_option maxHeartbeats 1000000 in
theorem vHeld_none {pv : Value} {w : World} (h : NoneIs pv w) (x : Int) : Calls Try.prog 5 #[pv, .int .i64 x] w (RTwo (.agg #[.int .i64 0, .int .i64 0]) (.bool false) w) := by
  have xa := (Ext.refl w).alloc (.cells #[.int .i64 0, .int .i64 0] 32)
  have hba := heap_alloc_new w (.cells #[.int .i64 0, .int .i64 0] 32)
  obtain ⟨wa, hwa⟩ : ∃ W : World, W = w.alloc (.cells #[.int .i64 0, .int .i64 0] 32) := ⟨_, rfl⟩
  rw [← hwa] at xa hba
  have HC := Lib.hid (vis_none (h.ext xa) x)
  obtain ⟨a, rfl⟩ := h.ptr
  have XA := Lib.hid xa
  have HWA := Lib.hid hwa
  have HBA := Lib.hid hba
  clear h xa hwa hba
  go_enter Try.func5, Try.ntmps5
  go_upto_region 1 with fail
  rw [← HWA.out]
  go_wp2_with (go_at_call 21; refine HC.out.mono ?_)
  rintro e w2 ⟨rfl, x2⟩
  have hb2 := x2.block HBA.out
  have c0 := cellOf hb2 (i := 0) rfl
  have c1 := cellOf hb2 (i := 1) rfl
  have f0 := freeOf hb2 0
  have f1 := freeOf hb2 1
  have XF := Lib.hid (((XA.out.trans x2).setCell (p := ⟨w.heap.size, 0, none⟩) (Nat.le_refl _) (.int .i64 0)).setCell (p := ⟨w.heap.size, 1, none⟩) (Nat.le_refl _) (.int .i64 0))
  have B3 : ((w2.setCell ⟨w.heap.size, 0, none⟩ (.int .i64 0)).setCell ⟨w.heap.size, 1, none⟩ (.int .i64 0)).heap[w.heap.size]? = some (.cells #[.int .i64 0, .int .i64 0] 32 (0, 0)) := heap_setCell_same (i := 1) (heap_setCell_same (i := 0) hb2 (.int .i64 0)) (.int .i64 0)
  have HLV := Lib.hid (run_loadVar_row (P := Try.prog) _ w.heap.size 32 32 _ (0, 0) _ B3 Try.underlying32 rfl (by kernel_rfl))
  clear x2 hb2 B3
  go_wp2_with fail
  have hlv := HLV.out
  refine bodyPost_ret (v := .tuple #[.agg #[.int .i64 0, .int .i64 0], .bool false]) (by simp [results, Try.results5, asAddr, hlv]) rfl ?_
  exact ⟨rfl, XF.out⟩
end Go.Proofs.Ythgnbbbdcebjhaa
