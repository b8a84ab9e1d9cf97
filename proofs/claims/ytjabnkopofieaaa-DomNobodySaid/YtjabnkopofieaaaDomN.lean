/- Package dom: a nil tree. -/
import Derived.Test.YtjabnkopofieaaaDomM
namespace Go.Proofs.Ytjabnkopofieaaa
open Go Go.RowKit Go.BigFrame
set_option linter.unusedVariables false
set_option linter.unusedSimpArgs false

set_option maxRecDepth 100000 in
set_option maxHeartbeats 1000000 in
theorem Insert_nil (a b c : Int) (w : World) : Calls Try.prog 15 #[.pointer none, .int .i64 a, .int .i64 b, .int .i64 c] w (RVal (.int .i64 1) w) := by
  go_enter Try.func15, Try.ntmps15
  go_wp2_with (first | (go_at_call 45; refine (get_nil _ _).mono ?_; rintro e w' ⟨rfl, rfl⟩) | (go_at_call 28; refine (Parent_nil _ _).mono ?_; rintro e w' ⟨rfl, rfl⟩))
  go_ret
  exact ⟨rfl, by repeat (first | exact Ext.refl _ | refine Ext.alloc ?_ _)⟩

set_option maxRecDepth 100000 in
set_option maxHeartbeats 1000000 in
theorem Remove_nil (a : Int) (w : World) : Calls Try.prog 16 #[.pointer none, .int .i64 a] w (RVal (.int .i64 1) w) := by
  go_enter Try.func16, Try.ntmps16
  go_wp2_with (first | (go_at_call 45; refine (get_nil _ _).mono ?_; rintro e w' ⟨rfl, rfl⟩) | (go_at_call 28; refine (Parent_nil _ _).mono ?_; rintro e w' ⟨rfl, rfl⟩))
  go_ret
  exact ⟨rfl, by repeat (first | exact Ext.refl _ | refine Ext.alloc ?_ _)⟩

set_option maxRecDepth 100000 in
set_option maxHeartbeats 1000000 in
theorem Drop_nil (a : Int) (w : World) : Calls Try.prog 19 #[.pointer none, .int .i64 a] w (RVal (.int .i64 1) w) := by
  go_enter Try.func19, Try.ntmps19
  go_wp2_with (first | (go_at_call 45; refine (get_nil _ _).mono ?_; rintro e w' ⟨rfl, rfl⟩) | (go_at_call 28; refine (Parent_nil _ _).mono ?_; rintro e w' ⟨rfl, rfl⟩))
  go_ret
  exact ⟨rfl, by repeat (first | exact Ext.refl _ | refine Ext.alloc ?_ _)⟩

set_option maxRecDepth 100000 in
set_option maxHeartbeats 1000000 in
theorem SetAttrs_nil (a : Int) (v : Value) (w : World) : Calls Try.prog 18 #[.pointer none, .int .i64 a, v] w (RVal (.int .i64 1) w) := by
  go_enter Try.func18, Try.ntmps18
  go_wp2_with (first | (go_at_call 45; refine (get_nil _ _).mono ?_; rintro e w' ⟨rfl, rfl⟩) | (go_at_call 28; refine (Parent_nil _ _).mono ?_; rintro e w' ⟨rfl, rfl⟩))
  go_ret
  exact ⟨rfl, by repeat (first | exact Ext.refl _ | refine Ext.alloc ?_ _)⟩

set_option maxRecDepth 100000 in
set_option maxHeartbeats 1000000 in
theorem SetTag_nil (a b : Int) (w : World) : Calls Try.prog 23 #[.pointer none, .int .i64 a, .int .i64 b] w (RVal (.int .i64 1) w) := by
  go_enter Try.func23, Try.ntmps23
  go_wp2_with (first | (go_at_call 45; refine (get_nil _ _).mono ?_; rintro e w' ⟨rfl, rfl⟩) | (go_at_call 28; refine (Parent_nil _ _).mono ?_; rintro e w' ⟨rfl, rfl⟩))
  go_ret
  exact ⟨rfl, by repeat (first | exact Ext.refl _ | refine Ext.alloc ?_ _)⟩

set_option maxRecDepth 100000 in
set_option maxHeartbeats 1000000 in
theorem Index_nil (a : Int) (w : World) : Calls Try.prog 29 #[.pointer none, .int .i64 a] w (RVal (.int .i64 (-1)) w) := by
  go_enter Try.func29, Try.ntmps29
  go_wp2_with (first | (go_at_call 45; refine (get_nil _ _).mono ?_; rintro e w' ⟨rfl, rfl⟩) | (go_at_call 28; refine (Parent_nil _ _).mono ?_; rintro e w' ⟨rfl, rfl⟩))
  go_ret
  exact ⟨rfl, by repeat (first | exact Ext.refl _ | refine Ext.alloc ?_ _)⟩

set_option maxRecDepth 100000 in
set_option maxHeartbeats 1000000 in
theorem Height_nil (a : Int) (w : World) : Calls Try.prog 44 #[.pointer none, .int .i64 a] w (RVal (.int .i64 (-1)) w) := by
  go_enter Try.func44, Try.ntmps44
  go_wp2_with (first | (go_at_call 45; refine (get_nil _ _).mono ?_; rintro e w' ⟨rfl, rfl⟩) | (go_at_call 28; refine (Parent_nil _ _).mono ?_; rintro e w' ⟨rfl, rfl⟩))
  go_ret
  exact ⟨rfl, by repeat (first | exact Ext.refl _ | refine Ext.alloc ?_ _)⟩

set_option maxRecDepth 100000 in
set_option maxHeartbeats 1000000 in
theorem Attrs_nil (a : Int) (w : World) : Calls Try.prog 41 #[.pointer none, .int .i64 a] w (RVal (.slice none 0 0) w) := by
  go_enter Try.func41, Try.ntmps41
  go_wp2_with (go_at_call 45; refine (get_nil _ _).mono ?_; rintro e w' ⟨rfl, rfl⟩)
  go_ret
  exact ⟨rfl, by repeat (first | exact Ext.refl _ | refine Ext.alloc ?_ _)⟩

set_option maxRecDepth 100000 in
set_option maxHeartbeats 1000000 in
theorem Kids_nil (a : Int) (w : World) : Calls Try.prog 43 #[.pointer none, .int .i64 a] w (RVal (.slice none 0 0) w) := by
  go_enter Try.func43, Try.ntmps43
  go_wp2_with (go_at_call 45; refine (get_nil _ _).mono ?_; rintro e w' ⟨rfl, rfl⟩)
  go_ret
  exact ⟨rfl, by repeat (first | exact Ext.refl _ | refine Ext.alloc ?_ _)⟩

set_option maxRecDepth 100000 in
set_option maxHeartbeats 1000000 in
theorem SetText_nil (a : Int) (s : ByteArray) (hs : s.size ≤ 100000) (w : World) : Calls Try.prog 17 #[.pointer none, .int .i64 a, .string s] w (RVal (.int .i64 1) w) := by
  have H := Lib.hid hs
  clear hs
  go_enter Try.func17, Try.ntmps17
  go_wp2_with (first | (go_at_call 45; refine (get_nil _ _).mono ?_; rintro e w' ⟨rfl, rfl⟩) | (go_at_call 52; refine (anew_any _ H.out _).mono ?_; rintro e w' ⟨rfl, hx⟩))
  go_ret
  exact ⟨rfl, hx⟩
set_option maxRecDepth 100000 in
set_option maxHeartbeats 1000000 in
theorem Copy_nil (w : World) : Calls Try.prog 14 #[.pointer none] w (RVal (.pointer none) w) := by
  go_enter Try.func14, Try.ntmps14
  go_wp2
  go_ret
  exact ⟨rfl, by repeat (first | exact Ext.refl _ | refine Ext.alloc ?_ _)⟩
set_option maxRecDepth 100000 in
set_option maxHeartbeats 1000000 in
theorem Graft_nil (a b : Int) (x y z u : Value) (w : World) : Calls Try.prog 25 #[.pointer none, .int .i64 a, .int .i64 b, .agg #[x, y, z, u]] w (RTwo (.int .i64 0) (.int .i64 1) w) := by
  go_enter Try.func25, Try.ntmps25
  go_wp2_with (go_at_call 45; refine (get_nil _ _).mono ?_; rintro e w' ⟨rfl, rfl⟩)
  go_ret2
  exact ⟨rfl, by repeat (first | exact Ext.refl _ | refine Ext.alloc ?_ _)⟩
/-- the plain tree that is none -/
abbrev noNode : Value := .agg #[.int .i64 0, .slice none 0 0, .string ByteArray.empty, .slice none 0 0]
set_option maxRecDepth 100000 in
set_option maxHeartbeats 1000000 in
theorem Plain_nil (a : Int) (w : World) : Calls Try.prog 12 #[.pointer none, .int .i64 a] w (RVal noNode w) := by
  go_enter Try.func12, Try.ntmps12
  go_wp2_with (go_at_call 45; refine (get_nil _ _).mono ?_; rintro e w' ⟨rfl, rfl⟩)
  refine bodyPost_ret (v := noNode) (by simp [results, Try.results12, go_sem]; rfl) rfl ⟨rfl, ?_⟩
  repeat (first | exact Ext.refl _ | refine Ext.alloc ?_ _)
set_option maxRecDepth 100000 in
set_option maxHeartbeats 1000000 in
theorem SameAttrs_none (w : World) : Calls Try.prog 54 #[.slice none 0 0, .slice none 0 0] w (RVal (.bool true) w) := by
  go_enter Try.func54, Try.ntmps54
  go_wp2
  go_loop [5] (fun n => n = .int .i64 0) (fun _ => 0)
  case atStart => rfl
  case round =>
    obtain rfl := hrel
    go_wp2
    go_ret
    exact ⟨rfl, Ext.refl _⟩
set_option maxRecDepth 100000 in
set_option maxHeartbeats 1000000 in
theorem SameNode_none (w : World) : Calls Try.prog 20 #[noNode, noNode] w (RVal (.bool true) w) := by
  go_enter Try.func20, Try.ntmps20
  go_wp2_with fail
  refine (SameAttrs_none _).mono ?_
  rintro e w1 ⟨rfl, hx⟩
  have c0 := hx.cell (b := w.heap.size) (o := 3) (v := .slice none 0 0) (by simp [go_sem])
  have c1 := hx.cell (b := w.heap.size + 1) (o := 3) (v := .slice none 0 0) (by simp [go_sem])
  have x1 : Ext w w1 := (((Ext.refl w).alloc _).alloc _).trans hx
  clear hx
  go_wp2_with fail
  go_loop [5] (fun n => n = .int .i64 0) (fun _ => 0)
  case atStart => rfl
  case round =>
    obtain rfl := hrel
    go_wp2
    go_ret
    exact ⟨rfl, x1⟩
end Go.Proofs.Ytjabnkopofieaaa
