/- Package dom: a nil tree. -/
import Derived.Test.YtiglflmjidikpaaDomM
namespace Go.Proofs.Ytiglflmjidikpaa
open Go Go.RowKit Go.BigFrame
set_option linter.unusedVariables false
set_option linter.unusedSimpArgs false

set_option maxRecDepth 100000 in
set_option maxHeartbeats 1000000 in
theorem Insert_nil (a b c : Int) (w : World) : Calls Try.prog 21 #[.pointer none, .int .i64 a, .int .i64 b, .int .i64 c] w (RVal (.int .i64 1) w) := by
  go_enter Try.func21, Try.ntmps21
  go_wp2_with (first | (go_at_call 80; refine (get_nil _ _).mono ?_; rintro e w' ⟨rfl, rfl⟩) | (go_at_call 34; refine (Parent_nil _ _).mono ?_; rintro e w' ⟨rfl, rfl⟩))
  go_ret
  exact ⟨rfl, by repeat (first | exact Ext.refl _ | refine Ext.alloc ?_ _)⟩
set_option maxRecDepth 100000 in
set_option maxHeartbeats 1000000 in
theorem Remove_nil (a : Int) (w : World) : Calls Try.prog 22 #[.pointer none, .int .i64 a] w (RVal (.int .i64 1) w) := by
  go_enter Try.func22, Try.ntmps22
  go_wp2_with (first | (go_at_call 80; refine (get_nil _ _).mono ?_; rintro e w' ⟨rfl, rfl⟩) | (go_at_call 34; refine (Parent_nil _ _).mono ?_; rintro e w' ⟨rfl, rfl⟩))
  go_ret
  exact ⟨rfl, by repeat (first | exact Ext.refl _ | refine Ext.alloc ?_ _)⟩
set_option maxRecDepth 100000 in
set_option maxHeartbeats 1000000 in
theorem Drop_nil (a : Int) (w : World) : Calls Try.prog 25 #[.pointer none, .int .i64 a] w (RVal (.int .i64 1) w) := by
  go_enter Try.func25, Try.ntmps25
  go_wp2_with (first | (go_at_call 80; refine (get_nil _ _).mono ?_; rintro e w' ⟨rfl, rfl⟩) | (go_at_call 34; refine (Parent_nil _ _).mono ?_; rintro e w' ⟨rfl, rfl⟩))
  go_ret
  exact ⟨rfl, by repeat (first | exact Ext.refl _ | refine Ext.alloc ?_ _)⟩
set_option maxRecDepth 100000 in
set_option maxHeartbeats 1000000 in
theorem SetAttrs_nil (a : Int) (v : Value) (w : World) : Calls Try.prog 24 #[.pointer none, .int .i64 a, v] w (RVal (.int .i64 1) w) := by
  go_enter Try.func24, Try.ntmps24
  go_wp2_with (first | (go_at_call 80; refine (get_nil _ _).mono ?_; rintro e w' ⟨rfl, rfl⟩) | (go_at_call 34; refine (Parent_nil _ _).mono ?_; rintro e w' ⟨rfl, rfl⟩))
  go_ret
  exact ⟨rfl, by repeat (first | exact Ext.refl _ | refine Ext.alloc ?_ _)⟩
set_option maxRecDepth 100000 in
set_option maxHeartbeats 1000000 in
theorem SetTag_nil (a b : Int) (w : World) : Calls Try.prog 29 #[.pointer none, .int .i64 a, .int .i64 b] w (RVal (.int .i64 1) w) := by
  go_enter Try.func29, Try.ntmps29
  go_wp2_with (first | (go_at_call 80; refine (get_nil _ _).mono ?_; rintro e w' ⟨rfl, rfl⟩) | (go_at_call 34; refine (Parent_nil _ _).mono ?_; rintro e w' ⟨rfl, rfl⟩))
  go_ret
  exact ⟨rfl, by repeat (first | exact Ext.refl _ | refine Ext.alloc ?_ _)⟩
set_option maxRecDepth 100000 in
set_option maxHeartbeats 1000000 in
theorem Index_nil (a : Int) (w : World) : Calls Try.prog 35 #[.pointer none, .int .i64 a] w (RVal (.int .i64 (-1)) w) := by
  go_enter Try.func35, Try.ntmps35
  go_wp2_with (first | (go_at_call 80; refine (get_nil _ _).mono ?_; rintro e w' ⟨rfl, rfl⟩) | (go_at_call 34; refine (Parent_nil _ _).mono ?_; rintro e w' ⟨rfl, rfl⟩))
  go_ret
  exact ⟨rfl, by repeat (first | exact Ext.refl _ | refine Ext.alloc ?_ _)⟩
set_option maxRecDepth 100000 in
set_option maxHeartbeats 1000000 in
theorem Height_nil (a : Int) (w : World) : Calls Try.prog 50 #[.pointer none, .int .i64 a] w (RVal (.int .i64 (-1)) w) := by
  go_enter Try.func50, Try.ntmps50
  go_wp2_with (first | (go_at_call 80; refine (get_nil _ _).mono ?_; rintro e w' ⟨rfl, rfl⟩) | (go_at_call 34; refine (Parent_nil _ _).mono ?_; rintro e w' ⟨rfl, rfl⟩))
  go_ret
  exact ⟨rfl, by repeat (first | exact Ext.refl _ | refine Ext.alloc ?_ _)⟩
set_option maxRecDepth 100000 in
set_option maxHeartbeats 1000000 in
theorem Attrs_nil (a : Int) (w : World) : Calls Try.prog 47 #[.pointer none, .int .i64 a] w (RVal (.slice none 0 0) w) := by
  go_enter Try.func47, Try.ntmps47
  go_wp2_with (go_at_call 80; refine (get_nil _ _).mono ?_; rintro e w' ⟨rfl, rfl⟩)
  go_ret
  exact ⟨rfl, by repeat (first | exact Ext.refl _ | refine Ext.alloc ?_ _)⟩
set_option maxRecDepth 100000 in
set_option maxHeartbeats 1000000 in
theorem Kids_nil (a : Int) (w : World) : Calls Try.prog 49 #[.pointer none, .int .i64 a] w (RVal (.slice none 0 0) w) := by
  go_enter Try.func49, Try.ntmps49
  go_wp2_with (go_at_call 80; refine (get_nil _ _).mono ?_; rintro e w' ⟨rfl, rfl⟩)
  go_ret
  exact ⟨rfl, by repeat (first | exact Ext.refl _ | refine Ext.alloc ?_ _)⟩
set_option maxRecDepth 100000 in
set_option maxHeartbeats 1000000 in
theorem SetText_nil (a : Int) (s : ByteArray) (hs : s.size ≤ 100000) (w : World) : Calls Try.prog 23 #[.pointer none, .int .i64 a, .string s] w (RVal (.int .i64 1) w) := by
  have H := Lib.hid hs
  clear hs
  go_enter Try.func23, Try.ntmps23
  go_wp2_with (first | (go_at_call 80; refine (get_nil _ _).mono ?_; rintro e w' ⟨rfl, rfl⟩) | (go_at_call 87; refine (anew_any _ H.out _).mono ?_; rintro e w' ⟨rfl, hx⟩))
  go_ret
  exact ⟨rfl, hx⟩
set_option maxRecDepth 100000 in
set_option maxHeartbeats 1000000 in
theorem Copy_nil (w : World) : Calls Try.prog 20 #[.pointer none] w (RVal (.pointer none) w) := by
  go_enter Try.func20, Try.ntmps20
  go_wp2
  go_ret
  exact ⟨rfl, by repeat (first | exact Ext.refl _ | refine Ext.alloc ?_ _)⟩
set_option maxRecDepth 100000 in
set_option maxHeartbeats 1000000 in
theorem Graft_nil (a b : Int) (x y z u : Value) (w : World) : Calls Try.prog 31 #[.pointer none, .int .i64 a, .int .i64 b, .agg #[x, y, z, u]] w (RTwo (.int .i64 0) (.int .i64 1) w) := by
  go_enter Try.func31, Try.ntmps31
  go_wp2_with (go_at_call 80; refine (get_nil _ _).mono ?_; rintro e w' ⟨rfl, rfl⟩)
  go_ret2
  exact ⟨rfl, by repeat (first | exact Ext.refl _ | refine Ext.alloc ?_ _)⟩
/-- the plain tree that is none -/
abbrev noNode : Value := .agg #[.int .i64 0, .slice none 0 0, .string ByteArray.empty, .slice none 0 0]
set_option maxRecDepth 100000 in
set_option maxHeartbeats 1000000 in
theorem Plain_nil (a : Int) (w : World) : Calls Try.prog 18 #[.pointer none, .int .i64 a] w (RVal noNode w) := by
  go_enter Try.func18, Try.ntmps18
  go_wp2_with (go_at_call 80; refine (get_nil _ _).mono ?_; rintro e w' ⟨rfl, rfl⟩)
  refine bodyPost_ret (v := noNode) (by simp [results, Try.results18, go_sem]; rfl) rfl ⟨rfl, ?_⟩
  repeat (first | exact Ext.refl _ | refine Ext.alloc ?_ _)
set_option maxRecDepth 100000 in
set_option maxHeartbeats 1000000 in
theorem SameAttrs_none (w : World) : Calls Try.prog 89 #[.slice none 0 0, .slice none 0 0] w (RVal (.bool true) w) := by
  go_enter Try.func89, Try.ntmps89
  go_wp2
  go_loop [5] (fun n => n = .int .i64 0) (fun _ => 0)
  case atStart => rfl
  case round =>
    obtain rfl := hrel
    go_wp2
    go_ret
    exact ⟨rfl, Ext.refl _⟩
set_option maxRecDepth 100000 in
set_option maxHeartbeats 1000000 in
theorem SameNode_none (w : World) : Calls Try.prog 26 #[noNode, noNode] w (RVal (.bool true) w) := by
  go_enter Try.func26, Try.ntmps26
  go_wp2_with fail
  refine (SameAttrs_none _).mono ?_
  rintro e w1 ⟨rfl, hx⟩
  have c0 := hx.cell (b := w.heap.size) (o := 3) (v := .slice none 0 0) (by simp [go_sem])
  have c1 := hx.cell (b := w.heap.size + 1) (o := 3) (v := .slice none 0 0) (by simp [go_sem])
  have x1 : Ext w w1 := (((Ext.refl w).alloc _).alloc _).trans hx
  clear hx
  go_wp2_with fail
  go_loop [5] (fun n => n = .int .i64 0) (fun _ => 0)
  case atStart => rfl
  case round =>
    obtain rfl := hrel
    go_wp2
    go_ret
    exact ⟨rfl, x1⟩
end Go.Proofs.Ytiglflmjidikpaa
