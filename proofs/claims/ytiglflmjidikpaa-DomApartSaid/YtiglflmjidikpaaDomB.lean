/- Package dom: the contracts of the small functions that only read: Has, Tag, Told, Parent, Count, Room, room, element. -/
import Derived.Test.YtiglflmjidikpaaDomA
namespace Go.Proofs.Ytiglflmjidikpaa
open Go Go.RowKit Go.BigFrame
set_option linter.unusedVariables false

set_option maxHeartbeats 400000 in
theorem Has_nil (id : Int) (w : World) : Calls Try.prog 27 #[.pointer none, .int .i64 id] w (RSame (.bool false) w) := by
  go_enter Try.func27, Try.ntmps27
  go_wp2_with (go_at_call 80; refine (get_nil _ _).mono ?_; rintro e w' ⟨rfl, rfl⟩)
  go_ret
  exact ⟨rfl, rfl⟩
set_option maxHeartbeats 400000 in
theorem Has_none {w : World} {own : Ow} {ptr : Nat → Nat} {tb : Nat} {T : Tr} (hT : TreeAt w own ptr tb T) {id : Int} (h : T.get? id = none) : Calls Try.prog 27 #[.pointer (some ⟨tb, 0, none⟩), .int .i64 id] w (RSame (.bool false) w) := by
  have H := Lib.hid h
  clear h
  go_enter Try.func27, Try.ntmps27
  go_wp2_with (go_at_call 80; refine (get_none hT H.out).mono ?_; rintro e w' ⟨rfl, rfl⟩)
  go_ret
  exact ⟨rfl, rfl⟩
set_option maxHeartbeats 400000 in
theorem Has_some {w : World} {own : Ow} {ptr : Nat → Nat} {tb : Nat} {T : Tr} (hT : TreeAt w own ptr tb T) {id : Int} {nd : Nd} (h : T.get? id = some nd) : Calls Try.prog 27 #[.pointer (some ⟨tb, 0, none⟩), .int .i64 id] w (RSame (.bool true) w) := by
  have H := Lib.hid h
  have hn := (Tr.get_lt h).2.2
  obtain ⟨av, kv, hb, _⟩ := hT.node _ _ hn

  clear hb hn h
  go_enter Try.func27, Try.ntmps27
  go_wp2_with (go_at_call 80; refine (get_some hT H.out).mono ?_; rintro e w' ⟨rfl, rfl⟩)
  go_ret
  exact ⟨rfl, rfl⟩
set_option maxHeartbeats 400000 in
theorem Tag_nil (id : Int) (w : World) : Calls Try.prog 46 #[.pointer none, .int .i64 id] w (RSame (.int .i64 (-1)) w) := by
  go_enter Try.func46, Try.ntmps46
  go_wp2_with (go_at_call 80; refine (get_nil _ _).mono ?_; rintro e w' ⟨rfl, rfl⟩)
  go_ret
  exact ⟨rfl, rfl⟩
set_option maxHeartbeats 400000 in
theorem Tag_none {w : World} {own : Ow} {ptr : Nat → Nat} {tb : Nat} {T : Tr} (hT : TreeAt w own ptr tb T) {id : Int} (h : T.get? id = none) : Calls Try.prog 46 #[.pointer (some ⟨tb, 0, none⟩), .int .i64 id] w (RSame (.int .i64 (-1)) w) := by
  have H := Lib.hid h
  clear h
  go_enter Try.func46, Try.ntmps46
  go_wp2_with (go_at_call 80; refine (get_none hT H.out).mono ?_; rintro e w' ⟨rfl, rfl⟩)
  go_ret
  exact ⟨rfl, rfl⟩
set_option maxHeartbeats 400000 in
theorem Tag_some {w : World} {own : Ow} {ptr : Nat → Nat} {tb : Nat} {T : Tr} (hT : TreeAt w own ptr tb T) {id : Int} {nd : Nd} (h : T.get? id = some nd) : Calls Try.prog 46 #[.pointer (some ⟨tb, 0, none⟩), .int .i64 id] w (RSame (.int .i64 nd.tag) w) := by
  have H := Lib.hid h
  have hn := (Tr.get_lt h).2.2
  obtain ⟨av, kv, hb, _⟩ := hT.node _ _ hn

  have c := cellOf hb (i := 0) rfl
  clear hb hn h
  go_enter Try.func46, Try.ntmps46
  go_wp2_with (go_at_call 80; refine (get_some hT H.out).mono ?_; rintro e w' ⟨rfl, rfl⟩)
  go_ret
  exact ⟨rfl, rfl⟩
set_option maxHeartbeats 400000 in
theorem Told_nil (id : Int) (w : World) : Calls Try.prog 48 #[.pointer none, .int .i64 id] w (RSame (.string ByteArray.empty) w) := by
  go_enter Try.func48, Try.ntmps48
  go_wp2_with (go_at_call 80; refine (get_nil _ _).mono ?_; rintro e w' ⟨rfl, rfl⟩)
  go_ret
  exact ⟨rfl, rfl⟩
set_option maxHeartbeats 400000 in
theorem Told_none {w : World} {own : Ow} {ptr : Nat → Nat} {tb : Nat} {T : Tr} (hT : TreeAt w own ptr tb T) {id : Int} (h : T.get? id = none) : Calls Try.prog 48 #[.pointer (some ⟨tb, 0, none⟩), .int .i64 id] w (RSame (.string ByteArray.empty) w) := by
  have H := Lib.hid h
  clear h
  go_enter Try.func48, Try.ntmps48
  go_wp2_with (go_at_call 80; refine (get_none hT H.out).mono ?_; rintro e w' ⟨rfl, rfl⟩)
  go_ret
  exact ⟨rfl, rfl⟩
set_option maxHeartbeats 400000 in
theorem Told_some {w : World} {own : Ow} {ptr : Nat → Nat} {tb : Nat} {T : Tr} (hT : TreeAt w own ptr tb T) {id : Int} {nd : Nd} (h : T.get? id = some nd) : Calls Try.prog 48 #[.pointer (some ⟨tb, 0, none⟩), .int .i64 id] w (RSame (.string nd.text) w) := by
  have H := Lib.hid h
  have hn := (Tr.get_lt h).2.2
  obtain ⟨av, kv, hb, _⟩ := hT.node _ _ hn

  have c := cellOf hb (i := 2) rfl
  clear hb hn h
  go_enter Try.func48, Try.ntmps48
  go_wp2_with (go_at_call 80; refine (get_some hT H.out).mono ?_; rintro e w' ⟨rfl, rfl⟩)
  go_ret
  exact ⟨rfl, rfl⟩
set_option maxHeartbeats 400000 in
theorem Parent_nil (id : Int) (w : World) : Calls Try.prog 34 #[.pointer none, .int .i64 id] w (RSame (.int .i64 (-1)) w) := by
  go_enter Try.func34, Try.ntmps34
  go_wp2_with (go_at_call 80; refine (get_nil _ _).mono ?_; rintro e w' ⟨rfl, rfl⟩)
  go_ret
  exact ⟨rfl, rfl⟩
set_option maxHeartbeats 400000 in
theorem Parent_none {w : World} {own : Ow} {ptr : Nat → Nat} {tb : Nat} {T : Tr} (hT : TreeAt w own ptr tb T) {id : Int} (h : T.get? id = none) : Calls Try.prog 34 #[.pointer (some ⟨tb, 0, none⟩), .int .i64 id] w (RSame (.int .i64 (-1)) w) := by
  have H := Lib.hid h
  clear h
  go_enter Try.func34, Try.ntmps34
  go_wp2_with (go_at_call 80; refine (get_none hT H.out).mono ?_; rintro e w' ⟨rfl, rfl⟩)
  go_ret
  exact ⟨rfl, rfl⟩
set_option maxHeartbeats 400000 in
theorem Parent_some {w : World} {own : Ow} {ptr : Nat → Nat} {tb : Nat} {T : Tr} (hT : TreeAt w own ptr tb T) {id : Int} {nd : Nd} (h : T.get? id = some nd) : Calls Try.prog 34 #[.pointer (some ⟨tb, 0, none⟩), .int .i64 id] w (RSame (.int .i64 nd.parent) w) := by
  have H := Lib.hid h
  have hn := (Tr.get_lt h).2.2
  obtain ⟨av, kv, hb, _⟩ := hT.node _ _ hn

  have c := cellOf hb (i := 4) rfl
  clear hb hn h
  go_enter Try.func34, Try.ntmps34
  go_wp2_with (go_at_call 80; refine (get_some hT H.out).mono ?_; rintro e w' ⟨rfl, rfl⟩)
  go_ret
  exact ⟨rfl, rfl⟩
set_option maxHeartbeats 400000 in
theorem Count_nil (w : World) : Calls Try.prog 19 #[.pointer none] w (RSame (.int .i64 0) w) := by
  go_enter Try.func19, Try.ntmps19
  go_wp2
  go_ret
  exact ⟨rfl, rfl⟩
set_option maxHeartbeats 400000 in
theorem Count_any {w : World} {own : Ow} {ptr : Nat → Nat} {tb : Nat} {T : Tr} (hT : TreeAt w own ptr tb T) : Calls Try.prog 19 #[.pointer (some ⟨tb, 0, none⟩)] w (RSame (.int .i64 T.count) w) := by
  obtain ⟨nv, hb, _⟩ := hT.head
  have c := cellOf hb (i := 2) rfl
  clear hb
  go_enter Try.func19, Try.ntmps19
  go_wp2
  go_ret
  exact ⟨rfl, rfl⟩
/-- two values are returned; only new blocks -/
def RTwo (v v' : Value) (w : World) (e : Ending) (w' : World) : Prop := e = .returned (.tuple #[v, v']) ∧ Ext w w'
set_option maxHeartbeats 400000 in
theorem Room_nil (w : World) : Calls Try.prog 45 #[.pointer none] w (RTwo (.int .i64 0) (.int .i64 0) w) := by
  go_enter Try.func45, Try.ntmps45
  go_wp2
  go_ret2
  exact ⟨rfl, Ext.refl _⟩
set_option maxHeartbeats 400000 in
theorem Room_any {w : World} {own : Ow} {ptr : Nat → Nat} {tb : Nat} {T : Tr} (hT : TreeAt w own ptr tb T) : Calls Try.prog 45 #[.pointer (some ⟨tb, 0, none⟩)] w (RTwo (.int .i64 T.cap) (.int .i64 T.deep) w) := by
  obtain ⟨nv, hb, _⟩ := hT.head
  have c := cellOf hb (i := 0) rfl
  have c' := cellOf hb (i := 1) rfl
  clear hb
  have d := fun u : ExtOf w => u.ext.cell c
  have d' := fun u : ExtOf w => u.ext.cell c'
  go_enter Try.func45, Try.ntmps45
  go_wp2_with fail
  refine wp_region_ext (by kernel_rfl) (by kernel_rfl) ?_
  repeat (go_big_quiet_step (fail))
  refine wpQuiet_nil ?_
  rintro _ ⟨u, rfl⟩
  go_wp2
  go_ret2
  exact ⟨rfl, u.ext⟩
set_option maxHeartbeats 400000 in
theorem room_any {w : World} {own : Ow} {ptr : Nat → Nat} {tb : Nat} {T : Tr} (hT : TreeAt w own ptr tb T) (hs : Small T) (n : Int) (h0 : 0 ≤ n) (h1 : n ≤ 100000000) : Calls Try.prog 92 #[.pointer (some ⟨tb, 0, none⟩), .int .i64 n] w (RBool (decide (n ≤ T.cap - T.count)) w) := by
  obtain ⟨nv, hb, _⟩ := hT.head
  have c := cellOf hb (i := 0) rfl
  have c' := cellOf hb (i := 2) rfl
  clear hb
  have d := fun u : ExtOf w => u.ext.cell c
  have d' := fun u : ExtOf w => u.ext.cell c'
  have b1 := hs.cap0
  have b2 := hs.cap1
  have b3 := hs.count0
  have b4 := hs.count1
  have b5 : IntKind.i64.wrap (T.cap - T.count) = T.cap - T.count := IntWalk.i64_in _ (by omega)
  go_enter Try.func92, Try.ntmps92
  go_wp2_with fail
  refine wp_region_ext (by kernel_rfl) (by kernel_rfl) ?_
  repeat (go_big_quiet_step (fail))
  refine wpQuiet_nil ?_
  rintro _ ⟨u, rfl⟩
  go_wp2
  go_ret
  exact ⟨rfl, u.ext⟩
set_option maxHeartbeats 400000 in
theorem element_yes (n : Int) (h0 : 1 ≤ n) (h1 : n ≤ 16) (w : World) : Calls Try.prog 90 #[.int .i64 n] w (RSame (.bool true) w) := by
  go_enter Try.func90, Try.ntmps90
  go_wp2
  go_ret
  exact ⟨rfl, rfl⟩
set_option maxHeartbeats 400000 in
theorem element_no (n : Int) (h : ¬ (1 ≤ n ∧ n ≤ 16)) (w : World) : Calls Try.prog 90 #[.int .i64 n] w (RSame (.bool false) w) := by
  by_cases h0 : 1 ≤ n
  · have h1 : ¬ n ≤ 16 := fun h1 => h ⟨h0, h1⟩
    clear h
    go_enter Try.func90, Try.ntmps90
    go_wp2
    go_ret
    exact ⟨rfl, rfl⟩
  · clear h
    go_enter Try.func90, Try.ntmps90
    go_wp2
    go_ret
    exact ⟨rfl, rfl⟩

end Go.Proofs.Ytiglflmjidikpaa
