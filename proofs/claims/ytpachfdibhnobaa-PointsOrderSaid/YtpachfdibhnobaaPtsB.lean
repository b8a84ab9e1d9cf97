/- Package points: what its functions answer, way by way. Conditions: all numbers are from -1 to 2^30. -/
import Derived.Test.YtpachfdibhnobaaPtsA
namespace Go.Proofs.Ytpachfdibhnobaa
open Go Go.RowKit
set_option linter.unusedVariables false
set_option linter.unusedSimpArgs false

set_option maxHeartbeats 400000 in
theorem inserted_yes (n a p q m : Int) (w : World) (hn : okI n) (ha : okI a) (hp : okI p) (hq : okI q) (hm : okI m) (e0 : n = p) (e1 : q < a) :
    Calls Try.prog 9 #[pl n a, .int .i64 p, .int .i64 q, .int .i64 m] w (RPlace (n) (a + m) w) := by
  have kn := hn.1
  have mn := hn.2
  have ka := ha.1
  have ma := ha.2
  have kp := hp.1
  have mp := hp.2
  have kq := hq.1
  have mq := hq.2
  have km := hm.1
  have mm := hm.2
  have E0 := Lib.hid e0
  clear e0
  have E1 := Lib.hid e1
  clear e1
  go_enter Try.func9, Try.ntmps9
  go_wp2_with fail
  refine (fit_yes _ _ _ [p, q, m] _ _ _ rfl rfl (by simp) (by simp) hn ha ?_ (cells_3 ?_ ?_ ?_)).mono ?_
  rotate_right
  · rintro e w1 ⟨rfl, hx1⟩
    have c0 := hx1.cell (b := w.heap.size) (o := 0) (v := .int .i64 (n)) (by simp [go_sem])
    have f0 := hx1.free (b := w.heap.size) (o := 0) (by simp <;> omega) (by simp [go_sem])
    have c1 := hx1.cell (b := w.heap.size) (o := 1) (v := .int .i64 (a)) (by simp [go_sem])
    have f1 := hx1.free (b := w.heap.size) (o := 1) (by simp <;> omega) (by simp [go_sem])
    have c2 := hx1.cell (b := w.heap.size + 1) (o := 0) (v := .int .i64 (0)) (by simp [go_sem])
    have f2 := hx1.free (b := w.heap.size + 1) (o := 0) (by simp <;> omega) (by simp [go_sem])
    have c3 := hx1.cell (b := w.heap.size + 1) (o := 1) (v := .int .i64 (0)) (by simp [go_sem])
    have f3 := hx1.free (b := w.heap.size + 1) (o := 1) (by simp <;> omega) (by simp [go_sem])
    have l0 := cell_lt c0
    have l1 := cell_lt c2
    have x1 : Ext w w1 := Ext.trans (((Ext.refl w).alloc _).alloc _ |>.alloc _) hx1
    clear hx1
    go_wp2_with fail
    refine (above_yes _ E0.out E1.out).mono ?_
    rintro e w2 ⟨rfl, hx2⟩
    replace f0 := hx2.free (cell_lt c0) f0
    replace c0 := hx2.cell c0
    replace f1 := hx2.free (cell_lt c1) f1
    replace c1 := hx2.cell c1
    replace f2 := hx2.free (cell_lt c2) f2
    replace c2 := hx2.cell c2
    replace f3 := hx2.free (cell_lt c3) f3
    replace c3 := hx2.cell c3
    have l0 := cell_lt c0
    have l1 := cell_lt c2
    replace x1 := x1.trans hx2
    clear hx2
    go_wp2
    refine bodyPost_ret (v := pl (n) (a + m)) (by simp [results, Try.results9, go_sem, c0, c1, c2, c3]) rfl ⟨rfl, ?_⟩
    repeat (first | exact x1 | exact Ext.refl _ | refine Ext.setCell ?_ (by simp) _ | refine Ext.alloc ?_ _)
  all_goals simp [go_sem, hp, hq, hm]

set_option maxHeartbeats 400000 in
theorem inserted_no (n a p q m : Int) (w : World) (hn : okI n) (ha : okI a) (hp : okI p) (hq : okI q) (hm : okI m) (e0 : ¬ (n = p ∧ q < a)) :
    Calls Try.prog 9 #[pl n a, .int .i64 p, .int .i64 q, .int .i64 m] w (RPlace (n) (a) w) := by
  have kn := hn.1
  have mn := hn.2
  have ka := ha.1
  have ma := ha.2
  have kp := hp.1
  have mp := hp.2
  have kq := hq.1
  have mq := hq.2
  have km := hm.1
  have mm := hm.2
  have E0 := Lib.hid e0
  clear e0
  go_enter Try.func9, Try.ntmps9
  go_wp2_with fail
  refine (fit_yes _ _ _ [p, q, m] _ _ _ rfl rfl (by simp) (by simp) hn ha ?_ (cells_3 ?_ ?_ ?_)).mono ?_
  rotate_right
  · rintro e w1 ⟨rfl, hx1⟩
    have c0 := hx1.cell (b := w.heap.size) (o := 0) (v := .int .i64 (n)) (by simp [go_sem])
    have f0 := hx1.free (b := w.heap.size) (o := 0) (by simp <;> omega) (by simp [go_sem])
    have c1 := hx1.cell (b := w.heap.size) (o := 1) (v := .int .i64 (a)) (by simp [go_sem])
    have f1 := hx1.free (b := w.heap.size) (o := 1) (by simp <;> omega) (by simp [go_sem])
    have c2 := hx1.cell (b := w.heap.size + 1) (o := 0) (v := .int .i64 (0)) (by simp [go_sem])
    have f2 := hx1.free (b := w.heap.size + 1) (o := 0) (by simp <;> omega) (by simp [go_sem])
    have c3 := hx1.cell (b := w.heap.size + 1) (o := 1) (v := .int .i64 (0)) (by simp [go_sem])
    have f3 := hx1.free (b := w.heap.size + 1) (o := 1) (by simp <;> omega) (by simp [go_sem])
    have l0 := cell_lt c0
    have l1 := cell_lt c2
    have x1 : Ext w w1 := Ext.trans (((Ext.refl w).alloc _).alloc _ |>.alloc _) hx1
    clear hx1
    go_wp2_with fail
    refine (above_no _ E0.out).mono ?_
    rintro e w2 ⟨rfl, hx2⟩
    replace f0 := hx2.free (cell_lt c0) f0
    replace c0 := hx2.cell c0
    replace f1 := hx2.free (cell_lt c1) f1
    replace c1 := hx2.cell c1
    replace f2 := hx2.free (cell_lt c2) f2
    replace c2 := hx2.cell c2
    replace f3 := hx2.free (cell_lt c3) f3
    replace c3 := hx2.cell c3
    have l0 := cell_lt c0
    have l1 := cell_lt c2
    replace x1 := x1.trans hx2
    clear hx2
    go_wp2
    refine bodyPost_ret (v := pl (n) (a)) (by simp [results, Try.results9, go_sem, c0, c1, c2, c3]) rfl ⟨rfl, ?_⟩
    repeat (first | exact x1 | exact Ext.refl _ | refine Ext.setCell ?_ (by simp) _ | refine Ext.alloc ?_ _)
  all_goals simp [go_sem, hp, hq, hm]

set_option maxHeartbeats 400000 in
theorem removed_in (n a p q : Int) (w : World) (hn : okI n) (ha : okI a) (hp : okI p) (hq : okI q)  :
    Calls Try.prog 10 #[pl n a, .int .i64 p, .int .i64 q, .bool true] w (RPlace (p) (q) w) := by
  have kn := hn.1
  have mn := hn.2
  have ka := ha.1
  have ma := ha.2
  have kp := hp.1
  have mp := hp.2
  have kq := hq.1
  have mq := hq.2
  go_enter Try.func10, Try.ntmps10
  go_wp2_with fail
  refine (fit_yes _ _ _ [p, q] _ _ _ rfl rfl (by simp) (by simp) hn ha ?_ (cells_2 ?_ ?_)).mono ?_
  rotate_right
  · rintro e w1 ⟨rfl, hx1⟩
    have c0 := hx1.cell (b := w.heap.size) (o := 0) (v := .int .i64 (n)) (by simp [go_sem])
    have f0 := hx1.free (b := w.heap.size) (o := 0) (by simp <;> omega) (by simp [go_sem])
    have c1 := hx1.cell (b := w.heap.size) (o := 1) (v := .int .i64 (a)) (by simp [go_sem])
    have f1 := hx1.free (b := w.heap.size) (o := 1) (by simp <;> omega) (by simp [go_sem])
    have c2 := hx1.cell (b := w.heap.size + 1) (o := 0) (v := .int .i64 (0)) (by simp [go_sem])
    have f2 := hx1.free (b := w.heap.size + 1) (o := 0) (by simp <;> omega) (by simp [go_sem])
    have c3 := hx1.cell (b := w.heap.size + 1) (o := 1) (v := .int .i64 (0)) (by simp [go_sem])
    have f3 := hx1.free (b := w.heap.size + 1) (o := 1) (by simp <;> omega) (by simp [go_sem])
    have l0 := cell_lt c0
    have l1 := cell_lt c2
    have x1 : Ext w w1 := Ext.trans (((Ext.refl w).alloc _).alloc _ |>.alloc _) hx1
    clear hx1
    go_wp2_with fail
    refine (to_any _ _ _).mono ?_
    rintro e w2 ⟨rfl, hx2⟩
    replace f0 := hx2.free (cell_lt c0) f0
    replace c0 := hx2.cell c0
    replace f1 := hx2.free (cell_lt c1) f1
    replace c1 := hx2.cell c1
    replace f2 := hx2.free (cell_lt c2) f2
    replace c2 := hx2.cell c2
    replace f3 := hx2.free (cell_lt c3) f3
    replace c3 := hx2.cell c3
    have l0 := cell_lt c0
    have l1 := cell_lt c2
    replace x1 := x1.trans hx2
    clear hx2
    go_wp2
    refine bodyPost_ret (v := pl (p) (q)) (by simp [results, Try.results10, go_sem, c0, c1, c2, c3]) rfl ⟨rfl, ?_⟩
    repeat (first | exact x1 | exact Ext.refl _ | refine Ext.setCell ?_ (by simp) _ | refine Ext.alloc ?_ _)
  all_goals simp [go_sem, hp, hq]

set_option maxHeartbeats 400000 in
theorem removed_yes (n a p q : Int) (w : World) (hn : okI n) (ha : okI a) (hp : okI p) (hq : okI q) (e0 : n = p) (e1 : q < a) :
    Calls Try.prog 10 #[pl n a, .int .i64 p, .int .i64 q, .bool false] w (RPlace (n) (a - 1) w) := by
  have kn := hn.1
  have mn := hn.2
  have ka := ha.1
  have ma := ha.2
  have kp := hp.1
  have mp := hp.2
  have kq := hq.1
  have mq := hq.2
  have E0 := Lib.hid e0
  clear e0
  have E1 := Lib.hid e1
  clear e1
  go_enter Try.func10, Try.ntmps10
  go_wp2_with fail
  refine (fit_yes _ _ _ [p, q] _ _ _ rfl rfl (by simp) (by simp) hn ha ?_ (cells_2 ?_ ?_)).mono ?_
  rotate_right
  · rintro e w1 ⟨rfl, hx1⟩
    have c0 := hx1.cell (b := w.heap.size) (o := 0) (v := .int .i64 (n)) (by simp [go_sem])
    have f0 := hx1.free (b := w.heap.size) (o := 0) (by simp <;> omega) (by simp [go_sem])
    have c1 := hx1.cell (b := w.heap.size) (o := 1) (v := .int .i64 (a)) (by simp [go_sem])
    have f1 := hx1.free (b := w.heap.size) (o := 1) (by simp <;> omega) (by simp [go_sem])
    have c2 := hx1.cell (b := w.heap.size + 1) (o := 0) (v := .int .i64 (0)) (by simp [go_sem])
    have f2 := hx1.free (b := w.heap.size + 1) (o := 0) (by simp <;> omega) (by simp [go_sem])
    have c3 := hx1.cell (b := w.heap.size + 1) (o := 1) (v := .int .i64 (0)) (by simp [go_sem])
    have f3 := hx1.free (b := w.heap.size + 1) (o := 1) (by simp <;> omega) (by simp [go_sem])
    have l0 := cell_lt c0
    have l1 := cell_lt c2
    have x1 : Ext w w1 := Ext.trans (((Ext.refl w).alloc _).alloc _ |>.alloc _) hx1
    clear hx1
    go_wp2_with fail
    refine (above_yes _ E0.out E1.out).mono ?_
    rintro e w2 ⟨rfl, hx2⟩
    replace f0 := hx2.free (cell_lt c0) f0
    replace c0 := hx2.cell c0
    replace f1 := hx2.free (cell_lt c1) f1
    replace c1 := hx2.cell c1
    replace f2 := hx2.free (cell_lt c2) f2
    replace c2 := hx2.cell c2
    replace f3 := hx2.free (cell_lt c3) f3
    replace c3 := hx2.cell c3
    have l0 := cell_lt c0
    have l1 := cell_lt c2
    replace x1 := x1.trans hx2
    clear hx2
    go_wp2
    refine bodyPost_ret (v := pl (n) (a - 1)) (by simp [results, Try.results10, go_sem, c0, c1, c2, c3]) rfl ⟨rfl, ?_⟩
    repeat (first | exact x1 | exact Ext.refl _ | refine Ext.setCell ?_ (by simp) _ | refine Ext.alloc ?_ _)
  all_goals simp [go_sem, hp, hq]

set_option maxHeartbeats 400000 in
theorem removed_no (n a p q : Int) (w : World) (hn : okI n) (ha : okI a) (hp : okI p) (hq : okI q) (e0 : ¬ (n = p ∧ q < a)) :
    Calls Try.prog 10 #[pl n a, .int .i64 p, .int .i64 q, .bool false] w (RPlace (n) (a) w) := by
  have kn := hn.1
  have mn := hn.2
  have ka := ha.1
  have ma := ha.2
  have kp := hp.1
  have mp := hp.2
  have kq := hq.1
  have mq := hq.2
  have E0 := Lib.hid e0
  clear e0
  go_enter Try.func10, Try.ntmps10
  go_wp2_with fail
  refine (fit_yes _ _ _ [p, q] _ _ _ rfl rfl (by simp) (by simp) hn ha ?_ (cells_2 ?_ ?_)).mono ?_
  rotate_right
  · rintro e w1 ⟨rfl, hx1⟩
    have c0 := hx1.cell (b := w.heap.size) (o := 0) (v := .int .i64 (n)) (by simp [go_sem])
    have f0 := hx1.free (b := w.heap.size) (o := 0) (by simp <;> omega) (by simp [go_sem])
    have c1 := hx1.cell (b := w.heap.size) (o := 1) (v := .int .i64 (a)) (by simp [go_sem])
    have f1 := hx1.free (b := w.heap.size) (o := 1) (by simp <;> omega) (by simp [go_sem])
    have c2 := hx1.cell (b := w.heap.size + 1) (o := 0) (v := .int .i64 (0)) (by simp [go_sem])
    have f2 := hx1.free (b := w.heap.size + 1) (o := 0) (by simp <;> omega) (by simp [go_sem])
    have c3 := hx1.cell (b := w.heap.size + 1) (o := 1) (v := .int .i64 (0)) (by simp [go_sem])
    have f3 := hx1.free (b := w.heap.size + 1) (o := 1) (by simp <;> omega) (by simp [go_sem])
    have l0 := cell_lt c0
    have l1 := cell_lt c2
    have x1 : Ext w w1 := Ext.trans (((Ext.refl w).alloc _).alloc _ |>.alloc _) hx1
    clear hx1
    go_wp2_with fail
    refine (above_no _ E0.out).mono ?_
    rintro e w2 ⟨rfl, hx2⟩
    replace f0 := hx2.free (cell_lt c0) f0
    replace c0 := hx2.cell c0
    replace f1 := hx2.free (cell_lt c1) f1
    replace c1 := hx2.cell c1
    replace f2 := hx2.free (cell_lt c2) f2
    replace c2 := hx2.cell c2
    replace f3 := hx2.free (cell_lt c3) f3
    replace c3 := hx2.cell c3
    have l0 := cell_lt c0
    have l1 := cell_lt c2
    replace x1 := x1.trans hx2
    clear hx2
    go_wp2
    refine bodyPost_ret (v := pl (n) (a)) (by simp [results, Try.results10, go_sem, c0, c1, c2, c3]) rfl ⟨rfl, ?_⟩
    repeat (first | exact x1 | exact Ext.refl _ | refine Ext.setCell ?_ (by simp) _ | refine Ext.alloc ?_ _)
  all_goals simp [go_sem, hp, hq]

set_option maxHeartbeats 400000 in
theorem replaced_no (n a p q c m : Int) (w : World) (hn : okI n) (ha : okI a) (hp : okI p) (hq : okI q) (hc : okI c) (hm : okI m) (e0 : ¬ (n = p ∧ q < a)) :
    Calls Try.prog 11 #[pl n a, .int .i64 p, .int .i64 q, .int .i64 c, .int .i64 m] w (RPlace (n) (a) w) := by
  have kn := hn.1
  have mn := hn.2
  have ka := ha.1
  have ma := ha.2
  have kp := hp.1
  have mp := hp.2
  have kq := hq.1
  have mq := hq.2
  have kc := hc.1
  have mc := hc.2
  have km := hm.1
  have mm := hm.2
  have E0 := Lib.hid e0
  clear e0
  go_enter Try.func11, Try.ntmps11
  go_wp2_with fail
  refine (fit_yes _ _ _ [p, q, c, m] _ _ _ rfl rfl (by simp) (by simp) hn ha ?_ (cells_4 ?_ ?_ ?_ ?_)).mono ?_
  rotate_right
  · rintro e w1 ⟨rfl, hx1⟩
    have c0 := hx1.cell (b := w.heap.size) (o := 0) (v := .int .i64 (n)) (by simp [go_sem])
    have f0 := hx1.free (b := w.heap.size) (o := 0) (by simp <;> omega) (by simp [go_sem])
    have c1 := hx1.cell (b := w.heap.size) (o := 1) (v := .int .i64 (a)) (by simp [go_sem])
    have f1 := hx1.free (b := w.heap.size) (o := 1) (by simp <;> omega) (by simp [go_sem])
    have c2 := hx1.cell (b := w.heap.size + 1) (o := 0) (v := .int .i64 (0)) (by simp [go_sem])
    have f2 := hx1.free (b := w.heap.size + 1) (o := 0) (by simp <;> omega) (by simp [go_sem])
    have c3 := hx1.cell (b := w.heap.size + 1) (o := 1) (v := .int .i64 (0)) (by simp [go_sem])
    have f3 := hx1.free (b := w.heap.size + 1) (o := 1) (by simp <;> omega) (by simp [go_sem])
    have l0 := cell_lt c0
    have l1 := cell_lt c2
    have x1 : Ext w w1 := Ext.trans (((Ext.refl w).alloc _).alloc _ |>.alloc _) hx1
    clear hx1
    go_wp2_with fail
    refine (above_no _ E0.out).mono ?_
    rintro e w2 ⟨rfl, hx2⟩
    replace f0 := hx2.free (cell_lt c0) f0
    replace c0 := hx2.cell c0
    replace f1 := hx2.free (cell_lt c1) f1
    replace c1 := hx2.cell c1
    replace f2 := hx2.free (cell_lt c2) f2
    replace c2 := hx2.cell c2
    replace f3 := hx2.free (cell_lt c3) f3
    replace c3 := hx2.cell c3
    have l0 := cell_lt c0
    have l1 := cell_lt c2
    replace x1 := x1.trans hx2
    clear hx2
    go_wp2
    refine bodyPost_ret (v := pl (n) (a)) (by simp [results, Try.results11, go_sem, c0, c1, c2, c3]) rfl ⟨rfl, ?_⟩
    repeat (first | exact x1 | exact Ext.refl _ | refine Ext.setCell ?_ (by simp) _ | refine Ext.alloc ?_ _)
  all_goals simp [go_sem, hp, hq, hc, hm]

set_option maxHeartbeats 400000 in
theorem replaced_far (n a p q c m : Int) (w : World) (hn : okI n) (ha : okI a) (hp : okI p) (hq : okI q) (hc : okI c) (hm : okI m) (e0 : n = p) (e1 : q < a) (e2 : q + c < a) :
    Calls Try.prog 11 #[pl n a, .int .i64 p, .int .i64 q, .int .i64 c, .int .i64 m] w (RPlace (p) (a + m - c) w) := by
  have kn := hn.1
  have mn := hn.2
  have ka := ha.1
  have ma := ha.2
  have kp := hp.1
  have mp := hp.2
  have kq := hq.1
  have mq := hq.2
  have kc := hc.1
  have mc := hc.2
  have km := hm.1
  have mm := hm.2
  have E0 := Lib.hid e0
  clear e0
  have E1 := Lib.hid e1
  clear e1
  have E2 := Lib.hid e2
  go_enter Try.func11, Try.ntmps11
  go_wp2_with fail
  refine (fit_yes _ _ _ [p, q, c, m] _ _ _ rfl rfl (by simp) (by simp) hn ha ?_ (cells_4 ?_ ?_ ?_ ?_)).mono ?_
  rotate_right
  · rintro e w1 ⟨rfl, hx1⟩
    have c0 := hx1.cell (b := w.heap.size) (o := 0) (v := .int .i64 (n)) (by simp [go_sem])
    have f0 := hx1.free (b := w.heap.size) (o := 0) (by simp <;> omega) (by simp [go_sem])
    have c1 := hx1.cell (b := w.heap.size) (o := 1) (v := .int .i64 (a)) (by simp [go_sem])
    have f1 := hx1.free (b := w.heap.size) (o := 1) (by simp <;> omega) (by simp [go_sem])
    have c2 := hx1.cell (b := w.heap.size + 1) (o := 0) (v := .int .i64 (0)) (by simp [go_sem])
    have f2 := hx1.free (b := w.heap.size + 1) (o := 0) (by simp <;> omega) (by simp [go_sem])
    have c3 := hx1.cell (b := w.heap.size + 1) (o := 1) (v := .int .i64 (0)) (by simp [go_sem])
    have f3 := hx1.free (b := w.heap.size + 1) (o := 1) (by simp <;> omega) (by simp [go_sem])
    have l0 := cell_lt c0
    have l1 := cell_lt c2
    have x1 : Ext w w1 := Ext.trans (((Ext.refl w).alloc _).alloc _ |>.alloc _) hx1
    clear hx1
    go_wp2_with fail
    refine (above_yes _ E0.out E1.out).mono ?_
    rintro e w2 ⟨rfl, hx2⟩
    replace f0 := hx2.free (cell_lt c0) f0
    replace c0 := hx2.cell c0
    replace f1 := hx2.free (cell_lt c1) f1
    replace c1 := hx2.cell c1
    replace f2 := hx2.free (cell_lt c2) f2
    replace c2 := hx2.cell c2
    replace f3 := hx2.free (cell_lt c3) f3
    replace c3 := hx2.cell c3
    have l0 := cell_lt c0
    have l1 := cell_lt c2
    replace x1 := x1.trans hx2
    clear hx2
    go_wp2_with fail
    refine (to_any _ _ _).mono ?_
    rintro e w3 ⟨rfl, hx3⟩
    replace f0 := hx3.free (cell_lt c0) f0
    replace c0 := hx3.cell c0
    replace f1 := hx3.free (cell_lt c1) f1
    replace c1 := hx3.cell c1
    replace f2 := hx3.free (cell_lt c2) f2
    replace c2 := hx3.cell c2
    replace f3 := hx3.free (cell_lt c3) f3
    replace c3 := hx3.cell c3
    have l0 := cell_lt c0
    have l1 := cell_lt c2
    replace x1 := x1.trans hx3
    clear hx3
    go_wp2
    refine bodyPost_ret (v := pl (p) (a + m - c)) (by simp [results, Try.results11, go_sem, c0, c1, c2, c3]) rfl ⟨rfl, ?_⟩
    repeat (first | exact x1 | exact Ext.refl _ | refine Ext.setCell ?_ (by simp) _ | refine Ext.alloc ?_ _)
  all_goals simp [go_sem, hp, hq, hc, hm]

set_option maxHeartbeats 400000 in
theorem replaced_mid (n a p q c m : Int) (w : World) (hn : okI n) (ha : okI a) (hp : okI p) (hq : okI q) (hc : okI c) (hm : okI m) (e0 : n = p) (e1 : q < a) (e2 : ¬ q + c < a) :
    Calls Try.prog 11 #[pl n a, .int .i64 p, .int .i64 q, .int .i64 c, .int .i64 m] w (RPlace (p) (q) w) := by
  have kn := hn.1
  have mn := hn.2
  have ka := ha.1
  have ma := ha.2
  have kp := hp.1
  have mp := hp.2
  have kq := hq.1
  have mq := hq.2
  have kc := hc.1
  have mc := hc.2
  have km := hm.1
  have mm := hm.2
  have E0 := Lib.hid e0
  clear e0
  have E1 := Lib.hid e1
  clear e1
  have E2 := Lib.hid e2
  go_enter Try.func11, Try.ntmps11
  go_wp2_with fail
  refine (fit_yes _ _ _ [p, q, c, m] _ _ _ rfl rfl (by simp) (by simp) hn ha ?_ (cells_4 ?_ ?_ ?_ ?_)).mono ?_
  rotate_right
  · rintro e w1 ⟨rfl, hx1⟩
    have c0 := hx1.cell (b := w.heap.size) (o := 0) (v := .int .i64 (n)) (by simp [go_sem])
    have f0 := hx1.free (b := w.heap.size) (o := 0) (by simp <;> omega) (by simp [go_sem])
    have c1 := hx1.cell (b := w.heap.size) (o := 1) (v := .int .i64 (a)) (by simp [go_sem])
    have f1 := hx1.free (b := w.heap.size) (o := 1) (by simp <;> omega) (by simp [go_sem])
    have c2 := hx1.cell (b := w.heap.size + 1) (o := 0) (v := .int .i64 (0)) (by simp [go_sem])
    have f2 := hx1.free (b := w.heap.size + 1) (o := 0) (by simp <;> omega) (by simp [go_sem])
    have c3 := hx1.cell (b := w.heap.size + 1) (o := 1) (v := .int .i64 (0)) (by simp [go_sem])
    have f3 := hx1.free (b := w.heap.size + 1) (o := 1) (by simp <;> omega) (by simp [go_sem])
    have l0 := cell_lt c0
    have l1 := cell_lt c2
    have x1 : Ext w w1 := Ext.trans (((Ext.refl w).alloc _).alloc _ |>.alloc _) hx1
    clear hx1
    go_wp2_with fail
    refine (above_yes _ E0.out E1.out).mono ?_
    rintro e w2 ⟨rfl, hx2⟩
    replace f0 := hx2.free (cell_lt c0) f0
    replace c0 := hx2.cell c0
    replace f1 := hx2.free (cell_lt c1) f1
    replace c1 := hx2.cell c1
    replace f2 := hx2.free (cell_lt c2) f2
    replace c2 := hx2.cell c2
    replace f3 := hx2.free (cell_lt c3) f3
    replace c3 := hx2.cell c3
    have l0 := cell_lt c0
    have l1 := cell_lt c2
    replace x1 := x1.trans hx2
    clear hx2
    go_wp2_with fail
    refine (to_any _ _ _).mono ?_
    rintro e w3 ⟨rfl, hx3⟩
    replace f0 := hx3.free (cell_lt c0) f0
    replace c0 := hx3.cell c0
    replace f1 := hx3.free (cell_lt c1) f1
    replace c1 := hx3.cell c1
    replace f2 := hx3.free (cell_lt c2) f2
    replace c2 := hx3.cell c2
    replace f3 := hx3.free (cell_lt c3) f3
    replace c3 := hx3.cell c3
    have l0 := cell_lt c0
    have l1 := cell_lt c2
    replace x1 := x1.trans hx3
    clear hx3
    go_wp2
    refine bodyPost_ret (v := pl (p) (q)) (by simp [results, Try.results11, go_sem, c0, c1, c2, c3]) rfl ⟨rfl, ?_⟩
    repeat (first | exact x1 | exact Ext.refl _ | refine Ext.setCell ?_ (by simp) _ | refine Ext.alloc ?_ _)
  all_goals simp [go_sem, hp, hq, hc, hm]

set_option maxHeartbeats 400000 in
theorem cut_here (n a p q f u i : Int) (w : World) (hn : okI n) (ha : okI a) (hp : okI p) (hq : okI q) (hf : okI f) (hu : okI u) (hi : okI i) (e0 : n = p) (e1 : q < a) :
    Calls Try.prog 20 #[pl n a, .int .i64 p, .int .i64 q, .int .i64 f, .int .i64 u, .int .i64 i] w (RPlace (f) (a - q) w) := by
  have kn := hn.1
  have mn := hn.2
  have ka := ha.1
  have ma := ha.2
  have kp := hp.1
  have mp := hp.2
  have kq := hq.1
  have mq := hq.2
  have kf := hf.1
  have mf := hf.2
  have ku := hu.1
  have mu := hu.2
  have ki := hi.1
  have mi := hi.2
  have E0 := Lib.hid e0
  clear e0
  have E1 := Lib.hid e1
  clear e1
  go_enter Try.func20, Try.ntmps20
  go_wp2_with fail
  refine (above_yes _ E0.out E1.out).mono ?_
  rintro e w1 ⟨rfl, hx1⟩
  have c0 := hx1.cell (b := w.heap.size) (o := 0) (v := .int .i64 (n)) (by simp [go_sem])
  have f0 := hx1.free (b := w.heap.size) (o := 0) (by simp <;> omega) (by simp [go_sem])
  have c1 := hx1.cell (b := w.heap.size) (o := 1) (v := .int .i64 (a)) (by simp [go_sem])
  have f1 := hx1.free (b := w.heap.size) (o := 1) (by simp <;> omega) (by simp [go_sem])
  have c2 := hx1.cell (b := w.heap.size + 1) (o := 0) (v := .int .i64 (0)) (by simp [go_sem])
  have f2 := hx1.free (b := w.heap.size + 1) (o := 0) (by simp <;> omega) (by simp [go_sem])
  have c3 := hx1.cell (b := w.heap.size + 1) (o := 1) (v := .int .i64 (0)) (by simp [go_sem])
  have f3 := hx1.free (b := w.heap.size + 1) (o := 1) (by simp <;> omega) (by simp [go_sem])
  have c4 := hx1.cell (b := w.heap.size + 1 + 1) (o := 0) (v := .int .i64 (n)) (by simp [go_sem])
  have f4 := hx1.free (b := w.heap.size + 1 + 1) (o := 0) (by simp <;> omega) (by simp [go_sem])
  have c5 := hx1.cell (b := w.heap.size + 1 + 1) (o := 1) (v := .int .i64 (a)) (by simp [go_sem])
  have f5 := hx1.free (b := w.heap.size + 1 + 1) (o := 1) (by simp <;> omega) (by simp [go_sem])
  have l0 := cell_lt c0
  have l1 := cell_lt c2
  have l2 := cell_lt c4
  have x1 : Ext w w1 := Ext.trans ((((Ext.refl w).alloc _).alloc _).alloc _) hx1
  clear hx1
  go_wp2_with fail
  refine (to_any _ _ _).mono ?_
  rintro e w2 ⟨rfl, hx2⟩
  replace f0 := hx2.free (cell_lt c0) f0
  replace c0 := hx2.cell c0
  replace f1 := hx2.free (cell_lt c1) f1
  replace c1 := hx2.cell c1
  replace f2 := hx2.free (cell_lt c2) f2
  replace c2 := hx2.cell c2
  replace f3 := hx2.free (cell_lt c3) f3
  replace c3 := hx2.cell c3
  replace f4 := hx2.free (cell_lt c4) f4
  replace c4 := hx2.cell c4
  replace f5 := hx2.free (cell_lt c5) f5
  replace c5 := hx2.cell c5
  have l0 := cell_lt c0
  have l1 := cell_lt c2
  have l2 := cell_lt c4
  replace x1 := x1.trans hx2
  clear hx2
  go_wp2
  refine bodyPost_ret (v := pl (f) (a - q)) (by simp [results, Try.results20, go_sem, c0, c1, c2, c3, c4, c5]) rfl ⟨rfl, ?_⟩
  repeat (first | exact x1 | exact Ext.refl _ | refine Ext.setCell ?_ (by simp) _ | refine Ext.alloc ?_ _)

set_option maxHeartbeats 400000 in
theorem cut_up (n a p q f u i : Int) (w : World) (hn : okI n) (ha : okI a) (hp : okI p) (hq : okI q) (hf : okI f) (hu : okI u) (hi : okI i) (e0 : ¬ (n = p ∧ q < a)) (e1 : 0 ≤ u) (e2 : n = u) (e3 : i < a) :
    Calls Try.prog 20 #[pl n a, .int .i64 p, .int .i64 q, .int .i64 f, .int .i64 u, .int .i64 i] w (RPlace (n) (a + 1) w) := by
  have kn := hn.1
  have mn := hn.2
  have ka := ha.1
  have ma := ha.2
  have kp := hp.1
  have mp := hp.2
  have kq := hq.1
  have mq := hq.2
  have kf := hf.1
  have mf := hf.2
  have ku := hu.1
  have mu := hu.2
  have ki := hi.1
  have mi := hi.2
  have E0 := Lib.hid e0
  clear e0
  have E1 := Lib.hid e1
  have E2 := Lib.hid e2
  clear e2
  have E3 := Lib.hid e3
  clear e3
  go_enter Try.func20, Try.ntmps20
  go_wp2_with fail
  refine (above_no _ E0.out).mono ?_
  rintro e w1 ⟨rfl, hx1⟩
  have c0 := hx1.cell (b := w.heap.size) (o := 0) (v := .int .i64 (n)) (by simp [go_sem])
  have f0 := hx1.free (b := w.heap.size) (o := 0) (by simp <;> omega) (by simp [go_sem])
  have c1 := hx1.cell (b := w.heap.size) (o := 1) (v := .int .i64 (a)) (by simp [go_sem])
  have f1 := hx1.free (b := w.heap.size) (o := 1) (by simp <;> omega) (by simp [go_sem])
  have c2 := hx1.cell (b := w.heap.size + 1) (o := 0) (v := .int .i64 (0)) (by simp [go_sem])
  have f2 := hx1.free (b := w.heap.size + 1) (o := 0) (by simp <;> omega) (by simp [go_sem])
  have c3 := hx1.cell (b := w.heap.size + 1) (o := 1) (v := .int .i64 (0)) (by simp [go_sem])
  have f3 := hx1.free (b := w.heap.size + 1) (o := 1) (by simp <;> omega) (by simp [go_sem])
  have c4 := hx1.cell (b := w.heap.size + 1 + 1) (o := 0) (v := .int .i64 (n)) (by simp [go_sem])
  have f4 := hx1.free (b := w.heap.size + 1 + 1) (o := 0) (by simp <;> omega) (by simp [go_sem])
  have c5 := hx1.cell (b := w.heap.size + 1 + 1) (o := 1) (v := .int .i64 (a)) (by simp [go_sem])
  have f5 := hx1.free (b := w.heap.size + 1 + 1) (o := 1) (by simp <;> omega) (by simp [go_sem])
  have l0 := cell_lt c0
  have l1 := cell_lt c2
  have l2 := cell_lt c4
  have x1 : Ext w w1 := Ext.trans ((((Ext.refl w).alloc _).alloc _).alloc _) hx1
  clear hx1
  go_wp2_with fail
  refine (above_yes _ E2.out E3.out).mono ?_
  rintro e w2 ⟨rfl, hx2⟩
  replace f0 := hx2.free (cell_lt c0) f0
  replace c0 := hx2.cell c0
  replace f1 := hx2.free (cell_lt c1) f1
  replace c1 := hx2.cell c1
  replace f2 := hx2.free (cell_lt c2) f2
  replace c2 := hx2.cell c2
  replace f3 := hx2.free (cell_lt c3) f3
  replace c3 := hx2.cell c3
  replace f4 := hx2.free (cell_lt c4) f4
  replace c4 := hx2.cell c4
  replace f5 := hx2.free (cell_lt c5) f5
  replace c5 := hx2.cell c5
  have l0 := cell_lt c0
  have l1 := cell_lt c2
  have l2 := cell_lt c4
  replace x1 := x1.trans hx2
  clear hx2
  go_wp2
  refine bodyPost_ret (v := pl (n) (a + 1)) (by simp [results, Try.results20, go_sem, c0, c1, c2, c3, c4, c5]) rfl ⟨rfl, ?_⟩
  repeat (first | exact x1 | exact Ext.refl _ | refine Ext.setCell ?_ (by simp) _ | refine Ext.alloc ?_ _)

set_option maxHeartbeats 400000 in
theorem cut_no (n a p q f u i : Int) (w : World) (hn : okI n) (ha : okI a) (hp : okI p) (hq : okI q) (hf : okI f) (hu : okI u) (hi : okI i) (e0 : ¬ (n = p ∧ q < a)) (e1 : 0 ≤ u) (e2 : ¬ (n = u ∧ i < a)) :
    Calls Try.prog 20 #[pl n a, .int .i64 p, .int .i64 q, .int .i64 f, .int .i64 u, .int .i64 i] w (RPlace (n) (a) w) := by
  have kn := hn.1
  have mn := hn.2
  have ka := ha.1
  have ma := ha.2
  have kp := hp.1
  have mp := hp.2
  have kq := hq.1
  have mq := hq.2
  have kf := hf.1
  have mf := hf.2
  have ku := hu.1
  have mu := hu.2
  have ki := hi.1
  have mi := hi.2
  have E0 := Lib.hid e0
  clear e0
  have E1 := Lib.hid e1
  have E2 := Lib.hid e2
  clear e2
  go_enter Try.func20, Try.ntmps20
  go_wp2_with fail
  refine (above_no _ E0.out).mono ?_
  rintro e w1 ⟨rfl, hx1⟩
  have c0 := hx1.cell (b := w.heap.size) (o := 0) (v := .int .i64 (n)) (by simp [go_sem])
  have f0 := hx1.free (b := w.heap.size) (o := 0) (by simp <;> omega) (by simp [go_sem])
  have c1 := hx1.cell (b := w.heap.size) (o := 1) (v := .int .i64 (a)) (by simp [go_sem])
  have f1 := hx1.free (b := w.heap.size) (o := 1) (by simp <;> omega) (by simp [go_sem])
  have c2 := hx1.cell (b := w.heap.size + 1) (o := 0) (v := .int .i64 (0)) (by simp [go_sem])
  have f2 := hx1.free (b := w.heap.size + 1) (o := 0) (by simp <;> omega) (by simp [go_sem])
  have c3 := hx1.cell (b := w.heap.size + 1) (o := 1) (v := .int .i64 (0)) (by simp [go_sem])
  have f3 := hx1.free (b := w.heap.size + 1) (o := 1) (by simp <;> omega) (by simp [go_sem])
  have c4 := hx1.cell (b := w.heap.size + 1 + 1) (o := 0) (v := .int .i64 (n)) (by simp [go_sem])
  have f4 := hx1.free (b := w.heap.size + 1 + 1) (o := 0) (by simp <;> omega) (by simp [go_sem])
  have c5 := hx1.cell (b := w.heap.size + 1 + 1) (o := 1) (v := .int .i64 (a)) (by simp [go_sem])
  have f5 := hx1.free (b := w.heap.size + 1 + 1) (o := 1) (by simp <;> omega) (by simp [go_sem])
  have l0 := cell_lt c0
  have l1 := cell_lt c2
  have l2 := cell_lt c4
  have x1 : Ext w w1 := Ext.trans ((((Ext.refl w).alloc _).alloc _).alloc _) hx1
  clear hx1
  go_wp2_with fail
  refine (above_no _ E2.out).mono ?_
  rintro e w2 ⟨rfl, hx2⟩
  replace f0 := hx2.free (cell_lt c0) f0
  replace c0 := hx2.cell c0
  replace f1 := hx2.free (cell_lt c1) f1
  replace c1 := hx2.cell c1
  replace f2 := hx2.free (cell_lt c2) f2
  replace c2 := hx2.cell c2
  replace f3 := hx2.free (cell_lt c3) f3
  replace c3 := hx2.cell c3
  replace f4 := hx2.free (cell_lt c4) f4
  replace c4 := hx2.cell c4
  replace f5 := hx2.free (cell_lt c5) f5
  replace c5 := hx2.cell c5
  have l0 := cell_lt c0
  have l1 := cell_lt c2
  have l2 := cell_lt c4
  replace x1 := x1.trans hx2
  clear hx2
  go_wp2
  refine bodyPost_ret (v := pl (n) (a)) (by simp [results, Try.results20, go_sem, c0, c1, c2, c3, c4, c5]) rfl ⟨rfl, ?_⟩
  repeat (first | exact x1 | exact Ext.refl _ | refine Ext.setCell ?_ (by simp) _ | refine Ext.alloc ?_ _)

set_option maxHeartbeats 400000 in
theorem cut_root (n a p q f u i : Int) (w : World) (hn : okI n) (ha : okI a) (hp : okI p) (hq : okI q) (hf : okI f) (hu : okI u) (hi : okI i) (e0 : ¬ (n = p ∧ q < a)) (e1 : u < 0) :
    Calls Try.prog 20 #[pl n a, .int .i64 p, .int .i64 q, .int .i64 f, .int .i64 u, .int .i64 i] w (RPlace (n) (a) w) := by
  have kn := hn.1
  have mn := hn.2
  have ka := ha.1
  have ma := ha.2
  have kp := hp.1
  have mp := hp.2
  have kq := hq.1
  have mq := hq.2
  have kf := hf.1
  have mf := hf.2
  have ku := hu.1
  have mu := hu.2
  have ki := hi.1
  have mi := hi.2
  have E0 := Lib.hid e0
  clear e0
  have E1 := Lib.hid e1
  go_enter Try.func20, Try.ntmps20
  go_wp2_with fail
  refine (above_no _ E0.out).mono ?_
  rintro e w1 ⟨rfl, hx1⟩
  have c0 := hx1.cell (b := w.heap.size) (o := 0) (v := .int .i64 (n)) (by simp [go_sem])
  have f0 := hx1.free (b := w.heap.size) (o := 0) (by simp <;> omega) (by simp [go_sem])
  have c1 := hx1.cell (b := w.heap.size) (o := 1) (v := .int .i64 (a)) (by simp [go_sem])
  have f1 := hx1.free (b := w.heap.size) (o := 1) (by simp <;> omega) (by simp [go_sem])
  have c2 := hx1.cell (b := w.heap.size + 1) (o := 0) (v := .int .i64 (0)) (by simp [go_sem])
  have f2 := hx1.free (b := w.heap.size + 1) (o := 0) (by simp <;> omega) (by simp [go_sem])
  have c3 := hx1.cell (b := w.heap.size + 1) (o := 1) (v := .int .i64 (0)) (by simp [go_sem])
  have f3 := hx1.free (b := w.heap.size + 1) (o := 1) (by simp <;> omega) (by simp [go_sem])
  have c4 := hx1.cell (b := w.heap.size + 1 + 1) (o := 0) (v := .int .i64 (n)) (by simp [go_sem])
  have f4 := hx1.free (b := w.heap.size + 1 + 1) (o := 0) (by simp <;> omega) (by simp [go_sem])
  have c5 := hx1.cell (b := w.heap.size + 1 + 1) (o := 1) (v := .int .i64 (a)) (by simp [go_sem])
  have f5 := hx1.free (b := w.heap.size + 1 + 1) (o := 1) (by simp <;> omega) (by simp [go_sem])
  have l0 := cell_lt c0
  have l1 := cell_lt c2
  have l2 := cell_lt c4
  have x1 : Ext w w1 := Ext.trans ((((Ext.refl w).alloc _).alloc _).alloc _) hx1
  clear hx1
  go_wp2
  refine bodyPost_ret (v := pl (n) (a)) (by simp [results, Try.results20, go_sem, c0, c1, c2, c3, c4, c5]) rfl ⟨rfl, ?_⟩
  repeat (first | exact x1 | exact Ext.refl _ | refine Ext.setCell ?_ (by simp) _ | refine Ext.alloc ?_ _)

set_option maxHeartbeats 400000 in
theorem splitText_here (n a p q f u i : Int) (w : World) (hn : okI n) (ha : okI a) (hp : okI p) (hq : okI q) (hf : okI f) (hu : okI u) (hi : okI i) (e0 : n = p) (e1 : q < a) :
    Calls Try.prog 15 #[pl n a, .int .i64 p, .int .i64 q, .int .i64 f, .int .i64 u, .int .i64 i] w (RPlace (f) (a - q) w) := by
  have kn := hn.1
  have mn := hn.2
  have ka := ha.1
  have ma := ha.2
  have kp := hp.1
  have mp := hp.2
  have kq := hq.1
  have mq := hq.2
  have kf := hf.1
  have mf := hf.2
  have ku := hu.1
  have mu := hu.2
  have ki := hi.1
  have mi := hi.2
  have E0 := Lib.hid e0
  clear e0
  have E1 := Lib.hid e1
  clear e1
  go_enter Try.func15, Try.ntmps15
  go_wp2_with fail
  refine (fit_yes _ _ _ [p, q, f, u, i] _ _ _ rfl rfl (by simp) (by simp) hn ha ?_ (cells_5 ?_ ?_ ?_ ?_ ?_)).mono ?_
  rotate_right
  · rintro e w1 ⟨rfl, hx1⟩
    have c0 := hx1.cell (b := w.heap.size) (o := 0) (v := .int .i64 (n)) (by simp [go_sem])
    have f0 := hx1.free (b := w.heap.size) (o := 0) (by simp <;> omega) (by simp [go_sem])
    have c1 := hx1.cell (b := w.heap.size) (o := 1) (v := .int .i64 (a)) (by simp [go_sem])
    have f1 := hx1.free (b := w.heap.size) (o := 1) (by simp <;> omega) (by simp [go_sem])
    have c2 := hx1.cell (b := w.heap.size + 1) (o := 0) (v := .int .i64 (0)) (by simp [go_sem])
    have f2 := hx1.free (b := w.heap.size + 1) (o := 0) (by simp <;> omega) (by simp [go_sem])
    have c3 := hx1.cell (b := w.heap.size + 1) (o := 1) (v := .int .i64 (0)) (by simp [go_sem])
    have f3 := hx1.free (b := w.heap.size + 1) (o := 1) (by simp <;> omega) (by simp [go_sem])
    have l0 := cell_lt c0
    have l1 := cell_lt c2
    have x1 : Ext w w1 := Ext.trans (((Ext.refl w).alloc _).alloc _ |>.alloc _) hx1
    clear hx1
    go_wp2_with fail
    refine (cut_here _ _ _ _ _ _ _ _ hn ha hp hq hf hu hi E0.out E1.out).mono ?_
    rintro e w2 ⟨rfl, hx2⟩
    replace f0 := hx2.free (cell_lt c0) f0
    replace c0 := hx2.cell c0
    replace f1 := hx2.free (cell_lt c1) f1
    replace c1 := hx2.cell c1
    replace f2 := hx2.free (cell_lt c2) f2
    replace c2 := hx2.cell c2
    replace f3 := hx2.free (cell_lt c3) f3
    replace c3 := hx2.cell c3
    have l0 := cell_lt c0
    have l1 := cell_lt c2
    replace x1 := x1.trans hx2
    clear hx2
    go_wp2
    refine bodyPost_ret (v := pl (f) (a - q)) (by simp [results, Try.results15, go_sem, c0, c1, c2, c3]) rfl ⟨rfl, ?_⟩
    repeat (first | exact x1 | exact Ext.refl _ | refine Ext.setCell ?_ (by simp) _ | refine Ext.alloc ?_ _)
  all_goals simp [go_sem, hp, hq, hf, hu, hi]

set_option maxHeartbeats 400000 in
theorem splitText_up (n a p q f u i : Int) (w : World) (hn : okI n) (ha : okI a) (hp : okI p) (hq : okI q) (hf : okI f) (hu : okI u) (hi : okI i) (e0 : ¬ (n = p ∧ q < a)) (e1 : 0 ≤ u) (e2 : n = u) (e3 : i < a) :
    Calls Try.prog 15 #[pl n a, .int .i64 p, .int .i64 q, .int .i64 f, .int .i64 u, .int .i64 i] w (RPlace (n) (a + 1) w) := by
  have kn := hn.1
  have mn := hn.2
  have ka := ha.1
  have ma := ha.2
  have kp := hp.1
  have mp := hp.2
  have kq := hq.1
  have mq := hq.2
  have kf := hf.1
  have mf := hf.2
  have ku := hu.1
  have mu := hu.2
  have ki := hi.1
  have mi := hi.2
  have E0 := Lib.hid e0
  clear e0
  have E1 := Lib.hid e1
  clear e1
  have E2 := Lib.hid e2
  clear e2
  have E3 := Lib.hid e3
  clear e3
  go_enter Try.func15, Try.ntmps15
  go_wp2_with fail
  refine (fit_yes _ _ _ [p, q, f, u, i] _ _ _ rfl rfl (by simp) (by simp) hn ha ?_ (cells_5 ?_ ?_ ?_ ?_ ?_)).mono ?_
  rotate_right
  · rintro e w1 ⟨rfl, hx1⟩
    have c0 := hx1.cell (b := w.heap.size) (o := 0) (v := .int .i64 (n)) (by simp [go_sem])
    have f0 := hx1.free (b := w.heap.size) (o := 0) (by simp <;> omega) (by simp [go_sem])
    have c1 := hx1.cell (b := w.heap.size) (o := 1) (v := .int .i64 (a)) (by simp [go_sem])
    have f1 := hx1.free (b := w.heap.size) (o := 1) (by simp <;> omega) (by simp [go_sem])
    have c2 := hx1.cell (b := w.heap.size + 1) (o := 0) (v := .int .i64 (0)) (by simp [go_sem])
    have f2 := hx1.free (b := w.heap.size + 1) (o := 0) (by simp <;> omega) (by simp [go_sem])
    have c3 := hx1.cell (b := w.heap.size + 1) (o := 1) (v := .int .i64 (0)) (by simp [go_sem])
    have f3 := hx1.free (b := w.heap.size + 1) (o := 1) (by simp <;> omega) (by simp [go_sem])
    have l0 := cell_lt c0
    have l1 := cell_lt c2
    have x1 : Ext w w1 := Ext.trans (((Ext.refl w).alloc _).alloc _ |>.alloc _) hx1
    clear hx1
    go_wp2_with fail
    refine (cut_up _ _ _ _ _ _ _ _ hn ha hp hq hf hu hi E0.out E1.out E2.out E3.out).mono ?_
    rintro e w2 ⟨rfl, hx2⟩
    replace f0 := hx2.free (cell_lt c0) f0
    replace c0 := hx2.cell c0
    replace f1 := hx2.free (cell_lt c1) f1
    replace c1 := hx2.cell c1
    replace f2 := hx2.free (cell_lt c2) f2
    replace c2 := hx2.cell c2
    replace f3 := hx2.free (cell_lt c3) f3
    replace c3 := hx2.cell c3
    have l0 := cell_lt c0
    have l1 := cell_lt c2
    replace x1 := x1.trans hx2
    clear hx2
    go_wp2
    refine bodyPost_ret (v := pl (n) (a + 1)) (by simp [results, Try.results15, go_sem, c0, c1, c2, c3]) rfl ⟨rfl, ?_⟩
    repeat (first | exact x1 | exact Ext.refl _ | refine Ext.setCell ?_ (by simp) _ | refine Ext.alloc ?_ _)
  all_goals simp [go_sem, hp, hq, hf, hu, hi]

set_option maxHeartbeats 400000 in
theorem splitText_no (n a p q f u i : Int) (w : World) (hn : okI n) (ha : okI a) (hp : okI p) (hq : okI q) (hf : okI f) (hu : okI u) (hi : okI i) (e0 : ¬ (n = p ∧ q < a)) (e1 : 0 ≤ u) (e2 : ¬ (n = u ∧ i < a)) :
    Calls Try.prog 15 #[pl n a, .int .i64 p, .int .i64 q, .int .i64 f, .int .i64 u, .int .i64 i] w (RPlace (n) (a) w) := by
  have kn := hn.1
  have mn := hn.2
  have ka := ha.1
  have ma := ha.2
  have kp := hp.1
  have mp := hp.2
  have kq := hq.1
  have mq := hq.2
  have kf := hf.1
  have mf := hf.2
  have ku := hu.1
  have mu := hu.2
  have ki := hi.1
  have mi := hi.2
  have E0 := Lib.hid e0
  clear e0
  have E1 := Lib.hid e1
  clear e1
  have E2 := Lib.hid e2
  clear e2
  go_enter Try.func15, Try.ntmps15
  go_wp2_with fail
  refine (fit_yes _ _ _ [p, q, f, u, i] _ _ _ rfl rfl (by simp) (by simp) hn ha ?_ (cells_5 ?_ ?_ ?_ ?_ ?_)).mono ?_
  rotate_right
  · rintro e w1 ⟨rfl, hx1⟩
    have c0 := hx1.cell (b := w.heap.size) (o := 0) (v := .int .i64 (n)) (by simp [go_sem])
    have f0 := hx1.free (b := w.heap.size) (o := 0) (by simp <;> omega) (by simp [go_sem])
    have c1 := hx1.cell (b := w.heap.size) (o := 1) (v := .int .i64 (a)) (by simp [go_sem])
    have f1 := hx1.free (b := w.heap.size) (o := 1) (by simp <;> omega) (by simp [go_sem])
    have c2 := hx1.cell (b := w.heap.size + 1) (o := 0) (v := .int .i64 (0)) (by simp [go_sem])
    have f2 := hx1.free (b := w.heap.size + 1) (o := 0) (by simp <;> omega) (by simp [go_sem])
    have c3 := hx1.cell (b := w.heap.size + 1) (o := 1) (v := .int .i64 (0)) (by simp [go_sem])
    have f3 := hx1.free (b := w.heap.size + 1) (o := 1) (by simp <;> omega) (by simp [go_sem])
    have l0 := cell_lt c0
    have l1 := cell_lt c2
    have x1 : Ext w w1 := Ext.trans (((Ext.refl w).alloc _).alloc _ |>.alloc _) hx1
    clear hx1
    go_wp2_with fail
    refine (cut_no _ _ _ _ _ _ _ _ hn ha hp hq hf hu hi E0.out E1.out E2.out).mono ?_
    rintro e w2 ⟨rfl, hx2⟩
    replace f0 := hx2.free (cell_lt c0) f0
    replace c0 := hx2.cell c0
    replace f1 := hx2.free (cell_lt c1) f1
    replace c1 := hx2.cell c1
    replace f2 := hx2.free (cell_lt c2) f2
    replace c2 := hx2.cell c2
    replace f3 := hx2.free (cell_lt c3) f3
    replace c3 := hx2.cell c3
    have l0 := cell_lt c0
    have l1 := cell_lt c2
    replace x1 := x1.trans hx2
    clear hx2
    go_wp2
    refine bodyPost_ret (v := pl (n) (a)) (by simp [results, Try.results15, go_sem, c0, c1, c2, c3]) rfl ⟨rfl, ?_⟩
    repeat (first | exact x1 | exact Ext.refl _ | refine Ext.setCell ?_ (by simp) _ | refine Ext.alloc ?_ _)
  all_goals simp [go_sem, hp, hq, hf, hu, hi]

set_option maxHeartbeats 400000 in
theorem splitText_root (n a p q f u i : Int) (w : World) (hn : okI n) (ha : okI a) (hp : okI p) (hq : okI q) (hf : okI f) (hu : okI u) (hi : okI i) (e0 : ¬ (n = p ∧ q < a)) (e1 : u < 0) :
    Calls Try.prog 15 #[pl n a, .int .i64 p, .int .i64 q, .int .i64 f, .int .i64 u, .int .i64 i] w (RPlace (n) (a) w) := by
  have kn := hn.1
  have mn := hn.2
  have ka := ha.1
  have ma := ha.2
  have kp := hp.1
  have mp := hp.2
  have kq := hq.1
  have mq := hq.2
  have kf := hf.1
  have mf := hf.2
  have ku := hu.1
  have mu := hu.2
  have ki := hi.1
  have mi := hi.2
  have E0 := Lib.hid e0
  clear e0
  have E1 := Lib.hid e1
  clear e1
  go_enter Try.func15, Try.ntmps15
  go_wp2_with fail
  refine (fit_yes _ _ _ [p, q, f, u, i] _ _ _ rfl rfl (by simp) (by simp) hn ha ?_ (cells_5 ?_ ?_ ?_ ?_ ?_)).mono ?_
  rotate_right
  · rintro e w1 ⟨rfl, hx1⟩
    have c0 := hx1.cell (b := w.heap.size) (o := 0) (v := .int .i64 (n)) (by simp [go_sem])
    have f0 := hx1.free (b := w.heap.size) (o := 0) (by simp <;> omega) (by simp [go_sem])
    have c1 := hx1.cell (b := w.heap.size) (o := 1) (v := .int .i64 (a)) (by simp [go_sem])
    have f1 := hx1.free (b := w.heap.size) (o := 1) (by simp <;> omega) (by simp [go_sem])
    have c2 := hx1.cell (b := w.heap.size + 1) (o := 0) (v := .int .i64 (0)) (by simp [go_sem])
    have f2 := hx1.free (b := w.heap.size + 1) (o := 0) (by simp <;> omega) (by simp [go_sem])
    have c3 := hx1.cell (b := w.heap.size + 1) (o := 1) (v := .int .i64 (0)) (by simp [go_sem])
    have f3 := hx1.free (b := w.heap.size + 1) (o := 1) (by simp <;> omega) (by simp [go_sem])
    have l0 := cell_lt c0
    have l1 := cell_lt c2
    have x1 : Ext w w1 := Ext.trans (((Ext.refl w).alloc _).alloc _ |>.alloc _) hx1
    clear hx1
    go_wp2_with fail
    refine (cut_root _ _ _ _ _ _ _ _ hn ha hp hq hf hu hi E0.out E1.out).mono ?_
    rintro e w2 ⟨rfl, hx2⟩
    replace f0 := hx2.free (cell_lt c0) f0
    replace c0 := hx2.cell c0
    replace f1 := hx2.free (cell_lt c1) f1
    replace c1 := hx2.cell c1
    replace f2 := hx2.free (cell_lt c2) f2
    replace c2 := hx2.cell c2
    replace f3 := hx2.free (cell_lt c3) f3
    replace c3 := hx2.cell c3
    have l0 := cell_lt c0
    have l1 := cell_lt c2
    replace x1 := x1.trans hx2
    clear hx2
    go_wp2
    refine bodyPost_ret (v := pl (n) (a)) (by simp [results, Try.results15, go_sem, c0, c1, c2, c3]) rfl ⟨rfl, ?_⟩
    repeat (first | exact x1 | exact Ext.refl _ | refine Ext.setCell ?_ (by simp) _ | refine Ext.alloc ?_ _)
  all_goals simp [go_sem, hp, hq, hf, hu, hi]

end Go.Proofs.Ytpachfdibhnobaa
