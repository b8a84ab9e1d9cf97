/- Package points, continued: JoinText, Wrapped, Unwrapped, Moved. Conditions: all numbers are from -1 to 2^30. -/
import Derived.Test.YtpachfdibhnobaaPtsB
namespace Go.Proofs.Ytpachfdibhnobaa
open Go Go.RowKit
set_option linter.unusedVariables false
set_option linter.unusedSimpArgs false

set_option maxHeartbeats 400000 in
theorem wrapped_no (n a p q m f : Int) (w : World) (hn : okI n) (ha : okI a) (hp : okI p) (hq : okI q) (hm : okI m) (hf : okI f) (e0 : ¬ (n = p ∧ q < a)) :
    Calls Try.prog 13 #[pl n a, .int .i64 p, .int .i64 q, .int .i64 m, .int .i64 f] w (RPlace (n) (a) w) := by
  have kn := hn.1
  have mn := hn.2
  have ka := ha.1
  have ma := ha.2
  have kp := hp.1
  have mp := hp.2
  have kq := hq.1
  have mq := hq.2
  have km := hm.1
  have mm := hm.2
  have kf := hf.1
  have mf := hf.2
  have E0 := Lib.hid e0
  clear e0
  go_enter Try.func13, Try.ntmps13
  go_wp2_with fail
  refine (fit_yes _ _ _ [p, q, m, f] _ _ _ rfl rfl (by simp) (by simp) hn ha ?_ (cells_4 ?_ ?_ ?_ ?_)).mono ?_
  rotate_right
  · rintro e w1 ⟨rfl, hx1⟩
    have c0 := hx1.cell (b := w.heap.size) (o := 0) (v := .int .i64 (n)) (by simp [go_sem])
    have f0 := hx1.free (b := w.heap.size) (o := 0) (by simp <;> omega) (by simp [go_sem])
    have c1 := hx1.cell (b := w.heap.size) (o := 1) (v := .int .i64 (a)) (by simp [go_sem])
    have f1 := hx1.free (b := w.heap.size) (o := 1) (by simp <;> omega) (by simp [go_sem])
    have c2 := hx1.cell (b := w.heap.size + 1) (o := 0) (v := .int .i64 (0)) (by simp [go_sem])
    have f2 := hx1.free (b := w.heap.size + 1) (o := 0) (by simp <;> omega) (by simp [go_sem])
    have c3 := hx1.cell (b := w.heap.size + 1) (o := 1) (v := .int .i64 (0)) (by simp [go_sem])
    have f3 := hx1.free (b := w.heap.size + 1) (o := 1) (by simp <;> omega) (by simp [go_sem])
    have l0 := cell_lt c0
    have l1 := cell_lt c2
    have x1 : Ext w w1 := Ext.trans (((Ext.refl w).alloc _).alloc _ |>.alloc _) hx1
    clear hx1
    go_wp2_with fail
    refine (above_no _ E0.out).mono ?_
    rintro e w2 ⟨rfl, hx2⟩
    replace f0 := hx2.free (cell_lt c0) f0
    replace c0 := hx2.cell c0
    replace f1 := hx2.free (cell_lt c1) f1
    replace c1 := hx2.cell c1
    replace f2 := hx2.free (cell_lt c2) f2
    replace c2 := hx2.cell c2
    replace f3 := hx2.free (cell_lt c3) f3
    replace c3 := hx2.cell c3
    have l0 := cell_lt c0
    have l1 := cell_lt c2
    replace x1 := x1.trans hx2
    clear hx2
    go_wp2
    refine bodyPost_ret (v := pl (n) (a)) (by simp [results, Try.results13, go_sem, c0, c1, c2, c3]) rfl ⟨rfl, ?_⟩
    repeat (first | exact x1 | exact Ext.refl _ | refine Ext.setCell ?_ (by simp) _ | refine Ext.alloc ?_ _)
  all_goals simp [go_sem, hp, hq, hm, hf]

set_option maxHeartbeats 400000 in
theorem wrapped_in (n a p q m f : Int) (w : World) (hn : okI n) (ha : okI a) (hp : okI p) (hq : okI q) (hm : okI m) (hf : okI f) (e0 : n = p) (e1 : q < a) (e2 : a < q + m) :
    Calls Try.prog 13 #[pl n a, .int .i64 p, .int .i64 q, .int .i64 m, .int .i64 f] w (RPlace (f) (a - q) w) := by
  have kn := hn.1
  have mn := hn.2
  have ka := ha.1
  have ma := ha.2
  have kp := hp.1
  have mp := hp.2
  have kq := hq.1
  have mq := hq.2
  have km := hm.1
  have mm := hm.2
  have kf := hf.1
  have mf := hf.2
  have E0 := Lib.hid e0
  clear e0
  have E1 := Lib.hid e1
  clear e1
  have E2 := Lib.hid e2
  go_enter Try.func13, Try.ntmps13
  go_wp2_with fail
  refine (fit_yes _ _ _ [p, q, m, f] _ _ _ rfl rfl (by simp) (by simp) hn ha ?_ (cells_4 ?_ ?_ ?_ ?_)).mono ?_
  rotate_right
  · rintro e w1 ⟨rfl, hx1⟩
    have c0 := hx1.cell (b := w.heap.size) (o := 0) (v := .int .i64 (n)) (by simp [go_sem])
    have f0 := hx1.free (b := w.heap.size) (o := 0) (by simp <;> omega) (by simp [go_sem])
    have c1 := hx1.cell (b := w.heap.size) (o := 1) (v := .int .i64 (a)) (by simp [go_sem])
    have f1 := hx1.free (b := w.heap.size) (o := 1) (by simp <;> omega) (by simp [go_sem])
    have c2 := hx1.cell (b := w.heap.size + 1) (o := 0) (v := .int .i64 (0)) (by simp [go_sem])
    have f2 := hx1.free (b := w.heap.size + 1) (o := 0) (by simp <;> omega) (by simp [go_sem])
    have c3 := hx1.cell (b := w.heap.size + 1) (o := 1) (v := .int .i64 (0)) (by simp [go_sem])
    have f3 := hx1.free (b := w.heap.size + 1) (o := 1) (by simp <;> omega) (by simp [go_sem])
    have l0 := cell_lt c0
    have l1 := cell_lt c2
    have x1 : Ext w w1 := Ext.trans (((Ext.refl w).alloc _).alloc _ |>.alloc _) hx1
    clear hx1
    go_wp2_with fail
    refine (above_yes _ E0.out E1.out).mono ?_
    rintro e w2 ⟨rfl, hx2⟩
    replace f0 := hx2.free (cell_lt c0) f0
    replace c0 := hx2.cell c0
    replace f1 := hx2.free (cell_lt c1) f1
    replace c1 := hx2.cell c1
    replace f2 := hx2.free (cell_lt c2) f2
    replace c2 := hx2.cell c2
    replace f3 := hx2.free (cell_lt c3) f3
    replace c3 := hx2.cell c3
    have l0 := cell_lt c0
    have l1 := cell_lt c2
    replace x1 := x1.trans hx2
    clear hx2
    go_wp2_with fail
    refine (to_any _ _ _).mono ?_
    rintro e w3 ⟨rfl, hx3⟩
    replace f0 := hx3.free (cell_lt c0) f0
    replace c0 := hx3.cell c0
    replace f1 := hx3.free (cell_lt c1) f1
    replace c1 := hx3.cell c1
    replace f2 := hx3.free (cell_lt c2) f2
    replace c2 := hx3.cell c2
    replace f3 := hx3.free (cell_lt c3) f3
    replace c3 := hx3.cell c3
    have l0 := cell_lt c0
    have l1 := cell_lt c2
    replace x1 := x1.trans hx3
    clear hx3
    go_wp2
    refine bodyPost_ret (v := pl (f) (a - q)) (by simp [results, Try.results13, go_sem, c0, c1, c2, c3]) rfl ⟨rfl, ?_⟩
    repeat (first | exact x1 | exact Ext.refl _ | refine Ext.setCell ?_ (by simp) _ | refine Ext.alloc ?_ _)
  all_goals simp [go_sem, hp, hq, hm, hf]

set_option maxHeartbeats 400000 in
theorem wrapped_far (n a p q m f : Int) (w : World) (hn : okI n) (ha : okI a) (hp : okI p) (hq : okI q) (hm : okI m) (hf : okI f) (e0 : n = p) (e1 : q < a) (e2 : ¬ a < q + m) :
    Calls Try.prog 13 #[pl n a, .int .i64 p, .int .i64 q, .int .i64 m, .int .i64 f] w (RPlace (p) (a - m + 1) w) := by
  have kn := hn.1
  have mn := hn.2
  have ka := ha.1
  have ma := ha.2
  have kp := hp.1
  have mp := hp.2
  have kq := hq.1
  have mq := hq.2
  have km := hm.1
  have mm := hm.2
  have kf := hf.1
  have mf := hf.2
  have E0 := Lib.hid e0
  clear e0
  have E1 := Lib.hid e1
  clear e1
  have E2 := Lib.hid e2
  go_enter Try.func13, Try.ntmps13
  go_wp2_with fail
  refine (fit_yes _ _ _ [p, q, m, f] _ _ _ rfl rfl (by simp) (by simp) hn ha ?_ (cells_4 ?_ ?_ ?_ ?_)).mono ?_
  rotate_right
  · rintro e w1 ⟨rfl, hx1⟩
    have c0 := hx1.cell (b := w.heap.size) (o := 0) (v := .int .i64 (n)) (by simp [go_sem])
    have f0 := hx1.free (b := w.heap.size) (o := 0) (by simp <;> omega) (by simp [go_sem])
    have c1 := hx1.cell (b := w.heap.size) (o := 1) (v := .int .i64 (a)) (by simp [go_sem])
    have f1 := hx1.free (b := w.heap.size) (o := 1) (by simp <;> omega) (by simp [go_sem])
    have c2 := hx1.cell (b := w.heap.size + 1) (o := 0) (v := .int .i64 (0)) (by simp [go_sem])
    have f2 := hx1.free (b := w.heap.size + 1) (o := 0) (by simp <;> omega) (by simp [go_sem])
    have c3 := hx1.cell (b := w.heap.size + 1) (o := 1) (v := .int .i64 (0)) (by simp [go_sem])
    have f3 := hx1.free (b := w.heap.size + 1) (o := 1) (by simp <;> omega) (by simp [go_sem])
    have l0 := cell_lt c0
    have l1 := cell_lt c2
    have x1 : Ext w w1 := Ext.trans (((Ext.refl w).alloc _).alloc _ |>.alloc _) hx1
    clear hx1
    go_wp2_with fail
    refine (above_yes _ E0.out E1.out).mono ?_
    rintro e w2 ⟨rfl, hx2⟩
    replace f0 := hx2.free (cell_lt c0) f0
    replace c0 := hx2.cell c0
    replace f1 := hx2.free (cell_lt c1) f1
    replace c1 := hx2.cell c1
    replace f2 := hx2.free (cell_lt c2) f2
    replace c2 := hx2.cell c2
    replace f3 := hx2.free (cell_lt c3) f3
    replace c3 := hx2.cell c3
    have l0 := cell_lt c0
    have l1 := cell_lt c2
    replace x1 := x1.trans hx2
    clear hx2
    go_wp2_with fail
    refine (to_any _ _ _).mono ?_
    rintro e w3 ⟨rfl, hx3⟩
    replace f0 := hx3.free (cell_lt c0) f0
    replace c0 := hx3.cell c0
    replace f1 := hx3.free (cell_lt c1) f1
    replace c1 := hx3.cell c1
    replace f2 := hx3.free (cell_lt c2) f2
    replace c2 := hx3.cell c2
    replace f3 := hx3.free (cell_lt c3) f3
    replace c3 := hx3.cell c3
    have l0 := cell_lt c0
    have l1 := cell_lt c2
    replace x1 := x1.trans hx3
    clear hx3
    go_wp2
    refine bodyPost_ret (v := pl (p) (a - m + 1)) (by simp [results, Try.results13, go_sem, c0, c1, c2, c3]) rfl ⟨rfl, ?_⟩
    repeat (first | exact x1 | exact Ext.refl _ | refine Ext.setCell ?_ (by simp) _ | refine Ext.alloc ?_ _)
  all_goals simp [go_sem, hp, hq, hm, hf]

set_option maxHeartbeats 400000 in
theorem unwrapped_in (n a d m u i : Int) (w : World) (hn : okI n) (ha : okI a) (hd : okI d) (hm : okI m) (hu : okI u) (hi : okI i) (e0 : (n == d) = true) :
    Calls Try.prog 14 #[pl n a, .int .i64 d, .int .i64 m, .int .i64 u, .int .i64 i] w (RPlace (u) (i + a) w) := by
  have kn := hn.1
  have mn := hn.2
  have ka := ha.1
  have ma := ha.2
  have kd := hd.1
  have md := hd.2
  have km := hm.1
  have mm := hm.2
  have ku := hu.1
  have mu := hu.2
  have ki := hi.1
  have mi := hi.2
  have E0 := Lib.hid e0
  go_enter Try.func14, Try.ntmps14
  go_wp2_with fail
  refine (fit_yes _ _ _ [d, m, u, i] _ _ _ rfl rfl (by simp) (by simp) hn ha ?_ (cells_4 ?_ ?_ ?_ ?_)).mono ?_
  rotate_right
  · rintro e w1 ⟨rfl, hx1⟩
    have c0 := hx1.cell (b := w.heap.size) (o := 0) (v := .int .i64 (n)) (by simp [go_sem])
    have f0 := hx1.free (b := w.heap.size) (o := 0) (by simp <;> omega) (by simp [go_sem])
    have c1 := hx1.cell (b := w.heap.size) (o := 1) (v := .int .i64 (a)) (by simp [go_sem])
    have f1 := hx1.free (b := w.heap.size) (o := 1) (by simp <;> omega) (by simp [go_sem])
    have c2 := hx1.cell (b := w.heap.size + 1) (o := 0) (v := .int .i64 (0)) (by simp [go_sem])
    have f2 := hx1.free (b := w.heap.size + 1) (o := 0) (by simp <;> omega) (by simp [go_sem])
    have c3 := hx1.cell (b := w.heap.size + 1) (o := 1) (v := .int .i64 (0)) (by simp [go_sem])
    have f3 := hx1.free (b := w.heap.size + 1) (o := 1) (by simp <;> omega) (by simp [go_sem])
    have l0 := cell_lt c0
    have l1 := cell_lt c2
    have x1 : Ext w w1 := Ext.trans (((Ext.refl w).alloc _).alloc _ |>.alloc _) hx1
    clear hx1
    go_wp2_with fail
    refine (to_any _ _ _).mono ?_
    rintro e w2 ⟨rfl, hx2⟩
    replace f0 := hx2.free (cell_lt c0) f0
    replace c0 := hx2.cell c0
    replace f1 := hx2.free (cell_lt c1) f1
    replace c1 := hx2.cell c1
    replace f2 := hx2.free (cell_lt c2) f2
    replace c2 := hx2.cell c2
    replace f3 := hx2.free (cell_lt c3) f3
    replace c3 := hx2.cell c3
    have l0 := cell_lt c0
    have l1 := cell_lt c2
    replace x1 := x1.trans hx2
    clear hx2
    go_wp2
    refine bodyPost_ret (v := pl (u) (i + a)) (by simp [results, Try.results14, go_sem, c0, c1, c2, c3]) rfl ⟨rfl, ?_⟩
    repeat (first | exact x1 | exact Ext.refl _ | refine Ext.setCell ?_ (by simp) _ | refine Ext.alloc ?_ _)
  all_goals simp [go_sem, hd, hm, hu, hi]

set_option maxHeartbeats 400000 in
theorem unwrapped_yes (n a d m u i : Int) (w : World) (hn : okI n) (ha : okI a) (hd : okI d) (hm : okI m) (hu : okI u) (hi : okI i) (e0 : (n == d) = false) (e1 : n = u) (e2 : i < a) :
    Calls Try.prog 14 #[pl n a, .int .i64 d, .int .i64 m, .int .i64 u, .int .i64 i] w (RPlace (n) (a + (m - 1)) w) := by
  have kn := hn.1
  have mn := hn.2
  have ka := ha.1
  have ma := ha.2
  have kd := hd.1
  have md := hd.2
  have km := hm.1
  have mm := hm.2
  have ku := hu.1
  have mu := hu.2
  have ki := hi.1
  have mi := hi.2
  have E0 := Lib.hid e0
  have E1 := Lib.hid e1
  clear e1
  have E2 := Lib.hid e2
  clear e2
  go_enter Try.func14, Try.ntmps14
  go_wp2_with fail
  refine (fit_yes _ _ _ [d, m, u, i] _ _ _ rfl rfl (by simp) (by simp) hn ha ?_ (cells_4 ?_ ?_ ?_ ?_)).mono ?_
  rotate_right
  · rintro e w1 ⟨rfl, hx1⟩
    have c0 := hx1.cell (b := w.heap.size) (o := 0) (v := .int .i64 (n)) (by simp [go_sem])
    have f0 := hx1.free (b := w.heap.size) (o := 0) (by simp <;> omega) (by simp [go_sem])
    have c1 := hx1.cell (b := w.heap.size) (o := 1) (v := .int .i64 (a)) (by simp [go_sem])
    have f1 := hx1.free (b := w.heap.size) (o := 1) (by simp <;> omega) (by simp [go_sem])
    have c2 := hx1.cell (b := w.heap.size + 1) (o := 0) (v := .int .i64 (0)) (by simp [go_sem])
    have f2 := hx1.free (b := w.heap.size + 1) (o := 0) (by simp <;> omega) (by simp [go_sem])
    have c3 := hx1.cell (b := w.heap.size + 1) (o := 1) (v := .int .i64 (0)) (by simp [go_sem])
    have f3 := hx1.free (b := w.heap.size + 1) (o := 1) (by simp <;> omega) (by simp [go_sem])
    have l0 := cell_lt c0
    have l1 := cell_lt c2
    have x1 : Ext w w1 := Ext.trans (((Ext.refl w).alloc _).alloc _ |>.alloc _) hx1
    clear hx1
    go_wp2_with fail
    refine (above_yes _ E1.out E2.out).mono ?_
    rintro e w2 ⟨rfl, hx2⟩
    replace f0 := hx2.free (cell_lt c0) f0
    replace c0 := hx2.cell c0
    replace f1 := hx2.free (cell_lt c1) f1
    replace c1 := hx2.cell c1
    replace f2 := hx2.free (cell_lt c2) f2
    replace c2 := hx2.cell c2
    replace f3 := hx2.free (cell_lt c3) f3
    replace c3 := hx2.cell c3
    have l0 := cell_lt c0
    have l1 := cell_lt c2
    replace x1 := x1.trans hx2
    clear hx2
    go_wp2
    refine bodyPost_ret (v := pl (n) (a + (m - 1))) (by simp [results, Try.results14, go_sem, c0, c1, c2, c3]) rfl ⟨rfl, ?_⟩
    repeat (first | exact x1 | exact Ext.refl _ | refine Ext.setCell ?_ (by simp) _ | refine Ext.alloc ?_ _)
  all_goals simp [go_sem, hd, hm, hu, hi]

set_option maxHeartbeats 400000 in
theorem unwrapped_no (n a d m u i : Int) (w : World) (hn : okI n) (ha : okI a) (hd : okI d) (hm : okI m) (hu : okI u) (hi : okI i) (e0 : (n == d) = false) (e1 : ¬ (n = u ∧ i < a)) :
    Calls Try.prog 14 #[pl n a, .int .i64 d, .int .i64 m, .int .i64 u, .int .i64 i] w (RPlace (n) (a) w) := by
  have kn := hn.1
  have mn := hn.2
  have ka := ha.1
  have ma := ha.2
  have kd := hd.1
  have md := hd.2
  have km := hm.1
  have mm := hm.2
  have ku := hu.1
  have mu := hu.2
  have ki := hi.1
  have mi := hi.2
  have E0 := Lib.hid e0
  have E1 := Lib.hid e1
  clear e1
  go_enter Try.func14, Try.ntmps14
  go_wp2_with fail
  refine (fit_yes _ _ _ [d, m, u, i] _ _ _ rfl rfl (by simp) (by simp) hn ha ?_ (cells_4 ?_ ?_ ?_ ?_)).mono ?_
  rotate_right
  · rintro e w1 ⟨rfl, hx1⟩
    have c0 := hx1.cell (b := w.heap.size) (o := 0) (v := .int .i64 (n)) (by simp [go_sem])
    have f0 := hx1.free (b := w.heap.size) (o := 0) (by simp <;> omega) (by simp [go_sem])
    have c1 := hx1.cell (b := w.heap.size) (o := 1) (v := .int .i64 (a)) (by simp [go_sem])
    have f1 := hx1.free (b := w.heap.size) (o := 1) (by simp <;> omega) (by simp [go_sem])
    have c2 := hx1.cell (b := w.heap.size + 1) (o := 0) (v := .int .i64 (0)) (by simp [go_sem])
    have f2 := hx1.free (b := w.heap.size + 1) (o := 0) (by simp <;> omega) (by simp [go_sem])
    have c3 := hx1.cell (b := w.heap.size + 1) (o := 1) (v := .int .i64 (0)) (by simp [go_sem])
    have f3 := hx1.free (b := w.heap.size + 1) (o := 1) (by simp <;> omega) (by simp [go_sem])
    have l0 := cell_lt c0
    have l1 := cell_lt c2
    have x1 : Ext w w1 := Ext.trans (((Ext.refl w).alloc _).alloc _ |>.alloc _) hx1
    clear hx1
    go_wp2_with fail
    refine (above_no _ E1.out).mono ?_
    rintro e w2 ⟨rfl, hx2⟩
    replace f0 := hx2.free (cell_lt c0) f0
    replace c0 := hx2.cell c0
    replace f1 := hx2.free (cell_lt c1) f1
    replace c1 := hx2.cell c1
    replace f2 := hx2.free (cell_lt c2) f2
    replace c2 := hx2.cell c2
    replace f3 := hx2.free (cell_lt c3) f3
    replace c3 := hx2.cell c3
    have l0 := cell_lt c0
    have l1 := cell_lt c2
    replace x1 := x1.trans hx2
    clear hx2
    go_wp2
    refine bodyPost_ret (v := pl (n) (a)) (by simp [results, Try.results14, go_sem, c0, c1, c2, c3]) rfl ⟨rfl, ?_⟩
    repeat (first | exact x1 | exact Ext.refl _ | refine Ext.setCell ?_ (by simp) _ | refine Ext.alloc ?_ _)
  all_goals simp [go_sem, hd, hm, hu, hi]

set_option maxHeartbeats 400000 in
theorem moved_yy (n a p q t i : Int) (w : World) (hn : okI n) (ha : okI a) (hp : okI p) (hq : okI q) (ht : okI t) (hi : okI i) (e0 : n = p) (e1 : q < a) (e2 : n = t) (e3 : i < a - 1) :
    Calls Try.prog 12 #[pl n a, .int .i64 p, .int .i64 q, .int .i64 t, .int .i64 i] w (RPlace (n) (a - 1 + 1) w) := by
  have kn := hn.1
  have mn := hn.2
  have ka := ha.1
  have ma := ha.2
  have kp := hp.1
  have mp := hp.2
  have kq := hq.1
  have mq := hq.2
  have kt := ht.1
  have mt := ht.2
  have ki := hi.1
  have mi := hi.2
  have E0 := Lib.hid e0
  clear e0
  have E1 := Lib.hid e1
  clear e1
  have E2 := Lib.hid e2
  clear e2
  have E3 := Lib.hid e3
  clear e3
  go_enter Try.func12, Try.ntmps12
  go_wp2_with fail
  refine (fit_yes _ _ _ [p, q, t, i] _ _ _ rfl rfl (by simp) (by simp) hn ha ?_ (cells_4 ?_ ?_ ?_ ?_)).mono ?_
  rotate_right
  · rintro e w1 ⟨rfl, hx1⟩
    have c0 := hx1.cell (b := w.heap.size) (o := 0) (v := .int .i64 (n)) (by simp [go_sem])
    have f0 := hx1.free (b := w.heap.size) (o := 0) (by simp <;> omega) (by simp [go_sem])
    have c1 := hx1.cell (b := w.heap.size) (o := 1) (v := .int .i64 (a)) (by simp [go_sem])
    have f1 := hx1.free (b := w.heap.size) (o := 1) (by simp <;> omega) (by simp [go_sem])
    have c2 := hx1.cell (b := w.heap.size + 1) (o := 0) (v := .int .i64 (0)) (by simp [go_sem])
    have f2 := hx1.free (b := w.heap.size + 1) (o := 0) (by simp <;> omega) (by simp [go_sem])
    have c3 := hx1.cell (b := w.heap.size + 1) (o := 1) (v := .int .i64 (0)) (by simp [go_sem])
    have f3 := hx1.free (b := w.heap.size + 1) (o := 1) (by simp <;> omega) (by simp [go_sem])
    have l0 := cell_lt c0
    have l1 := cell_lt c2
    have x1 : Ext w w1 := Ext.trans (((Ext.refl w).alloc _).alloc _ |>.alloc _) hx1
    clear hx1
    go_wp2_with fail
    refine (removed_yes _ _ _ _ _ hn ha hp hq E0.out E1.out).mono ?_
    rintro e w2 ⟨rfl, hx2⟩
    replace f0 := hx2.free (cell_lt c0) f0
    replace c0 := hx2.cell c0
    replace f1 := hx2.free (cell_lt c1) f1
    replace c1 := hx2.cell c1
    replace f2 := hx2.free (cell_lt c2) f2
    replace c2 := hx2.cell c2
    replace f3 := hx2.free (cell_lt c3) f3
    replace c3 := hx2.cell c3
    have l0 := cell_lt c0
    have l1 := cell_lt c2
    replace x1 := x1.trans hx2
    clear hx2
    go_wp2_with fail
    refine (inserted_yes _ _ _ _ _ _ hn ⟨by have := E0.out; have := E1.out; omega, by omega⟩ ht hi ⟨by decide, by decide⟩ E2.out E3.out).mono ?_
    rintro e w3 ⟨rfl, hx3⟩
    replace f0 := hx3.free (cell_lt c0) f0
    replace c0 := hx3.cell c0
    replace f1 := hx3.free (cell_lt c1) f1
    replace c1 := hx3.cell c1
    replace f2 := hx3.free (cell_lt c2) f2
    replace c2 := hx3.cell c2
    replace f3 := hx3.free (cell_lt c3) f3
    replace c3 := hx3.cell c3
    have l0 := cell_lt c0
    have l1 := cell_lt c2
    replace x1 := x1.trans hx3
    clear hx3
    go_wp2
    refine bodyPost_ret (v := pl (n) (a - 1 + 1)) (by simp [results, Try.results12, go_sem, c0, c1, c2, c3]) rfl ⟨rfl, ?_⟩
    repeat (first | exact x1 | exact Ext.refl _ | refine Ext.setCell ?_ (by simp) _ | refine Ext.alloc ?_ _)
  all_goals simp [go_sem, hp, hq, ht, hi]

set_option maxHeartbeats 400000 in
theorem moved_yn (n a p q t i : Int) (w : World) (hn : okI n) (ha : okI a) (hp : okI p) (hq : okI q) (ht : okI t) (hi : okI i) (e0 : n = p) (e1 : q < a) (e2 : ¬ (n = t ∧ i < a - 1)) :
    Calls Try.prog 12 #[pl n a, .int .i64 p, .int .i64 q, .int .i64 t, .int .i64 i] w (RPlace (n) (a - 1) w) := by
  have kn := hn.1
  have mn := hn.2
  have ka := ha.1
  have ma := ha.2
  have kp := hp.1
  have mp := hp.2
  have kq := hq.1
  have mq := hq.2
  have kt := ht.1
  have mt := ht.2
  have ki := hi.1
  have mi := hi.2
  have E0 := Lib.hid e0
  clear e0
  have E1 := Lib.hid e1
  clear e1
  have E2 := Lib.hid e2
  clear e2
  go_enter Try.func12, Try.ntmps12
  go_wp2_with fail
  refine (fit_yes _ _ _ [p, q, t, i] _ _ _ rfl rfl (by simp) (by simp) hn ha ?_ (cells_4 ?_ ?_ ?_ ?_)).mono ?_
  rotate_right
  · rintro e w1 ⟨rfl, hx1⟩
    have c0 := hx1.cell (b := w.heap.size) (o := 0) (v := .int .i64 (n)) (by simp [go_sem])
    have f0 := hx1.free (b := w.heap.size) (o := 0) (by simp <;> omega) (by simp [go_sem])
    have c1 := hx1.cell (b := w.heap.size) (o := 1) (v := .int .i64 (a)) (by simp [go_sem])
    have f1 := hx1.free (b := w.heap.size) (o := 1) (by simp <;> omega) (by simp [go_sem])
    have c2 := hx1.cell (b := w.heap.size + 1) (o := 0) (v := .int .i64 (0)) (by simp [go_sem])
    have f2 := hx1.free (b := w.heap.size + 1) (o := 0) (by simp <;> omega) (by simp [go_sem])
    have c3 := hx1.cell (b := w.heap.size + 1) (o := 1) (v := .int .i64 (0)) (by simp [go_sem])
    have f3 := hx1.free (b := w.heap.size + 1) (o := 1) (by simp <;> omega) (by simp [go_sem])
    have l0 := cell_lt c0
    have l1 := cell_lt c2
    have x1 : Ext w w1 := Ext.trans (((Ext.refl w).alloc _).alloc _ |>.alloc _) hx1
    clear hx1
    go_wp2_with fail
    refine (removed_yes _ _ _ _ _ hn ha hp hq E0.out E1.out).mono ?_
    rintro e w2 ⟨rfl, hx2⟩
    replace f0 := hx2.free (cell_lt c0) f0
    replace c0 := hx2.cell c0
    replace f1 := hx2.free (cell_lt c1) f1
    replace c1 := hx2.cell c1
    replace f2 := hx2.free (cell_lt c2) f2
    replace c2 := hx2.cell c2
    replace f3 := hx2.free (cell_lt c3) f3
    replace c3 := hx2.cell c3
    have l0 := cell_lt c0
    have l1 := cell_lt c2
    replace x1 := x1.trans hx2
    clear hx2
    go_wp2_with fail
    refine (inserted_no _ _ _ _ _ _ hn ⟨by have := E0.out; have := E1.out; omega, by omega⟩ ht hi ⟨by decide, by decide⟩ E2.out).mono ?_
    rintro e w3 ⟨rfl, hx3⟩
    replace f0 := hx3.free (cell_lt c0) f0
    replace c0 := hx3.cell c0
    replace f1 := hx3.free (cell_lt c1) f1
    replace c1 := hx3.cell c1
    replace f2 := hx3.free (cell_lt c2) f2
    replace c2 := hx3.cell c2
    replace f3 := hx3.free (cell_lt c3) f3
    replace c3 := hx3.cell c3
    have l0 := cell_lt c0
    have l1 := cell_lt c2
    replace x1 := x1.trans hx3
    clear hx3
    go_wp2
    refine bodyPost_ret (v := pl (n) (a - 1)) (by simp [results, Try.results12, go_sem, c0, c1, c2, c3]) rfl ⟨rfl, ?_⟩
    repeat (first | exact x1 | exact Ext.refl _ | refine Ext.setCell ?_ (by simp) _ | refine Ext.alloc ?_ _)
  all_goals simp [go_sem, hp, hq, ht, hi]

set_option maxHeartbeats 400000 in
theorem moved_ny (n a p q t i : Int) (w : World) (hn : okI n) (ha : okI a) (hp : okI p) (hq : okI q) (ht : okI t) (hi : okI i) (e0 : ¬ (n = p ∧ q < a)) (e1 : n = t) (e2 : i < a) :
    Calls Try.prog 12 #[pl n a, .int .i64 p, .int .i64 q, .int .i64 t, .int .i64 i] w (RPlace (n) (a + 1) w) := by
  have kn := hn.1
  have mn := hn.2
  have ka := ha.1
  have ma := ha.2
  have kp := hp.1
  have mp := hp.2
  have kq := hq.1
  have mq := hq.2
  have kt := ht.1
  have mt := ht.2
  have ki := hi.1
  have mi := hi.2
  have E0 := Lib.hid e0
  clear e0
  have E1 := Lib.hid e1
  clear e1
  have E2 := Lib.hid e2
  clear e2
  go_enter Try.func12, Try.ntmps12
  go_wp2_with fail
  refine (fit_yes _ _ _ [p, q, t, i] _ _ _ rfl rfl (by simp) (by simp) hn ha ?_ (cells_4 ?_ ?_ ?_ ?_)).mono ?_
  rotate_right
  · rintro e w1 ⟨rfl, hx1⟩
    have c0 := hx1.cell (b := w.heap.size) (o := 0) (v := .int .i64 (n)) (by simp [go_sem])
    have f0 := hx1.free (b := w.heap.size) (o := 0) (by simp <;> omega) (by simp [go_sem])
    have c1 := hx1.cell (b := w.heap.size) (o := 1) (v := .int .i64 (a)) (by simp [go_sem])
    have f1 := hx1.free (b := w.heap.size) (o := 1) (by simp <;> omega) (by simp [go_sem])
    have c2 := hx1.cell (b := w.heap.size + 1) (o := 0) (v := .int .i64 (0)) (by simp [go_sem])
    have f2 := hx1.free (b := w.heap.size + 1) (o := 0) (by simp <;> omega) (by simp [go_sem])
    have c3 := hx1.cell (b := w.heap.size + 1) (o := 1) (v := .int .i64 (0)) (by simp [go_sem])
    have f3 := hx1.free (b := w.heap.size + 1) (o := 1) (by simp <;> omega) (by simp [go_sem])
    have l0 := cell_lt c0
    have l1 := cell_lt c2
    have x1 : Ext w w1 := Ext.trans (((Ext.refl w).alloc _).alloc _ |>.alloc _) hx1
    clear hx1
    go_wp2_with fail
    refine (removed_no _ _ _ _ _ hn ha hp hq E0.out).mono ?_
    rintro e w2 ⟨rfl, hx2⟩
    replace f0 := hx2.free (cell_lt c0) f0
    replace c0 := hx2.cell c0
    replace f1 := hx2.free (cell_lt c1) f1
    replace c1 := hx2.cell c1
    replace f2 := hx2.free (cell_lt c2) f2
    replace c2 := hx2.cell c2
    replace f3 := hx2.free (cell_lt c3) f3
    replace c3 := hx2.cell c3
    have l0 := cell_lt c0
    have l1 := cell_lt c2
    replace x1 := x1.trans hx2
    clear hx2
    go_wp2_with fail
    refine (inserted_yes _ _ _ _ _ _ hn ha ht hi ⟨by decide, by decide⟩ E1.out E2.out).mono ?_
    rintro e w3 ⟨rfl, hx3⟩
    replace f0 := hx3.free (cell_lt c0) f0
    replace c0 := hx3.cell c0
    replace f1 := hx3.free (cell_lt c1) f1
    replace c1 := hx3.cell c1
    replace f2 := hx3.free (cell_lt c2) f2
    replace c2 := hx3.cell c2
    replace f3 := hx3.free (cell_lt c3) f3
    replace c3 := hx3.cell c3
    have l0 := cell_lt c0
    have l1 := cell_lt c2
    replace x1 := x1.trans hx3
    clear hx3
    go_wp2
    refine bodyPost_ret (v := pl (n) (a + 1)) (by simp [results, Try.results12, go_sem, c0, c1, c2, c3]) rfl ⟨rfl, ?_⟩
    repeat (first | exact x1 | exact Ext.refl _ | refine Ext.setCell ?_ (by simp) _ | refine Ext.alloc ?_ _)
  all_goals simp [go_sem, hp, hq, ht, hi]

set_option maxHeartbeats 400000 in
theorem moved_nn (n a p q t i : Int) (w : World) (hn : okI n) (ha : okI a) (hp : okI p) (hq : okI q) (ht : okI t) (hi : okI i) (e0 : ¬ (n = p ∧ q < a)) (e1 : ¬ (n = t ∧ i < a)) :
    Calls Try.prog 12 #[pl n a, .int .i64 p, .int .i64 q, .int .i64 t, .int .i64 i] w (RPlace (n) (a) w) := by
  have kn := hn.1
  have mn := hn.2
  have ka := ha.1
  have ma := ha.2
  have kp := hp.1
  have mp := hp.2
  have kq := hq.1
  have mq := hq.2
  have kt := ht.1
  have mt := ht.2
  have ki := hi.1
  have mi := hi.2
  have E0 := Lib.hid e0
  clear e0
  have E1 := Lib.hid e1
  clear e1
  go_enter Try.func12, Try.ntmps12
  go_wp2_with fail
  refine (fit_yes _ _ _ [p, q, t, i] _ _ _ rfl rfl (by simp) (by simp) hn ha ?_ (cells_4 ?_ ?_ ?_ ?_)).mono ?_
  rotate_right
  · rintro e w1 ⟨rfl, hx1⟩
    have c0 := hx1.cell (b := w.heap.size) (o := 0) (v := .int .i64 (n)) (by simp [go_sem])
    have f0 := hx1.free (b := w.heap.size) (o := 0) (by simp <;> omega) (by simp [go_sem])
    have c1 := hx1.cell (b := w.heap.size) (o := 1) (v := .int .i64 (a)) (by simp [go_sem])
    have f1 := hx1.free (b := w.heap.size) (o := 1) (by simp <;> omega) (by simp [go_sem])
    have c2 := hx1.cell (b := w.heap.size + 1) (o := 0) (v := .int .i64 (0)) (by simp [go_sem])
    have f2 := hx1.free (b := w.heap.size + 1) (o := 0) (by simp <;> omega) (by simp [go_sem])
    have c3 := hx1.cell (b := w.heap.size + 1) (o := 1) (v := .int .i64 (0)) (by simp [go_sem])
    have f3 := hx1.free (b := w.heap.size + 1) (o := 1) (by simp <;> omega) (by simp [go_sem])
    have l0 := cell_lt c0
    have l1 := cell_lt c2
    have x1 : Ext w w1 := Ext.trans (((Ext.refl w).alloc _).alloc _ |>.alloc _) hx1
    clear hx1
    go_wp2_with fail
    refine (removed_no _ _ _ _ _ hn ha hp hq E0.out).mono ?_
    rintro e w2 ⟨rfl, hx2⟩
    replace f0 := hx2.free (cell_lt c0) f0
    replace c0 := hx2.cell c0
    replace f1 := hx2.free (cell_lt c1) f1
    replace c1 := hx2.cell c1
    replace f2 := hx2.free (cell_lt c2) f2
    replace c2 := hx2.cell c2
    replace f3 := hx2.free (cell_lt c3) f3
    replace c3 := hx2.cell c3
    have l0 := cell_lt c0
    have l1 := cell_lt c2
    replace x1 := x1.trans hx2
    clear hx2
    go_wp2_with fail
    refine (inserted_no _ _ _ _ _ _ hn ha ht hi ⟨by decide, by decide⟩ E1.out).mono ?_
    rintro e w3 ⟨rfl, hx3⟩
    replace f0 := hx3.free (cell_lt c0) f0
    replace c0 := hx3.cell c0
    replace f1 := hx3.free (cell_lt c1) f1
    replace c1 := hx3.cell c1
    replace f2 := hx3.free (cell_lt c2) f2
    replace c2 := hx3.cell c2
    replace f3 := hx3.free (cell_lt c3) f3
    replace c3 := hx3.cell c3
    have l0 := cell_lt c0
    have l1 := cell_lt c2
    replace x1 := x1.trans hx3
    clear hx3
    go_wp2
    refine bodyPost_ret (v := pl (n) (a)) (by simp [results, Try.results12, go_sem, c0, c1, c2, c3]) rfl ⟨rfl, ?_⟩
    repeat (first | exact x1 | exact Ext.refl _ | refine Ext.setCell ?_ (by simp) _ | refine Ext.alloc ?_ _)
  all_goals simp [go_sem, hp, hq, ht, hi]

set_option maxHeartbeats 400000 in
theorem joinText_in (n a p o m u i : Int) (w : World) (hn : okI n) (ha : okI a) (hp : okI p) (ho : okI o) (hm : okI m) (hu : okI u) (hi : okI i) (e0 : (n == o) = true) :
    Calls Try.prog 16 #[pl n a, .int .i64 p, .int .i64 o, .int .i64 m, .int .i64 u, .int .i64 i] w (RPlace (p) (a + m) w) := by
  have kn := hn.1
  have mn := hn.2
  have ka := ha.1
  have ma := ha.2
  have kp := hp.1
  have mp := hp.2
  have ko := ho.1
  have mo := ho.2
  have km := hm.1
  have mm := hm.2
  have ku := hu.1
  have mu := hu.2
  have ki := hi.1
  have mi := hi.2
  have E0 := Lib.hid e0
  go_enter Try.func16, Try.ntmps16
  go_wp2_with fail
  refine (fit_yes _ _ _ [p, o, m, u, i] _ _ _ rfl rfl (by simp) (by simp) hn ha ?_ (cells_5 ?_ ?_ ?_ ?_ ?_)).mono ?_
  rotate_right
  · rintro e w1 ⟨rfl, hx1⟩
    have c0 := hx1.cell (b := w.heap.size) (o := 0) (v := .int .i64 (n)) (by simp [go_sem])
    have f0 := hx1.free (b := w.heap.size) (o := 0) (by simp <;> omega) (by simp [go_sem])
    have c1 := hx1.cell (b := w.heap.size) (o := 1) (v := .int .i64 (a)) (by simp [go_sem])
    have f1 := hx1.free (b := w.heap.size) (o := 1) (by simp <;> omega) (by simp [go_sem])
    have c2 := hx1.cell (b := w.heap.size + 1) (o := 0) (v := .int .i64 (0)) (by simp [go_sem])
    have f2 := hx1.free (b := w.heap.size + 1) (o := 0) (by simp <;> omega) (by simp [go_sem])
    have c3 := hx1.cell (b := w.heap.size + 1) (o := 1) (v := .int .i64 (0)) (by simp [go_sem])
    have f3 := hx1.free (b := w.heap.size + 1) (o := 1) (by simp <;> omega) (by simp [go_sem])
    have l0 := cell_lt c0
    have l1 := cell_lt c2
    have x1 : Ext w w1 := Ext.trans (((Ext.refl w).alloc _).alloc _ |>.alloc _) hx1
    clear hx1
    go_wp2_with fail
    refine (to_any _ _ _).mono ?_
    rintro e w2 ⟨rfl, hx2⟩
    replace f0 := hx2.free (cell_lt c0) f0
    replace c0 := hx2.cell c0
    replace f1 := hx2.free (cell_lt c1) f1
    replace c1 := hx2.cell c1
    replace f2 := hx2.free (cell_lt c2) f2
    replace c2 := hx2.cell c2
    replace f3 := hx2.free (cell_lt c3) f3
    replace c3 := hx2.cell c3
    have l0 := cell_lt c0
    have l1 := cell_lt c2
    replace x1 := x1.trans hx2
    clear hx2
    go_wp2
    refine bodyPost_ret (v := pl (p) (a + m)) (by simp [results, Try.results16, go_sem, c0, c1, c2, c3]) rfl ⟨rfl, ?_⟩
    repeat (first | exact x1 | exact Ext.refl _ | refine Ext.setCell ?_ (by simp) _ | refine Ext.alloc ?_ _)
  all_goals simp [go_sem, hp, ho, hm, hu, hi]

set_option maxHeartbeats 400000 in
theorem joinText_at (n a p o m u i : Int) (w : World) (hn : okI n) (ha : okI a) (hp : okI p) (ho : okI o) (hm : okI m) (hu : okI u) (hi : okI i) (e0 : (n == o) = false) (e1 : (n == u && a == i) = true) :
    Calls Try.prog 16 #[pl n a, .int .i64 p, .int .i64 o, .int .i64 m, .int .i64 u, .int .i64 i] w (RPlace (p) (m) w) := by
  have kn := hn.1
  have mn := hn.2
  have ka := ha.1
  have ma := ha.2
  have kp := hp.1
  have mp := hp.2
  have ko := ho.1
  have mo := ho.2
  have km := hm.1
  have mm := hm.2
  have ku := hu.1
  have mu := hu.2
  have ki := hi.1
  have mi := hi.2
  obtain ⟨rfl, rfl⟩ : n = u ∧ a = i := by simpa using e1
  have E0 := Lib.hid e0
  have E1 := Lib.hid e1
  clear e1
  go_enter Try.func16, Try.ntmps16
  go_wp2_with fail
  refine (fit_yes _ _ _ [p, o, m, n, a] _ _ _ rfl rfl (by simp) (by simp) hn ha ?_ (cells_5 ?_ ?_ ?_ ?_ ?_)).mono ?_
  rotate_right
  · rintro e w1 ⟨rfl, hx1⟩
    have c0 := hx1.cell (b := w.heap.size) (o := 0) (v := .int .i64 (n)) (by simp [go_sem])
    have f0 := hx1.free (b := w.heap.size) (o := 0) (by simp <;> omega) (by simp [go_sem])
    have c1 := hx1.cell (b := w.heap.size) (o := 1) (v := .int .i64 (a)) (by simp [go_sem])
    have f1 := hx1.free (b := w.heap.size) (o := 1) (by simp <;> omega) (by simp [go_sem])
    have c2 := hx1.cell (b := w.heap.size + 1) (o := 0) (v := .int .i64 (0)) (by simp [go_sem])
    have f2 := hx1.free (b := w.heap.size + 1) (o := 0) (by simp <;> omega) (by simp [go_sem])
    have c3 := hx1.cell (b := w.heap.size + 1) (o := 1) (v := .int .i64 (0)) (by simp [go_sem])
    have f3 := hx1.free (b := w.heap.size + 1) (o := 1) (by simp <;> omega) (by simp [go_sem])
    have l0 := cell_lt c0
    have l1 := cell_lt c2
    have x1 : Ext w w1 := Ext.trans (((Ext.refl w).alloc _).alloc _ |>.alloc _) hx1
    clear hx1
    go_wp2_with fail
    go_region_with (go_at_call 19; refine (to_any _ _ _).mono ?_; rintro e w2 ⟨rfl, hx2⟩; replace f0 := hx2.free (cell_lt c0) f0; replace c0 := hx2.cell c0; replace f1 := hx2.free (cell_lt c1) f1; replace c1 := hx2.cell c1; replace f2 := hx2.free (cell_lt c2) f2; replace c2 := hx2.cell c2; replace f3 := hx2.free (cell_lt c3) f3; replace c3 := hx2.cell c3; replace x1 := x1.drew.trans hx2; clear hx2; have l0 := cell_lt c0; have l1 := cell_lt c2)
    all_goals
      go_wp2_with fail
      refine (to_any _ _ _).mono ?_
      rintro e w3 ⟨rfl, hx3⟩
      replace f0 := hx3.free (cell_lt c0) f0
      replace c0 := hx3.cell c0
      replace f1 := hx3.free (cell_lt c1) f1
      replace c1 := hx3.cell c1
      replace f2 := hx3.free (cell_lt c2) f2
      replace c2 := hx3.cell c2
      replace f3 := hx3.free (cell_lt c3) f3
      replace c3 := hx3.cell c3
      have l0 := cell_lt c0
      have l1 := cell_lt c2
      replace x1 := x1.trans hx3
      clear hx3
      go_wp2
      refine bodyPost_ret (v := pl (p) (m)) (by simp [results, Try.results16, go_sem, c0, c1, c2, c3]) rfl ⟨rfl, ?_⟩
      repeat (first | exact x1 | exact Ext.refl _ | refine Ext.setCell ?_ (by simp) _ | refine Ext.alloc ?_ _)
  all_goals simp [go_sem, hp, ho, hm, hn, ha]

set_option maxHeartbeats 400000 in
theorem joinText_yes (n a p o m u i : Int) (w : World) (hn : okI n) (ha : okI a) (hp : okI p) (ho : okI o) (hm : okI m) (hu : okI u) (hi : okI i) (e0 : (n == o) = false) (e1 : (a == i) = false) (e2 : n = u) (e3 : i < a) :
    Calls Try.prog 16 #[pl n a, .int .i64 p, .int .i64 o, .int .i64 m, .int .i64 u, .int .i64 i] w (RPlace (n) (a - 1) w) := by
  have kn := hn.1
  have mn := hn.2
  have ka := ha.1
  have ma := ha.2
  have kp := hp.1
  have mp := hp.2
  have ko := ho.1
  have mo := ho.2
  have km := hm.1
  have mm := hm.2
  have ku := hu.1
  have mu := hu.2
  have ki := hi.1
  have mi := hi.2
  have E0 := Lib.hid e0
  have E1 := Lib.hid e1
  have E2 := Lib.hid e2
  clear e2
  have E3 := Lib.hid e3
  clear e3
  go_enter Try.func16, Try.ntmps16
  go_wp2_with fail
  refine (fit_yes _ _ _ [p, o, m, u, i] _ _ _ rfl rfl (by simp) (by simp) hn ha ?_ (cells_5 ?_ ?_ ?_ ?_ ?_)).mono ?_
  rotate_right
  · rintro e w1 ⟨rfl, hx1⟩
    have c0 := hx1.cell (b := w.heap.size) (o := 0) (v := .int .i64 (n)) (by simp [go_sem])
    have f0 := hx1.free (b := w.heap.size) (o := 0) (by simp <;> omega) (by simp [go_sem])
    have c1 := hx1.cell (b := w.heap.size) (o := 1) (v := .int .i64 (a)) (by simp [go_sem])
    have f1 := hx1.free (b := w.heap.size) (o := 1) (by simp <;> omega) (by simp [go_sem])
    have c2 := hx1.cell (b := w.heap.size + 1) (o := 0) (v := .int .i64 (0)) (by simp [go_sem])
    have f2 := hx1.free (b := w.heap.size + 1) (o := 0) (by simp <;> omega) (by simp [go_sem])
    have c3 := hx1.cell (b := w.heap.size + 1) (o := 1) (v := .int .i64 (0)) (by simp [go_sem])
    have f3 := hx1.free (b := w.heap.size + 1) (o := 1) (by simp <;> omega) (by simp [go_sem])
    have l0 := cell_lt c0
    have l1 := cell_lt c2
    have x1 : Ext w w1 := Ext.trans (((Ext.refl w).alloc _).alloc _ |>.alloc _) hx1
    clear hx1
    go_wp2_with fail
    go_region_with (go_at_call 19; refine (to_any _ _ _).mono ?_; rintro e w2 ⟨rfl, hx2⟩; replace f0 := hx2.free (cell_lt c0) f0; replace c0 := hx2.cell c0; replace f1 := hx2.free (cell_lt c1) f1; replace c1 := hx2.cell c1; replace f2 := hx2.free (cell_lt c2) f2; replace c2 := hx2.cell c2; replace f3 := hx2.free (cell_lt c3) f3; replace c3 := hx2.cell c3; replace x1 := x1.drew.trans hx2; clear hx2; have l0 := cell_lt c0; have l1 := cell_lt c2)
    all_goals
      go_wp2_with fail
      refine (above_yes _ E2.out E3.out).mono ?_
      rintro e w3 ⟨rfl, hx3⟩
      replace f0 := hx3.free (cell_lt c0) f0
      replace c0 := hx3.cell c0
      replace f1 := hx3.free (cell_lt c1) f1
      replace c1 := hx3.cell c1
      replace f2 := hx3.free (cell_lt c2) f2
      replace c2 := hx3.cell c2
      replace f3 := hx3.free (cell_lt c3) f3
      replace c3 := hx3.cell c3
      have l0 := cell_lt c0
      have l1 := cell_lt c2
      replace x1 := x1.trans hx3
      clear hx3
      go_wp2
      refine bodyPost_ret (v := pl (n) (a - 1)) (by simp [results, Try.results16, go_sem, c0, c1, c2, c3]) rfl ⟨rfl, ?_⟩
      repeat (first | exact x1 | exact Ext.refl _ | refine Ext.setCell ?_ (by simp) _ | refine Ext.alloc ?_ _)
  all_goals simp [go_sem, hp, ho, hm, hu, hi]

set_option maxHeartbeats 400000 in
theorem joinText_far (n a p o m u i : Int) (w : World) (hn : okI n) (ha : okI a) (hp : okI p) (ho : okI o) (hm : okI m) (hu : okI u) (hi : okI i) (e0 : (n == o) = false) (e1 : (n == u) = false) :
    Calls Try.prog 16 #[pl n a, .int .i64 p, .int .i64 o, .int .i64 m, .int .i64 u, .int .i64 i] w (RPlace (n) (a) w) := by
  have kn := hn.1
  have mn := hn.2
  have ka := ha.1
  have ma := ha.2
  have kp := hp.1
  have mp := hp.2
  have ko := ho.1
  have mo := ho.2
  have km := hm.1
  have mm := hm.2
  have ku := hu.1
  have mu := hu.2
  have ki := hi.1
  have mi := hi.2
  have E0 := Lib.hid e0
  have E1 := Lib.hid e1
  go_enter Try.func16, Try.ntmps16
  go_wp2_with fail
  refine (fit_yes _ _ _ [p, o, m, u, i] _ _ _ rfl rfl (by simp) (by simp) hn ha ?_ (cells_5 ?_ ?_ ?_ ?_ ?_)).mono ?_
  rotate_right
  · rintro e w1 ⟨rfl, hx1⟩
    have c0 := hx1.cell (b := w.heap.size) (o := 0) (v := .int .i64 (n)) (by simp [go_sem])
    have f0 := hx1.free (b := w.heap.size) (o := 0) (by simp <;> omega) (by simp [go_sem])
    have c1 := hx1.cell (b := w.heap.size) (o := 1) (v := .int .i64 (a)) (by simp [go_sem])
    have f1 := hx1.free (b := w.heap.size) (o := 1) (by simp <;> omega) (by simp [go_sem])
    have c2 := hx1.cell (b := w.heap.size + 1) (o := 0) (v := .int .i64 (0)) (by simp [go_sem])
    have f2 := hx1.free (b := w.heap.size + 1) (o := 0) (by simp <;> omega) (by simp [go_sem])
    have c3 := hx1.cell (b := w.heap.size + 1) (o := 1) (v := .int .i64 (0)) (by simp [go_sem])
    have f3 := hx1.free (b := w.heap.size + 1) (o := 1) (by simp <;> omega) (by simp [go_sem])
    have l0 := cell_lt c0
    have l1 := cell_lt c2
    have x1 : Ext w w1 := Ext.trans (((Ext.refl w).alloc _).alloc _ |>.alloc _) hx1
    clear hx1
    go_wp2_with fail
    go_region_with (go_at_call 19; refine (to_any _ _ _).mono ?_; rintro e w2 ⟨rfl, hx2⟩; replace f0 := hx2.free (cell_lt c0) f0; replace c0 := hx2.cell c0; replace f1 := hx2.free (cell_lt c1) f1; replace c1 := hx2.cell c1; replace f2 := hx2.free (cell_lt c2) f2; replace c2 := hx2.cell c2; replace f3 := hx2.free (cell_lt c3) f3; replace c3 := hx2.cell c3; replace x1 := x1.drew.trans hx2; clear hx2; have l0 := cell_lt c0; have l1 := cell_lt c2)
    all_goals
      go_wp2_with fail
      refine (above_no _ (by have := E1.out; intro h; rw [h.1] at this; simp at this)).mono ?_
      rintro e w3 ⟨rfl, hx3⟩
      replace f0 := hx3.free (cell_lt c0) f0
      replace c0 := hx3.cell c0
      replace f1 := hx3.free (cell_lt c1) f1
      replace c1 := hx3.cell c1
      replace f2 := hx3.free (cell_lt c2) f2
      replace c2 := hx3.cell c2
      replace f3 := hx3.free (cell_lt c3) f3
      replace c3 := hx3.cell c3
      have l0 := cell_lt c0
      have l1 := cell_lt c2
      replace x1 := x1.trans hx3
      clear hx3
      go_wp2
      refine bodyPost_ret (v := pl (n) (a)) (by simp [results, Try.results16, go_sem, c0, c1, c2, c3]) rfl ⟨rfl, ?_⟩
      repeat (first | exact x1 | exact Ext.refl _ | refine Ext.setCell ?_ (by simp) _ | refine Ext.alloc ?_ _)
  all_goals simp [go_sem, hp, ho, hm, hu, hi]

set_option maxHeartbeats 400000 in
theorem joinText_no (n a p o m u i : Int) (w : World) (hn : okI n) (ha : okI a) (hp : okI p) (ho : okI o) (hm : okI m) (hu : okI u) (hi : okI i) (e0 : (n == o) = false) (e1 : (a == i) = false) (e2 : n = u) (e3 : ¬ i < a) :
    Calls Try.prog 16 #[pl n a, .int .i64 p, .int .i64 o, .int .i64 m, .int .i64 u, .int .i64 i] w (RPlace (n) (a) w) := by
  have kn := hn.1
  have mn := hn.2
  have ka := ha.1
  have ma := ha.2
  have kp := hp.1
  have mp := hp.2
  have ko := ho.1
  have mo := ho.2
  have km := hm.1
  have mm := hm.2
  have ku := hu.1
  have mu := hu.2
  have ki := hi.1
  have mi := hi.2
  have E0 := Lib.hid e0
  have E1 := Lib.hid e1
  have E2 := Lib.hid e2
  clear e2
  have E3 := Lib.hid e3
  clear e3
  go_enter Try.func16, Try.ntmps16
  go_wp2_with fail
  refine (fit_yes _ _ _ [p, o, m, u, i] _ _ _ rfl rfl (by simp) (by simp) hn ha ?_ (cells_5 ?_ ?_ ?_ ?_ ?_)).mono ?_
  rotate_right
  · rintro e w1 ⟨rfl, hx1⟩
    have c0 := hx1.cell (b := w.heap.size) (o := 0) (v := .int .i64 (n)) (by simp [go_sem])
    have f0 := hx1.free (b := w.heap.size) (o := 0) (by simp <;> omega) (by simp [go_sem])
    have c1 := hx1.cell (b := w.heap.size) (o := 1) (v := .int .i64 (a)) (by simp [go_sem])
    have f1 := hx1.free (b := w.heap.size) (o := 1) (by simp <;> omega) (by simp [go_sem])
    have c2 := hx1.cell (b := w.heap.size + 1) (o := 0) (v := .int .i64 (0)) (by simp [go_sem])
    have f2 := hx1.free (b := w.heap.size + 1) (o := 0) (by simp <;> omega) (by simp [go_sem])
    have c3 := hx1.cell (b := w.heap.size + 1) (o := 1) (v := .int .i64 (0)) (by simp [go_sem])
    have f3 := hx1.free (b := w.heap.size + 1) (o := 1) (by simp <;> omega) (by simp [go_sem])
    have l0 := cell_lt c0
    have l1 := cell_lt c2
    have x1 : Ext w w1 := Ext.trans (((Ext.refl w).alloc _).alloc _ |>.alloc _) hx1
    clear hx1
    go_wp2_with fail
    go_region_with (go_at_call 19; refine (to_any _ _ _).mono ?_; rintro e w2 ⟨rfl, hx2⟩; replace f0 := hx2.free (cell_lt c0) f0; replace c0 := hx2.cell c0; replace f1 := hx2.free (cell_lt c1) f1; replace c1 := hx2.cell c1; replace f2 := hx2.free (cell_lt c2) f2; replace c2 := hx2.cell c2; replace f3 := hx2.free (cell_lt c3) f3; replace c3 := hx2.cell c3; replace x1 := x1.drew.trans hx2; clear hx2; have l0 := cell_lt c0; have l1 := cell_lt c2)
    all_goals
      go_wp2_with fail
      refine (above_no _ (by have := E3.out; omega)).mono ?_
      rintro e w3 ⟨rfl, hx3⟩
      replace f0 := hx3.free (cell_lt c0) f0
      replace c0 := hx3.cell c0
      replace f1 := hx3.free (cell_lt c1) f1
      replace c1 := hx3.cell c1
      replace f2 := hx3.free (cell_lt c2) f2
      replace c2 := hx3.cell c2
      replace f3 := hx3.free (cell_lt c3) f3
      replace c3 := hx3.cell c3
      have l0 := cell_lt c0
      have l1 := cell_lt c2
      replace x1 := x1.trans hx3
      clear hx3
      go_wp2
      refine bodyPost_ret (v := pl (n) (a)) (by simp [results, Try.results16, go_sem, c0, c1, c2, c3]) rfl ⟨rfl, ?_⟩
      repeat (first | exact x1 | exact Ext.refl _ | refine Ext.setCell ?_ (by simp) _ | refine Ext.alloc ?_ _)
  all_goals simp [go_sem, hp, ho, hm, hu, hi]

end Go.Proofs.Ytpachfdibhnobaa
