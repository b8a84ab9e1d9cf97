/- PointsMoved: the law answers true at every input. No conditions. -/
import Derived.Test.YtpachfdibhnobaaPtsE
namespace Go.Proofs.Ytpachfdibhnobaa
open Go Go.RowKit Go.BigFrame
set_option linter.unusedVariables false
theorem moved_is {X n a p q t i : Int} (w : World) (e : X = movA n a p q t i) (hn : okI n) (ha : okI a) (hp : okI p) (hq : okI q) (ht : okI t) (hi : okI i) :
    Calls Try.prog 12 #[pl n a, .int .i64 p, .int .i64 q, .int .i64 t, .int .i64 i] w (RPlace n X w) := by
  rw [e]; exact moved_any n a p q t i w hn ha hp hq ht hi
def smallM (z : Int) : Prop := 0 ≤ z ∧ z ≤ 10000
theorem okM {z : Int} (h : smallM z) : okI z := ⟨by have := h.1; omega, by have := h.2; omega⟩
set_option maxRecDepth 100000 in
set_option maxHeartbeats 2000000 in
theorem moved_walk_yes (n k f t M : Int) (w : World) (hn : smallM n) (hk : smallM k) (hf : smallM f) (ht : smallM t)
    (hK : (k == f + 1) = true) (hM : Hid (M = movA n k n f n t)) (hMo : okI M) (hL : Hid (f = movA n M n t n f)) (hL' : Hid (f = movA n k n f n f)) :
    Calls Try.prog 4 #[.int .i64 n, .int .i64 k, .int .i64 f, .int .i64 t] w (RBool true w) := by
  have b1 := hf.1
  have b2 := hf.2
  go_enter Try.func4, Try.ntmps4
  go_wp2_with fail
  refine (small_yes _ [n, k, f, t] _ _ _ rfl (by simp) ?_ (cells_4 ?_ ?_ ?_ ?_)).mono ?_
  rotate_right
  · rintro e w1 ⟨rfl, hx1⟩
    have x1 : Ext w w1 := Ext.trans ((Ext.refl w).alloc _) hx1
    clear hx1
    go_upto_region 5 with (go_at_call 8; refine (lawAt_any _ _ _).mono ?_; rintro e w' ⟨rfl, hx⟩; replace x1 := x1.trans hx; clear hx)
    go_wp2_with fail
    refine (lawAt_any _ _ _).mono ?_
    rintro e w2 ⟨rfl, hx⟩
    have c0 := hx.cell (b := w'.heap.size) (o := 0) (v := .int .i64 n) (by simp [go_sem])
    have c1 := hx.cell (b := w'.heap.size) (o := 1) (v := .int .i64 k) (by simp [go_sem])
    have d0 := hx.cell (b := w'.heap.size + 1) (o := 0) (v := .int .i64 n) (by simp [go_sem])
    have d1 := hx.cell (b := w'.heap.size + 1) (o := 1) (v := .int .i64 k) (by simp [go_sem])
    have e0 := hx.free (b := w'.heap.size + 1) (o := 0) (by simp <;> omega) (by simp [go_sem])
    have e1 := hx.free (b := w'.heap.size + 1) (o := 1) (by simp <;> omega) (by simp [go_sem])
    have l0 : w.heap.size ≤ w'.heap.size + 1 := Nat.le_succ_of_le x1.size
    replace x1 := ((x1.alloc _).alloc _).trans hx
    clear hx
    go_wp2_with fail
    refine (moved_is _ hM.out (okM hn) (okM hk) (okM hn) (okM hf) (okM hn) (okM ht)).mono ?_
    rintro e w3 ⟨rfl, hx⟩
    replace c0 := hx.cell (v := .int .i64 n) (b := w'.heap.size) (o := 0) (by simp [go_sem, c0])
    replace c1 := hx.cell (v := .int .i64 k) (b := w'.heap.size) (o := 1) (by simp [go_sem, c1])
    replace d0 := hx.cell (v := .int .i64 n) (b := w'.heap.size + 1) (o := 0) (by simp [go_sem, d0])
    replace d1 := hx.cell (v := .int .i64 f) (b := w'.heap.size + 1) (o := 1) (by simp [go_sem, d1])
    replace x1 := ((x1.setCell l0 _).setCell l0 _).trans hx
    clear hx
    go_wp2_with fail
    refine (moved_is _ hL.out (okM hn) hMo (okM hn) (okM ht) (okM hn) (okM hf)).mono ?_
    rintro e w4 ⟨rfl, hx⟩
    replace c0 := hx.cell c0
    replace c1 := hx.cell c1
    replace d0 := hx.cell d0
    replace d1 := hx.cell d1
    replace x1 := x1.trans hx
    clear hx
    go_upto_region 7 with fail
    obtain ⟨wz, hwz⟩ : ∃ wz : World, wz = w4.alloc (.cells #[.int .i64 n, .int .i64 f] 25) := ⟨_, rfl⟩
    have z0 : wz.cell? ⟨w4.heap.size, 0, none⟩ = some (.int .i64 n) := by simp [go_sem, hwz]
    have z1 : wz.cell? ⟨w4.heap.size, 1, none⟩ = some (.int .i64 f) := by simp [go_sem, hwz]
    replace c0 : wz.cell? ⟨w'.heap.size, 0, none⟩ = some (.int .i64 n) := by rw [hwz]; exact ((Ext.refl _).alloc _).cell c0
    replace c1 : wz.cell? ⟨w'.heap.size, 1, none⟩ = some (.int .i64 k) := by rw [hwz]; exact ((Ext.refl _).alloc _).cell c1
    replace d0 : wz.cell? ⟨w'.heap.size + 1, 0, none⟩ = some (.int .i64 n) := by rw [hwz]; exact ((Ext.refl _).alloc _).cell d0
    replace d1 : wz.cell? ⟨w'.heap.size + 1, 1, none⟩ = some (.int .i64 f) := by rw [hwz]; exact ((Ext.refl _).alloc _).cell d1
    replace x1 : Ext w wz := by rw [hwz]; exact x1.alloc _
    rw [← hwz]
    clear hwz
    have z0' := fun u : ExtOf wz => u.ext.cell z0
    have z1' := fun u : ExtOf wz => u.ext.cell z1
    have c0' := fun u : ExtOf wz => u.ext.cell c0
    have c1' := fun u : ExtOf wz => u.ext.cell c1
    have d0' := fun u : ExtOf wz => u.ext.cell d0
    have d1' := fun u : ExtOf wz => u.ext.cell d1
    refine wp_region_ext (by kernel_rfl) (by kernel_rfl) ?_
    repeat (go_big_quiet_step (first
      | (go_at_call 12; exact inExt (moved_is _ hL'.out (okM hn) (okM hk) (okM hn) (okM hf) (okM hn) (okM hf)))
      | (go_at_call 7; exact inExt (awake_any _))))
    refine wpQuiet_nil ?_
    rintro _ ⟨u, rfl⟩
    go_wp2
    go_ret
    exact ⟨rfl, x1.trans u.ext⟩
  · intro z hz; simp at hz; rcases hz with rfl | rfl | rfl | rfl <;> assumption
  all_goals simp [go_sem]
set_option maxRecDepth 100000 in
set_option maxHeartbeats 2000000 in
theorem moved_walk_no (n k f t M : Int) (w : World) (hn : smallM n) (hk : smallM k) (hf : smallM f) (ht : smallM t)
    (hK : (k == f + 1) = false) (hM : Hid (M = movA n k n f n t)) (hMo : okI M) (hL : Hid (k = movA n M n t n f)) (hL' : Hid (k = movA n k n f n f)) :
    Calls Try.prog 4 #[.int .i64 n, .int .i64 k, .int .i64 f, .int .i64 t] w (RBool true w) := by
  have b1 := hf.1
  have b2 := hf.2
  go_enter Try.func4, Try.ntmps4
  go_wp2_with fail
  refine (small_yes _ [n, k, f, t] _ _ _ rfl (by simp) ?_ (cells_4 ?_ ?_ ?_ ?_)).mono ?_
  rotate_right
  · rintro e w1 ⟨rfl, hx1⟩
    have x1 : Ext w w1 := Ext.trans ((Ext.refl w).alloc _) hx1
    clear hx1
    go_upto_region 6 with (go_at_call 8; refine (lawAt_any _ _ _).mono ?_; rintro e w' ⟨rfl, hx⟩; replace x1 := x1.trans hx; clear hx)
    go_wp2_with fail
    refine (moved_is _ hM.out (okM hn) (okM hk) (okM hn) (okM hf) (okM hn) (okM ht)).mono ?_
    rintro e w3 ⟨rfl, hx⟩
    have c0 := hx.cell (v := .int .i64 n) (b := w'.heap.size) (o := 0) (by simp [go_sem])
    have c1 := hx.cell (v := .int .i64 k) (b := w'.heap.size) (o := 1) (by simp [go_sem])
    have d0 := hx.cell (v := .int .i64 n) (b := w'.heap.size + 1) (o := 0) (by simp [go_sem])
    have d1 := hx.cell (v := .int .i64 k) (b := w'.heap.size + 1) (o := 1) (by simp [go_sem])
    replace x1 := ((x1.alloc _).alloc _).trans hx
    clear hx
    go_wp2_with fail
    refine (moved_is _ hL.out (okM hn) hMo (okM hn) (okM ht) (okM hn) (okM hf)).mono ?_
    rintro e w4 ⟨rfl, hx⟩
    replace c0 := hx.cell c0
    replace c1 := hx.cell c1
    replace d0 := hx.cell d0
    replace d1 := hx.cell d1
    replace x1 := x1.trans hx
    clear hx
    go_upto_region 7 with fail
    obtain ⟨wz, hwz⟩ : ∃ wz : World, wz = w4.alloc (.cells #[.int .i64 n, .int .i64 k] 25) := ⟨_, rfl⟩
    have z0 : wz.cell? ⟨w4.heap.size, 0, none⟩ = some (.int .i64 n) := by simp [go_sem, hwz]
    have z1 : wz.cell? ⟨w4.heap.size, 1, none⟩ = some (.int .i64 k) := by simp [go_sem, hwz]
    replace c0 : wz.cell? ⟨w'.heap.size, 0, none⟩ = some (.int .i64 n) := by rw [hwz]; exact ((Ext.refl _).alloc _).cell c0
    replace c1 : wz.cell? ⟨w'.heap.size, 1, none⟩ = some (.int .i64 k) := by rw [hwz]; exact ((Ext.refl _).alloc _).cell c1
    replace d0 : wz.cell? ⟨w'.heap.size + 1, 0, none⟩ = some (.int .i64 n) := by rw [hwz]; exact ((Ext.refl _).alloc _).cell d0
    replace d1 : wz.cell? ⟨w'.heap.size + 1, 1, none⟩ = some (.int .i64 k) := by rw [hwz]; exact ((Ext.refl _).alloc _).cell d1
    replace x1 : Ext w wz := by rw [hwz]; exact x1.alloc _
    rw [← hwz]
    clear hwz
    have z0' := fun u : ExtOf wz => u.ext.cell z0
    have z1' := fun u : ExtOf wz => u.ext.cell z1
    have c0' := fun u : ExtOf wz => u.ext.cell c0
    have c1' := fun u : ExtOf wz => u.ext.cell c1
    have d0' := fun u : ExtOf wz => u.ext.cell d0
    have d1' := fun u : ExtOf wz => u.ext.cell d1
    refine wp_region_ext (by kernel_rfl) (by kernel_rfl) ?_
    repeat (go_big_quiet_step (first
      | (go_at_call 12; exact inExt (moved_is _ hL'.out (okM hn) (okM hk) (okM hn) (okM hf) (okM hn) (okM hf)))
      | (go_at_call 7; exact inExt (awake_any _))))
    refine wpQuiet_nil ?_
    rintro _ ⟨u, rfl⟩
    go_wp2
    go_ret
    exact ⟨rfl, x1.trans u.ext⟩
  · intro z hz; simp at hz; rcases hz with rfl | rfl | rfl | rfl <;> assumption
  all_goals simp [go_sem]

theorem moved_nums (n k f t : Int) (hn : smallM n) (hk : smallM k) (hf : smallM f) (ht : smallM t) :
    okI (movA n k n f n t) ∧ ((k == f + 1) = true → f = movA n (movA n k n f n t) n t n f ∧ f = movA n k n f n f) ∧ ((k == f + 1) = false → k = movA n (movA n k n f n t) n t n f ∧ k = movA n k n f n f) := by
  obtain ⟨h1, h2⟩ := hn
  obtain ⟨h3, h4⟩ := hk
  obtain ⟨h5, h6⟩ := hf
  obtain ⟨h7, h8⟩ := ht
  simp only [beq_iff_eq, beq_eq_false_iff_ne]
  unfold okI movA insA remA
  simp only [true_and]
  refine ⟨⟨?_, ?_⟩, fun h => ⟨?_, ?_⟩, fun h => ⟨?_, ?_⟩⟩ <;> (repeat' split) <;> omega

set_option maxRecDepth 100000 in
set_option maxHeartbeats 1000000 in
theorem moved_off (n k f t : Int) (w : World) (hs : ∃ z ∈ [n, k, f, t], ¬ smallM z) :
    Calls Try.prog 4 #[.int .i64 n, .int .i64 k, .int .i64 f, .int .i64 t] w (RBool true w) := by
  have HS := Lib.hid hs
  clear hs
  go_enter Try.func4, Try.ntmps4
  go_wp2_with fail
  refine (small_no _ [n, k, f, t] _ _ _ rfl (by simp) HS.out (cells_4 ?_ ?_ ?_ ?_)).mono ?_
  rotate_right
  · rintro e w1 ⟨rfl, hx1⟩
    have x1 : Ext w w1 := Ext.trans ((Ext.refl w).alloc _) hx1
    clear hx1
    go_wp2_with (go_at_call 7; refine (awake_any _).mono ?_; rintro e w' ⟨rfl, hx⟩; replace x1 := x1.trans hx; clear hx)
    go_ret
    exact ⟨rfl, x1⟩
  all_goals simp [go_sem]

theorem moved_law (n : Int) (_ : (Lit.int .i64 n).wf = true) (k : Int) (_ : (Lit.int .i64 k).wf = true) (f : Int) (_ : (Lit.int .i64 f).wf = true) (t : Int) (_ : (Lit.int .i64 t).wf = true) (w : World) :
    Calls Try.prog 4 #[.int .i64 n, .int .i64 k, .int .i64 f, .int .i64 t] w fun e w' => e = .returned (.bool true) ∧ Below w.heap.size w w' := by
  by_cases hs : ∀ z ∈ [n, k, f, t], smallM z
  · have hn := hs n (by simp)
    have hk := hs k (by simp)
    have hf := hs f (by simp)
    have ht := hs t (by simp)
    obtain ⟨hM, hy, hno⟩ := moved_nums n k f t hn hk hf ht
    cases h : (k == f + 1)
    · exact moved_walk_no n k f t _ w hn hk hf ht h rfl hM (hno h).1 (hno h).2
    · exact moved_walk_yes n k f t _ w hn hk hf ht h rfl hM (hy h).1 (hy h).2
  · refine moved_off n k f t w ?_
    exact Classical.byContradiction fun hc => hs fun z hz => Classical.byContradiction fun h => hc ⟨z, hz, h⟩
end Go.Proofs.Ytpachfdibhnobaa
