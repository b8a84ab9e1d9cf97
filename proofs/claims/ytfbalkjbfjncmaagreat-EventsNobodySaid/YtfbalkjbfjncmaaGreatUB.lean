/- EventsNobody: events.May, Order, Way, Dispatch on nothing; the chapter's first example. No conditions. -/
import Derived.Test.YtfbalkjbfjncmaaGreatUA
namespace Go.Proofs.YtfbalkjbfjncmaaGreat
open Go Go.RowKit Go.BigFrame
set_option linter.unusedVariables false
set_option linter.unusedSimpArgs false

theorem e_off {v : Value} {z : Int} {b : Bool} (h : decide (0 ≤ z) = b) : b = decide (z ≥ 0) := h.symm
/-- a listener of the example: its level, its capture -/
abbrev Ls := Int × Int
def lsV (x : Ls) : Value := .agg #[.int .i64 0, .int .i64 x.1, .int .i64 x.2, .slice none 0 0]
structure FAt (w : World) (g : Nat) (l : List Ls) : Prop where
  out : ∀ (i : Nat) (x : Ls), l[i]? = some x → w.cell? ⟨g, i * 4, none⟩ = some (.int .i64 0) ∧ w.cell? ⟨g, i * 4 + 1, none⟩ = some (.int .i64 x.1) ∧ w.cell? ⟨g, i * 4 + 2, none⟩ = some (.int .i64 x.2) ∧ w.cell? ⟨g, i * 4 + 3, none⟩ = some (.slice none 0 0)
theorem FAt.ext {w w' : World} {g : Nat} {l : List Ls} (h : FAt w g l) (x : Ext w w') : FAt w' g l := ⟨fun i y hy => by
  obtain ⟨a, b, c, d⟩ := h.out i y hy
  exact ⟨x.cell a, x.cell b, x.cell c, x.cell d⟩⟩
def fiveL : List Ls := [(0, 0), (-1, 1), (1, 1), (2, 0), (0, 1)]
def FiveIs (w : World) (e : Ending) (w' : World) : Prop := ∃ g, e = .returned (.slice (some ⟨g, 0, none⟩) 5 5) ∧ FAt w' g fiveL ∧ Ext w w' ∧ w.heap.size ≤ g
set_option maxHeartbeats 2000000 in
set_option maxRecDepth 100000 in
theorem five_any (w : World) : Calls Tryz.prog 18 #[] w (FiveIs w) := by
  have xa := (Ext.refl w).alloc (.cells #[.int .i64 0, .int .i64 0, .int .i64 0, .slice none 0 0, .int .i64 0, .int .i64 (-1), .int .i64 1, .slice none 0 0, .int .i64 0, .int .i64 1, .int .i64 1, .slice none 0 0, .int .i64 0, .int .i64 2, .int .i64 0, .slice none 0 0, .int .i64 0, .int .i64 0, .int .i64 1, .slice none 0 0] 50)
  have hb := heap_alloc_new w (.cells #[.int .i64 0, .int .i64 0, .int .i64 0, .slice none 0 0, .int .i64 0, .int .i64 (-1), .int .i64 1, .slice none 0 0, .int .i64 0, .int .i64 1, .int .i64 1, .slice none 0 0, .int .i64 0, .int .i64 2, .int .i64 0, .slice none 0 0, .int .i64 0, .int .i64 0, .int .i64 1, .slice none 0 0] 50)
  have FIN : Hid (FiveIs w (.returned (.slice (some ⟨w.heap.size, 0, none⟩) 5 5)) (w.alloc (.cells #[.int .i64 0, .int .i64 0, .int .i64 0, .slice none 0 0, .int .i64 0, .int .i64 (-1), .int .i64 1, .slice none 0 0, .int .i64 0, .int .i64 1, .int .i64 1, .slice none 0 0, .int .i64 0, .int .i64 2, .int .i64 0, .slice none 0 0, .int .i64 0, .int .i64 0, .int .i64 1, .slice none 0 0] 50))) := Lib.hid ⟨_, rfl, ⟨fun i x hx => by
    match i, hx with
    | 0, hx => cases hx; exact ⟨cellOf hb rfl, cellOf hb rfl, cellOf hb rfl, cellOf hb rfl⟩
    | 1, hx => cases hx; exact ⟨cellOf hb rfl, cellOf hb rfl, cellOf hb rfl, cellOf hb rfl⟩
    | 2, hx => cases hx; exact ⟨cellOf hb rfl, cellOf hb rfl, cellOf hb rfl, cellOf hb rfl⟩
    | 3, hx => cases hx; exact ⟨cellOf hb rfl, cellOf hb rfl, cellOf hb rfl, cellOf hb rfl⟩
    | 4, hx => cases hx; exact ⟨cellOf hb rfl, cellOf hb rfl, cellOf hb rfl, cellOf hb rfl⟩
    | i + 5, hx => simp [fiveL] at hx⟩, xa, Nat.le_refl _⟩
  clear xa hb
  go_enter Tryz.func18, Tryz.ntmps18
  go_wp2_with fail
  go_ret
  exact FIN.out
set_option maxHeartbeats 1000000 in
theorem indexA_nil (f : Value) (w : World) : Calls Tryz.prog 29 #[.slice none 0 0, f] w (RVal (.int .i64 (-1)) w) := by
  go_enter Tryz.func29, Tryz.ntmps29
  go_wp2_with fail
  go_loopw [5, 8] (fun _ n wr => n = .int .i64 0 ∧ Ext w wr) (fun _ _ _ => 0)
  case atStart => exact ⟨rfl, Ext.refl _⟩
  case round =>
    obtain ⟨rfl, xr⟩ := hrel
    go_wp2_with fail
    go_ret
    exact ⟨rfl, xr⟩
set_option maxHeartbeats 1000000 in
theorem containsA_nil (f : Value) (w : World) : Calls Tryz.prog 21 #[.slice none 0 0, f] w (RBool false w) := by
  have HC := Lib.hid (indexA_nil f w)
  go_enter Tryz.func21, Tryz.ntmps21
  go_wp2_with (go_at_call 29; refine HC.out.mono ?_)
  rintro e w1 ⟨rfl, x1⟩
  go_wp2_with fail
  go_ret
  exact ⟨rfl, x1⟩
set_option maxHeartbeats 2000000 in
set_option maxRecDepth 100000 in
theorem may1_any (x : Ls) (hx : -1 ≤ x.1 ∧ x.1 ≤ 40 ∧ 0 ≤ x.2 ∧ x.2 ≤ 1) (w : World) : Calls Tryz.prog 20 #[lsV x] w (RBool false w) := by
  obtain ⟨lv, cp⟩ := x
  obtain ⟨h1, h2, h3, h4⟩ := hx
  unfold lsV
  dsimp only at h1 h2 h3 h4 ⊢
  have xa := (Ext.refl w).alloc (.cells #[.int .i64 0, .int .i64 lv, .int .i64 cp, .slice none 0 0] 50)
  have hb := heap_alloc_new w (.cells #[.int .i64 0, .int .i64 lv, .int .i64 cp, .slice none 0 0] 50)
  have HC := Lib.hid (fun f W => containsA_nil f W)
  have d1 : decide (lv < -1) = false := decide_eq_false (by omega)
  have d2 : decide (lv > 40) = false := decide_eq_false (by omega)
  have d3 : decide (40 < lv) = false := decide_eq_false (by omega)
  have d4 : decide (cp < 0) = false := decide_eq_false (by omega)
  have d5 : decide (cp > 1) = false := decide_eq_false (by omega)
  have d6 : decide (1 < cp) = false := decide_eq_false (by omega)
  clear h1 h2 h3 h4
  go_enter Tryz.func20, Tryz.ntmps20
  go_upto_region 1 with fail
  obtain ⟨w1, hw1⟩ : ∃ w1 : World, w1 = w.alloc (.cells #[.int .i64 0, .int .i64 lv, .int .i64 cp, .slice none 0 0] 50) := ⟨_, rfl⟩
  rw [← hw1] at xa hb ⊢
  clear hw1
  have c0 := cellOf hb (i := 0) (v := .int .i64 0) rfl
  have c1 := cellOf hb (i := 1) (v := .int .i64 lv) rfl
  have c2 := cellOf hb (i := 2) (v := .int .i64 cp) rfl
  have c3 := cellOf hb (i := 3) (v := .slice none 0 0) rfl
  have XA := Lib.hid xa
  clear xa hb
  go_wp2_with (go_at_call 21; refine (HC.out _ _).mono ?_)
  rintro e w2 ⟨rfl, x2⟩
  have X2 := Lib.hid (XA.out.trans x2)
  clear x2 c0 c1 c2 c3
  go_wp2_with fail
  go_ret
  exact ⟨rfl, X2.out⟩
set_option maxHeartbeats 1000000 in
theorem indexL_nil (w : World) : Calls Tryz.prog 28 #[.slice none 0 0, .func (.func 20) #[] #[]] w (RVal (.int .i64 (-1)) w) := by
  go_enter Tryz.func28, Tryz.ntmps28
  go_wp2_with fail
  go_loopw [5, 8] (fun _ n wr => n = .int .i64 0 ∧ Ext w wr) (fun _ _ _ => 0)
  case atStart => exact ⟨rfl, Ext.refl _⟩
  case round =>
    obtain ⟨rfl, xr⟩ := hrel
    go_wp2_with fail
    go_ret
    exact ⟨rfl, xr⟩
set_option maxHeartbeats 2000000 in
set_option maxRecDepth 100000 in
theorem indexL_any (g : Nat) (l : List Ls) (hl : l.length ≤ 1000) (hok : ∀ x ∈ l, -1 ≤ x.1 ∧ x.1 ≤ 40 ∧ 0 ≤ x.2 ∧ x.2 ≤ 1) (w : World) (hf : FAt w g l) :
    Calls Tryz.prog 28 #[.slice (some ⟨g, 0, none⟩) l.length l.length, .func (.func 20) #[] #[]] w (RVal (.int .i64 (-1)) w) := by
  have HF := Lib.hid hf
  have HOK := Lib.hid hok
  obtain ⟨n, hn⟩ : ∃ n, l.length = n := ⟨_, rfl⟩
  have HN := Lib.hid hn
  rw [hn] at hl ⊢
  clear hf hok hn
  go_enter Tryz.func28, Tryz.ntmps28
  go_wp2_with fail
  go_loopw [5, 8] (fun _ iv wr => ∃ i : Nat, i ≤ n ∧ iv = .int .i64 i ∧ Ext w wr) (fun _ iv _ => n - (intOf iv).toNat)
  case atStart => exact ⟨0, Nat.zero_le _, rfl, Ext.refl _⟩
  case round =>
    obtain ⟨i, hin, rfl, xr⟩ := hrel
    have XR := Lib.hid xr
    clear xr
    by_cases hlt : i < n
    · obtain ⟨x, hx⟩ : ∃ x, l[i]? = some x := ⟨l[i]'(by rw [HN.out]; exact hlt), by simp⟩
      obtain ⟨q0, q1, q2, q3⟩ := (HF.out.ext XR.out).out i x hx
      have hm := may1_any x (HOK.out x (List.mem_of_getElem? hx))
      unfold lsV at hm
      have HM := Lib.hid hm
      clear hx hm
      have e0 : decide ((i : Int) < (n : Int)) = true := decide_eq_true (by omega)
      go_wp2_with (go_at_call 20; refine (HM.out _).mono ?_)
      rintro e w2 ⟨rfl, x2⟩
      have X2 := Lib.hid (XR.out.trans x2)
      clear q0 q1 q2 q3 x2
      go_wp2_with fail
      go_roundw
      case rel => exact ⟨i + 1, by omega, by go_num, X2.out⟩
      case measure => simp [intOf]; omega
    · obtain rfl : i = n := by omega
      have e0 : decide ((i : Int) < (i : Int)) = false := decide_eq_false (by omega)
      go_wp2_with fail
      go_ret
      exact ⟨rfl, XR.out⟩
set_option maxHeartbeats 1000000 in
theorem containsL_of {v : Value} {w : World} (h : Calls Tryz.prog 28 #[v, .func (.func 20) #[] #[]] w (RVal (.int .i64 (-1)) w)) :
    Calls Tryz.prog 19 #[v, .func (.func 20) #[] #[]] w (RBool false w) := by
  have HC := Lib.hid h
  clear h
  go_enter Tryz.func19, Tryz.ntmps19
  go_wp2_with (go_at_call 28; refine HC.out.mono ?_)
  rintro e w1 ⟨rfl, x1⟩
  go_wp2_with fail
  go_ret
  exact ⟨rfl, x1⟩
set_option maxHeartbeats 1000000 in
theorem may_of {v : Value} {w : World} (h : Calls Tryz.prog 28 #[v, .func (.func 20) #[] #[]] w (RVal (.int .i64 (-1)) w)) :
    Calls Tryz.prog 8 #[v] w (RBool true w) := by
  have HC := Lib.hid (containsL_of h)
  clear h
  go_enter Tryz.func8, Tryz.ntmps8
  go_wp2_with (go_at_call 19; refine HC.out.mono ?_)
  rintro e w1 ⟨rfl, x1⟩
  go_wp2_with fail
  go_ret
  exact ⟨rfl, x1⟩
end Go.Proofs.YtfbalkjbfjncmaaGreat
