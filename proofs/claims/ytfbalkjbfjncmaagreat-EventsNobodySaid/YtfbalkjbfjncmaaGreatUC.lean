/- EventsNobody: a tree that New made, and nil: Held, Way, Dispatch; who is called of the example's listeners. No conditions. -/
import Derived.Test.YtfbalkjbfjncmaaGreatUB
namespace Go.Proofs.YtfbalkjbfjncmaaGreat
open Go Go.RowKit Go.BigFrame
set_option linter.unusedVariables false
set_option linter.unusedSimpArgs false

/-- a live tree without handles, or nil -/
def Lv0 (w : World) (v : Value) : Prop := v = .pointer none ∨ ∃ lb tb : Nat, v = .pointer (some ⟨lb, 0, none⟩) ∧ w.cell? ⟨lb, 0, none⟩ = some (.pointer (some ⟨tb, 0, none⟩)) ∧ w.cell? ⟨lb, 1, none⟩ = some (.slice none 0 0)
theorem Lv0.ext {w w' : World} {v : Value} (h : Lv0 w v) (x : Ext w w') : Lv0 w' v := by
  rcases h with h | ⟨lb, tb, h1, h2, h3⟩
  · exact .inl h
  · exact .inr ⟨lb, tb, h1, x.cell h2, x.cell h3⟩
set_option maxHeartbeats 1000000 in
theorem new27 (w : World) : Calls Tryz.prog 5 #[.int .i64 5, .int .i64 2] w (fun e w' => ∃ v, e = .returned (.tuple #[v, .int .i64 0]) ∧ (∃ lb tb : Nat, v = .pointer (some ⟨lb, 0, none⟩) ∧ w'.cell? ⟨lb, 0, none⟩ = some (.pointer (some ⟨tb, 0, none⟩)) ∧ w'.cell? ⟨lb, 1, none⟩ = some (.slice none 0 0)) ∧ Ext w w') := by
  have HN := Lib.hid (New_ok 5 2 (by decide) (by decide) (by decide) (by decide) w)
  go_enter Tryz.func5, Tryz.ntmps5
  go_wp2_with (go_at_call 13; refine HN.out.mono ?_)
  rintro e w1 ⟨tb, own, ptr, rfl, hT, hO, hx1, hf⟩
  have X := (Ext.refl w1).alloc (.cells #[.pointer (some ⟨tb, 0, none⟩), .slice none 0 0] 67)
  have hn := heap_alloc_new w1 (.cells #[.pointer (some ⟨tb, 0, none⟩), .slice none 0 0] 67)
  have HL := Lib.hid (And.intro (cellOf hn (i := 0) (v := .pointer (some ⟨tb, 0, none⟩)) rfl) (And.intro (cellOf hn (i := 1) (v := .slice none 0 0) rfl) (hx1.trans X)))
  clear hT hO hx1 hf X hn
  go_wp2_with fail
  go_ret2
  exact ⟨_, rfl, ⟨_, _, rfl, HL.out.1, HL.out.2.1⟩, HL.out.2.2⟩
set_option maxHeartbeats 1000000 in
theorem none27 {w : World} {lb tb : Nat} (h0 : w.cell? ⟨lb, 0, none⟩ = some (.pointer (some ⟨tb, 0, none⟩))) : Calls Tryz.prog 30 #[.pointer (some ⟨lb, 0, none⟩)] w (RBool false w) := by
  have x0 := Ext.refl w
  go_enter Tryz.func30, Tryz.ntmps30
  go_wp2_with fail
  go_ret
  exact ⟨rfl, x0⟩
set_option maxHeartbeats 1000000 in
theorem none27n (w : World) : Calls Tryz.prog 30 #[.pointer none] w (RBool true w) := by
  have x0 := Ext.refl w
  go_enter Tryz.func30, Tryz.ntmps30
  go_wp2_with fail
  go_ret
  exact ⟨rfl, x0⟩
set_option maxHeartbeats 1000000 in
theorem is27 {w : World} {v : Value} (h : Lv0 w v) : Calls Tryz.prog 23 #[v, .int .i64 0] w (RBool false w) := by
  rcases h with rfl | ⟨lb, tb, rfl, h0, h1⟩
  · have HC := Lib.hid (fun W => none27n W)
    go_enter Tryz.func23, Tryz.ntmps23
    go_wp2_with (go_at_call 30; refine (HC.out _).mono ?_)
    rintro e w1 ⟨rfl, x1⟩
    go_wp2_with fail
    go_ret
    exact ⟨rfl, x1⟩
  · have HC := Lib.hid (none27 h0)
    go_enter Tryz.func23, Tryz.ntmps23
    go_wp2_with (go_at_call 30; refine HC.out.mono ?_)
    rintro e w1 ⟨rfl, x1⟩
    replace h0 := x1.cell h0
    replace h1 := x1.cell h1
    go_wp2_with fail
    go_ret
    exact ⟨rfl, x1⟩
def plz : Value := .agg #[.int .i64 0, .int .i64 0]
set_option maxHeartbeats 1000000 in
theorem held27 {w : World} {v : Value} (h : Lv0 w v) : Calls Tryz.prog 9 #[v, .int .i64 0] w (RTwo plz (.bool false) w) := by
  have xa := (Ext.refl w).alloc (.cells #[.int .i64 0, .int .i64 0] 39)
  have hba := heap_alloc_new w (.cells #[.int .i64 0, .int .i64 0] 39)
  have HI := Lib.hid (is27 (h.ext xa))
  obtain ⟨wa, hwa⟩ : ∃ W : World, W = w.alloc (.cells #[.int .i64 0, .int .i64 0] 39) := ⟨_, rfl⟩
  rw [← hwa] at xa hba HI
  have HWA := Lib.hid hwa
  have XA := Lib.hid xa
  have HBA := Lib.hid hba
  clear h hwa xa hba
  go_enter Tryz.func9, Tryz.ntmps9
  go_upto_region 1 with fail
  rw [← HWA.out]
  go_wp2_with (go_at_call 23; refine HI.out.mono ?_)
  rintro e w2 ⟨rfl, x2⟩
  have hb2 := x2.block HBA.out
  have r0 := cellOf hb2 (i := 0) (v := .int .i64 0) rfl
  have r1 := cellOf hb2 (i := 1) (v := .int .i64 0) rfl
  have f0 := freeOf hb2 0
  have f1 := freeOf hb2 1
  have XF := Lib.hid (((XA.out.trans x2).setCell (p := ⟨w.heap.size, 0, none⟩) (Nat.le_refl _) (.int .i64 0)).setCell (p := ⟨w.heap.size, 1, none⟩) (Nat.le_refl _) (.int .i64 0))
  clear x2 hb2
  go_wp2_with fail
  refine bodyPost_ret (v := .tuple #[plz, .bool false]) (by simp [results, Tryz.results9, go_sem, r0, r1, plz]) rfl ?_
  exact ⟨rfl, XF.out⟩
set_option maxHeartbeats 1000000 in
theorem way27 {w : World} {v : Value} (h : Lv0 w v) : Calls Tryz.prog 6 #[v, .int .i64 0] w (RVal (.slice none 0 0) w) := by
  have HI := Lib.hid (held27 h)
  clear h
  go_enter Tryz.func6, Tryz.ntmps6
  go_wp2_with (go_at_call 9; refine HI.out.mono ?_)
  rintro e w1 ⟨rfl, x1⟩
  unfold plz
  have XF := Lib.hid (x1.alloc (.cells #[.int .i64 0, .int .i64 0] 39))
  clear x1
  go_wp2_with fail
  go_ret
  exact ⟨rfl, XF.out⟩
def evZ : Value := .agg #[.int .i64 0, .string ⟨#[]⟩, .string ⟨#[]⟩]
def toldZ : Value := .agg #[.int .i64 0, .string ⟨#[]⟩, .string ⟨#[]⟩, .slice none 0 0, .int .i64 0, .int .i64 0]
theorem set6 {w W : World} {b : Nat} (x : Ext w W) (hb : w.heap.size ≤ b) (u0 u1 u2 u3 u4 u5 : Value) : Ext w ((((((W.setCell ⟨b, 0, none⟩ u0).setCell ⟨b, 1, none⟩ u1).setCell ⟨b, 2, none⟩ u2).setCell ⟨b, 3, none⟩ u3).setCell ⟨b, 4, none⟩ u4).setCell ⟨b, 5, none⟩ u5) :=
  (((((x.setCell (p := ⟨b, 0, none⟩) hb u0).setCell (p := ⟨b, 1, none⟩) hb u1).setCell (p := ⟨b, 2, none⟩) hb u2).setCell (p := ⟨b, 3, none⟩) hb u3).setCell (p := ⟨b, 4, none⟩) hb u4).setCell (p := ⟨b, 5, none⟩) hb u5
set_option maxHeartbeats 4000000 in
set_option maxRecDepth 100000 in
theorem dispatch27 {w : World} {v : Value} (h : Lv0 w v) : Calls Tryz.prog 4 #[v, .int .i64 0, .int .i64 0, .slice none 0 0, evZ] w (RTwo toldZ (.int .i64 1) w) := by
  unfold evZ
  have xa := (Ext.refl w).alloc (.cells #[.int .i64 0, .string ⟨#[]⟩, .string ⟨#[]⟩] 23)
  have ha := heap_alloc_new w (.cells #[.int .i64 0, .string ⟨#[]⟩, .string ⟨#[]⟩] 23)
  obtain ⟨w1, hw1⟩ : ∃ W : World, W = w.alloc (.cells #[.int .i64 0, .string ⟨#[]⟩, .string ⟨#[]⟩] 23) := ⟨_, rfl⟩
  rw [← hw1] at xa ha
  have xb := xa.alloc (.cells #[.int .i64 0, .string ⟨#[]⟩, .string ⟨#[]⟩, .slice none 0 0, .int .i64 0, .int .i64 0] 26)
  have hb := heap_alloc_new w1 (.cells #[.int .i64 0, .string ⟨#[]⟩, .string ⟨#[]⟩, .slice none 0 0, .int .i64 0, .int .i64 0] 26)
  have ha2 := ((Ext.refl w1).alloc (.cells #[.int .i64 0, .string ⟨#[]⟩, .string ⟨#[]⟩, .slice none 0 0, .int .i64 0, .int .i64 0] 26)).block ha
  have hrl : w.heap.size ≤ w1.heap.size := xa.size
  obtain ⟨w2, hw2⟩ : ∃ W : World, W = w1.alloc (.cells #[.int .i64 0, .string ⟨#[]⟩, .string ⟨#[]⟩, .slice none 0 0, .int .i64 0, .int .i64 0] 26) := ⟨_, rfl⟩
  rw [← hw2] at xb hb ha2
  have HW := Lib.hid (And.intro hw1 hw2)
  have hsz : w1.heap.size = w.heap.size + 1 := by rw [hw1]; simp
  obtain ⟨rb, hrb⟩ : ∃ rb, w.heap.size + 1 = rb := ⟨_, rfl⟩
  have HRB := Lib.hid hrb
  rw [hsz, hrb] at hb hrl
  obtain ⟨eb, heb⟩ : ∃ eb, w.heap.size = eb := ⟨_, rfl⟩
  have HEB := Lib.hid heb
  rw [heb] at ha2
  have XB := Lib.hid xb
  have HB := Lib.hid hb
  have HA := Lib.hid ha2
  have HRL := Lib.hid hrl
  have H0 := Lib.hid h
  clear xa ha xb hb ha2 hrl hw1 hw2 h hrb heb hsz
  rcases H0.out with rfl | ⟨lb, tb, hv, h0, h1⟩
  · go_enter Tryz.func4, Tryz.ntmps4
    go_upto_region 1 with fail
    rw [← HW.out.1, ← HW.out.2, HRB.out, HEB.out]
    have r0 := cellOf HB.out (i := 0) (v := .int .i64 0) rfl
    have r1 := cellOf HB.out (i := 1) (v := .string ⟨#[]⟩) rfl
    have r2 := cellOf HB.out (i := 2) (v := .string ⟨#[]⟩) rfl
    have r3 := cellOf HB.out (i := 3) (v := .slice none 0 0) rfl
    have r4 := cellOf HB.out (i := 4) (v := .int .i64 0) rfl
    have r5 := cellOf HB.out (i := 5) (v := .int .i64 0) rfl
    have f0 := freeOf HB.out 0
    have f1 := freeOf HB.out 1
    have f2 := freeOf HB.out 2
    have f3 := freeOf HB.out 3
    have f4 := freeOf HB.out 4
    have f5 := freeOf HB.out 5
    go_wp2_with fail
    refine bodyPost_ret (v := .tuple #[toldZ, .int .i64 1]) (by simp [results, Tryz.results4, go_sem, r0, r1, r2, r3, r4, r5, toldZ]) rfl ?_
    exact ⟨rfl, set6 XB.out HRL.out _ _ _ _ _ _⟩
  · have HM := Lib.hid (fun W => may_of (indexL_nil W))
    have HH := Lib.hid (fun (W : World) (k : Ext w W) => held27 (H0.out.ext k))
    rw [hv] at HH ⊢
    clear h0 h1 H0 hv
    go_enter Tryz.func4, Tryz.ntmps4
    go_upto_region 1 with fail
    rw [← HW.out.1, ← HW.out.2, HRB.out, HEB.out]
    have e0 := cellOf HA.out (i := 0) (v := .int .i64 0) rfl
    go_wp2_with (go_at_call 8; refine (HM.out _).mono ?_)
    rintro e w3 ⟨rfl, x3⟩
    have X3 := Lib.hid (XB.out.trans x3)
    replace e0 := x3.cell e0
    have B3 := Lib.hid (x3.block HB.out)
    clear x3
    go_wp2_with (go_at_call 9; refine (HH.out _ X3.out).mono ?_)
    rintro e w4 ⟨rfl, x4⟩
    unfold plz
    have xc := x4.alloc (.cells #[.int .i64 0, .int .i64 0] 39)
    have X5 := Lib.hid (X3.out.trans xc)
    have B5 := Lib.hid (xc.block B3.out)
    clear x4 xc e0
    go_wp2_with (go_at_call 9; refine (HH.out _ X5.out).mono ?_)
    rintro e w6 ⟨rfl, x6⟩
    unfold plz
    have xd := x6.alloc (.cells #[.int .i64 0, .int .i64 0] 39)
    have X7 := Lib.hid (X5.out.trans xd)
    have hb7 := xd.block B5.out
    have r0 := cellOf hb7 (i := 0) (v := .int .i64 0) rfl
    have r1 := cellOf hb7 (i := 1) (v := .string ⟨#[]⟩) rfl
    have r2 := cellOf hb7 (i := 2) (v := .string ⟨#[]⟩) rfl
    have r3 := cellOf hb7 (i := 3) (v := .slice none 0 0) rfl
    have r4 := cellOf hb7 (i := 4) (v := .int .i64 0) rfl
    have r5 := cellOf hb7 (i := 5) (v := .int .i64 0) rfl
    have f0 := freeOf hb7 0
    have f1 := freeOf hb7 1
    have f2 := freeOf hb7 2
    have f3 := freeOf hb7 3
    have f4 := freeOf hb7 4
    have f5 := freeOf hb7 5
    clear x6 xd hb7
    go_wp2_with fail
    refine bodyPost_ret (v := .tuple #[toldZ, .int .i64 1]) (by simp [results, Tryz.results4, go_sem, r0, r1, r2, r3, r4, r5, toldZ]) rfl ?_
    exact ⟨rfl, set6 X7.out HRL.out _ _ _ _ _ _⟩
end Go.Proofs.YtfbalkjbfjncmaaGreat
