/- The statements' example and awake. Conditions: the tables of unicode/utf8 are as laid. -/
import Derived.Test.YtdafdoodegpdhaaDoorPY
import Derived.Test.YtdafdoodegpdhaaDoorPE
namespace Go.Proofs.YtdafdoodegpdhaaDoor
open Go Go.RowKit Go.BigFrame
set_option linter.unusedVariables false
set_option linter.unusedSimpArgs false

def exT : PN := .mk 0 [] ⟨#[120, 60, 121]⟩ []
def exB : PN := .mk 11 [] ⟨#[]⟩ [exT]
def exR : PN := .mk 16 [] ⟨#[]⟩ []
def exP : PN := .mk 2 [] ⟨#[]⟩ [exB, exR]
def exN : PN := .mk 1 [] ⟨#[]⟩ [exP]
theorem ex_inner : exN.inner = [60, 112, 62, 60, 98, 62, 120, 38, 108, 116, 59, 121, 60, 47, 98, 62, 60, 98, 114, 62, 60, 47, 112, 62] := by decide +kernel
theorem ex_whole : exN.whole = true := by decide +kernel
def twoT (s t : ByteArray) : PN := .mk 1 [] ⟨#[]⟩ [.mk 0 [] s [], .mk 0 [] t []]
theorem ex_two : (twoT ⟨#[97]⟩ ⟨#[98]⟩).whole = false := by decide +kernel
theorem emptyRow0 (w : World) : RowRd w 2 (.slice none 0 0) 0 (attrCells []) := ⟨rfl, none, 0, rfl, Nat.le_refl _, fun _ => ⟨rfl, rfl⟩, fun a ha => by cases ha⟩
theorem RdN.leaf (w : World) (t : Int) (s : ByteArray) : RdN w (.mk t [] s []) (.agg #[.int .i64 t, .slice none 0 0, .string s, .slice none 0 0]) :=
  RdN.mk' (n := .mk t [] s []) (emptyRow0 w) ⟨none, 0, rfl, Nat.le_refl _, Nat.zero_le _, fun _ => ⟨rfl, rfl⟩, fun a h => by cases h⟩
theorem RdN.kid1 {w : World} {b : Nat} {t : Int} {s : ByteArray} {k : PN} {c0 c1 c2 c3 : Value} {ty : TypeId} (hb : w.heap[b]? = some (.cells #[c0, c1, c2, c3] ty (0, 0))) (hk : RdN w k (.agg #[c0, c1, c2, c3])) :
    RdN w (.mk t [] s [k]) (.agg #[.int .i64 t, .slice none 0 0, .string s, .slice (some ⟨b, 0, none⟩) 1 1]) := by
  refine RdN.mk' (n := .mk t [] s [k]) (emptyRow0 w) ⟨some ⟨b, 0, none⟩, 1, rfl, Nat.le_refl _, by decide, (fun h => by cases h), fun a ha j x hx => ?_⟩
  cases ha
  have hx' : [k][j]? = some x := hx
  cases j with
  | zero =>
    simp at hx'
    subst hx'
    exact ⟨c0, c1, c2, c3, cellOf hb (i := 0) rfl, cellOf hb (i := 1) rfl, cellOf hb (i := 2) rfl, cellOf hb (i := 3) rfl, hk⟩
  | succ j => simp at hx'
theorem RdN.kid2 {w : World} {b : Nat} {t : Int} {s : ByteArray} {k l : PN} {c0 c1 c2 c3 d0 d1 d2 d3 : Value} {ty : TypeId} (hb : w.heap[b]? = some (.cells #[c0, c1, c2, c3, d0, d1, d2, d3] ty (0, 0))) (hk : RdN w k (.agg #[c0, c1, c2, c3])) (hl : RdN w l (.agg #[d0, d1, d2, d3])) :
    RdN w (.mk t [] s [k, l]) (.agg #[.int .i64 t, .slice none 0 0, .string s, .slice (some ⟨b, 0, none⟩) 2 2]) := by
  refine RdN.mk' (n := .mk t [] s [k, l]) (emptyRow0 w) ⟨some ⟨b, 0, none⟩, 2, rfl, Nat.le_refl _, by decide, (fun h => by cases h), fun a ha j x hx => ?_⟩
  cases ha
  have hx' : [k, l][j]? = some x := hx
  match j, hx' with
  | 0, hx' =>
    simp at hx'
    subst hx'
    exact ⟨c0, c1, c2, c3, cellOf hb (i := 0) rfl, cellOf hb (i := 1) rfl, cellOf hb (i := 2) rfl, cellOf hb (i := 3) rfl, hk⟩
  | 1, hx' =>
    simp at hx'
    subst hx'
    exact ⟨d0, d1, d2, d3, cellOf hb (i := 4) rfl, cellOf hb (i := 5) rfl, cellOf hb (i := 6) rfl, cellOf hb (i := 7) rfl, hl⟩
  | j + 2, hx' => simp at hx'
def Ex16 (w : World) (e : Ending) (w' : World) : Prop := ∃ v, e = .returned v ∧ RdN w' exN v ∧ Ext w w'
set_option maxHeartbeats 1000000 in
set_option maxRecDepth 100000 in
theorem example_any (w : World) : Calls Tryd.prog 26 #[] w (Ex16 w) := by
  have x0 := ((Ext.refl w).alloc (.cells #[.int .i64 0, .slice none 0 0, .string ⟨#[]⟩, .slice none 0 0] 25))
  have bb := heap_alloc_new w (.cells #[.int .i64 0, .slice none 0 0, .string ⟨#[]⟩, .slice none 0 0] 25)
  go_enter Tryd.func26, Tryd.ntmps26
  go_upto_region 1 with fail
  obtain ⟨w1, hw⟩ : ∃ w1 : World, w1 = w.alloc (.cells #[.int .i64 0, .slice none 0 0, .string ⟨#[]⟩, .slice none 0 0] 25) := ⟨_, rfl⟩
  rw [← hw] at x0 bb ⊢
  clear hw
  have hb0 : w.heap.size < w1.heap.size := (Array.getElem?_eq_some_iff.1 bb).1
  obtain ⟨s1, hs1⟩ : ∃ s, w1.heap.size = s := ⟨_, rfl⟩
  rw [hs1] at hb0
  have xw : Ext w1 (((w1.alloc (.cells #[.int .i64 0, .slice none 0 0, .string ⟨#[120, 60, 121]⟩, .slice none 0 0] 25)).alloc (.cells #[.int .i64 11, .slice none 0 0, .string ⟨#[]⟩, .slice (some ⟨s1, 0, none⟩) 1 1, .int .i64 16, .slice none 0 0, .string ⟨#[]⟩, .slice none 0 0] 25)).alloc (.cells #[.int .i64 2, .slice none 0 0, .string ⟨#[]⟩, .slice (some ⟨s1 + 1, 0, none⟩) 2 2] 25)) := (((Ext.refl w1).alloc (.cells #[.int .i64 0, .slice none 0 0, .string ⟨#[120, 60, 121]⟩, .slice none 0 0] 25)).alloc (.cells #[.int .i64 11, .slice none 0 0, .string ⟨#[]⟩, .slice (some ⟨s1, 0, none⟩) 1 1, .int .i64 16, .slice none 0 0, .string ⟨#[]⟩, .slice none 0 0] 25)).alloc (.cells #[.int .i64 2, .slice none 0 0, .string ⟨#[]⟩, .slice (some ⟨s1 + 1, 0, none⟩) 2 2] 25)
  have g1 : (((w1.alloc (.cells #[.int .i64 0, .slice none 0 0, .string ⟨#[120, 60, 121]⟩, .slice none 0 0] 25)).alloc (.cells #[.int .i64 11, .slice none 0 0, .string ⟨#[]⟩, .slice (some ⟨s1, 0, none⟩) 1 1, .int .i64 16, .slice none 0 0, .string ⟨#[]⟩, .slice none 0 0] 25)).alloc (.cells #[.int .i64 2, .slice none 0 0, .string ⟨#[]⟩, .slice (some ⟨s1 + 1, 0, none⟩) 2 2] 25)).heap[s1]? = some (.cells #[.int .i64 0, .slice none 0 0, .string ⟨#[120, 60, 121]⟩, .slice none 0 0] 25) := by
    have := ((((Ext.refl (w1.alloc (.cells #[.int .i64 0, .slice none 0 0, .string ⟨#[120, 60, 121]⟩, .slice none 0 0] 25))).alloc (.cells #[.int .i64 11, .slice none 0 0, .string ⟨#[]⟩, .slice (some ⟨s1, 0, none⟩) 1 1, .int .i64 16, .slice none 0 0, .string ⟨#[]⟩, .slice none 0 0] 25)).alloc (.cells #[.int .i64 2, .slice none 0 0, .string ⟨#[]⟩, .slice (some ⟨s1 + 1, 0, none⟩) 2 2] 25))).block (heap_alloc_new w1 (.cells #[.int .i64 0, .slice none 0 0, .string ⟨#[120, 60, 121]⟩, .slice none 0 0] 25))
    rw [hs1] at this; exact this
  have g2 : (((w1.alloc (.cells #[.int .i64 0, .slice none 0 0, .string ⟨#[120, 60, 121]⟩, .slice none 0 0] 25)).alloc (.cells #[.int .i64 11, .slice none 0 0, .string ⟨#[]⟩, .slice (some ⟨s1, 0, none⟩) 1 1, .int .i64 16, .slice none 0 0, .string ⟨#[]⟩, .slice none 0 0] 25)).alloc (.cells #[.int .i64 2, .slice none 0 0, .string ⟨#[]⟩, .slice (some ⟨s1 + 1, 0, none⟩) 2 2] 25)).heap[s1 + 1]? = some (.cells #[.int .i64 11, .slice none 0 0, .string ⟨#[]⟩, .slice (some ⟨s1, 0, none⟩) 1 1, .int .i64 16, .slice none 0 0, .string ⟨#[]⟩, .slice none 0 0] 25) := by
    have := (((Ext.refl ((w1.alloc (.cells #[.int .i64 0, .slice none 0 0, .string ⟨#[120, 60, 121]⟩, .slice none 0 0] 25)).alloc (.cells #[.int .i64 11, .slice none 0 0, .string ⟨#[]⟩, .slice (some ⟨s1, 0, none⟩) 1 1, .int .i64 16, .slice none 0 0, .string ⟨#[]⟩, .slice none 0 0] 25))).alloc (.cells #[.int .i64 2, .slice none 0 0, .string ⟨#[]⟩, .slice (some ⟨s1 + 1, 0, none⟩) 2 2] 25))).block (heap_alloc_new (w1.alloc (.cells #[.int .i64 0, .slice none 0 0, .string ⟨#[120, 60, 121]⟩, .slice none 0 0] 25)) (.cells #[.int .i64 11, .slice none 0 0, .string ⟨#[]⟩, .slice (some ⟨s1, 0, none⟩) 1 1, .int .i64 16, .slice none 0 0, .string ⟨#[]⟩, .slice none 0 0] 25))
    have e : (w1.alloc (.cells #[.int .i64 0, .slice none 0 0, .string ⟨#[120, 60, 121]⟩, .slice none 0 0] 25)).heap.size = s1 + 1 := by simp [hs1]
    rw [e] at this; exact this
  have g3 : (((w1.alloc (.cells #[.int .i64 0, .slice none 0 0, .string ⟨#[120, 60, 121]⟩, .slice none 0 0] 25)).alloc (.cells #[.int .i64 11, .slice none 0 0, .string ⟨#[]⟩, .slice (some ⟨s1, 0, none⟩) 1 1, .int .i64 16, .slice none 0 0, .string ⟨#[]⟩, .slice none 0 0] 25)).alloc (.cells #[.int .i64 2, .slice none 0 0, .string ⟨#[]⟩, .slice (some ⟨s1 + 1, 0, none⟩) 2 2] 25)).heap[s1 + 1 + 1]? = some (.cells #[.int .i64 2, .slice none 0 0, .string ⟨#[]⟩, .slice (some ⟨s1 + 1, 0, none⟩) 2 2] 25) := by
    have := heap_alloc_new ((w1.alloc (.cells #[.int .i64 0, .slice none 0 0, .string ⟨#[120, 60, 121]⟩, .slice none 0 0] 25)).alloc (.cells #[.int .i64 11, .slice none 0 0, .string ⟨#[]⟩, .slice (some ⟨s1, 0, none⟩) 1 1, .int .i64 16, .slice none 0 0, .string ⟨#[]⟩, .slice none 0 0] 25)) (.cells #[.int .i64 2, .slice none 0 0, .string ⟨#[]⟩, .slice (some ⟨s1 + 1, 0, none⟩) 2 2] 25)
    have e : ((w1.alloc (.cells #[.int .i64 0, .slice none 0 0, .string ⟨#[120, 60, 121]⟩, .slice none 0 0] 25)).alloc (.cells #[.int .i64 11, .slice none 0 0, .string ⟨#[]⟩, .slice (some ⟨s1, 0, none⟩) 1 1, .int .i64 16, .slice none 0 0, .string ⟨#[]⟩, .slice none 0 0] 25)).heap.size = s1 + 1 + 1 := by simp [hs1]
    rw [e] at this; exact this
  have bw := xw.block bb
  have c0 := cellOf bw (i := 0) (v := .int .i64 0) rfl
  have c1 := cellOf bw (i := 1) (v := .slice none 0 0) rfl
  have c2 := cellOf bw (i := 2) (v := .string ⟨#[]⟩) rfl
  have c3 := cellOf bw (i := 3) (v := .slice none 0 0) rfl
  have f0 := freeOf bw 0
  have f1 := freeOf bw 1
  have f2 := freeOf bw 2
  have f3 := freeOf bw 3
  have XW := Lib.hid (x0.trans xw)
  have BW := Lib.hid bw
  have G := Lib.hid (And.intro g1 (And.intro g2 g3))
  have HB0 := Lib.hid hb0
  clear g1 g2 g3 bw xw x0 bb hb0
  go_wp2_with fail
  obtain ⟨wf, hwf⟩ : ∃ wf : World, wf = (((w1.alloc (.cells #[.int .i64 0, .slice none 0 0, .string ⟨#[120, 60, 121]⟩, .slice none 0 0] 25)).alloc (.cells #[.int .i64 11, .slice none 0 0, .string ⟨#[]⟩, .slice (some ⟨s1, 0, none⟩) 1 1, .int .i64 16, .slice none 0 0, .string ⟨#[]⟩, .slice none 0 0] 25)).alloc (.cells #[.int .i64 2, .slice none 0 0, .string ⟨#[]⟩, .slice (some ⟨s1 + 1, 0, none⟩) 2 2] 25)) := ⟨_, rfl⟩
  rw [← hwf] at XW BW G ⊢
  clear c0 c1 c2 c3 f0 f1 f2 f3
  have hrow := heap_setCell_same (heap_setCell_same (heap_setCell_same (heap_setCell_same BW.out (i := 0) (.int .i64 1)) (i := 1) (.slice none 0 0)) (i := 2) (.string ⟨#[]⟩)) (i := 3) (.slice (some ⟨s1 + 1 + 1, 0, none⟩) 1 1)
  have hlv := run_loadVar_row (P := Tryd.prog) _ w.heap.size 25 25 #[.int .i64 1, .slice none 0 0, .string ⟨#[]⟩, .slice (some ⟨s1 + 1 + 1, 0, none⟩) 1 1] (0, 0) _ hrow Tryd.underlying25 rfl (by kernel_rfl)
  refine bodyPost_ret (v := .agg #[.int .i64 1, .slice none 0 0, .string ⟨#[]⟩, .slice (some ⟨s1 + 1 + 1, 0, none⟩) 1 1]) (by simp [results, Tryd.results26, asAddr, hlv]) rfl ?_
  have oth : ∀ (g : Nat) (v0 v1 v2 v3 : Value), s1 ≤ g → ((((wf.setCell ⟨w.heap.size, 0, none⟩ v0).setCell ⟨w.heap.size, 1, none⟩ v1).setCell ⟨w.heap.size, 2, none⟩ v2).setCell ⟨w.heap.size, 3, none⟩ v3).heap[g]? = wf.heap[g]? := by
    intro g v0 v1 v2 v3 hg
    have hne : g ≠ w.heap.size := by have := HB0.out; omega
    rw [heap_setCell_other (p := ⟨w.heap.size, 3, none⟩) _ hne, heap_setCell_other (p := ⟨w.heap.size, 2, none⟩) _ hne, heap_setCell_other (p := ⟨w.heap.size, 1, none⟩) _ hne, heap_setCell_other (p := ⟨w.heap.size, 0, none⟩) _ hne]
  refine ⟨_, rfl, ?_, (((XW.out.setCell (p := ⟨w.heap.size, 0, none⟩) (Nat.le_refl _) _).setCell (p := ⟨w.heap.size, 1, none⟩) (Nat.le_refl _) _).setCell (p := ⟨w.heap.size, 2, none⟩) (Nat.le_refl _) _).setCell (p := ⟨w.heap.size, 3, none⟩) (Nat.le_refl _) _⟩
  exact RdN.kid1 ((oth _ _ _ _ _ (by omega)).trans G.out.2.2) (RdN.kid2 ((oth _ _ _ _ _ (by omega)).trans G.out.2.1) (RdN.kid1 ((oth _ _ _ _ _ (by omega)).trans G.out.1) (RdN.leaf _ 0 _)) (RdN.leaf _ 16 _))
theorem exN_light : exN.light = true := by decide +kernel
theorem exN_cost : exN.cost ≤ 100000000000000 := by decide +kernel
theorem two_light : (twoT ⟨#[97]⟩ ⟨#[98]⟩).light = true := by decide +kernel
theorem two_cost : (twoT ⟨#[97]⟩ ⟨#[98]⟩).cost ≤ 100000000000000 := by decide +kernel
set_option maxHeartbeats 1000000 in
set_option maxRecDepth 100000 in
theorem awake_any (w : World) (hT : Tabs w) : Calls Tryd.prog 9 #[] w (RBool true w) := by
  have HT := Lib.hid hT
  clear hT
  go_enter Tryd.func9, Tryd.ntmps9
  go_wp2_with fail
  refine (example_any _).mono ?_
  rintro e w1 ⟨v, rfl, hr, x1⟩
  obtain ⟨y1, y2, y3, y4, rfl⟩ := hr.shape
  have x2 := x1.alloc (.cells #[.int .i64 exN.tag, .slice y1 exN.attrs.length y2, .string exN.text, .slice y3 exN.kids.length y4] 25)
  have bb := heap_alloc_new w1 (.cells #[.int .i64 exN.tag, .slice y1 exN.attrs.length y2, .string exN.text, .slice y3 exN.kids.length y4] 25)
  have hr2 := hr.cells ((Ext.refl w1).alloc (.cells #[.int .i64 exN.tag, .slice y1 exN.attrs.length y2, .string exN.text, .slice y3 exN.kids.length y4] 25)).cells
  generalize exN.tag = z0 at *
  generalize exN.attrs.length = z1 at *
  generalize exN.text = z2 at *
  generalize exN.kids.length = z3 at *
  have HR := Lib.hid hr2
  have X2 := Lib.hid x2
  have BB := Lib.hid bb
  clear hr hr2 x1 x2 bb
  go_upto_region 2 with fail
  obtain ⟨w2, hw2⟩ : ∃ w2 : World, w2 = w1.alloc (.cells #[.int .i64 z0, .slice y1 z1 y2, .string z2, .slice y3 z3 y4] 25) := ⟨_, rfl⟩
  rw [← hw2] at HR X2 BB ⊢
  clear hw2
  have n0 := cellOf BB.out (i := 0) (v := .int .i64 z0) rfl
  have n1 := cellOf BB.out (i := 1) (v := .slice y1 z1 y2) rfl
  have n2 := cellOf BB.out (i := 2) (v := .string z2) rfl
  have n3 := cellOf BB.out (i := 3) (v := .slice y3 z3 y4) rfl
  have hI := Inner_any w2 exN _ HR.out exN_cost
  rw [ex_inner] at hI
  have HI := Lib.hid hI
  clear hI
  go_wp2_with fail
  refine HI.out.mono ?_
  rintro e w3 ⟨rfl, x3⟩
  have n0 := x3.cell n0
  have n1 := x3.cell n1
  have n2 := x3.cell n2
  have n3 := x3.cell n3
  have X3 := Lib.hid (X2.out.trans x3)
  have hN := Normal_any w3 exN _ (HT.out.ext X3.out) (HR.out.cells x3.cells) exN_light exN_cost
  rw [ex_whole] at hN
  have HN := Lib.hid hN
  clear x3 hN
  go_wp2_with (go_at_call 15; refine HN.out.mono ?_)
  rintro e w4 ⟨rfl, x4⟩
  have X4 := Lib.hid (X3.out.trans x4)
  clear x4 n0 n1 n2 n3
  have xk := (Ext.refl w4).alloc (.cells #[.int .i64 0, .slice none 0 0, .string ⟨#[97]⟩, .slice none 0 0, .int .i64 0, .slice none 0 0, .string ⟨#[98]⟩, .slice none 0 0] 25)
  have hk := heap_alloc_new w4 (.cells #[.int .i64 0, .slice none 0 0, .string ⟨#[97]⟩, .slice none 0 0, .int .i64 0, .slice none 0 0, .string ⟨#[98]⟩, .slice none 0 0] 25)
  have hrk : RdN (w4.alloc (.cells #[.int .i64 0, .slice none 0 0, .string ⟨#[97]⟩, .slice none 0 0, .int .i64 0, .slice none 0 0, .string ⟨#[98]⟩, .slice none 0 0] 25)) (twoT ⟨#[97]⟩ ⟨#[98]⟩) (.agg #[.int .i64 1, .slice none 0 0, .string ⟨#[]⟩, .slice (some ⟨w4.heap.size, 0, none⟩) 2 2]) :=
    RdN.kid2 hk (RdN.leaf _ 0 _) (RdN.leaf _ 0 _)
  have hN2 := Normal_any _ _ _ (HT.out.ext (X4.out.trans xk)) hrk two_light two_cost
  rw [ex_two] at hN2
  have HN2 := Lib.hid hN2
  have XK := Lib.hid (X4.out.trans xk)
  clear xk hk hrk hN2
  go_wp2_with (go_at_call 15; refine HN2.out.mono ?_)
  rintro e w5 ⟨rfl, x5⟩
  have X5 := Lib.hid (XK.out.trans x5)
  clear x5
  go_wp2_with fail
  go_ret
  exact ⟨rfl, X5.out⟩
end Go.Proofs.YtdafdoodegpdhaaDoor
