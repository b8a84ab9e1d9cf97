/- PrintMarkup: any node as markup, and whether it is normal, are the document's: the walk. Conditions: the tables of unicode/utf8 are as laid. -/
import Derived.Test.YtdafdoodegpdhaaDoorPMJ
import Derived.Deep.RegionHeld
namespace Go.Proofs.YtdafdoodegpdhaaDoor
open Go Go.RowKit Go.BigFrame
set_option linter.unusedVariables false
set_option linter.unusedSimpArgs false

set_option maxHeartbeats 4000000 in
set_option maxRecDepth 100000 in
theorem markup_walk (w : World) (hT : Tabs w) (n : PN) (v : Value) (hn : RdN w n v) : Calls Tryd.prog 3 #[v] w (RBool true w) := by
  obtain ⟨y1, y2, y3, y4, rfl⟩ := hn.shape
  have x1 := ((Ext.refl w).alloc (.cells #[.int .i64 n.tag, .slice y1 n.attrs.length y2, .string n.text, .slice y3 n.kids.length y4] 25))
  have bb := heap_alloc_new w (.cells #[.int .i64 n.tag, .slice y1 n.attrs.length y2, .string n.text, .slice y3 n.kids.length y4] 25)
  have HN := Lib.hid hn
  have HT := Lib.hid hT
  clear hn hT
  go_enter Tryd.func3, Tryd.ntmps3
  go_upto_region 1 with fail
  obtain ⟨w1, hw1⟩ : ∃ w1 : World, w1 = w.alloc (.cells #[.int .i64 n.tag, .slice y1 n.attrs.length y2, .string n.text, .slice y3 n.kids.length y4] 25) := ⟨_, rfl⟩
  rw [← hw1] at x1 bb ⊢
  clear hw1
  have n0 := cellOf bb (i := 0) (v := .int .i64 n.tag) rfl
  have n1 := cellOf bb (i := 1) (v := .slice y1 n.attrs.length y2) rfl
  have n2 := cellOf bb (i := 2) (v := .string n.text) rfl
  have n3 := cellOf bb (i := 3) (v := .slice y3 n.kids.length y4) rfl
  have X1 := Lib.hid x1
  have B1 := Lib.hid bb
  have HH := Lib.hid (heavy_any n _ w1 (HN.out.cells x1.cells))
  clear x1 bb
  go_wp2_with (go_at_call 8; refine HH.out.mono ?_)
  rintro e w2 ⟨b, rfl, hb, x2⟩
  have X2 := Lib.hid (X1.out.trans x2)
  have B2 := Lib.hid (x2.block B1.out)
  have HB := Lib.hid hb
  clear hb n0 n1 n2 n3 x2
  cases b with
  | true =>
    go_wp2_with (go_at_call 9; refine (awake_any _ (HT.out.ext X2.out)).mono ?_)
    rintro e w4 ⟨rfl, x4⟩
    go_wp2_with fail
    go_ret
    exact ⟨rfl, X2.out.trans x4⟩
  | false =>
    obtain ⟨f1, f2⟩ := HB.out (by first | rfl | trivial)
    have hcost : n.cost ≤ 1000000000 := by
      have := f1.2
      have : n.size * 400000 ≤ 2500 * 400000 := Nat.mul_le_mul_right _ f2
      omega
    have n0 := cellOf B2.out (i := 0) (v := .int .i64 n.tag) rfl
    have n1 := cellOf B2.out (i := 1) (v := .slice y1 n.attrs.length y2) rfl
    have n2 := cellOf B2.out (i := 2) (v := .string n.text) rfl
    have n3 := cellOf B2.out (i := 3) (v := .slice y3 n.kids.length y4) rfl
    have HCP := Lib.hid (CopyNode_any (w0 := w) n (PN.light_fair n f1.1) (by omega) w2 _ HN.out X2.out)
    have HF := Lib.hid (And.intro f1.1 (And.intro f2 hcost))
    clear hcost f1 f2
    go_wp2_with (go_at_call 10; refine HCP.out.mono ?_)
    rintro e w3 hcp
    obtain ⟨vo, go, rfl, hro, x3, hgo⟩ := hcp.plain
    have HRO := Lib.hid ((hro.cells fun q y hq => (hgo q y hq).1 : RdN w3 n vo))
    obtain ⟨z1, z2, z3, z4, rfl⟩ := HRO.out.shape
    have X3 := Lib.hid (X2.out.trans x3)
    have B3 := Lib.hid (x3.block B2.out)
    clear hcp hro hgo x3 n0 n1 n2 n3
    go_upto_region 4 with fail
    have x4 := (Ext.refl w3).alloc (.cells #[.int .i64 n.tag, .slice z1 n.attrs.length z2, .string n.text, .slice z3 n.kids.length z4] 25)
    have b4 := heap_alloc_new w3 (.cells #[.int .i64 n.tag, .slice z1 n.attrs.length z2, .string n.text, .slice z3 n.kids.length z4] 25)
    obtain ⟨w4, hw4⟩ : ∃ w4 : World, w4 = w3.alloc (.cells #[.int .i64 n.tag, .slice z1 n.attrs.length z2, .string n.text, .slice z3 n.kids.length z4] 25) := ⟨_, rfl⟩
    rw [← hw4] at x4 b4 ⊢
    clear hw4
    have BO := Lib.hid b4
    have BN := Lib.hid (x4.block B3.out)
    have XW := Lib.hid (X3.out.trans x4)
    have RO := Lib.hid (HRO.out.cells x4.cells)
    have RN := Lib.hid (HN.out.cells XW.out.cells)
    have TT := Lib.hid (HT.out.ext XW.out)
    clear x4 b4
    have keep : ∀ u : World, Ext w4 u → (u.cell? ⟨w3.heap.size, 0, none⟩ = some (.int .i64 n.tag) ∧ u.cell? ⟨w3.heap.size, 1, none⟩ = some (.slice z1 n.attrs.length z2) ∧ u.cell? ⟨w3.heap.size, 2, none⟩ = some (.string n.text) ∧ u.cell? ⟨w3.heap.size, 3, none⟩ = some (.slice z3 n.kids.length z4) ∧ u.cell? ⟨w.heap.size, 0, none⟩ = some (.int .i64 n.tag) ∧ u.cell? ⟨w.heap.size, 1, none⟩ = some (.slice y1 n.attrs.length y2) ∧ u.cell? ⟨w.heap.size, 2, none⟩ = some (.string n.text) ∧ u.cell? ⟨w.heap.size, 3, none⟩ = some (.slice y3 n.kids.length y4)) := fun u x =>
      ⟨x.cell (cellOf BO.out (i := 0) rfl), x.cell (cellOf BO.out (i := 1) rfl), x.cell (cellOf BO.out (i := 2) rfl), x.cell (cellOf BO.out (i := 3) rfl), x.cell (cellOf BN.out (i := 0) rfl), x.cell (cellOf BN.out (i := 1) rfl), x.cell (cellOf BN.out (i := 2) rfl), x.cell (cellOf BN.out (i := 3) rfl)⟩
    have KEEP := Lib.hid keep
    have kw := keep w4 (Ext.refl _)
    have hl := HF.out.1
    have hc1 : n.cost ≤ 1000000000000 := by have := HF.out.2.2; omega
    have hc2 : n.cost ≤ 100000000000000 := by omega
    have hck : PN.costs n.kids ≤ 1000000000000 := by have := n.cost_eq; omega
    obtain ⟨so, hso⟩ : ∃ s : ByteArray, (⟨n.outer.toArray⟩ : ByteArray) = s := ⟨_, rfl⟩
    obtain ⟨si, hsi⟩ : ∃ s : ByteArray, (⟨n.inner.toArray⟩ : ByteArray) = s := ⟨_, rfl⟩
    obtain ⟨bw, hbw⟩ : ∃ b, n.whole = b := ⟨_, rfl⟩
    have HSO := Lib.hid hso
    have HSI := Lib.hid hsi
    have HPO := Lib.hid (fun u (x : Ext w4 u) => hso ▸ Outer_any u n _ (RO.out.cells x.cells) hc2)
    have HPI := Lib.hid (fun u (x : Ext w4 u) => hsi ▸ Inner_any u n _ (RO.out.cells x.cells) hc2)
    have HRO2 := Lib.hid (fun u (x : Ext w4 u) => router_any w4 n u _ RN.out x hc1)
    have HRI := Lib.hid (fun u (x : Ext w4 u) => rinner_any w4 n u _ RN.out x hck)
    have HPN := Lib.hid (fun u (x : Ext w4 u) => hbw ▸ Normal_any u n _ (TT.out.ext x) (RO.out.cells x.cells) hl hc2)
    have HRN := Lib.hid (fun u (x : Ext w4 u) => hbw ▸ rNormal_any u n _ (RN.out.cells x.cells) hc1 (by have := HF.out.2.1; omega))
    have hsame : same n n = true := same_iff.2 rfl
    have HSN := Lib.hid (fun u (x : Ext w4 u) => hsame ▸ SameNode_any n (PN.light_fair n hl) n (PN.light_fair n hl) u _ _ (RO.out.cells x.cells) (RN.out.cells x.cells))
    have HAW := Lib.hid (fun u (x : Ext w4 u) => awake_any u (TT.out.ext x))
    clear hso hsi hbw hl hc1 hc2 hck hsame keep
    obtain ⟨LO, hLO⟩ : ∃ L, n.outer = L := ⟨_, rfl⟩
    obtain ⟨LI, hLI⟩ : ∃ L, n.inner = L := ⟨_, rfl⟩
    rw [hLO] at HRO2 HSO
    rw [hLI] at HRI HSI
    clear hLO hLI
    go_region_held (fun w' => w'.cell? ⟨w3.heap.size, 0, none⟩ = some (.int .i64 n.tag) ∧ w'.cell? ⟨w3.heap.size, 1, none⟩ = some (.slice z1 n.attrs.length z2) ∧ w'.cell? ⟨w3.heap.size, 2, none⟩ = some (.string n.text) ∧ w'.cell? ⟨w3.heap.size, 3, none⟩ = some (.slice z3 n.kids.length z4) ∧ w'.cell? ⟨w.heap.size, 0, none⟩ = some (.int .i64 n.tag) ∧ w'.cell? ⟨w.heap.size, 1, none⟩ = some (.slice y1 n.attrs.length y2) ∧ w'.cell? ⟨w.heap.size, 2, none⟩ = some (.string n.text) ∧ w'.cell? ⟨w.heap.size, 3, none⟩ = some (.slice y3 n.kids.length y4))
      (first | exact kw | exact hkeep | go_keep)
      (first
      | (go_at_call 11; refine (HPO.out _ (by first | exact (Ext.refl _).drew | exact XA.out | exact XB.out | exact XC.out | exact XD.out | exact XE.out | exact XF.out | exact XG.out)).mono ?_; rintro e wA ⟨rfl, xwA⟩; have XA := Lib.hid ((Ext.refl w4).drew.trans xwA); clear xwA; have hkeep := KEEP.out _ XA.out)
      | (go_at_call 12; refine (HRO2.out _ (by first | exact (Ext.refl _).drew | exact XA.out | exact XB.out | exact XC.out | exact XD.out | exact XE.out | exact XF.out | exact XG.out)).mono ?_; rintro e wB ⟨vB, rfl, hbB⟩; obtain ⟨gB, cB, _, _, rfl, _, _, _⟩ := hbB.at; have XB := Lib.hid (Ext.trans (by first | exact XA.out) hbB.ex); have hcvB := run_ofBytes hbB; rw [HSO.out] at hcvB; clear hbB; have hkeep := KEEP.out _ XB.out)
      | (go_at_call 13; refine (HPI.out _ (by first | exact (Ext.refl _).drew | exact XA.out | exact XB.out | exact XC.out | exact XD.out | exact XE.out | exact XF.out | exact XG.out)).mono ?_; rintro e wC ⟨rfl, xwC⟩; have XC := Lib.hid (XB.out.trans xwC); clear xwC; have hkeep := KEEP.out _ XC.out)
      | (go_at_call 14; refine (HRI.out _ (by first | exact (Ext.refl _).drew | exact XA.out | exact XB.out | exact XC.out | exact XD.out | exact XE.out | exact XF.out | exact XG.out)).mono ?_; rintro e wD ⟨vD, rfl, hbD⟩; obtain ⟨gD, cD, _, _, rfl, _, _, _⟩ := hbD.at; have XD := Lib.hid (Ext.trans (by first | exact XC.out) hbD.ex); have hcvD := run_ofBytes hbD; rw [HSI.out] at hcvD; clear hbD; have hkeep := KEEP.out _ XD.out)
      | (go_at_call 15; refine (HPN.out _ (by first | exact (Ext.refl _).drew | exact XA.out | exact XB.out | exact XC.out | exact XD.out | exact XE.out | exact XF.out | exact XG.out)).mono ?_; rintro e wE ⟨rfl, xwE⟩; have XE := Lib.hid (XD.out.trans xwE); clear xwE; have hkeep := KEEP.out _ XE.out)
      | (go_at_call 16; refine (HRN.out _ (by first | exact (Ext.refl _).drew | exact XA.out | exact XB.out | exact XC.out | exact XD.out | exact XE.out | exact XF.out | exact XG.out)).mono ?_; rintro e wF ⟨rfl, xwF⟩; have XF := Lib.hid (XE.out.trans xwF); clear xwF; have hkeep := KEEP.out _ XF.out)
      | (go_at_call 17; refine (HSN.out _ (by first | exact (Ext.refl _).drew | exact XA.out | exact XB.out | exact XC.out | exact XD.out | exact XE.out | exact XF.out | exact XG.out)).mono ?_; rintro e wG ⟨rfl, xwG⟩; have XG := Lib.hid (XF.out.trans xwG); clear xwG; have hkeep := KEEP.out _ XG.out)
      | (go_at_call 9; refine (HAW.out _ (by first | exact (Ext.refl _).drew | exact XA.out | exact XB.out | exact XC.out | exact XD.out | exact XE.out | exact XF.out | exact XG.out)).mono ?_; rintro e wH ⟨rfl, xwH⟩; have XH := Lib.hid (XG.out.trans xwH); clear xwH; have hkeep := KEEP.out _ XH.out)
      )
    all_goals (go_wp2_with fail; go_ret; exact ⟨rfl, XW.out.trans (by first | exact XH.out)⟩)
end Go.Proofs.YtdafdoodegpdhaaDoor
