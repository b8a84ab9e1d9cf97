/- what of ZP Z1 Z2 Z3 BA BB BC BD BE BF BG BH BI BJ BK BL BM BN BO BP BQ BR BS BT ZY BV BW BY Z4 CA CB CC CD CE is leant on -/
import Derived.Test.YtalaajbajgdglaaGreatDoorLPcg
set_option linter.unusedVariables false
set_option linter.unusedSimpArgs false
set_option maxRecDepth 1000000
set_option maxHeartbeats 8000000
namespace Go.Proofs.YtalaajbajgdglaaGreatDoor
open Go Go.RowKit Go.BigFrame
theorem lnode_2 {w0 : World} {n : PN} (hcls : clsT n.tag = 2) (hT : Tabs w0) (hkids : KOk w0 n) (htx : n.text.size ≤ 100000) (hal : n.attrs.length ≤ 100000000000000) : NOk w0 n := by
  intro b c d box line li w v hr hx hb ho hc hd hd2
  obtain ⟨av, kv, rfl, ha, hk⟩ := hr.open
  obtain ⟨ao, ac, rfl, _⟩ := ha.len_of
  obtain ⟨ka, kc, rfl, hk1, hk2, hk3, hk4⟩ := hk
  clear hk1 hk2 hk3 hk4
  have hbl := ho.lt
  have hws := hx.size
  have x1 := ((Ext.refl w).alloc (.cells #[.int .i64 n.tag, .slice ao n.attrs.length ac, .string n.text, .slice ka n.kids.length kc] 26))
  have bb := heap_alloc_new w (.cells #[.int .i64 n.tag, .slice ao n.attrs.length ac, .string n.text, .slice ka n.kids.length kc] 26)
  have fin : ∀ (q : Bool) (u : World) (c' : Nat), (n.norm d box line li && decide (c + n.size ≤ 2000)) = q → ExtB b w u → One u b (.int .i64 c') 75 → (q = true → c' = c + n.size) → Looked b c n.size (n.norm d box line li) w (.returned (.bool q)) u := by
    intro q u c' h1 h2 h3 h4
    exact ⟨c', by rw [h1], h2, h3, by rw [h1]; exact h4⟩
  have FIN := qh fin
  have HT := qh hT
  have HR := qh hr
  have HA0 := qh ha
  have HAL := qh hal
  have HTXT := qh htx
  have HX := qh hx
  have HNBB := qh hb
  have HKIDS := qh hkids
  have HSZ := qh n.size_eq
  have HO := qh ho
  clear fin hT hr ha hal htx hx hb hkids ho
  go_enter Tryz.func74, Tryz.ntmps74
  go_upto_region 1 with fail
  obtain ⟨w1, hw1⟩ : ∃ w1 : World, w1 = w.alloc (.cells #[.int .i64 n.tag, .slice ao n.attrs.length ac, .string n.text, .slice ka n.kids.length kc] 26) := ⟨_, rfl⟩
  have hsz : w1.heap.size = w.heap.size + 1 := by rw [hw1]; simp
  rw [← hw1] at x1 bb ⊢
  clear hw1
  have x2 := x1.alloc (.cells #[.int .i64 d, .bool box, .bool line, .bool li] 78)
  have b2 := ((Ext.refl w1).alloc (.cells #[.int .i64 d, .bool box, .bool line, .bool li] 78)).block bb
  have a2 := heap_alloc_new w1 (.cells #[.int .i64 d, .bool box, .bool line, .bool li] 78)
  rw [hsz] at a2
  obtain ⟨w2, hw2⟩ : ∃ w2 : World, w2 = w1.alloc (.cells #[.int .i64 d, .bool box, .bool line, .bool li] 78) := ⟨_, rfl⟩
  have hs2 : w.heap.size + 2 = w2.heap.size := by rw [hw2]; simp [hsz]
  have HS2 := qh hs2
  rw [← hw2] at x2 b2 a2 ⊢
  clear hw2 hsz x1 bb hs2
  have o2 := HO.out.ext x2
  have oc := o2.cell
  have of := o2.free
  have hwr : IntKind.i64.wrap ((c : Int) + 1) = ((c + 1 : Nat) : Int) := by rw [IntWalk.i64_left, IntWalk.wrap64_in _ (by omega)]; omega
  have B2 := qh b2
  have A2 := qh a2
  have X2 := qh x2
  have O2 := qh o2
  clear b2 a2 x2 o2
  go_upto_region 2 with fail
  obtain ⟨w3, hw3⟩ : ∃ w3 : World, w3 = w2.setCell ⟨b, 0, none⟩ (.int .i64 ((c : Int) + 1)) := ⟨_, rfl⟩
  have o3 : One w3 b (.int .i64 ((c : Int) + 1)) 75 := by rw [hw3]; exact O2.out.set _
  have nb3 : w3.heap[w.heap.size]? = some (.cells #[.int .i64 n.tag, .slice ao n.attrs.length ac, .string n.text, .slice ka n.kids.length kc] 26 (0, 0)) := by rw [hw3]; exact (heap_setCell_other (p := ⟨b, 0, none⟩) _ (by show w.heap.size ≠ b; omega)).trans B2.out
  have ab3 : w3.heap[w.heap.size + 1]? = some (.cells #[.int .i64 d, .bool box, .bool line, .bool li] 78 (0, 0)) := by rw [hw3]; exact (heap_setCell_other (p := ⟨b, 0, none⟩) _ (by show w.heap.size + 1 ≠ b; omega)).trans A2.out
  have x3 : ExtB b w w3 := by rw [hw3]; exact (X2.out.toB b).setCell (p := ⟨b, 0, none⟩) (.inl rfl) _
  have hs3 : w3.heap.size = w.heap.size + 2 := by rw [hw3]; simp [World.setCell]; exact HS2.out.symm
  rw [← hw3]
  clear hw3 oc of hwr
  have oc := o3.cell
  have n0 := cellOf nb3 (i := 0) (v := .int .i64 n.tag) rfl
  have v0 := cellOf ab3 (i := 0) (v := .int .i64 d) rfl
  have O3 := qh (show One w3 b (.int .i64 ((c + 1 : Nat) : Int)) 75 from by rw [show ((c + 1 : Nat) : Int) = (c : Int) + 1 by omega]; exact o3)
  have X3 := qh x3
  have NB3 := qh nb3
  have AB3 := qh ab3
  have HS3 := qh hs3
  clear o3 x3 nb3 ab3 hs3
  by_cases hc1 : c + 1 ≤ 2000
  case neg =>
    have hc2 : (2000 : Int) < (c : Int) + 1 := by omega
    have hz : (n.norm d box line li && decide (c + n.size ≤ 2000)) = false := by
      have := n.size_pos
      rw [decide_eq_false (by omega)]; simp
    have HZ := qh hz
    clear hc1 hz
    go_wp2_with fail
    go_ret
    exact FIN.out _ _ _ HZ.out X3.out O3.out (fun h => by cases h)
  have hc2 : ¬ (2000 : Int) < (c : Int) + 1 := by omega
  have HC1 := qh hc1
  clear hc1
  by_cases hd3 : 40 < d
  · have hz : (n.norm d box line li && decide (c + n.size ≤ 2000)) = false := by
      rw [PN.norm_eq, decide_eq_false (by omega)]; simp
    have HZ := qh hz
    clear hz
    go_wp2_with fail
    go_ret
    exact FIN.out _ _ _ HZ.out X3.out O3.out (fun h => by cases h)
  have hd4 : d ≤ 40 := by omega
  have HD4 := qh (show decide (d ≤ 40) = true from decide_eq_true hd4)
  have hcl := Class_any w3 n.tag
  rw [hcls] at hcl
  have HCLS := qh hcl
  have HCL := qh hcls
  clear hcl hcls
  have hdw : IntKind.i64.wrap (d + 1) = d + 1 := by rw [IntWalk.i64_left, IntWalk.wrap64_in _ (by omega)]
  go_upto_region 6 with (refine HCLS.out.mono ?_; rintro e w4 ⟨rfl, x4⟩; clear v0; have ab4 := x4.block AB3.out; have v0 := cellOf ab4 (i := 0) (v := .int .i64 d) rfl; have v1 := cellOf ab4 (i := 1) (v := .bool box) rfl; have v2 := cellOf ab4 (i := 2) (v := .bool line) rfl; have v3 := cellOf ab4 (i := 3) (v := .bool li) rfl; have O4 := qh (O3.out.ext x4); have X4 := qh (X3.out.trans (x4.toB b)); have NB4 := qh (x4.block NB3.out); have AB4 := qh ab4; have HS4 := qh (Nat.le_trans (Nat.le_of_eq HS3.out.symm) x4.size); clear x4 ab4 n0)
  clear v0 v1 v2 v3
  obtain ⟨bi, hbi⟩ : ∃ bi, w4.heap.size = bi := ⟨_, rfl⟩
  obtain ⟨wI, hwI⟩ : ∃ wI : World, wI = w4.alloc (.cells #[.int .i64 (d + 1), .bool true, .bool line, .bool li] 78) := ⟨_, rfl⟩
  have xI : Ext w4 wI := by rw [hwI]; exact (Ext.refl w4).alloc _
  have ib0 : wI.heap[bi]? = some (.cells #[.int .i64 (d + 1), .bool true, .bool line, .bool li] 78 (0, 0)) := by rw [← hbi, hwI]; exact heap_alloc_new w4 _
  rw [← hwI, hbi]
  clear hwI
  have HBI := qh (show w.heap.size ≠ bi ∧ b ≠ bi ∧ w.heap.size ≤ bi by have := HS4.out; omega)
  have NBI := qh (xI.block NB4.out)
  have ABI := qh (xI.block AB4.out)
  have ONI := qh (O4.out.ext xI)
  have XI := qh (X4.out.trans (xI.toB b))
  have IB0 := qh ib0
  have n0 := cellOf NBI.out (i := 0) (v := .int .i64 n.tag) rfl
  have n1 := cellOf NBI.out (i := 1) (v := .slice ao n.attrs.length ac) rfl
  have n2 := cellOf NBI.out (i := 2) (v := .string n.text) rfl
  have n3 := cellOf NBI.out (i := 3) (v := .slice ka n.kids.length kc) rfl
  have v0 := cellOf ABI.out (i := 0) (v := .int .i64 d) rfl
  have v1 := cellOf ABI.out (i := 1) (v := .bool box) rfl
  have v2 := cellOf ABI.out (i := 2) (v := .bool line) rfl
  have v3 := cellOf ABI.out (i := 3) (v := .bool li) rfl
  clear xI ib0 hbi hdw HCLS
  have t9 : (n.tag == 9) = false := by simpa using cls_two HCL.out
  cases line with
  | true =>
    have HZ := qh (show (n.norm d box true li && decide (c + n.size ≤ 2000)) = false from by rw [PN.norm_eq, HCL.out]; simp)
    go_wp2_with fail
    go_ret
    exact FIN.out _ _ _ HZ.out XI.out ONI.out (fun h => by cases h)
  | false =>
    cases li with
    | false =>
      have IB := qh (show wI.heap[bi]? = some (.cells #[.int .i64 (d + 1), .bool true, .bool false, .bool false] 78 (0, 0)) from IB0.out)
      have hnm : n.norm d box false false = (n.text.size == 0 && attrsMay n.attrs && PN.norms (d + 1) true false false false n.kids) := by
        rw [PN.norm_eq, HCL.out, HD4.out]; simp only [bne, t9]; rfl
      have HNM := qh hnm
      clear hnm
      have i2 := cellOf IB.out (i := 2) (v := .bool false) rfl
      have i3 := cellOf IB.out (i := 3) (v := .bool false) rfl
      have g2 := freeOf IB.out 2
      have g3 := freeOf IB.out 3
      go_upto_region 19 with fail
      obtain ⟨wT, hwT⟩ : ∃ wT : World, wT = ((wI.setCell ⟨bi, 2, none⟩ (.bool false)).setCell ⟨bi, 3, none⟩ (.bool false)) := ⟨_, rfl⟩
      have ib : wT.heap[bi]? = some (.cells #[.int .i64 (d + 1), .bool true, .bool false, .bool false] 78 (0, 0)) := by rw [hwT]; exact heap_setCell_same (heap_setCell_same IB.out (.bool false)) (.bool false)
      have nb : wT.heap[w.heap.size]? = some (.cells #[.int .i64 n.tag, .slice ao n.attrs.length ac, .string n.text, .slice ka n.kids.length kc] 26 (0, 0)) := by rw [hwT]; exact ((heap_setCell_other (p := ⟨bi, 3, none⟩) _ HBI.out.1).trans (heap_setCell_other (p := ⟨bi, 2, none⟩) _ HBI.out.1)).trans NBI.out
      have on : One wT b (.int .i64 ((c + 1 : Nat) : Int)) 75 := by rw [hwT]; exact ((heap_setCell_other (p := ⟨bi, 3, none⟩) _ HBI.out.2.1).trans (heap_setCell_other (p := ⟨bi, 2, none⟩) _ HBI.out.2.1)).trans ONI.out
      have xt : ExtB b w wT := by rw [hwT]; exact (XI.out.setCell (p := ⟨bi, 2, none⟩) (.inr HBI.out.2.2) _).setCell (p := ⟨bi, 3, none⟩) (.inr HBI.out.2.2) _
      rw [← hwT]
      clear hwT i2 i3 g2 g3
      have n0 := cellOf nb (i := 0) (v := .int .i64 n.tag) rfl
      have n1 := cellOf nb (i := 1) (v := .slice ao n.attrs.length ac) rfl
      have n2 := cellOf nb (i := 2) (v := .string n.text) rfl
      have n3 := cellOf nb (i := 3) (v := .slice ka n.kids.length kc) rfl
      have XT := qh xt
      have ON := qh on
      have IB2 := qh ib
      have NB2 := qh nb
      clear xt on ib nb
      by_cases ht : n.text.size = 0
      · have e3 : (n.text.toList == ([] : List UInt8)) = true := text_none ht
        have HTX := qh ht
        have hx0 : Ext w0 wT := XT.out.ext HX.out HNBB.out
        have HA := qh (AMay_any n.attrs _ wT (HA0.out.cells hx0.cells) HAL.out (HT.out.ext hx0))
        clear ht hx0
        have hm : attrsMay n.attrs = true ∨ attrsMay n.attrs = false := by cases attrsMay n.attrs; exact .inr rfl; exact .inl rfl
        rcases hm with hm | hm
        · rw [hm] at HA
          go_wp2_with (go_at_call 119; refine HA.out.mono ?_)
          rintro e w6 ⟨rfl, x6⟩
          have n0 := x6.cell n0
          have n1 := x6.cell n1
          have n2 := x6.cell n2
          have n3 := x6.cell n3
          have ib6 := x6.block IB2.out
          have v0 := cellOf ib6 (i := 0) (v := .int .i64 (d + 1)) rfl
          have v1 := cellOf ib6 (i := 1) (v := .bool true) rfl
          have v2 := cellOf ib6 (i := 2) (v := .bool false) rfl
          have v3 := cellOf ib6 (i := 3) (v := .bool false) rfl
          have X6 := qh (XT.out.trans (x6.toB b))
          have HK := qh (HKIDS.out b (c + 1) (d + 1) true false false w6 _ HR.out (X6.out.ext HX.out HNBB.out) HNBB.out (ON.out.ext x6) HC1.out (by omega) (by omega))
          have fin6 : ∀ (q : Bool) (u : World) (c' : Nat), (PN.norms (d + 1) true false false false n.kids && decide (c + 1 + PN.sizes n.kids ≤ 2000)) = q → ExtB b w u → One u b (.int .i64 c') 75 → (q = true → c' = c + 1 + PN.sizes n.kids) → Looked b c n.size (n.norm d box false false) w (.returned (.bool q)) u := by
            intro q u c' h1 h2 h3 h4
            refine FIN.out q u c' ?_ h2 h3 (fun h => ?_)
            · rw [HNM.out, HTX.out, hm, HSZ.out, show c + (PN.sizes n.kids + 1) = c + 1 + PN.sizes n.kids by omega]; simpa using h1
            · rw [h4 h, HSZ.out]; omega
          have FIN6 := qh fin6
          clear fin6 hm x6 ib6
          have hq : (PN.norms (d + 1) true false false false n.kids && decide (c + 1 + PN.sizes n.kids ≤ 2000)) = true ∨ (PN.norms (d + 1) true false false false n.kids && decide (c + 1 + PN.sizes n.kids ≤ 2000)) = false := by cases (PN.norms (d + 1) true false false false n.kids && decide (c + 1 + PN.sizes n.kids ≤ 2000)); exact .inr rfl; exact .inl rfl
          obtain ⟨q, hq9⟩ : ∃ q, (PN.norms (d + 1) true false false false n.kids && decide (c + 1 + PN.sizes n.kids ≤ 2000)) = q := ⟨_, rfl⟩
          have HQ9 := qh hq9
          clear hq hq9
          go_wp2_with (go_at_call 35; refine HK.out.mono ?_)
          rintro e w7 ⟨c7, rfl, x7, o7, h7⟩
          have X7 := qh (X6.out.trans x7)
          have O7 := qh o7
          have H7 := qh h7
          rw [HQ9.out]
          clear x7 o7 h7 n0 n1 n2 n3 v0 v1 v2 v3
          go_wp2_with fail
          go_ret
          exact FIN6.out q _ c7 HQ9.out X7.out O7.out (fun h => H7.out (HQ9.out.trans h))
        · rw [hm] at HA
          have hz : (n.norm d box false false && decide (c + n.size ≤ 2000)) = false := by rw [HNM.out, hm]; simp
          have HZ := qh hz
          clear hz hm
          go_wp2_with (go_at_call 119; refine HA.out.mono ?_)
          rintro e w6 ⟨rfl, x6⟩
          have X6 := qh (XT.out.trans (x6.toB b))
          have O6 := qh (ON.out.ext x6)
          clear x6 n0 n1 n2 n3
          go_wp2_with fail
          go_ret
          exact FIN.out _ _ _ HZ.out X6.out O6.out (fun h => by cases h)
      · have e3 : (n.text.toList == ([] : List UInt8)) = false := text_some ht
        have hz : (n.norm d box false false && decide (c + n.size ≤ 2000)) = false := by rw [HNM.out]; simp [ht]
        have HZ := qh hz
        clear hz ht
        go_wp2_with fail
        go_ret
        exact FIN.out _ _ _ HZ.out XT.out ON.out (fun h => by cases h)
    | true =>
      have h7 : (n.tag == 7) = true ∨ (n.tag == 7) = false := by cases (n.tag == 7); exact .inr rfl; exact .inl rfl
      rcases h7 with h7 | h7
      · have b7 : (n.tag != 7) = false := by rw [bne, h7]; rfl
        have IB := qh (show wI.heap[bi]? = some (.cells #[.int .i64 (d + 1), .bool true, .bool false, .bool true] 78 (0, 0)) from IB0.out)
        have hnm : n.norm d box false true = (n.text.size == 0 && attrsMay n.attrs && PN.norms (d + 1) true false false false n.kids) := by
          rw [PN.norm_eq, HCL.out, HD4.out]; simp only [bne, t9, h7]; rfl
        have HNM := qh hnm
        clear hnm
        have i2 := cellOf IB.out (i := 2) (v := .bool false) rfl
        have i3 := cellOf IB.out (i := 3) (v := .bool true) rfl
        have g2 := freeOf IB.out 2
        have g3 := freeOf IB.out 3
        go_upto_region 19 with fail
        obtain ⟨wT, hwT⟩ : ∃ wT : World, wT = ((wI.setCell ⟨bi, 2, none⟩ (.bool false)).setCell ⟨bi, 3, none⟩ (.bool false)) := ⟨_, rfl⟩
        have ib : wT.heap[bi]? = some (.cells #[.int .i64 (d + 1), .bool true, .bool false, .bool false] 78 (0, 0)) := by rw [hwT]; exact heap_setCell_same (heap_setCell_same IB.out (.bool false)) (.bool false)
        have nb : wT.heap[w.heap.size]? = some (.cells #[.int .i64 n.tag, .slice ao n.attrs.length ac, .string n.text, .slice ka n.kids.length kc] 26 (0, 0)) := by rw [hwT]; exact ((heap_setCell_other (p := ⟨bi, 3, none⟩) _ HBI.out.1).trans (heap_setCell_other (p := ⟨bi, 2, none⟩) _ HBI.out.1)).trans NBI.out
        have on : One wT b (.int .i64 ((c + 1 : Nat) : Int)) 75 := by rw [hwT]; exact ((heap_setCell_other (p := ⟨bi, 3, none⟩) _ HBI.out.2.1).trans (heap_setCell_other (p := ⟨bi, 2, none⟩) _ HBI.out.2.1)).trans ONI.out
        have xt : ExtB b w wT := by rw [hwT]; exact (XI.out.setCell (p := ⟨bi, 2, none⟩) (.inr HBI.out.2.2) _).setCell (p := ⟨bi, 3, none⟩) (.inr HBI.out.2.2) _
        rw [← hwT]
        clear hwT i2 i3 g2 g3
        have n0 := cellOf nb (i := 0) (v := .int .i64 n.tag) rfl
        have n1 := cellOf nb (i := 1) (v := .slice ao n.attrs.length ac) rfl
        have n2 := cellOf nb (i := 2) (v := .string n.text) rfl
        have n3 := cellOf nb (i := 3) (v := .slice ka n.kids.length kc) rfl
        have XT := qh xt
        have ON := qh on
        have IB2 := qh ib
        have NB2 := qh nb
        clear xt on ib nb
        by_cases ht : n.text.size = 0
        · have e3 : (n.text.toList == ([] : List UInt8)) = true := text_none ht
          have HTX := qh ht
          have hx0 : Ext w0 wT := XT.out.ext HX.out HNBB.out
          have HA := qh (AMay_any n.attrs _ wT (HA0.out.cells hx0.cells) HAL.out (HT.out.ext hx0))
          clear ht hx0
          have hm : attrsMay n.attrs = true ∨ attrsMay n.attrs = false := by cases attrsMay n.attrs; exact .inr rfl; exact .inl rfl
          rcases hm with hm | hm
          · rw [hm] at HA
            go_wp2_with (go_at_call 119; refine HA.out.mono ?_)
            rintro e w6 ⟨rfl, x6⟩
            have n0 := x6.cell n0
            have n1 := x6.cell n1
            have n2 := x6.cell n2
            have n3 := x6.cell n3
            have ib6 := x6.block IB2.out
            have v0 := cellOf ib6 (i := 0) (v := .int .i64 (d + 1)) rfl
            have v1 := cellOf ib6 (i := 1) (v := .bool true) rfl
            have v2 := cellOf ib6 (i := 2) (v := .bool false) rfl
            have v3 := cellOf ib6 (i := 3) (v := .bool false) rfl
            have X6 := qh (XT.out.trans (x6.toB b))
            have HK := qh (HKIDS.out b (c + 1) (d + 1) true false false w6 _ HR.out (X6.out.ext HX.out HNBB.out) HNBB.out (ON.out.ext x6) HC1.out (by omega) (by omega))
            have fin6 : ∀ (q : Bool) (u : World) (c' : Nat), (PN.norms (d + 1) true false false false n.kids && decide (c + 1 + PN.sizes n.kids ≤ 2000)) = q → ExtB b w u → One u b (.int .i64 c') 75 → (q = true → c' = c + 1 + PN.sizes n.kids) → Looked b c n.size (n.norm d box false true) w (.returned (.bool q)) u := by
              intro q u c' h1 h2 h3 h4
              refine FIN.out q u c' ?_ h2 h3 (fun h => ?_)
              · rw [HNM.out, HTX.out, hm, HSZ.out, show c + (PN.sizes n.kids + 1) = c + 1 + PN.sizes n.kids by omega]; simpa using h1
              · rw [h4 h, HSZ.out]; omega
            have FIN6 := qh fin6
            clear fin6 hm x6 ib6
            have hq : (PN.norms (d + 1) true false false false n.kids && decide (c + 1 + PN.sizes n.kids ≤ 2000)) = true ∨ (PN.norms (d + 1) true false false false n.kids && decide (c + 1 + PN.sizes n.kids ≤ 2000)) = false := by cases (PN.norms (d + 1) true false false false n.kids && decide (c + 1 + PN.sizes n.kids ≤ 2000)); exact .inr rfl; exact .inl rfl
            obtain ⟨q, hq9⟩ : ∃ q, (PN.norms (d + 1) true false false false n.kids && decide (c + 1 + PN.sizes n.kids ≤ 2000)) = q := ⟨_, rfl⟩
            have HQ9 := qh hq9
            clear hq hq9
            go_wp2_with (go_at_call 35; refine HK.out.mono ?_)
            rintro e w7 ⟨c7, rfl, x7, o7, h7⟩
            have X7 := qh (X6.out.trans x7)
            have O7 := qh o7
            have H7 := qh h7
            rw [HQ9.out]
            clear x7 o7 h7 n0 n1 n2 n3 v0 v1 v2 v3
            go_wp2_with fail
            go_ret
            exact FIN6.out q _ c7 HQ9.out X7.out O7.out (fun h => H7.out (HQ9.out.trans h))
          · rw [hm] at HA
            have hz : (n.norm d box false true && decide (c + n.size ≤ 2000)) = false := by rw [HNM.out, hm]; simp
            have HZ := qh hz
            clear hz hm
            go_wp2_with (go_at_call 119; refine HA.out.mono ?_)
            rintro e w6 ⟨rfl, x6⟩
            have X6 := qh (XT.out.trans (x6.toB b))
            have O6 := qh (ON.out.ext x6)
            clear x6 n0 n1 n2 n3
            go_wp2_with fail
            go_ret
            exact FIN.out _ _ _ HZ.out X6.out O6.out (fun h => by cases h)
        · have e3 : (n.text.toList == ([] : List UInt8)) = false := text_some ht
          have hz : (n.norm d box false true && decide (c + n.size ≤ 2000)) = false := by rw [HNM.out]; simp [ht]
          have HZ := qh hz
          clear hz ht
          go_wp2_with fail
          go_ret
          exact FIN.out _ _ _ HZ.out XT.out ON.out (fun h => by cases h)
      · have h8 : (n.tag == 8) = true ∨ (n.tag == 8) = false := by cases (n.tag == 8); exact .inr rfl; exact .inl rfl
        rcases h8 with h8 | h8
        · have b7 : (n.tag != 7) = true := by rw [bne, h7]; rfl
          have b8 : (n.tag != 8) = false := by rw [bne, h8]; rfl
          have IB := qh (show wI.heap[bi]? = some (.cells #[.int .i64 (d + 1), .bool true, .bool false, .bool true] 78 (0, 0)) from IB0.out)
          have hnm : n.norm d box false true = (n.text.size == 0 && attrsMay n.attrs && PN.norms (d + 1) true false false false n.kids) := by
            rw [PN.norm_eq, HCL.out, HD4.out]; simp only [bne, t9, h7, h8]; rfl
          have HNM := qh hnm
          clear hnm
          have i2 := cellOf IB.out (i := 2) (v := .bool false) rfl
          have i3 := cellOf IB.out (i := 3) (v := .bool true) rfl
          have g2 := freeOf IB.out 2
          have g3 := freeOf IB.out 3
          go_upto_region 19 with fail
          obtain ⟨wT, hwT⟩ : ∃ wT : World, wT = ((wI.setCell ⟨bi, 2, none⟩ (.bool false)).setCell ⟨bi, 3, none⟩ (.bool false)) := ⟨_, rfl⟩
          have ib : wT.heap[bi]? = some (.cells #[.int .i64 (d + 1), .bool true, .bool false, .bool false] 78 (0, 0)) := by rw [hwT]; exact heap_setCell_same (heap_setCell_same IB.out (.bool false)) (.bool false)
          have nb : wT.heap[w.heap.size]? = some (.cells #[.int .i64 n.tag, .slice ao n.attrs.length ac, .string n.text, .slice ka n.kids.length kc] 26 (0, 0)) := by rw [hwT]; exact ((heap_setCell_other (p := ⟨bi, 3, none⟩) _ HBI.out.1).trans (heap_setCell_other (p := ⟨bi, 2, none⟩) _ HBI.out.1)).trans NBI.out
          have on : One wT b (.int .i64 ((c + 1 : Nat) : Int)) 75 := by rw [hwT]; exact ((heap_setCell_other (p := ⟨bi, 3, none⟩) _ HBI.out.2.1).trans (heap_setCell_other (p := ⟨bi, 2, none⟩) _ HBI.out.2.1)).trans ONI.out
          have xt : ExtB b w wT := by rw [hwT]; exact (XI.out.setCell (p := ⟨bi, 2, none⟩) (.inr HBI.out.2.2) _).setCell (p := ⟨bi, 3, none⟩) (.inr HBI.out.2.2) _
          rw [← hwT]
          clear hwT i2 i3 g2 g3
          have n0 := cellOf nb (i := 0) (v := .int .i64 n.tag) rfl
          have n1 := cellOf nb (i := 1) (v := .slice ao n.attrs.length ac) rfl
          have n2 := cellOf nb (i := 2) (v := .string n.text) rfl
          have n3 := cellOf nb (i := 3) (v := .slice ka n.kids.length kc) rfl
          have XT := qh xt
          have ON := qh on
          have IB2 := qh ib
          have NB2 := qh nb
          clear xt on ib nb
          by_cases ht : n.text.size = 0
          · have e3 : (n.text.toList == ([] : List UInt8)) = true := text_none ht
            have HTX := qh ht
            have hx0 : Ext w0 wT := XT.out.ext HX.out HNBB.out
            have HA := qh (AMay_any n.attrs _ wT (HA0.out.cells hx0.cells) HAL.out (HT.out.ext hx0))
            clear ht hx0
            have hm : attrsMay n.attrs = true ∨ attrsMay n.attrs = false := by cases attrsMay n.attrs; exact .inr rfl; exact .inl rfl
            rcases hm with hm | hm
            · rw [hm] at HA
              go_wp2_with (go_at_call 119; refine HA.out.mono ?_)
              rintro e w6 ⟨rfl, x6⟩
              have n0 := x6.cell n0
              have n1 := x6.cell n1
              have n2 := x6.cell n2
              have n3 := x6.cell n3
              have ib6 := x6.block IB2.out
              have v0 := cellOf ib6 (i := 0) (v := .int .i64 (d + 1)) rfl
              have v1 := cellOf ib6 (i := 1) (v := .bool true) rfl
              have v2 := cellOf ib6 (i := 2) (v := .bool false) rfl
              have v3 := cellOf ib6 (i := 3) (v := .bool false) rfl
              have X6 := qh (XT.out.trans (x6.toB b))
              have HK := qh (HKIDS.out b (c + 1) (d + 1) true false false w6 _ HR.out (X6.out.ext HX.out HNBB.out) HNBB.out (ON.out.ext x6) HC1.out (by omega) (by omega))
              have fin6 : ∀ (q : Bool) (u : World) (c' : Nat), (PN.norms (d + 1) true false false false n.kids && decide (c + 1 + PN.sizes n.kids ≤ 2000)) = q → ExtB b w u → One u b (.int .i64 c') 75 → (q = true → c' = c + 1 + PN.sizes n.kids) → Looked b c n.size (n.norm d box false true) w (.returned (.bool q)) u := by
                intro q u c' h1 h2 h3 h4
                refine FIN.out q u c' ?_ h2 h3 (fun h => ?_)
                · rw [HNM.out, HTX.out, hm, HSZ.out, show c + (PN.sizes n.kids + 1) = c + 1 + PN.sizes n.kids by omega]; simpa using h1
                · rw [h4 h, HSZ.out]; omega
              have FIN6 := qh fin6
              clear fin6 hm x6 ib6
              have hq : (PN.norms (d + 1) true false false false n.kids && decide (c + 1 + PN.sizes n.kids ≤ 2000)) = true ∨ (PN.norms (d + 1) true false false false n.kids && decide (c + 1 + PN.sizes n.kids ≤ 2000)) = false := by cases (PN.norms (d + 1) true false false false n.kids && decide (c + 1 + PN.sizes n.kids ≤ 2000)); exact .inr rfl; exact .inl rfl
              obtain ⟨q, hq9⟩ : ∃ q, (PN.norms (d + 1) true false false false n.kids && decide (c + 1 + PN.sizes n.kids ≤ 2000)) = q := ⟨_, rfl⟩
              have HQ9 := qh hq9
              clear hq hq9
              go_wp2_with (go_at_call 35; refine HK.out.mono ?_)
              rintro e w7 ⟨c7, rfl, x7, o7, h7⟩
              have X7 := qh (X6.out.trans x7)
              have O7 := qh o7
              have H7 := qh h7
              rw [HQ9.out]
              clear x7 o7 h7 n0 n1 n2 n3 v0 v1 v2 v3
              go_wp2_with fail
              go_ret
              exact FIN6.out q _ c7 HQ9.out X7.out O7.out (fun h => H7.out (HQ9.out.trans h))
            · rw [hm] at HA
              have hz : (n.norm d box false true && decide (c + n.size ≤ 2000)) = false := by rw [HNM.out, hm]; simp
              have HZ := qh hz
              clear hz hm
              go_wp2_with (go_at_call 119; refine HA.out.mono ?_)
              rintro e w6 ⟨rfl, x6⟩
              have X6 := qh (XT.out.trans (x6.toB b))
              have O6 := qh (ON.out.ext x6)
              clear x6 n0 n1 n2 n3
              go_wp2_with fail
              go_ret
              exact FIN.out _ _ _ HZ.out X6.out O6.out (fun h => by cases h)
          · have e3 : (n.text.toList == ([] : List UInt8)) = false := text_some ht
            have hz : (n.norm d box false true && decide (c + n.size ≤ 2000)) = false := by rw [HNM.out]; simp [ht]
            have HZ := qh hz
            clear hz ht
            go_wp2_with fail
            go_ret
            exact FIN.out _ _ _ HZ.out XT.out ON.out (fun h => by cases h)
        · have b7 : (n.tag != 7) = true := by rw [bne, h7]; rfl
          have b8 : (n.tag != 8) = true := by rw [bne, h8]; rfl
          have IB := qh (show wI.heap[bi]? = some (.cells #[.int .i64 (d + 1), .bool true, .bool false, .bool true] 78 (0, 0)) from IB0.out)
          have hnm : n.norm d box false true = (n.text.size == 0 && attrsMay n.attrs && PN.norms (d + 1) true false true false n.kids) := by
            rw [PN.norm_eq, HCL.out, HD4.out]; simp only [bne, t9, h7, h8]; rfl
          have HNM := qh hnm
          clear hnm
          have i2 := cellOf IB.out (i := 2) (v := .bool false) rfl
          have i3 := cellOf IB.out (i := 3) (v := .bool true) rfl
          have g2 := freeOf IB.out 2
          have g3 := freeOf IB.out 3
          go_upto_region 19 with fail
          obtain ⟨wT, hwT⟩ : ∃ wT : World, wT = ((wI.setCell ⟨bi, 2, none⟩ (.bool false)).setCell ⟨bi, 3, none⟩ (.bool true)) := ⟨_, rfl⟩
          have ib : wT.heap[bi]? = some (.cells #[.int .i64 (d + 1), .bool true, .bool false, .bool true] 78 (0, 0)) := by rw [hwT]; exact heap_setCell_same (heap_setCell_same IB.out (.bool false)) (.bool true)
          have nb : wT.heap[w.heap.size]? = some (.cells #[.int .i64 n.tag, .slice ao n.attrs.length ac, .string n.text, .slice ka n.kids.length kc] 26 (0, 0)) := by rw [hwT]; exact ((heap_setCell_other (p := ⟨bi, 3, none⟩) _ HBI.out.1).trans (heap_setCell_other (p := ⟨bi, 2, none⟩) _ HBI.out.1)).trans NBI.out
          have on : One wT b (.int .i64 ((c + 1 : Nat) : Int)) 75 := by rw [hwT]; exact ((heap_setCell_other (p := ⟨bi, 3, none⟩) _ HBI.out.2.1).trans (heap_setCell_other (p := ⟨bi, 2, none⟩) _ HBI.out.2.1)).trans ONI.out
          have xt : ExtB b w wT := by rw [hwT]; exact (XI.out.setCell (p := ⟨bi, 2, none⟩) (.inr HBI.out.2.2) _).setCell (p := ⟨bi, 3, none⟩) (.inr HBI.out.2.2) _
          rw [← hwT]
          clear hwT i2 i3 g2 g3
          have n0 := cellOf nb (i := 0) (v := .int .i64 n.tag) rfl
          have n1 := cellOf nb (i := 1) (v := .slice ao n.attrs.length ac) rfl
          have n2 := cellOf nb (i := 2) (v := .string n.text) rfl
          have n3 := cellOf nb (i := 3) (v := .slice ka n.kids.length kc) rfl
          have XT := qh xt
          have ON := qh on
          have IB2 := qh ib
          have NB2 := qh nb
          clear xt on ib nb
          by_cases ht : n.text.size = 0
          · have e3 : (n.text.toList == ([] : List UInt8)) = true := text_none ht
            have HTX := qh ht
            have hx0 : Ext w0 wT := XT.out.ext HX.out HNBB.out
            have HA := qh (AMay_any n.attrs _ wT (HA0.out.cells hx0.cells) HAL.out (HT.out.ext hx0))
            clear ht hx0
            have hm : attrsMay n.attrs = true ∨ attrsMay n.attrs = false := by cases attrsMay n.attrs; exact .inr rfl; exact .inl rfl
            rcases hm with hm | hm
            · rw [hm] at HA
              go_wp2_with (go_at_call 119; refine HA.out.mono ?_)
              rintro e w6 ⟨rfl, x6⟩
              have n0 := x6.cell n0
              have n1 := x6.cell n1
              have n2 := x6.cell n2
              have n3 := x6.cell n3
              have ib6 := x6.block IB2.out
              have v0 := cellOf ib6 (i := 0) (v := .int .i64 (d + 1)) rfl
              have v1 := cellOf ib6 (i := 1) (v := .bool true) rfl
              have v2 := cellOf ib6 (i := 2) (v := .bool false) rfl
              have v3 := cellOf ib6 (i := 3) (v := .bool true) rfl
              have X6 := qh (XT.out.trans (x6.toB b))
              have HK := qh (HKIDS.out b (c + 1) (d + 1) true false true w6 _ HR.out (X6.out.ext HX.out HNBB.out) HNBB.out (ON.out.ext x6) HC1.out (by omega) (by omega))
              have fin6 : ∀ (q : Bool) (u : World) (c' : Nat), (PN.norms (d + 1) true false true false n.kids && decide (c + 1 + PN.sizes n.kids ≤ 2000)) = q → ExtB b w u → One u b (.int .i64 c') 75 → (q = true → c' = c + 1 + PN.sizes n.kids) → Looked b c n.size (n.norm d box false true) w (.returned (.bool q)) u := by
                intro q u c' h1 h2 h3 h4
                refine FIN.out q u c' ?_ h2 h3 (fun h => ?_)
                · rw [HNM.out, HTX.out, hm, HSZ.out, show c + (PN.sizes n.kids + 1) = c + 1 + PN.sizes n.kids by omega]; simpa using h1
                · rw [h4 h, HSZ.out]; omega
              have FIN6 := qh fin6
              clear fin6 hm x6 ib6
              have hq : (PN.norms (d + 1) true false true false n.kids && decide (c + 1 + PN.sizes n.kids ≤ 2000)) = true ∨ (PN.norms (d + 1) true false true false n.kids && decide (c + 1 + PN.sizes n.kids ≤ 2000)) = false := by cases (PN.norms (d + 1) true false true false n.kids && decide (c + 1 + PN.sizes n.kids ≤ 2000)); exact .inr rfl; exact .inl rfl
              obtain ⟨q, hq9⟩ : ∃ q, (PN.norms (d + 1) true false true false n.kids && decide (c + 1 + PN.sizes n.kids ≤ 2000)) = q := ⟨_, rfl⟩
              have HQ9 := qh hq9
              clear hq hq9
              go_wp2_with (go_at_call 35; refine HK.out.mono ?_)
              rintro e w7 ⟨c7, rfl, x7, o7, h7⟩
              have X7 := qh (X6.out.trans x7)
              have O7 := qh o7
              have H7 := qh h7
              rw [HQ9.out]
              clear x7 o7 h7 n0 n1 n2 n3 v0 v1 v2 v3
              go_wp2_with fail
              go_ret
              exact FIN6.out q _ c7 HQ9.out X7.out O7.out (fun h => H7.out (HQ9.out.trans h))
            · rw [hm] at HA
              have hz : (n.norm d box false true && decide (c + n.size ≤ 2000)) = false := by rw [HNM.out, hm]; simp
              have HZ := qh hz
              clear hz hm
              go_wp2_with (go_at_call 119; refine HA.out.mono ?_)
              rintro e w6 ⟨rfl, x6⟩
              have X6 := qh (XT.out.trans (x6.toB b))
              have O6 := qh (ON.out.ext x6)
              clear x6 n0 n1 n2 n3
              go_wp2_with fail
              go_ret
              exact FIN.out _ _ _ HZ.out X6.out O6.out (fun h => by cases h)
          · have e3 : (n.text.toList == ([] : List UInt8)) = false := text_some ht
            have hz : (n.norm d box false true && decide (c + n.size ≤ 2000)) = false := by rw [HNM.out]; simp [ht]
            have HZ := qh hz
            clear hz ht
            go_wp2_with fail
            go_ret
            exact FIN.out _ _ _ HZ.out XT.out ON.out (fun h => by cases h)
theorem lnode_of {w0 : World} {n : PN} (hT : Tabs w0) (hkids : KOk w0 n) (htx : n.text.size ≤ 100000) (hal : n.attrs.length ≤ 100000000000000) : NOk w0 n := by
  rcases clsT_range n.tag with h | h | h | h | h | h
  · exact lnode_0 h hT hkids htx hal
  · exact lnode_1 h hT hkids htx hal
  · exact lnode_2 h hT hkids htx hal
  · exact lnode_3 h hT hkids htx hal
  · exact lnode_4 h hT hkids htx hal
  · exact lnode_5 h hT hkids htx hal
theorem PN.lights_mem {l : List PN} (h : PN.lights l = true) {k : PN} (hk : k ∈ l) : k.light = true := by
  induction l with
  | nil => cases hk
  | cons x r ih =>
    simp only [PN.lights, Bool.and_eq_true] at h
    rcases List.mem_cons.1 hk with rfl | hk
    · exact h.1
    · exact ih h.2 hk
theorem lnode_any {w0 : World} (hT : Tabs w0) : ∀ n : PN, n.light = true → NOk w0 n := by
  refine PN.induct _ fun n ih hl => ?_
  rw [PN.light_eq] at hl
  simp only [Bool.and_eq_true, decide_eq_true_eq] at hl
  exact lnode_of hT (kids_of fun k hk => ih k hk (PN.lights_mem hl.2 hk)) (by omega) (by omega)
theorem lkids_any {w0 : World} (hT : Tabs w0) {n : PN} (hl : n.light = true) : KOk w0 n := by
  rw [PN.light_eq] at hl
  simp only [Bool.and_eq_true, decide_eq_true_eq] at hl
  exact kids_of fun k hk => lnode_any hT k (PN.lights_mem hl.2 hk)
theorem Normal_k (w : World) (n : PN) (v : Value) (hl : KOk w n) (hr : RdN w n v) (hc : n.cost ≤ 100000000000000) : Calls Tryz.prog 15 #[v] w (RBool n.whole w) := by
  obtain ⟨y1, y2, y3, y4, rfl⟩ := hr.shape
  have x1 := ((Ext.refl w).alloc (.cells #[.int .i64 n.tag, .slice y1 n.attrs.length y2, .string n.text, .slice y3 n.kids.length y4] 26))
  have bb := heap_alloc_new w (.cells #[.int .i64 n.tag, .slice y1 n.attrs.length y2, .string n.text, .slice y3 n.kids.length y4] 26)
  have HR := qh hr
  have HL := qh hl
  have HC := qh hc
  obtain ⟨r, hr9⟩ : ∃ r, n.whole = r := ⟨_, rfl⟩
  rw [hr9]
  have HR9 := qh hr9
  clear hr hl hc hr9
  go_enter Tryz.func15, Tryz.ntmps15
  go_upto_region 2 with fail
  obtain ⟨w1, hw1⟩ : ∃ w1 : World, w1 = w.alloc (.cells #[.int .i64 n.tag, .slice y1 n.attrs.length y2, .string n.text, .slice y3 n.kids.length y4] 26) := ⟨_, rfl⟩
  have hsz : w1.heap.size = w.heap.size + 1 := by rw [hw1]; simp
  rw [← hw1] at x1 bb ⊢
  clear hw1
  have x2 := x1.alloc (.cells #[.int .i64 1] 75)
  have b2 := ((Ext.refl w1).alloc (.cells #[.int .i64 1] 75)).block bb
  have o2 := One.at w1 (w.heap.size + 1) (.int .i64 1) 75 hsz.symm
  obtain ⟨w2, hw2⟩ : ∃ w2 : World, w2 = w1.alloc (.cells #[.int .i64 1] 75) := ⟨_, rfl⟩
  rw [← hw2] at x2 b2 o2 ⊢
  clear hw2 hsz bb x1
  have n0 := cellOf b2 (i := 0) (v := .int .i64 n.tag) rfl
  have n1 := cellOf b2 (i := 1) (v := .slice y1 n.attrs.length y2) rfl
  have n2 := cellOf b2 (i := 2) (v := .string n.text) rfl
  have n3 := cellOf b2 (i := 3) (v := .slice y3 n.kids.length y4) rfl
  have X2 := qh x2
  have B2 := qh b2
  have O2 := qh o2
  clear x2 b2 o2
  have h1 : (n.tag == 1) = true ∨ (n.tag == 1) = false := by cases (n.tag == 1); exact .inr rfl; exact .inl rfl
  rcases h1 with h1 | h1
  case inr =>
    have hr0 : r = false := by rw [← HR9.out]; unfold PN.whole; have : ¬ n.tag = 1 := by simpa using h1
                               rw [decide_eq_false this]; simp
    subst hr0
    go_wp2_with fail
    go_ret
    exact ⟨rfl, X2.out⟩
  have T1 := qh (show n.tag = 1 by simpa using h1)
  by_cases h2 : n.attrs.length = 0
  case neg =>
    have e2 : ((n.attrs.length : Int) == 0) = false := by simpa using h2
    have hr0 : r = false := by rw [← HR9.out]; unfold PN.whole; rw [isEmpty_no h2]; simp
    subst hr0
    clear h2
    go_wp2_with fail
    go_ret
    exact ⟨rfl, X2.out⟩
  have e2 : ((n.attrs.length : Int) == 0) = true := by simpa using h2
  have A2 := qh (show n.attrs.isEmpty = true from by rw [List.isEmpty_iff]; exact List.eq_nil_of_length_eq_zero h2)
  clear h2
  by_cases h3 : n.text.size = 0
  case neg =>
    have e3 : (n.text.toList == ([] : List UInt8)) = false := text_some h3
    have hr0 : r = false := by rw [← HR9.out]; unfold PN.whole; simp [h3]
    subst hr0
    clear h3
    go_wp2_with fail
    go_ret
    exact ⟨rfl, X2.out⟩
  have e3 : (n.text.toList == ([] : List UInt8)) = true := text_none h3
  have A3 := qh h3
  clear h3
  have HK := qh (HL.out (w.heap.size + 1) 1 1 true false false w2 _ HR.out X2.out (Nat.le_succ _) O2.out (by decide) (by decide) (by decide))
  obtain ⟨q, hq9⟩ : ∃ q, (PN.norms 1 true false false false n.kids && decide (1 + PN.sizes n.kids ≤ 2000)) = q := ⟨_, rfl⟩
  have HW := qh (show r = (q && decide (n.inner.length ≤ 8192)) from by
    rw [← HR9.out, ← hq9]
    unfold PN.whole
    rw [decide_eq_true T1.out, A2.out, A3.out, PN.size_eq, show PN.sizes n.kids + 1 = 1 + PN.sizes n.kids by omega]
    simp)
  have HQ9 := qh hq9
  clear hq9
  go_wp2_with (go_at_call 35; refine HK.out.mono ?_)
  rintro e w3 ⟨c3, rfl, x3, o3, h3⟩
  rw [HQ9.out]
  have hx3 : Ext w w3 := x3.ext X2.out (Nat.le_succ _)
  have hb3 := x3.heap B2.out (show w.heap.size ≠ w.heap.size + 1 by omega)
  have X3 := qh hx3
  clear x3 o3 h3 n0 n1 n2 n3
  cases q with
  | false =>
    have hr0 : r = false := by rw [HW.out]; rfl
    subst hr0
    clear hx3 hb3
    go_wp2_with fail
    go_ret
    exact ⟨rfl, X3.out⟩
  | true =>
    have n0 := cellOf hb3 (i := 0) (v := .int .i64 n.tag) rfl
    have n1 := cellOf hb3 (i := 1) (v := .slice y1 n.attrs.length y2) rfl
    have n2 := cellOf hb3 (i := 2) (v := .string n.text) rfl
    have n3 := cellOf hb3 (i := 3) (v := .slice y3 n.kids.length y4) rfl
    have HI := qh (Inner_any w3 n _ (HR.out.cells hx3.cells) HC.out)
    obtain ⟨s, hs⟩ : ∃ s : ByteArray, (⟨n.inner.toArray⟩ : ByteArray) = s := ⟨_, rfl⟩
    rw [hs] at HI
    have hsl : s.size = n.inner.length := by rw [← hs]; show n.inner.toArray.size = _; simp
    have HSL := qh hsl
    clear hs hx3 hb3 hsl
    by_cases h8 : s.size ≤ 8192
    · have h8' : (s.size : Int) ≤ 8192 := by omega
      have hr0 : r = true := by rw [HW.out, ← HSL.out, decide_eq_true h8]; rfl
      subst hr0
      clear h8
      go_wp2_with (go_at_call 17; refine HI.out.mono ?_)
      rintro e w4 ⟨rfl, x4⟩
      have X4 := qh (X3.out.trans x4)
      clear x4 n0 n1 n2 n3
      go_wp2_with fail
      go_ret
      exact ⟨rfl, X4.out⟩
    · have h8' : ¬ (s.size : Int) ≤ 8192 := by omega
      have hr0 : r = false := by rw [HW.out, ← HSL.out, decide_eq_false h8]; rfl
      subst hr0
      clear h8
      go_wp2_with (go_at_call 17; refine HI.out.mono ?_)
      rintro e w4 ⟨rfl, x4⟩
      have X4 := qh (X3.out.trans x4)
      clear x4 n0 n1 n2 n3
      go_wp2_with fail
      go_ret
      exact ⟨by simp [h8'], X4.out⟩
theorem Normal_any (w : World) (n : PN) (v : Value) (hT : Tabs w) (hr : RdN w n v) (hl : n.light = true) (hc : n.cost ≤ 100000000000000) : Calls Tryz.prog 15 #[v] w (RBool n.whole w) :=
  Normal_k w n v (lkids_any hT hl) hr hc
def pxT : PN := .mk 0 [] ⟨#[120, 60, 121]⟩ []
def pxB : PN := .mk 11 [] ⟨#[]⟩ [pxT]
def pxR : PN := .mk 16 [] ⟨#[]⟩ []
def pxP : PN := .mk 2 [] ⟨#[]⟩ [pxB, pxR]
def pxN : PN := .mk 1 [] ⟨#[]⟩ [pxP]
theorem ex_inner : pxN.inner = [60, 112, 62, 60, 98, 62, 120, 38, 108, 116, 59, 121, 60, 47, 98, 62, 60, 98, 114, 62, 60, 47, 112, 62] := by decide +kernel
theorem ex_whole : pxN.whole = true := by decide +kernel
def twoT (s t : ByteArray) : PN := .mk 1 [] ⟨#[]⟩ [.mk 0 [] s [], .mk 0 [] t []]
theorem ex_two : (twoT ⟨#[97]⟩ ⟨#[98]⟩).whole = false := by decide +kernel
theorem emptyRow0 (w : World) : RowRd w 2 (.slice none 0 0) 0 (attrCells []) := ⟨rfl, none, 0, rfl, Nat.le_refl _, fun _ => ⟨rfl, rfl⟩, fun a ha => by cases ha⟩
theorem RdN.leaf (w : World) (t : Int) (s : ByteArray) : RdN w (.mk t [] s []) (.agg #[.int .i64 t, .slice none 0 0, .string s, .slice none 0 0]) :=
  RdN.mk' (n := .mk t [] s []) (emptyRow0 w) ⟨none, 0, rfl, Nat.le_refl _, Nat.zero_le _, fun _ => ⟨rfl, rfl⟩, fun a h => by cases h⟩
theorem RdN.kid1 {w : World} {b : Nat} {t : Int} {s : ByteArray} {k : PN} {c0 c1 c2 c3 : Value} {ty : TypeId} (hb : w.heap[b]? = some (.cells #[c0, c1, c2, c3] ty (0, 0))) (hk : RdN w k (.agg #[c0, c1, c2, c3])) :
    RdN w (.mk t [] s [k]) (.agg #[.int .i64 t, .slice none 0 0, .string s, .slice (some ⟨b, 0, none⟩) 1 1]) := by
  refine RdN.mk' (n := .mk t [] s [k]) (emptyRow0 w) ⟨some ⟨b, 0, none⟩, 1, rfl, Nat.le_refl _, by decide, (fun h => by cases h), fun a ha j x hx => ?_⟩
  cases ha
  have hx' : [k][j]? = some x := hx
  cases j with
  | zero =>
    simp at hx'
    subst hx'
    exact ⟨c0, c1, c2, c3, cellOf hb (i := 0) rfl, cellOf hb (i := 1) rfl, cellOf hb (i := 2) rfl, cellOf hb (i := 3) rfl, hk⟩
  | succ j => simp at hx'
theorem RdN.kid2 {w : World} {b : Nat} {t : Int} {s : ByteArray} {k l : PN} {c0 c1 c2 c3 d0 d1 d2 d3 : Value} {ty : TypeId} (hb : w.heap[b]? = some (.cells #[c0, c1, c2, c3, d0, d1, d2, d3] ty (0, 0))) (hk : RdN w k (.agg #[c0, c1, c2, c3])) (hl : RdN w l (.agg #[d0, d1, d2, d3])) :
    RdN w (.mk t [] s [k, l]) (.agg #[.int .i64 t, .slice none 0 0, .string s, .slice (some ⟨b, 0, none⟩) 2 2]) := by
  refine RdN.mk' (n := .mk t [] s [k, l]) (emptyRow0 w) ⟨some ⟨b, 0, none⟩, 2, rfl, Nat.le_refl _, by decide, (fun h => by cases h), fun a ha j x hx => ?_⟩
  cases ha
  have hx' : [k, l][j]? = some x := hx
  match j, hx' with
  | 0, hx' =>
    simp at hx'
    subst hx'
    exact ⟨c0, c1, c2, c3, cellOf hb (i := 0) rfl, cellOf hb (i := 1) rfl, cellOf hb (i := 2) rfl, cellOf hb (i := 3) rfl, hk⟩
  | 1, hx' =>
    simp at hx'
    subst hx'
    exact ⟨d0, d1, d2, d3, cellOf hb (i := 4) rfl, cellOf hb (i := 5) rfl, cellOf hb (i := 6) rfl, cellOf hb (i := 7) rfl, hl⟩
  | j + 2, hx' => simp at hx'
def Ex16 (w : World) (e : Ending) (w' : World) : Prop := ∃ v, e = .returned v ∧ RdN w' pxN v ∧ Ext w w'
theorem example_any (w : World) : Calls Tryz.prog 36 #[] w (Ex16 w) := by
  have x0 := ((Ext.refl w).alloc (.cells #[.int .i64 0, .slice none 0 0, .string ⟨#[]⟩, .slice none 0 0] 26))
  have bb := heap_alloc_new w (.cells #[.int .i64 0, .slice none 0 0, .string ⟨#[]⟩, .slice none 0 0] 26)
  go_enter Tryz.func36, Tryz.ntmps36
  go_upto_region 1 with fail
  obtain ⟨w1, hw⟩ : ∃ w1 : World, w1 = w.alloc (.cells #[.int .i64 0, .slice none 0 0, .string ⟨#[]⟩, .slice none 0 0] 26) := ⟨_, rfl⟩
  rw [← hw] at x0 bb ⊢
  clear hw
  have hb0 : w.heap.size < w1.heap.size := (Array.getElem?_eq_some_iff.1 bb).1
  obtain ⟨s1, hs1⟩ : ∃ s, w1.heap.size = s := ⟨_, rfl⟩
  rw [hs1] at hb0
  have xw : Ext w1 (((w1.alloc (.cells #[.int .i64 0, .slice none 0 0, .string ⟨#[120, 60, 121]⟩, .slice none 0 0] 26)).alloc (.cells #[.int .i64 11, .slice none 0 0, .string ⟨#[]⟩, .slice (some ⟨s1, 0, none⟩) 1 1, .int .i64 16, .slice none 0 0, .string ⟨#[]⟩, .slice none 0 0] 26)).alloc (.cells #[.int .i64 2, .slice none 0 0, .string ⟨#[]⟩, .slice (some ⟨s1 + 1, 0, none⟩) 2 2] 26)) := (((Ext.refl w1).alloc (.cells #[.int .i64 0, .slice none 0 0, .string ⟨#[120, 60, 121]⟩, .slice none 0 0] 26)).alloc (.cells #[.int .i64 11, .slice none 0 0, .string ⟨#[]⟩, .slice (some ⟨s1, 0, none⟩) 1 1, .int .i64 16, .slice none 0 0, .string ⟨#[]⟩, .slice none 0 0] 26)).alloc (.cells #[.int .i64 2, .slice none 0 0, .string ⟨#[]⟩, .slice (some ⟨s1 + 1, 0, none⟩) 2 2] 26)
  have g1 : (((w1.alloc (.cells #[.int .i64 0, .slice none 0 0, .string ⟨#[120, 60, 121]⟩, .slice none 0 0] 26)).alloc (.cells #[.int .i64 11, .slice none 0 0, .string ⟨#[]⟩, .slice (some ⟨s1, 0, none⟩) 1 1, .int .i64 16, .slice none 0 0, .string ⟨#[]⟩, .slice none 0 0] 26)).alloc (.cells #[.int .i64 2, .slice none 0 0, .string ⟨#[]⟩, .slice (some ⟨s1 + 1, 0, none⟩) 2 2] 26)).heap[s1]? = some (.cells #[.int .i64 0, .slice none 0 0, .string ⟨#[120, 60, 121]⟩, .slice none 0 0] 26) := by
    have := ((((Ext.refl (w1.alloc (.cells #[.int .i64 0, .slice none 0 0, .string ⟨#[120, 60, 121]⟩, .slice none 0 0] 26))).alloc (.cells #[.int .i64 11, .slice none 0 0, .string ⟨#[]⟩, .slice (some ⟨s1, 0, none⟩) 1 1, .int .i64 16, .slice none 0 0, .string ⟨#[]⟩, .slice none 0 0] 26)).alloc (.cells #[.int .i64 2, .slice none 0 0, .string ⟨#[]⟩, .slice (some ⟨s1 + 1, 0, none⟩) 2 2] 26))).block (heap_alloc_new w1 (.cells #[.int .i64 0, .slice none 0 0, .string ⟨#[120, 60, 121]⟩, .slice none 0 0] 26))
    rw [hs1] at this; exact this
  have g2 : (((w1.alloc (.cells #[.int .i64 0, .slice none 0 0, .string ⟨#[120, 60, 121]⟩, .slice none 0 0] 26)).alloc (.cells #[.int .i64 11, .slice none 0 0, .string ⟨#[]⟩, .slice (some ⟨s1, 0, none⟩) 1 1, .int .i64 16, .slice none 0 0, .string ⟨#[]⟩, .slice none 0 0] 26)).alloc (.cells #[.int .i64 2, .slice none 0 0, .string ⟨#[]⟩, .slice (some ⟨s1 + 1, 0, none⟩) 2 2] 26)).heap[s1 + 1]? = some (.cells #[.int .i64 11, .slice none 0 0, .string ⟨#[]⟩, .slice (some ⟨s1, 0, none⟩) 1 1, .int .i64 16, .slice none 0 0, .string ⟨#[]⟩, .slice none 0 0] 26) := by
    have := (((Ext.refl ((w1.alloc (.cells #[.int .i64 0, .slice none 0 0, .string ⟨#[120, 60, 121]⟩, .slice none 0 0] 26)).alloc (.cells #[.int .i64 11, .slice none 0 0, .string ⟨#[]⟩, .slice (some ⟨s1, 0, none⟩) 1 1, .int .i64 16, .slice none 0 0, .string ⟨#[]⟩, .slice none 0 0] 26))).alloc (.cells #[.int .i64 2, .slice none 0 0, .string ⟨#[]⟩, .slice (some ⟨s1 + 1, 0, none⟩) 2 2] 26))).block (heap_alloc_new (w1.alloc (.cells #[.int .i64 0, .slice none 0 0, .string ⟨#[120, 60, 121]⟩, .slice none 0 0] 26)) (.cells #[.int .i64 11, .slice none 0 0, .string ⟨#[]⟩, .slice (some ⟨s1, 0, none⟩) 1 1, .int .i64 16, .slice none 0 0, .string ⟨#[]⟩, .slice none 0 0] 26))
    have e : (w1.alloc (.cells #[.int .i64 0, .slice none 0 0, .string ⟨#[120, 60, 121]⟩, .slice none 0 0] 26)).heap.size = s1 + 1 := by simp [hs1]
    rw [e] at this; exact this
  have g3 : (((w1.alloc (.cells #[.int .i64 0, .slice none 0 0, .string ⟨#[120, 60, 121]⟩, .slice none 0 0] 26)).alloc (.cells #[.int .i64 11, .slice none 0 0, .string ⟨#[]⟩, .slice (some ⟨s1, 0, none⟩) 1 1, .int .i64 16, .slice none 0 0, .string ⟨#[]⟩, .slice none 0 0] 26)).alloc (.cells #[.int .i64 2, .slice none 0 0, .string ⟨#[]⟩, .slice (some ⟨s1 + 1, 0, none⟩) 2 2] 26)).heap[s1 + 1 + 1]? = some (.cells #[.int .i64 2, .slice none 0 0, .string ⟨#[]⟩, .slice (some ⟨s1 + 1, 0, none⟩) 2 2] 26) := by
    have := heap_alloc_new ((w1.alloc (.cells #[.int .i64 0, .slice none 0 0, .string ⟨#[120, 60, 121]⟩, .slice none 0 0] 26)).alloc (.cells #[.int .i64 11, .slice none 0 0, .string ⟨#[]⟩, .slice (some ⟨s1, 0, none⟩) 1 1, .int .i64 16, .slice none 0 0, .string ⟨#[]⟩, .slice none 0 0] 26)) (.cells #[.int .i64 2, .slice none 0 0, .string ⟨#[]⟩, .slice (some ⟨s1 + 1, 0, none⟩) 2 2] 26)
    have e : ((w1.alloc (.cells #[.int .i64 0, .slice none 0 0, .string ⟨#[120, 60, 121]⟩, .slice none 0 0] 26)).alloc (.cells #[.int .i64 11, .slice none 0 0, .string ⟨#[]⟩, .slice (some ⟨s1, 0, none⟩) 1 1, .int .i64 16, .slice none 0 0, .string ⟨#[]⟩, .slice none 0 0] 26)).heap.size = s1 + 1 + 1 := by simp [hs1]
    rw [e] at this; exact this
  have bw := xw.block bb
  have c0 := cellOf bw (i := 0) (v := .int .i64 0) rfl
  have c1 := cellOf bw (i := 1) (v := .slice none 0 0) rfl
  have c2 := cellOf bw (i := 2) (v := .string ⟨#[]⟩) rfl
  have c3 := cellOf bw (i := 3) (v := .slice none 0 0) rfl
  have f0 := freeOf bw 0
  have f1 := freeOf bw 1
  have f2 := freeOf bw 2
  have f3 := freeOf bw 3
  have XW := qh (x0.trans xw)
  have BW := qh bw
  have G := qh (And.intro g1 (And.intro g2 g3))
  have HB0 := qh hb0
  clear g1 g2 g3 bw xw x0 bb hb0
  go_wp2_with fail
  obtain ⟨wf, hwf⟩ : ∃ wf : World, wf = (((w1.alloc (.cells #[.int .i64 0, .slice none 0 0, .string ⟨#[120, 60, 121]⟩, .slice none 0 0] 26)).alloc (.cells #[.int .i64 11, .slice none 0 0, .string ⟨#[]⟩, .slice (some ⟨s1, 0, none⟩) 1 1, .int .i64 16, .slice none 0 0, .string ⟨#[]⟩, .slice none 0 0] 26)).alloc (.cells #[.int .i64 2, .slice none 0 0, .string ⟨#[]⟩, .slice (some ⟨s1 + 1, 0, none⟩) 2 2] 26)) := ⟨_, rfl⟩
  rw [← hwf] at XW BW G ⊢
  clear c0 c1 c2 c3 f0 f1 f2 f3
  have hrow := heap_setCell_same (heap_setCell_same (heap_setCell_same (heap_setCell_same BW.out (i := 0) (.int .i64 1)) (i := 1) (.slice none 0 0)) (i := 2) (.string ⟨#[]⟩)) (i := 3) (.slice (some ⟨s1 + 1 + 1, 0, none⟩) 1 1)
  have hlv := run_loadVar_row (P := Tryz.prog) _ w.heap.size 26 26 #[.int .i64 1, .slice none 0 0, .string ⟨#[]⟩, .slice (some ⟨s1 + 1 + 1, 0, none⟩) 1 1] (0, 0) _ hrow Tryz.underlying26 rfl (by kernel_rfl)
  refine bodyPost_ret (v := .agg #[.int .i64 1, .slice none 0 0, .string ⟨#[]⟩, .slice (some ⟨s1 + 1 + 1, 0, none⟩) 1 1]) (by simp [results, Tryz.results36, asAddr, hlv]) rfl ?_
  have oth : ∀ (g : Nat) (v0 v1 v2 v3 : Value), s1 ≤ g → ((((wf.setCell ⟨w.heap.size, 0, none⟩ v0).setCell ⟨w.heap.size, 1, none⟩ v1).setCell ⟨w.heap.size, 2, none⟩ v2).setCell ⟨w.heap.size, 3, none⟩ v3).heap[g]? = wf.heap[g]? := by
    intro g v0 v1 v2 v3 hg
    have hne : g ≠ w.heap.size := by have := HB0.out; omega
    rw [heap_setCell_other (p := ⟨w.heap.size, 3, none⟩) _ hne, heap_setCell_other (p := ⟨w.heap.size, 2, none⟩) _ hne, heap_setCell_other (p := ⟨w.heap.size, 1, none⟩) _ hne, heap_setCell_other (p := ⟨w.heap.size, 0, none⟩) _ hne]
  refine ⟨_, rfl, ?_, (((XW.out.setCell (p := ⟨w.heap.size, 0, none⟩) (Nat.le_refl _) _).setCell (p := ⟨w.heap.size, 1, none⟩) (Nat.le_refl _) _).setCell (p := ⟨w.heap.size, 2, none⟩) (Nat.le_refl _) _).setCell (p := ⟨w.heap.size, 3, none⟩) (Nat.le_refl _) _⟩
  exact RdN.kid1 ((oth _ _ _ _ _ (by omega)).trans G.out.2.2) (RdN.kid2 ((oth _ _ _ _ _ (by omega)).trans G.out.2.1) (RdN.kid1 ((oth _ _ _ _ _ (by omega)).trans G.out.1) (RdN.leaf _ 0 _)) (RdN.leaf _ 16 _))
theorem pxN_light : pxN.light = true := by decide +kernel
theorem pxN_cost : pxN.cost ≤ 100000000000000 := by decide +kernel
theorem two_light : (twoT ⟨#[97]⟩ ⟨#[98]⟩).light = true := by decide +kernel
theorem two_cost : (twoT ⟨#[97]⟩ ⟨#[98]⟩).cost ≤ 100000000000000 := by decide +kernel
theorem awake_any (w : World) (hT : Tabs w) : Calls Tryz.prog 16 #[] w (RBool true w) := by
  have HT := qh hT
  clear hT
  go_enter Tryz.func16, Tryz.ntmps16
  go_wp2_with fail
  refine (example_any _).mono ?_
  rintro e w1 ⟨v, rfl, hr, x1⟩
  obtain ⟨y1, y2, y3, y4, rfl⟩ := hr.shape
  have x2 := x1.alloc (.cells #[.int .i64 pxN.tag, .slice y1 pxN.attrs.length y2, .string pxN.text, .slice y3 pxN.kids.length y4] 26)
  have bb := heap_alloc_new w1 (.cells #[.int .i64 pxN.tag, .slice y1 pxN.attrs.length y2, .string pxN.text, .slice y3 pxN.kids.length y4] 26)
  have hr2 := hr.cells ((Ext.refl w1).alloc (.cells #[.int .i64 pxN.tag, .slice y1 pxN.attrs.length y2, .string pxN.text, .slice y3 pxN.kids.length y4] 26)).cells
  generalize pxN.tag = z0 at *
  generalize pxN.attrs.length = z1 at *
  generalize pxN.text = z2 at *
  generalize pxN.kids.length = z3 at *
  have HR := qh hr2
  have X2 := qh x2
  have BB := qh bb
  clear hr hr2 x1 x2 bb
  go_upto_region 2 with fail
  obtain ⟨w2, hw2⟩ : ∃ w2 : World, w2 = w1.alloc (.cells #[.int .i64 z0, .slice y1 z1 y2, .string z2, .slice y3 z3 y4] 26) := ⟨_, rfl⟩
  rw [← hw2] at HR X2 BB ⊢
  clear hw2
  have n0 := cellOf BB.out (i := 0) (v := .int .i64 z0) rfl
  have n1 := cellOf BB.out (i := 1) (v := .slice y1 z1 y2) rfl
  have n2 := cellOf BB.out (i := 2) (v := .string z2) rfl
  have n3 := cellOf BB.out (i := 3) (v := .slice y3 z3 y4) rfl
  have hI := Inner_any w2 pxN _ HR.out pxN_cost
  rw [ex_inner] at hI
  have HI := qh hI
  clear hI
  go_wp2_with fail
  refine HI.out.mono ?_
  rintro e w3 ⟨rfl, x3⟩
  have n0 := x3.cell n0
  have n1 := x3.cell n1
  have n2 := x3.cell n2
  have n3 := x3.cell n3
  have X3 := qh (X2.out.trans x3)
  have hN := Normal_any w3 pxN _ (HT.out.ext X3.out) (HR.out.cells x3.cells) pxN_light pxN_cost
  rw [ex_whole] at hN
  have HN := qh hN
  clear x3 hN
  go_wp2_with (go_at_call 15; refine HN.out.mono ?_)
  rintro e w4 ⟨rfl, x4⟩
  have X4 := qh (X3.out.trans x4)
  clear x4 n0 n1 n2 n3
  have xk := (Ext.refl w4).alloc (.cells #[.int .i64 0, .slice none 0 0, .string ⟨#[97]⟩, .slice none 0 0, .int .i64 0, .slice none 0 0, .string ⟨#[98]⟩, .slice none 0 0] 26)
  have hk := heap_alloc_new w4 (.cells #[.int .i64 0, .slice none 0 0, .string ⟨#[97]⟩, .slice none 0 0, .int .i64 0, .slice none 0 0, .string ⟨#[98]⟩, .slice none 0 0] 26)
  have hrk : RdN (w4.alloc (.cells #[.int .i64 0, .slice none 0 0, .string ⟨#[97]⟩, .slice none 0 0, .int .i64 0, .slice none 0 0, .string ⟨#[98]⟩, .slice none 0 0] 26)) (twoT ⟨#[97]⟩ ⟨#[98]⟩) (.agg #[.int .i64 1, .slice none 0 0, .string ⟨#[]⟩, .slice (some ⟨w4.heap.size, 0, none⟩) 2 2]) :=
    RdN.kid2 hk (RdN.leaf _ 0 _) (RdN.leaf _ 0 _)
  have hN2 := Normal_any _ _ _ (HT.out.ext (X4.out.trans xk)) hrk two_light two_cost
  rw [ex_two] at hN2
  have HN2 := qh hN2
  have XK := qh (X4.out.trans xk)
  clear xk hk hrk hN2
  go_wp2_with (go_at_call 15; refine HN2.out.mono ?_)
  rintro e w5 ⟨rfl, x5⟩
  have X5 := qh (XK.out.trans x5)
  clear x5
  go_wp2_with fail
  go_ret
  exact ⟨rfl, X5.out⟩
end Go.Proofs.YtalaajbajgdglaaGreatDoor
namespace Go.Proofs.YtalaajbajgdglaaGreatDoor
open Go Go.RowKit Go.BigFrame We
theorem whole_back {n : PN} (h : n.whole = true) : hostZ (tokens n.inner) = n ∧ anewB (bs n.inner) = bs n.inner ∧ n.inner.length ≤ 8192 := by
  obtain ⟨t, a, s, ks⟩ := n
  unfold PN.whole at h
  simp only [Bool.and_eq_true, decide_eq_true_eq, PN.tag, PN.attrs, PN.text, PN.kids, List.isEmpty_iff, beq_iff_eq] at h
  obtain ⟨⟨⟨⟨⟨e1, rfl⟩, hs⟩, hk⟩, hz⟩, hl⟩ := h
  obtain rfl : t = 1 := of_decide_eq_true e1
  obtain rfl := empty_of hs
  have e : (PN.mk 1 [] ⟨#[]⟩ ks).inner = PN.outers ks := rfl
  have hz' : PN.sizes ks + 1 ≤ 2000 := by
    have := (PN.mk 1 [] ⟨#[]⟩ ks).size_eq
    simp only [PN.kids] at this
    omega
  exact ⟨by rw [e]; exact host_of hk hz', by rw [e]; exact (norms_anew _ _ _ _ _ _ _ (Nat.le_refl _) hk).anew, hl⟩
theorem host_back {n : PN} (h : n.whole = true) (w : World) (hl : LW w) : Calls Tryz.prog 10 #[.string (bs n.inner)] w (fun e w' => ∃ v, e = .returned (.tuple #[v, .int .i64 0]) ∧ Ext w w' ∧ RdN w' n v) := by
  obtain ⟨h1, h2, h3⟩ := whole_back h
  have h0 := Host_any (bs n.inner) (by rw [bs_size]; omega) w hl
  rw [h2] at h0
  exact h0.mono fun e w' h => Host_short h (by rw [bs_size]; exact h3) (by rw [bs_data]; exact h1)
end Go.Proofs.YtalaajbajgdglaaGreatDoor
namespace Go.Proofs.YtalaajbajgdglaaGreatDoor
open Go
theorem IsR.drop1 {c : UInt8} {q : List UInt8} (h : IsR (c :: q)) (hc : c.toNat < 128) : IsR q := by
  obtain ⟨rs, hr, e⟩ := h
  cases rs with
  | nil => cases e
  | cons r rs =>
    obtain ⟨n, rfl, hn⟩ := valid_cases (hr r (by simp))
    rw [List.flatMap_cons, encode_nat hn] at e
    have hh : ∀ x ∈ encL n, x = UInt8.ofNat n ∧ n < 128 ∨ 128 ≤ x.toNat := fun x hx => encL_mem (by omega) hx
    have e : c :: q = encL n ++ rs.flatMap fun r => (Utf8.encode r).data.toList := e
    by_cases h1 : n < 128
    · have e2 : encL n = [UInt8.ofNat n] := by unfold encL; rw [if_pos h1]
      rw [e2] at e
      simp only [List.cons_append, List.nil_append, List.cons.injEq] at e
      rw [e.2]
      exact ⟨rs, fun x hx => hr x (by simp [hx]), rfl⟩
    · exfalso
      cases hE : encL n with
      | nil =>
        have hl := (encode_len (n : Int)).1
        rw [encode_nat hn] at hl
        have : (encL n).length ≥ 1 := hl
        rw [hE] at this
        simp at this
      | cons x y =>
        rw [hE] at e
        simp only [List.cons_append, List.cons.injEq] at e
        rcases hh x (by rw [hE]; simp) with ⟨_, h2⟩ | h2
        · exact h1 h2
        · rw [← e.1] at h2; omega
theorem IsR.drop : ∀ (k : Nat) {l : List UInt8}, IsR l → (∀ c ∈ l.take k, c.toNat < 128) → IsR (l.drop k)
  | 0, l, h, _ => h
  | k + 1, [], h, _ => h
  | k + 1, c :: q, h, hk => by
    rw [List.take_succ_cons] at hk
    exact IsR.drop k (h.drop1 (hk c (by simp))) fun x hx => hk x (by simp [hx])
theorem digV_low {c : UInt8} (h : digV c < 16) : c.toNat < 128 := by
  revert c
  exact fun {c} => all_bytes (p := fun c => digV c < 16 → c.toNat < 128) (by decide +kernel) c
theorem numL_low {base : Nat} (hb : base ≤ 16) : ∀ (l : List UInt8) (n v : Nat), numL base n l = some v → ∀ c ∈ l, c.toNat < 128 := by
  intro l
  induction l with
  | nil => intro n v _ c hc; cases hc
  | cons x r ih =>
    intro n v h c hc
    unfold numL at h
    split at h
    · cases h
    · rename_i hx
      rcases List.mem_cons.1 hc with rfl | hc
      · exact digV_low (by omega)
      · exact ih _ _ h c hc
theorem codeN_low {base most : Nat} (hb : base ≤ 16) {l : List UInt8} {n : Nat} (h : codeN base most l = some n) : l ≠ [] ∧ (∀ c ∈ l, c.toNat < 128) ∧ Utf8.valid (n : Int) = true := by
  unfold codeN at h
  split at h
  · cases h
  · rename_i hl
    obtain ⟨h1, h2⟩ := Option.filter_eq_some_iff.1 h
    refine ⟨fun e => hl (.inl e), numL_low hb l 0 n h1, ?_⟩
    unfold runeN at h2
    rw [decide_eq_true_eq] at h2
    unfold Utf8.valid
    simp
    omega
theorem coded_low {l x : List UInt8} (h : codedL l = some x) : l ≠ [] ∧ (∀ c ∈ l, c.toNat < 128) ∧ IsR x ∧ x.length ≤ 4 := by
  unfold codedL at h
  cases hc : codeL l with
  | none => rw [hc] at h; cases h
  | some n =>
    rw [hc, Option.map_some] at h
    have h := Option.some.inj h
    subst h
    have key : l ≠ [] ∧ (∀ c ∈ l, c.toNat < 128) ∧ Utf8.valid (n : Int) = true := by
      unfold codeL at hc
      split at hc
      · rename_i hh
        obtain ⟨h1, h2, h3⟩ := codeN_low (by decide) hc
        cases l with
        | nil => cases hh
        | cons a q =>
          obtain rfl : a = 120 := by simpa using hh
          exact ⟨by simp, fun c hc => (List.mem_cons.1 hc).elim (fun e => by rw [e]; decide) (h2 c), h3⟩
      · exact codeN_low (by decide) hc
    exact ⟨key.1, key.2.1, IsR.one key.2.2, (encode_len _).2⟩
theorem named_low {m x : List UInt8} (h : namedL m = some x) : (∀ c ∈ m, c.toNat < 128) ∧ IsR x ∧ x.length ≤ m.length := by
  have nb : IsR [194, 160] := by
    have := IsR.one (r := 160) (by decide)
    rw [show (160 : Int) = ((160 : Nat) : Int) from rfl, encode_nat (by decide)] at this
    exact this
  unfold namedL at h
  by_cases h1 : m = [97, 109, 112]
  · rw [if_pos h1] at h; cases h; rw [h1]; exact ⟨by decide, IsR.ascii (by decide), by decide⟩
  rw [if_neg h1] at h
  by_cases h1 : m = [108, 116]
  · rw [if_pos h1] at h; cases h; rw [h1]; exact ⟨by decide, IsR.ascii (by decide), by decide⟩
  rw [if_neg h1] at h
  by_cases h1 : m = [103, 116]
  · rw [if_pos h1] at h; cases h; rw [h1]; exact ⟨by decide, IsR.ascii (by decide), by decide⟩
  rw [if_neg h1] at h
  by_cases h1 : m = [113, 117, 111, 116]
  · rw [if_pos h1] at h; cases h; rw [h1]; exact ⟨by decide, IsR.ascii (by decide), by decide⟩
  rw [if_neg h1] at h
  by_cases h1 : m = [97, 112, 111, 115]
  · rw [if_pos h1] at h; cases h; rw [h1]; exact ⟨by decide, IsR.ascii (by decide), by decide⟩
  rw [if_neg h1] at h
  by_cases h1 : m = [110, 98, 115, 112]
  · rw [if_pos h1] at h; cases h; rw [h1]; exact ⟨by decide, nb, by decide⟩
  rw [if_neg h1] at h
  cases h
theorem entity_good {q : List UInt8} : IsR (entityL (38 :: q)).1 ∧ (entityL (38 :: q)).1.length ≤ (entityL (38 :: q)).2 ∧ (∀ c ∈ (38 :: q).take (entityL (38 :: q)).2, c.toNat < 128) ∧ (entityL (38 :: q)).2 ≤ q.length + 1 := by
  have base : IsR ([38] : List UInt8) ∧ ([38] : List UInt8).length ≤ 1 ∧ (∀ c ∈ ((38 : UInt8) :: q).take 1, c.toNat < 128) ∧ 1 ≤ q.length + 1 :=
    ⟨IsR.byte (by decide), Nat.le_refl _, fun c hc => by simp at hc; rw [hc]; decide, Nat.le_add_left _ _⟩
  unfold entityL
  dsimp only
  by_cases he : Lib.indexByte ((38 :: q).take 12) 59 < 0
  · rw [if_pos he]; exact base
  · rw [if_neg he]
    obtain ⟨k, hk, h1, _⟩ := indexByte_some he
    rw [hk, Int.toNat_natCast]
    cases hm : meansL (38 :: q) k with
    | none => exact base
    | some x =>
      dsimp only
      have h59 : (38 :: q)[k]? = some 59 := by
        rw [List.getElem?_take] at h1
        split at h1
        · exact h1
        · cases h1
      have hkl : k < (38 :: q).length := (List.getElem?_eq_some_iff.1 h59).1
      have hk0 : k ≠ 0 := by rintro rfl; simp at h59
      obtain ⟨j, rfl⟩ : ∃ j, k = j + 1 := ⟨k - 1, by omega⟩
      have htk : (38 :: q).take (j + 1 + 1) = 38 :: (q.take j ++ [59]) := by
        rw [List.take_succ_cons]
        have : q[j]? = some 59 := by simpa using h59
        rw [List.take_add_one, this]
        rfl
      have hjl : j < q.length := by simpa using hkl
      unfold meansL at hm
      have hd1 : ((38 :: q).drop 1).take (j + 1 - 1) = q.take j := rfl
      rw [hd1] at hm
      have key : (∀ c ∈ q.take j, c.toNat < 128) ∧ IsR x ∧ x.length ≤ j + 2 := by
        cases hn : namedL (q.take j) with
        | some y =>
          rw [hn] at hm
          cases hm
          obtain ⟨a1, a2, a3⟩ := named_low hn
          rw [List.length_take] at a3
          exact ⟨a1, a2, by omega⟩
        | none =>
          rw [hn] at hm
          dsimp only at hm
          split at hm
          · rename_i h2
            obtain ⟨a1, a2, a3, a4⟩ := coded_low hm
            cases q with
            | nil => simp at hjl
            | cons b q =>
              obtain rfl : b = 35 := by simpa using h2
              have e3 : ((38 :: 35 :: q).drop 2).take (j + 1 - 2) = q.take (j - 1) := rfl
              rw [e3] at a1 a2
              have hj : 2 ≤ j := by
                rcases Nat.lt_or_ge j 2 with h | h
                · exfalso; apply a1; rw [show j - 1 = 0 by omega]; rfl
                · exact h
              refine ⟨fun c hc => ?_, a3, by omega⟩
              rw [show j = (j - 1) + 1 by omega, List.take_succ_cons] at hc
              exact (List.mem_cons.1 hc).elim (fun e => by rw [e]; decide) (a2 c)
          · cases hm
      refine ⟨key.2.1, key.2.2, fun c hc => ?_, by omega⟩
      rw [htk] at hc
      rcases List.mem_cons.1 hc with rfl | hc
      · decide
      · rcases List.mem_append.1 hc with hc | hc
        · exact key.1 c hc
        · simp at hc; rw [hc]; decide
theorem decL_good : ∀ (n : Nat) (l : List UInt8), l.length ≤ n → (decL l).length ≤ l.length ∧ (IsR l → IsR (decL l)) := by
  intro n
  induction n with
  | zero =>
    intro l h
    obtain rfl : l = [] := List.eq_nil_of_length_eq_zero (by omega)
    exact ⟨Nat.le_refl _, id⟩
  | succ n ih =>
    intro l h
    cases l with
    | nil => exact ⟨Nat.le_refl _, id⟩
    | cons c q =>
      simp only [List.length_cons] at h
      by_cases hc : c = 38
      · subst hc
        obtain ⟨g1, g2, g3, g4⟩ := @entity_good q
        have hp := entityL_pos (38 :: q)
        obtain ⟨i1, i2⟩ := ih ((38 :: q).drop (entityL (38 :: q)).2) (by rw [List.length_drop, List.length_cons]; omega)
        rw [decL_amp]
        refine ⟨?_, fun hr => g1.app (i2 (hr.drop _ g3))⟩
        rw [List.length_append]
        rw [List.length_drop, List.length_cons] at i1
        rw [List.length_cons]
        omega
      · rw [decL_cons hc]
        obtain ⟨i1, _⟩ := ih q (by omega)
        refine ⟨by rw [List.length_cons, List.length_cons]; omega, fun hr => ?_⟩
        obtain ⟨rs, hv, e⟩ := hr
        cases rs with
        | nil => cases e
        | cons r rs =>
          obtain ⟨k, rfl, hk⟩ := valid_cases (hv r (by simp))
          have hX : IsR (rs.flatMap fun r => (Utf8.encode r).data.toList) := ⟨rs, fun x hx => hv x (by simp [hx]), rfl⟩
          rw [← decL_cons hc, e, List.flatMap_cons]
          have hne : ∀ x ∈ (Utf8.encode (k : Int)).data.toList, x ≠ 38 := by
            rw [encode_nat hk]
            intro x hx e2
            rcases encL_mem (n := k) (by omega) hx with ⟨h1, h2⟩ | h1
            · rw [List.flatMap_cons, encode_nat hk, if_pos h2] at e
              simp only [List.cons_append, List.cons.injEq] at e
              exact hc (by rw [e.1, ← h1, e2])
            · rw [e2] at h1; exact absurd h1 (by decide)
          rw [decL_front hne]
          have hlen := (encode_len (k : Int)).1
          have hle : (rs.flatMap fun r => (Utf8.encode r).data.toList).length ≤ n := by
            have := congrArg List.length e
            rw [List.flatMap_cons, List.length_append, List.length_cons] at this
            omega
          exact (IsR.one (hv _ (by simp))).app ((ih _ hle).2 hX)
theorem decT_good (l : List UInt8) : IsR (decT l) ∧ (decT l).length ≤ 4 * l.length := by
  unfold decT
  obtain ⟨h1, h2⟩ := decL_good _ (anewB (bs l)).data.toList (Nat.le_refl _)
  refine ⟨h2 (IsR.of _), ?_⟩
  have h3 := anewB_size (bs l)
  rw [bs_size l] at h3
  have h4 : (anewB (bs l)).data.toList.length = (anewB (bs l)).size := rfl
  rw [h4] at h1
  omega
theorem owned_keep : ∀ (l : List Part) (seen : List (List UInt8)), (∀ a ∈ ownedF seen l, nameOk a.1 = true ∧ valueOk a.2 = true ∧ a.1.data.toList ∉ seen) ∧ (ownedF seen l).Pairwise (fun a b => a.1 ≠ b.1) := by
  intro l
  induction l with
  | nil => intro seen; exact ⟨fun a ha => (nomatch ha), List.Pairwise.nil⟩
  | cons p l ih =>
    intro seen
    obtain ⟨n, v⟩ := p
    obtain ⟨h1, h2⟩ := ih (seen ++ [n.map smallC])
    unfold ownedF
    have h1' : ∀ a ∈ ownedF (seen ++ [n.map smallC]) l, nameOk a.1 = true ∧ valueOk a.2 = true ∧ a.1.data.toList ∉ seen := fun a ha => ⟨(h1 a ha).1, (h1 a ha).2.1, fun hm => (h1 a ha).2.2 (List.mem_append_left _ hm)⟩
    split
    · rename_i hk
      simp only [Bool.and_eq_true, Bool.not_eq_true', Bool.eq_false_iff] at hk
      refine ⟨fun a ha => ?_, ?_⟩
      · rcases List.mem_cons.1 ha with rfl | ha
        · exact ⟨hk.1.1, hk.1.2, fun hm => hk.2 (by rw [List.contains_iff_mem]; rw [bs_data] at hm; exact hm)⟩
        · exact h1' a ha
      · refine List.Pairwise.cons (fun a ha e => ?_) h2
        refine (h1 a ha).2.2 (List.mem_append_right _ ?_)
        rw [← e]
        simp
    · exact ⟨h1', h2⟩
theorem attrAt_of : ∀ (l : List AttrB), l.Pairwise (fun a b => a.1 ≠ b.1) → ∀ (i : Nat) (a : AttrB), l[i]? = some a → attrAt l a.1 = (i : Int) := by
  intro l hp i a hi
  unfold attrAt
  have : l.findIdx? (fun x => decide (x.1 = a.1)) = some i := by
    obtain ⟨hl, e⟩ := List.getElem?_eq_some_iff.1 hi
    rw [List.findIdx?_eq_some_iff_getElem]
    refine ⟨hl, by simp [e], fun j hj => ?_⟩
    have := List.pairwise_iff_getElem.1 hp j i (by omega) hl hj
    rw [e] at this
    simpa using this
  rw [this]
theorem owned_may (l : List Part) : attrsMay (ownedL l) = true ∧ (ownedL l).length ≤ l.length := by
  obtain ⟨h1, h2⟩ := owned_keep l []
  refine ⟨?_, ownedF_len l []⟩
  unfold attrsMay
  rw [List.all_eq_true]
  rintro ⟨a, i⟩ hm
  have hi : (ownedL l)[i]? = some a := by simpa using (List.mk_mem_zipIdx_iff_getElem? (l := ownedL l) (x := a) (i := i)).1 hm
  obtain ⟨g1, g2, _⟩ := h1 a (List.mem_of_getElem? hi)
  dsimp only
  rw [g1, g2, show attrAt (ownedL l) a.1 = (i : Int) from attrAt_of _ h2 i a hi]
  simp
structure TkGood (M : Nat) (t : Tk) : Prop where
  text : t.kind = 1 → IsR t.text ∧ t.text ≠ []
  none : t.kind ≠ 1 → t.text = []
  attrs : attrsMay t.attrs = true
  len : t.attrs.length ≤ M
theorem tagL_good {N : Nat} {r e : List UInt8} {t : Tk} (h : tagL N r = some (t, e)) : t.kind ≠ 1 ∧ t.text = [] ∧ attrsMay t.attrs = true ∧ t.attrs.length ≤ r.length := by
  unfold tagL at h
  split at h
  · split at h
    · unfold closeL at h
      split at h
      · cases h
      · cases h; exact ⟨(by decide : (3 : Int) ≠ 1), rfl, rfl, Nat.zero_le _⟩
    · unfold openL at h
      cases hx : partsL ((tagR r).dropWhile alnumB) with
      | none => rw [hx] at h; cases h
      | some x =>
        rw [hx] at h
        cases h
        obtain ⟨h1, h2⟩ := owned_may x.1
        have h3 := (partsL_ok _ _ x (Nat.le_refl _) hx).2
        have h4 := (suf_drop alnumB (tagR r)).length_le
        have h5 := (tagR_suf r).length_le
        rw [List.length_drop] at h5
        exact ⟨(by decide : (2 : Int) ≠ 1), rfl, h1, by show (ownedL x.1).length ≤ _; omega⟩
  · cases h
def sumT (l : List Tk) : Nat := (l.map fun t => t.text.length).sum
theorem lexL_good (N M : Nat) : ∀ (n : Nat) (r raw : List UInt8) (a b : Nat), r.length ≤ n → r.length ≤ M →
    (∀ t ∈ lexL N raw a b r, (t.kind = 1 → t.text ≠ [] ∧ t.attrs = []) ∧ (t.kind ≠ 1 → t.text = []) ∧ attrsMay t.attrs = true ∧ t.attrs.length ≤ M) ∧ sumT (lexL N raw a b r) ≤ raw.length + r.length := by
  have hfl : ∀ raw a b, (∀ t ∈ flushT raw a b, (t.kind = 1 → t.text ≠ [] ∧ t.attrs = []) ∧ (t.kind ≠ 1 → t.text = []) ∧ attrsMay t.attrs = true ∧ t.attrs.length ≤ M) ∧ sumT (flushT raw a b) ≤ raw.length := by
    intro raw a b
    unfold flushT
    split
    · exact ⟨fun t ht => (nomatch ht), Nat.zero_le _⟩
    · rename_i h
      refine ⟨fun t ht => ?_, by simp [sumT]⟩
      rw [List.mem_singleton.1 ht]
      exact ⟨fun _ => ⟨h, rfl⟩, fun e => absurd rfl e, rfl, Nat.zero_le _⟩
  intro n
  induction n with
  | zero =>
    intro r raw a b hn _
    obtain rfl : r = [] := List.eq_nil_of_length_eq_zero (by omega)
    rw [lexL_nil]
    exact ⟨(hfl raw a b).1, by have := (hfl raw a b).2; simpa using this⟩
  | succ n ih =>
    intro r raw a b hn hM
    cases r with
    | nil => rw [lexL_nil]; exact ⟨(hfl raw a b).1, by have := (hfl raw a b).2; simpa using this⟩
    | cons c q =>
      simp only [List.length_cons] at hn hM ⊢
      have hch : (c ≠ 60 ∨ noteL (c :: q) = none ∧ tagL N (c :: q) = none) → (∀ t ∈ lexL N raw a b (c :: q), (t.kind = 1 → t.text ≠ [] ∧ t.attrs = []) ∧ (t.kind ≠ 1 → t.text = []) ∧ attrsMay t.attrs = true ∧ t.attrs.length ≤ M) ∧ sumT (lexL N raw a b (c :: q)) ≤ raw.length + (q.length + 1) := by
        intro h
        rw [lexL_char h]
        obtain ⟨h1, h2⟩ := ih q (raw ++ [c]) (if raw = [] then N - (q.length + 1) else a) (N - q.length) (by omega) (by omega)
        rw [List.length_append] at h2
        exact ⟨h1, by simp only [List.length_cons, List.length_nil] at h2; omega⟩
      by_cases hc : c = 60
      · subst hc
        cases hno : noteL (60 :: q) with
        | some e =>
          rw [lexL_note hno]
          have h2 := (noteL_suf hno).2
          simp only [List.length_cons] at h2
          obtain ⟨g1, g2⟩ := ih e raw a b (by omega) (by omega)
          exact ⟨g1, by omega⟩
        | none =>
          cases ht : tagL N (60 :: q) with
          | none => exact hch (.inr ⟨hno, ht⟩)
          | some x =>
            obtain ⟨t, e⟩ := x
            rw [lexL_tag hno ht]
            have h2 := (tagL_len ht).2
            simp only [List.length_cons] at h2
            obtain ⟨g1, g2⟩ := ih e [] a b (by omega) (by omega)
            obtain ⟨f1, f2⟩ := hfl raw a b
            obtain ⟨k1, k2, k3, k4⟩ := tagL_good ht
            simp only [List.length_cons] at k4
            refine ⟨fun u hu => ?_, ?_⟩
            · rcases List.mem_append.1 hu with hu | hu
              · exact f1 u hu
              · rcases List.mem_cons.1 hu with rfl | hu
                · exact ⟨fun e => absurd e k1, fun _ => k2, k3, by omega⟩
                · exact g1 u hu
            · unfold sumT at f2 g2 ⊢
              rw [List.map_append, List.sum_append, List.map_cons, List.sum_cons, k2]
              simp only [List.length_nil] at g2 ⊢
              omega
      · exact hch (.inl hc)
theorem tokens_good {L : List UInt8} {M : Nat} (h : L.length ≤ M) : (∀ t ∈ tokens L, TkGood M t) ∧ sumT (tokens L) ≤ 4 * L.length := by
  obtain ⟨h1, h2⟩ := lexL_good L.length M L.length L [] 0 0 (Nat.le_refl _) h
  unfold tokens
  refine ⟨fun t ht => ?_, ?_⟩
  · obtain ⟨u, hu, rfl⟩ := List.mem_map.1 ht
    obtain ⟨g1, g2, g3, g4⟩ := h1 u hu
    unfold Tk.fin
    split
    · rename_i hk
      exact ⟨fun _ => ⟨(decT_good _).1, decT_ne (g1 hk).1⟩, fun e => absurd hk e, g3, g4⟩
    · rename_i hk
      exact ⟨fun e => absurd e hk, g2, g3, g4⟩
  · have key : ∀ l : List Tk, sumT (l.map Tk.fin) ≤ 4 * sumT l := by
      intro l
      induction l with
      | nil => exact Nat.le_refl _
      | cons t l ih =>
        unfold sumT at ih ⊢
        simp only [List.map_cons, List.sum_cons]
        have : t.fin.text.length ≤ 4 * t.text.length := by
          unfold Tk.fin
          split
          · exact (decT_good _).2
          · omega
        omega
    have := key (lexL L.length [] 0 0 L)
    simp only [List.length_nil, Nat.zero_add] at h2
    omega
def tsZ (z : ZS) : List Int := (tagsZ z).dropLast
theorem tsZ_cons (f g : ZF) (r : ZS) : tsZ (f :: g :: r) = f.tag :: tsZ (g :: r) := rfl
def GoodTs : List Int → Prop
  | [] => True
  | t :: r => (clsT t = 2 ∨ clsT t = 3 → lineIn r = false ∧ (t = 9 → liIn r = false)) ∧ GoodTs r
theorem line_drop : ∀ ts : List Int, GoodTs ts → lineIn (ts.drop (closeC isPH stPH (ts ++ [1]))) = false := by
  intro ts
  induction ts with
  | nil => intro _; rfl
  | cons t r ih =>
    intro ⟨h, hr⟩
    rw [List.cons_append, closeC_step _ _ _ (by simp)]
    by_cases h2 : 2 ≤ t ∧ t ≤ 5
    · have h3 : isPH t = true := (isPH_iff t).2 h2
      rw [h3, Bool.not_true, Bool.and_false, if_neg Bool.false_ne_true, if_pos rfl, List.drop_succ_cons]
      have hc : clsT t = 3 := by
        unfold clsT
        rw [if_neg (by omega), if_neg (by omega), if_neg (by omega), if_pos (by omega)]
      exact (h (.inr hc)).1
    · have h3 : isPH t = false := Bool.eq_false_iff.2 fun e => h2 ((isPH_iff t).1 e)
      rw [h3, Bool.not_false, Bool.and_true]
      by_cases h4 : clsT t = 2 ∨ t = 9
      · rw [(stPH_iff t).2 h4, if_pos rfl, List.drop_zero]
        unfold lineIn
        rw [if_neg h2, if_pos h4]
      · have h5 : stPH t = false := Bool.eq_false_iff.2 fun e => h4 ((stPH_iff t).1 e)
        rw [h5, if_neg Bool.false_ne_true, if_neg Bool.false_ne_true]
        have i := ih hr
        generalize closeC isPH stPH (r ++ [1]) = n at i ⊢
        cases n with
        | zero =>
          show lineIn ((t :: r).drop 0) = false
          rw [List.drop_zero] at i ⊢
          unfold lineIn
          rw [if_neg h2, if_neg h4]
          exact i
        | succ n => exact i
theorem li_drop : ∀ ts : List Int, GoodTs ts → liIn (ts.drop (closeC isLi stLi (ts ++ [1]))) = false ∧ (∀ n, closeC isLi stLi (ts ++ [1]) = n + 1 → lineIn (ts.drop (n + 1)) = false) := by
  intro ts
  induction ts with
  | nil => intro _; exact ⟨rfl, fun n h => by cases h⟩
  | cons t r ih =>
    intro ⟨h, hr⟩
    rw [List.cons_append, closeC_step _ _ _ (by simp)]
    by_cases h2 : t = 9
    · have h3 : isLi t = true := by rw [h2]; rfl
      rw [h3, Bool.not_true, Bool.and_false, if_neg Bool.false_ne_true, if_pos rfl]
      obtain ⟨a, b⟩ := h (.inr (by rw [h2]; rfl))
      exact ⟨b h2, fun n hn => by cases hn; exact a⟩
    · have h3 : isLi t = false := by unfold isLi; rw [beq_eq_false_iff_ne]; exact h2
      rw [h3, Bool.not_false, Bool.and_true]
      by_cases h4 : t = 7 ∨ t = 8
      · have h5 : stLi t = true := by unfold stLi; rcases h4 with rfl | rfl <;> rfl
        rw [h5, if_pos rfl]
        refine ⟨?_, fun n hn => by cases hn⟩
        show liIn (t :: r) = false
        unfold liIn
        rw [if_pos h4]
      · have h5 : stLi t = false := by unfold stLi; rw [Bool.or_eq_false_iff, beq_eq_false_iff_ne, beq_eq_false_iff_ne]; omega
        rw [h5, if_neg Bool.false_ne_true, if_neg Bool.false_ne_true]
        obtain ⟨i, j⟩ := ih hr
        generalize closeC isLi stLi (r ++ [1]) = n at i j ⊢
        cases n with
        | zero =>
          refine ⟨?_, fun n hn => by cases hn⟩
          show liIn (t :: r) = false
          rw [List.drop_zero] at i
          unfold liIn
          rw [if_neg h4, if_neg h2]
          exact i
        | succ n => exact ⟨i, fun m hm => by
            have hm : n + 2 = m + 1 := hm
            obtain rfl : m = n + 1 := by omega
            exact j n rfl⟩
def lastP (p : Bool) : List PN → Bool
  | [] => p
  | k :: r => lastP (k.tag == 0) r
theorem lastP_snoc : ∀ (ks : List PN) (p : Bool) (k : PN), lastP p (ks ++ [k]) = (k.tag == 0)
  | [], _, _ => rfl
  | x :: ks, p, k => lastP_snoc ks (x.tag == 0) k
theorem norms_snoc (d : Int) (b l i : Bool) (k : PN) : ∀ (ks : List PN) (p : Bool), PN.norms d b l i p (ks ++ [k]) = (PN.norms d b l i p ks && (!(lastP p ks && k.tag == 0) && PN.norm d b l i k))
  | [], p => by
    show PN.norms d b l i p [k] = _
    simp only [PN.norms, lastP, Bool.and_true, Bool.true_and]
  | x :: ks, p => by
    rw [List.cons_append]
    simp only [PN.norms, lastP]
    rw [norms_snoc d b l i k ks (x.tag == 0)]
    simp only [Bool.and_assoc]
theorem lastP_text {ks : List PN} (h : lastText ks = none) : lastP false ks = false := by
  rcases List.eq_nil_or_concat ks with rfl | ⟨l, k, rfl⟩
  · rfl
  · rw [List.concat_eq_append] at h ⊢
    rw [lastText_snoc] at h
    rw [lastP_snoc]
    split at h
    · cases h
    · rename_i hk; rw [beq_eq_false_iff_ne]; exact hk
mutual
def PN.bulk (T : Nat) : PN → Bool
  | .mk _ a s ks => decide (s.size ≤ T) && decide (a.length ≤ 8192) && PN.bulks T ks
def PN.bulks (T : Nat) : List PN → Bool
  | [] => true
  | k :: r => PN.bulk T k && PN.bulks T r
end
theorem PN.bulk_eq (T : Nat) (n : PN) : n.bulk T = (decide (n.text.size ≤ T) && decide (n.attrs.length ≤ 8192) && PN.bulks T n.kids) := by cases n; rfl
theorem PN.bulk_mk {T : Nat} {t : Int} {a : List AttrB} {s : ByteArray} {ks : List PN} (h1 : s.size ≤ T) (h2 : a.length ≤ 8192) (h3 : PN.bulks T ks = true) : (PN.mk t a s ks).bulk T = true := by
  show (decide (s.size ≤ T) && decide (a.length ≤ 8192) && PN.bulks T ks) = true
  rw [decide_eq_true h1, decide_eq_true h2, h3]
  rfl
theorem PN.bulks_iff {T : Nat} {l : List PN} : PN.bulks T l = true ↔ ∀ k ∈ l, k.bulk T = true := by
  induction l with
  | nil => simp [PN.bulks]
  | cons k r ih => simp only [PN.bulks, Bool.and_eq_true, ih, List.mem_cons, forall_eq_or_imp]
theorem PN.bulk_mono {T M : Nat} (h : T ≤ M) : ∀ n : PN, n.bulk T = true → n.bulk M = true := by
  refine PN.induct _ fun n ih hn => ?_
  rw [PN.bulk_eq] at hn ⊢
  simp only [Bool.and_eq_true, decide_eq_true_eq] at hn ⊢
  exact ⟨⟨Nat.le_trans hn.1.1 h, hn.1.2⟩, PN.bulks_iff.2 fun k hk => ih k hk (PN.bulks_iff.1 hn.2 k hk)⟩
theorem PN.bulks_mono {T M : Nat} (h : T ≤ M) {l : List PN} (hl : PN.bulks T l = true) : PN.bulks M l = true := PN.bulks_iff.2 fun k hk => PN.bulk_mono h k (PN.bulks_iff.1 hl k hk)
def KidsOk (T : Nat) (d : Int) (ts : List Int) (f : ZF) : Prop := PN.norms d (boxT f.tag) (lineIn ts) (liIn ts) false f.kids = true ∧ PN.bulks T f.kids = true
def ZN (T : Nat) : ZS → Prop
  | [] => False
  | [f] => f.tag = 1 ∧ f.attrs = [] ∧ KidsOk T 1 [] f
  | f :: g :: r => (clsT f.tag = 2 ∨ clsT f.tag = 3 ∨ clsT f.tag = 4) ∧ attrsMay f.attrs = true ∧ f.attrs.length ≤ 8192 ∧ (g :: r).length ≤ 40 ∧
      (clsT f.tag = 2 ∨ clsT f.tag = 3 → lineIn (tsZ (g :: r)) = false ∧ (f.tag = 9 → liIn (tsZ (g :: r)) = false)) ∧ KidsOk T (((g :: r).length : Int) + 1) (f.tag :: tsZ (g :: r)) f ∧ ZN T (g :: r)
theorem ZN.ne {T : Nat} : ∀ {z : ZS}, ZN T z → z ≠ []
  | [], h => h.elim
  | _ :: _, _ => by simp
theorem ZN.tags {T : Nat} : ∀ {z : ZS}, ZN T z → tagsZ z = tsZ z ++ [1] ∧ GoodTs (tsZ z)
  | [], h => h.elim
  | [f], h => ⟨by show [f.tag] = _; rw [h.1]; rfl, trivial⟩
  | f :: g :: r, h => by
    obtain ⟨_, _, _, _, h1, _, h2⟩ := h
    obtain ⟨i, j⟩ := ZN.tags h2
    refine ⟨?_, h1, j⟩
    rw [tsZ_cons, List.cons_append, ← i]
    rfl
theorem ZN.kids {T : Nat} : ∀ {f : ZF} {r : ZS}, ZN T (f :: r) → KidsOk T ((r.length : Int) + 1) (tsZ (f :: r)) f
  | _, [], h => h.2.2
  | _, _ :: _, h => h.2.2.2.2.2.1
theorem ZN.put {T M : Nat} {f : ZF} {ks : List PN} : ∀ {r : ZS}, ZN T (f :: r) → (∀ {z : ZS}, ZN T z → ZN M z) → KidsOk M ((r.length : Int) + 1) (tsZ (f :: r)) ⟨f.tag, f.attrs, ks⟩ → ZN M (⟨f.tag, f.attrs, ks⟩ :: r)
  | [], h, _, hk => ⟨h.1, h.2.1, hk⟩
  | _ :: _, h, hm, hk => ⟨h.1, h.2.1, h.2.2.1, h.2.2.2.1, h.2.2.2.2.1, hk, hm h.2.2.2.2.2.2⟩
theorem ZN.mono {T M : Nat} (h : T ≤ M) : ∀ {z : ZS}, ZN T z → ZN M z
  | [], hz => hz.elim
  | [f], hz => ⟨hz.1, hz.2.1, hz.2.2.1, PN.bulks_mono h hz.2.2.2⟩
  | f :: g :: r, hz => ⟨hz.1, hz.2.1, hz.2.2.1, hz.2.2.2.1, hz.2.2.2.2.1, ⟨hz.2.2.2.2.2.1.1, PN.bulks_mono h hz.2.2.2.2.2.1.2⟩, ZN.mono h hz.2.2.2.2.2.2⟩
theorem node_norm {f : ZF} {ts : List Int} {d : Int} {box : Bool} (hc : clsT f.tag = 2 ∨ clsT f.tag = 3 ∨ clsT f.tag = 4) (ha : attrsMay f.attrs = true) (hd : d ≤ 40)
    (hl : clsT f.tag = 2 ∨ clsT f.tag = 3 → lineIn ts = false ∧ (f.tag = 9 → liIn ts = false)) (hk : PN.norms (d + 1) (boxT f.tag) (lineIn (f.tag :: ts)) (liIn (f.tag :: ts)) false f.kids = true) : PN.norm d box (lineIn ts) (liIn ts) f.node = true := by
  rw [PN.norm_eq]
  show (decide (d ≤ 40) && (if clsT f.tag = 0 then false else if clsT f.tag = 1 then textOk box f.node
      else if clsT f.tag = 5 then (⟨#[]⟩ : ByteArray).size == 0 && attrsMay f.attrs && f.kids.isEmpty
      else if clsT f.tag = 4 then (⟨#[]⟩ : ByteArray).size == 0 && attrsMay f.attrs && PN.norms (d + 1) false (lineIn ts) (liIn ts) false f.kids
      else !(lineIn ts || f.tag == 9 && liIn ts) && ((⟨#[]⟩ : ByteArray).size == 0 && attrsMay f.attrs && PN.norms (d + 1) (clsT f.tag == 2) (clsT f.tag == 3 && f.tag != 9) (f.tag == 9 || liIn ts && f.tag != 7 && f.tag != 8) false f.kids))) = true
  rw [if_neg (by omega), if_neg (by omega), if_neg (by omega), ha, show ((⟨#[]⟩ : ByteArray).size == 0) = true from rfl, decide_eq_true hd]
  by_cases c4 : clsT f.tag = 4
  · rw [if_pos c4]
    obtain ⟨a, b⟩ := lineIn_inline (.inl c4) ts
    rw [a, b, show boxT f.tag = false by unfold boxT; rw [c4]; rfl] at hk
    rw [hk]; rfl
  · rw [if_neg c4]
    have hc2 : clsT f.tag = 2 ∨ clsT f.tag = 3 := by omega
    obtain ⟨a, b⟩ := lineIn_big hc2 ts
    obtain ⟨h1, h2⟩ := hl hc2
    rw [a, b] at hk
    have e9 : (f.tag == 9 && liIn ts) = false := by
      by_cases h9 : f.tag = 9
      · rw [h2 h9, Bool.and_false]
      · rw [show (f.tag == 9) = false from beq_eq_false_iff_ne.2 h9, Bool.false_and]
    rw [h1, e9, show PN.norms (d + 1) (clsT f.tag == 2) _ _ false f.kids = true from hk]
    rfl
theorem ZN.pop1 {T : Nat} : ∀ {z : ZS}, ZN T z → 2 ≤ z.length → ZN T (Go.Proofs.YtalaajbajgdglaaGreatDoor.pop1 z)
  | [], h, _ => h.elim
  | [_], _, h => by simp at h
  | f :: g :: r, h, _ => by
    obtain ⟨h1, h2, h3, h4, h5, ⟨h6, h6b⟩, h7⟩ := h
    obtain ⟨k1, k2⟩ := h7.kids
    refine ZN.put h7 (fun h => h) ⟨?_, ?_⟩
    · show PN.norms _ (boxT g.tag) _ _ false (g.kids ++ [f.node]) = true
      rw [norms_snoc, k1]
      have ht : (f.node.tag == 0) = false := by
        rw [beq_eq_false_iff_ne]
        intro e
        have e : f.tag = 0 := e
        rw [e] at h1
        rcases h1 with h1 | h1 | h1 <;> exact absurd h1 (by decide)
      rw [ht, Bool.and_false, Bool.not_false, Bool.true_and, Bool.true_and]
      have e : (((g :: r).length : Nat) : Int) = (r.length : Int) + 1 := by simp
      rw [e] at h6
      exact node_norm h1 h2 (by simp only [List.length_cons] at h4; omega) h5 h6
    · show PN.bulks T (g.kids ++ [f.node]) = true
      rw [PN.bulks_iff] at k2 ⊢
      intro k hk
      rcases List.mem_append.1 hk with hk | hk
      · exact k2 k hk
      · obtain rfl : k = f.node := by simpa using hk
        rw [PN.bulk_eq]
        simp only [Bool.and_eq_true, decide_eq_true_eq]
        exact ⟨⟨Nat.zero_le _, h3⟩, h6b⟩
theorem ZN.popN {T : Nat} : ∀ (n : Nat) {z : ZS}, ZN T z → n < z.length → ZN T (Go.Proofs.YtalaajbajgdglaaGreatDoor.popN n z)
  | 0, z, h, _ => h
  | n + 1, z, h, hn => ZN.popN n (h.pop1 (by omega)) (by have := pop1_len z; rw [if_pos (by omega)] at this; omega)
theorem tsZ_popN (n : Nat) {z : ZS} (h : n < z.length) : tsZ (popN n z) = (tsZ z).drop n := by
  unfold tsZ
  rw [popN_tags n z h, List.dropLast_eq_take, List.dropLast_eq_take, List.length_drop, List.drop_take]
  congr 1
  omega
theorem ZN.ahead {T : Nat} {z : ZS} (h : ZN T z) (t : Int) : ZN T (aheadZ t z) ∧ (lineT t = true → lineIn (tsZ (aheadZ t z)) = false) ∧ (t = 9 → liIn (tsZ (aheadZ t z)) = false) := by
  unfold aheadZ
  dsimp only
  have a1 : ZN T (if lineT t = true then closeZ isPH stPH z else z) ∧ (lineT t = true → lineIn (tsZ (if lineT t = true then closeZ isPH stPH z else z)) = false) := by
    split
    · rename_i hl
      have hlt := (closeZ_len isPH stPH z h.ne).2
      refine ⟨h.popN _ hlt, fun _ => ?_⟩
      unfold closeZ
      rw [tsZ_popN _ hlt]
      have := line_drop (tsZ z) h.tags.2
      rw [← h.tags.1] at this
      exact this
    · exact ⟨h, fun e => absurd e (by assumption)⟩
  obtain ⟨a1, a2⟩ := a1
  generalize (if lineT t = true then closeZ isPH stPH z else z) = z1 at a1 a2 ⊢
  split
  · rename_i h9
    have hlt := (closeZ_len isLi stLi z1 a1.ne).2
    obtain ⟨b1, b2⟩ := li_drop (tsZ z1) a1.tags.2
    rw [← a1.tags.1] at b1 b2
    refine ⟨a1.popN _ hlt, fun hl => ?_, fun _ => ?_⟩
    · unfold closeZ
      rw [tsZ_popN _ hlt]
      cases hn : closeC isLi stLi (tagsZ z1) with
      | zero => rw [List.drop_zero]; exact a2 hl
      | succ n => exact b2 n hn
    · unfold closeZ
      rw [tsZ_popN _ hlt]
      exact b1
  · exact ⟨a1, a2, fun e => absurd e (by assumption)⟩
theorem ZN.leaf {T M : Nat} {f : ZF} {r : ZS} (h : ZN T (f :: r)) (hm : T ≤ M) {k : PN} (h1 : PN.norm ((r.length : Int) + 1) (boxT f.tag) (lineIn (tsZ (f :: r))) (liIn (tsZ (f :: r))) k = true) (h2 : lastText f.kids = none ∨ k.tag ≠ 0) (h3 : k.bulk M = true) : ZN M (f.put k :: r) := by
  obtain ⟨k1, k2⟩ := h.kids
  refine ZN.put h (ZN.mono hm) ⟨?_, ?_⟩
  · show PN.norms _ (boxT f.tag) _ _ false (f.kids ++ [k]) = true
    rw [norms_snoc, k1, h1]
    have : (lastP false f.kids && k.tag == 0) = false := by
      rcases h2 with h2 | h2
      · rw [lastP_text h2, Bool.false_and]
      · rw [show (k.tag == 0) = false from beq_eq_false_iff_ne.2 h2, Bool.and_false]
    rw [this]; rfl
  · show PN.bulks M (f.kids ++ [k]) = true
    rw [PN.bulks_iff]
    intro x hx
    rcases List.mem_append.1 hx with hx | hx
    · exact PN.bulk_mono hm x (PN.bulks_iff.1 k2 x hx)
    · obtain rfl : x = k := by simpa using hx
      exact h3
theorem text_norm {d : Int} {box line li : Bool} {s : ByteArray} (hd : d ≤ 40) (h1 : s.size ≠ 0) (h2 : anewB s = s) (h3 : (box && s.data.toList.all blankB) = false) : PN.norm d box line li (.mk 0 [] s []) = true := by
  rw [PN.norm_eq]
  show (decide (d ≤ 40) && textOk box (.mk 0 [] s [])) = true
  unfold textOk
  show (decide (d ≤ 40) && (true && true && decide (s.size ≠ 0) && decide (anewB s = s) && !(box && s.data.toList.all blankB))) = true
  rw [h3, decide_eq_true hd, decide_eq_true h1, decide_eq_true h2]
  rfl
theorem ZN.text {T : Nat} {b : BZ} (h : ZN T b.z) {s : List UInt8} (hs : IsR s) (hne : s ≠ []) : ZN (T + s.length) (textZ s b).z := by
  obtain ⟨z, c⟩ := b
  have hM : ∀ {z : ZS}, ZN T z → ZN (T + s.length) z := ZN.mono (Nat.le_add_right _ _)
  match z, h with
  | [], h => exact h.elim
  | f :: r, h =>
    unfold textZ
    dsimp only
    split
    · exact hM h
    · rename_i hb
      have hb : (boxT f.tag && s.all blankB) = false := by simpa using hb
      split
      · rename_i k hk
        obtain ⟨ks, hks, hkt⟩ := lastText_some hk
        have hdl : f.kids.dropLast = ks := by rw [hks]; simp
        obtain ⟨k1, k2⟩ := h.kids
        rw [hks, norms_snoc] at k1
        simp only [Bool.and_eq_true] at k1
        obtain ⟨k1, k3, k4⟩ := k1
        rcases norm_is k4 with ⟨_, x, rfl, hx1, hx2⟩ | ⟨hne, _⟩
        · refine ZN.put h hM ⟨?_, ?_⟩
          · show PN.norms _ (boxT f.tag) _ _ false (f.kids.dropLast ++ [.mk 0 [] (bs (x.data.toList ++ s)) []]) = true
            rw [hdl, norms_snoc, k1]
            have e : (!(lastP false ks && (PN.mk 0 [] (bs (x.data.toList ++ s)) []).tag == 0)) = true := k3
            rw [e]
            rw [PN.norm_eq] at k4
            simp only [Bool.and_eq_true, decide_eq_true_eq] at k4
            have k5 : textOk (boxT f.tag) (.mk 0 [] x []) = true := k4.2
            refine text_norm k4.1 ?_ ?_ ?_
            · rw [bs_size, List.length_append]
              have : x.data.toList.length = x.size := rfl
              omega
            · exact ((IsR.of_anew hx2).app hs).anew
            · rw [bs_data, List.all_append]
              cases hbx : boxT f.tag with
              | false => rfl
              | true =>
                rw [hbx] at hb
                rw [Bool.true_and] at hb
                rw [hb, Bool.and_false, Bool.and_false]
          · show PN.bulks _ (f.kids.dropLast ++ [.mk 0 [] (bs (x.data.toList ++ s)) []]) = true
            rw [hdl]
            rw [hks] at k2
            rw [PN.bulks_iff] at k2 ⊢
            intro y hy
            rcases List.mem_append.1 hy with hy | hy
            · exact PN.bulk_mono (Nat.le_add_right _ _) y (k2 y (by simp [hy]))
            · obtain rfl : y = _ := by simpa using hy
              have := k2 (.mk 0 [] x []) (by simp)
              rw [PN.bulk_eq] at this
              simp only [Bool.and_eq_true] at this
              have h8 : x.size ≤ T := of_decide_eq_true this.1.1
              refine PN.bulk_mk ?_ (Nat.zero_le _) rfl
              rw [bs_size, List.length_append]
              have e : x.data.toList.length = x.size := rfl
              omega
        · exact absurd hkt hne
      · rename_i hl
        split
        · rename_i hr
          obtain ⟨_, hr⟩ := roomB_at hr
          refine ZN.leaf h (Nat.le_add_right _ _) ?_ (.inl hl) ?_
          · refine text_norm (by simp only [List.length_cons] at hr; omega) ?_ hs.anew ?_
            · rw [bs_size]
              have := List.length_pos_iff.2 hne
              omega
            · rw [bs_data]; exact hb
          · exact PN.bulk_mk (by rw [bs_size]; omega) (Nat.zero_le _) rfl
        · exact hM h
theorem cls_tag {t : Int} (h : 1 ≤ t ∧ t ≤ 16) : clsT t = 2 ∨ clsT t = 3 ∨ clsT t = 4 ∨ clsT t = 5 :=
  cls_cases (by intro e; unfold clsT at e; repeat' split at e <;> omega) (by omega)
theorem ZN.token {T : Nat} {b : BZ} (h : ZN T b.z) {t : Tk} (ht : TkGood 8192 t) : ZN (T + t.text.length) (tokenZ t b).z := by
  have hM : ∀ {z : ZS}, ZN T z → ZN (T + t.text.length) z := ZN.mono (Nat.le_add_right _ _)
  unfold tokenZ
  split
  · rename_i hk
    exact h.text (ht.text hk).1 (ht.text hk).2
  · split
    · exact hM h
    · rename_i tag hf
      have hft := findT_tag hf
      split
      · exact hM (h.popN _ (closeZ_len _ _ _ h.ne).2)
      · split
        · rename_i hr
          obtain ⟨_, hr⟩ := roomB_at hr
          obtain ⟨a1, a2, a3⟩ := h.ahead tag
          unfold openZ
          generalize aheadZ tag b.z = z at a1 a2 a3 hr ⊢
          split
          · rename_i c5
            refine hM ?_
            match z, a1, hr with
            | [], a1, _ => exact a1.elim
            | f :: r, a1, hr =>
              refine ZN.leaf (k := .mk tag t.attrs ⟨#[]⟩ []) a1 (Nat.le_refl _) ?_ (.inr (by show tag ≠ 0; omega)) ?_
              · rw [PN.norm_eq]
                show (decide ((r.length : Int) + 1 ≤ 40) && (if clsT tag = 0 then false else if clsT tag = 1 then _ else if clsT tag = 5 then (⟨#[]⟩ : ByteArray).size == 0 && attrsMay t.attrs && ([] : List PN).isEmpty else _)) = true
                rw [if_neg (by omega), if_neg (by omega), if_pos c5, ht.attrs, decide_eq_true (by simp only [List.length_cons] at hr; omega)]
                rfl
              · exact PN.bulk_mk (Nat.zero_le _) ht.len rfl
          · rename_i c5
            refine hM ?_
            match z, a1, a2, a3, hr with
            | [], a1, _, _, _ => exact a1.elim
            | f :: r, a1, a2, a3, hr =>
              refine ⟨by have := cls_tag hft; show clsT tag = 2 ∨ clsT tag = 3 ∨ clsT tag = 4; omega, ht.attrs, ht.len, hr, fun hc => ⟨a2 ?_, a3⟩, ⟨rfl, rfl⟩, a1⟩
              unfold lineT
              simp only [Bool.or_eq_true, beq_iff_eq]
              exact hc.symm
        · exact hM h
theorem ZN.run : ∀ (L : List Tk) {T : Nat} {b : BZ}, ZN T b.z → (∀ t ∈ L, TkGood 8192 t) → ZN (T + sumT L) (L.foldl (fun b t => tokenZ t b) b).z
  | [], T, b, h, _ => h
  | t :: L, T, b, h, hL => by
    have h1 := ZN.run L (h.token (hL t (by simp))) (fun t ht => hL t (by simp [ht]))
    rw [List.foldl_cons]
    have e : T + t.text.length + sumT L = T + sumT (t :: L) := by unfold sumT; rw [List.map_cons, List.sum_cons]; omega
    rw [e] at h1
    exact h1
theorem ZN.top {T : Nat} {z : ZS} (h : ZN T z) : ∃ f, popAll z = [f] ∧ topN z = .mk 1 [] ⟨#[]⟩ f.kids ∧ KidsOk T 1 [] f ∧ f.tag = 1 := by
  have hp := List.length_pos_iff.2 h.ne
  have h1 : ZN T (popAll z) := h.popN (z.length - 1) (by omega)
  have h2 : (popAll z).length = 1 := by have := popN_len (z.length - 1) z (by omega); unfold popAll; omega
  match hz : popAll z, h1, h2 with
  | [f], h1, _ =>
    refine ⟨f, rfl, ?_, h1.2.2, h1.1⟩
    unfold topN
    rw [hz]
    show PN.mk f.tag f.attrs ⟨#[]⟩ f.kids = _
    rw [h1.1, h1.2.1]
theorem host_norm {L : List UInt8} (hL : L.length ≤ 8192) : ∃ ks, hostZ (tokens L) = .mk 1 [] ⟨#[]⟩ ks ∧ PN.norms 1 true false false false ks = true ∧ PN.sizes ks + 1 ≤ 2000 ∧ PN.bulks 32768 ks = true := by
  obtain ⟨h1, h2⟩ := tokens_good hL
  have h0 : ZN 0 startZ.z := ⟨rfl, rfl, rfl, rfl⟩
  have h3 := (ZN.run (tokens L) h0 h1).mono (M := 32768) (by omega)
  obtain ⟨f, e1, e2, ⟨k1, k2⟩, e3⟩ := ZN.top h3
  have hok := runZ_ok (L := tokens L) (M := 131072) (fun t ht => ((tokens_small hL).2 t ht).1) (tokens L).length
  rw [List.take_length] at hok
  have h4 := hok.popN ((runZ (tokens L)).z.length - 1) (by have := List.length_pos_iff.2 hok.ne; omega)
  have h5 : (List.map (fun f : ZF => 1 + PN.sizes f.kids) (popN ((runZ (tokens L)).z.length - 1) (runZ (tokens L)).z)).sum ≤ (runZ (tokens L)).cnt := h4.sum
  have h6 : (runZ (tokens L)).cnt ≤ 2000 := h4.cnt
  have e1 : popN ((runZ (tokens L)).z.length - 1) (runZ (tokens L)).z = [f] := e1
  rw [e1] at h5
  simp only [List.map_cons, List.map_nil, List.sum_cons, List.sum_nil] at h5
  refine ⟨f.kids, e2, ?_, by omega, k2⟩
  rw [e3] at k1
  exact k1
end Go.Proofs.YtalaajbajgdglaaGreatDoor
namespace Go.Proofs.YtalaajbajgdglaaGreatDoor
open Go Go.RowKit Go.BigFrame We
theorem bulk_kok {w : World} (hT : Tabs w) : ∀ n : PN, n.bulk 32768 = true → NOk w n := by
  refine PN.induct _ fun n ih hl => ?_
  rw [PN.bulk_eq] at hl
  simp only [Bool.and_eq_true, decide_eq_true_eq] at hl
  exact lnode_of hT (kids_of fun k hk => ih k hk (PN.bulks_iff.1 hl.2 k hk)) (by omega) (by omega)
theorem bulk_fair : ∀ n : PN, n.bulk 32768 = true → n.fair = true := by
  refine PN.induct _ fun n ih hl => ?_
  rw [PN.bulk_eq] at hl
  simp only [Bool.and_eq_true, decide_eq_true_eq] at hl
  rw [PN.fair_eq, decide_eq_true (by omega), Bool.true_and]
  have h2 := PN.bulks_iff.1 hl.2
  clear hl
  obtain ⟨t, a, s, ks⟩ := n
  simp only [PN.kids] at ih h2 ⊢
  induction ks with
  | nil => rfl
  | cons k r ih2 =>
    unfold PN.fairs
    rw [ih k (by simp) (h2 k (by simp)), ih2 (fun k hk => ih k (by simp [hk])) fun k hk => h2 k (by simp [hk])]
    rfl
theorem cost_attrs {l : List AttrB} (h : attrsMay l = true) : (l.map fun p => p.1.size + 6 * p.2.size + 4).sum ≤ l.length * 1220 := by
  have hall : ∀ a ∈ l, a.1.size + 6 * a.2.size + 4 ≤ 1220 := by
    intro a ha
    obtain ⟨i, hi⟩ := List.mem_iff_getElem?.1 ha
    unfold attrsMay at h
    have := List.all_eq_true.1 h (a, i) (by rw [List.mk_mem_zipIdx_iff_getElem?]; simpa using hi)
    simp only [Bool.and_eq_true, valueOk, nameOk, decide_eq_true_eq] at this
    have h1 := this.1.1.1.1.2
    have h2 := this.1.2.1.1
    omega
  clear h
  induction l with
  | nil => simp
  | cons a r ih =>
    have h1 := hall a (by simp)
    have h2 := ih fun a ha => hall a (by simp [ha])
    rw [List.map_cons, List.sum_cons, List.length_cons]
    omega
theorem norms_cost : ∀ (m : Nat) (ks : List PN) (d : Int) (b l i p : Bool), PN.sizes ks ≤ m → PN.norms d b l i p ks = true → PN.bulks 32768 ks = true → PN.costs ks ≤ PN.sizes ks * 11000000 := by
  intro m
  induction m with
  | zero =>
    intro ks d b l i p hm hn hb
    cases ks with
    | nil => exact Nat.le_refl _
    | cons k q => have := k.size_pos; simp only [PN.sizes] at hm; omega
  | succ m ih =>
    intro ks d b l i p hm hn hb
    cases ks with
    | nil => exact Nat.le_refl _
    | cons k q =>
      have hkp := k.size_pos
      have hse := k.size_eq
      have hce := k.cost_eq
      simp only [PN.sizes] at hm
      simp only [PN.norms, PN.bulks, Bool.and_eq_true] at hn hb
      obtain ⟨⟨_, hk⟩, hq⟩ := hn
      obtain ⟨hb1, hb2⟩ := hb
      have hrest := ih q _ _ _ _ _ (by omega) hq hb2
      rw [PN.bulk_eq] at hb1
      simp only [Bool.and_eq_true] at hb1
      obtain ⟨⟨b1, b2⟩, b3⟩ := hb1
      have b1 : k.text.size ≤ 32768 := of_decide_eq_true b1
      have b2 : k.attrs.length ≤ 8192 := of_decide_eq_true b2
      have key : k.cost ≤ k.size * 11000000 := by
        by_cases ht : k.tag = 0
        · rcases norm_is hk with ⟨_, s, rfl, _⟩ | ⟨hne, _⟩
          · simp only [PN.text, PN.attrs, PN.kids, PN.costs, PN.sizes, List.map_nil, List.sum_nil] at hce hse b1
            rw [hce, hse]; omega
          · exact absurd ht hne
        · obtain ⟨c0, ha, hs, h40, k5, k4, k23⟩ := norm_elem hk ht
          have h1 : (List.map (fun p : ByteArray × ByteArray => p.1.size + 6 * p.2.size + 4) k.attrs).sum ≤ k.attrs.length * 1220 := cost_attrs ha
          have h2 : k.text.size = 0 := by rw [hs]; rfl
          have h3 : PN.costs k.kids ≤ PN.sizes k.kids * 11000000 := by
            rcases cls_cases c0 ht with c | c | c | c
            · exact ih k.kids _ _ _ _ _ (by omega) (k23 (.inl c)).2.2 b3
            · exact ih k.kids _ _ _ _ _ (by omega) (k23 (.inr c)).2.2 b3
            · exact ih k.kids _ _ _ _ _ (by omega) (k4 c) b3
            · rw [k5 c]; exact Nat.le_refl _
          have h4 : k.attrs.length * 1220 ≤ 8192 * 1220 := Nat.mul_le_mul_right _ b2
          rw [hce, hse, h2, Nat.add_mul]
          omega
      simp only [PN.costs, PN.sizes]
      rw [Nat.add_mul]
      omega
structure Built (n : PN) : Prop where
  norm : PN.norms 1 true false false false n.kids = true
  size : PN.sizes n.kids + 1 ≤ 2000
  bulk : PN.bulks 32768 n.kids = true
  tag : n = .mk 1 [] ⟨#[]⟩ n.kids
theorem Built.of {L : List UInt8} (hL : L.length ≤ 8192) : Built (hostZ (tokens L)) := by
  obtain ⟨ks, h1, h2, h3, h4⟩ := host_norm hL
  rw [h1]
  exact ⟨h2, h3, h4, rfl⟩
theorem Built.cost {n : PN} (h : Built n) : n.cost ≤ 100000000000000 := by
  have h1 := norms_cost _ _ _ _ _ _ _ (Nat.le_refl _) h.norm h.bulk
  have h2 := h.size
  have h3 := n.cost_eq
  have h0 := h.tag
  clear h
  obtain ⟨t, a, s, ks⟩ := n
  simp only [PN.kids, PN.mk.injEq, and_true] at h0
  obtain ⟨rfl, rfl, rfl⟩ := h0
  simp only [PN.text, PN.attrs, PN.kids, List.map_nil, List.sum_nil] at h1 h2 h3
  have h4 : PN.sizes ks * 11000000 ≤ 2000 * 11000000 := Nat.mul_le_mul_right _ (by omega)
  have e : (⟨#[]⟩ : ByteArray).size = 0 := rfl
  rw [e] at h3
  omega
theorem Built.fair {n : PN} (h : Built n) : n.fair = true := bulk_fair n (by
  rw [h.tag]
  exact PN.bulk_mk (Nat.zero_le _) (Nat.zero_le _) h.bulk)
theorem Built.kok {n : PN} (h : Built n) {w : World} (hT : Tabs w) : KOk w n := kids_of fun k hk => bulk_kok hT k (PN.bulks_iff.1 h.bulk k hk)
theorem Built.inner {n : PN} (h : Built n) : n.inner = PN.outers n.kids := by rw [h.tag]; rfl
theorem Built.nsize {n : PN} (h : Built n) : n.size = PN.sizes n.kids + 1 := by have := n.size_eq; omega
theorem Built.whole {n : PN} (h : Built n) : n.whole = decide (n.inner.length ≤ 8192) := by
  obtain ⟨h1, h2, h3, h4⟩ := h
  obtain ⟨t, a, s, ks⟩ := n
  simp only [PN.kids, PN.mk.injEq, and_true] at h4
  obtain ⟨rfl, rfl, rfl⟩ := h4
  unfold PN.whole
  have e : (PN.mk 1 [] ⟨#[]⟩ ks).size ≤ 2000 := by
    have := (PN.mk 1 [] ⟨#[]⟩ ks).size_eq
    simp only [PN.kids] at this h2
    omega
  rw [show PN.norms 1 true false false false (PN.mk 1 [] ⟨#[]⟩ ks).kids = true from h1, decide_eq_true e]
  rfl
theorem host_told (s : ByteArray) (hs : s.size ≤ 10000000000) (w : World) (hl : LW w) : Calls Tryz.prog 10 #[.string s] w (fun e w' => Ext w w' ∧
    (e = .returned (.tuple #[zeroNV, .int .i64 10]) ∨ ∃ n v, Built n ∧ e = .returned (.tuple #[v, .int .i64 0]) ∧ RdN w' n v)) := by
  refine (Host_any s hs w hl).mono fun e w' h => ?_
  rcases h with ⟨_, h1, h2⟩ | ⟨h1, v, h2, h3, h4⟩
  · exact ⟨h2, .inl h1⟩
  · exact ⟨h3, .inr ⟨_, v, Built.of h1, h2, h4⟩⟩
theorem cells4 {w : World} {bk : Nat} {c0 c1 c2 c3 : Value} {t : TypeId} (h : w.heap[bk]? = some (.cells #[c0, c1, c2, c3] t (0, 0))) : w.cell? ⟨bk, 0, none⟩ = some c0 ∧ w.cell? ⟨bk, 1, none⟩ = some c1 ∧ w.cell? ⟨bk, 2, none⟩ = some c2 ∧ w.cell? ⟨bk, 3, none⟩ = some c3 :=
  ⟨cellOf h (i := 0) (v := c0) rfl, cellOf h (i := 1) (v := c1) rfl, cellOf h (i := 2) (v := c2) rfl, cellOf h (i := 3) (v := c3) rfl⟩
theorem printBuilt_walk (s : ByteArray) (w : World) (hl : LW w) : Calls Tryz.prog 6 #[.string s] w (RBool true w) := by
  have HAW := qh (fun W (hW : LW W) => awake_any W hW.tabs)
  have HL := qh hl
  clear hl
  by_cases hbig : 50000 < s.size
  · have d1 : decide ((s.size : Int) > 50000) = true := decide_eq_true (by omega)
    clear hbig
    go_enter Tryz.func6, Tryz.ntmps6
    go_wp2_with (go_at_call 16; refine (HAW.out _ HL.out).mono ?_)
    rintro e w1 ⟨rfl, x1⟩
    go_wp2_with fail
    go_ret
    exact ⟨rfl, x1⟩
  have d1 : decide ((s.size : Int) > 50000) = false := decide_eq_false (by omega)
  have HH := qh (host_told s (by omega) w HL.out)
  clear hbig
  go_enter Tryz.func6, Tryz.ntmps6
  go_wp2_with (go_at_call 10; refine HH.out.mono ?_)
  rintro e w1 ⟨x1, (rfl | ⟨n, v, hb, rfl, r1⟩)⟩
  · have X1 := qh (x1.alloc (.cells #[.int .i64 0, .slice none 0 0, .string ⟨#[]⟩, .slice none 0 0] 26))
    unfold zeroNV
    clear x1
    go_wp2_with (go_at_call 16; refine (HAW.out _ (HL.out.ext X1.out)).mono ?_)
    rintro e w2 ⟨rfl, x2⟩
    go_wp2_with fail
    go_ret
    exact ⟨rfl, X1.out.trans x2⟩
  obtain ⟨aa, ac, ka, kc, rfl⟩ := host_in r1
  have BU := qh hb
  have R1 := qh r1
  have xa := x1.alloc (.cells #[.int .i64 n.tag, .slice aa n.attrs.length ac, .string n.text, .slice ka n.kids.length kc] 26)
  have xa1 := (Ext.refl w1).alloc (.cells #[.int .i64 n.tag, .slice aa n.attrs.length ac, .string n.text, .slice ka n.kids.length kc] 26)
  have bb := heap_alloc_new w1 (.cells #[.int .i64 n.tag, .slice aa n.attrs.length ac, .string n.text, .slice ka n.kids.length kc] 26)
  clear hb r1 x1
  go_upto_region 6 with fail
  obtain ⟨w2, hw2⟩ : ∃ w2 : World, w2 = w1.alloc (.cells #[.int .i64 n.tag, .slice aa n.attrs.length ac, .string n.text, .slice ka n.kids.length kc] 26) := ⟨_, rfl⟩
  rw [← hw2] at xa xa1 bb ⊢
  clear hw2
  obtain ⟨ab, hab⟩ : ∃ ab, w1.heap.size = ab := ⟨_, rfl⟩
  rw [hab] at bb ⊢
  clear hab
  have X2 := qh xa
  have B2 := qh bb
  have R2 := qh (RdN.cells R1.out xa1.cells)
  obtain ⟨n0, n1, n2, n3⟩ := cells4 B2.out
  obtain ⟨sn, hsn⟩ : ∃ s : ByteArray, bs n.inner = s := ⟨_, rfl⟩
  have hi : Calls Tryz.prog 17 #[_] w2 (RVal (.string (bs n.inner)) w2) := Inner_any w2 n _ R2.out BU.out.cost
  rw [hsn] at hi
  have HI := qh hi
  have HSN := qh hsn
  clear xa xa1 bb hi hsn R1
  go_wp2_with (go_at_call 17; refine HI.out.mono ?_)
  rintro e w3 ⟨rfl, x3⟩
  have X3 := qh (X2.out.trans x3)
  have B3 := qh (x3.block B2.out)
  have R3 := qh (RdN.cells R2.out x3.cells)
  clear x3 n0 n1 n2 n3
  obtain ⟨n0, n1, n2, n3⟩ := cells4 B3.out
  have hwh := BU.out.whole
  have hz : sn.size = n.inner.length := by rw [← HSN.out, bs_size]
  rw [← hz] at hwh
  have HWH := qh hwh
  clear hwh hz
  by_cases hlong : 8192 < sn.size
  · have d2 : decide ((sn.size : Int) > 8192) = true := decide_eq_true (by omega)
    have HN := qh (Normal_k w3 n _ (BU.out.kok (HL.out.ext X3.out).tabs) R3.out BU.out.cost)
    rw [HWH.out, decide_eq_false (by omega)] at HN
    clear hlong
    go_wp2_with (go_at_call 15; refine HN.out.mono ?_)
    rintro e w4 ⟨rfl, x4⟩
    have X4 := qh (X3.out.trans x4)
    clear x4 n0 n1 n2 n3
    go_wp2_with (go_at_call 16; refine (HAW.out _ (HL.out.ext X4.out)).mono ?_)
    rintro e w5 ⟨rfl, x5⟩
    go_wp2_with fail
    go_ret
    exact ⟨rfl, X4.out.trans x5⟩
  have d2 : decide ((sn.size : Int) > 8192) = false := decide_eq_false (by omega)
  have hw1 : n.whole = true := by rw [HWH.out]; exact decide_eq_true (by omega)
  have HW1 := qh hw1
  have hb2 := host_back hw1 w3 (HL.out.ext X3.out)
  rw [HSN.out] at hb2
  have HB2 := qh hb2
  clear hlong hw1 hb2 n0 n1 n2 n3
  go_wp2_with (go_at_call 10; refine HB2.out.mono ?_)
  rintro e w4 ⟨v4, rfl, x4, r4⟩
  obtain ⟨aa2, ac2, ka2, kc2, rfl⟩ := host_in r4
  have xf := x4.alloc (.cells #[.int .i64 n.tag, .slice aa2 n.attrs.length ac2, .string n.text, .slice ka2 n.kids.length kc2] 26)
  have xg := (Ext.refl w4).alloc (.cells #[.int .i64 n.tag, .slice aa2 n.attrs.length ac2, .string n.text, .slice ka2 n.kids.length kc2] 26)
  have hbf := heap_alloc_new w4 (.cells #[.int .i64 n.tag, .slice aa2 n.attrs.length ac2, .string n.text, .slice ka2 n.kids.length kc2] 26)
  have R4 := qh r4
  clear r4
  go_upto_region 10 with fail
  obtain ⟨w5, hw5⟩ : ∃ w5 : World, w5 = w4.alloc (.cells #[.int .i64 n.tag, .slice aa2 n.attrs.length ac2, .string n.text, .slice ka2 n.kids.length kc2] 26) := ⟨_, rfl⟩
  rw [← hw5] at xf xg hbf ⊢
  clear hw5
  obtain ⟨am, ham⟩ : ∃ am, w4.heap.size = am := ⟨_, rfl⟩
  rw [ham] at hbf ⊢
  clear ham
  have X5 := qh (X3.out.trans xf)
  have B5 := qh (xf.block B3.out)
  have M5 := qh hbf
  have R5 := qh (RdN.cells R3.out xf.cells)
  have RM5 := qh (RdN.cells R4.out xg.cells)
  clear x4 xf xg hbf
  obtain ⟨n0, n1, n2, n3⟩ := cells4 B5.out
  have HN := qh (Normal_k w5 n _ (BU.out.kok (HL.out.ext X5.out).tabs) R5.out BU.out.cost)
  rw [HW1.out] at HN
  go_wp2_with (go_at_call 15; refine HN.out.mono ?_)
  rintro e w6 ⟨rfl, x6⟩
  have X6 := qh (X5.out.trans x6)
  have B6 := qh (x6.block B5.out)
  have M6 := qh (x6.block M5.out)
  have SN := qh (SameNode_eq n BU.out.fair _ _ _ (RdN.cells RM5.out x6.cells) (RdN.cells R5.out x6.cells))
  have RM6 := qh (RdN.cells RM5.out x6.cells)
  clear x6 n0 n1 n2 n3
  obtain ⟨n0, n1, n2, n3⟩ := cells4 B6.out
  obtain ⟨m0, m1, m2, m3⟩ := cells4 M6.out
  go_wp2_with (go_at_call 12; refine SN.out.mono ?_)
  rintro e w7 ⟨rfl, x7⟩
  have X7 := qh (X6.out.trans x7)
  have M7 := qh (x7.block M6.out)
  have hi7 : Calls Tryz.prog 17 #[_] w7 (RVal (.string (bs n.inner)) w7) := Inner_any w7 n _ (RdN.cells RM6.out x7.cells) BU.out.cost
  rw [HSN.out] at hi7
  have HI7 := qh hi7
  clear x7 n0 n1 n2 n3 m0 m1 m2 m3 hi7
  obtain ⟨m0, m1, m2, m3⟩ := cells4 M7.out
  go_wp2_with (go_at_call 17; refine HI7.out.mono ?_)
  rintro e w8 ⟨rfl, x8⟩
  have X8 := qh (X7.out.trans x8)
  have ess : (sn.toList == sn.toList) = true := by simp
  clear x8 m0 m1 m2 m3
  go_wp2_with (go_at_call 16; refine (HAW.out _ (HL.out.ext X8.out)).mono ?_)
  rintro e w9 ⟨rfl, x9⟩
  go_wp2_with fail
  go_ret
  exact ⟨rfl, X8.out.trans x9⟩
theorem norms_app (d : Int) (b l i : Bool) : ∀ (ks qs : List PN) (p : Bool), PN.norms d b l i p ks = true → PN.norms d b l i (lastP p ks) qs = true → PN.norms d b l i p (ks ++ qs) = true
  | [], _, _, _, h => h
  | k :: ks, qs, p, h, h2 => by
    rw [List.cons_append]
    simp only [PN.norms, Bool.and_eq_true] at h ⊢
    exact ⟨h.1, norms_app d b l i ks qs (k.tag == 0) h.2 h2⟩
theorem norms_first {d : Int} {b l i : Bool} {qs : List PN} (p : Bool) (h : PN.norms d b l i false qs = true) (hf : p = true → ∀ x, qs.head? = some x → x.tag ≠ 0) : PN.norms d b l i p qs = true := by
  cases qs with
  | nil => rfl
  | cons q qs =>
    simp only [PN.norms, Bool.and_eq_true, Bool.false_and] at h ⊢
    refine ⟨⟨?_, h.1.2⟩, h.2⟩
    cases p with
    | false => rfl
    | true =>
      have := hf rfl q rfl
      rw [show (q.tag == 0) = false from beq_eq_false_iff_ne.2 this]
      rfl
def bothN (n m : PN) : PN := .mk 1 [] ⟨#[]⟩ (n.kids ++ m.kids)
def beside (n m : PN) : Prop := (∃ x, n.kids.getLast? = some x ∧ x.tag = 0) ∧ ∃ y, m.kids.head? = some y ∧ y.tag = 0
theorem lastP_get {ks : List PN} (h : lastP false ks = true) : ∃ x, ks.getLast? = some x ∧ x.tag = 0 := by
  rcases List.eq_nil_or_concat ks with rfl | ⟨l, k, rfl⟩
  · cases h
  · rw [List.concat_eq_append] at h ⊢
    rw [lastP_snoc, beq_iff_eq] at h
    exact ⟨k, by rw [List.getLast?_append]; rfl, h⟩
theorem beside_back {n m : PN} (hn : Built n) (hm : Built m) (hz : n.size + m.size ≤ 2000) (hno : ¬ beside n m) (hl : n.inner.length + m.inner.length ≤ 8192) (w : World) (hw : LW w) :
    Calls Tryz.prog 10 #[.string (bs n.inner ++ bs m.inner)] w (fun e w' => ∃ v, e = .returned (.tuple #[v, .int .i64 0]) ∧ Ext w w' ∧ RdN w' (bothN n m) v) := by
  have hk : PN.norms 1 true false false false (n.kids ++ m.kids) = true := by
    refine norms_app _ _ _ _ _ _ _ hn.norm (norms_first _ hm.norm fun h x hx => ?_)
    obtain ⟨y, hy, h0⟩ := lastP_get h
    intro e
    exact hno ⟨⟨y, hy, h0⟩, x, hx, e⟩
  have h1 := hn.nsize
  have h2 := hm.nsize
  have hs : PN.sizes (n.kids ++ m.kids) + 1 ≤ 2000 := by rw [PN.sizes_app]; omega
  have hi : n.inner ++ m.inner = PN.outers (n.kids ++ m.kids) := by rw [hn.inner, hm.inner, PN.outers_append]
  rw [bs_add, hi]
  have ha := (norms_anew _ _ _ _ _ _ _ (Nat.le_refl _) hk).anew
  have hlen : (PN.outers (n.kids ++ m.kids)).length ≤ 8192 := by rw [← hi, List.length_append]; exact hl
  have h0 := Host_any (bs (PN.outers (n.kids ++ m.kids))) (by rw [bs_size]; omega) w hw
  rw [ha] at h0
  exact h0.mono fun e w' h => Host_short h (by rw [bs_size]; exact hlen) (by rw [bs_data]; exact host_of hk hs)
structure Bt (wz : World) (n : PN) (v : Value) (s : ByteArray) : Prop where
  lw : LW wz
  rd : RdN wz n v
  bu : Built n
  inn : bs n.inner = s
theorem bt_size {wz : World} {n : PN} {v : Value} {s : ByteArray} (t : Bt wz n v s) (u : ExtOf wz) : Calls Tryz.prog 18 #[v] u.val (RVal (.int .i64 n.size) u.val) :=
  Size_any n v u.val (by have := t.bu.nsize; have := t.bu.size; omega) t.rd u.ext
theorem bt_inner {wz : World} {n : PN} {v : Value} {s : ByteArray} (t : Bt wz n v s) (u : ExtOf wz) : Calls Tryz.prog 17 #[v] u.val (RVal (.string s) u.val) :=
  t.inn ▸ Inner_any u.val n v (t.rd.cells u.ext.cells) t.bu.cost
theorem Bt.more {wz wz' : World} {n : PN} {v : Value} {s : ByteArray} (t : Bt wz n v s) (x : Ext wz wz') : Bt wz' n v s := ⟨t.lw.ext x, t.rd.cells x.cells, t.bu, t.inn⟩
theorem inner_len (n : PN) : n.inner.length ≤ n.cost := by
  have h := PN.outers_len (l := n.kids) fun z _ => z.outer_len
  unfold PN.inner
  rw [PN.cost_eq]
  split
  · simp
  · omega
theorem kid4 {w : World} {n : PN} {c0 c1 c2 : Value} {bk : Option Addr} {kl kc : Nat} (h : RdN w n (.agg #[c0, c1, c2, .slice bk kl kc])) {j : Nat} {k : PN} (hk : n.kids[j]? = some k) : ∃ b o sp, bk = some ⟨b, o, sp⟩ ∧ ∃ y1 y2 y3 y4, w.cell? ((⟨b, o, sp⟩ : Addr).add (j * 4)) = some (.int .i64 k.tag) ∧
    w.cell? ⟨((⟨b, o, sp⟩ : Addr).add (j * 4)).block, ((⟨b, o, sp⟩ : Addr).add (j * 4)).off + 1, none⟩ = some (.slice y1 k.attrs.length y2) ∧ w.cell? ⟨((⟨b, o, sp⟩ : Addr).add (j * 4)).block, ((⟨b, o, sp⟩ : Addr).add (j * 4)).off + 2, none⟩ = some (.string k.text) ∧
    w.cell? ⟨((⟨b, o, sp⟩ : Addr).add (j * 4)).block, ((⟨b, o, sp⟩ : Addr).add (j * 4)).off + 3, none⟩ = some (.slice y3 k.kids.length y4) ∧
    RdN w k (.agg #[.int .i64 k.tag, .slice y1 k.attrs.length y2, .string k.text, .slice y3 k.kids.length y4]) := by
  obtain ⟨av, kv, e, _, ka, kcap, rfl, h1, h2, h3, h4⟩ := h.open
  simp only [Value.agg.injEq, Array.mk.injEq, List.cons.injEq, Value.slice.injEq, and_true] at e
  obtain ⟨_, _, _, rfl, rfl, rfl⟩ := e
  cases bk with
  | none =>
    have h5 := (h3 rfl).1
    have h6 := (List.getElem?_eq_some_iff.1 hk).1
    omega
  | some a =>
    obtain ⟨b, o, sp⟩ := a
    obtain ⟨c0, c1, c2, c3, q0, q1, q2, q3, h5⟩ := h4 _ rfl j k hk
    obtain ⟨y1, y2, y3, y4, en⟩ := h5.shape
    cases en
    rw [add_later _ _ _ (by decide)] at q1 q2 q3
    exact ⟨b, o, sp, rfl, _, _, _, _, q0, q1, q2, q3, h5⟩
def besideB (n m : PN) : Bool := match n.kids.getLast?, m.kids.head? with
  | some x, some y => x.tag == 0 && y.tag == 0
  | _, _ => false
theorem beside_no {n m : PN} (h : besideB n m = false) : ¬ beside n m := by
  rintro ⟨⟨x, hx, h1⟩, y, hy, h2⟩
  unfold besideB at h
  rw [hx, hy] at h
  simp [h1, h2] at h
theorem printBeside_walk (s t : ByteArray) (w : World) (hl : LW w) : Calls Tryz.prog 7 #[.string s, .string t] w (RBool true w) := by
  have HAW := qh (fun W (hW : LW W) => awake_any W hW.tabs)
  have HL := qh hl
  clear hl
  by_cases hbig : 20000 < s.size ∨ 20000 < t.size
  · by_cases h1 : 20000 < s.size
    · have d1 : decide ((s.size : Int) > 20000) = true := decide_eq_true (by omega)
      clear hbig
      go_enter Tryz.func7, Tryz.ntmps7
      go_wp2_with (go_at_call 16; refine (HAW.out _ HL.out).mono ?_)
      rintro e w1 ⟨rfl, x1⟩
      go_wp2_with fail
      go_ret
      exact ⟨rfl, x1⟩
    · have h2 : 20000 < t.size := hbig.resolve_left h1
      have d1 : decide ((s.size : Int) > 20000) = false := decide_eq_false (by omega)
      have d2 : decide ((t.size : Int) > 20000) = true := decide_eq_true (by omega)
      clear hbig
      go_enter Tryz.func7, Tryz.ntmps7
      go_wp2_with (go_at_call 16; refine (HAW.out _ HL.out).mono ?_)
      rintro e w1 ⟨rfl, x1⟩
      go_wp2_with fail
      go_ret
      exact ⟨rfl, x1⟩
  have d1 : decide ((s.size : Int) > 20000) = false := decide_eq_false (by omega)
  have d2 : decide ((t.size : Int) > 20000) = false := decide_eq_false (by omega)
  have HH := qh (host_told s (by omega) w HL.out)
  have HH2 := qh (fun W (x : Ext w W) => host_told t (by omega) W (HL.out.ext x))
  clear hbig
  go_enter Tryz.func7, Tryz.ntmps7
  go_wp2_with (go_at_call 10; refine HH.out.mono ?_)
  rintro e w1 ⟨x1, (rfl | ⟨n, v, hb, rfl, r1⟩)⟩
  · unfold zeroNV
    have X1 := qh (x1.alloc (.cells #[.int .i64 0, .slice none 0 0, .string ⟨#[]⟩, .slice none 0 0] 26))
    clear x1
    go_wp2_with (go_at_call 10; refine (HH2.out _ X1.out).mono ?_)
    rintro e w3 ⟨x3, (rfl | ⟨m, v, hb, rfl, r3⟩)⟩
    · unfold zeroNV
      have X3 := qh ((X1.out.trans x3).alloc (.cells #[.int .i64 0, .slice none 0 0, .string ⟨#[]⟩, .slice none 0 0] 26))
      clear x3
      go_upto_region 5 with fail
      refine wp_region_ext (by kernel_rfl) (by kernel_rfl) ?_
      repeat (go_big_quiet_step (fail))
      refine wpQuiet_nil ?_
      rintro _ ⟨u, rfl⟩
      have XU := qh (X3.out.trans u.ext)
      go_wp2_with (go_at_call 16; refine (HAW.out _ (HL.out.ext XU.out)).mono ?_)
      rintro e w5 ⟨rfl, x5⟩
      go_wp2_with fail
      go_ret
      exact ⟨rfl, XU.out.trans x5⟩
    · obtain ⟨aa, ac, ka, kc, rfl⟩ := host_in r3
      have X3 := qh ((X1.out.trans x3).alloc (.cells #[.int .i64 m.tag, .slice aa m.attrs.length ac, .string m.text, .slice ka m.kids.length kc] 26))
      clear x3 r3 hb
      go_upto_region 5 with fail
      refine wp_region_ext (by kernel_rfl) (by kernel_rfl) ?_
      repeat (go_big_quiet_step (fail))
      refine wpQuiet_nil ?_
      rintro _ ⟨u, rfl⟩
      have XU := qh (X3.out.trans u.ext)
      go_wp2_with (go_at_call 16; refine (HAW.out _ (HL.out.ext XU.out)).mono ?_)
      rintro e w5 ⟨rfl, x5⟩
      go_wp2_with fail
      go_ret
      exact ⟨rfl, XU.out.trans x5⟩
  obtain ⟨aa, ac, ka, kc, rfl⟩ := host_in r1
  have BU := qh hb
  have R1 := qh r1
  have X1 := qh (x1.alloc (.cells #[.int .i64 n.tag, .slice aa n.attrs.length ac, .string n.text, .slice ka n.kids.length kc] 26))
  have XA1 := qh ((Ext.refl w1).alloc (.cells #[.int .i64 n.tag, .slice aa n.attrs.length ac, .string n.text, .slice ka n.kids.length kc] 26))
  have BB := qh (heap_alloc_new w1 (.cells #[.int .i64 n.tag, .slice aa n.attrs.length ac, .string n.text, .slice ka n.kids.length kc] 26))
  clear hb r1 x1
  go_wp2_with (go_at_call 10; refine (HH2.out _ X1.out).mono ?_)
  rintro e w3 ⟨x3, (rfl | ⟨m, v, hb, rfl, r3⟩)⟩
  · unfold zeroNV
    have X3 := qh ((X1.out.trans x3).alloc (.cells #[.int .i64 0, .slice none 0 0, .string ⟨#[]⟩, .slice none 0 0] 26))
    clear x3
    go_upto_region 5 with fail
    refine wp_region_ext (by kernel_rfl) (by kernel_rfl) ?_
    repeat (go_big_quiet_step (fail))
    refine wpQuiet_nil ?_
    rintro _ ⟨u, rfl⟩
    have XU := qh (X3.out.trans u.ext)
    go_wp2_with (go_at_call 16; refine (HAW.out _ (HL.out.ext XU.out)).mono ?_)
    rintro e w5 ⟨rfl, x5⟩
    go_wp2_with fail
    go_ret
    exact ⟨rfl, XU.out.trans x5⟩
  obtain ⟨aa2, ac2, ka2, kc2, rfl⟩ := host_in r3
  have BM := qh hb
  have xm := (Ext.refl w3).alloc (.cells #[.int .i64 m.tag, .slice aa2 m.attrs.length ac2, .string m.text, .slice ka2 m.kids.length kc2] 26)
  have bm := heap_alloc_new w3 (.cells #[.int .i64 m.tag, .slice aa2 m.attrs.length ac2, .string m.text, .slice ka2 m.kids.length kc2] 26)
  go_upto_region 5 with fail
  obtain ⟨w4, hw4⟩ : ∃ w4 : World, w4 = w3.alloc (.cells #[.int .i64 m.tag, .slice aa2 m.attrs.length ac2, .string m.text, .slice ka2 m.kids.length kc2] 26) := ⟨_, rfl⟩
  rw [← hw4] at xm bm ⊢
  clear hw4
  have X4 := qh ((X1.out.trans x3).trans xm)
  obtain ⟨sx, hsx⟩ : ∃ s : ByteArray, bs n.inner = s := ⟨_, rfl⟩
  obtain ⟨sy, hsy⟩ : ∃ s : ByteArray, bs m.inner = s := ⟨_, rfl⟩
  have TN := qh (Bt.mk (wz := w4) (n := n) (HL.out.ext X4.out) (RdN.cells R1.out ((XA1.out.trans x3).trans xm).cells) BU.out hsx)
  have TM := qh (Bt.mk (wz := w4) (n := m) (HL.out.ext X4.out) (RdN.cells r3 xm.cells) BM.out hsy)
  have bn := (x3.trans xm).block BB.out
  obtain ⟨ab, hab⟩ : ∃ ab, w1.heap.size = ab := ⟨_, rfl⟩
  obtain ⟨am, ham⟩ : ∃ am, w3.heap.size = am := ⟨_, rfl⟩
  rw [hab] at bn ⊢
  rw [ham] at bm ⊢
  have B4 := qh bn
  have M4 := qh bm
  have lx : sx.size = n.inner.length := by rw [← hsx, bs_size]
  have ly : sy.size = m.inner.length := by rw [← hsy, bs_size]
  have HSX := qh hsx
  have HSY := qh hsy
  have LX := qh (And.intro lx ly)
  clear hsx hsy lx ly hab ham bn bm xm x3 r3 hb R1 XA1 BB X1
  have n0 := fun u : ExtOf w4 => u.ext.cell (cells4 B4.out).1
  have n1 := fun u : ExtOf w4 => u.ext.cell (cells4 B4.out).2.1
  have n2 := fun u : ExtOf w4 => u.ext.cell (cells4 B4.out).2.2.1
  have n3 := fun u : ExtOf w4 => u.ext.cell (cells4 B4.out).2.2.2
  have m0 := fun u : ExtOf w4 => u.ext.cell (cells4 M4.out).1
  have m1 := fun u : ExtOf w4 => u.ext.cell (cells4 M4.out).2.1
  have m2 := fun u : ExtOf w4 => u.ext.cell (cells4 M4.out).2.2.1
  have m3 := fun u : ExtOf w4 => u.ext.cell (cells4 M4.out).2.2.2
  have zn : n.size ≤ 2000 := by have := BU.out.nsize; have := BU.out.size; omega
  have zm : m.size ≤ 2000 := by have := BM.out.nsize; have := BM.out.size; omega
  by_cases hz : 2000 < n.size + m.size
  · have d3 : decide ((n.size : Int) + (m.size : Int) > 2000) = true := decide_eq_true (by omega)
    clear hz
    refine wp_region_ext (by kernel_rfl) (by kernel_rfl) ?_
    repeat (go_big_quiet_step (first | (go_at_call 18; exact inExt (bt_size (by first | exact TN.out | exact TM.out) _))))
    refine wpQuiet_nil ?_
    rintro _ ⟨u, rfl⟩
    have XU := qh (X4.out.trans u.ext)
    clear n0 n1 n2 n3 m0 m1 m2 m3
    go_wp2_with (go_at_call 16; refine (HAW.out _ (HL.out.ext XU.out)).mono ?_)
    rintro e w5 ⟨rfl, x5⟩
    go_wp2_with fail
    go_ret
    exact ⟨rfl, XU.out.trans x5⟩
  have d3 : decide ((n.size : Int) + (m.size : Int) > 2000) = false := decide_eq_false (by omega)
  have HZ := qh hz
  clear hz
  refine wp_region_ext (by kernel_rfl) (by kernel_rfl) ?_
  repeat (go_big_quiet_step (first | (go_at_call 18; exact inExt (bt_size (by first | exact TN.out | exact TM.out) _))))
  refine wpQuiet_nil ?_
  rintro _ ⟨u, rfl⟩
  obtain ⟨w5, x5⟩ := u
  dsimp only
  have X5 := qh (X4.out.trans x5)
  have TN5 := qh (TN.out.more x5)
  have TM5 := qh (TM.out.more x5)
  have B5 := qh (x5.block B4.out)
  have M5 := qh (x5.block M4.out)
  clear n0 n1 n2 n3 m0 m1 m2 m3 x5 zn zm d3 TN TM B4 M4 X4
  go_upto_region 7 with fail
  have n0 := fun u : ExtOf w5 => u.ext.cell (cells4 B5.out).1
  have n1 := fun u : ExtOf w5 => u.ext.cell (cells4 B5.out).2.1
  have n2 := fun u : ExtOf w5 => u.ext.cell (cells4 B5.out).2.2.1
  have n3 := fun u : ExtOf w5 => u.ext.cell (cells4 B5.out).2.2.2
  have m0 := fun u : ExtOf w5 => u.ext.cell (cells4 M5.out).1
  have m1 := fun u : ExtOf w5 => u.ext.cell (cells4 M5.out).2.1
  have m2 := fun u : ExtOf w5 => u.ext.cell (cells4 M5.out).2.2.1
  have m3 := fun u : ExtOf w5 => u.ext.cell (cells4 M5.out).2.2.2
  refine wp_region_ext (by kernel_rfl) (by kernel_rfl) ?_
  repeat (go_big_quiet_step (first | (go_at_call 17; exact inExt (bt_inner (by first | exact TN5.out | exact TM5.out) _))))
  refine wpQuiet_nil ?_
  rintro _ ⟨u, rfl⟩
  obtain ⟨w6, x6⟩ := u
  dsimp only
  have X6 := qh (X5.out.trans x6)
  have TN6 := qh (TN5.out.more x6)
  have TM6 := qh (TM5.out.more x6)
  have B6 := qh (x6.block B5.out)
  have M6 := qh (x6.block M5.out)
  clear n0 n1 n2 n3 m0 m1 m2 m3 x6 TN5 TM5 B5 M5 X5
  go_upto_region 8 with fail
  have n3 := (cells4 B6.out).2.2.2
  have m3 := (cells4 M6.out).2.2.2
  have hx9 : sx.size ≤ 100000000000000 := by rw [LX.out.1]; exact Nat.le_trans (inner_len n) BU.out.cost
  have hy9 : sy.size ≤ 100000000000000 := by rw [LX.out.2]; exact Nat.le_trans (inner_len m) BM.out.cost
  obtain ⟨bb, hbb⟩ : ∃ bb, (decide (8192 < sx.size + sy.size) || besideB n m) = bb := ⟨_, rfl⟩
  go_cut [91] (fun q wx => q = .bool bb ∧ Ext w6 wx)
  case first =>
    by_cases hlong : 8192 < sx.size + sy.size
    · have d4 : decide ((sx.size : Int) + (sy.size : Int) > 8192) = true := decide_eq_true (by omega)
      have hb0 : bb = true := by rw [← hbb, decide_eq_true hlong]; rfl
      subst hb0
      clear hbb hlong
      go_wp2_with fail
      go_meet
      exact ⟨rfl, Ext.refl _⟩
    have d4 : decide ((sx.size : Int) + (sy.size : Int) > 8192) = false := decide_eq_false (by omega)
    rw [decide_eq_false hlong, Bool.false_or] at hbb
    clear hlong
    have ln2 : n.kids.length ≤ 2000 := by have := PN.sizes_len n.kids; have := BU.out.size; omega
    have lm2 : m.kids.length ≤ 2000 := by have := PN.sizes_len m.kids; have := BM.out.size; omega
    by_cases hn0 : n.kids.length = 0
    · have e0 : decide ((n.kids.length : Int) > 0) = false := decide_eq_false (by omega)
      have e0n : decide (0 < n.kids.length) = false := decide_eq_false (by omega)
      have e0i : decide (0 < (n.kids.length : Int)) = false := decide_eq_false (by omega)
      have hb0 : bb = false := by
        rw [← hbb]; unfold besideB
        rw [List.eq_nil_of_length_eq_zero hn0]
        rfl
      subst hb0
      clear hbb hn0
      go_wp2_with fail
      go_meet
      exact ⟨rfl, Ext.refl _⟩
    have e0 : decide ((n.kids.length : Int) > 0) = true := decide_eq_true (by omega)
    have e0n : decide (0 < n.kids.length) = true := decide_eq_true (by omega)
    have e0i : decide (0 < (n.kids.length : Int)) = true := decide_eq_true (by omega)
    by_cases hm0 : m.kids.length = 0
    · have e1 : decide ((m.kids.length : Int) > 0) = false := decide_eq_false (by omega)
      have e1n : decide (0 < m.kids.length) = false := decide_eq_false (by omega)
      have e1i : decide (0 < (m.kids.length : Int)) = false := decide_eq_false (by omega)
      have hb0 : bb = false := by
        rw [← hbb]; unfold besideB
        rw [List.eq_nil_of_length_eq_zero hm0]
        cases n.kids.getLast? <;> rfl
      subst hb0
      clear hbb hm0 hn0
      go_wp2_with fail
      go_meet
      exact ⟨rfl, Ext.refl _⟩
    have e1 : decide ((m.kids.length : Int) > 0) = true := decide_eq_true (by omega)
    have e1n : decide (0 < m.kids.length) = true := decide_eq_true (by omega)
    have e1i : decide (0 < (m.kids.length : Int)) = true := decide_eq_true (by omega)
    obtain ⟨j, hj⟩ : ∃ j, n.kids.length = j + 1 := ⟨n.kids.length - 1, by omega⟩
    obtain ⟨x, hx⟩ : ∃ x, n.kids[j]? = some x := ⟨n.kids[j]'(by omega), by simp⟩
    obtain ⟨y, hy⟩ : ∃ y, m.kids[0]? = some y := ⟨m.kids[0]'(by omega), by simp⟩
    have hbv : bb = (x.tag == 0 && y.tag == 0) := by
      rw [← hbb]; unfold besideB
      rw [List.getLast?_eq_getElem?, hj, Nat.add_sub_cancel, hx, List.head?_eq_getElem?, hy]
    obtain ⟨⟨bk, o, sp⟩, rfl, _, _, _, _, q0, _, _, _⟩ := kid_in TN6.out.rd hx
    obtain ⟨⟨bk2, o2, sp2⟩, rfl, _, _, _, _, r0, _, _, _⟩ := kid_in TM6.out.rd hy
    rw [show j = n.kids.length - 1 by omega] at q0
    replace r0 : w6.cell? ⟨bk2, o2, sp2⟩ = some (.int .i64 y.tag) := r0
    have hlm : 0 < m.kids.length := by omega
    have hln : 1 ≤ (n.kids.length : Int) ∧ (n.kids.length : Int) - 1 < (n.kids.length : Int) := by omega
    clear hbb hm0 hn0 hx hy hj
    rcases bcases (x.tag == 0) with t1 | t1
    · rcases bcases (y.tag == 0) with t2 | t2
      · have hb0 : bb = true := by rw [hbv, t1, t2]; rfl
        subst hb0
        clear hbv
        go_wp2_with fail
        go_meet
        exact ⟨rfl, Ext.refl _⟩
      · have hb0 : bb = false := by rw [hbv, t1, t2]; rfl
        subst hb0
        clear hbv
        go_wp2_with fail
        go_meet
        exact ⟨rfl, Ext.refl _⟩
    · have hb0 : bb = false := by rw [hbv, t1]; rfl
      subst hb0
      clear hbv
      go_wp2_with fail
      go_meet
      exact ⟨rfl, Ext.refl _⟩
  case rest =>
    obtain ⟨rfl, hcut⟩ := hcut
    have X7 := qh (X6.out.trans hcut)
    have TN7 := qh (TN6.out.more hcut)
    have TM7 := qh (TM6.out.more hcut)
    have B7 := qh (hcut.block B6.out)
    have M7 := qh (hcut.block M6.out)
    clear n3 m3 TN6 TM6 B6 M6 X6 hcut
    cases bb with
    | true =>
      clear hbb
      go_wp2_with (go_at_call 16; refine (HAW.out _ (HL.out.ext X7.out)).mono ?_)
      rintro e w8 ⟨rfl, x8⟩
      go_wp2_with fail
      go_ret
      exact ⟨rfl, X7.out.trans x8⟩
    | false =>
      rw [Bool.or_eq_false_iff, decide_eq_false_iff_not] at hbb
      obtain ⟨hb1, hb2⟩ := hbb
      have hz9 : n.size + m.size ≤ 2000 := by have := HZ.out; omega
      have hl9 : n.inner.length + m.inner.length ≤ 8192 := by have := LX.out; omega
      have hbk := beside_back BU.out BM.out hz9 (beside_no hb2) hl9 wc (HL.out.ext X7.out)
      rw [HSX.out, HSY.out] at hbk
      obtain ⟨b, hbn⟩ : ∃ b, bothN n m = b := ⟨_, rfl⟩
      have HKS := qh (show b.kids = n.kids ++ m.kids by rw [← hbn]; rfl)
      rw [hbn] at hbk
      obtain ⟨sxy, hs⟩ : ∃ z, sx ++ sy = z := ⟨_, rfl⟩
      have e1 : ∀ W : World, (Op.stringOp .add sx sy).run Tryz.prog W = .ok (.string sxy) W := fun W => hs ▸ run_string_add_sum W _ _ (by omega)
      rw [hs] at hbk
      have HBK := qh hbk
      clear hbk hz9 hl9 hb1 hb2 hbn hs
      go_wp2_with (go_at_call 10; refine HBK.out.mono ?_)
      rintro e w8 ⟨v8, rfl, x8, r8⟩
      obtain ⟨aa3, ac3, ka3, kc3, rfl⟩ := host_in r8
      have xg := (Ext.refl w8).alloc (.cells #[.int .i64 b.tag, .slice aa3 b.attrs.length ac3, .string b.text, .slice ka3 b.kids.length kc3] 26)
      have bg := heap_alloc_new w8 (.cells #[.int .i64 b.tag, .slice aa3 b.attrs.length ac3, .string b.text, .slice ka3 b.kids.length kc3] 26)
      have R8 := qh r8
      clear r8 e1 hx9 hy9
      go_upto_region 11 with fail
      obtain ⟨w9, hw9⟩ : ∃ w9 : World, w9 = w8.alloc (.cells #[.int .i64 b.tag, .slice aa3 b.attrs.length ac3, .string b.text, .slice ka3 b.kids.length kc3] 26) := ⟨_, rfl⟩
      rw [← hw9] at xg bg ⊢
      clear hw9
      obtain ⟨ah, hah⟩ : ∃ ah, w8.heap.size = ah := ⟨_, rfl⟩
      rw [hah] at bg ⊢
      clear hah
      have X9 := qh (X7.out.trans (x8.trans xg))
      have TN9 := qh (TN7.out.more (x8.trans xg))
      have TM9 := qh (TM7.out.more (x8.trans xg))
      have RB9 := qh (RdN.cells R8.out xg.cells)
      have B9 := qh ((x8.trans xg).block B7.out)
      have M9 := qh ((x8.trans xg).block M7.out)
      have G9 := qh bg
      clear x8 xg bg TN7 TM7 B7 M7 X7 R8
      have n3 := (cells4 B9.out).2.2.2
      have m3 := (cells4 M9.out).2.2.2
      have b3 := (cells4 G9.out).2.2.2
      have ln2 : n.kids.length ≤ 2000 := by have := PN.sizes_len n.kids; have := BU.out.size; omega
      have lm2 : m.kids.length ≤ 2000 := by have := PN.sizes_len m.kids; have := BM.out.size; omega
      have hbl : b.kids.length = n.kids.length + m.kids.length := by rw [HKS.out, List.length_append]
      have f1 : ((b.kids.length : Int) != ((n.kids.length : Int) + (m.kids.length : Int))) = false := by rw [hbl]; simp
      have HBL := qh hbl
      have HLN := qh (And.intro ln2 lm2)
      clear hbl
      go_wp2_with fail
      have lb2 : b.kids.length ≤ 4000 := by have := HBL.out; omega
      clear f1 n3 m3 b3
      go_loopw [13] (fun i wr => ∃ k : Nat, k ≤ b.kids.length ∧ i = .int .i64 k ∧ Ext w9 wr) (fun i _ => b.kids.length - (intOf i).toNat)
      case atStart => exact ⟨0, Nat.zero_le _, rfl, Ext.refl _⟩
      case round =>
        obtain ⟨k, hk, rfl, xr⟩ := hrel
        have XR := qh xr
        clear xr
        have b3 := XR.out.cell (cells4 G9.out).2.2.2
        by_cases hlt : k < b.kids.length
        · have hltd : decide ((k : Int) < (b.kids.length : Int)) = true := decide_eq_true (by omega)
          obtain ⟨x, hx⟩ : ∃ x, b.kids[k]? = some x := ⟨b.kids[k], by simp [hlt]⟩
          by_cases hkn : k < n.kids.length
          · have g1 : decide ((k : Int) ≥ (n.kids.length : Int)) = false := decide_eq_false (by omega)
            have g2 : decide (n.kids.length ≤ k) = false := decide_eq_false (by omega)
            have hxn : n.kids[k]? = some x := by
              rw [HKS.out, List.getElem?_append_left hkn] at hx
              exact hx
            obtain ⟨kb, ko, kp, rfl, u1, u2, u3, u4, q0, q1, q2, q3, qx⟩ := kid4 RB9.out hx
            obtain ⟨jb, jo, jp, rfl, v1, v2, v3, v4, p0, p1, p2, p3, px⟩ := kid4 TN9.out.rd hxn
            have hfair := bulk_fair x (PN.bulks_iff.1 BU.out.bulk x (List.mem_of_getElem? hxn))
            obtain ⟨n0, n1, n2, n3⟩ := cells4 (XR.out.block B9.out)
            have xa := (Ext.refl wr).alloc (.cells #[.int .i64 n.tag, .slice aa n.attrs.length ac, .string n.text, .slice (some ⟨jb, jo, jp⟩) n.kids.length kc] 26)
            have bw := heap_alloc_new wr (.cells #[.int .i64 n.tag, .slice aa n.attrs.length ac, .string n.text, .slice (some ⟨jb, jo, jp⟩) n.kids.length kc] 26)
            have HKK := qh (And.intro hk hlt)
            have HX := qh (And.intro hx hxn)
            clear hx hxn
            go_upto_region 17 with fail
            obtain ⟨wq, hwq⟩ : ∃ wq : World, wq = wr.alloc (.cells #[.int .i64 n.tag, .slice aa n.attrs.length ac, .string n.text, .slice (some ⟨jb, jo, jp⟩) n.kids.length kc] 26) := ⟨_, rfl⟩
            rw [← hwq] at xa bw ⊢
            clear hwq
            obtain ⟨aw, haw⟩ : ∃ aw, wr.heap.size = aw := ⟨_, rfl⟩
            rw [haw] at bw ⊢
            clear haw
            have XQ := qh (XR.out.trans xa)
            have W3 := qh (cells4 bw).2.2.2
            replace n3 := xa.cell n3
            clear n0 n1 n2
            go_upto_region 20 with fail
            have SN := qh (fun u : ExtOf wq => SameNode_eq x hfair u.val _ _ (RdN.cells qx (XQ.out.trans u.ext).cells) (RdN.cells px (XQ.out.trans u.ext).cells))
            have c3 := fun u : ExtOf wq => (XQ.out.trans u.ext).cell (cells4 G9.out).2.2.2
            have w3 := fun u : ExtOf wq => u.ext.cell W3.out
            have s0 := fun u : ExtOf wq => (XQ.out.trans u.ext).cells _ _ q0
            have s1 := fun u : ExtOf wq => (XQ.out.trans u.ext).cells _ _ q1
            have s2 := fun u : ExtOf wq => (XQ.out.trans u.ext).cells _ _ q2
            have s3 := fun u : ExtOf wq => (XQ.out.trans u.ext).cells _ _ q3
            have t0 := fun u : ExtOf wq => (XQ.out.trans u.ext).cells _ _ p0
            have t1 := fun u : ExtOf wq => (XQ.out.trans u.ext).cells _ _ p1
            have t2 := fun u : ExtOf wq => (XQ.out.trans u.ext).cells _ _ p2
            have t3 := fun u : ExtOf wq => (XQ.out.trans u.ext).cells _ _ p3
            clear q0 q1 q2 q3 p0 p1 p2 p3 qx px n3 xa bw b3
            refine wp_region_ext (by kernel_rfl) (by kernel_rfl) ?_
            repeat (go_big_quiet_step (first | (go_at_call 12; exact inExt (SN.out _))))
            refine wpQuiet_nil ?_
            rintro _ ⟨u, rfl⟩
            have XU := qh (XQ.out.trans u.ext)
            clear c3 w3 s0 s1 s2 s3 t0 t1 t2 t3
            go_wp2_with fail
            go_roundw
            case rel => exact ⟨k + 1, by have := HKK.out; omega, by go_num, XU.out⟩
            case measure => have := HKK.out; simp [intOf]; omega
          · have g1 : decide ((k : Int) ≥ (n.kids.length : Int)) = true := decide_eq_true (by omega)
            have g2 : decide (n.kids.length ≤ k) = true := decide_eq_true (by omega)
            have hxm : m.kids[k - n.kids.length]? = some x := by
              rw [HKS.out, List.getElem?_append_right (by omega)] at hx
              exact hx
            obtain ⟨kb, ko, kp, rfl, u1, u2, u3, u4, q0, q1, q2, q3, qx⟩ := kid4 RB9.out hx
            obtain ⟨jb, jo, jp, rfl, v1, v2, v3, v4, p0, p1, p2, p3, px⟩ := kid4 TM9.out.rd hxm
            have hfair := bulk_fair x (PN.bulks_iff.1 BM.out.bulk x (List.mem_of_getElem? hxm))
            obtain ⟨n0, n1, n2, n3⟩ := cells4 (XR.out.block B9.out)
            obtain ⟨m0, m1, m2, m3⟩ := cells4 (XR.out.block M9.out)
            have xa := (Ext.refl wr).alloc (.cells #[.int .i64 n.tag, .slice aa n.attrs.length ac, .string n.text, .slice ka n.kids.length kc] 26)
            have bw := heap_alloc_new wr (.cells #[.int .i64 n.tag, .slice aa n.attrs.length ac, .string n.text, .slice ka n.kids.length kc] 26)
            have hbl := HBL.out
            have HKK := qh (And.intro hk hlt)
            have HX := qh (And.intro hx hxm)
            have hks : k - n.kids.length < m.kids.length := by omega
            have HKS2 := qh hks
            obtain ⟨i, hi⟩ : ∃ i, k = n.kids.length + i := ⟨k - n.kids.length, by omega⟩
            have HI := qh hi
            clear hx hxm hbl hks hi
            go_upto_region 17 with fail
            obtain ⟨wq, hwq⟩ : ∃ wq : World, wq = wr.alloc (.cells #[.int .i64 n.tag, .slice aa n.attrs.length ac, .string n.text, .slice ka n.kids.length kc] 26) := ⟨_, rfl⟩
            rw [← hwq] at xa bw ⊢
            clear hwq
            have hfar : ab ≠ wr.heap.size ∧ am ≠ wr.heap.size := by
              have h1 := (Array.getElem?_eq_some_iff.1 (XR.out.block B9.out)).1
              have h2 := (Array.getElem?_eq_some_iff.1 (XR.out.block M9.out)).1
              omega
            obtain ⟨aw, haw⟩ : ∃ aw, wr.heap.size = aw := ⟨_, rfl⟩
            rw [haw] at bw hfar ⊢
            have HAW9 := qh haw
            clear haw
            have XQ := qh (XR.out.trans xa)
            obtain ⟨w0, w1', w2', w3'⟩ := cells4 bw
            have z0 := freeOf bw 0
            have z1 := freeOf bw 1
            have z2 := freeOf bw 2
            have z3 := freeOf bw 3
            replace n3 := xa.cell n3
            replace m0 := xa.cell m0
            replace m1 := xa.cell m1
            replace m2 := xa.cell m2
            replace m3 := xa.cell m3
            clear n0 n1 n2
            go_upto_region 19 with fail
            go_region
            obtain ⟨W, hW⟩ : ∃ W : World, W = ((((wq.setCell ⟨aw, 0, none⟩ (.int .i64 m.tag)).setCell ⟨aw, 1, none⟩ (.slice aa2 m.attrs.length ac2)).setCell ⟨aw, 2, none⟩ (.string m.text)).setCell ⟨aw, 3, none⟩ (.slice (some ⟨jb, jo, jp⟩) m.kids.length kc2)).drew := ⟨_, rfl⟩
            rw [← hW]
            have hcw : W.cell? ⟨aw, 3, none⟩ = some (.slice (some ⟨jb, jo, jp⟩) m.kids.length kc2) := by
              rw [hW]
              simp [go_sem, w3', z3]
            have hge : w9.heap.size ≤ aw := by
              have h1 := (Array.getElem?_eq_some_iff.1 bw).1
              have h2 := XR.out.size
              have := HAW9.out
              omega
            have XW := qh (show Ext w9 W by
              rw [hW]
              exact ((((XQ.out.setCell (p := ⟨aw, 0, none⟩) hge _).setCell (p := ⟨aw, 1, none⟩) hge _).setCell (p := ⟨aw, 2, none⟩) hge _).setCell (p := ⟨aw, 3, none⟩) hge _).drew)
            have W3 := qh hcw
            clear hW hcw hge w0 w1' w2' w3' z0 z1 z2 z3 n3 m0 m1 m2 m3 xa bw b3
            go_wp2_with fail
            have SN := qh (fun u : ExtOf W => SameNode_eq x hfair u.val _ _ (RdN.cells qx (XW.out.trans u.ext).cells) (RdN.cells px (XW.out.trans u.ext).cells))
            have c3 := fun u : ExtOf W => (XW.out.trans u.ext).cell (cells4 G9.out).2.2.2
            have w3 := fun u : ExtOf W => u.ext.cell W3.out
            have s0 := fun u : ExtOf W => (XW.out.trans u.ext).cells _ _ q0
            have s1 := fun u : ExtOf W => (XW.out.trans u.ext).cells _ _ q1
            have s2 := fun u : ExtOf W => (XW.out.trans u.ext).cells _ _ q2
            have s3 := fun u : ExtOf W => (XW.out.trans u.ext).cells _ _ q3
            have t0 := fun u : ExtOf W => (XW.out.trans u.ext).cells _ _ p0
            have t1 := fun u : ExtOf W => (XW.out.trans u.ext).cells _ _ p1
            have t2 := fun u : ExtOf W => (XW.out.trans u.ext).cells _ _ p2
            have t3 := fun u : ExtOf W => (XW.out.trans u.ext).cells _ _ p3
            have hix : 0 ≤ (k : Int) - (n.kids.length : Int) ∧ (k : Int) - (n.kids.length : Int) < (m.kids.length : Int) := by
              have := HKS2.out
              omega
            have hnat : ((k : Int) - (n.kids.length : Int)).toNat = k - n.kids.length := by omega
            clear q0 q1 q2 q3 p0 p1 p2 p3 qx px
            go_upto_region 20 with fail
            refine wp_region_ext (by kernel_rfl) (by kernel_rfl) ?_
            repeat (go_big_quiet_step (first | (go_at_call 12; exact inExt (SN.out _))))
            refine wpQuiet_nil ?_
            rintro _ ⟨u, rfl⟩
            have XU := qh (XW.out.trans u.ext)
            clear c3 w3 s0 s1 s2 s3 t0 t1 t2 t3 hix hnat
            go_wp2_with fail
            go_roundw
            case rel => exact ⟨k + 1, by have := HKK.out; omega, by go_num, XU.out⟩
            case measure => have := HKK.out; simp [intOf]; omega
        · obtain rfl : k = b.kids.length := by omega
          have hltd : decide ((b.kids.length : Int) < (b.kids.length : Int)) = false := decide_eq_false (by omega)
          go_wp2_with (go_at_call 16; refine (HAW.out _ (HL.out.ext (X9.out.trans XR.out))).mono ?_)
          rintro e wz ⟨rfl, xz⟩
          go_wp2_with fail
          go_ret
          exact ⟨rfl, (X9.out.trans XR.out).trans xz⟩
end Go.Proofs.YtalaajbajgdglaaGreatDoor
