/- Package print: looker.node, and with it Normal's looks. Conditions: the tables of unicode/utf8 are as laid; texts of at most 20000 bytes, at most 200 attributes each. (Printed by wip/gen_ps.py.) -/
import Derived.Test.YtdafdoodegpdhaaDoorPSa
namespace Go.Proofs.YtdafdoodegpdhaaDoor
open Go Go.RowKit Go.BigFrame
set_option linter.unusedVariables false
set_option linter.unusedSimpArgs false

set_option maxHeartbeats 2000000 in
set_option maxRecDepth 100000 in
theorem lnode_5 {w0 : World} {n : PN} (hcls : clsT n.tag = 5) (hT : Tabs w0) (hkids : KOk w0 n) (htx : n.text.size ≤ 100000) (hal : n.attrs.length ≤ 100000000000000) : NOk w0 n := by
  intro b c d box line li w v hr hx hb ho hc hd hd2
  obtain ⟨av, kv, rfl, ha, hk⟩ := hr.open
  obtain ⟨ao, ac, rfl, _⟩ := ha.len_of
  obtain ⟨ka, kc, rfl, hk1, hk2, hk3, hk4⟩ := hk
  clear hk1 hk2 hk3 hk4
  have hbl := ho.lt
  have hws := hx.size
  have x1 := ((Ext.refl w).alloc (.cells #[.int .i64 n.tag, .slice ao n.attrs.length ac, .string n.text, .slice ka n.kids.length kc] 25))
  have bb := heap_alloc_new w (.cells #[.int .i64 n.tag, .slice ao n.attrs.length ac, .string n.text, .slice ka n.kids.length kc] 25)
  have fin : ∀ (q : Bool) (u : World) (c' : Nat), (n.norm d box line li && decide (c + n.size ≤ 2000)) = q → ExtB b w u → One u b (.int .i64 c') 58 → (q = true → c' = c + n.size) → Looked b c n.size (n.norm d box line li) w (.returned (.bool q)) u := by
    intro q u c' h1 h2 h3 h4
    exact ⟨c', by rw [h1], h2, h3, by rw [h1]; exact h4⟩
  have FIN := Lib.hid fin
  have HT := Lib.hid hT
  have HR := Lib.hid hr
  have HA0 := Lib.hid ha
  have HAL := Lib.hid hal
  have HTXT := Lib.hid htx
  have HX := Lib.hid hx
  have HNBB := Lib.hid hb
  have HKIDS := Lib.hid hkids
  have HSZ := Lib.hid n.size_eq
  have HO := Lib.hid ho
  clear fin hT hr ha hal htx hx hb hkids ho
  go_enter Tryd.func52, Tryd.ntmps52
  go_upto_region 1 with fail
  obtain ⟨w1, hw1⟩ : ∃ w1 : World, w1 = w.alloc (.cells #[.int .i64 n.tag, .slice ao n.attrs.length ac, .string n.text, .slice ka n.kids.length kc] 25) := ⟨_, rfl⟩
  have hsz : w1.heap.size = w.heap.size + 1 := by rw [hw1]; simp
  rw [← hw1] at x1 bb ⊢
  clear hw1
  have x2 := x1.alloc (.cells #[.int .i64 d, .bool box, .bool line, .bool li] 61)
  have b2 := ((Ext.refl w1).alloc (.cells #[.int .i64 d, .bool box, .bool line, .bool li] 61)).block bb
  have a2 := heap_alloc_new w1 (.cells #[.int .i64 d, .bool box, .bool line, .bool li] 61)
  rw [hsz] at a2
  obtain ⟨w2, hw2⟩ : ∃ w2 : World, w2 = w1.alloc (.cells #[.int .i64 d, .bool box, .bool line, .bool li] 61) := ⟨_, rfl⟩
  have hs2 : w.heap.size + 2 = w2.heap.size := by rw [hw2]; simp [hsz]
  have HS2 := Lib.hid hs2
  rw [← hw2] at x2 b2 a2 ⊢
  clear hw2 hsz x1 bb hs2
  have o2 := HO.out.ext x2
  have oc := o2.cell
  have of := o2.free
  have hwr : IntKind.i64.wrap ((c : Int) + 1) = ((c + 1 : Nat) : Int) := by rw [IntWalk.i64_left, IntWalk.wrap64_in _ (by omega)]; omega
  have B2 := Lib.hid b2
  have A2 := Lib.hid a2
  have X2 := Lib.hid x2
  have O2 := Lib.hid o2
  clear b2 a2 x2 o2
  go_upto_region 2 with fail
  obtain ⟨w3, hw3⟩ : ∃ w3 : World, w3 = w2.setCell ⟨b, 0, none⟩ (.int .i64 ((c : Int) + 1)) := ⟨_, rfl⟩
  have o3 : One w3 b (.int .i64 ((c : Int) + 1)) 58 := by rw [hw3]; exact O2.out.set _
  have nb3 : w3.heap[w.heap.size]? = some (.cells #[.int .i64 n.tag, .slice ao n.attrs.length ac, .string n.text, .slice ka n.kids.length kc] 25 (0, 0)) := by rw [hw3]; exact (heap_setCell_other (p := ⟨b, 0, none⟩) _ (by show w.heap.size ≠ b; omega)).trans B2.out
  have ab3 : w3.heap[w.heap.size + 1]? = some (.cells #[.int .i64 d, .bool box, .bool line, .bool li] 61 (0, 0)) := by rw [hw3]; exact (heap_setCell_other (p := ⟨b, 0, none⟩) _ (by show w.heap.size + 1 ≠ b; omega)).trans A2.out
  have x3 : ExtB b w w3 := by rw [hw3]; exact (X2.out.toB b).setCell (p := ⟨b, 0, none⟩) (.inl rfl) _
  have hs3 : w3.heap.size = w.heap.size + 2 := by rw [hw3]; simp [World.setCell]; exact HS2.out.symm
  rw [← hw3]
  clear hw3 oc of hwr
  have oc := o3.cell
  have n0 := cellOf nb3 (i := 0) (v := .int .i64 n.tag) rfl
  have v0 := cellOf ab3 (i := 0) (v := .int .i64 d) rfl
  have O3 := Lib.hid (show One w3 b (.int .i64 ((c + 1 : Nat) : Int)) 58 from by rw [show ((c + 1 : Nat) : Int) = (c : Int) + 1 by omega]; exact o3)
  have X3 := Lib.hid x3
  have NB3 := Lib.hid nb3
  have AB3 := Lib.hid ab3
  have HS3 := Lib.hid hs3
  clear o3 x3 nb3 ab3 hs3
  by_cases hc1 : c + 1 ≤ 2000
  case neg =>
    have hc2 : (2000 : Int) < (c : Int) + 1 := by omega
    have hz : (n.norm d box line li && decide (c + n.size ≤ 2000)) = false := by
      have := n.size_pos
      rw [decide_eq_false (by omega)]; simp
    have HZ := Lib.hid hz
    clear hc1 hz
    go_wp2_with fail
    go_ret
    exact FIN.out _ _ _ HZ.out X3.out O3.out (fun h => by cases h)
  have hc2 : ¬ (2000 : Int) < (c : Int) + 1 := by omega
  have HC1 := Lib.hid hc1
  clear hc1
  by_cases hd3 : 40 < d
  · have hz : (n.norm d box line li && decide (c + n.size ≤ 2000)) = false := by
      rw [PN.norm_eq, decide_eq_false (by omega)]; simp
    have HZ := Lib.hid hz
    clear hz
    go_wp2_with fail
    go_ret
    exact FIN.out _ _ _ HZ.out X3.out O3.out (fun h => by cases h)
  have hd4 : d ≤ 40 := by omega
  have HD4 := Lib.hid (show decide (d ≤ 40) = true from decide_eq_true hd4)
  have hcl := Class_any w3 n.tag
  rw [hcls] at hcl
  have HCLS := Lib.hid hcl
  have HCL := Lib.hid hcls
  clear hcl hcls
  have hdw : IntKind.i64.wrap (d + 1) = d + 1 := by rw [IntWalk.i64_left, IntWalk.wrap64_in _ (by omega)]
  go_upto_region 6 with (refine HCLS.out.mono ?_; rintro e w4 ⟨rfl, x4⟩; clear v0; have ab4 := x4.block AB3.out; have v0 := cellOf ab4 (i := 0) (v := .int .i64 d) rfl; have v1 := cellOf ab4 (i := 1) (v := .bool box) rfl; have v2 := cellOf ab4 (i := 2) (v := .bool line) rfl; have v3 := cellOf ab4 (i := 3) (v := .bool li) rfl; have O4 := Lib.hid (O3.out.ext x4); have X4 := Lib.hid (X3.out.trans (x4.toB b)); have NB4 := Lib.hid (x4.block NB3.out); have AB4 := Lib.hid ab4; have HS4 := Lib.hid (Nat.le_trans (Nat.le_of_eq HS3.out.symm) x4.size); clear x4 ab4 n0)
  clear v0 v1 v2 v3
  obtain ⟨bi, hbi⟩ : ∃ bi, w4.heap.size = bi := ⟨_, rfl⟩
  obtain ⟨wI, hwI⟩ : ∃ wI : World, wI = w4.alloc (.cells #[.int .i64 (d + 1), .bool false, .bool line, .bool li] 61) := ⟨_, rfl⟩
  have xI : Ext w4 wI := by rw [hwI]; exact (Ext.refl w4).alloc _
  have ib0 : wI.heap[bi]? = some (.cells #[.int .i64 (d + 1), .bool false, .bool line, .bool li] 61 (0, 0)) := by rw [← hbi, hwI]; exact heap_alloc_new w4 _
  rw [← hwI, hbi]
  clear hwI
  have HBI := Lib.hid (show w.heap.size ≠ bi ∧ b ≠ bi ∧ w.heap.size ≤ bi by have := HS4.out; omega)
  have NBI := Lib.hid (xI.block NB4.out)
  have ABI := Lib.hid (xI.block AB4.out)
  have ONI := Lib.hid (O4.out.ext xI)
  have XI := Lib.hid (X4.out.trans (xI.toB b))
  have IB0 := Lib.hid ib0
  have n0 := cellOf NBI.out (i := 0) (v := .int .i64 n.tag) rfl
  have n1 := cellOf NBI.out (i := 1) (v := .slice ao n.attrs.length ac) rfl
  have n2 := cellOf NBI.out (i := 2) (v := .string n.text) rfl
  have n3 := cellOf NBI.out (i := 3) (v := .slice ka n.kids.length kc) rfl
  have v0 := cellOf ABI.out (i := 0) (v := .int .i64 d) rfl
  have v1 := cellOf ABI.out (i := 1) (v := .bool box) rfl
  have v2 := cellOf ABI.out (i := 2) (v := .bool line) rfl
  have v3 := cellOf ABI.out (i := 3) (v := .bool li) rfl
  clear xI ib0 hbi hdw HCLS
  by_cases ht : n.text.size = 0
  · have e3 : (n.text.toList == ([] : List UInt8)) = true := text_none ht
    have HTX := Lib.hid ht
    have hx0 : Ext w0 wI := XI.out.ext HX.out HNBB.out
    have HA := Lib.hid (AMay_any n.attrs _ wI (HA0.out.cells hx0.cells) HAL.out (HT.out.ext hx0))
    clear ht hx0
    have hm : attrsMay n.attrs = true ∨ attrsMay n.attrs = false := by cases attrsMay n.attrs; exact .inr rfl; exact .inl rfl
    rcases hm with hm | hm
    · rw [hm] at HA
      by_cases hk0 : n.kids.length = 0
      · have e4 : ((n.kids.length : Int) == 0) = true := by simpa using hk0
        have hkn : n.kids = [] := List.eq_nil_of_length_eq_zero hk0
        have hsz1 : c + 1 = c + n.size := by rw [HSZ.out, hkn]; simp [PN.sizes]
        have hz : (n.norm d box line li && decide (c + n.size ≤ 2000)) = true := by
          have := HC1.out
          rw [PN.norm_eq, HCL.out, HD4.out, decide_eq_true (by omega), hkn, hm, HTX.out]; rfl
        have HZ := Lib.hid hz
        have HS1 := Lib.hid hsz1
        clear hz hm hk0 hkn hsz1
        go_wp2_with (go_at_call 70; refine HA.out.mono ?_)
        rintro e w6 ⟨rfl, x6⟩
        have n3 := x6.cell n3
        have X6 := Lib.hid (XI.out.trans (x6.toB b))
        have O6 := Lib.hid (ONI.out.ext x6)
        clear x6 n0 n1 n2
        go_wp2_with fail
        go_ret
        exact FIN.out _ _ _ HZ.out X6.out O6.out (fun _ => HS1.out)
      · have e4 : ((n.kids.length : Int) == 0) = false := by simpa using hk0
        have hz : (n.norm d box line li && decide (c + n.size ≤ 2000)) = false := by rw [PN.norm_eq, HCL.out, isEmpty_no hk0]; simp
        have HZ := Lib.hid hz
        clear hz hm hk0
        go_wp2_with (go_at_call 70; refine HA.out.mono ?_)
        rintro e w6 ⟨rfl, x6⟩
        have n3 := x6.cell n3
        have X6 := Lib.hid (XI.out.trans (x6.toB b))
        have O6 := Lib.hid (ONI.out.ext x6)
        clear x6 n0 n1 n2
        go_wp2_with fail
        go_ret
        exact FIN.out _ _ _ HZ.out X6.out O6.out (fun h => by cases h)
    · rw [hm] at HA
      have hz : (n.norm d box line li && decide (c + n.size ≤ 2000)) = false := by rw [PN.norm_eq, HCL.out, hm]; simp
      have HZ := Lib.hid hz
      clear hz hm
      go_wp2_with (go_at_call 70; refine HA.out.mono ?_)
      rintro e w6 ⟨rfl, x6⟩
      have X6 := Lib.hid (XI.out.trans (x6.toB b))
      have O6 := Lib.hid (ONI.out.ext x6)
      clear x6 n0 n1 n2 n3
      go_wp2_with fail
      go_ret
      exact FIN.out _ _ _ HZ.out X6.out O6.out (fun h => by cases h)
  · have e3 : (n.text.toList == ([] : List UInt8)) = false := text_some ht
    have hz : (n.norm d box line li && decide (c + n.size ≤ 2000)) = false := by rw [PN.norm_eq, HCL.out]; simp [ht]
    have HZ := Lib.hid hz
    clear hz ht
    go_wp2_with fail
    go_ret
    exact FIN.out _ _ _ HZ.out XI.out ONI.out (fun h => by cases h)
end Go.Proofs.YtdafdoodegpdhaaDoor
