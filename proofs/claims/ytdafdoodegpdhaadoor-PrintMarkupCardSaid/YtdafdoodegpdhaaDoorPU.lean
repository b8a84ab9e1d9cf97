/- Package print: Normal: is a node normal? Conditions: the tables of unicode/utf8 are as laid; texts of at most 20000 bytes, at most 200 attributes each. -/
import Derived.Test.YtdafdoodegpdhaaDoorPSb
import Derived.Test.YtdafdoodegpdhaaDoorPSc
import Derived.Test.YtdafdoodegpdhaaDoorPSd
import Derived.Test.YtdafdoodegpdhaaDoorPSe
import Derived.Test.YtdafdoodegpdhaaDoorPK
namespace Go.Proofs.YtdafdoodegpdhaaDoor
open Go Go.RowKit Go.BigFrame
set_option linter.unusedVariables false
set_option linter.unusedSimpArgs false

theorem lnode_of {w0 : World} {n : PN} (hT : Tabs w0) (hkids : KOk w0 n) (htx : n.text.size ≤ 100000) (hal : n.attrs.length ≤ 100000000000000) : NOk w0 n := by
  rcases clsT_range n.tag with h | h | h | h | h | h
  · exact lnode_0 h hT hkids htx hal
  · exact lnode_1 h hT hkids htx hal
  · exact lnode_2 h hT hkids htx hal
  · exact lnode_3 h hT hkids htx hal
  · exact lnode_4 h hT hkids htx hal
  · exact lnode_5 h hT hkids htx hal
theorem PN.lights_mem {l : List PN} (h : PN.lights l = true) {k : PN} (hk : k ∈ l) : k.light = true := by
  induction l with
  | nil => cases hk
  | cons x r ih =>
    simp only [PN.lights, Bool.and_eq_true] at h
    rcases List.mem_cons.1 hk with rfl | hk
    · exact h.1
    · exact ih h.2 hk
theorem lnode_any {w0 : World} (hT : Tabs w0) : ∀ n : PN, n.light = true → NOk w0 n := by
  refine PN.induct _ fun n ih hl => ?_
  rw [PN.light_eq] at hl
  simp only [Bool.and_eq_true, decide_eq_true_eq] at hl
  exact lnode_of hT (kids_of fun k hk => ih k hk (PN.lights_mem hl.2 hk)) (by omega) (by omega)
theorem lkids_any {w0 : World} (hT : Tabs w0) {n : PN} (hl : n.light = true) : KOk w0 n := by
  rw [PN.light_eq] at hl
  simp only [Bool.and_eq_true, decide_eq_true_eq] at hl
  exact kids_of fun k hk => lnode_any hT k (PN.lights_mem hl.2 hk)
set_option maxHeartbeats 2000000 in
set_option maxRecDepth 100000 in
theorem Normal_any (w : World) (n : PN) (v : Value) (hT : Tabs w) (hr : RdN w n v) (hl : n.light = true) (hc : n.cost ≤ 100000000000000) : Calls Tryd.prog 15 #[v] w (RBool n.whole w) := by
  obtain ⟨y1, y2, y3, y4, rfl⟩ := hr.shape
  have x1 := ((Ext.refl w).alloc (.cells #[.int .i64 n.tag, .slice y1 n.attrs.length y2, .string n.text, .slice y3 n.kids.length y4] 25))
  have bb := heap_alloc_new w (.cells #[.int .i64 n.tag, .slice y1 n.attrs.length y2, .string n.text, .slice y3 n.kids.length y4] 25)
  have HR := Lib.hid hr
  have HT := Lib.hid hT
  have HL := Lib.hid hl
  have HC := Lib.hid hc
  obtain ⟨r, hr9⟩ : ∃ r, n.whole = r := ⟨_, rfl⟩
  rw [hr9]
  have HR9 := Lib.hid hr9
  clear hr hT hl hc hr9
  go_enter Tryd.func15, Tryd.ntmps15
  go_upto_region 2 with fail
  obtain ⟨w1, hw1⟩ : ∃ w1 : World, w1 = w.alloc (.cells #[.int .i64 n.tag, .slice y1 n.attrs.length y2, .string n.text, .slice y3 n.kids.length y4] 25) := ⟨_, rfl⟩
  have hsz : w1.heap.size = w.heap.size + 1 := by rw [hw1]; simp
  rw [← hw1] at x1 bb ⊢
  clear hw1
  have x2 := x1.alloc (.cells #[.int .i64 1] 58)
  have b2 := ((Ext.refl w1).alloc (.cells #[.int .i64 1] 58)).block bb
  have o2 := One.at w1 (w.heap.size + 1) (.int .i64 1) 58 hsz.symm
  obtain ⟨w2, hw2⟩ : ∃ w2 : World, w2 = w1.alloc (.cells #[.int .i64 1] 58) := ⟨_, rfl⟩
  rw [← hw2] at x2 b2 o2 ⊢
  clear hw2 hsz bb x1
  have n0 := cellOf b2 (i := 0) (v := .int .i64 n.tag) rfl
  have n1 := cellOf b2 (i := 1) (v := .slice y1 n.attrs.length y2) rfl
  have n2 := cellOf b2 (i := 2) (v := .string n.text) rfl
  have n3 := cellOf b2 (i := 3) (v := .slice y3 n.kids.length y4) rfl
  have X2 := Lib.hid x2
  have B2 := Lib.hid b2
  have O2 := Lib.hid o2
  clear x2 b2 o2
  have h1 : (n.tag == 1) = true ∨ (n.tag == 1) = false := by cases (n.tag == 1); exact .inr rfl; exact .inl rfl
  rcases h1 with h1 | h1
  case inr =>
    have hr0 : r = false := by rw [← HR9.out]; unfold PN.whole; have : ¬ n.tag = 1 := by simpa using h1
                               rw [decide_eq_false this]; simp
    subst hr0
    go_wp2_with fail
    go_ret
    exact ⟨rfl, X2.out⟩
  have T1 := Lib.hid (show n.tag = 1 by simpa using h1)
  by_cases h2 : n.attrs.length = 0
  case neg =>
    have e2 : ((n.attrs.length : Int) == 0) = false := by simpa using h2
    have hr0 : r = false := by rw [← HR9.out]; unfold PN.whole; rw [isEmpty_no h2]; simp
    subst hr0
    clear h2
    go_wp2_with fail
    go_ret
    exact ⟨rfl, X2.out⟩
  have e2 : ((n.attrs.length : Int) == 0) = true := by simpa using h2
  have A2 := Lib.hid (show n.attrs.isEmpty = true from by rw [List.isEmpty_iff]; exact List.eq_nil_of_length_eq_zero h2)
  clear h2
  by_cases h3 : n.text.size = 0
  case neg =>
    have e3 : (n.text.toList == ([] : List UInt8)) = false := text_some h3
    have hr0 : r = false := by rw [← HR9.out]; unfold PN.whole; simp [h3]
    subst hr0
    clear h3
    go_wp2_with fail
    go_ret
    exact ⟨rfl, X2.out⟩
  have e3 : (n.text.toList == ([] : List UInt8)) = true := text_none h3
  have A3 := Lib.hid h3
  clear h3
  have HK := Lib.hid (lkids_any HT.out HL.out (w.heap.size + 1) 1 1 true false false w2 _ HR.out X2.out (Nat.le_succ _) O2.out (by decide) (by decide) (by decide))
  obtain ⟨q, hq9⟩ : ∃ q, (PN.norms 1 true false false false n.kids && decide (1 + PN.sizes n.kids ≤ 2000)) = q := ⟨_, rfl⟩
  have HW := Lib.hid (show r = (q && decide (n.inner.length ≤ 8192)) from by
    rw [← HR9.out, ← hq9]
    unfold PN.whole
    rw [decide_eq_true T1.out, A2.out, A3.out, PN.size_eq, show PN.sizes n.kids + 1 = 1 + PN.sizes n.kids by omega]
    simp)
  have HQ9 := Lib.hid hq9
  clear hq9
  go_wp2_with (go_at_call 33; refine HK.out.mono ?_)
  rintro e w3 ⟨c3, rfl, x3, o3, h3⟩
  rw [HQ9.out]
  have hx3 : Ext w w3 := x3.ext X2.out (Nat.le_succ _)
  have hb3 := x3.heap B2.out (show w.heap.size ≠ w.heap.size + 1 by omega)
  have X3 := Lib.hid hx3
  clear x3 o3 h3 n0 n1 n2 n3
  cases q with
  | false =>
    have hr0 : r = false := by rw [HW.out]; rfl
    subst hr0
    clear hx3 hb3
    go_wp2_with fail
    go_ret
    exact ⟨rfl, X3.out⟩
  | true =>
    have n0 := cellOf hb3 (i := 0) (v := .int .i64 n.tag) rfl
    have n1 := cellOf hb3 (i := 1) (v := .slice y1 n.attrs.length y2) rfl
    have n2 := cellOf hb3 (i := 2) (v := .string n.text) rfl
    have n3 := cellOf hb3 (i := 3) (v := .slice y3 n.kids.length y4) rfl
    have HI := Lib.hid (Inner_any w3 n _ (HR.out.cells hx3.cells) HC.out)
    obtain ⟨s, hs⟩ : ∃ s : ByteArray, (⟨n.inner.toArray⟩ : ByteArray) = s := ⟨_, rfl⟩
    rw [hs] at HI
    have hsl : s.size = n.inner.length := by rw [← hs]; show n.inner.toArray.size = _; simp
    have HSL := Lib.hid hsl
    clear hs hx3 hb3 hsl
    by_cases h8 : s.size ≤ 8192
    · have h8' : (s.size : Int) ≤ 8192 := by omega
      have hr0 : r = true := by rw [HW.out, ← HSL.out, decide_eq_true h8]; rfl
      subst hr0
      clear h8
      go_wp2_with (go_at_call 13; refine HI.out.mono ?_)
      rintro e w4 ⟨rfl, x4⟩
      have X4 := Lib.hid (X3.out.trans x4)
      clear x4 n0 n1 n2 n3
      go_wp2_with fail
      go_ret
      exact ⟨rfl, X4.out⟩
    · have h8' : ¬ (s.size : Int) ≤ 8192 := by omega
      have hr0 : r = false := by rw [HW.out, ← HSL.out, decide_eq_false h8]; rfl
      subst hr0
      clear h8
      go_wp2_with (go_at_call 13; refine HI.out.mono ?_)
      rintro e w4 ⟨rfl, x4⟩
      have X4 := Lib.hid (X3.out.trans x4)
      clear x4 n0 n1 n2 n3
      go_wp2_with fail
      go_ret
      exact ⟨by simp [h8'], X4.out⟩
end Go.Proofs.YtdafdoodegpdhaaDoor
