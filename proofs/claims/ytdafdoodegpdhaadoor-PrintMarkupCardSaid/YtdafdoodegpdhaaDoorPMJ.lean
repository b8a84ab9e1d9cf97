/- The document's answer whether a node is normal (16): Normal; and the law PrintMarkup's walk. Conditions: the tables of unicode/utf8 are as laid. -/
import Derived.Test.YtdafdoodegpdhaaDoorPMI
import Derived.Test.YtdafdoodegpdhaaDoorPZ
namespace Go.Proofs.YtdafdoodegpdhaaDoor
open Go Go.RowKit Go.BigFrame
set_option linter.unusedVariables false
set_option linter.unusedSimpArgs false

theorem rnormal_any (w0 : World) : ∀ n : PN, NRef w0 n := by
  refine PN.induct _ fun n ih => ?_
  by_cases h : n.tag = 0
  · exact rnormal_text h
  · exact rnormal_el h (rkids_of ih)
theorem rkids_any (w0 : World) (n : PN) : KRef w0 n := rkids_of fun k _ => rnormal_any w0 k
set_option maxHeartbeats 2000000 in
set_option maxRecDepth 100000 in
theorem rNormal_any (w : World) (n : PN) (v : Value) (hr : RdN w n v) (hc : n.cost ≤ 1000000000000) (hz : n.size ≤ 100000) : Calls Tryd.prog 16 #[v] w (RBool n.whole w) := by
  obtain ⟨y1, y2, y3, y4, rfl⟩ := hr.shape
  have x1 := ((Ext.refl w).alloc (.cells #[.int .i64 n.tag, .slice y1 n.attrs.length y2, .string n.text, .slice y3 n.kids.length y4] 25))
  have bb := heap_alloc_new w (.cells #[.int .i64 n.tag, .slice y1 n.attrs.length y2, .string n.text, .slice y3 n.kids.length y4] 25)
  obtain ⟨r, hr9⟩ : ∃ r, n.whole = r := ⟨_, rfl⟩
  rw [hr9]
  have HR9 := Lib.hid hr9
  have hck : PN.costs n.kids ≤ 1000000000000 := by rw [PN.cost_eq] at hc; omega
  have HSIZE := Lib.hid (fun u (x : Ext w u) => Size_any (w0 := w) n _ u hz hr x)
  have hn1 : normsU n.kids [1] = PN.norms 1 true false false false n.kids := rfl
  have HKS := Lib.hid (fun uv u (x : Ext w u) (h : RowRd u 1 uv 1 [.int .i64 1]) => hn1 ▸ rkids_any w n [1] 0 uv u _ hr x rfl (by decide) h hck)
  have HIN := Lib.hid (fun u (x : Ext w u) => rinner_any w n u _ hr x hck)
  have HNS := Lib.hid hz
  clear hr hr9 hc hck hn1 hz
  go_enter Tryd.func16, Tryd.ntmps16
  go_upto_region 1 with fail
  obtain ⟨w1, hw1⟩ : ∃ w1 : World, w1 = w.alloc (.cells #[.int .i64 n.tag, .slice y1 n.attrs.length y2, .string n.text, .slice y3 n.kids.length y4] 25) := ⟨_, rfl⟩
  rw [← hw1] at x1 bb ⊢
  clear hw1
  have n0 := cellOf bb (i := 0) (v := .int .i64 n.tag) rfl
  have n1 := cellOf bb (i := 1) (v := .slice y1 n.attrs.length y2) rfl
  have n2 := cellOf bb (i := 2) (v := .string n.text) rfl
  have n3 := cellOf bb (i := 3) (v := .slice y3 n.kids.length y4) rfl
  have X1 := Lib.hid x1
  have B1 := Lib.hid bb
  clear x1 bb
  rcases (show (n.tag == 1) = true ∨ (n.tag == 1) = false by cases (n.tag == 1); exact .inr rfl; exact .inl rfl) with h1 | h1
  case inr =>
    have hr0 : r = false := by rw [← HR9.out]; unfold PN.whole; have : ¬ n.tag = 1 := by simpa using h1
                               rw [decide_eq_false this]; simp
    subst hr0
    go_wp2_with fail
    go_ret
    exact ⟨rfl, X1.out⟩
  have T1 := Lib.hid (show n.tag = 1 by simpa using h1)
  by_cases h2 : n.attrs.length = 0
  case neg =>
    have e2 : ((n.attrs.length : Int) == 0) = false := by simpa using h2
    have hr0 : r = false := by rw [← HR9.out]; unfold PN.whole; rw [isEmpty_no h2]; simp
    subst hr0
    clear h2
    go_wp2_with fail
    go_ret
    exact ⟨rfl, X1.out⟩
  have e2 : ((n.attrs.length : Int) == 0) = true := by simpa using h2
  have A2 := Lib.hid (show n.attrs.isEmpty = true from by rw [List.isEmpty_iff]; exact List.eq_nil_of_length_eq_zero h2)
  clear h2
  by_cases h3 : n.text.size = 0
  case neg =>
    have e3 : (n.text.toList == ([] : List UInt8)) = false := text_some h3
    have hr0 : r = false := by rw [← HR9.out]; unfold PN.whole; simp [h3]
    subst hr0
    clear h3
    go_wp2_with fail
    go_ret
    exact ⟨rfl, X1.out⟩
  have e3 : (n.text.toList == ([] : List UInt8)) = true := text_none h3
  have A3 := Lib.hid h3
  clear h3
  have hw9 : (PN.norms 1 true false false false n.kids && decide (n.size ≤ 2000) && decide (n.inner.length ≤ 8192)) = r := by
    rw [← HR9.out]; unfold PN.whole; rw [T1.out, A2.out, A3.out]; simp
  have HW9 := Lib.hid hw9
  have hz' : n.size ≤ 100000 := HNS.out
  clear hw9
  by_cases h4 : n.size ≤ 2000
  case neg =>
    have h4' : ¬ (n.size : Int) ≤ 2000 := by omega
    have hr0 : r = false := by rw [← HW9.out, decide_eq_false h4]; simp
    subst hr0
    clear h4
    go_wp2_with (go_at_call 34; refine (HSIZE.out _ X1.out).mono ?_)
    rintro e w2 ⟨rfl, x2⟩
    clear n0 n1 n2 n3
    go_wp2_with fail
    go_ret
    exact ⟨by simp [h4'], X1.out.trans x2⟩
  have h4' : (n.size : Int) ≤ 2000 := by omega
  have A4 := Lib.hid h4
  clear h4
  go_wp2_with (go_at_call 34; refine (HSIZE.out _ X1.out).mono ?_)
  rintro e w2 ⟨rfl, x2⟩
  have X2 := Lib.hid (X1.out.trans x2)
  have B2 := Lib.hid (x2.block B1.out)
  clear n0 n1 n2 n3 x2
  have n0 := cellOf B2.out (i := 0) (v := .int .i64 n.tag) rfl
  have n1 := cellOf B2.out (i := 1) (v := .slice y1 n.attrs.length y2) rfl
  have n2 := cellOf B2.out (i := 2) (v := .string n.text) rfl
  have n3 := cellOf B2.out (i := 3) (v := .slice y3 n.kids.length y4) rfl
  have hrow : RowRd (w2.alloc (.cells #[.int .i64 1] 3)) 1 (.slice (some ⟨w2.heap.size, 0, none⟩) 1 1) 1 [.int .i64 1] := ⟨rfl, _, _, rfl, Nat.le_refl _, (fun e => by cases e), fun a e j y hy => by
    cases e
    match j, hy with
    | 0, hy => cases hy; exact cellOf (heap_alloc_new w2 _) (i := 0) rfl
    | j + 1, hy => simp at hy⟩
  have HCK := Lib.hid (HKS.out _ _ (X2.out.alloc (.cells #[.int .i64 1] 3)) hrow)
  have HXA := Lib.hid ((Ext.refl w2).alloc (.cells #[.int .i64 1] 3))
  obtain ⟨q, hq⟩ : ∃ q, PN.norms 1 true false false false n.kids = q := ⟨_, rfl⟩
  rw [hq] at HCK HW9
  clear hq hrow
  cases q with
  | false =>
    have hr0 : r = false := by rw [← HW9.out]; simp
    subst hr0
    go_wp2_with (go_at_call 35; refine HCK.out.mono ?_)
    rintro e w3 ⟨rfl, x3⟩
    clear n0 n1 n2 n3
    go_wp2_with fail
    go_ret
    exact ⟨rfl, (X2.out.trans HXA.out).trans x3⟩
  | true =>
    go_wp2_with (go_at_call 35; refine HCK.out.mono ?_)
    rintro e w3 ⟨rfl, x3⟩
    have X3 := Lib.hid ((X2.out.trans HXA.out).trans x3)
    have B3 := Lib.hid ((HXA.out.trans x3).block B2.out)
    clear n0 n1 n2 n3 x3
    have n0 := cellOf B3.out (i := 0) (v := .int .i64 n.tag) rfl
    have n1 := cellOf B3.out (i := 1) (v := .slice y1 n.attrs.length y2) rfl
    have n2 := cellOf B3.out (i := 2) (v := .string n.text) rfl
    have n3 := cellOf B3.out (i := 3) (v := .slice y3 n.kids.length y4) rfl
    have hr5 : decide (n.inner.length ≤ 8192) = r := by rw [← HW9.out, decide_eq_true A4.out]; simp
    have HR5 := Lib.hid hr5
    clear hr5
    obtain ⟨L, hL⟩ : ∃ L, n.inner = L := ⟨_, rfl⟩
    rw [hL] at HIN HR5
    clear hL
    by_cases h8 : L.length ≤ 8192
    · have h8' : (L.length : Int) ≤ 8192 := by omega
      have hr0 : r = true := by rw [← HR5.out, decide_eq_true h8]
      subst hr0
      clear h8
      go_wp2_with (go_at_call 14; refine (HIN.out _ X3.out).mono ?_)
      rintro e w4 ⟨v4, rfl, hb4⟩
      obtain ⟨g4, c4, _, _, rfl, _, _, _⟩ := hb4.at
      have X4 := Lib.hid (X3.out.trans hb4.ex)
      clear hb4 n0 n1 n2 n3
      go_wp2_with fail
      go_ret
      exact ⟨rfl, X4.out⟩
    · have h8' : ¬ (L.length : Int) ≤ 8192 := by omega
      have hr0 : r = false := by rw [← HR5.out, decide_eq_false h8]
      subst hr0
      clear h8
      go_wp2_with (go_at_call 14; refine (HIN.out _ X3.out).mono ?_)
      rintro e w4 ⟨v4, rfl, hb4⟩
      obtain ⟨g4, c4, _, _, rfl, _, _, _⟩ := hb4.at
      have X4 := Lib.hid (X3.out.trans hb4.ex)
      clear hb4 n0 n1 n2 n3
      go_wp2_with fail
      go_ret
      exact ⟨by simp [h8'], X4.out⟩
end Go.Proofs.YtdafdoodegpdhaaDoor
