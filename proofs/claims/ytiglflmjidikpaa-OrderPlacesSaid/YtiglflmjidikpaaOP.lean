/- quillworkref09: row, Cmp. No conditions beside a tree's own. Printed by wip/gen_of.py.
order.Clamp; quillworkref09: Clamp, Point, At. No conditions beside a tree's own. Printed by wip/gen_og.py.
quillworkref09: Point, At; quillworklaw09: OrderPlaces. No conditions.
quillworklaw09: OrderPlaces. No conditions. -/
import Derived.Test.YtiglflmjidikpaaOE
namespace Go.Proofs.Ytiglflmjidikpaa
open Go Go.RowKit Go.BigFrame
set_option linter.unusedVariables false
set_option linter.unusedSimpArgs false

theorem cmpL_drop {l r : List Int} {k : Nat} {a b : Int} (hl : l[k]? = some a) (hr : r[k]? = some b) : cmpL (l.drop k) (r.drop k) = if a < b then -1 else if b < a then 1 else cmpL (l.drop (k + 1)) (r.drop (k + 1)) := by
  obtain ⟨h1, e1⟩ := List.getElem?_eq_some_iff.1 hl
  obtain ⟨h2, e2⟩ := List.getElem?_eq_some_iff.1 hr
  rw [List.drop_eq_getElem_cons h1, List.drop_eq_getElem_cons h2, e1, e2]
  rfl
theorem cmpL_end {l r : List Int} {k : Nat} (h : ¬ (k < l.length ∧ k < r.length)) : cmpL (l.drop k) (r.drop k) = 0 := by
  by_cases h1 : k < l.length
  · rw [List.drop_eq_nil_of_le (show r.length ≤ k by omega)]
    cases l.drop k <;> rfl
  · rw [List.drop_eq_nil_of_le (show l.length ≤ k by omega)]
    cases r.drop k <;> rfl
section
variable {w : World} {rb : Nat} {T : Tr}
set_option maxRecDepth 100000 in
set_option maxHeartbeats 2000000 in
theorem rRow (h : RAt w rb T) {d : Nat → Nat} (hw : WF T d) (n at' : Int) (h0 : 0 ≤ at') (h1 : at' ≤ 8192) : Calls Try.prog 121 #[.pointer (some ⟨rb, 0, none⟩), .agg #[.int .i64 n, .int .i64 at']] w (RRow 3 1 (rowL (T.pathOf n) at').length ((rowL (T.pathOf n) at').map (Value.int .i64)) w) := by
  have xm := (Ext.refl w).alloc (.cells #[.int .i64 n, .int .i64 at'] 73)
  have bm := heap_alloc_new w (.cells #[.int .i64 n, .int .i64 at'] 73)
  have HPA := Lib.hid (fun (u : World) (x : Ext w u) => rPath hw n u u (h.ext x) (Ext.refl u))
  have h41 := hw.path_41 n
  have hsm := hw.path_small n
  obtain ⟨lp, hlp⟩ : ∃ lp, T.pathOf n = lp := ⟨_, rfl⟩
  rw [hlp] at HPA h41 hsm ⊢
  have HSM := Lib.hid hsm
  clear h hw hlp hsm
  go_enter Try.func121, Try.ntmps121
  go_upto_region 1 with fail
  obtain ⟨B, hB⟩ : ∃ B, B = w.heap.size := ⟨_, rfl⟩
  obtain ⟨wm, hwm⟩ : ∃ wm : World, wm = w.alloc (.cells #[.int .i64 n, .int .i64 at'] 73) := ⟨_, rfl⟩
  rw [← hB] at bm ⊢
  rw [← hwm] at bm xm
  rw [← hwm]
  clear hwm hB
  have c0 := cellOf bm (i := 0) (v := .int .i64 n) rfl
  have c1 := cellOf bm (i := 1) (v := .int .i64 at') rfl
  have XM := Lib.hid xm
  clear bm xm
  go_wp2_with fail
  refine (HPA.out _ XM.out).mono ?_
  rintro e w2 ⟨v2, rfl, hr2, hx2⟩
  obtain ⟨a2, k2, e2, _⟩ := RowP.len_of' hr2
  subst e2
  have HX2 := Lib.hid (XM.out.trans hx2)
  replace c1 := hx2.cell c1
  obtain ⟨_, _, _, e3, hcc, hnn, hcell⟩ := RowP.rd hr2
  cases e3
  have HNN := Lib.hid hnn
  have HCELL := Lib.hid hcell
  clear hr2 hx2 hnn hcell c0
  go_wp2_with fail
  go_loopw [5, 7] (fun v i wr => ∃ (k : Nat) (xs : List Value), k ≤ lp.length ∧ i = .int .i64 k ∧ Ext w2 wr ∧ RowP wr (fun b => w2.heap.size ≤ b) 3 1 v k xs ∧ Hid (xs = (lp.take k).map fun i => Value.int .i64 (2 * i + 1))) (fun _ i _ => lp.length - (intOf i).toNat)
  case atStart => exact ⟨0, [], Nat.zero_le _, rfl, Ext.refl _, ⟨rfl, .inl ⟨rfl, none, rfl⟩⟩, Lib.hid (by simp)⟩
  case round =>
    obtain ⟨k, xs, hk, rfl, hxr, hrow, hxs⟩ := hrel
    obtain ⟨va, vc, hve, _⟩ := hrow.rd.len_of
    subst hve
    have HROW := Lib.hid hrow
    have HXR := Lib.hid hxr
    replace c1 := hxr.cell c1
    clear hrow
    by_cases hlt : k < lp.length
    · obtain ⟨x, hx⟩ : ∃ x, lp[k]? = some x := ⟨lp[k], by simp [hlt]⟩
      cases a2 with
      | none => exact absurd (HNN.out rfl).1 (by omega)
      | some a =>
        obtain ⟨b, off, sp⟩ := a
        have cx := hxr.cells _ _ (HCELL.out _ rfl k (.int .i64 x) (by rw [List.getElem?_map, hx]; rfl))
        obtain ⟨s0, s1⟩ := HSM.out x (List.mem_of_getElem? hx)
        have f1 : IntKind.i64.wrap (2 * x) = 2 * x := IntWalk.i64_in _ (by omega)
        have f2 : IntKind.i64.wrap (2 * x + 1) = 2 * x + 1 := IntWalk.i64_in _ (by omega)
        have x4 := (Ext.refl wr).alloc (.cells #[.int .i64 (2 * x + 1)] 3)
        obtain ⟨v5, w5, row, hrun, hra, hga, hrow5⟩ := append_ints (w := wr.alloc (.cells #[.int .i64 (2 * x + 1)] 3)) (B := w2.heap.size) (v := .slice va k vc) (n := k) (RowP.ext HROW.out x4) (u := .slice (some ⟨wr.heap.size, 0, none⟩) 1 1) (m := 1) (ys := [.int .i64 (2 * x + 1)]) ⟨rfl, _, _, rfl, Nat.le_refl _, (fun h => by cases h), fun a ha => by cases ha; exact cell_one_new' (cellOf (heap_alloc_new wr _) rfl)⟩ (by omega) (by simp [Value.oneCell'])
        obtain ⟨a5, c5, e5, _⟩ := hra.rd.len_of
        subst e5
        have HRUN := Lib.hid (AppI.mk hrun)
        have hx4 := HXR.out.trans x4
        have X5 := Lib.hid (hx4.grown hga hrow5)
        have hs4 := hx4.size
        have HR5 := Lib.hid (RowP.imp hra (q := fun b => w2.heap.size ≤ b) fun b _ hb => by rcases hb with h | h; exact h; exact Nat.le_trans hs4 h)
        have HXS := Lib.hid (show xs ++ [Value.int .i64 (2 * x + 1)] = (lp.take (k + 1)).map fun i => Value.int .i64 (2 * i + 1) by
          obtain ⟨hlt', he⟩ := List.getElem?_eq_some_iff.1 hx
          rw [List.take_succ_eq_append_getElem hlt', he, List.map_append, hxs.out]; rfl)
        clear hra hrun hga hrow5 hx4 hs4 hx hxr
        go_wp2_with (at_builtin; refine wpList_app rfl _ _ rfl rfl _ _ rfl rfl _ _ HRUN.out ?_)
        go_roundw
        case rel => exact ⟨k + 1, _, by omega, by go_num, X5.out, HR5.out, HXS⟩
        case measure => simp [intOf]; omega
    · obtain rfl : k = lp.length := by omega
      have f1 : IntKind.i64.wrap (2 * at') = 2 * at' := IntWalk.i64_in _ (by omega)
      have x4 := (Ext.refl wr).alloc (.cells #[.int .i64 (2 * at')] 3)
      obtain ⟨v5, w5, row, hrun, hra, hga, hrow5⟩ := append_ints (w := wr.alloc (.cells #[.int .i64 (2 * at')] 3)) (B := w2.heap.size) (v := .slice va lp.length vc) (n := lp.length) (RowP.ext HROW.out x4) (u := .slice (some ⟨wr.heap.size, 0, none⟩) 1 1) (m := 1) (ys := [.int .i64 (2 * at')]) ⟨rfl, _, _, rfl, Nat.le_refl _, (fun h => by cases h), fun a ha => by cases ha; exact cell_one_new' (cellOf (heap_alloc_new wr _) rfl)⟩ (by omega) (by simp [Value.oneCell'])
      obtain ⟨a5, c5, e5, _⟩ := hra.rd.len_of
      subst e5
      have HRUN := Lib.hid (AppI.mk hrun)
      have hx4 := HXR.out.trans x4
      have X5 := Lib.hid (HX2.out.trans (hx4.grown hga hrow5))
      have hs4 := hx4.size
      have hs2 := HX2.out.size
      have HR5 := Lib.hid (RowP.imp hra (q := fun b => w.heap.size ≤ b) fun b _ hb => by
        rcases hb with h | h
        · exact Nat.le_trans hs2 h
        · exact Nat.le_trans hs2 (Nat.le_trans hs4 h))
      have HXS := Lib.hid (show xs ++ [Value.int .i64 (2 * at')] = (rowL lp at').map (Value.int .i64) by
        have h := hxs.out
        rw [List.take_length] at h
        unfold rowL
        rw [List.map_append, List.map_map, h]; rfl)
      have HLN := Lib.hid (show (rowL lp at').length = lp.length + 1 by unfold rowL; simp)
      clear hra hrun hga hrow5 hx4 hs4 hs2 hxr
      go_wp2_with (at_builtin; refine wpList_app rfl _ _ rfl rfl _ _ rfl rfl _ _ HRUN.out ?_)
      go_ret
      refine ⟨_, rfl, ?_, X5.out⟩
      unfold RowIn
      rw [HLN.out, ← HXS.out]
      exact HR5.out
theorem r_may (h : RAt w rb T) {d : Nat → Nat} (hw : WF T d) (hA : AttrsOk T) {x y : Int} {b : Bool} (m : MayIs T x y b) : Calls Try.prog 76 #[.pointer (some ⟨rb, 0, none⟩), .agg #[.int .i64 x, .int .i64 y]] w (RVal (.bool b) w) := m.out ▸ rMay h hw hA x y
structure RootR (T : Tr) (x r : Int) : Prop where
  out : T.rootOf x = r
  get : ∃ nd, T.get? x = some nd
theorem r_root (h : RAt w rb T) {d : Nat → Nat} (hw : WF T d) {x r : Int} (m : RootR T x r) : Calls Try.prog 106 #[.pointer (some ⟨rb, 0, none⟩), .int .i64 x] w (RVal (.int .i64 r) w) := by
  obtain ⟨nd, hg⟩ := m.get
  exact m.out ▸ RSame.val (rRoot h hw hg)
set_option maxRecDepth 100000 in
set_option maxHeartbeats 2000000 in
theorem rCmp_no1 (h : RAt w rb T) {d : Nat → Nat} (hw : WF T d) (hA : AttrsOk T) (an aat bn bat : Int) (MA : MayIs T an aat false) : Calls Try.prog 75 #[.pointer (some ⟨rb, 0, none⟩), .agg #[.int .i64 an, .int .i64 aat], .agg #[.int .i64 bn, .int .i64 bat]] w (RTwo (.int .i64 0) (.bool false) w) := by
  have xm := ((Ext.refl w).alloc (.cells #[.int .i64 an, .int .i64 aat] 73)).alloc (.cells #[.int .i64 bn, .int .i64 bat] 73)
  have ba := ((Ext.refl _).alloc (.cells #[.int .i64 bn, .int .i64 bat] 73)).block (heap_alloc_new w (.cells #[.int .i64 an, .int .i64 aat] 73))
  have bb := heap_alloc_new (w.alloc (.cells #[.int .i64 an, .int .i64 aat] 73)) (.cells #[.int .i64 bn, .int .i64 bat] 73)
  rw [show (w.alloc (.cells #[.int .i64 an, .int .i64 aat] 73)).heap.size = w.heap.size + 1 by simp] at bb
  have HR := Lib.hid h
  have HW := Lib.hid hw
  have HA := Lib.hid hA
  clear h hw hA
  go_enter Try.func75, Try.ntmps75
  go_upto_region 1 with fail
  obtain ⟨wm, hwm⟩ : ∃ wm : World, wm = (w.alloc (.cells #[.int .i64 an, .int .i64 aat] 73)).alloc (.cells #[.int .i64 bn, .int .i64 bat] 73) := ⟨_, rfl⟩
  rw [← hwm] at ba bb xm
  rw [← hwm]
  clear hwm
  have e0 := fun u : ExtOf wm => u.ext.cell (cellOf ba (i := 0) (v := .int .i64 an) rfl)
  have e1 := fun u : ExtOf wm => u.ext.cell (cellOf ba (i := 1) (v := .int .i64 aat) rfl)
  have e2 := fun u : ExtOf wm => u.ext.cell (cellOf bb (i := 0) (v := .int .i64 bn) rfl)
  have e3 := fun u : ExtOf wm => u.ext.cell (cellOf bb (i := 1) (v := .int .i64 bat) rfl)
  have XM := Lib.hid xm
  have BA := Lib.hid ba
  have BB := Lib.hid bb
  clear ba bb xm
  refine wp_region_ext (by kernel_rfl) (by kernel_rfl) ?_
  repeat (go_big_quiet_step (first | (go_at_call 76; exact inExt (r_may (HR.out.ext (XM.out.trans (ExtOf.ext _))) HW.out HA.out MA))))
  refine wpQuiet_nil ?_
  rintro _ ⟨u, rfl⟩
  have HU := Lib.hid (XM.out.trans u.ext)
  clear e0 e1 e2 e3
  go_wp2_with fail
  go_ret2
  exact ⟨rfl, HU.out⟩
set_option maxRecDepth 100000 in
set_option maxHeartbeats 2000000 in
theorem rCmp_no2 (h : RAt w rb T) {d : Nat → Nat} (hw : WF T d) (hA : AttrsOk T) (an aat bn bat : Int) (MA : MayIs T an aat true) (MB : MayIs T bn bat false) : Calls Try.prog 75 #[.pointer (some ⟨rb, 0, none⟩), .agg #[.int .i64 an, .int .i64 aat], .agg #[.int .i64 bn, .int .i64 bat]] w (RTwo (.int .i64 0) (.bool false) w) := by
  have xm := ((Ext.refl w).alloc (.cells #[.int .i64 an, .int .i64 aat] 73)).alloc (.cells #[.int .i64 bn, .int .i64 bat] 73)
  have ba := ((Ext.refl _).alloc (.cells #[.int .i64 bn, .int .i64 bat] 73)).block (heap_alloc_new w (.cells #[.int .i64 an, .int .i64 aat] 73))
  have bb := heap_alloc_new (w.alloc (.cells #[.int .i64 an, .int .i64 aat] 73)) (.cells #[.int .i64 bn, .int .i64 bat] 73)
  rw [show (w.alloc (.cells #[.int .i64 an, .int .i64 aat] 73)).heap.size = w.heap.size + 1 by simp] at bb
  have HR := Lib.hid h
  have HW := Lib.hid hw
  have HA := Lib.hid hA
  clear h hw hA
  go_enter Try.func75, Try.ntmps75
  go_upto_region 1 with fail
  obtain ⟨wm, hwm⟩ : ∃ wm : World, wm = (w.alloc (.cells #[.int .i64 an, .int .i64 aat] 73)).alloc (.cells #[.int .i64 bn, .int .i64 bat] 73) := ⟨_, rfl⟩
  rw [← hwm] at ba bb xm
  rw [← hwm]
  clear hwm
  have e0 := fun u : ExtOf wm => u.ext.cell (cellOf ba (i := 0) (v := .int .i64 an) rfl)
  have e1 := fun u : ExtOf wm => u.ext.cell (cellOf ba (i := 1) (v := .int .i64 aat) rfl)
  have e2 := fun u : ExtOf wm => u.ext.cell (cellOf bb (i := 0) (v := .int .i64 bn) rfl)
  have e3 := fun u : ExtOf wm => u.ext.cell (cellOf bb (i := 1) (v := .int .i64 bat) rfl)
  have XM := Lib.hid xm
  have BA := Lib.hid ba
  have BB := Lib.hid bb
  clear ba bb xm
  refine wp_region_ext (by kernel_rfl) (by kernel_rfl) ?_
  repeat (go_big_quiet_step (first | (go_at_call 76; exact inExt (r_may (HR.out.ext (XM.out.trans (ExtOf.ext _))) HW.out HA.out MA)) | (go_at_call 76; exact inExt (r_may (HR.out.ext (XM.out.trans (ExtOf.ext _))) HW.out HA.out MB))))
  refine wpQuiet_nil ?_
  rintro _ ⟨u, rfl⟩
  have HU := Lib.hid (XM.out.trans u.ext)
  clear e0 e1 e2 e3
  go_wp2_with fail
  go_ret2
  exact ⟨rfl, HU.out⟩
set_option maxRecDepth 100000 in
set_option maxHeartbeats 2000000 in
theorem rCmp_no3 (h : RAt w rb T) {d : Nat → Nat} (hw : WF T d) (hA : AttrsOk T) (an aat bn bat : Int) (MA : MayIs T an aat true) (MB : MayIs T bn bat true) {x y : Int} (RA : RootR T an x) (RB : RootR T bn y) (hne : (x == y) = false) : Calls Try.prog 75 #[.pointer (some ⟨rb, 0, none⟩), .agg #[.int .i64 an, .int .i64 aat], .agg #[.int .i64 bn, .int .i64 bat]] w (RTwo (.int .i64 0) (.bool false) w) := by
  have xm := ((Ext.refl w).alloc (.cells #[.int .i64 an, .int .i64 aat] 73)).alloc (.cells #[.int .i64 bn, .int .i64 bat] 73)
  have ba := ((Ext.refl _).alloc (.cells #[.int .i64 bn, .int .i64 bat] 73)).block (heap_alloc_new w (.cells #[.int .i64 an, .int .i64 aat] 73))
  have bb := heap_alloc_new (w.alloc (.cells #[.int .i64 an, .int .i64 aat] 73)) (.cells #[.int .i64 bn, .int .i64 bat] 73)
  rw [show (w.alloc (.cells #[.int .i64 an, .int .i64 aat] 73)).heap.size = w.heap.size + 1 by simp] at bb
  have HR := Lib.hid h
  have HW := Lib.hid hw
  have HA := Lib.hid hA
  clear h hw hA
  go_enter Try.func75, Try.ntmps75
  go_upto_region 1 with fail
  obtain ⟨wm, hwm⟩ : ∃ wm : World, wm = (w.alloc (.cells #[.int .i64 an, .int .i64 aat] 73)).alloc (.cells #[.int .i64 bn, .int .i64 bat] 73) := ⟨_, rfl⟩
  rw [← hwm] at ba bb xm
  rw [← hwm]
  clear hwm
  have e0 := fun u : ExtOf wm => u.ext.cell (cellOf ba (i := 0) (v := .int .i64 an) rfl)
  have e1 := fun u : ExtOf wm => u.ext.cell (cellOf ba (i := 1) (v := .int .i64 aat) rfl)
  have e2 := fun u : ExtOf wm => u.ext.cell (cellOf bb (i := 0) (v := .int .i64 bn) rfl)
  have e3 := fun u : ExtOf wm => u.ext.cell (cellOf bb (i := 1) (v := .int .i64 bat) rfl)
  have XM := Lib.hid xm
  have BA := Lib.hid ba
  have BB := Lib.hid bb
  clear ba bb xm
  refine wp_region_ext (by kernel_rfl) (by kernel_rfl) ?_
  repeat (go_big_quiet_step (first | (go_at_call 76; exact inExt (r_may (HR.out.ext (XM.out.trans (ExtOf.ext _))) HW.out HA.out MA)) | (go_at_call 76; exact inExt (r_may (HR.out.ext (XM.out.trans (ExtOf.ext _))) HW.out HA.out MB)) | (go_at_call 106; exact inExt (r_root (HR.out.ext (XM.out.trans (ExtOf.ext _))) HW.out RA)) | (go_at_call 106; exact inExt (r_root (HR.out.ext (XM.out.trans (ExtOf.ext _))) HW.out RB))))
  refine wpQuiet_nil ?_
  rintro _ ⟨u, rfl⟩
  have HU := Lib.hid (XM.out.trans u.ext)
  clear e0 e1 e2 e3
  go_wp2_with fail
  go_ret2
  exact ⟨rfl, HU.out⟩
set_option maxRecDepth 100000 in
set_option maxHeartbeats 4000000 in
theorem rCmp_ok (h : RAt w rb T) {d : Nat → Nat} (hw : WF T d) (hA : AttrsOk T) (an aat bn bat : Int) (MA : MayIs T an aat true) (MB : MayIs T bn bat true) {x : Int} (RA : RootR T an x) (RB : RootR T bn x) (ha0 : 0 ≤ aat) (ha1 : aat ≤ 8192) (hb0 : 0 ≤ bat) (hb1 : bat ≤ 8192) : Calls Try.prog 75 #[.pointer (some ⟨rb, 0, none⟩), .agg #[.int .i64 an, .int .i64 aat], .agg #[.int .i64 bn, .int .i64 bat]] w (RTwo (.int .i64 (cmpL (rowL (T.pathOf an) aat) (rowL (T.pathOf bn) bat))) (.bool true) w) := by
  have xm := ((Ext.refl w).alloc (.cells #[.int .i64 an, .int .i64 aat] 73)).alloc (.cells #[.int .i64 bn, .int .i64 bat] 73)
  have ba := ((Ext.refl _).alloc (.cells #[.int .i64 bn, .int .i64 bat] 73)).block (heap_alloc_new w (.cells #[.int .i64 an, .int .i64 aat] 73))
  have bb := heap_alloc_new (w.alloc (.cells #[.int .i64 an, .int .i64 aat] 73)) (.cells #[.int .i64 bn, .int .i64 bat] 73)
  rw [show (w.alloc (.cells #[.int .i64 an, .int .i64 aat] 73)).heap.size = w.heap.size + 1 by simp] at bb
  have HR := Lib.hid h
  have HW := Lib.hid hw
  have HA := Lib.hid hA
  clear h hw hA
  go_enter Try.func75, Try.ntmps75
  go_upto_region 1 with fail
  obtain ⟨wm, hwm⟩ : ∃ wm : World, wm = (w.alloc (.cells #[.int .i64 an, .int .i64 aat] 73)).alloc (.cells #[.int .i64 bn, .int .i64 bat] 73) := ⟨_, rfl⟩
  rw [← hwm] at ba bb xm
  rw [← hwm]
  clear hwm
  have e0 := fun u : ExtOf wm => u.ext.cell (cellOf ba (i := 0) (v := .int .i64 an) rfl)
  have e1 := fun u : ExtOf wm => u.ext.cell (cellOf ba (i := 1) (v := .int .i64 aat) rfl)
  have e2 := fun u : ExtOf wm => u.ext.cell (cellOf bb (i := 0) (v := .int .i64 bn) rfl)
  have e3 := fun u : ExtOf wm => u.ext.cell (cellOf bb (i := 1) (v := .int .i64 bat) rfl)
  have XM := Lib.hid xm
  have BA := Lib.hid ba
  have BB := Lib.hid bb
  clear ba bb xm
  refine wp_region_ext (by kernel_rfl) (by kernel_rfl) ?_
  repeat (go_big_quiet_step (first | (go_at_call 76; exact inExt (r_may (HR.out.ext (XM.out.trans (ExtOf.ext _))) HW.out HA.out MA)) | (go_at_call 76; exact inExt (r_may (HR.out.ext (XM.out.trans (ExtOf.ext _))) HW.out HA.out MB)) | (go_at_call 106; exact inExt (r_root (HR.out.ext (XM.out.trans (ExtOf.ext _))) HW.out RA)) | (go_at_call 106; exact inExt (r_root (HR.out.ext (XM.out.trans (ExtOf.ext _))) HW.out RB))))
  refine wpQuiet_nil ?_
  rintro _ ⟨u, rfl⟩
  clear e0 e1 e2 e3
  have c0 := (u.ext.block BA.out)
  have c2 := (u.ext.block BB.out)
  have HU := Lib.hid (XM.out.trans u.ext)
  obtain ⟨wu, hwu⟩ : ∃ wu : World, wu = u.val := ⟨_, rfl⟩
  rw [← hwu] at c0 c2 HU ⊢
  clear hwu
  have a0 := cellOf c0 (i := 0) (v := .int .i64 an) rfl
  have a1 := cellOf c0 (i := 1) (v := .int .i64 aat) rfl
  have b0 := cellOf c2 (i := 0) (v := .int .i64 bn) rfl
  have b1 := cellOf c2 (i := 1) (v := .int .i64 bat) rfl
  clear c0 c2
  have RWA := Lib.hid (fun (u' : World) (x : Ext w u') => rRow (HR.out.ext x) HW.out an aat ha0 ha1)
  have RWB := Lib.hid (fun (u' : World) (x : Ext w u') => rRow (HR.out.ext x) HW.out bn bat hb0 hb1)
  have hla : (rowL (T.pathOf an) aat).length ≤ 42 := by have := HW.out.path_41 an; unfold rowL; simp; omega
  have hlb : (rowL (T.pathOf bn) bat).length ≤ 42 := by have := HW.out.path_41 bn; unfold rowL; simp; omega
  obtain ⟨la, hlae⟩ : ∃ la, rowL (T.pathOf an) aat = la := ⟨_, rfl⟩
  obtain ⟨lb, hlbe⟩ : ∃ lb, rowL (T.pathOf bn) bat = lb := ⟨_, rfl⟩
  rw [hlae] at RWA hla
  rw [hlbe] at RWB hlb
  obtain ⟨z, hz⟩ : ∃ z, cmpL la lb = z := ⟨_, rfl⟩
  have HZ := Lib.hid hz
  have HFZ := Lib.hid (show cmpL (rowL (T.pathOf an) aat) (rowL (T.pathOf bn) bat) = z by rw [hlae, hlbe, hz])
  clear hlae hlbe hz
  go_upto_region 3 with fail
  go_region_held3 (fun w' => w'.cell? ⟨w.heap.size, 0, none⟩ = some (.int .i64 an) ∧ w'.cell? ⟨w.heap.size, 1, none⟩ = some (.int .i64 aat) ∧ w'.cell? ⟨w.heap.size + 1, 0, none⟩ = some (.int .i64 bn) ∧ w'.cell? ⟨w.heap.size + 1, 1, none⟩ = some (.int .i64 bat))
    (first | exact hkeep | exact ⟨a0, a1, b0, b1⟩ | go_keep)
    (first
    | (go_at_call_of 121 (Value.agg #[Value.int IntKind.i64 bn, Value.int IntKind.i64 bat]); refine (RWB.out _ (HU.out.trans X4.out)).mono ?_; rintro e w5 ⟨vb, rfl, hrb, hx5⟩; obtain ⟨pb, qb, eb, _⟩ := RowP.len_of' hrb; subst eb; have X5 := Lib.hid (X4.out.trans hx5); have RDB := Lib.hid (RowP.rd hrb); have RDA := Lib.hid (RDA4.out.ext hx5); have hkeep := (show _ ∧ _ ∧ _ ∧ _ from ⟨X5.out.cell a0, X5.out.cell a1, X5.out.cell b0, X5.out.cell b1⟩); clear hrb hx5)
    | (go_at_call_of 121 (Value.agg #[Value.int IntKind.i64 an, Value.int IntKind.i64 aat]); refine (RWA.out _ (HU.out.trans (Ext.refl wu).drew)).mono ?_; rintro e w4 ⟨va, rfl, hra, hx4⟩; obtain ⟨pa, qa, ea, _⟩ := RowP.len_of' hra; subst ea; have X4 := Lib.hid ((Ext.refl wu).drew.trans hx4); have RDA4 := Lib.hid (RowP.rd hra); have hkeep := (show _ ∧ _ ∧ _ ∧ _ from ⟨X4.out.cell a0, X4.out.cell a1, X4.out.cell b0, X4.out.cell b1⟩); clear hra hx4))
  clear hkeep a0 a1 b0 b1
  obtain ⟨_, _, _, ea, hca, hna, hcella⟩ := RDA.out
  cases ea
  obtain ⟨_, _, _, eb, hcb, hnb, hcellb⟩ := RDB.out
  cases eb
  have HNA := Lib.hid hna
  have HNB := Lib.hid hnb
  have HCA := Lib.hid hcella
  have HCB := Lib.hid hcellb
  have HX5 := Lib.hid (HU.out.trans X5.out)
  clear hna hnb hcella hcellb
  go_wp2_with fail
  go_loopw [10] (fun i wr => ∃ k : Nat, Ext w5 wr ∧ k ≤ la.length ∧ k ≤ lb.length ∧ i = .int .i64 k ∧ Hid (cmpL la lb = cmpL (la.drop k) (lb.drop k))) (fun i _ => la.length - (intOf i).toNat)
  case atStart => exact ⟨0, Ext.refl _, Nat.zero_le _, Nat.zero_le _, rfl, Lib.hid rfl⟩
  case round =>
    obtain ⟨k, hx0, hk1, hk2, rfl, he⟩ := hrel
    by_cases hlt : k < la.length ∧ k < lb.length
    · obtain ⟨l1, l2⟩ := hlt
      obtain ⟨x, hx⟩ : ∃ x, la[k]? = some x := ⟨la[k], by simp [l1]⟩
      obtain ⟨y, hy⟩ : ∃ y, lb[k]? = some y := ⟨lb[k], by simp [l2]⟩
      cases pa with
      | none => exact absurd (HNA.out rfl).1 (by omega)
      | some aa =>
        cases pb with
        | none => exact absurd (HNB.out rfl).1 (by omega)
        | some ab =>
          obtain ⟨g1, o1, s1⟩ := aa
          obtain ⟨g2, o2, s2⟩ := ab
          have cx := hx0.cells _ _ (HCA.out _ rfl k (.int .i64 x) (by rw [List.getElem?_map, hx]; rfl))
          have cy := hx0.cells _ _ (HCB.out _ rfl k (.int .i64 y) (by rw [List.getElem?_map, hy]; rfl))
          have hst := cmpL_drop hx hy
          have HST := Lib.hid (he.out.trans hst)
          have HX0 := Lib.hid hx0
          have c0' := fun u : ExtOf wr => u.ext.cells _ _ cx
          have c1' := fun u : ExtOf wr => u.ext.cells _ _ cy
          clear hx hy hst hx0
          by_cases hxy : x < y
          · have hz1 : z = -1 := by rw [← HZ.out, HST.out, if_pos hxy]
            subst hz1
            go_upto_region 7 with fail
            refine wp_region_ext (by kernel_rfl) (by kernel_rfl) ?_
            repeat (go_big_quiet_step (fail))
            refine wpQuiet_nil ?_
            rintro _ ⟨u1, rfl⟩
            clear c0' c1'
            go_wp2_with fail
            go_ret2
            exact ⟨by rw [HFZ.out]; rfl, (HX5.out.trans HX0.out).trans u1.ext⟩
          · go_upto_region 7 with fail
            refine wp_region_ext (by kernel_rfl) (by kernel_rfl) ?_
            repeat (go_big_quiet_step (fail))
            refine wpQuiet_nil ?_
            rintro _ ⟨u1, rfl⟩
            have d0' := fun u : ExtOf u1.val => c0' ⟨u.val, u1.ext.trans u.ext⟩
            have d1' := fun u : ExtOf u1.val => c1' ⟨u.val, u1.ext.trans u.ext⟩
            replace d0' : ∀ u : ExtOf u1.val, u.val.cell? (Addr.add ⟨g1, o1, s1⟩ k) = some (.int .i64 x) := d0'
            replace d1' : ∀ u : ExtOf u1.val, u.val.cell? (Addr.add ⟨g2, o2, s2⟩ k) = some (.int .i64 y) := d1'
            clear c0' c1'
            by_cases hyx : y < x
            · have hz1 : z = 1 := by rw [← HZ.out, HST.out, if_neg hxy, if_pos hyx]
              subst hz1
              go_upto_region 9 with fail
              refine wp_region_ext (by kernel_rfl) (by kernel_rfl) ?_
              repeat (go_big_quiet_step (fail))
              refine wpQuiet_nil ?_
              rintro _ ⟨u2, rfl⟩
              go_wp2_with fail
              go_ret2
              exact ⟨by rw [HFZ.out]; rfl, ((HX5.out.trans HX0.out).trans u1.ext).trans u2.ext⟩
            · have HNX := Lib.hid (show cmpL la lb = cmpL (la.drop (k + 1)) (lb.drop (k + 1)) by rw [HST.out, if_neg hxy, if_neg hyx])
              go_upto_region 9 with fail
              refine wp_region_ext (by kernel_rfl) (by kernel_rfl) ?_
              repeat (go_big_quiet_step (fail))
              refine wpQuiet_nil ?_
              rintro _ ⟨u2, rfl⟩
              go_wp2_with fail
              go_roundw
              case rel => exact ⟨k + 1, (HX0.out.trans u1.ext).trans u2.ext, by omega, by omega, by go_num, HNX⟩
              case measure => simp [intOf]; omega
    · have hz1 : z = 0 := by rw [← HZ.out, he.out, cmpL_end hlt]
      subst hz1
      by_cases l1 : k < la.length
      · have l2 : ¬ k < lb.length := fun h => hlt ⟨l1, h⟩
        clear hlt
        go_wp2_with fail
        go_ret2
        exact ⟨by rw [HFZ.out]; rfl, HX5.out.trans hx0⟩
      · clear hlt
        go_wp2_with fail
        go_ret2
        exact ⟨by rw [HFZ.out]; rfl, HX5.out.trans hx0⟩
theorem rCmp (h : RAt w rb T) {d : Nat → Nat} (hw : WF T d) (hA : AttrsOk T) (an aat bn bat : Int) : Calls Try.prog 75 #[.pointer (some ⟨rb, 0, none⟩), .agg #[.int .i64 an, .int .i64 aat], .agg #[.int .i64 bn, .int .i64 bat]] w (RTwo (.int .i64 (T.cmp an aat bn bat)) (.bool (T.cmpOk an aat bn bat)) w) := by
  cases ha : T.may an aat with
  | false =>
    have e : T.cmpOk an aat bn bat = false := by unfold Tr.cmpOk; rw [ha]; rfl
    unfold Tr.cmp
    rw [e]
    exact rCmp_no1 h hw hA an aat bn bat ⟨ha⟩
  | true =>
    cases hb : T.may bn bat with
    | false =>
      have e : T.cmpOk an aat bn bat = false := by unfold Tr.cmpOk; rw [ha, hb]; rfl
      unfold Tr.cmp
      rw [e]
      exact rCmp_no2 h hw hA an aat bn bat ⟨ha⟩ ⟨hb⟩
    | true =>
      have ga := may_get T ha
      have gb := may_get T hb
      by_cases hr : T.rootOf an = T.rootOf bn
      · have e : T.cmpOk an aat bn bat = true := by unfold Tr.cmpOk; rw [ha, hb, decide_eq_true hr]; rfl
        unfold Tr.cmp
        rw [e]
        have b1 := lengthOf_bound hw hA an
        have b2 := lengthOf_bound hw hA bn
        have m1 := ha
        have m2 := hb
        unfold Tr.may at m1 m2
        simp only [Bool.and_eq_true, decide_eq_true_eq] at m1 m2
        exact rCmp_ok h hw hA an aat bn bat ⟨ha⟩ ⟨hb⟩ (x := T.rootOf an) ⟨rfl, ga⟩ ⟨hr.symm, gb⟩ m1.1 (by omega) m2.1 (by omega)
      · have e : T.cmpOk an aat bn bat = false := by unfold Tr.cmpOk; rw [ha, hb, decide_eq_false hr]; rfl
        unfold Tr.cmp
        rw [e]
        exact rCmp_no3 h hw hA an aat bn bat ⟨ha⟩ ⟨hb⟩ ⟨rfl, ga⟩ ⟨rfl, gb⟩ (by simpa using hr)
end
end Go.Proofs.Ytiglflmjidikpaa

namespace Go.Proofs.Ytiglflmjidikpaa
open Go Go.RowKit Go.BigFrame
set_option linter.unusedVariables false
set_option linter.unusedSimpArgs false

/-- the place next to one that may be -/
def Tr.clampAt (T : Tr) (id at' : Int) : Int := if at' < 0 then 0 else if T.lengthOf id < at' then T.lengthOf id else at'
def Tr.clamped (T : Tr) (id at' : Int) : Value := match T.get? id with | none => .agg #[.int .i64 0, .int .i64 0] | some _ => .agg #[.int .i64 id, .int .i64 (T.clampAt id at')]
set_option maxRecDepth 100000 in
set_option maxHeartbeats 2000000 in
theorem Clamp_any {w : World} {tb : Nat} {T : Tr} (hT : TAt w tb T) {d : Nat → Nat} (hw : WF T d) (hA : AttrsOk T) (id at' : Int) : Calls Try.prog 62 #[.pointer (some ⟨tb, 0, none⟩), .agg #[.int .i64 id, .int .i64 at']] w (RVal (T.clamped id at') w) := by
  have xm := ((Ext.refl w).alloc (.cells #[.int .i64 id, .int .i64 at'] 73)).alloc (.cells #[.int .i64 0, .int .i64 0] 73)
  have ba := ((Ext.refl _).alloc (.cells #[.int .i64 0, .int .i64 0] 73)).block (heap_alloc_new w (.cells #[.int .i64 id, .int .i64 at'] 73))
  have bb := heap_alloc_new (w.alloc (.cells #[.int .i64 id, .int .i64 at'] 73)) (.cells #[.int .i64 0, .int .i64 0] 73)
  rw [show (w.alloc (.cells #[.int .i64 id, .int .i64 at'] 73)).heap.size = w.heap.size + 1 by simp] at bb
  have HHS := Lib.hid (fun (u : World) (x : Ext w u) => at_has (hT.ext x) id)
  have HLN := Lib.hid (fun (u : World) (x : Ext w u) => Length_any (hT.ext x) hw hA id)
  have hlb := lengthOf_bound hw hA id
  unfold Tr.clamped Tr.clampAt
  cases hg : T.get? id with
  | none =>
    rw [hg] at HHS
    clear hT hw hA hg
    show Calls _ _ _ _ (RVal (.agg #[.int .i64 0, .int .i64 0]) w)
    go_enter Try.func62, Try.ntmps62
    go_upto_region 1 with fail
    obtain ⟨wm, hwm⟩ : ∃ wm : World, wm = (w.alloc (.cells #[.int .i64 id, .int .i64 at'] 73)).alloc (.cells #[.int .i64 0, .int .i64 0] 73) := ⟨_, rfl⟩
    rw [← hwm] at ba bb xm
    rw [← hwm]
    clear hwm
    have c0 := cellOf ba (i := 0) (v := .int .i64 id) rfl
    have c1 := cellOf ba (i := 1) (v := .int .i64 at') rfl
    have fc1 := freeOf ba 1
    have r0 := cellOf bb (i := 0) (v := .int .i64 0) rfl
    have r0' := cellOf bb (i := 0) (v := .int .i64 0) rfl
    have r1 := cellOf bb (i := 1) (v := .int .i64 0) rfl
    have f0 := freeOf bb 0
    have f1 := freeOf bb 1
    have np : w.heap.size ≠ w.heap.size + 1 := by omega
    have np' := Ne.symm np
    have XM := Lib.hid xm
    have BA := Lib.hid ba
    have BB := Lib.hid bb
    clear xm ba bb
    go_wp2_with (go_at_call 27; refine (HHS.out _ XM.out).mono ?_; rintro e w2 ⟨rfl, hx⟩; replace r0 := hx.cell r0; replace r1 := hx.cell r1; replace f0 := hx.free (cell_lt r0') f0; replace f1 := hx.free (cell_lt r0') f1; have HX := Lib.hid (XM.out.trans hx); clear hx)
    exact bodyPost_ret (v := .agg #[.int .i64 0, .int .i64 0]) (by simp [results, Try.results62, go_sem, r0, r1]) rfl ⟨rfl, (HX.out.setCell (Nat.le_succ _) _).setCell (Nat.le_succ _) _⟩
  | some nd =>
    rw [hg] at HHS
    have hl0 : 0 ≤ T.lengthOf id := by
      have ht := (hw.text _ _ (Tr.get_lt hg).2.2).1
      unfold Tr.lengthOf Tr.tagOf Tr.txt Tr.kidsOf
      rw [hg]
      show 0 ≤ (if nd.tag = -1 then _ else _)
      rw [if_neg (by omega)]
      split <;> omega
    obtain ⟨L, hL⟩ : ∃ L, T.lengthOf id = L := ⟨_, rfl⟩
    rw [hL] at HLN hlb hl0
    show Calls _ _ _ _ (RVal (.agg #[.int .i64 id, .int .i64 (if at' < 0 then 0 else if T.lengthOf id < at' then T.lengthOf id else at')]) w)
    rw [hL]
    clear hT hw hA hg hL
    by_cases k0 : at' < 0
    · rw [if_pos k0]
      go_enter Try.func62, Try.ntmps62
      go_upto_region 1 with fail
      obtain ⟨wm, hwm⟩ : ∃ wm : World, wm = (w.alloc (.cells #[.int .i64 id, .int .i64 at'] 73)).alloc (.cells #[.int .i64 0, .int .i64 0] 73) := ⟨_, rfl⟩
      rw [← hwm] at ba bb xm
      rw [← hwm]
      clear hwm
      have c0 := cellOf ba (i := 0) (v := .int .i64 id) rfl
      have c1 := cellOf ba (i := 1) (v := .int .i64 at') rfl
      have fc1 := freeOf ba 1
      have r0 := cellOf bb (i := 0) (v := .int .i64 0) rfl
      have r1 := cellOf bb (i := 1) (v := .int .i64 0) rfl
      have f0 := freeOf bb 0
      have f1 := freeOf bb 1
      have np : w.heap.size ≠ w.heap.size + 1 := by omega
      have np' := Ne.symm np
      have XM := Lib.hid xm
      have BA := Lib.hid ba
      have BB := Lib.hid bb
      clear xm ba bb
      go_upto_region 3 with (go_at_call 27; refine (HHS.out _ XM.out).mono ?_; rintro e w2 ⟨rfl, hx⟩; have HX := Lib.hid hx; clear hx)
      have d0 := HX.out.cell c0
      have d1 := HX.out.cell c1
      have HXW := Lib.hid (XM.out.trans HX.out)
      refine wp_region_E (S := fun w' => w'.cell? ⟨w.heap.size, 0, none⟩ = some (.int .i64 id) ∧ w'.cell? ⟨w.heap.size, 1, none⟩ = some (.int .i64 at')) (n := 11) (by kernel_rfl) ?_
      have hS : w2.drew.cell? ⟨w.heap.size, 0, none⟩ = some (.int .i64 id) ∧ w2.drew.cell? ⟨w.heap.size, 1, none⟩ = some (.int .i64 at') := ⟨d0, d1⟩
      show wpE _ _ _ _ _ 11 12 (Array.replicate 12 false) _ _
      refine wpE_take (i := 0) (v := .pointer (some ⟨w.heap.size, 0, none⟩)) (o := { dst := some 11, op := _, type := _, pos := _, after := _, guard := none }) rfl (by kernel_rfl) (by kernel_rfl) (by kernel_rfl) (by kernel_rfl) (fun _ _ _ h => h) (Or.inl ⟨by rfl, fun w' hSw => ?_⟩) hS ?_
      · (obtain ⟨s1, s2⟩ := hSw; clear hS; go_simp)
      try simp only [Act.put, List.setIfInBounds_toArray, List.set_cons_zero, List.set_cons_succ]
      refine wpE_take (i := 1) (v := .int .i64 id) (o := { dst := some 12, op := _, type := _, pos := _, after := _, guard := none }) rfl (by kernel_rfl) (by kernel_rfl) (by kernel_rfl) (by kernel_rfl) (fun _ _ _ h => h) (Or.inl ⟨by rfl, fun w' hSw => ?_⟩) hS ?_
      · (obtain ⟨s1, s2⟩ := hSw; clear hS; go_simp)
      try simp only [Act.put, List.setIfInBounds_toArray, List.set_cons_zero, List.set_cons_succ]
      refine wpE_take (i := 2) (v := .pointer (some ⟨w.heap.size, 1, none⟩)) (o := { dst := some 13, op := _, type := _, pos := _, after := _, guard := none }) rfl (by kernel_rfl) (by kernel_rfl) (by kernel_rfl) (by kernel_rfl) (fun _ _ _ h => h) (Or.inl ⟨by rfl, fun w' hSw => ?_⟩) hS ?_
      · (obtain ⟨s1, s2⟩ := hSw; clear hS; go_simp)
      try simp only [Act.put, List.setIfInBounds_toArray, List.set_cons_zero, List.set_cons_succ]
      refine wpE_take (i := 3) (v := .int .i64 at') (o := { dst := some 14, op := _, type := _, pos := _, after := _, guard := none }) rfl (by kernel_rfl) (by kernel_rfl) (by kernel_rfl) (by kernel_rfl) (fun _ _ _ h => h) (Or.inl ⟨by rfl, fun w' hSw => ?_⟩) hS ?_
      · (obtain ⟨s1, s2⟩ := hSw; clear hS; go_simp)
      try simp only [Act.put, List.setIfInBounds_toArray, List.set_cons_zero, List.set_cons_succ]
      refine wpE_take (i := 4) (v := .pointer (some ⟨tb, 0, none⟩)) (o := { dst := some 15, op := _, type := _, pos := _, after := _, guard := none }) rfl (by kernel_rfl) (by kernel_rfl) (by kernel_rfl) (by kernel_rfl) (fun _ _ _ h => h) (Or.inl ⟨by rfl, fun w' hSw => ?_⟩) hS ?_
      · (obtain ⟨s1, s2⟩ := hSw; clear hS; go_simp)
      try simp only [Act.put, List.setIfInBounds_toArray, List.set_cons_zero, List.set_cons_succ]
      refine wpE_take (i := 5) (v := .pointer (some ⟨w.heap.size, 0, none⟩)) (o := { dst := some 16, op := _, type := _, pos := _, after := _, guard := none }) rfl (by kernel_rfl) (by kernel_rfl) (by kernel_rfl) (by kernel_rfl) (fun _ _ _ h => h) (Or.inl ⟨by rfl, fun w' hSw => ?_⟩) hS ?_
      · (obtain ⟨s1, s2⟩ := hSw; clear hS; go_simp)
      try simp only [Act.put, List.setIfInBounds_toArray, List.set_cons_zero, List.set_cons_succ]
      refine wpE_take (i := 6) (v := .int .i64 id) (o := { dst := some 17, op := _, type := _, pos := _, after := _, guard := none }) rfl (by kernel_rfl) (by kernel_rfl) (by kernel_rfl) (by kernel_rfl) (fun _ _ _ h => h) (Or.inl ⟨by rfl, fun w' hSw => ?_⟩) hS ?_
      · (obtain ⟨s1, s2⟩ := hSw; clear hS; go_simp)
      try simp only [Act.put, List.setIfInBounds_toArray, List.set_cons_zero, List.set_cons_succ]
      obtain ⟨wd, hwd⟩ : ∃ wd : World, wd = w2.drew := ⟨_, rfl⟩
      have HXD := Lib.hid (HX.out.trans (Ext.refl w2).drew)
      rw [← hwd] at HXD hS ⊢
      clear hwd
      refine wpE_one (i := 7) (o := { dst := some 18, op := _, type := _, pos := _, after := _, guard := none }) (by kernel_rfl) rfl (fun K hK => ?_)
      go_simp
      go_at_call 60
      refine (HLN.out _ (XM.out.trans HXD.out)).mono ?_
      rintro e w3 ⟨rfl, hx3⟩
      have HX3 := Lib.hid (HXD.out.trans hx3)
      clear hx3
      have q0 := HX3.out.cell c0
      have q1 := HX3.out.cell c1
      refine hK.out _ _ (.inr ⟨q0, q1⟩) ?_
      clear hK K
      try simp only [Act.put, List.setIfInBounds_toArray, List.set_cons_zero, List.set_cons_succ]
      refine wpE_one (i := 8) (o := { dst := some 19, op := _, type := _, pos := _, after := _, guard := none }) (by kernel_rfl) rfl (fun K hK => ?_)
      go_simp
      refine hK.out _ _ (.inr ⟨q0, q1⟩) ?_
      clear hK K
      try simp only [Act.put, List.setIfInBounds_toArray, List.set_cons_zero, List.set_cons_succ]
      refine wpE_one (i := 9) (o := { dst := some 20, op := _, type := _, pos := _, after := _, guard := none }) (by kernel_rfl) rfl (fun K hK => ?_)
      go_simp
      refine hK.out _ _ (.inr ⟨q0, q1⟩) ?_
      clear hK K
      try simp only [Act.put, List.setIfInBounds_toArray, List.set_cons_zero, List.set_cons_succ]
      refine wpE_one (i := 10) (o := { dst := some 21, op := _, type := _, pos := _, after := _, guard := none }) (by kernel_rfl) rfl (fun K hK => ?_)
      go_simp
      refine hK.out _ _ (.inr ⟨q0, q1⟩) ?_
      clear hK K
      try simp only [Act.put, List.setIfInBounds_toArray, List.set_cons_zero, List.set_cons_succ]
      have s0 := HX3.out.cell r0
      have s1 := HX3.out.cell r1
      have fs0 := HX3.out.free (cell_lt r0) f0
      have fs1 := HX3.out.free (cell_lt r0) f1
      refine wpE_one (i := 11) (o := { dst := none, op := _, type := _, pos := _, after := _, guard := none }) (by kernel_rfl) rfl (fun K hK => ?_)
      go_simp
      refine hK.out _ _ (.inl rfl) ?_
      clear hK K
      refine wpE_done (by kernel_rfl) ?_
      go_wp2_with fail
      exact bodyPost_ret (v := .agg #[.int .i64 id, .int .i64 (0)]) (by simp [results, Try.results62, go_sem, s0, s1]; omega) rfl ⟨rfl, ((XM.out.trans HX3.out).setCell (Nat.le_succ _) _).setCell (Nat.le_succ _) _⟩
    · rw [if_neg k0]
      by_cases k1 : L < at'
      · rw [if_pos k1]
        go_enter Try.func62, Try.ntmps62
        go_upto_region 1 with fail
        obtain ⟨wm, hwm⟩ : ∃ wm : World, wm = (w.alloc (.cells #[.int .i64 id, .int .i64 at'] 73)).alloc (.cells #[.int .i64 0, .int .i64 0] 73) := ⟨_, rfl⟩
        rw [← hwm] at ba bb xm
        rw [← hwm]
        clear hwm
        have c0 := cellOf ba (i := 0) (v := .int .i64 id) rfl
        have c1 := cellOf ba (i := 1) (v := .int .i64 at') rfl
        have fc1 := freeOf ba 1
        have r0 := cellOf bb (i := 0) (v := .int .i64 0) rfl
        have r1 := cellOf bb (i := 1) (v := .int .i64 0) rfl
        have f0 := freeOf bb 0
        have f1 := freeOf bb 1
        have np : w.heap.size ≠ w.heap.size + 1 := by omega
        have np' := Ne.symm np
        have XM := Lib.hid xm
        have BA := Lib.hid ba
        have BB := Lib.hid bb
        clear xm ba bb
        go_upto_region 3 with (go_at_call 27; refine (HHS.out _ XM.out).mono ?_; rintro e w2 ⟨rfl, hx⟩; have HX := Lib.hid hx; clear hx)
        have d0 := HX.out.cell c0
        have d1 := HX.out.cell c1
        have HXW := Lib.hid (XM.out.trans HX.out)
        refine wp_region_E (S := fun w' => w'.cell? ⟨w.heap.size, 0, none⟩ = some (.int .i64 id) ∧ w'.cell? ⟨w.heap.size, 1, none⟩ = some (.int .i64 at')) (n := 11) (by kernel_rfl) ?_
        have hS : w2.drew.cell? ⟨w.heap.size, 0, none⟩ = some (.int .i64 id) ∧ w2.drew.cell? ⟨w.heap.size, 1, none⟩ = some (.int .i64 at') := ⟨d0, d1⟩
        show wpE _ _ _ _ _ 11 12 (Array.replicate 12 false) _ _
        refine wpE_take (i := 0) (v := .pointer (some ⟨w.heap.size, 0, none⟩)) (o := { dst := some 11, op := _, type := _, pos := _, after := _, guard := none }) rfl (by kernel_rfl) (by kernel_rfl) (by kernel_rfl) (by kernel_rfl) (fun _ _ _ h => h) (Or.inl ⟨by rfl, fun w' hSw => ?_⟩) hS ?_
        · (obtain ⟨s1, s2⟩ := hSw; clear hS; go_simp)
        try simp only [Act.put, List.setIfInBounds_toArray, List.set_cons_zero, List.set_cons_succ]
        refine wpE_take (i := 1) (v := .int .i64 id) (o := { dst := some 12, op := _, type := _, pos := _, after := _, guard := none }) rfl (by kernel_rfl) (by kernel_rfl) (by kernel_rfl) (by kernel_rfl) (fun _ _ _ h => h) (Or.inl ⟨by rfl, fun w' hSw => ?_⟩) hS ?_
        · (obtain ⟨s1, s2⟩ := hSw; clear hS; go_simp)
        try simp only [Act.put, List.setIfInBounds_toArray, List.set_cons_zero, List.set_cons_succ]
        refine wpE_take (i := 2) (v := .pointer (some ⟨w.heap.size, 1, none⟩)) (o := { dst := some 13, op := _, type := _, pos := _, after := _, guard := none }) rfl (by kernel_rfl) (by kernel_rfl) (by kernel_rfl) (by kernel_rfl) (fun _ _ _ h => h) (Or.inl ⟨by rfl, fun w' hSw => ?_⟩) hS ?_
        · (obtain ⟨s1, s2⟩ := hSw; clear hS; go_simp)
        try simp only [Act.put, List.setIfInBounds_toArray, List.set_cons_zero, List.set_cons_succ]
        refine wpE_take (i := 3) (v := .int .i64 at') (o := { dst := some 14, op := _, type := _, pos := _, after := _, guard := none }) rfl (by kernel_rfl) (by kernel_rfl) (by kernel_rfl) (by kernel_rfl) (fun _ _ _ h => h) (Or.inl ⟨by rfl, fun w' hSw => ?_⟩) hS ?_
        · (obtain ⟨s1, s2⟩ := hSw; clear hS; go_simp)
        try simp only [Act.put, List.setIfInBounds_toArray, List.set_cons_zero, List.set_cons_succ]
        refine wpE_take (i := 4) (v := .pointer (some ⟨tb, 0, none⟩)) (o := { dst := some 15, op := _, type := _, pos := _, after := _, guard := none }) rfl (by kernel_rfl) (by kernel_rfl) (by kernel_rfl) (by kernel_rfl) (fun _ _ _ h => h) (Or.inl ⟨by rfl, fun w' hSw => ?_⟩) hS ?_
        · (obtain ⟨s1, s2⟩ := hSw; clear hS; go_simp)
        try simp only [Act.put, List.setIfInBounds_toArray, List.set_cons_zero, List.set_cons_succ]
        refine wpE_take (i := 5) (v := .pointer (some ⟨w.heap.size, 0, none⟩)) (o := { dst := some 16, op := _, type := _, pos := _, after := _, guard := none }) rfl (by kernel_rfl) (by kernel_rfl) (by kernel_rfl) (by kernel_rfl) (fun _ _ _ h => h) (Or.inl ⟨by rfl, fun w' hSw => ?_⟩) hS ?_
        · (obtain ⟨s1, s2⟩ := hSw; clear hS; go_simp)
        try simp only [Act.put, List.setIfInBounds_toArray, List.set_cons_zero, List.set_cons_succ]
        refine wpE_take (i := 6) (v := .int .i64 id) (o := { dst := some 17, op := _, type := _, pos := _, after := _, guard := none }) rfl (by kernel_rfl) (by kernel_rfl) (by kernel_rfl) (by kernel_rfl) (fun _ _ _ h => h) (Or.inl ⟨by rfl, fun w' hSw => ?_⟩) hS ?_
        · (obtain ⟨s1, s2⟩ := hSw; clear hS; go_simp)
        try simp only [Act.put, List.setIfInBounds_toArray, List.set_cons_zero, List.set_cons_succ]
        obtain ⟨wd, hwd⟩ : ∃ wd : World, wd = w2.drew := ⟨_, rfl⟩
        have HXD := Lib.hid (HX.out.trans (Ext.refl w2).drew)
        rw [← hwd] at HXD hS ⊢
        clear hwd
        refine wpE_one (i := 7) (o := { dst := some 18, op := _, type := _, pos := _, after := _, guard := none }) (by kernel_rfl) rfl (fun K hK => ?_)
        go_simp
        go_at_call 60
        refine (HLN.out _ (XM.out.trans HXD.out)).mono ?_
        rintro e w3 ⟨rfl, hx3⟩
        have HX3 := Lib.hid (HXD.out.trans hx3)
        clear hx3
        have q0 := HX3.out.cell c0
        have q1 := HX3.out.cell c1
        refine hK.out _ _ (.inr ⟨q0, q1⟩) ?_
        clear hK K
        try simp only [Act.put, List.setIfInBounds_toArray, List.set_cons_zero, List.set_cons_succ]
        refine wpE_one (i := 8) (o := { dst := some 19, op := _, type := _, pos := _, after := _, guard := none }) (by kernel_rfl) rfl (fun K hK => ?_)
        go_simp
        refine hK.out _ _ (.inr ⟨q0, q1⟩) ?_
        clear hK K
        try simp only [Act.put, List.setIfInBounds_toArray, List.set_cons_zero, List.set_cons_succ]
        refine wpE_one (i := 9) (o := { dst := some 20, op := _, type := _, pos := _, after := _, guard := none }) (by kernel_rfl) rfl (fun K hK => ?_)
        go_simp
        refine hK.out _ _ (.inr ⟨q0, q1⟩) ?_
        clear hK K
        try simp only [Act.put, List.setIfInBounds_toArray, List.set_cons_zero, List.set_cons_succ]
        refine wpE_one (i := 10) (o := { dst := some 21, op := _, type := _, pos := _, after := _, guard := none }) (by kernel_rfl) rfl (fun K hK => ?_)
        go_simp
        refine hK.out _ _ (.inr ⟨q0, q1⟩) ?_
        clear hK K
        try simp only [Act.put, List.setIfInBounds_toArray, List.set_cons_zero, List.set_cons_succ]
        have s0 := HX3.out.cell r0
        have s1 := HX3.out.cell r1
        have fs0 := HX3.out.free (cell_lt r0) f0
        have fs1 := HX3.out.free (cell_lt r0) f1
        refine wpE_one (i := 11) (o := { dst := none, op := _, type := _, pos := _, after := _, guard := none }) (by kernel_rfl) rfl (fun K hK => ?_)
        go_simp
        refine hK.out _ _ (.inl rfl) ?_
        clear hK K
        refine wpE_done (by kernel_rfl) ?_
        go_wp2_with fail
        exact bodyPost_ret (v := .agg #[.int .i64 id, .int .i64 (L)]) (by simp [results, Try.results62, go_sem, s0, s1]; omega) rfl ⟨rfl, ((XM.out.trans HX3.out).setCell (Nat.le_succ _) _).setCell (Nat.le_succ _) _⟩
      · rw [if_neg k1]
        go_enter Try.func62, Try.ntmps62
        go_upto_region 1 with fail
        obtain ⟨wm, hwm⟩ : ∃ wm : World, wm = (w.alloc (.cells #[.int .i64 id, .int .i64 at'] 73)).alloc (.cells #[.int .i64 0, .int .i64 0] 73) := ⟨_, rfl⟩
        rw [← hwm] at ba bb xm
        rw [← hwm]
        clear hwm
        have c0 := cellOf ba (i := 0) (v := .int .i64 id) rfl
        have c1 := cellOf ba (i := 1) (v := .int .i64 at') rfl
        have fc1 := freeOf ba 1
        have r0 := cellOf bb (i := 0) (v := .int .i64 0) rfl
        have r1 := cellOf bb (i := 1) (v := .int .i64 0) rfl
        have f0 := freeOf bb 0
        have f1 := freeOf bb 1
        have np : w.heap.size ≠ w.heap.size + 1 := by omega
        have np' := Ne.symm np
        have XM := Lib.hid xm
        have BA := Lib.hid ba
        have BB := Lib.hid bb
        clear xm ba bb
        go_upto_region 3 with (go_at_call 27; refine (HHS.out _ XM.out).mono ?_; rintro e w2 ⟨rfl, hx⟩; have HX := Lib.hid hx; clear hx)
        have d0 := HX.out.cell c0
        have d1 := HX.out.cell c1
        have HXW := Lib.hid (XM.out.trans HX.out)
        refine wp_region_E (S := fun w' => w'.cell? ⟨w.heap.size, 0, none⟩ = some (.int .i64 id) ∧ w'.cell? ⟨w.heap.size, 1, none⟩ = some (.int .i64 at')) (n := 11) (by kernel_rfl) ?_
        have hS : w2.drew.cell? ⟨w.heap.size, 0, none⟩ = some (.int .i64 id) ∧ w2.drew.cell? ⟨w.heap.size, 1, none⟩ = some (.int .i64 at') := ⟨d0, d1⟩
        show wpE _ _ _ _ _ 11 12 (Array.replicate 12 false) _ _
        refine wpE_take (i := 0) (v := .pointer (some ⟨w.heap.size, 0, none⟩)) (o := { dst := some 11, op := _, type := _, pos := _, after := _, guard := none }) rfl (by kernel_rfl) (by kernel_rfl) (by kernel_rfl) (by kernel_rfl) (fun _ _ _ h => h) (Or.inl ⟨by rfl, fun w' hSw => ?_⟩) hS ?_
        · (obtain ⟨s1, s2⟩ := hSw; clear hS; go_simp)
        try simp only [Act.put, List.setIfInBounds_toArray, List.set_cons_zero, List.set_cons_succ]
        refine wpE_take (i := 1) (v := .int .i64 id) (o := { dst := some 12, op := _, type := _, pos := _, after := _, guard := none }) rfl (by kernel_rfl) (by kernel_rfl) (by kernel_rfl) (by kernel_rfl) (fun _ _ _ h => h) (Or.inl ⟨by rfl, fun w' hSw => ?_⟩) hS ?_
        · (obtain ⟨s1, s2⟩ := hSw; clear hS; go_simp)
        try simp only [Act.put, List.setIfInBounds_toArray, List.set_cons_zero, List.set_cons_succ]
        refine wpE_take (i := 2) (v := .pointer (some ⟨w.heap.size, 1, none⟩)) (o := { dst := some 13, op := _, type := _, pos := _, after := _, guard := none }) rfl (by kernel_rfl) (by kernel_rfl) (by kernel_rfl) (by kernel_rfl) (fun _ _ _ h => h) (Or.inl ⟨by rfl, fun w' hSw => ?_⟩) hS ?_
        · (obtain ⟨s1, s2⟩ := hSw; clear hS; go_simp)
        try simp only [Act.put, List.setIfInBounds_toArray, List.set_cons_zero, List.set_cons_succ]
        refine wpE_take (i := 3) (v := .int .i64 at') (o := { dst := some 14, op := _, type := _, pos := _, after := _, guard := none }) rfl (by kernel_rfl) (by kernel_rfl) (by kernel_rfl) (by kernel_rfl) (fun _ _ _ h => h) (Or.inl ⟨by rfl, fun w' hSw => ?_⟩) hS ?_
        · (obtain ⟨s1, s2⟩ := hSw; clear hS; go_simp)
        try simp only [Act.put, List.setIfInBounds_toArray, List.set_cons_zero, List.set_cons_succ]
        refine wpE_take (i := 4) (v := .pointer (some ⟨tb, 0, none⟩)) (o := { dst := some 15, op := _, type := _, pos := _, after := _, guard := none }) rfl (by kernel_rfl) (by kernel_rfl) (by kernel_rfl) (by kernel_rfl) (fun _ _ _ h => h) (Or.inl ⟨by rfl, fun w' hSw => ?_⟩) hS ?_
        · (obtain ⟨s1, s2⟩ := hSw; clear hS; go_simp)
        try simp only [Act.put, List.setIfInBounds_toArray, List.set_cons_zero, List.set_cons_succ]
        refine wpE_take (i := 5) (v := .pointer (some ⟨w.heap.size, 0, none⟩)) (o := { dst := some 16, op := _, type := _, pos := _, after := _, guard := none }) rfl (by kernel_rfl) (by kernel_rfl) (by kernel_rfl) (by kernel_rfl) (fun _ _ _ h => h) (Or.inl ⟨by rfl, fun w' hSw => ?_⟩) hS ?_
        · (obtain ⟨s1, s2⟩ := hSw; clear hS; go_simp)
        try simp only [Act.put, List.setIfInBounds_toArray, List.set_cons_zero, List.set_cons_succ]
        refine wpE_take (i := 6) (v := .int .i64 id) (o := { dst := some 17, op := _, type := _, pos := _, after := _, guard := none }) rfl (by kernel_rfl) (by kernel_rfl) (by kernel_rfl) (by kernel_rfl) (fun _ _ _ h => h) (Or.inl ⟨by rfl, fun w' hSw => ?_⟩) hS ?_
        · (obtain ⟨s1, s2⟩ := hSw; clear hS; go_simp)
        try simp only [Act.put, List.setIfInBounds_toArray, List.set_cons_zero, List.set_cons_succ]
        obtain ⟨wd, hwd⟩ : ∃ wd : World, wd = w2.drew := ⟨_, rfl⟩
        have HXD := Lib.hid (HX.out.trans (Ext.refl w2).drew)
        rw [← hwd] at HXD hS ⊢
        clear hwd
        refine wpE_one (i := 7) (o := { dst := some 18, op := _, type := _, pos := _, after := _, guard := none }) (by kernel_rfl) rfl (fun K hK => ?_)
        go_simp
        go_at_call 60
        refine (HLN.out _ (XM.out.trans HXD.out)).mono ?_
        rintro e w3 ⟨rfl, hx3⟩
        have HX3 := Lib.hid (HXD.out.trans hx3)
        clear hx3
        have q0 := HX3.out.cell c0
        have q1 := HX3.out.cell c1
        refine hK.out _ _ (.inr ⟨q0, q1⟩) ?_
        clear hK K
        try simp only [Act.put, List.setIfInBounds_toArray, List.set_cons_zero, List.set_cons_succ]
        refine wpE_one (i := 8) (o := { dst := some 19, op := _, type := _, pos := _, after := _, guard := none }) (by kernel_rfl) rfl (fun K hK => ?_)
        go_simp
        refine hK.out _ _ (.inr ⟨q0, q1⟩) ?_
        clear hK K
        try simp only [Act.put, List.setIfInBounds_toArray, List.set_cons_zero, List.set_cons_succ]
        refine wpE_one (i := 9) (o := { dst := some 20, op := _, type := _, pos := _, after := _, guard := none }) (by kernel_rfl) rfl (fun K hK => ?_)
        go_simp
        refine hK.out _ _ (.inr ⟨q0, q1⟩) ?_
        clear hK K
        try simp only [Act.put, List.setIfInBounds_toArray, List.set_cons_zero, List.set_cons_succ]
        refine wpE_one (i := 10) (o := { dst := some 21, op := _, type := _, pos := _, after := _, guard := none }) (by kernel_rfl) rfl (fun K hK => ?_)
        go_simp
        refine hK.out _ _ (.inr ⟨q0, q1⟩) ?_
        clear hK K
        try simp only [Act.put, List.setIfInBounds_toArray, List.set_cons_zero, List.set_cons_succ]
        have s0 := HX3.out.cell r0
        have s1 := HX3.out.cell r1
        have fs0 := HX3.out.free (cell_lt r0) f0
        have fs1 := HX3.out.free (cell_lt r0) f1
        refine wpE_one (i := 11) (o := { dst := none, op := _, type := _, pos := _, after := _, guard := none }) (by kernel_rfl) rfl (fun K hK => ?_)
        go_simp
        refine hK.out _ _ (.inl rfl) ?_
        clear hK K
        refine wpE_done (by kernel_rfl) ?_
        go_wp2_with fail
        exact bodyPost_ret (v := .agg #[.int .i64 id, .int .i64 (at')]) (by simp [results, Try.results62, go_sem, s0, s1]; omega) rfl ⟨rfl, ((XM.out.trans HX3.out).setCell (Nat.le_succ _) _).setCell (Nat.le_succ _) _⟩
section
variable {w : World} {rb : Nat} {T : Tr}
set_option maxRecDepth 100000 in
set_option maxHeartbeats 2000000 in
theorem rClamp (h : RAt w rb T) {d : Nat → Nat} (hw : WF T d) (hA : AttrsOk T) (id at' : Int) : Calls Try.prog 77 #[.pointer (some ⟨rb, 0, none⟩), .agg #[.int .i64 id, .int .i64 at']] w (RVal (T.clamped id at') w) := by
  have xm := ((Ext.refl w).alloc (.cells #[.int .i64 id, .int .i64 at'] 73)).alloc (.cells #[.int .i64 0, .int .i64 0] 73)
  have ba := ((Ext.refl _).alloc (.cells #[.int .i64 0, .int .i64 0] 73)).block (heap_alloc_new w (.cells #[.int .i64 id, .int .i64 at'] 73))
  have bb := heap_alloc_new (w.alloc (.cells #[.int .i64 id, .int .i64 at'] 73)) (.cells #[.int .i64 0, .int .i64 0] 73)
  rw [show (w.alloc (.cells #[.int .i64 id, .int .i64 at'] 73)).heap.size = w.heap.size + 1 by simp] at bb
  have HHS := Lib.hid (fun (u : World) (x : Ext w u) => RSame.val (rHas (h.ext x) id))
  have HLN := Lib.hid (fun (u : World) (x : Ext w u) => rLength (h.ext x) hw hA id)
  have hlb := lengthOf_bound hw hA id
  unfold Tr.clamped Tr.clampAt
  cases hg : T.get? id with
  | none =>
    rw [hg] at HHS
    clear h hw hA hg
    show Calls _ _ _ _ (RVal (.agg #[.int .i64 0, .int .i64 0]) w)
    go_enter Try.func77, Try.ntmps77
    go_upto_region 1 with fail
    obtain ⟨wm, hwm⟩ : ∃ wm : World, wm = (w.alloc (.cells #[.int .i64 id, .int .i64 at'] 73)).alloc (.cells #[.int .i64 0, .int .i64 0] 73) := ⟨_, rfl⟩
    rw [← hwm] at ba bb xm
    rw [← hwm]
    clear hwm
    have c0 := cellOf ba (i := 0) (v := .int .i64 id) rfl
    have c1 := cellOf ba (i := 1) (v := .int .i64 at') rfl
    have fc1 := freeOf ba 1
    have r0 := cellOf bb (i := 0) (v := .int .i64 0) rfl
    have r0' := cellOf bb (i := 0) (v := .int .i64 0) rfl
    have r1 := cellOf bb (i := 1) (v := .int .i64 0) rfl
    have f0 := freeOf bb 0
    have f1 := freeOf bb 1
    have np : w.heap.size ≠ w.heap.size + 1 := by omega
    have np' := Ne.symm np
    have XM := Lib.hid xm
    have BA := Lib.hid ba
    have BB := Lib.hid bb
    clear xm ba bb
    go_wp2_with (go_at_call 105; refine (HHS.out _ XM.out).mono ?_; rintro e w2 ⟨rfl, hx⟩; replace r0 := hx.cell r0; replace r1 := hx.cell r1; replace f0 := hx.free (cell_lt r0') f0; replace f1 := hx.free (cell_lt r0') f1; have HX := Lib.hid (XM.out.trans hx); clear hx)
    exact bodyPost_ret (v := .agg #[.int .i64 0, .int .i64 0]) (by simp [results, Try.results77, go_sem, r0, r1]) rfl ⟨rfl, (HX.out.setCell (Nat.le_succ _) _).setCell (Nat.le_succ _) _⟩
  | some nd =>
    rw [hg] at HHS
    have hl0 : 0 ≤ T.lengthOf id := by
      have ht := (hw.text _ _ (Tr.get_lt hg).2.2).1
      unfold Tr.lengthOf Tr.tagOf Tr.txt Tr.kidsOf
      rw [hg]
      show 0 ≤ (if nd.tag = -1 then _ else _)
      rw [if_neg (by omega)]
      split <;> omega
    obtain ⟨L, hL⟩ : ∃ L, T.lengthOf id = L := ⟨_, rfl⟩
    rw [hL] at HLN hlb hl0
    show Calls _ _ _ _ (RVal (.agg #[.int .i64 id, .int .i64 (if at' < 0 then 0 else if T.lengthOf id < at' then T.lengthOf id else at')]) w)
    rw [hL]
    clear h hw hA hg hL
    by_cases k0 : at' < 0
    · rw [if_pos k0]
      go_enter Try.func77, Try.ntmps77
      go_upto_region 1 with fail
      obtain ⟨wm, hwm⟩ : ∃ wm : World, wm = (w.alloc (.cells #[.int .i64 id, .int .i64 at'] 73)).alloc (.cells #[.int .i64 0, .int .i64 0] 73) := ⟨_, rfl⟩
      rw [← hwm] at ba bb xm
      rw [← hwm]
      clear hwm
      have c0 := cellOf ba (i := 0) (v := .int .i64 id) rfl
      have c1 := cellOf ba (i := 1) (v := .int .i64 at') rfl
      have fc1 := freeOf ba 1
      have r0 := cellOf bb (i := 0) (v := .int .i64 0) rfl
      have r1 := cellOf bb (i := 1) (v := .int .i64 0) rfl
      have f0 := freeOf bb 0
      have f1 := freeOf bb 1
      have np : w.heap.size ≠ w.heap.size + 1 := by omega
      have np' := Ne.symm np
      have XM := Lib.hid xm
      have BA := Lib.hid ba
      have BB := Lib.hid bb
      clear xm ba bb
      go_upto_region 5 with (go_at_call 105; refine (HHS.out _ XM.out).mono ?_; rintro e w2 ⟨rfl, hx⟩; have HX := Lib.hid hx; have d0 := hx.cell c0; have d1 := hx.cell c1; have df := hx.free (cell_lt c1) fc1; clear hx)
      have HXW := Lib.hid (XM.out.trans HX.out)
      obtain ⟨wa, hwa⟩ : ∃ wa : World, wa = w2.setCell ⟨w.heap.size, 1, none⟩ (.int .i64 0) := ⟨_, rfl⟩
      have x0 : Ext w wa := by rw [hwa]; exact (XM.out.trans HX.out).setCell (Nat.le_refl _) _
      have y0 : wa.cell? ⟨w.heap.size, 0, none⟩ = some (.int .i64 id) := by rw [hwa]; exact cellOf (heap_setCell_same (i := 1) (HX.out.block BA.out) (.int .i64 0)) rfl
      have y1 : wa.cell? ⟨w.heap.size, 1, none⟩ = some (.int .i64 0) := by rw [hwa]; exact cellOf (heap_setCell_same (i := 1) (HX.out.block BA.out) (.int .i64 0)) rfl
      have yb : wa.heap[w.heap.size + 1]? = some (.cells #[.int .i64 0, .int .i64 0] 73 (0, 0)) := by rw [hwa]; exact (heap_setCell_other (p := ⟨w.heap.size, 1, none⟩) _ np').trans (HX.out.block BB.out)
      have yf : wa.frozen? ⟨w.heap.size, 1, none⟩ = false := by rw [hwa]; exact freeOf (heap_setCell_same (i := 1) (HX.out.block BA.out) (.int .i64 0)) 1
      have X0 := Lib.hid x0
      have YB := Lib.hid yb
      rw [← hwa]
      clear hwa x0 yb d0 d1 c0 c1 r0 r1 f0 f1 fc1
      have e0 := fun u : ExtOf wa => u.ext.cell y0
      have e1 := fun u : ExtOf wa => u.ext.cell y1
      refine wp_region_ext (by kernel_rfl) (by kernel_rfl) ?_
      repeat (go_big_quiet_step ((go_at_call 69; exact inExt (HLN.out _ (X0.out.trans (ExtOf.ext _))))))
      refine wpQuiet_nil ?_
      rintro _ ⟨u, rfl⟩
      clear e0 e1
      have HU := Lib.hid (X0.out.trans u.ext)
      have z0 := u.ext.cell y0
      have z1 := u.ext.cell y1
      have zf := u.ext.free (cell_lt y1) yf
      have zb := u.ext.block YB.out
      have r0 := cellOf zb (i := 0) (v := .int .i64 0) rfl
      have r1 := cellOf zb (i := 1) (v := .int .i64 0) rfl
      have f0 := freeOf zb 0
      have f1 := freeOf zb 1
      clear y0 y1 yf zb
      go_wp2_with fail
      exact bodyPost_ret (v := .agg #[.int .i64 id, .int .i64 (0)]) (by simp [results, Try.results77, go_sem, r0, r1]) rfl ⟨rfl, (HU.out.setCell (Nat.le_succ _) _).setCell (Nat.le_succ _) _⟩
    · rw [if_neg k0]
      by_cases k1 : L < at'
      · rw [if_pos k1]
        go_enter Try.func77, Try.ntmps77
        go_upto_region 1 with fail
        obtain ⟨wm, hwm⟩ : ∃ wm : World, wm = (w.alloc (.cells #[.int .i64 id, .int .i64 at'] 73)).alloc (.cells #[.int .i64 0, .int .i64 0] 73) := ⟨_, rfl⟩
        rw [← hwm] at ba bb xm
        rw [← hwm]
        clear hwm
        have c0 := cellOf ba (i := 0) (v := .int .i64 id) rfl
        have c1 := cellOf ba (i := 1) (v := .int .i64 at') rfl
        have fc1 := freeOf ba 1
        have r0 := cellOf bb (i := 0) (v := .int .i64 0) rfl
        have r1 := cellOf bb (i := 1) (v := .int .i64 0) rfl
        have f0 := freeOf bb 0
        have f1 := freeOf bb 1
        have np : w.heap.size ≠ w.heap.size + 1 := by omega
        have np' := Ne.symm np
        have XM := Lib.hid xm
        have BA := Lib.hid ba
        have BB := Lib.hid bb
        clear xm ba bb
        go_upto_region 5 with (go_at_call 105; refine (HHS.out _ XM.out).mono ?_; rintro e w2 ⟨rfl, hx⟩; have HX := Lib.hid hx; have d0 := hx.cell c0; have d1 := hx.cell c1; have df := hx.free (cell_lt c1) fc1; clear hx)
        have HXW := Lib.hid (XM.out.trans HX.out)
        obtain ⟨wa, hwa⟩ : ∃ wa : World, wa = w2 := ⟨_, rfl⟩
        have x0 : Ext w wa := by rw [hwa]; exact XM.out.trans HX.out
        have y0 : wa.cell? ⟨w.heap.size, 0, none⟩ = some (.int .i64 id) := by rw [hwa]; exact d0
        have y1 : wa.cell? ⟨w.heap.size, 1, none⟩ = some (.int .i64 at') := by rw [hwa]; exact d1
        have yb : wa.heap[w.heap.size + 1]? = some (.cells #[.int .i64 0, .int .i64 0] 73 (0, 0)) := by rw [hwa]; exact HX.out.block BB.out
        have yf : wa.frozen? ⟨w.heap.size, 1, none⟩ = false := by rw [hwa]; exact df
        have X0 := Lib.hid x0
        have YB := Lib.hid yb
        rw [← hwa]
        clear hwa x0 yb d0 d1 c0 c1 r0 r1 f0 f1 fc1
        have e0 := fun u : ExtOf wa => u.ext.cell y0
        have e1 := fun u : ExtOf wa => u.ext.cell y1
        refine wp_region_ext (by kernel_rfl) (by kernel_rfl) ?_
        repeat (go_big_quiet_step ((go_at_call 69; exact inExt (HLN.out _ (X0.out.trans (ExtOf.ext _))))))
        refine wpQuiet_nil ?_
        rintro _ ⟨u, rfl⟩
        clear e0 e1
        have HU := Lib.hid (X0.out.trans u.ext)
        have z0 := u.ext.cell y0
        have z1 := u.ext.cell y1
        have zf := u.ext.free (cell_lt y1) yf
        have zb := u.ext.block YB.out
        have r0 := cellOf zb (i := 0) (v := .int .i64 0) rfl
        have r1 := cellOf zb (i := 1) (v := .int .i64 0) rfl
        have f0 := freeOf zb 0
        have f1 := freeOf zb 1
        clear y0 y1 yf zb
        go_wp2_with (go_at_call 69; refine (HLN.out _ HU.out).mono ?_; rintro e w4 ⟨rfl, hx4⟩; replace z0 := hx4.cell z0; replace zf := hx4.free (cell_lt z1) zf; replace z1 := hx4.cell z1; replace f0 := hx4.free (cell_lt r0) f0; replace f1 := hx4.free (cell_lt r1) f1; replace r0 := hx4.cell r0; replace r1 := hx4.cell r1; have H4 := Lib.hid (HU.out.trans hx4); clear hx4)
        exact bodyPost_ret (v := .agg #[.int .i64 id, .int .i64 (L)]) (by simp [results, Try.results77, go_sem, r0, r1]) rfl ⟨rfl, ((H4.out.setCell (Nat.le_refl _) _).setCell (Nat.le_succ _) _).setCell (Nat.le_succ _) _⟩
      · rw [if_neg k1]
        go_enter Try.func77, Try.ntmps77
        go_upto_region 1 with fail
        obtain ⟨wm, hwm⟩ : ∃ wm : World, wm = (w.alloc (.cells #[.int .i64 id, .int .i64 at'] 73)).alloc (.cells #[.int .i64 0, .int .i64 0] 73) := ⟨_, rfl⟩
        rw [← hwm] at ba bb xm
        rw [← hwm]
        clear hwm
        have c0 := cellOf ba (i := 0) (v := .int .i64 id) rfl
        have c1 := cellOf ba (i := 1) (v := .int .i64 at') rfl
        have fc1 := freeOf ba 1
        have r0 := cellOf bb (i := 0) (v := .int .i64 0) rfl
        have r1 := cellOf bb (i := 1) (v := .int .i64 0) rfl
        have f0 := freeOf bb 0
        have f1 := freeOf bb 1
        have np : w.heap.size ≠ w.heap.size + 1 := by omega
        have np' := Ne.symm np
        have XM := Lib.hid xm
        have BA := Lib.hid ba
        have BB := Lib.hid bb
        clear xm ba bb
        go_upto_region 5 with (go_at_call 105; refine (HHS.out _ XM.out).mono ?_; rintro e w2 ⟨rfl, hx⟩; have HX := Lib.hid hx; have d0 := hx.cell c0; have d1 := hx.cell c1; have df := hx.free (cell_lt c1) fc1; clear hx)
        have HXW := Lib.hid (XM.out.trans HX.out)
        obtain ⟨wa, hwa⟩ : ∃ wa : World, wa = w2 := ⟨_, rfl⟩
        have x0 : Ext w wa := by rw [hwa]; exact XM.out.trans HX.out
        have y0 : wa.cell? ⟨w.heap.size, 0, none⟩ = some (.int .i64 id) := by rw [hwa]; exact d0
        have y1 : wa.cell? ⟨w.heap.size, 1, none⟩ = some (.int .i64 at') := by rw [hwa]; exact d1
        have yb : wa.heap[w.heap.size + 1]? = some (.cells #[.int .i64 0, .int .i64 0] 73 (0, 0)) := by rw [hwa]; exact HX.out.block BB.out
        have yf : wa.frozen? ⟨w.heap.size, 1, none⟩ = false := by rw [hwa]; exact df
        have X0 := Lib.hid x0
        have YB := Lib.hid yb
        rw [← hwa]
        clear hwa x0 yb d0 d1 c0 c1 r0 r1 f0 f1 fc1
        have e0 := fun u : ExtOf wa => u.ext.cell y0
        have e1 := fun u : ExtOf wa => u.ext.cell y1
        refine wp_region_ext (by kernel_rfl) (by kernel_rfl) ?_
        repeat (go_big_quiet_step ((go_at_call 69; exact inExt (HLN.out _ (X0.out.trans (ExtOf.ext _))))))
        refine wpQuiet_nil ?_
        rintro _ ⟨u, rfl⟩
        clear e0 e1
        have HU := Lib.hid (X0.out.trans u.ext)
        have z0 := u.ext.cell y0
        have z1 := u.ext.cell y1
        have zf := u.ext.free (cell_lt y1) yf
        have zb := u.ext.block YB.out
        have r0 := cellOf zb (i := 0) (v := .int .i64 0) rfl
        have r1 := cellOf zb (i := 1) (v := .int .i64 0) rfl
        have f0 := freeOf zb 0
        have f1 := freeOf zb 1
        clear y0 y1 yf zb
        go_wp2_with fail
        exact bodyPost_ret (v := .agg #[.int .i64 id, .int .i64 (at')]) (by simp [results, Try.results77, go_sem, r0, r1]) rfl ⟨rfl, (HU.out.setCell (Nat.le_succ _) _).setCell (Nat.le_succ _) _⟩
end
end Go.Proofs.Ytiglflmjidikpaa

namespace Go.Proofs.Ytiglflmjidikpaa
open Go Go.RowKit Go.BigFrame Go.ChangeShapes Go.WideShapes
set_option linter.unusedVariables false
set_option linter.unusedSimpArgs false

set_option maxRecDepth 100000 in
set_option maxHeartbeats 2000000 in
theorem rPoint {w : World} {rb : Nat} {T : Tr} (h : RAt w rb T) {d : Nat → Nat} (hw : WF T d) (hA : AttrsOk T) (n at' : Int) : Calls Try.prog 78 #[.pointer (some ⟨rb, 0, none⟩), .agg #[.int .i64 n, .int .i64 at']] w (PointIs T n at' w) := by
  have x1 := ((Ext.refl w).alloc (.cells #[.int .i64 n, .int .i64 at'] 73)).alloc (.cells #[.slice none 0 0, .int .i64 0] 78)
  have ha := (Two.new w (.int .i64 n) (.int .i64 at') 73).ext ((Ext.refl _).alloc (.cells #[.slice none 0 0, .int .i64 0] 78))
  have hb := heap_alloc_new (w.alloc (.cells #[.int .i64 n, .int .i64 at'] 73)) (.cells #[.slice none 0 0, .int .i64 0] 78)
  rw [show (w.alloc (.cells #[.int .i64 n, .int .i64 at'] 73)).heap.size = w.heap.size + 1 by simp] at hb
  have HR := Lib.hid h
  have HW := Lib.hid hw
  clear h
  go_enter Try.func78, Try.ntmps78
  go_upto_region 1 with fail
  obtain ⟨wb, hwb⟩ : ∃ wb : World, wb = (w.alloc (.cells #[.int .i64 n, .int .i64 at'] 73)).alloc (.cells #[.slice none 0 0, .int .i64 0] 78) := ⟨_, rfl⟩
  rw [← hwb] at x1 ha hb ⊢
  clear hwb
  have HB := Lib.hid hb
  have X1 := Lib.hid x1
  obtain ⟨c0, c1, _, _⟩ := ha
  clear hb x1
  have no : ∀ (wx : World), wx.heap[w.heap.size + 1]? = some (.cells #[.slice none 0 0, .int .i64 0] 78 (0, 0)) → wx.cell? ⟨w.heap.size + 1, 0, none⟩ = some (.slice none 0 0) ∧ wx.cell? ⟨w.heap.size + 1, 1, none⟩ = some (.int .i64 0) ∧ wx.frozen? ⟨w.heap.size + 1, 0, none⟩ = false ∧ wx.frozen? ⟨w.heap.size + 1, 1, none⟩ = false :=
    fun wx h => ⟨cellOf h rfl, cellOf h rfl, freeOf h 0, freeOf h 1⟩
  cases hm : T.may n at' with
  | false =>
    have MA : MayIs T n at' false := ⟨hm⟩
    have HM := Lib.hid hm
    clear hm
    go_wp2_with fail
    refine (r_may (HR.out.ext X1.out) hw hA MA).mono ?_
    rintro e w2 ⟨rfl, hx2⟩
    obtain ⟨r0, r1, f0, f1⟩ := no w2 (hx2.block HB.out)
    go_wp2_with fail
    exact bodyPost_ret (v := .tuple #[.agg #[.slice none 0 0, .int .i64 0], .bool false]) (by simp [results, Try.results78, go_sem, r0, r1]) rfl (.inr ⟨by rw [HM.out]; rfl, rfl, ((X1.out.trans hx2).setCell (Nat.le_succ _) _).setCell (Nat.le_succ _) _⟩)
  | true =>
    have MA : MayIs T n at' true := ⟨hm⟩
    have hgn := may_get T hm
    have HM := Lib.hid hm
    clear hm
    go_wp2_with fail
    refine (r_may (HR.out.ext X1.out) hw hA MA).mono ?_
    rintro e w2 ⟨rfl, hx2⟩
    replace c0 := hx2.cell c0
    replace c1 := hx2.cell c1
    have hb2 := hx2.block HB.out
    replace hx2 := X1.out.trans hx2
    have HB2 := Lib.hid hb2
    have HX2 := Lib.hid hx2
    clear hb2 hx2
    obtain ⟨r, hr⟩ : ∃ r, T.rootOf n = r := ⟨_, rfl⟩
    have RA : RootR T n r := ⟨hr, hgn⟩
    have hlv : T.live n = decide (r = 0) := by obtain ⟨nd, hg⟩ := hgn; rw [live_of_root hw hg, hr]
    have HLV := Lib.hid hlv
    clear hlv hr hgn
    cases hv : (r == 0) with
    | false =>
      have HV := Lib.hid (show T.live n = false by rw [HLV.out]; exact decide_eq_false (by simpa using hv))
      go_wp2_with fail
      refine (r_root (HR.out.ext HX2.out) hw RA).mono ?_
      rintro e w3 ⟨rfl, hx3⟩
      obtain ⟨r0, r1, f0, f1⟩ := no w3 (hx3.block HB2.out)
      go_wp2_with fail
      exact bodyPost_ret (v := .tuple #[.agg #[.slice none 0 0, .int .i64 0], .bool false]) (by simp [results, Try.results78, go_sem, r0, r1]) rfl (.inr ⟨by rw [HM.out, HV.out]; rfl, rfl, ((HX2.out.trans hx3).setCell (Nat.le_succ _) _).setCell (Nat.le_succ _) _⟩)
    | true =>
      have HV := Lib.hid (show T.live n = true by rw [HLV.out]; exact decide_eq_true (by simpa using hv))
      go_wp2_with fail
      refine (r_root (HR.out.ext HX2.out) hw RA).mono ?_
      rintro e w3 ⟨rfl, hx3⟩
      replace c0 := hx3.cell c0
      replace c1 := hx3.cell c1
      have HB3 := Lib.hid (hx3.block HB2.out)
      have HXD := Lib.hid (show Ext w w3.drew from (HX2.out.trans hx3).drew)
      have HBD := Lib.hid (show w3.drew.heap[w.heap.size + 1]? = _ from HB3.out)
      have HC := Lib.hid (And.intro c0 c1)
      have hk := And.intro c0 c1
      have np : w.heap.size ≠ w.heap.size + 1 := by omega
      have np' := Ne.symm np
      clear hx3
      go_upto_region 3 with fail
      go_region_held3 (fun w' => w'.cell? ⟨w.heap.size, 0, none⟩ = some (.int .i64 n) ∧ w'.cell? ⟨w.heap.size, 1, none⟩ = some (.int .i64 at'))
        (first | exact hkeep | exact hk | go_keep)
        ((go_at_call 70; refine (rPath hw n _ _ (HR.out.ext HXD.out) (Ext.refl _)).mono ?_; rintro e w4 ⟨va, rfl, hra, hx4⟩; have hkeep := And.intro (hx4.cell HC.out.1) (hx4.cell HC.out.2); obtain ⟨pa, pc, ev, _⟩ := RowP.len_of' hra; subst ev; obtain ⟨r0, r1, f0, f1⟩ := no w4 (hx4.block HBD.out); have HRI := Lib.hid hra; have HX4 := Lib.hid (HXD.out.trans hx4); clear hra hx4))
      go_wp2_with fail
      have hsz : w.heap.size + 1 < w3.heap.size := (Array.getElem?_eq_some_iff.1 HB3.out).1
      have hob : (T.pathOf n).length = 0 ∨ (Value.slice pa (T.pathOf n).length pc).ownBlock ≠ some (w.heap.size + 1) := by
        rcases HRI.out.2 with ⟨h0, _⟩ | ⟨g, cap, cur, h1, h2, _⟩
        · exact .inl h0
        · refine .inr fun e => ?_
          rw [h1] at e
          have e2 : g = w.heap.size + 1 := by injection e
          have h3 : w3.drew.heap.size ≤ g := h2
          simp at h3
          omega
      have hr5 := ((RowP.rd HRI.out).other (p := ⟨w.heap.size + 1, 0, none⟩) hob (.slice pa (T.pathOf n).length pc)).other (p := ⟨w.heap.size + 1, 1, none⟩) hob (.int .i64 at')
      exact bodyPost_ret (v := .tuple #[.agg #[.slice pa (T.pathOf n).length pc, .int .i64 at'], .bool true]) (by simp [results, Try.results78, go_sem, r0, r1]) rfl (.inl ⟨HM.out, HV.out, pa, pc, rfl, hr5, (HX4.out.setCell (Nat.le_succ _) _).setCell (Nat.le_succ _) _⟩)
set_option maxRecDepth 100000 in
set_option maxHeartbeats 2000000 in
theorem rAt {w : World} {rb : Nat} {T : Tr} (h : RAt w rb T) {d : Nat → Nat} (hw : WF T d) (hA : AttrsOk T) {v : Value} {p : List Int} (hp : RowRd w 1 v p.length (p.map (Value.int .i64))) (hl : p.length ≤ 60000) (hin : ∀ i ∈ p, -9223372036854775808 ≤ i ∧ i ≤ 9223372036854775807) (at' : Int) :
    Calls Try.prog 79 #[.pointer (some ⟨rb, 0, none⟩), .agg #[v, .int .i64 at']] w (AtIs T p at' w) := by
  obtain ⟨va, vc, rfl, _⟩ := hp.len_of
  have x1 := ((Ext.refl w).alloc (.cells #[.slice va p.length vc, .int .i64 at'] 78)).alloc (.cells #[.int .i64 0, .int .i64 0] 73)
  have ha := (Two.new w (.slice va p.length vc) (.int .i64 at') 78).ext ((Ext.refl _).alloc (.cells #[.int .i64 0, .int .i64 0] 73))
  have hb := heap_alloc_new (w.alloc (.cells #[.slice va p.length vc, .int .i64 at'] 78)) (.cells #[.int .i64 0, .int .i64 0] 73)
  rw [show (w.alloc (.cells #[.slice va p.length vc, .int .i64 at'] 78)).heap.size = w.heap.size + 1 by simp] at hb
  obtain ⟨o, ho⟩ : ∃ o, T.find 0 p = o := ⟨_, rfl⟩
  have HFI := Lib.hid (fun (u : World) (x : Ext w u) => (ho ▸ rFind hw p 0 _ u (h.ext x) (hp.ext x) hl hin : Calls Try.prog 74 #[.pointer (some ⟨rb, 0, none⟩), .int .i64 0, .slice va p.length vc] u (RTwo (.int .i64 (o.getD 0)) (.bool o.isSome) u)))
  have HO := Lib.hid ho
  have HR := Lib.hid h
  clear h hp hin ho
  go_enter Try.func79, Try.ntmps79
  go_upto_region 1 with fail
  obtain ⟨wb, hwb⟩ : ∃ wb : World, wb = (w.alloc (.cells #[.slice va p.length vc, .int .i64 at'] 78)).alloc (.cells #[.int .i64 0, .int .i64 0] 73) := ⟨_, rfl⟩
  rw [← hwb] at x1 ha hb ⊢
  clear hwb
  have HB := Lib.hid hb
  have X1 := Lib.hid x1
  obtain ⟨c0, c1, _, _⟩ := ha
  clear hb x1
  have np : w.heap.size ≠ w.heap.size + 1 := by omega
  have np' := Ne.symm np
  have no : ∀ (wx : World), wx.heap[w.heap.size + 1]? = some (.cells #[.int .i64 0, .int .i64 0] 73 (0, 0)) → wx.cell? ⟨w.heap.size + 1, 0, none⟩ = some (.int .i64 0) ∧ wx.cell? ⟨w.heap.size + 1, 1, none⟩ = some (.int .i64 0) ∧ wx.frozen? ⟨w.heap.size + 1, 0, none⟩ = false ∧ wx.frozen? ⟨w.heap.size + 1, 1, none⟩ = false :=
    fun wx h => ⟨cellOf h rfl, cellOf h rfl, freeOf h 0, freeOf h 1⟩
  go_wp2_with fail
  refine (HFI.out _ X1.out).mono ?_
  rintro e w2 ⟨rfl, hx2⟩
  replace c0 := hx2.cell c0
  replace c1 := hx2.cell c1
  have HB2 := Lib.hid (hx2.block HB.out)
  have HX2 := Lib.hid (X1.out.trans hx2)
  clear hx2
  cases o with
  | none =>
    obtain ⟨r0, r1, f0, f1⟩ := no w2 HB2.out
    go_wp2_with fail
    exact bodyPost_ret (v := .tuple #[.agg #[.int .i64 0, .int .i64 0], .bool false]) (by simp [results, Try.results79, go_sem, r0, r1]) rfl (.inr ⟨fun id h => (by rw [HO.out] at h; cases h), rfl, (HX2.out.setCell (Nat.le_succ _) _).setCell (Nat.le_succ _) _⟩)
  | some id =>
    cases hm : T.may id at' with
    | false =>
      have MA : MayIs T id at' false := ⟨hm⟩
      have HM := Lib.hid hm
      clear hm
      go_wp2_with fail
      refine (r_may (HR.out.ext HX2.out) hw hA MA).mono ?_
      rintro e w3 ⟨rfl, hx3⟩
      obtain ⟨r0, r1, f0, f1⟩ := no w3 (hx3.block HB2.out)
      go_wp2_with fail
      exact bodyPost_ret (v := .tuple #[.agg #[.int .i64 0, .int .i64 0], .bool false]) (by simp [results, Try.results79, go_sem, r0, r1]) rfl (.inr ⟨fun id' h => by rw [HO.out] at h; injection h with h; subst h; exact HM.out, rfl, ((HX2.out.trans hx3).setCell (Nat.le_succ _) _).setCell (Nat.le_succ _) _⟩)
    | true =>
      have MA : MayIs T id at' true := ⟨hm⟩
      have HM := Lib.hid hm
      clear hm
      go_wp2_with fail
      refine (r_may (HR.out.ext HX2.out) hw hA MA).mono ?_
      rintro e w3 ⟨rfl, hx3⟩
      obtain ⟨r0, r1, f0, f1⟩ := no w3 (hx3.block HB2.out)
      replace c0 := hx3.cell c0
      replace c1 := hx3.cell c1
      go_wp2_with fail
      exact bodyPost_ret (v := .tuple #[.agg #[.int .i64 id, .int .i64 at'], .bool true]) (by simp [results, Try.results79, go_sem, r0, r1]) rfl (.inl ⟨id, HO.out, HM.out, rfl, ((HX2.out.trans hx3).setCell (Nat.le_succ _) _).setCell (Nat.le_succ _) _⟩)
/-- a point that is handed in -/
def PointRd (w : World) (pz : List Int × Int) (v : Value) : Prop := ∃ pv, v = .agg #[pv, .int .i64 pz.2] ∧ IntsRd w pz.1 pv
section
variable {H : Type} {enc : TypeId × Value → H} {w : World} {base : Nat} {spare : Nat → Bool} {held : Bool}
set_option maxRecDepth 20000 in
theorem read_point {fuel : Nat} {cs : List Value} {x : DataW H × List MemPlace} (h : DataW.trod enc Try.prog w base spare held fuel 78 cs = some x) :
    ∃ (v : Value) (l : List Int) (z : Int), cs = [v, .int .i64 z] ∧ IntsRd w l v := by
  have hC : Try.prog.cellsOf 78 = 2 := by kernel_rfl
  have hS : Try.prog.cellsOf 70 = 1 := by kernel_rfl
  have hI : Try.prog.cellsOf 3 = 1 := by kernel_rfl
  obtain ⟨ys, n', rfl, _, hcl, hyl, hf⟩ := DataW.trod_struct Try.underlying78 h
  rw [hC] at hcl
  match cs, hcl with
  | [u0, u1], _ =>
    have g0 := hf 0 { name := _, type := 70, offset := 0, embedded := _, tag := _, pkgPath := _, byteOffset := _ } rfl
    have g1 := hf 1 { name := _, type := 3, offset := 1, embedded := _, tag := _, pkgPath := _, byteOffset := _ } rfl
    simp only [hS, hI] at g0 g1
    match ys, hyl with
    | [y0, y1], _ =>
      obtain ⟨v, l, e0, hl⟩ := read_ints (x := y0) g0
      obtain ⟨z, e1, _⟩ := DataW.trod_int Try.underlying3 (x := y1) g1
      simp at e0 e1
      subst e0 e1
      exact ⟨_, l, z, rfl, hl⟩
end
set_option maxRecDepth 20000 in
theorem keep_point {H : Type} {enc : TypeId × Value → H} {w : World} {b0 base : Nat} {spare : Nat → Bool} {held : Bool} {v : Value} {d : DataW H} {p : List MemPlace}
    (hv : Value.okWide Try.prog w .any b0 78 v) (h : DataW.Trod enc Try.prog w base spare held 78 v d p) : ∃ pz, PointRd w pz v := by
  obtain ⟨cs, rfl, _⟩ := okWide_struct Try.underlying78 hv
  obtain ⟨m, hm⟩ := h
  obtain ⟨pv, l, z, e, hr⟩ := read_point hm
  have e' : cs.toList = [pv, .int .i64 z] := e
  obtain ⟨l'⟩ := cs
  have e2 : l' = [pv, .int .i64 z] := e'
  subst e2
  exact ⟨(l, z), pv, rfl, hr⟩
theorem clamped_agg (T : Tr) (id at' : Int) : ∃ x y, T.clamped id at' = .agg #[.int .i64 x, .int .i64 y] := by
  unfold Tr.clamped
  cases T.get? id with
  | none => exact ⟨_, _, rfl⟩
  | some nd => exact ⟨_, _, rfl⟩
end Go.Proofs.Ytiglflmjidikpaa

namespace Go.Proofs.Ytiglflmjidikpaa
open Go Go.RowKit Go.BigFrame Go.ChangeShapes Go.WideShapes
set_option linter.unusedVariables false
set_option linter.unusedSimpArgs false

section
variable {w : World} {rb tb : Nat} {T : Tr}
structure ClampIs (T : Tr) (x y : Int) (v : Value) : Prop where
  out : T.clamped x y = v
theorem at_clamp (hT : TAt w tb T) {d : Nat → Nat} (hw : WF T d) (hA : AttrsOk T) {x y : Int} {v : Value} (m : ClampIs T x y v) : Calls Try.prog 62 #[.pointer (some ⟨tb, 0, none⟩), .agg #[.int .i64 x, .int .i64 y]] w (RVal v w) := m.out ▸ Clamp_any hT hw hA x y
theorem r_clamp (h : RAt w rb T) {d : Nat → Nat} (hw : WF T d) (hA : AttrsOk T) {x y : Int} {v : Value} (m : ClampIs T x y v) : Calls Try.prog 77 #[.pointer (some ⟨rb, 0, none⟩), .agg #[.int .i64 x, .int .i64 y]] w (RVal v w) := m.out ▸ rClamp h hw hA x y
end
theorem PointIs.any {T : Tr} {n at' : Int} {w : World} {e : Ending} {w' : World} (h : PointIs T n at' w e w') :
    ∃ a c, e = .returned (.tuple #[.agg #[.slice a (if (T.may n at' && T.live n) = true then T.pathOf n else []).length c, .int .i64 (if (T.may n at' && T.live n) = true then at' else 0)], .bool (T.may n at' && T.live n)]) ∧
      RowRd w' 1 (.slice a (if (T.may n at' && T.live n) = true then T.pathOf n else []).length c) (if (T.may n at' && T.live n) = true then T.pathOf n else []).length ((if (T.may n at' && T.live n) = true then T.pathOf n else []).map (Value.int .i64)) ∧ Ext w w' := by
  rcases h with ⟨h1, h2, a, c, rfl, hr, hx⟩ | ⟨h, rfl, hx⟩
  · have hb : (T.may n at' && T.live n) = true := by rw [h1, h2]; rfl
    rw [hb]
    exact ⟨a, c, rfl, hr, hx⟩
  · rw [h]
    exact ⟨none, 0, rfl, nil_row w', hx⟩
theorem AtIs.any {T : Tr} {p : List Int} {at' : Int} {w : World} {e : Ending} {w' : World} (h : AtIs T p at' w e w') :
    e = .returned (.tuple #[.agg #[.int .i64 (if (T.find 0 p).any (fun id => T.may id at') = true then (T.find 0 p).getD 0 else 0), .int .i64 (if (T.find 0 p).any (fun id => T.may id at') = true then at' else 0)], .bool ((T.find 0 p).any (fun id => T.may id at'))]) ∧ Ext w w' := by
  rcases h with ⟨id, h1, h2, rfl, hx⟩ | ⟨h, rfl, hx⟩
  · have hb : (T.find 0 p).any (fun id => T.may id at') = true := by rw [h1]; exact h2
    rw [hb, h1]
    exact ⟨rfl, hx⟩
  · have hb : (T.find 0 p).any (fun id => T.may id at') = false := by
      cases hf : T.find 0 p with
      | none => rfl
      | some id => exact h id hf
    rw [hb]
    exact ⟨rfl, hx⟩
set_option maxRecDepth 100000 in
set_option maxHeartbeats 8000000 in
theorem orderPlaces_walk (cap : Int) (hc : (Lit.int .i64 cap).wf = true) (deep : Int) (hd : (Lit.int .i64 deep).wf = true) {w : World} (v : Value) (l : List Cl) (hl : CallsRd w l v) (an : Int) (h1 : (Lit.int .i64 an).wf = true) (aat : Int) (h2 : (Lit.int .i64 aat).wf = true) (bn : Int) (h3 : (Lit.int .i64 bn).wf = true) (bat : Int) (h4 : (Lit.int .i64 bat).wf = true)
    (pv : Value) (pz : List Int × Int) (hp : PointRd w pz pv) :
    Calls Try.prog 12 #[.int .i64 cap, .int .i64 deep, v, .agg #[.int .i64 an, .int .i64 aat], .agg #[.int .i64 bn, .int .i64 bat], pv] w (RBool true w) := by
  obtain ⟨p, pat⟩ := pz
  obtain ⟨pw, rfl, hp1, hp2, hp3⟩ := hp
  obtain ⟨pa, pc, rfl, hpc⟩ := hp1.len_of
  replace hp1 : RowRd w 1 (.slice pa p.length pc) p.length (p.map (Value.int .i64)) := hp1
  have HL := Lib.hid hl
  obtain ⟨ao, vcap, rfl, _⟩ := hl
  have HP1 := Lib.hid hp1
  have HP3 := Lib.hid hp3
  unfold maxLen at hp2
  have x1 := (Ext.refl w).alloc (.cells #[.int .i64 an, .int .i64 aat] 73)
  have x2 := x1.alloc (.cells #[.int .i64 bn, .int .i64 bat] 73)
  have x3 := x2.alloc (.cells #[.slice pa p.length pc, .int .i64 pat] 78)
  have b1 := heap_alloc_new w (.cells #[.int .i64 an, .int .i64 aat] 73)
  have b2 := heap_alloc_new (w.alloc (.cells #[.int .i64 an, .int .i64 aat] 73)) (.cells #[.int .i64 bn, .int .i64 bat] 73)
  have b3 := heap_alloc_new ((w.alloc (.cells #[.int .i64 an, .int .i64 aat] 73)).alloc (.cells #[.int .i64 bn, .int .i64 bat] 73)) (.cells #[.slice pa p.length pc, .int .i64 pat] 78)
  rw [show (w.alloc (.cells #[.int .i64 an, .int .i64 aat] 73)).heap.size = w.heap.size + 1 by simp] at b2
  rw [show ((w.alloc (.cells #[.int .i64 an, .int .i64 aat] 73)).alloc (.cells #[.int .i64 bn, .int .i64 bat] 73)).heap.size = w.heap.size + 2 by simp] at b3
  replace b2 := ((Ext.refl _).alloc (.cells #[.slice pa p.length pc, .int .i64 pat] 78)).block b2
  replace b1 := (((Ext.refl _).alloc (.cells #[.int .i64 bn, .int .i64 bat] 73)).alloc (.cells #[.slice pa p.length pc, .int .i64 pat] 78)).block b1
  clear hc hd h1 h2 h3 h4 hp1 hp3 x1 x2
  go_enter Try.func12, Try.ntmps12
  go_upto_region 1 with fail
  obtain ⟨wm, hwm⟩ : ∃ wm : World, wm = ((w.alloc (.cells #[.int .i64 an, .int .i64 aat] 73)).alloc (.cells #[.int .i64 bn, .int .i64 bat] 73)).alloc (.cells #[.slice pa p.length pc, .int .i64 pat] 78) := ⟨_, rfl⟩
  rw [← hwm] at b1 b2 b3 x3
  rw [← hwm]
  clear hwm
  have a0 := cellOf b1 (i := 0) (v := .int .i64 an) rfl
  have a1 := cellOf b1 (i := 1) (v := .int .i64 aat) rfl
  have q0 := cellOf b2 (i := 0) (v := .int .i64 bn) rfl
  have q1 := cellOf b2 (i := 1) (v := .int .i64 bat) rfl
  have p0 := cellOf b3 (i := 0) (v := .slice pa p.length pc) rfl
  have p1 := cellOf b3 (i := 1) (v := .int .i64 pat) rfl
  have XM := Lib.hid x3
  clear b1 b2 b3 x3
  by_cases hlong : 100 < p.length
  · go_wp2_with (go_at_call 51; refine (awake9_any _).mono ?_; rintro e w2 ⟨rfl, hx2⟩)
    go_ret
    exact ⟨rfl, XM.out.trans hx2⟩
  · go_wp2_with fail
    refine (both_any cap deep _ l (HL.out.ext XM.out)).mono ?_
    rintro e w1 hb
    rcases hb with ⟨rfl, hx1⟩ | ⟨tb, rb, T, rfl, hG, hJ⟩
    · go_wp2_with (go_at_call 51; refine (awake9_any _).mono ?_; rintro e w2 ⟨rfl, hx2⟩)
      go_ret
      exact ⟨rfl, (XM.out.trans hx1).trans hx2⟩
    · obtain ⟨⟨d, hw⟩, hA⟩ := hG
      have HW := Lib.hid hw
      have HA := Lib.hid hA
      have HT := Lib.hid hJ.tat
      have HR := Lib.hid hJ.rat
      have X1 := Lib.hid (XM.out.trans hJ.ext)
      have hje := hJ.ext
      replace a0 := hje.cell a0
      replace a1 := hje.cell a1
      replace q0 := hje.cell q0
      replace q1 := hje.cell q1
      replace p0 := hje.cell p0
      replace p1 := hje.cell p1
      clear hw hA hJ hje
      obtain ⟨z, hz⟩ : ∃ z, T.cmp an aat bn bat = z := ⟨_, rfl⟩
      obtain ⟨zo, hzo⟩ : ∃ zo, T.cmpOk an aat bn bat = zo := ⟨_, rfl⟩
      have K1 := Lib.hid (fun (u : World) (y : Ext w1 u) => (hz ▸ hzo ▸ Cmp_any (HT.out.ext y) HW.out HA.out an aat bn bat : Calls Try.prog 52 #[.pointer (some ⟨tb, 0, none⟩), .agg #[.int .i64 an, .int .i64 aat], .agg #[.int .i64 bn, .int .i64 bat]] u (RTwo (.int .i64 z) (.bool zo) u)))
      have K2 := Lib.hid (fun (u : World) (y : Ext w1 u) => (hz ▸ hzo ▸ rCmp (HR.out.ext y) HW.out HA.out an aat bn bat : Calls Try.prog 75 #[.pointer (some ⟨rb, 0, none⟩), .agg #[.int .i64 an, .int .i64 aat], .agg #[.int .i64 bn, .int .i64 bat]] u (RTwo (.int .i64 z) (.bool zo) u)))
      obtain ⟨ma, hma⟩ : ∃ ma, T.may an aat = ma := ⟨_, rfl⟩
      have MA : MayIs T an aat ma := ⟨hma⟩
      obtain ⟨cx, cy, hcl⟩ := clamped_agg T an aat
      have CA : ClampIs T an aat (.agg #[.int .i64 cx, .int .i64 cy]) := ⟨hcl⟩
      have HMA := Lib.hid hma
      clear hz hzo hma hcl
      go_wp2_with fail
      refine (K1.out _ (Ext.refl w1)).mono ?_
      rintro e u1 ⟨rfl, hy⟩
      have Y1 := Lib.hid hy
      replace a0 := hy.cell a0
      replace a1 := hy.cell a1
      replace q0 := hy.cell q0
      replace q1 := hy.cell q1
      replace p0 := hy.cell p0
      replace p1 := hy.cell p1
      clear hy
      go_wp2_with fail
      refine (K2.out _ Y1.out).mono ?_
      rintro e u2 ⟨rfl, hy⟩
      have Y2 := Lib.hid (Y1.out.trans hy)
      replace a0 := hy.cell a0
      replace a1 := hy.cell a1
      replace p0 := hy.cell p0
      replace p1 := hy.cell p1
      clear hy q0 q1
      go_upto_region 8 with fail
      have e0 := fun y : ExtOf u2 => y.ext.cell a0
      have e1 := fun y : ExtOf u2 => y.ext.cell a1
      refine wp_region_ext (by kernel_rfl) (by kernel_rfl) ?_
      repeat (go_big_quiet_step (first | (go_at_call 61; exact inExt (at_may (HT.out.ext (Y2.out.trans (ExtOf.ext _))) HW.out HA.out MA)) | (go_at_call 76; exact inExt (r_may (HR.out.ext (Y2.out.trans (ExtOf.ext _))) HW.out HA.out MA)) | (go_at_call 62; exact inExt (at_clamp (HT.out.ext (Y2.out.trans (ExtOf.ext _))) HW.out HA.out CA)) | (go_at_call 77; exact inExt (r_clamp (HR.out.ext (Y2.out.trans (ExtOf.ext _))) HW.out HA.out CA))))
      refine wpQuiet_nil ?_
      rintro _ ⟨y, rfl⟩
      clear e0 e1
      replace a0 := y.ext.cell a0
      replace a1 := y.ext.cell a1
      replace p0 := y.ext.cell p0
      replace p1 := y.ext.cell p1
      have Y3 := Lib.hid (Y2.out.trans y.ext)
      obtain ⟨u3, hu3⟩ : ∃ u3 : World, u3 = y.val := ⟨_, rfl⟩
      rw [← hu3] at a0 a1 p0 p1 Y3 ⊢
      clear hu3
      have hql : (if (T.may an aat && T.live an) = true then T.pathOf an else []).length ≤ 41 := by
        split
        · exact HW.out.path_41 an
        · exact Nat.zero_le _
      have P1 := Lib.hid (fun (u : World) (y : Ext w1 u) => (Point_any (HT.out.ext y) HW.out HA.out an aat).mono fun _ _ h => h.any)
      have P2 := Lib.hid (fun (u : World) (y : Ext w1 u) => (rPoint (HR.out.ext y) HW.out HA.out an aat).mono fun _ _ h => h.any)
      have P3 := Lib.hid (fun (u : World) (y : Ext w1 u) => (At_any (HT.out.ext y) HW.out HA.out (HP1.out.ext (X1.out.trans y)) (by omega) HP3.out pat).mono fun _ _ h => h.any)
      have P4 := Lib.hid (fun (u : World) (y : Ext w1 u) => (rAt (HR.out.ext y) HW.out HA.out (HP1.out.ext (X1.out.trans y)) (by omega) HP3.out pat).mono fun _ _ h => h.any)
      obtain ⟨q, hq⟩ : ∃ q, (if (T.may an aat && T.live an) = true then T.pathOf an else []) = q := ⟨_, rfl⟩
      obtain ⟨k, hk⟩ : ∃ k, (if (T.may an aat && T.live an) = true then aat else 0) = k := ⟨_, rfl⟩
      obtain ⟨b, hb⟩ : ∃ b, (T.may an aat && T.live an) = b := ⟨_, rfl⟩
      obtain ⟨g, hg⟩ : ∃ g, (if (T.find 0 p).any (fun id => T.may id pat) = true then (T.find 0 p).getD 0 else 0) = g := ⟨_, rfl⟩
      obtain ⟨f, hf⟩ : ∃ f, (if (T.find 0 p).any (fun id => T.may id pat) = true then pat else 0) = f := ⟨_, rfl⟩
      obtain ⟨c, hc⟩ : ∃ c, (T.find 0 p).any (fun id => T.may id pat) = c := ⟨_, rfl⟩
      rw [hq] at P1 P2 hql
      rw [hk] at P1 P2
      rw [hb] at P1 P2
      rw [hg, hf, hc] at P3 P4
      clear hq hk hb hg hf hc
      go_wp2_with fail
      refine (P1.out _ Y3.out).mono ?_
      rintro e u4 ⟨s1, t1, rfl, hr1, hy⟩
      have Y4 := Lib.hid (Y3.out.trans hy)
      have R1 := Lib.hid hr1
      replace a0 := hy.cell a0
      replace a1 := hy.cell a1
      replace p0 := hy.cell p0
      replace p1 := hy.cell p1
      clear hy hr1
      have hB1 := heap_alloc_new u4 (.cells #[.slice s1 q.length t1, .int .i64 k] 78)
      have hX1 := (Ext.refl u4).alloc (.cells #[.slice s1 q.length t1, .int .i64 k] 78)
      go_upto_region 11 with fail
      obtain ⟨u5, hu5⟩ : ∃ u5 : World, u5 = u4.alloc (.cells #[.slice s1 q.length t1, .int .i64 k] 78) := ⟨_, rfl⟩
      rw [← hu5] at hB1 hX1
      rw [← hu5]
      clear hu5
      replace a0 := hX1.cell a0
      replace a1 := hX1.cell a1
      replace p0 := hX1.cell p0
      replace p1 := hX1.cell p1
      have c0 := cellOf hB1 (i := 0) (v := .slice s1 q.length t1) rfl
      have c1 := cellOf hB1 (i := 1) (v := .int .i64 k) rfl
      have Y5 := Lib.hid (Y4.out.trans hX1)
      have R15 := Lib.hid (R1.out.ext hX1)
      obtain ⟨o1, ho1⟩ : ∃ o1, o1 = u4.heap.size := ⟨_, rfl⟩
      rw [← ho1] at c0 c1 ⊢
      clear hB1 hX1 ho1
      go_wp2_with fail
      refine (P2.out _ Y5.out).mono ?_
      rintro e u6 ⟨s2, t2, rfl, hr2, hy⟩
      have Y6 := Lib.hid (Y5.out.trans hy)
      have R16 := Lib.hid (R15.out.ext hy)
      have R2 := Lib.hid hr2
      replace c0 := hy.cell c0
      replace c1 := hy.cell c1
      replace p0 := hy.cell p0
      replace p1 := hy.cell p1
      clear hy hr2 a0 a1
      have hB2 := heap_alloc_new u6 (.cells #[.slice s2 q.length t2, .int .i64 k] 78)
      have hX2 := (Ext.refl u6).alloc (.cells #[.slice s2 q.length t2, .int .i64 k] 78)
      go_upto_region 12 with fail
      obtain ⟨u7, hu7⟩ : ∃ u7 : World, u7 = u6.alloc (.cells #[.slice s2 q.length t2, .int .i64 k] 78) := ⟨_, rfl⟩
      rw [← hu7] at hB2 hX2
      rw [← hu7]
      clear hu7
      replace p0 := hX2.cell p0
      replace p1 := hX2.cell p1
      replace c0 := hX2.cell c0
      replace c1 := hX2.cell c1
      have d0 := cellOf hB2 (i := 0) (v := .slice s2 q.length t2) rfl
      have d1 := cellOf hB2 (i := 1) (v := .int .i64 k) rfl
      have Y7 := Lib.hid (Y6.out.trans hX2)
      have R17 := Lib.hid (R16.out.ext hX2)
      have R27 := Lib.hid (R2.out.ext hX2)
      obtain ⟨o2, ho2⟩ : ∃ o2, o2 = u6.heap.size := ⟨_, rfl⟩
      rw [← ho2] at d0 d1 ⊢
      clear hB2 hX2 ho2
      go_wp2_with fail
      refine (ints_same9 R17.out R27.out (by omega)).mono ?_
      rintro e u8 ⟨rfl, hy⟩
      have Y8 := Lib.hid (Y7.out.trans hy)
      replace p0 := hy.cell p0
      replace p1 := hy.cell p1
      clear hy c0 c1 d0 d1
      go_wp2_with fail
      refine (P3.out _ Y8.out).mono ?_
      rintro e u9 ⟨rfl, hy⟩
      have Y9 := Lib.hid (Y8.out.trans hy)
      replace p0 := hy.cell p0
      replace p1 := hy.cell p1
      clear hy
      have hB3 := heap_alloc_new u9 (.cells #[.int .i64 g, .int .i64 f] 73)
      have hX3 := (Ext.refl u9).alloc (.cells #[.int .i64 g, .int .i64 f] 73)
      go_upto_region 15 with fail
      obtain ⟨v1, hv1⟩ : ∃ v1 : World, v1 = u9.alloc (.cells #[.int .i64 g, .int .i64 f] 73) := ⟨_, rfl⟩
      rw [← hv1] at hB3 hX3
      rw [← hv1]
      clear hv1
      replace p0 := hX3.cell p0
      replace p1 := hX3.cell p1
      have c0 := cellOf hB3 (i := 0) (v := .int .i64 g) rfl
      have c1 := cellOf hB3 (i := 1) (v := .int .i64 f) rfl
      have Z1 := Lib.hid (Y9.out.trans hX3)
      obtain ⟨o3, ho3⟩ : ∃ o3, o3 = u9.heap.size := ⟨_, rfl⟩
      rw [← ho3] at c0 c1 ⊢
      clear hB3 hX3 ho3
      go_wp2_with fail
      refine (P4.out _ Z1.out).mono ?_
      rintro e v2 ⟨rfl, hy⟩
      have Z2 := Lib.hid (Z1.out.trans hy)
      replace c0 := hy.cell c0
      replace c1 := hy.cell c1
      clear hy p0 p1
      have hB4 := heap_alloc_new v2 (.cells #[.int .i64 g, .int .i64 f] 73)
      have hX4 := (Ext.refl v2).alloc (.cells #[.int .i64 g, .int .i64 f] 73)
      go_upto_region 16 with fail
      obtain ⟨v3, hv3⟩ : ∃ v3 : World, v3 = v2.alloc (.cells #[.int .i64 g, .int .i64 f] 73) := ⟨_, rfl⟩
      rw [← hv3] at hB4 hX4
      rw [← hv3]
      clear hv3
      replace c0 := hX4.cell c0
      replace c1 := hX4.cell c1
      have d0 := cellOf hB4 (i := 0) (v := .int .i64 g) rfl
      have d1 := cellOf hB4 (i := 1) (v := .int .i64 f) rfl
      have Z3 := Lib.hid (Z2.out.trans hX4)
      obtain ⟨o4, ho4⟩ : ∃ o4, o4 = v2.heap.size := ⟨_, rfl⟩
      rw [← ho4] at d0 d1 ⊢
      clear hB4 hX4 ho4
      go_wp2_with (go_at_call 51; refine (awake9_any _).mono ?_; rintro e w2 ⟨rfl, hx2⟩)
      go_ret
      exact ⟨rfl, (X1.out.trans Z3.out).trans hx2⟩
end Go.Proofs.Ytiglflmjidikpaa
