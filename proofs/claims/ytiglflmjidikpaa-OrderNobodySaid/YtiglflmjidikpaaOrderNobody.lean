/- OrderNobody: a nil tree. No conditions. -/
import Derived.Test.YtiglflmjidikpaaOrdI
namespace Go.Proofs.Ytiglflmjidikpaa
open Go Go.RowKit Go.BigFrame Go.ChangeShapes Go.WideShapes
set_option linter.unusedVariables false
set_option linter.unusedSimpArgs false
attribute [local go_sem] Oper.semAt_some

theorem nBehind (id : Int) (w : World) : Calls Try.prog 58 #[.pointer none, .int .i64 id] w (RVal (.int .i64 (-1)) w) := by
  go_enter Try.func58, Try.ntmps58
  go_wp2_with fail
  go_loopw [1, 5, 6, 7] (fun s _ _ _ wr => ∃ x : Int, s = .int .i64 x ∧ Ext w wr) (fun _ _ _ _ _ => 0)
  case atStart => exact ⟨id, rfl, Ext.refl _⟩
  case round =>
    obtain ⟨x, rfl, hx⟩ := hrel
    go_wp2_with (go_at_call 27; refine (Has_nil _ _).mono ?_; rintro e w' ⟨rfl, rfl⟩)
    go_ret
    exact ⟨rfl, hx⟩
theorem nNext (id : Int) (w : World) : Calls Try.prog 56 #[.pointer none, .int .i64 id] w (RVal (.int .i64 (-1)) w) := by
  go_enter Try.func56, Try.ntmps56
  go_wp2_with (first
    | (go_at_call 49; refine (Kids_nil _ _).mono ?_; rintro e w2 ⟨rfl, hx⟩)
    | (go_at_call 58; refine (nBehind _ _).mono ?_; rintro e w3 ⟨rfl, hy⟩))
  go_ret
  exact ⟨rfl, hx.trans hy⟩
theorem nPrev (id : Int) (w : World) : Calls Try.prog 57 #[.pointer none, .int .i64 id] w (RVal (.int .i64 (-1)) w) := by
  go_enter Try.func57, Try.ntmps57
  go_wp2_with (first
    | (go_at_call 35; refine (Index_nil _ _).mono ?_; rintro e w2 ⟨rfl, hx⟩)
    | (go_at_call 34; refine (Parent_nil _ _).mono ?_; rintro e w3 ⟨rfl, rfl⟩))
  go_ret
  exact ⟨rfl, hx⟩
theorem nLength (id : Int) (w : World) : Calls Try.prog 60 #[.pointer none, .int .i64 id] w (RVal (.int .i64 (-1)) w) := by
  go_enter Try.func60, Try.ntmps60
  go_wp2_with (go_at_call 46; refine (Tag_nil _ _).mono ?_; rintro e w' ⟨rfl, rfl⟩)
  go_ret
  exact ⟨rfl, Ext.refl _⟩
theorem nWithin (id o : Int) (w : World) : Calls Try.prog 63 #[.pointer none, .int .i64 id, .int .i64 o] w (RVal (.bool false) w) := by
  go_enter Try.func63, Try.ntmps63
  go_wp2_with fail
  go_loopw [1] (fun s wr => ∃ x : Int, s = .int .i64 x ∧ Ext w wr) (fun _ _ => 0)
  case atStart => exact ⟨id, rfl, Ext.refl _⟩
  case round =>
    obtain ⟨x, rfl, hx⟩ := hrel
    go_wp2_with (go_at_call 27; refine (Has_nil _ _).mono ?_; rintro e w' ⟨rfl, rfl⟩)
    go_ret
    exact ⟨rfl, hx⟩
theorem nPath (id : Int) (w : World) : Calls Try.prog 64 #[.pointer none, .int .i64 id] w (RVal (.slice none 0 0) w) := by
  go_enter Try.func64, Try.ntmps64
  go_wp2_with fail
  go_loopw [1, 5] (fun s v wr => ∃ x : Int, s = .int .i64 x ∧ v = .slice none 0 0 ∧ Ext w wr) (fun _ _ _ => 0)
  case atStart => exact ⟨id, rfl, rfl, Ext.refl _⟩
  case round =>
    obtain ⟨x, rfl, rfl, hx⟩ := hrel
    go_wp2_with (first
      | (go_at_call 34; refine (Parent_nil _ _).mono ?_; rintro e w' ⟨rfl, rfl⟩)
      | (go_at_call 118; refine (Any.slices_Reverse_int_empty laysRev none 0 _).mono ?_; rintro e w' ⟨rfl, rfl⟩))
    go_ret
    exact ⟨rfl, hx⟩
theorem nFind (r : Int) (v : Value) (w : World) : Calls Try.prog 53 #[.pointer none, .int .i64 r, v] w (RTwo (.int .i64 0) (.bool false) w) := by
  go_enter Try.func53, Try.ntmps53
  go_wp2_with (go_at_call 27; refine (Has_nil _ _).mono ?_; rintro e w' ⟨rfl, rfl⟩)
  go_ret2
  exact ⟨rfl, Ext.refl _⟩
set_option maxHeartbeats 1000000 in
theorem nMay (id at' : Int) (w : World) : Calls Try.prog 61 #[.pointer none, .agg #[.int .i64 id, .int .i64 at']] w (RVal (.bool false) w) := by
  have hx1 := (Ext.refl w).alloc (.cells #[.int .i64 id, .int .i64 at'] 73)
  have h2 := Two.new w (.int .i64 id) (.int .i64 at') 73
  go_enter Try.func61, Try.ntmps61
  go_upto_region 1 with fail
  obtain ⟨wb, hwb⟩ : ∃ wb : World, wb = w.alloc (.cells #[.int .i64 id, .int .i64 at'] 73) := ⟨_, rfl⟩
  rw [← hwb] at hx1 h2 ⊢
  clear hwb
  obtain ⟨c0, c1, _, _⟩ := h2
  have c0' := fun u : ExtOf wb => u.ext.cell c0
  have c1' := fun u : ExtOf wb => u.ext.cell c1
  by_cases h0 : 0 ≤ at'
  · have hn : ¬ at' ≤ -1 := by omega
    refine wp_region_ext (by kernel_rfl) (by kernel_rfl) ?_
    repeat (go_big_quiet_step ((go_at_call 60; exact inExt (nLength id _))))
    refine wpQuiet_nil ?_
    rintro _ ⟨u, rfl⟩
    go_wp2_with fail
    go_ret
    exact ⟨by first | rfl | simp, hx1.trans u.ext⟩
  · refine wp_region_ext (by kernel_rfl) (by kernel_rfl) ?_
    repeat (go_big_quiet_step (fail))
    refine wpQuiet_nil ?_
    rintro _ ⟨u, rfl⟩
    go_wp2_with fail
    go_ret
    exact ⟨rfl, hx1.trans u.ext⟩
set_option maxHeartbeats 1000000 in
theorem nClamp (id at' : Int) (w : World) : Calls Try.prog 62 #[.pointer none, .agg #[.int .i64 id, .int .i64 at']] w (RVal (.agg #[.int .i64 0, .int .i64 0]) w) := by
  have hx1 := ((Ext.refl w).alloc (.cells #[.int .i64 id, .int .i64 at'] 73)).alloc (.cells #[.int .i64 0, .int .i64 0] 73)
  have ha := (Two.new w (.int .i64 id) (.int .i64 at') 73).ext ((Ext.refl _).alloc (.cells #[.int .i64 0, .int .i64 0] 73))
  have hb := Two.new (w.alloc (.cells #[.int .i64 id, .int .i64 at'] 73)) (.int .i64 0) (.int .i64 0) 73
  rw [show (w.alloc (.cells #[.int .i64 id, .int .i64 at'] 73)).heap.size = w.heap.size + 1 by simp] at hb
  go_enter Try.func62, Try.ntmps62
  go_upto_region 1 with fail
  obtain ⟨wb, hwb⟩ : ∃ wb : World, wb = (w.alloc (.cells #[.int .i64 id, .int .i64 at'] 73)).alloc (.cells #[.int .i64 0, .int .i64 0] 73) := ⟨_, rfl⟩
  rw [← hwb] at hx1 ha hb ⊢
  clear hwb
  obtain ⟨c0, c1, _, _⟩ := ha
  obtain ⟨r0, r1, f0, f1⟩ := hb
  go_wp2_with (go_at_call 27; refine (Has_nil _ _).mono ?_; rintro e w' ⟨rfl, rfl⟩)
  exact bodyPost_ret (v := .agg #[.int .i64 0, .int .i64 0]) (by simp [results, Try.results62, go_sem, r0, r1]) rfl ⟨rfl, (hx1.setCell (Nat.le_succ _) _).setCell (Nat.le_succ _) _⟩
set_option maxHeartbeats 1000000 in
theorem nPoint (id at' : Int) (w : World) : Calls Try.prog 54 #[.pointer none, .agg #[.int .i64 id, .int .i64 at']] w (RTwo (.agg #[.slice none 0 0, .int .i64 0]) (.bool false) w) := by
  have hx1 := ((Ext.refl w).alloc (.cells #[.int .i64 id, .int .i64 at'] 73)).alloc (.cells #[.slice none 0 0, .int .i64 0] 78)
  have ha := (Two.new w (.int .i64 id) (.int .i64 at') 73).ext ((Ext.refl _).alloc (.cells #[.slice none 0 0, .int .i64 0] 78))
  have hb := Two.new (w.alloc (.cells #[.int .i64 id, .int .i64 at'] 73)) (.slice none 0 0) (.int .i64 0) 78
  rw [show (w.alloc (.cells #[.int .i64 id, .int .i64 at'] 73)).heap.size = w.heap.size + 1 by simp] at hb
  go_enter Try.func54, Try.ntmps54
  go_upto_region 1 with fail
  obtain ⟨wb, hwb⟩ : ∃ wb : World, wb = (w.alloc (.cells #[.int .i64 id, .int .i64 at'] 73)).alloc (.cells #[.slice none 0 0, .int .i64 0] 78) := ⟨_, rfl⟩
  rw [← hwb] at hx1 ha hb ⊢
  clear hwb
  obtain ⟨c0, c1, _, _⟩ := ha
  go_wp2_with fail
  refine (nMay id at' _).mono ?_
  rintro e w2 ⟨rfl, hx2⟩
  obtain ⟨r0, r1, f0, f1⟩ := hb.ext hx2
  go_wp2_with fail
  exact bodyPost_ret (v := .tuple #[.agg #[.slice none 0 0, .int .i64 0], .bool false]) (by simp [results, Try.results54, go_sem, r0, r1]) rfl ⟨rfl, ((hx1.trans hx2).setCell (Nat.le_succ _) _).setCell (Nat.le_succ _) _⟩
set_option maxHeartbeats 1000000 in
theorem nAt (pa : Option Addr) (pl pc : Nat) (at' : Int) (w : World) : Calls Try.prog 55 #[.pointer none, .agg #[.slice pa pl pc, .int .i64 at']] w (RTwo (.agg #[.int .i64 0, .int .i64 0]) (.bool false) w) := by
  have hx1 := ((Ext.refl w).alloc (.cells #[.slice pa pl pc, .int .i64 at'] 78)).alloc (.cells #[.int .i64 0, .int .i64 0] 73)
  have ha := (Two.new w (.slice pa pl pc) (.int .i64 at') 78).ext ((Ext.refl _).alloc (.cells #[.int .i64 0, .int .i64 0] 73))
  have hb := heap_alloc_new (w.alloc (.cells #[.slice pa pl pc, .int .i64 at'] 78)) (.cells #[.int .i64 0, .int .i64 0] 73)
  rw [show (w.alloc (.cells #[.slice pa pl pc, .int .i64 at'] 78)).heap.size = w.heap.size + 1 by simp] at hb
  go_enter Try.func55, Try.ntmps55
  go_upto_region 1 with fail
  obtain ⟨wb, hwb⟩ : ∃ wb : World, wb = (w.alloc (.cells #[.slice pa pl pc, .int .i64 at'] 78)).alloc (.cells #[.int .i64 0, .int .i64 0] 73) := ⟨_, rfl⟩
  rw [← hwb] at hx1 ha hb ⊢
  clear hwb
  obtain ⟨c0, c1, _, _⟩ := ha
  go_wp2_with fail
  refine (nFind 0 _ _).mono ?_
  rintro e w2 ⟨rfl, hx2⟩
  replace c1 := hx2.cell c1
  have hb3 := ((Ext.refl w2).alloc (.cells #[.int .i64 0, .int .i64 at'] 73)).block (hx2.block hb)
  have hx3 := (hx1.trans hx2).alloc (.cells #[.int .i64 0, .int .i64 at'] 73)
  go_upto_region 3 with fail
  obtain ⟨w3, hw3⟩ : ∃ w3 : World, w3 = w2.alloc (.cells #[.int .i64 0, .int .i64 at'] 73) := ⟨_, rfl⟩
  rw [← hw3] at hb3 hx3 ⊢
  clear hw3
  have r0 := cellOf hb3 (i := 0) (v := .int .i64 0) rfl
  have r1 := cellOf hb3 (i := 1) (v := .int .i64 0) rfl
  have f0 := freeOf hb3 0
  have f1 := freeOf hb3 1
  go_wp2_with fail
  exact bodyPost_ret (v := .tuple #[.agg #[.int .i64 0, .int .i64 0], .bool false]) (by simp [results, Try.results55, go_sem, r0, r1]) rfl ⟨rfl, (hx3.setCell (Nat.le_succ _) _).setCell (Nat.le_succ _) _⟩
set_option maxRecDepth 100000 in
set_option maxHeartbeats 2000000 in
theorem nCmp (an aat bn bat : Int) (w : World) : Calls Try.prog 52 #[.pointer none, .agg #[.int .i64 an, .int .i64 aat], .agg #[.int .i64 bn, .int .i64 bat]] w (RTwo (.int .i64 0) (.bool false) w) := by
  have hx1 := ((Ext.refl w).alloc (.cells #[.int .i64 an, .int .i64 aat] 73)).alloc (.cells #[.int .i64 bn, .int .i64 bat] 73)
  have ha := (Two.new w (.int .i64 an) (.int .i64 aat) 73).ext ((Ext.refl _).alloc (.cells #[.int .i64 bn, .int .i64 bat] 73))
  have hb := Two.new (w.alloc (.cells #[.int .i64 an, .int .i64 aat] 73)) (.int .i64 bn) (.int .i64 bat) 73
  rw [show (w.alloc (.cells #[.int .i64 an, .int .i64 aat] 73)).heap.size = w.heap.size + 1 by simp] at hb
  go_enter Try.func52, Try.ntmps52
  go_upto_region 1 with fail
  obtain ⟨wb, hwb⟩ : ∃ wb : World, wb = (w.alloc (.cells #[.int .i64 an, .int .i64 aat] 73)).alloc (.cells #[.int .i64 bn, .int .i64 bat] 73) := ⟨_, rfl⟩
  rw [← hwb] at hx1 ha hb ⊢
  clear hwb
  obtain ⟨c0, c1, _, _⟩ := ha
  obtain ⟨c2, c3, _, _⟩ := hb
  have c0' := fun u : ExtOf wb => u.ext.cell c0
  have c1' := fun u : ExtOf wb => u.ext.cell c1
  have c2' := fun u : ExtOf wb => u.ext.cell c2
  have c3' := fun u : ExtOf wb => u.ext.cell c3
  refine wp_region_ext (by kernel_rfl) (by kernel_rfl) ?_
  repeat (go_big_quiet_step ((go_at_call 61; exact inExt (nMay _ _ _))))
  refine wpQuiet_nil ?_
  rintro _ ⟨u, rfl⟩
  clear c0' c1' c2' c3'
  go_wp2_with fail
  go_ret2
  exact ⟨rfl, hx1.trans u.ext⟩
theorem nwithin (id : Int) (w : World) : Calls Try.prog 117 #[.pointer none, .int .i64 id] w fun e w' => e = .returned (.func (.func 135) #[] #[.pointer (some ⟨w.heap.size, 0, none⟩), .pointer (some ⟨w.heap.size + 1, 0, none⟩)]) ∧ w' = (w.alloc (.cells #[.pointer none] 25)).alloc (.cells #[.int .i64 id] 3) := by
  go_enter Try.func117, Try.ntmps117
  go_wp2_with fail
  go_ret
  exact ⟨rfl, rfl⟩
set_option maxRecDepth 100000 in
set_option maxHeartbeats 2000000 in
theorem nwithin_stops (id : Int) (n : Nat) (hn : 1 ≤ n) (Bt Bi : Nat) (w : World) (hct : w.cell? ⟨Bt, 0, none⟩ = some (.pointer none)) (hci : w.cell? ⟨Bi, 0, none⟩ = some (.int .i64 id)) :
    SeqStopsK Fence.wide n Try.prog 135 #[.pointer (some ⟨Bt, 0, none⟩), .pointer (some ⟨Bi, 0, none⟩)] (fun x : Int => #[Value.int .i64 x]) (Below 0) (fun ys => ys = []) (fun _ => False) 0 w := fun l J Jx W hW hJ _ hY h0 => by
  have hct2 := (hW.cell (p := ⟨Bt, 0, none⟩) (cell_lt hct)).trans hct
  have hci2 := (hW.cell (p := ⟨Bi, 0, none⟩) (cell_lt hci)).trans hci
  have H0 := Lib.hid h0
  clear h0 hct hci hY hJ hW
  refine callsIn_of_wp Try.func135 rfl trivial ?_ rfl
  simp only [Try.ntmps135, List.size_toArray, List.length_cons, List.length_nil, Nat.reduceAdd, Nat.reduceSub, Array.replicate_succ, Array.replicate_zero, List.push_toArray, List.append_toArray, List.nil_append, List.cons_append]
  gi_wp2_with (refine ⟨trivial, ?_⟩; gi_at_call 27; refine (callsIn_wide.2 (Has_nil _ _)).mono ?_; rintro e w2 ⟨rfl, rfl⟩)
  refine bodyPost_ret (results_none rfl _ _ _) rfl ?_
  exact ⟨⟨_, rfl⟩, .inl ⟨[], rfl, H0.out⟩⟩
set_option maxRecDepth 100000 in
set_option maxHeartbeats 4000000 in
theorem nAll (id : Int) (w : World) : Calls Try.prog 59 #[.pointer none, .int .i64 id] w (RVal (.slice none 0 0) w) := by
  refine (callsIn_wide (n := 5)).1 ?_
  refine callsIn_of_wp_marks Try.func59 rfl trivial ?_ rfl
  simp only [Try.ntmps59, List.size_toArray, List.length_cons, List.length_nil, Nat.reduceAdd, Nat.reduceSub, Array.replicate_succ, Array.replicate_zero, List.push_toArray, List.append_toArray, List.nil_append, List.cons_append]
  gi_wp2_with (refine ⟨trivial, ?_⟩; gi_at_call 117; refine (callsIn_wide.2 (nwithin id _)).mono ?_; rintro e w2 ⟨rfl, rfl⟩)
  have bO := Boxed.new w 70 (.slice none 0 0)
  have bN := Boxed.new (w.alloc (.cells #[.slice none 0 0] 70)) 25 (.pointer none)
  have bI := Boxed.new ((w.alloc (.cells #[.slice none 0 0] 70)).alloc (.cells #[.pointer none] 25)) 3 (.int .i64 id)
  rw [show (w.alloc (.cells #[.slice none 0 0] 70)).heap.size = w.heap.size + 1 by simp] at bN
  rw [show ((w.alloc (.cells #[.slice none 0 0] 70)).alloc (.cells #[.pointer none] 25)).heap.size = w.heap.size + 1 + 1 by simp] at bI
  have hB0 : Below w.heap.size w (((w.alloc (.cells #[.slice none 0 0] 70)).alloc (.cells #[.pointer none] 25)).alloc (.cells #[.int .i64 id] 3)) := (((Below.refl _ w).alloc (Nat.le_refl _) _).alloc (by simp) _).alloc (by simp; omega) _
  refine wpIn_rangeFunc_ownG rfl (by omega) (gf := 135) (lb := #[.pointer (some ⟨w.heap.size + 1, 0, none⟩), .pointer (some ⟨w.heap.size + 1 + 1, 0, none⟩)]) rfl trivial (enters_of Try.func135 (by kernel_rfl) rfl)
    (nwithin_stops id 4 (by omega) (w.heap.size + 1) (w.heap.size + 1 + 1) _ (bN.alloc _).cell bI.cell) belowK_t (belowK_b (by simp)) (Below.refl _ _) (fun _ => rfl)
    (fun pre W => Boxed W w.heap.size 70 (.slice none 0 0) ∧ Below w.heap.size w W)
    (fun _ _ _ => False)
    (OwnFrom.and (Own.from (fun s A B row hs hg hr => hs.kept hg (fun e' => by obtain ⟨o, ho, hc⟩ := hr _ e'.symm; rw [show A.heap[w.heap.size]? = _ from hs] at ho; cases ho; cases hc)) _) (ownFrom_below (Nat.le_refl _) (by simp; omega)))
    (fun _ _ _ _ _ hs _ _ => hs)
    ⟨(bO.alloc _).alloc _, hB0⟩
    (fun x => { tmps := #[.pointer none, .int .i64 id, undef, undef, .slice none 0 0, .pointer (some ⟨w.heap.size, 0, none⟩), .int .i64 x, .pointer none, .int .i64 id, .func (.func 135) #[] #[.pointer (some ⟨w.heap.size + 1, 0, none⟩), .pointer (some ⟨w.heap.size + 1 + 1, 0, none⟩)], .int .i64 x, undef, undef, undef, undef, undef], defers := [] }) ?assign ?body ?done ?stop
  case assign =>
    intro l x W K hK
    gi_wp2
    exact hK
  case body =>
    rintro l pre x W _ hlt
    exact absurd hlt (Nat.not_lt_zero _)
  case done =>
    rintro D ys W hD rfl ⟨hv, hB⟩ hK
    have hc := hv.cell
    gi_wp2
    refine ⟨by simp, .inl ⟨_, _, rfl, run_takeDeferred hK, ?_⟩⟩
    exact ⟨_, results_tmp rfl _ _ _, rfl, hB.trans (belowK_b (w := w) (Nat.le_refl _) W D _ _ (by simp at hD; omega) hK rfl rfl)⟩
  case stop =>
    rintro D c pre W _ _ h _
    exact h.elim

set_option maxRecDepth 20000 in
theorem keep_slice {H : Type} {enc : TypeId × Value → H} {w : World} {b0 base : Nat} {spare : Nat → Bool} {held : Bool} {v : Value} {d : DataW H} {p : List MemPlace}
    (hv : Value.okWide Try.prog w .any b0 70 v) (h : DataW.Trod enc Try.prog w base spare held 70 v d p) : ∃ s : Option Addr × Nat × Nat, v = .slice s.1 s.2.1 s.2.2 ∧ s.2.1 ≤ maxLen := by
  obtain ⟨a, len, cap, rfl⟩ := okWide_slice Try.underlying70 hv
  obtain ⟨fuel, h⟩ := h
  have h' : DataW.trod enc Try.prog w base spare held fuel 70 [.slice a len cap] = some (d, p) := h
  rcases slice_elems Try.underlying70 h' with e | ⟨a', len', cap', n, _, e, hl, hm, _⟩
  · simp at e
    obtain ⟨rfl, rfl, rfl⟩ := e
    exact ⟨(none, 0, 0), rfl, Nat.zero_le _⟩
  · simp at e
    obtain ⟨rfl, rfl, rfl⟩ := e
    exact ⟨(some a', len, cap), rfl, Nat.le_trans hl hm⟩
set_option maxRecDepth 100000 in
set_option maxHeartbeats 8000000 in
theorem orderNobody_walk (id : Int) (hid : (Lit.int .i64 id).wf = true) (pn : Int) (hpn : (Lit.int .i64 pn).wf = true) (pat : Int) (hpat : (Lit.int .i64 pat).wf = true) {w : World} (v : Value) (s : Option Addr × Nat × Nat) (hs : v = .slice s.1 s.2.1 s.2.2 ∧ s.2.1 ≤ maxLen) :
    Calls Try.prog 9 #[.int .i64 id, .agg #[.int .i64 pn, .int .i64 pat], v] w (RBool true w) := by
  obtain ⟨sa, sl, sc⟩ := s
  obtain ⟨rfl, hsl⟩ := hs
  replace hsl : sl ≤ maxLen := hsl
  unfold maxLen at hsl
  show Calls Try.prog 9 #[.int .i64 id, .agg #[.int .i64 pn, .int .i64 pat], .slice sa sl sc] w (RBool true w)
  clear hid hpn hpat
  have x1 := (Ext.refl w).alloc (.cells #[.int .i64 pn, .int .i64 pat] 73)
  have ha := Two.new w (.int .i64 pn) (.int .i64 pat) 73
  go_enter Try.func9, Try.ntmps9
  go_upto_region 1 with fail
  obtain ⟨wb, hwb⟩ : ∃ wb : World, wb = w.alloc (.cells #[.int .i64 pn, .int .i64 pat] 73) := ⟨_, rfl⟩
  rw [← hwb] at x1 ha ⊢
  clear hwb
  obtain ⟨c0, c1, _, _⟩ := ha
  have HX := Lib.hid x1
  clear x1
  by_cases hbig : 100 < sl
  · go_wp2_with (go_at_call 51; refine (awake9_any _).mono ?_; rintro e w3 ⟨rfl, hx3⟩)
    go_ret
    exact ⟨rfl, HX.out.trans hx3⟩
  · go_upto_region 7 with (first
      | (go_at_call 52; refine (nCmp _ _ _ _ _).mono ?_; rintro e w' ⟨rfl, hy⟩; have HX := Lib.hid (HX.out.trans hy); replace c0 := hy.cell c0; replace c1 := hy.cell c1; clear hy)
      | (go_at_call 53; refine (nFind _ _ _).mono ?_; rintro e w' ⟨rfl, hy⟩; have HX := Lib.hid (HX.out.trans hy); replace c0 := hy.cell c0; replace c1 := hy.cell c1; clear hy)
      | (go_at_call 54; refine (nPoint _ _ _).mono ?_; rintro e w' ⟨rfl, hy⟩; have HX := Lib.hid (HX.out.trans hy); replace c0 := hy.cell c0; replace c1 := hy.cell c1; clear hy))
    have xq := (Ext.refl w').alloc (.cells #[.slice none 0 0, .int .i64 0] 78)
    replace c0 := xq.cell c0
    replace c1 := xq.cell c1
    have HX2 := Lib.hid (HX.out.trans xq)
    obtain ⟨wq, hwq⟩ : ∃ wq : World, wq = w'.alloc (.cells #[.slice none 0 0, .int .i64 0] 78) := ⟨_, rfl⟩
    rw [← hwq] at c0 c1 HX2 ⊢
    clear hwq xq HX
    have HX := HX2
    clear HX2
    go_upto_region 8 with (go_at_call 55; refine (nAt _ _ _ _ _).mono ?_; rintro e w' ⟨rfl, hy⟩; have HX := Lib.hid (HX.out.trans hy); replace c0 := hy.cell c0; replace c1 := hy.cell c1; clear hy)
    have xr := (Ext.refl w').alloc (.cells #[.int .i64 0, .int .i64 0] 73)
    replace c0 := xr.cell c0
    replace c1 := xr.cell c1
    have HX2 := Lib.hid (HX.out.trans xr)
    obtain ⟨wr, hwr⟩ : ∃ wr : World, wr = w'.alloc (.cells #[.int .i64 0, .int .i64 0] 73) := ⟨_, rfl⟩
    rw [← hwr] at c0 c1 HX2 ⊢
    clear hwr xr HX
    have HX := HX2
    clear HX2
    go_wp2_with (first
      | (go_at_call 56; refine (nNext _ _).mono ?_; rintro e w' ⟨rfl, hy⟩; have HX := Lib.hid (HX.out.trans hy); replace c0 := hy.cell c0; replace c1 := hy.cell c1; clear hy)
      | (go_at_call 57; refine (nPrev _ _).mono ?_; rintro e w' ⟨rfl, hy⟩; have HX := Lib.hid (HX.out.trans hy); replace c0 := hy.cell c0; replace c1 := hy.cell c1; clear hy)
      | (go_at_call 58; refine (nBehind _ _).mono ?_; rintro e w' ⟨rfl, hy⟩; have HX := Lib.hid (HX.out.trans hy); replace c0 := hy.cell c0; replace c1 := hy.cell c1; clear hy)
      | (go_at_call 59; refine (nAll _ _).mono ?_; rintro e w' ⟨rfl, hy⟩; have HX := Lib.hid (HX.out.trans hy); replace c0 := hy.cell c0; replace c1 := hy.cell c1; clear hy)
      | (go_at_call 60; refine (nLength _ _).mono ?_; rintro e w' ⟨rfl, hy⟩; have HX := Lib.hid (HX.out.trans hy); replace c0 := hy.cell c0; replace c1 := hy.cell c1; clear hy)
      | (go_at_call 61; refine (nMay _ _ _).mono ?_; rintro e w' ⟨rfl, hy⟩; have HX := Lib.hid (HX.out.trans hy); replace c0 := hy.cell c0; replace c1 := hy.cell c1; clear hy)
      | (go_at_call 62; refine (nClamp _ _ _).mono ?_; rintro e w' ⟨rfl, hy⟩; have HX := Lib.hid (HX.out.trans hy); replace c0 := hy.cell c0; replace c1 := hy.cell c1; clear hy)
      | (go_at_call 63; refine (nWithin _ _ _).mono ?_; rintro e w' ⟨rfl, hy⟩; have HX := Lib.hid (HX.out.trans hy); replace c0 := hy.cell c0; replace c1 := hy.cell c1; clear hy)
      | (go_at_call 64; refine (nPath _ _).mono ?_; rintro e w' ⟨rfl, hy⟩; have HX := Lib.hid (HX.out.trans hy); replace c0 := hy.cell c0; replace c1 := hy.cell c1; clear hy)
      | (go_at_call 51; refine (awake9_any _).mono ?_; rintro e w' ⟨rfl, hy⟩; have HX := Lib.hid (HX.out.trans hy); replace c0 := hy.cell c0; replace c1 := hy.cell c1; clear hy))
    go_ret
    exact ⟨rfl, HX.out⟩
end Go.Proofs.Ytiglflmjidikpaa
