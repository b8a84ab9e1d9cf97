/- Package order: Point and At; two rows of ints compared. No conditions beside a tree's own. -/
import Derived.Test.YtiglflmjidikpaaOrdF
namespace Go.Proofs.Ytiglflmjidikpaa
open Go Go.RowKit Go.BigFrame
set_option linter.unusedVariables false
set_option linter.unusedSimpArgs false

section
variable {T : Tr} {d : Nat → Nat}
theorem WF.win_within (hw : WF T d) {o : Int} : ∀ id, (∃ nd, T.get? id = some nd) → T.win id o = T.within id o := by
  refine hw.down _ (fun id h => ?_) (fun id h ih => ?_)
  · rintro ⟨nd, hg⟩
    obtain ⟨i, rfl, hi⟩ := nat_of hg
    have hu := hw.up_neg h
    rw [hw.win_step hg, hw.within_step hi, hu, hw.win_none (Tr.get_neg T (by omega))]
    rw [Tr.up_some hg] at hu
    rw [hu, within_neg]
    by_cases e : (i : Int) = o <;> simp [e]
  · rintro ⟨nd, hg⟩
    obtain ⟨i, rfl, hi⟩ := nat_of hg
    rw [hw.win_step hg, hw.within_step hi, ih (hw.up_get h), Tr.up_some hg]
    by_cases e : (i : Int) = o <;> simp [e]
theorem WF.root0 (hw : WF T d) : ∃ rd, T.get? 0 = some rd ∧ T.up 0 = -1 ∧ T.rootOf 0 = 0 ∧ T.pathOf 0 = [] := by
  obtain ⟨rd, h1, h2, _⟩ := hw.root
  have hg : T.get? 0 = some rd := Tr.get_of (i := 0) h1
  have hu : T.up 0 = -1 := by rw [Tr.up_some hg]; exact h2
  exact ⟨rd, hg, hu, by rw [hw.root_step, if_neg (by omega)], by rw [hw.path_step, if_neg (by omega)]⟩
theorem WF.live_root (hw : WF T d) {id : Int} (h : T.live id = true) : T.rootOf id = 0 := by
  obtain ⟨rd, hg, hu, hr, hp⟩ := hw.root0
  unfold Tr.live at h
  cases hi : T.get? id with
  | none => rw [hi] at h; cases h
  | some nd =>
    rw [hi] at h
    have h1 : T.win id 0 = true := by rw [hw.win_within id ⟨nd, hi⟩]; exact h
    obtain ⟨q, _, h2⟩ := (hw.win_iff hg id ⟨nd, hi⟩).1 h1
    rw [h2, hr]
theorem WF.path_rank (hw : WF T d) : ∀ id, (∃ nd, T.get? id = some nd) → (T.pathOf id).length + 1 = T.rank d id := by
  refine hw.down _ (fun id h => ?_) (fun id h ih => ?_)
  · rintro ⟨nd, hg⟩
    obtain ⟨i, rfl, hi⟩ := nat_of hg
    rw [hw.path_step, if_neg h]
    unfold Tr.rank
    rw [hg]
    have hu := hw.up_neg h
    rw [Tr.up_some hg] at hu
    rcases hw.up i nd hi with ⟨h1, h2⟩ | ⟨p, pd, h1, _⟩
    · simp [h2]
    · omega
  · rintro ⟨nd, hg⟩
    have := ih (hw.up_get h)
    rw [hw.path_step, if_pos h, hw.rank_up h]; simp; omega
theorem WF.path_small (hw : WF T d) : ∀ id, ∀ i ∈ T.pathOf id, 0 ≤ i ∧ i ≤ 2000 := by
  refine hw.down _ (fun id h => ?_) (fun id h ih => ?_)
  · intro i hi; rw [hw.path_step, if_neg h] at hi; cases hi
  · intro i hi
    rw [hw.path_step, if_pos h] at hi
    rcases List.mem_append.1 hi with hi | hi
    · exact ih i hi
    · simp at hi
      obtain ⟨j, h1, h2, h3, h4⟩ := hw.idx_kid h
      omega
end
theorem at_find {w : World} {tb : Nat} {T : Tr} (hT : TAt w tb T) {d : Nat → Nat} (hw : WF T d) {r : Int} {v : Value} {p : List Int} (hp : RowRd w 1 v p.length (p.map (Value.int .i64))) (hl : p.length ≤ 60000) (hin : ∀ i ∈ p, -9223372036854775808 ≤ i ∧ i ≤ 9223372036854775807) {o : Option Int} (ho : T.find r p = o) :
    Calls Try.prog 53 #[.pointer (some ⟨tb, 0, none⟩), .int .i64 r, v] w (RTwo (.int .i64 (o.getD 0)) (.bool o.isSome) w) := ho ▸ Find_any hT hw r hp hl hin
set_option maxHeartbeats 1000000 in
/-- two rows of ints -/
theorem Ints_any {w : World} {v v' : Value} {p q : List Int} (h : RowRd w 1 v p.length (p.map (Value.int .i64))) (h' : RowRd w 1 v' q.length (q.map (Value.int .i64))) (hp : p.length ≤ 60000) (hq : q.length ≤ 60000) :
    Calls Try.prog 71 #[v, v'] w (RVal (.bool (decide (p = q))) w) := by
  obtain ⟨_, ao, cap, rfl, hc, hn, hr⟩ := h
  obtain ⟨_, ao', cap', rfl, hc', hn', hr'⟩ := h'
  have HN := Lib.hid hn
  have HR := Lib.hid hr
  have HN' := Lib.hid hn'
  have HR' := Lib.hid hr'
  clear hn hr hn' hr'
  obtain ⟨z, hz⟩ : ∃ z, decide (p = q) = z := ⟨_, rfl⟩
  rw [hz]
  have HZ := Lib.hid hz
  clear hz
  cases hl : (p.length == q.length) with
  | false =>
    have hl' : ¬ p.length = q.length := by simpa using hl
    have : z = false := by rw [← HZ.out]; exact decide_eq_false fun e => hl' (by rw [e])
    subst this
    go_enter Try.func71, Try.ntmps71
    go_wp2_with fail
    go_ret
    exact ⟨rfl, Ext.refl _⟩
  | true =>
    have hl' : p.length = q.length := by simpa using hl
    have HLL := Lib.hid hl'
    rw [← hl'] at hc' hq ⊢
    clear hl hl'
    go_enter Try.func71, Try.ntmps71
    go_wp2_with fail
    go_loopw [5] (fun i wr => ∃ k : Nat, Ext w wr ∧ k ≤ p.length ∧ i = .int .i64 k ∧ Hid (p.take k = q.take k)) (fun i _ => p.length - (intOf i).toNat)
    case atStart => exact ⟨0, Ext.refl _, Nat.zero_le _, rfl, Lib.hid rfl⟩
    case round =>
      obtain ⟨k, hx0, hk, rfl, he⟩ := hrel
      by_cases hlt : k < p.length
      · have hlt' : k < q.length := by rw [← HLL.out]; exact hlt
        obtain ⟨x, hx⟩ : ∃ x, p[k]? = some x := ⟨p[k], by simp [hlt]⟩
        obtain ⟨y, hy⟩ : ∃ y, q[k]? = some y := ⟨q[k], by simp [hlt']⟩
        cases ao with
        | none => exact absurd (HN.out rfl).1 (by omega)
        | some a =>
          obtain ⟨b, off, sp⟩ := a
          have c0 := hx0.cells _ _ (HR.out _ rfl k (.int .i64 x) (by rw [List.getElem?_map, hx]; rfl))
          cases ao' with
          | none => exact absurd (HN'.out rfl).1 (by omega)
          | some a' =>
            obtain ⟨b', off', sp'⟩ := a'
            have c1 := hx0.cells _ _ (HR'.out _ rfl k (.int .i64 y) (by rw [List.getElem?_map, hy]; rfl))
            have c0' := fun u : ExtOf wr => u.ext.cells _ _ c0
            have c1' := fun u : ExtOf wr => u.ext.cells _ _ c1
            have HX := Lib.hid hx
            have HY := Lib.hid hy
            clear hx hy hlt'
            cases hxy : (x == y) with
            | true =>
              have HXY := Lib.hid (show x = y by simpa using hxy)
              go_upto_region 6 with fail
              refine wp_region_ext (by kernel_rfl) (by kernel_rfl) ?_
              repeat (go_big_quiet_step (fail))
              refine wpQuiet_nil ?_
              rintro _ ⟨u, rfl⟩
              clear c0' c1'
              go_wp2_with fail
              go_roundw
              case rel =>
                refine ⟨k + 1, hx0.trans u.ext, by omega, by go_num, Lib.hid ?_⟩
                have hlt'' : k < q.length := by rw [← HLL.out]; exact hlt
                obtain ⟨_, e1⟩ := List.getElem?_eq_some_iff.1 HX.out
                obtain ⟨_, e2⟩ := List.getElem?_eq_some_iff.1 HY.out
                rw [List.take_succ_eq_append_getElem hlt, List.take_succ_eq_append_getElem hlt'', he.out, e1, e2, HXY.out]
              case measure => simp [intOf]; omega
            | false =>
              have HXY := Lib.hid (show ¬ x = y by simpa using hxy)
              have : z = false := by
                rw [← HZ.out]
                refine decide_eq_false fun e => HXY.out ?_
                have h1 := HX.out
                rw [e, HY.out] at h1
                injection h1 with h1
                exact h1.symm
              subst this
              go_upto_region 6 with fail
              refine wp_region_ext (by kernel_rfl) (by kernel_rfl) ?_
              repeat (go_big_quiet_step (fail))
              refine wpQuiet_nil ?_
              rintro _ ⟨u, rfl⟩
              clear c0' c1'
              go_wp2_with fail
              go_ret
              exact ⟨rfl, hx0.trans u.ext⟩
      · obtain rfl : k = p.length := by omega
        have : z = true := by
          rw [← HZ.out]
          refine decide_eq_true ?_
          have h1 := he.out
          rw [List.take_length, HLL.out, List.take_length] at h1
          exact h1
        subst this
        go_wp2_with fail
        go_ret
        exact ⟨rfl, hx0⟩
def PointIs (T : Tr) (n at' : Int) (w : World) (e : Ending) (w' : World) : Prop :=
  (T.may n at' = true ∧ T.live n = true ∧ ∃ a c, e = .returned (.tuple #[.agg #[.slice a (T.pathOf n).length c, .int .i64 at'], .bool true]) ∧ RowRd w' 1 (.slice a (T.pathOf n).length c) (T.pathOf n).length ((T.pathOf n).map (Value.int .i64)) ∧ Ext w w') ∨
  ((T.may n at' && T.live n) = false ∧ e = .returned (.tuple #[.agg #[.slice none 0 0, .int .i64 0], .bool false]) ∧ Ext w w')
structure LiveIs (T : Tr) (x : Int) (b : Bool) : Prop where
  out : T.live x = b
theorem at_live' {w : World} {tb : Nat} {T : Tr} (h : TAt w tb T) {d : Nat → Nat} (hw : WF T d) {x : Int} {b : Bool} (m : LiveIs T x b) : Calls Try.prog 28 #[.pointer (some ⟨tb, 0, none⟩), .int .i64 x] w (RVal (.bool b) w) := m.out ▸ at_live h hw x
set_option maxRecDepth 100000 in
set_option maxHeartbeats 2000000 in
theorem Point_any {w : World} {tb : Nat} {T : Tr} (hT : TAt w tb T) {d : Nat → Nat} (hw : WF T d) (hA : AttrsOk T) (n at' : Int) : Calls Try.prog 54 #[.pointer (some ⟨tb, 0, none⟩), .agg #[.int .i64 n, .int .i64 at']] w (PointIs T n at' w) := by
  have x1 := ((Ext.refl w).alloc (.cells #[.int .i64 n, .int .i64 at'] 73)).alloc (.cells #[.slice none 0 0, .int .i64 0] 78)
  have ha := (Two.new w (.int .i64 n) (.int .i64 at') 73).ext ((Ext.refl _).alloc (.cells #[.slice none 0 0, .int .i64 0] 78))
  have hb := heap_alloc_new (w.alloc (.cells #[.int .i64 n, .int .i64 at'] 73)) (.cells #[.slice none 0 0, .int .i64 0] 78)
  rw [show (w.alloc (.cells #[.int .i64 n, .int .i64 at'] 73)).heap.size = w.heap.size + 1 by simp] at hb
  go_enter Try.func54, Try.ntmps54
  go_upto_region 1 with fail
  obtain ⟨wb, hwb⟩ : ∃ wb : World, wb = (w.alloc (.cells #[.int .i64 n, .int .i64 at'] 73)).alloc (.cells #[.slice none 0 0, .int .i64 0] 78) := ⟨_, rfl⟩
  rw [← hwb] at x1 ha hb ⊢
  clear hwb
  have HB := Lib.hid hb
  have X1 := Lib.hid x1
  obtain ⟨c0, c1, _, _⟩ := ha
  clear hb x1
  have no : ∀ (wx : World), wx.heap[w.heap.size + 1]? = some (.cells #[.slice none 0 0, .int .i64 0] 78 (0, 0)) → wx.cell? ⟨w.heap.size + 1, 0, none⟩ = some (.slice none 0 0) ∧ wx.cell? ⟨w.heap.size + 1, 1, none⟩ = some (.int .i64 0) ∧ wx.frozen? ⟨w.heap.size + 1, 0, none⟩ = false ∧ wx.frozen? ⟨w.heap.size + 1, 1, none⟩ = false :=
    fun wx h => ⟨cellOf h rfl, cellOf h rfl, freeOf h 0, freeOf h 1⟩
  cases hm : T.may n at' with
  | false =>
    have MA : MayIs T n at' false := ⟨hm⟩
    have HM := Lib.hid hm
    clear hm
    go_wp2_with fail
    refine (at_may (hT.ext X1.out) hw hA MA).mono ?_
    rintro e w2 ⟨rfl, hx2⟩
    obtain ⟨r0, r1, f0, f1⟩ := no w2 (hx2.block HB.out)
    go_wp2_with fail
    exact bodyPost_ret (v := .tuple #[.agg #[.slice none 0 0, .int .i64 0], .bool false]) (by simp [results, Try.results54, go_sem, r0, r1]) rfl (.inr ⟨by rw [HM.out]; rfl, rfl, ((X1.out.trans hx2).setCell (Nat.le_succ _) _).setCell (Nat.le_succ _) _⟩)
  | true =>
    have MA : MayIs T n at' true := ⟨hm⟩
    have HM := Lib.hid hm
    clear hm
    go_wp2_with fail
    refine (at_may (hT.ext X1.out) hw hA MA).mono ?_
    rintro e w2 ⟨rfl, hx2⟩
    replace c0 := hx2.cell c0
    replace c1 := hx2.cell c1
    have hb2 := hx2.block HB.out
    replace hx2 := X1.out.trans hx2
    have HB2 := Lib.hid hb2
    have HX2 := Lib.hid hx2
    clear hb2 hx2
    cases hv : T.live n with
    | false =>
      have LA : LiveIs T n false := ⟨hv⟩
      have HV := Lib.hid hv
      clear hv
      go_wp2_with fail
      refine (at_live' (hT.ext HX2.out) hw LA).mono ?_
      rintro e w3 ⟨rfl, hx3⟩
      obtain ⟨r0, r1, f0, f1⟩ := no w3 (hx3.block HB2.out)
      go_wp2_with fail
      exact bodyPost_ret (v := .tuple #[.agg #[.slice none 0 0, .int .i64 0], .bool false]) (by simp [results, Try.results54, go_sem, r0, r1]) rfl (.inr ⟨by rw [HM.out, HV.out]; rfl, rfl, ((HX2.out.trans hx3).setCell (Nat.le_succ _) _).setCell (Nat.le_succ _) _⟩)
    | true =>
      have LA : LiveIs T n true := ⟨hv⟩
      have HV := Lib.hid hv
      clear hv
      go_wp2_with fail
      refine (at_live' (hT.ext HX2.out) hw LA).mono ?_
      rintro e w3 ⟨rfl, hx3⟩
      replace c0 := hx3.cell c0
      replace c1 := hx3.cell c1
      have HB3 := Lib.hid (hx3.block HB2.out)
      have HX3 := Lib.hid (HX2.out.trans hx3)
      have HXD := Lib.hid (show Ext w w3.drew from (HX2.out.trans hx3).drew)
      have HBD := Lib.hid (show w3.drew.heap[w.heap.size + 1]? = _ from HB3.out)
      have HC := Lib.hid (And.intro c0 c1)
      have hk := And.intro c0 c1
      have np : w.heap.size ≠ w.heap.size + 1 := by omega
      have np' := Ne.symm np
      clear hx3
      go_upto_region 3 with fail
      go_region_held3 (fun w' => w'.cell? ⟨w.heap.size, 0, none⟩ = some (.int .i64 n) ∧ w'.cell? ⟨w.heap.size, 1, none⟩ = some (.int .i64 at'))
        (first | exact hkeep | exact hk | go_keep)
        ((go_at_call 64; refine (Path_any (hT.ext HXD.out) hw n).mono ?_; rintro e w4 ⟨va, rfl, hra, hx4, hob⟩; have hkeep := And.intro (hx4.cell HC.out.1) (hx4.cell HC.out.2); obtain ⟨pa, pc, ev, _⟩ := hra.len_of; subst ev; obtain ⟨r0, r1, f0, f1⟩ := no w4 (hx4.block HBD.out); have HRA := Lib.hid hra; have HX4 := Lib.hid (HXD.out.trans hx4); have HB4 := Lib.hid (hx4.block HBD.out); have HOB := Lib.hid hob; clear hra hx4 hob))
      go_wp2_with fail
      have hsz : w.heap.size + 1 < w3.heap.size := (Array.getElem?_eq_some_iff.1 HB3.out).1
      have hob : (T.pathOf n).length = 0 ∨ (Value.slice pa (T.pathOf n).length pc).ownBlock ≠ some (w.heap.size + 1) := by
        by_cases h0 : T.pathOf n = []
        · exact .inl (by rw [h0]; rfl)
        · refine .inr fun e => ?_
          rcases HOB.out _ e with h | h
          · exact h0 h
          · have : w3.drew.heap.size ≤ w.heap.size + 1 := h
            simp at this; omega
      have hr5 := (HRA.out.other (p := ⟨w.heap.size + 1, 0, none⟩) hob (.slice pa (T.pathOf n).length pc)).other (p := ⟨w.heap.size + 1, 1, none⟩) hob (.int .i64 at')
      exact bodyPost_ret (v := .tuple #[.agg #[.slice pa (T.pathOf n).length pc, .int .i64 at'], .bool true]) (by simp [results, Try.results54, go_sem, r0, r1]) rfl (.inl ⟨HM.out, HV.out, pa, pc, rfl, hr5, (HX4.out.setCell (Nat.le_succ _) _).setCell (Nat.le_succ _) _⟩)
def AtIs (T : Tr) (p : List Int) (at' : Int) (w : World) (e : Ending) (w' : World) : Prop :=
  (∃ id, T.find 0 p = some id ∧ T.may id at' = true ∧ e = .returned (.tuple #[.agg #[.int .i64 id, .int .i64 at'], .bool true]) ∧ Ext w w') ∨
  ((∀ id, T.find 0 p = some id → T.may id at' = false) ∧ e = .returned (.tuple #[.agg #[.int .i64 0, .int .i64 0], .bool false]) ∧ Ext w w')
set_option maxRecDepth 100000 in
set_option maxHeartbeats 2000000 in
theorem At_any {w : World} {tb : Nat} {T : Tr} (hT : TAt w tb T) {d : Nat → Nat} (hw : WF T d) (hA : AttrsOk T) {v : Value} {p : List Int} (hp : RowRd w 1 v p.length (p.map (Value.int .i64))) (hl : p.length ≤ 60000) (hin : ∀ i ∈ p, -9223372036854775808 ≤ i ∧ i ≤ 9223372036854775807) (at' : Int) :
    Calls Try.prog 55 #[.pointer (some ⟨tb, 0, none⟩), .agg #[v, .int .i64 at']] w (AtIs T p at' w) := by
  obtain ⟨pa, pc, ev, _⟩ := hp.len_of
  subst ev
  have x1 := ((Ext.refl w).alloc (.cells #[.slice pa p.length pc, .int .i64 at'] 78)).alloc (.cells #[.int .i64 0, .int .i64 0] 73)
  have ha := (Two.new w (.slice pa p.length pc) (.int .i64 at') 78).ext ((Ext.refl _).alloc (.cells #[.int .i64 0, .int .i64 0] 73))
  have hb := heap_alloc_new (w.alloc (.cells #[.slice pa p.length pc, .int .i64 at'] 78)) (.cells #[.int .i64 0, .int .i64 0] 73)
  rw [show (w.alloc (.cells #[.slice pa p.length pc, .int .i64 at'] 78)).heap.size = w.heap.size + 1 by simp] at hb
  obtain ⟨o, ho⟩ : ∃ o, T.find 0 p = o := ⟨_, rfl⟩
  have HO := Lib.hid ho
  have HIN := Lib.hid hin
  have HP := Lib.hid hp
  clear ho hin hp
  go_enter Try.func55, Try.ntmps55
  go_upto_region 1 with fail
  obtain ⟨wb, hwb⟩ : ∃ wb : World, wb = (w.alloc (.cells #[.slice pa p.length pc, .int .i64 at'] 78)).alloc (.cells #[.int .i64 0, .int .i64 0] 73) := ⟨_, rfl⟩
  rw [← hwb] at x1 ha hb ⊢
  clear hwb
  have HB := Lib.hid hb
  have X1 := Lib.hid x1
  obtain ⟨c0, c1, _, _⟩ := ha
  clear hb x1
  go_wp2_with fail
  refine (at_find (hT.ext X1.out) hw (HP.out.ext X1.out) hl HIN.out HO.out).mono ?_
  rintro e w2 ⟨rfl, hx2⟩
  replace c1 := hx2.cell c1
  have HB2 := Lib.hid (hx2.block HB.out)
  have HX2 := Lib.hid (X1.out.trans hx2)
  clear hx2 c0
  cases o with
  | none =>
    have hb3 := ((Ext.refl w2).alloc (.cells #[.int .i64 0, .int .i64 at'] 73)).block HB2.out
    have hx3 := HX2.out.alloc (.cells #[.int .i64 0, .int .i64 at'] 73)
    go_upto_region 3 with fail
    obtain ⟨w3, hw3⟩ : ∃ w3 : World, w3 = w2.alloc (.cells #[.int .i64 0, .int .i64 at'] 73) := ⟨_, rfl⟩
    rw [← hw3] at hb3 hx3 ⊢
    clear hw3
    have r0 := cellOf hb3 (i := 0) (v := .int .i64 0) rfl
    have r1 := cellOf hb3 (i := 1) (v := .int .i64 0) rfl
    have f0 := freeOf hb3 0
    have f1 := freeOf hb3 1
    go_wp2_with fail
    exact bodyPost_ret (v := .tuple #[.agg #[.int .i64 0, .int .i64 0], .bool false]) (by simp [results, Try.results55, go_sem, r0, r1]) rfl (.inr ⟨fun id h => (by rw [HO.out] at h; cases h), rfl, (hx3.setCell (Nat.le_succ _) _).setCell (Nat.le_succ _) _⟩)
  | some id =>
    have hb3 := ((Ext.refl w2).alloc (.cells #[.int .i64 id, .int .i64 at'] 73)).block HB2.out
    have hx3 := HX2.out.alloc (.cells #[.int .i64 id, .int .i64 at'] 73)
    have h8 := Two.new w2 (.int .i64 id) (.int .i64 at') 73
    have hne : w2.heap.size ≠ w.heap.size + 1 := by have := (Array.getElem?_eq_some_iff.1 HB2.out).1; omega
    have hne' := Ne.symm hne
    go_upto_region 3 with fail
    obtain ⟨w3, hw3⟩ : ∃ w3 : World, w3 = w2.alloc (.cells #[.int .i64 id, .int .i64 at'] 73) := ⟨_, rfl⟩
    rw [← hw3] at hb3 hx3 h8 ⊢
    clear hw3
    have HB3 := Lib.hid hb3
    have HX3 := Lib.hid hx3
    obtain ⟨q0, q1, _, _⟩ := h8
    clear hb3 hx3
    cases hm : T.may id at' with
    | false =>
      have MA : MayIs T id at' false := ⟨hm⟩
      have HM := Lib.hid hm
      clear hm
      go_wp2_with fail
      refine (at_may (hT.ext HX3.out) hw hA MA).mono ?_
      rintro e w4 ⟨rfl, hx4⟩
      have hb4 := hx4.block HB3.out
      have r0 := cellOf hb4 (i := 0) (v := .int .i64 0) rfl
      have r1 := cellOf hb4 (i := 1) (v := .int .i64 0) rfl
      have f0 := freeOf hb4 0
      have f1 := freeOf hb4 1
      clear hb4
      go_wp2_with fail
      exact bodyPost_ret (v := .tuple #[.agg #[.int .i64 0, .int .i64 0], .bool false]) (by simp [results, Try.results55, go_sem, r0, r1]) rfl (.inr ⟨fun id' h => (by rw [HO.out] at h; cases h; exact HM.out), rfl, ((HX3.out.trans hx4).setCell (Nat.le_succ _) _).setCell (Nat.le_succ _) _⟩)
    | true =>
      have MA : MayIs T id at' true := ⟨hm⟩
      have HM := Lib.hid hm
      clear hm
      go_wp2_with fail
      refine (at_may (hT.ext HX3.out) hw hA MA).mono ?_
      rintro e w4 ⟨rfl, hx4⟩
      have hb4 := hx4.block HB3.out
      have r0 := cellOf hb4 (i := 0) (v := .int .i64 0) rfl
      have r1 := cellOf hb4 (i := 1) (v := .int .i64 0) rfl
      have f0 := freeOf hb4 0
      have f1 := freeOf hb4 1
      replace q0 := hx4.cell q0
      replace q1 := hx4.cell q1
      clear hb4
      go_wp2_with fail
      exact bodyPost_ret (v := .tuple #[.agg #[.int .i64 id, .int .i64 at'], .bool true]) (by simp [results, Try.results55, go_sem, r0, r1]) rfl (.inl ⟨id, HO.out, HM.out, rfl, ((HX3.out.trans hx4).setCell (Nat.le_succ _) _).setCell (Nat.le_succ _) _⟩)
theorem at_depth {w : World} {tb : Nat} {T : Tr} (h : TAt w tb T) {d : Nat → Nat} (hw : WF T d) {id : Int} {nd : Nd} (hg : T.get? id = some nd) : Calls Try.prog 36 #[.pointer (some ⟨tb, 0, none⟩), .int .i64 id] w (RVal (.int .i64 ((T.pathOf id).length : Int)) w) := by
  obtain ⟨own, ptr, hT, hO⟩ := h.out
  obtain ⟨i, rfl, hi⟩ := nat_of hg
  have h1 := hw.path_rank i ⟨nd, hg⟩
  unfold Tr.rank at h1
  rw [hg] at h1
  have h2 : (T.pathOf (i : Int)).length = d i := by simpa using h1
  rw [h2]
  exact RSame.val (Depth_some hT hw hi)
end Go.Proofs.Ytiglflmjidikpaa
