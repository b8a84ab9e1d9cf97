/- Package dom: Graft: its errors, and the tree behind it. -/
import Derived.Test.YtiglflmjidikpaaDomZb
namespace Go.Proofs.Ytiglflmjidikpaa
open Go Go.RowKit Go.BigFrame
set_option linter.unusedVariables false
set_option linter.unusedSimpArgs false

theorem nodup_le {l m : List Int} (hn : l.Nodup) (h : ∀ x ∈ l, x ∈ m) : l.length ≤ m.length := by
  induction l generalizing m with
  | nil => simp
  | cons a r ih =>
    have ha := h a (by simp)
    have hr := List.nodup_cons.1 hn
    have := ih (m := m.erase a) hr.2 fun x hx => (List.mem_erase_of_ne (fun e => hr.1 (by rw [← e]; exact hx))).2 (h x (by simp [hx]))
    rw [List.length_erase_of_mem ha] at this
    have := List.length_pos_of_mem ha
    simp only [List.length_cons]; omega
theorem WF.kids_len {T : Tr} {d : Nat → Nat} (hw : WF T d) {i : Nat} {nd : Nd} (h : T.nodes[i]? = some (some nd)) : nd.kids.length ≤ 2000 := by
  have h1 := nodup_le (m := (List.range T.nodes.length).map Int.ofNat) (hw.kids i nd h).1 fun x hx => by
    obtain ⟨j, kd, rfl, hj, _⟩ := (hw.kids i nd h).2 x hx
    exact List.mem_map.2 ⟨j, List.mem_range.2 (List.getElem?_eq_some_iff.1 hj).1, rfl⟩
  simp at h1
  have := hw.small.len
  omega
/-- the world without what the tree owns -/
def hide (own : Ow) (w : World) : World := { w with heap := w.heap.mapIdx fun b x => if (own b).isNone then x else .cells #[] 0 (0, 0) }
theorem hide_cell {own : Ow} {w : World} {p : Addr} {v : Value} (h : w.cell? p = some v) (hn : own p.block = none) : (hide own w).cell? p = some v := by
  rw [← h]
  refine World.cell?_of_block ?_
  show (w.heap.mapIdx _)[p.block]? = _
  rw [Array.getElem?_mapIdx, hn]
  cases w.heap[p.block]? <;> rfl
theorem hide_apart (own : Ow) (w : World) : Apart (hide own w) own w := by
  intro p v h
  have hn : own p.block = none := by
    cases ho : own p.block with
    | none => rfl
    | some x =>
      exfalso
      have hb : (hide own w).heap[p.block]? = (w.heap[p.block]?).map fun _ => (.cells #[] 0 (0, 0) : Obj) := by
        show (w.heap.mapIdx _)[p.block]? = _
        rw [Array.getElem?_mapIdx, ho]; rfl
      cases hw : w.heap[p.block]? with
      | none => rw [hw] at hb; simp [World.cell?, hb] at h
      | some o => rw [hw] at hb; simp [World.cell?, hb] at h
  refine ⟨?_, hn⟩
  rw [← h]
  refine (World.cell?_of_block ?_).symm
  show (w.heap.mapIdx _)[p.block]? = _
  rw [Array.getElem?_mapIdx, hn]
  cases w.heap[p.block]? <;> rfl
theorem Apart.hide {g : World} {own : Ow} {w : World} (h : Apart g own w) : Cells g (hide own w) := fun p v hp => hide_cell (h p v hp).1 (h p v hp).2
/-- old nodes are not within the new one, and lie as deep as they did -/
theorem Put.apart {T T' : Tr} {d d' : Nat → Nat} {i : Nat} {n : PN} {sz hi : Nat} (hP : Put T T' d' i n sz hi) (hw : WF T d) (hi2 : ∀ x : Nd, T.nodes[i]? ≠ some (some x)) :
    ∀ (j : Nat) (jd : Nd), T.nodes[j]? = some (some jd) → T'.within j i = false ∧ d' j = d j := by
  refine hw.induct _ (fun j jd h hp hd => ?_) (fun j jd p pd h hp hpd hd ih => ?_)
  · have hji : j ≠ i := fun e => hi2 jd (e ▸ h)
    have h' := hP.old j jd hji h
    refine ⟨by rw [hP.wf.within_root h' hp]; simp; omega, ?_⟩
    rcases hP.wf.up j jd h' with ⟨h3, h4⟩ | ⟨q, qd, h3, h4, h5, h6⟩
    · omega
    · omega
  · have hji : j ≠ i := fun e => hi2 jd (e ▸ h)
    have h' := hP.old j jd hji h
    refine ⟨by rw [hP.wf.within_step h', if_neg (by omega), hp]; exact ih.1, ?_⟩
    rcases hP.wf.up j jd h' with ⟨h3, h4⟩ | ⟨q, qd, h3, h4, h5, h6⟩
    · omega
    · obtain rfl : q = p := by omega
      omega
def TwoErr (er : Int) (own : Ow) (w : World) (e : Ending) (w' : World) : Prop := e = .returned (.tuple #[.int .i64 0, .int .i64 er]) ∧ Ext w w'

set_option maxRecDepth 100000 in
set_option maxHeartbeats 1000000 in
theorem Graft_none {w : World} {own : Ow} {ptr : Nat → Nat} {tb : Nat} {T : Tr} (hT : TreeAt w own ptr tb T) (hO : Owned own w) {p at' : Int} (h : T.get? p = none) (x y z u : Value) :
    Calls Try.prog 31 #[.pointer (some ⟨tb, 0, none⟩), .int .i64 p, .int .i64 at', .agg #[x, y, z, u]] w (RTwo (.int .i64 0) (.int .i64 2) w) := by
  have x1 := ((Ext.refl w).alloc (.cells #[.pointer (some ⟨tb, 0, none⟩)] 25)).alloc (.cells #[x, y, z, u] 30)
  have HT := Lib.hid (hT.keep (x1.keep hO))
  have H := Lib.hid h
  have HX := Lib.hid x1
  clear h hT x1
  go_enter Try.func31, Try.ntmps31
  go_wp2_with (go_at_call 80; refine (get_none HT.out H.out).mono ?_; rintro e w' ⟨rfl, rfl⟩)
  go_ret2
  exact ⟨rfl, HX.out⟩
set_option maxRecDepth 100000 in
set_option maxHeartbeats 1000000 in
theorem Graft_kind {w : World} {own : Ow} {ptr : Nat → Nat} {tb : Nat} {T : Tr} (hT : TreeAt w own ptr tb T) (hO : Owned own w) {p at' : Int} {pd : Nd} (h : T.get? p = some pd) (ht : (pd.tag == 0) = true) (x y z u : Value) :
    Calls Try.prog 31 #[.pointer (some ⟨tb, 0, none⟩), .int .i64 p, .int .i64 at', .agg #[x, y, z, u]] w (RTwo (.int .i64 0) (.int .i64 6) w) := by
  have x1 := ((Ext.refl w).alloc (.cells #[.pointer (some ⟨tb, 0, none⟩)] 25)).alloc (.cells #[x, y, z, u] 30)
  have hT1 := hT.keep (x1.keep hO)
  obtain ⟨avp, kvp, bp, _, _, hkp⟩ := hT1.node _ _ (Tr.get_lt h).2.2
  have cp0 := cellOf bp (i := 0) (v := .int .i64 pd.tag) rfl
  have HT := Lib.hid hT1
  have H := Lib.hid h
  have HX := Lib.hid x1
  clear h hT x1 hT1 bp hkp
  go_enter Try.func31, Try.ntmps31
  go_wp2_with (go_at_call 80; refine (get_some HT.out H.out).mono ?_; rintro e w' ⟨rfl, rfl⟩)
  go_ret2
  exact ⟨rfl, HX.out⟩
set_option maxRecDepth 100000 in
set_option maxHeartbeats 1000000 in
theorem Graft_arg {w : World} {own : Ow} {ptr : Nat → Nat} {tb : Nat} {T : Tr} (hT : TreeAt w own ptr tb T) (hO : Owned own w) {p at' : Int} {pd : Nd} (h : T.get? p = some pd) (ht : (pd.tag == 0) = false) (ha : at' < 0 ∨ (pd.kids.length : Int) < at') (x y z u : Value) :
    Calls Try.prog 31 #[.pointer (some ⟨tb, 0, none⟩), .int .i64 p, .int .i64 at', .agg #[x, y, z, u]] w (RTwo (.int .i64 0) (.int .i64 1) w) := by
  have x1 := ((Ext.refl w).alloc (.cells #[.pointer (some ⟨tb, 0, none⟩)] 25)).alloc (.cells #[x, y, z, u] 30)
  have hT1 := hT.keep (x1.keep hO)
  obtain ⟨avp, kvp, bp, _, _, hkp⟩ := hT1.node _ _ (Tr.get_lt h).2.2
  obtain ⟨ka, kcap, rfl, kc1, kc2⟩ := hkp.len
  have cp0 := cellOf bp (i := 0) (v := .int .i64 pd.tag) rfl
  have cp3 := cellOf bp (i := 3) (v := .slice ka pd.kids.length kcap) rfl
  have HT := Lib.hid hT1
  have H := Lib.hid h
  have HX := Lib.hid x1
  clear h hT x1 hT1 bp hkp kc1 kc2
  by_cases h1 : at' < 0
  · clear ha
    go_enter Try.func31, Try.ntmps31
    go_wp2_with (go_at_call 80; refine (get_some HT.out H.out).mono ?_; rintro e w' ⟨rfl, rfl⟩)
    go_ret2
    exact ⟨rfl, HX.out⟩
  · have h2 : (pd.kids.length : Int) < at' := by rcases ha with h | h; exact absurd h h1; exact h
    clear ha
    go_enter Try.func31, Try.ntmps31
    go_wp2_with (go_at_call 80; refine (get_some HT.out H.out).mono ?_; rintro e w' ⟨rfl, rfl⟩)
    go_ret2
    exact ⟨rfl, HX.out⟩
end Go.Proofs.Ytiglflmjidikpaa
