/- quillworkref08: SameAttrs, SameNode: of what reads the same they say true. No conditions. -/
import Derived.Test.YtiglflmjidikpaaArgs
namespace Go.Proofs.Ytiglflmjidikpaa
open Go Go.RowKit Go.BigFrame
set_option linter.unusedVariables false
set_option linter.unusedSimpArgs false

theorem attrCells_at : ∀ (l : List (ByteArray × ByteArray)) (k : Nat) (p : ByteArray × ByteArray), l[k]? = some p → (attrCells l)[k * 2]? = some (.string p.1) ∧ (attrCells l)[k * 2 + 1]? = some (.string p.2) := by
  intro l
  induction l with
  | nil => intro k p h; cases h
  | cons q r ih =>
    obtain ⟨a, b⟩ := q
    intro k p h
    cases k with
    | zero => cases h; exact ⟨rfl, rfl⟩
    | succ k =>
      have := ih k p h
      rw [show (k + 1) * 2 = k * 2 + 2 by omega]
      exact this
mutual
/-- no row of attributes is too long -/
def PN.fair : PN → Bool
  | .mk _ a _ ks => decide (a.length ≤ 60000) && PN.fairs ks
def PN.fairs : List PN → Bool
  | [] => true
  | k :: r => PN.fair k && PN.fairs r
end
theorem PN.fair_eq (n : PN) : n.fair = (decide (n.attrs.length ≤ 60000) && PN.fairs n.kids) := by cases n; rfl
theorem PN.fairs_mem {l : List PN} (h : PN.fairs l = true) {k : PN} (hk : k ∈ l) : k.fair = true := by
  induction l with
  | nil => cases hk
  | cons x r ih =>
    simp only [PN.fairs, Bool.and_eq_true] at h
    rcases List.mem_cons.1 hk with rfl | hk
    · exact h.1
    · exact ih h.2 hk
theorem PN.fairs_of {l : List PN} (h : ∀ k ∈ l, k.fair = true) : PN.fairs l = true := by
  induction l with
  | nil => rfl
  | cons x r ih =>
    simp only [PN.fairs, Bool.and_eq_true]
    exact ⟨h x (by simp), ih fun k hk => h k (by simp [hk])⟩
set_option maxRecDepth 100000 in
set_option maxHeartbeats 2000000 in
theorem SameAttrs_eq {w : World} {l : List (ByteArray × ByteArray)} {v v' : Value} (hlen : l.length ≤ 60000) (h : RowRd w 2 v l.length (attrCells l)) (h' : RowRd w 2 v' l.length (attrCells l)) :
    Calls Try.prog 89 #[v, v'] w (RBool true w) := by
  obtain ⟨_, ao, cap, rfl, hc, hno, hcl⟩ := h
  obtain ⟨_, ao', cap', rfl, hc', hno', hcl'⟩ := h'
  have HNO := Lib.hid hno
  have HNO' := Lib.hid hno'
  have HCL := Lib.hid hcl
  have HCL' := Lib.hid hcl'
  clear hno hno' hcl hcl'
  go_enter Try.func89, Try.ntmps89
  go_wp2_with fail
  go_loopw [5] (fun i wr => ∃ k : Nat, k ≤ l.length ∧ i = .int .i64 k ∧ Ext w wr) (fun i _ => l.length - (intOf i).toNat)
  case atStart => exact ⟨0, Nat.zero_le _, rfl, Ext.refl _⟩
  case round =>
    obtain ⟨k, hk, rfl, xr⟩ := hrel
    by_cases hkk : k < l.length
    · obtain ⟨p, hp⟩ : ∃ p, l[k]? = some p := ⟨l[k], by simp [hkk]⟩
      obtain ⟨e1, e2⟩ := attrCells_at l k p hp
      cases ao with
      | none => exact absurd (HNO.out rfl).1 (by omega)
      | some a =>
        cases ao' with
        | none => exact absurd (HNO'.out rfl).1 (by omega)
        | some a' =>
          obtain ⟨b, off, sp⟩ := a
          obtain ⟨b', off', sp'⟩ := a'
          have q0 := HCL.out _ rfl _ _ e1
          have q1 := HCL.out _ rfl _ _ e2
          have q0' := HCL'.out _ rfl _ _ e1
          have q1' := HCL'.out _ rfl _ _ e2
          rw [add_later _ _ _ (by decide)] at q1 q1'
          have XR := Lib.hid xr
          have d0 := fun u : ExtOf wr => u.ext.cells _ _ (xr.cells _ _ q0)
          have d1 := fun u : ExtOf wr => u.ext.cells _ _ (xr.cells _ _ q1)
          have d0' := fun u : ExtOf wr => u.ext.cells _ _ (xr.cells _ _ q0')
          have d1' := fun u : ExtOf wr => u.ext.cells _ _ (xr.cells _ _ q1')
          clear q0 q1 q0' q1' e1 e2 xr hp
          go_upto_region 6 with fail
          refine wp_region_ext (by kernel_rfl) (by kernel_rfl) ?_
          repeat (go_big_quiet_step (fail))
          refine wpQuiet_nil ?_
          rintro _ ⟨u, rfl⟩
          clear d0 d1 d0' d1'
          go_wp2_with fail
          go_roundw
          case rel => exact ⟨k + 1, by omega, by go_num, XR.out.trans u.ext⟩
          case measure => simp [intOf]; omega
    · go_wp2_with fail
      go_ret
      exact ⟨rfl, xr⟩
set_option maxRecDepth 100000 in
set_option maxHeartbeats 4000000 in
theorem SameNode_eq : ∀ (n : PN), n.fair = true → ∀ (w : World) (v v' : Value), RdN w n v → RdN w n v' → Calls Try.prog 26 #[v, v'] w (RBool true w) := by
  refine PN.induct _ fun n ih hfair w v v' h h' => ?_
  rw [PN.fair_eq] at hfair
  simp only [Bool.and_eq_true, decide_eq_true_eq] at hfair
  have hal := hfair.1
  have HF := Lib.hid hfair.2
  clear hfair
  obtain ⟨av, kv, rfl, hA, hK⟩ := h.open
  obtain ⟨av', kv', rfl, hA', hK'⟩ := h'.open
  obtain ⟨aa, acap, rfl, _⟩ := hA.len_of
  obtain ⟨aa', acap', rfl, _⟩ := hA'.len_of
  obtain ⟨ka, kcap, rfl, hkc, hkm, hkn, hk⟩ := hK
  obtain ⟨ka', kcap', rfl, hkc', hkm', hkn', hk'⟩ := hK'
  have IH := Lib.hid ih
  have HA := Lib.hid hA
  have HA' := Lib.hid hA'
  have HN := Lib.hid hkn
  have HN' := Lib.hid hkn'
  have HK := Lib.hid hk
  have HK' := Lib.hid hk'
  unfold maxLen at hkm hkm'
  clear ih hA hA' hkn hkn' hk hk' h h'
  have bM := heap_alloc_new w (.cells #[.int .i64 n.tag, .slice aa n.attrs.length acap, .string n.text, .slice ka n.kids.length kcap] 30)
  have xm := (Ext.refl w).alloc (.cells #[.int .i64 n.tag, .slice aa n.attrs.length acap, .string n.text, .slice ka n.kids.length kcap] 30)
  go_enter Try.func26, Try.ntmps26
  go_upto_region 1 with fail
  obtain ⟨wm, hwm⟩ : ∃ wm : World, wm = w.alloc (.cells #[.int .i64 n.tag, .slice aa n.attrs.length acap, .string n.text, .slice ka n.kids.length kcap] 30) := ⟨_, rfl⟩
  have hsz : wm.heap.size = w.heap.size + 1 := by rw [hwm]; simp
  rw [← hwm] at bM xm ⊢
  clear hwm
  have bM2 := heap_alloc_new wm (.cells #[.int .i64 n.tag, .slice aa' n.attrs.length acap', .string n.text, .slice ka' n.kids.length kcap'] 30)
  have xm2 := (Ext.refl wm).alloc (.cells #[.int .i64 n.tag, .slice aa' n.attrs.length acap', .string n.text, .slice ka' n.kids.length kcap'] 30)
  obtain ⟨wn, hwn⟩ : ∃ wn : World, wn = wm.alloc (.cells #[.int .i64 n.tag, .slice aa' n.attrs.length acap', .string n.text, .slice ka' n.kids.length kcap'] 30) := ⟨_, rfl⟩
  rw [← hwn] at bM2 xm2 ⊢
  clear hwn
  have b1 := (xm2.block bM)
  rw [hsz] at bM2
  have u0 := cellOf b1 (i := 0) (v := .int .i64 n.tag) rfl
  have u1 := cellOf b1 (i := 1) (v := .slice aa n.attrs.length acap) rfl
  have u2 := cellOf b1 (i := 2) (v := .string n.text) rfl
  have u3 := cellOf b1 (i := 3) (v := .slice ka n.kids.length kcap) rfl
  have t0 := cellOf bM2 (i := 0) (v := .int .i64 n.tag) rfl
  have t1 := cellOf bM2 (i := 1) (v := .slice aa' n.attrs.length acap') rfl
  have t2 := cellOf bM2 (i := 2) (v := .string n.text) rfl
  have t3 := cellOf bM2 (i := 3) (v := .slice ka' n.kids.length kcap') rfl
  have HX := Lib.hid (xm.trans xm2)
  have U3 := Lib.hid u3
  have T3 := Lib.hid t3
  clear bM xm bM2 xm2 b1
  go_wp2_with fail
  refine (SameAttrs_eq hal (HA.out.ext HX.out) (HA'.out.ext HX.out)).mono ?_
  rintro e w3 ⟨rfl, hx3⟩
  clear u0 u1 u2 u3 t0 t1 t2 t3
  have u3 := hx3.cell U3.out
  have t3 := hx3.cell T3.out
  have HX3 := Lib.hid (HX.out.trans hx3)
  clear hx3
  go_wp2_with fail
  have U3' := Lib.hid u3
  have T3' := Lib.hid t3
  clear u3 t3
  go_loopw [5] (fun i wr => ∃ k : Nat, k ≤ n.kids.length ∧ i = .int .i64 k ∧ Ext w3 wr) (fun i _ => n.kids.length - (intOf i).toNat)
  case atStart => exact ⟨0, Nat.zero_le _, rfl, Ext.refl _⟩
  case round =>
    obtain ⟨k, hk, rfl, xr⟩ := hrel
    have u3 := xr.cell U3'.out
    have t3 := xr.cell T3'.out
    have XR := Lib.hid xr
    have XW := Lib.hid (HX3.out.trans xr)
    clear xr
    by_cases hkk : k < n.kids.length
    · obtain ⟨x, hx⟩ : ∃ x, n.kids[k]? = some x := ⟨n.kids[k], by simp [hkk]⟩
      cases ka with
      | none => exact absurd (HN.out rfl).1 (by omega)
      | some a =>
        cases ka' with
        | none => exact absurd (HN'.out rfl).1 (by omega)
        | some a' =>
          obtain ⟨b, off, sp⟩ := a
          obtain ⟨b', off', sp'⟩ := a'
          obtain ⟨c0, c1, c2, c3, q0, q1, q2, q3, hr⟩ := HK.out _ rfl k x hx
          obtain ⟨c0', c1', c2', c3', q0', q1', q2', q3', hr'⟩ := HK'.out _ rfl k x hx
          obtain ⟨y1, y2, en, hy1, hy2⟩ := hr.open
          obtain ⟨y1a, y1c, ey1, _⟩ := hy1.len_of
          obtain ⟨y2a, y2c, ey2, _⟩ := hy2
          subst ey1 ey2
          cases en
          obtain ⟨z1, z2, en', hz1, hz2⟩ := hr'.open
          obtain ⟨z1a, z1c, ez1, _⟩ := hz1.len_of
          obtain ⟨z2a, z2c, ez2, _⟩ := hz2
          subst ez1 ez2
          cases en'
          rw [add_later _ _ _ (by decide)] at q1 q2 q3 q1' q2' q3'
          have X := XW.out.cells
          have d0 := fun u : ExtOf wr => u.ext.cells _ _ (X _ _ q0)
          have d1 := fun u : ExtOf wr => u.ext.cells _ _ (X _ _ q1)
          have d2 := fun u : ExtOf wr => u.ext.cells _ _ (X _ _ q2)
          have d3 := fun u : ExtOf wr => u.ext.cells _ _ (X _ _ q3)
          have d0' := fun u : ExtOf wr => u.ext.cells _ _ (X _ _ q0')
          have d1' := fun u : ExtOf wr => u.ext.cells _ _ (X _ _ q1')
          have d2' := fun u : ExtOf wr => u.ext.cells _ _ (X _ _ q2')
          have d3' := fun u : ExtOf wr => u.ext.cells _ _ (X _ _ q3')
          have du := fun u : ExtOf wr => u.ext.cell u3
          have dt := fun u : ExtOf wr => u.ext.cell t3
          have CALL := Lib.hid (show ∀ u : ExtOf wr, Calls Try.prog 26 #[_, _] u.val (RBool true u.val) from fun u => IH.out x (List.mem_of_getElem? hx) (PN.fairs_mem HF.out (List.mem_of_getElem? hx)) u.val _ _ (hr.cells (XW.out.trans u.ext).cells) (hr'.cells (XW.out.trans u.ext).cells))
          clear q0 q1 q2 q3 q0' q1' q2' q3' X hr hr' hy1 hz1 hx
          go_upto_region 6 with fail
          refine wp_region_ext (by kernel_rfl) (by kernel_rfl) ?_
          repeat (go_big_quiet_step ((go_at_call 26; exact inExt (CALL.out _))))
          refine wpQuiet_nil ?_
          rintro _ ⟨u, rfl⟩
          clear d0 d1 d2 d3 d0' d1' d2' d3' du dt u3 t3
          go_wp2_with fail
          go_roundw
          case rel => exact ⟨k + 1, by omega, by go_num, XR.out.trans u.ext⟩
          case measure => simp [intOf]; omega
    · go_wp2_with fail
      go_ret
      exact ⟨rfl, XW.out⟩
end Go.Proofs.Ytiglflmjidikpaa
