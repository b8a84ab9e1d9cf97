/- The document's SameNode: are two plain trees the same? Conditions: at most 60000 attributes each. -/
import Derived.Test.YtdafdoodegpdhaaDoorPV
namespace Go.Proofs.YtdafdoodegpdhaaDoor
open Go Go.RowKit Go.BigFrame
set_option linter.unusedVariables false
set_option linter.unusedSimpArgs false

/-- are they the same? -/
noncomputable def same {α : Type} (x y : α) : Bool := @decide (x = y) (Classical.propDecidable _)
theorem same_iff {α : Type} {x y : α} : same x y = true ↔ x = y := by exact @decide_eq_true_iff _ (Classical.propDecidable _)
theorem same_no {α : Type} {x y : α} : same x y = false ↔ ¬ x = y := by exact @decide_eq_false_iff_not _ (Classical.propDecidable _)
theorem str_same (a b : ByteArray) : (a.toList == b.toList) = true ↔ a = b := by
  rw [beq_iff_eq, ByteArray.toList_eq, ByteArray.toList_eq]
  exact ⟨bytes_ext, fun e => by rw [e]⟩
theorem bcases (b : Bool) : b = true ∨ b = false := by cases b; exact .inr rfl; exact .inl rfl
set_option maxRecDepth 100000 in
set_option maxHeartbeats 2000000 in
theorem SameAttrs_any {w : World} {l m : List (ByteArray × ByteArray)} {v v' : Value} (hlen : l.length ≤ 60000) (hlen' : m.length ≤ 60000) (h : RowRd w 2 v l.length (attrCells l)) (h' : RowRd w 2 v' m.length (attrCells m)) :
    Calls Tryd.prog 36 #[v, v'] w (RBool (same l m) w) := by
  obtain ⟨_, ao, cap, rfl, hc, hno, hcl⟩ := h
  obtain ⟨_, ao', cap', rfl, hc', hno', hcl'⟩ := h'
  have HNO := Lib.hid hno
  have HNO' := Lib.hid hno'
  have HCL := Lib.hid hcl
  have HCL' := Lib.hid hcl'
  have x0 := Ext.refl w
  obtain ⟨r, hr⟩ : ∃ r, same l m = r := ⟨_, rfl⟩
  rw [hr]
  have HR := Lib.hid hr
  clear hno hno' hcl hcl' hr
  by_cases hll : l.length = m.length
  case neg =>
    have e1 : ((l.length : Int) == (m.length : Int)) = false := by simp; omega
    have hr0 : r = false := by rw [← HR.out, same_no]; rintro rfl; exact hll rfl
    subst hr0
    clear hll
    go_enter Tryd.func36, Tryd.ntmps36
    go_wp2_with fail
    go_ret
    exact ⟨rfl, x0⟩
  have HLL := Lib.hid hll
  rw [← hll]
  clear hll x0
  go_enter Tryd.func36, Tryd.ntmps36
  go_wp2_with fail
  go_loopw [5] (fun i wr => ∃ k : Nat, k ≤ l.length ∧ i = .int .i64 k ∧ Ext w wr ∧ ∀ j : Nat, j < k → l[j]? = m[j]?) (fun i _ => l.length - (intOf i).toNat)
  case atStart => exact ⟨0, Nat.zero_le _, rfl, Ext.refl _, fun j hj => absurd hj (Nat.not_lt_zero _)⟩
  case round =>
    obtain ⟨k, hk, rfl, xr, hpre⟩ := hrel
    have HP := Lib.hid hpre
    clear hpre
    by_cases hkk : k < l.length
    · obtain ⟨p, hp⟩ : ∃ p, l[k]? = some p := ⟨l[k], by simp [hkk]⟩
      obtain ⟨q, hq⟩ : ∃ q, m[k]? = some q := ⟨m[k]'(by have := HLL.out; omega), List.getElem?_eq_getElem _⟩
      obtain ⟨e1, e2⟩ := attrCells_at l k p hp
      obtain ⟨f1, f2⟩ := attrCells_at m k q hq
      cases ao with
      | none => exact absurd (HNO.out rfl).1 (by omega)
      | some a =>
        cases ao' with
        | none => exact absurd (HNO'.out rfl).1 (by have := HLL.out; omega)
        | some a' =>
          obtain ⟨b, off, sp⟩ := a
          obtain ⟨b', off', sp'⟩ := a'
          have q0 := HCL.out _ rfl _ _ e1
          have q1 := HCL.out _ rfl _ _ e2
          have q0' := HCL'.out _ rfl _ _ f1
          have q1' := HCL'.out _ rfl _ _ f2
          rw [add_later _ _ _ (by decide)] at q1 q1'
          have XR := Lib.hid xr
          have d0 := fun u : ExtOf wr => u.ext.cells _ _ (xr.cells _ _ q0)
          have d1 := fun u : ExtOf wr => u.ext.cells _ _ (xr.cells _ _ q1)
          have d0' := fun u : ExtOf wr => u.ext.cells _ _ (xr.cells _ _ q0')
          have d1' := fun u : ExtOf wr => u.ext.cells _ _ (xr.cells _ _ q1')
          have PQ := Lib.hid (And.intro hp hq)
          clear q0 q1 q0' q1' e1 e2 f1 f2 xr hp hq
          have good : (p.1.toList == q.1.toList) = true → (p.2.toList == q.2.toList) = true → ∀ j : Nat, j < k + 1 → l[j]? = m[j]? := by
            intro h1 h2 j hj
            rcases Nat.lt_or_ge j k with h3 | h3
            · exact HP.out j h3
            · obtain rfl : j = k := by omega
              rw [PQ.out.1, PQ.out.2, Prod.ext ((str_same _ _).1 h1) ((str_same _ _).1 h2)]
          have bad : (p.1.toList == q.1.toList) = false ∨ (p.2.toList == q.2.toList) = false → r = false := by
            intro h
            rw [← HR.out, same_no]
            rintro rfl
            have e := PQ.out.1.symm.trans PQ.out.2
            cases e
            rcases h with h | h
            · rw [(str_same _ _).2 rfl] at h; cases h
            · rw [(str_same _ _).2 rfl] at h; cases h
          have GOOD := Lib.hid good
          have BAD := Lib.hid bad
          clear good bad
          rcases bcases (p.1.toList == q.1.toList) with t1 | t1
          · rcases bcases (p.2.toList == q.2.toList) with t2 | t2
            · have GD := Lib.hid (GOOD.out t1 t2)
              go_upto_region 6 with fail
              refine wp_region_ext (by kernel_rfl) (by kernel_rfl) ?_
              repeat (go_big_quiet_step (fail))
              refine wpQuiet_nil ?_
              rintro _ ⟨u, rfl⟩
              clear d0 d1 d0' d1'
              go_wp2_with fail
              go_roundw
              case rel => exact ⟨k + 1, by omega, by go_num, XR.out.trans u.ext, GD.out⟩
              case measure => simp [intOf]; omega
            · have hr0 : r = false := BAD.out (.inr t2)
              subst hr0
              go_upto_region 6 with fail
              refine wp_region_ext (by kernel_rfl) (by kernel_rfl) ?_
              repeat (go_big_quiet_step (fail))
              refine wpQuiet_nil ?_
              rintro _ ⟨u, rfl⟩
              clear d0 d1 d0' d1'
              go_wp2_with fail
              go_ret
              exact ⟨rfl, XR.out.trans u.ext⟩
          · have hr0 : r = false := BAD.out (.inl t1)
            subst hr0
            go_upto_region 6 with fail
            refine wp_region_ext (by kernel_rfl) (by kernel_rfl) ?_
            repeat (go_big_quiet_step (fail))
            refine wpQuiet_nil ?_
            rintro _ ⟨u, rfl⟩
            clear d0 d1 d0' d1'
            go_wp2_with fail
            go_ret
            exact ⟨rfl, XR.out.trans u.ext⟩
    · have hr0 : r = true := by
        rw [← HR.out, same_iff]
        refine List.ext_getElem? fun j => ?_
        rcases Nat.lt_or_ge j k with h3 | h3
        · exact HP.out j h3
        · rw [List.getElem?_eq_none (by omega), List.getElem?_eq_none (by have := HLL.out; omega)]
      subst hr0
      go_wp2_with fail
      go_ret
      exact ⟨rfl, xr⟩
theorem PN.ext4 {n m : PN} (h1 : n.tag = m.tag) (h2 : n.attrs = m.attrs) (h3 : n.text = m.text) (h4 : n.kids = m.kids) : n = m := by
  cases n; cases m
  simp only [PN.tag, PN.attrs, PN.text, PN.kids] at h1 h2 h3 h4
  subst h1 h2 h3 h4
  rfl
set_option maxRecDepth 100000 in
set_option maxHeartbeats 4000000 in
theorem SameNode_any : ∀ (n : PN), n.fair = true → ∀ (m : PN), m.fair = true → ∀ (w : World) (v v' : Value), RdN w n v → RdN w m v' → Calls Tryd.prog 17 #[v, v'] w (RBool (same n m) w) := by
  refine PN.induct _ fun n ih hfair m hfair' w v v' h h' => ?_
  rw [PN.fair_eq] at hfair hfair'
  simp only [Bool.and_eq_true, decide_eq_true_eq] at hfair hfair'
  have hal := hfair.1
  have hal' := hfair'.1
  have HF := Lib.hid hfair.2
  have HF' := Lib.hid hfair'.2
  obtain ⟨r, hr⟩ : ∃ r, same n m = r := ⟨_, rfl⟩
  rw [hr]
  have HRS := Lib.hid hr
  clear hfair hfair' hr
  obtain ⟨av, kv, rfl, hA, hK⟩ := h.open
  obtain ⟨av', kv', rfl, hA', hK'⟩ := h'.open
  obtain ⟨aa, acap, rfl, _⟩ := hA.len_of
  obtain ⟨aa', acap', rfl, _⟩ := hA'.len_of
  obtain ⟨ka, kcap, rfl, hkc, hkm, hkn, hk⟩ := hK
  obtain ⟨ka', kcap', rfl, hkc', hkm', hkn', hk'⟩ := hK'
  have IH := Lib.hid ih
  have HA := Lib.hid hA
  have HA' := Lib.hid hA'
  have HN := Lib.hid hkn
  have HN' := Lib.hid hkn'
  have HK := Lib.hid hk
  have HK' := Lib.hid hk'
  unfold maxLen at hkm hkm'
  clear ih hA hA' hkn hkn' hk hk' h h'
  have bM := heap_alloc_new w (.cells #[.int .i64 n.tag, .slice aa n.attrs.length acap, .string n.text, .slice ka n.kids.length kcap] 25)
  have xm := (Ext.refl w).alloc (.cells #[.int .i64 n.tag, .slice aa n.attrs.length acap, .string n.text, .slice ka n.kids.length kcap] 25)
  go_enter Tryd.func17, Tryd.ntmps17
  go_upto_region 1 with fail
  obtain ⟨wm, hwm⟩ : ∃ wm : World, wm = w.alloc (.cells #[.int .i64 n.tag, .slice aa n.attrs.length acap, .string n.text, .slice ka n.kids.length kcap] 25) := ⟨_, rfl⟩
  have hsz : wm.heap.size = w.heap.size + 1 := by rw [hwm]; simp
  rw [← hwm] at bM xm ⊢
  clear hwm
  have bM2 := heap_alloc_new wm (.cells #[.int .i64 m.tag, .slice aa' m.attrs.length acap', .string m.text, .slice ka' m.kids.length kcap'] 25)
  have xm2 := (Ext.refl wm).alloc (.cells #[.int .i64 m.tag, .slice aa' m.attrs.length acap', .string m.text, .slice ka' m.kids.length kcap'] 25)
  obtain ⟨wn, hwn⟩ : ∃ wn : World, wn = wm.alloc (.cells #[.int .i64 m.tag, .slice aa' m.attrs.length acap', .string m.text, .slice ka' m.kids.length kcap'] 25) := ⟨_, rfl⟩
  rw [← hwn] at bM2 xm2 ⊢
  clear hwn
  have b1 := (xm2.block bM)
  rw [hsz] at bM2
  have u0 := cellOf b1 (i := 0) (v := .int .i64 n.tag) rfl
  have u1 := cellOf b1 (i := 1) (v := .slice aa n.attrs.length acap) rfl
  have u2 := cellOf b1 (i := 2) (v := .string n.text) rfl
  have u3 := cellOf b1 (i := 3) (v := .slice ka n.kids.length kcap) rfl
  have t0 := cellOf bM2 (i := 0) (v := .int .i64 m.tag) rfl
  have t1 := cellOf bM2 (i := 1) (v := .slice aa' m.attrs.length acap') rfl
  have t2 := cellOf bM2 (i := 2) (v := .string m.text) rfl
  have t3 := cellOf bM2 (i := 3) (v := .slice ka' m.kids.length kcap') rfl
  have HX := Lib.hid (xm.trans xm2)
  have U3 := Lib.hid u3
  have T3 := Lib.hid t3
  clear bM xm bM2 xm2 b1 hsz
  rcases bcases (n.tag == m.tag) with g1 | g1
  case inr =>
    have hr0 : r = false := by rw [← HRS.out, same_no]; rintro rfl; simp at g1
    subst hr0
    have G1 : (n.tag != m.tag) = true := by rw [bne, g1]; rfl
    go_wp2_with fail
    go_ret
    exact ⟨rfl, HX.out⟩
  have E1 := Lib.hid (show n.tag = m.tag by simpa using g1)
  have G1 : (n.tag != m.tag) = false := by rw [bne, g1]; rfl
  rcases bcases (n.text.toList == m.text.toList) with g2 | g2
  case inr =>
    have hr0 : r = false := by rw [← HRS.out, same_no]; rintro rfl; rw [(str_same _ _).2 rfl] at g2; cases g2
    subst hr0
    go_wp2_with fail
    go_ret
    exact ⟨rfl, HX.out⟩
  have E2 := Lib.hid ((str_same _ _).1 g2)
  have HSA := Lib.hid (SameAttrs_any hal hal' (HA.out.ext HX.out) (HA'.out.ext HX.out))
  rcases bcases (same n.attrs m.attrs) with g3 | g3
  case inr =>
    have hr0 : r = false := by rw [← HRS.out, same_no]; rintro rfl; exact same_no.1 g3 rfl
    subst hr0
    rw [g3] at HSA
    clear g3
    go_wp2_with fail
    refine HSA.out.mono ?_
    rintro e w3 ⟨rfl, hx3⟩
    have X3 := Lib.hid (HX.out.trans hx3)
    clear hx3 u0 u1 u2 u3 t0 t1 t2 t3
    go_wp2_with fail
    go_ret
    exact ⟨rfl, X3.out⟩
  have E3 := Lib.hid (same_iff.1 g3)
  rw [g3] at HSA
  clear g3
  by_cases hll : n.kids.length = m.kids.length
  case neg =>
    have g4 : ((n.kids.length : Int) == (m.kids.length : Int)) = false := by simp; omega
    have G4 : ((n.kids.length : Int) != (m.kids.length : Int)) = true := by rw [bne, g4]; rfl
    have hr0 : r = false := by rw [← HRS.out, same_no]; rintro rfl; exact hll rfl
    subst hr0
    clear hll
    go_wp2_with fail
    refine HSA.out.mono ?_
    rintro e w3 ⟨rfl, hx3⟩
    have X3 := Lib.hid (HX.out.trans hx3)
    have u3 := hx3.cell U3.out
    have t3 := hx3.cell T3.out
    clear hx3
    go_wp2_with fail
    go_ret
    exact ⟨rfl, X3.out⟩
  have HLL := Lib.hid hll
  rw [← hll] at t3 T3 ⊢
  clear hll
  go_wp2_with fail
  refine HSA.out.mono ?_
  rintro e w3 ⟨rfl, hx3⟩
  clear u0 u1 u2 u3 t0 t1 t2 t3
  have u3 := hx3.cell U3.out
  have t3 := hx3.cell T3.out
  have HX3 := Lib.hid (HX.out.trans hx3)
  clear hx3
  go_wp2_with fail
  have U3' := Lib.hid u3
  have T3' := Lib.hid t3
  clear u3 t3
  go_loopw [5] (fun i wr => ∃ k : Nat, k ≤ n.kids.length ∧ i = .int .i64 k ∧ Ext w3 wr ∧ ∀ j : Nat, j < k → n.kids[j]? = m.kids[j]?) (fun i _ => n.kids.length - (intOf i).toNat)
  case atStart => exact ⟨0, Nat.zero_le _, rfl, Ext.refl _, fun j hj => absurd hj (Nat.not_lt_zero _)⟩
  case round =>
    obtain ⟨k, hk, rfl, xr, hpre⟩ := hrel
    have u3 := xr.cell U3'.out
    have t3 := xr.cell T3'.out
    have XR := Lib.hid xr
    have XW := Lib.hid (HX3.out.trans xr)
    have HP := Lib.hid hpre
    clear xr hpre
    by_cases hkk : k < n.kids.length
    · obtain ⟨x, hx⟩ : ∃ x, n.kids[k]? = some x := ⟨n.kids[k], by simp [hkk]⟩
      obtain ⟨y, hy⟩ : ∃ y, m.kids[k]? = some y := ⟨_, List.getElem?_eq_getElem (show k < m.kids.length by have := HLL.out; omega)⟩
      cases ka with
      | none => exact absurd (HN.out rfl).1 (by omega)
      | some a =>
        cases ka' with
        | none => exact absurd (HN'.out rfl).1 (by have := HLL.out; omega)
        | some a' =>
          obtain ⟨b, off, sp⟩ := a
          obtain ⟨b', off', sp'⟩ := a'
          obtain ⟨c0, c1, c2, c3, q0, q1, q2, q3, hr⟩ := HK.out _ rfl k x hx
          obtain ⟨c0', c1', c2', c3', q0', q1', q2', q3', hr'⟩ := HK'.out _ rfl k y hy
          obtain ⟨y1, y2, y3, y4, en⟩ := hr.shape
          cases en
          obtain ⟨z1, z2, z3, z4, en'⟩ := hr'.shape
          cases en'
          rw [add_later _ _ _ (by decide)] at q1 q2 q3 q1' q2' q3'
          have X := XW.out.cells
          have d0 := fun u : ExtOf wr => u.ext.cells _ _ (X _ _ q0)
          have d1 := fun u : ExtOf wr => u.ext.cells _ _ (X _ _ q1)
          have d2 := fun u : ExtOf wr => u.ext.cells _ _ (X _ _ q2)
          have d3 := fun u : ExtOf wr => u.ext.cells _ _ (X _ _ q3)
          have d0' := fun u : ExtOf wr => u.ext.cells _ _ (X _ _ q0')
          have d1' := fun u : ExtOf wr => u.ext.cells _ _ (X _ _ q1')
          have d2' := fun u : ExtOf wr => u.ext.cells _ _ (X _ _ q2')
          have d3' := fun u : ExtOf wr => u.ext.cells _ _ (X _ _ q3')
          have du := fun u : ExtOf wr => u.ext.cell u3
          have dt := fun u : ExtOf wr => u.ext.cell t3
          have XY := Lib.hid (And.intro hx hy)
          obtain ⟨s, hs⟩ : ∃ s, same x y = s := ⟨_, rfl⟩
          have HS := Lib.hid hs
          have CALL := Lib.hid (show ∀ u : ExtOf wr, Calls Tryd.prog 17 #[_, _] u.val (RBool s u.val) from fun u => hs ▸ IH.out x (List.mem_of_getElem? hx) (PN.fairs_mem HF.out (List.mem_of_getElem? hx)) y (PN.fairs_mem HF'.out (List.mem_of_getElem? hy)) u.val _ _ (hr.cells (XW.out.trans u.ext).cells) (hr'.cells (XW.out.trans u.ext).cells))
          clear q0 q1 q2 q3 q0' q1' q2' q3' X hr hr' hx hy hs
          cases s with
          | true =>
            have GD : ∀ j : Nat, j < k + 1 → n.kids[j]? = m.kids[j]? := by
              intro j hj
              rcases Nat.lt_or_ge j k with h3 | h3
              · exact HP.out j h3
              · obtain rfl : j = k := by omega
                rw [XY.out.1, XY.out.2, same_iff.1 HS.out]
            have GDH := Lib.hid GD
            clear GD
            go_upto_region 6 with fail
            refine wp_region_ext (by kernel_rfl) (by kernel_rfl) ?_
            repeat (go_big_quiet_step ((go_at_call 17; exact inExt (CALL.out _))))
            refine wpQuiet_nil ?_
            rintro _ ⟨u, rfl⟩
            clear d0 d1 d2 d3 d0' d1' d2' d3' du dt u3 t3
            go_wp2_with fail
            go_roundw
            case rel => exact ⟨k + 1, by omega, by go_num, XR.out.trans u.ext, GDH.out⟩
            case measure => simp [intOf]; omega
          | false =>
            have hr0 : r = false := by
              rw [← HRS.out, same_no]
              rintro rfl
              have e := XY.out.1.symm.trans XY.out.2
              cases e
              exact same_no.1 HS.out rfl
            subst hr0
            go_upto_region 6 with fail
            refine wp_region_ext (by kernel_rfl) (by kernel_rfl) ?_
            repeat (go_big_quiet_step ((go_at_call 17; exact inExt (CALL.out _))))
            refine wpQuiet_nil ?_
            rintro _ ⟨u, rfl⟩
            clear d0 d1 d2 d3 d0' d1' d2' d3' du dt u3 t3
            go_wp2_with fail
            go_ret
            exact ⟨rfl, XW.out.trans u.ext⟩
    · have hr0 : r = true := by
        rw [← HRS.out, same_iff]
        refine PN.ext4 E1.out E3.out E2.out (List.ext_getElem? fun j => ?_)
        rcases Nat.lt_or_ge j k with h3 | h3
        · exact HP.out j h3
        · rw [List.getElem?_eq_none (by omega), List.getElem?_eq_none (by have := HLL.out; omega)]
      subst hr0
      go_wp2_with fail
      go_ret
      exact ⟨rfl, XW.out⟩
end Go.Proofs.YtdafdoodegpdhaaDoor
