/- quillworklaw08: ints; Tells: a tree and the document's tree that are one tree are told alike. Printed by wip/gen_lawe.py. -/
import Derived.Test.YtiglflmjidikpaaRefM
import Derived.Test.YtiglflmjidikpaaOrdG
namespace Go.Proofs.Ytiglflmjidikpaa
open Go Go.RowKit Go.BigFrame
set_option linter.unusedVariables false
set_option linter.unusedSimpArgs false

set_option maxHeartbeats 1000000 in
/-- two rows of ints -/
theorem Ints8_any {w : World} {v v' : Value} {p q : List Int} (h : RowRd w 1 v p.length (p.map (Value.int .i64))) (h' : RowRd w 1 v' q.length (q.map (Value.int .i64))) (hp : p.length ≤ 60000) (hq : q.length ≤ 60000) :
    Calls Try.prog 107 #[v, v'] w (RVal (.bool (decide (p = q))) w) := by
  obtain ⟨_, ao, cap, rfl, hc, hn, hr⟩ := h
  obtain ⟨_, ao', cap', rfl, hc', hn', hr'⟩ := h'
  have HN := Lib.hid hn
  have HR := Lib.hid hr
  have HN' := Lib.hid hn'
  have HR' := Lib.hid hr'
  clear hn hr hn' hr'
  obtain ⟨z, hz⟩ : ∃ z, decide (p = q) = z := ⟨_, rfl⟩
  rw [hz]
  have HZ := Lib.hid hz
  clear hz
  cases hl : (p.length == q.length) with
  | false =>
    have hl' : ¬ p.length = q.length := by simpa using hl
    have : z = false := by rw [← HZ.out]; exact decide_eq_false fun e => hl' (by rw [e])
    subst this
    go_enter Try.func107, Try.ntmps107
    go_wp2_with fail
    go_ret
    exact ⟨rfl, Ext.refl _⟩
  | true =>
    have hl' : p.length = q.length := by simpa using hl
    have HLL := Lib.hid hl'
    rw [← hl'] at hc' hq ⊢
    clear hl hl'
    go_enter Try.func107, Try.ntmps107
    go_wp2_with fail
    go_loopw [5] (fun i wr => ∃ k : Nat, Ext w wr ∧ k ≤ p.length ∧ i = .int .i64 k ∧ Hid (p.take k = q.take k)) (fun i _ => p.length - (intOf i).toNat)
    case atStart => exact ⟨0, Ext.refl _, Nat.zero_le _, rfl, Lib.hid rfl⟩
    case round =>
      obtain ⟨k, hx0, hk, rfl, he⟩ := hrel
      by_cases hlt : k < p.length
      · have hlt' : k < q.length := by rw [← HLL.out]; exact hlt
        obtain ⟨x, hx⟩ : ∃ x, p[k]? = some x := ⟨p[k], by simp [hlt]⟩
        obtain ⟨y, hy⟩ : ∃ y, q[k]? = some y := ⟨q[k], by simp [hlt']⟩
        cases ao with
        | none => exact absurd (HN.out rfl).1 (by omega)
        | some a =>
          obtain ⟨b, off, sp⟩ := a
          have c0 := hx0.cells _ _ (HR.out _ rfl k (.int .i64 x) (by rw [List.getElem?_map, hx]; rfl))
          cases ao' with
          | none => exact absurd (HN'.out rfl).1 (by omega)
          | some a' =>
            obtain ⟨b', off', sp'⟩ := a'
            have c1 := hx0.cells _ _ (HR'.out _ rfl k (.int .i64 y) (by rw [List.getElem?_map, hy]; rfl))
            have c0' := fun u : ExtOf wr => u.ext.cells _ _ c0
            have c1' := fun u : ExtOf wr => u.ext.cells _ _ c1
            have HX := Lib.hid hx
            have HY := Lib.hid hy
            clear hx hy hlt'
            cases hxy : (x == y) with
            | true =>
              have HXY := Lib.hid (show x = y by simpa using hxy)
              go_upto_region 6 with fail
              refine wp_region_ext (by kernel_rfl) (by kernel_rfl) ?_
              repeat (go_big_quiet_step (fail))
              refine wpQuiet_nil ?_
              rintro _ ⟨u, rfl⟩
              clear c0' c1'
              go_wp2_with fail
              go_roundw
              case rel =>
                refine ⟨k + 1, hx0.trans u.ext, by omega, by go_num, Lib.hid ?_⟩
                have hlt'' : k < q.length := by rw [← HLL.out]; exact hlt
                obtain ⟨_, e1⟩ := List.getElem?_eq_some_iff.1 HX.out
                obtain ⟨_, e2⟩ := List.getElem?_eq_some_iff.1 HY.out
                rw [List.take_succ_eq_append_getElem hlt, List.take_succ_eq_append_getElem hlt'', he.out, e1, e2, HXY.out]
              case measure => simp [intOf]; omega
            | false =>
              have HXY := Lib.hid (show ¬ x = y by simpa using hxy)
              have : z = false := by
                rw [← HZ.out]
                refine decide_eq_false fun e => HXY.out ?_
                have h1 := HX.out
                rw [e, HY.out] at h1
                injection h1 with h1
                exact h1.symm
              subst this
              go_upto_region 6 with fail
              refine wp_region_ext (by kernel_rfl) (by kernel_rfl) ?_
              repeat (go_big_quiet_step (fail))
              refine wpQuiet_nil ?_
              rintro _ ⟨u, rfl⟩
              clear c0' c1'
              go_wp2_with fail
              go_ret
              exact ⟨rfl, hx0.trans u.ext⟩
      · obtain rfl : k = p.length := by omega
        have : z = true := by
          rw [← HZ.out]
          refine decide_eq_true ?_
          have h1 := he.out
          rw [List.take_length, HLL.out, List.take_length] at h1
          exact h1
        subst this
        go_wp2_with fail
        go_ret
        exact ⟨rfl, hx0⟩
set_option maxHeartbeats 1000000 in
theorem Height_none {w : World} {own : Ow} {ptr : Nat → Nat} {tb : Nat} {T : Tr} (hT : TreeAt w own ptr tb T) {id : Int} (h : T.get? id = none) :
    Calls Try.prog 50 #[.pointer (some ⟨tb, 0, none⟩), .int .i64 id] w (RSame (.int .i64 (-1)) w) := by
  have H := Lib.hid h
  clear h
  go_enter Try.func50, Try.ntmps50
  go_wp2_with (go_at_call 80; refine (get_none hT H.out).mono ?_; rintro e w' ⟨rfl, rfl⟩)
  go_ret
  exact ⟨rfl, rfl⟩
theorem live_of_root {T : Tr} {d : Nat → Nat} (hw : WF T d) {id : Int} {nd : Nd} (hg : T.get? id = some nd) : T.live id = decide (T.rootOf id = 0) := by
  obtain ⟨rd, h0, hu, hr, hp⟩ := hw.root0
  by_cases h : T.rootOf id = 0
  · rw [decide_eq_true h]
    have := (hw.win_iff h0 id ⟨nd, hg⟩).2 ⟨T.pathOf id, by rw [hp]; rfl, by rw [h, hr]⟩
    unfold Tr.live
    rw [hg]
    rw [hw.win_within id ⟨nd, hg⟩] at this
    exact this
  · rw [decide_eq_false h]
    cases hl : T.live id with
    | false => rfl
    | true => exact absurd (hw.live_root hl) h
theorem at_depth8 {w : World} {tb : Nat} {T : Tr} (h : TAt w tb T) {d : Nat → Nat} (hw : WF T d) {i : Nat} {nd : Nd} (hi : T.nodes[i]? = some (some nd)) : Calls Try.prog 36 #[.pointer (some ⟨tb, 0, none⟩), .int .i64 i] w (RVal (.int .i64 (T.pathOf i).length) w) := by
  obtain ⟨own, ptr, hT, hO⟩ := h.out
  have e := hw.path_rank i ⟨nd, Tr.get_of hi⟩
  unfold Tr.rank at e
  rw [Tr.get_of hi] at e
  simp at e
  rw [e]
  exact RSame.val (Depth_some hT hw hi)
theorem at_height {w : World} {tb : Nat} {T : Tr} (h : TAt w tb T) {d : Nat → Nat} (hw : WF T d) {i : Nat} {nd : Nd} (hi : T.nodes[i]? = some (some nd)) : Calls Try.prog 50 #[.pointer (some ⟨tb, 0, none⟩), .int .i64 i] w (RVal (.int .i64 (T.height i)) w) := by
  obtain ⟨own, ptr, hT, hO⟩ := h.out
  exact RSame.val (Height_fuel hT hw 50 i nd hi (by omega) (by omega))
theorem rNone {T : Tr} {x : Int} (h : T.get? x = none) : T.up x = -1 ∧ T.idx x = -1 ∧ T.live x = false := by
  unfold Tr.up Tr.idx Tr.live
  rw [h]
  exact ⟨rfl, rfl, rfl⟩
set_option maxRecDepth 100000 in
set_option maxHeartbeats 4000000 in
theorem Tells_ok {w : World} {tb rb : Nat} {T : Tr} (hT : TAt w tb T) (hR : RAt w rb T) {d : Nat → Nat} (hw : WF T d) (hA : AttrsOk T) :
    Calls Try.prog 43 #[.pointer (some ⟨tb, 0, none⟩), .pointer (some ⟨rb, 0, none⟩)] w (RVal (.bool true) w) := by
  obtain ⟨g0, cap0, s2, hcap0, s0, s1⟩ := hR.slice
  have hlen := hw.small.len
  have hc0 := hw.small.count0
  have HT := Lib.hid hT
  have HR := Lib.hid hR
  have HW := Lib.hid hw
  have HA := Lib.hid hA
  have CT := Lib.hid (show Calls Try.prog 19 #[.pointer (some ⟨tb, 0, none⟩)] w (RSame (.int .i64 T.count) w) by obtain ⟨own, ptr, h, hO⟩ := hT.out; exact Count_any h)
  have CR := Lib.hid (rCount hR hw)
  have RM := Lib.hid (show Calls Try.prog 45 #[.pointer (some ⟨tb, 0, none⟩)] w (RTwo (.int .i64 T.cap) (.int .i64 T.deep) w) by obtain ⟨own, ptr, h, hO⟩ := hT.out; exact Room_any h)
  clear hT hR hw hA
  go_enter Try.func43, Try.ntmps43
  go_wp2_with (first | (go_at_call 19; refine CT.out.mono ?_; rintro e w' ⟨rfl, rfl⟩) | (go_at_call 104; refine CR.out.mono ?_; rintro e w' ⟨rfl, rfl⟩) | (go_at_call 45; refine RM.out.mono ?_; rintro e w1 ⟨rfl, hx⟩; replace s2 := hx.cell s2; replace s0 := hx.cell s0; replace s1 := hx.cell s1; have HX := Lib.hid hx; clear hx))
  go_loopw [7, 8, 9, 10, 11] (fun x _ _ _ _ wr => ∃ i : Int, x = .int .i64 i ∧ -1 ≤ i ∧ i ≤ T.nodes.length + 1 ∧ Ext w wr) (fun x _ _ _ _ _ => (T.nodes.length + 2 - intOf x).toNat)
  case atStart => exact ⟨-1, rfl, by omega, by omega, HX.out⟩
  case round =>
    obtain ⟨x, rfl, hx0, hx1, hxr⟩ := hrel
    have HXR := Lib.hid hxr
    obtain ⟨g1, cap1, c2, hcap1, c0, c1⟩ := (HR.out.ext hxr).slice
    clear hxr s2 s0 s1
    by_cases hlt : x ≤ T.nodes.length
    · have XZ := (Ext.refl wr).alloc (.cells #[.int .i64 0, .int .i64 0, .int .i64 0, .slice none 0 0, .string ⟨#[]⟩, .slice none 0 0] 132)
      cases hg : T.get? x with
      | none =>
        have HG := Lib.hid hg
        obtain ⟨hup, hidx, hlv⟩ := rNone hg
        have B := fun (u : World) (y : Ext w u) => HT.out.ext y
        have BR := fun (u : World) (y : Ext w u) => HR.out.ext y
        have K1 := Lib.hid (fun (u : World) (y : Ext w u) => show Calls Try.prog 27 #[.pointer (some ⟨tb, 0, none⟩), .int .i64 x] u (RVal (.bool false) u) by have h := at_has (B u y) x; rw [hg] at h; exact h)
        have K2 := Lib.hid (fun (u : World) (y : Ext w u) => RSame.val (rHas_no (BR u y) hg))
        have K3 := Lib.hid (fun (u : World) (y : Ext w u) => show Calls Try.prog 46 #[.pointer (some ⟨tb, 0, none⟩), .int .i64 x] u (RVal (.int .i64 (-1)) u) by have h := at_tag (B u y) x; unfold Tr.tagOf at h; rw [hg] at h; exact h)
        have K4 := Lib.hid (fun (u : World) (y : Ext w u) => show Calls Try.prog 34 #[.pointer (some ⟨tb, 0, none⟩), .int .i64 x] u (RVal (.int .i64 (-1)) u) by have h := at_up (B u y) x; rw [hup] at h; exact h)
        have K5 := Lib.hid (fun (u : World) (y : Ext w u) => show Calls Try.prog 48 #[.pointer (some ⟨tb, 0, none⟩), .int .i64 x] u (RVal (.string ⟨#[]⟩) u) by have h := at_told (B u y) x; unfold Tr.txt at h; rw [hg] at h; exact h)
        have K6 := Lib.hid (fun (u : World) (y : Ext w u) => show Calls Try.prog 47 #[.pointer (some ⟨tb, 0, none⟩), .int .i64 x] u (RVal (.slice none 0 0) u) by obtain ⟨own, ptr, h, _⟩ := (B u y).out; exact Attrs_none h hg)
        have K7 := Lib.hid (fun (u : World) (y : Ext w u) => show Calls Try.prog 49 #[.pointer (some ⟨tb, 0, none⟩), .int .i64 x] u (RVal (.slice none 0 0) u) by obtain ⟨own, ptr, h, _⟩ := (B u y).out; exact Kids_none h hg)
        have K8 := Lib.hid (fun (u : World) => SameAttrs_none u)
        have K9 := Lib.hid (fun (u : World) => show Calls Try.prog 107 #[.slice none 0 0, .slice none 0 0] u (RVal (.bool true) u) from Ints8_any (p := []) (q := []) (nil_row u) (nil_row u) (by simp) (by simp))
        have I1 := Lib.hid (fun (u : World) (y : Ext w u) => show Calls Try.prog 35 #[.pointer (some ⟨tb, 0, none⟩), .int .i64 x] u (RVal (.int .i64 (-1)) u) by have h := at_idx (B u y) HW.out x; rw [hidx] at h; exact h)
        have I2 := Lib.hid (fun (u : World) (y : Ext w u) => rIndex_no (BR u y) hg)
        have I3 := Lib.hid (fun (u : World) (y : Ext w u) => show Calls Try.prog 36 #[.pointer (some ⟨tb, 0, none⟩), .int .i64 x] u (RSame (.int .i64 (-1)) u) by obtain ⟨own, ptr, h, _⟩ := (B u y).out; exact Depth_none h hg)
        have I4 := Lib.hid (fun (u : World) (y : Ext w u) => rDepth_no (BR u y) hg)
        have I5 := Lib.hid (fun (u : World) (y : Ext w u) => show Calls Try.prog 50 #[.pointer (some ⟨tb, 0, none⟩), .int .i64 x] u (RSame (.int .i64 (-1)) u) by obtain ⟨own, ptr, h, _⟩ := (B u y).out; exact Height_none h hg)
        have I6 := Lib.hid (fun (u : World) (y : Ext w u) => rHeight_no (BR u y) hg)
        have I7 := Lib.hid (fun (u : World) (y : Ext w u) => show Calls Try.prog 28 #[.pointer (some ⟨tb, 0, none⟩), .int .i64 x] u (RVal (.bool false) u) by have h := at_live (B u y) HW.out x; rw [hlv] at h; exact h)
        have bz := heap_alloc_new wr (.cells #[.int .i64 0, .int .i64 0, .int .i64 0, .slice none 0 0, .string ⟨#[]⟩, .slice none 0 0] 132)
        have XZW := Lib.hid (HXR.out.trans XZ)
        clear hg hup hidx hlv B BR
        go_upto_region 16 with (go_at_call 105; refine (rHas_no (HR.out.ext XZW.out) HG.out).mono ?_; rintro e w' ⟨rfl, rfl⟩)
        obtain ⟨wz, hwz⟩ : ∃ wz : World, wz = wr.alloc (.cells #[.int .i64 0, .int .i64 0, .int .i64 0, .slice none 0 0, .string ⟨#[]⟩, .slice none 0 0] 132) := ⟨_, rfl⟩
        rw [← hwz] at bz XZW ⊢
        clear hwz XZ
        have e3 := fun u : ExtOf wz => u.ext.cell (cellOf bz (i := 3) (v := .slice none 0 0) rfl)
        have e4 := fun u : ExtOf wz => u.ext.cell (cellOf bz (i := 4) (v := .string ⟨#[]⟩) rfl)
        have e5 := fun u : ExtOf wz => u.ext.cell (cellOf bz (i := 5) (v := .slice none 0 0) rfl)
        refine wp_region_ext (by kernel_rfl) (by kernel_rfl) ?_
        repeat (go_big_quiet_step (first | (go_at_call 27; exact inExt (K1.out _ (XZW.out.trans (ExtOf.ext _)))) | (go_at_call 105; exact inExt (K2.out _ (XZW.out.trans (ExtOf.ext _)))) | (go_at_call 46; exact inExt (K3.out _ (XZW.out.trans (ExtOf.ext _)))) | (go_at_call 34; exact inExt (K4.out _ (XZW.out.trans (ExtOf.ext _)))) | (go_at_call 48; exact inExt (K5.out _ (XZW.out.trans (ExtOf.ext _)))) | (go_at_call 47; exact inExt (K6.out _ (XZW.out.trans (ExtOf.ext _)))) | (go_at_call 49; exact inExt (K7.out _ (XZW.out.trans (ExtOf.ext _)))) | (go_at_call 89; exact inExt (K8.out _)) | (go_at_call 107; exact inExt (K9.out _))))
        refine wpQuiet_nil ?_
        rintro _ ⟨u, rfl⟩
        clear e3 e4 e5 bz
        have HU := Lib.hid (XZW.out.trans u.ext)
        go_wp2_with (first | (go_at_call 35; refine (I1.out _ HU.out).mono ?_; rintro e v1 ⟨rfl, hv⟩; have HU1 := Lib.hid (HU.out.trans hv); clear hv) | (go_at_call 108; refine (I2.out _ HU1.out).mono ?_; rintro e v2 ⟨rfl, hv⟩; have HU2 := Lib.hid (HU1.out.trans hv); clear hv) | (go_at_call 36; refine (I3.out _ HU2.out).mono ?_; rintro e w' ⟨rfl, rfl⟩) | (go_at_call 109; refine (I4.out _ HU2.out).mono ?_; rintro e w' ⟨rfl, rfl⟩) | (go_at_call 50; refine (I5.out _ HU2.out).mono ?_; rintro e w' ⟨rfl, rfl⟩) | (go_at_call 110; refine (I6.out _ HU2.out).mono ?_; rintro e w' ⟨rfl, rfl⟩) | (go_at_call 28; refine (I7.out _ HU2.out).mono ?_; rintro e v3 ⟨rfl, hv⟩; have HU3 := Lib.hid (HU2.out.trans hv); clear hv))
        go_roundw
        case rel => exact ⟨x + 1, by go_num, by omega, by omega, HU3.out⟩
        case measure => simp [intOf]; omega
      | some nd =>
        obtain ⟨i, rfl, hi, hil⟩ := nodes_some hg
        have HG := Lib.hid hg
        have HI := Lib.hid hi
        obtain ⟨g, cap, aa, ac, ka, kc, c, n0, n1, n2, n3, n4, n5, hav, hkv⟩ := (HR.out.ext HXR.out).one hi
        have ngz : g ≠ wr.heap.size := Nat.ne_of_lt (cell_lt n0)
        have ngz' := Ne.symm ngz
        replace c := XZ.cell c
        replace n0 : (wr.alloc (.cells #[.int .i64 0, .int .i64 0, .int .i64 0, .slice none 0 0, .string ⟨#[]⟩, .slice none 0 0] 132)).cell? ⟨g, i * 6, none⟩ = some (.int .i64 1) := XZ.cell n0
        replace n1 : (wr.alloc (.cells #[.int .i64 0, .int .i64 0, .int .i64 0, .slice none 0 0, .string ⟨#[]⟩, .slice none 0 0] 132)).cell? ⟨g, i * 6 + 1, none⟩ = some (.int .i64 nd.tag) := XZ.cell n1
        replace n2 : (wr.alloc (.cells #[.int .i64 0, .int .i64 0, .int .i64 0, .slice none 0 0, .string ⟨#[]⟩, .slice none 0 0] 132)).cell? ⟨g, i * 6 + 2, none⟩ = some (.int .i64 nd.parent) := XZ.cell n2
        replace n3 : (wr.alloc (.cells #[.int .i64 0, .int .i64 0, .int .i64 0, .slice none 0 0, .string ⟨#[]⟩, .slice none 0 0] 132)).cell? ⟨g, i * 6 + 3, none⟩ = some (.slice aa nd.attrs.length ac) := XZ.cell n3
        replace n4 : (wr.alloc (.cells #[.int .i64 0, .int .i64 0, .int .i64 0, .slice none 0 0, .string ⟨#[]⟩, .slice none 0 0] 132)).cell? ⟨g, i * 6 + 4, none⟩ = some (.string nd.text) := XZ.cell n4
        replace n5 : (wr.alloc (.cells #[.int .i64 0, .int .i64 0, .int .i64 0, .slice none 0 0, .string ⟨#[]⟩, .slice none 0 0] 132)).cell? ⟨g, i * 6 + 5, none⟩ = some (.slice ka nd.kids.length kc) := XZ.cell n5
        have HAV := Lib.hid (show RowRd wr 2 (.slice aa nd.attrs.length ac) nd.attrs.length (attrCells nd.attrs) from hav)
        have HKV := Lib.hid (show RowRd wr 1 (.slice ka nd.kids.length kc) nd.kids.length (nd.kids.map (Value.int .i64)) from hkv)
        have XZW := Lib.hid (HXR.out.trans XZ)
        have bz := heap_alloc_new wr (.cells #[.int .i64 0, .int .i64 0, .int .i64 0, .slice none 0 0, .string ⟨#[]⟩, .slice none 0 0] 132)
        have z0 := cellOf bz (i := 0) (v := .int .i64 0) rfl
        have z1 := cellOf bz (i := 1) (v := .int .i64 0) rfl
        have z2 := cellOf bz (i := 2) (v := .int .i64 0) rfl
        have z3 := cellOf bz (i := 3) (v := .slice none 0 0) rfl
        have z4 := cellOf bz (i := 4) (v := .string ⟨#[]⟩) rfl
        have z5 := cellOf bz (i := 5) (v := .slice none 0 0) rfl
        have fz0 := freeOf bz 0
        have fz1 := freeOf bz 1
        have fz2 := freeOf bz 2
        have fz3 := freeOf bz 3
        have fz4 := freeOf bz 4
        have fz5 := freeOf bz 5
        clear hg hi hav hkv
        obtain ⟨r, hr⟩ : ∃ r, T.rootOf (i : Int) = r := ⟨_, rfl⟩
        obtain ⟨lv, hlv⟩ : ∃ lv, T.live (i : Int) = lv := ⟨_, rfl⟩
        have hrb : (r == 0) = lv := by
          have := live_of_root HW.out HG.out
          rw [hlv, hr] at this
          rw [this]
          by_cases h : r = 0
          · rw [h]; rfl
          · simp [h]
        have K1 := Lib.hid (fun (u : World) (y : Ext w u) => show Calls Try.prog 27 #[.pointer (some ⟨tb, 0, none⟩), .int .i64 i] u (RVal (.bool true) u) by have h := at_has (HT.out.ext y) (i : Int); rw [HG.out] at h; exact h)
        have K2 := Lib.hid (fun (u : World) (y : Ext w u) => RSame.val (rHas_yes (HR.out.ext y) HG.out))
        have K3 := Lib.hid (fun (u : World) (y : Ext w u) => show Calls Try.prog 46 #[.pointer (some ⟨tb, 0, none⟩), .int .i64 i] u (RVal (.int .i64 nd.tag) u) by have h := at_tag (HT.out.ext y) (i : Int); unfold Tr.tagOf at h; rw [HG.out] at h; exact h)
        have K4 := Lib.hid (fun (u : World) (y : Ext w u) => show Calls Try.prog 34 #[.pointer (some ⟨tb, 0, none⟩), .int .i64 i] u (RVal (.int .i64 nd.parent) u) by have h := at_up (HT.out.ext y) (i : Int); rw [Tr.up_some HG.out] at h; exact h)
        have K5 := Lib.hid (fun (u : World) (y : Ext w u) => show Calls Try.prog 48 #[.pointer (some ⟨tb, 0, none⟩), .int .i64 i] u (RVal (.string nd.text) u) by have h := at_told (HT.out.ext y) (i : Int); unfold Tr.txt at h; rw [HG.out] at h; exact h)
        have hal : nd.attrs.length ≤ 60000 := (HA.out i nd HI.out).1
        have hkl : nd.kids.length ≤ 2000 := HW.out.kids_len HI.out
        have K6 := Lib.hid (fun (u : World) (y : Ext w u) => show Calls Try.prog 47 #[.pointer (some ⟨tb, 0, none⟩), .int .i64 i] u (RRow 44 2 nd.attrs.length (attrCells nd.attrs) u) by obtain ⟨own, ptr, h, _⟩ := (HT.out.ext y).out; exact Attrs_some h HG.out hal)
        have K7 := Lib.hid (fun (u : World) (y : Ext w u) => show Calls Try.prog 49 #[.pointer (some ⟨tb, 0, none⟩), .int .i64 i] u (RRow 3 1 nd.kids.length (nd.kids.map (Value.int .i64)) u) by obtain ⟨own, ptr, h, _⟩ := (HT.out.ext y).out; exact Kids_some h HG.out (by omega))
        have K8 := Lib.hid (fun (u : World) (v v' : Value) (h : RowRd u 2 v nd.attrs.length (attrCells nd.attrs)) (h' : RowRd u 2 v' nd.attrs.length (attrCells nd.attrs)) => SameAttrs_eq hal h h')
        have K9 := Lib.hid (fun (u : World) (v v' : Value) (h : RowRd u 1 v nd.kids.length (nd.kids.map (Value.int .i64))) (h' : RowRd u 1 v' nd.kids.length (nd.kids.map (Value.int .i64))) => show Calls Try.prog 107 #[v, v'] u (RVal (.bool true) u) by have q := Ints8_any h h' (by omega) (by omega); rw [decide_eq_true rfl] at q; exact q)
        have I1 := Lib.hid (fun (u : World) (y : Ext w u) => at_idx (HT.out.ext y) HW.out (i : Int))
        have I2 := Lib.hid (fun (u : World) (y : Ext w u) => rIndex (HR.out.ext y) HW.out (i : Int))
        have I3 := Lib.hid (fun (u : World) (y : Ext w u) => at_depth8 (HT.out.ext y) HW.out HI.out)
        have I4 := Lib.hid (fun (u : World) (y : Ext w u) => rDepth (HR.out.ext y) HW.out HG.out)
        have I5 := Lib.hid (fun (u : World) (y : Ext w u) => at_height (HT.out.ext y) HW.out HI.out)
        have I6 := Lib.hid (fun (u : World) (y : Ext w u) => rHeight (HR.out.ext y) HW.out (i : Int) nd HG.out)
        have I7 := Lib.hid (fun (u : World) (y : Ext w u) => show Calls Try.prog 28 #[.pointer (some ⟨tb, 0, none⟩), .int .i64 i] u (RVal (.bool lv) u) by have h := at_live (HT.out.ext y) HW.out (i : Int); rw [hlv] at h; exact h)
        have RT := Lib.hid (fun (u : World) (y : Ext w u) => show Calls Try.prog 106 #[.pointer (some ⟨rb, 0, none⟩), .int .i64 i] u (RSame (.int .i64 r) u) by have h := rRoot (HR.out.ext y) HW.out HG.out; rw [hr] at h; exact h)
        clear hr hlv
        go_upto_region 14 with (go_at_call 105; refine (rHas_yes (HR.out.ext XZW.out) HG.out).mono ?_; rintro e w' ⟨rfl, rfl⟩)
        have xz := (Ext.refl wr).alloc (.cells #[.int .i64 1, .int .i64 nd.tag, .int .i64 nd.parent, .slice aa nd.attrs.length ac, .string nd.text, .slice ka nd.kids.length kc] 132)
        have bz := heap_alloc_new wr (.cells #[.int .i64 1, .int .i64 nd.tag, .int .i64 nd.parent, .slice aa nd.attrs.length ac, .string nd.text, .slice ka nd.kids.length kc] 132)
        obtain ⟨wz, hwz⟩ : ∃ wz : World, wz = wr.alloc (.cells #[.int .i64 1, .int .i64 nd.tag, .int .i64 nd.parent, .slice aa nd.attrs.length ac, .string nd.text, .slice ka nd.kids.length kc] 132) := ⟨_, rfl⟩
        rw [← hwz] at bz xz
        rw [← hwz]
        clear hwz XZ XZW c n0 n1 n2 n3 n4 n5
        have q1 := cellOf bz (i := 1) (v := .int .i64 nd.tag) rfl
        have q2 := cellOf bz (i := 2) (v := .int .i64 nd.parent) rfl
        have q3 := cellOf bz (i := 3) (v := .slice aa nd.attrs.length ac) rfl
        have q4 := cellOf bz (i := 4) (v := .string nd.text) rfl
        have q5 := cellOf bz (i := 5) (v := .slice ka nd.kids.length kc) rfl
        have e1 := fun u : ExtOf wz => u.ext.cell q1
        have e2 := fun u : ExtOf wz => u.ext.cell q2
        have HAZ := Lib.hid (HAV.out.ext xz)
        have HKZ := Lib.hid (HKV.out.ext xz)
        have XW := Lib.hid (HXR.out.trans xz)
        clear xz bz
        refine wp_region_ext (by kernel_rfl) (by kernel_rfl) ?_
        repeat (go_big_quiet_step (fail))
        refine wpQuiet_nil ?_
        rintro _ ⟨y, rfl⟩
        clear e1 e2 q1 q2
        have y3 := y.ext.cell q3
        have y4 := y.ext.cell q4
        have y5 := y.ext.cell q5
        have YA := Lib.hid (HAZ.out.ext y.ext)
        have YK := Lib.hid (HKZ.out.ext y.ext)
        have YW := Lib.hid (XW.out.trans y.ext)
        obtain ⟨wy, hwy⟩ : ∃ wy : World, wy = y.val := ⟨_, rfl⟩
        rw [← hwy] at y3 y4 y5 YA YK YW ⊢
        clear hwy q3 q4 q5
        go_upto_region 16 with (go_at_call 106; refine (RT.out _ YW.out).mono ?_; rintro e w' ⟨rfl, rfl⟩)
        go_region_held3 (fun w' => w'.cell? ⟨wr.heap.size, 3, none⟩ = some (.slice aa nd.attrs.length ac) ∧ w'.cell? ⟨wr.heap.size, 4, none⟩ = some (.string nd.text) ∧ w'.cell? ⟨wr.heap.size, 5, none⟩ = some (.slice ka nd.kids.length kc))
          (first | exact ⟨y3, y4, y5⟩ | exact hkeep | go_keep)
          (first
          | (go_at_call 27; refine (K1.out _ (YW.out.trans (Ext.refl wy).drew)).mono ?_; rintro e u1 ⟨rfl, hy⟩; have X1 := Lib.hid ((Ext.refl wy).drew.trans hy); clear hy; have hkeep := (show _ ∧ _ ∧ _ from ⟨X1.out.cell y3, X1.out.cell y4, X1.out.cell y5⟩))
          | (go_at_call 105; refine (K2.out _ (YW.out.trans X1.out)).mono ?_; rintro e u2 ⟨rfl, hy⟩; have X2 := Lib.hid (X1.out.trans hy); clear hy; have hkeep := (show _ ∧ _ ∧ _ from ⟨X2.out.cell y3, X2.out.cell y4, X2.out.cell y5⟩))
          | (go_at_call 46; refine (K3.out _ (YW.out.trans X2.out)).mono ?_; rintro e u3 ⟨rfl, hy⟩; have X3 := Lib.hid (X2.out.trans hy); clear hy; have hkeep := (show _ ∧ _ ∧ _ from ⟨X3.out.cell y3, X3.out.cell y4, X3.out.cell y5⟩))
          | (go_at_call 34; refine (K4.out _ (YW.out.trans X3.out)).mono ?_; rintro e u4 ⟨rfl, hy⟩; have X4 := Lib.hid (X3.out.trans hy); clear hy; have hkeep := (show _ ∧ _ ∧ _ from ⟨X4.out.cell y3, X4.out.cell y4, X4.out.cell y5⟩))
          | (go_at_call 48; refine (K5.out _ (YW.out.trans X4.out)).mono ?_; rintro e u5 ⟨rfl, hy⟩; have X5 := Lib.hid (X4.out.trans hy); clear hy; have hkeep := (show _ ∧ _ ∧ _ from ⟨X5.out.cell y3, X5.out.cell y4, X5.out.cell y5⟩))
          | (go_at_call 47; refine (K6.out _ (YW.out.trans X5.out)).mono ?_; rintro e u6 ⟨va, rfl, hra, hy⟩; obtain ⟨a6, c6, e6, _⟩ := RowP.len_of' hra; subst e6; have X6 := Lib.hid (X5.out.trans hy); have RA := Lib.hid (RowP.rd hra); clear hy hra; have hkeep := (show _ ∧ _ ∧ _ from ⟨X6.out.cell y3, X6.out.cell y4, X6.out.cell y5⟩))
          | (go_at_call 89; refine (K8.out _ _ _ RA.out (YA.out.ext X6.out)).mono ?_; rintro e u7 ⟨rfl, hy⟩; have X7 := Lib.hid (X6.out.trans hy); clear hy; have hkeep := (show _ ∧ _ ∧ _ from ⟨X7.out.cell y3, X7.out.cell y4, X7.out.cell y5⟩))
          | (go_at_call 49; refine (K7.out _ (YW.out.trans X7.out)).mono ?_; rintro e u8 ⟨vk, rfl, hrk, hy⟩; obtain ⟨a8, c8, e8, _⟩ := RowP.len_of' hrk; subst e8; have X8 := Lib.hid (X7.out.trans hy); have RK := Lib.hid (RowP.rd hrk); clear hy hrk; have hkeep := (show _ ∧ _ ∧ _ from ⟨X8.out.cell y3, X8.out.cell y4, X8.out.cell y5⟩))
          | (go_at_call 107; refine (K9.out _ _ _ RK.out (YK.out.ext X8.out)).mono ?_; rintro e u9 ⟨rfl, hy⟩; have X9 := Lib.hid (X8.out.trans hy); clear hy; have hkeep := (show _ ∧ _ ∧ _ from ⟨X9.out.cell y3, X9.out.cell y4, X9.out.cell y5⟩)))
        have HU := Lib.hid (YW.out.trans X9.out)
        clear hkeep y3 y4 y5
        go_wp2_with (first | (go_at_call 35; refine (I1.out _ HU.out).mono ?_; rintro e v1 ⟨rfl, hv⟩; have HU1 := Lib.hid (HU.out.trans hv); clear hv) | (go_at_call 108; refine (I2.out _ HU1.out).mono ?_; rintro e v2 ⟨rfl, hv⟩; have HU2 := Lib.hid (HU1.out.trans hv); clear hv) | (go_at_call 36; refine (I3.out _ HU2.out).mono ?_; rintro e v3 ⟨rfl, hv⟩; have HU3 := Lib.hid (HU2.out.trans hv); clear hv) | (go_at_call 109; refine (I4.out _ HU3.out).mono ?_; rintro e w' ⟨rfl, rfl⟩) | (go_at_call 50; refine (I5.out _ HU3.out).mono ?_; rintro e v4 ⟨rfl, hv⟩; have HU4 := Lib.hid (HU3.out.trans hv); clear hv) | (go_at_call 110; refine (I6.out _ HU4.out).mono ?_; rintro e w' ⟨rfl, rfl⟩) | (go_at_call 28; refine (I7.out _ HU4.out).mono ?_; rintro e v5 ⟨rfl, hv⟩; have HU5 := Lib.hid (HU4.out.trans hv); clear hv))
        go_roundw
        case rel => exact ⟨(i : Int) + 1, by go_num, by omega, by omega, HU5.out⟩
        case measure => simp [intOf]; omega
    · obtain ⟨rd, h0, _⟩ := HW.out.root
      have P1 := Lib.hid (fun (u : World) (y : Ext w u) => show Calls Try.prog 18 #[.pointer (some ⟨tb, 0, none⟩), .int .i64 0] u (PlainIs (T.plain 0) u) by obtain ⟨own, ptr, h, hO⟩ := (HT.out.ext y).out; exact Plain_some h hO HW.out HA.out h0)
      have P2 := Lib.hid (fun (u : World) (y : Ext w u) => (rPlain_some (HR.out.ext y) HW.out HA.out h0 : Calls Try.prog 111 #[.pointer (some ⟨rb, 0, none⟩), .int .i64 0] u (PlainIs (T.plain 0) u)))
      clear h0
      go_wp2_with fail
      refine (P1.out _ HXR.out).mono ?_
      rintro e w2 ⟨v1, ga1, rfl, hr1, hx2, hg1⟩
      obtain ⟨av1, kv1, rfl, _, _⟩ := hr1.open
      have HX2 := Lib.hid (HXR.out.trans hx2)
      have HR1 := Lib.hid hr1
      have HG1 := Lib.hid hg1
      clear hr1 hx2 hg1
      go_wp2_with fail
      refine (P2.out _ HX2.out).mono ?_
      rintro e w3 ⟨v2, ga2, rfl, hr2, hx3, hg2⟩
      obtain ⟨av2, kv2, rfl, _, _⟩ := hr2.open
      have hs1 : RdN w3 (T.plain 0) (.agg #[.int .i64 (T.plain 0).tag, av1, .string (T.plain 0).text, kv1]) := HR1.out.cells fun q y hq => hx3.cells _ _ (HG1.out q y hq).1
      have hs2 : RdN w3 (T.plain 0) (.agg #[.int .i64 (T.plain 0).tag, av2, .string (T.plain 0).text, kv2]) := hr2.cells fun q y hq => (hg2 q y hq).1
      have SM := Lib.hid (SameNode_eq (T.plain 0) (plain_fair HA.out 0) w3 _ _ hs1 hs2)
      have HX3 := Lib.hid (HX2.out.trans hx3)
      clear hr2 hx3 hg2 hs1 hs2
      go_wp2_with fail
      refine SM.out.mono ?_
      rintro e w4 ⟨rfl, hx4⟩
      have HX4 := Lib.hid (HX3.out.trans hx4)
      clear hx4
      go_wp2_with fail
      go_ret
      exact ⟨rfl, HX4.out⟩
end Go.Proofs.Ytiglflmjidikpaa
