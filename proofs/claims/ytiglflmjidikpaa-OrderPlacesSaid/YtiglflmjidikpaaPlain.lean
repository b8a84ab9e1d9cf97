/- Package dom: Plain: a node as a plain tree. No conditions. -/
import Derived.Test.YtiglflmjidikpaaD11
import Derived.Test.YtiglflmjidikpaaD9
import Derived.Test.YtiglflmjidikpaaD7
import Derived.Deep.CutBlock
namespace Go.Proofs.Ytiglflmjidikpaa
open Go Go.RowKit Go.BigFrame
set_option linter.unusedVariables false
set_option linter.unusedSimpArgs false

set_option maxRecDepth 100000 in
set_option maxHeartbeats 4000000 in
theorem plain_fuel {w : World} {own : Ow} {ptr : Nat → Nat} {tb : Nat} {T : Tr} (hT : TreeAt w own ptr tb T) (hO : Owned own w) {d : Nat → Nat} (hw : WF T d) (hA : AttrsOk T) :
    ∀ (f i : Nat) (nd : Nd) (u : World), T.nodes[i]? = some (some nd) → 41 ≤ d i + f → Ext w u → Calls Try.prog 18 #[.pointer (some ⟨tb, 0, none⟩), .int .i64 i] u (PlainIs (T.pln f i) u) := by
  intro f
  induction f with
  | zero => intro i nd u h h1; have := hw.deep i nd h; have := hw.small.deep1; omega
  | succ f ih =>
    intro i nd u h h1 hx
    rw [pln_step T f h]
    have xu := (Ext.refl u).alloc (.cells #[.int .i64 0, .slice none 0 0, .string ⟨#[]⟩, .slice none 0 0] 30)
    have bu := heap_alloc_new u (.cells #[.int .i64 0, .slice none 0 0, .string ⟨#[]⟩, .slice none 0 0] 30)
    have HT := Lib.hid hT
    have HO := Lib.hid hO
    have HW := Lib.hid hw
    have HH := Lib.hid h
    have HG := Lib.hid (Tr.get_of h)
    have IH := Lib.hid ih
    have HLA := Lib.hid (hA i nd h).1
    have hkl := hw.kids_len h
    clear hT hO hw hA h ih
    go_enter Try.func18, Try.ntmps18
    go_upto_region 1 with fail
    obtain ⟨w1, hw1⟩ : ∃ w1 : World, w1 = u.alloc (.cells #[.int .i64 0, .slice none 0 0, .string ⟨#[]⟩, .slice none 0 0] 30) := ⟨_, rfl⟩
    try rw [← hw1] at xu bu
    rw [← hw1]
    clear hw1
    have hx1 := hx.trans xu
    obtain ⟨av, kv, bi, _, hav, hkv⟩ := (HT.out.keep (hx1.keep HO.out)).node i nd HH.out
    obtain ⟨aa, acap, rfl, hac⟩ := RowP.len_of' hav
    obtain ⟨ka, kcap, rfl, hkc⟩ := RowP.len_of' hkv
    have n0 := cellOf bi (i := 0) (v := .int .i64 nd.tag) rfl
    have n1 := cellOf bi (i := 1) (v := .slice aa nd.attrs.length acap) rfl
    have n2 := cellOf bi (i := 2) (v := .string nd.text) rfl
    have n3 := cellOf bi (i := 3) (v := .slice ka nd.kids.length kcap) rfl
    have HAV := Lib.hid (RowP.rd hav)
    have HKV := Lib.hid hkv
    have HX1 := Lib.hid hx1
    have HXU := Lib.hid xu
    have HBU := Lib.hid bu
    have N3 := Lib.hid n3
    clear hav hkv hx1 xu bu bi n3
    go_upto_region 4 with (go_at_call 80; refine (get_some (HT.out.keep (HX1.out.keep HO.out)) HG.out).mono ?_; rintro e w' ⟨rfl, rfl⟩)
    have np := Nat.ne_of_lt (cell_lt n0)
    have np' := Ne.symm np
    go_cut [6] (fun s wx => ∃ b, s = .pointer (some ⟨b, 0, none⟩) ∧ w1.heap.size ≤ b ∧ PlainBox w1 wx b nd.tag nd.attrs nd.text ∧ Ext w1 wx)
    case first =>
      go_region_held3 (fun w' => w'.cell? ⟨ptr i, 0, none⟩ = some (.int .i64 nd.tag) ∧ w'.cell? ⟨ptr i, 1, none⟩ = some (.slice aa nd.attrs.length acap) ∧ w'.cell? ⟨ptr i, 2, none⟩ = some (.string nd.text))
        (first | exact ⟨n0, n1, n2⟩ | exact hkeep | go_keep)
        ((go_at_call 81; refine (cloneA_any (RowRd.ext HAV.out (by first | exact (Ext.refl w1).drew | exact ((Ext.refl w1).drew).alloc _ | exact ((Ext.refl w1).alloc _).drew)) HLA.out (attrCells_one _)).mono ?_; rintro e w5 ⟨va, rfl, hra, hxA⟩; obtain ⟨a8, cap8, e8, _⟩ := RowP.len_of' hra; subst e8; (try (have BX : w5.heap[w1.heap.size]? = some (.cells #[.int .i64 0, .slice none 0 0, .string ⟨#[]⟩, .slice none 0 0] 30) := hxA.block (heap_alloc_new w1.drew (.cells #[.int .i64 0, .slice none 0 0, .string ⟨#[]⟩, .slice none 0 0] 30)); have q0 := cellOf BX (i := 0) (v := .int .i64 0) rfl; have q1 := cellOf BX (i := 1) (v := .slice none 0 0) rfl; have q2 := cellOf BX (i := 2) (v := .string ⟨#[]⟩) rfl; have q3 := cellOf BX (i := 3) (v := .slice none 0 0) rfl; have r0 := freeOf BX 0; have r1 := freeOf BX 1; have r2 := freeOf BX 2; have r3 := freeOf BX 3)); have hkeep := And.intro (hxA.cell (Ext.cell (by first | exact (Ext.refl w1).drew | exact ((Ext.refl w1).drew).alloc _) n0)) (And.intro (hxA.cell (Ext.cell (by first | exact (Ext.refl w1).drew | exact ((Ext.refl w1).drew).alloc _) n1)) (hxA.cell (Ext.cell (by first | exact (Ext.refl w1).drew | exact ((Ext.refl w1).drew).alloc _) n2)))))
      all_goals go_wp2_with fail
      all_goals go_meet
      · have x15 : Ext w1 w5 := (Ext.refl w1).drew.trans hxA
        exact ⟨_, rfl, x15.size, plainBox_new (Nat.le_refl _) x15 hra, x15.alloc _⟩
      · have x15 : Ext w1 w5 := (((Ext.refl w1).drew).alloc _).trans hxA
        refine ⟨_, rfl, Nat.le_refl _, plainBox_old (B := w1.heap.size + 1) (by omega) (by omega) (by simpa using hra) rfl BX, (((x15.setCell (Nat.le_refl _) _).setCell (Nat.le_refl _) _).setCell (Nat.le_refl _) _).setCell (Nat.le_refl _) _⟩
    case rest =>
      obtain ⟨b, rfl, hb1, ⟨a8, cap8, hbox, hra⟩, hx8⟩ := hcut
      have n3 := hx8.cell N3.out
      have BX := Lib.hid hbox
      have HX8 := Lib.hid hx8
      have HRA := Lib.hid hra
      obtain ⟨ab, bcap, hat⟩ := PlainBox.at (T.pln f) ⟨a8, cap8, hbox, hra⟩ hx8
      have HAT := Lib.hid hat
      clear hbox hx8 hra n0 n1 n2 hat
      go_wp2_with fail
      go_loopw [37, 8] (fun j _ wr => ∃ k : Nat, k ≤ nd.kids.length ∧ j = .int .i64 k ∧ PlainAt w1 wr b nd (T.pln f) ab bcap k) (fun j _ _ => nd.kids.length - (intOf j).toNat)
      case atStart => exact ⟨0, Nat.zero_le _, rfl, HAT.out⟩
      case round =>
        obtain ⟨k, hk, rfl, hxr, kv, xs, g, hb, hr, hkb, hga, hkx, hgc⟩ := hrel
        clear HAT BX HX8 HRA n3
        by_cases hlt : k < nd.kids.length
        · obtain ⟨x, hxi⟩ : ∃ x, nd.kids[k]? = some x := ⟨nd.kids[k], by simp [hlt]⟩
          obtain ⟨j, kd, rfl, hj, hjp, hjd⟩ := HW.out.kid HH.out hxi
          obtain ⟨g0, cap0, e0, hc0⟩ := RowAt.cell HKV.out (i := k) (x := .int .i64 j) (by rw [List.getElem?_map, hxi]; rfl)
          cases e0
          replace hc0 := hxr.cell hc0
          obtain ⟨ak, ck, rfl, hck⟩ := hr.rd.len_of
          have cb := cellOf hb (i := 3) (v := .slice ak k ck) rfl
          have fb := freeOf hb 3
          have REC := Lib.hid (fun (z : World) (hz : Ext wr z) => IH.out j kd z hj (by omega) (hx.trans (HXU.out.trans (hxr.trans hz))))
          have HXR := Lib.hid hxr
          have HB := Lib.hid hb
          have HR := Lib.hid hr
          have HKB := Lib.hid hkb
          have HGA := Lib.hid hga
          have HKX := Lib.hid hkx
          have HGC := Lib.hid hgc
          have HXX := Lib.hid hxi
          clear hxr hb hr hkb hga hkx hgc hj hjp hjd hxi
          go_upto_region 8 with fail
          refine wp_region_E (S := fun w' => w'.cell? ⟨b, 3, none⟩ = some (.slice ak k ck)) (n := 8) (by kernel_rfl) ?_
          have hS : wr.drew.cell? ⟨b, 3, none⟩ = some (.slice ak k ck) := cb
          have hxd : Ext wr wr.drew := (Ext.refl wr).drew
          obtain ⟨wd, hwd⟩ : ∃ wd : World, wd = wr.drew := ⟨_, rfl⟩
          rw [← hwd] at hS hxd ⊢
          clear hwd
          show wpE _ _ _ _ _ 8 9 (Array.replicate 9 false) _ _
          refine wpE_take (i := 0) (v := .pointer (some ⟨b, 3, none⟩)) (o := { dst := some 41, op := _, type := _, pos := _, after := _, guard := none }) rfl (by kernel_rfl) (by kernel_rfl) (by kernel_rfl) (by kernel_rfl) (fun _ _ _ h => h) (Or.inl ⟨by rfl, fun w' hSw => ?_⟩) hS ?_
          · (clear hS; go_simp)
          try simp only [Act.put, List.setIfInBounds_toArray, List.set_cons_zero, List.set_cons_succ]
          refine wpE_take (i := 1) (v := .slice ak k ck) (o := { dst := some 42, op := _, type := _, pos := _, after := _, guard := none }) rfl (by kernel_rfl) (by kernel_rfl) (by kernel_rfl) (by kernel_rfl) (fun _ _ _ h => h) (Or.inl ⟨by rfl, fun w' hSw => ?_⟩) hS ?_
          · (clear hS; go_simp)
          try simp only [Act.put, List.setIfInBounds_toArray, List.set_cons_zero, List.set_cons_succ]
          refine wpE_take (i := 2) (v := .pointer (some ⟨tb, 0, none⟩)) (o := { dst := some 43, op := _, type := _, pos := _, after := _, guard := none }) rfl (by kernel_rfl) (by kernel_rfl) (by kernel_rfl) (by kernel_rfl) (fun _ _ _ h => h) (Or.inl ⟨by rfl, fun w' hSw => ?_⟩) hS ?_
          · (clear hS; go_simp)
          try simp only [Act.put, List.setIfInBounds_toArray, List.set_cons_zero, List.set_cons_succ]
          refine wpE_take (i := 3) (v := .int .i64 j) (o := { dst := some 44, op := _, type := _, pos := _, after := _, guard := none }) rfl (by kernel_rfl) (by kernel_rfl) (by kernel_rfl) (by kernel_rfl) (fun _ _ _ h => h) (Or.inl ⟨by rfl, fun w' hSw => ?_⟩) hS ?_
          · (clear hS; go_simp)
          try simp only [Act.put, List.setIfInBounds_toArray, List.set_cons_zero, List.set_cons_succ]
          refine wpE_one (i := 4) (o := { dst := some 45, op := _, type := _, pos := _, after := _, guard := none }) (by kernel_rfl) rfl (fun K hK => ?_)
          go_simp
          go_at_call 18
          refine (REC.out wd hxd).mono ?_
          rintro e wk ⟨v, g', rfl, hr', hxk, hg'⟩
          obtain ⟨av2, kv2, e2, ha2, hk2⟩ := hr'.open
          obtain ⟨aa2, acap2, e3, _⟩ := ha2.len_of
          obtain ⟨ka2, kcap2, e4, _⟩ := hk2
          subst e3 e4 e2
          have hR := Lib.hid hr'
          have hG := Lib.hid hg'
          have hcb := hxk.cells _ _ (hxd.cells _ _ cb)
          refine hK.out _ _ (.inr hcb) ?_
          clear ha2 hr' hg'
          clear hK K
          try simp only [Act.put, List.setIfInBounds_toArray, List.set_cons_zero, List.set_cons_succ]
          refine wpE_one (i := 5) (o := { dst := some 46, op := _, type := _, pos := _, after := _, guard := none }) (by kernel_rfl) rfl (fun K hK => ?_)
          go_simp
          have hcc := ((Ext.refl wk).alloc (.cells #[.int .i64 (T.pln f j).tag, .slice aa2 (T.pln f j).attrs.length acap2, .string (T.pln f j).text, .slice ka2 (T.pln f j).kids.length kcap2] 30)).cells _ _ hcb
          have xc := (Ext.refl wk).alloc (.cells #[.int .i64 (T.pln f j).tag, .slice aa2 (T.pln f j).attrs.length acap2, .string (T.pln f j).text, .slice ka2 (T.pln f j).kids.length kcap2] 30)
          have hnew := cells_four (heap_alloc_new wk (.cells #[.int .i64 (T.pln f j).tag, .slice aa2 (T.pln f j).attrs.length acap2, .string (T.pln f j).text, .slice ka2 (T.pln f j).kids.length kcap2] 30))
          obtain ⟨cw, hcw⟩ : ∃ cw : World, cw = wk.alloc (.cells #[.int .i64 (T.pln f j).tag, .slice aa2 (T.pln f j).attrs.length acap2, .string (T.pln f j).text, .slice ka2 (T.pln f j).kids.length kcap2] 30) := ⟨_, rfl⟩
          rw [← hcw] at hcc xc hnew ⊢
          clear hcw
          refine hK.out _ _ (.inr hcc) ?_
          obtain ⟨i0, hii, hz0, hz1, hz2⟩ := info_parts infoN
          obtain ⟨v', wA, row, hrunA, hrA, hgA, hrowA⟩ := run_append_row (P := Try.prog) cw 28 28 30 i0 noNode0 4 72 Try.underlying28 hii hz0 hz1 hz2 (by kernel_rfl) (by decide)
            (p := fun y => w1.heap.size ≤ y ∧ y ≠ b ∧ (Value.slice ak k ck).ownBlock = some y) (RowP.imp (RowP.ext HR.out ((hxd.trans hxk).trans xc)) (fun y hy hp => ⟨hp.1, hp.2, hy⟩)) ⟨wk.heap.size, 0, none⟩ 1 1 _ rfl hnew (by simp [Value.oneCell']) (by decide) (by unfold maxLen; omega) (by omega)
          have FIN := Lib.hid (PlainAt.step HXR.out HB.out hb1 HR.out HKB.out HGA.out HKX.out HGC.out HXX.out (hxd.trans hxk) hR.out (fun q y hq => ⟨(hG.out q y hq).1, Nat.le_trans hxd.size (hG.out q y hq).2⟩) xc hrA hgA hrowA)
          obtain ⟨a7, cap7, e7, _⟩ := hrA.rd.len_of
          subst e7
          have hcA : wA.cell? ⟨b, 3, none⟩ = some (.slice ak k ck) := (World.cell?_of_block (a := ⟨b, 3, none⟩) (hgA.block b (cell_lt hcc) (fun e => (hrowA b e.symm).2.1 rfl))).trans hcc
          have hfA : wA.frozen? ⟨b, 3, none⟩ = false := (World.frozen?_of_block (a := ⟨b, 3, none⟩) (hgA.block b (cell_lt hcc) (fun e => (hrowA b e.symm).2.1 rfl))).trans (Ext.free (((hxd.trans hxk).trans xc)) (cell_lt cb) fb)
          have HRA := Lib.hid hrunA
          clear hrA hgA hrowA hrunA hii hz0 hz1 hz2 hnew
          clear hK K
          try simp only [Act.put, List.setIfInBounds_toArray, List.set_cons_zero, List.set_cons_succ]
          refine wpE_one (i := 6) (o := { dst := some 47, op := _, type := _, pos := _, after := _, guard := none }) (by kernel_rfl) rfl (fun K hK => ?_)
          refine step_append_run (by rfl) _ _ 28 (by rfl) (.slice ak k ck) (.slice (some ⟨wk.heap.size, 0, none⟩) 1 1) (by rfl) (by rfl) (.slice a7 (k + 1) cap7) wA HRA.out ?_
          refine hK.out _ _ (.inr hcA) ?_
          clear hK K
          try simp only [Act.put, List.setIfInBounds_toArray, List.set_cons_zero, List.set_cons_succ]
          refine wpE_one (i := 7) (o := { dst := some 48, op := _, type := _, pos := _, after := _, guard := none }) (by kernel_rfl) rfl (fun K hK => ?_)
          go_simp
          refine hK.out _ _ (.inr hcA) ?_
          clear hK K
          try simp only [Act.put, List.setIfInBounds_toArray, List.set_cons_zero, List.set_cons_succ]
          refine wpE_one (i := 8) (o := { dst := none, op := _, type := _, pos := _, after := _, guard := none }) (by kernel_rfl) rfl (fun K hK => ?_)
          go_simp
          refine hK.out _ _ (.inl rfl) ?_
          clear hK K
          refine wpE_done (by kernel_rfl) ?_
          clear hcA hfA hcc hcb hS cb fb
          obtain ⟨wz, hwz⟩ : ∃ wz : World, wz = wA.setCell ⟨b, 3, none⟩ (.slice a7 (k + 1) cap7) := ⟨_, rfl⟩
          rw [← hwz] at FIN ⊢
          clear hwz
          go_wp2_with fail
          go_roundw
          case rel => exact ⟨k + 1, by omega, by go_num, FIN.out⟩
          case measure => simp [intOf]; omega
        · obtain rfl : k = nd.kids.length := by omega
          have hB0 : u.heap.size < w1.heap.size := (Array.getElem?_eq_some_iff.1 HBU.out).1
          have hbn : b ≠ u.heap.size := by omega
          have hbn' := Ne.symm hbn
          obtain ⟨ak, ck, rfl, hck⟩ := hr.rd.len_of
          have b0 := cellOf hb (i := 0) (v := .int .i64 nd.tag) rfl
          have b1 := cellOf hb (i := 1) (v := .slice ab nd.attrs.length bcap) rfl
          have b2 := cellOf hb (i := 2) (v := .string nd.text) rfl
          have b3 := cellOf hb (i := 3) (v := .slice ak nd.kids.length ck) rfl
          have hr0 := hxr.block HBU.out
          have r0 := cellOf hr0 (i := 0) (v := .int .i64 0) rfl
          have r1 := cellOf hr0 (i := 1) (v := .slice none 0 0) rfl
          have r2 := cellOf hr0 (i := 2) (v := .string ⟨#[]⟩) rfl
          have r3 := cellOf hr0 (i := 3) (v := .slice none 0 0) rfl
          have f0 := freeOf hr0 0
          have f1 := freeOf hr0 1
          have f2 := freeOf hr0 2
          have f3 := freeOf hr0 3
          have FIN := Lib.hid (plain_fin HXU.out hB0 hxr hb hr hga hkx hgc)
          clear hxr hb hr hkb hga hkx hgc hr0
          go_wp2_with fail
          exact bodyPost_ret (v := .agg #[.int .i64 nd.tag, .slice ab nd.attrs.length bcap, .string nd.text, .slice ak nd.kids.length ck]) (by simp [results, Try.results18, go_sem, r0, r1, r2, r3]) rfl (FIN.out _ _ _ _)
theorem Plain_some {w : World} {own : Ow} {ptr : Nat → Nat} {tb : Nat} {T : Tr} (hT : TreeAt w own ptr tb T) (hO : Owned own w) {d : Nat → Nat} (hw : WF T d) (hA : AttrsOk T) {i : Nat} {nd : Nd} (h : T.nodes[i]? = some (some nd)) :
    Calls Try.prog 18 #[.pointer (some ⟨tb, 0, none⟩), .int .i64 i] w (PlainIs (T.plain i) w) :=
  plain_fuel hT hO hw hA 50 i nd w h (by omega) (Ext.refl w)
end Go.Proofs.Ytiglflmjidikpaa
