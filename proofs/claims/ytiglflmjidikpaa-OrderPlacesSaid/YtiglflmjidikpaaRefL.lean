/- quillworkref08: Plain. Printed by wip/gen_refl.py. -/
import Derived.Test.YtiglflmjidikpaaRefK
import Derived.Test.YtiglflmjidikpaaPlain
namespace Go.Proofs.Ytiglflmjidikpaa
open Go Go.RowKit Go.BigFrame
set_option linter.unusedVariables false
set_option linter.unusedSimpArgs false

section
variable {P : Program} {ops : Array Oper} {Q : Exit → Act → World → Prop} {md : Region.Mode} {S : World → Prop} {n : Nat}
/-- two may come up -/
theorem wpE_two {i j : Nat} {oi oj : Oper} {f : Nat} {l : Array Bool} {a : Act} {w : World} (hr : Region.ready md ops l = [i, j]) (hi : ops[i]? = some oi) (hj : ops[j]? = some oj)
    (h1 : ∀ K : Act → World → Prop, Shut (∀ a w, (i = n ∨ S w) → wpE P md ops Q S n f (l.setIfInBounds i true) a w → K a w) → if Region.wanted oi (yielded ops a.tmps) = true then Oper.wp P oi a w K Q else K (a.put oi.dst undef) w)
    (h2 : ∀ K : Act → World → Prop, Shut (∀ a w, (j = n ∨ S w) → wpE P md ops Q S n f (l.setIfInBounds j true) a w → K a w) → if Region.wanted oj (yielded ops a.tmps) = true then Oper.wp P oj a w K Q else K (a.put oj.dst undef) w) : wpE P md ops Q S n (f + 1) l a w := by
  refine ⟨fun h => (by rw [hr] at h; cases h), fun m hm => ?_⟩
  rw [hr] at hm
  have hm' : m = i ∨ m = j := by simpa using hm
  rcases hm' with rfl | rfl
  · exact wpOp_step hi fun K hK => h1 K fun a w h1 h2 => hK a w ⟨h1, h2⟩
  · exact wpOp_step hj fun K hK => h2 K fun a w h1 h2 => hK a w ⟨h1, h2⟩
end
theorem addBlock (a : Addr) (i : Nat) : (a.add i).block = a.block := by unfold Addr.add; split <;> rfl
set_option maxRecDepth 100000 in
set_option maxHeartbeats 4000000 in
theorem rPlain_fuel {w : World} {rb : Nat} {T : Tr} (hR : RAt w rb T) {d : Nat → Nat} (hw : WF T d) (hA : AttrsOk T) :
    ∀ (f i : Nat) (nd : Nd) (u : World), T.nodes[i]? = some (some nd) → 41 ≤ d i + f → Ext w u → Calls Try.prog 111 #[.pointer (some ⟨rb, 0, none⟩), .int .i64 i] u (PlainIs (T.pln f i) u) := by
  intro f
  induction f with
  | zero => intro i nd u h h1; have := hw.deep i nd h; have := hw.small.deep1; omega
  | succ f ih =>
    intro i nd u h h1 hx
    rw [pln_step T f h]
    have xu := (Ext.refl u).alloc (.cells #[.int .i64 0, .slice none 0 0, .string ⟨#[]⟩, .slice none 0 0] 30)
    have bu := heap_alloc_new u (.cells #[.int .i64 0, .slice none 0 0, .string ⟨#[]⟩, .slice none 0 0] 30)
    have HR := Lib.hid hR
    have HW := Lib.hid hw
    have HH := Lib.hid h
    have IH := Lib.hid ih
    have HLA := Lib.hid (hA i nd h).1
    have hkl := hw.kids_len h
    have hil := (List.getElem?_eq_some_iff.1 h).1
    clear hR hw hA ih
    go_enter Try.func111, Try.ntmps111
    go_upto_region 1 with fail
    obtain ⟨w1, hw1⟩ : ∃ w1 : World, w1 = u.alloc (.cells #[.int .i64 0, .slice none 0 0, .string ⟨#[]⟩, .slice none 0 0] 30) := ⟨_, rfl⟩
    try rw [← hw1] at xu bu
    rw [← hw1]
    clear hw1
    have hx1 := hx.trans xu
    have HAS := Lib.hid (rHas_yes (HR.out.ext hx1) (Tr.get_of h))
    obtain ⟨g, cap, aa, ac, ka, kc, c, c0, c1, c2, c3, c4, c5, hav, hkv⟩ := (HR.out.ext hx1).one h
    replace c0 : w1.cell? ⟨g, i * 6, none⟩ = some (.int .i64 1) := c0
    replace c1 : w1.cell? ⟨g, i * 6 + 1, none⟩ = some (.int .i64 nd.tag) := c1
    replace c2 : w1.cell? ⟨g, i * 6 + 2, none⟩ = some (.int .i64 nd.parent) := c2
    replace c3 : w1.cell? ⟨g, i * 6 + 3, none⟩ = some (.slice aa nd.attrs.length ac) := c3
    replace c4 : w1.cell? ⟨g, i * 6 + 4, none⟩ = some (.string nd.text) := c4
    replace c5 : w1.cell? ⟨g, i * 6 + 5, none⟩ = some (.slice ka nd.kids.length kc) := c5
    replace hav : RowRd w1 2 (.slice aa nd.attrs.length ac) nd.attrs.length (attrCells nd.attrs) := hav
    replace hkv : RowRd w1 1 (.slice ka nd.kids.length kc) nd.kids.length (nd.kids.map (Value.int .i64)) := hkv
    have xr := (Ext.refl w1).alloc (.cells #[.int .i64 1, .int .i64 nd.tag, .int .i64 nd.parent, .slice aa nd.attrs.length ac, .string nd.text, .slice ka nd.kids.length kc] 132)
    have br := heap_alloc_new w1 (.cells #[.int .i64 1, .int .i64 nd.tag, .int .i64 nd.parent, .slice aa nd.attrs.length ac, .string nd.text, .slice ka nd.kids.length kc] 132)
    have hlw1 := (Array.getElem?_eq_some_iff.1 bu).1
    have HX1 := Lib.hid hx1
    clear h
    go_upto_region 4 with (go_at_call 105; refine HAS.out.mono ?_; rintro e w' ⟨rfl, rfl⟩)
    obtain ⟨R, hR⟩ : ∃ R, R = w1.heap.size := ⟨_, rfl⟩
    rw [← hR] at br hlw1 ⊢
    obtain ⟨w2, hw2⟩ : ∃ w2 : World, w2 = w1.alloc (.cells #[.int .i64 1, .int .i64 nd.tag, .int .i64 nd.parent, .slice aa nd.attrs.length ac, .string nd.text, .slice ka nd.kids.length kc] 132) := ⟨_, rfl⟩
    rw [← hw2] at xr br
    rw [← hw2]
    have hu2 : u.heap.size < w2.heap.size := by rw [hw2]; simp; omega
    have hR2 : R < w2.heap.size := (Array.getElem?_eq_some_iff.1 br).1
    clear hw2 hR c c0 c1 c2 c3 c4 c5
    have r1 := cellOf br (i := 1) (v := .int .i64 nd.tag) rfl
    have r3 := cellOf br (i := 3) (v := .slice aa nd.attrs.length ac) rfl
    have r4 := cellOf br (i := 4) (v := .string nd.text) rfl
    have r5 := cellOf br (i := 5) (v := .slice ka nd.kids.length kc) rfl
    have HAV := Lib.hid (hav.ext xr)
    have HKV := Lib.hid (hkv.ext xr)
    have HXU := Lib.hid (xu.trans xr)
    have HBU := Lib.hid (xr.block bu)
    have HX2 := Lib.hid (HX1.out.trans xr)
    have R5 := Lib.hid r5
    clear hav hkv xu bu xr br r5
    go_cut [6] (fun s wx => ∃ b, s = .pointer (some ⟨b, 0, none⟩) ∧ w2.heap.size ≤ b ∧ PlainBox w2 wx b nd.tag nd.attrs nd.text ∧ Ext w2 wx)
    case first =>
      refine wp_region_E (S := fun w' => w'.cell? ⟨R, 1, none⟩ = some (.int .i64 nd.tag) ∧ w'.cell? ⟨R, 3, none⟩ = some (.slice aa nd.attrs.length ac) ∧ w'.cell? ⟨R, 4, none⟩ = some (.string nd.text)) (n := 10) (by kernel_rfl) ?_
      have hS : w2.drew.cell? ⟨R, 1, none⟩ = some (.int .i64 nd.tag) ∧ w2.drew.cell? ⟨R, 3, none⟩ = some (.slice aa nd.attrs.length ac) ∧ w2.drew.cell? ⟨R, 4, none⟩ = some (.string nd.text) := ⟨(Ext.refl w2).drew.cell r1, (Ext.refl w2).drew.cell r3, (Ext.refl w2).drew.cell r4⟩
      show wpE _ _ _ _ _ 10 11 (Array.replicate 11 false) _ _
      refine wpE_take (i := 0) (v := .pointer (some ⟨R, 1, none⟩)) (o := { dst := some 20, op := _, type := _, pos := _, after := _, guard := none }) rfl (by kernel_rfl) (by kernel_rfl) (by kernel_rfl) (by kernel_rfl) (fun _ _ _ h => h) (Or.inl ⟨by rfl, fun w' hSw => ?_⟩) hS ?_
      · (obtain ⟨s1, s2, s3⟩ := hSw; clear hS; go_simp)
      try simp only [Act.put, List.setIfInBounds_toArray, List.set_cons_zero, List.set_cons_succ]
      refine wpE_take (i := 1) (v := .int .i64 nd.tag) (o := { dst := some 21, op := _, type := _, pos := _, after := _, guard := none }) rfl (by kernel_rfl) (by kernel_rfl) (by kernel_rfl) (by kernel_rfl) (fun _ _ _ h => h) (Or.inl ⟨by rfl, fun w' hSw => ?_⟩) hS ?_
      · (obtain ⟨s1, s2, s3⟩ := hSw; clear hS; go_simp)
      try simp only [Act.put, List.setIfInBounds_toArray, List.set_cons_zero, List.set_cons_succ]
      refine wpE_take (i := 3) (v := .pointer (some ⟨R, 3, none⟩)) (o := { dst := some 23, op := _, type := _, pos := _, after := _, guard := none }) rfl (by kernel_rfl) (by kernel_rfl) (by kernel_rfl) (by kernel_rfl) (fun _ _ _ h => h) (Or.inl ⟨by rfl, fun w' hSw => ?_⟩) hS ?_
      · (obtain ⟨s1, s2, s3⟩ := hSw; clear hS; go_simp)
      try simp only [Act.put, List.setIfInBounds_toArray, List.set_cons_zero, List.set_cons_succ]
      refine wpE_take (i := 4) (v := .slice aa nd.attrs.length ac) (o := { dst := some 24, op := _, type := _, pos := _, after := _, guard := none }) rfl (by kernel_rfl) (by kernel_rfl) (by kernel_rfl) (by kernel_rfl) (fun _ _ _ h => h) (Or.inl ⟨by rfl, fun w' hSw => ?_⟩) hS ?_
      · (obtain ⟨s1, s2, s3⟩ := hSw; clear hS; go_simp)
      try simp only [Act.put, List.setIfInBounds_toArray, List.set_cons_zero, List.set_cons_succ]
      refine wpE_take (i := 6) (v := .pointer (some ⟨R, 4, none⟩)) (o := { dst := some 26, op := _, type := _, pos := _, after := _, guard := none }) rfl (by kernel_rfl) (by kernel_rfl) (by kernel_rfl) (by kernel_rfl) (fun _ _ _ h => h) (Or.inl ⟨by rfl, fun w' hSw => ?_⟩) hS ?_
      · (obtain ⟨s1, s2, s3⟩ := hSw; clear hS; go_simp)
      try simp only [Act.put, List.setIfInBounds_toArray, List.set_cons_zero, List.set_cons_succ]
      refine wpE_take (i := 7) (v := .string nd.text) (o := { dst := some 27, op := _, type := _, pos := _, after := _, guard := none }) rfl (by kernel_rfl) (by kernel_rfl) (by kernel_rfl) (by kernel_rfl) (fun _ _ _ h => h) (Or.inl ⟨by rfl, fun w' hSw => ?_⟩) hS ?_
      · (obtain ⟨s1, s2, s3⟩ := hSw; clear hS; go_simp)
      try simp only [Act.put, List.setIfInBounds_toArray, List.set_cons_zero, List.set_cons_succ]
      refine wpE_two (i := 2) (j := 9) (oi := { dst := some 22, op := _, type := _, pos := _, after := _, guard := none }) (oj := { dst := some 6, op := _, type := _, pos := _, after := _, guard := none }) (by kernel_rfl) rfl rfl (fun K hK => ?_) (fun K hK => ?_)
      · go_simp
        refine hK.out _ _ (.inr ⟨((((Ext.refl w2).drew).alloc (.cells #[] 44))).cell r1, ((((Ext.refl w2).drew).alloc (.cells #[] 44))).cell r3, ((((Ext.refl w2).drew).alloc (.cells #[] 44))).cell r4⟩) ?_
        clear hK K
        try simp only [Act.put, List.setIfInBounds_toArray, List.set_cons_zero, List.set_cons_succ]
        refine wpE_two (i := 5) (j := 9) (oi := { dst := some 25, op := _, type := _, pos := _, after := _, guard := none }) (oj := { dst := some 6, op := _, type := _, pos := _, after := _, guard := none }) (by kernel_rfl) rfl rfl (fun K hK => ?_) (fun K hK => ?_)
        · obtain ⟨v1, wA, hrun, hra, hxa⟩ := append_empty (w := w2.drew.alloc (.cells #[] 44)) (b := w2.heap.size) (HAV.out.ext (((Ext.refl w2).drew).alloc (.cells #[] 44))) HLA.out (attrCells_one _)
          obtain ⟨a1, c1, rfl, _⟩ := hra.rd.len_of
          have hxw := Ext.trans (((Ext.refl w2).drew).alloc (.cells #[] 44)) hxa
          have HRUN := Lib.hid hrun
          refine step_append_run (by rfl) _ _ 27 (by rfl) (.slice (some ⟨w2.heap.size, 0, none⟩) 0 0) (.slice aa nd.attrs.length ac) (by rfl) (by rfl) (.slice a1 nd.attrs.length c1) wA HRUN.out ?_
          refine hK.out _ _ (.inr ⟨hxw.cell r1, hxw.cell r3, hxw.cell r4⟩) ?_
          clear hK K
          try simp only [Act.put, List.setIfInBounds_toArray, List.set_cons_zero, List.set_cons_succ]
          refine wpE_take (i := 8) (v := .agg #[.int .i64 nd.tag, .slice a1 nd.attrs.length c1, .string nd.text, .slice none 0 0]) (o := { dst := some 28, op := _, type := _, pos := _, after := _, guard := none }) rfl (by kernel_rfl) (by kernel_rfl) (by kernel_rfl) (by kernel_rfl) (fun _ _ _ h => h) (Or.inl ⟨by rfl, fun w' hSw => ?_⟩) (show (wA.cell? ⟨R, 1, none⟩ = some (.int .i64 nd.tag) ∧ _ ∧ _) from ⟨hxw.cell r1, hxw.cell r3, hxw.cell r4⟩) ?_
          · (clear hSw; go_simp)
          try simp only [Act.put, List.setIfInBounds_toArray, List.set_cons_zero, List.set_cons_succ]
          refine wpE_one (i := 9) (o := { dst := some 6, op := _, type := _, pos := _, after := _, guard := none }) (by kernel_rfl) rfl (fun K hK => ?_)
          go_simp
          refine hK.out _ _ (.inr ⟨(hxw.alloc _).cell r1, (hxw.alloc _).cell r3, (hxw.alloc _).cell r4⟩) ?_
          clear hK K
          try simp only [Act.put, List.setIfInBounds_toArray, List.set_cons_zero, List.set_cons_succ]
          refine wpE_one (i := 10) (o := { dst := none, op := _, type := _, pos := _, after := _, guard := none }) (by kernel_rfl) rfl (fun K hK => ?_)
          go_simp
          refine hK.out _ _ (.inl rfl) ?_
          clear hK K
          refine wpE_done (by kernel_rfl) ?_
          go_wp2_with fail
          go_meet
          exact ⟨_, rfl, hxw.size, plainBox_new (B := w2.heap.size) (Nat.le_refl _) hxw (RowP.imp hra fun g _ hg => by have h : (w2.drew.alloc (.cells #[] 44)).heap.size ≤ g := hg; simp at h; show w2.heap.size ≤ g; omega), hxw.alloc _⟩
        · go_simp
          refine hK.out _ _ (.inr ⟨(((((Ext.refl w2).drew).alloc (.cells #[] 44)).alloc (.cells #[.int .i64 0, .slice none 0 0, .string ⟨#[]⟩, .slice none 0 0] 30))).cell r1, (((((Ext.refl w2).drew).alloc (.cells #[] 44)).alloc (.cells #[.int .i64 0, .slice none 0 0, .string ⟨#[]⟩, .slice none 0 0] 30))).cell r3, (((((Ext.refl w2).drew).alloc (.cells #[] 44)).alloc (.cells #[.int .i64 0, .slice none 0 0, .string ⟨#[]⟩, .slice none 0 0] 30))).cell r4⟩) ?_
          clear hK K
          try simp only [Act.put, List.setIfInBounds_toArray, List.set_cons_zero, List.set_cons_succ]
          refine wpE_one (i := 5) (o := { dst := some 25, op := _, type := _, pos := _, after := _, guard := none }) (by kernel_rfl) rfl (fun K hK => ?_)
          obtain ⟨v1, wA, hrun, hra, hxa⟩ := append_empty (w := (w2.drew.alloc (.cells #[] 44)).alloc (.cells #[.int .i64 0, .slice none 0 0, .string ⟨#[]⟩, .slice none 0 0] 30)) (b := w2.heap.size) (HAV.out.ext ((((Ext.refl w2).drew).alloc (.cells #[] 44)).alloc (.cells #[.int .i64 0, .slice none 0 0, .string ⟨#[]⟩, .slice none 0 0] 30))) HLA.out (attrCells_one _)
          obtain ⟨a1, c1, rfl, _⟩ := hra.rd.len_of
          have hxw := Ext.trans ((((Ext.refl w2).drew).alloc (.cells #[] 44)).alloc (.cells #[.int .i64 0, .slice none 0 0, .string ⟨#[]⟩, .slice none 0 0] 30)) hxa
          have HRUN := Lib.hid hrun
          refine step_append_run (by rfl) _ _ 27 (by rfl) (.slice (some ⟨w2.heap.size, 0, none⟩) 0 0) (.slice aa nd.attrs.length ac) (by rfl) (by rfl) (.slice a1 nd.attrs.length c1) wA HRUN.out ?_
          refine hK.out _ _ (.inr ⟨hxw.cell r1, hxw.cell r3, hxw.cell r4⟩) ?_
          clear hK K
          try simp only [Act.put, List.setIfInBounds_toArray, List.set_cons_zero, List.set_cons_succ]
          refine wpE_take (i := 8) (v := .agg #[.int .i64 nd.tag, .slice a1 nd.attrs.length c1, .string nd.text, .slice none 0 0]) (o := { dst := some 28, op := _, type := _, pos := _, after := _, guard := none }) rfl (by kernel_rfl) (by kernel_rfl) (by kernel_rfl) (by kernel_rfl) (fun _ _ _ h => h) (Or.inl ⟨by rfl, fun w' hSw => ?_⟩) (show (wA.cell? ⟨R, 1, none⟩ = some (.int .i64 nd.tag) ∧ _ ∧ _) from ⟨hxw.cell r1, hxw.cell r3, hxw.cell r4⟩) ?_
          · (clear hSw; go_simp)
          try simp only [Act.put, List.setIfInBounds_toArray, List.set_cons_zero, List.set_cons_succ]
          have bx : wA.heap[w2.heap.size + 1]? = some (.cells #[.int .i64 0, .slice none 0 0, .string ⟨#[]⟩, .slice none 0 0] 30 (0, 0)) := hxa.block (by have := heap_alloc_new (w2.drew.alloc (.cells #[] 44)) (.cells #[.int .i64 0, .slice none 0 0, .string ⟨#[]⟩, .slice none 0 0] 30); simpa using this)
          have q0 := cellOf bx (i := 0) (v := .int .i64 0) rfl
          have q1 := cellOf bx (i := 1) (v := .slice none 0 0) rfl
          have q2 := cellOf bx (i := 2) (v := .string ⟨#[]⟩) rfl
          have q3 := cellOf bx (i := 3) (v := .slice none 0 0) rfl
          have fq0 := freeOf bx 0
          have fq1 := freeOf bx 1
          have fq2 := freeOf bx 2
          have fq3 := freeOf bx 3
          refine wpE_one (i := 10) (o := { dst := none, op := _, type := _, pos := _, after := _, guard := none }) (by kernel_rfl) rfl (fun K hK => ?_)
          go_simp
          refine hK.out _ _ (.inl rfl) ?_
          clear hK K
          refine wpE_done (by kernel_rfl) ?_
          go_wp2_with fail
          go_meet
          exact ⟨_, rfl, by omega, plainBox_old (w1 := w2) (w5 := wA) (B := w2.heap.size + 2) (by omega) (by omega) (RowP.imp hra fun g _ hg => by have h : ((w2.drew.alloc (.cells #[] 44)).alloc (.cells #[.int .i64 0, .slice none 0 0, .string ⟨#[]⟩, .slice none 0 0] 30)).heap.size ≤ g := hg; simp at h; show w2.heap.size + 2 ≤ g; omega) rfl bx, (((hxw.setCell (by show w2.heap.size ≤ w2.heap.size + 1; omega) _).setCell (by show w2.heap.size ≤ w2.heap.size + 1; omega) _).setCell (by show w2.heap.size ≤ w2.heap.size + 1; omega) _).setCell (by show w2.heap.size ≤ w2.heap.size + 1; omega) _⟩
      · go_simp
        refine hK.out _ _ (.inr ⟨(((Ext.refl w2).drew).alloc (.cells #[.int .i64 0, .slice none 0 0, .string ⟨#[]⟩, .slice none 0 0] 30)).cell r1, (((Ext.refl w2).drew).alloc (.cells #[.int .i64 0, .slice none 0 0, .string ⟨#[]⟩, .slice none 0 0] 30)).cell r3, (((Ext.refl w2).drew).alloc (.cells #[.int .i64 0, .slice none 0 0, .string ⟨#[]⟩, .slice none 0 0] 30)).cell r4⟩) ?_
        clear hK K
        try simp only [Act.put, List.setIfInBounds_toArray, List.set_cons_zero, List.set_cons_succ]
        refine wpE_one (i := 2) (o := { dst := some 22, op := _, type := _, pos := _, after := _, guard := none }) (by kernel_rfl) rfl (fun K hK => ?_)
        go_simp
        refine hK.out _ _ (.inr ⟨(((((Ext.refl w2).drew).alloc (.cells #[.int .i64 0, .slice none 0 0, .string ⟨#[]⟩, .slice none 0 0] 30)).alloc (.cells #[] 44))).cell r1, (((((Ext.refl w2).drew).alloc (.cells #[.int .i64 0, .slice none 0 0, .string ⟨#[]⟩, .slice none 0 0] 30)).alloc (.cells #[] 44))).cell r3, (((((Ext.refl w2).drew).alloc (.cells #[.int .i64 0, .slice none 0 0, .string ⟨#[]⟩, .slice none 0 0] 30)).alloc (.cells #[] 44))).cell r4⟩) ?_
        clear hK K
        try simp only [Act.put, List.setIfInBounds_toArray, List.set_cons_zero, List.set_cons_succ]
        refine wpE_one (i := 5) (o := { dst := some 25, op := _, type := _, pos := _, after := _, guard := none }) (by kernel_rfl) rfl (fun K hK => ?_)
        obtain ⟨v1, wA, hrun, hra, hxa⟩ := append_empty (w := (w2.drew.alloc (.cells #[.int .i64 0, .slice none 0 0, .string ⟨#[]⟩, .slice none 0 0] 30)).alloc (.cells #[] 44)) (b := w2.heap.size + 1) (HAV.out.ext ((((Ext.refl w2).drew).alloc (.cells #[.int .i64 0, .slice none 0 0, .string ⟨#[]⟩, .slice none 0 0] 30)).alloc (.cells #[] 44))) HLA.out (attrCells_one _)
        obtain ⟨a1, c1, rfl, _⟩ := hra.rd.len_of
        have hxw := Ext.trans ((((Ext.refl w2).drew).alloc (.cells #[.int .i64 0, .slice none 0 0, .string ⟨#[]⟩, .slice none 0 0] 30)).alloc (.cells #[] 44)) hxa
        have HRUN := Lib.hid hrun
        refine step_append_run (by rfl) _ _ 27 (by rfl) (.slice (some ⟨w2.heap.size + 1, 0, none⟩) 0 0) (.slice aa nd.attrs.length ac) (by rfl) (by rfl) (.slice a1 nd.attrs.length c1) wA HRUN.out ?_
        refine hK.out _ _ (.inr ⟨hxw.cell r1, hxw.cell r3, hxw.cell r4⟩) ?_
        clear hK K
        try simp only [Act.put, List.setIfInBounds_toArray, List.set_cons_zero, List.set_cons_succ]
        refine wpE_take (i := 8) (v := .agg #[.int .i64 nd.tag, .slice a1 nd.attrs.length c1, .string nd.text, .slice none 0 0]) (o := { dst := some 28, op := _, type := _, pos := _, after := _, guard := none }) rfl (by kernel_rfl) (by kernel_rfl) (by kernel_rfl) (by kernel_rfl) (fun _ _ _ h => h) (Or.inl ⟨by rfl, fun w' hSw => ?_⟩) (show (wA.cell? ⟨R, 1, none⟩ = some (.int .i64 nd.tag) ∧ _ ∧ _) from ⟨hxw.cell r1, hxw.cell r3, hxw.cell r4⟩) ?_
        · (clear hSw; go_simp)
        try simp only [Act.put, List.setIfInBounds_toArray, List.set_cons_zero, List.set_cons_succ]
        have bx : wA.heap[w2.heap.size]? = some (.cells #[.int .i64 0, .slice none 0 0, .string ⟨#[]⟩, .slice none 0 0] 30 (0, 0)) := hxa.block (Ext.block ((Ext.refl _).alloc _) (heap_alloc_new w2.drew (.cells #[.int .i64 0, .slice none 0 0, .string ⟨#[]⟩, .slice none 0 0] 30)))
        have q0 := cellOf bx (i := 0) (v := .int .i64 0) rfl
        have q1 := cellOf bx (i := 1) (v := .slice none 0 0) rfl
        have q2 := cellOf bx (i := 2) (v := .string ⟨#[]⟩) rfl
        have q3 := cellOf bx (i := 3) (v := .slice none 0 0) rfl
        have fq0 := freeOf bx 0
        have fq1 := freeOf bx 1
        have fq2 := freeOf bx 2
        have fq3 := freeOf bx 3
        refine wpE_one (i := 10) (o := { dst := none, op := _, type := _, pos := _, after := _, guard := none }) (by kernel_rfl) rfl (fun K hK => ?_)
        go_simp
        refine hK.out _ _ (.inl rfl) ?_
        clear hK K
        refine wpE_done (by kernel_rfl) ?_
        go_wp2_with fail
        go_meet
        exact ⟨_, rfl, by omega, plainBox_old (w1 := w2) (w5 := wA) (B := w2.heap.size + 2) (by omega) (by omega) (RowP.imp hra fun g _ hg => by have h : ((w2.drew.alloc (.cells #[.int .i64 0, .slice none 0 0, .string ⟨#[]⟩, .slice none 0 0] 30)).alloc (.cells #[] 44)).heap.size ≤ g := hg; simp at h; show w2.heap.size + 2 ≤ g; omega) rfl bx, (((hxw.setCell (by show w2.heap.size ≤ w2.heap.size; omega) _).setCell (by show w2.heap.size ≤ w2.heap.size; omega) _).setCell (by show w2.heap.size ≤ w2.heap.size; omega) _).setCell (by show w2.heap.size ≤ w2.heap.size; omega) _⟩
    case rest =>
      obtain ⟨b, rfl, hb1, ⟨a8, cap8, hbox, hra⟩, hx8⟩ := hcut
      have n5 := hx8.cell R5.out
      obtain ⟨ab, bcap, hat⟩ := PlainBox.at (T.pln f) ⟨a8, cap8, hbox, hra⟩ hx8
      have HAT := Lib.hid hat
      have HX8 := Lib.hid hx8
      clear hbox hx8 hra r1 r3 r4 hat
      go_wp2_with fail
      go_loopw [7] (fun j wr => ∃ k : Nat, k ≤ nd.kids.length ∧ j = .int .i64 k ∧ PlainAt w2 wr b nd (T.pln f) ab bcap k) (fun j _ => nd.kids.length - (intOf j).toNat)
      case atStart => exact ⟨0, Nat.zero_le _, rfl, HAT.out⟩
      case round =>
        obtain ⟨k, hk, rfl, hxr, kv, xs, g, hb, hr, hkb, hga, hkx, hgc⟩ := hrel
        clear HAT HX8 n5
        have n5 := hxr.cell R5.out
        by_cases hlt : k < nd.kids.length
        · obtain ⟨x, hxi⟩ : ∃ x, nd.kids[k]? = some x := ⟨nd.kids[k], by simp [hlt]⟩
          obtain ⟨j, kd, rfl, hj, hjp, hjd⟩ := HW.out.kid HH.out hxi
          cases ka with
          | none =>
            obtain ⟨_, _, _, e, _, hn, _⟩ := HKV.out
            cases e
            have := (hn rfl).1
            omega
          | some ad =>
            obtain ⟨kb, ko, ks⟩ := ad
            have hc0 : wr.cell? (Addr.add ⟨kb, ko, ks⟩ k) = some (.int .i64 j) := by
              obtain ⟨_, _, _, e, _, _, hcc⟩ := HKV.out
              cases e
              exact hxr.cells _ _ (hcc _ rfl k (.int .i64 j) (by rw [List.getElem?_map, hxi]; rfl))
            obtain ⟨ak, ck, rfl, hck⟩ := hr.rd.len_of
            have cb := cellOf hb (i := 3) (v := .slice ak k ck) rfl
            have fb := freeOf hb 3
            have REC := Lib.hid (fun (z : World) (hz : Ext wr z) => IH.out j kd z hj (by omega) (HX2.out.trans (hxr.trans hz)))
            have HXR := Lib.hid hxr
            have HB := Lib.hid hb
            have HR2 := Lib.hid hr
            have HKB := Lib.hid hkb
            have HGA := Lib.hid hga
            have HKX := Lib.hid hkx
            have HGC := Lib.hid hgc
            have HXX := Lib.hid hxi
            have HKL := Lib.hid (show kb < w2.heap.size from by
              obtain ⟨_, _, _, e, _, _, hcc⟩ := HKV.out
              cases e
              have := World.block_lt_of_cell? _ _ (hcc _ rfl k (.int .i64 j) (by rw [List.getElem?_map, hxi]; rfl))
              rwa [addBlock] at this)
            clear hxr hb hr hkb hga hkx hgc hj hjp hjd hxi
            go_upto_region 8 with fail
            have hxd : Ext wr wr.drew := (Ext.refl wr).drew
            have cbd := hxd.cell cb
            have n5d := hxd.cell n5
            have hcd := hxd.cells _ _ hc0
            refine wp_region_E (S := fun w' => w'.cell? ⟨b, 3, none⟩ = some (.slice ak k ck) ∧ w'.cell? ⟨R, 5, none⟩ = some (.slice (some ⟨kb, ko, ks⟩) nd.kids.length kc) ∧ w'.cell? (Addr.add ⟨kb, ko, ks⟩ k) = some (.int .i64 j)) (n := 12) (by kernel_rfl) ?_
            have hS : wr.drew.cell? ⟨b, 3, none⟩ = some (.slice ak k ck) ∧ wr.drew.cell? ⟨R, 5, none⟩ = some (.slice (some ⟨kb, ko, ks⟩) nd.kids.length kc) ∧ wr.drew.cell? (Addr.add ⟨kb, ko, ks⟩ k) = some (.int .i64 j) := ⟨cbd, n5d, hcd⟩
            show wpE _ _ _ _ _ 12 13 (Array.replicate 13 false) _ _
            refine wpE_take (i := 0) (v := .pointer (some ⟨b, 3, none⟩)) (o := { dst := some 36, op := _, type := _, pos := _, after := _, guard := none }) rfl (by kernel_rfl) (by kernel_rfl) (by kernel_rfl) (by kernel_rfl) (fun _ _ _ h => h) (Or.inl ⟨by rfl, fun w' hSw => ?_⟩) hS ?_
            · (obtain ⟨s1, s2, s3⟩ := hSw; clear hS; go_simp)
            try simp only [Act.put, List.setIfInBounds_toArray, List.set_cons_zero, List.set_cons_succ]
            refine wpE_take (i := 1) (v := .slice ak k ck) (o := { dst := some 37, op := _, type := _, pos := _, after := _, guard := none }) rfl (by kernel_rfl) (by kernel_rfl) (by kernel_rfl) (by kernel_rfl) (fun _ _ _ h => h) (Or.inl ⟨by rfl, fun w' hSw => ?_⟩) hS ?_
            · (obtain ⟨s1, s2, s3⟩ := hSw; clear hS; go_simp)
            try simp only [Act.put, List.setIfInBounds_toArray, List.set_cons_zero, List.set_cons_succ]
            refine wpE_take (i := 2) (v := .pointer (some ⟨rb, 0, none⟩)) (o := { dst := some 38, op := _, type := _, pos := _, after := _, guard := none }) rfl (by kernel_rfl) (by kernel_rfl) (by kernel_rfl) (by kernel_rfl) (fun _ _ _ h => h) (Or.inl ⟨by rfl, fun w' hSw => ?_⟩) hS ?_
            · (obtain ⟨s1, s2, s3⟩ := hSw; clear hS; go_simp)
            try simp only [Act.put, List.setIfInBounds_toArray, List.set_cons_zero, List.set_cons_succ]
            refine wpE_take (i := 3) (v := .pointer (some ⟨R, 5, none⟩)) (o := { dst := some 39, op := _, type := _, pos := _, after := _, guard := none }) rfl (by kernel_rfl) (by kernel_rfl) (by kernel_rfl) (by kernel_rfl) (fun _ _ _ h => h) (Or.inl ⟨by rfl, fun w' hSw => ?_⟩) hS ?_
            · (obtain ⟨s1, s2, s3⟩ := hSw; clear hS; go_simp)
            try simp only [Act.put, List.setIfInBounds_toArray, List.set_cons_zero, List.set_cons_succ]
            refine wpE_take (i := 4) (v := .slice (some ⟨kb, ko, ks⟩) nd.kids.length kc) (o := { dst := some 40, op := _, type := _, pos := _, after := _, guard := none }) rfl (by kernel_rfl) (by kernel_rfl) (by kernel_rfl) (by kernel_rfl) (fun _ _ _ h => h) (Or.inl ⟨by rfl, fun w' hSw => ?_⟩) hS ?_
            · (obtain ⟨s1, s2, s3⟩ := hSw; clear hS; go_simp)
            try simp only [Act.put, List.setIfInBounds_toArray, List.set_cons_zero, List.set_cons_succ]
            refine wpE_take (i := 5) (v := .int .i64 k) (o := { dst := some 41, op := _, type := _, pos := _, after := _, guard := none }) rfl (by kernel_rfl) (by kernel_rfl) (by kernel_rfl) (by kernel_rfl) (fun _ _ _ h => h) (Or.inl ⟨by rfl, fun w' hSw => ?_⟩) hS ?_
            · (obtain ⟨s1, s2, s3⟩ := hSw; clear hS; go_simp)
            try simp only [Act.put, List.setIfInBounds_toArray, List.set_cons_zero, List.set_cons_succ]
            refine wpE_take (i := 6) (v := .pointer (some (Addr.add ⟨kb, ko, ks⟩ k))) (o := { dst := some 42, op := _, type := _, pos := _, after := _, guard := none }) rfl (by kernel_rfl) (by kernel_rfl) (by kernel_rfl) (by kernel_rfl) (fun _ _ _ h => h) (Or.inl ⟨by rfl, fun w' hSw => ?_⟩) hS ?_
            · (obtain ⟨s1, s2, s3⟩ := hSw; clear hS; go_simp)
            try simp only [Act.put, List.setIfInBounds_toArray, List.set_cons_zero, List.set_cons_succ]
            refine wpE_take (i := 7) (v := .int .i64 j) (o := { dst := some 43, op := _, type := _, pos := _, after := _, guard := none }) rfl (by kernel_rfl) (by kernel_rfl) (by kernel_rfl) (by kernel_rfl) (fun _ _ _ h => h) (Or.inl ⟨by rfl, fun w' hSw => ?_⟩) hS ?_
            · (obtain ⟨s1, s2, s3⟩ := hSw; clear hS; go_simp)
            try simp only [Act.put, List.setIfInBounds_toArray, List.set_cons_zero, List.set_cons_succ]
            obtain ⟨wd, hwd⟩ : ∃ wd : World, wd = wr.drew := ⟨_, rfl⟩
            rw [← hwd] at hS hxd cbd n5d hcd ⊢
            clear hwd
            refine wpE_one (i := 8) (o := { dst := some 44, op := _, type := _, pos := _, after := _, guard := none }) (by kernel_rfl) rfl (fun K hK => ?_)
            go_simp
            go_at_call 111
            refine (REC.out wd hxd).mono ?_
            rintro e wk ⟨v, g', rfl, hr', hxk, hg'⟩
            obtain ⟨av2, kv2, e2, ha2, hk2⟩ := hr'.open
            obtain ⟨aa2, acap2, e3, _⟩ := ha2.len_of
            obtain ⟨ka2, kcap2, e4, _⟩ := hk2
            subst e3 e4 e2
            have hR2' := Lib.hid hr'
            have hG := Lib.hid hg'
            have hcb := hxk.cell cbd
            have hn5 := hxk.cell n5d
            have hck' := hxk.cells _ _ hcd
            refine hK.out _ _ (.inr ⟨hcb, hn5, hck'⟩) ?_
            clear ha2 hr' hg'
            clear hK K
            try simp only [Act.put, List.setIfInBounds_toArray, List.set_cons_zero, List.set_cons_succ]
            refine wpE_one (i := 9) (o := { dst := some 45, op := _, type := _, pos := _, after := _, guard := none }) (by kernel_rfl) rfl (fun K hK => ?_)
            go_simp
            have xc := (Ext.refl wk).alloc (.cells #[.int .i64 (T.pln f j).tag, .slice aa2 (T.pln f j).attrs.length acap2, .string (T.pln f j).text, .slice ka2 (T.pln f j).kids.length kcap2] 30)
            have hcc := xc.cell hcb
            have hcn := xc.cell hn5
            have hcq := xc.cells _ _ hck'
            have hnew := cells_four (heap_alloc_new wk (.cells #[.int .i64 (T.pln f j).tag, .slice aa2 (T.pln f j).attrs.length acap2, .string (T.pln f j).text, .slice ka2 (T.pln f j).kids.length kcap2] 30))
            obtain ⟨cw, hcw⟩ : ∃ cw : World, cw = wk.alloc (.cells #[.int .i64 (T.pln f j).tag, .slice aa2 (T.pln f j).attrs.length acap2, .string (T.pln f j).text, .slice ka2 (T.pln f j).kids.length kcap2] 30) := ⟨_, rfl⟩
            rw [← hcw] at hcc hcn hcq xc hnew ⊢
            clear hcw
            refine hK.out _ _ (.inr ⟨hcc, hcn, hcq⟩) ?_
            obtain ⟨i0, hii, hz0, hz1, hz2⟩ := info_parts infoN
            obtain ⟨v', wA, row, hrunA, hrA, hgA, hrowA⟩ := run_append_row (P := Try.prog) cw 28 28 30 i0 noNode0 4 72 Try.underlying28 hii hz0 hz1 hz2 (by kernel_rfl) (by decide)
              (p := fun y => w2.heap.size ≤ y ∧ y ≠ b ∧ (Value.slice ak k ck).ownBlock = some y) (RowP.imp (RowP.ext HR2.out ((hxd.trans hxk).trans xc)) (fun y hy hp => ⟨hp.1, hp.2, hy⟩)) ⟨wk.heap.size, 0, none⟩ 1 1 _ rfl hnew (by simp [Value.oneCell']) (by decide) (by unfold maxLen; omega) (by omega)
            have FIN := Lib.hid (PlainAt.step HXR.out HB.out hb1 HR2.out HKB.out HGA.out HKX.out HGC.out HXX.out (hxd.trans hxk) hR2'.out (fun q y hq => ⟨(hG.out q y hq).1, Nat.le_trans hxd.size (hG.out q y hq).2⟩) xc hrA hgA hrowA)
            obtain ⟨a7, cap7, e7, _⟩ := hrA.rd.len_of
            subst e7
            have hne5 : ∀ z, row = some z → z ≠ R := fun z hz => by have := (hrowA z hz).1; omega
            have hnek : ∀ z, row = some z → z ≠ kb := fun z hz => by have := (hrowA z hz).1; have := HKL.out; omega
            have hcA : wA.cell? ⟨b, 3, none⟩ = some (.slice ak k ck) := (World.cell?_of_block (a := ⟨b, 3, none⟩) (hgA.block b (cell_lt hcc) (fun e => (hrowA b e.symm).2.1 rfl))).trans hcc
            have hfA : wA.frozen? ⟨b, 3, none⟩ = false := (World.frozen?_of_block (a := ⟨b, 3, none⟩) (hgA.block b (cell_lt hcc) (fun e => (hrowA b e.symm).2.1 rfl))).trans (Ext.free (((hxd.trans hxk).trans xc)) (cell_lt cb) fb)
            have hnA : wA.cell? ⟨R, 5, none⟩ = some (.slice (some ⟨kb, ko, ks⟩) nd.kids.length kc) := (World.cell?_of_block (a := ⟨R, 5, none⟩) (hgA.block R (cell_lt hcn) (fun e => hne5 R e.symm rfl))).trans hcn
            have hqA : wA.cell? (Addr.add ⟨kb, ko, ks⟩ k) = some (.int .i64 j) := (World.cell?_of_block (hgA.block _ (World.block_lt_of_cell? _ _ hcq) (fun e => hnek _ e.symm (by rw [addBlock])))).trans hcq
            have HRA := Lib.hid hrunA
            clear hrA hgA hrowA hrunA hii hz0 hz1 hz2 hnew hne5 hnek
            clear hK K
            try simp only [Act.put, List.setIfInBounds_toArray, List.set_cons_zero, List.set_cons_succ]
            refine wpE_one (i := 10) (o := { dst := some 46, op := _, type := _, pos := _, after := _, guard := none }) (by kernel_rfl) rfl (fun K hK => ?_)
            refine step_append_run (by rfl) _ _ 28 (by rfl) (.slice ak k ck) (.slice (some ⟨wk.heap.size, 0, none⟩) 1 1) (by rfl) (by rfl) (.slice a7 (k + 1) cap7) wA HRA.out ?_
            refine hK.out _ _ (.inr ⟨hcA, hnA, hqA⟩) ?_
            clear hK K
            try simp only [Act.put, List.setIfInBounds_toArray, List.set_cons_zero, List.set_cons_succ]
            refine wpE_one (i := 11) (o := { dst := some 47, op := _, type := _, pos := _, after := _, guard := none }) (by kernel_rfl) rfl (fun K hK => ?_)
            go_simp
            refine hK.out _ _ (.inr ⟨hcA, hnA, hqA⟩) ?_
            clear hK K
            try simp only [Act.put, List.setIfInBounds_toArray, List.set_cons_zero, List.set_cons_succ]
            refine wpE_one (i := 12) (o := { dst := none, op := _, type := _, pos := _, after := _, guard := none }) (by kernel_rfl) rfl (fun K hK => ?_)
            go_simp
            refine hK.out _ _ (.inl rfl) ?_
            clear hK K
            refine wpE_done (by kernel_rfl) ?_
            clear hnA hqA hcn hcq hn5 hck'
            clear hcA hfA hcc hcb hS cb fb
            obtain ⟨wz, hwz⟩ : ∃ wz : World, wz = wA.setCell ⟨b, 3, none⟩ (.slice a7 (k + 1) cap7) := ⟨_, rfl⟩
            rw [← hwz] at FIN ⊢
            clear hwz
            go_wp2_with fail
            go_roundw
            case rel => exact ⟨k + 1, by omega, by go_num, FIN.out⟩
            case measure => simp [intOf]; omega
        · obtain rfl : k = nd.kids.length := by omega
          have hbn : b ≠ u.heap.size := by omega
          have hbn' := Ne.symm hbn
          obtain ⟨ak, ck, rfl, hck⟩ := hr.rd.len_of
          have b0 := cellOf hb (i := 0) (v := .int .i64 nd.tag) rfl
          have b1 := cellOf hb (i := 1) (v := .slice ab nd.attrs.length bcap) rfl
          have b2 := cellOf hb (i := 2) (v := .string nd.text) rfl
          have b3 := cellOf hb (i := 3) (v := .slice ak nd.kids.length ck) rfl
          have hr0 := hxr.block HBU.out
          have r0 := cellOf hr0 (i := 0) (v := .int .i64 0) rfl
          have r1 := cellOf hr0 (i := 1) (v := .slice none 0 0) rfl
          have r2 := cellOf hr0 (i := 2) (v := .string ⟨#[]⟩) rfl
          have r3 := cellOf hr0 (i := 3) (v := .slice none 0 0) rfl
          have f0 := freeOf hr0 0
          have f1 := freeOf hr0 1
          have f2 := freeOf hr0 2
          have f3 := freeOf hr0 3
          have FIN := Lib.hid (plain_fin HXU.out hu2 hxr hb hr hga hkx hgc)
          clear hxr hb hr hkb hga hkx hgc hr0
          go_wp2_with fail
          exact bodyPost_ret (v := .agg #[.int .i64 nd.tag, .slice ab nd.attrs.length bcap, .string nd.text, .slice ak nd.kids.length ck]) (by simp [results, Try.results111, go_sem, r0, r1, r2, r3]) rfl (FIN.out _ _ _ _)
theorem rPlain_some {w : World} {rb : Nat} {T : Tr} (hR : RAt w rb T) {d : Nat → Nat} (hw : WF T d) (hA : AttrsOk T) {i : Nat} {nd : Nd} (h : T.nodes[i]? = some (some nd)) :
    Calls Try.prog 111 #[.pointer (some ⟨rb, 0, none⟩), .int .i64 i] w (PlainIs (T.plain i) w) :=
  rPlain_fuel hR hw hA 50 i nd w h (by omega) (Ext.refl w)
end Go.Proofs.Ytiglflmjidikpaa
