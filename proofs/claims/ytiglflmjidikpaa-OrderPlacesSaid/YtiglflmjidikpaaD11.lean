/- quillworkref08: SameAttrs, SameNode: of what reads the same they say true. No conditions.
Pure: what holds at the head of the loop of Plain; a step. No program in sight.
Package dom: Plain of a node that is not there. No conditions.
Pure: what is told of a good tree, and what is light, has no row of attributes that is too long.
Pure laws: a node taken off and hung up again; what lies within it stays as it was. No program in sight. -/
import Derived.Test.YtiglflmjidikpaaD9
import Derived.Test.YtiglflmjidikpaaD7
import Derived.Test.YtiglflmjidikpaaD4
namespace Go.Proofs.Ytiglflmjidikpaa
open Go Go.RowKit Go.BigFrame
set_option linter.unusedVariables false
set_option linter.unusedSimpArgs false

theorem attrCells_at : ∀ (l : List (ByteArray × ByteArray)) (k : Nat) (p : ByteArray × ByteArray), l[k]? = some p → (attrCells l)[k * 2]? = some (.string p.1) ∧ (attrCells l)[k * 2 + 1]? = some (.string p.2) := by
  intro l
  induction l with
  | nil => intro k p h; cases h
  | cons q r ih =>
    obtain ⟨a, b⟩ := q
    intro k p h
    cases k with
    | zero => cases h; exact ⟨rfl, rfl⟩
    | succ k =>
      have := ih k p h
      rw [show (k + 1) * 2 = k * 2 + 2 by omega]
      exact this
mutual
/-- no row of attributes is too long -/
def PN.fair : PN → Bool
  | .mk _ a _ ks => decide (a.length ≤ 60000) && PN.fairs ks
def PN.fairs : List PN → Bool
  | [] => true
  | k :: r => PN.fair k && PN.fairs r
end
theorem PN.fair_eq (n : PN) : n.fair = (decide (n.attrs.length ≤ 60000) && PN.fairs n.kids) := by cases n; rfl
theorem PN.fairs_mem {l : List PN} (h : PN.fairs l = true) {k : PN} (hk : k ∈ l) : k.fair = true := by
  induction l with
  | nil => cases hk
  | cons x r ih =>
    simp only [PN.fairs, Bool.and_eq_true] at h
    rcases List.mem_cons.1 hk with rfl | hk
    · exact h.1
    · exact ih h.2 hk
theorem PN.fairs_of {l : List PN} (h : ∀ k ∈ l, k.fair = true) : PN.fairs l = true := by
  induction l with
  | nil => rfl
  | cons x r ih =>
    simp only [PN.fairs, Bool.and_eq_true]
    exact ⟨h x (by simp), ih fun k hk => h k (by simp [hk])⟩
set_option maxRecDepth 100000 in
set_option maxHeartbeats 2000000 in
theorem SameAttrs_eq {w : World} {l : List (ByteArray × ByteArray)} {v v' : Value} (hlen : l.length ≤ 60000) (h : RowRd w 2 v l.length (attrCells l)) (h' : RowRd w 2 v' l.length (attrCells l)) :
    Calls Try.prog 89 #[v, v'] w (RBool true w) := by
  obtain ⟨_, ao, cap, rfl, hc, hno, hcl⟩ := h
  obtain ⟨_, ao', cap', rfl, hc', hno', hcl'⟩ := h'
  have HNO := Lib.hid hno
  have HNO' := Lib.hid hno'
  have HCL := Lib.hid hcl
  have HCL' := Lib.hid hcl'
  clear hno hno' hcl hcl'
  go_enter Try.func89, Try.ntmps89
  go_wp2_with fail
  go_loopw [5] (fun i wr => ∃ k : Nat, k ≤ l.length ∧ i = .int .i64 k ∧ Ext w wr) (fun i _ => l.length - (intOf i).toNat)
  case atStart => exact ⟨0, Nat.zero_le _, rfl, Ext.refl _⟩
  case round =>
    obtain ⟨k, hk, rfl, xr⟩ := hrel
    by_cases hkk : k < l.length
    · obtain ⟨p, hp⟩ : ∃ p, l[k]? = some p := ⟨l[k], by simp [hkk]⟩
      obtain ⟨e1, e2⟩ := attrCells_at l k p hp
      cases ao with
      | none => exact absurd (HNO.out rfl).1 (by omega)
      | some a =>
        cases ao' with
        | none => exact absurd (HNO'.out rfl).1 (by omega)
        | some a' =>
          obtain ⟨b, off, sp⟩ := a
          obtain ⟨b', off', sp'⟩ := a'
          have q0 := HCL.out _ rfl _ _ e1
          have q1 := HCL.out _ rfl _ _ e2
          have q0' := HCL'.out _ rfl _ _ e1
          have q1' := HCL'.out _ rfl _ _ e2
          rw [add_later _ _ _ (by decide)] at q1 q1'
          have XR := Lib.hid xr
          have d0 := fun u : ExtOf wr => u.ext.cells _ _ (xr.cells _ _ q0)
          have d1 := fun u : ExtOf wr => u.ext.cells _ _ (xr.cells _ _ q1)
          have d0' := fun u : ExtOf wr => u.ext.cells _ _ (xr.cells _ _ q0')
          have d1' := fun u : ExtOf wr => u.ext.cells _ _ (xr.cells _ _ q1')
          clear q0 q1 q0' q1' e1 e2 xr hp
          go_upto_region 6 with fail
          refine wp_region_ext (by kernel_rfl) (by kernel_rfl) ?_
          repeat (go_big_quiet_step (fail))
          refine wpQuiet_nil ?_
          rintro _ ⟨u, rfl⟩
          clear d0 d1 d0' d1'
          go_wp2_with fail
          go_roundw
          case rel => exact ⟨k + 1, by omega, by go_num, XR.out.trans u.ext⟩
          case measure => simp [intOf]; omega
    · go_wp2_with fail
      go_ret
      exact ⟨rfl, xr⟩
set_option maxRecDepth 100000 in
set_option maxHeartbeats 4000000 in
theorem SameNode_eq : ∀ (n : PN), n.fair = true → ∀ (w : World) (v v' : Value), RdN w n v → RdN w n v' → Calls Try.prog 26 #[v, v'] w (RBool true w) := by
  refine PN.induct _ fun n ih hfair w v v' h h' => ?_
  rw [PN.fair_eq] at hfair
  simp only [Bool.and_eq_true, decide_eq_true_eq] at hfair
  have hal := hfair.1
  have HF := Lib.hid hfair.2
  clear hfair
  obtain ⟨av, kv, rfl, hA, hK⟩ := h.open
  obtain ⟨av', kv', rfl, hA', hK'⟩ := h'.open
  obtain ⟨aa, acap, rfl, _⟩ := hA.len_of
  obtain ⟨aa', acap', rfl, _⟩ := hA'.len_of
  obtain ⟨ka, kcap, rfl, hkc, hkm, hkn, hk⟩ := hK
  obtain ⟨ka', kcap', rfl, hkc', hkm', hkn', hk'⟩ := hK'
  have IH := Lib.hid ih
  have HA := Lib.hid hA
  have HA' := Lib.hid hA'
  have HN := Lib.hid hkn
  have HN' := Lib.hid hkn'
  have HK := Lib.hid hk
  have HK' := Lib.hid hk'
  unfold maxLen at hkm hkm'
  clear ih hA hA' hkn hkn' hk hk' h h'
  have bM := heap_alloc_new w (.cells #[.int .i64 n.tag, .slice aa n.attrs.length acap, .string n.text, .slice ka n.kids.length kcap] 30)
  have xm := (Ext.refl w).alloc (.cells #[.int .i64 n.tag, .slice aa n.attrs.length acap, .string n.text, .slice ka n.kids.length kcap] 30)
  go_enter Try.func26, Try.ntmps26
  go_upto_region 1 with fail
  obtain ⟨wm, hwm⟩ : ∃ wm : World, wm = w.alloc (.cells #[.int .i64 n.tag, .slice aa n.attrs.length acap, .string n.text, .slice ka n.kids.length kcap] 30) := ⟨_, rfl⟩
  have hsz : wm.heap.size = w.heap.size + 1 := by rw [hwm]; simp
  rw [← hwm] at bM xm ⊢
  clear hwm
  have bM2 := heap_alloc_new wm (.cells #[.int .i64 n.tag, .slice aa' n.attrs.length acap', .string n.text, .slice ka' n.kids.length kcap'] 30)
  have xm2 := (Ext.refl wm).alloc (.cells #[.int .i64 n.tag, .slice aa' n.attrs.length acap', .string n.text, .slice ka' n.kids.length kcap'] 30)
  obtain ⟨wn, hwn⟩ : ∃ wn : World, wn = wm.alloc (.cells #[.int .i64 n.tag, .slice aa' n.attrs.length acap', .string n.text, .slice ka' n.kids.length kcap'] 30) := ⟨_, rfl⟩
  rw [← hwn] at bM2 xm2 ⊢
  clear hwn
  have b1 := (xm2.block bM)
  rw [hsz] at bM2
  have u0 := cellOf b1 (i := 0) (v := .int .i64 n.tag) rfl
  have u1 := cellOf b1 (i := 1) (v := .slice aa n.attrs.length acap) rfl
  have u2 := cellOf b1 (i := 2) (v := .string n.text) rfl
  have u3 := cellOf b1 (i := 3) (v := .slice ka n.kids.length kcap) rfl
  have t0 := cellOf bM2 (i := 0) (v := .int .i64 n.tag) rfl
  have t1 := cellOf bM2 (i := 1) (v := .slice aa' n.attrs.length acap') rfl
  have t2 := cellOf bM2 (i := 2) (v := .string n.text) rfl
  have t3 := cellOf bM2 (i := 3) (v := .slice ka' n.kids.length kcap') rfl
  have HX := Lib.hid (xm.trans xm2)
  have U3 := Lib.hid u3
  have T3 := Lib.hid t3
  clear bM xm bM2 xm2 b1
  go_wp2_with fail
  refine (SameAttrs_eq hal (HA.out.ext HX.out) (HA'.out.ext HX.out)).mono ?_
  rintro e w3 ⟨rfl, hx3⟩
  clear u0 u1 u2 u3 t0 t1 t2 t3
  have u3 := hx3.cell U3.out
  have t3 := hx3.cell T3.out
  have HX3 := Lib.hid (HX.out.trans hx3)
  clear hx3
  go_wp2_with fail
  have U3' := Lib.hid u3
  have T3' := Lib.hid t3
  clear u3 t3
  go_loopw [5] (fun i wr => ∃ k : Nat, k ≤ n.kids.length ∧ i = .int .i64 k ∧ Ext w3 wr) (fun i _ => n.kids.length - (intOf i).toNat)
  case atStart => exact ⟨0, Nat.zero_le _, rfl, Ext.refl _⟩
  case round =>
    obtain ⟨k, hk, rfl, xr⟩ := hrel
    have u3 := xr.cell U3'.out
    have t3 := xr.cell T3'.out
    have XR := Lib.hid xr
    have XW := Lib.hid (HX3.out.trans xr)
    clear xr
    by_cases hkk : k < n.kids.length
    · obtain ⟨x, hx⟩ : ∃ x, n.kids[k]? = some x := ⟨n.kids[k], by simp [hkk]⟩
      cases ka with
      | none => exact absurd (HN.out rfl).1 (by omega)
      | some a =>
        cases ka' with
        | none => exact absurd (HN'.out rfl).1 (by omega)
        | some a' =>
          obtain ⟨b, off, sp⟩ := a
          obtain ⟨b', off', sp'⟩ := a'
          obtain ⟨c0, c1, c2, c3, q0, q1, q2, q3, hr⟩ := HK.out _ rfl k x hx
          obtain ⟨c0', c1', c2', c3', q0', q1', q2', q3', hr'⟩ := HK'.out _ rfl k x hx
          obtain ⟨y1, y2, en, hy1, hy2⟩ := hr.open
          obtain ⟨y1a, y1c, ey1, _⟩ := hy1.len_of
          obtain ⟨y2a, y2c, ey2, _⟩ := hy2
          subst ey1 ey2
          cases en
          obtain ⟨z1, z2, en', hz1, hz2⟩ := hr'.open
          obtain ⟨z1a, z1c, ez1, _⟩ := hz1.len_of
          obtain ⟨z2a, z2c, ez2, _⟩ := hz2
          subst ez1 ez2
          cases en'
          rw [add_later _ _ _ (by decide)] at q1 q2 q3 q1' q2' q3'
          have X := XW.out.cells
          have d0 := fun u : ExtOf wr => u.ext.cells _ _ (X _ _ q0)
          have d1 := fun u : ExtOf wr => u.ext.cells _ _ (X _ _ q1)
          have d2 := fun u : ExtOf wr => u.ext.cells _ _ (X _ _ q2)
          have d3 := fun u : ExtOf wr => u.ext.cells _ _ (X _ _ q3)
          have d0' := fun u : ExtOf wr => u.ext.cells _ _ (X _ _ q0')
          have d1' := fun u : ExtOf wr => u.ext.cells _ _ (X _ _ q1')
          have d2' := fun u : ExtOf wr => u.ext.cells _ _ (X _ _ q2')
          have d3' := fun u : ExtOf wr => u.ext.cells _ _ (X _ _ q3')
          have du := fun u : ExtOf wr => u.ext.cell u3
          have dt := fun u : ExtOf wr => u.ext.cell t3
          have CALL := Lib.hid (show ∀ u : ExtOf wr, Calls Try.prog 26 #[_, _] u.val (RBool true u.val) from fun u => IH.out x (List.mem_of_getElem? hx) (PN.fairs_mem HF.out (List.mem_of_getElem? hx)) u.val _ _ (hr.cells (XW.out.trans u.ext).cells) (hr'.cells (XW.out.trans u.ext).cells))
          clear q0 q1 q2 q3 q0' q1' q2' q3' X hr hr' hy1 hz1 hx
          go_upto_region 6 with fail
          refine wp_region_ext (by kernel_rfl) (by kernel_rfl) ?_
          repeat (go_big_quiet_step ((go_at_call 26; exact inExt (CALL.out _))))
          refine wpQuiet_nil ?_
          rintro _ ⟨u, rfl⟩
          clear d0 d1 d2 d3 d0' d1' d2' d3' du dt u3 t3
          go_wp2_with fail
          go_roundw
          case rel => exact ⟨k + 1, by omega, by go_num, XR.out.trans u.ext⟩
          case measure => simp [intOf]; omega
    · go_wp2_with fail
      go_ret
      exact ⟨rfl, XW.out⟩
end Go.Proofs.Ytiglflmjidikpaa

namespace Go.Proofs.Ytiglflmjidikpaa
open Go Go.RowKit Go.BigFrame
set_option linter.unusedVariables false
set_option linter.unusedSimpArgs false

abbrev noNode0 : Value := .agg #[.int .i64 0, .slice none 0 0, .string ⟨#[]⟩, .slice none 0 0]
/-- a plain tree in new memory is returned -/
def PlainIs (n : PN) (w : World) (e : Ending) (w' : World) : Prop := ∃ v g, e = .returned v ∧ RdN g n v ∧ Ext w w' ∧ ∀ q x, g.cell? q = some x → w'.cell? q = some x ∧ w.heap.size ≤ q.block
/-- the box of the plain node: its four cells -/
def PlainBox (w0 wx : World) (b : Nat) (tag : Int) (attrs : List (ByteArray × ByteArray)) (text : ByteArray) : Prop := ∃ aa acap, wx.heap[b]? = some (.cells #[.int .i64 tag, .slice aa attrs.length acap, .string text, .slice none 0 0] 30 (0, 0)) ∧
  RowP wx (fun g => w0.heap.size ≤ g ∧ g ≠ b) 44 2 (.slice aa attrs.length acap) attrs.length (attrCells attrs)
theorem RowP.below {w : World} {p : Nat → Prop} {e size : Nat} {v : Value} {n : Nat} {xs : List Value} (h : RowP w p e size v n xs) : RowP w (fun g => p g ∧ g < w.heap.size) e size v n xs := by
  obtain ⟨h1, h2 | ⟨g, cap, cur, rfl, h3, h4, h5⟩⟩ := h
  · exact ⟨h1, .inl h2⟩
  · refine ⟨h1, .inr ⟨g, cap, cur, rfl, ⟨h3, ?_⟩, h4, h5⟩⟩
    rcases Nat.lt_or_ge g w.heap.size with h | h
    · exact h
    · rw [Array.getElem?_eq_none h] at h4; cases h4
theorem plainBox_new {w1 w5 : World} {B : Nat} {tag : Int} {attrs : List (ByteArray × ByteArray)} {text : ByteArray} {aa : Option Addr} {acap : Nat} (hB : w1.heap.size ≤ B) (x : Ext w1 w5) (h : RowIn w5 B 44 2 (.slice aa attrs.length acap) attrs.length (attrCells attrs)) :
    PlainBox w1 (w5.alloc (.cells #[.int .i64 tag, .slice aa attrs.length acap, .string text, .slice none 0 0] 30)) w5.heap.size tag attrs text :=
  ⟨aa, acap, heap_alloc_new _ _, RowP.imp (RowP.ext (RowP.below h) ((Ext.refl w5).alloc _)) fun g _ hg => ⟨Nat.le_trans hB hg.1, Nat.ne_of_lt hg.2⟩⟩
theorem plainBox_old {w1 w5 : World} {B b : Nat} {tag : Int} {attrs : List (ByteArray × ByteArray)} {text : ByteArray} {aa : Option Addr} {acap : Nat} (hB : w1.heap.size ≤ B) (hb : b < B) (h : RowIn w5 B 44 2 (.slice aa attrs.length acap) attrs.length (attrCells attrs))
    {cs : Array Value} (hs : cs.size = 4) (hx : w5.heap[b]? = some (.cells cs 30 (0, 0))) :
    PlainBox w1 ((((w5.setCell ⟨b, 0, none⟩ (.int .i64 tag)).setCell ⟨b, 1, none⟩ (.slice aa attrs.length acap)).setCell ⟨b, 2, none⟩ (.string text)).setCell ⟨b, 3, none⟩ (.slice none 0 0)) b tag attrs text := by
  have e := heap_setCell_same (i := 3) (heap_setCell_same (i := 2) (heap_setCell_same (i := 1) (heap_setCell_same (i := 0) hx (.int .i64 tag)) (.slice aa attrs.length acap)) (.string text)) (.slice none 0 0)
  refine ⟨aa, acap, ?_, RowP.move h fun g hg => ⟨?_, Nat.le_trans hB hg, by have : B ≤ g := hg; omega⟩⟩
  · rw [e]
    obtain ⟨l⟩ := cs
    match l, hs with
    | [c0, c1, c2, c3], _ => rfl
  · have hne : g ≠ b := by have : B ≤ g := hg; omega
    rw [heap_setCell_other (p := ⟨b, 3, none⟩) _ hne, heap_setCell_other (p := ⟨b, 2, none⟩) _ hne, heap_setCell_other (p := ⟨b, 1, none⟩) _ hne, heap_setCell_other (p := ⟨b, 0, none⟩) _ hne]
/-- what is told at the loop's head: k kids stand in the row; a reading world tells the row of attributes and the kids -/
structure PlainAt (w1 wr : World) (b : Nat) (nd : Nd) (F : Int → PN) (aa : Option Addr) (acap k : Nat) : Prop where
  ext : Ext w1 wr
  row : ∃ kv xs g, wr.heap[b]? = some (.cells #[.int .i64 nd.tag, .slice aa nd.attrs.length acap, .string nd.text, kv] 30 (0, 0)) ∧ RowP wr (fun x => w1.heap.size ≤ x ∧ x ≠ b) 30 4 kv k xs ∧ (∀ y, kv.ownBlock = some y → y < wr.heap.size) ∧
    RowRd g 2 (.slice aa nd.attrs.length acap) nd.attrs.length (attrCells nd.attrs) ∧
    (∀ (j : Nat) (x : Int), j < k → nd.kids[j]? = some x → ∃ c0 c1 c2 c3, xs[j * 4]? = some c0 ∧ xs[j * 4 + 1]? = some c1 ∧ xs[j * 4 + 2]? = some c2 ∧ xs[j * 4 + 3]? = some c3 ∧ RdN g (F x) (.agg #[c0, c1, c2, c3])) ∧
    ∀ q x, g.cell? q = some x → wr.cell? q = some x ∧ w1.heap.size ≤ q.block ∧ q.block ≠ b ∧ kv.ownBlock ≠ some q.block
theorem PlainBox.at {w1 wx : World} {b : Nat} {nd : Nd} (F : Int → PN) (h : PlainBox w1 wx b nd.tag nd.attrs nd.text) (x : Ext w1 wx) :
    ∃ aa acap, PlainAt w1 wx b nd F aa acap 0 := by
  obtain ⟨aa, acap, hb, hr⟩ := h
  refine ⟨aa, acap, x, .slice none 0 0, [], hide (fun y => if w1.heap.size ≤ y ∧ y ≠ b then none else some (0, 0)) wx, hb, ⟨rfl, .inl ⟨rfl, none, rfl⟩⟩, (fun y e => by cases e), ?_, fun j x hj => by omega, fun q y hq => ?_⟩
  · have hr' := hr
    obtain ⟨h1, h2⟩ := hr
    obtain ⟨h3, ao, cap, h4, h5, h6, h7⟩ := hr'.rd
    refine ⟨h3, ao, cap, h4, h5, h6, fun a ha j x hx => ?_⟩
    refine hide_cell (h7 a ha j x hx) ?_
    rcases h2 with ⟨h8, a8, h9⟩ | ⟨g, cap', cur, h8, h9, _⟩
    · rw [h8] at h1
      have h0 : attrCells nd.attrs = [] := List.eq_nil_of_length_eq_zero (by omega)
      rw [h0] at hx
      simp at hx
    · rw [h4] at h8
      cases h8
      cases ha
      rw [Addr.add_lit]
      exact if_pos h9
  · obtain ⟨h1, h2⟩ := hide_apart _ _ q y hq
    dsimp only at h2
    split at h2
    · rename_i h3
      exact ⟨h1, h3.1, h3.2, fun e => by cases e⟩
    · cases h2
theorem PlainAt.step {w1 wr wk cw wA : World} {b : Nat} {nd : Nd} {F : Int → PN} {aa : Option Addr} {acap k : Nat} {kv v' : Value} {xs : List Value} {g g' : World} {x : Int} {c0 c1 c2 c3 : Value} {row : Option Nat}
    (hx : Ext w1 wr) (hb : wr.heap[b]? = some (.cells #[.int .i64 nd.tag, .slice aa nd.attrs.length acap, .string nd.text, kv] 30 (0, 0))) (hb1 : w1.heap.size ≤ b)
    (hr : RowP wr (fun x => w1.heap.size ≤ x ∧ x ≠ b) 30 4 kv k xs) (hkb : ∀ y, kv.ownBlock = some y → y < wr.heap.size) (ha : RowRd g 2 (.slice aa nd.attrs.length acap) nd.attrs.length (attrCells nd.attrs))
    (hk : ∀ (j : Nat) (x : Int), j < k → nd.kids[j]? = some x → ∃ c0 c1 c2 c3, xs[j * 4]? = some c0 ∧ xs[j * 4 + 1]? = some c1 ∧ xs[j * 4 + 2]? = some c2 ∧ xs[j * 4 + 3]? = some c3 ∧ RdN g (F x) (.agg #[c0, c1, c2, c3]))
    (hg : ∀ q x, g.cell? q = some x → wr.cell? q = some x ∧ w1.heap.size ≤ q.block ∧ q.block ≠ b ∧ kv.ownBlock ≠ some q.block)
    (hn : nd.kids[k]? = some x) (hxk : Ext wr wk) (hr' : RdN g' (F x) (.agg #[c0, c1, c2, c3])) (hg' : ∀ q y, g'.cell? q = some y → wk.cell? q = some y ∧ wr.heap.size ≤ q.block)
    (hxc : Ext wk cw) (hA : RowP wA (fun y => (w1.heap.size ≤ y ∧ y ≠ b ∧ kv.ownBlock = some y) ∨ cw.heap.size ≤ y) 30 4 v' (k + 1) (xs ++ [c0, c1, c2, c3])) (hgA : cw.grownBy wA row) (hrow : ∀ z, row = some z → w1.heap.size ≤ z ∧ z ≠ b ∧ kv.ownBlock = some z) :
    PlainAt w1 (wA.setCell ⟨b, 3, none⟩ v') b nd F aa acap (k + 1) := by
  have hbl : b < wr.heap.size := (Array.getElem?_eq_some_iff.1 hb).1
  have hxc2 : Ext wr cw := hxk.trans hxc
  have hs1 := Ext.size hx
  have hs2 := Ext.size hxk
  have hs3 := Ext.size hxc
  have hlen : xs.length = k * 4 := hr.1
  have hbA : wA.heap[b]? = some (.cells #[.int .i64 nd.tag, .slice aa nd.attrs.length acap, .string nd.text, kv] 30 (0, 0)) := by
    rw [hgA.block b (by omega) (fun e => (hrow b e.symm).2.1 rfl)]
    exact hxc2.block hb
  -- a cell of a block that is neither b nor the rows' own
  have keep : ∀ q y, cw.cell? q = some y → q.block ≠ b → kv.ownBlock ≠ some q.block → (wA.setCell ⟨b, 3, none⟩ v').cell? q = some y := fun q y hq h1 h2 => by
    have hl := World.block_lt_of_cell? cw q hq
    have e1 : wA.cell? q = some y := (World.cell?_of_block (hgA.block q.block hl (fun e => h2 (hrow q.block e.symm).2.2))).trans hq
    exact (World.cell?_of_block (heap_setCell_other (p := ⟨b, 3, none⟩) _ h1)).trans e1
  have vown : ∀ y, v'.ownBlock = some y → (w1.heap.size ≤ y ∧ y ≠ b ∧ kv.ownBlock = some y) ∨ cw.heap.size ≤ y := fun y hy => by
    rcases hA.2 with ⟨h0, _⟩ | ⟨gb, cap, cur, h8, h9, _⟩
    · omega
    · rw [h8] at hy; cases hy; exact h9
  have hkey : ∀ q y, cw.cell? q = some y → w1.heap.size ≤ q.block → q.block ≠ b → kv.ownBlock ≠ some q.block → (hide (fun y => if w1.heap.size ≤ y ∧ y ≠ b ∧ v'.ownBlock ≠ some y then none else some (0, 0)) (wA.setCell ⟨b, 3, none⟩ v')).cell? q = some y := fun q y hq h0 h1 h2 => by
    refine hide_cell (keep q y hq h1 h2) (if_pos ⟨h0, h1, fun e => ?_⟩)
    rcases vown _ e with h | h
    · exact h2 h.2.2
    · have := World.block_lt_of_cell? cw q hq; omega
  have cg : Cells g (hide (fun y => if w1.heap.size ≤ y ∧ y ≠ b ∧ v'.ownBlock ≠ some y then none else some (0, 0)) (wA.setCell ⟨b, 3, none⟩ v')) := fun q y hq => by
    obtain ⟨h1, h2, h3, h4⟩ := hg q y hq
    exact hkey q y (hxc2.cells _ _ h1) h2 h3 h4
  have cg' : Cells g' (hide (fun y => if w1.heap.size ≤ y ∧ y ≠ b ∧ v'.ownBlock ≠ some y then none else some (0, 0)) (wA.setCell ⟨b, 3, none⟩ v')) := fun q y hq => by
    obtain ⟨h1, h2⟩ := hg' q y hq
    exact hkey q y (hxc.cells _ _ h1) (by omega) (by omega) fun e => by have := hkb _ e; omega
  refine ⟨?_, v', xs ++ [c0, c1, c2, c3], _, ?_, ?_, fun y hy => ?_, ha.cells cg, fun j z hj hz => ?_, fun q y hq => ?_⟩
  · refine Ext.setCell ((hx.trans hxc2).grown hgA fun z hz => (hrow z hz).1) hb1 _
  · have e := heap_setCell_same (i := 3) hbA v'
    rw [e]; rfl
  · refine RowP.move hA fun gb hgb => ⟨heap_setCell_other (p := ⟨b, 3, none⟩) _ ?_, ?_⟩
    · rcases hgb with h | h
      · exact h.2.1
      · show gb ≠ b; omega
    · rcases hgb with h | h
      · exact ⟨h.1, h.2.1⟩
      · exact ⟨by omega, by omega⟩
  · rcases hA.2 with ⟨h0, _⟩ | ⟨gb, cap, cur, h8, h9, h10, _⟩
    · omega
    · rw [h8] at hy; cases hy
      have := (Array.getElem?_eq_some_iff.1 h10).1
      simpa [World.setCell] using this
  · by_cases e : j = k
    · subst e
      rw [hn] at hz
      cases hz
      refine ⟨c0, c1, c2, c3, ?_, ?_, ?_, ?_, hr'.cells cg'⟩ <;> simp [← hlen]
    · obtain ⟨d0, d1, d2, d3, q0, q1, q2, q3, hq⟩ := hk j z (by omega) hz
      exact ⟨d0, d1, d2, d3, by rw [List.getElem?_append_left (by omega)]; exact q0, by rw [List.getElem?_append_left (by omega)]; exact q1, by rw [List.getElem?_append_left (by omega)]; exact q2, by rw [List.getElem?_append_left (by omega)]; exact q3, hq.cells cg⟩
  · obtain ⟨h1, h2⟩ := hide_apart _ _ q y hq
    dsimp only at h2
    split at h2
    · rename_i h3
      exact ⟨h1, h3.1, h3.2.1, h3.2.2⟩
    · cases h2
theorem infoN : (Try.prog.info? 30).map (fun i => (i.zero, i.size, i.bytes)) = some (some noNode0, 4, 72) := by kernel_rfl
theorem cells_four {w : World} {b : Nat} {c0 c1 c2 c3 : Value} {t : TypeId} (h : w.heap[b]? = some (.cells #[c0, c1, c2, c3] t (0, 0))) : ∀ (j : Nat) u, [c0, c1, c2, c3][j]? = some u → w.cell? (Addr.add ⟨b, 0, none⟩ j) = some u := by
  intro j u hu
  rw [Addr.add_lit, Nat.zero_add]
  refine cellOf h ?_
  simpa using hu
/-- what is handed back: the box's cells, stored into the result's -/
theorem plain_fin {u w1 wr : World} {b : Nat} {nd : Nd} {F : Int → PN} {aa ak : Option Addr} {acap ck : Nat} {xs : List Value} {g : World} (hu : Ext u w1) (hB : u.heap.size < w1.heap.size) (hx : Ext w1 wr)
    (hb : wr.heap[b]? = some (.cells #[.int .i64 nd.tag, .slice aa nd.attrs.length acap, .string nd.text, .slice ak nd.kids.length ck] 30 (0, 0)))
    (hr : RowP wr (fun x => w1.heap.size ≤ x ∧ x ≠ b) 30 4 (.slice ak nd.kids.length ck) nd.kids.length xs) (ha : RowRd g 2 (.slice aa nd.attrs.length acap) nd.attrs.length (attrCells nd.attrs))
    (hk : ∀ (j : Nat) (x : Int), j < nd.kids.length → nd.kids[j]? = some x → ∃ c0 c1 c2 c3, xs[j * 4]? = some c0 ∧ xs[j * 4 + 1]? = some c1 ∧ xs[j * 4 + 2]? = some c2 ∧ xs[j * 4 + 3]? = some c3 ∧ RdN g (F x) (.agg #[c0, c1, c2, c3]))
    (hg : ∀ q x, g.cell? q = some x → wr.cell? q = some x ∧ w1.heap.size ≤ q.block ∧ q.block ≠ b ∧ (Value.slice ak nd.kids.length ck).ownBlock ≠ some q.block) (c0 c1 c2 c3 : Value) :
    PlainIs (.mk nd.tag nd.attrs nd.text (nd.kids.map F)) u (.returned (.agg #[.int .i64 nd.tag, .slice aa nd.attrs.length acap, .string nd.text, .slice ak nd.kids.length ck]))
      ((((wr.setCell ⟨u.heap.size, 0, none⟩ c0).setCell ⟨u.heap.size, 1, none⟩ c1).setCell ⟨u.heap.size, 2, none⟩ c2).setCell ⟨u.heap.size, 3, none⟩ c3) := by
  have hux : Ext u wr := hu.trans hx
  obtain ⟨w3, hw3⟩ : ∃ w3 : World, w3 = (((wr.setCell ⟨u.heap.size, 0, none⟩ c0).setCell ⟨u.heap.size, 1, none⟩ c1).setCell ⟨u.heap.size, 2, none⟩ c2).setCell ⟨u.heap.size, 3, none⟩ c3 := ⟨_, rfl⟩
  have e3 : Ext u w3 := hw3 ▸ (((hux.setCell (Nat.le_refl _) _).setCell (Nat.le_refl _) _).setCell (Nat.le_refl _) _).setCell (Nat.le_refl _) _
  have k3 : ∀ q y, wr.cell? q = some y → q.block ≠ u.heap.size → w3.cell? q = some y := fun q y hq hn => by
    rw [hw3, ← hq]
    refine World.cell?_of_block ?_
    rw [heap_setCell_other (p := ⟨u.heap.size, 3, none⟩) _ hn, heap_setCell_other (p := ⟨u.heap.size, 2, none⟩) _ hn, heap_setCell_other (p := ⟨u.heap.size, 1, none⟩) _ hn, heap_setCell_other (p := ⟨u.heap.size, 0, none⟩) _ hn]
  rw [← hw3]
  clear hw3
  have kk : ∀ q y, wr.cell? q = some y → w1.heap.size ≤ q.block → (hide (fun y => if w1.heap.size ≤ y then none else some (0, 0)) w3).cell? q = some y := fun q y hq hl => hide_cell (k3 q y hq (by omega)) (if_pos hl)
  have cg : Cells g (hide (fun y => if w1.heap.size ≤ y then none else some (0, 0)) w3) := fun q y hq => by
    obtain ⟨h1, h2, _⟩ := hg q y hq
    exact kk q y h1 h2
  refine ⟨_, hide (fun y => if w1.heap.size ≤ y then none else some (0, 0)) w3, rfl, RdN.mk' (n := .mk nd.tag nd.attrs nd.text (nd.kids.map F)) (ha.cells cg) ?_, e3, fun q y hq => ?_⟩
  · show KidsRd _ (nd.kids.map F) _
    obtain ⟨h1, h2 | ⟨gb, cap, cur, h8, h9, h10, h11, h12, h13, h14⟩⟩ := id hr
    · obtain ⟨h0, a0, h9⟩ := h2
      injection h9 with e1 e2 e3
      refine ⟨ak, ck, by rw [List.length_map], by rw [List.length_map]; omega, by omega, fun _ => ⟨by rw [List.length_map]; exact h0, e3⟩, fun a ha' j x hx' => ?_⟩
      have := (List.getElem?_eq_some_iff.1 hx').1
      rw [List.length_map] at this; omega
    · cases h8
      refine ⟨_, ck, by rw [List.length_map], by rw [List.length_map]; exact h11, h12, (fun e => by cases e), fun a ha' j x hx' => ?_⟩
      cases ha'
      rw [List.getElem?_map] at hx'
      obtain ⟨y, hy, rfl⟩ := Option.map_eq_some_iff.1 hx'
      obtain ⟨d0, d1, d2, d3, q0, q1, q2, q3, hq⟩ := hk j y (List.getElem?_eq_some_iff.1 hy).1 hy
      have cell : ∀ (m : Nat) z, xs[m]? = some z → (hide (fun y => if w1.heap.size ≤ y then none else some (0, 0)) w3).cell? (Addr.add ⟨gb, 0, none⟩ m) = some z := fun m z hz => by
        rw [Addr.add_lit, Nat.zero_add]
        refine kk ⟨gb, m, none⟩ z (cellOf h10 ?_) h9.1
        rw [← h14, List.getElem?_take] at hz
        split at hz
        · simpa using hz
        · cases hz
      exact ⟨d0, d1, d2, d3, cell _ _ q0, cell _ _ q1, cell _ _ q2, cell _ _ q3, hq.cells cg⟩
  · obtain ⟨h1, h2⟩ := hide_apart _ _ q y hq
    dsimp only at h2
    split at h2
    · rename_i h3
      exact ⟨h1, by omega⟩
    · cases h2
end Go.Proofs.Ytiglflmjidikpaa

namespace Go.Proofs.Ytiglflmjidikpaa
open Go Go.RowKit Go.BigFrame
set_option linter.unusedVariables false
set_option linter.unusedSimpArgs false

set_option maxRecDepth 100000 in
set_option maxHeartbeats 1000000 in
theorem Plain_none {w : World} {own : Ow} {ptr : Nat → Nat} {tb : Nat} {T : Tr} (hT : TreeAt w own ptr tb T) (hO : Owned own w) {id : Int} (h : T.get? id = none) :
    Calls Try.prog 18 #[.pointer (some ⟨tb, 0, none⟩), .int .i64 id] w (RVal noNode w) := by
  have H := Lib.hid h
  have xu := (Ext.refl w).alloc (.cells #[.int .i64 0, .slice none 0 0, .string ⟨#[]⟩, .slice none 0 0] 30)
  have HT := Lib.hid (hT.keep (xu.keep hO))
  clear h hT xu
  go_enter Try.func18, Try.ntmps18
  go_wp2_with (go_at_call 80; refine (get_none HT.out H.out).mono ?_; rintro e w' ⟨rfl, rfl⟩)
  refine bodyPost_ret (v := noNode) (by simp [results, Try.results18, go_sem]; rfl) rfl ⟨rfl, ?_⟩
  repeat (first | exact Ext.refl _ | refine Ext.alloc ?_ _)
end Go.Proofs.Ytiglflmjidikpaa

namespace Go.Proofs.Ytiglflmjidikpaa
open Go Go.RowKit Go.BigFrame
set_option linter.unusedVariables false
set_option linter.unusedSimpArgs false

theorem pln_fair {T : Tr} (hA : AttrsOk T) : ∀ (f : Nat) (id : Int), (T.pln f id).fair = true := by
  intro f
  induction f with
  | zero => intro id; rfl
  | succ f ih =>
    intro id
    show (match T.get? id with | none => noPN | some nd => _).fair = true
    cases hg : T.get? id with
    | none => rfl
    | some nd =>
      show (PN.mk nd.tag nd.attrs nd.text (nd.kids.map (T.pln f))).fair = true
      rw [PN.fair_eq]
      simp only [Bool.and_eq_true, decide_eq_true_eq]
      refine ⟨(hA _ nd (Tr.get_lt hg).2.2).1, PN.fairs_of fun k hk => ?_⟩
      obtain ⟨x, _, rfl⟩ := List.mem_map.1 hk
      exact ih x
theorem plain_fair {T : Tr} (hA : AttrsOk T) (id : Int) : (T.plain id).fair = true := pln_fair hA 50 id
theorem PN.light_fair : ∀ n : PN, n.light = true → n.fair = true := by
  refine PN.induct _ fun n ih h => ?_
  rw [PN.light_eq] at h
  simp only [Bool.and_eq_true, decide_eq_true_eq] at h
  rw [PN.fair_eq]
  simp only [Bool.and_eq_true, decide_eq_true_eq]
  refine ⟨by omega, PN.fairs_of fun k hk => ih k hk ?_⟩
  have : ∀ l : List PN, PN.lights l = true → k ∈ l → k.light = true := by
    intro l
    induction l with
    | nil => intro _ h; cases h
    | cons x r ih2 =>
      intro hl hm
      simp only [PN.lights, Bool.and_eq_true] at hl
      rcases List.mem_cons.1 hm with rfl | hm
      · exact hl.1
      · exact ih2 hl.2 hm
  exact this n.kids h.2 hk
end Go.Proofs.Ytiglflmjidikpaa

namespace Go.Proofs.Ytiglflmjidikpaa
open Go Go.RowKit Go.BigFrame
set_option linter.unusedVariables false
set_option linter.unusedSimpArgs false

theorem set_same {α : Type} {l : List α} {i : Nat} {x : α} (h : l[i]? = some x) : l.set i x = l := by
  obtain ⟨hlt, rfl⟩ := List.getElem?_eq_some_iff.1 h
  exact List.set_getElem_self hlt
/-- two nodes turned twice -/
theorem Tr.set2_set2 (T : Tr) {p k : Nat} (hpk : p ≠ k) (pd kd pd' kd' : Nd) : (T.set2 p k pd' kd').set2 p k pd kd = T.set2 p k pd kd := by
  unfold Tr.set2
  simp only [Tr.mk.injEq, true_and]
  rw [List.set_comm _ _ (Ne.symm hpk), List.set_set, List.set_set]
theorem Tr.set2_self {T : Tr} {p k : Nat} (hpk : p ≠ k) {pd kd : Nd} (hp : T.nodes[p]? = some (some pd)) (hk : T.nodes[k]? = some (some kd)) : T.set2 p k pd kd = T := by
  show { T with nodes := (T.nodes.set p (some pd)).set k (some kd) } = T
  rw [set_same hp, set_same hk]
theorem erase_mid {l : List Int} {x : Int} (hx : x ∉ l) (i : Nat) : (l.take i ++ [x] ++ l.drop i).erase x = l := by
  rw [List.append_assoc, List.erase_append_right _ (fun h => hx (List.mem_of_mem_take h))]
  simp
theorem mid_erase {l : List Int} (hn : l.Nodup) {x : Int} (hx : x ∈ l) : (l.erase x).take (l.idxOf x) ++ [x] ++ (l.erase x).drop (l.idxOf x) = l := by
  have hlt : l.idxOf x < l.length := List.idxOf_lt_length_of_mem hx
  rw [List.erase_eq_eraseIdx_of_idxOf rfl, List.eraseIdx_eq_take_drop_succ]
  generalize hi : l.idxOf x = i at *
  have hx : l[i] = x := by subst hi; exact List.getElem_idxOf hlt
  have ht : (l.take i).length = i := by rw [List.length_take]; omega
  rw [List.take_append_of_le_length (by omega), List.take_of_length_le (by omega), List.drop_append_of_le_length (by omega), List.drop_of_length_le (by omega), List.nil_append, ← hx, List.append_assoc]
  simp
/-- hung up and taken off again -/
theorem Tr.unlink_link {T : Tr} {p k at' : Nat} {pd kd : Nd} (hp : T.nodes[p]? = some (some pd)) (hk : T.nodes[k]? = some (some kd)) (hpk : p ≠ k) (hpar : kd.parent = -1) (hno : (k : Int) ∉ pd.kids) :
    (T.link p at' k pd kd).unlink p k { pd with kids := pd.kids.take at' ++ [(k : Int)] ++ pd.kids.drop at' } { kd with parent := p } = T := by
  rw [Tr.link_eq]
  unfold Tr.unlink
  rw [Tr.set2_set2 _ hpk]
  have e1 : ({ pd with kids := (pd.kids.take at' ++ [(k : Int)] ++ pd.kids.drop at').erase (k : Int) } : Nd) = pd := by rw [erase_mid hno]
  have e2 : ({ kd with parent := -1 } : Nd) = kd := by rw [← hpar]
  show T.set2 p k { pd with kids := (pd.kids.take at' ++ [(k : Int)] ++ pd.kids.drop at').erase (k : Int) } { kd with parent := -1 } = T
  rw [e1, e2]
  exact Tr.set2_self hpk hp hk
/-- taken off and hung up again -/
theorem Tr.link_unlink {T : Tr} {p k : Nat} {pd kd : Nd} (hp : T.nodes[p]? = some (some pd)) (hk : T.nodes[k]? = some (some kd)) (hpk : p ≠ k) (hpar : kd.parent = (p : Int)) (hn : pd.kids.Nodup) (hin : (k : Int) ∈ pd.kids) :
    (T.unlink p k pd kd).link p (pd.kids.idxOf (k : Int)) k { pd with kids := pd.kids.erase (k : Int) } { kd with parent := -1 } = T := by
  rw [Tr.link_eq]
  unfold Tr.unlink
  rw [Tr.set2_set2 _ hpk]
  have e1 : ({ pd with kids := (pd.kids.erase (k : Int)).take (pd.kids.idxOf (k : Int)) ++ [(k : Int)] ++ (pd.kids.erase (k : Int)).drop (pd.kids.idxOf (k : Int)) } : Nd) = pd := by rw [mid_erase hn hin]
  have e2 : ({ kd with parent := (p : Int) } : Nd) = kd := by rw [← hpar]
  show T.set2 p k { pd with kids := (pd.kids.erase (k : Int)).take (pd.kids.idxOf (k : Int)) ++ [(k : Int)] ++ (pd.kids.erase (k : Int)).drop (pd.kids.idxOf (k : Int)) } { kd with parent := (p : Int) } = T
  rw [e1, e2]
  exact Tr.set2_self hpk hp hk
/-- what lies within a node stays, whoever else is turned -/
theorem WF.plain_set2 {T : Tr} {d : Nat → Nat} (hw : WF T d) {p k : Nat} {pd kd pd' : Nd} {q : Int} (hp : T.nodes[p]? = some (some pd)) (hk : T.nodes[k]? = some (some kd)) (hin : T.within p k = false) :
    (T.set2 p k pd' { kd with parent := q }).plain k = T.plain k ∧ (T.set2 p k pd' { kd with parent := q }).height k = T.height k := by
  refine pln_same hw (o := k) (fun j jd hj hjk => ?_) hk 50 k kd hk (hw.within_self hk)
  rw [Tr.set2_get hp hk]
  by_cases h1 : j = k
  · subst h1
    obtain rfl := some_inj2 hk hj
    exact ⟨_, if_pos rfl, rfl, rfl, rfl, rfl⟩
  · rw [if_neg h1]
    by_cases h2 : j = p
    · subst h2; rw [hjk] at hin; cases hin
    · rw [if_neg h2]; exact ⟨jd, hj, rfl, rfl, rfl, rfl⟩
theorem fold_top (F : Int → Int) (b : Int) : ∀ (l : List Int) (z : Int), z ≤ b → (∀ k ∈ l, F k ≤ b) → l.foldl (fun h k => max h (F k)) z ≤ b := by
  intro l
  induction l with
  | nil => intro z hz _; exact hz
  | cons k r ih =>
    intro z hz hk
    have := hk k (by simp)
    exact ih _ (show max z (F k) ≤ b by omega) fun x hx => hk x (by simp [hx])
/-- the deepest within a node is not too deep -/
theorem WF.high_deep {T : Tr} {d : Nat → Nat} (hw : WF T d) : ∀ (f i : Nat) (nd : Nd), T.nodes[i]? = some (some nd) → (d i : Int) + T.hgt f i ≤ T.deep := by
  intro f
  induction f with
  | zero => intro i nd h; have := hw.deep i nd h; show (d i : Int) + 0 ≤ T.deep; omega
  | succ f ih =>
    intro i nd h
    rw [hgt_step T f h]
    have := hw.deep i nd h
    have := fold_top (fun k => T.hgt f k + 1) (T.deep - d i) nd.kids 0 (by omega) fun k hk => by
      obtain ⟨n, hn⟩ := List.getElem?_of_mem hk
      obtain ⟨j, kd, rfl, hj, hjp, hjd⟩ := hw.kid h hn
      have := ih j kd hj
      show T.hgt f j + 1 ≤ T.deep - d i
      omega
    omega
/-- a parent is not within its kid -/
theorem WF.up_out {T : Tr} {d : Nat → Nat} (hw : WF T d) {p k : Nat} {pd kd : Nd} (hp : T.nodes[p]? = some (some pd)) (hk : T.nodes[k]? = some (some kd)) (hpar : kd.parent = (p : Int)) : T.within p k = false ∧ d k = d p + 1 ∧ (k : Int) ∈ pd.kids ∧ p ≠ k := by
  have hd : d k = d p + 1 ∧ (k : Int) ∈ pd.kids := by
    rcases hw.up k kd hk with ⟨h3, h4⟩ | ⟨q, qd, h3, h4, h5, h6⟩
    · omega
    · obtain rfl : q = p := by omega
      obtain rfl := some_inj2 hp h4
      exact ⟨h5, h6⟩
  refine ⟨?_, hd.1, hd.2, fun e => by subst e; omega⟩
  cases hin : T.within p k with
  | false => rfl
  | true => have := (hw.within_depth p pd hp hin).1; omega
end Go.Proofs.Ytiglflmjidikpaa
