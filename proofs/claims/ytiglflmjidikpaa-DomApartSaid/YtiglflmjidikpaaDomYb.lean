/- Package dom: measure's inner function, walked. -/
import Derived.Test.YtiglflmjidikpaaDomY
import Derived.Laws.EntriesVeiled
import Derived.Deep.CutBlock
namespace Go.Proofs.Ytiglflmjidikpaa
open Go Go.RowKit Go.BigFrame
set_option linter.unusedVariables false
set_option linter.unusedSimpArgs false

def LookIs (w0 : World) (bc bh be bl : Nat) (m : Ms) (e : Ending) (w' : World) : Prop := e = .returned (.tuple #[]) ∧ Ext w0 w' ∧ Held4 w' bc bh be bl m
set_option maxRecDepth 100000 in
set_option maxHeartbeats 4000000 in
theorem look_any {w0 : World} {bc bh be bl : Nat} (n1 : bc ≠ bh) (n2 : bc ≠ be) (n3 : bc ≠ bl) (n4 : bh ≠ be) (n5 : bh ≠ bl) (n6 : be ≠ bl) (b1 : w0.heap.size ≤ bc) (b2 : w0.heap.size ≤ bh) (b3 : w0.heap.size ≤ be) (b4 : w0.heap.size ≤ bl) :
    ∀ (n : PN), n.short = true → ∀ (nv : Value) (deep : Int) (m : Ms) (w : World), RdN w0 n nv → 0 ≤ deep → deep + n.size ≤ 100000 → 0 ≤ m.count → m.count + n.size ≤ 100000 → 0 ≤ m.height → m.height ≤ 100000 → 0 ≤ m.e → m.e ≤ 100 → Ext w0 w → Held4 w bc bh be bl m →
      Calls Try.prog 124 #[nv, .int .i64 deep, .pointer (some ⟨bc, 0, none⟩), .pointer (some ⟨bh, 0, none⟩), .pointer (some ⟨be, 0, none⟩), .pointer (some ⟨bl, 0, none⟩)] w (LookIs w0 bc bh be bl (PN.look deep m n)) := by
  refine PN.induct _ fun n ih hsh nv deep m w hr d0 d1 c0 c1 h0 h1 e0 e1 hx hh => ?_
  obtain ⟨av, kv, rfl, ha, hk⟩ := hr.open
  obtain ⟨aa, acap, rfl, hac⟩ := ha.len_of
  obtain ⟨ka, kcap, rfl, hkc, hkm, hkn, hkr⟩ := hk
  have n1' := Ne.symm n1
  have n2' := Ne.symm n2
  have n3' := Ne.symm n3
  have n4' := Ne.symm n4
  have n5' := Ne.symm n5
  have n6' := Ne.symm n6
  have hbox := heap_alloc_new w (.cells #[.int .i64 n.tag, .slice aa n.attrs.length acap, .string n.text, .slice ka n.kids.length kcap] 30)
  have hh1 : Held4 (w.alloc (.cells #[.int .i64 n.tag, .slice aa n.attrs.length acap, .string n.text, .slice ka n.kids.length kcap] 30)) bc bh be bl m := ⟨hh.c.alloc _, hh.h.alloc _, hh.e.alloc _, hh.l.alloc _⟩
  have x1 := hx.alloc (.cells #[.int .i64 n.tag, .slice aa n.attrs.length acap, .string n.text, .slice ka n.kids.length kcap] 30)
  have sz : (w.alloc (.cells #[.int .i64 n.tag, .slice aa n.attrs.length acap, .string n.text, .slice ka n.kids.length kcap] 30)).heap.size = w.heap.size + 1 := by simp
  have lc : bc ≠ w.heap.size := Nat.ne_of_lt hh.c.lt
  have lh : bh ≠ w.heap.size := Nat.ne_of_lt hh.h.lt
  have le : be ≠ w.heap.size := Nat.ne_of_lt hh.e.lt
  have lc' := Ne.symm lc
  have lh' := Ne.symm lh
  have le' := Ne.symm le
  have HA := Lib.hid ha
  have HKR := Lib.hid hkr
  have HKN := Lib.hid hkn
  have HX := Lib.hid hx
  have HH := Lib.hid hh
  have HSH := Lib.hid hsh
  have IH := Lib.hid ih
  unfold maxLen at hkm
  clear ha hkr hkn hx hh hsh ih hr
  go_enter Try.func124, Try.ntmps124
  go_upto_region 1 with fail
  obtain ⟨wb, hwb⟩ : ∃ wb : World, wb = w.alloc (.cells #[.int .i64 n.tag, .slice aa n.attrs.length acap, .string n.text, .slice ka n.kids.length kcap] 30) := ⟨_, rfl⟩
  rw [← hwb] at hbox hh1 x1 sz ⊢
  clear hwb
  have cc := hh1.c.cell
  have ch := hh1.h.cell
  have ce := hh1.e.cell
  have fc := hh1.c.free
  have fh := hh1.h.free
  have fe := hh1.e.free
  have k0 := cellOf hbox (i := 0) (v := .int .i64 n.tag) rfl
  have k1 := cellOf hbox (i := 1) (v := .slice aa n.attrs.length acap) rfl
  have k2 := cellOf hbox (i := 2) (v := .string n.text) rfl
  have k3 := cellOf hbox (i := 3) (v := .slice ka n.kids.length kcap) rfl
  have HB := Lib.hid hbox
  have HH1 := Lib.hid hh1
  have HX1 := Lib.hid x1
  have SZ := Lib.hid sz
  clear hbox hh1 x1 sz
  have hz1 : Held4 ((wb.setCell ⟨bc, 0, none⟩ (.int .i64 (m.count + 1))).setCell ⟨bh, 0, none⟩ (.int .i64 (max m.height deep))) bc bh be bl ⟨m.count + 1, max m.height deep, m.e⟩ :=
    ⟨(HH1.out.c.set _).far n1 _, (HH1.out.h.far n1' _).set _, (HH1.out.e.far n2' _).far n4' _, (HH1.out.l.far n3' _).far n5' _⟩
  have hz2 : Ext w0 ((wb.setCell ⟨bc, 0, none⟩ (.int .i64 (m.count + 1))).setCell ⟨bh, 0, none⟩ (.int .i64 (max m.height deep))) := (HX1.out.setCell b1 _).setCell b2 _
  have hz3 : ((wb.setCell ⟨bc, 0, none⟩ (.int .i64 (m.count + 1))).setCell ⟨bh, 0, none⟩ (.int .i64 (max m.height deep))).heap[w.heap.size]? = some (.cells #[.int .i64 n.tag, .slice aa n.attrs.length acap, .string n.text, .slice ka n.kids.length kcap] 30 (0, 0)) :=
    (heap_setCell_other _ lh').trans ((heap_setCell_other _ lc').trans HB.out)
  have HZ1 := Lib.hid hz1
  have HZ2 := Lib.hid hz2
  have HZ3 := Lib.hid hz3
  clear hz1 hz2 hz3
  go_upto_block 0 with fail
  obtain ⟨wz, hwz⟩ : ∃ wz : World, wz = (wb.setCell ⟨bc, 0, none⟩ (.int .i64 (m.count + 1))).setCell ⟨bh, 0, none⟩ (.int .i64 (max m.height deep)) := ⟨_, rfl⟩
  rw [← hwz] at HZ1 HZ2 HZ3 ⊢
  clear hwz cc ch ce fc fh fe k0 k1 k2 k3
  go_cut [8] (fun _ wx => Ext w0 wx ∧ Held4 wx bc bh be bl (Ms.one n deep m) ∧ wx.cell? ⟨w.heap.size, 3, none⟩ = some (.slice ka n.kids.length kcap))
  case first =>
    have ce : wz.cell? ⟨be, 0, none⟩ = some (.int .i64 m.e) := HZ1.out.e.cell
    have fe := HZ1.out.e.free
    have k0 := cellOf HZ3.out (i := 0) (v := .int .i64 n.tag) rfl
    have k1 := cellOf HZ3.out (i := 1) (v := .slice aa n.attrs.length acap) rfl
    have k2 := cellOf HZ3.out (i := 2) (v := .string n.text) rfl
    have k3 := cellOf HZ3.out (i := 3) (v := .slice ka n.kids.length kcap) rfl
    have hbad1 : n.bad = true → Ext w0 (wz.setCell ⟨be, 0, none⟩ (.int .i64 1)) ∧ Held4 (wz.setCell ⟨be, 0, none⟩ (.int .i64 1)) bc bh be bl (Ms.one n deep m) ∧ (wz.setCell ⟨be, 0, none⟩ (.int .i64 1)).cell? ⟨w.heap.size, 3, none⟩ = some (.slice ka n.kids.length kcap) := fun hb => by
      refine ⟨HZ2.out.setCell b3 _, ?_, cellOf ((heap_setCell_other _ le').trans HZ3.out) rfl⟩
      have e : Ms.one n deep m = ⟨m.count + 1, max m.height deep, 1⟩ := by unfold Ms.one; rw [if_pos hb]
      rw [e]
      exact ⟨HZ1.out.c.far n2 _, HZ1.out.h.far n4 _, HZ1.out.e.set _, HZ1.out.l.far n6' _⟩
    have hlong1 : ∀ wy, n.bad = false → 8192 < (anewB n.text).size → m.e = 0 → Ext wz wy → Ext w0 (wy.setCell ⟨be, 0, none⟩ (.int .i64 10)) ∧ Held4 (wy.setCell ⟨be, 0, none⟩ (.int .i64 10)) bc bh be bl (Ms.one n deep m) ∧ (wy.setCell ⟨be, 0, none⟩ (.int .i64 10)).cell? ⟨w.heap.size, 3, none⟩ = some (.slice ka n.kids.length kcap) := fun wy hb hl he hy => by
      refine ⟨(HZ2.out.trans hy).setCell b3 _, ?_, cellOf ((heap_setCell_other _ le').trans (hy.block HZ3.out)) rfl⟩
      have e : Ms.one n deep m = ⟨m.count + 1, max m.height deep, 10⟩ := by unfold Ms.one; rw [if_neg (by rw [hb]; decide), if_pos ⟨hl, he⟩]
      rw [e]
      exact ⟨(HZ1.out.c.ext hy).far n2 _, (HZ1.out.h.ext hy).far n4 _, (HZ1.out.e.ext hy).set _, (HZ1.out.l.ext hy).far n6' _⟩
    have hfine1 : ∀ wy, n.bad = false → ¬ (8192 < (anewB n.text).size ∧ m.e = 0) → Ext wz wy → Ext w0 wy ∧ Held4 wy bc bh be bl (Ms.one n deep m) ∧ wy.cell? ⟨w.heap.size, 3, none⟩ = some (.slice ka n.kids.length kcap) := fun wy hb hl hy => by
      refine ⟨HZ2.out.trans hy, ?_, cellOf (hy.block HZ3.out) rfl⟩
      have e : Ms.one n deep m = ⟨m.count + 1, max m.height deep, m.e⟩ := by unfold Ms.one; rw [if_neg (by rw [hb]; decide), if_neg hl]
      rw [e]
      exact ⟨HZ1.out.c.ext hy, HZ1.out.h.ext hy, HZ1.out.e.ext hy, HZ1.out.l.ext hy⟩
    have HB1 := Lib.hid hbad1
    have HL1 := Lib.hid hlong1
    have HF1 := Lib.hid hfine1
    have hts : n.text.size ≤ 100000 := by have := HSH.out; rw [PN.short_eq] at this; simp at this; exact this.1.1
    have has : n.attrs.length ≤ 60000 := by have := HSH.out; rw [PN.short_eq] at this; simp at this; exact this.1.2
    have hbs : (anewB n.text).size ≤ 400000 := by have := anewB_size n.text; omega
    have HTS := Lib.hid hts
    have hbb : n.bad = (if n.tag = 0 then !(n.attrs.isEmpty && n.kids.isEmpty) else !(decide (1 ≤ n.tag ∧ n.tag ≤ 16) && n.text.size == 0)) := rfl
    have HBB := Lib.hid hbb
    clear hbad1 hlong1 hfine1 hbb hts
    -- what is left of the ways where the node itself may be
    have hfine : n.bad = false → ∀ wy, Ext wz wy → (if 8192 < (anewB n.text).size ∧ m.e = 0 then True else True) := fun _ _ _ => by split <;> trivial
    clear hfine
    by_cases ht : n.tag = 0
    · have tb : (n.tag == 0) = true := by simp [ht]
      have HT := Lib.hid ht
      by_cases hA : 0 < n.attrs.length
      · have HBAD : Hid (n.bad = true) := Lib.hid (bad_attrs ht hA)
        clear ht
        go_wp2_with (fail)
        go_meet
        exact HB1.out HBAD.out
      · have hA0 : n.attrs.length = 0 := by omega
        by_cases hK : 0 < n.kids.length
        · have HBAD : Hid (n.bad = true) := Lib.hid (bad_kids ht hK)
          clear ht hA0
          go_wp2_with (fail)
          go_meet
          exact HB1.out HBAD.out
        · have HBAD : Hid (n.bad = false) := Lib.hid (bad_text ht hA hK)
          clear ht hA0
          by_cases hl : 8192 < (anewB n.text).size
          · by_cases he : m.e = 0
            · have eb : (m.e == 0) = true := by simp [he]
              have HE := Lib.hid he
              clear he
              go_wp2_with (go_at_call 87; refine (anew_any _ HTS.out _).mono ?_; rintro e w' ⟨rfl, hy⟩; have ce : _ = some (Value.int IntKind.i64 m.e) := (HZ1.out.e.ext hy).cell; have fe := (HZ1.out.e.ext hy).free)
              go_meet
              exact HL1.out _ HBAD.out hl HE.out hy
            · have eb : (m.e == 0) = false := by simpa using he
              have HE := Lib.hid he
              clear he
              go_wp2_with (go_at_call 87; refine (anew_any _ HTS.out _).mono ?_; rintro e w' ⟨rfl, hy⟩; have ce : _ = some (Value.int IntKind.i64 m.e) := (HZ1.out.e.ext hy).cell; have fe := (HZ1.out.e.ext hy).free)
              go_meet
              exact HF1.out _ HBAD.out (fun h => HE.out h.2) hy
          · go_wp2_with (go_at_call 87; refine (anew_any _ HTS.out _).mono ?_; rintro e w' ⟨rfl, hy⟩; have ce : _ = some (Value.int IntKind.i64 m.e) := (HZ1.out.e.ext hy).cell; have fe := (HZ1.out.e.ext hy).free)
            go_meet
            exact HF1.out _ HBAD.out (fun h => hl h.1) hy
    · have tb : (n.tag == 0) = false := by simpa using ht
      have HT := Lib.hid ht
      by_cases hE : 1 ≤ n.tag ∧ n.tag ≤ 16
      · by_cases hS : n.text.size = 0
        · have HBAD : Hid (n.bad = false) := Lib.hid (bad_fine ht hE hS)
          have hemp := text_none hS
          have hanew : (anewB n.text).size = 0 := by rw [hemp]; rfl
          have hsb : n.text.toList.isEmpty = true := by rw [hemp, ByteArray.toList_eq]; rfl
          have hl : ¬ 8192 < (anewB n.text).size := by omega
          obtain ⟨E1, E2⟩ := hE
          have hst : n.text.toList = [] := by rw [hemp, ByteArray.toList_eq]; rfl
          clear ht hS hemp hanew
          go_wp2_with (first
            | (go_at_call 90; refine (element_yes _ E1 E2 _).mono ?_; rintro e w' ⟨rfl, rfl⟩)
            | (go_at_call 87; refine (anew_any _ HTS.out _).mono ?_; rintro e w' ⟨rfl, hy⟩; have ce : _ = some (Value.int IntKind.i64 m.e) := (HZ1.out.e.ext hy).cell; have fe := (HZ1.out.e.ext hy).free))
          go_meet
          exact HF1.out _ HBAD.out (fun h => hl h.1) hy
        · have HBAD : Hid (n.bad = true) := Lib.hid (bad_said ht hS)
          have hsb := text_some hS
          have hst : !n.text.toList.isEmpty := by rw [hsb]; rfl
          obtain ⟨E1, E2⟩ := hE
          clear ht hS
          go_wp2_with (go_at_call 90; refine (element_yes _ E1 E2 _).mono ?_; rintro e w' ⟨rfl, rfl⟩)
          go_meet
          exact HB1.out HBAD.out
      · have HBAD : Hid (n.bad = true) := Lib.hid (bad_tag' ht hE)
        have HEE := Lib.hid hE
        clear ht hE
        go_wp2_with (go_at_call 90; refine (element_no _ HEE.out _).mono ?_; rintro e w' ⟨rfl, rfl⟩)
        go_meet
        exact HB1.out HBAD.out
  case rest =>
    obtain ⟨x2, h2, k3⟩ := hcut
    have hkl : (n.kids.length : Int) ≤ 9223372036854775807 := by omega
    have HX2 := Lib.hid x2
    have HH2 := Lib.hid h2
    clear x2 h2
    go_wp2_with fail
    go_loopw [10, 61] (fun _ i wr => ∃ k : Nat, k ≤ n.kids.length ∧ i = .int .i64 k ∧ Ext w0 wr ∧ Held4 wr bc bh be bl (PN.looks (deep + 1) (Ms.one n deep m) (n.kids.take k))) (fun _ i _ => n.kids.length - (intOf i).toNat)
    case atStart => exact ⟨0, Nat.zero_le _, rfl, HX2.out, by simpa [PN.looks] using HH2.out⟩
    case round =>
      obtain ⟨k, hk, rfl, xr, hr⟩ := hrel
      have HXR := Lib.hid xr
      have HHR := Lib.hid hr
      have cl := hr.l.cell
      clear xr hr
      by_cases hlt : k < n.kids.length
      · obtain ⟨x, hx⟩ : ∃ x, n.kids[k]? = some x := ⟨n.kids[k], by simp [hlt]⟩
        cases ka with
        | none => exact absurd (HKN.out rfl).1 (by omega)
        | some a =>
          obtain ⟨b, off, sp⟩ := a
          obtain ⟨c0', c1', c2', c3', q0, q1, q2, q3, hrd⟩ := HKR.out _ rfl k x hx
          obtain ⟨av', kv', e, ha', hk'⟩ := hrd.open
          obtain ⟨aa', acap', e2, _⟩ := ha'.len_of
          obtain ⟨ka', kcap', e3, _⟩ := hk'
          subst e2 e3
          cases e
          clear ha'
          replace q0 := HXR.out.cells _ _ q0
          replace q1 := HXR.out.cells _ _ q1
          replace q2 := HXR.out.cells _ _ q2
          replace q3 := HXR.out.cells _ _ q3
          rw [add_later _ _ _ (by decide)] at q1 q2 q3
          obtain ⟨g1, g2, g3, g4, g5, g6, g7⟩ := looks_bounds n deep m d0 d1 c0 c1 h0 h1 e0 e1 hx
          have hmem : x ∈ n.kids := List.mem_of_getElem? hx
          have hshx : x.short = true := by
            have := HSH.out; rw [PN.short_eq] at this; simp at this
            exact PN.shorts_mem this.2 hmem
          have cl' := (HHR.out.l.alloc (.cells #[.int .i64 x.tag, .slice aa' x.attrs.length acap', .string x.text, .slice ka' x.kids.length kcap'] 30)).cell
          have hrec := (fun w' hw' hh' => IH.out x hmem hshx _ (deep + 1) _ w' hrd (by omega) g1 g2 g3 g4 g5 g6 g7 hw' hh') (wr.alloc (.cells #[.int .i64 x.tag, .slice aa' x.attrs.length acap', .string x.text, .slice ka' x.kids.length kcap'] 30)) (HXR.out.alloc _) ⟨HHR.out.c.alloc _, HHR.out.h.alloc _, HHR.out.e.alloc _, HHR.out.l.alloc _⟩
          have HREC := Lib.hid hrec
          have HXX := Lib.hid hx
          have ndl : deep + 1 ≤ 9223372036854775807 := by omega
          clear hx hrec hrd hmem hshx g1 g2 g3 g4 g5 g6 g7
          go_wp2_with fail
          refine HREC.out.mono ?_
          rintro e w' ⟨rfl, hx', hh'⟩
          go_wp2_with fail
          go_roundw
          case rel =>
            refine ⟨k + 1, by omega, by go_num, hx', ?_⟩
            rw [looks_take _ _ _ _ _ HXX.out]
            exact hh'
          case measure => simp [intOf]; omega
      · go_wp2_with fail
        go_end0
        refine ⟨rfl, HXR.out, ?_⟩
        have e : n.kids.take k = n.kids := List.take_of_length_le (by omega)
        have h := HHR.out
        rw [e, ← PN.look_eq] at h
        exact h
end Go.Proofs.Ytiglflmjidikpaa
