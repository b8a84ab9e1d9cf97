/- The document's markup (16): Inner, Outer, as bytes. Conditions: at most 10^12 bytes. -/
import Derived.Test.YtdafdoodegpdhaaDoorPMC
import Derived.Test.YtdafdoodegpdhaaDoorPMB
import Derived.Lib.SmallJoins
namespace Go.Proofs.YtdafdoodegpdhaaDoor
open Go Go.RowKit Go.BigFrame
set_option linter.unusedVariables false
set_option linter.unusedSimpArgs false

/-- a text's bytes in new memory -/
theorem run_toBytes (w : World) (s : ByteArray) (hs : s.size ≤ 140737488355328) : ∃ v w', (Go.convert 9 30 (.string s)).run Tryd.prog w = .ok v w' ∧ Buf w v s.data.toList w' := by
  have hsz : s.data.toList.length = s.size := rfl
  have hge := grownCap_ge w s.size 0 5
  have hcm := grownCap_le_maxLen w s.size 0 5 (by unfold maxLen; omega)
  have hcs : (Lib.bytesCells w 5 s).size = grownCap w s.size 0 5 := by
    unfold Lib.bytesCells
    simp
    show s.size + _ = _
    omega
  refine ⟨_, _, Lib.run_convert_string_bytes w 9 30 5 s Tryd.underlying9 Tryd.underlying30 Tryd.underlying5, w.heap.size, _, _, _, rfl, Nat.le_refl _, Lib.bytesWorld_at_new w 5 s, .inr ?_, ?_, hcm, hcs, ?_, Joins.below_bytesWorld _ w _ s (Nat.le_refl _), ?_⟩
  · exact Nat.le_of_eq hcs.symm
  · rw [hsz]; exact hge
  · unfold Lib.bytesCells Lib.byteCells
    simp
  · rw [Lib.bytesWorld_size]; omega
/-- bytes as a text -/
theorem run_ofBytes {W0 w : World} {v : Value} {l : List UInt8} (h : Buf W0 v l w) : (Go.convert 30 9 v).run Tryd.prog w = .ok (.string ⟨l.toArray⟩) w := by
  obtain ⟨g, cap, cur, fz, hv, _, _, _⟩ := h.at
  rw [hv]
  refine run_convert_bytes_back w 30 9 5 ⟨g, 0, none⟩ cap l Tryd.underlying30 Tryd.underlying5 Tryd.underlying9 fun j hj => ?_
  refine h.cells hv j _ ?_
  unfold Lib.byteCells
  simp [hj]

def ROk (w0 : World) (n : PN) : Prop := ∀ (w : World) (v : Value), RdN w0 n v → Ext w0 w → n.cost ≤ 1000000000000 → Calls Tryd.prog 12 #[v] w (RBuf n.outer w)
def RInOk (w0 : World) (n : PN) : Prop := ∀ (w : World) (v : Value), RdN w0 n v → Ext w0 w → PN.costs n.kids ≤ 1000000000000 → Calls Tryd.prog 14 #[v] w (RBuf n.inner w)
theorem RBuf.mk' {l l' : List UInt8} {w W w' : World} {v : Value} (h : Buf W v l w') (k : Ext w W) (e : l = l') : RBuf l' w (.returned v) w' := ⟨v, rfl, e ▸ h.base k⟩
set_option maxHeartbeats 2000000 in
set_option maxRecDepth 100000 in
theorem rinner_of {w0 : World} {n : PN} (ih : ∀ k ∈ n.kids, ROk w0 k) : RInOk w0 n := by
  intro w v hr hx hc
  obtain ⟨av, kv, rfl, ha, hk⟩ := hr.open
  obtain ⟨ao, ac, rfl, _⟩ := ha.len_of
  obtain ⟨ka, kc, rfl, hk1, hk2, hk3, hk4⟩ := hk
  have x1 := (Ext.refl w).alloc (.cells #[.int .i64 n.tag, .slice ao n.attrs.length ac, .string n.text, .slice ka n.kids.length kc] 25)
  have hb := heap_alloc_new w (.cells #[.int .i64 n.tag, .slice ao n.attrs.length ac, .string n.text, .slice ka n.kids.length kc] 25)
  have HK4 := Lib.hid hk4
  have HK3 := Lib.hid hk3
  have HIH := Lib.hid ih
  have HX := Lib.hid hx
  have HCC := Lib.hid hc
  unfold maxLen at hk2
  clear hk4 hk3 ih hx ha hr hc
  have hin : n.inner = if n.tag = 0 then [] else PN.outers n.kids := rfl
  go_enter Tryd.func14, Tryd.ntmps14
  go_upto_region 1 with fail
  obtain ⟨wb, hwb⟩ : ∃ wb : World, wb = w.alloc (.cells #[.int .i64 n.tag, .slice ao n.attrs.length ac, .string n.text, .slice ka n.kids.length kc] 25) := ⟨_, rfl⟩
  rw [← hwb] at x1 hb ⊢
  clear hwb
  have HXB := Lib.hid x1
  have HB := Lib.hid hb
  have HBN := Lib.hid (Buf.new wb)
  have hne := ((Ext.refl wb).alloc (.cells #[] 5)).block hb
  clear x1 hb
  go_upto_region 2 with fail
  obtain ⟨wc, hwc⟩ : ∃ wc : World, wc = wb.alloc (.cells #[] 5) := ⟨_, rfl⟩
  rw [← hwc] at HBN hne ⊢
  clear hwc hne
  rcases tagB n.tag with ht | ht
  · have e : n.inner = [] := by rw [hin, if_pos (by simpa using ht)]
    have HE := Lib.hid e
    clear hin e
    go_wp2_with fail
    go_loopw [3, 4] (fun ov i wr => i = .int .i64 0 ∧ (∃ g cap, ov = .slice (some ⟨g, 0, none⟩) 0 cap) ∧ Buf wb ov [] wr) (fun _ _ _ => 0)
    case atStart => exact ⟨rfl, ⟨_, _, rfl⟩, HBN.out⟩
    case round =>
      obtain ⟨rfl, ⟨g, cap, rfl⟩, hbf⟩ := hrel
      have hbx := hbf.ex.block HB.out
      have n0 := cellOf hbx (i := 0) (v := .int .i64 n.tag) rfl
      have n3 := cellOf hbx (i := 3) (v := .slice ka n.kids.length kc) rfl
      have HBF := Lib.hid hbf
      clear hbx hbf
      by_cases hlt : (0 : Int) < (n.kids.length : Int)
      · go_wp2_with fail
        go_ret
        exact RBuf.mk' HBF.out HXB.out HE.out.symm
      · go_wp2_with fail
        go_ret
        exact RBuf.mk' HBF.out HXB.out HE.out.symm
  · have e : n.inner = PN.outers n.kids := by rw [hin, if_neg (by simpa using ht)]
    have HE := Lib.hid e
    clear hin e
    go_wp2_with fail
    go_loopw [3, 4] (fun ov i wr => ∃ (k : Nat) (acc : List UInt8), k ≤ n.kids.length ∧ i = .int .i64 k ∧ (∃ g cap, ov = .slice (some ⟨g, 0, none⟩) acc.length cap) ∧ Buf wb ov acc wr ∧ acc = PN.outers (n.kids.take k)) (fun _ i _ => n.kids.length - (intOf i).toNat)
    case atStart => exact ⟨0, [], Nat.zero_le _, rfl, ⟨_, _, rfl⟩, HBN.out, rfl⟩
    case round =>
      obtain ⟨k, acc, hk, rfl, ⟨g, cap, rfl⟩, hbf, hacc⟩ := hrel
      have hbx := hbf.ex.block HB.out
      have n0 := cellOf hbx (i := 0) (v := .int .i64 n.tag) rfl
      have n3 := cellOf hbx (i := 3) (v := .slice ka n.kids.length kc) rfl
      have HBF := Lib.hid hbf
      have HACC := Lib.hid hacc
      by_cases hlt : k < n.kids.length
      · obtain ⟨x, hx⟩ : ∃ x, n.kids[k]? = some x := ⟨n.kids[k], by simp [hlt]⟩
        cases ka with
        | none => exact absurd (HK3.out rfl).1 (by omega)
        | some a =>
          obtain ⟨bk, off, sp⟩ := a
          obtain ⟨c0', c1', c2', c3', q0, q1, q2, q3, hrd⟩ := HK4.out _ rfl k x hx
          obtain ⟨y1, y2, y3, y4, en⟩ := hrd.shape
          cases en
          have hxx : Ext w0 wr := (HX.out.trans HXB.out).trans hbf.ex
          replace q0 := hxx.cells _ _ q0
          replace q1 := hxx.cells _ _ q1
          replace q2 := hxx.cells _ _ q2
          replace q3 := hxx.cells _ _ q3
          rw [add_later _ _ _ (by decide)] at q1 q2 q3
          have htk : n.kids.take (k + 1) = n.kids.take k ++ [x] := by
            obtain ⟨hlt', hxe⟩ := List.getElem?_eq_some_iff.1 hx
            rw [List.take_succ_eq_append_getElem hlt', hxe]
          have hcost : PN.costs (n.kids.take k) + x.cost ≤ PN.costs n.kids := by
            have h1 : PN.costs n.kids = PN.costs (n.kids.take (k + 1)) + PN.costs (n.kids.drop (k + 1)) := by rw [← PN.costs_append, List.take_append_drop]
            rw [htk, PN.costs_append] at h1
            simp only [PN.costs] at h1
            omega
          have hlen := PN.outers_len (l := n.kids.take k) fun z _ => z.outer_len
          have hlx := x.outer_len
          have hout : acc ++ x.outer = PN.outers (n.kids.take (k + 1)) := by rw [htk, PN.outers_append, hacc]; simp [PN.outers]
          have HCALL := Lib.hid (HIH.out x (List.mem_of_getElem? hx) wr _ hrd hxx (by have := HCC.out; omega))
          have HLEN := Lib.hid (show acc.length + x.outer.length ≤ 140737488355328 by rw [hacc]; have := HCC.out; omega)
          have HOUT := Lib.hid hout
          clear hx hrd hxx htk hcost hlen hout hlx hacc hbf hbx
          go_wp2_with (first
            | (go_at_call 12; refine HCALL.out.mono ?_; rintro e W1 ⟨v1, rfl, hb1⟩; obtain ⟨g1, cap1, _, _, rfl, _, _, _⟩ := hb1.at; have HB1 := Lib.hid hb1; have HB0 := Lib.hid (HBF.out.ext hb1.ex); clear hb1)
            | (at_builtin; refine wpB_buf rfl _ _ rfl _ acc rfl wb wr HB0.out _ x.outer HB1.out rfl HLEN.out _ HOUT.out ?_; intro v' w' hb'; obtain ⟨g', cap', _, _, rfl, _, _, _⟩ := hb'.at; have HB' := Lib.hid hb'; clear hb' n0 n3 q0 q1 q2 q3))
          go_roundw
          case rel => exact ⟨k + 1, _, by omega, by go_num, ⟨g', cap', rfl⟩, HB'.out, rfl⟩
          case measure => simp [intOf]; omega
      · have : k = n.kids.length := by omega
        subst this
        rw [List.take_length] at hacc
        clear hbx hbf HACC
        go_wp2_with fail
        go_ret
        exact RBuf.mk' HBF.out HXB.out (hacc.trans HE.out.symm)
end Go.Proofs.YtdafdoodegpdhaaDoor
