/- The document's markup (16): Outer, as bytes. Conditions: at most 10^12 bytes. -/
import Derived.Test.YtdafdoodegpdhaaDoorPMD
namespace Go.Proofs.YtdafdoodegpdhaaDoor
open Go Go.RowKit Go.BigFrame
set_option linter.unusedVariables false
set_option linter.unusedSimpArgs false

set_option maxHeartbeats 4000000 in
set_option maxRecDepth 100000 in
theorem router_of {w0 : World} {n : PN} (hin : RInOk w0 n) : ROk w0 n := by
  intro w v hr hx hc
  obtain ⟨av, kv, rfl, ha, hk⟩ := hr.open
  obtain ⟨ao, ac, rfl, hac⟩ := ha.len_of
  obtain ⟨ka, kc, rfl, hk1, hk2, hk3, hk4⟩ := hk
  clear hk1 hk2 hk3 hk4
  obtain ⟨out, ho⟩ : ∃ out, n.outer = out := ⟨_, rfl⟩
  rw [ho]
  rw [PN.outer_eq] at ho
  rw [PN.cost_eq] at hc
  have HO := Lib.hid ho
  have HC := Lib.hid hc
  have HR := Lib.hid hr
  have HA := Lib.hid ha
  have HIN := Lib.hid hin
  have HX := Lib.hid hx
  have x1 := (Ext.refl w).alloc (.cells #[.int .i64 n.tag, .slice ao n.attrs.length ac, .string n.text, .slice ka n.kids.length kc] 25)
  have hb := heap_alloc_new w (.cells #[.int .i64 n.tag, .slice ao n.attrs.length ac, .string n.text, .slice ka n.kids.length kc] 25)
  clear ho hc hr ha hin hx
  go_enter Tryd.func12, Tryd.ntmps12
  go_upto_region 1 with fail
  obtain ⟨wb, hwb⟩ : ∃ wb : World, wb = w.alloc (.cells #[.int .i64 n.tag, .slice ao n.attrs.length ac, .string n.text, .slice ka n.kids.length kc] 25) := ⟨_, rfl⟩
  rw [← hwb] at x1 hb ⊢
  clear hwb
  have n0 := cellOf hb (i := 0) (v := .int .i64 n.tag) rfl
  have n1 := cellOf hb (i := 1) (v := .slice ao n.attrs.length ac) rfl
  have n2 := cellOf hb (i := 2) (v := .string n.text) rfl
  have n3 := cellOf hb (i := 3) (v := .slice ka n.kids.length kc) rfl
  have HB := Lib.hid hb
  have HXB := Lib.hid x1
  clear hb x1
  rcases tagB n.tag with ht | ht
  · have eo : esc false n.text = out := by rw [← HO.out, if_pos (by simpa using ht)]
    have hch := rchars_any n.text false (by have := HC.out; omega) wb
    rw [eo] at hch
    have HCH := Lib.hid hch
    clear hch eo
    go_wp2_with (go_at_call 29; refine HCH.out.mono ?_)
    rintro e w2 ⟨v2, rfl, hb2⟩
    have HB2 := Lib.hid hb2
    clear hb2
    go_wp2_with fail
    go_ret
    exact RBuf.mk' HB2.out HXB.out rfl
  have T0 := Lib.hid (show ¬ n.tag = 0 by simpa using ht)
  go_wp2_with (go_at_call 30; refine (rClass_any _ n.tag).mono ?_)
  rintro e w1 ⟨rfl, y1⟩
  have HB1 := Lib.hid (y1.block HB.out)
  have X1 := Lib.hid y1
  replace n0 := y1.cell n0
  replace n1 := y1.cell n1
  replace n2 := y1.cell n2
  replace n3 := y1.cell n3
  clear y1
  obtain ⟨c, hcl⟩ : ∃ c, clsT n.tag = c := ⟨_, rfl⟩
  rw [hcl]
  have HO2 := HO.out
  rw [hcl, if_neg T0.out] at HO2
  have HO3 := Lib.hid HO2
  clear HO2
  have CL := Lib.hid hcl
  clear hcl
  rcases tagB c with hc0 | hc0
  · have eo : PN.outers n.kids = out := by rw [← HO3.out, if_pos (by simpa using hc0)]
    have hcall := HIN.out w1 _ HR.out ((HX.out.trans HXB.out).trans X1.out) (by have := HC.out; omega)
    rw [show n.inner = PN.outers n.kids from if_neg T0.out, eo] at hcall
    have HCALL := Lib.hid hcall
    clear hcall eo
    go_wp2_with (go_at_call 14; refine HCALL.out.mono ?_)
    rintro e w2 ⟨v2, rfl, hb2⟩
    have HB2 := Lib.hid hb2
    clear hb2
    go_wp2_with fail
    go_ret
    exact RBuf.mk' HB2.out (HXB.out.trans X1.out) rfl
  have nml := nameT_len n.tag
  have eo0 : 60 :: (nameT n.tag).data.toList ++ n.attrs.flatMap attrM ++ [62] ++ (if c = 5 then [] else PN.outers n.kids ++ ([60, 47] ++ (nameT n.tag).data.toList ++ [62])) = out := by
    have hc0n : ¬ c = 0 := by simpa using hc0
    rw [← HO3.out, if_neg hc0n]
  have HEO := Lib.hid eo0
  clear eo0
  go_wp2_with (go_at_call 31; refine (rName_any _ n.tag).mono ?_)
  rintro e w2 ⟨rfl, y2⟩
  have HB2 := Lib.hid (y2.block HB1.out)
  have X2 := Lib.hid (X1.out.trans y2)
  clear n0 n1 n2 n3 y2
  obtain ⟨nm, hnm⟩ : ∃ nm, nameT n.tag = nm := ⟨_, rfl⟩
  rw [hnm] at nml ⊢
  have EO := HEO.out
  rw [hnm] at EO
  have HEO2 := Lib.hid EO
  clear EO hnm
  have nms : nm.size ≤ 10 := nml
  have hac1 : costA n.attrs + 27 + PN.costs n.kids ≤ 1000000000000 := by have := HC.out; unfold costA; omega
  have HAC := Lib.hid hac1
  have hz1 : (⟨#[60]⟩ : ByteArray).size + nm.size ≤ 9223372036854775807 := by show 1 + nm.size ≤ _; omega
  have e1 : ∀ W : World, (Op.stringOp .add ⟨#[60]⟩ nm).run Tryd.prog W = .ok (.string (⟨#[60]⟩ ++ nm)) W := fun W => run_string_add_sum W _ _ hz1
  obtain ⟨v3, w3, h3, hb3⟩ := run_toBytes w2 (⟨#[60]⟩ ++ nm) (by rw [ByteArray.size_append]; show 1 + nm.size ≤ _; omega)
  have hs0 : (⟨#[60]⟩ ++ nm : ByteArray).data.toList = 60 :: nm.data.toList := by rw [ByteArray.data_append, Array.toList_append]; rfl
  rw [hs0] at hb3
  obtain ⟨g3, cap3, _, _, rfl, _, _, _⟩ := hb3.at
  have H3 := Lib.hid h3
  have HB3 := Lib.hid hb3
  have HBX := Lib.hid (hb3.ex.block HB2.out)
  have X3 := Lib.hid (HXB.out.trans X2.out)
  clear hz1 h3 hb3 hs0 hac1
  go_wp2_with fail
  rw [H3.out]
  clear e1 H3
  go_wp2_with fail
  have hfit : 60 :: nm.data.toList ++ tailM n nm.data.toList c 0 = out := by rw [← HEO2.out]; unfold tailM; simp
  have hlen : (60 :: nm.data.toList).length + costA (n.attrs.drop 0) + 16 + PN.costs n.kids ≤ 1000000000000 := by
    rw [List.drop_zero, List.length_cons]
    have : nm.data.toList.length = nm.size := rfl
    have := HAC.out
    omega
  have hatl : n.attrs.length ≤ 1000000000000 := by have := costA_len n.attrs; have := HAC.out; omega
  have HFIT := Lib.hid hfit
  have HLEN := Lib.hid hlen
  clear hfit hlen
  go_loopw [5, 6] (fun ov i wr => ∃ (k : Nat) (acc : List UInt8), k ≤ n.attrs.length ∧ i = .int .i64 k ∧ (∃ g cap, ov = .slice (some ⟨g, 0, none⟩) acc.length cap) ∧ Buf w2 ov acc wr ∧ acc ++ tailM n nm.data.toList c k = out ∧ acc.length + costA (n.attrs.drop k) + 16 + PN.costs n.kids ≤ 1000000000000) (fun _ i _ => n.attrs.length - (intOf i).toNat)
  case atStart => exact ⟨0, 60 :: nm.data.toList, Nat.zero_le _, rfl, ⟨g3, cap3, rfl⟩, HB3.out, HFIT.out, HLEN.out⟩
  case round =>
    obtain ⟨k, acc, hk, rfl, ⟨g, cap, rfl⟩, hbr, hfit, hlen⟩ := hrel
    have HBR := Lib.hid hbr
    have hbx := hbr.ex.block HB2.out
    have n1 := cellOf hbx (i := 1) (v := .slice ao n.attrs.length ac) rfl
    have HBXR := Lib.hid hbx
    clear hbx
    by_cases hlt : k < n.attrs.length
    · obtain ⟨p, hp⟩ : ∃ p, n.attrs[k]? = some p := ⟨n.attrs[k], by simp [hlt]⟩
      cases ao with
      | none =>
        obtain ⟨_, ao', cap', e, _, h0, _⟩ := HA.out
        cases e
        exact absurd (h0 rfl).1 (by omega)
      | some a =>
        obtain ⟨bk, off, sp⟩ := a
        have hra : RowRd wr 2 (.slice (some ⟨bk, off, sp⟩) n.attrs.length ac) n.attrs.length (attrCells n.attrs) := HA.out.ext (((HX.out.trans HXB.out).trans X2.out).trans hbr.ex)
        obtain ⟨q0, q1⟩ := hra.attr hp
        have Q1 := Lib.hid q1
        have N1 := Lib.hid n1
        have HRA := Lib.hid (fun (u : World) (x : Ext w2 u) => (HA.out.ext (((HX.out.trans HXB.out).trans X2.out).trans x) : RowRd u 2 (.slice (some ⟨bk, off, sp⟩) n.attrs.length ac) n.attrs.length (attrCells n.attrs)).attr hp)
        obtain ⟨hd1, hd2⟩ := costA_drop hp
        have hfit2 : acc ++ (32 :: p.1.data.toList ++ [61, 34]) ++ esc true p.2 ++ [34] ++ tailM n nm.data.toList c (k + 1) = out := by
          rw [← hfit]; unfold tailM; rw [hd1, List.flatMap_cons, attrM]; simp
        have HF2 := Lib.hid hfit2
        have hl2 : acc.length + (p.1.size + 6 * p.2.size + 4) + costA (n.attrs.drop (k + 1)) + 16 + PN.costs n.kids ≤ 1000000000000 := by rw [hd2] at hlen; omega
        have HL2 := Lib.hid hl2
        have hz1 : (⟨#[32]⟩ : ByteArray).size + p.1.size ≤ 9223372036854775807 := by show 1 + p.1.size ≤ _; have := HL2.out; omega
        have hz2 : (⟨#[32]⟩ ++ p.1 : ByteArray).size + (⟨#[61, 34]⟩ : ByteArray).size ≤ 9223372036854775807 := by rw [ByteArray.size_append]; show 1 + p.1.size + 2 ≤ _; have := HL2.out; omega
        have e1 : ∀ W : World, (Op.stringOp .add ⟨#[32]⟩ p.1).run Tryd.prog W = .ok (.string (⟨#[32]⟩ ++ p.1)) W := fun W => run_string_add_sum W _ _ hz1
        have e2 : ∀ W : World, (Op.stringOp .add (⟨#[32]⟩ ++ p.1) ⟨#[61, 34]⟩).run Tryd.prog W = .ok (.string (⟨#[32]⟩ ++ p.1 ++ ⟨#[61, 34]⟩)) W := fun W => run_string_add_sum W _ _ hz2
        have hs1 : acc ++ (⟨#[32]⟩ ++ p.1 ++ ⟨#[61, 34]⟩ : ByteArray).data.toList = acc ++ (32 :: p.1.data.toList ++ [61, 34]) := by
          rw [ByteArray.data_append, Array.toList_append, ByteArray.data_append, Array.toList_append]; rfl
        have hw1 : acc.length + (⟨#[32]⟩ ++ p.1 ++ ⟨#[61, 34]⟩ : ByteArray).size ≤ 140737488355328 := by rw [ByteArray.size_append, ByteArray.size_append]; show acc.length + (1 + p.1.size + 2) ≤ _; have := HL2.out; omega
        have HS1 := Lib.hid hs1
        have HW1 := Lib.hid hw1
        have hla : (acc ++ (32 :: p.1.data.toList ++ [61, 34])).length = acc.length + p.1.size + 3 := by
          have : p.1.data.toList.length = p.1.size := rfl
          simp only [List.length_append, List.length_cons, List.length_nil]; omega
        obtain ⟨accA, hA⟩ : ∃ l, acc ++ (32 :: p.1.data.toList ++ [61, 34]) = l := ⟨_, rfl⟩
        rw [hA] at hla hfit2 HF2 HS1
        have HLA := Lib.hid hla
        obtain ⟨accC, hC⟩ : ∃ l, accA ++ esc true p.2 = l := ⟨_, rfl⟩
        rw [hC] at hfit2 HF2
        have HLC := Lib.hid (show accC.length = accA.length + (esc true p.2).length by rw [← hC, List.length_append])
        have HCC := Lib.hid hC
        obtain ⟨accE, hE⟩ : ∃ l, accC ++ [34] = l := ⟨_, rfl⟩
        rw [hE] at hfit2 HF2
        have HLE := Lib.hid (show accE.length = accC.length + 1 by rw [← hE, List.length_append]; rfl)
        have HEE := Lib.hid hE
        clear hfit hlen hfit2 hl2 hbr hd1 hd2 hra hp hz1 hz2 hs1 hw1 q1 hla hA hC hE
        go_wp2_with (at_builtin; refine wpB_text rfl _ _ rfl _ acc rfl w2 HBR.out (⟨#[32]⟩ ++ p.1 ++ ⟨#[61, 34]⟩) rfl HW1.out accA HS1.out ?_)
        intro vA wA hbA
        obtain ⟨gA, capA, _, _, rfl, _, _, _⟩ := hbA.at
        have HBA := Lib.hid hbA
        have hbxA := hbA.ex.block HB2.out
        have n1 := cellOf hbxA (i := 1) (v := .slice (some ⟨bk, off, sp⟩) n.attrs.length ac) rfl
        clear n1 q0 e1 e2 hbxA
        have n1 := N1.out
        replace n1 := cellOf (hbA.ex.block HB2.out) (i := 1) (v := .slice (some ⟨bk, off, sp⟩) n.attrs.length ac) rfl
        have q1 : wA.cell? ((⟨bk, off, sp⟩ : Addr).add (k * 2 + 1)) = some (.string p.2) := (HRA.out wA hbA.ex).2
        rw [add_later _ _ _ (by decide)] at q1
        clear hbA
        have HCH := Lib.hid (rchars_any p.2 true (by have := HL2.out; omega) wA)
        go_wp2_with (go_at_call 29; refine HCH.out.mono ?_)
        rintro e wC ⟨vC, rfl, hbC⟩
        obtain ⟨gC, capC, _, _, rfl, _, _, _⟩ := hbC.at
        have HBC := Lib.hid hbC
        have HBA2 := Lib.hid (HBA.out.ext hbC.ex)
        have hw2 : accA.length + (esc true p.2).length ≤ 140737488355328 := by
          rw [HLA.out]; have := esc_len true p.2; have := HL2.out; omega
        have HW2 := Lib.hid hw2
        clear hbC hw2 n1 q1
        go_wp2_with (at_builtin; refine wpB_buf rfl _ _ rfl _ _ rfl w2 wA HBA2.out _ (esc true p.2) HBC.out rfl HW2.out accC HCC.out ?_)
        intro vD wD hbD
        obtain ⟨gD, capD, _, _, rfl, _, _, _⟩ := hbD.at
        have HBD := Lib.hid hbD
        clear hbD
        have hw3 : accC.length + 1 ≤ 140737488355328 := by
          rw [HLC.out, HLA.out]; have := esc_len true p.2; have := HL2.out; omega
        have HW3 := Lib.hid hw3
        clear hw3
        go_wp2_with (refine wpB_byte rfl _ _ rfl (.slice (some ⟨gD, 0, none⟩) accC.length capD) accC rfl w2 HBD.out 34 _ (by rfl) rfl HW3.out accE HEE.out ?_)
        intro vE wE hbE
        obtain ⟨gE, capE, _, _, rfl, _, _, _⟩ := hbE.at
        have HBE := Lib.hid hbE
        clear hbE
        go_wp2_with fail
        go_roundw
        case rel =>
          refine ⟨k + 1, _, by omega, by go_num, ⟨gE, capE, rfl⟩, HBE.out, HF2.out, ?_⟩
          rw [HLE.out, HLC.out, HLA.out]
          have := esc_len true p.2
          have := HL2.out
          omega
        case measure => simp [intOf]; omega
    · obtain rfl : k = n.attrs.length := by omega
      rw [List.drop_length] at hlen
      have ht : tailM n nm.data.toList c n.attrs.length = 62 :: if c = 5 then [] else PN.outers n.kids ++ ([60, 47] ++ nm.data.toList ++ [62]) := by unfold tailM; rw [List.drop_length]; simp
      rw [ht] at hfit
      have HFT := Lib.hid hfit
      have HLN := Lib.hid (show acc.length + 16 + PN.costs n.kids ≤ 1000000000000 by simp [costA] at hlen; omega)
      have HLD := Lib.hid (show acc.length + 1 ≤ 140737488355328 by have := HLN.out; omega)
      clear hfit hlen ht hbr
      obtain ⟨accA, hA⟩ : ∃ l, acc ++ [62] = l := ⟨_, rfl⟩
      have HAA := Lib.hid hA
      have HLA := Lib.hid (show accA.length = acc.length + 1 by rw [← hA, List.length_append]; rfl)
      clear hA
      go_wp2_with (go_loud (refine wpB_byte rfl _ _ rfl (.slice (some ⟨g, 0, none⟩) acc.length cap) acc rfl w2 HBR.out 62 _ (by rfl) rfl HLD.out accA HAA.out ?_))
      intro vA wA hbA
      obtain ⟨gA, capA, _, _, rfl, _, _, _⟩ := hbA.at
      have HBA := Lib.hid hbA
      have HBXA := Lib.hid (hbA.ex.block HB2.out)
      clear hbA n1
      have hc5 : (c == 5) = true ∨ (c == 5) = false := by cases h : (c == 5); exact .inr rfl; exact .inl rfl
      rcases hc5 with hc5 | hc5
      · have e5 : c = 5 := by simpa using hc5
        have eo : accA = out := by rw [← HFT.out, if_pos e5, ← HAA.out]
        have EO5 := Lib.hid eo
        clear eo e5
        go_wp2_with fail
        go_ret
        exact RBuf.mk' HBA.out X3.out EO5.out
      · have e5 : ¬ c = 5 := by simpa using hc5
        have eo : accA ++ PN.outers n.kids ++ (60 :: 47 :: nm.data.toList ++ [62]) = out := by rw [← HFT.out, if_neg e5, ← HAA.out]; simp
        have EO5 := Lib.hid eo
        have n0 := cellOf HBXA.out (i := 0) (v := .int .i64 n.tag) rfl
        have n1 := cellOf HBXA.out (i := 1) (v := .slice ao n.attrs.length ac) rfl
        have n2 := cellOf HBXA.out (i := 2) (v := .string n.text) rfl
        have n3 := cellOf HBXA.out (i := 3) (v := .slice ka n.kids.length kc) rfl
        have hcall := HIN.out wA _ HR.out (((HX.out.trans HXB.out).trans X2.out).trans HBA.out.ex) (by have := HLN.out; omega)
        rw [show n.inner = PN.outers n.kids from if_neg T0.out] at hcall
        have HCALL := Lib.hid hcall
        clear hcall eo e5
        go_wp2_with (go_at_call 14; refine HCALL.out.mono ?_)
        rintro e wC ⟨vC, rfl, hbC⟩
        obtain ⟨gC, capC, _, _, rfl, _, _, _⟩ := hbC.at
        have HBC := Lib.hid hbC
        have HBA2 := Lib.hid (HBA.out.ext hbC.ex)
        obtain ⟨accD, hD⟩ : ∃ l, accA ++ PN.outers n.kids = l := ⟨_, rfl⟩
        have hld : accD.length = accA.length + (PN.outers n.kids).length := by rw [← hD, List.length_append]
        have hle : accA.length + (PN.outers n.kids).length ≤ acc.length + 1 + PN.costs n.kids := by
          have := PN.outers_len (l := n.kids) fun z _ => z.outer_len
          have := HLA.out
          omega
        have HDD := Lib.hid hD
        have HW2 := Lib.hid (show accA.length + (PN.outers n.kids).length ≤ 140737488355328 by have := HLN.out; omega)
        have HW4 := Lib.hid (show accD.length + (⟨#[60, 47]⟩ ++ nm ++ ⟨#[62]⟩ : ByteArray).size ≤ 140737488355328 by
          rw [ByteArray.size_append, ByteArray.size_append, hld]
          show _ + (2 + nm.size + 1) ≤ _
          have := HLN.out
          omega)
        clear hbC hle n0 n1 n2 n3 hld hD
        go_wp2_with (at_builtin; refine wpB_buf rfl _ _ rfl _ _ rfl w2 wA HBA2.out _ (PN.outers n.kids) HBC.out rfl HW2.out accD HDD.out ?_)
        intro vD wD hbD
        obtain ⟨gD, capD, _, _, rfl, _, _, _⟩ := hbD.at
        have HBD := Lib.hid hbD
        clear hbD
        have hz1 : (⟨#[60, 47]⟩ : ByteArray).size + nm.size ≤ 9223372036854775807 := by show 2 + nm.size ≤ _; omega
        have hz2 : (⟨#[60, 47]⟩ ++ nm : ByteArray).size + (⟨#[62]⟩ : ByteArray).size ≤ 9223372036854775807 := by rw [ByteArray.size_append]; show 2 + nm.size + 1 ≤ _; omega
        have e1 : ∀ W : World, (Op.stringOp .add ⟨#[60, 47]⟩ nm).run Tryd.prog W = .ok (.string (⟨#[60, 47]⟩ ++ nm)) W := fun W => run_string_add_sum W _ _ hz1
        have e2 : ∀ W : World, (Op.stringOp .add (⟨#[60, 47]⟩ ++ nm) ⟨#[62]⟩).run Tryd.prog W = .ok (.string (⟨#[60, 47]⟩ ++ nm ++ ⟨#[62]⟩)) W := fun W => run_string_add_sum W _ _ hz2
        have hs2 : accD ++ (⟨#[60, 47]⟩ ++ nm ++ ⟨#[62]⟩ : ByteArray).data.toList = out := by
          rw [ByteArray.data_append, Array.toList_append, ByteArray.data_append, Array.toList_append, ← EO5.out, ← HDD.out]; rfl
        have HS2 := Lib.hid hs2
        clear hz1 hz2 hs2
        go_wp2_with (at_builtin; refine wpB_text rfl _ _ rfl _ _ rfl w2 HBD.out (⟨#[60, 47]⟩ ++ nm ++ ⟨#[62]⟩) rfl HW4.out out HS2.out ?_)
        intro vE wE hbE
        obtain ⟨gE, capE, _, _, rfl, _, _, _⟩ := hbE.at
        have HBE := Lib.hid hbE
        clear hbE
        go_wp2_with fail
        go_ret
        exact RBuf.mk' HBE.out X3.out rfl
theorem router_any (w0 : World) : ∀ n : PN, ROk w0 n := PN.induct _ fun n ih => router_of (rinner_of ih)
theorem rinner_any (w0 : World) (n : PN) : RInOk w0 n := rinner_of fun k _ => router_any w0 k
end Go.Proofs.YtdafdoodegpdhaaDoor
