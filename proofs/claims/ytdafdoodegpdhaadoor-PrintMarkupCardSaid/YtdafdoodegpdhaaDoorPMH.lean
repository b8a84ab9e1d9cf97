/- The document's answer whether a node is normal (16): a text; no tag. Conditions: at most 10^12 bytes. -/
import Derived.Test.YtdafdoodegpdhaaDoorPMG
namespace Go.Proofs.YtdafdoodegpdhaaDoor
open Go Go.RowKit Go.BigFrame
set_option linter.unusedVariables false
set_option linter.unusedSimpArgs false

theorem take_all {l : List UInt8} {k : Nat} {c : UInt8} (h : l[k]? = some c) : (l.take (k + 1)).all blankB = ((l.take k).all blankB && blankB c) := by
  obtain ⟨hl, e⟩ := List.getElem?_eq_some_iff.1 h
  rw [List.take_succ_eq_append_getElem hl, List.all_append, e]
  simp
set_option maxHeartbeats 4000000 in
set_option maxRecDepth 100000 in
theorem rnormal_text {w0 : World} {n : PN} (h0 : n.tag = 0) : NRef w0 n := by
  intro U m uv w v hr hx hU hm hup hc
  obtain ⟨y1, y2, y3, y4, rfl⟩ := hr.shape
  obtain ⟨ua, uc, rfl, huc⟩ := hup.len_of
  have x1 := ((Ext.refl w).alloc (.cells #[.int .i64 n.tag, .slice y1 n.attrs.length y2, .string n.text, .slice y3 n.kids.length y4] 25))
  have bb := heap_alloc_new w (.cells #[.int .i64 n.tag, .slice y1 n.attrs.length y2, .string n.text, .slice y3 n.kids.length y4] 25)
  obtain ⟨r, hr9⟩ : ∃ r, normU n U = r := ⟨_, rfl⟩
  rw [hr9]
  unfold normU at hr9
  have hcls : clsT n.tag = 1 := by rw [h0]; decide
  rw [PN.norm_eq, hcls, hU] at hr9
  have hr10 : (decide (m + 1 ≤ 40) && textOk (boxU U) n) = r := by
    rw [← hr9]
    have : decide (((m + 1 : Nat) : Int) ≤ 40) = decide (m + 1 ≤ 40) := decide_eq_decide.2 ⟨fun h => by omega, fun h => by omega⟩
    rw [this]
    rfl
  have HR9 := Lib.hid hr10
  obtain ⟨t, ht⟩ : ∃ t, U[m]? = some t := ⟨U[m]'(by omega), List.getElem?_eq_getElem (by omega)⟩
  have hbox : boxU U = (clsT t == 2) := by unfold boxU; rw [hU, Nat.add_sub_cancel]; simp [List.getD, ht]
  have HBX := Lib.hid hbox
  have ht0 : (n.tag == 0) = true := by simpa using h0
  have hts : n.text.size ≤ 1000000000000 := by rw [PN.cost_eq] at hc; omega
  have HAN := Lib.hid (Anew_big n.text hts)
  have HTS := Lib.hid hts
  have HUP := Lib.hid hup
  have HTT := Lib.hid ht
  clear hr hr9 hr10 hx hU hcls hc hts hbox h0 hup ht
  go_enter Tryd.func53, Tryd.ntmps53
  go_upto_region 1 with fail
  obtain ⟨w1, hw1⟩ : ∃ w1 : World, w1 = w.alloc (.cells #[.int .i64 n.tag, .slice y1 n.attrs.length y2, .string n.text, .slice y3 n.kids.length y4] 25) := ⟨_, rfl⟩
  rw [← hw1] at x1 bb ⊢
  clear hw1
  have n0 := cellOf bb (i := 0) (v := .int .i64 n.tag) rfl
  have n1 := cellOf bb (i := 1) (v := .slice y1 n.attrs.length y2) rfl
  have n2 := cellOf bb (i := 2) (v := .string n.text) rfl
  have n3 := cellOf bb (i := 3) (v := .slice y3 n.kids.length y4) rfl
  have X1 := Lib.hid x1
  have B1 := Lib.hid bb
  clear x1 bb
  by_cases hm0 : (40 : Int) < (m : Int) + 1
  · have hr0 : r = false := by rw [← HR9.out, decide_eq_false (by omega)]; rfl
    subst hr0
    go_wp2_with fail
    go_ret
    exact ⟨rfl, X1.out⟩
  have hr1 : textOk (boxU U) n = r := by rw [← HR9.out, decide_eq_true (by omega)]; rfl
  have HR1 := Lib.hid hr1
  clear hr1
  go_wp2_with (go_at_call 30; refine (rClass_any _ n.tag).mono ?_)
  rintro e w2 ⟨rfl, x2⟩
  have X2 := Lib.hid (X1.out.trans x2)
  obtain ⟨_, ao', cap', e, _, h0, hcell⟩ := HUP.out
  cases e
  cases ua with
  | none => exact absurd (h0 rfl).1 (by omega)
  | some a =>
    have q := X2.out.cells _ _ (hcell a rfl m (.int .i64 t) (by rw [List.getElem?_map, HTT.out]; rfl))
    have hwr : IntKind.i64.wrap ((m : Int) + 1 - 1) = (m : Int) := by rw [IntWalk.i64_left, IntWalk.wrap64_in _ (by omega)]; omega
    have b2 := x2.block B1.out
    replace n0 := x2.cell n0
    have B2 := Lib.hid b2
    clear hcell h0 x2 n1 n2 n3 b2
    obtain ⟨c, hcl⟩ : ∃ c, clsT n.tag = c := ⟨_, rfl⟩
    rw [hcl]
    clear hcl
    go_upto_region 6 with fail
    have d1 := fun u : ExtOf w2 => u.ext.cell (cellOf B2.out (i := 1) (v := .slice y1 n.attrs.length y2) rfl)
    have d2 := fun u : ExtOf w2 => u.ext.cell (cellOf B2.out (i := 2) (v := .string n.text) rfl)
    have d3 := fun u : ExtOf w2 => u.ext.cell (cellOf B2.out (i := 3) (v := .slice y3 n.kids.length y4) rfl)
    by_cases hA : (0 : Int) < (n.attrs.length : Int)
    · have hr0 : r = false := by rw [← HR1.out]; unfold textOk; rw [isEmpty_no (by omega)]; rfl
      subst hr0
      have hAd : decide (0 < n.attrs.length) = true := decide_eq_true (by omega)
      clear hA
      refine wp_region_ext (by kernel_rfl) (by kernel_rfl) ?_
      repeat (go_big_quiet_step ((go_at_call 22; exact inExt (HAN.out _))))
      refine wpQuiet_nil ?_
      rintro _ ⟨u, rfl⟩
      go_wp2_with fail
      go_ret
      exact ⟨rfl, X2.out.trans u.ext⟩
    have hAd : decide (0 < n.attrs.length) = false := decide_eq_false (by omega)
    have hA0 : n.attrs.isEmpty = true := by rw [List.isEmpty_iff]; exact List.eq_nil_of_length_eq_zero (by omega)
    have A0 := Lib.hid hA0
    clear hA0 hA
    by_cases hK : (0 : Int) < (n.kids.length : Int)
    · have hr0 : r = false := by rw [← HR1.out]; unfold textOk; rw [isEmpty_no (l := n.kids) (by omega)]; simp
      subst hr0
      have hKd : decide (0 < n.kids.length) = true := decide_eq_true (by omega)
      clear hK
      refine wp_region_ext (by kernel_rfl) (by kernel_rfl) ?_
      repeat (go_big_quiet_step ((go_at_call 22; exact inExt (HAN.out _))))
      refine wpQuiet_nil ?_
      rintro _ ⟨u, rfl⟩
      go_wp2_with fail
      go_ret
      exact ⟨rfl, X2.out.trans u.ext⟩
    have hKd : decide (0 < n.kids.length) = false := decide_eq_false (by omega)
    have hK0 : n.kids.isEmpty = true := by rw [List.isEmpty_iff]; exact List.eq_nil_of_length_eq_zero (by omega)
    have K0 := Lib.hid hK0
    clear hK0 hK
    by_cases hS : n.text.size = 0
    · have e3 : (n.text.toList == ([] : List UInt8)) = true := text_none hS
      have hr0 : r = false := by rw [← HR1.out]; unfold textOk; simp [hS]
      subst hr0
      clear hS
      refine wp_region_ext (by kernel_rfl) (by kernel_rfl) ?_
      repeat (go_big_quiet_step ((go_at_call 22; exact inExt (HAN.out _))))
      refine wpQuiet_nil ?_
      rintro _ ⟨u, rfl⟩
      go_wp2_with fail
      go_ret
      exact ⟨rfl, X2.out.trans u.ext⟩
    have e3 : (n.text.toList == ([] : List UInt8)) = false := text_some hS
    have S0 := Lib.hid (decide_eq_true hS)
    clear hS
    by_cases hN : anewB n.text = n.text
    case neg =>
      have e4 : ((anewB n.text).toList == n.text.toList) = false := by rw [str_eq]; exact decide_eq_false hN
      have hr0 : r = false := by rw [← HR1.out]; unfold textOk; rw [decide_eq_false hN]; simp
      subst hr0
      clear hN
      refine wp_region_ext (by kernel_rfl) (by kernel_rfl) ?_
      repeat (go_big_quiet_step ((go_at_call 22; exact inExt (HAN.out _))))
      refine wpQuiet_nil ?_
      rintro _ ⟨u, rfl⟩
      go_wp2_with fail
      go_ret
      exact ⟨rfl, X2.out.trans u.ext⟩
    have e4 : ((anewB n.text).toList == n.text.toList) = true := by rw [str_eq]; exact decide_eq_true hN
    have N0 := Lib.hid (decide_eq_true hN)
    clear hN
    refine wp_region_ext (by kernel_rfl) (by kernel_rfl) ?_
    repeat (go_big_quiet_step ((go_at_call 22; exact inExt (HAN.out _))))
    refine wpQuiet_nil ?_
    rintro _ ⟨u, rfl⟩
    have hr2 : (!((clsT t == 2) && n.text.data.toList.all blankB)) = r := by
      rw [← HR1.out, HBX.out]; unfold textOk; rw [A0.out, K0.out, S0.out, N0.out]; rfl
    have HR2 := Lib.hid hr2
    have HT2 := Lib.hid (show n.text.size ≤ 1000000000000 from HTS.out)
    have XU := Lib.hid (X2.out.trans u.ext)
    have BU := Lib.hid (u.ext.block B2.out)
    obtain ⟨wu, hwu⟩ : ∃ wu, u.val = wu := ⟨_, rfl⟩
    rw [hwu] at XU BU ⊢
    obtain ⟨F, hF⟩ : ∃ F : Nat → Bool, ∀ k, F k = (n.text.data.toList.take k).all blankB := ⟨_, fun _ => rfl⟩
    have F0 := Lib.hid (show Value.bool true = Value.bool (F 0) by rw [hF 0]; rfl)
    have FS := Lib.hid (fun (k : Nat) (d : UInt8) (h : n.text.data.toList[k]? = some d) => show F (k + 1) = (F k && blankB d) by rw [hF, hF, take_all h])
    have FE := Lib.hid (show F n.text.size = n.text.data.toList.all blankB by rw [hF]; exact congrArg (fun l => List.all l blankB) List.take_length)
    clear hF
    clear d1 d2 d3 hr2 e3 e4 hwu n0 hAd hKd
    go_wp2_with fail
    go_loopw [7, 8] (fun o i wr => ∃ k : Nat, k ≤ n.text.size ∧ o = .bool (F k) ∧ i = .int .i64 k ∧ Ext wu wr) (fun _ i _ => n.text.size - (intOf i).toNat)
    case atStart => exact ⟨0, Nat.zero_le _, F0.out, rfl, Ext.refl _⟩
    case round =>
      obtain ⟨k, hk, rfl, rfl, xr⟩ := hrel
      have n2 := cellOf (xr.block BU.out) (i := 2) (v := .string n.text) rfl
      have XR := Lib.hid xr
      have hk12 := HT2.out
      clear xr
      by_cases hlt : k < n.text.size
      · obtain ⟨d, hd⟩ : ∃ d, n.text[k]'hlt = d := ⟨_, rfl⟩
        have hdl : n.text.data.toList[k]? = some d := by rw [List.getElem?_eq_getElem (by exact hlt)]; exact congrArg some hd
        have hix : ∀ W : World, (Instr.index 9 (.string n.text) (.int .i64 (k : Int))).run Tryd.prog W = .ok (.int .u8 (d.toNat : Int)) W := by
          intro W
          rw [run_index_string W 9 n.text .i64 (k : Int) Tryd.underlying9, dif_pos ⟨by omega, by omega⟩]
          simp only [Int.toNat_natCast, hd]
        have HTK := FS.out k d hdl
        clear hdl hd
        obtain ⟨o, ho⟩ : ∃ o, F k = o := ⟨_, rfl⟩
        rw [ho] at HTK ⊢
        clear ho
        cases o with
        | true =>
          rw [Bool.true_and] at HTK
          have HTV := Lib.hid (show Value.bool (blankB d) = Value.bool (F (k + 1)) by rw [HTK])
          clear HTK
          go_wp2_with (go_at_call 71; refine (rBlank_any d _).mono ?_)
          rintro e w4 ⟨rfl, x4⟩
          clear n2
          go_wp2_with fail
          go_roundw
          case rel => exact ⟨k + 1, by omega, HTV.out, by go_num, XR.out.trans x4⟩
          case measure => simp [intOf]; omega
        | false =>
          rw [Bool.false_and] at HTK
          have HTV := Lib.hid (show Value.bool false = Value.bool (F (k + 1)) by rw [HTK])
          clear HTK
          go_wp2_with fail
          go_roundw
          case rel => exact ⟨k + 1, by omega, HTV.out, by go_num, XR.out⟩
          case measure => simp [intOf]; omega
      · obtain rfl : k = n.text.size := by omega
        obtain ⟨o, ho⟩ : ∃ o, F n.text.size = o := ⟨_, rfl⟩
        have HR3 := HR2.out
        rw [← FE.out, ho] at HR3
        rw [ho]
        have HR4 := Lib.hid HR3
        clear ho HR3
        cases o with
        | true =>
          have h2 : (clsT t == 2) = true ∨ (clsT t == 2) = false := by cases (clsT t == 2); exact .inr rfl; exact .inl rfl
          have HCT := Lib.hid (rClass_any wr t)
          obtain ⟨ct, hct⟩ : ∃ ct, clsT t = ct := ⟨_, rfl⟩
          rw [hct] at HCT h2 HR4
          clear hct
          rcases h2 with h2 | h2
          · have hr0 : r = false := by rw [← HR4.out, h2]; rfl
            have h3 : (ct != 2) = false := by simp [bne, h2]
            subst hr0
            go_wp2_with (go_at_call 30; refine HCT.out.mono ?_)
            rintro e w4 ⟨rfl, x4⟩
            clear n2
            go_wp2_with fail
            go_ret
            exact ⟨by first | rfl | (rw [h3]), (XU.out.trans XR.out).trans x4⟩
          · have hr0 : r = true := by rw [← HR4.out, h2]; rfl
            have h3 : (ct != 2) = true := by simp [bne, h2]
            subst hr0
            go_wp2_with (go_at_call 30; refine HCT.out.mono ?_)
            rintro e w4 ⟨rfl, x4⟩
            clear n2
            go_wp2_with fail
            go_ret
            exact ⟨by first | rfl | (rw [h3]), (XU.out.trans XR.out).trans x4⟩
        | false =>
          have hr0 : r = true := by rw [← HR4.out, Bool.and_false]; rfl
          subst hr0
          go_wp2_with fail
          go_ret
          exact ⟨rfl, XU.out.trans XR.out⟩
end Go.Proofs.YtdafdoodegpdhaaDoor
