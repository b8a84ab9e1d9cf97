/- OrderTotal: of any three places in any tree: the other way round they stand the other way; what is ahead of what is ahead is ahead; two that are the same place are one; a node's first place is ahead of all within it, its last behind. No conditions. -/
import Derived.Test.YtiglflmjidikpaaOrdF
namespace Go.Proofs.Ytiglflmjidikpaa
open Go Go.RowKit Go.BigFrame
set_option linter.unusedVariables false
set_option linter.unusedSimpArgs false

section
variable {T : Tr} {d : Nat → Nat}
theorem cmpOk_comm (T : Tr) (an aat bn bat : Int) : T.cmpOk bn bat an aat = T.cmpOk an aat bn bat := by
  unfold Tr.cmpOk
  rw [Bool.and_comm (T.may bn bat)]
  congr 1
  exact decide_eq_decide.2 ⟨Eq.symm, Eq.symm⟩
theorem cmp_comm (T : Tr) (an aat bn bat : Int) : T.cmp bn bat an aat = - T.cmp an aat bn bat := by
  unfold Tr.cmp
  rw [cmpOk_comm]
  cases T.cmpOk an aat bn bat
  · rfl
  · exact cmpL_anti _ _
theorem cmp_bound (T : Tr) (an aat bn bat : Int) : -1 ≤ T.cmp an aat bn bat ∧ T.cmp an aat bn bat ≤ 1 := by
  unfold Tr.cmp
  split
  · exact cmpL_one _ _
  · omega
theorem WF.cmp_zero (hw : WF T d) {an aat bn bat : Int} (h : T.cmpOk an aat bn bat = true) : T.cmp an aat bn bat = 0 ↔ an = bn ∧ aat = bat := by
  unfold Tr.cmp
  rw [if_pos h]
  constructor
  · intro h0
    have h1 := cmpL_eq _ _ (isRow_row _ _) (isRow_row _ _) h0
    obtain ⟨h2, h3⟩ := rowL_inj _ _ _ _ h1
    unfold Tr.cmpOk at h
    simp at h
    exact ⟨hw.path_inj h2 h.2, h3⟩
  · rintro ⟨rfl, rfl⟩; exact cmpL_self _
theorem cmp_trans {an aat bn bat cn cat : Int} (h1 : T.cmpOk an aat bn bat = true) (h2 : T.cmpOk bn bat cn cat = true) : T.cmpOk an aat cn cat = true ∧
    (T.cmp an aat bn bat ≤ 0 → T.cmp bn bat cn cat ≤ 0 → T.cmp an aat cn cat ≤ 0 ∧ (T.cmp an aat bn bat < 0 → T.cmp an aat cn cat < 0)) := by
  have h3 : T.cmpOk an aat cn cat = true := by
    unfold Tr.cmpOk at h1 h2 ⊢
    simp at h1 h2 ⊢
    exact ⟨⟨h1.1.1, h2.1.2⟩, h1.2.trans h2.2⟩
  refine ⟨h3, ?_⟩
  unfold Tr.cmp
  rw [if_pos h1, if_pos h2, if_pos h3]
  exact fun h4 h5 => cmpL_trans _ _ _ (isRow_row _ _) (isRow_row _ _) (isRow_row _ _) h4 h5
/-- a node's first place, and its last -/
theorem WF.cmp_ends (hw : WF T d) {an aat bn : Int} (hm : T.may an aat = true) (hin : T.win an bn = true) (hne : an ≠ bn) :
    T.cmpOk bn 0 an aat = true ∧ T.cmp bn 0 an aat = -1 ∧ T.cmpOk bn (T.lengthOf bn) an aat = true ∧ T.cmp bn (T.lengthOf bn) an aat = 1 := by
  obtain ⟨ad, ha⟩ := may_get T hm
  obtain ⟨bd, hb⟩ : ∃ bd, T.get? bn = some bd := by
    cases hb : T.get? bn with
    | some bd => exact ⟨bd, rfl⟩
    | none =>
      have key : ∀ id, T.win id bn = true → False := by
        refine hw.down _ (fun id h hw1 => ?_) (fun id h ih hw1 => ?_)
        · cases hg : T.get? id with
          | none => rw [hw.win_none hg] at hw1; cases hw1
          | some nd =>
            rw [hw.win_step hg, hw.win_none (x := T.up id) (Tr.get_neg T (by omega)), Bool.or_false, decide_eq_true_eq] at hw1
            rw [hw1, hb] at hg; cases hg
        · obtain ⟨nd, hg⟩ := Tr.get_up h
          rw [hw.win_step hg] at hw1
          simp at hw1
          rcases hw1 with rfl | h1
          · rw [hb] at hg; cases hg
          · exact ih h1
      exact (key an hin).elim
  obtain ⟨k1, q, k2⟩ := hw.kidTo_path hb an ⟨ad, ha⟩ hin hne
  obtain ⟨j, j1, j2, j3, j4⟩ := hw.idx_kid (id := T.kidTo an bn) (by rw [k1]; exact (Tr.get_lt hb).1)
  rw [k1] at j2 j3
  obtain ⟨_, _, hr⟩ := (hw.win_iff hb an ⟨ad, ha⟩).1 hin
  have hkids : T.kidsOf bn = bd.kids := by unfold Tr.kidsOf; rw [hb]
  have htag : T.tagOf bn = bd.tag := by unfold Tr.tagOf; rw [hb]
  have ht := hw.text _ bd (Tr.get_lt hb).2.2
  have hlen : T.lengthOf bn = ((T.kidsOf bn).length : Int) := by
    unfold Tr.lengthOf
    rw [htag, if_neg (by omega), if_neg]
    intro e
    rw [hkids, ht.2.2 e] at j3; simp at j3
  have ok : ∀ z : Int, 0 ≤ z → z ≤ T.lengthOf bn → T.cmpOk bn z an aat = true := fun z h1 h2 => by
    unfold Tr.cmpOk
    have : T.may bn z = true := by unfold Tr.may; simp; exact ⟨h1, h2⟩
    rw [this, hm]; simp [hr]
  have v : ∀ z : Int, 0 ≤ z → z ≤ T.lengthOf bn → T.cmp bn z an aat = if z ≤ j then -1 else 1 := fun z h1 h2 => by
    unfold Tr.cmp
    rw [if_pos (ok z h1 h2), k2, cmp_in, j1]
  refine ⟨ok 0 (by omega) (by omega), ?_, ok _ (by omega) (by omega), ?_⟩
  · rw [v 0 (by omega) (by omega), if_pos (by omega)]
  · rw [v _ (by omega) (by omega), if_neg (by omega)]
end
/-- a comparison's answer -/
structure CmpIs (T : Tr) (an aat bn bat z : Int) (b : Bool) : Prop where
  val : T.cmp an aat bn bat = z
  ok : T.cmpOk an aat bn bat = b
theorem at_cmp {w : World} {tb : Nat} {T : Tr} (hT : TAt w tb T) {d : Nat → Nat} (hw : WF T d) (hA : AttrsOk T) {an aat bn bat z : Int} {b : Bool} (m : CmpIs T an aat bn bat z b) :
    Calls Try.prog 52 #[.pointer (some ⟨tb, 0, none⟩), .agg #[.int .i64 an, .int .i64 aat], .agg #[.int .i64 bn, .int .i64 bat]] w (RTwo (.int .i64 z) (.bool b) w) := by
  have := Cmp_any hT hw hA an aat bn bat; rw [m.val, m.ok] at this; exact this
set_option maxRecDepth 100000 in
set_option maxHeartbeats 8000000 in
theorem orderTotal_walk (cap : Int) (hc : (Lit.int .i64 cap).wf = true) (deep : Int) (hd : (Lit.int .i64 deep).wf = true) {w : World} (v : Value) (l : List Cl) (hl : CallsRd w l v)
    (an : Int) (han : (Lit.int .i64 an).wf = true) (aat : Int) (haat : (Lit.int .i64 aat).wf = true) (bn : Int) (hbn : (Lit.int .i64 bn).wf = true) (bat : Int) (hbat : (Lit.int .i64 bat).wf = true) (cn : Int) (hcn : (Lit.int .i64 cn).wf = true) (cat : Int) (hcat : (Lit.int .i64 cat).wf = true) :
    Calls Try.prog 10 #[.int .i64 cap, .int .i64 deep, v, .agg #[.int .i64 an, .int .i64 aat], .agg #[.int .i64 bn, .int .i64 bat], .agg #[.int .i64 cn, .int .i64 cat]] w (RBool true w) := by
  have HL := Lib.hid hl
  obtain ⟨ao, vcap, rfl, _⟩ := hl
  clear hc hd han haat hbn hbat hcn hcat
  have x1 := (((Ext.refl w).alloc (.cells #[.int .i64 an, .int .i64 aat] 73)).alloc (.cells #[.int .i64 bn, .int .i64 bat] 73)).alloc (.cells #[.int .i64 cn, .int .i64 cat] 73)
  have ha := (Two.new w (.int .i64 an) (.int .i64 aat) 73).ext (((Ext.refl _).alloc (.cells #[.int .i64 bn, .int .i64 bat] 73)).alloc (.cells #[.int .i64 cn, .int .i64 cat] 73))
  have hb := (Two.new (w.alloc (.cells #[.int .i64 an, .int .i64 aat] 73)) (.int .i64 bn) (.int .i64 bat) 73).ext ((Ext.refl _).alloc (.cells #[.int .i64 cn, .int .i64 cat] 73))
  have hcc := Two.new ((w.alloc (.cells #[.int .i64 an, .int .i64 aat] 73)).alloc (.cells #[.int .i64 bn, .int .i64 bat] 73)) (.int .i64 cn) (.int .i64 cat) 73
  rw [show (w.alloc (.cells #[.int .i64 an, .int .i64 aat] 73)).heap.size = w.heap.size + 1 by simp] at hb
  rw [show ((w.alloc (.cells #[.int .i64 an, .int .i64 aat] 73)).alloc (.cells #[.int .i64 bn, .int .i64 bat] 73)).heap.size = w.heap.size + 2 by simp] at hcc
  go_enter Try.func10, Try.ntmps10
  go_upto_region 1 with fail
  obtain ⟨wb, hwb⟩ : ∃ wb : World, wb = ((w.alloc (.cells #[.int .i64 an, .int .i64 aat] 73)).alloc (.cells #[.int .i64 bn, .int .i64 bat] 73)).alloc (.cells #[.int .i64 cn, .int .i64 cat] 73) := ⟨_, rfl⟩
  rw [← hwb] at x1 ha hb hcc ⊢
  clear hwb
  have HAB := Lib.hid (And.intro ha (And.intro hb hcc))
  clear ha hb hcc
  go_wp2_with fail
  refine (tree_any cap deep (HL.out.ext x1)).mono ?_
  rintro e w2 (⟨rfl, hx2⟩ | ⟨tb, rfl, ht⟩)
  · go_wp2_with (go_at_call 51; refine (awake9_any _).mono ?_; rintro e w3 ⟨rfl, hx3⟩)
    go_ret
    exact ⟨rfl, x1.trans (hx2.trans hx3)⟩
  · obtain ⟨own, ptr, T, hT0, hO, ⟨⟨d, hw⟩, hA⟩, hx2, _⟩ := ht
    have hT : TAt w2 tb T := ⟨own, ptr, hT0, hO⟩
    obtain ⟨ab, hab⟩ : ∃ z, T.cmp an aat bn bat = z := ⟨_, rfl⟩
    obtain ⟨bc, hbc⟩ : ∃ z, T.cmp bn bat cn cat = z := ⟨_, rfl⟩
    obtain ⟨ac, hac⟩ : ∃ z, T.cmp an aat cn cat = z := ⟨_, rfl⟩
    obtain ⟨o1, ho1⟩ : ∃ z, T.cmpOk an aat bn bat = z := ⟨_, rfl⟩
    obtain ⟨o2, ho2⟩ : ∃ z, T.cmpOk bn bat cn cat = z := ⟨_, rfl⟩
    obtain ⟨o3, ho3⟩ : ∃ z, T.cmpOk an aat cn cat = z := ⟨_, rfl⟩
    obtain ⟨ba, hba⟩ : ∃ z, T.cmp bn bat an aat = z := ⟨_, rfl⟩
    have CAB : CmpIs T an aat bn bat ab o1 := ⟨hab, ho1⟩
    have CBC : CmpIs T bn bat cn cat bc o2 := ⟨hbc, ho2⟩
    have CAC : CmpIs T an aat cn cat ac o3 := ⟨hac, ho3⟩
    have CBA : CmpIs T bn bat an aat ba o1 := ⟨hba, (cmpOk_comm T an aat bn bat).trans ho1⟩
    have hbnd := cmp_bound T an aat bn bat
    have hneg : IntKind.i64.wrap (-ba) = ab := by
      have h1 := cmp_comm T an aat bn bat
      rw [hba, hab] at h1
      rw [h1, Int.neg_neg]
      exact IntWalk.i64_in _ (by omega)
    have hzero : o1 = true → (ab = 0 ↔ an = bn ∧ aat = bat) := fun h => by rw [← hab]; exact hw.cmp_zero (ho1.trans h)
    have htr : o1 = true → o2 = true → o3 = true ∧ (ab ≤ 0 → bc ≤ 0 → ac ≤ 0 ∧ (ab < 0 → ac < 0)) := fun h1 h2 => by
      have := cmp_trans (ho1.trans h1) (ho2.trans h2)
      rw [ho3, hab, hbc, hac] at this
      exact this
    have HZ := Lib.hid hzero
    have HTR := Lib.hid htr
    have HW := Lib.hid hw
    have HA := Lib.hid hA
    have HX2 := Lib.hid (x1.trans hx2)
    have HT := Lib.hid hT
    have HAB2 := Lib.hid (And.intro (HAB.out.1.ext hx2) (And.intro (HAB.out.2.1.ext hx2) (HAB.out.2.2.ext hx2)))
    clear hT0 hO hw hA hT hab hbc hac ho1 ho2 ho3 hba hbnd hzero htr hx2 x1 HAB
    obtain ⟨⟨a0, a1, _, _⟩, ⟨b0, b1, _, _⟩, ⟨c0, c1, _, _⟩⟩ := HAB2.out
    go_wp2_with fail
    refine (at_cmp HT.out HW.out HA.out CAB).mono ?_
    rintro e w3 ⟨rfl, hx3⟩
    replace a0 := hx3.cell a0
    replace a1 := hx3.cell a1
    replace b0 := hx3.cell b0
    replace b1 := hx3.cell b1
    have HX3 := Lib.hid hx3
    clear hx3
    go_wp2_with fail
    refine (at_cmp (HT.out.ext HX3.out) HW.out HA.out CBA).mono ?_
    rintro e w4 ⟨rfl, hx4⟩
    have HX4 := Lib.hid (HX3.out.trans hx4)
    replace a0 := hx4.cell a0
    replace a1 := hx4.cell a1
    replace b0 := hx4.cell b0
    replace b1 := hx4.cell b1
    clear hx4 HX3
    go_upto_region 6 with fail
    go_cut [66] (fun s wx => s = .bool false ∧ wx = w4)
    case first =>
      cases o1 with
      | false => go_wp2_with fail; go_meet; exact ⟨rfl, rfl⟩
      | true =>
        cases h0 : (ab == 0) with
        | true =>
          obtain ⟨e1, e2⟩ := (HZ.out rfl).1 (by simpa using h0)
          have e1' : (an == bn) = true := by simpa using e1
          have e2' : (aat == bat) = true := by simpa using e2
          clear e1 e2
          go_wp2_with fail
          go_meet
          exact ⟨rfl, rfl⟩
        | false =>
          have hnn : ¬ (an = bn ∧ aat = bat) := fun h => by
            have := (HZ.out rfl).2 h
            rw [this] at h0; simp at h0
          cases e1 : (an == bn) with
          | false => go_wp2_with fail; go_meet; exact ⟨rfl, rfl⟩
          | true =>
            have e2 : (aat == bat) = false := by
              cases e2 : (aat == bat) with
              | false => rfl
              | true => exact absurd ⟨by simpa using e1, by simpa using e2⟩ hnn
            clear hnn
            go_wp2_with fail
            go_meet
            exact ⟨rfl, rfl⟩
    case rest =>
      obtain ⟨rfl, hwx⟩ := hcut
      have hwx' := hwx.symm
      subst hwx'

      replace c0 := HX4.out.cell c0
      replace c1 := HX4.out.cell c1
      go_wp2_with fail
      refine (at_cmp (HT.out.ext HX4.out) HW.out HA.out CBC).mono ?_
      rintro e w5 ⟨rfl, hx5⟩
      replace a0 := hx5.cell a0
      replace a1 := hx5.cell a1
      replace b0 := hx5.cell b0
      replace b1 := hx5.cell b1
      replace c0 := hx5.cell c0
      replace c1 := hx5.cell c1
      have HX5 := Lib.hid (HX4.out.trans hx5)
      clear hx5 HX4
      go_wp2_with fail
      refine (at_cmp (HT.out.ext HX5.out) HW.out HA.out CAC).mono ?_
      rintro e w6 ⟨rfl, hx6⟩
      replace a0 := hx6.cell a0
      replace a1 := hx6.cell a1
      replace b0 := hx6.cell b0
      replace b1 := hx6.cell b1
      have HX6 := Lib.hid (HX5.out.trans hx6)
      clear hx6 HX5 c0 c1
      go_upto_region 10 with fail
      go_cut [112] (fun s wx => s = .bool false ∧ wx = w6)
      case first =>
        cases o1 with
        | false => go_wp2_with fail; go_meet; exact ⟨rfl, rfl⟩
        | true =>
          cases o2 with
          | false => go_wp2_with fail; go_meet; exact ⟨rfl, rfl⟩
          | true =>
            have htr := HTR.out rfl rfl
            cases o3 with
            | false => exact absurd htr.1 (by simp)
            | true =>
              have h1 := htr.2
              have H1 := Lib.hid h1
              clear htr h1
              by_cases hp : ab ≤ 0
              · by_cases hq : bc ≤ 0
                · obtain ⟨h2, h3⟩ := H1.out hp hq
                  by_cases hn : ab < 0
                  · have h4 := h3 hn
                    clear h3
                    go_wp2_with fail
                    go_meet
                    exact ⟨by rw [decide_eq_false (by omega), decide_eq_false (by omega)]; rfl, rfl⟩
                  · clear h3
                    go_wp2_with fail
                    go_meet
                    exact ⟨by rw [decide_eq_false (by omega)], rfl⟩
                · by_cases hn : ab < 0
                  · go_wp2_with fail; go_meet; exact ⟨rfl, rfl⟩
                  · go_wp2_with fail; go_meet; exact ⟨rfl, rfl⟩
              · have hn : ¬ ab < 0 := by omega
                go_wp2_with fail
                go_meet
                exact ⟨rfl, rfl⟩
      case rest =>
        obtain ⟨rfl, hwx⟩ := hcut
        have hwx' := hwx.symm
        subst hwx'

        go_upto_region 12 with fail
        go_cut [130] (fun s wx => ∃ b : Bool, s = .bool b ∧ Ext w6 wx ∧ Hid (b = true → T.may an aat = true ∧ T.win an bn = true ∧ an ≠ bn))
        case first =>
          cases hm : T.may an aat with
          | false =>
            have MA : MayIs T an aat false := ⟨hm⟩
            clear hm
            go_wp2_with fail
            refine (at_may (HT.out.ext HX6.out) HW.out HA.out MA).mono ?_
            rintro e w7 ⟨rfl, hx7⟩
            go_wp2_with fail
            go_meet
            exact ⟨false, rfl, hx7, Lib.hid fun h => by cases h⟩
          | true =>
            have MA : MayIs T an aat true := ⟨hm⟩
            clear hm
            go_wp2_with fail
            refine (at_may (HT.out.ext HX6.out) HW.out HA.out MA).mono ?_
            rintro e w7 ⟨rfl, hx7⟩
            replace a0 := hx7.cell a0
            replace b0 := hx7.cell b0
            cases hw1 : T.win an bn with
            | false =>
              have WA : WinIs T an bn false := ⟨hw1⟩
              clear hw1
              go_wp2_with fail
              refine (at_win (HT.out.ext (HX6.out.trans hx7)) HW.out WA).mono ?_
              rintro e w8 ⟨rfl, hx8⟩
              go_wp2_with fail
              go_meet
              exact ⟨false, rfl, hx7.trans hx8, Lib.hid fun h => by cases h⟩
            | true =>
              have WA : WinIs T an bn true := ⟨hw1⟩
              clear hw1
              go_wp2_with fail
              refine (at_win (HT.out.ext (HX6.out.trans hx7)) HW.out WA).mono ?_
              rintro e w8 ⟨rfl, hx8⟩
              replace a0 := hx8.cell a0
              replace b0 := hx8.cell b0
              cases hne : (an == bn) with
              | false =>
                go_wp2_with fail
                go_meet
                exact ⟨true, by rw [bne, hne]; rfl, hx7.trans hx8, Lib.hid fun _ => ⟨MA.out, WA.out, by simpa using hne⟩⟩
              | true =>
                go_wp2_with fail
                go_meet
                exact ⟨false, by rw [bne, hne]; rfl, hx7.trans hx8, Lib.hid fun h => by cases h⟩
        case rest =>
          obtain ⟨b, rfl, hx7, hb⟩ := hcut
          replace a0 := hx7.cell a0
          replace a1 := hx7.cell a1
          replace b0 := hx7.cell b0
          replace b1 := hx7.cell b1
          cases b with
          | false =>
            go_wp2_with (go_at_call 51; refine (awake9_any _).mono ?_; rintro e w9 ⟨rfl, hx9⟩)
            go_ret
            exact ⟨rfl, HX2.out.trans (HX6.out.trans (hx7.trans hx9))⟩
          | true =>
            obtain ⟨hm, hin, hne⟩ := hb.out rfl
            obtain ⟨e1, e2, e3, e4⟩ := HW.out.cmp_ends hm hin hne
            obtain ⟨z, hz⟩ : ∃ z, T.lengthOf bn = z := ⟨_, rfl⟩
            rw [hz] at e3 e4
            have C1 : CmpIs T bn 0 an aat (-1) true := ⟨e2, e1⟩
            have C2 : CmpIs T bn z an aat 1 true := ⟨e4, e3⟩
            have HLN := Lib.hid (show ∀ u, TAt u tb T → Calls Try.prog 60 #[.pointer (some ⟨tb, 0, none⟩), .int .i64 bn] u (RVal (.int .i64 z) u) from fun u h => hz ▸ Length_any h HW.out HA.out bn)
            clear hm hin hne e1 e2 e3 e4 hz hb
            go_wp2_with fail
            refine (at_cmp (HT.out.ext (HX6.out.trans hx7)) HW.out HA.out C1).mono ?_
            rintro e w9 ⟨rfl, hx9⟩
            replace a0 := hx9.cell a0
            replace a1 := hx9.cell a1
            replace b0 := hx9.cell b0
            replace b1 := hx9.cell b1
            have HX9 := Lib.hid (HX6.out.trans (hx7.trans hx9))
            clear hx7 hx9
            go_upto_region 14 with fail
            have a0' := fun u : ExtOf w9 => u.ext.cell a0
            have a1' := fun u : ExtOf w9 => u.ext.cell a1
            have b0' := fun u : ExtOf w9 => u.ext.cell b0
            have b1' := fun u : ExtOf w9 => u.ext.cell b1
            refine wp_region_ext (by kernel_rfl) (by kernel_rfl) ?_
            repeat (go_big_quiet_step (first
              | (go_at_call 60; exact inExt (HLN.out _ (HT.out.ext (HX9.out.trans (ExtOf.ext _)))))
              | (go_at_call 52; exact inExt (at_cmp (HT.out.ext (HX9.out.trans (ExtOf.ext _))) HW.out HA.out C2))))
            refine wpQuiet_nil ?_
            rintro _ ⟨u, rfl⟩
            clear a0' a1' b0' b1'
            go_wp2_with (go_at_call 51; refine (awake9_any _).mono ?_; rintro e w10 ⟨rfl, hx10⟩)
            go_ret
            exact ⟨rfl, HX2.out.trans (HX9.out.trans (u.ext.trans hx10))⟩
end Go.Proofs.Ytiglflmjidikpaa
