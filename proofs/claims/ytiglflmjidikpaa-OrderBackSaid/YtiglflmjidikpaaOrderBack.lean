/- OrderBack: the path of each node leads from its root to it; the point of each place is there. No conditions. -/
import Derived.Test.YtiglflmjidikpaaOrdG
namespace Go.Proofs.Ytiglflmjidikpaa
open Go Go.RowKit Go.BigFrame
set_option linter.unusedVariables false
set_option linter.unusedSimpArgs false

theorem WF.root_get {T : Tr} {d : Nat → Nat} (hw : WF T d) : ∀ id, (∃ nd, T.get? id = some nd) → ∃ rd, T.get? (T.rootOf id) = some rd := by
  refine hw.down _ (fun id h => ?_) (fun id h ih => ?_)
  · intro hg; rw [hw.root_step, if_neg h]; exact hg
  · intro _; rw [hw.root_step, if_pos h]; exact ih (hw.up_get h)
theorem WF.find_path {T : Tr} {d : Nat → Nat} (hw : WF T d) {id : Int} {nd : Nd} (hg : T.get? id = some nd) : T.find (T.rootOf id) (T.pathOf id) = some id := by
  obtain ⟨rd, hr⟩ := hw.root_get id ⟨nd, hg⟩
  unfold Tr.find
  rw [hr]
  exact hw.walk_path id
theorem WF.path_in {T : Tr} {d : Nat → Nat} (hw : WF T d) (id : Int) : ∀ i ∈ T.pathOf id, -9223372036854775808 ≤ i ∧ i ≤ 9223372036854775807 := fun i hi => by
  have := hw.path_small id i hi; omega
theorem Ints_same {w : World} {v v' : Value} {p : List Int} (h : RowRd w 1 v p.length (p.map (Value.int .i64))) (h' : RowRd w 1 v' p.length (p.map (Value.int .i64))) (hp : p.length ≤ 60000) :
    Calls Try.prog 71 #[v, v'] w (RVal (.bool true) w) := by
  have := Ints_any h h' hp hp
  rw [decide_eq_true rfl] at this
  exact this
set_option maxRecDepth 100000 in
set_option maxHeartbeats 8000000 in
theorem orderBack_walk (cap : Int) (hc : (Lit.int .i64 cap).wf = true) (deep : Int) (hd : (Lit.int .i64 deep).wf = true) {w : World} (v : Value) (l : List Cl) (hl : CallsRd w l v)
    (pn : Int) (hpn : (Lit.int .i64 pn).wf = true) (pat : Int) (hpat : (Lit.int .i64 pat).wf = true) :
    Calls Try.prog 13 #[.int .i64 cap, .int .i64 deep, v, .agg #[.int .i64 pn, .int .i64 pat]] w (RBool true w) := by
  have HL := Lib.hid hl
  obtain ⟨ao, vcap, rfl, _⟩ := hl
  clear hc hd hpn hpat
  have x1 := (Ext.refl w).alloc (.cells #[.int .i64 pn, .int .i64 pat] 73)
  have ha := Two.new w (.int .i64 pn) (.int .i64 pat) 73
  go_enter Try.func13, Try.ntmps13
  go_upto_region 1 with fail
  obtain ⟨wb, hwb⟩ : ∃ wb : World, wb = w.alloc (.cells #[.int .i64 pn, .int .i64 pat] 73) := ⟨_, rfl⟩
  rw [← hwb] at x1 ha ⊢
  clear hwb
  have HAB := Lib.hid ha
  clear ha
  go_wp2_with fail
  refine (tree_any cap deep (HL.out.ext x1)).mono ?_
  rintro e w2 (⟨rfl, hx2⟩ | ⟨tb, rfl, ht⟩)
  · go_wp2_with (go_at_call 51; refine (awake9_any _).mono ?_; rintro e w3 ⟨rfl, hx3⟩)
    go_ret
    exact ⟨rfl, x1.trans (hx2.trans hx3)⟩
  · obtain ⟨own, ptr, T, hT0, hO, ⟨⟨d, hw⟩, hA⟩, hx2, _⟩ := ht
    have hT : TAt w2 tb T := ⟨own, ptr, hT0, hO⟩
    have HW := Lib.hid hw
    have HA := Lib.hid hA
    have HX2 := Lib.hid (x1.trans hx2)
    have HT := Lib.hid hT
    have HAB2 := Lib.hid (HAB.out.ext hx2)
    clear hT0 hO hw hA hT hx2 x1 HAB
    go_wp2_with fail
    go_loopw [10, 11, 12, 13, 14] (fun i _ _ _ _ wr => ∃ k : Nat, k ≤ 60 ∧ i = .int .i64 k ∧ Ext w2 wr) (fun i _ _ _ _ _ => 60 - (intOf i).toNat)
    case atStart => exact ⟨0, by omega, rfl, Ext.refl _⟩
    case round =>
      obtain ⟨k, hk, rfl, hx⟩ := hrel
      by_cases hlt : k < 60
      · cases hg : T.get? (k : Int) with
        | none =>
          have HG := Lib.hid hg
          clear hg
          go_wp2_with fail
          refine (at_has_no (HT.out.ext hx) HG.out).mono ?_
          rintro e w3 ⟨rfl, hx3⟩
          go_wp2_with fail
          go_roundw
          case rel => exact ⟨k + 1, by omega, by go_num, hx.trans hx3⟩
          case measure => simp [intOf]; omega
        | some nd =>
          have HG := Lib.hid hg
          clear hg
          go_wp2_with fail
          refine (at_has_yes (HT.out.ext hx) HG.out).mono ?_
          rintro e w3 ⟨rfl, hx3⟩
          go_wp2_with fail
          have HX3 := Lib.hid (hx.trans hx3)
          clear hx hx3
          go_loopw [11] (fun s wz => ∃ x : Int, s = .int .i64 x ∧ Ext w2 wz ∧ Hid (T.rootOf x = T.rootOf k)) (fun s _ => T.rank d (intOf s))
          case atStart => exact ⟨(k : Int), rfl, HX3.out, Lib.hid rfl⟩
          case round =>
            obtain ⟨x, rfl, hy, hr⟩ := hrel
            by_cases hu : 0 ≤ T.up x
            · obtain ⟨p, hp⟩ : ∃ p, T.up x = p := ⟨_, rfl⟩
              have HP := Lib.hid hp
              have HU := Lib.hid hu
              rw [hp] at hu
              clear hp
              go_wp2_with fail
              refine (at_up' (HT.out.ext hy) x HP.out).mono ?_
              rintro e w4 ⟨rfl, hx4⟩
              go_wp2_with fail
              refine (at_up' (HT.out.ext (hy.trans hx4)) x HP.out).mono ?_
              rintro e w5 ⟨rfl, hx5⟩
              go_wp2_with fail
              go_roundw
              case rel =>
                refine ⟨p, rfl, (hy.trans hx4).trans hx5, Lib.hid ?_⟩
                rw [← hr.out, HW.out.root_step x, if_pos HU.out, HP.out]
              case measure => have := HW.out.rank_up HU.out; rw [HP.out] at this; simp [intOf]; omega
            · have hum := HW.out.up_neg hu
              have HUM := Lib.hid hum
              have hrt : T.rootOf k = x := by rw [← hr.out, HW.out.root_step x, if_neg hu]
              have hfp := HW.out.find_path HG.out
              rw [hrt] at hfp
              have HFP := Lib.hid hfp
              have HP41 := Lib.hid (HW.out.path_41 k)
              obtain ⟨m, hm⟩ : ∃ m, (T.pathOf k).length = m := ⟨_, rfl⟩
              have hm41 : m ≤ 41 := hm ▸ HP41.out
              have HM := Lib.hid hm
              clear hum hu hrt hfp hm
              go_wp2_with fail
              refine (at_up' (HT.out.ext hy) x HUM.out).mono ?_
              rintro e w4 ⟨rfl, hx4⟩
              go_wp2_with fail
              refine (Path_any (HT.out.ext (hy.trans hx4)) HW.out k).mono ?_
              rintro e w5 ⟨va, rfl, hra, hx5, _⟩
              have HY5 := Lib.hid ((hy.trans hx4).trans hx5)
              have HRA := Lib.hid hra
              obtain ⟨pa, pc, ev, _⟩ := hra.len_of
              rw [HM.out] at ev
              subst ev
              clear hy hx4 hx5 hra
              go_wp2_with fail
              refine (at_find (HT.out.ext HY5.out) HW.out HRA.out (by have := HP41.out; omega) (HW.out.path_in k) HFP.out).mono ?_
              rintro e w6 ⟨rfl, hx6⟩
              go_wp2_with fail
              refine (at_depth (HT.out.ext (HY5.out.trans hx6)) HW.out HG.out).mono ?_
              rw [HM.out]
              rintro e w7 ⟨rfl, hx7⟩
              go_wp2_with fail
              go_roundw
              case rel => exact ⟨k + 1, by omega, by go_num, (HY5.out.trans hx6).trans hx7⟩
              case measure => simp [intOf]; omega
      · obtain rfl : k = 60 := by omega
        obtain ⟨q0, q1, _, _⟩ := HAB2.out.ext hx
        go_wp2_with fail
        refine (Point_any (HT.out.ext hx) HW.out HA.out pn pat).mono ?_
        rintro e w3 (⟨hm, hv, a, c, rfl, hra, hx3⟩ | ⟨hno, rfl, hx3⟩)
        · have hrt := HW.out.live_root hv
          obtain ⟨nd, hg⟩ := may_get T hm
          have hfp := HW.out.find_path hg
          rw [hrt] at hfp
          have HFP := Lib.hid hfp
          have MA : MayIs T pn pat true := ⟨hm⟩
          have LA : LiveIs T pn true := ⟨hv⟩
          have hp41 := HW.out.path_41 pn
          obtain ⟨m, hmm⟩ : ∃ m, (T.pathOf pn).length = m := ⟨_, rfl⟩
          rw [hmm] at hp41 hra ⊢
          have x4 := (Ext.refl w3).alloc (.cells #[.slice a m c, .int .i64 pat] 78)
          have h4 := Two.new w3 (.slice a m c) (.int .i64 pat) 78
          replace q0 := (hx3.trans x4).cell q0
          replace q1 := (hx3.trans x4).cell q1
          have HRA := Lib.hid (hra.ext x4)
          have HMM := Lib.hid hmm
          replace hx3 := (hx.trans hx3).trans x4
          clear hrt hg hfp hm hv hra x4 hmm hx
          go_upto_region 16 with fail
          obtain ⟨w4, hw4⟩ : ∃ w4 : World, w4 = w3.alloc (.cells #[.slice a m c, .int .i64 pat] 78) := ⟨_, rfl⟩
          rw [← hw4] at q0 q1 h4 HRA hx3 ⊢
          clear hw4
          obtain ⟨r0, r1, _, _⟩ := h4
          go_wp2_with fail
          refine (at_may (HT.out.ext hx3) HW.out HA.out MA).mono ?_
          rintro e w5 ⟨rfl, hx5⟩
          replace q0 := hx5.cell q0
          replace q1 := hx5.cell q1
          replace r0 := hx5.cell r0
          replace r1 := hx5.cell r1
          replace HRA := Lib.hid (HRA.out.ext hx5)
          replace hx5 := hx3.trans hx5
          clear hx3
          go_wp2_with fail
          refine (at_live' (HT.out.ext hx5) HW.out LA).mono ?_
          rintro e w6 ⟨rfl, hx6⟩
          replace q0 := hx6.cell q0
          replace q1 := hx6.cell q1
          replace r0 := hx6.cell r0
          replace r1 := hx6.cell r1
          replace HRA := Lib.hid (HRA.out.ext hx6)
          replace hx6 := hx5.trans hx6
          clear hx5
          go_wp2_with fail
          refine (At_any (HT.out.ext hx6) HW.out HA.out (p := T.pathOf pn) (by rw [HMM.out]; exact HRA.out) (by rw [HMM.out]; omega) (HW.out.path_in pn) pat).mono ?_
          rintro e w7 (⟨id, hf, hm7, rfl, hx7⟩ | ⟨hf, rfl, hx7⟩)
          · rw [HFP.out] at hf
            injection hf with hf
            subst hf
            have x8 := (Ext.refl w7).alloc (.cells #[.int .i64 pn, .int .i64 pat] 73)
            have h8 := Two.new w7 (.int .i64 pn) (.int .i64 pat) 73
            replace q0 := (hx7.trans x8).cell q0
            replace q1 := (hx7.trans x8).cell q1
            replace r0 := (hx7.trans x8).cell r0
            replace HRA := Lib.hid (HRA.out.ext (hx7.trans x8))
            replace hx7 := (hx6.trans hx7).trans x8
            clear x8 hx6 r1 hm7
            go_upto_region 21 with fail
            obtain ⟨w8, hw8⟩ : ∃ w8 : World, w8 = w7.alloc (.cells #[.int .i64 pn, .int .i64 pat] 73) := ⟨_, rfl⟩
            rw [← hw8] at q0 q1 r0 h8 HRA hx7 ⊢
            clear hw8
            obtain ⟨s0, s1, _, _⟩ := h8
            have hk := And.intro q0 (And.intro q1 (And.intro r0 (And.intro s0 s1)))
            have HK := Lib.hid hk
            have HXD := Lib.hid (show Ext w2 w8.drew from hx7.drew)
            have HRD := Lib.hid (HRA.out.ext ((Ext.refl w8).drew))
            have HL6 := Lib.hid (show (T.pathOf pn).length ≤ 60000 by rw [HMM.out]; omega)
            clear hx7
            go_region_held3 (fun w' => w'.cell? ⟨w.heap.size, 0, none⟩ = some (.int .i64 pn) ∧ w'.cell? ⟨w.heap.size, 1, none⟩ = some (.int .i64 pat) ∧ w'.cell? ⟨w3.heap.size, 0, none⟩ = some (.slice a m c) ∧ w'.cell? ⟨w7.heap.size, 0, none⟩ = some (.int .i64 pn) ∧ w'.cell? ⟨w7.heap.size, 1, none⟩ = some (.int .i64 pat))
              (first | exact hkeep | exact hk | go_keep)
              (first
              | (go_at_call 51; refine (awake9_any _).mono ?_; rintro e w11 ⟨rfl, hx11⟩; have HX11 := Lib.hid (HX10.out.trans hx11); have hkeep := And.intro (hx11.cell HK10.out.1) (And.intro (hx11.cell HK10.out.2.1) (And.intro (hx11.cell HK10.out.2.2.1) (And.intro (hx11.cell HK10.out.2.2.2.1) (hx11.cell HK10.out.2.2.2.2)))); clear hx11)
              | (go_at_call 71; refine (Ints_same HRA9.out HPB.out HL6.out).mono ?_; rintro e w10 ⟨rfl, hx10⟩; have HX10 := Lib.hid (HX9.out.trans hx10); have hkeep := And.intro (hx10.cell HK9.out.1) (And.intro (hx10.cell HK9.out.2.1) (And.intro (hx10.cell HK9.out.2.2.1) (And.intro (hx10.cell HK9.out.2.2.2.1) (hx10.cell HK9.out.2.2.2.2)))); have HK10 := Lib.hid hkeep; clear hx10)
              | (go_at_call 64; refine (Path_any (HT.out.ext HXD.out) HW.out pn).mono ?_; rintro e w9 ⟨vb, rfl, hrb, hx9, _⟩; have HX9 := Lib.hid (HXD.out.trans hx9); have hkeep := And.intro (hx9.cell HK.out.1) (And.intro (hx9.cell HK.out.2.1) (And.intro (hx9.cell HK.out.2.2.1) (And.intro (hx9.cell HK.out.2.2.2.1) (hx9.cell HK.out.2.2.2.2)))); have HK9 := Lib.hid hkeep; have HPB := Lib.hid hrb; have HRA9 := Lib.hid (show RowRd w9 1 (.slice a m c) (T.pathOf pn).length ((T.pathOf pn).map (Value.int .i64)) from by rw [HMM.out]; exact HRD.out.ext hx9); clear hrb hx9))
            go_wp2_with fail
            go_ret
            exact ⟨rfl, HX2.out.trans HX11.out⟩
          · exact absurd MA.out (by rw [hf pn HFP.out]; simp)
        · have x4 := (Ext.refl w3).alloc (.cells #[.slice none 0 0, .int .i64 0] 78)
          replace q0 := (hx3.trans x4).cell q0
          replace q1 := (hx3.trans x4).cell q1
          replace hx3 := (hx.trans hx3).trans x4
          have HNO := Lib.hid hno
          clear hno x4 hx
          go_upto_region 16 with fail
          obtain ⟨w4, hw4⟩ : ∃ w4 : World, w4 = w3.alloc (.cells #[.slice none 0 0, .int .i64 0] 78) := ⟨_, rfl⟩
          rw [← hw4] at q0 q1 hx3 ⊢
          clear hw4
          cases hm : T.may pn pat with
          | false =>
            have MA : MayIs T pn pat false := ⟨hm⟩
            clear hm
            go_wp2_with fail
            refine (at_may (HT.out.ext hx3) HW.out HA.out MA).mono ?_
            rintro e w5 ⟨rfl, hx5⟩
            go_wp2_with (go_at_call 51; refine (awake9_any _).mono ?_; rintro e w6 ⟨rfl, hx6⟩)
            go_ret
            exact ⟨rfl, HX2.out.trans (hx3.trans (hx5.trans hx6))⟩
          | true =>
            have hv : T.live pn = false := by have := HNO.out; rw [hm] at this; simpa using this
            have MA : MayIs T pn pat true := ⟨hm⟩
            have LA : LiveIs T pn false := ⟨hv⟩
            clear hm hv
            go_wp2_with fail
            refine (at_may (HT.out.ext hx3) HW.out HA.out MA).mono ?_
            rintro e w5 ⟨rfl, hx5⟩
            replace q0 := hx5.cell q0
            replace hx5 := hx3.trans hx5
            clear hx3
            go_wp2_with fail
            refine (at_live' (HT.out.ext hx5) HW.out LA).mono ?_
            rintro e w6 ⟨rfl, hx6⟩
            go_wp2_with (go_at_call 51; refine (awake9_any _).mono ?_; rintro e w7 ⟨rfl, hx7⟩)
            go_ret
            exact ⟨rfl, HX2.out.trans (hx5.trans (hx6.trans hx7))⟩
end Go.Proofs.Ytiglflmjidikpaa
