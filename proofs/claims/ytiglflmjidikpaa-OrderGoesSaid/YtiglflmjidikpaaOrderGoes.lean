/- OrderGoes: from a root, Next comes to all within it, one by one, and Prev back; they are All; each is within the root, behind those ahead of it. No conditions. -/
import Derived.Test.YtiglflmjidikpaaOrdI
namespace Go.Proofs.Ytiglflmjidikpaa
open Go Go.RowKit Go.BigFrame
set_option linter.unusedVariables false
set_option linter.unusedSimpArgs false

/-- a comparison's answer -/
structure CmpTo (T : Tr) (an aat bn bat z : Int) (b : Bool) : Prop where
  val : T.cmp an aat bn bat = z
  ok : T.cmpOk an aat bn bat = b
theorem at_cmpTo {w : World} {tb : Nat} {T : Tr} (hT : TAt w tb T) {d : Nat → Nat} (hw : WF T d) (hA : AttrsOk T) {an aat bn bat z : Int} {b : Bool} (m : CmpTo T an aat bn bat z b) :
    Calls Try.prog 52 #[.pointer (some ⟨tb, 0, none⟩), .agg #[.int .i64 an, .int .i64 aat], .agg #[.int .i64 bn, .int .i64 bat]] w (RTwo (.int .i64 z) (.bool b) w) := by
  have := Cmp_any hT hw hA an aat bn bat; rw [m.val, m.ok] at this; exact this
theorem at_next {w : World} {tb : Nat} {T : Tr} (hT : TAt w tb T) {d : Nat → Nat} (hw : WF T d) {id z : Int} (hz : T.next id = z) : Calls Try.prog 56 #[.pointer (some ⟨tb, 0, none⟩), .int .i64 id] w (RVal (.int .i64 z) w) := hz ▸ Next_any hT hw id
theorem at_prev {w : World} {tb : Nat} {T : Tr} (hT : TAt w tb T) {d : Nat → Nat} (hw : WF T d) {id z : Int} (hz : T.prev id = z) : Calls Try.prog 57 #[.pointer (some ⟨tb, 0, none⟩), .int .i64 id] w (RVal (.int .i64 z) w) := hz ▸ Prev_any hT hw id
theorem WF.prev_root {T : Tr} {d : Nat → Nat} (hw : WF T d) {id : Int} (h : ¬ 0 ≤ T.up id) : T.prev id = -1 := by
  have h1 : T.idx id = -1 := by
    unfold Tr.idx
    cases hg : T.get? id with
    | none => rfl
    | some nd =>
      rw [Tr.up_some hg] at h
      show (match T.get? nd.parent with | none => -1 | some pd => posOf pd.kids id) = -1
      rw [Tr.get_neg T (by omega)]
  unfold Tr.prev
  rw [if_pos (by omega), hw.up_neg h]
set_option maxRecDepth 100000 in
set_option maxHeartbeats 8000000 in
theorem orderGoes_walk (cap : Int) (hc : (Lit.int .i64 cap).wf = true) (deep : Int) (hd : (Lit.int .i64 deep).wf = true) {w : World} (v : Value) (l : List Cl) (hl : CallsRd w l v) (root : Int) (hroot : (Lit.int .i64 root).wf = true) :
    Calls Try.prog 14 #[.int .i64 cap, .int .i64 deep, v, .int .i64 root] w (RBool true w) := by
  have HL := Lib.hid hl
  obtain ⟨ao, vcap, rfl, _⟩ := hl
  clear hc hd hroot
  go_enter Try.func14, Try.ntmps14
  go_wp2_with fail
  refine (tree_any cap deep HL.out).mono ?_
  rintro e w2 (⟨rfl, hx2⟩ | ⟨tb, rfl, ht⟩)
  · go_wp2_with (go_at_call 51; refine (awake9_any _).mono ?_; rintro e w3 ⟨rfl, hx3⟩)
    go_ret
    exact ⟨rfl, hx2.trans hx3⟩
  · obtain ⟨own, ptr, T, hT0, hO, ⟨⟨d, hw⟩, hA⟩, hx2, _⟩ := ht
    have hT : TAt w2 tb T := ⟨own, ptr, hT0, hO⟩
    have HW := Lib.hid hw
    have HA := Lib.hid hA
    have HX2 := Lib.hid hx2
    have HT := Lib.hid hT
    clear hT0 hO hw hA hT hx2
    cases hg : T.get? root with
    | none =>
      have HG := Lib.hid hg
      clear hg
      go_wp2_with fail
      refine (at_has_no HT.out HG.out).mono ?_
      rintro e w3 ⟨rfl, hx3⟩
      go_wp2_with (go_at_call 51; refine (awake9_any _).mono ?_; rintro e w4 ⟨rfl, hx4⟩)
      go_ret
      exact ⟨rfl, HX2.out.trans (hx3.trans hx4)⟩
    | some rd =>
      have HG := Lib.hid hg
      clear hg
      by_cases hu : 0 ≤ T.up root
      · obtain ⟨p, hp⟩ : ∃ p, T.up root = p := ⟨_, rfl⟩
        have HP := Lib.hid hp
        rw [hp] at hu
        clear hp
        go_wp2_with fail
        refine (at_has_yes HT.out HG.out).mono ?_
        rintro e w3 ⟨rfl, hx3⟩
        go_wp2_with fail
        refine (at_up' (HT.out.ext hx3) root HP.out).mono ?_
        rintro e w4 ⟨rfl, hx4⟩
        go_wp2_with (go_at_call 51; refine (awake9_any _).mono ?_; rintro e w5 ⟨rfl, hx5⟩)
        go_ret
        exact ⟨rfl, HX2.out.trans (hx3.trans (hx4.trans hx5))⟩
      · have hum := HW.out.up_neg hu
        have hbh : T.behind root = -1 := by rw [HW.out.behind_step, if_neg hu]
        have hpr := HW.out.prev_root hu
        obtain ⟨L, hL⟩ : ∃ L, T.pre root = L := ⟨_, rfl⟩
        have hall : T.allOf root = L := by unfold Tr.allOf; rw [HG.out]; exact hL
        have hlen := HW.out.pre_2000 ⟨rd, HG.out⟩
        have hch := HW.out.chain root
        have hin : ∀ x ∈ L, (∃ xd, T.get? x = some xd) ∧ T.win x root = true := fun x hx => by
          rw [← hL] at hx
          obtain ⟨h1, h2, q, h3⟩ := HW.out.pre_in root ⟨rd, HG.out⟩ x hx
          exact ⟨h1, (HW.out.win_iff HG.out x h1).2 ⟨q, h3, h2⟩⟩
        have hhd : L[0]? = some root := by rw [← hL, ← List.head?_eq_getElem?]; exact HW.out.pre_head root
        rw [hL] at hlen hch
        rw [hbh] at hch
        have HUM := Lib.hid hum
        have HPR := Lib.hid hpr
        have HCH := Lib.hid hch
        have HIN := Lib.hid hin
        have HHD := Lib.hid hhd
        have HAL := Lib.hid (show ∀ u, TAt u tb T → Calls Try.prog 59 #[.pointer (some ⟨tb, 0, none⟩), .int .i64 root] u (RRow 3 1 L.length (L.map (Value.int .i64)) u) from fun u h => hall ▸ All_any h HW.out root)
        clear hu hum hbh hpr hL hall hch hin hhd
        go_wp2_with fail
        refine (at_has_yes HT.out HG.out).mono ?_
        rintro e w3 ⟨rfl, hx3⟩
        go_wp2_with fail
        refine (at_up' (HT.out.ext hx3) root HUM.out).mono ?_
        rintro e w4 ⟨rfl, hx4⟩
        go_wp2_with fail
        refine (HAL.out _ (HT.out.ext (hx3.trans hx4))).mono ?_
        rintro e w5 ⟨va, rfl, hra, hx5⟩
        have hrd := hra.rd
        obtain ⟨_, la, lc, rfl, hlc, hln, hcell⟩ := hrd
        have HLN := Lib.hid hln
        have HCL := Lib.hid hcell
        have HX5 := Lib.hid ((hx3.trans hx4).trans hx5)
        clear hra hln hcell hx3 hx4 hx5
        go_wp2_with fail
        go_loopw [11, 12, 13, 14, 15] (fun s i _ _ _ wr => ∃ k : Nat, k ≤ L.length ∧ i = .int .i64 k ∧ s = .int .i64 ((L[k]?).getD (-1)) ∧ Ext w5 wr) (fun _ i _ _ _ _ => L.length - (intOf i).toNat)
        case atStart => exact ⟨0, Nat.zero_le _, rfl, by rw [HHD.out]; rfl, Ext.refl _⟩
        case round =>
          obtain ⟨k, hk, rfl, rfl, hx⟩ := hrel
          by_cases hlt : k < L.length
          · obtain ⟨x, hxk⟩ : ∃ x, L[k]? = some x := ⟨L[k], by simp [hlt]⟩
            obtain ⟨hxg, hxw⟩ := HIN.out x (List.mem_of_getElem? hxk)
            obtain ⟨nx, hnx⟩ : ∃ nx, (L[k + 1]?).getD (-1) = nx := ⟨_, rfl⟩
            have hnext := HCH.out k x hxk
            rw [hnx] at hnext
            rw [hxk]
            simp only [Option.getD_some]
            cases la with
            | none => exact absurd (HLN.out rfl).1 (by omega)
            | some a =>
              obtain ⟨b, off, sp⟩ := a
              have c0 := hx.cells _ _ (HCL.out _ rfl k (.int .i64 x) (by rw [List.getElem?_map, hxk]; rfl))
              have WX : WinIs T x root true := ⟨hxw⟩
              have HNX := Lib.hid hnx
              have HNT := Lib.hid hnext
              have HXG := Lib.hid hxg
              clear hnx hnext hxg hxw hxk
              go_wp2_with fail
              refine (at_win (HT.out.ext (HX5.out.trans hx)) HW.out WX).mono ?_
              rintro e w6 ⟨rfl, hx6⟩
              have HX6 := Lib.hid (HX5.out.trans (hx.trans hx6))
              have HX6' := Lib.hid (hx.trans hx6)
              clear hx hx6 c0
              go_wp2_with fail
              refine (at_next (HT.out.ext HX6.out) HW.out HNT.out).mono ?_
              rintro e w7 ⟨rfl, hx7⟩
              have HX7 := Lib.hid (HX6.out.trans hx7)
              have HX7' := Lib.hid (HX6'.out.trans hx7)
              clear hx7
              by_cases hl2 : k + 1 < L.length
              · obtain ⟨y, hyk⟩ : ∃ y, L[k + 1]? = some y := ⟨L[k + 1], by simp [hl2]⟩
                have hny : nx = y := by have := HNX.out; rw [hyk] at this; exact this.symm
                subst hny
                have hy0 : 0 ≤ nx := get_nonneg (HIN.out nx (List.mem_of_getElem? hyk)).1
                have hpn : T.prev nx = x := by have := HW.out.prev_next (x := x) (by rw [HNT.out]; exact hy0); rw [HNT.out] at this; exact this
                obtain ⟨h1, h2⟩ := HW.out.cmp_next HXG.out HNT.out hy0
                have CX : CmpTo T x 0 nx 0 (-1) true := ⟨h2, h1⟩
                have HPN := Lib.hid hpn
                clear hyk hpn h1 h2
                go_wp2_with fail
                refine (at_prev (HT.out.ext HX7.out) HW.out HPN.out).mono ?_
                rintro e w8 ⟨rfl, hx8⟩
                go_wp2_with fail
                refine (at_cmpTo (HT.out.ext (HX7.out.trans hx8)) HW.out HA.out CX).mono ?_
                rintro e w9 ⟨rfl, hx9⟩
                go_wp2_with fail
                go_roundw
                case rel => exact ⟨k + 1, by omega, by go_num, by rw [HNX.out], (HX7'.out.trans hx8).trans hx9⟩
                case measure => simp [intOf]; omega
              · have hny : nx = -1 := by have := HNX.out; rw [List.getElem?_eq_none (by omega)] at this; exact this.symm
                subst hny
                go_wp2_with fail
                go_roundw
                case rel => exact ⟨k + 1, by omega, by go_num, by rw [HNX.out], HX7'.out⟩
                case measure => simp [intOf]; omega
          · obtain rfl : k = L.length := by omega
            have hnone : L[L.length]? = none := List.getElem?_eq_none (Nat.le_refl _)
            rw [hnone]
            simp only [Option.getD_none]
            clear hnone
            go_wp2_with fail
            refine (at_prev (HT.out.ext (HX5.out.trans hx)) HW.out HPR.out).mono ?_
            rintro e w6 ⟨rfl, hx6⟩
            go_wp2_with (go_at_call 51; refine (awake9_any _).mono ?_; rintro e w7 ⟨rfl, hx7⟩)
            go_ret
            exact ⟨rfl, HX2.out.trans (HX5.out.trans (hx.trans (hx6.trans hx7)))⟩
end Go.Proofs.Ytiglflmjidikpaa
