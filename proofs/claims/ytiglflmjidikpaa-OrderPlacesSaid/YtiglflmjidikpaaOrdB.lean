/- Package order: the contracts of Within, kid, Behind, Next, Prev, Length, May, Clamp. No conditions beside a tree's own. -/
import Derived.Test.YtiglflmjidikpaaOrdA
namespace Go.Proofs.Ytiglflmjidikpaa
open Go Go.RowKit Go.BigFrame
set_option linter.unusedVariables false
set_option linter.unusedSimpArgs false

section
variable {w : World} {tb : Nat} {T : Tr}
theorem at_has_no (h : TAt w tb T) {id : Int} (hg : T.get? id = none) : Calls Try.prog 27 #[.pointer (some ⟨tb, 0, none⟩), .int .i64 id] w (RVal (.bool false) w) := by
  have := at_has h id; rw [hg] at this; exact this
theorem at_has_yes (h : TAt w tb T) {id : Int} {nd : Nd} (hg : T.get? id = some nd) : Calls Try.prog 27 #[.pointer (some ⟨tb, 0, none⟩), .int .i64 id] w (RVal (.bool true) w) := by
  have := at_has h id; rw [hg] at this; exact this
theorem at_up' (h : TAt w tb T) (id : Int) {z : Int} (hz : T.up id = z) : Calls Try.prog 34 #[.pointer (some ⟨tb, 0, none⟩), .int .i64 id] w (RVal (.int .i64 z) w) := hz ▸ at_up h id
theorem at_idx' (h : TAt w tb T) {d : Nat → Nat} (hw : WF T d) (id : Int) {z : Int} (hz : T.idx id = z) : Calls Try.prog 35 #[.pointer (some ⟨tb, 0, none⟩), .int .i64 id] w (RVal (.int .i64 z) w) := hz ▸ at_idx h hw id
theorem at_kids' (h : TAt w tb T) {d : Nat → Nat} (hw : WF T d) (id : Int) {l : List Int} (hl : T.kidsOf id = l) : Calls Try.prog 49 #[.pointer (some ⟨tb, 0, none⟩), .int .i64 id] w (IntsIs l w) := hl ▸ at_kids h hw id
theorem at_tag' (h : TAt w tb T) (id : Int) {z : Int} (hz : T.tagOf id = z) : Calls Try.prog 46 #[.pointer (some ⟨tb, 0, none⟩), .int .i64 id] w (RVal (.int .i64 z) w) := hz ▸ at_tag h id
end
section
variable {T : Tr} {d : Nat → Nat}
theorem Tr.up_none {T : Tr} {id : Int} (hg : T.get? id = none) : T.up id = -1 := by unfold Tr.up; rw [hg]
theorem Tr.up_some {T : Tr} {id : Int} {nd : Nd} (hg : T.get? id = some nd) : T.up id = nd.parent := by unfold Tr.up; rw [hg]
theorem Tr.get_neg (T : Tr) {id : Int} (h : id < 0) : T.get? id = none := by unfold Tr.get?; rw [if_pos h]
theorem WF.up_neg (hw : WF T d) {id : Int} (h : ¬ 0 ≤ T.up id) : T.up id = -1 := by
  unfold Tr.up at h ⊢
  cases hg : T.get? id with
  | none => rfl
  | some nd =>
    rw [hg] at h
    obtain ⟨i, rfl, hi⟩ := nat_of hg
    rcases hw.up i nd hi with ⟨h1, h2⟩ | ⟨p, pd, h1, h2, h3, h4⟩
    · exact h1
    · have h' : ¬ 0 ≤ nd.parent := h; omega
theorem WF.rank_step (hw : WF T d) {id : Int} {nd : Nd} (hg : T.get? id = some nd) : T.rank d (T.up id) < T.rank d id := by
  by_cases h : 0 ≤ T.up id
  · have := hw.rank_up h; omega
  · rw [hw.up_neg h]
    unfold Tr.rank
    rw [Tr.get_neg T (show (-1 : Int) < 0 by omega), hg]; simp
theorem WF.idx_kid (hw : WF T d) {id : Int} (h : 0 ≤ T.up id) : ∃ j : Nat, T.idx id = (j : Int) ∧ (T.kidsOf (T.up id))[j]? = some id ∧ j < (T.kidsOf (T.up id)).length ∧ (T.kidsOf (T.up id)).length ≤ 2000 := by
  obtain ⟨i, p, nd, pd, rfl, h1, h2, h3, h4, h5, h6⟩ := hw.up_pos h
  obtain ⟨k1, k2, k3⟩ := posOf_mem h6
  have e : T.kidsOf (T.up (i : Int)) = pd.kids := by unfold Tr.kidsOf; rw [h3, Tr.get_of h4]
  have e2 : T.idx (i : Int) = posOf pd.kids i := by unfold Tr.idx; rw [Tr.get_of h1]; simp only [h2, Tr.get_of h4]
  rw [e, e2]
  refine ⟨_, k1, ?_, k2, by have := hw.kids_len h4; omega⟩
  rw [List.getElem?_eq_getElem k2]
  simp
theorem WF.kidsOf_len (hw : WF T d) (id : Int) : (T.kidsOf id).length ≤ 2000 := by
  unfold Tr.kidsOf
  cases hg : T.get? id with
  | none => simp
  | some nd => exact hw.kids_len (Tr.get_lt hg).2.2
theorem WF.kid_rank (hw : WF T d) {id k : Int} (hk : k ∈ T.kidsOf id) : T.up k = id ∧ 0 ≤ id ∧ T.rank d k = T.rank d id + 1 ∧ ∃ kd, T.get? k = some kd := by
  unfold Tr.kidsOf at hk
  cases hg : T.get? id with
  | none => rw [hg] at hk; simp at hk
  | some nd =>
    rw [hg] at hk
    obtain ⟨i, rfl, hi⟩ := nat_of hg
    obtain ⟨j, kd, rfl, hj, hjp⟩ := (hw.kids i nd hi).2 k hk
    have hu : T.up (j : Int) = (i : Int) := by rw [Tr.up_some (Tr.get_of hj)]; exact hjp
    refine ⟨hu, by omega, ?_, kd, Tr.get_of hj⟩
    have := hw.rank_up (id := (j : Int)) (by omega)
    rw [this, hu]
end
/-- is a node another one, or within it? -/
def Tr.win (T : Tr) (id outer : Int) : Bool := T.goUp (fun x r => decide (x = outer) || r) (fun x => (T.get? x).isSome && decide (x = outer)) id
theorem WF.win_none {T : Tr} {d : Nat → Nat} (hw : WF T d) {x outer : Int} (hg : T.get? x = none) : T.win x outer = false := by
  unfold Tr.win
  rw [hw.goUp_step, if_neg (by rw [Tr.up_none hg]; omega), hg]; rfl
theorem WF.win_step {T : Tr} {d : Nat → Nat} (hw : WF T d) {x outer : Int} {nd : Nd} (hg : T.get? x = some nd) : T.win x outer = (decide (x = outer) || T.win (T.up x) outer) := by
  have h := hw.goUp_step (fun x r => decide (x = outer) || r) (fun x => (T.get? x).isSome && decide (x = outer)) x
  by_cases hu : 0 ≤ T.up x
  · rw [if_pos hu] at h; exact h
  · rw [if_neg hu, hg] at h
    rw [hw.win_none (x := T.up x) (Tr.get_neg T (by omega)), Bool.or_false]
    exact h.trans (Bool.true_and _)
set_option maxHeartbeats 1000000 in
theorem Within_any {w : World} {tb : Nat} {T : Tr} (hT : TAt w tb T) {d : Nat → Nat} (hw : WF T d) (id outer : Int) : Calls Try.prog 63 #[.pointer (some ⟨tb, 0, none⟩), .int .i64 id, .int .i64 outer] w (RVal (.bool (T.win id outer)) w) := by
  go_enter Try.func63, Try.ntmps63
  go_wp2_with fail
  go_loopw [1] (fun s wr => ∃ x : Int, s = .int .i64 x ∧ Ext w wr ∧ Hid (T.win x outer = T.win id outer)) (fun s _ => T.rank d (intOf s))
  case atStart => exact ⟨id, rfl, Ext.refl _, Lib.hid rfl⟩
  case round =>
    obtain ⟨x, rfl, hx, hr⟩ := hrel
    cases hg : T.get? x with
    | none =>
      have HG := Lib.hid hg
      clear hg
      go_wp2_with fail
      refine (at_has_no (hT.ext hx) HG.out).mono ?_
      rintro e w1 ⟨rfl, hx1⟩
      go_wp2_with fail
      refine (at_has_no (hT.ext (hx.trans hx1)) HG.out).mono ?_
      rintro e w2 ⟨rfl, hx2⟩
      go_wp2_with fail
      go_ret
      exact ⟨by rw [← hr.out, hw.win_none HG.out]; rfl, (hx.trans hx1).trans hx2⟩
    | some nd =>
      have HG := Lib.hid hg
      have HS := Lib.hid (hw.win_step (outer := outer) hg)
      clear hg
      go_wp2_with fail
      refine (at_has_yes (hT.ext hx) HG.out).mono ?_
      rintro e w1 ⟨rfl, hx1⟩
      by_cases he : x = outer
      · subst he
        go_wp2_with fail
        refine (at_has_yes (hT.ext (hx.trans hx1)) HG.out).mono ?_
        rintro e w2 ⟨rfl, hx2⟩
        go_wp2_with fail
        go_ret
        exact ⟨by rw [← hr.out, HS.out]; simp, (hx.trans hx1).trans hx2⟩
      · go_wp2_with fail
        refine (at_up (hT.ext (hx.trans hx1)) x).mono ?_
        rintro e w2 ⟨rfl, hx2⟩
        go_wp2_with fail
        go_roundw
        case rel => exact ⟨T.up x, rfl, (hx.trans hx1).trans hx2, Lib.hid (by rw [← hr.out, HS.out]; simp [he])⟩
        case measure => have := hw.rank_step HG.out; simp [intOf]; omega
/-- the kid of outer by which a node is within it -/
def Tr.kidTo (T : Tr) (id outer : Int) : Int := T.goUp (fun x r => if T.up x = outer then x else r) (fun x => x) id
set_option maxRecDepth 100000 in
set_option maxHeartbeats 1000000 in
theorem kid_any {w : World} {tb : Nat} {T : Tr} (hT : TAt w tb T) {d : Nat → Nat} (hw : WF T d) (id outer : Int) (hin : T.win id outer = true) (hne : id ≠ outer) : Calls Try.prog 115 #[.pointer (some ⟨tb, 0, none⟩), .int .i64 id, .int .i64 outer] w (RVal (.int .i64 (T.kidTo id outer)) w) := by
  have HIN := Lib.hid hin
  have HNE := Lib.hid hne
  clear hin hne
  go_enter Try.func115, Try.ntmps115
  go_wp2_with fail
  go_loopw [1] (fun s wr => ∃ x : Int, s = .int .i64 x ∧ Ext w wr ∧ Hid (T.win x outer = true ∧ x ≠ outer ∧ T.kidTo x outer = T.kidTo id outer)) (fun s _ => T.rank d (intOf s))
  case atStart => exact ⟨id, rfl, Ext.refl _, Lib.hid ⟨HIN.out, HNE.out, rfl⟩⟩
  case round =>
    obtain ⟨x, rfl, hx, hr⟩ := hrel
    have h0 : 0 ≤ T.up x ∧ T.win (T.up x) outer = true ∧ T.kidTo x outer = if T.up x = outer then x else T.kidTo (T.up x) outer := by
      obtain ⟨h1, h2, h3⟩ := hr.out
      cases hg : T.get? x with
      | none => rw [hw.win_none hg] at h1; cases h1
      | some nd =>
        rw [hw.win_step hg] at h1
        simp [h2] at h1
        have hu : 0 ≤ T.up x := by
          cases hgu : T.get? (T.up x) with
          | none => rw [hw.win_none hgu] at h1; cases h1
          | some ud => exact (Tr.get_lt hgu).1
        refine ⟨hu, h1, ?_⟩
        have h := hw.goUp_step (fun x r => if T.up x = outer then x else r) (fun x => x) x
        rw [if_pos hu] at h; exact h
    have H0 := Lib.hid h0
    clear h0
    go_wp2_with fail
    refine (at_up (hT.ext hx) x).mono ?_
    rintro e w1 ⟨rfl, hx1⟩
    obtain ⟨z, hz⟩ : ∃ z, T.up x = z := ⟨_, rfl⟩
    have HZ := Lib.hid hz
    rw [hz]
    clear hz
    by_cases he : z = outer
    · subst he
      have HE := HZ
      go_wp2_with fail
      go_ret
      refine ⟨?_, hx.trans hx1⟩
      rw [← hr.out.2.2, H0.out.2.2, if_pos HE.out]; rfl
    · have HE := Lib.hid (show ¬ T.up x = outer by rw [HZ.out]; exact he)
      go_wp2_with fail
      refine (at_up (hT.ext (hx.trans hx1)) x).mono ?_
      rintro e w2 ⟨rfl, hx2⟩
      go_wp2_with fail
      go_roundw
      case rel =>
        refine ⟨T.up x, rfl, (hx.trans hx1).trans hx2, Lib.hid ⟨H0.out.2.1, HE.out, ?_⟩⟩
        rw [← hr.out.2.2, H0.out.2.2, if_neg HE.out]
      case measure => have := hw.rank_up H0.out.1; simp [intOf]; omega
/-- the sibling behind -/
def Tr.sib (T : Tr) (x : Int) : Option Int := (T.kidsOf (T.up x))[(T.idx x).toNat + 1]?
def Tr.behind (T : Tr) (id : Int) : Int := T.goUp (fun x r => (T.sib x).getD r) (fun _ => -1) id
set_option maxHeartbeats 2000000 in
theorem Behind_any {w : World} {tb : Nat} {T : Tr} (hT : TAt w tb T) {d : Nat → Nat} (hw : WF T d) (id : Int) : Calls Try.prog 58 #[.pointer (some ⟨tb, 0, none⟩), .int .i64 id] w (RVal (.int .i64 (T.behind id)) w) := by
  go_enter Try.func58, Try.ntmps58
  go_wp2_with fail
  go_loopw [1, 5, 6, 7] (fun s _ _ _ wr => ∃ x : Int, s = .int .i64 x ∧ Ext w wr ∧ Hid (T.behind x = T.behind id)) (fun s _ _ _ _ => T.rank d (intOf s))
  case atStart => exact ⟨id, rfl, Ext.refl _, Lib.hid rfl⟩
  case round =>
    obtain ⟨x, rfl, hx, hr⟩ := hrel
    have HS := Lib.hid (show T.behind x = if 0 ≤ T.up x then (T.sib x).getD (T.behind (T.up x)) else -1 from hw.goUp_step (fun x r => (T.sib x).getD r) (fun _ => -1) x)
    by_cases hu : 0 ≤ T.up x
    · obtain ⟨j, hj1, hj2, hj3, hj4⟩ := hw.idx_kid hu
      obtain ⟨nd, hg⟩ : ∃ nd, T.get? x = some nd := by
        cases hg : T.get? x with
        | none => rw [Tr.up_none hg] at hu; omega
        | some nd => exact ⟨nd, rfl⟩
      obtain ⟨p, hp⟩ : ∃ p, T.up x = p := ⟨_, rfl⟩
      obtain ⟨l, hl⟩ : ∃ l, T.kidsOf p = l := ⟨_, rfl⟩
      rw [hp] at hu hj2 hj3 hj4
      rw [hl] at hj2 hj3 hj4
      have HG := Lib.hid hg
      have HP := Lib.hid hp
      have HL := Lib.hid hl
      have HJ := Lib.hid hj1
      have hsib : T.sib x = l[j + 1]? := by unfold Tr.sib; rw [hp, hl, hj1]; rfl
      have HSB := Lib.hid hsib
      have HR := Lib.hid (show T.rank d x = T.rank d p + 1 by rw [← hp]; exact hw.rank_up (by rw [hp]; exact hu))
      clear hg hp hl hj1 hj2 hsib
      go_wp2_with fail
      refine (at_has_yes (hT.ext hx) HG.out).mono ?_
      rintro e w1 ⟨rfl, hx1⟩
      replace hx1 := hx.trans hx1
      go_wp2_with fail
      refine (at_up' (hT.ext hx1) x HP.out).mono ?_
      rintro e w2 ⟨rfl, hx2⟩
      replace hx2 := hx1.trans hx2
      go_wp2_with fail
      refine (at_up' (hT.ext hx2) x HP.out).mono ?_
      rintro e w3 ⟨rfl, hx3⟩
      replace hx3 := hx2.trans hx3
      go_wp2_with fail
      refine (at_kids' (hT.ext hx3) hw p HL.out).mono ?_
      rintro e w4 ⟨ao, cap, rfl, hcap, hcell, hx4⟩
      obtain ⟨g, rfl, hc⟩ := hcell (fun e => by rw [e] at hj3; simp at hj3)
      replace hx4 := hx3.trans hx4
      have HC := Lib.hid hc
      clear hcell hc
      go_wp2_with fail
      refine (at_idx' (hT.ext hx4) hw x HJ.out).mono ?_
      rintro e w5 ⟨rfl, hx5⟩
      by_cases hlt : j + 1 < l.length
      · obtain ⟨y, hy⟩ : ∃ y, l[j + 1]? = some y := ⟨l[j + 1], by simp [hlt]⟩
        have hc := hx5.cell (HC.out _ _ hy)
        have HY := Lib.hid hy
        clear hy
        go_wp2_with fail
        go_ret
        refine ⟨?_, hx4.trans hx5⟩
        rw [← hr.out, HS.out, if_pos (by rw [HP.out]; exact hu), HSB.out, HY.out]; rfl
      · have HY := Lib.hid (show l[j + 1]? = none from List.getElem?_eq_none (by omega))
        go_wp2_with fail
        go_roundw
        case rel =>
          refine ⟨p, rfl, hx4.trans hx5, Lib.hid ?_⟩
          rw [← hr.out, HS.out, if_pos (by rw [HP.out]; exact hu), HSB.out, HY.out, HP.out]; rfl
        case measure => have := HR.out; simp [intOf]; omega
    · have hum := hw.up_neg hu
      have HUM := Lib.hid hum
      clear hum
      cases hg : T.get? x with
      | none =>
        have HG := Lib.hid hg
        clear hg
        go_wp2_with fail
        refine (at_has_no (hT.ext hx) HG.out).mono ?_
        rintro e w1 ⟨rfl, hx1⟩
        go_wp2_with fail
        go_ret
        refine ⟨?_, hx.trans hx1⟩
        rw [← hr.out, HS.out, if_neg (by rw [HUM.out]; omega)]; rfl
      | some nd =>
        have HG := Lib.hid hg
        clear hg
        go_wp2_with fail
        refine (at_has_yes (hT.ext hx) HG.out).mono ?_
        rintro e w1 ⟨rfl, hx1⟩
        go_wp2_with fail
        refine (at_up' (hT.ext (hx.trans hx1)) x HUM.out).mono ?_
        rintro e w2 ⟨rfl, hx2⟩
        go_wp2_with fail
        go_ret
        refine ⟨?_, (hx.trans hx1).trans hx2⟩
        rw [← hr.out, HS.out, if_neg (by rw [HUM.out]; omega)]; rfl
def Tr.next (T : Tr) (id : Int) : Int := match T.kidsOf id with | k :: _ => k | [] => T.behind id
set_option maxHeartbeats 1000000 in
theorem Next_any {w : World} {tb : Nat} {T : Tr} (hT : TAt w tb T) {d : Nat → Nat} (hw : WF T d) (id : Int) : Calls Try.prog 56 #[.pointer (some ⟨tb, 0, none⟩), .int .i64 id] w (RVal (.int .i64 (T.next id)) w) := by
  have hlen := hw.kidsOf_len id
  unfold Tr.next
  cases hl : T.kidsOf id with
  | nil =>
    have HL := Lib.hid hl
    clear hl hlen
    go_enter Try.func56, Try.ntmps56
    go_wp2_with fail
    refine (at_kids' hT hw id HL.out).mono ?_
    rintro e w1 ⟨ao, cap, rfl, hcap, hcell, hx1⟩
    clear hcell
    go_wp2_with fail
    refine (Behind_any (hT.ext hx1) hw id).mono ?_
    rintro e w2 ⟨rfl, hx2⟩
    go_wp2_with fail
    go_ret
    exact ⟨rfl, hx1.trans hx2⟩
  | cons k r =>
    have HL := Lib.hid hl
    rw [hl] at hlen
    clear hl
    go_enter Try.func56, Try.ntmps56
    go_wp2_with fail
    refine (at_kids' hT hw id HL.out).mono ?_
    rintro e w1 ⟨ao, cap, rfl, hcap, hcell, hx1⟩
    obtain ⟨g, rfl, hc⟩ := hcell (by simp)
    have hc0 := hc 0 k rfl
    clear hcell hc
    go_wp2_with fail
    go_ret
    exact ⟨rfl, hx1⟩
end Go.Proofs.Ytiglflmjidikpaa
