/- Package order: the contracts of Prev, Length, May, Clamp. No conditions beside a tree's own. -/
import Derived.Test.YtiglflmjidikpaaOrdP
namespace Go.Proofs.Ytiglflmjidikpaa
open Go Go.RowKit Go.BigFrame
set_option linter.unusedVariables false
set_option linter.unusedSimpArgs false

/-- the last one within a node -/
def Tr.lastF (T : Tr) : Nat → Int → Int
  | 0, id => id
  | f + 1, id => match (T.kidsOf id).getLast? with
    | none => id
    | some k => T.lastF f k
def Tr.lastIn (T : Tr) (id : Int) : Int := T.lastF 50 id
theorem WF.last_more {T : Tr} {d : Nat → Nat} (hw : WF T d) : ∀ (f g : Nat) (id : Int), 42 ≤ T.rank d id + f → 42 ≤ T.rank d id + g → T.lastF f id = T.lastF g id := by
  intro f
  induction f with
  | zero => intro g id h; have := hw.rank_le id; omega
  | succ f ih =>
    intro g id h1 h2
    cases g with
    | zero => have := hw.rank_le id; omega
    | succ g =>
      simp only [Tr.lastF]
      cases hl : (T.kidsOf id).getLast? with
      | none => rfl
      | some k =>
        obtain ⟨_, _, h3, _⟩ := hw.kid_rank (List.mem_of_getLast? hl)
        exact ih g k (by omega) (by omega)
theorem WF.last_step {T : Tr} {d : Nat → Nat} (hw : WF T d) (id : Int) : T.lastIn id = match (T.kidsOf id).getLast? with | none => id | some k => T.lastIn k := by
  show (match (T.kidsOf id).getLast? with | none => id | some k => T.lastF 49 k) = _
  cases hl : (T.kidsOf id).getLast? with
  | none => rfl
  | some k => exact hw.last_more 49 50 k (by omega) (by omega)
def Tr.prev (T : Tr) (id : Int) : Int := if T.idx id ≤ 0 then T.up id else match (T.kidsOf (T.up id))[(T.idx id).toNat - 1]? with
  | some y => T.lastIn y
  | none => -1
theorem WF.idx_up {T : Tr} {d : Nat → Nat} (hw : WF T d) {id : Int} (h : 0 < T.idx id) : 0 ≤ T.up id := by
  unfold Tr.idx at h
  unfold Tr.up
  cases hg : T.get? id with
  | none => rw [hg] at h; simp at h
  | some nd =>
    rw [hg] at h
    simp only at h ⊢
    cases hp : T.get? nd.parent with
    | none => rw [hp] at h; simp at h
    | some pd => exact (Tr.get_lt hp).1
set_option maxHeartbeats 2000000 in
theorem Prev_any {w : World} {tb : Nat} {T : Tr} (hT : TAt w tb T) {d : Nat → Nat} (hw : WF T d) (id : Int) : Calls Try.prog 57 #[.pointer (some ⟨tb, 0, none⟩), .int .i64 id] w (RVal (.int .i64 (T.prev id)) w) := by
  by_cases h0 : T.idx id ≤ 0
  · obtain ⟨z, hz⟩ : ∃ z, T.idx id = z := ⟨_, rfl⟩
    have HZ := Lib.hid hz
    have HP := Lib.hid (show T.prev id = T.up id from if_pos h0)
    rw [hz] at h0
    clear hz
    go_enter Try.func57, Try.ntmps57
    go_wp2_with fail
    refine (at_idx' hT hw id HZ.out).mono ?_
    rintro e w1 ⟨rfl, hx1⟩
    go_wp2_with fail
    refine (at_up' (hT.ext hx1) id HP.out.symm).mono ?_
    rintro e w2 ⟨rfl, hx2⟩
    go_wp2_with fail
    go_ret
    exact ⟨rfl, hx1.trans hx2⟩
  · have hu := hw.idx_up (show 0 < T.idx id by omega)
    obtain ⟨j, hj1, hj2, hj3, hj4⟩ := hw.idx_kid hu
    obtain ⟨p, hp⟩ : ∃ p, T.up id = p := ⟨_, rfl⟩
    obtain ⟨l, hl⟩ : ∃ l, T.kidsOf p = l := ⟨_, rfl⟩
    rw [hp, hl] at hj2 hj3 hj4
    obtain ⟨m, rfl⟩ : ∃ m, j = m + 1 := ⟨j - 1, by omega⟩
    obtain ⟨y, hy⟩ : ∃ y, l[m]? = some y := ⟨l[m], by simp [show m < l.length by omega]⟩
    have HPR := Lib.hid (show T.prev id = T.lastIn y by
      unfold Tr.prev; rw [if_neg h0, hp, hl, hj1]
      have : (((m + 1 : Nat) : Int)).toNat - 1 = m := by omega
      rw [this, hy])
    have HP := Lib.hid hp
    have HL := Lib.hid hl
    have HJ := Lib.hid (show T.idx id = (m : Int) + 1 by rw [hj1]; push_cast; rfl)
    have HY := Lib.hid hy
    clear h0 hu hj1 hj2 hp hl hy
    go_enter Try.func57, Try.ntmps57
    go_wp2_with fail
    refine (at_idx' hT hw id HJ.out).mono ?_
    rintro e w1 ⟨rfl, hx1⟩
    go_wp2_with fail
    refine (at_up' (hT.ext hx1) id HP.out).mono ?_
    rintro e w2 ⟨rfl, hx2⟩
    replace hx2 := hx1.trans hx2
    go_wp2_with fail
    refine (at_kids' (hT.ext hx2) hw p HL.out).mono ?_
    rintro e w3 ⟨ao, cap, rfl, hcap, hcell, hx3⟩
    obtain ⟨g, rfl, hc⟩ := hcell (fun e => by rw [e] at hj3; simp at hj3)
    replace hx3 := hx2.trans hx3
    have hc0 := hc m y HY.out
    clear hcell hc
    go_wp2_with fail
    have HX3 := Lib.hid hx3
    clear hc0 hx1 hx2 hx3
    go_loopw [1, 6] (fun s _ wr => ∃ x : Int, s = .int .i64 x ∧ Ext w wr ∧ Hid (T.lastIn x = T.lastIn y)) (fun s _ _ => 42 - T.rank d (intOf s))
    case atStart => exact ⟨y, rfl, HX3.out, Lib.hid rfl⟩
    case round =>
      obtain ⟨x, rfl, hx, hr⟩ := hrel
      clear HX3 hj3 hj4 hcap
      have hlx := hw.kidsOf_len x
      obtain ⟨r, hrk⟩ : ∃ r, T.kidsOf x = r := ⟨_, rfl⟩
      have HS := Lib.hid (hw.last_step x)
      rw [hrk] at hlx
      have HRK := Lib.hid hrk
      clear hrk
      cases hlen : r.length with
      | zero =>
        have he : r = [] := List.eq_nil_of_length_eq_zero hlen
        have HE := Lib.hid he
        have HLEN := Lib.hid hlen
        clear hlen he hlx
        go_wp2_with fail
        refine (at_kids' (hT.ext hx) hw x HRK.out).mono ?_
        rw [show IntsIs r = IntsIs [] by rw [HE.out]]
        rintro e w4 ⟨ao, cap', rfl, hcap', hcell, hx4⟩
        clear hcell
        go_wp2_with fail
        go_ret
        refine ⟨?_, hx.trans hx4⟩
        rw [HPR.out, ← hr.out, HS.out, HRK.out, HE.out]; rfl
      | succ n =>
        obtain ⟨k, hk⟩ : ∃ k, r[n]? = some k := ⟨r[n], by simp [hlen]⟩
        have hgl : r.getLast? = some k := by rw [List.getLast?_eq_getElem?, hlen]; exact hk
        have HK := Lib.hid hk
        have HGL := Lib.hid hgl
        have HLEN := Lib.hid hlen
        rw [hlen] at hlx
        clear hlen hk hgl
        go_wp2_with fail
        refine (at_kids' (hT.ext hx) hw x HRK.out).mono ?_
        rintro e w4 ⟨ao, cap', rfl, hcap', hcell, hx4⟩
        obtain ⟨g', rfl, hc⟩ := hcell (fun e => by have := HLEN.out; rw [e] at this; simp at this)
        have hc1 := hc n k HK.out
        rw [HLEN.out] at hcap' ⊢
        clear hcell hc
        go_wp2_with fail
        go_roundw
        case rel =>
          refine ⟨k, rfl, hx.trans hx4, Lib.hid ?_⟩
          rw [← hr.out, HS.out, HRK.out, HGL.out]
        case measure =>
          obtain ⟨_, _, h3, _⟩ := hw.kid_rank (id := x) (k := k) (by rw [HRK.out]; exact List.mem_of_getElem? HK.out)
          have := hw.rank_le k
          simp [intOf]; omega
/-- how many characters -/
def runes (s : ByteArray) : Nat := (runeList s s.size 0).length
def Tr.lengthOf (T : Tr) (id : Int) : Int := if T.tagOf id = -1 then -1 else if T.tagOf id = 0 then (runes (T.txt id) : Int) else ((T.kidsOf id).length : Int)
theorem AttrsOk.txt {T : Tr} (hA : AttrsOk T) (id : Int) : (T.txt id).size ≤ 8192 := by
  unfold Tr.txt
  cases hg : T.get? id with
  | none => simp
  | some nd => exact (hA _ nd (Tr.get_lt hg).2.2).2
theorem decode_wide (s : ByteArray) (pos : Nat) (h : pos < s.size) : 1 ≤ (Utf8.decode s pos).2 := by
  by_cases ha : (s[pos]'h).toNat < 128
  · rw [decode_ascii s pos h ha]; exact Nat.le_refl _
  · exact (decode_high s pos h (by omega)).2
theorem runes_le (s : ByteArray) : runes s ≤ s.size := runeList_len s s.size 0
set_option maxHeartbeats 2000000 in
theorem Length_any {w : World} {tb : Nat} {T : Tr} (hT : TAt w tb T) {d : Nat → Nat} (hw : WF T d) (hA : AttrsOk T) (id : Int) : Calls Try.prog 60 #[.pointer (some ⟨tb, 0, none⟩), .int .i64 id] w (RVal (.int .i64 (T.lengthOf id)) w) := by
  obtain ⟨z, hz⟩ : ∃ z, T.tagOf id = z := ⟨_, rfl⟩
  have HL := Lib.hid (show T.lengthOf id = if z = -1 then -1 else if z = 0 then (runes (T.txt id) : Int) else ((T.kidsOf id).length : Int) by unfold Tr.lengthOf; rw [hz])
  have HZ := Lib.hid hz
  clear hz
  by_cases h1 : z = -1
  · subst h1
    go_enter Try.func60, Try.ntmps60
    go_wp2_with fail
    refine (at_tag' hT id HZ.out).mono ?_
    rintro e w1 ⟨rfl, hx1⟩
    go_wp2_with fail
    go_ret
    exact ⟨by rw [HL.out]; rfl, hx1⟩
  · by_cases h0 : z = 0
    · subst h0
      obtain ⟨s, hs⟩ : ∃ s, T.txt id = s := ⟨_, rfl⟩
      have hsz := hA.txt id
      rw [hs] at hsz
      have hrl := runes_le s
      have HTX := Lib.hid (show ∀ (u : World), TAt u tb T → Calls Try.prog 48 #[.pointer (some ⟨tb, 0, none⟩), .int .i64 id] u (RVal (.string s) u) from fun u h => hs ▸ at_told h id)
      have HS := Lib.hid hs
      clear hs
      go_enter Try.func60, Try.ntmps60
      go_wp2_with fail
      refine (at_tag' hT id HZ.out).mono ?_
      rintro e w1 ⟨rfl, hx1⟩
      go_wp2_with fail
      refine (HTX.out _ (hT.ext hx1)).mono ?_
      rintro e w2 ⟨rfl, hx2⟩
      replace hx2 := hx1.trans hx2
      go_wp2_with fail
      go_loopw [5] (fun n wr => ∃ (pos b k : Nat), wr = w2.iter s pos ∧ n = .int .i64 k ∧ k ≤ 8192 ∧ Hid (k + (runeList s b pos).length = runes s ∧ s.size ≤ pos + b)) (fun _ wr => s.size - wr.iterPos w2.heap.size)
      case atStart => exact ⟨0, s.size, 0, rfl, rfl, by omega, Lib.hid ⟨by unfold runes; omega, by omega⟩⟩
      case round =>
        obtain ⟨pos, b, k, rfl, rfl, hk, hb⟩ := hrel
        by_cases hp : pos < s.size
        · have hnx : ∀ ty, (Instr.next (.pointer (some ⟨w2.heap.size, 0, none⟩)) true ty).run Try.prog (w2.iter s pos) = _ := fun ty => run_next_any w2 s pos ty hp
          have hwd := decode_wide s pos hp
          have hk2 : k + 1 ≤ runes s ∧ ∃ c, b = c + 1 ∧ (k + 1) + (runeList s c (pos + (Utf8.decode s pos).2)).length = runes s := by
            obtain ⟨h1, h2⟩ := hb.out
            cases b with
            | zero => omega
            | succ c =>
              unfold runeList at h1
              rw [if_pos hp] at h1
              simp at h1
              exact ⟨by omega, c, rfl, by omega⟩
          have HK2 := Lib.hid hk2
          have HWD := Lib.hid hwd
          clear hk2 hwd
          go_wp2_with fail
          go_roundw
          case rel =>
            obtain ⟨h1, c, rfl, h2⟩ := HK2.out
            have h3 := hb.out.2
            have h4 := HWD.out
            exact ⟨pos + (Utf8.decode s pos).2, c, k + 1, rfl, by go_num, by omega, Lib.hid ⟨h2, by omega⟩⟩
          case measure => have := HWD.out; simp; omega
        · have hnx : ∀ ty, (Instr.next (.pointer (some ⟨w2.heap.size, 0, none⟩)) true ty).run Try.prog (w2.iter s pos) = _ := fun ty => run_next_end w2 s pos ty hp
          go_wp2_with fail
          go_ret
          refine ⟨?_, hx2.alloc _⟩
          have hk3 : k = runes s := by
            obtain ⟨h1, h2⟩ := hb.out
            cases b with
            | zero => simpa [runeList] using h1
            | succ c => unfold runeList at h1; rw [if_neg hp] at h1; simpa using h1
          rw [HL.out, HS.out, hk3]; rfl
    · obtain ⟨l, hl⟩ : ∃ l, T.kidsOf id = l := ⟨_, rfl⟩
      have hlen := hw.kidsOf_len id
      rw [hl] at hlen
      have HK := Lib.hid hl
      clear hl
      go_enter Try.func60, Try.ntmps60
      go_wp2_with fail
      refine (at_tag' hT id HZ.out).mono ?_
      rintro e w1 ⟨rfl, hx1⟩
      go_wp2_with fail
      refine (at_kids' (hT.ext hx1) hw id HK.out).mono ?_
      rintro e w2 ⟨ao, cap, rfl, hcap, hcell, hx2⟩
      clear hcell
      go_wp2_with fail
      go_ret
      exact ⟨by rw [HL.out, if_neg h1, if_neg h0, HK.out]; rfl, hx1.trans hx2⟩
theorem lengthOf_bound {T : Tr} {d : Nat → Nat} (hw : WF T d) (hA : AttrsOk T) (id : Int) : -1 ≤ T.lengthOf id ∧ T.lengthOf id ≤ 8192 := by
  unfold Tr.lengthOf
  have h1 := hA.txt id
  have h2 := runes_le (T.txt id)
  have h3 := hw.kidsOf_len id
  split
  · omega
  · split
    · omega
    · omega
def Tr.may (T : Tr) (id at' : Int) : Bool := decide (0 ≤ at') && decide (at' ≤ T.lengthOf id)
set_option maxHeartbeats 1000000 in
theorem May_any {w : World} {tb : Nat} {T : Tr} (hT : TAt w tb T) {d : Nat → Nat} (hw : WF T d) (hA : AttrsOk T) (id at' : Int) : Calls Try.prog 61 #[.pointer (some ⟨tb, 0, none⟩), .agg #[.int .i64 id, .int .i64 at']] w (RVal (.bool (T.may id at')) w) := by
  have hm : T.may id at' = (decide (0 ≤ at') && decide (at' ≤ T.lengthOf id)) := rfl
  have hx1 := (Ext.refl w).alloc (.cells #[.int .i64 id, .int .i64 at'] 73)
  have h2 := Two.new w (.int .i64 id) (.int .i64 at') 73
  have HM := Lib.hid hm
  clear hm
  go_enter Try.func61, Try.ntmps61
  go_upto_region 1 with fail
  obtain ⟨wb, hwb⟩ : ∃ wb : World, wb = w.alloc (.cells #[.int .i64 id, .int .i64 at'] 73) := ⟨_, rfl⟩
  rw [← hwb] at hx1 h2 ⊢
  clear hwb
  obtain ⟨c0, c1, _, _⟩ := h2
  have c0' := fun u : ExtOf wb => u.ext.cell c0
  have c1' := fun u : ExtOf wb => u.ext.cell c1
  by_cases h0 : 0 ≤ at'
  · obtain ⟨z, hz⟩ : ∃ z, T.lengthOf id = z := ⟨_, rfl⟩
    have HLN := Lib.hid (show ∀ (u : World), TAt u tb T → Calls Try.prog 60 #[.pointer (some ⟨tb, 0, none⟩), .int .i64 id] u (RVal (.int .i64 z) u) from fun u h => hz ▸ Length_any h hw hA id)
    have HZ := Lib.hid hz
    clear hz
    refine wp_region_ext (by kernel_rfl) (by kernel_rfl) ?_
    repeat (go_big_quiet_step ((go_at_call 60; exact inExt (HLN.out _ (hT.ext (hx1.trans (ExtOf.ext _)))))))
    refine wpQuiet_nil ?_
    rintro _ ⟨u, rfl⟩
    go_wp2_with fail
    go_ret
    exact ⟨by rw [HM.out, HZ.out]; simp [h0], hx1.trans u.ext⟩
  · refine wp_region_ext (by kernel_rfl) (by kernel_rfl) ?_
    repeat (go_big_quiet_step (fail))
    refine wpQuiet_nil ?_
    rintro _ ⟨u, rfl⟩
    go_wp2_with fail
    go_ret
    exact ⟨by rw [HM.out]; simp; omega, hx1.trans u.ext⟩
end Go.Proofs.Ytiglflmjidikpaa
