/- Package order: what a tree tells, as plain functions; the contracts of root, kid, Within, Behind, Next, Prev, Length, May, Clamp. No conditions beside a tree's own. -/
import Derived.Test.YtiglflmjidikpaaSit
import Derived.Laws.RangeAny
namespace Go.Proofs.Ytiglflmjidikpaa
open Go Go.RowKit Go.BigFrame
set_option linter.unusedVariables false
set_option linter.unusedSimpArgs false

/-- a tree lies here -/
structure TAt (w : World) (tb : Nat) (T : Tr) : Prop where
  out : ∃ own ptr, TreeAt w own ptr tb T ∧ Owned own w
theorem TAt.ext {w w' : World} {tb : Nat} {T : Tr} (h : TAt w tb T) (x : Ext w w') : TAt w' tb T := by
  obtain ⟨own, ptr, hT, hO⟩ := h.out
  exact ⟨own, ptr, hT.keep (x.keep hO), fun b hb => Nat.lt_of_lt_of_le (hO b hb) x.size⟩
theorem Sit.tat {w0 w : World} {tb : Nat} {T : Tr} {g : World} (h : Sit w0 w tb T g) : TAt w tb T := by
  obtain ⟨own, ptr, hT, hO, _⟩ := h.out
  exact ⟨own, ptr, hT, hO⟩
def Tr.up (T : Tr) (id : Int) : Int := match T.get? id with | none => -1 | some nd => nd.parent
def Tr.kidsOf (T : Tr) (id : Int) : List Int := match T.get? id with | none => [] | some nd => nd.kids
def Tr.idx (T : Tr) (id : Int) : Int := match T.get? id with | none => -1 | some nd => match T.get? nd.parent with | none => -1 | some pd => posOf pd.kids id
def Tr.tagOf (T : Tr) (id : Int) : Int := match T.get? id with | none => -1 | some nd => nd.tag
def Tr.txt (T : Tr) (id : Int) : ByteArray := match T.get? id with | none => ByteArray.empty | some nd => nd.text
def Tr.live (T : Tr) (id : Int) : Bool := match T.get? id with | none => false | some nd => T.within id 0
/-- a row of kids is returned -/
def IntsIs (l : List Int) (w : World) (e : Ending) (w' : World) : Prop :=
  ∃ ao cap, e = .returned (.slice ao l.length cap) ∧ l.length ≤ cap ∧ (l ≠ [] → ∃ g, ao = some ⟨g, 0, none⟩ ∧ ∀ (j : Nat) x, l[j]? = some x → w'.cell? ⟨g, j, none⟩ = some (.int .i64 x)) ∧ Ext w w'
theorem IntsIs.of_row {l : List Int} {w w' : World} {e : Ending} (h : RRow 3 1 l.length (l.map (Value.int .i64)) w e w') : IntsIs l w e w' := by
  obtain ⟨v, rfl, hr, hx⟩ := h
  rcases hr.2 with ⟨h0, a, rfl⟩ | ⟨g, cap, cur, rfl, h2, h3, h4, h5, h6, h7⟩
  · exact ⟨a, 0, by rw [h0], by omega, fun hn => absurd (List.eq_nil_of_length_eq_zero h0) hn, hx⟩
  · refine ⟨_, cap, rfl, h4, fun _ => ⟨g, rfl, fun j x hj => cellOf h3 ?_⟩, hx⟩
    have hl := (List.getElem?_eq_some_iff.1 hj).1
    have e : (cur.toList.take (l.length * 1))[j]? = some (Value.int .i64 x) := by rw [h7, List.getElem?_map, hj]; rfl
    rw [List.getElem?_take_of_lt (by omega)] at e
    simpa using e
section
variable {w : World} {tb : Nat} {T : Tr}
theorem at_has (h : TAt w tb T) (id : Int) : Calls Try.prog 27 #[.pointer (some ⟨tb, 0, none⟩), .int .i64 id] w (RVal (.bool (T.get? id).isSome) w) := by
  obtain ⟨own, ptr, hT, hO⟩ := h.out
  cases hg : T.get? id with
  | none => exact RSame.val (Has_none hT hg)
  | some nd => exact RSame.val (Has_some hT hg)
theorem at_up (h : TAt w tb T) (id : Int) : Calls Try.prog 34 #[.pointer (some ⟨tb, 0, none⟩), .int .i64 id] w (RVal (.int .i64 (T.up id)) w) := by
  obtain ⟨own, ptr, hT, hO⟩ := h.out
  unfold Tr.up
  cases hg : T.get? id with
  | none => exact RSame.val (Parent_none hT hg)
  | some nd => exact RSame.val (Parent_some hT hg)
theorem at_tag (h : TAt w tb T) (id : Int) : Calls Try.prog 46 #[.pointer (some ⟨tb, 0, none⟩), .int .i64 id] w (RVal (.int .i64 (T.tagOf id)) w) := by
  obtain ⟨own, ptr, hT, hO⟩ := h.out
  unfold Tr.tagOf
  cases hg : T.get? id with
  | none => exact RSame.val (Tag_none hT hg)
  | some nd => exact RSame.val (Tag_some hT hg)
theorem at_told (h : TAt w tb T) (id : Int) : Calls Try.prog 48 #[.pointer (some ⟨tb, 0, none⟩), .int .i64 id] w (RVal (.string (T.txt id)) w) := by
  obtain ⟨own, ptr, hT, hO⟩ := h.out
  unfold Tr.txt
  cases hg : T.get? id with
  | none => exact RSame.val (Told_none hT hg)
  | some nd => exact RSame.val (Told_some hT hg)
theorem at_kids (h : TAt w tb T) {d : Nat → Nat} (hw : WF T d) (id : Int) : Calls Try.prog 49 #[.pointer (some ⟨tb, 0, none⟩), .int .i64 id] w (IntsIs (T.kidsOf id) w) := by
  obtain ⟨own, ptr, hT, hO⟩ := h.out
  unfold Tr.kidsOf
  cases hg : T.get? id with
  | none => exact (Kids_none hT hg).mono fun e w' hh => ⟨none, 0, hh.1, Nat.le_refl _, fun h => absurd rfl h, hh.2⟩
  | some nd => exact (Kids_some hT hg (by have := hw.kids_len (Tr.get_lt hg).2.2; omega)).mono fun e w' hh => IntsIs.of_row hh
theorem at_idx (h : TAt w tb T) {d : Nat → Nat} (hw : WF T d) (id : Int) : Calls Try.prog 35 #[.pointer (some ⟨tb, 0, none⟩), .int .i64 id] w (RVal (.int .i64 (T.idx id)) w) := by
  obtain ⟨own, ptr, hT, hO⟩ := h.out
  unfold Tr.idx
  cases hg : T.get? id with
  | none => exact Index_root hT (.inl hg)
  | some nd =>
    cases hp : T.get? nd.parent with
    | none => simp only [hp]; exact Index_root hT (.inr ⟨nd, hg, hp⟩)
    | some pd => simp only [hp]; exact Index_kid hT hg hp (by have := hw.kids_len (Tr.get_lt hp).2.2; omega)
theorem at_live (h : TAt w tb T) {d : Nat → Nat} (hw : WF T d) (id : Int) : Calls Try.prog 28 #[.pointer (some ⟨tb, 0, none⟩), .int .i64 id] w (RVal (.bool (T.live id)) w) := by
  obtain ⟨own, ptr, hT, hO⟩ := h.out
  unfold Tr.live
  cases hg : T.get? id with
  | none => exact RSame.val (Live_none hT hg)
  | some nd =>
    obtain ⟨i, rfl, hi⟩ := nat_of hg
    exact RSame.val (Live_some hT hw hi)
end
/-- something reckoned on the way up -/
def Tr.goUpF {α : Type} (T : Tr) (F : Int → α → α) (stop : Int → α) : Nat → Int → α
  | 0, id => stop id
  | f + 1, id => if 0 ≤ T.up id then F id (T.goUpF F stop f (T.up id)) else stop id
def Tr.goUp {α : Type} (T : Tr) (F : Int → α → α) (stop : Int → α) (id : Int) : α := T.goUpF F stop 50 id
def Tr.rank (T : Tr) (d : Nat → Nat) (id : Int) : Nat := match T.get? id with | none => 0 | some _ => d id.toNat + 1
section
variable {T : Tr} {d : Nat → Nat}
theorem WF.up_pos (hw : WF T d) {id : Int} (h : 0 ≤ T.up id) : ∃ (i p : Nat) (nd pd : Nd), id = (i : Int) ∧ T.nodes[i]? = some (some nd) ∧ nd.parent = (p : Int) ∧ T.up id = (p : Int) ∧ T.nodes[p]? = some (some pd) ∧ d i = d p + 1 ∧ (i : Int) ∈ pd.kids := by
  unfold Tr.up at h ⊢
  cases hg : T.get? id with
  | none => rw [hg] at h; simp at h
  | some nd =>
    rw [hg] at h
    obtain ⟨i, rfl, hi⟩ := nat_of hg
    rcases hw.up i nd hi with ⟨h1, h2⟩ | ⟨p, pd, h1, h2, h3, h4⟩
    · have h' : 0 ≤ nd.parent := h; omega
    · exact ⟨i, p, nd, pd, rfl, hi, h1, h1, h2, h3, h4⟩
theorem WF.rank_up (hw : WF T d) {id : Int} (h : 0 ≤ T.up id) : T.rank d id = T.rank d (T.up id) + 1 := by
  obtain ⟨i, p, nd, pd, rfl, h1, h2, h3, h4, h5, h6⟩ := hw.up_pos h
  unfold Tr.rank
  rw [h3, Tr.get_of h1, Tr.get_of h4]
  simp [h5]
theorem WF.rank_le (hw : WF T d) (id : Int) : T.rank d id ≤ 41 := by
  unfold Tr.rank
  cases hg : T.get? id with
  | none => simp
  | some nd =>
    obtain ⟨i, rfl, hi⟩ := nat_of hg
    have h1 := hw.deep i nd hi
    have h2 := hw.small.deep1
    simp; omega
theorem WF.goUp_more (hw : WF T d) {α : Type} (F : Int → α → α) (stop : Int → α) : ∀ (f g : Nat) (id : Int), T.rank d id ≤ f → T.rank d id ≤ g → T.goUpF F stop f id = T.goUpF F stop g id := by
  intro f
  induction f with
  | zero =>
    intro g id h1 h2
    have hn : ¬ 0 ≤ T.up id := fun h => by have := hw.rank_up h; omega
    cases g with
    | zero => rfl
    | succ g => show stop id = if _ then _ else _; rw [if_neg hn]
  | succ f ih =>
    intro g id h1 h2
    by_cases h : 0 ≤ T.up id
    · have hr := hw.rank_up h
      cases g with
      | zero => omega
      | succ g =>
        show (if _ then _ else _) = if _ then _ else _
        rw [if_pos h, if_pos h, ih g (T.up id) (by omega) (by omega)]
    · cases g with
      | zero => show (if _ then _ else _) = stop id; rw [if_neg h]
      | succ g => show (if _ then _ else _) = if _ then _ else _; rw [if_neg h, if_neg h]
theorem WF.goUp_step (hw : WF T d) {α : Type} (F : Int → α → α) (stop : Int → α) (id : Int) : T.goUp F stop id = if 0 ≤ T.up id then F id (T.goUp F stop (T.up id)) else stop id := by
  show (if _ then _ else _) = _
  by_cases h : 0 ≤ T.up id
  · rw [if_pos h, if_pos h]
    have hr := hw.rank_up h
    have := hw.rank_le id
    exact congrArg (F id) (hw.goUp_more F stop 49 50 (T.up id) (by omega) (by omega))
  · rw [if_neg h, if_neg h]
end
def Tr.rootOf (T : Tr) (id : Int) : Int := T.goUp (fun _ r => r) (fun x => x) id
set_option maxHeartbeats 1000000 in
theorem root_any {w : World} {tb : Nat} {T : Tr} (hT : TAt w tb T) {d : Nat → Nat} (hw : WF T d) (id : Int) : Calls Try.prog 113 #[.pointer (some ⟨tb, 0, none⟩), .int .i64 id] w (RVal (.int .i64 (T.rootOf id)) w) := by
  go_enter Try.func113, Try.ntmps113
  go_wp2_with fail
  go_loopw [1] (fun s wr => ∃ x : Int, s = .int .i64 x ∧ Ext w wr ∧ Hid (T.rootOf x = T.rootOf id)) (fun s _ => T.rank d (intOf s))
  case atStart => exact ⟨id, rfl, Ext.refl _, Lib.hid rfl⟩
  case round =>
    obtain ⟨x, rfl, hx, hr⟩ := hrel
    have hs := hw.goUp_step (fun _ r => r) (fun x => x) x
    go_wp2_with fail
    refine (at_up (hT.ext hx) x).mono ?_
    rintro e w1 ⟨rfl, hx1⟩
    by_cases h : 0 ≤ T.up x
    · have HS := Lib.hid hs
      clear hs
      go_wp2_with fail
      refine (at_up (hT.ext (hx.trans hx1)) x).mono ?_
      rintro e w2 ⟨rfl, hx2⟩
      go_wp2_with fail
      go_roundw
      case rel =>
        refine ⟨T.up x, rfl, (hx.trans hx1).trans hx2, Lib.hid ?_⟩
        have h2 : T.rootOf x = _ := HS.out
        rw [if_pos h] at h2
        rw [← hr.out, h2]; rfl
      case measure => have := hw.rank_up h; simp [intOf]; omega
    · have HS := Lib.hid hs
      clear hs
      go_wp2_with fail
      go_ret
      refine ⟨?_, hx.trans hx1⟩
      have h2 : T.rootOf x = _ := HS.out
      rw [if_neg (by omega)] at h2
      rw [← hr.out, h2]; rfl
end Go.Proofs.Ytiglflmjidikpaa
