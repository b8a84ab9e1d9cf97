/- Package dom: New, Element, Text. Conditions: at most 60000 attributes, at most 100000 bytes. -/
import Derived.Test.YtiglflmjidikpaaDomK
namespace Go.Proofs.Ytiglflmjidikpaa
open Go Go.RowKit Go.BigFrame
set_option linter.unusedVariables false
set_option linter.unusedSimpArgs false

/-- a fresh tree is answered -/
def NewIs (w : World) (T : Tr) (e : Ending) (w' : World) : Prop := ∃ tb own ptr, e = .returned (.tuple #[.pointer (some ⟨tb, 0, none⟩), .int .i64 0]) ∧ TreeAt w' own ptr tb T ∧ Owned own w' ∧ Ext w w' ∧ (∀ b, own b ≠ none → w.heap.size ≤ b)
def hostOf (cap deep : Int) : Tr := ⟨cap, deep, 1, [some ⟨1, [], ByteArray.empty, [], -1⟩]⟩
theorem hostOf_put (cap deep : Int) : (Tr.mk cap deep 0 []).put ⟨1, [], ByteArray.empty, [], -1⟩ = hostOf cap deep := rfl
theorem hostOf_wf (cap deep : Int) (h1 : 1 ≤ cap) (h2 : cap ≤ 2000) (h3 : 0 ≤ deep) (h4 : deep ≤ 40) : WF (hostOf cap deep) (fun _ => 0) := by
  have hz : ∀ (i : Nat) (nd : Nd), (hostOf cap deep).nodes[i]? = some (some nd) → nd = ⟨1, [], ByteArray.empty, [], -1⟩ := by
    intro i nd h
    have h' : [some (⟨1, [], ByteArray.empty, [], -1⟩ : Nd)][i]? = some (some nd) := h
    cases i with
    | zero => simp at h'; exact h'.symm
    | succ i => simp at h'
  refine ⟨⟨by show 0 ≤ cap; omega, h2, h3, h4, by show (0 : Int) ≤ 1; omega, by show 1 ≤ cap; omega, by simp [hostOf]⟩, ⟨_, rfl, rfl, rfl⟩, fun i nd _ => h3, fun i nd h => .inl ⟨by rw [hz i nd h], rfl⟩, fun i nd h => ?_, fun i nd h => ?_, by simp [hostOf]⟩
  · rw [hz i nd h]; exact ⟨List.nodup_nil, fun k hk => by simp at hk⟩
  · rw [hz i nd h]; exact ⟨by decide, by decide, fun h => rfl⟩
/-- an empty tree in a block of its own -/
theorem fresh_tree (w : World) (cap deep : Int) : ∃ own : Ow, (∀ b, own b = if b = w.heap.size then some (0, 0) else none) ∧
    TreeAt (w.alloc (.cells #[.int .i64 cap, .int .i64 deep, .int .i64 0, .slice none 0 0] 119)) own (fun _ => 0) w.heap.size ⟨cap, deep, 0, []⟩ ∧ Owned own (w.alloc (.cells #[.int .i64 cap, .int .i64 deep, .int .i64 0, .slice none 0 0] 119)) := by
  refine ⟨fun b => if b = w.heap.size then some (0, 0) else none, fun b => rfl, ⟨⟨.slice none 0 0, heap_alloc_new _ _, if_pos rfl, ⟨rfl, .inl ⟨rfl, none, rfl⟩⟩⟩, fun i nd h => by simp at h⟩, fun b hb => ?_⟩
  have hb' : (if b = w.heap.size then some ((0 : Nat), (0 : Nat)) else none) ≠ none := hb
  split at hb'
  · simp; omega
  · exact absurd rfl hb'

set_option maxRecDepth 100000 in
set_option maxHeartbeats 1000000 in
theorem New_ok (cap deep : Int) (h1 : 1 ≤ cap) (h2 : cap ≤ 2000) (h3 : 0 ≤ deep) (h4 : deep ≤ 40) (w : World) :
    Calls Try.prog 38 #[.int .i64 cap, .int .i64 deep] w (NewIs w (hostOf cap deep)) := by
  obtain ⟨own, ho, hT, hO⟩ := fresh_tree w cap deep
  have HO := Lib.hid ho
  have hc := add_any hT hO ⟨by show 0 ≤ cap; omega, h2, h3, h4, by show (0 : Int) ≤ 0; omega, by show 0 ≤ cap; omega, by simp⟩ (fun _ => by simp) 1 ByteArray.empty (.slice none 0 0) [] ⟨rfl, none, 0, rfl, Nat.le_refl _, fun _ => ⟨rfl, rfl⟩, fun a h => by cases h⟩ (by simp) (attrCells_one [])
  rw [hostOf_put] at hc
  have HC := Lib.hid hc
  clear ho hT hO hc
  go_enter Try.func38, Try.ntmps38
  go_wp2_with fail
  refine HC.out.mono ?_
  rintro e w1 ⟨rfl, own', ptr', hT', hS⟩
  go_wp2_with fail
  go_ret2
  refine ⟨w.heap.size, own', ptr', rfl, hT', hS.owned, ?_, fun b hb => ?_⟩
  · refine ⟨hS.os, hS.tape, hS.output, Nat.le_trans (by simp) hS.size, fun b hb => ?_⟩
    rw [hS.rest b (by simp; omega) (by rw [HO.out]; rw [if_neg (by omega)])]
    exact Below.heap_alloc _ _ _ hb
  · rcases Nat.lt_or_ge b w.heap.size with hlt | hge
    · rw [hS.same b (by simp; omega), HO.out, if_neg (by omega)] at hb
      exact absurd rfl hb
    · exact hge
set_option maxRecDepth 100000 in
set_option maxHeartbeats 1000000 in
theorem New_no (cap deep : Int) (h : ¬ (1 ≤ cap ∧ cap ≤ 2000 ∧ 0 ≤ deep ∧ deep ≤ 40)) (w : World) :
    Calls Try.prog 38 #[.int .i64 cap, .int .i64 deep] w (RTwo (.pointer none) (.int .i64 1) w) := by
  by_cases h1 : 1 ≤ cap
  · by_cases h2 : cap ≤ 2000
    · by_cases h3 : 0 ≤ deep
      · have h4 : ¬ deep ≤ 40 := fun h4 => h ⟨h1, h2, h3, h4⟩
        clear h
        go_enter Try.func38, Try.ntmps38
        go_wp2_with fail
        go_ret2
        exact ⟨rfl, Ext.refl _⟩
      · clear h
        go_enter Try.func38, Try.ntmps38
        go_wp2_with fail
        go_ret2
        exact ⟨rfl, Ext.refl _⟩
    · clear h
      go_enter Try.func38, Try.ntmps38
      go_wp2_with fail
      go_ret2
      exact ⟨rfl, Ext.refl _⟩
  · clear h
    go_enter Try.func38, Try.ntmps38
    go_wp2_with fail
    go_ret2
    exact ⟨rfl, Ext.refl _⟩

/-- a number and no error are answered, the tree is another -/
def TwoAfter (own : Ow) (w : World) (tb : Nat) (id : Int) (T' : Tr) (e : Ending) (w' : World) : Prop := e = .returned (.tuple #[.int .i64 id, .int .i64 0]) ∧ After own w tb T' w'
theorem After.of_ext {own : Ow} {w w1 w2 : World} {tb : Nat} {T' : Tr} (h : After own w1 tb T' w2) (x : Ext w w1) (hO : Owned own w) : After own w tb T' w2 := by
  obtain ⟨own', ptr', h1, h2⟩ := h
  exact ⟨own', ptr', h1, (x.step hO).trans h2⟩

set_option maxRecDepth 100000 in
set_option maxHeartbeats 1000000 in
theorem Element_nil (tag : Int) (av : Value) (w : World) : Calls Try.prog 44 #[.pointer none, .int .i64 tag, av] w (RTwo (.int .i64 0) (.int .i64 1) w) := by
  go_enter Try.func44, Try.ntmps44
  go_wp2_with fail
  go_ret2
  exact ⟨rfl, Ext.refl _⟩
set_option maxRecDepth 100000 in
set_option maxHeartbeats 1000000 in
theorem Element_arg (tb : Nat) (tag : Int) (h : ¬ (1 ≤ tag ∧ tag ≤ 16)) (av : Value) (w : World) : Calls Try.prog 44 #[.pointer (some ⟨tb, 0, none⟩), .int .i64 tag, av] w (RTwo (.int .i64 0) (.int .i64 1) w) := by
  have H := Lib.hid h
  clear h
  go_enter Try.func44, Try.ntmps44
  go_wp2_with (go_at_call 90; refine (element_no _ H.out _).mono ?_; rintro e w' ⟨rfl, rfl⟩)
  go_ret2
  exact ⟨rfl, Ext.refl _⟩
theorem room_yes {w : World} {own : Ow} {ptr : Nat → Nat} {tb : Nat} {T : Tr} (hT : TreeAt w own ptr tb T) (hs : Small T) (n : Int) (h0 : 0 ≤ n) (h1 : n ≤ T.cap - T.count) :
    Calls Try.prog 92 #[.pointer (some ⟨tb, 0, none⟩), .int .i64 n] w (RBool true w) := by
  have h := room_any hT hs n h0 (by have := hs.cap1; have := hs.count0; omega)
  rw [decide_eq_true h1] at h
  exact h
theorem room_no {w : World} {own : Ow} {ptr : Nat → Nat} {tb : Nat} {T : Tr} (hT : TreeAt w own ptr tb T) (hs : Small T) (n : Int) (h0 : 0 ≤ n) (h2 : n ≤ 100000000) (h1 : ¬ n ≤ T.cap - T.count) :
    Calls Try.prog 92 #[.pointer (some ⟨tb, 0, none⟩), .int .i64 n] w (RBool false w) := by
  have h := room_any hT hs n h0 h2
  rw [decide_eq_false h1] at h
  exact h
set_option maxRecDepth 100000 in
set_option maxHeartbeats 1000000 in
theorem Element_full {w : World} {own : Ow} {ptr : Nat → Nat} {tb : Nat} {T : Tr} (hT : TreeAt w own ptr tb T) (hs : Small T) (tag : Int) (h1 : 1 ≤ tag) (h2 : tag ≤ 16) (h3 : ¬ 1 ≤ T.cap - T.count) (av : Value) :
    Calls Try.prog 44 #[.pointer (some ⟨tb, 0, none⟩), .int .i64 tag, av] w (RTwo (.int .i64 0) (.int .i64 3) w) := by
  have HS := Lib.hid hs
  have H3 := Lib.hid h3
  clear hs h3
  go_enter Try.func44, Try.ntmps44
  go_wp2_with (first
    | (go_at_call 90; refine (element_yes _ h1 h2 _).mono ?_; rintro e w' ⟨rfl, rfl⟩)
    | (go_at_call 92; refine (room_no hT HS.out 1 (by omega) (by omega) (by have := H3.out; omega)).mono ?_; rintro e w' ⟨rfl, hx⟩))
  go_ret2
  exact ⟨rfl, hx⟩
set_option maxRecDepth 100000 in
set_option maxHeartbeats 1000000 in
theorem Element_ok {w : World} {own : Ow} {ptr : Nat → Nat} {tb : Nat} {T : Tr} (hT : TreeAt w own ptr tb T) (hO : Owned own w) {d : Nat → Nat} (hw : WF T d) (tag : Int) (h1 : 1 ≤ tag) (h2 : tag ≤ 16) (h3 : 1 ≤ T.cap - T.count)
    {av : Value} {attrs : List (ByteArray × ByteArray)} (ha : RowRd w 2 av attrs.length (attrCells attrs)) (hn : attrs.length ≤ 60000) :
    Calls Try.prog 44 #[.pointer (some ⟨tb, 0, none⟩), .int .i64 tag, av] w (TwoAfter own w tb T.newId (T.put ⟨tag, attrs, ByteArray.empty, [], -1⟩)) := by
  obtain ⟨ao, acap, rfl, _⟩ := ha.len_of
  have HW := Lib.hid hw
  have HT := Lib.hid hT
  have HO := Lib.hid hO
  have HA := Lib.hid ha
  have HN := Lib.hid hn
  have H3 := Lib.hid h3
  clear hw hT hO ha hn h3
  go_enter Try.func44, Try.ntmps44
  go_wp2_with (first
    | (go_at_call 90; refine (element_yes _ h1 h2 _).mono ?_; rintro e w' ⟨rfl, rfl⟩)
    | (go_at_call 92; refine (room_yes HT.out HW.out.small 1 (by omega) H3.out).mono ?_; rintro e w1 ⟨rfl, hx⟩)
    | (go_at_call 94; refine (add_any (HT.out.keep (hx.keep HO.out)) (fun b hb => Nat.lt_of_lt_of_le (HO.out b hb) hx.size) HW.out.small ?c1 tag ByteArray.empty _ attrs (RowRd.ext HA.out hx) HN.out (attrCells_one _)).mono ?_))
  case c1 =>
    intro hall
    have := HW.out.len_full hall
    have := H3.out
    have := HW.out.small.cap1
    omega
  rintro e w2 ⟨rfl, hA⟩
  go_wp2_with fail
  go_ret2
  exact ⟨rfl, hA.of_ext hx HO.out⟩

set_option maxRecDepth 100000 in
set_option maxHeartbeats 1000000 in
theorem Text_nil (s : ByteArray) (hs : s.size ≤ 100000) (w : World) : Calls Try.prog 41 #[.pointer none, .string s] w (RTwo (.int .i64 0) (.int .i64 1) w) := by
  have H := Lib.hid hs
  clear hs
  go_enter Try.func41, Try.ntmps41
  go_wp2_with (go_at_call 87; refine (anew_any _ H.out _).mono ?_; rintro e w' ⟨rfl, hx⟩)
  go_ret2
  exact ⟨rfl, hx⟩
set_option maxRecDepth 100000 in
set_option maxHeartbeats 1000000 in
theorem Text_long (tb : Nat) (s : ByteArray) (hs : s.size ≤ 100000) (h : 8192 < (anewB s).size) (w : World) : Calls Try.prog 41 #[.pointer (some ⟨tb, 0, none⟩), .string s] w (RTwo (.int .i64 0) (.int .i64 10) w) := by
  have hb := anewB_size s
  have H := Lib.hid hs
  have hm : (anewB s).size ≤ 400000 := by omega
  clear hs hb
  go_enter Try.func41, Try.ntmps41
  go_wp2_with (go_at_call 87; refine (anew_any _ H.out _).mono ?_; rintro e w' ⟨rfl, hx⟩)
  go_ret2
  exact ⟨rfl, hx⟩
set_option maxRecDepth 100000 in
set_option maxHeartbeats 1000000 in
theorem Text_full {w : World} {own : Ow} {ptr : Nat → Nat} {tb : Nat} {T : Tr} (hT : TreeAt w own ptr tb T) (hO : Owned own w) (hs : Small T) (s : ByteArray) (hsz : s.size ≤ 100000) (h2 : (anewB s).size ≤ 8192) (h3 : ¬ 1 ≤ T.cap - T.count) :
    Calls Try.prog 41 #[.pointer (some ⟨tb, 0, none⟩), .string s] w (RTwo (.int .i64 0) (.int .i64 3) w) := by
  have H := Lib.hid hsz
  have HS := Lib.hid hs
  have H3 := Lib.hid h3
  have HT := Lib.hid hT
  have HO := Lib.hid hO
  clear hs h3 hsz hT hO
  go_enter Try.func41, Try.ntmps41
  go_wp2_with (first
    | (go_at_call 87; refine (anew_any _ H.out _).mono ?_; rintro e w' ⟨rfl, hx⟩)
    | (go_at_call 92; refine (room_no (HT.out.keep (hx.keep HO.out)) HS.out 1 (by omega) (by omega) (by have := H3.out; omega)).mono ?_; rintro e w2 ⟨rfl, hy⟩))
  go_ret2
  exact ⟨rfl, hx.trans hy⟩
set_option maxRecDepth 100000 in
set_option maxHeartbeats 1000000 in
theorem Text_ok {w : World} {own : Ow} {ptr : Nat → Nat} {tb : Nat} {T : Tr} (hT : TreeAt w own ptr tb T) (hO : Owned own w) {d : Nat → Nat} (hw : WF T d) (s : ByteArray) (hsz : s.size ≤ 100000) (h2 : (anewB s).size ≤ 8192) (h3 : 1 ≤ T.cap - T.count) :
    Calls Try.prog 41 #[.pointer (some ⟨tb, 0, none⟩), .string s] w (TwoAfter own w tb T.newId (T.put ⟨0, [], anewB s, [], -1⟩)) := by
  have H := Lib.hid hsz
  have HW := Lib.hid hw
  have H3 := Lib.hid h3
  have HT := Lib.hid hT
  have HO := Lib.hid hO
  clear hw h3 hsz hT hO
  go_enter Try.func41, Try.ntmps41
  go_wp2_with (first
    | (go_at_call 87; refine (anew_any _ H.out _).mono ?_; rintro e w' ⟨rfl, hx⟩)
    | (go_at_call 92; refine (room_yes (HT.out.keep (hx.keep HO.out)) HW.out.small 1 (by omega) H3.out).mono ?_; rintro e w2 ⟨rfl, hy⟩)
    | (go_at_call 94; refine (add_any (HT.out.keep ((hx.trans hy).keep HO.out)) (fun b hb => Nat.lt_of_lt_of_le (HO.out b hb) (hx.trans hy).size) HW.out.small ?c1 0 (anewB s) _ [] ⟨rfl, none, 0, rfl, Nat.le_refl _, fun _ => ⟨rfl, rfl⟩, fun a h => by cases h⟩ (by simp) (attrCells_one _)).mono ?_))
  case c1 =>
    intro hall
    have := HW.out.len_full hall
    have := H3.out
    have := HW.out.small.cap1
    omega
  rintro e w3 ⟨rfl, hA⟩
  go_wp2_with fail
  go_ret2
  exact ⟨rfl, hA.of_ext (hx.trans hy) HO.out⟩
end Go.Proofs.Ytiglflmjidikpaa
