/- Trees in plain words: what an insert, a removal, a drop make of a tree that holds what holds of every tree (WF). No program in sight.
Package dom: New, Element, Text. Conditions: at most 60000 attributes, at most 100000 bytes.
slices.Insert of one number into a row of numbers. Conditions: at most 60000 elements.
Package dom: a nil tree.
Package dom: Insert: the tree behind it, the errors.
Trees in plain words: an insert (link), a removal (unlink), a drop (cut) keep what holds of every tree. No program in sight.
Trees in plain words: a drop (cut) keeps what holds of every tree; what is left when the kids of a node are dropped one by one. No program in sight.
Package dom: Insert, where all is well. -/
import Derived.Test.YtiglflmjidikpaaD2
namespace Go.Proofs.Ytiglflmjidikpaa
open Go Go.RowKit Go.BigFrame
set_option linter.unusedVariables false
set_option linter.unusedSimpArgs false

/-- within, once for all fuel -/
theorem WF.d50 {T : Tr} {d : Nat → Nat} (hw : WF T d) {i : Nat} {nd : Nd} (h : T.nodes[i]? = some (some nd)) : d i < 50 := by
  have := hw.deep i nd h; have := hw.small.deep1; omega
theorem WF.within_step {T : Tr} {d : Nat → Nat} (hw : WF T d) {i : Nat} {nd : Nd} (h : T.nodes[i]? = some (some nd)) (o : Int) :
    T.within i o = if (i : Int) = o then true else T.within nd.parent o := by
  show isIn T o 50 i = _
  rw [isIn_step o 49 h]
  split
  · rfl
  · rcases hw.up i nd h with ⟨h3, h4⟩ | ⟨p, pd, h3, h4, h5, h6⟩
    · rw [h3, isIn_neg]; exact (isIn_neg T o 50).symm
    · rw [h3]; have := hw.d50 h; exact isIn_more hw o 49 50 p pd h4 (by omega) (by omega)
theorem within_neg (T : Tr) (o : Int) : T.within (-1) o = false := isIn_neg T o 50
/-- induction on the depth of a node -/
theorem WF.induct {T : Tr} {d : Nat → Nat} (hw : WF T d) (P : Nat → Nd → Prop)
    (h0 : ∀ (i : Nat) (nd : Nd), T.nodes[i]? = some (some nd) → nd.parent = -1 → d i = 0 → P i nd)
    (h1 : ∀ (i : Nat) (nd : Nd) (p : Nat) (pd : Nd), T.nodes[i]? = some (some nd) → nd.parent = (p : Int) → T.nodes[p]? = some (some pd) → d i = d p + 1 → P p pd → P i nd) :
    ∀ (i : Nat) (nd : Nd), T.nodes[i]? = some (some nd) → P i nd := by
  have key : ∀ (n i : Nat) (nd : Nd), d i = n → T.nodes[i]? = some (some nd) → P i nd := by
    intro n
    induction n with
    | zero =>
      intro i nd hd h
      rcases hw.up i nd h with ⟨h3, h4⟩ | ⟨p, pd, h3, h4, h5, h6⟩
      · exact h0 i nd h h3 h4
      · omega
    | succ n ih =>
      intro i nd hd h
      rcases hw.up i nd h with ⟨h3, h4⟩ | ⟨p, pd, h3, h4, h5, h6⟩
      · omega
      · exact h1 i nd p pd h h3 h4 h5 (ih p pd (by omega) h4)
  exact fun i nd h => key (d i) i nd rfl h
theorem WF.within_self {T : Tr} {d : Nat → Nat} (hw : WF T d) {i : Nat} {nd : Nd} (h : T.nodes[i]? = some (some nd)) : T.within i i = true := by
  rw [hw.within_step h, if_pos rfl]
theorem WF.within_depth {T : Tr} {d : Nat → Nat} (hw : WF T d) {o : Nat} : ∀ (i : Nat) (nd : Nd), T.nodes[i]? = some (some nd) → T.within i o = true → d o ≤ d i ∧ (d o = d i → i = o) := by
  refine hw.induct _ (fun i nd h hp hd hi => ?_) (fun i nd p pd h hp hpd hd ih hi => ?_)
  · rw [hw.within_step h, hp, within_neg] at hi
    split at hi
    · rename_i e; have : i = o := by omega
      subst this; exact ⟨Nat.le_refl _, fun _ => rfl⟩
    · cases hi
  · rw [hw.within_step h, hp] at hi
    split at hi
    · rename_i e; have : i = o := by omega
      subst this; exact ⟨Nat.le_refl _, fun _ => rfl⟩
    · have := (ih hi).1; omega
theorem WF.within_trans {T : Tr} {d : Nat → Nat} (hw : WF T d) {o q : Nat} {od : Nd} (ho : T.nodes[o]? = some (some od)) (hq : T.within o q = true) :
    ∀ (i : Nat) (nd : Nd), T.nodes[i]? = some (some nd) → T.within i o = true → T.within i q = true := by
  refine hw.induct _ (fun i nd h hp hd hi => ?_) (fun i nd p pd h hp hpd hd ih hi => ?_)
  · rw [hw.within_step h, hp, within_neg] at hi
    split at hi
    · rename_i e; have : i = o := by omega
      subst this; exact hq
    · cases hi
  · rw [hw.within_step h, hp] at hi
    split at hi
    · rename_i e; have : i = o := by omega
      subst this; exact hq
    · rw [hw.within_step h, hp]
      split
      · rfl
      · exact ih hi
/-- a root is within nothing else -/
theorem WF.within_root {T : Tr} {d : Nat → Nat} (hw : WF T d) {i : Nat} {nd : Nd} (h : T.nodes[i]? = some (some nd)) (hp : nd.parent = -1) (o : Int) : T.within i o = decide ((i : Int) = o) := by
  rw [hw.within_step h, hp, within_neg]
  by_cases e : (i : Int) = o
  · rw [if_pos e, decide_eq_true e]
  · rw [if_neg e, decide_eq_false e]
/-- who is within a node is it, or within one of its kids -/
theorem WF.within_kid {T : Tr} {d : Nat → Nat} (hw : WF T d) {o : Nat} {od : Nd} (ho : T.nodes[o]? = some (some od)) :
    ∀ (i : Nat) (nd : Nd), T.nodes[i]? = some (some nd) → T.within i o = true → i = o ∨ ∃ k ∈ od.kids, T.within i k = true := by
  refine hw.induct _ (fun i nd h hp hd hi => ?_) (fun i nd p pd h hp hpd hd ih hi => ?_)
  · rw [hw.within_root h hp] at hi
    left; have := of_decide_eq_true hi; omega
  · rw [hw.within_step h, hp] at hi
    split at hi
    · rename_i e; left; omega
    · right
      rcases ih hi with rfl | ⟨k, hk, hk2⟩
      · rw [ho] at hpd
        obtain rfl : od = pd := by injection hpd with e; injection e
        rcases hw.up i nd h with ⟨h3, h4⟩ | ⟨p', pd', h3, h4, h5, h6⟩
        · omega
        · have hpp : p' = p := by omega
          subst hpp
          rw [ho] at h4
          obtain rfl : od = pd' := by injection h4 with e; injection e
          exact ⟨i, h6, hw.within_self h⟩
      · refine ⟨k, hk, ?_⟩
        rw [hw.within_step h, hp, hk2]
        split <;> rfl
theorem WF.kid_within {T : Tr} {d : Nat → Nat} (hw : WF T d) {o : Nat} {od : Nd} (ho : T.nodes[o]? = some (some od)) {k : Int} (hk : k ∈ od.kids) :
    ∀ (i : Nat) (nd : Nd), T.nodes[i]? = some (some nd) → T.within i k = true → T.within i o = true := by
  obtain ⟨j, kd, rfl, hj, hjp⟩ := (hw.kids o od ho).2 k hk
  refine fun i nd h hi => hw.within_trans hj ?_ i nd h hi
  rw [hw.within_step hj, hjp]
  split
  · rfl
  · exact hw.within_self ho

theorem fold_ge (F : Int → Int) : ∀ (l : List Int) (z : Int), z ≤ l.foldl (fun h k => max h (F k)) z := by
  intro l
  induction l with
  | nil => intro z; exact Int.le_refl _
  | cons k r ih => intro z; exact Int.le_trans (show z ≤ max z (F k) by omega) (ih _)
theorem fold_mem (F : Int → Int) : ∀ (l : List Int) (z : Int) (x : Int), x ∈ l → F x ≤ l.foldl (fun h k => max h (F k)) z := by
  intro l
  induction l with
  | nil => intro z x hx; cases hx
  | cons k r ih =>
    intro z x hx
    rcases List.mem_cons.1 hx with rfl | hx
    · exact Int.le_trans (show F x ≤ max z (F x) by omega) (fold_ge F r _)
    · exact ih _ x hx
theorem hgt_step (T : Tr) (f : Nat) {i : Nat} {nd : Nd} (h : T.nodes[i]? = some (some nd)) : T.hgt (f + 1) i = nd.kids.foldl (fun h k => max h (T.hgt f k + 1)) 0 := by
  show (match T.get? i with | none => -1 | some nd => nd.kids.foldl (fun h k => max h (T.hgt f k + 1)) 0) = _
  rw [Tr.get_of h]
theorem hgt_nn (T : Tr) (f : Nat) {i : Nat} {nd : Nd} (h : T.nodes[i]? = some (some nd)) : 0 ≤ T.hgt f i := by
  cases f with
  | zero => exact Int.le_refl 0
  | succ f => rw [hgt_step T f h]; exact fold_ge _ _ _
theorem fold_congr (F G : Int → Int) : ∀ (l : List Int) (z : Int), (∀ k ∈ l, F k = G k) → l.foldl (fun h k => max h (F k)) z = l.foldl (fun h k => max h (G k)) z := by
  intro l
  induction l with
  | nil => intro z _; rfl
  | cons k r ih =>
    intro z h
    simp only [List.foldl_cons]
    rw [h k (by simp)]
    exact ih _ fun x hx => h x (by simp [hx])
/-- enough fuel: the height is one -/
theorem WF.hgt_more {T : Tr} {d : Nat → Nat} (hw : WF T d) : ∀ (f g i : Nat) (nd : Nd), T.nodes[i]? = some (some nd) → 41 ≤ d i + f → 41 ≤ d i + g → T.hgt f i = T.hgt g i := by
  intro f
  induction f with
  | zero => intro g i nd h h1; have := hw.deep i nd h; have := hw.small.deep1; omega
  | succ f ih =>
    intro g i nd h h1 h2
    cases g with
    | zero => have := hw.deep i nd h; have := hw.small.deep1; omega
    | succ g =>
      rw [hgt_step T f h, hgt_step T g h]
      refine fold_congr _ _ _ _ fun k hk => ?_
      obtain ⟨n, hn⟩ := List.getElem?_of_mem hk
      obtain ⟨j, kd, rfl, hj, hjp, hjd⟩ := hw.kid h hn
      rw [ih g j kd hj (by omega) (by omega)]
/-- how high a node stands -/
def Tr.height (T : Tr) (i : Int) : Int := T.hgt 50 i
theorem WF.hgt_kid {T : Tr} {d : Nat → Nat} (hw : WF T d) {i : Nat} {nd : Nd} (h : T.nodes[i]? = some (some nd)) {j : Nat} (hk : (j : Int) ∈ nd.kids) : T.height j + 1 ≤ T.height i := by
  show T.hgt 50 j + 1 ≤ T.hgt 50 i
  obtain ⟨n, hn⟩ := List.getElem?_of_mem hk
  obtain ⟨j', kd, e, hj, hjp, hjd⟩ := hw.kid h hn
  obtain rfl : j' = j := by omega
  have h2 := hw.deep j' kd hj
  have h3 := hw.small.deep1
  rw [hw.hgt_more 50 49 j' kd hj (by omega) (by omega), hgt_step T 49 h]
  exact fold_mem (fun k => T.hgt 49 k + 1) nd.kids 0 j' hk
theorem WF.depth_le {T : Tr} {d : Nat → Nat} (hw : WF T d) {o : Nat} {od : Nd} (ho : T.nodes[o]? = some (some od)) :
    ∀ (i : Nat) (nd : Nd), T.nodes[i]? = some (some nd) → T.within i o = true → (d i : Int) + T.height i ≤ d o + T.height o := by
  refine hw.induct _ (fun i nd h hp hd hi => ?_) (fun i nd p pd h hp hpd hd ih hi => ?_)
  · rw [hw.within_root h hp] at hi
    have : i = o := by have := of_decide_eq_true hi; omega
    subst this; exact Int.le_refl _
  · rw [hw.within_step h, hp] at hi
    split at hi
    · rename_i e; have : i = o := by omega
      subst this; exact Int.le_refl _
    · have h1 := ih hi
      rcases hw.up i nd h with ⟨h3, h4⟩ | ⟨p', pd', h3, h4, h5, h6⟩
      · omega
      · obtain rfl : p' = p := by omega
        have := hw.hgt_kid h4 h6
        omega
/-- a kid stands in one row alone, once -/
theorem WF.kid_parent {T : Tr} {d : Nat → Nat} (hw : WF T d) {i j : Nat} {nd kd : Nd} (h : T.nodes[i]? = some (some nd)) (hk : (j : Int) ∈ nd.kids) (hj : T.nodes[j]? = some (some kd)) : kd.parent = i := by
  obtain ⟨j', kd', e, h1, h2⟩ := (hw.kids i nd h).2 _ hk
  obtain rfl : j' = j := by omega
  rw [hj] at h1
  injection h1 with e; injection e with e
  rw [e]; exact h2
end Go.Proofs.Ytiglflmjidikpaa

namespace Go.Proofs.Ytiglflmjidikpaa
open Go Go.RowKit Go.BigFrame
set_option linter.unusedVariables false
set_option linter.unusedSimpArgs false

/-- a fresh tree is answered -/
def NewIs (w : World) (T : Tr) (e : Ending) (w' : World) : Prop := ∃ tb own ptr, e = .returned (.tuple #[.pointer (some ⟨tb, 0, none⟩), .int .i64 0]) ∧ TreeAt w' own ptr tb T ∧ Owned own w' ∧ Ext w w' ∧ (∀ b, own b ≠ none → w.heap.size ≤ b)
def hostOf (cap deep : Int) : Tr := ⟨cap, deep, 1, [some ⟨1, [], ByteArray.empty, [], -1⟩]⟩
theorem hostOf_put (cap deep : Int) : (Tr.mk cap deep 0 []).put ⟨1, [], ByteArray.empty, [], -1⟩ = hostOf cap deep := rfl
theorem hostOf_wf (cap deep : Int) (h1 : 1 ≤ cap) (h2 : cap ≤ 2000) (h3 : 0 ≤ deep) (h4 : deep ≤ 40) : WF (hostOf cap deep) (fun _ => 0) := by
  have hz : ∀ (i : Nat) (nd : Nd), (hostOf cap deep).nodes[i]? = some (some nd) → nd = ⟨1, [], ByteArray.empty, [], -1⟩ := by
    intro i nd h
    have h' : [some (⟨1, [], ByteArray.empty, [], -1⟩ : Nd)][i]? = some (some nd) := h
    cases i with
    | zero => simp at h'; exact h'.symm
    | succ i => simp at h'
  refine ⟨⟨by show 0 ≤ cap; omega, h2, h3, h4, by show (0 : Int) ≤ 1; omega, by show 1 ≤ cap; omega, by simp [hostOf]⟩, ⟨_, rfl, rfl, rfl⟩, fun i nd _ => h3, fun i nd h => .inl ⟨by rw [hz i nd h], rfl⟩, fun i nd h => ?_, fun i nd h => ?_, by simp [hostOf]⟩
  · rw [hz i nd h]; exact ⟨List.nodup_nil, fun k hk => by simp at hk⟩
  · rw [hz i nd h]; exact ⟨by decide, by decide, fun h => rfl⟩
/-- an empty tree in a block of its own -/
theorem fresh_tree (w : World) (cap deep : Int) : ∃ own : Ow, (∀ b, own b = if b = w.heap.size then some (0, 0) else none) ∧
    TreeAt (w.alloc (.cells #[.int .i64 cap, .int .i64 deep, .int .i64 0, .slice none 0 0] 119)) own (fun _ => 0) w.heap.size ⟨cap, deep, 0, []⟩ ∧ Owned own (w.alloc (.cells #[.int .i64 cap, .int .i64 deep, .int .i64 0, .slice none 0 0] 119)) := by
  refine ⟨fun b => if b = w.heap.size then some (0, 0) else none, fun b => rfl, ⟨⟨.slice none 0 0, heap_alloc_new _ _, if_pos rfl, ⟨rfl, .inl ⟨rfl, none, rfl⟩⟩⟩, fun i nd h => by simp at h⟩, fun b hb => ?_⟩
  have hb' : (if b = w.heap.size then some ((0 : Nat), (0 : Nat)) else none) ≠ none := hb
  split at hb'
  · simp; omega
  · exact absurd rfl hb'

set_option maxRecDepth 100000 in
set_option maxHeartbeats 1000000 in
theorem New_ok (cap deep : Int) (h1 : 1 ≤ cap) (h2 : cap ≤ 2000) (h3 : 0 ≤ deep) (h4 : deep ≤ 40) (w : World) :
    Calls Try.prog 38 #[.int .i64 cap, .int .i64 deep] w (NewIs w (hostOf cap deep)) := by
  obtain ⟨own, ho, hT, hO⟩ := fresh_tree w cap deep
  have HO := Lib.hid ho
  have hc := add_any hT hO ⟨by show 0 ≤ cap; omega, h2, h3, h4, by show (0 : Int) ≤ 0; omega, by show 0 ≤ cap; omega, by simp⟩ (fun _ => by simp) 1 ByteArray.empty (.slice none 0 0) [] ⟨rfl, none, 0, rfl, Nat.le_refl _, fun _ => ⟨rfl, rfl⟩, fun a h => by cases h⟩ (by simp) (attrCells_one [])
  rw [hostOf_put] at hc
  have HC := Lib.hid hc
  clear ho hT hO hc
  go_enter Try.func38, Try.ntmps38
  go_wp2_with fail
  refine HC.out.mono ?_
  rintro e w1 ⟨rfl, own', ptr', hT', hS⟩
  go_wp2_with fail
  go_ret2
  refine ⟨w.heap.size, own', ptr', rfl, hT', hS.owned, ?_, fun b hb => ?_⟩
  · refine ⟨hS.os, hS.tape, hS.output, Nat.le_trans (by simp) hS.size, fun b hb => ?_⟩
    rw [hS.rest b (by simp; omega) (by rw [HO.out]; rw [if_neg (by omega)])]
    exact Below.heap_alloc _ _ _ hb
  · rcases Nat.lt_or_ge b w.heap.size with hlt | hge
    · rw [hS.same b (by simp; omega), HO.out, if_neg (by omega)] at hb
      exact absurd rfl hb
    · exact hge
set_option maxRecDepth 100000 in
set_option maxHeartbeats 1000000 in
theorem New_no (cap deep : Int) (h : ¬ (1 ≤ cap ∧ cap ≤ 2000 ∧ 0 ≤ deep ∧ deep ≤ 40)) (w : World) :
    Calls Try.prog 38 #[.int .i64 cap, .int .i64 deep] w (RTwo (.pointer none) (.int .i64 1) w) := by
  by_cases h1 : 1 ≤ cap
  · by_cases h2 : cap ≤ 2000
    · by_cases h3 : 0 ≤ deep
      · have h4 : ¬ deep ≤ 40 := fun h4 => h ⟨h1, h2, h3, h4⟩
        clear h
        go_enter Try.func38, Try.ntmps38
        go_wp2_with fail
        go_ret2
        exact ⟨rfl, Ext.refl _⟩
      · clear h
        go_enter Try.func38, Try.ntmps38
        go_wp2_with fail
        go_ret2
        exact ⟨rfl, Ext.refl _⟩
    · clear h
      go_enter Try.func38, Try.ntmps38
      go_wp2_with fail
      go_ret2
      exact ⟨rfl, Ext.refl _⟩
  · clear h
    go_enter Try.func38, Try.ntmps38
    go_wp2_with fail
    go_ret2
    exact ⟨rfl, Ext.refl _⟩

/-- a number and no error are answered, the tree is another -/
def TwoAfter (own : Ow) (w : World) (tb : Nat) (id : Int) (T' : Tr) (e : Ending) (w' : World) : Prop := e = .returned (.tuple #[.int .i64 id, .int .i64 0]) ∧ After own w tb T' w'
theorem After.of_ext {own : Ow} {w w1 w2 : World} {tb : Nat} {T' : Tr} (h : After own w1 tb T' w2) (x : Ext w w1) (hO : Owned own w) : After own w tb T' w2 := by
  obtain ⟨own', ptr', h1, h2⟩ := h
  exact ⟨own', ptr', h1, (x.step hO).trans h2⟩

set_option maxRecDepth 100000 in
set_option maxHeartbeats 1000000 in
theorem Element_nil (tag : Int) (av : Value) (w : World) : Calls Try.prog 44 #[.pointer none, .int .i64 tag, av] w (RTwo (.int .i64 0) (.int .i64 1) w) := by
  go_enter Try.func44, Try.ntmps44
  go_wp2_with fail
  go_ret2
  exact ⟨rfl, Ext.refl _⟩
set_option maxRecDepth 100000 in
set_option maxHeartbeats 1000000 in
theorem Element_arg (tb : Nat) (tag : Int) (h : ¬ (1 ≤ tag ∧ tag ≤ 16)) (av : Value) (w : World) : Calls Try.prog 44 #[.pointer (some ⟨tb, 0, none⟩), .int .i64 tag, av] w (RTwo (.int .i64 0) (.int .i64 1) w) := by
  have H := Lib.hid h
  clear h
  go_enter Try.func44, Try.ntmps44
  go_wp2_with (go_at_call 90; refine (element_no _ H.out _).mono ?_; rintro e w' ⟨rfl, rfl⟩)
  go_ret2
  exact ⟨rfl, Ext.refl _⟩
theorem room_yes {w : World} {own : Ow} {ptr : Nat → Nat} {tb : Nat} {T : Tr} (hT : TreeAt w own ptr tb T) (hs : Small T) (n : Int) (h0 : 0 ≤ n) (h1 : n ≤ T.cap - T.count) :
    Calls Try.prog 92 #[.pointer (some ⟨tb, 0, none⟩), .int .i64 n] w (RBool true w) := by
  have h := room_any hT hs n h0 (by have := hs.cap1; have := hs.count0; omega)
  rw [decide_eq_true h1] at h
  exact h
theorem room_no {w : World} {own : Ow} {ptr : Nat → Nat} {tb : Nat} {T : Tr} (hT : TreeAt w own ptr tb T) (hs : Small T) (n : Int) (h0 : 0 ≤ n) (h2 : n ≤ 100000000) (h1 : ¬ n ≤ T.cap - T.count) :
    Calls Try.prog 92 #[.pointer (some ⟨tb, 0, none⟩), .int .i64 n] w (RBool false w) := by
  have h := room_any hT hs n h0 h2
  rw [decide_eq_false h1] at h
  exact h
set_option maxRecDepth 100000 in
set_option maxHeartbeats 1000000 in
theorem Element_full {w : World} {own : Ow} {ptr : Nat → Nat} {tb : Nat} {T : Tr} (hT : TreeAt w own ptr tb T) (hs : Small T) (tag : Int) (h1 : 1 ≤ tag) (h2 : tag ≤ 16) (h3 : ¬ 1 ≤ T.cap - T.count) (av : Value) :
    Calls Try.prog 44 #[.pointer (some ⟨tb, 0, none⟩), .int .i64 tag, av] w (RTwo (.int .i64 0) (.int .i64 3) w) := by
  have HS := Lib.hid hs
  have H3 := Lib.hid h3
  clear hs h3
  go_enter Try.func44, Try.ntmps44
  go_wp2_with (first
    | (go_at_call 90; refine (element_yes _ h1 h2 _).mono ?_; rintro e w' ⟨rfl, rfl⟩)
    | (go_at_call 92; refine (room_no hT HS.out 1 (by omega) (by omega) (by have := H3.out; omega)).mono ?_; rintro e w' ⟨rfl, hx⟩))
  go_ret2
  exact ⟨rfl, hx⟩
set_option maxRecDepth 100000 in
set_option maxHeartbeats 1000000 in
theorem Element_ok {w : World} {own : Ow} {ptr : Nat → Nat} {tb : Nat} {T : Tr} (hT : TreeAt w own ptr tb T) (hO : Owned own w) {d : Nat → Nat} (hw : WF T d) (tag : Int) (h1 : 1 ≤ tag) (h2 : tag ≤ 16) (h3 : 1 ≤ T.cap - T.count)
    {av : Value} {attrs : List (ByteArray × ByteArray)} (ha : RowRd w 2 av attrs.length (attrCells attrs)) (hn : attrs.length ≤ 60000) :
    Calls Try.prog 44 #[.pointer (some ⟨tb, 0, none⟩), .int .i64 tag, av] w (TwoAfter own w tb T.newId (T.put ⟨tag, attrs, ByteArray.empty, [], -1⟩)) := by
  obtain ⟨ao, acap, rfl, _⟩ := ha.len_of
  have HW := Lib.hid hw
  have HT := Lib.hid hT
  have HO := Lib.hid hO
  have HA := Lib.hid ha
  have HN := Lib.hid hn
  have H3 := Lib.hid h3
  clear hw hT hO ha hn h3
  go_enter Try.func44, Try.ntmps44
  go_wp2_with (first
    | (go_at_call 90; refine (element_yes _ h1 h2 _).mono ?_; rintro e w' ⟨rfl, rfl⟩)
    | (go_at_call 92; refine (room_yes HT.out HW.out.small 1 (by omega) H3.out).mono ?_; rintro e w1 ⟨rfl, hx⟩)
    | (go_at_call 94; refine (add_any (HT.out.keep (hx.keep HO.out)) (fun b hb => Nat.lt_of_lt_of_le (HO.out b hb) hx.size) HW.out.small ?c1 tag ByteArray.empty _ attrs (RowRd.ext HA.out hx) HN.out (attrCells_one _)).mono ?_))
  case c1 =>
    intro hall
    have := HW.out.len_full hall
    have := H3.out
    have := HW.out.small.cap1
    omega
  rintro e w2 ⟨rfl, hA⟩
  go_wp2_with fail
  go_ret2
  exact ⟨rfl, hA.of_ext hx HO.out⟩

set_option maxRecDepth 100000 in
set_option maxHeartbeats 1000000 in
theorem Text_nil (s : ByteArray) (hs : s.size ≤ 100000) (w : World) : Calls Try.prog 41 #[.pointer none, .string s] w (RTwo (.int .i64 0) (.int .i64 1) w) := by
  have H := Lib.hid hs
  clear hs
  go_enter Try.func41, Try.ntmps41
  go_wp2_with (go_at_call 87; refine (anew_any _ H.out _).mono ?_; rintro e w' ⟨rfl, hx⟩)
  go_ret2
  exact ⟨rfl, hx⟩
set_option maxRecDepth 100000 in
set_option maxHeartbeats 1000000 in
theorem Text_long (tb : Nat) (s : ByteArray) (hs : s.size ≤ 100000) (h : 8192 < (anewB s).size) (w : World) : Calls Try.prog 41 #[.pointer (some ⟨tb, 0, none⟩), .string s] w (RTwo (.int .i64 0) (.int .i64 10) w) := by
  have hb := anewB_size s
  have H := Lib.hid hs
  have hm : (anewB s).size ≤ 400000 := by omega
  clear hs hb
  go_enter Try.func41, Try.ntmps41
  go_wp2_with (go_at_call 87; refine (anew_any _ H.out _).mono ?_; rintro e w' ⟨rfl, hx⟩)
  go_ret2
  exact ⟨rfl, hx⟩
set_option maxRecDepth 100000 in
set_option maxHeartbeats 1000000 in
theorem Text_full {w : World} {own : Ow} {ptr : Nat → Nat} {tb : Nat} {T : Tr} (hT : TreeAt w own ptr tb T) (hO : Owned own w) (hs : Small T) (s : ByteArray) (hsz : s.size ≤ 100000) (h2 : (anewB s).size ≤ 8192) (h3 : ¬ 1 ≤ T.cap - T.count) :
    Calls Try.prog 41 #[.pointer (some ⟨tb, 0, none⟩), .string s] w (RTwo (.int .i64 0) (.int .i64 3) w) := by
  have H := Lib.hid hsz
  have HS := Lib.hid hs
  have H3 := Lib.hid h3
  have HT := Lib.hid hT
  have HO := Lib.hid hO
  clear hs h3 hsz hT hO
  go_enter Try.func41, Try.ntmps41
  go_wp2_with (first
    | (go_at_call 87; refine (anew_any _ H.out _).mono ?_; rintro e w' ⟨rfl, hx⟩)
    | (go_at_call 92; refine (room_no (HT.out.keep (hx.keep HO.out)) HS.out 1 (by omega) (by omega) (by have := H3.out; omega)).mono ?_; rintro e w2 ⟨rfl, hy⟩))
  go_ret2
  exact ⟨rfl, hx.trans hy⟩
set_option maxRecDepth 100000 in
set_option maxHeartbeats 1000000 in
theorem Text_ok {w : World} {own : Ow} {ptr : Nat → Nat} {tb : Nat} {T : Tr} (hT : TreeAt w own ptr tb T) (hO : Owned own w) {d : Nat → Nat} (hw : WF T d) (s : ByteArray) (hsz : s.size ≤ 100000) (h2 : (anewB s).size ≤ 8192) (h3 : 1 ≤ T.cap - T.count) :
    Calls Try.prog 41 #[.pointer (some ⟨tb, 0, none⟩), .string s] w (TwoAfter own w tb T.newId (T.put ⟨0, [], anewB s, [], -1⟩)) := by
  have H := Lib.hid hsz
  have HW := Lib.hid hw
  have H3 := Lib.hid h3
  have HT := Lib.hid hT
  have HO := Lib.hid hO
  clear hw h3 hsz hT hO
  go_enter Try.func41, Try.ntmps41
  go_wp2_with (first
    | (go_at_call 87; refine (anew_any _ H.out _).mono ?_; rintro e w' ⟨rfl, hx⟩)
    | (go_at_call 92; refine (room_yes (HT.out.keep (hx.keep HO.out)) HW.out.small 1 (by omega) H3.out).mono ?_; rintro e w2 ⟨rfl, hy⟩)
    | (go_at_call 94; refine (add_any (HT.out.keep ((hx.trans hy).keep HO.out)) (fun b hb => Nat.lt_of_lt_of_le (HO.out b hb) (hx.trans hy).size) HW.out.small ?c1 0 (anewB s) _ [] ⟨rfl, none, 0, rfl, Nat.le_refl _, fun _ => ⟨rfl, rfl⟩, fun a h => by cases h⟩ (by simp) (attrCells_one _)).mono ?_))
  case c1 =>
    intro hall
    have := HW.out.len_full hall
    have := H3.out
    have := HW.out.small.cap1
    omega
  rintro e w3 ⟨rfl, hA⟩
  go_wp2_with fail
  go_ret2
  exact ⟨rfl, hA.of_ext (hx.trans hy) HO.out⟩
end Go.Proofs.Ytiglflmjidikpaa

namespace Go.Proofs.Ytiglflmjidikpaa
open Go Go.RowKit Go.BigFrame
set_option linter.unusedVariables false
set_option linter.unusedSimpArgs false

/-- a row is answered; it may have been written in place, or made anew -/
def RIns (p : Nat → Prop) (w : World) (n : Nat) (ys : List Value) (e : Ending) (w' : World) : Prop :=
  ∃ v' row, e = .returned v' ∧ RowP w' (fun g => p g ∨ w.heap.size ≤ g) 3 1 v' n ys ∧ w.grownBy w' row ∧ ∀ k, row = some k → p k

theorem cell_one_new' {w : World} {b : Nat} {x : Value} (h : w.cell? ⟨b, 0, none⟩ = some x) : ∀ (j : Nat) u, [x][j]? = some u → w.cell? (Addr.add ⟨b, 0, none⟩ j) = some u := by
  intro j u hj
  match j, hj with
  | 0, hj => simpa [Addr.add, h] using hj

set_option maxRecDepth 100000 in
set_option maxHeartbeats 1000000 in
theorem insert_end {w : World} {p : Nat → Prop} {v : Value} {n : Nat} {xs : List Value} (hr : RowP w p 3 1 v n xs) (hn : n ≤ 60000) {b : Nat} {x : Int} (hx : w.cell? ⟨b, 0, none⟩ = some (.int .i64 x)) :
    Calls Try.prog 84 #[v, .int .i64 n, .slice (some ⟨b, 0, none⟩) 1 1] w (RIns p w (n + 1) (xs ++ [.int .i64 x])) := by
  obtain ⟨ao, cap, rfl, hc⟩ := hr.rd.len_of
  obtain ⟨i0, hi, hz0, hz1, hz2⟩ := info_parts infoI
  have Hi := Lib.hid hi
  have Hz0 := Lib.hid hz0
  have Hz1 := Lib.hid hz1
  have Hz2 := Lib.hid hz2
  have HR := Lib.hid hr
  have HX := Lib.hid hx
  have HN := Lib.hid hn
  have hcm : cap ≤ 9223372036854775807 := by
    rcases hr.2 with ⟨_, a, e⟩ | ⟨g, cap', cur, e, _, _, _, h, _⟩
    · cases e; omega
    · cases e; unfold maxLen at h; omega
  clear hi hz0 hz1 hz2 hr hx
  by_cases he : cap = n
  all_goals
    go_enter Try.func84, Try.ntmps84
    go_wp2_with (at_builtin; refine wpList_append_row rfl _ _ 70 rfl 3 i0 (.int .i64 0) 1 8 Try.underlying70 Hi.out Hz0.out Hz1.out Hz2.out rfl (by decide) p (.slice ao n cap) n xs rfl HR.out ⟨b, 0, none⟩ 1 1 [.int .i64 x] rfl rfl ?_ ?_ (by decide) ?_ ?_ ?_)
  all_goals first
    | exact cell_one_new' HX.out
    | (simp [Value.oneCell']; done)
    | (unfold maxLen; omega)
    | omega
    | skip
  all_goals
    intro v' w1 row h1 h2 h3
    go_wp2
    go_ret
    exact ⟨_, row, rfl, h1, h2, h3⟩
end Go.Proofs.Ytiglflmjidikpaa

namespace Go.Proofs.Ytiglflmjidikpaa
open Go Go.RowKit Go.BigFrame
set_option linter.unusedVariables false
set_option linter.unusedSimpArgs false

set_option maxRecDepth 100000 in
set_option maxHeartbeats 1000000 in
theorem Insert_nil (a b c : Int) (w : World) : Calls Try.prog 21 #[.pointer none, .int .i64 a, .int .i64 b, .int .i64 c] w (RVal (.int .i64 1) w) := by
  go_enter Try.func21, Try.ntmps21
  go_wp2_with (first | (go_at_call 80; refine (get_nil _ _).mono ?_; rintro e w' ⟨rfl, rfl⟩) | (go_at_call 34; refine (Parent_nil _ _).mono ?_; rintro e w' ⟨rfl, rfl⟩))
  go_ret
  exact ⟨rfl, by repeat (first | exact Ext.refl _ | refine Ext.alloc ?_ _)⟩
set_option maxRecDepth 100000 in
set_option maxHeartbeats 1000000 in
theorem Remove_nil (a : Int) (w : World) : Calls Try.prog 22 #[.pointer none, .int .i64 a] w (RVal (.int .i64 1) w) := by
  go_enter Try.func22, Try.ntmps22
  go_wp2_with (first | (go_at_call 80; refine (get_nil _ _).mono ?_; rintro e w' ⟨rfl, rfl⟩) | (go_at_call 34; refine (Parent_nil _ _).mono ?_; rintro e w' ⟨rfl, rfl⟩))
  go_ret
  exact ⟨rfl, by repeat (first | exact Ext.refl _ | refine Ext.alloc ?_ _)⟩
set_option maxRecDepth 100000 in
set_option maxHeartbeats 1000000 in
theorem Drop_nil (a : Int) (w : World) : Calls Try.prog 25 #[.pointer none, .int .i64 a] w (RVal (.int .i64 1) w) := by
  go_enter Try.func25, Try.ntmps25
  go_wp2_with (first | (go_at_call 80; refine (get_nil _ _).mono ?_; rintro e w' ⟨rfl, rfl⟩) | (go_at_call 34; refine (Parent_nil _ _).mono ?_; rintro e w' ⟨rfl, rfl⟩))
  go_ret
  exact ⟨rfl, by repeat (first | exact Ext.refl _ | refine Ext.alloc ?_ _)⟩
set_option maxRecDepth 100000 in
set_option maxHeartbeats 1000000 in
theorem SetAttrs_nil (a : Int) (v : Value) (w : World) : Calls Try.prog 24 #[.pointer none, .int .i64 a, v] w (RVal (.int .i64 1) w) := by
  go_enter Try.func24, Try.ntmps24
  go_wp2_with (first | (go_at_call 80; refine (get_nil _ _).mono ?_; rintro e w' ⟨rfl, rfl⟩) | (go_at_call 34; refine (Parent_nil _ _).mono ?_; rintro e w' ⟨rfl, rfl⟩))
  go_ret
  exact ⟨rfl, by repeat (first | exact Ext.refl _ | refine Ext.alloc ?_ _)⟩
set_option maxRecDepth 100000 in
set_option maxHeartbeats 1000000 in
theorem SetTag_nil (a b : Int) (w : World) : Calls Try.prog 29 #[.pointer none, .int .i64 a, .int .i64 b] w (RVal (.int .i64 1) w) := by
  go_enter Try.func29, Try.ntmps29
  go_wp2_with (first | (go_at_call 80; refine (get_nil _ _).mono ?_; rintro e w' ⟨rfl, rfl⟩) | (go_at_call 34; refine (Parent_nil _ _).mono ?_; rintro e w' ⟨rfl, rfl⟩))
  go_ret
  exact ⟨rfl, by repeat (first | exact Ext.refl _ | refine Ext.alloc ?_ _)⟩
set_option maxRecDepth 100000 in
set_option maxHeartbeats 1000000 in
theorem Index_nil (a : Int) (w : World) : Calls Try.prog 35 #[.pointer none, .int .i64 a] w (RVal (.int .i64 (-1)) w) := by
  go_enter Try.func35, Try.ntmps35
  go_wp2_with (first | (go_at_call 80; refine (get_nil _ _).mono ?_; rintro e w' ⟨rfl, rfl⟩) | (go_at_call 34; refine (Parent_nil _ _).mono ?_; rintro e w' ⟨rfl, rfl⟩))
  go_ret
  exact ⟨rfl, by repeat (first | exact Ext.refl _ | refine Ext.alloc ?_ _)⟩
set_option maxRecDepth 100000 in
set_option maxHeartbeats 1000000 in
theorem Height_nil (a : Int) (w : World) : Calls Try.prog 50 #[.pointer none, .int .i64 a] w (RVal (.int .i64 (-1)) w) := by
  go_enter Try.func50, Try.ntmps50
  go_wp2_with (first | (go_at_call 80; refine (get_nil _ _).mono ?_; rintro e w' ⟨rfl, rfl⟩) | (go_at_call 34; refine (Parent_nil _ _).mono ?_; rintro e w' ⟨rfl, rfl⟩))
  go_ret
  exact ⟨rfl, by repeat (first | exact Ext.refl _ | refine Ext.alloc ?_ _)⟩
set_option maxRecDepth 100000 in
set_option maxHeartbeats 1000000 in
theorem Attrs_nil (a : Int) (w : World) : Calls Try.prog 47 #[.pointer none, .int .i64 a] w (RVal (.slice none 0 0) w) := by
  go_enter Try.func47, Try.ntmps47
  go_wp2_with (go_at_call 80; refine (get_nil _ _).mono ?_; rintro e w' ⟨rfl, rfl⟩)
  go_ret
  exact ⟨rfl, by repeat (first | exact Ext.refl _ | refine Ext.alloc ?_ _)⟩
set_option maxRecDepth 100000 in
set_option maxHeartbeats 1000000 in
theorem Kids_nil (a : Int) (w : World) : Calls Try.prog 49 #[.pointer none, .int .i64 a] w (RVal (.slice none 0 0) w) := by
  go_enter Try.func49, Try.ntmps49
  go_wp2_with (go_at_call 80; refine (get_nil _ _).mono ?_; rintro e w' ⟨rfl, rfl⟩)
  go_ret
  exact ⟨rfl, by repeat (first | exact Ext.refl _ | refine Ext.alloc ?_ _)⟩
set_option maxRecDepth 100000 in
set_option maxHeartbeats 1000000 in
theorem SetText_nil (a : Int) (s : ByteArray) (hs : s.size ≤ 100000) (w : World) : Calls Try.prog 23 #[.pointer none, .int .i64 a, .string s] w (RVal (.int .i64 1) w) := by
  have H := Lib.hid hs
  clear hs
  go_enter Try.func23, Try.ntmps23
  go_wp2_with (first | (go_at_call 80; refine (get_nil _ _).mono ?_; rintro e w' ⟨rfl, rfl⟩) | (go_at_call 87; refine (anew_any _ H.out _).mono ?_; rintro e w' ⟨rfl, hx⟩))
  go_ret
  exact ⟨rfl, hx⟩
set_option maxRecDepth 100000 in
set_option maxHeartbeats 1000000 in
theorem Copy_nil (w : World) : Calls Try.prog 20 #[.pointer none] w (RVal (.pointer none) w) := by
  go_enter Try.func20, Try.ntmps20
  go_wp2
  go_ret
  exact ⟨rfl, by repeat (first | exact Ext.refl _ | refine Ext.alloc ?_ _)⟩
set_option maxRecDepth 100000 in
set_option maxHeartbeats 1000000 in
theorem Graft_nil (a b : Int) (x y z u : Value) (w : World) : Calls Try.prog 31 #[.pointer none, .int .i64 a, .int .i64 b, .agg #[x, y, z, u]] w (RTwo (.int .i64 0) (.int .i64 1) w) := by
  go_enter Try.func31, Try.ntmps31
  go_wp2_with (go_at_call 80; refine (get_nil _ _).mono ?_; rintro e w' ⟨rfl, rfl⟩)
  go_ret2
  exact ⟨rfl, by repeat (first | exact Ext.refl _ | refine Ext.alloc ?_ _)⟩
/-- the plain tree that is none -/
abbrev noNode : Value := .agg #[.int .i64 0, .slice none 0 0, .string ByteArray.empty, .slice none 0 0]
set_option maxRecDepth 100000 in
set_option maxHeartbeats 1000000 in
theorem Plain_nil (a : Int) (w : World) : Calls Try.prog 18 #[.pointer none, .int .i64 a] w (RVal noNode w) := by
  go_enter Try.func18, Try.ntmps18
  go_wp2_with (go_at_call 80; refine (get_nil _ _).mono ?_; rintro e w' ⟨rfl, rfl⟩)
  refine bodyPost_ret (v := noNode) (by simp [results, Try.results18, go_sem]; rfl) rfl ⟨rfl, ?_⟩
  repeat (first | exact Ext.refl _ | refine Ext.alloc ?_ _)
set_option maxRecDepth 100000 in
set_option maxHeartbeats 1000000 in
theorem SameAttrs_none (w : World) : Calls Try.prog 89 #[.slice none 0 0, .slice none 0 0] w (RVal (.bool true) w) := by
  go_enter Try.func89, Try.ntmps89
  go_wp2
  go_loop [5] (fun n => n = .int .i64 0) (fun _ => 0)
  case atStart => rfl
  case round =>
    obtain rfl := hrel
    go_wp2
    go_ret
    exact ⟨rfl, Ext.refl _⟩
set_option maxRecDepth 100000 in
set_option maxHeartbeats 1000000 in
theorem SameNode_none (w : World) : Calls Try.prog 26 #[noNode, noNode] w (RVal (.bool true) w) := by
  go_enter Try.func26, Try.ntmps26
  go_wp2_with fail
  refine (SameAttrs_none _).mono ?_
  rintro e w1 ⟨rfl, hx⟩
  have c0 := hx.cell (b := w.heap.size) (o := 3) (v := .slice none 0 0) (by simp [go_sem])
  have c1 := hx.cell (b := w.heap.size + 1) (o := 3) (v := .slice none 0 0) (by simp [go_sem])
  have x1 : Ext w w1 := (((Ext.refl w).alloc _).alloc _).trans hx
  clear hx
  go_wp2_with fail
  go_loop [5] (fun n => n = .int .i64 0) (fun _ => 0)
  case atStart => rfl
  case round =>
    obtain rfl := hrel
    go_wp2
    go_ret
    exact ⟨rfl, x1⟩
end Go.Proofs.Ytiglflmjidikpaa

namespace Go.Proofs.Ytiglflmjidikpaa
open Go Go.RowKit Go.BigFrame
set_option linter.unusedVariables false
set_option linter.unusedSimpArgs false

/-- a row of kids has been made anew or written in place, and stored into its node -/
theorem kids_plain {w W w3 : World} {own0 own : Ow} {ptr : Nat → Nat} {tb : Nat} {T : Tr} (h0 : Step own0 w own W) (hT : TreeAt W own ptr tb T) {p : Nat} {pd : Nd} (hp : T.nodes[p]? = some (some pd)) (ks : List Int)
    (hpw : ptr p < w.heap.size → own0 (ptr p) ≠ none) (h00 : ∀ b, b < w.heap.size → own b = some (4, p) → own0 b ≠ none)
    {v : Value} {row : Option Nat} (hr : RowP w3 (fun g => own g = some (4, p) ∨ W.heap.size ≤ g) 3 1 v ks.length (ks.map (Value.int .i64))) (hg : W.grownBy w3 row) (hrow : ∀ k, row = some k → own k = some (4, p)) :
    ∃ own1, Step own0 w own1 (w3.setCell ⟨ptr p, 3, none⟩ v) ∧ TreeAt (w3.setCell ⟨ptr p, 3, none⟩ v) own1 ptr tb { T with nodes := T.nodes.set p (some { pd with kids := ks }) } ∧ (∀ b x, own b = some x → own1 b = some x) := by
  have hO := h0.owned
  obtain ⟨av, kv, b1, b2, b3, b4⟩ := hT.node p pd hp
  have hsz := hg.size
  -- the row's own block
  obtain ⟨rb, hr1, hr2⟩ : ∃ rb : Option Nat, RowP w3 (fun g => rb = some g) 3 1 v ks.length (ks.map (Value.int .i64)) ∧ ∀ k, rb = some k → (own k = some (4, p) ∨ W.heap.size ≤ k) ∧ k < w3.heap.size := by
    rcases hr.2 with q | ⟨g, cap, cur, q1, q2, q3, q4⟩
    · exact ⟨none, ⟨hr.1, .inl q⟩, fun k hk => by cases hk⟩
    · exact ⟨some g, ⟨hr.1, .inr ⟨g, cap, cur, q1, rfl, q3, q4⟩⟩, fun k hk => by cases hk; exact ⟨q2, (Array.getElem?_eq_some_iff.1 q3).1⟩⟩
  let own1 : Ow := fun b => if b < W.heap.size then own b else if rb = some b then some (4, p) else none
  have e1 : ∀ b, b < W.heap.size → own1 b = own b := fun b hb => if_pos hb
  have e2 : ∀ b x, own b = some x → own1 b = some x := fun b x hb => (e1 b (hO b (by simp [hb]))).trans hb
  have hpl := hO (ptr p) (by simp [b2])
  have keep : ∀ b x, own b = some x → x ≠ (4, p) → w3.heap[b]? = W.heap[b]? := fun b x hb hx =>
    hg.block b (hO b (by simp [hb])) (fun h => by have := hrow b h.symm; rw [hb] at this; exact hx (Option.some.inj this))
  have hb3 : w3.heap[ptr p]? = _ := (keep _ _ b2 (by simp)).trans b1
  have other : ∀ b x, own b = some x → x ≠ (4, p) → b ≠ ptr p → (w3.setCell ⟨ptr p, 3, none⟩ v).heap[b]? = W.heap[b]? := fun b x hb hx hn =>
    (heap_setCell_other _ hn).trans (keep b x hb hx)
  refine ⟨own1, ?_, ?_, e2⟩
  · have hst : Step own0 w own1 w3 := by
      refine ⟨hg.os.trans h0.os, hg.tape.trans h0.tape, hg.output.trans h0.output, Nat.le_trans h0.size hg.size, fun b hb hn => ?_, fun b hb => (e1 b (Nat.lt_of_lt_of_le hb h0.size)).trans (h0.same b hb), fun b hb => ?_⟩
      · rw [hg.block b (Nat.lt_of_lt_of_le hb h0.size) (fun h => h00 b hb (hrow b h.symm) hn)]
        exact h0.rest b hb hn
      · have hb' : (if b < W.heap.size then own b else if rb = some b then some (4, p) else none) ≠ none := hb
        split at hb'
        · omega
        · split at hb'
          · rename_i h; exact (hr2 b h).2
          · exact absurd rfl hb'
    exact hst.setCell hpw _
  · refine hT.setNode (nd' := { pd with kids := ks }) hp ⟨av, v, by rw [heap_setCell_same hb3]; rfl, e2 _ _ b2, ?_, ?_⟩ ?_
    · exact RowP.move b3 fun g hg' => ⟨other g _ hg' (by simp) (fun e => by rw [e, b2] at hg'; cases hg'), e2 g _ hg'⟩
    · refine RowP.move hr1 fun g hg' => ?_
      obtain ⟨k1, k2⟩ := hr2 g hg'
      have hne : g ≠ ptr p := fun e => by
        rcases k1 with k1 | k1
        · rw [e, b2] at k1; cases k1
        · omega
      refine ⟨heap_setCell_other _ hne, ?_⟩
      show (if g < W.heap.size then _ else _) = _
      rcases k1 with k1 | k1
      · rw [if_pos (hO g (by simp [k1]))]; exact k1
      · rw [if_neg (by omega), if_pos hg']
    · intro b x hb hx
      have hx4 : x ≠ (4, p) := fun e => by rw [e] at hx; exact hx (by simp) rfl
      have hbp : b ≠ ptr p := fun e => by rw [e, b2] at hb; cases hb; exact hx (by simp) rfl
      exact ⟨other b x hb hx4 hbp, (e2 b x hb).trans hb.symm⟩
/-- a node's parent is stored -/
theorem TreeAt.setParent {w : World} {own : Ow} {ptr : Nat → Nat} {tb : Nat} {T : Tr} (hT : TreeAt w own ptr tb T) {k : Nat} {kd : Nd} (hk : T.nodes[k]? = some (some kd)) (q : Int) :
    TreeAt (w.setCell ⟨ptr k, 4, none⟩ (.int .i64 q)) own ptr tb { T with nodes := T.nodes.set k (some { kd with parent := q }) } := by
  obtain ⟨av, kv, b1, b2, b3, b4⟩ := hT.node k kd hk
  have other : ∀ b x, own b = some x → b ≠ ptr k → (w.setCell ⟨ptr k, 4, none⟩ (.int .i64 q)).heap[b]? = w.heap[b]? := fun b x hb hn => heap_setCell_other _ hn
  refine hT.setNode (nd' := { kd with parent := q }) hk ⟨av, kv, by rw [heap_setCell_same b1]; rfl, b2, RowP.move b3 fun g hg => ⟨other g _ hg (fun e => by rw [e, b2] at hg; cases hg), hg⟩, RowP.move b4 fun g hg => ⟨other g _ hg (fun e => by rw [e, b2] at hg; cases hg), hg⟩⟩ ?_
  intro b x hb hx
  exact ⟨other b x hb (fun e => by rw [e, b2] at hb; cases hb; exact hx (by simp) rfl), rfl⟩
/-- an error's number is answered, the tree is another -/
def ErrAfter (own : Ow) (w : World) (tb : Nat) (er : Int) (T' : Tr) (e : Ending) (w' : World) : Prop := e = .returned (.int .i64 er) ∧ After own w tb T' w'
/-- the tree behind an insert -/
def Tr.link (T : Tr) (p at' k : Nat) (pd kd : Nd) : Tr :=
  { T with nodes := (T.nodes.set p (some { pd with kids := pd.kids.take at' ++ [(k : Int)] ++ pd.kids.drop at' })).set k (some { kd with parent := p }) }
/-- what slices.Insert must be known to do -/
def InsertsAt (at' : Nat) (l : List Int) : Prop := ∀ (W : World) (p : Nat → Prop) (v : Value) (b : Nat) (x : Int), RowP W p 3 1 v l.length (l.map (Value.int .i64)) → l.length ≤ 60000 → at' ≤ l.length → W.heap[b]? = some (.cells #[.int .i64 x] 3 (0, 0)) → (¬ p b) →
  Calls Try.prog 84 #[v, .int .i64 at', .slice (some ⟨b, 0, none⟩) 1 1] W (RIns p W (l.length + 1) ((l.take at' ++ [x] ++ l.drop at').map (Value.int .i64)))

set_option maxRecDepth 100000 in
set_option maxHeartbeats 4000000 in
theorem Insert_deep {w : World} {own : Ow} {ptr : Nat → Nat} {tb : Nat} {T : Tr} (hT : TreeAt w own ptr tb T) (hO : Owned own w) {d : Nat → Nat} (hw : WF T d) {p k at' : Nat} {pd kd : Nd} (hp : T.nodes[p]? = some (some pd)) (hk : T.nodes[k]? = some (some kd))
    (htag : (pd.tag == 0) = false) (hk0 : k ≠ 0) (hpar : kd.parent = -1) (hat : at' ≤ pd.kids.length) (hkl : pd.kids.length ≤ 60000) (hin : T.within p k = false) (hdp : T.deep < (d p : Int) + 1 + T.hgt 50 k) :
    Calls Try.prog 21 #[.pointer (some ⟨tb, 0, none⟩), .int .i64 p, .int .i64 at', .int .i64 k] w (RVal (.int .i64 4) w) := by
  obtain ⟨avp, kvp, bp, _, _, hkp⟩ := hT.node p pd hp
  obtain ⟨avk, kvk, bk, _, _, _⟩ := hT.node k kd hk
  obtain ⟨nv, hb, _, _⟩ := hT.head
  obtain ⟨ka, kcap, rfl, kc1, kc2⟩ := hkp.len
  have cp0 := cellOf bp (i := 0) (v := .int .i64 pd.tag) rfl
  have cp3 := cellOf bp (i := 3) (v := .slice ka pd.kids.length kcap) rfl
  have ck4 := cellOf bk (i := 4) (v := .int .i64 (-1)) (by rw [← hpar]; rfl)
  have ct1 := cellOf hb (i := 1) (v := .int .i64 T.deep) rfl
  have hkb : ((k : Int) == 0) = false := by simp; omega
  have hpb : (p : Int) ≤ 2000 := by have := (List.getElem?_eq_some_iff.1 hp).1; have := hw.small.len; omega
  obtain ⟨hh1, hh2⟩ := T.hgt_le 50 k
  have hd1 := hw.deep p pd hp
  have hd2 := hw.small.deep1
  have hh : Calls Try.prog 50 #[.pointer (some ⟨tb, 0, none⟩), .int .i64 k] w (RSame (.int .i64 (T.hgt 50 k)) w) := Height_fuel hT hw 50 k kd hk (by omega) (by omega)
  clear hh
  have HP := Lib.hid (Tr.get_of hp)
  have HK := Lib.hid (Tr.get_of hk)
  have HNP := Lib.hid hp
  have HNK := Lib.hid hk
  have HW := Lib.hid hw
  have HT := Lib.hid hT
  have HO := Lib.hid hO
  have HIN := Lib.hid hin
  have ct1' := fun u : ExtOf w => u.ext.cell ct1
  clear hp hk hw hT hO hin bp bk hb hkp hpar hk0 kc2
  go_enter Try.func21, Try.ntmps21
  go_wp2_with fail
  refine (get_some HT.out HP.out).mono ?_
  rintro e w' ⟨rfl, rfl⟩
  go_wp2_with fail
  refine (get_some HT.out HK.out).mono ?_
  rintro e w' ⟨rfl, rfl⟩
  go_wp2_with fail
  refine (within_any HT.out HW.out HNP.out (by omega)).mono ?_
  rintro e w' ⟨rfl, rfl⟩
  rw [HIN.out]
  go_wp2_with fail
  refine wp_region_ext (by kernel_rfl) (by kernel_rfl) ?_
  repeat (go_big_quiet_step (first
    | (go_at_call 36; exact inExt (RSame.val (Depth_some (HT.out.keep (ExtOf.ext _ |>.keep HO.out)) HW.out HNP.out)))
    | (go_at_call 50; exact inExt (RSame.val (Height_fuel (HT.out.keep (ExtOf.ext _ |>.keep HO.out)) HW.out 50 k kd HNK.out (by omega) (by omega))))))
  refine wpQuiet_nil ?_
  rintro _ ⟨u, rfl⟩
  go_wp2
  go_ret
  exact ⟨rfl, u.ext⟩
end Go.Proofs.Ytiglflmjidikpaa

namespace Go.Proofs.Ytiglflmjidikpaa
open Go Go.RowKit Go.BigFrame
set_option linter.unusedVariables false
set_option linter.unusedSimpArgs false

def Tr.set2 (T : Tr) (p k : Nat) (pd kd : Nd) : Tr := { T with nodes := (T.nodes.set p (some pd)).set k (some kd) }
theorem Tr.set2_get {T : Tr} {p k : Nat} {pd kd pd' kd' : Nd} (hp : T.nodes[p]? = some (some pd)) (hk : T.nodes[k]? = some (some kd)) (j : Nat) :
    (T.set2 p k pd' kd').nodes[j]? = if j = k then some (some kd') else if j = p then some (some pd') else T.nodes[j]? := by
  have hpl := (List.getElem?_eq_some_iff.1 hp).1
  have hkl := (List.getElem?_eq_some_iff.1 hk).1
  show ((T.nodes.set p (some pd')).set k (some kd'))[j]? = _
  rw [List.getElem?_set]
  by_cases h1 : k = j
  · rw [if_pos h1, if_pos h1.symm, if_pos (by rw [List.length_set]; exact hkl)]
  · rw [if_neg h1, if_neg (Ne.symm h1), List.getElem?_set]
    by_cases h2 : p = j
    · rw [if_pos h2, if_pos h2.symm, if_pos hpl]
    · rw [if_neg h2, if_neg (Ne.symm h2)]
theorem countP_set_some {l : List (Option Nd)} {p : Nat} {pd pd' : Nd} (hp : l[p]? = some (some pd)) : (l.set p (some pd')).countP Option.isSome = l.countP Option.isSome := by
  obtain ⟨hlt, he⟩ := List.getElem?_eq_some_iff.1 hp
  have hpos : 0 < l.countP Option.isSome := List.countP_pos_iff.2 ⟨some pd, by rw [← he]; exact List.getElem_mem hlt, rfl⟩
  rw [List.countP_set hlt, he]
  simp
  omega
theorem Tr.set2_count {T : Tr} {p k : Nat} {pd kd pd' kd' : Nd} (hp : T.nodes[p]? = some (some pd)) (hk : T.nodes[k]? = some (some kd)) (hpk : p ≠ k) :
    (T.set2 p k pd' kd').nodes.countP Option.isSome = T.nodes.countP Option.isSome := by
  have h2 : (T.nodes.set p (some pd'))[k]? = some (some kd) := by rw [List.getElem?_set, if_neg hpk]; exact hk
  show ((T.nodes.set p (some pd')).set k (some kd')).countP Option.isSome = _
  rw [countP_set_some h2, countP_set_some hp]
theorem some_inj2 {x : Option (Option Nd)} {a b : Nd} (h : x = some (some a)) (k : x = some (some b)) : a = b := by
  rw [h] at k; injection k with k; injection k

theorem Tr.link_eq (T : Tr) (p at' k : Nat) (pd kd : Nd) : T.link p at' k pd kd = T.set2 p k { pd with kids := pd.kids.take at' ++ [(k : Int)] ++ pd.kids.drop at' } { kd with parent := p } := rfl
theorem WF.link {T : Tr} {d : Nat → Nat} (hw : WF T d) {p k at' : Nat} {pd kd : Nd} (hp : T.nodes[p]? = some (some pd)) (hk : T.nodes[k]? = some (some kd))
    (htag : pd.tag ≠ 0) (hk0 : k ≠ 0) (hpar : kd.parent = -1) (hin : T.within p k = false) (hdp : (d p : Int) + 1 + T.height k ≤ T.deep) :
    WF (T.link p at' k pd kd) (fun j => if T.within j k then d j + d p + 1 else d j) := by
  have hpk : p ≠ k := fun e => by subst e; rw [hw.within_self hp] at hin; cases hin
  have hg := fun j => Tr.set2_get (pd' := { pd with kids := pd.kids.take at' ++ [(k : Int)] ++ pd.kids.drop at' }) (kd' := { kd with parent := p }) hp hk j
  have hck := Tr.set2_count (pd' := { pd with kids := pd.kids.take at' ++ [(k : Int)] ++ pd.kids.drop at' }) (kd' := { kd with parent := p }) hp hk hpk
  rw [← Tr.link_eq] at hg hck
  have hmem : ∀ x : Int, x ∈ pd.kids.take at' ++ [(k : Int)] ++ pd.kids.drop at' ↔ x = k ∨ x ∈ pd.kids := fun x => by
    conv => rhs; rw [← List.take_append_drop at' pd.kids]
    simp only [List.mem_append, List.mem_singleton]
    constructor
    · rintro ((h | h) | h)
      · exact .inr (.inl h)
      · exact .inl h
      · exact .inr (.inr h)
    · rintro (h | h | h)
      · exact .inl (.inr h)
      · exact .inl (.inl h)
      · exact .inr h
  have hdk : d k = 0 := by
    rcases hw.up k kd hk with ⟨h3, h4⟩ | ⟨q, qd, h3, h4, h5, h6⟩
    · exact h4
    · omega
  have hkk := hw.within_self hk
  have hknot : (k : Int) ∉ pd.kids := fun h => by
    have := hw.kid_parent hp h hk; omega
  have wst : ∀ (j : Nat) (nd : Nd), T.nodes[j]? = some (some nd) → j ≠ k → T.within j k = T.within nd.parent k := fun j nd h hne => by
    rw [hw.within_step h, if_neg (by omega)]
  -- old nodes stand where they stood
  have hkeep : ∀ (j : Nat) (jd : Nd), T.nodes[j]? = some (some jd) → ∃ jd', (T.link p at' k pd kd).nodes[j]? = some (some jd') ∧ (j ≠ k → jd'.parent = jd.parent) ∧ (∀ x ∈ jd.kids, x ∈ jd'.kids) := fun j jd h => by
    rw [hg]
    by_cases h1 : j = k
    · subst h1
      rw [if_pos rfl]
      obtain rfl := some_inj2 hk h
      exact ⟨_, rfl, fun h => absurd rfl h, fun x hx => hx⟩
    · rw [if_neg h1]
      by_cases h2 : j = p
      · subst h2
        rw [if_pos rfl]
        obtain rfl := some_inj2 hp h
        exact ⟨_, rfl, fun _ => rfl, fun x hx => (hmem x).2 (.inr hx)⟩
      · rw [if_neg h2]
        exact ⟨jd, h, fun _ => rfl, fun x hx => hx⟩
  have hcap : (T.link p at' k pd kd).cap = T.cap := rfl
  have hdeep : (T.link p at' k pd kd).deep = T.deep := rfl
  have hcount : (T.link p at' k pd kd).count = T.count := rfl
  have hs := hw.small
  refine ⟨⟨hs.cap0, hs.cap1, hs.deep0, hs.deep1, hs.count0, hs.count1, by show ((T.nodes.set p _).set k _).length ≤ 2000; rw [List.length_set, List.length_set]; exact hs.len⟩, ?_, ?_, ?_, ?_, ?_, ?_⟩
  · obtain ⟨r, r1, r2, r3⟩ := hw.root
    rw [hg, if_neg (Ne.symm hk0)]
    by_cases h0 : 0 = p
    · rw [if_pos h0]
      rw [h0] at r1
      obtain rfl := some_inj2 hp r1
      exact ⟨_, rfl, r2, r3⟩
    · rw [if_neg h0]; exact ⟨r, r1, r2, r3⟩
  · intro j nd h
    rw [hg] at h
    have hj : ∃ jd, T.nodes[j]? = some (some jd) := by
      by_cases h1 : j = k
      · exact ⟨kd, h1 ▸ hk⟩
      · rw [if_neg h1] at h
        by_cases h2 : j = p
        · exact ⟨pd, h2 ▸ hp⟩
        · rw [if_neg h2] at h; exact ⟨nd, h⟩
    obtain ⟨jd, hj⟩ := hj
    show (((if T.within j k then d j + d p + 1 else d j : Nat)) : Int) ≤ T.deep
    by_cases hwk : T.within j k = true
    · rw [if_pos hwk]
      have h1 := hw.depth_le hk j jd hj hwk
      have h2 : 0 ≤ T.height j := hgt_nn T 50 hj
      push_cast
      omega
    · rw [if_neg hwk]; exact hw.deep j jd hj
  · intro j nd h
    rw [hg] at h
    by_cases h1 : j = k
    · rw [if_pos h1] at h
      subst h1
      obtain rfl := some_inj2 rfl h
      right
      refine ⟨p, _, rfl, by rw [hg, if_neg hpk, if_pos rfl], ?_, (hmem _).2 (.inl rfl)⟩
      rw [if_pos hkk, if_neg (by rw [hin]; decide)]
      omega
    · rw [if_neg h1] at h
      -- an old node: j
      have hold : ∃ jd, T.nodes[j]? = some (some jd) ∧ nd.parent = jd.parent := by
        by_cases h2 : j = p
        · rw [if_pos h2] at h
          obtain rfl := some_inj2 rfl h
          exact ⟨pd, h2 ▸ hp, rfl⟩
        · rw [if_neg h2] at h; exact ⟨nd, h, rfl⟩
      obtain ⟨jd, hj, hpe⟩ := hold
      have hst := wst j jd hj h1
      rcases hw.up j jd hj with ⟨h3, h4⟩ | ⟨q, qd, h3, h4, h5, h6⟩
      · left
        rw [h3, within_neg] at hst
        exact ⟨by rw [hpe, h3], by rw [if_neg (by rw [hst]; decide)]; exact h4⟩
      · right
        obtain ⟨qd', k1, k2, k3⟩ := hkeep q qd h4
        refine ⟨q, qd', by rw [hpe, h3], k1, ?_, k3 _ h6⟩
        rw [h3] at hst
        rw [hst]
        split <;> omega
  · intro i nd h
    have hkid : ∀ (x : Int) (i : Nat) (id' : Nd), T.nodes[i]? = some (some id') → x ∈ id'.kids → ∃ (j : Nat) (jd : Nd), x = (j : Int) ∧ (T.link p at' k pd kd).nodes[j]? = some (some jd) ∧ jd.parent = (i : Int) := fun x i id' hi hx => by
      obtain ⟨j, jd, rfl, hj, hjp⟩ := (hw.kids i id' hi).2 x hx
      obtain ⟨jd', k1, k2, k3⟩ := hkeep j jd hj
      refine ⟨j, jd', rfl, k1, (k2 fun e => ?_).trans hjp⟩
      subst e
      obtain rfl := some_inj2 hk hj
      omega
    rw [hg] at h
    by_cases h1 : i = k
    · rw [if_pos h1] at h
      subst h1
      obtain rfl := some_inj2 rfl h
      exact ⟨(hw.kids i kd hk).1, fun x hx => hkid x i kd hk hx⟩
    · rw [if_neg h1] at h
      by_cases h2 : i = p
      · rw [if_pos h2] at h
        subst h2
        obtain rfl := some_inj2 rfl h
        refine ⟨?_, fun x hx => ?_⟩
        · have hn := (hw.kids i pd hp).1
          rw [← List.take_append_drop at' pd.kids, List.nodup_append] at hn
          have e : pd.kids.take at' ++ [(k : Int)] ++ pd.kids.drop at' = pd.kids.take at' ++ ((k : Int) :: pd.kids.drop at') := by simp
          show (pd.kids.take at' ++ [(k : Int)] ++ pd.kids.drop at').Nodup
          rw [e, List.nodup_append]
          refine ⟨hn.1, List.nodup_cons.2 ⟨fun h => hknot (List.mem_of_mem_drop h), hn.2.1⟩, fun a ha b hb => ?_⟩
          rcases List.mem_cons.1 hb with rfl | hb
          · exact fun e => hknot (e ▸ List.mem_of_mem_take ha)
          · exact hn.2.2 a ha b hb
        · rcases (hmem x).1 hx with rfl | hx
          · exact ⟨k, _, rfl, by rw [hg, if_pos rfl], rfl⟩
          · exact hkid x i pd hp hx
      · rw [if_neg h2] at h
        exact ⟨(hw.kids i nd h).1, fun x hx => hkid x i nd h hx⟩
  · intro i nd h
    rw [hg] at h
    by_cases h1 : i = k
    · rw [if_pos h1] at h
      obtain rfl := some_inj2 rfl h
      exact hw.text k kd hk
    · rw [if_neg h1] at h
      by_cases h2 : i = p
      · rw [if_pos h2] at h
        obtain rfl := some_inj2 rfl h
        have := hw.text p pd hp
        exact ⟨this.1, this.2.1, fun h => absurd h htag⟩
      · rw [if_neg h2] at h; exact hw.text i nd h
  · rw [hcount, hck]; exact hw.count

/-- the tree behind a removal -/
def Tr.unlink (T : Tr) (p k : Nat) (pd kd : Nd) : Tr := T.set2 p k { pd with kids := pd.kids.erase (k : Int) } { kd with parent := -1 }
theorem WF.unlink {T : Tr} {d : Nat → Nat} (hw : WF T d) {p k : Nat} {pd kd : Nd} (hp : T.nodes[p]? = some (some pd)) (hk : T.nodes[k]? = some (some kd)) (hpar : kd.parent = (p : Int)) :
    WF (T.unlink p k pd kd) (fun j => if T.within j k then d j - d k else d j) := by
  have hdk : d k = d p + 1 ∧ (k : Int) ∈ pd.kids := by
    rcases hw.up k kd hk with ⟨h3, h4⟩ | ⟨q, qd, h3, h4, h5, h6⟩
    · omega
    · obtain rfl : q = p := by omega
      obtain rfl := some_inj2 hp h4
      exact ⟨h5, h6⟩
  have hpk : p ≠ k := fun e => by subst e; omega
  have hk0 : k ≠ 0 := fun e => by
    subst e
    obtain ⟨r, r1, r2, r3⟩ := hw.root
    obtain rfl := some_inj2 hk r1
    omega
  have hin : T.within p k = false := by
    cases hh : T.within p k with
    | false => rfl
    | true => have := (hw.within_depth p pd hp hh).1; omega
  have hg := fun j => Tr.set2_get (pd' := { pd with kids := pd.kids.erase (k : Int) }) (kd' := { kd with parent := -1 }) hp hk j
  have hck := Tr.set2_count (pd' := { pd with kids := pd.kids.erase (k : Int) }) (kd' := { kd with parent := -1 }) hp hk hpk
  have hnd := (hw.kids p pd hp).1
  have hmem : ∀ x : Int, x ∈ pd.kids.erase (k : Int) ↔ x ≠ k ∧ x ∈ pd.kids := fun x => hnd.mem_erase_iff
  have hkk := hw.within_self hk
  have wst : ∀ (j : Nat) (nd : Nd), T.nodes[j]? = some (some nd) → j ≠ k → T.within j k = T.within nd.parent k := fun j nd h hne => by
    rw [hw.within_step h, if_neg (by omega)]
  have hkeep : ∀ (j : Nat) (jd : Nd), T.nodes[j]? = some (some jd) → ∃ jd', (T.unlink p k pd kd).nodes[j]? = some (some jd') ∧ (j ≠ k → jd'.parent = jd.parent) ∧ (∀ x ∈ jd.kids, x ≠ k → x ∈ jd'.kids) := fun j jd h => by
    show ∃ jd', (T.set2 p k _ _).nodes[j]? = _ ∧ _
    rw [hg]
    by_cases h1 : j = k
    · subst h1
      rw [if_pos rfl]
      obtain rfl := some_inj2 hk h
      exact ⟨_, rfl, fun h => absurd rfl h, fun x hx _ => hx⟩
    · rw [if_neg h1]
      by_cases h2 : j = p
      · subst h2
        rw [if_pos rfl]
        obtain rfl := some_inj2 hp h
        exact ⟨_, rfl, fun _ => rfl, fun x hx hne => (hmem x).2 ⟨hne, hx⟩⟩
      · rw [if_neg h2]
        exact ⟨jd, h, fun _ => rfl, fun x hx _ => hx⟩
  have hs := hw.small
  have hg' : ∀ j, (T.unlink p k pd kd).nodes[j]? = if j = k then some (some { kd with parent := -1 }) else if j = p then some (some { pd with kids := pd.kids.erase (k : Int) }) else T.nodes[j]? := hg
  refine ⟨⟨hs.cap0, hs.cap1, hs.deep0, hs.deep1, hs.count0, hs.count1, by show ((T.nodes.set p _).set k _).length ≤ 2000; rw [List.length_set, List.length_set]; exact hs.len⟩, ?_, ?_, ?_, ?_, ?_, ?_⟩
  · obtain ⟨r, r1, r2, r3⟩ := hw.root
    rw [hg', if_neg (Ne.symm hk0)]
    by_cases h0 : 0 = p
    · rw [if_pos h0]
      rw [h0] at r1
      obtain rfl := some_inj2 hp r1
      exact ⟨_, rfl, r2, r3⟩
    · rw [if_neg h0]; exact ⟨r, r1, r2, r3⟩
  · intro j nd h
    rw [hg'] at h
    have hj : ∃ jd, T.nodes[j]? = some (some jd) := by
      by_cases h1 : j = k
      · exact ⟨kd, h1 ▸ hk⟩
      · rw [if_neg h1] at h
        by_cases h2 : j = p
        · exact ⟨pd, h2 ▸ hp⟩
        · rw [if_neg h2] at h; exact ⟨nd, h⟩
    obtain ⟨jd, hj⟩ := hj
    have h1 := hw.deep j jd hj
    show (((if T.within j k then d j - d k else d j : Nat)) : Int) ≤ T.deep
    split <;> omega
  · intro j nd h
    rw [hg'] at h
    by_cases h1 : j = k
    · rw [if_pos h1] at h
      subst h1
      obtain rfl := some_inj2 rfl h
      left
      exact ⟨rfl, by rw [if_pos hkk]; omega⟩
    · rw [if_neg h1] at h
      have hold : ∃ jd, T.nodes[j]? = some (some jd) ∧ nd.parent = jd.parent := by
        by_cases h2 : j = p
        · rw [if_pos h2] at h
          obtain rfl := some_inj2 rfl h
          exact ⟨pd, h2 ▸ hp, rfl⟩
        · rw [if_neg h2] at h; exact ⟨nd, h, rfl⟩
      obtain ⟨jd, hj, hpe⟩ := hold
      have hst := wst j jd hj h1
      rcases hw.up j jd hj with ⟨h3, h4⟩ | ⟨q, qd, h3, h4, h5, h6⟩
      · left
        rw [h3, within_neg] at hst
        exact ⟨by rw [hpe, h3], by rw [if_neg (by rw [hst]; decide)]; exact h4⟩
      · right
        obtain ⟨qd', k1, k2, k3⟩ := hkeep q qd h4
        refine ⟨q, qd', by rw [hpe, h3], k1, ?_, k3 _ h6 (by omega)⟩
        rw [h3] at hst
        rw [hst]
        by_cases hq : T.within q k = true
        · have := (hw.within_depth q qd h4 hq).1
          rw [if_pos hq, if_pos hq]; omega
        · rw [if_neg hq, if_neg hq]; exact h5
  · intro i nd h
    have hkid : ∀ (x : Int) (i : Nat) (id' : Nd), T.nodes[i]? = some (some id') → x ∈ id'.kids → x ≠ k → ∃ (j : Nat) (jd : Nd), x = (j : Int) ∧ (T.unlink p k pd kd).nodes[j]? = some (some jd) ∧ jd.parent = (i : Int) := fun x i id' hi hx hxk => by
      obtain ⟨j, jd, rfl, hj, hjp⟩ := (hw.kids i id' hi).2 x hx
      obtain ⟨jd', k1, k2, k3⟩ := hkeep j jd hj
      exact ⟨j, jd', rfl, k1, (k2 fun e => hxk (by rw [e])).trans hjp⟩
    rw [hg'] at h
    by_cases h1 : i = k
    · rw [if_pos h1] at h
      subst h1
      obtain rfl := some_inj2 rfl h
      refine ⟨(hw.kids i kd hk).1, fun x hx => hkid x i kd hk hx fun e => ?_⟩
      have := hw.kid_parent hk (e ▸ hx) hk
      omega
    · rw [if_neg h1] at h
      by_cases h2 : i = p
      · rw [if_pos h2] at h
        subst h2
        obtain rfl := some_inj2 rfl h
        exact ⟨hnd.erase _, fun x hx => hkid x i pd hp ((hmem x).1 hx).2 ((hmem x).1 hx).1⟩
      · rw [if_neg h2] at h
        refine ⟨(hw.kids i nd h).1, fun x hx => hkid x i nd h hx fun e => ?_⟩
        have := hw.kid_parent h (e ▸ hx) hk
        omega
  · intro i nd h
    rw [hg'] at h
    by_cases h1 : i = k
    · rw [if_pos h1] at h
      obtain rfl := some_inj2 rfl h
      exact hw.text k kd hk
    · rw [if_neg h1] at h
      by_cases h2 : i = p
      · rw [if_pos h2] at h
        obtain rfl := some_inj2 rfl h
        have := hw.text p pd hp
        exact ⟨this.1, this.2.1, fun h => by rw [this.2.2 h]; rfl⟩
      · rw [if_neg h2] at h; exact hw.text i nd h
  · show T.count = _
    rw [hw.count]
    show _ = (((T.set2 p k _ _).nodes.countP Option.isSome : Nat) : Int)
    rw [hck]

/-- a node's own fields are others -/
theorem WF.setAt {T : Tr} {d : Nat → Nat} (hw : WF T d) {i : Nat} {nd nd' : Nd} (hi : T.nodes[i]? = some (some nd)) (hk : nd'.kids = nd.kids) (hp : nd'.parent = nd.parent) (h0 : 0 ≤ nd'.tag) (h1 : nd'.tag ≤ 16) (h2 : nd'.tag = 0 → nd.tag = 0) (h3 : i = 0 → nd'.tag = nd.tag) :
    WF { T with nodes := T.nodes.set i (some nd') } d := by
  have hil := (List.getElem?_eq_some_iff.1 hi).1
  have hg : ∀ j, (T.nodes.set i (some nd'))[j]? = if j = i then some (some nd') else T.nodes[j]? := fun j => by
    rw [List.getElem?_set]
    by_cases h : i = j
    · rw [if_pos h, if_pos h.symm, if_pos hil]
    · rw [if_neg h, if_neg (Ne.symm h)]
  have hkeep : ∀ (j : Nat) (jd : Nd), T.nodes[j]? = some (some jd) → ∃ jd', (T.nodes.set i (some nd'))[j]? = some (some jd') ∧ jd'.parent = jd.parent ∧ jd'.kids = jd.kids := fun j jd h => by
    rw [hg]
    by_cases e : j = i
    · subst e
      rw [if_pos rfl]
      obtain rfl := some_inj2 hi h
      exact ⟨_, rfl, hp, hk⟩
    · rw [if_neg e]; exact ⟨jd, h, rfl, rfl⟩
  have hback : ∀ (j : Nat) (jd' : Nd), (T.nodes.set i (some nd'))[j]? = some (some jd') → ∃ jd, T.nodes[j]? = some (some jd) ∧ jd'.parent = jd.parent ∧ jd'.kids = jd.kids := fun j jd' h => by
    rw [hg] at h
    by_cases e : j = i
    · subst e
      rw [if_pos rfl] at h
      obtain rfl := some_inj2 rfl h
      exact ⟨nd, hi, hp, hk⟩
    · rw [if_neg e] at h; exact ⟨jd', h, rfl, rfl⟩
  have hs := hw.small
  refine ⟨⟨hs.cap0, hs.cap1, hs.deep0, hs.deep1, hs.count0, hs.count1, by show (T.nodes.set i _).length ≤ 2000; rw [List.length_set]; exact hs.len⟩, ?_, ?_, ?_, ?_, ?_, ?_⟩
  · obtain ⟨r, r1, r2, r3⟩ := hw.root
    show ∃ nd, (T.nodes.set i (some nd'))[0]? = some (some nd) ∧ _
    rw [hg]
    by_cases e : 0 = i
    · rw [if_pos e]
      rw [e] at r1
      obtain rfl := some_inj2 hi r1
      exact ⟨_, rfl, hp.trans r2, (h3 e.symm).trans r3⟩
    · rw [if_neg e]; exact ⟨r, r1, r2, r3⟩
  · intro j jd' h
    obtain ⟨jd, hj, _⟩ := hback j jd' h
    exact hw.deep j jd hj
  · intro j jd' h
    obtain ⟨jd, hj, e1, e2⟩ := hback j jd' h
    rcases hw.up j jd hj with ⟨h3, h4⟩ | ⟨q, qd, h3, h4, h5, h6⟩
    · exact .inl ⟨e1.trans h3, h4⟩
    · obtain ⟨qd', k1, k2, k3⟩ := hkeep q qd h4
      exact .inr ⟨q, qd', e1.trans h3, k1, h5, k3 ▸ h6⟩
  · intro j jd' h
    obtain ⟨jd, hj, e1, e2⟩ := hback j jd' h
    rw [e2]
    refine ⟨(hw.kids j jd hj).1, fun x hx => ?_⟩
    obtain ⟨q, qd, rfl, q1, q2⟩ := (hw.kids j jd hj).2 x hx
    obtain ⟨qd', k1, k2, k3⟩ := hkeep q qd q1
    exact ⟨q, qd', rfl, k1, k2.trans q2⟩
  · intro j jd' h
    have h' : (T.nodes.set i (some nd'))[j]? = some (some jd') := h
    rw [hg] at h'
    by_cases e : j = i
    · rw [if_pos e] at h'
      obtain rfl := some_inj2 rfl h'
      have := hw.text i nd hi
      exact ⟨h0, h1, fun h => by rw [hk]; exact this.2.2 (h2 h)⟩
    · rw [if_neg e] at h'; exact hw.text j jd' h'
  · show T.count = (((T.nodes.set i (some nd')).countP Option.isSome : Nat) : Int)
    rw [countP_set_some hi]; exact hw.count
end Go.Proofs.Ytiglflmjidikpaa

namespace Go.Proofs.Ytiglflmjidikpaa
open Go Go.RowKit Go.BigFrame
set_option linter.unusedVariables false
set_option linter.unusedSimpArgs false

/-- who is within one of these, in the tree T -/
def Tr.inAny (T : Tr) (ks : List Int) (j : Nat) : Bool := ks.any fun k => T.within j k
/-- the nodes of T without those that q says -/
def Tr.rid (T : Tr) (q : Nat → Bool) : Tr :=
  let l := T.nodes.mapIdx fun j x => if q j then none else x
  { T with nodes := l, count := ((l.countP Option.isSome : Nat) : Int) }
theorem Tr.rid_get (T : Tr) (q : Nat → Bool) (j : Nat) : (T.rid q).nodes[j]? = (T.nodes[j]?).map fun x => if q j then none else x := by
  show (T.nodes.mapIdx _)[j]? = _
  rw [List.getElem?_mapIdx]
theorem Tr.rid_some {T : Tr} {q : Nat → Bool} {j : Nat} {nd : Nd} : (T.rid q).nodes[j]? = some (some nd) ↔ q j = false ∧ T.nodes[j]? = some (some nd) := by
  rw [Tr.rid_get]
  cases h : T.nodes[j]? with
  | none => simp
  | some x =>
    cases hq : q j with
    | true => simp
    | false => simp
theorem Tr.rid_none {T : Tr} (hc : T.count = ((T.nodes.countP Option.isSome : Nat) : Int)) : T.rid (fun _ => false) = T := by
  unfold Tr.rid
  have e : (T.nodes.mapIdx fun j x => if (fun _ : Nat => false) j then none else x) = T.nodes := by
    apply List.ext_getElem?
    intro j
    rw [List.getElem?_mapIdx]
    cases T.nodes[j]? <;> simp
  simp only [e]
  rw [← hc]
theorem Tr.rid_congr {T : Tr} {q q' : Nat → Bool} (h : ∀ (j : Nat) (nd : Nd), T.nodes[j]? = some (some nd) → q j = q' j) : T.rid q = T.rid q' := by
  unfold Tr.rid
  have e : (T.nodes.mapIdx fun j x => if q j then none else x) = (T.nodes.mapIdx fun j x => if q' j then none else x) := by
    apply List.ext_getElem?
    intro j
    rw [List.getElem?_mapIdx, List.getElem?_mapIdx]
    cases hx : T.nodes[j]? with
    | none => rfl
    | some x =>
      cases x with
      | none => simp
      | some nd => rw [h j nd hx]
  simp only [e]
theorem Tr.rid_len (T : Tr) (q : Nat → Bool) : (T.rid q).nodes.length = T.nodes.length := by
  show (T.nodes.mapIdx _).length = _
  exact List.length_mapIdx
theorem countP_set_none {l : List (Option Nd)} {p : Nat} {pd : Nd} (hp : l[p]? = some (some pd)) : (l.set p none).countP Option.isSome + 1 = l.countP Option.isSome := by
  obtain ⟨hlt, he⟩ := List.getElem?_eq_some_iff.1 hp
  have hpos : 0 < l.countP Option.isSome := List.countP_pos_iff.2 ⟨some pd, by rw [← he]; exact List.getElem_mem hlt, rfl⟩
  rw [List.countP_set hlt, he]
  simp
  omega
/-- one node more is none -/
theorem Tr.rid_set {T : Tr} {q : Nat → Bool} {i : Nat} {nd : Nd} (hi : T.nodes[i]? = some (some nd)) (hq : q i = false) :
    { T.rid q with nodes := (T.rid q).nodes.set i none, count := (T.rid q).count - 1 } = T.rid fun j => decide (j = i) || q j := by
  have hg : (T.rid q).nodes[i]? = some (some nd) := Tr.rid_some.2 ⟨hq, hi⟩
  have hil := (List.getElem?_eq_some_iff.1 hg).1
  have e : (T.rid q).nodes.set i none = (T.rid fun j => decide (j = i) || q j).nodes := by
    apply List.ext_getElem?
    intro j
    rw [List.getElem?_set, Tr.rid_get, Tr.rid_get]
    by_cases h : i = j
    · subst h
      rw [if_pos rfl, if_pos hil, hi]
      simp
    · rw [if_neg h]
      have : decide (j = i) = false := by simp; omega
      rw [this, Bool.false_or]
  have hc := countP_set_none hg
  show Tr.mk T.cap T.deep ((T.rid q).count - 1) ((T.rid q).nodes.set i none) = Tr.mk T.cap T.deep (T.rid _).count (T.rid fun j => decide (j = i) || q j).nodes
  rw [e] at hc ⊢
  have e2 : (T.rid q).count - 1 = (T.rid fun j => decide (j = i) || q j).count := by
    show (((T.rid q).nodes.countP Option.isSome : Nat) : Int) - 1 = (((T.rid fun j => decide (j = i) || q j).nodes.countP Option.isSome : Nat) : Int)
    omega
  rw [e2]
/-- a root's tree is dropped: the others stand as they stood -/
theorem WF.rid {T : Tr} {d : Nat → Nat} (hw : WF T d) {i : Nat} {nd : Nd} (hi : T.nodes[i]? = some (some nd)) (hp : nd.parent = -1) (h0 : i ≠ 0) : WF (T.rid fun j => T.within j i) d := by
  have hs := hw.small
  have hcle : (T.rid fun j => T.within j i).count ≤ T.count := by
    show (((T.rid fun j => T.within j i).nodes.countP Option.isSome : Nat) : Int) ≤ T.count
    rw [hw.count]
    have : (T.rid fun j => T.within j i).nodes.countP Option.isSome ≤ T.nodes.countP Option.isSome := by
      show (T.nodes.mapIdx fun j x => if T.within j i then none else x).countP Option.isSome ≤ _
      generalize T.nodes = l
      suffices h : ∀ (l : List (Option Nd)) (q : Nat → Bool), (l.mapIdx fun j x => if q j then none else x).countP Option.isSome ≤ l.countP Option.isSome from h l _
      intro l
      induction l with
      | nil => intro q; simp
      | cons x r ih =>
        intro q
        rw [List.mapIdx_cons, List.countP_cons, List.countP_cons]
        have := ih fun j => q (j + 1)
        have h2 : (if (if q 0 then none else x).isSome = true then 1 else 0) ≤ (if x.isSome = true then 1 else 0) := by
          cases q 0 <;> cases x <;> simp
        omega
    omega
  have hroot : T.within (0 : Nat) i = false := by
    obtain ⟨r, r1, r2, r3⟩ := hw.root
    rw [hw.within_root r1 r2]
    simp; omega
  refine ⟨⟨hs.cap0, hs.cap1, hs.deep0, hs.deep1, by show (0 : Int) ≤ ((_ : Nat) : Int); omega, by have := hs.count1; show (T.rid _).count ≤ T.cap; omega, by rw [Tr.rid_len]; exact hs.len⟩, ?_, ?_, ?_, ?_, ?_, rfl⟩
  · obtain ⟨r, r1, r2, r3⟩ := hw.root
    exact ⟨r, Tr.rid_some.2 ⟨hroot, r1⟩, r2, r3⟩
  · intro j jd h; exact hw.deep j jd (Tr.rid_some.1 h).2
  · intro j jd h
    obtain ⟨hq, hj⟩ := Tr.rid_some.1 h
    rcases hw.up j jd hj with h3 | ⟨p, pd, h3, h4, h5, h6⟩
    · exact .inl h3
    · right
      refine ⟨p, pd, h3, Tr.rid_some.2 ⟨?_, h4⟩, h5, h6⟩
      rw [hw.within_step hj, h3] at hq
      split at hq
      · cases hq
      · exact hq
  · intro j jd h
    obtain ⟨hq, hj⟩ := Tr.rid_some.1 h
    refine ⟨(hw.kids j jd hj).1, fun k hk => ?_⟩
    obtain ⟨m, kd, rfl, hm, hmp⟩ := (hw.kids j jd hj).2 k hk
    refine ⟨m, kd, rfl, Tr.rid_some.2 ⟨?_, hm⟩, hmp⟩
    show T.within m i = false
    rw [hw.within_step hm, hmp]
    split
    · rename_i e
      obtain rfl : m = i := by omega
      obtain rfl := some_inj2 hi hm
      omega
    · exact hq
  · intro j jd h; exact hw.text j jd (Tr.rid_some.1 h).2
/-- the kids of a node, one by one, and the node: all within it -/
theorem WF.inAny_kids {T : Tr} {d : Nat → Nat} (hw : WF T d) {i : Nat} {nd : Nd} (hi : T.nodes[i]? = some (some nd)) {j : Nat} {jd : Nd} (hj : T.nodes[j]? = some (some jd)) :
    (decide (j = i) || T.inAny nd.kids j) = T.within j i := by
  rw [Bool.eq_iff_iff]
  unfold Tr.inAny
  simp only [Bool.or_eq_true, decide_eq_true_eq, List.any_eq_true]
  constructor
  · rintro (rfl | ⟨k, hk, h⟩)
    · exact hw.within_self hi
    · exact hw.kid_within hi hk j jd hj h
  · intro h
    rcases hw.within_kid hi j jd hj h with h | ⟨k, hk, h⟩
    · exact .inl h
    · exact .inr ⟨k, hk, h⟩
/-- a later kid's tree is apart from those of earlier ones -/
theorem WF.kids_apart {T : Tr} {d : Nat → Nat} (hw : WF T d) {i : Nat} {nd : Nd} (hi : T.nodes[i]? = some (some nd)) {a b : Nat} (ha : (a : Int) ∈ nd.kids) (hb : (b : Int) ∈ nd.kids) (hab : a ≠ b) :
    ∀ (j : Nat) (jd : Nd), T.nodes[j]? = some (some jd) → T.within j a = true → T.within j b = true → False := by
  obtain ⟨_, ad, ea, had, hap⟩ := (hw.kids i nd hi).2 _ ha
  obtain ⟨_, bd, eb, hbd, hbp⟩ := (hw.kids i nd hi).2 _ hb
  have ea' := Int.ofNat.inj ea
  have eb' := Int.ofNat.inj eb
  subst ea' eb'
  have hda : d a = d i + 1 := by
    rcases hw.up a ad had with ⟨h3, h4⟩ | ⟨p, pd, h3, h4, h5, h6⟩
    · omega
    · obtain rfl : p = i := by omega
      exact h5
  have hdb : d b = d i + 1 := by
    rcases hw.up b bd hbd with ⟨h3, h4⟩ | ⟨p, pd, h3, h4, h5, h6⟩
    · omega
    · obtain rfl : p = i := by omega
      exact h5
  refine hw.induct _ (fun j jd h hp hd h1 h2 => ?_) (fun j jd p pd h hp hpd hd ih h1 h2 => ?_)
  · rw [hw.within_root h hp] at h1 h2
    have := of_decide_eq_true h1; have := of_decide_eq_true h2; omega
  · rw [hw.within_step h, hp] at h1 h2
    by_cases e1 : (j : Int) = a
    · have e1' : j = a := by omega
      subst e1'
      rw [if_neg (by omega)] at h2
      have := hw.within_depth p pd hpd h2
      omega
    · rw [if_neg e1] at h1
      by_cases e2 : (j : Int) = b
      · have e2' : j = b := by omega
        subst e2'
        have := hw.within_depth p pd hpd h1
        omega
      · rw [if_neg e2] at h2
        exact ih h1 h2
end Go.Proofs.Ytiglflmjidikpaa

namespace Go.Proofs.Ytiglflmjidikpaa
open Go Go.RowKit Go.BigFrame
set_option linter.unusedVariables false
set_option linter.unusedSimpArgs false

set_option maxRecDepth 100000 in
set_option maxHeartbeats 4000000 in
theorem Insert_ok {w : World} {own : Ow} {ptr : Nat → Nat} {tb : Nat} {T : Tr} (hT : TreeAt w own ptr tb T) (hO : Owned own w) {d : Nat → Nat} (hw : WF T d) {p k at' : Nat} {pd kd : Nd} (hp : T.nodes[p]? = some (some pd)) (hk : T.nodes[k]? = some (some kd))
    (htag : (pd.tag == 0) = false) (hk0 : k ≠ 0) (hpar : kd.parent = -1) (hat : at' ≤ pd.kids.length) (hkl : pd.kids.length ≤ 60000) (hin : T.within p k = false) (hdp : (d p : Int) + 1 + T.hgt 50 k ≤ T.deep) (hsl : InsertsAt at' pd.kids) :
    Calls Try.prog 21 #[.pointer (some ⟨tb, 0, none⟩), .int .i64 p, .int .i64 at', .int .i64 k] w (ErrAfter own w tb 0 (T.link p at' k pd kd)) := by
  obtain ⟨avp, kvp, bp, op, _, hkp⟩ := hT.node p pd hp
  obtain ⟨avk, kvk, bk, ok, _, _⟩ := hT.node k kd hk
  obtain ⟨nv, hb, hob, _⟩ := hT.head
  obtain ⟨ka, kcap, rfl, kc1, kc2⟩ := hkp.len
  have hpk : p ≠ k := fun e => by
    subst e
    have : T.within p p = true := by
      show isIn T p 50 p = true
      rw [isIn_step _ _ hp, if_pos rfl]
    rw [this] at hin; cases hin
  have cp0 := cellOf bp (i := 0) (v := .int .i64 pd.tag) rfl
  have cp3 := cellOf bp (i := 3) (v := .slice ka pd.kids.length kcap) rfl
  have ck4 := cellOf bk (i := 4) (v := .int .i64 (-1)) (by rw [← hpar]; rfl)
  have ct1 := cellOf hb (i := 1) (v := .int .i64 T.deep) rfl
  have hkb : ((k : Int) == 0) = false := by simp; omega
  have hpb : (p : Int) ≤ 2000 := by have := (List.getElem?_eq_some_iff.1 hp).1; have := hw.small.len; omega
  obtain ⟨hh1, hh2⟩ := T.hgt_le 50 k
  have hd1 := hw.deep p pd hp
  have hd2 := hw.small.deep1
  have hpkb : ptr p ≠ ptr k := fun e => by rw [e, ok] at op; simp at op; omega
  have HP := Lib.hid (Tr.get_of hp)
  have HK := Lib.hid (Tr.get_of hk)
  have HNP := Lib.hid hp
  have HNK := Lib.hid hk
  have HW := Lib.hid hw
  have HT := Lib.hid hT
  have HO := Lib.hid hO
  have HIN := Lib.hid hin
  have HSL := Lib.hid hsl
  have HBP := Lib.hid bp
  have HBK := Lib.hid bk
  have HOP := Lib.hid op
  have HOK := Lib.hid ok
  have HKP := Lib.hid hkp
  have HPK := Lib.hid hpk
  have HPKB := Lib.hid hpkb
  have ct1' := fun u : ExtOf w => u.ext.cell ct1
  clear hp hk hw hT hO hin bp bk hb hkp hpar hk0 kc2 hsl op ok hob hpk hpkb
  go_enter Try.func21, Try.ntmps21
  go_wp2_with fail
  refine (get_some HT.out HP.out).mono ?_
  rintro e w' ⟨rfl, rfl⟩
  go_wp2_with fail
  refine (get_some HT.out HK.out).mono ?_
  rintro e w' ⟨rfl, rfl⟩
  go_wp2_with fail
  refine (within_any HT.out HW.out HNP.out (by omega)).mono ?_
  rintro e w' ⟨rfl, rfl⟩
  rw [HIN.out]
  go_wp2_with fail
  refine wp_region_ext (by kernel_rfl) (by kernel_rfl) ?_
  repeat (go_big_quiet_step (first
    | (go_at_call 36; exact inExt (RSame.val (Depth_some (HT.out.keep (ExtOf.ext _ |>.keep HO.out)) HW.out HNP.out)))
    | (go_at_call 50; exact inExt (RSame.val (Height_fuel (HT.out.keep (ExtOf.ext _ |>.keep HO.out)) HW.out 50 k kd HNK.out (by omega) (by omega))))))
  refine wpQuiet_nil ?_
  rintro _ ⟨u, rfl⟩
  obtain ⟨wu, xu⟩ := u
  show Exit.then _ _ Exit.normal _ wu
  clear ct1'
  replace cp3 := xu.cell cp3
  have XU := Lib.hid xu
  clear xu cp0 ck4 ct1
  go_wp2_with fail
  have hOu : Owned own wu := fun b hb => Nat.lt_of_lt_of_le (HO.out b hb) XU.out.size
  have hTu := HT.out.keep (XU.out.keep HO.out)
  have hins := HSL.out (wu.alloc (.cells #[.int .i64 k] 3)) (fun g => own g = some (4, p)) (.slice ka pd.kids.length kcap) wu.heap.size k
    (RowP.ext (RowP.move HKP.out fun g hg => ⟨XU.out.keep HO.out g (by simp [hg]), hg⟩) ((Ext.refl _).alloc _)) hkl hat (heap_alloc_new _ _) (fun h => by have := hOu wu.heap.size (by simp [h]); omega)
  refine hins.mono ?_
  clear hins
  rintro e w3 ⟨v', row, rfl, hr, hg, hrow⟩
  replace hrow : ∀ b, row = some b → own b = some (4, p) := hrow
  have hW : Step own w own (wu.alloc (.cells #[.int .i64 k] 3)) := (XU.out.step HO.out).ext ((Ext.refl _).alloc _)
  have hTW := hTu.keep (((Ext.refl wu).alloc (.cells #[.int .i64 k] 3)).keep hOu)
  obtain ⟨own1, hs1, hT1, hsame⟩ := kids_plain hW hTW HNP.out (pd.kids.take at' ++ [(k : Int)] ++ pd.kids.drop at') (fun _ => by rw [HOP.out]; simp) (fun b _ hb => by rw [hb]; simp) (by
      have hlen : (pd.kids.take at' ++ [(k : Int)] ++ pd.kids.drop at').length = pd.kids.length + 1 := by simp; omega
      rw [hlen]; simpa using hr) hg hrow
  have hkd : (T.nodes.set p (some { pd with kids := pd.kids.take at' ++ [(k : Int)] ++ pd.kids.drop at' }))[k]? = some (some kd) := by
    rw [List.getElem?_set, if_neg HPK.out]; exact HNK.out
  have hT2 := hT1.setParent hkd (p : Int)
  have hs2 := hs1.setCell (p := ⟨ptr k, 4, none⟩) (fun _ => by show own (ptr k) ≠ none; rw [HOK.out]; simp) (.int .i64 p)
  have hpl := HO.out (ptr p) (by rw [HOP.out]; simp)
  have hkl' := HO.out (ptr k) (by rw [HOK.out]; simp)
  have hsz := XU.out.size
  have hsame3 : ∀ b x, own b = some x → x ≠ (4, p) → w3.heap[b]? = w.heap[b]? := fun b x hb hx => by
    have hbl := HO.out b (by simp [hb])
    rw [hg.block b (by simp; omega) (fun h => by have := hrow b h.symm; rw [hb] at this; exact hx (Option.some.inj this)), Below.heap_alloc _ _ _ (by omega)]
    exact Below.block XU.out b hbl
  have bp3 := (hsame3 _ _ HOP.out (by simp)).trans HBP.out
  have bk3 := (hsame3 _ _ HOK.out (by simp)).trans HBK.out
  have cp3' := cellOf bp3 (i := 3) (v := .slice ka pd.kids.length kcap) rfl
  have fp3 := freeOf bp3 3
  have ck4' := cellOf bk3 (i := 4) (v := .int .i64 kd.parent) rfl
  have fk4 := freeOf bk3 4
  have n1 := HPKB.out
  have n2 := Ne.symm HPKB.out
  obtain ⟨va, vcap, hv, _⟩ := hr.rd.len_of
  have HS2 := Lib.hid hs2
  have HT2 := Lib.hid hT2
  clear hs1 hT1 hsame hkd hT2 hs2 hsame3 bp3 bk3 hr hg hrow hW hTW hTu hOu cp3
  rw [hv] at HS2 HT2 ⊢
  clear hv
  go_wp2
  go_ret
  exact ⟨rfl, own1, ptr, HT2.out, HS2.out⟩

theorem insertsAt_end (l : List Int) : InsertsAt l.length l := by
  intro W p v b x hr hl _ hx0 _
  have hx := cellOf hx0 (i := 0) (v := .int .i64 x) rfl
  have h := insert_end hr hl hx
  have e : (l.take l.length ++ [x] ++ l.drop l.length).map (Value.int .i64) = l.map (Value.int .i64) ++ [.int .i64 x] := by simp
  rw [e]; exact h
end Go.Proofs.Ytiglflmjidikpaa
