/- Package dom in memory: what a tree is in plain words (Tr, Nd), how it lies in memory (TreeAt), and the contracts of its small functions that only read.
Package dom: the contracts of the small functions that only read: Has, Tag, Told, Parent, Count, Room, room, element.
slices.Clone at ints and attributes; slices.Index at ints. Conditions: at most 60000 elements.
Package dom: what holds of every tree (WF), and the contracts of Depth, within, Live, Height, slices.Index, Index.
Package dom: Live, Height, slices.Index at ints, Index. -/
import Derived.Test.YtiglflmjidikpaaBase
import Derived.Test.YtiglflmjidikpaaRows
namespace Go.Proofs.Ytiglflmjidikpaa
open Go Go.RowKit Go.BigFrame
set_option linter.unusedVariables false

structure Nd where
  tag : Int
  attrs : List (ByteArray × ByteArray)
  text : ByteArray
  kids : List Int
  parent : Int
structure Tr where
  cap : Int
  deep : Int
  count : Int
  nodes : List (Option Nd)

/-- whose is a block? -/
abbrev Ow := Nat → Option (Nat × Nat)
/-- a slice of n elements that starts its block (of which p holds) with these cells; an empty one without room may lie anywhere -/
def RowP (w : World) (p : Nat → Prop) (e size : Nat) (v : Value) (n : Nat) (xs : List Value) : Prop :=
  xs.length = n * size ∧ ((n = 0 ∧ ∃ a, v = .slice a 0 0) ∨
    ∃ g cap cur, v = .slice (some ⟨g, 0, none⟩) n cap ∧ p g ∧ w.heap[g]? = some (.cells cur e (0, 0)) ∧ n ≤ cap ∧ cap ≤ maxLen ∧ cur.size = cap * size ∧ cur.toList.take (n * size) = xs)
/-- .. owned -/
def RowAt (w : World) (own : Ow) (e size : Nat) (o : Nat × Nat) (v : Value) (n : Nat) (xs : List Value) : Prop := RowP w (fun g => own g = some o) e size v n xs
/-- .. in new memory -/
def RowIn (w : World) (B : Nat) (e size : Nat) (v : Value) (n : Nat) (xs : List Value) : Prop := RowP w (fun g => B ≤ g) e size v n xs
/-- a slice that reads so, wherever it lies -/
def RowRd (w : World) (size : Nat) (v : Value) (n : Nat) (xs : List Value) : Prop :=
  xs.length = n * size ∧ ∃ ao cap, v = .slice ao n cap ∧ n ≤ cap ∧ (ao = none → n = 0 ∧ cap = 0) ∧ ∀ a, ao = some a → ∀ (j : Nat) x, xs[j]? = some x → w.cell? (a.add j) = some x
def attrCells : List (ByteArray × ByteArray) → List Value
  | [] => []
  | (a, b) :: r => .string a :: .string b :: attrCells r
def nodeVal (ptr : Nat → Nat) (i : Nat) : Option Nd → Value
  | some _ => .pointer (some ⟨ptr i, 0, none⟩)
  | none => .pointer none
def nodeVals (ptr : Nat → Nat) (l : List (Option Nd)) : List Value := l.mapIdx (nodeVal ptr)
/-- the tree at block tb -/
structure TreeAt (w : World) (own : Ow) (ptr : Nat → Nat) (tb : Nat) (T : Tr) : Prop where
  head : ∃ nv, w.heap[tb]? = some (.cells #[.int .i64 T.cap, .int .i64 T.deep, .int .i64 T.count, nv] 119 (0, 0)) ∧ own tb = some (0, 0) ∧
    RowAt w own 110 1 (1, 0) nv T.nodes.length (nodeVals ptr T.nodes)
  node : ∀ i nd, T.nodes[i]? = some (some nd) → ∃ av kv, w.heap[ptr i]? = some (.cells #[.int .i64 nd.tag, av, .string nd.text, kv, .int .i64 nd.parent] 115 (0, 0)) ∧
    own (ptr i) = some (2, i) ∧ RowAt w own 44 2 (3, i) av nd.attrs.length (attrCells nd.attrs) ∧ RowAt w own 3 1 (4, i) kv nd.kids.length (nd.kids.map (Value.int .i64))
/-- the numbers are small -/
structure Small (T : Tr) : Prop where
  cap0 : 0 ≤ T.cap
  cap1 : T.cap ≤ 2000
  deep0 : 0 ≤ T.deep
  deep1 : T.deep ≤ 40
  count0 : 0 ≤ T.count
  count1 : T.count ≤ T.cap
  len : T.nodes.length ≤ 2000

def Tr.get? (T : Tr) (id : Int) : Option Nd := if id < 0 then none else (T.nodes[id.toNat]?).join

/-- all blocks that are owned, and what is read of them, stays -/
def Keep (own : Ow) (w w' : World) : Prop := ∀ b, own b ≠ none → w'.heap[b]? = w.heap[b]?
theorem RowAt.keep {w w' : World} {own : Ow} {e size : Nat} {o : Nat × Nat} {v : Value} {n : Nat} {xs : List Value} (h : RowAt w own e size o v n xs) (k : Keep own w w') : RowAt w' own e size o v n xs := by
  refine ⟨h.1, ?_⟩
  rcases h.2 with h0 | ⟨g, cap, cur, h1, h2, h3, h4⟩
  · exact .inl h0
  · exact .inr ⟨g, cap, cur, h1, h2, by rw [k g (by simp [h2])]; exact h3, h4⟩
theorem TreeAt.keep {w w' : World} {own : Ow} {ptr : Nat → Nat} {tb : Nat} {T : Tr} (h : TreeAt w own ptr tb T) (k : Keep own w w') : TreeAt w' own ptr tb T := by
  constructor
  · obtain ⟨nv, h1, h2, h3⟩ := h.head
    exact ⟨nv, by rw [k tb (by simp [h2])]; exact h1, h2, h3.keep k⟩
  · intro i nd hi
    obtain ⟨av, kv, h1, h2, h3, h4⟩ := h.node i nd hi
    exact ⟨av, kv, by rw [k _ (by simp [h2])]; exact h1, h2, h3.keep k, h4.keep k⟩
/-- owned blocks are there -/
def Owned (own : Ow) (w : World) : Prop := ∀ b, own b ≠ none → b < w.heap.size
theorem Ext.keep {w w' : World} {own : Ow} (h : Ext w w') (o : Owned own w) : Keep own w w' := fun b hb => Below.block h b (o b hb)

theorem cellOf {w : World} {b : Nat} {cs : Array Value} {t : TypeId} {fr : Nat × Nat} (h : w.heap[b]? = some (.cells cs t fr)) {i : Nat} {v : Value} (hi : cs[i]? = some v) : w.cell? ⟨b, i, none⟩ = some v := by
  simp [World.cell?, h, hi]
theorem freeOf {w : World} {b : Nat} {cs : Array Value} {t : TypeId} (h : w.heap[b]? = some (.cells cs t (0, 0))) (i : Nat) : w.frozen? ⟨b, i, none⟩ = false := by
  simp [World.frozen?, h]
theorem RowP.rd {w : World} {p : Nat → Prop} {e size : Nat} {v : Value} {n : Nat} {xs : List Value} (h : RowP w p e size v n xs) : RowRd w size v n xs := by
  refine ⟨h.1, ?_⟩
  rcases h.2 with ⟨rfl, a, rfl⟩ | ⟨g, cap, cur, rfl, h2, h3, h4, h5, h6, h7⟩
  · have hl := h.1
    obtain rfl : xs = [] := List.eq_nil_of_length_eq_zero (by simpa using hl)
    exact ⟨a, 0, rfl, Nat.le_refl _, fun _ => ⟨rfl, rfl⟩, fun a' _ j x hx => by simp at hx⟩
  · refine ⟨_, cap, rfl, h4, (fun h => by cases h), fun a ha j x hx => ?_⟩
    cases ha
    rw [Addr.add_lit, Nat.zero_add]
    refine cellOf h3 ?_
    rw [← h7, List.getElem?_take] at hx
    split at hx
    · simpa using hx
    · cases hx
theorem RowRd.len_of {w : World} {size : Nat} {v : Value} {n : Nat} {xs : List Value} (h : RowRd w size v n xs) : ∃ a cap, v = .slice a n cap ∧ n ≤ cap := by
  obtain ⟨_, a, cap, h1, h2, _⟩ := h
  exact ⟨a, cap, h1, h2⟩
theorem RowRd.ext {w w' : World} {size : Nat} {v : Value} {n : Nat} {xs : List Value} (h : RowRd w size v n xs) (k : Ext w w') : RowRd w' size v n xs := by
  obtain ⟨h1, ao, cap, h2, h3, h4, h5⟩ := h
  refine ⟨h1, ao, cap, h2, h3, h4, fun a ha j x hx => ?_⟩
  have hc := h5 a ha j x hx
  exact (Below.cell k (World.block_lt_of_cell? w _ hc)).trans hc
theorem RowP.imp {w : World} {p q : Nat → Prop} {e size : Nat} {v : Value} {n : Nat} {xs : List Value} (h : RowP w p e size v n xs) (k : ∀ g, v.ownBlock = some g → p g → q g) : RowP w q e size v n xs := by
  refine ⟨h.1, ?_⟩
  rcases h.2 with h0 | ⟨g, cap, cur, h1, h2, h3⟩
  · exact .inl h0
  · exact .inr ⟨g, cap, cur, h1, k g (by rw [h1]; rfl) h2, h3⟩
theorem RowP.ext {w w' : World} {p : Nat → Prop} {e size : Nat} {v : Value} {n : Nat} {xs : List Value} (h : RowP w p e size v n xs) (k : Ext w w') : RowP w' p e size v n xs := by
  refine ⟨h.1, ?_⟩
  rcases h.2 with h0 | ⟨g, cap, cur, h1, h2, h3, h4⟩
  · exact .inl h0
  · exact .inr ⟨g, cap, cur, h1, h2, k.block h3, h4⟩
theorem RowP.block {w : World} {B e size : Nat} {v : Value} {n : Nat} {xs : List Value} (h : RowP w (fun g => B ≤ g) e size v n xs) : ∃ rb : Option Nat, RowP w (fun g => rb = some g) e size v n xs ∧ ∀ k, rb = some k → B ≤ k ∧ k < w.heap.size := by
  rcases h.2 with h0 | ⟨g, cap, cur, h1, h2, h3, h4⟩
  · exact ⟨none, ⟨h.1, .inl h0⟩, fun k hk => by cases hk⟩
  · exact ⟨some g, ⟨h.1, .inr ⟨g, cap, cur, h1, rfl, h3, h4⟩⟩, fun k hk => by cases hk; exact ⟨h2, (Array.getElem?_eq_some_iff.1 h3).1⟩⟩
theorem RowIn.block {w : World} {B e size : Nat} {v : Value} {n : Nat} {xs : List Value} (h : RowIn w B e size v n xs) : ∃ rb : Option Nat, RowP w (fun g => rb = some g) e size v n xs ∧ ∀ k, rb = some k → B ≤ k ∧ k < w.heap.size := RowP.block h
theorem RowP.of_owns {w : World} {B e size : Nat} {v : Value} {n : Nat} {xs : List Value} (h : w.ownsRow B e size v n xs) : RowIn w B e size v n xs := by
  refine ⟨h.1, ?_⟩
  rcases h.2 with ⟨h1, h2⟩ | ⟨g, cap, cur, h1, h2, h3, h4⟩
  · exact .inl ⟨h2, none, h2 ▸ h1⟩
  · exact .inr ⟨g, cap, cur, h1, h2, h3, h4⟩
theorem RowAt.cell {w : World} {own : Ow} {e : Nat} {o : Nat × Nat} {v : Value} {n : Nat} {xs : List Value} (h : RowAt w own e 1 o v n xs) {i : Nat} {x : Value} (hx : xs[i]? = some x) :
    ∃ g cap, v = .slice (some ⟨g, 0, none⟩) n cap ∧ w.cell? ⟨g, i, none⟩ = some x := by
  rcases h.2 with ⟨h0, _⟩ | ⟨g, cap, cur, h1, h2, h3, h4, h5, h6, h7⟩
  · have hl := h.1
    rw [h0] at hl
    obtain rfl : xs = [] := List.eq_nil_of_length_eq_zero (by simpa using hl)
    simp at hx
  · refine ⟨g, cap, h1, cellOf h3 ?_⟩
    rw [← h7, List.getElem?_take] at hx
    split at hx
    · simpa using hx
    · cases hx
theorem RowAt.len {w : World} {own : Ow} {e size : Nat} {o : Nat × Nat} {v : Value} {n : Nat} {xs : List Value} (h : RowAt w own e size o v n xs) : ∃ a cap, v = .slice a n cap ∧ n ≤ cap ∧ cap ≤ maxLen := by
  rcases h.2 with ⟨rfl, a, rfl⟩ | ⟨g, cap, cur, h1, h2, h3, h4, h5, h6⟩
  · exact ⟨a, 0, rfl, Nat.le_refl _, Nat.zero_le _⟩
  · exact ⟨_, cap, h1, h4, h5⟩

/-- a value is returned, and nothing has turned -/
def RSame (v : Value) (w : World) (e : Ending) (w' : World) : Prop := e = .returned v ∧ w = w'
/-- a value is returned; only new blocks -/
def RVal (v : Value) (w : World) (e : Ending) (w' : World) : Prop := e = .returned v ∧ Ext w w'
theorem RSame.val {P : Program} {f : FuncId} {args : Array Value} {v : Value} {w : World} (h : Calls P f args w (RSame v w)) : Calls P f args w (RVal v w) :=
  h.mono fun e w' hh => ⟨hh.1, hh.2 ▸ Ext.refl w⟩

theorem Tr.get_lt {T : Tr} {id : Int} {nd : Nd} (h : T.get? id = some nd) : 0 ≤ id ∧ id.toNat < T.nodes.length ∧ T.nodes[id.toNat]? = some (some nd) := by
  unfold Tr.get? at h
  split at h
  · cases h
  · have h' : T.nodes[id.toNat]? = some (some nd) := by
      cases hc : T.nodes[id.toNat]? with
      | none => rw [hc] at h; cases h
      | some x => rw [hc] at h; simpa using h
    exact ⟨by omega, (List.getElem?_eq_some_iff.1 h').1, h'⟩

set_option maxHeartbeats 400000 in
theorem get_nil (id : Int) (w : World) : Calls Try.prog 80 #[.pointer none, .int .i64 id] w (RSame (.pointer none) w) := by
  go_enter Try.func80, Try.ntmps80
  go_wp2
  go_ret
  exact ⟨rfl, rfl⟩
set_option maxHeartbeats 400000 in
theorem get_some {w : World} {own : Ow} {ptr : Nat → Nat} {tb : Nat} {T : Tr} (hT : TreeAt w own ptr tb T) {id : Int} {nd : Nd} (h : T.get? id = some nd) :
    Calls Try.prog 80 #[.pointer (some ⟨tb, 0, none⟩), .int .i64 id] w (RSame (.pointer (some ⟨ptr id.toNat, 0, none⟩)) w) := by
  obtain ⟨h0, hlt, hnd⟩ := Tr.get_lt h
  obtain ⟨i, rfl⟩ := Int.eq_ofNat_of_zero_le h0
  simp only [Int.toNat_natCast] at hlt hnd ⊢
  obtain ⟨nv, hb, _, hrow⟩ := hT.head
  obtain ⟨g, cap, rfl, hcell⟩ := hrow.cell (i := i) (x := .pointer (some ⟨ptr i, 0, none⟩)) (by simp [nodeVals, List.getElem?_mapIdx, hnd, nodeVal])
  obtain ⟨_, _, e1, e2, e3⟩ := hrow.len
  cases e1
  have c3 := cellOf hb (i := 3) rfl
  unfold maxLen at e3
  clear hb hrow hT hnd h h0
  go_enter Try.func80, Try.ntmps80
  go_wp2
  go_ret
  exact ⟨rfl, rfl⟩
set_option maxHeartbeats 400000 in
theorem get_none {w : World} {own : Ow} {ptr : Nat → Nat} {tb : Nat} {T : Tr} (hT : TreeAt w own ptr tb T) {id : Int} (h : T.get? id = none) :
    Calls Try.prog 80 #[.pointer (some ⟨tb, 0, none⟩), .int .i64 id] w (RSame (.pointer none) w) := by
  obtain ⟨nv, hb, _, hrow⟩ := hT.head
  obtain ⟨a, cap, rfl, e2, e3⟩ := hrow.len
  have c3 := cellOf hb (i := 3) rfl
  unfold maxLen at e3
  by_cases h0 : id < 0
  · clear hb hrow hT h
    go_enter Try.func80, Try.ntmps80
    go_wp2
    go_ret
    exact ⟨rfl, rfl⟩
  · obtain ⟨i, rfl⟩ := Int.eq_ofNat_of_zero_le (by omega : 0 ≤ id)
    by_cases hlt : i < T.nodes.length
    · have hnd : T.nodes[i]? = some none := by
        unfold Tr.get? at h
        rw [if_neg h0, Int.toNat_natCast] at h
        cases hc : T.nodes[i]? with
        | none => rw [List.getElem?_eq_none_iff] at hc; omega
        | some x => rw [hc] at h; cases x with
          | none => rfl
          | some y => simp at h
      obtain ⟨g, cap', e, hcell⟩ := hrow.cell (i := i) (x := .pointer none) (by simp [nodeVals, List.getElem?_mapIdx, hnd, nodeVal])
      cases e
      clear hb hrow hT hnd h h0
      go_enter Try.func80, Try.ntmps80
      go_wp2
      go_ret
      exact ⟨rfl, rfl⟩
    · clear hb hrow hT h
      go_enter Try.func80, Try.ntmps80
      go_wp2
      go_ret
      exact ⟨rfl, rfl⟩
end Go.Proofs.Ytiglflmjidikpaa

namespace Go.Proofs.Ytiglflmjidikpaa
open Go Go.RowKit Go.BigFrame
set_option linter.unusedVariables false

set_option maxHeartbeats 400000 in
theorem Has_nil (id : Int) (w : World) : Calls Try.prog 27 #[.pointer none, .int .i64 id] w (RSame (.bool false) w) := by
  go_enter Try.func27, Try.ntmps27
  go_wp2_with (go_at_call 80; refine (get_nil _ _).mono ?_; rintro e w' ⟨rfl, rfl⟩)
  go_ret
  exact ⟨rfl, rfl⟩
set_option maxHeartbeats 400000 in
theorem Has_none {w : World} {own : Ow} {ptr : Nat → Nat} {tb : Nat} {T : Tr} (hT : TreeAt w own ptr tb T) {id : Int} (h : T.get? id = none) : Calls Try.prog 27 #[.pointer (some ⟨tb, 0, none⟩), .int .i64 id] w (RSame (.bool false) w) := by
  have H := Lib.hid h
  clear h
  go_enter Try.func27, Try.ntmps27
  go_wp2_with (go_at_call 80; refine (get_none hT H.out).mono ?_; rintro e w' ⟨rfl, rfl⟩)
  go_ret
  exact ⟨rfl, rfl⟩
set_option maxHeartbeats 400000 in
theorem Has_some {w : World} {own : Ow} {ptr : Nat → Nat} {tb : Nat} {T : Tr} (hT : TreeAt w own ptr tb T) {id : Int} {nd : Nd} (h : T.get? id = some nd) : Calls Try.prog 27 #[.pointer (some ⟨tb, 0, none⟩), .int .i64 id] w (RSame (.bool true) w) := by
  have H := Lib.hid h
  have hn := (Tr.get_lt h).2.2
  obtain ⟨av, kv, hb, _⟩ := hT.node _ _ hn

  clear hb hn h
  go_enter Try.func27, Try.ntmps27
  go_wp2_with (go_at_call 80; refine (get_some hT H.out).mono ?_; rintro e w' ⟨rfl, rfl⟩)
  go_ret
  exact ⟨rfl, rfl⟩
set_option maxHeartbeats 400000 in
theorem Tag_nil (id : Int) (w : World) : Calls Try.prog 46 #[.pointer none, .int .i64 id] w (RSame (.int .i64 (-1)) w) := by
  go_enter Try.func46, Try.ntmps46
  go_wp2_with (go_at_call 80; refine (get_nil _ _).mono ?_; rintro e w' ⟨rfl, rfl⟩)
  go_ret
  exact ⟨rfl, rfl⟩
set_option maxHeartbeats 400000 in
theorem Tag_none {w : World} {own : Ow} {ptr : Nat → Nat} {tb : Nat} {T : Tr} (hT : TreeAt w own ptr tb T) {id : Int} (h : T.get? id = none) : Calls Try.prog 46 #[.pointer (some ⟨tb, 0, none⟩), .int .i64 id] w (RSame (.int .i64 (-1)) w) := by
  have H := Lib.hid h
  clear h
  go_enter Try.func46, Try.ntmps46
  go_wp2_with (go_at_call 80; refine (get_none hT H.out).mono ?_; rintro e w' ⟨rfl, rfl⟩)
  go_ret
  exact ⟨rfl, rfl⟩
set_option maxHeartbeats 400000 in
theorem Tag_some {w : World} {own : Ow} {ptr : Nat → Nat} {tb : Nat} {T : Tr} (hT : TreeAt w own ptr tb T) {id : Int} {nd : Nd} (h : T.get? id = some nd) : Calls Try.prog 46 #[.pointer (some ⟨tb, 0, none⟩), .int .i64 id] w (RSame (.int .i64 nd.tag) w) := by
  have H := Lib.hid h
  have hn := (Tr.get_lt h).2.2
  obtain ⟨av, kv, hb, _⟩ := hT.node _ _ hn

  have c := cellOf hb (i := 0) rfl
  clear hb hn h
  go_enter Try.func46, Try.ntmps46
  go_wp2_with (go_at_call 80; refine (get_some hT H.out).mono ?_; rintro e w' ⟨rfl, rfl⟩)
  go_ret
  exact ⟨rfl, rfl⟩
set_option maxHeartbeats 400000 in
theorem Told_nil (id : Int) (w : World) : Calls Try.prog 48 #[.pointer none, .int .i64 id] w (RSame (.string ByteArray.empty) w) := by
  go_enter Try.func48, Try.ntmps48
  go_wp2_with (go_at_call 80; refine (get_nil _ _).mono ?_; rintro e w' ⟨rfl, rfl⟩)
  go_ret
  exact ⟨rfl, rfl⟩
set_option maxHeartbeats 400000 in
theorem Told_none {w : World} {own : Ow} {ptr : Nat → Nat} {tb : Nat} {T : Tr} (hT : TreeAt w own ptr tb T) {id : Int} (h : T.get? id = none) : Calls Try.prog 48 #[.pointer (some ⟨tb, 0, none⟩), .int .i64 id] w (RSame (.string ByteArray.empty) w) := by
  have H := Lib.hid h
  clear h
  go_enter Try.func48, Try.ntmps48
  go_wp2_with (go_at_call 80; refine (get_none hT H.out).mono ?_; rintro e w' ⟨rfl, rfl⟩)
  go_ret
  exact ⟨rfl, rfl⟩
set_option maxHeartbeats 400000 in
theorem Told_some {w : World} {own : Ow} {ptr : Nat → Nat} {tb : Nat} {T : Tr} (hT : TreeAt w own ptr tb T) {id : Int} {nd : Nd} (h : T.get? id = some nd) : Calls Try.prog 48 #[.pointer (some ⟨tb, 0, none⟩), .int .i64 id] w (RSame (.string nd.text) w) := by
  have H := Lib.hid h
  have hn := (Tr.get_lt h).2.2
  obtain ⟨av, kv, hb, _⟩ := hT.node _ _ hn

  have c := cellOf hb (i := 2) rfl
  clear hb hn h
  go_enter Try.func48, Try.ntmps48
  go_wp2_with (go_at_call 80; refine (get_some hT H.out).mono ?_; rintro e w' ⟨rfl, rfl⟩)
  go_ret
  exact ⟨rfl, rfl⟩
set_option maxHeartbeats 400000 in
theorem Parent_nil (id : Int) (w : World) : Calls Try.prog 34 #[.pointer none, .int .i64 id] w (RSame (.int .i64 (-1)) w) := by
  go_enter Try.func34, Try.ntmps34
  go_wp2_with (go_at_call 80; refine (get_nil _ _).mono ?_; rintro e w' ⟨rfl, rfl⟩)
  go_ret
  exact ⟨rfl, rfl⟩
set_option maxHeartbeats 400000 in
theorem Parent_none {w : World} {own : Ow} {ptr : Nat → Nat} {tb : Nat} {T : Tr} (hT : TreeAt w own ptr tb T) {id : Int} (h : T.get? id = none) : Calls Try.prog 34 #[.pointer (some ⟨tb, 0, none⟩), .int .i64 id] w (RSame (.int .i64 (-1)) w) := by
  have H := Lib.hid h
  clear h
  go_enter Try.func34, Try.ntmps34
  go_wp2_with (go_at_call 80; refine (get_none hT H.out).mono ?_; rintro e w' ⟨rfl, rfl⟩)
  go_ret
  exact ⟨rfl, rfl⟩
set_option maxHeartbeats 400000 in
theorem Parent_some {w : World} {own : Ow} {ptr : Nat → Nat} {tb : Nat} {T : Tr} (hT : TreeAt w own ptr tb T) {id : Int} {nd : Nd} (h : T.get? id = some nd) : Calls Try.prog 34 #[.pointer (some ⟨tb, 0, none⟩), .int .i64 id] w (RSame (.int .i64 nd.parent) w) := by
  have H := Lib.hid h
  have hn := (Tr.get_lt h).2.2
  obtain ⟨av, kv, hb, _⟩ := hT.node _ _ hn

  have c := cellOf hb (i := 4) rfl
  clear hb hn h
  go_enter Try.func34, Try.ntmps34
  go_wp2_with (go_at_call 80; refine (get_some hT H.out).mono ?_; rintro e w' ⟨rfl, rfl⟩)
  go_ret
  exact ⟨rfl, rfl⟩
set_option maxHeartbeats 400000 in
theorem Count_nil (w : World) : Calls Try.prog 19 #[.pointer none] w (RSame (.int .i64 0) w) := by
  go_enter Try.func19, Try.ntmps19
  go_wp2
  go_ret
  exact ⟨rfl, rfl⟩
set_option maxHeartbeats 400000 in
theorem Count_any {w : World} {own : Ow} {ptr : Nat → Nat} {tb : Nat} {T : Tr} (hT : TreeAt w own ptr tb T) : Calls Try.prog 19 #[.pointer (some ⟨tb, 0, none⟩)] w (RSame (.int .i64 T.count) w) := by
  obtain ⟨nv, hb, _⟩ := hT.head
  have c := cellOf hb (i := 2) rfl
  clear hb
  go_enter Try.func19, Try.ntmps19
  go_wp2
  go_ret
  exact ⟨rfl, rfl⟩
/-- two values are returned; only new blocks -/
def RTwo (v v' : Value) (w : World) (e : Ending) (w' : World) : Prop := e = .returned (.tuple #[v, v']) ∧ Ext w w'
set_option maxHeartbeats 400000 in
theorem Room_nil (w : World) : Calls Try.prog 45 #[.pointer none] w (RTwo (.int .i64 0) (.int .i64 0) w) := by
  go_enter Try.func45, Try.ntmps45
  go_wp2
  go_ret2
  exact ⟨rfl, Ext.refl _⟩
set_option maxHeartbeats 400000 in
theorem Room_any {w : World} {own : Ow} {ptr : Nat → Nat} {tb : Nat} {T : Tr} (hT : TreeAt w own ptr tb T) : Calls Try.prog 45 #[.pointer (some ⟨tb, 0, none⟩)] w (RTwo (.int .i64 T.cap) (.int .i64 T.deep) w) := by
  obtain ⟨nv, hb, _⟩ := hT.head
  have c := cellOf hb (i := 0) rfl
  have c' := cellOf hb (i := 1) rfl
  clear hb
  have d := fun u : ExtOf w => u.ext.cell c
  have d' := fun u : ExtOf w => u.ext.cell c'
  go_enter Try.func45, Try.ntmps45
  go_wp2_with fail
  refine wp_region_ext (by kernel_rfl) (by kernel_rfl) ?_
  repeat (go_big_quiet_step (fail))
  refine wpQuiet_nil ?_
  rintro _ ⟨u, rfl⟩
  go_wp2
  go_ret2
  exact ⟨rfl, u.ext⟩
set_option maxHeartbeats 400000 in
theorem room_any {w : World} {own : Ow} {ptr : Nat → Nat} {tb : Nat} {T : Tr} (hT : TreeAt w own ptr tb T) (hs : Small T) (n : Int) (h0 : 0 ≤ n) (h1 : n ≤ 100000000) : Calls Try.prog 92 #[.pointer (some ⟨tb, 0, none⟩), .int .i64 n] w (RBool (decide (n ≤ T.cap - T.count)) w) := by
  obtain ⟨nv, hb, _⟩ := hT.head
  have c := cellOf hb (i := 0) rfl
  have c' := cellOf hb (i := 2) rfl
  clear hb
  have d := fun u : ExtOf w => u.ext.cell c
  have d' := fun u : ExtOf w => u.ext.cell c'
  have b1 := hs.cap0
  have b2 := hs.cap1
  have b3 := hs.count0
  have b4 := hs.count1
  have b5 : IntKind.i64.wrap (T.cap - T.count) = T.cap - T.count := IntWalk.i64_in _ (by omega)
  go_enter Try.func92, Try.ntmps92
  go_wp2_with fail
  refine wp_region_ext (by kernel_rfl) (by kernel_rfl) ?_
  repeat (go_big_quiet_step (fail))
  refine wpQuiet_nil ?_
  rintro _ ⟨u, rfl⟩
  go_wp2
  go_ret
  exact ⟨rfl, u.ext⟩
set_option maxHeartbeats 400000 in
theorem element_yes (n : Int) (h0 : 1 ≤ n) (h1 : n ≤ 16) (w : World) : Calls Try.prog 90 #[.int .i64 n] w (RSame (.bool true) w) := by
  go_enter Try.func90, Try.ntmps90
  go_wp2
  go_ret
  exact ⟨rfl, rfl⟩
set_option maxHeartbeats 400000 in
theorem element_no (n : Int) (h : ¬ (1 ≤ n ∧ n ≤ 16)) (w : World) : Calls Try.prog 90 #[.int .i64 n] w (RSame (.bool false) w) := by
  by_cases h0 : 1 ≤ n
  · have h1 : ¬ n ≤ 16 := fun h1 => h ⟨h0, h1⟩
    clear h
    go_enter Try.func90, Try.ntmps90
    go_wp2
    go_ret
    exact ⟨rfl, rfl⟩
  · clear h
    go_enter Try.func90, Try.ntmps90
    go_wp2
    go_ret
    exact ⟨rfl, rfl⟩

end Go.Proofs.Ytiglflmjidikpaa

namespace Go.Proofs.Ytiglflmjidikpaa
open Go Go.RowKit Go.BigFrame
set_option linter.unusedVariables false

/-- a slice in new memory is returned -/
def RRow (e size n : Nat) (xs : List Value) (w : World) (en : Ending) (w' : World) : Prop := ∃ v, en = .returned v ∧ RowIn w' w.heap.size e size v n xs ∧ Ext w w'
theorem infoI : (Try.prog.info? 3).map (fun i => (i.zero, i.size, i.bytes)) = some (some (.int .i64 0), 1, 8) := by kernel_rfl
theorem infoA : (Try.prog.info? 44).map (fun i => (i.zero, i.size, i.bytes)) = some (some (.agg #[.string ByteArray.empty, .string ByteArray.empty]), 2, 32) := by kernel_rfl
theorem infoP : (Try.prog.info? 110).map (fun i => (i.zero, i.size, i.bytes)) = some (some (.pointer none), 1, 8) := by kernel_rfl

set_option maxRecDepth 20000 in
set_option maxHeartbeats 400000 in
theorem cloneI_any {v : Value} {n : Nat} {xs : List Value} {w : World} (h : RowRd w 1 v n xs) (hn : n ≤ 60000) (h1 : ∀ u ∈ xs, u.oneCell' = true) :
    Calls Try.prog 82 #[v] w (RRow 3 1 n xs w) := by
  obtain ⟨hl, ao, cap, rfl, hcap, hnone, hc⟩ := h
  have he := fun (w : World) (a : Option Addr) (n c : Nat) => Lib.run_eql_slice_nil (P := Try.prog) w 70 3 a n c 0 0 Try.underlying70
  cases ao with
  | none =>
    obtain ⟨rfl, rfl⟩ := hnone rfl
    obtain rfl : xs = [] := List.eq_nil_of_length_eq_zero (by simpa using hl)
    clear hc hnone hl h1 hn
    go_enter Try.func82, Try.ntmps82
    go_wp2
    go_ret
    exact ⟨_, rfl, ⟨by simp, .inl ⟨rfl, _, rfl⟩⟩, Ext.refl _⟩
  | some a =>
    have HC := Lib.hid (hc a rfl)
    clear hc hnone
    rcases Nat.eq_zero_or_pos n with rfl | hpos
    · obtain rfl : xs = [] := List.eq_nil_of_length_eq_zero (by simpa using hl)
      clear HC hl h1 hn
      go_enter Try.func82, Try.ntmps82
      go_wp2
      go_ret
      exact ⟨_, rfl, ⟨by simp, .inl ⟨rfl, _, rfl⟩⟩, (Ext.refl _).alloc _⟩
    · obtain ⟨i0, hi, hz0, hz1, hz2⟩ := info_parts infoI
      have Hi := Lib.hid hi
      have Hz0 := Lib.hid hz0
      have Hz1 := Lib.hid hz1
      have Hz2 := Lib.hid hz2
      have H1 := Lib.hid h1
      have HL := Lib.hid hl
      have HN := Lib.hid hn
      clear hi hz0 hz1 hz2 h1 hl hn
      go_enter Try.func82, Try.ntmps82
      go_wp2_with (at_builtin; refine wpList_append_grows _ rfl _ _ 70 rfl 3 i0 (.int .i64 0) 1 8 Try.underlying70 Hi.out Hz0.out Hz1.out Hz2.out rfl (by decide) (some ⟨w.heap.size, 0, none⟩) 0 0 [] rfl (by simp) (by simp) (by simp) a n cap xs rfl HL.out ?c2 H1.out (by omega) ?c3 ?c4 ?_)
      case c2 =>
        intro j u hj
        have hcj := HC.out j u hj
        exact (Below.cell ((Ext.refl w).alloc _) (World.block_lt_of_cell? w _ hcj)).trans hcj
      case c3 => have := HN.out; unfold maxLen; omega
      case c4 => have := HN.out; omega
      intro v' w1 hown hg
      have hb : Ext w w1 := ((Ext.refl _).alloc _).grown hg (by simp)
      clear hg
      go_wp2
      go_ret
      refine ⟨_, rfl, ?_, hb⟩
      have hr := RowP.of_owns hown
      exact RowP.imp hr (fun g _ (hg : w.heap.size + 1 ≤ g) => Nat.le_of_succ_le hg)
set_option maxRecDepth 20000 in
set_option maxHeartbeats 400000 in
theorem cloneA_any {v : Value} {n : Nat} {xs : List Value} {w : World} (h : RowRd w 2 v n xs) (hn : n ≤ 60000) (h1 : ∀ u ∈ xs, u.oneCell' = true) :
    Calls Try.prog 81 #[v] w (RRow 44 2 n xs w) := by
  obtain ⟨hl, ao, cap, rfl, hcap, hnone, hc⟩ := h
  have he := fun (w : World) (a : Option Addr) (n c : Nat) => Lib.run_eql_slice_nil (P := Try.prog) w 27 44 a n c 0 0 Try.underlying27
  cases ao with
  | none =>
    obtain ⟨rfl, rfl⟩ := hnone rfl
    obtain rfl : xs = [] := List.eq_nil_of_length_eq_zero (by simpa using hl)
    clear hc hnone hl h1 hn
    go_enter Try.func81, Try.ntmps81
    go_wp2
    go_ret
    exact ⟨_, rfl, ⟨by simp, .inl ⟨rfl, _, rfl⟩⟩, Ext.refl _⟩
  | some a =>
    have HC := Lib.hid (hc a rfl)
    clear hc hnone
    rcases Nat.eq_zero_or_pos n with rfl | hpos
    · obtain rfl : xs = [] := List.eq_nil_of_length_eq_zero (by simpa using hl)
      clear HC hl h1 hn
      go_enter Try.func81, Try.ntmps81
      go_wp2
      go_ret
      exact ⟨_, rfl, ⟨by simp, .inl ⟨rfl, _, rfl⟩⟩, (Ext.refl _).alloc _⟩
    · obtain ⟨i0, hi, hz0, hz1, hz2⟩ := info_parts infoA
      have Hi := Lib.hid hi
      have Hz0 := Lib.hid hz0
      have Hz1 := Lib.hid hz1
      have Hz2 := Lib.hid hz2
      have H1 := Lib.hid h1
      have HL := Lib.hid hl
      have HN := Lib.hid hn
      clear hi hz0 hz1 hz2 h1 hl hn
      go_enter Try.func81, Try.ntmps81
      go_wp2_with (at_builtin; refine wpList_append_grows _ rfl _ _ 27 rfl 44 i0 (.agg #[.string ByteArray.empty, .string ByteArray.empty]) 2 32 Try.underlying27 Hi.out Hz0.out Hz1.out Hz2.out rfl (by decide) (some ⟨w.heap.size, 0, none⟩) 0 0 [] rfl (by simp) (by simp) (by simp) a n cap xs rfl HL.out ?c2 H1.out (by omega) ?c3 ?c4 ?_)
      case c2 =>
        intro j u hj
        have hcj := HC.out j u hj
        exact (Below.cell ((Ext.refl w).alloc _) (World.block_lt_of_cell? w _ hcj)).trans hcj
      case c3 => have := HN.out; unfold maxLen; omega
      case c4 => have := HN.out; omega
      intro v' w1 hown hg
      have hb : Ext w w1 := ((Ext.refl _).alloc _).grown hg (by simp)
      clear hg
      go_wp2
      go_ret
      refine ⟨_, rfl, ?_, hb⟩
      have hr := RowP.of_owns hown
      exact RowP.imp hr (fun g _ (hg : w.heap.size + 1 ≤ g) => Nat.le_of_succ_le hg)
end Go.Proofs.Ytiglflmjidikpaa

namespace Go.Proofs.Ytiglflmjidikpaa
open Go Go.RowKit Go.BigFrame
set_option linter.unusedVariables false

/-- what holds of every tree; d: how deep a node lies -/
structure WF (T : Tr) (d : Nat → Nat) : Prop where
  small : Small T
  root : ∃ nd, T.nodes[0]? = some (some nd) ∧ nd.parent = -1 ∧ nd.tag = 1
  deep : ∀ (i : Nat) (nd : Nd), T.nodes[i]? = some (some nd) → (d i : Int) ≤ T.deep
  up : ∀ (i : Nat) (nd : Nd), T.nodes[i]? = some (some nd) → nd.parent = -1 ∧ d i = 0 ∨ ∃ (p : Nat) (pd : Nd), nd.parent = (p : Int) ∧ T.nodes[p]? = some (some pd) ∧ d i = d p + 1 ∧ (i : Int) ∈ pd.kids
  kids : ∀ (i : Nat) (nd : Nd), T.nodes[i]? = some (some nd) → nd.kids.Nodup ∧ ∀ k ∈ nd.kids, ∃ (j : Nat) (kd : Nd), k = (j : Int) ∧ T.nodes[j]? = some (some kd) ∧ kd.parent = (i : Int)
  text : ∀ (i : Nat) (nd : Nd), T.nodes[i]? = some (some nd) → 0 ≤ nd.tag ∧ nd.tag ≤ 16 ∧ (nd.tag = 0 → nd.kids = [])
  count : T.count = ((T.nodes.countP Option.isSome : Nat) : Int)
theorem Tr.get_nat (T : Tr) (i : Nat) : T.get? (i : Int) = (T.nodes[i]?).join := by
  unfold Tr.get?; rw [if_neg (by omega), Int.toNat_natCast]
theorem Tr.get_of {T : Tr} {i : Nat} {nd : Nd} (h : T.nodes[i]? = some (some nd)) : T.get? (i : Int) = some nd := by
  rw [T.get_nat, h]; rfl
/-- the cell of the row of nodes, and the node's own cells -/
theorem TreeAt.at {w : World} {own : Ow} {ptr : Nat → Nat} {tb : Nat} {T : Tr} (hT : TreeAt w own ptr tb T) {i : Nat} {nd : Nd} (h : T.nodes[i]? = some (some nd)) :
    ∃ g cap av kv, w.cell? ⟨tb, 3, none⟩ = some (.slice (some ⟨g, 0, none⟩) T.nodes.length cap) ∧ w.cell? ⟨g, i, none⟩ = some (.pointer (some ⟨ptr i, 0, none⟩)) ∧
      w.heap[ptr i]? = some (.cells #[.int .i64 nd.tag, av, .string nd.text, kv, .int .i64 nd.parent] 115 (0, 0)) := by
  obtain ⟨nv, hb, _, hrow⟩ := hT.head
  obtain ⟨g, cap, rfl, hcell⟩ := hrow.cell (i := i) (x := .pointer (some ⟨ptr i, 0, none⟩)) (by simp [nodeVals, List.getElem?_mapIdx, h, nodeVal])
  obtain ⟨av, kv, h1, _⟩ := hT.node i nd h
  exact ⟨g, cap, av, kv, cellOf hb rfl, hcell, h1⟩
theorem TreeAt.nv {w : World} {own : Ow} {ptr : Nat → Nat} {tb : Nat} {T : Tr} (hT : TreeAt w own ptr tb T) {g cap : Nat} {i : Nat} {nd : Nd} (h : T.nodes[i]? = some (some nd))
    (hc : w.cell? ⟨tb, 3, none⟩ = some (.slice (some ⟨g, 0, none⟩) T.nodes.length cap)) : w.cell? ⟨g, i, none⟩ = some (.pointer (some ⟨ptr i, 0, none⟩)) := by
  obtain ⟨g', cap', _, _, h1, h2, _⟩ := hT.at h
  rw [hc] at h1
  cases h1
  exact h2
def up1 (d : Nat → Nat) (v : Value) : Nat := if intOf v < 0 then 0 else d (intOf v).toNat + 1

theorem up1_nat (d : Nat → Nat) (p : Nat) : up1 d (.int .i64 (p : Int)) = d p + 1 := by
  show (if (p : Int) < 0 then 0 else d ((p : Int)).toNat + 1) = d p + 1
  rw [if_neg (by omega), Int.toNat_natCast]
theorem up1_neg (d : Nat → Nat) : up1 d (.int .i64 (-1)) = 0 := rfl

set_option maxRecDepth 20000 in
set_option maxHeartbeats 1000000 in
theorem Depth_some {w : World} {own : Ow} {ptr : Nat → Nat} {tb : Nat} {T : Tr} (hT : TreeAt w own ptr tb T) {d : Nat → Nat} (hw : WF T d) {i : Nat} {nd : Nd} (h : T.nodes[i]? = some (some nd)) :
    Calls Try.prog 36 #[.pointer (some ⟨tb, 0, none⟩), .int .i64 i] w (RSame (.int .i64 (d i)) w) := by
  obtain ⟨g, cap, av, kv, c3, cn, cb⟩ := hT.at h
  have cp := cellOf cb (i := 4) (v := .int .i64 nd.parent) rfl
  have hlt := (List.getElem?_eq_some_iff.1 h).1
  have hlen := hw.small.len
  have HG := Lib.hid (Tr.get_of h)
  have HW := Lib.hid hw
  have HC := Lib.hid c3
  have HN := Lib.hid h
  clear cb h hw
  go_enter Try.func36, Try.ntmps36
  go_wp2_with (go_at_call 80; refine (get_some hT HG.out).mono ?_; rintro e w' ⟨rfl, rfl⟩)
  go_loop [5, 6] (fun v a => ∃ (j : Nat) (jd : Nd) (c : Nat), T.nodes[j]? = some (some jd) ∧ a = .int .i64 jd.parent ∧ v = .int .i64 c ∧ c + d j = d i ∧ c ≤ 40) (fun _ a => up1 d a)
  case atStart => exact ⟨i, nd, 0, HN.out, rfl, rfl, by omega, by omega⟩
  case round =>
    obtain ⟨j, jd, c, hj, rfl, rfl, hcd, hc40⟩ := hrel
    have HJ := Lib.hid hj
    have HCD := Lib.hid hcd
    clear hcd hj
    rcases HW.out.up j jd HJ.out with ⟨h0, h1⟩ | ⟨p, pd, h0, h1, h2, h3⟩
    · have hneg : jd.parent < 0 := by omega
      have H0 := Lib.hid h0
      have H1 := Lib.hid h1
      clear h0 h1
      go_wp2
      go_ret
      exact ⟨ret_int (by have := HCD.out; have := H1.out; omega), rfl⟩
    · obtain ⟨g', cap', av', kv', c3', cn', cb'⟩ := hT.at h1
      have cn'' := hT.nv h1 HC.out
      have cp' := cellOf cb' (i := 4) (v := .int .i64 pd.parent) rfl
      have hlt' := (List.getElem?_eq_some_iff.1 h1).1
      have H1 := Lib.hid h1
      have H2 := Lib.hid h2
      have hdeep := HW.out.deep i nd HN.out
      have hd1 := HW.out.small.deep1
      have hc39 : c ≤ 39 := by have := HCD.out; omega
      clear h1 h2 h3 cb' c3' cn' hdeep hd1
      rw [h0]
      clear h0
      go_wp2
      go_round
      case rel => exact ⟨p, pd, c + 1, H1.out, rfl, by go_num, by have := HCD.out; have := H2.out; omega, by omega⟩
      case measure =>
        have hu := HW.out.up p pd H1.out
        rcases hu with ⟨q0, q1⟩ | ⟨q, qd, q0, q1, q2, q3⟩
        · rw [q0, up1_neg, up1_nat]; omega
        · rw [q0, up1_nat, up1_nat]; omega

set_option maxRecDepth 20000 in
set_option maxHeartbeats 400000 in
theorem Depth_nil (id : Int) (w : World) : Calls Try.prog 36 #[.pointer none, .int .i64 id] w (RSame (.int .i64 (-1)) w) := by
  go_enter Try.func36, Try.ntmps36
  go_wp2_with (go_at_call 80; refine (get_nil _ _).mono ?_; rintro e w' ⟨rfl, rfl⟩)
  go_ret
  exact ⟨rfl, rfl⟩
set_option maxRecDepth 20000 in
set_option maxHeartbeats 400000 in
theorem Depth_none {w : World} {own : Ow} {ptr : Nat → Nat} {tb : Nat} {T : Tr} (hT : TreeAt w own ptr tb T) {id : Int} (h : T.get? id = none) :
    Calls Try.prog 36 #[.pointer (some ⟨tb, 0, none⟩), .int .i64 id] w (RSame (.int .i64 (-1)) w) := by
  have H := Lib.hid h
  clear h
  go_enter Try.func36, Try.ntmps36
  go_wp2_with (go_at_call 80; refine (get_none hT H.out).mono ?_; rintro e w' ⟨rfl, rfl⟩)
  go_ret
  exact ⟨rfl, rfl⟩

/-- is outer met on the way up from i? -/
def isIn (T : Tr) (outer : Int) : Nat → Int → Bool
  | 0, _ => false
  | f + 1, id => if id < 0 then false else if id = outer then true else match T.get? id with
    | some nd => isIn T outer f nd.parent
    | none => false
theorem isIn_step {T : Tr} (outer : Int) (f : Nat) {i : Nat} {nd : Nd} (h : T.nodes[i]? = some (some nd)) : isIn T outer (f + 1) i = if (i : Int) = outer then true else isIn T outer f nd.parent := by
  show (if (i : Int) < 0 then false else if (i : Int) = outer then true else match T.get? i with | some nd => isIn T outer f nd.parent | none => false) = _
  rw [if_neg (by omega), Tr.get_of h]
theorem isIn_neg (T : Tr) (outer : Int) (f : Nat) : isIn T outer f (-1) = false := by cases f <;> simp [isIn]
theorem isIn_more {T : Tr} {d : Nat → Nat} (hw : WF T d) (outer : Int) : ∀ (f g i : Nat) (nd : Nd), T.nodes[i]? = some (some nd) → d i < f → d i < g → isIn T outer f i = isIn T outer g i := by
  intro f
  induction f with
  | zero => intro g i nd h h1; omega
  | succ f ih =>
    intro g i nd h h1 h2
    cases g with
    | zero => omega
    | succ g =>
      rw [isIn_step outer f h, isIn_step outer g h]
      split
      · rfl
      · rcases hw.up i nd h with ⟨h3, h4⟩ | ⟨p, pd, h3, h4, h5, h6⟩
        · rw [h3, isIn_neg, isIn_neg]
        · rw [h3]; exact ih g p pd h4 (by omega) (by omega)
def Tr.within (T : Tr) (id outer : Int) : Bool := isIn T outer 50 id

set_option maxRecDepth 20000 in
set_option maxHeartbeats 1000000 in
theorem within_any {w : World} {own : Ow} {ptr : Nat → Nat} {tb : Nat} {T : Tr} (hT : TreeAt w own ptr tb T) {d : Nat → Nat} (hw : WF T d) {i : Nat} {nd : Nd} (h : T.nodes[i]? = some (some nd)) {outer : Int} (ho : 0 ≤ outer) :
    Calls Try.prog 83 #[.pointer (some ⟨tb, 0, none⟩), .int .i64 i, .int .i64 outer] w (RSame (.bool (T.within i outer)) w) := by
  obtain ⟨g, cap, av, kv, c3, cn, cb⟩ := hT.at h
  have hlt := (List.getElem?_eq_some_iff.1 h).1
  have hlen := hw.small.len
  have hd0 : d i < 50 := by have := hw.deep i nd h; have := hw.small.deep1; omega
  have HW := Lib.hid hw
  have HC := Lib.hid c3
  have HN := Lib.hid h
  clear cb h hw cn
  go_enter Try.func83, Try.ntmps83
  go_wp2_with fail
  go_loop [1] (fun a => a = .int .i64 (-1) ∧ T.within i outer = false ∨ ∃ (j : Nat) (jd : Nd) (f : Nat), T.nodes[j]? = some (some jd) ∧ a = .int .i64 j ∧ d j < f ∧ T.within i outer = isIn T outer f j) (fun a => up1 d a)
  case atStart => exact .inr ⟨i, nd, 50, HN.out, rfl, hd0, rfl⟩
  case round =>
    rcases hrel with ⟨rfl, hno⟩ | ⟨j, jd, f, hj, rfl, hf, hin⟩
    · have HO := Lib.hid hno
      clear hno
      have hne : ((-1 : Int) == outer) = false := by simp; omega
      go_wp2
      go_ret
      exact ⟨by rw [HO.out]; rfl, rfl⟩
    · have HJ := Lib.hid hj
      have HI := Lib.hid hin
      have hltj := (List.getElem?_eq_some_iff.1 hj).1
      clear hin hj
      by_cases he : (j : Int) = outer
      · have HE := Lib.hid he
        have hb : ((j : Int) != outer) = false := by simp [he]
        have hb' : ((j : Int) == outer) = true := by simp [he]
        clear he
        go_wp2
        go_ret
        refine ⟨?_, rfl⟩
        rw [HI.out]
        cases f with
        | zero => omega
        | succ f => unfold isIn; rw [if_neg (by omega), if_pos HE.out]; rfl
      · have hb : ((j : Int) != outer) = true := by simpa using he
        have HE := Lib.hid he
        clear he
        obtain ⟨g', cap', av', kv', c3', cn', cb'⟩ := hT.at HJ.out
        have cn'' := hT.nv HJ.out HC.out
        have cp' := cellOf cb' (i := 4) (v := .int .i64 jd.parent) rfl
        clear cb' c3' cn'
        go_wp2
        go_round
        case rel =>
          cases f with
          | zero => omega
          | succ f =>
            have hI := HI.out
            unfold isIn at hI
            rw [if_neg (by omega), if_neg HE.out, Tr.get_of HJ.out] at hI
            rcases HW.out.up j jd HJ.out with ⟨h3, h4⟩ | ⟨p, pd, h3, h4, h5, h6⟩
            · left
              simp only [h3] at hI
              exact ⟨by rw [h3], by rw [hI]; cases f <;> simp [isIn]⟩
            · right
              simp only [h3] at hI
              exact ⟨p, pd, f, h4, by rw [h3], by omega, hI⟩
        case measure =>
          rcases HW.out.up j jd HJ.out with ⟨h3, h4⟩ | ⟨p, pd, h3, h4, h5, h6⟩
          · rw [h3, up1_neg, up1_nat]; omega
          · rw [h3, up1_nat, up1_nat]; omega
end Go.Proofs.Ytiglflmjidikpaa

namespace Go.Proofs.Ytiglflmjidikpaa
open Go Go.RowKit Go.BigFrame
set_option linter.unusedVariables false

set_option maxRecDepth 20000 in
set_option maxHeartbeats 400000 in
theorem Live_nil (id : Int) (w : World) : Calls Try.prog 28 #[.pointer none, .int .i64 id] w (RSame (.bool false) w) := by
  go_enter Try.func28, Try.ntmps28
  go_wp2_with (go_at_call 80; refine (get_nil _ _).mono ?_; rintro e w' ⟨rfl, rfl⟩)
  go_ret
  exact ⟨rfl, rfl⟩
set_option maxRecDepth 20000 in
set_option maxHeartbeats 400000 in
theorem Live_none {w : World} {own : Ow} {ptr : Nat → Nat} {tb : Nat} {T : Tr} (hT : TreeAt w own ptr tb T) {id : Int} (h : T.get? id = none) :
    Calls Try.prog 28 #[.pointer (some ⟨tb, 0, none⟩), .int .i64 id] w (RSame (.bool false) w) := by
  have H := Lib.hid h
  clear h
  go_enter Try.func28, Try.ntmps28
  go_wp2_with (go_at_call 80; refine (get_none hT H.out).mono ?_; rintro e w' ⟨rfl, rfl⟩)
  go_ret
  exact ⟨rfl, rfl⟩
set_option maxRecDepth 20000 in
set_option maxHeartbeats 400000 in
theorem Live_some {w : World} {own : Ow} {ptr : Nat → Nat} {tb : Nat} {T : Tr} (hT : TreeAt w own ptr tb T) {d : Nat → Nat} (hw : WF T d) {i : Nat} {nd : Nd} (h : T.nodes[i]? = some (some nd)) :
    Calls Try.prog 28 #[.pointer (some ⟨tb, 0, none⟩), .int .i64 i] w (RSame (.bool (T.within i 0)) w) := by
  have H := Lib.hid h
  have HG := Lib.hid (Tr.get_of h)
  have HW := Lib.hid hw
  clear h hw
  go_enter Try.func28, Try.ntmps28
  go_wp2_with (first
    | (go_at_call 80; refine (get_some hT HG.out).mono ?_; rintro e w' ⟨rfl, rfl⟩)
    | (go_at_call 83; refine (within_any hT HW.out H.out (Int.le_refl 0)).mono ?_; rintro e w' ⟨rfl, rfl⟩))
  go_ret
  exact ⟨rfl, rfl⟩

/-- how high a node stands, with fuel -/
def Tr.hgt (T : Tr) : Nat → Int → Int
  | 0, _ => 0
  | f + 1, id => match T.get? id with
    | none => -1
    | some nd => nd.kids.foldl (fun h k => max h (T.hgt f k + 1)) 0
theorem fold_le (F : Int → Int) (b : Int) (h1 : ∀ k, F k ≤ b) (h0 : 0 ≤ b) : ∀ (l : List Int) (z : Int), 0 ≤ z → z ≤ b → 0 ≤ l.foldl (fun h k => max h (F k)) z ∧ l.foldl (fun h k => max h (F k)) z ≤ b := by
  intro l
  induction l with
  | nil => intro z hz hb; exact ⟨hz, hb⟩
  | cons k r ih =>
    intro z hz hb
    have := h1 k
    exact ih _ (show 0 ≤ max z (F k) by omega) (show max z (F k) ≤ b by omega)
theorem Tr.hgt_le (T : Tr) : ∀ (f : Nat) (id : Int), -1 ≤ T.hgt f id ∧ T.hgt f id ≤ f := by
  intro f
  induction f with
  | zero => intro id; simp [Tr.hgt]
  | succ f ih =>
    intro id
    unfold Tr.hgt
    split
    · omega
    · have := fold_le (fun k => T.hgt f k + 1) (f + 1) (fun k => by have := (ih k).2; omega) (by omega)
      rename_i nd _
      have := this nd.kids 0 (Int.le_refl 0) (by omega)
      constructor <;> push_cast <;> omega
theorem WF.kid {T : Tr} {d : Nat → Nat} (hw : WF T d) {i : Nat} {nd : Nd} (h : T.nodes[i]? = some (some nd)) {n : Nat} {k : Int} (hk : nd.kids[n]? = some k) :
    ∃ (j : Nat) (kd : Nd), k = (j : Int) ∧ T.nodes[j]? = some (some kd) ∧ kd.parent = (i : Int) ∧ d j = d i + 1 := by
  obtain ⟨j, kd, h1, h2, h3⟩ := (hw.kids i nd h).2 k (List.mem_of_getElem? hk)
  refine ⟨j, kd, h1, h2, h3, ?_⟩
  rcases hw.up j kd h2 with ⟨h4, h5⟩ | ⟨p, pd, h4, h5, h6, h7⟩
  · omega
  · obtain rfl : p = i := by omega
    exact h6
theorem fold_snoc (F : Int → Int → Int) (l : List Int) (n : Nat) (k : Int) (h : l[n]? = some k) (z : Int) : (l.take (n + 1)).foldl F z = F ((l.take n).foldl F z) k := by
  obtain ⟨hlt, rfl⟩ := List.getElem?_eq_some_iff.1 h
  rw [List.take_succ_eq_append_getElem hlt, List.foldl_append]; rfl

set_option maxRecDepth 20000 in
set_option maxHeartbeats 1000000 in
theorem Height_fuel {w : World} {own : Ow} {ptr : Nat → Nat} {tb : Nat} {T : Tr} (hT : TreeAt w own ptr tb T) {d : Nat → Nat} (hw : WF T d) :
    ∀ (f i : Nat) (nd : Nd), T.nodes[i]? = some (some nd) → 41 ≤ d i + f → f ≤ 100 → Calls Try.prog 50 #[.pointer (some ⟨tb, 0, none⟩), .int .i64 i] w (RSame (.int .i64 (T.hgt f i)) w) := by
  intro f
  induction f with
  | zero => intro i nd h h1; have := hw.deep i nd h; have := hw.small.deep1; omega
  | succ f ih =>
    intro i nd h h1 h2
    obtain ⟨av, kv, cb, _, _, hk⟩ := hT.node i nd h
    obtain ⟨a, cap, rfl, e2, e3⟩ := hk.len
    have ck := cellOf cb (i := 3) (v := .slice a nd.kids.length cap) rfl
    have HG := Lib.hid (Tr.get_of h)
    have HW := Lib.hid hw
    have HN := Lib.hid h
    have IH := Lib.hid ih
    have hval : T.hgt (f + 1) i = nd.kids.foldl (fun h k => max h (T.hgt f k + 1)) 0 := by
      show (match T.get? i with | none => -1 | some nd => nd.kids.foldl (fun h k => max h (T.hgt f k + 1)) 0) = _
      rw [Tr.get_of h]
    have HV := Lib.hid hval
    unfold maxLen at e3
    clear cb hval ih
    by_cases he : nd.kids = []
    · have hz : nd.kids.length = 0 := by rw [he]; rfl
      rw [hz] at ck
      have HE := Lib.hid he
      clear he hz hk h hw h1 h2 e2 e3
      go_enter Try.func50, Try.ntmps50
      go_wp2_with (go_at_call 80; refine (get_some hT HG.out).mono ?_; rintro e w' ⟨rfl, rfl⟩)
      go_loop [6, 8, 19] (fun v k n => n = .int .i64 0 ∧ v = .int .i64 0) (fun _ _ n => 0)
      case atStart => exact ⟨rfl, rfl⟩
      case round =>
        obtain ⟨rfl, rfl⟩ := hrel
        go_wp2
        go_ret
        exact ⟨ret_int (by rw [HV.out, HE.out]; rfl), rfl⟩
    · obtain ⟨g, cap', e, _⟩ := hk.cell (i := 0) (x := .int .i64 (nd.kids.headD 0)) (by cases hh : nd.kids with | nil => exact absurd hh he | cons x r => simp)
      cases e
      have HK := Lib.hid hk
      clear he hk h hw
      go_enter Try.func50, Try.ntmps50
      go_wp2_with (go_at_call 80; refine (get_some hT HG.out).mono ?_; rintro e w' ⟨rfl, rfl⟩)
      go_loop [6, 8, 19] (fun v _ n => ∃ (k : Nat) (z : Int), k ≤ nd.kids.length ∧ n = .int .i64 k ∧ v = .int .i64 z ∧ 0 ≤ z ∧ z ≤ 200 ∧ z = (nd.kids.take k).foldl (fun h k => max h (T.hgt f k + 1)) 0) (fun _ _ n => nd.kids.length - (intOf n).toNat)
      case atStart => exact ⟨0, 0, Nat.zero_le _, rfl, rfl, by omega, by omega, by simp⟩
      case round =>
        obtain ⟨k, z, hk, rfl, rfl, z0, z1, hz⟩ := hrel
        have HZ := Lib.hid hz
        clear hz
        by_cases hlt : k < nd.kids.length
        · obtain ⟨x, hx⟩ : ∃ x, nd.kids[k]? = some x := ⟨nd.kids[k], by simp [hlt]⟩
          obtain ⟨g', cap', e, hc⟩ := HK.out.cell (i := k) (x := .int .i64 x) (by simp [hx])
          cases e
          obtain ⟨j, kd, h3, h4, h5, h6⟩ := HW.out.kid HN.out hx
          obtain ⟨q0, q1⟩ := T.hgt_le f j
          have HX := Lib.hid hx
          have H3 := Lib.hid h3
          have H4 := Lib.hid h4
          rw [h3] at hc
          clear hx h3 h4 h5
          go_wp2_with (go_at_call 50; refine (IH.out j kd H4.out (by omega) (by omega)).mono ?_; rintro e w' ⟨rfl, rfl⟩)
          all_goals
            go_round
            case rel => exact ⟨k + 1, _, by omega, by go_num, rfl, by omega, by omega, by rw [fold_snoc _ _ _ _ HX.out, ← HZ.out, H3.out]; omega⟩
            case measure => simp [intOf]; omega
        · go_wp2
          go_ret
          refine ⟨ret_int ?_, rfl⟩
          rw [HV.out, HZ.out, List.take_of_length_le (by omega)]

/-- the first place of x; -1: there is none -/
def posOf (l : List Int) (x : Int) : Int := if x ∈ l then (l.idxOf x : Int) else -1
theorem posOf_at {l : List Int} {k : Nat} {x : Int} (h : l[k]? = some x) (hno : x ∉ l.take k) : posOf l x = k := by
  obtain ⟨hlt, rfl⟩ := List.getElem?_eq_some_iff.1 h
  unfold posOf
  rw [if_pos (List.getElem_mem hlt)]
  have h2 : l = l.take k ++ l[k] :: l.drop (k + 1) := by rw [← List.drop_eq_getElem_cons hlt, List.take_append_drop]
  have : l.idxOf l[k] = k := by
    conv => lhs; arg 2; rw [h2]
    rw [List.idxOf_append, if_neg hno, List.idxOf_cons_self, List.length_take]
    omega
  rw [this]
theorem posOf_no {l : List Int} {x : Int} (h : x ∉ l) : posOf l x = -1 := if_neg h

set_option maxRecDepth 20000 in
set_option maxHeartbeats 1000000 in
theorem index_any {v : Value} {l : List Int} {w : World} (h : RowRd w 1 v l.length (l.map (Value.int .i64))) (hn : l.length ≤ 60000) (x : Int) :
    Calls Try.prog 85 #[v, .int .i64 x] w (RSame (.int .i64 (posOf l x)) w) := by
  obtain ⟨_, ao, cap, rfl, hcap, hnone, hc⟩ := h
  have HN := Lib.hid hnone
  have HC := Lib.hid hc
  clear hnone hc hcap
  go_enter Try.func85, Try.ntmps85
  go_wp2
  go_loop [5, 8] (fun _ n => ∃ k : Nat, k ≤ l.length ∧ n = .int .i64 k ∧ x ∉ l.take k) (fun _ n => l.length - (intOf n).toNat)
  case atStart => exact ⟨0, Nat.zero_le _, rfl, by simp⟩
  case round =>
    obtain ⟨k, hk, rfl, hno⟩ := hrel
    have HO := Lib.hid hno
    clear hno
    by_cases hlt : k < l.length
    · cases ao with
      | none => exact absurd (HN.out rfl).1 (by omega)
      | some a =>
        obtain ⟨b, off, sp⟩ := a
        obtain ⟨y, hy⟩ : ∃ y, l[k]? = some y := ⟨l[k], by simp [hlt]⟩
        have hcell := HC.out _ rfl k (.int .i64 y) (by simp [hy])
        have HY := Lib.hid hy
        clear hy
        by_cases he : x = y
        · subst he
          go_wp2
          go_ret
          exact ⟨ret_int (by rw [posOf_at HY.out HO.out]), rfl⟩
        · have hb : (x == y) = false := by simpa using he
          have HE := Lib.hid he
          clear he
          go_wp2
          go_round
          case rel =>
            refine ⟨k + 1, by omega, by go_num, ?_⟩
            obtain ⟨hlt', hy⟩ := List.getElem?_eq_some_iff.1 HY.out
            rw [List.take_succ_eq_append_getElem hlt', List.mem_append, hy]
            intro hm
            rcases hm with hm | hm
            · exact HO.out hm
            · exact HE.out (by simpa using hm)
          case measure => simp [intOf]; omega
    · go_wp2
      go_ret
      refine ⟨ret_int ?_, rfl⟩
      have h := HO.out
      rw [List.take_of_length_le (by omega)] at h
      rw [posOf_no h]
end Go.Proofs.Ytiglflmjidikpaa
