/- Package dom in memory: what a tree is in plain words (Tr, Nd), how it lies in memory (TreeAt), and the contracts of its small functions that only read. -/
import Derived.Test.YtiglflmjidikpaaBase
import Derived.Test.YtiglflmjidikpaaRows
namespace Go.Proofs.Ytiglflmjidikpaa
open Go Go.RowKit Go.BigFrame
set_option linter.unusedVariables false

structure Nd where
  tag : Int
  attrs : List (ByteArray × ByteArray)
  text : ByteArray
  kids : List Int
  parent : Int
structure Tr where
  cap : Int
  deep : Int
  count : Int
  nodes : List (Option Nd)

/-- whose is a block? -/
abbrev Ow := Nat → Option (Nat × Nat)
/-- a slice of n elements that starts its block (of which p holds) with these cells; an empty one without room may lie anywhere -/
def RowP (w : World) (p : Nat → Prop) (e size : Nat) (v : Value) (n : Nat) (xs : List Value) : Prop :=
  xs.length = n * size ∧ ((n = 0 ∧ ∃ a, v = .slice a 0 0) ∨
    ∃ g cap cur, v = .slice (some ⟨g, 0, none⟩) n cap ∧ p g ∧ w.heap[g]? = some (.cells cur e (0, 0)) ∧ n ≤ cap ∧ cap ≤ maxLen ∧ cur.size = cap * size ∧ cur.toList.take (n * size) = xs)
/-- .. owned -/
def RowAt (w : World) (own : Ow) (e size : Nat) (o : Nat × Nat) (v : Value) (n : Nat) (xs : List Value) : Prop := RowP w (fun g => own g = some o) e size v n xs
/-- .. in new memory -/
def RowIn (w : World) (B : Nat) (e size : Nat) (v : Value) (n : Nat) (xs : List Value) : Prop := RowP w (fun g => B ≤ g) e size v n xs
/-- a slice that reads so, wherever it lies -/
def RowRd (w : World) (size : Nat) (v : Value) (n : Nat) (xs : List Value) : Prop :=
  xs.length = n * size ∧ ∃ ao cap, v = .slice ao n cap ∧ n ≤ cap ∧ (ao = none → n = 0 ∧ cap = 0) ∧ ∀ a, ao = some a → ∀ (j : Nat) x, xs[j]? = some x → w.cell? (a.add j) = some x
def attrCells : List (ByteArray × ByteArray) → List Value
  | [] => []
  | (a, b) :: r => .string a :: .string b :: attrCells r
def nodeVal (ptr : Nat → Nat) (i : Nat) : Option Nd → Value
  | some _ => .pointer (some ⟨ptr i, 0, none⟩)
  | none => .pointer none
def nodeVals (ptr : Nat → Nat) (l : List (Option Nd)) : List Value := l.mapIdx (nodeVal ptr)
/-- the tree at block tb -/
structure TreeAt (w : World) (own : Ow) (ptr : Nat → Nat) (tb : Nat) (T : Tr) : Prop where
  head : ∃ nv, w.heap[tb]? = some (.cells #[.int .i64 T.cap, .int .i64 T.deep, .int .i64 T.count, nv] 119 (0, 0)) ∧ own tb = some (0, 0) ∧
    RowAt w own 110 1 (1, 0) nv T.nodes.length (nodeVals ptr T.nodes)
  node : ∀ i nd, T.nodes[i]? = some (some nd) → ∃ av kv, w.heap[ptr i]? = some (.cells #[.int .i64 nd.tag, av, .string nd.text, kv, .int .i64 nd.parent] 115 (0, 0)) ∧
    own (ptr i) = some (2, i) ∧ RowAt w own 44 2 (3, i) av nd.attrs.length (attrCells nd.attrs) ∧ RowAt w own 3 1 (4, i) kv nd.kids.length (nd.kids.map (Value.int .i64))
/-- the numbers are small -/
structure Small (T : Tr) : Prop where
  cap0 : 0 ≤ T.cap
  cap1 : T.cap ≤ 2000
  deep0 : 0 ≤ T.deep
  deep1 : T.deep ≤ 40
  count0 : 0 ≤ T.count
  count1 : T.count ≤ T.cap
  len : T.nodes.length ≤ 2000

def Tr.get? (T : Tr) (id : Int) : Option Nd := if id < 0 then none else (T.nodes[id.toNat]?).join

/-- all blocks that are owned, and what is read of them, stays -/
def Keep (own : Ow) (w w' : World) : Prop := ∀ b, own b ≠ none → w'.heap[b]? = w.heap[b]?
theorem RowAt.keep {w w' : World} {own : Ow} {e size : Nat} {o : Nat × Nat} {v : Value} {n : Nat} {xs : List Value} (h : RowAt w own e size o v n xs) (k : Keep own w w') : RowAt w' own e size o v n xs := by
  refine ⟨h.1, ?_⟩
  rcases h.2 with h0 | ⟨g, cap, cur, h1, h2, h3, h4⟩
  · exact .inl h0
  · exact .inr ⟨g, cap, cur, h1, h2, by rw [k g (by simp [h2])]; exact h3, h4⟩
theorem TreeAt.keep {w w' : World} {own : Ow} {ptr : Nat → Nat} {tb : Nat} {T : Tr} (h : TreeAt w own ptr tb T) (k : Keep own w w') : TreeAt w' own ptr tb T := by
  constructor
  · obtain ⟨nv, h1, h2, h3⟩ := h.head
    exact ⟨nv, by rw [k tb (by simp [h2])]; exact h1, h2, h3.keep k⟩
  · intro i nd hi
    obtain ⟨av, kv, h1, h2, h3, h4⟩ := h.node i nd hi
    exact ⟨av, kv, by rw [k _ (by simp [h2])]; exact h1, h2, h3.keep k, h4.keep k⟩
/-- owned blocks are there -/
def Owned (own : Ow) (w : World) : Prop := ∀ b, own b ≠ none → b < w.heap.size
theorem Ext.keep {w w' : World} {own : Ow} (h : Ext w w') (o : Owned own w) : Keep own w w' := fun b hb => Below.block h b (o b hb)

theorem cellOf {w : World} {b : Nat} {cs : Array Value} {t : TypeId} {fr : Nat × Nat} (h : w.heap[b]? = some (.cells cs t fr)) {i : Nat} {v : Value} (hi : cs[i]? = some v) : w.cell? ⟨b, i, none⟩ = some v := by
  simp [World.cell?, h, hi]
theorem freeOf {w : World} {b : Nat} {cs : Array Value} {t : TypeId} (h : w.heap[b]? = some (.cells cs t (0, 0))) (i : Nat) : w.frozen? ⟨b, i, none⟩ = false := by
  simp [World.frozen?, h]
theorem RowP.rd {w : World} {p : Nat → Prop} {e size : Nat} {v : Value} {n : Nat} {xs : List Value} (h : RowP w p e size v n xs) : RowRd w size v n xs := by
  refine ⟨h.1, ?_⟩
  rcases h.2 with ⟨rfl, a, rfl⟩ | ⟨g, cap, cur, rfl, h2, h3, h4, h5, h6, h7⟩
  · have hl := h.1
    obtain rfl : xs = [] := List.eq_nil_of_length_eq_zero (by simpa using hl)
    exact ⟨a, 0, rfl, Nat.le_refl _, fun _ => ⟨rfl, rfl⟩, fun a' _ j x hx => by simp at hx⟩
  · refine ⟨_, cap, rfl, h4, (fun h => by cases h), fun a ha j x hx => ?_⟩
    cases ha
    rw [Addr.add_lit, Nat.zero_add]
    refine cellOf h3 ?_
    rw [← h7, List.getElem?_take] at hx
    split at hx
    · simpa using hx
    · cases hx
theorem RowRd.len_of {w : World} {size : Nat} {v : Value} {n : Nat} {xs : List Value} (h : RowRd w size v n xs) : ∃ a cap, v = .slice a n cap ∧ n ≤ cap := by
  obtain ⟨_, a, cap, h1, h2, _⟩ := h
  exact ⟨a, cap, h1, h2⟩
theorem RowRd.ext {w w' : World} {size : Nat} {v : Value} {n : Nat} {xs : List Value} (h : RowRd w size v n xs) (k : Ext w w') : RowRd w' size v n xs := by
  obtain ⟨h1, ao, cap, h2, h3, h4, h5⟩ := h
  refine ⟨h1, ao, cap, h2, h3, h4, fun a ha j x hx => ?_⟩
  have hc := h5 a ha j x hx
  exact (Below.cell k (World.block_lt_of_cell? w _ hc)).trans hc
theorem RowP.imp {w : World} {p q : Nat → Prop} {e size : Nat} {v : Value} {n : Nat} {xs : List Value} (h : RowP w p e size v n xs) (k : ∀ g, v.ownBlock = some g → p g → q g) : RowP w q e size v n xs := by
  refine ⟨h.1, ?_⟩
  rcases h.2 with h0 | ⟨g, cap, cur, h1, h2, h3⟩
  · exact .inl h0
  · exact .inr ⟨g, cap, cur, h1, k g (by rw [h1]; rfl) h2, h3⟩
theorem RowP.ext {w w' : World} {p : Nat → Prop} {e size : Nat} {v : Value} {n : Nat} {xs : List Value} (h : RowP w p e size v n xs) (k : Ext w w') : RowP w' p e size v n xs := by
  refine ⟨h.1, ?_⟩
  rcases h.2 with h0 | ⟨g, cap, cur, h1, h2, h3, h4⟩
  · exact .inl h0
  · exact .inr ⟨g, cap, cur, h1, h2, k.block h3, h4⟩
theorem RowP.block {w : World} {B e size : Nat} {v : Value} {n : Nat} {xs : List Value} (h : RowP w (fun g => B ≤ g) e size v n xs) : ∃ rb : Option Nat, RowP w (fun g => rb = some g) e size v n xs ∧ ∀ k, rb = some k → B ≤ k ∧ k < w.heap.size := by
  rcases h.2 with h0 | ⟨g, cap, cur, h1, h2, h3, h4⟩
  · exact ⟨none, ⟨h.1, .inl h0⟩, fun k hk => by cases hk⟩
  · exact ⟨some g, ⟨h.1, .inr ⟨g, cap, cur, h1, rfl, h3, h4⟩⟩, fun k hk => by cases hk; exact ⟨h2, (Array.getElem?_eq_some_iff.1 h3).1⟩⟩
theorem RowIn.block {w : World} {B e size : Nat} {v : Value} {n : Nat} {xs : List Value} (h : RowIn w B e size v n xs) : ∃ rb : Option Nat, RowP w (fun g => rb = some g) e size v n xs ∧ ∀ k, rb = some k → B ≤ k ∧ k < w.heap.size := RowP.block h
theorem RowP.of_owns {w : World} {B e size : Nat} {v : Value} {n : Nat} {xs : List Value} (h : w.ownsRow B e size v n xs) : RowIn w B e size v n xs := by
  refine ⟨h.1, ?_⟩
  rcases h.2 with ⟨h1, h2⟩ | ⟨g, cap, cur, h1, h2, h3, h4⟩
  · exact .inl ⟨h2, none, h2 ▸ h1⟩
  · exact .inr ⟨g, cap, cur, h1, h2, h3, h4⟩
theorem RowAt.cell {w : World} {own : Ow} {e : Nat} {o : Nat × Nat} {v : Value} {n : Nat} {xs : List Value} (h : RowAt w own e 1 o v n xs) {i : Nat} {x : Value} (hx : xs[i]? = some x) :
    ∃ g cap, v = .slice (some ⟨g, 0, none⟩) n cap ∧ w.cell? ⟨g, i, none⟩ = some x := by
  rcases h.2 with ⟨h0, _⟩ | ⟨g, cap, cur, h1, h2, h3, h4, h5, h6, h7⟩
  · have hl := h.1
    rw [h0] at hl
    obtain rfl : xs = [] := List.eq_nil_of_length_eq_zero (by simpa using hl)
    simp at hx
  · refine ⟨g, cap, h1, cellOf h3 ?_⟩
    rw [← h7, List.getElem?_take] at hx
    split at hx
    · simpa using hx
    · cases hx
theorem RowAt.len {w : World} {own : Ow} {e size : Nat} {o : Nat × Nat} {v : Value} {n : Nat} {xs : List Value} (h : RowAt w own e size o v n xs) : ∃ a cap, v = .slice a n cap ∧ n ≤ cap ∧ cap ≤ maxLen := by
  rcases h.2 with ⟨rfl, a, rfl⟩ | ⟨g, cap, cur, h1, h2, h3, h4, h5, h6⟩
  · exact ⟨a, 0, rfl, Nat.le_refl _, Nat.zero_le _⟩
  · exact ⟨_, cap, h1, h4, h5⟩

/-- a value is returned, and nothing has turned -/
def RSame (v : Value) (w : World) (e : Ending) (w' : World) : Prop := e = .returned v ∧ w = w'
/-- a value is returned; only new blocks -/
def RVal (v : Value) (w : World) (e : Ending) (w' : World) : Prop := e = .returned v ∧ Ext w w'
theorem RSame.val {P : Program} {f : FuncId} {args : Array Value} {v : Value} {w : World} (h : Calls P f args w (RSame v w)) : Calls P f args w (RVal v w) :=
  h.mono fun e w' hh => ⟨hh.1, hh.2 ▸ Ext.refl w⟩

theorem Tr.get_lt {T : Tr} {id : Int} {nd : Nd} (h : T.get? id = some nd) : 0 ≤ id ∧ id.toNat < T.nodes.length ∧ T.nodes[id.toNat]? = some (some nd) := by
  unfold Tr.get? at h
  split at h
  · cases h
  · have h' : T.nodes[id.toNat]? = some (some nd) := by
      cases hc : T.nodes[id.toNat]? with
      | none => rw [hc] at h; cases h
      | some x => rw [hc] at h; simpa using h
    exact ⟨by omega, (List.getElem?_eq_some_iff.1 h').1, h'⟩

set_option maxHeartbeats 400000 in
theorem get_nil (id : Int) (w : World) : Calls Try.prog 80 #[.pointer none, .int .i64 id] w (RSame (.pointer none) w) := by
  go_enter Try.func80, Try.ntmps80
  go_wp2
  go_ret
  exact ⟨rfl, rfl⟩
set_option maxHeartbeats 400000 in
theorem get_some {w : World} {own : Ow} {ptr : Nat → Nat} {tb : Nat} {T : Tr} (hT : TreeAt w own ptr tb T) {id : Int} {nd : Nd} (h : T.get? id = some nd) :
    Calls Try.prog 80 #[.pointer (some ⟨tb, 0, none⟩), .int .i64 id] w (RSame (.pointer (some ⟨ptr id.toNat, 0, none⟩)) w) := by
  obtain ⟨h0, hlt, hnd⟩ := Tr.get_lt h
  obtain ⟨i, rfl⟩ := Int.eq_ofNat_of_zero_le h0
  simp only [Int.toNat_natCast] at hlt hnd ⊢
  obtain ⟨nv, hb, _, hrow⟩ := hT.head
  obtain ⟨g, cap, rfl, hcell⟩ := hrow.cell (i := i) (x := .pointer (some ⟨ptr i, 0, none⟩)) (by simp [nodeVals, List.getElem?_mapIdx, hnd, nodeVal])
  obtain ⟨_, _, e1, e2, e3⟩ := hrow.len
  cases e1
  have c3 := cellOf hb (i := 3) rfl
  unfold maxLen at e3
  clear hb hrow hT hnd h h0
  go_enter Try.func80, Try.ntmps80
  go_wp2
  go_ret
  exact ⟨rfl, rfl⟩
set_option maxHeartbeats 400000 in
theorem get_none {w : World} {own : Ow} {ptr : Nat → Nat} {tb : Nat} {T : Tr} (hT : TreeAt w own ptr tb T) {id : Int} (h : T.get? id = none) :
    Calls Try.prog 80 #[.pointer (some ⟨tb, 0, none⟩), .int .i64 id] w (RSame (.pointer none) w) := by
  obtain ⟨nv, hb, _, hrow⟩ := hT.head
  obtain ⟨a, cap, rfl, e2, e3⟩ := hrow.len
  have c3 := cellOf hb (i := 3) rfl
  unfold maxLen at e3
  by_cases h0 : id < 0
  · clear hb hrow hT h
    go_enter Try.func80, Try.ntmps80
    go_wp2
    go_ret
    exact ⟨rfl, rfl⟩
  · obtain ⟨i, rfl⟩ := Int.eq_ofNat_of_zero_le (by omega : 0 ≤ id)
    by_cases hlt : i < T.nodes.length
    · have hnd : T.nodes[i]? = some none := by
        unfold Tr.get? at h
        rw [if_neg h0, Int.toNat_natCast] at h
        cases hc : T.nodes[i]? with
        | none => rw [List.getElem?_eq_none_iff] at hc; omega
        | some x => rw [hc] at h; cases x with
          | none => rfl
          | some y => simp at h
      obtain ⟨g, cap', e, hcell⟩ := hrow.cell (i := i) (x := .pointer none) (by simp [nodeVals, List.getElem?_mapIdx, hnd, nodeVal])
      cases e
      clear hb hrow hT hnd h h0
      go_enter Try.func80, Try.ntmps80
      go_wp2
      go_ret
      exact ⟨rfl, rfl⟩
    · clear hb hrow hT h
      go_enter Try.func80, Try.ntmps80
      go_wp2
      go_ret
      exact ⟨rfl, rfl⟩
end Go.Proofs.Ytiglflmjidikpaa
