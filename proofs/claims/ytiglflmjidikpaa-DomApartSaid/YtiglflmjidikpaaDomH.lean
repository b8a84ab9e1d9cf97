/- Package dom: what a step of a tree may turn (Step), and what becomes of the tree in memory by a store: laws without any walk. -/
import Derived.Test.YtiglflmjidikpaaDomG
namespace Go.Proofs.Ytiglflmjidikpaa
open Go Go.RowKit Go.BigFrame
set_option linter.unusedVariables false

/-- what a call on a tree may turn: the tree's own blocks; who owns an old block stays -/
structure Step (own : Ow) (w : World) (own' : Ow) (w' : World) : Prop where
  os : w'.os = w.os
  tape : w'.tape = w.tape
  output : w'.output = w.output
  size : w.heap.size ≤ w'.heap.size
  rest : ∀ b, b < w.heap.size → own b = none → w'.heap[b]? = w.heap[b]?
  same : ∀ b, b < w.heap.size → own' b = own b
  owned : Owned own' w'
theorem Step.refl {own : Ow} {w : World} (h : Owned own w) : Step own w own w := ⟨rfl, rfl, rfl, Nat.le_refl _, fun _ _ _ => rfl, fun _ _ => rfl, h⟩
theorem Step.trans {o1 o2 o3 : Ow} {a b c : World} (h : Step o1 a o2 b) (k : Step o2 b o3 c) : Step o1 a o3 c :=
  ⟨k.os.trans h.os, k.tape.trans h.tape, k.output.trans h.output, Nat.le_trans h.size k.size,
   fun x hx hn => (k.rest x (Nat.lt_of_lt_of_le hx h.size) ((h.same x hx).trans hn)).trans (h.rest x hx hn),
   fun x hx => (k.same x (Nat.lt_of_lt_of_le hx h.size)).trans (h.same x hx), k.owned⟩
theorem Step.ext {own own' : Ow} {a b c : World} (h : Step own a own' b) (k : Ext b c) : Step own a own' c :=
  ⟨(Below.os k).trans h.os, (Below.tape k).trans h.tape, (Below.output k).trans h.output, Nat.le_trans h.size (Ext.size k),
   fun x hx hn => (Below.block k x (Nat.lt_of_lt_of_le hx h.size)).trans (h.rest x hx hn), h.same, fun x hx => Nat.lt_of_lt_of_le (h.owned x hx) (Ext.size k)⟩
theorem Step.setCell {own own' : Ow} {a b : World} (h : Step own a own' b) {p : Addr} (hp : p.block < a.heap.size → own p.block ≠ none) (u : Value) : Step own a own' (b.setCell p u) :=
  ⟨h.os, h.tape, h.output, by have := h.size; simpa [World.setCell] using this,
   fun x hx hn => by rw [Below.heap_setCell _ _ _ _ (fun e => hp (e ▸ hx) (e ▸ hn))]; exact h.rest x hx hn, h.same,
   fun x hx => by have := h.owned x hx; simpa [World.setCell] using this⟩
/-- new blocks get their owners -/
theorem Step.own {own own' own'' : Ow} {a b : World} (h : Step own a own' b) (h1 : ∀ x, x < a.heap.size → own'' x = own' x) (h2 : Owned own'' b) : Step own a own'' b :=
  ⟨h.os, h.tape, h.output, h.size, h.rest, fun x hx => (h1 x hx).trans (h.same x hx), h2⟩

theorem heap_setCell_same {w : World} {b i : Nat} {cs : Array Value} {t : TypeId} {fr : Nat × Nat} (h : w.heap[b]? = some (.cells cs t fr)) (u : Value) :
    (w.setCell ⟨b, i, none⟩ u).heap[b]? = some (.cells (cs.setIfInBounds i u) t fr) := by
  simp [World.setCell, Array.getElem?_modify, h]
theorem heap_setCell_other {w : World} {p : Addr} {b : Nat} (u : Value) (h : b ≠ p.block) : (w.setCell p u).heap[b]? = w.heap[b]? := Below.heap_setCell _ _ _ _ h

theorem RowP.move {w w' : World} {p p' : Nat → Prop} {e size : Nat} {v : Value} {n : Nat} {xs : List Value} (h : RowP w p e size v n xs) (k : ∀ g, p g → w'.heap[g]? = w.heap[g]? ∧ p' g) : RowP w' p' e size v n xs := by
  refine ⟨h.1, ?_⟩
  rcases h.2 with h0 | ⟨g, cap, cur, h1, h2, h3, h4⟩
  · exact .inl h0
  · exact .inr ⟨g, cap, cur, h1, (k g h2).2, by rw [(k g h2).1]; exact h3, h4⟩
/-- one node in memory -/
def NodeAt (w : World) (own : Ow) (i pb : Nat) (nd : Nd) : Prop :=
  ∃ av kv, w.heap[pb]? = some (.cells #[.int .i64 nd.tag, av, .string nd.text, kv, .int .i64 nd.parent] 115 (0, 0)) ∧
    own pb = some (2, i) ∧ RowAt w own 44 2 (3, i) av nd.attrs.length (attrCells nd.attrs) ∧ RowAt w own 3 1 (4, i) kv nd.kids.length (nd.kids.map (Value.int .i64))
theorem NodeAt.move {w w' : World} {own own' : Ow} {i pb : Nat} {nd : Nd} (h : NodeAt w own i pb nd) (k : ∀ b c, own b = some (c, i) → 2 ≤ c → w'.heap[b]? = w.heap[b]? ∧ own' b = own b) : NodeAt w' own' i pb nd := by
  obtain ⟨av, kv, h1, h2, h3, h4⟩ := h
  refine ⟨av, kv, by rw [(k pb 2 h2 (Nat.le_refl _)).1]; exact h1, by rw [(k pb 2 h2 (Nat.le_refl _)).2]; exact h2, RowP.move h3 fun g hg => ?_, RowP.move h4 fun g hg => ?_⟩
  · have := k g 3 hg (by omega); exact ⟨this.1, this.2.trans hg⟩
  · have := k g 4 hg (by omega); exact ⟨this.1, this.2.trans hg⟩
theorem TreeAt.nodeAt {w : World} {own : Ow} {ptr : Nat → Nat} {tb : Nat} {T : Tr} (h : TreeAt w own ptr tb T) {i : Nat} {nd : Nd} (hi : T.nodes[i]? = some (some nd)) : NodeAt w own i (ptr i) nd := h.node i nd hi

/-- the count is stored -/
theorem TreeAt.setCount {w : World} {own : Ow} {ptr : Nat → Nat} {tb : Nat} {T : Tr} (h : TreeAt w own ptr tb T) (c : Int) : TreeAt (w.setCell ⟨tb, 2, none⟩ (.int .i64 c)) own ptr tb { T with count := c } := by
  obtain ⟨nv, h1, h2, h3⟩ := h.head
  have k : ∀ b x, own b = some x → x ≠ (0, 0) → (w.setCell ⟨tb, 2, none⟩ (.int .i64 c)).heap[b]? = w.heap[b]? := fun b x hb hx =>
    heap_setCell_other _ (fun (e : b = tb) => hx (by rw [e, h2] at hb; exact (Option.some.inj hb).symm))
  constructor
  · exact ⟨nv, by rw [heap_setCell_same h1]; rfl, h2, RowP.move h3 fun g hg => ⟨k g _ hg (by simp), hg⟩⟩
  · intro i nd hi
    exact (h.nodeAt hi).move fun b x hb hx => ⟨k b _ hb (by simp; omega), rfl⟩

/-- the row of nodes with one more place, stored -/
theorem TreeAt.grow {w w' : World} {own own' : Ow} {ptr : Nat → Nat} {tb : Nat} {T : Tr} (h : TreeAt w own ptr tb T) {v : Value}
    (hr : RowAt w' own' 110 1 (1, 0) v (T.nodes.length + 1) (nodeVals ptr T.nodes ++ [.pointer none]))
    (k : ∀ b x, own b = some x → x ≠ (1, 0) → w'.heap[b]? = w.heap[b]? ∧ own' b = own b) :
    TreeAt (w'.setCell ⟨tb, 3, none⟩ v) own' ptr tb { T with nodes := T.nodes ++ [none] } := by
  obtain ⟨nv, h1, h2, h3⟩ := h.head
  have h1' := (k tb _ h2 (by simp)).1.trans h1
  have h2' := (k tb _ h2 (by simp)).2.trans h2
  have k' : ∀ b x, own' b = some x → x ≠ (0, 0) → (w'.setCell ⟨tb, 3, none⟩ v).heap[b]? = w'.heap[b]? := fun b x hb hx =>
    heap_setCell_other _ (fun (e : b = tb) => hx (by rw [e, h2'] at hb; exact (Option.some.inj hb).symm))
  constructor
  · refine ⟨v, by rw [heap_setCell_same h1']; rfl, h2', ?_⟩
    have : nodeVals ptr (T.nodes ++ [none]) = nodeVals ptr T.nodes ++ [.pointer none] := by simp [nodeVals, List.mapIdx_append, nodeVal]
    rw [this, List.length_append]
    exact RowP.move hr fun g hg => ⟨k' g _ hg (by simp), hg⟩
  · intro i nd hi
    have hi' : T.nodes[i]? = some (some nd) := by
      rw [List.getElem?_append] at hi
      split at hi
      · exact hi
      · rename_i hge
        rcases Nat.eq_zero_or_pos (i - T.nodes.length) with h0 | h0
        · rw [h0] at hi; simp at hi
        · rw [List.getElem?_eq_none (by simp; omega)] at hi; cases hi
    refine (h.nodeAt hi').move fun b x hb hx => ?_
    have := k b _ hb (by simp; omega)
    exact ⟨(k' b (x, i) (this.2.trans hb) (by simp; omega)).trans this.1, this.2⟩

/-- a node's fields, stored one by one: what must be known of the new row where there is one -/
theorem TreeAt.setNode {w w' : World} {own own' : Ow} {ptr : Nat → Nat} {tb : Nat} {T : Tr} (h : TreeAt w own ptr tb T) {i : Nat} {nd nd' : Nd} (hi : T.nodes[i]? = some (some nd))
    (hn : NodeAt w' own' i (ptr i) nd') (k : ∀ b x, own b = some x → (2 ≤ x.1 → x.2 ≠ i) → w'.heap[b]? = w.heap[b]? ∧ own' b = own b) :
    TreeAt w' own' ptr tb { T with nodes := T.nodes.set i (some nd') } := by
  obtain ⟨nv, h1, h2, h3⟩ := h.head
  have hlt := (List.getElem?_eq_some_iff.1 hi).1
  constructor
  · refine ⟨nv, (k tb _ h2 (by simp)).1.trans h1, (k tb _ h2 (by simp)).2.trans h2, ?_⟩
    have e : nodeVals ptr (T.nodes.set i (some nd')) = nodeVals ptr T.nodes := by
      apply List.ext_getElem?
      intro j
      simp only [nodeVals, List.getElem?_mapIdx, List.getElem?_set]
      split
      · rename_i hj; subst hj; rw [hi]; simp [nodeVal]
      · rfl
    rw [e, List.length_set]
    exact RowP.move h3 fun g hg => ⟨(k g _ hg (by simp)).1, (k g _ hg (by simp)).2.trans hg⟩
  · intro j md hj
    rw [List.getElem?_set] at hj
    split at hj
    · rename_i hji
      subst hji
      simp at hj
      subst hj
      exact hn
    · rename_i hji
      refine (h.nodeAt hj).move fun b x hb hx => ?_
      exact k b _ hb (fun _ => Ne.symm hji)

/-- a new node at a free place -/
theorem TreeAt.place {w w' : World} {own own' : Ow} {ptr : Nat → Nat} {tb : Nat} {T : Tr} (h : TreeAt w own ptr tb T) {i B g cap : Nat} {nd : Nd} (hi : T.nodes[i]? = some none)
    (hg : w.heap[tb]? = some (.cells #[.int .i64 T.cap, .int .i64 T.deep, .int .i64 T.count, .slice (some ⟨g, 0, none⟩) T.nodes.length cap] 119 (0, 0)))
    (hn : NodeAt w' own' i B nd) (k : ∀ b x, own b = some x → w'.heap[b]? = w.heap[b]? ∧ own' b = own b) :
    TreeAt (w'.setCell ⟨g, i, none⟩ (.pointer (some ⟨B, 0, none⟩))) own' (fun j => if j = i then B else ptr j) tb { T with nodes := T.nodes.set i (some nd) } := by
  obtain ⟨nv, h1, h2, h3⟩ := h.head
  have hlt := (List.getElem?_eq_some_iff.1 hi).1
  rw [hg] at h1
  obtain rfl : nv = .slice (some ⟨g, 0, none⟩) T.nodes.length cap := by simp at h1; exact h1.symm
  rcases h3.2 with ⟨h0, _⟩ | ⟨g', cap', cur, q1, q2, q3, q4, q5, q6, q7⟩
  · omega
  obtain ⟨rfl, rfl⟩ : g = g' ∧ cap = cap' := by simp at q1; exact q1
  have kg := k g _ q2
  have k' : ∀ b, own' b ≠ own' g → (w'.setCell ⟨g, i, none⟩ (.pointer (some ⟨B, 0, none⟩))).heap[b]? = w'.heap[b]? := fun b hb => heap_setCell_other _ (fun (e : b = g) => hb (by rw [e]))
  have hog : own' g = some (1, 0) := kg.2.trans q2
  constructor
  · have kt := k tb _ h2
    refine ⟨_, ((k' tb (by rw [hog, kt.2, h2]; simp)).trans kt.1).trans hg, kt.2.trans h2, ?_⟩
    refine ⟨by simp [nodeVals], .inr ⟨g, cap, cur.setIfInBounds i (.pointer (some ⟨B, 0, none⟩)), by simp, hog, by rw [heap_setCell_same (kg.1.trans q3)], by simpa using q4, q5, by simpa using q6, ?_⟩⟩
    apply List.ext_getElem?
    intro j
    have hq : (cur.toList.take (T.nodes.length * 1))[j]? = (nodeVals ptr T.nodes)[j]? := by rw [q7]
    simp only [nodeVals, List.getElem?_mapIdx, List.getElem?_take, List.length_set, Array.toList_setIfInBounds, List.getElem?_set, Nat.mul_one] at hq ⊢
    by_cases hj : i = j
    · subst hj
      rw [if_pos hlt, if_pos rfl, if_pos rfl, if_pos (by simp; omega), if_pos hlt]
      simp [nodeVal]
    · rw [if_neg hj, if_neg hj, hq]
      cases T.nodes[j]? with
      | none => rfl
      | some x => cases x <;> simp [nodeVal, Ne.symm hj]
  · intro j md hj
    rw [List.getElem?_set] at hj
    split at hj
    · rename_i hji
      subst hji
      simp at hj
      subst hj
      show NodeAt _ own' i (if i = i then B else ptr i) nd
      rw [if_pos rfl]
      exact hn.move fun b x hb hx => ⟨k' b (by rw [hb, hog]; simp; omega), rfl⟩
    · rename_i hji
      show NodeAt _ own' j (if j = i then B else ptr j) md
      rw [if_neg (Ne.symm hji)]
      refine (h.nodeAt hj).move fun b x hb hx => ?_
      have := k b _ hb
      exact ⟨(k' b (by rw [this.2, hb, hog]; simp; omega)).trans this.1, this.2⟩
end Go.Proofs.Ytiglflmjidikpaa
