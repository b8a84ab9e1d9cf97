/- A live tree in memory: its box, the row of places that are held, and dom's tree. No conditions. -/
import Derived.Test.YthgnbbbdcebjhaaVA
namespace Go.Proofs.Ythgnbbbdcebjhaa
open Go Go.RowKit Go.BigFrame
set_option linter.unusedVariables false
set_option linter.unusedSimpArgs false

/-- all old blocks but those of S are as they were -/
structure Mv (S : Nat → Prop) (w w' : World) : Prop where
  os : w'.os = w.os
  tape : w'.tape = w.tape
  output : w'.output = w.output
  size : w.heap.size ≤ w'.heap.size
  rest : ∀ b, b < w.heap.size → ¬ S b → w'.heap[b]? = w.heap[b]?
theorem Mv.ofExt {S : Nat → Prop} {w w' : World} (h : Ext w w') : Mv S w w' := ⟨Below.os h, Below.tape h, Below.output h, Ext.size h, fun b hb _ => Below.block h b hb⟩
theorem Mv.refl (S : Nat → Prop) (w : World) : Mv S w w := Mv.ofExt (Ext.refl w)
theorem Mv.trans {S : Nat → Prop} {a b c : World} (h : Mv S a b) (k : Mv S b c) : Mv S a c :=
  ⟨k.os.trans h.os, k.tape.trans h.tape, k.output.trans h.output, Nat.le_trans h.size k.size, fun x hx hn => (k.rest x (Nat.lt_of_lt_of_le hx h.size) hn).trans (h.rest x hx hn)⟩
theorem Mv.ext {S : Nat → Prop} {a b c : World} (h : Mv S a b) (k : Ext b c) : Mv S a c := h.trans (Mv.ofExt k)
theorem Mv.after {S : Nat → Prop} {a b c : World} (h : Ext a b) (k : Mv S b c) : Mv S a c := (Mv.ofExt h).trans k
theorem Mv.imp {S S' : Nat → Prop} {a b : World} (h : Mv S a b) (k : ∀ x, x < a.heap.size → S x → S' x) : Mv S' a b := ⟨h.os, h.tape, h.output, h.size, fun x hx hn => h.rest x hx fun hs => hn (k x hx hs)⟩
theorem Mv.block {S : Nat → Prop} {w w' : World} (h : Mv S w w') {b : Nat} {x : Obj} (hb : w.heap[b]? = some x) (hn : ¬ S b) : w'.heap[b]? = some x := (h.rest b (Array.getElem?_eq_some_iff.1 hb).1 hn).trans hb
theorem Mv.setCell {S : Nat → Prop} {a b : World} (h : Mv S a b) {p : Addr} (hp : p.block < a.heap.size → S p.block) (u : Value) : Mv S a (b.setCell p u) :=
  ⟨h.os, h.tape, h.output, by have := h.size; simpa [World.setCell] using this, fun x hx hn => by
    have hne : x ≠ p.block := fun e => hn (by rw [e]; exact hp (e ▸ hx))
    exact (heap_setCell_other u hne).trans (h.rest x hx hn)⟩
theorem Mv.grown {S : Nat → Prop} {a w w' : World} {row : Option Nat} (h : Mv S a w) (hg : w.grownBy w' row) (hr : ∀ k, row = some k → k < a.heap.size → S k) : Mv S a w' :=
  ⟨hg.os.trans h.os, hg.tape.trans h.tape, hg.output.trans h.output, Nat.le_trans h.size hg.size, fun x hx hn => (hg.block x (Nat.lt_of_lt_of_le hx h.size) fun e => hn (hr x e.symm hx)).trans (h.rest x hx hn)⟩
theorem Mv.cell {S : Nat → Prop} {w w' : World} (h : Mv S w w') {b o : Nat} {v : Value} (hc : w.cell? ⟨b, o, none⟩ = some v) (hn : ¬ S b) : w'.cell? ⟨b, o, none⟩ = some v := by
  have := h.rest b (cell_lt hc) hn
  unfold World.cell? at hc ⊢
  simp only at hc ⊢
  rw [this]; exact hc
theorem RowP.mv {S : Nat → Prop} {w w' : World} {p : Nat → Prop} {e size : Nat} {v : Value} {n : Nat} {xs : List Value} (h : RowP w p e size v n xs) (k : Mv S w w') (hp : ∀ g, p g → ¬ S g) : RowP w' p e size v n xs := by
  refine ⟨h.1, ?_⟩
  rcases h.2 with h0 | ⟨g, cap, cur, h1, h2, h3, h4⟩
  · exact .inl h0
  · exact .inr ⟨g, cap, cur, h1, h2, k.block h3 (hp g h2), h4⟩
/-- a step of a tree, as a change of the blocks that are owned -/
theorem Step.mv {own own' : Ow} {w w' : World} (k : Step own w own' w') : Mv (fun b => own b ≠ none) w w' := ⟨k.os, k.tape, k.output, k.size, fun b hb hn => k.rest b hb (Decidable.byContradiction hn)⟩
/-- a place that is held; off 1: it is none -/
structure Hd where
  node : Int
  at' : Int
  off : Int
def hdC (h : Hd) : List Value := [.int .i64 h.node, .int .i64 h.at', .int .i64 h.off]
theorem hdC_len (h : Hd) : (hdC h).length = 3 := rfl
def hcells (H : List Hd) : List Value := H.flatMap hdC
theorem hcells_len (H : List Hd) : (hcells H).length = H.length * 3 := by
  induction H with
  | nil => rfl
  | cons p L ih =>
    show (hdC p ++ hcells L).length = _
    rw [List.length_append, ih, hdC_len, List.length_cons]
    omega
theorem hcells_append (a b : List Hd) : hcells (a ++ b) = hcells a ++ hcells b := List.flatMap_append
theorem hcells_get {L : List Hd} {i f : Nat} {p : Hd} {v : Value} (h : L[i]? = some p) (hv : (hdC p)[f]? = some v) : (hcells L)[i * 3 + f]? = some v := by
  have hf := (List.getElem?_eq_some_iff.1 hv).1
  rw [hdC_len] at hf
  induction L generalizing i with
  | nil => cases h
  | cons q L ih =>
    show (hdC q ++ hcells L)[i * 3 + f]? = _
    cases i with
    | zero =>
      have : q = p := by simpa using h
      subst this
      rw [Nat.zero_mul, Nat.zero_add, List.getElem?_append_left (by rw [hdC_len]; exact hf)]
      exact hv
    | succ i =>
      rw [List.getElem?_append_right (by rw [hdC_len]; omega), hdC_len, show (i + 1) * 3 + f - 3 = i * 3 + f by omega]
      exact ih (by simpa using h)
theorem hcells_set {L : List Hd} {i f : Nat} {p p' : Hd} {v : Value} (h : L[i]? = some p) (hf : f < 3) (hv : (hdC p).set f v = hdC p') : (hcells L).set (i * 3 + f) v = hcells (L.set i p') := by
  induction L generalizing i with
  | nil => cases h
  | cons q L ih =>
    cases i with
    | zero =>
      have : q = p := by simpa using h
      subst this
      show (hdC q ++ hcells L).set (0 * 3 + f) v = hdC p' ++ hcells L
      rw [Nat.zero_mul, Nat.zero_add, List.set_append_left _ _ (by rw [hdC_len]; exact hf), hv]
    | succ i =>
      show (hdC q ++ hcells L).set ((i + 1) * 3 + f) v = hdC q ++ hcells (L.set i p')
      rw [List.set_append_right _ _ (by rw [hdC_len]; omega), hdC_len, show (i + 1) * 3 + f - 3 = i * 3 + f by omega, ih (by simpa using h)]
/-- a live tree lies at lb: its dom's tree at tb; the row of holds is hv, in block hb -/
structure LiveAt (w : World) (own : Ow) (ptr : Nat → Nat) (lb tb : Nat) (T : Tr) (hv : Value) (hb : Option Nat) (H : List Hd) : Prop where
  tree : TreeAt w own ptr tb T
  ownd : Owned own w
  box : w.heap[lb]? = some (.cells #[.pointer (some ⟨tb, 0, none⟩), hv] 26 (0, 0))
  row : RowP w (fun g => hb = some g) 52 3 hv H.length (hcells H)
  nbox : own lb = none
  nrow : ∀ g, hb = some g → own g = none ∧ g ≠ lb ∧ g < w.heap.size
/-- what a call of a live tree may turn: the tree's own blocks, the box, the row of holds -/
structure LStep (own : Ow) (lb : Nat) (hb : Option Nat) (w : World) (own' : Ow) (hb' : Option Nat) (w' : World) : Prop where
  mv : Mv (fun b => own b ≠ none ∨ b = lb ∨ hb = some b) w w'
  same : ∀ b, b < w.heap.size → own' b = own b
  hold : ∀ g, hb' = some g → hb = some g ∨ w.heap.size ≤ g
/-- .. behind a call -/
def LAfter (own : Ow) (lb tb : Nat) (hb : Option Nat) (w : World) (T' : Tr) (H' : List Hd) (w' : World) : Prop := ∃ own' ptr' hv' hb', LiveAt w' own' ptr' lb tb T' hv' hb' H' ∧ LStep own lb hb w own' hb' w'
section
variable {w w' : World} {own : Ow} {ptr : Nat → Nat} {lb tb : Nat} {T T' : Tr} {hv : Value} {hb : Option Nat} {H : List Hd}
theorem LiveAt.lt (h : LiveAt w own ptr lb tb T hv hb H) : lb < w.heap.size := (Array.getElem?_eq_some_iff.1 h.box).1
theorem LiveAt.ptr_ (h : LiveAt w own ptr lb tb T hv hb H) : w.cell? ⟨lb, 0, none⟩ = some (.pointer (some ⟨tb, 0, none⟩)) := cellOf h.box rfl
theorem LiveAt.row_ (h : LiveAt w own ptr lb tb T hv hb H) : w.cell? ⟨lb, 1, none⟩ = some hv := cellOf h.box rfl
/-- changes elsewhere -/
theorem LiveAt.mv {S : Nat → Prop} (h : LiveAt w own ptr lb tb T hv hb H) (k : Mv S w w') (h1 : ∀ b, own b ≠ none → ¬ S b) (h2 : ¬ S lb) (h3 : ∀ g, hb = some g → ¬ S g) : LiveAt w' own ptr lb tb T hv hb H :=
  ⟨h.tree.keep fun b hb => k.rest b (h.ownd b hb) (h1 b hb), fun b hb => Nat.lt_of_lt_of_le (h.ownd b hb) k.size, k.block h.box h2, h.row.mv k h3, h.nbox,
   fun g hg => ⟨(h.nrow g hg).1, (h.nrow g hg).2.1, Nat.lt_of_lt_of_le (h.nrow g hg).2.2 k.size⟩⟩
theorem LiveAt.ext (h : LiveAt w own ptr lb tb T hv hb H) (k : Ext w w') : LiveAt w' own ptr lb tb T hv hb H := h.mv (S := fun _ => False) (Mv.ofExt k) (fun _ _ => id) id (fun _ _ => id)
theorem LStep.refl (own : Ow) (lb : Nat) (hb : Option Nat) (w : World) : LStep own lb hb w own hb w := ⟨Mv.refl _ w, fun _ _ => rfl, fun _ => .inl⟩
theorem LStep.ext {own' : Ow} {hb' : Option Nat} {w'' : World} (h : LStep own lb hb w own' hb' w') (k : Ext w' w'') : LStep own lb hb w own' hb' w'' := ⟨h.mv.ext k, h.same, h.hold⟩
theorem LStep.trans {own1 own2 : Ow} {hb1 hb2 : Option Nat} {w1 w2 : World} (h : LStep own lb hb w own1 hb1 w1) (k : LStep own1 lb hb1 w1 own2 hb2 w2) : LStep own lb hb w own2 hb2 w2 := by
  refine ⟨⟨k.mv.os.trans h.mv.os, k.mv.tape.trans h.mv.tape, k.mv.output.trans h.mv.output, Nat.le_trans h.mv.size k.mv.size, fun b hb' hn => ?_⟩, fun b hb' => (k.same b (Nat.lt_of_lt_of_le hb' h.mv.size)).trans (h.same b hb'), fun g hg => ?_⟩
  · refine (k.mv.rest b (Nat.lt_of_lt_of_le hb' h.mv.size) ?_).trans (h.mv.rest b hb' hn)
    rintro (h1 | h1 | h1)
    · exact hn (.inl (by rw [← h.same b hb']; exact h1))
    · exact hn (.inr (.inl h1))
    · rcases h.hold b h1 with h2 | h2
      · exact hn (.inr (.inr h2))
      · omega
  · rcases k.hold g hg with h1 | h1
    · exact h.hold g h1
    · exact .inr (Nat.le_trans h.mv.size h1)
theorem LAfter.same (h : LiveAt w own ptr lb tb T hv hb H) (x : Ext w w') : LAfter own lb tb hb w T H w' := ⟨own, ptr, hv, hb, h.ext x, (LStep.refl own lb hb w).ext x⟩
theorem LAfter.trans {own1 : Ow} {hb1 : Option Nat} {w1 w2 : World} {T2 : Tr} {H2 : List Hd} (h : LStep own lb hb w own1 hb1 w1) (k : LAfter own1 lb tb hb1 w1 T2 H2 w2) : LAfter own lb tb hb w T2 H2 w2 := by
  obtain ⟨o, p, v, b, k1, k2⟩ := k
  exact ⟨o, p, v, b, k1, h.trans k2⟩
/-- behind a call of dom's tree -/
theorem LiveAt.after (h : LiveAt w own ptr lb tb T hv hb H) (ha : After own w tb T' w') : ∃ own' ptr', LiveAt w' own' ptr' lb tb T' hv hb H ∧ LStep own lb hb w own' hb w' ∧ Step own w own' w' := by
  obtain ⟨own', ptr', h1, h2⟩ := ha
  have k := h2.mv
  refine ⟨own', ptr', ⟨h1, h2.owned, k.block h.box (fun hn => hn h.nbox), h.row.mv k (fun g hg hn => hn (h.nrow g hg).1), (h2.same lb h.lt).trans h.nbox, fun g hg => ⟨(h2.same g (h.nrow g hg).2.2).trans (h.nrow g hg).1, (h.nrow g hg).2.1, Nat.lt_of_lt_of_le (h.nrow g hg).2.2 k.size⟩⟩,
    ⟨k.imp fun b _ hb => .inl hb, h2.same, fun g hg => .inl hg⟩, h2⟩
/-- a hold's cells -/
theorem LiveAt.at (h : LiveAt w own ptr lb tb T hv hb H) : ∃ a cap, hv = .slice a H.length cap ∧ H.length ≤ cap ∧ (0 < H.length → ∃ g cur, a = some ⟨g, 0, none⟩ ∧ hb = some g ∧ w.heap[g]? = some (.cells cur 52 (0, 0)) ∧ cur.toList.take (H.length * 3) = hcells H ∧ cur.size = cap * 3 ∧ cap ≤ maxLen) := by
  rcases h.row.2 with ⟨h0, a, e⟩ | ⟨g, cap, cur, h1, h2, h3, h4, h5, h6, h7⟩
  · exact ⟨a, 0, by rw [e, h0], by omega, fun hp => absurd hp (by omega)⟩
  · exact ⟨some ⟨g, 0, none⟩, cap, h1, h4, fun _ => ⟨g, cur, rfl, h2, h3, h7, h6, h5⟩⟩
theorem hold_cell {g : Nat} {cur : Array Value} {t : TypeId} {n : Nat} (h3 : w.heap[g]? = some (.cells cur t (0, 0))) (h7 : cur.toList.take (n * 3) = hcells H) {i f : Nat} {p : Hd} {v : Value} (hp : H[i]? = some p) (hv : (hdC p)[f]? = some v) :
    w.cell? ⟨g, i * 3 + f, none⟩ = some v := by
  refine cellOf h3 ?_
  have h := hcells_get hp hv
  rw [← h7, List.getElem?_take] at h
  split at h
  · rw [← Array.getElem?_toList]; exact h
  · cases h
/-- a hold is written -/
theorem LiveAt.set (h : LiveAt w own ptr lb tb T hv hb H) {i f : Nat} {p p' : Hd} {v : Value} (hp : H[i]? = some p) (hf : f < 3) (hv' : (hdC p).set f v = hdC p') {g : Nat} (hg : hb = some g) :
    LiveAt (w.setCell ⟨g, i * 3 + f, none⟩ v) own ptr lb tb T hv hb (H.set i p') := by
  have hi := (List.getElem?_eq_some_iff.1 hp).1
  have hm : Mv (fun x => x = g) w (w.setCell ⟨g, i * 3 + f, none⟩ v) := (Mv.refl (fun x => x = g) w).setCell (p := ⟨g, i * 3 + f, none⟩) (fun _ => rfl) v
  obtain ⟨n1, n2, n3⟩ := h.nrow g hg
  refine ⟨h.tree.keep fun b hb => hm.rest b (h.ownd b hb) (fun e => hb (by rw [(show b = g from e)]; exact n1)), fun b hb => Nat.lt_of_lt_of_le (h.ownd b hb) hm.size, hm.block h.box (fun e => n2 (show lb = g from e).symm), ?_, h.nbox, fun x hx => ⟨(h.nrow x hx).1, (h.nrow x hx).2.1, Nat.lt_of_lt_of_le (h.nrow x hx).2.2 hm.size⟩⟩
  rcases h.row.2 with ⟨h0, _⟩ | ⟨g', cap, cur, h1, h2, h3, h4, h5, h6, h7⟩
  · omega
  · obtain rfl : g' = g := by rw [hg] at h2; exact (Option.some.inj h2).symm
    refine ⟨by rw [hcells_len], .inr ⟨g', cap, _, by rw [List.length_set]; exact h1, hg, heap_setCell_same h3 v, by rw [List.length_set]; exact h4, h5, by simpa using h6, ?_⟩⟩
    rw [Array.toList_setIfInBounds, List.length_set, List.take_set, h7, hcells_set hp hf hv']
end
end Go.Proofs.Ythgnbbbdcebjhaa
