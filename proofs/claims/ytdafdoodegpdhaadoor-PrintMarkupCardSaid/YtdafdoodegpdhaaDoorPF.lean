/- Frames: every old block but one is as it was. No program in sight. -/
import Derived.Test.YtdafdoodegpdhaaDoorPX
namespace Go.Proofs.YtdafdoodegpdhaaDoor
open Go Go.RowKit Go.BigFrame
set_option linter.unusedVariables false
set_option linter.unusedSimpArgs false

/-- new blocks and draws; of the old blocks only one may have turned -/
structure ExtB (b : Nat) (w w' : World) : Prop where
  os : w'.os = w.os
  tape : w'.tape = w.tape
  output : w'.output = w.output
  size : w.heap.size ≤ w'.heap.size
  block : ∀ k, k < w.heap.size → k ≠ b → w'.heap[k]? = w.heap[k]?
theorem ExtB.refl (b : Nat) (w : World) : ExtB b w w := ⟨rfl, rfl, rfl, Nat.le_refl _, fun _ _ _ => rfl⟩
theorem ExtB.trans {b : Nat} {x y z : World} (h : ExtB b x y) (k : ExtB b y z) : ExtB b x z :=
  ⟨k.os.trans h.os, k.tape.trans h.tape, k.output.trans h.output, Nat.le_trans h.size k.size, fun i hi hb => (k.block i (Nat.lt_of_lt_of_le hi h.size) hb).trans (h.block i hi hb)⟩
theorem Ext.toB {w w' : World} (h : Ext w w') (b : Nat) : ExtB b w w' := ⟨Below.os h, Below.tape h, Below.output h, Below.size h, fun k hk _ => Below.block h k hk⟩
theorem ExtB.alloc {b : Nat} {a w : World} (h : ExtB b a w) (o : Obj) : ExtB b a (w.alloc o) := h.trans (((Ext.refl w).alloc o).toB b)
theorem ExtB.setCell {b : Nat} {a w : World} (h : ExtB b a w) {p : Addr} (hp : p.block = b ∨ a.heap.size ≤ p.block) (u : Value) : ExtB b a (w.setCell p u) :=
  ⟨h.os, h.tape, h.output, by simpa [World.setCell] using h.size, fun k hk hb => (Below.heap_setCell w p u k (by rcases hp with e | e <;> omega)).trans (h.block k hk hb)⟩
theorem ExtB.below {b B : Nat} {w w' : World} (h : ExtB b w w') (hB : B ≤ b) (hs : B ≤ w.heap.size) : Below B w w' := ⟨h.os, h.tape, h.output, h.size, fun k hk => h.block k (by omega) (by omega)⟩
theorem ExtB.heap {b : Nat} {w w' : World} (h : ExtB b w w') {k : Nat} {o : Obj} (hk : w.heap[k]? = some o) (hb : k ≠ b) : w'.heap[k]? = some o :=
  (h.block k (Array.getElem?_eq_some_iff.1 hk).1 hb).trans hk
theorem ExtB.cell {b : Nat} {w w' : World} (h : ExtB b w w') {k o : Nat} {v : Value} (hk : w.cell? ⟨k, o, none⟩ = some v) (hb : k ≠ b) : w'.cell? ⟨k, o, none⟩ = some v :=
  (World.cell?_of_block (w := w) (a := ⟨k, o, none⟩) (h.block k (World.block_lt_of_cell? w _ hk) hb)).trans hk
theorem ExtB.ext {b : Nat} {w0 w w' : World} (h : ExtB b w w') (k : Ext w0 w) (hb : w0.heap.size ≤ b) : Ext w0 w' := Below.trans k (h.below hb (Below.size k))
theorem ExtB.one {b : Nat} {w w' : World} (h : ExtB b w w') {c : Nat} {v : Value} {t : TypeId} (hk : One w c v t) (hb : c ≠ b) : One w' c v t := h.heap hk hb
end Go.Proofs.YtdafdoodegpdhaaDoor
