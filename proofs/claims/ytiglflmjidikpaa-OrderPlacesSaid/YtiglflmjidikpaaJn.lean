/- A tree and the document's tree side by side in memory, apart from each other, from what is read and from blocks of others: laws without any walk. -/
import Derived.Test.YtiglflmjidikpaaPairs
namespace Go.Proofs.Ytiglflmjidikpaa
open Go Go.RowKit Go.BigFrame
set_option linter.unusedVariables false
set_option linter.unusedSimpArgs false

/-- the tree at tb tells T1, the document's at rb T2; g is read apart from both, the blocks of L are others' -/
structure Jn (w0 w : World) (tb rb : Nat) (T1 T2 : Tr) (g : World) (L : Nat → Prop) : Prop where
  out : ∃ (own : Ow) (ptr : Nat → Nat) (F : Nat → Prop), TreeAt w own ptr tb T1 ∧ Owned own w ∧ RefOn w F rb T2 ∧ (∀ b, F b → own b = none ∧ b < w.heap.size ∧ w0.heap.size ≤ b) ∧ (∀ b, own b ≠ none → w0.heap.size ≤ b) ∧
    (∀ q y, g.cell? q = some y → w.cell? q = some y ∧ own q.block = none ∧ ¬ F q.block) ∧ (∀ b, L b → own b = none ∧ ¬ F b ∧ b < w.heap.size)
  ext : Ext w0 w
variable {w0 w w' g : World} {tb rb : Nat} {T1 T2 : Tr} {L : Nat → Prop}
theorem Jn.tat (h : Jn w0 w tb rb T1 T2 g L) : TAt w tb T1 := by
  obtain ⟨own, ptr, F, h1, h2, _⟩ := h.out
  exact ⟨own, ptr, h1, h2⟩
theorem Jn.rat (h : Jn w0 w tb rb T1 T2 g L) : RAt w rb T2 := by
  obtain ⟨own, ptr, F, _, _, h3, _⟩ := h.out
  exact h3.at
theorem Jn.told (h : Jn w0 w tb rb T1 T2 g L) {q : Addr} {y : Value} (hq : g.cell? q = some y) : w.cell? q = some y := by
  obtain ⟨own, ptr, F, _, _, _, _, _, h6, _⟩ := h.out
  exact (h6 q y hq).1
theorem Jn.cells (h : Jn w0 w tb rb T1 T2 g L) : Cells g w := fun q y hq => h.told hq
theorem Jn.more (h : Jn w0 w tb rb T1 T2 g L) (x : Ext w w') : Jn w0 w' tb rb T1 T2 g L := by
  obtain ⟨own, ptr, F, h1, h2, h3, h4, h5, h6, h7⟩ := h.out
  exact ⟨⟨own, ptr, F, h1.keep (x.keep h2), fun b hb => Nat.lt_of_lt_of_le (h2 b hb) x.size, h3.ext x, fun b hb => ⟨(h4 b hb).1, Nat.lt_of_lt_of_le (h4 b hb).2.1 x.size, (h4 b hb).2.2⟩, h5,
    fun q y hq => ⟨x.cells _ _ (h6 q y hq).1, (h6 q y hq).2⟩, fun b hb => ⟨(h7 b hb).1, (h7 b hb).2.1, Nat.lt_of_lt_of_le (h7 b hb).2.2 x.size⟩⟩, h.ext.trans x⟩
/-- what was there at first, and what has come since -/
def gap (w0 w w' : World) : World := hide (fun y => if y < w0.heap.size ∨ w.heap.size ≤ y then none else some (0, 0)) w'
theorem gap_cell {q : Addr} {y : Value} (h : w'.cell? q = some y) (k : q.block < w0.heap.size ∨ w.heap.size ≤ q.block) : (gap w0 w w').cell? q = some y := hide_cell h (if_pos k)
theorem gap_old (x : Ext w0 w') : Cells w0 (gap w0 w w') := fun q y hq => gap_cell (x.cells _ _ hq) (.inl (World.block_lt_of_cell? _ _ hq))
theorem gap_new {b : Nat} {cs : Array Value} {t : TypeId} {fr : Nat × Nat} (h : w'.heap[b]? = some (.cells cs t fr)) (hb : w.heap.size ≤ b) {i : Nat} {v : Value} (hi : cs[i]? = some v) : (gap w0 w w').cell? ⟨b, i, none⟩ = some v := gap_cell (q := ⟨b, i, none⟩) (cellOf h hi) (.inr hb)
/-- new memory is read, and is nobody's -/
theorem Jn.grow (h : Jn w0 w tb rb T1 T2 g L) (x : Ext w w') : Jn w0 w' tb rb T1 T2 (gap w0 w w') (fun b => w.heap.size ≤ b ∧ b < w'.heap.size) := by
  obtain ⟨own, ptr, F, h1, h2, h3, h4, h5, h6, h7⟩ := h.out
  have hn : ∀ b, b < w0.heap.size ∨ w.heap.size ≤ b → own b = none ∧ ¬ F b := fun b hb => by
    constructor
    · cases ho : own b with
      | none => rfl
      | some y =>
        have a1 := h2 b (by simp [ho])
        have a2 := h5 b (by simp [ho])
        omega
    · intro hf
      have := h4 b hf
      omega
  refine ⟨⟨own, ptr, F, h1.keep (x.keep h2), fun b hb => Nat.lt_of_lt_of_le (h2 b hb) x.size, h3.ext x, fun b hb => ⟨(h4 b hb).1, Nat.lt_of_lt_of_le (h4 b hb).2.1 x.size, (h4 b hb).2.2⟩, h5, fun q y hq => ?_, fun b hb => ⟨(hn b (.inr hb.1)).1, (hn b (.inr hb.1)).2, hb.2⟩⟩, h.ext.trans x⟩
  obtain ⟨a1, a2⟩ := hide_apart _ _ q y hq
  dsimp only at a2
  split at a2
  · rename_i a3
    exact ⟨a1, hn _ a3⟩
  · cases a2
theorem Jn.base (h : Jn w0 w tb rb T1 T2 g L) : Jn w0 w tb rb T1 T2 w0 L := by
  obtain ⟨own, ptr, F, h1, h2, h3, h4, h5, h6, h7⟩ := h.out
  refine ⟨⟨own, ptr, F, h1, h2, h3, h4, h5, fun q y hq => ?_, h7⟩, h.ext⟩
  have hl := World.block_lt_of_cell? _ _ hq
  refine ⟨h.ext.cells _ _ hq, ?_, fun hf => ?_⟩
  · cases ho : own q.block with
    | none => rfl
    | some y => have := h5 q.block (by simp [ho]); omega
  · have := h4 _ hf; omega
theorem Jn.free (h : Jn w0 w tb rb T1 T2 g L) : Jn w0 w tb rb T1 T2 g (fun _ => False) := by
  obtain ⟨own, ptr, F, h1, h2, h3, h4, h5, h6, h7⟩ := h.out
  exact ⟨⟨own, ptr, F, h1, h2, h3, h4, h5, h6, fun b hb => hb.elim⟩, h.ext⟩
/-- a block of others is written -/
theorem Jn.poke (h : Jn w0 w tb rb T1 T2 g L) {b : Nat} (hb : L b) (hn : w0.heap.size ≤ b) (o : Nat) (v : Value) : Jn w0 (w.setCell ⟨b, o, none⟩ v) tb rb T1 T2 w0 L := by
  obtain ⟨own, ptr, F, h1, h2, h3, h4, h5, h6, h7⟩ := h.base.out
  obtain ⟨k1, k2, k3⟩ := h7 b hb
  have hk : ∀ y, y ≠ b → (w.setCell ⟨b, o, none⟩ v).heap[y]? = w.heap[y]? := fun y hy => heap_setCell_other (p := ⟨b, o, none⟩) _ hy
  have hs : (w.setCell ⟨b, o, none⟩ v).heap.size = w.heap.size := by simp [World.setCell]
  refine ⟨⟨own, ptr, F, h1.keep fun y hy => hk y (fun e => hy (e ▸ k1)), fun y hy => by rw [hs]; exact h2 y hy, h3.keep fun y hy _ => hk y (fun e => k2 (e ▸ hy)), fun y hy => by rw [hs]; exact h4 y hy, h5, fun q y hq => ?_, fun y hy => by rw [hs]; exact h7 y hy⟩, h.ext.setCell hn v⟩
  have hl := World.block_lt_of_cell? _ _ hq
  exact ⟨(World.cell?_of_block (hk q.block (by omega))).trans (h6 q y hq).1, (h6 q y hq).2⟩
/-- a call of the tree -/
theorem Jn.domL (h : Jn w0 w tb rb T1 T2 g L) {P : Program} {f : FuncId} {args : Array Value} {v : Value} {T' : Tr}
    (hd : ∀ (own : Ow) (ptr : Nat → Nat), TreeAt w own ptr tb T1 → Owned own w → Apart g own w → Calls P f args w fun e w' => e = .returned v ∧ After own w tb T' w') :
    Calls P f args w fun e w' => (e = .returned v ∧ Jn w0 w' tb rb T' T2 g L) ∧ ∀ b, L b → w'.heap[b]? = w.heap[b]? := by
  obtain ⟨own, ptr, F, h1, h2, h3, h4, h5, h6, h7⟩ := h.out
  refine (hd own ptr h1 h2 fun q y hq => ⟨(h6 q y hq).1, (h6 q y hq).2.1⟩).mono fun e w' hh => ?_
  obtain ⟨own', ptr', k1, k2⟩ := hh.2
  refine ⟨⟨hh.1, ?_⟩, fun b hb => k2.rest b (h7 b hb).2.2 (h7 b hb).1⟩
  have hs := k2.size
  have hw0 := h.ext.size
  have hext : Ext w0 w' := ⟨k2.os.trans (Below.os h.ext), k2.tape.trans (Below.tape h.ext), k2.output.trans (Below.output h.ext), Nat.le_trans hw0 hs, fun b hb => by
    have hn : own b = none := by
      cases ho : own b with
      | none => rfl
      | some y => have := h5 b (by simp [ho]); omega
    exact (k2.rest b (by omega) hn).trans (Below.block h.ext b hb)⟩
  refine ⟨⟨own', ptr', F, k1, k2.owned, h3.keep fun b hb hbl => k2.rest b hbl (h4 b hb).1, fun b hb => ?_, fun b hb => ?_, fun q y hq => ?_, fun b hb => ?_⟩, hext⟩
  · obtain ⟨a1, a2, a3⟩ := h4 b hb
    exact ⟨(k2.same b a2).trans a1, Nat.lt_of_lt_of_le a2 hs, a3⟩
  · rcases Nat.lt_or_ge b w.heap.size with a | a
    · exact h5 b (by rw [← k2.same b a]; exact hb)
    · omega
  · obtain ⟨a1, a2, a3⟩ := h6 q y hq
    have hl := World.block_lt_of_cell? _ _ a1
    exact ⟨(World.cell?_of_block (k2.rest _ hl a2)).trans a1, (k2.same _ hl).trans a2, a3⟩
  · obtain ⟨a1, a2, a3⟩ := h7 b hb
    exact ⟨(k2.same b a3).trans a1, a2, Nat.lt_of_lt_of_le a3 hs⟩
/-- a call of the document's tree -/
theorem Jn.refL (h : Jn w0 w tb rb T1 T2 g L) {P : Program} {f : FuncId} {args : Array Value} {v : Value} {T' : Tr}
    (hd : ∀ F : Nat → Prop, RefOn w F rb T2 → RApart g F w → Calls P f args w fun e w' => e = .returned v ∧ RAft F w rb T' w') :
    Calls P f args w fun e w' => (e = .returned v ∧ Jn w0 w' tb rb T1 T' g L) ∧ ∀ b, L b → w'.heap[b]? = w.heap[b]? := by
  obtain ⟨own, ptr, F, h1, h2, h3, h4, h5, h6, h7⟩ := h.out
  refine (hd F h3 fun q y hq => ⟨(h6 q y hq).1, (h6 q y hq).2.2⟩).mono fun e w' hh => ?_
  obtain ⟨k1, k2⟩ := hh.2
  refine ⟨⟨hh.1, ?_⟩, fun b hb => k2.rest b (h7 b hb).2.2 (h7 b hb).2.1⟩
  have hs := k2.size
  have hw0 := h.ext.size
  have hF0 : ∀ b, b < w0.heap.size → ¬ F b := fun b hb hf => by have := h4 b hf; omega
  refine ⟨⟨own, ptr, fun b => (F b ∨ w.heap.size ≤ b) ∧ b < w'.heap.size, h1.keep fun b hb => k2.rest b (h2 b hb) (fun hf => hb (h4 b hf).1), fun b hb => Nat.lt_of_lt_of_le (h2 b hb) hs, k1.below, fun b hb => ?_, h5, fun q y hq => ?_, fun b hb => ?_⟩, ?_⟩
  · rcases hb with ⟨hb | hb, hl⟩
    · obtain ⟨a1, a2, a3⟩ := h4 b hb
      exact ⟨a1, hl, a3⟩
    · refine ⟨?_, hl, by omega⟩
      cases ho : own b with
      | none => rfl
      | some y => have := h2 b (by simp [ho]); omega
  · obtain ⟨a1, a2, a3⟩ := h6 q y hq
    have hl := World.block_lt_of_cell? _ _ a1
    exact ⟨k2.cell a1 a3, a2, fun hf => by rcases hf.1 with hf | hf; exact a3 hf; omega⟩
  · obtain ⟨a1, a2, a3⟩ := h7 b hb
    exact ⟨a1, fun hf => by rcases hf.1 with hf | hf; exact a2 hf; omega, Nat.lt_of_lt_of_le a3 hs⟩
  · exact ⟨k2.os.trans (Below.os h.ext), k2.tape.trans (Below.tape h.ext), k2.output.trans (Below.output h.ext), Nat.le_trans hw0 hs, fun b hb => (k2.rest b (by omega) (hF0 b hb)).trans (Below.block h.ext b hb)⟩
theorem Jn.dom (h : Jn w0 w tb rb T1 T2 g L) {P : Program} {f : FuncId} {args : Array Value} {v : Value} {T' : Tr}
    (hd : ∀ (own : Ow) (ptr : Nat → Nat), TreeAt w own ptr tb T1 → Owned own w → Apart g own w → Calls P f args w fun e w' => e = .returned v ∧ After own w tb T' w') :
    Calls P f args w fun e w' => e = .returned v ∧ Jn w0 w' tb rb T' T2 g L := (h.domL hd).mono fun _ _ k => k.1
theorem Jn.ref (h : Jn w0 w tb rb T1 T2 g L) {P : Program} {f : FuncId} {args : Array Value} {v : Value} {T' : Tr}
    (hd : ∀ F : Nat → Prop, RefOn w F rb T2 → RApart g F w → Calls P f args w fun e w' => e = .returned v ∧ RAft F w rb T' w') :
    Calls P f args w fun e w' => e = .returned v ∧ Jn w0 w' tb rb T1 T' g L := (h.refL hd).mono fun _ _ k => k.1
end Go.Proofs.Ytiglflmjidikpaa
