/- Small words of this seat's proofs: 'Ext': a world with new blocks and nothing else turned; how cells are carried over such a step. No conditions. -/
import Derived.WalkKit
import Derived.WalkSpells
import Derived.WalkLawsBesides
import Derived.BigQuiet
import Derived.Deep.QuietTactic
import Derived.Lib.Hide
import Derived.Deep.RegionWith
import Derived.Deep.RegionHeld3
import Derived.Deep.LoopGhost
import Derived.Deep.DeepFit
import Derived.Deep.DeepMust
import Derived.Deep.DeepCutAuto
import Derived.Outline
namespace Go.Proofs.Ytiglflmjidikpaa
open Go Go.RowKit Go.BigFrame

/-- new blocks, draws; all old blocks as they were -/
def Ext (w w' : World) : Prop := Below w.heap.size w w'
theorem Ext.refl (w : World) : Ext w w := Below.refl _ _
theorem Ext.trans {a b c : World} (h : Ext a b) (k : Ext b c) : Ext a c := Below.trans h (Below.mono k (Below.size h))
theorem Ext.alloc {a w : World} (h : Ext a w) (o : Obj) : Ext a (w.alloc o) := Below.alloc h (Below.size h) o
theorem Ext.drew {a w : World} (h : Ext a w) : Ext a w.drew := Below.drew h
theorem Ext.undrew {w w' : World} (h : Ext w.drew w') : Ext w w' := (Ext.drew (Ext.refl w)).trans h
theorem Ext.setCell {a w : World} (h : Ext a w) {p : Addr} (hp : a.heap.size ≤ p.block) (u : Value) : Ext a (w.setCell p u) := Below.setCell h hp u
theorem Ext.grown {a w w' : World} {row : Option Nat} (h : Ext a w) (hg : w.grownBy w' row) (hr : ∀ k, row = some k → a.heap.size ≤ k) : Ext a w' :=
  Below.grown h hg (Below.size h) hr
theorem Ext.size {w w' : World} (h : Ext w w') : w.heap.size ≤ w'.heap.size := Below.size h
theorem Ext.cell {w w' : World} (h : Ext w w') {b o : Nat} {v : Value} (hc : w.cell? ⟨b, o, none⟩ = some v) : w'.cell? ⟨b, o, none⟩ = some v :=
  (Below.cell h (p := ⟨b, o, none⟩) (World.block_lt_of_cell? w _ hc)).trans hc
theorem Ext.free {w w' : World} (h : Ext w w') {b o : Nat} (hlt : b < w.heap.size) (hc : w.frozen? ⟨b, o, none⟩ = false) : w'.frozen? ⟨b, o, none⟩ = false :=
  (Below.frozen h (p := ⟨b, o, none⟩) hlt).trans hc
theorem Ext.block {w w' : World} (h : Ext w w') {b : Nat} {x : Obj} (hb : w.heap[b]? = some x) : w'.heap[b]? = some x :=
  (Below.block h b (Array.getElem?_eq_some_iff.1 hb).1).trans hb
theorem cell_lt {w : World} {b o : Nat} {v : Value} (h : w.cell? ⟨b, o, none⟩ = some v) : b < w.heap.size := World.block_lt_of_cell? w _ h
theorem ret_bool {b c : Bool} (h : b = c) : Ending.returned (.bool b) = .returned (.bool c) := by rw [h]
theorem ret_int {k : IntKind} {a b : Int} (h : a = b) : Ending.returned (.int k a) = .returned (.int k b) := by rw [h]

/-- a world behind new blocks and draws -/
structure ExtOf (w : World) where
  val : World
  ext : Ext w val
instance (w : World) : Nonempty (ExtOf w) := ⟨⟨w, Ext.refl w⟩⟩
theorem inExt {P : Program} {f : FuncId} {args : Array Value} {w : World} {u : ExtOf w} {v : Value} (h : Calls P f args u.val fun e w' => e = .returned v ∧ Ext u.val w') :
    Calls P f args u.val fun e w' => e = .returned v ∧ ∃ u' : ExtOf w, w' = u'.val :=
  h.mono fun _ w' hh => ⟨hh.1, ⟨w', u.ext.trans hh.2⟩, rfl⟩
/-- a region that draws its order, whose operations read, and whose callees make new blocks at most: one walk in the order of the text -/
theorem wp_region_ext {P : Program} {id : Nat} {Q : Exit → Act → World → Prop} {a : Act} {w : World} {l : List Oper} (hm : P.follows .mixedOrders = true) (hB : Region.lexB .any l.toArray = true)
    (h : wpQuiet P l.toArray (fun w' => ∃ u : ExtOf w, w' = u.val) (fun a' => ∀ w', (∃ u : ExtOf w, w' = u.val) → Q .normal a' w') l a) : (Code.region id l.toArray true).wp P Q a w :=
  wp_region_quiet (C := fun w' => ∃ u : ExtOf w, w' = u.val) hm hB ⟨⟨w.drew, (Ext.refl w).drew⟩, rfl⟩ (by simpa using h)

/-- a bool is returned; only new blocks -/
def RBool (b : Bool) (w : World) (e : Ending) (w' : World) : Prop := e = .returned (.bool b) ∧ Ext w w'

/-- an owned row of integers that is not empty: its address, and its cells -/
theorem owned_ints {w : World} {base e : Nat} {v : Value} {n : Nat} {zs : List Int} (h : w.ownsRow base e 1 v n (zs.map (Value.int .i64))) (hn : 0 < n) :
    ∃ g cap, v = .slice (some ⟨g, 0, none⟩) zs.length cap ∧ base ≤ g ∧ g < w.heap.size ∧ ∀ (i : Nat) z, zs[i]? = some z → w.cell? ⟨g, i, none⟩ = some (.int .i64 z) := by
  have h' := h
  obtain ⟨hlen, hv | ⟨g, cap, cur, rfl, hbg, hgg, hcap, hmax, hsz, htk⟩⟩ := h
  · omega
  · have hC := h'.cells (g := g) rfl
    have e : n = zs.length := by simp at hlen; omega
    subst e
    refine ⟨g, cap, rfl, hbg, (Array.getElem?_eq_some_iff.1 hgg).1, fun i z hz => ?_⟩
    have := hC i (.int .i64 z) (by simp [hz])
    simpa [Addr.add_lit] using this

/-- a fresh block of two cells, known and free -/
abbrev Two (w : World) (b : Nat) (x y : Value) : Prop := w.cell? ⟨b, 0, none⟩ = some x ∧ w.cell? ⟨b, 1, none⟩ = some y ∧ w.frozen? ⟨b, 0, none⟩ = false ∧ w.frozen? ⟨b, 1, none⟩ = false
theorem Two.ext {w w' : World} {b : Nat} {x y : Value} (h : Two w b x y) (k : Ext w w') : Two w' b x y :=
  ⟨k.cell h.1, k.cell h.2.1, k.free (cell_lt h.1) h.2.2.1, k.free (cell_lt h.1) h.2.2.2⟩
theorem Two.new (w : World) (x y : Value) (t : TypeId) : Two (w.alloc (.cells #[x, y] t)) w.heap.size x y :=
  ⟨by simp [go_sem], by simp [go_sem], by simp [go_sem], by simp [go_sem]⟩
theorem held4 {W w' : World} {a b c d : Nat} {i j k l : Nat} {x y z u : Value} (hx : Ext W w')
    (h : W.cell? ⟨a, i, none⟩ = some x ∧ W.cell? ⟨b, j, none⟩ = some y ∧ W.cell? ⟨c, k, none⟩ = some z ∧ W.cell? ⟨d, l, none⟩ = some u) :
    w'.cell? ⟨a, i, none⟩ = some x ∧ w'.cell? ⟨b, j, none⟩ = some y ∧ w'.cell? ⟨c, k, none⟩ = some z ∧ w'.cell? ⟨d, l, none⟩ = some u :=
  ⟨hx.cell h.1, hx.cell h.2.1, hx.cell h.2.2.1, hx.cell h.2.2.2⟩
theorem cells2 {w : World} {b : Nat} {x y : Value} (h0 : w.cell? ⟨b, 0, none⟩ = some x) (h1 : w.cell? ⟨b, 1, none⟩ = some y) : ∀ j u, [x, y][j]? = some u → w.cell? (Addr.add ⟨b, 0, none⟩ j) = some u := by
  intro j u h
  match j, h with
  | 0, h => simpa [Addr.add, h0] using h
  | 1, h => simpa [Addr.add, h1] using h
theorem cells_3 {w : World} {b : Nat} {x y p : Int} (h0 : w.cell? ⟨b, 0, none⟩ = some (.int .i64 x)) (h1 : w.cell? ⟨b, 1, none⟩ = some (.int .i64 y)) (h2 : w.cell? ⟨b, 2, none⟩ = some (.int .i64 p)) : ∀ (i : Nat) z, [x, y, p][i]? = some z → w.cell? ⟨b, i, none⟩ = some (.int .i64 z) := by
  intro j u h
  match j, h with
  | 0, h => simpa [h0] using h
  | 1, h => simpa [h1] using h
  | 2, h => simpa [h2] using h
theorem cells_2 {w : World} {b : Nat} {x y : Int} (h0 : w.cell? ⟨b, 0, none⟩ = some (.int .i64 x)) (h1 : w.cell? ⟨b, 1, none⟩ = some (.int .i64 y)) : ∀ (i : Nat) z, [x, y][i]? = some z → w.cell? ⟨b, i, none⟩ = some (.int .i64 z) := by
  intro j u h
  match j, h with
  | 0, h => simpa [h0] using h
  | 1, h => simpa [h1] using h
theorem cells_4 {w : World} {b : Nat} {x y p q : Int} (h0 : w.cell? ⟨b, 0, none⟩ = some (.int .i64 x)) (h1 : w.cell? ⟨b, 1, none⟩ = some (.int .i64 y)) (h2 : w.cell? ⟨b, 2, none⟩ = some (.int .i64 p)) (h3 : w.cell? ⟨b, 3, none⟩ = some (.int .i64 q)) : ∀ (i : Nat) z, [x, y, p, q][i]? = some z → w.cell? ⟨b, i, none⟩ = some (.int .i64 z) := by
  intro j u h
  match j, h with
  | 0, h => simpa [h0] using h
  | 1, h => simpa [h1] using h
  | 2, h => simpa [h2] using h
  | 3, h => simpa [h3] using h
theorem cells_5 {w : World} {b : Nat} {x y p q r : Int} (h0 : w.cell? ⟨b, 0, none⟩ = some (.int .i64 x)) (h1 : w.cell? ⟨b, 1, none⟩ = some (.int .i64 y)) (h2 : w.cell? ⟨b, 2, none⟩ = some (.int .i64 p)) (h3 : w.cell? ⟨b, 3, none⟩ = some (.int .i64 q)) (h4 : w.cell? ⟨b, 4, none⟩ = some (.int .i64 r)) : ∀ (i : Nat) z, [x, y, p, q, r][i]? = some z → w.cell? ⟨b, i, none⟩ = some (.int .i64 z) := by
  intro j u h
  match j, h with
  | 0, h => simpa [h0] using h
  | 1, h => simpa [h1] using h
  | 2, h => simpa [h2] using h
  | 3, h => simpa [h3] using h
  | 4, h => simpa [h4] using h
end Go.Proofs.Ytiglflmjidikpaa
