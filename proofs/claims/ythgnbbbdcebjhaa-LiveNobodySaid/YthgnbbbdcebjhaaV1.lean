/- what of Base D1 D2 D3 D4 D5 D6 D7 D8 D9 D11 OwnN Plain D10 Sit Apart GraftP OrdA OrdB OrdP OrdC PtsA PtsB PtsD this seat can say -/
import Derived.WalkKit
import Derived.WalkSpells
import Derived.WalkLawsBesides
import Derived.BigQuiet
import Derived.Deep.QuietTactic
import Derived.Lib.Hide
import Derived.Deep.RegionWith
import Derived.Deep.RegionHeld3
import Derived.Deep.LoopGhost
import Derived.Deep.DeepFit
import Derived.Deep.DeepMust
import Derived.Deep.DeepCutAuto
import Derived.Outline
import Derived.Test.YthgnbbbdcebjhaaRows
import Derived.Laws.Cover4
import Derived.Laws.IdiomStrings
import Derived.Shelf.Slices.Reverse
import Derived.Ground.Names2Prog
import Derived.Shelf.Slices.Delete
import Derived.Shelf.Spec.SlicesInsertGrow
import Derived.Shelf.Slices.Cells
import Derived.Laws.EntriesVeiled
import Derived.Deep.CutBlock
import Derived.BigRegion
import Derived.RegionTactic
import Derived.ChangeAlike
import Derived.Deep.Slices
import Derived.ChangeSame
import Derived.Laws.RangeAny
namespace Go.Proofs.Ythgnbbbdcebjhaa
open Go Go.RowKit Go.BigFrame

/-- new blocks, draws; all old blocks as they were -/
def Ext (w w' : World) : Prop := Below w.heap.size w w'
theorem Ext.refl (w : World) : Ext w w := Below.refl _ _
theorem Ext.trans {a b c : World} (h : Ext a b) (k : Ext b c) : Ext a c := Below.trans h (Below.mono k (Below.size h))
theorem Ext.alloc {a w : World} (h : Ext a w) (o : Obj) : Ext a (w.alloc o) := Below.alloc h (Below.size h) o
theorem Ext.drew {a w : World} (h : Ext a w) : Ext a w.drew := Below.drew h
theorem Ext.undrew {w w' : World} (h : Ext w.drew w') : Ext w w' := (Ext.drew (Ext.refl w)).trans h
theorem Ext.setCell {a w : World} (h : Ext a w) {p : Addr} (hp : a.heap.size ≤ p.block) (u : Value) : Ext a (w.setCell p u) := Below.setCell h hp u
theorem Ext.grown {a w w' : World} {row : Option Nat} (h : Ext a w) (hg : w.grownBy w' row) (hr : ∀ k, row = some k → a.heap.size ≤ k) : Ext a w' :=
  Below.grown h hg (Below.size h) hr
theorem Ext.size {w w' : World} (h : Ext w w') : w.heap.size ≤ w'.heap.size := Below.size h
theorem Ext.cell {w w' : World} (h : Ext w w') {b o : Nat} {v : Value} (hc : w.cell? ⟨b, o, none⟩ = some v) : w'.cell? ⟨b, o, none⟩ = some v :=
  (Below.cell h (p := ⟨b, o, none⟩) (World.block_lt_of_cell? w _ hc)).trans hc
theorem Ext.free {w w' : World} (h : Ext w w') {b o : Nat} (hlt : b < w.heap.size) (hc : w.frozen? ⟨b, o, none⟩ = false) : w'.frozen? ⟨b, o, none⟩ = false :=
  (Below.frozen h (p := ⟨b, o, none⟩) hlt).trans hc
theorem Ext.block {w w' : World} (h : Ext w w') {b : Nat} {x : Obj} (hb : w.heap[b]? = some x) : w'.heap[b]? = some x :=
  (Below.block h b (Array.getElem?_eq_some_iff.1 hb).1).trans hb
theorem cell_lt {w : World} {b o : Nat} {v : Value} (h : w.cell? ⟨b, o, none⟩ = some v) : b < w.heap.size := World.block_lt_of_cell? w _ h
theorem ret_int {k : IntKind} {a b : Int} (h : a = b) : Ending.returned (.int k a) = .returned (.int k b) := by rw [h]

/-- a world behind new blocks and draws -/
structure ExtOf (w : World) where
  val : World
  ext : Ext w val
instance (w : World) : Nonempty (ExtOf w) := ⟨⟨w, Ext.refl w⟩⟩
theorem inExt {P : Program} {f : FuncId} {args : Array Value} {w : World} {u : ExtOf w} {v : Value} (h : Calls P f args u.val fun e w' => e = .returned v ∧ Ext u.val w') :
    Calls P f args u.val fun e w' => e = .returned v ∧ ∃ u' : ExtOf w, w' = u'.val :=
  h.mono fun _ w' hh => ⟨hh.1, ⟨w', u.ext.trans hh.2⟩, rfl⟩
/-- a region that draws its order, whose operations read, and whose callees make new blocks at most: one walk in the order of the text -/
theorem wp_region_ext {P : Program} {id : Nat} {Q : Exit → Act → World → Prop} {a : Act} {w : World} {l : List Oper} (hm : P.follows .mixedOrders = true) (hB : Region.lexB .any l.toArray = true)
    (h : wpQuiet P l.toArray (fun w' => ∃ u : ExtOf w, w' = u.val) (fun a' => ∀ w', (∃ u : ExtOf w, w' = u.val) → Q .normal a' w') l a) : (Code.region id l.toArray true).wp P Q a w :=
  wp_region_quiet (C := fun w' => ∃ u : ExtOf w, w' = u.val) hm hB ⟨⟨w.drew, (Ext.refl w).drew⟩, rfl⟩ (by simpa using h)

/-- a bool is returned; only new blocks -/
def RBool (b : Bool) (w : World) (e : Ending) (w' : World) : Prop := e = .returned (.bool b) ∧ Ext w w'

/-- an owned row of integers that is not empty: its address, and its cells -/
theorem owned_ints {w : World} {base e : Nat} {v : Value} {n : Nat} {zs : List Int} (h : w.ownsRow base e 1 v n (zs.map (Value.int .i64))) (hn : 0 < n) :
    ∃ g cap, v = .slice (some ⟨g, 0, none⟩) zs.length cap ∧ base ≤ g ∧ g < w.heap.size ∧ ∀ (i : Nat) z, zs[i]? = some z → w.cell? ⟨g, i, none⟩ = some (.int .i64 z) := by
  have h' := h
  obtain ⟨hlen, hv | ⟨g, cap, cur, rfl, hbg, hgg, hcap, hmax, hsz, htk⟩⟩ := h
  · omega
  · have hC := h'.cells (g := g) rfl
    have e : n = zs.length := by simp at hlen; omega
    subst e
    refine ⟨g, cap, rfl, hbg, (Array.getElem?_eq_some_iff.1 hgg).1, fun i z hz => ?_⟩
    have := hC i (.int .i64 z) (by simp [hz])
    simpa [Addr.add_lit] using this

/-- a fresh block of two cells, known and free -/
abbrev Two (w : World) (b : Nat) (x y : Value) : Prop := w.cell? ⟨b, 0, none⟩ = some x ∧ w.cell? ⟨b, 1, none⟩ = some y ∧ w.frozen? ⟨b, 0, none⟩ = false ∧ w.frozen? ⟨b, 1, none⟩ = false
theorem Two.ext {w w' : World} {b : Nat} {x y : Value} (h : Two w b x y) (k : Ext w w') : Two w' b x y :=
  ⟨k.cell h.1, k.cell h.2.1, k.free (cell_lt h.1) h.2.2.1, k.free (cell_lt h.1) h.2.2.2⟩
theorem Two.new (w : World) (x y : Value) (t : TypeId) : Two (w.alloc (.cells #[x, y] t)) w.heap.size x y :=
  ⟨by simp [go_sem], by simp [go_sem], by simp [go_sem], by simp [go_sem]⟩
theorem cells2 {w : World} {b : Nat} {x y : Value} (h0 : w.cell? ⟨b, 0, none⟩ = some x) (h1 : w.cell? ⟨b, 1, none⟩ = some y) : ∀ j u, [x, y][j]? = some u → w.cell? (Addr.add ⟨b, 0, none⟩ j) = some u := by
  intro j u h
  match j, h with
  | 0, h => simpa [Addr.add, h0] using h
  | 1, h => simpa [Addr.add, h1] using h
theorem cells_3 {w : World} {b : Nat} {x y p : Int} (h0 : w.cell? ⟨b, 0, none⟩ = some (.int .i64 x)) (h1 : w.cell? ⟨b, 1, none⟩ = some (.int .i64 y)) (h2 : w.cell? ⟨b, 2, none⟩ = some (.int .i64 p)) : ∀ (i : Nat) z, [x, y, p][i]? = some z → w.cell? ⟨b, i, none⟩ = some (.int .i64 z) := by
  intro j u h
  match j, h with
  | 0, h => simpa [h0] using h
  | 1, h => simpa [h1] using h
  | 2, h => simpa [h2] using h
theorem cells_2 {w : World} {b : Nat} {x y : Int} (h0 : w.cell? ⟨b, 0, none⟩ = some (.int .i64 x)) (h1 : w.cell? ⟨b, 1, none⟩ = some (.int .i64 y)) : ∀ (i : Nat) z, [x, y][i]? = some z → w.cell? ⟨b, i, none⟩ = some (.int .i64 z) := by
  intro j u h
  match j, h with
  | 0, h => simpa [h0] using h
  | 1, h => simpa [h1] using h
theorem cells_4 {w : World} {b : Nat} {x y p q : Int} (h0 : w.cell? ⟨b, 0, none⟩ = some (.int .i64 x)) (h1 : w.cell? ⟨b, 1, none⟩ = some (.int .i64 y)) (h2 : w.cell? ⟨b, 2, none⟩ = some (.int .i64 p)) (h3 : w.cell? ⟨b, 3, none⟩ = some (.int .i64 q)) : ∀ (i : Nat) z, [x, y, p, q][i]? = some z → w.cell? ⟨b, i, none⟩ = some (.int .i64 z) := by
  intro j u h
  match j, h with
  | 0, h => simpa [h0] using h
  | 1, h => simpa [h1] using h
  | 2, h => simpa [h2] using h
  | 3, h => simpa [h3] using h
end Go.Proofs.Ythgnbbbdcebjhaa

namespace Go.Proofs.Ythgnbbbdcebjhaa
open Go Go.RowKit Go.BigFrame
set_option linter.unusedVariables false

structure Nd where
  tag : Int
  attrs : List (ByteArray × ByteArray)
  text : ByteArray
  kids : List Int
  parent : Int
structure Tr where
  cap : Int
  deep : Int
  count : Int
  nodes : List (Option Nd)

/-- whose is a block? -/
abbrev Ow := Nat → Option (Nat × Nat)
/-- a slice of n elements that starts its block (of which p holds) with these cells; an empty one without room may lie anywhere -/
def RowP (w : World) (p : Nat → Prop) (e size : Nat) (v : Value) (n : Nat) (xs : List Value) : Prop :=
  xs.length = n * size ∧ ((n = 0 ∧ ∃ a, v = .slice a 0 0) ∨
    ∃ g cap cur, v = .slice (some ⟨g, 0, none⟩) n cap ∧ p g ∧ w.heap[g]? = some (.cells cur e (0, 0)) ∧ n ≤ cap ∧ cap ≤ maxLen ∧ cur.size = cap * size ∧ cur.toList.take (n * size) = xs)
/-- .. owned -/
def RowAt (w : World) (own : Ow) (e size : Nat) (o : Nat × Nat) (v : Value) (n : Nat) (xs : List Value) : Prop := RowP w (fun g => own g = some o) e size v n xs
/-- .. in new memory -/
def RowIn (w : World) (B : Nat) (e size : Nat) (v : Value) (n : Nat) (xs : List Value) : Prop := RowP w (fun g => B ≤ g) e size v n xs
/-- a slice that reads so, wherever it lies -/
def RowRd (w : World) (size : Nat) (v : Value) (n : Nat) (xs : List Value) : Prop :=
  xs.length = n * size ∧ ∃ ao cap, v = .slice ao n cap ∧ n ≤ cap ∧ (ao = none → n = 0 ∧ cap = 0) ∧ ∀ a, ao = some a → ∀ (j : Nat) x, xs[j]? = some x → w.cell? (a.add j) = some x
def attrCells : List (ByteArray × ByteArray) → List Value
  | [] => []
  | (a, b) :: r => .string a :: .string b :: attrCells r
def nodeVal (ptr : Nat → Nat) (i : Nat) : Option Nd → Value
  | some _ => .pointer (some ⟨ptr i, 0, none⟩)
  | none => .pointer none
def nodeVals (ptr : Nat → Nat) (l : List (Option Nd)) : List Value := l.mapIdx (nodeVal ptr)
/-- the tree at block tb -/
structure TreeAt (w : World) (own : Ow) (ptr : Nat → Nat) (tb : Nat) (T : Tr) : Prop where
  head : ∃ nv, w.heap[tb]? = some (.cells #[.int .i64 T.cap, .int .i64 T.deep, .int .i64 T.count, nv] 81 (0, 0)) ∧ own tb = some (0, 0) ∧
    RowAt w own 71 1 (1, 0) nv T.nodes.length (nodeVals ptr T.nodes)
  node : ∀ i nd, T.nodes[i]? = some (some nd) → ∃ av kv, w.heap[ptr i]? = some (.cells #[.int .i64 nd.tag, av, .string nd.text, kv, .int .i64 nd.parent] 76 (0, 0)) ∧
    own (ptr i) = some (2, i) ∧ RowAt w own 101 2 (3, i) av nd.attrs.length (attrCells nd.attrs) ∧ RowAt w own 3 1 (4, i) kv nd.kids.length (nd.kids.map (Value.int .i64))
/-- the numbers are small -/
structure Small (T : Tr) : Prop where
  cap0 : 0 ≤ T.cap
  cap1 : T.cap ≤ 2000
  deep0 : 0 ≤ T.deep
  deep1 : T.deep ≤ 40
  count0 : 0 ≤ T.count
  count1 : T.count ≤ T.cap
  len : T.nodes.length ≤ 2000

def Tr.get? (T : Tr) (id : Int) : Option Nd := if id < 0 then none else (T.nodes[id.toNat]?).join

/-- all blocks that are owned, and what is read of them, stays -/
def Keep (own : Ow) (w w' : World) : Prop := ∀ b, own b ≠ none → w'.heap[b]? = w.heap[b]?
theorem RowAt.keep {w w' : World} {own : Ow} {e size : Nat} {o : Nat × Nat} {v : Value} {n : Nat} {xs : List Value} (h : RowAt w own e size o v n xs) (k : Keep own w w') : RowAt w' own e size o v n xs := by
  refine ⟨h.1, ?_⟩
  rcases h.2 with h0 | ⟨g, cap, cur, h1, h2, h3, h4⟩
  · exact .inl h0
  · exact .inr ⟨g, cap, cur, h1, h2, by rw [k g (by simp [h2])]; exact h3, h4⟩
theorem TreeAt.keep {w w' : World} {own : Ow} {ptr : Nat → Nat} {tb : Nat} {T : Tr} (h : TreeAt w own ptr tb T) (k : Keep own w w') : TreeAt w' own ptr tb T := by
  constructor
  · obtain ⟨nv, h1, h2, h3⟩ := h.head
    exact ⟨nv, by rw [k tb (by simp [h2])]; exact h1, h2, h3.keep k⟩
  · intro i nd hi
    obtain ⟨av, kv, h1, h2, h3, h4⟩ := h.node i nd hi
    exact ⟨av, kv, by rw [k _ (by simp [h2])]; exact h1, h2, h3.keep k, h4.keep k⟩
/-- owned blocks are there -/
def Owned (own : Ow) (w : World) : Prop := ∀ b, own b ≠ none → b < w.heap.size
theorem Ext.keep {w w' : World} {own : Ow} (h : Ext w w') (o : Owned own w) : Keep own w w' := fun b hb => Below.block h b (o b hb)

theorem cellOf {w : World} {b : Nat} {cs : Array Value} {t : TypeId} {fr : Nat × Nat} (h : w.heap[b]? = some (.cells cs t fr)) {i : Nat} {v : Value} (hi : cs[i]? = some v) : w.cell? ⟨b, i, none⟩ = some v := by
  simp [World.cell?, h, hi]
theorem freeOf {w : World} {b : Nat} {cs : Array Value} {t : TypeId} (h : w.heap[b]? = some (.cells cs t (0, 0))) (i : Nat) : w.frozen? ⟨b, i, none⟩ = false := by
  simp [World.frozen?, h]
theorem RowP.rd {w : World} {p : Nat → Prop} {e size : Nat} {v : Value} {n : Nat} {xs : List Value} (h : RowP w p e size v n xs) : RowRd w size v n xs := by
  refine ⟨h.1, ?_⟩
  rcases h.2 with ⟨rfl, a, rfl⟩ | ⟨g, cap, cur, rfl, h2, h3, h4, h5, h6, h7⟩
  · have hl := h.1
    obtain rfl : xs = [] := List.eq_nil_of_length_eq_zero (by simpa using hl)
    exact ⟨a, 0, rfl, Nat.le_refl _, fun _ => ⟨rfl, rfl⟩, fun a' _ j x hx => by simp at hx⟩
  · refine ⟨_, cap, rfl, h4, (fun h => by cases h), fun a ha j x hx => ?_⟩
    cases ha
    rw [Addr.add_lit, Nat.zero_add]
    refine cellOf h3 ?_
    rw [← h7, List.getElem?_take] at hx
    split at hx
    · simpa using hx
    · cases hx
theorem RowRd.len_of {w : World} {size : Nat} {v : Value} {n : Nat} {xs : List Value} (h : RowRd w size v n xs) : ∃ a cap, v = .slice a n cap ∧ n ≤ cap := by
  obtain ⟨_, a, cap, h1, h2, _⟩ := h
  exact ⟨a, cap, h1, h2⟩
theorem RowRd.ext {w w' : World} {size : Nat} {v : Value} {n : Nat} {xs : List Value} (h : RowRd w size v n xs) (k : Ext w w') : RowRd w' size v n xs := by
  obtain ⟨h1, ao, cap, h2, h3, h4, h5⟩ := h
  refine ⟨h1, ao, cap, h2, h3, h4, fun a ha j x hx => ?_⟩
  have hc := h5 a ha j x hx
  exact (Below.cell k (World.block_lt_of_cell? w _ hc)).trans hc
theorem RowP.imp {w : World} {p q : Nat → Prop} {e size : Nat} {v : Value} {n : Nat} {xs : List Value} (h : RowP w p e size v n xs) (k : ∀ g, v.ownBlock = some g → p g → q g) : RowP w q e size v n xs := by
  refine ⟨h.1, ?_⟩
  rcases h.2 with h0 | ⟨g, cap, cur, h1, h2, h3⟩
  · exact .inl h0
  · exact .inr ⟨g, cap, cur, h1, k g (by rw [h1]; rfl) h2, h3⟩
theorem RowP.ext {w w' : World} {p : Nat → Prop} {e size : Nat} {v : Value} {n : Nat} {xs : List Value} (h : RowP w p e size v n xs) (k : Ext w w') : RowP w' p e size v n xs := by
  refine ⟨h.1, ?_⟩
  rcases h.2 with h0 | ⟨g, cap, cur, h1, h2, h3, h4⟩
  · exact .inl h0
  · exact .inr ⟨g, cap, cur, h1, h2, k.block h3, h4⟩
theorem RowP.block {w : World} {B e size : Nat} {v : Value} {n : Nat} {xs : List Value} (h : RowP w (fun g => B ≤ g) e size v n xs) : ∃ rb : Option Nat, RowP w (fun g => rb = some g) e size v n xs ∧ ∀ k, rb = some k → B ≤ k ∧ k < w.heap.size := by
  rcases h.2 with h0 | ⟨g, cap, cur, h1, h2, h3, h4⟩
  · exact ⟨none, ⟨h.1, .inl h0⟩, fun k hk => by cases hk⟩
  · exact ⟨some g, ⟨h.1, .inr ⟨g, cap, cur, h1, rfl, h3, h4⟩⟩, fun k hk => by cases hk; exact ⟨h2, (Array.getElem?_eq_some_iff.1 h3).1⟩⟩
theorem RowIn.block {w : World} {B e size : Nat} {v : Value} {n : Nat} {xs : List Value} (h : RowIn w B e size v n xs) : ∃ rb : Option Nat, RowP w (fun g => rb = some g) e size v n xs ∧ ∀ k, rb = some k → B ≤ k ∧ k < w.heap.size := RowP.block h
theorem RowP.of_owns {w : World} {B e size : Nat} {v : Value} {n : Nat} {xs : List Value} (h : w.ownsRow B e size v n xs) : RowIn w B e size v n xs := by
  refine ⟨h.1, ?_⟩
  rcases h.2 with ⟨h1, h2⟩ | ⟨g, cap, cur, h1, h2, h3, h4⟩
  · exact .inl ⟨h2, none, h2 ▸ h1⟩
  · exact .inr ⟨g, cap, cur, h1, h2, h3, h4⟩
theorem RowAt.cell {w : World} {own : Ow} {e : Nat} {o : Nat × Nat} {v : Value} {n : Nat} {xs : List Value} (h : RowAt w own e 1 o v n xs) {i : Nat} {x : Value} (hx : xs[i]? = some x) :
    ∃ g cap, v = .slice (some ⟨g, 0, none⟩) n cap ∧ w.cell? ⟨g, i, none⟩ = some x := by
  rcases h.2 with ⟨h0, _⟩ | ⟨g, cap, cur, h1, h2, h3, h4, h5, h6, h7⟩
  · have hl := h.1
    rw [h0] at hl
    obtain rfl : xs = [] := List.eq_nil_of_length_eq_zero (by simpa using hl)
    simp at hx
  · refine ⟨g, cap, h1, cellOf h3 ?_⟩
    rw [← h7, List.getElem?_take] at hx
    split at hx
    · simpa using hx
    · cases hx
theorem RowAt.len {w : World} {own : Ow} {e size : Nat} {o : Nat × Nat} {v : Value} {n : Nat} {xs : List Value} (h : RowAt w own e size o v n xs) : ∃ a cap, v = .slice a n cap ∧ n ≤ cap ∧ cap ≤ maxLen := by
  rcases h.2 with ⟨rfl, a, rfl⟩ | ⟨g, cap, cur, h1, h2, h3, h4, h5, h6⟩
  · exact ⟨a, 0, rfl, Nat.le_refl _, Nat.zero_le _⟩
  · exact ⟨_, cap, h1, h4, h5⟩

/-- a value is returned, and nothing has turned -/
def RSame (v : Value) (w : World) (e : Ending) (w' : World) : Prop := e = .returned v ∧ w = w'
/-- a value is returned; only new blocks -/
def RVal (v : Value) (w : World) (e : Ending) (w' : World) : Prop := e = .returned v ∧ Ext w w'
theorem RSame.val {P : Program} {f : FuncId} {args : Array Value} {v : Value} {w : World} (h : Calls P f args w (RSame v w)) : Calls P f args w (RVal v w) :=
  h.mono fun e w' hh => ⟨hh.1, hh.2 ▸ Ext.refl w⟩

theorem Tr.get_lt {T : Tr} {id : Int} {nd : Nd} (h : T.get? id = some nd) : 0 ≤ id ∧ id.toNat < T.nodes.length ∧ T.nodes[id.toNat]? = some (some nd) := by
  unfold Tr.get? at h
  split at h
  · cases h
  · have h' : T.nodes[id.toNat]? = some (some nd) := by
      cases hc : T.nodes[id.toNat]? with
      | none => rw [hc] at h; cases h
      | some x => rw [hc] at h; simpa using h
    exact ⟨by omega, (List.getElem?_eq_some_iff.1 h').1, h'⟩

set_option maxHeartbeats 400000 in
theorem get_some {w : World} {own : Ow} {ptr : Nat → Nat} {tb : Nat} {T : Tr} (hT : TreeAt w own ptr tb T) {id : Int} {nd : Nd} (h : T.get? id = some nd) :
    Calls Try.prog 46 #[.pointer (some ⟨tb, 0, none⟩), .int .i64 id] w (RSame (.pointer (some ⟨ptr id.toNat, 0, none⟩)) w) := by
  obtain ⟨h0, hlt, hnd⟩ := Tr.get_lt h
  obtain ⟨i, rfl⟩ := Int.eq_ofNat_of_zero_le h0
  simp only [Int.toNat_natCast] at hlt hnd ⊢
  obtain ⟨nv, hb, _, hrow⟩ := hT.head
  obtain ⟨g, cap, rfl, hcell⟩ := hrow.cell (i := i) (x := .pointer (some ⟨ptr i, 0, none⟩)) (by simp [nodeVals, List.getElem?_mapIdx, hnd, nodeVal])
  obtain ⟨_, _, e1, e2, e3⟩ := hrow.len
  cases e1
  have c3 := cellOf hb (i := 3) rfl
  unfold maxLen at e3
  clear hb hrow hT hnd h h0
  go_enter Try.func46, Try.ntmps46
  go_wp2
  go_ret
  exact ⟨rfl, rfl⟩
set_option maxHeartbeats 400000 in
theorem get_none {w : World} {own : Ow} {ptr : Nat → Nat} {tb : Nat} {T : Tr} (hT : TreeAt w own ptr tb T) {id : Int} (h : T.get? id = none) :
    Calls Try.prog 46 #[.pointer (some ⟨tb, 0, none⟩), .int .i64 id] w (RSame (.pointer none) w) := by
  obtain ⟨nv, hb, _, hrow⟩ := hT.head
  obtain ⟨a, cap, rfl, e2, e3⟩ := hrow.len
  have c3 := cellOf hb (i := 3) rfl
  unfold maxLen at e3
  by_cases h0 : id < 0
  · clear hb hrow hT h
    go_enter Try.func46, Try.ntmps46
    go_wp2
    go_ret
    exact ⟨rfl, rfl⟩
  · obtain ⟨i, rfl⟩ := Int.eq_ofNat_of_zero_le (by omega : 0 ≤ id)
    by_cases hlt : i < T.nodes.length
    · have hnd : T.nodes[i]? = some none := by
        unfold Tr.get? at h
        rw [if_neg h0, Int.toNat_natCast] at h
        cases hc : T.nodes[i]? with
        | none => rw [List.getElem?_eq_none_iff] at hc; omega
        | some x => rw [hc] at h; cases x with
          | none => rfl
          | some y => simp at h
      obtain ⟨g, cap', e, hcell⟩ := hrow.cell (i := i) (x := .pointer none) (by simp [nodeVals, List.getElem?_mapIdx, hnd, nodeVal])
      cases e
      clear hb hrow hT hnd h h0
      go_enter Try.func46, Try.ntmps46
      go_wp2
      go_ret
      exact ⟨rfl, rfl⟩
    · clear hb hrow hT h
      go_enter Try.func46, Try.ntmps46
      go_wp2
      go_ret
      exact ⟨rfl, rfl⟩
end Go.Proofs.Ythgnbbbdcebjhaa

namespace Go.Proofs.Ythgnbbbdcebjhaa
open Go Go.RowKit Go.BigFrame
set_option linter.unusedVariables false

set_option maxHeartbeats 400000 in
theorem Has_none {w : World} {own : Ow} {ptr : Nat → Nat} {tb : Nat} {T : Tr} (hT : TreeAt w own ptr tb T) {id : Int} (h : T.get? id = none) : Calls Try.prog 38 #[.pointer (some ⟨tb, 0, none⟩), .int .i64 id] w (RSame (.bool false) w) := by
  have H := Lib.hid h
  clear h
  go_enter Try.func38, Try.ntmps38
  go_wp2_with (go_at_call 46; refine (get_none hT H.out).mono ?_; rintro e w' ⟨rfl, rfl⟩)
  go_ret
  exact ⟨rfl, rfl⟩
set_option maxHeartbeats 400000 in
theorem Has_some {w : World} {own : Ow} {ptr : Nat → Nat} {tb : Nat} {T : Tr} (hT : TreeAt w own ptr tb T) {id : Int} {nd : Nd} (h : T.get? id = some nd) : Calls Try.prog 38 #[.pointer (some ⟨tb, 0, none⟩), .int .i64 id] w (RSame (.bool true) w) := by
  have H := Lib.hid h
  have hn := (Tr.get_lt h).2.2
  obtain ⟨av, kv, hb, _⟩ := hT.node _ _ hn

  clear hb hn h
  go_enter Try.func38, Try.ntmps38
  go_wp2_with (go_at_call 46; refine (get_some hT H.out).mono ?_; rintro e w' ⟨rfl, rfl⟩)
  go_ret
  exact ⟨rfl, rfl⟩
set_option maxHeartbeats 400000 in
theorem Tag_none {w : World} {own : Ow} {ptr : Nat → Nat} {tb : Nat} {T : Tr} (hT : TreeAt w own ptr tb T) {id : Int} (h : T.get? id = none) : Calls Try.prog 39 #[.pointer (some ⟨tb, 0, none⟩), .int .i64 id] w (RSame (.int .i64 (-1)) w) := by
  have H := Lib.hid h
  clear h
  go_enter Try.func39, Try.ntmps39
  go_wp2_with (go_at_call 46; refine (get_none hT H.out).mono ?_; rintro e w' ⟨rfl, rfl⟩)
  go_ret
  exact ⟨rfl, rfl⟩
set_option maxHeartbeats 400000 in
theorem Tag_some {w : World} {own : Ow} {ptr : Nat → Nat} {tb : Nat} {T : Tr} (hT : TreeAt w own ptr tb T) {id : Int} {nd : Nd} (h : T.get? id = some nd) : Calls Try.prog 39 #[.pointer (some ⟨tb, 0, none⟩), .int .i64 id] w (RSame (.int .i64 nd.tag) w) := by
  have H := Lib.hid h
  have hn := (Tr.get_lt h).2.2
  obtain ⟨av, kv, hb, _⟩ := hT.node _ _ hn

  have c := cellOf hb (i := 0) rfl
  clear hb hn h
  go_enter Try.func39, Try.ntmps39
  go_wp2_with (go_at_call 46; refine (get_some hT H.out).mono ?_; rintro e w' ⟨rfl, rfl⟩)
  go_ret
  exact ⟨rfl, rfl⟩
set_option maxHeartbeats 400000 in
theorem Told_none {w : World} {own : Ow} {ptr : Nat → Nat} {tb : Nat} {T : Tr} (hT : TreeAt w own ptr tb T) {id : Int} (h : T.get? id = none) : Calls Try.prog 41 #[.pointer (some ⟨tb, 0, none⟩), .int .i64 id] w (RSame (.string ByteArray.empty) w) := by
  have H := Lib.hid h
  clear h
  go_enter Try.func41, Try.ntmps41
  go_wp2_with (go_at_call 46; refine (get_none hT H.out).mono ?_; rintro e w' ⟨rfl, rfl⟩)
  go_ret
  exact ⟨rfl, rfl⟩
set_option maxHeartbeats 400000 in
theorem Told_some {w : World} {own : Ow} {ptr : Nat → Nat} {tb : Nat} {T : Tr} (hT : TreeAt w own ptr tb T) {id : Int} {nd : Nd} (h : T.get? id = some nd) : Calls Try.prog 41 #[.pointer (some ⟨tb, 0, none⟩), .int .i64 id] w (RSame (.string nd.text) w) := by
  have H := Lib.hid h
  have hn := (Tr.get_lt h).2.2
  obtain ⟨av, kv, hb, _⟩ := hT.node _ _ hn

  have c := cellOf hb (i := 2) rfl
  clear hb hn h
  go_enter Try.func41, Try.ntmps41
  go_wp2_with (go_at_call 46; refine (get_some hT H.out).mono ?_; rintro e w' ⟨rfl, rfl⟩)
  go_ret
  exact ⟨rfl, rfl⟩
set_option maxHeartbeats 400000 in
theorem Parent_none {w : World} {own : Ow} {ptr : Nat → Nat} {tb : Nat} {T : Tr} (hT : TreeAt w own ptr tb T) {id : Int} (h : T.get? id = none) : Calls Try.prog 28 #[.pointer (some ⟨tb, 0, none⟩), .int .i64 id] w (RSame (.int .i64 (-1)) w) := by
  have H := Lib.hid h
  clear h
  go_enter Try.func28, Try.ntmps28
  go_wp2_with (go_at_call 46; refine (get_none hT H.out).mono ?_; rintro e w' ⟨rfl, rfl⟩)
  go_ret
  exact ⟨rfl, rfl⟩
set_option maxHeartbeats 400000 in
theorem Parent_some {w : World} {own : Ow} {ptr : Nat → Nat} {tb : Nat} {T : Tr} (hT : TreeAt w own ptr tb T) {id : Int} {nd : Nd} (h : T.get? id = some nd) : Calls Try.prog 28 #[.pointer (some ⟨tb, 0, none⟩), .int .i64 id] w (RSame (.int .i64 nd.parent) w) := by
  have H := Lib.hid h
  have hn := (Tr.get_lt h).2.2
  obtain ⟨av, kv, hb, _⟩ := hT.node _ _ hn

  have c := cellOf hb (i := 4) rfl
  clear hb hn h
  go_enter Try.func28, Try.ntmps28
  go_wp2_with (go_at_call 46; refine (get_some hT H.out).mono ?_; rintro e w' ⟨rfl, rfl⟩)
  go_ret
  exact ⟨rfl, rfl⟩
/-- two values are returned; only new blocks -/
def RTwo (v v' : Value) (w : World) (e : Ending) (w' : World) : Prop := e = .returned (.tuple #[v, v']) ∧ Ext w w'
set_option maxHeartbeats 400000 in
theorem room_any {w : World} {own : Ow} {ptr : Nat → Nat} {tb : Nat} {T : Tr} (hT : TreeAt w own ptr tb T) (hs : Small T) (n : Int) (h0 : 0 ≤ n) (h1 : n ≤ 100000000) : Calls Try.prog 49 #[.pointer (some ⟨tb, 0, none⟩), .int .i64 n] w (RBool (decide (n ≤ T.cap - T.count)) w) := by
  obtain ⟨nv, hb, _⟩ := hT.head
  have c := cellOf hb (i := 0) rfl
  have c' := cellOf hb (i := 2) rfl
  clear hb
  have d := fun u : ExtOf w => u.ext.cell c
  have d' := fun u : ExtOf w => u.ext.cell c'
  have b1 := hs.cap0
  have b2 := hs.cap1
  have b3 := hs.count0
  have b4 := hs.count1
  have b5 : IntKind.i64.wrap (T.cap - T.count) = T.cap - T.count := IntWalk.i64_in _ (by omega)
  go_enter Try.func49, Try.ntmps49
  go_wp2_with fail
  refine wp_region_ext (by kernel_rfl) (by kernel_rfl) ?_
  repeat (go_big_quiet_step (fail))
  refine wpQuiet_nil ?_
  rintro _ ⟨u, rfl⟩
  go_wp2
  go_ret
  exact ⟨rfl, u.ext⟩
set_option maxHeartbeats 400000 in
theorem element_yes (n : Int) (h0 : 1 ≤ n) (h1 : n ≤ 16) (w : World) : Calls Try.prog 71 #[.int .i64 n] w (RSame (.bool true) w) := by
  go_enter Try.func71, Try.ntmps71
  go_wp2
  go_ret
  exact ⟨rfl, rfl⟩
set_option maxHeartbeats 400000 in
theorem element_no (n : Int) (h : ¬ (1 ≤ n ∧ n ≤ 16)) (w : World) : Calls Try.prog 71 #[.int .i64 n] w (RSame (.bool false) w) := by
  by_cases h0 : 1 ≤ n
  · have h1 : ¬ n ≤ 16 := fun h1 => h ⟨h0, h1⟩
    clear h
    go_enter Try.func71, Try.ntmps71
    go_wp2
    go_ret
    exact ⟨rfl, rfl⟩
  · clear h
    go_enter Try.func71, Try.ntmps71
    go_wp2
    go_ret
    exact ⟨rfl, rfl⟩

end Go.Proofs.Ythgnbbbdcebjhaa

namespace Go.Proofs.Ythgnbbbdcebjhaa
open Go Go.RowKit Go.BigFrame
set_option linter.unusedVariables false

/-- a slice in new memory is returned -/
def RRow (e size n : Nat) (xs : List Value) (w : World) (en : Ending) (w' : World) : Prop := ∃ v, en = .returned v ∧ RowIn w' w.heap.size e size v n xs ∧ Ext w w'
theorem infoI : (Try.prog.info? 3).map (fun i => (i.zero, i.size, i.bytes)) = some (some (.int .i64 0), 1, 8) := by kernel_rfl
theorem infoA : (Try.prog.info? 101).map (fun i => (i.zero, i.size, i.bytes)) = some (some (.agg #[.string ByteArray.empty, .string ByteArray.empty]), 2, 32) := by kernel_rfl
theorem infoP : (Try.prog.info? 71).map (fun i => (i.zero, i.size, i.bytes)) = some (some (.pointer none), 1, 8) := by kernel_rfl

set_option maxRecDepth 20000 in
set_option maxHeartbeats 400000 in
theorem cloneI_any {v : Value} {n : Nat} {xs : List Value} {w : World} (h : RowRd w 1 v n xs) (hn : n ≤ 60000) (h1 : ∀ u ∈ xs, u.oneCell' = true) :
    Calls Try.prog 68 #[v] w (RRow 3 1 n xs w) := by
  obtain ⟨hl, ao, cap, rfl, hcap, hnone, hc⟩ := h
  have he := fun (w : World) (a : Option Addr) (n c : Nat) => Lib.run_eql_slice_nil (P := Try.prog) w 42 3 a n c 0 0 Try.underlying42
  cases ao with
  | none =>
    obtain ⟨rfl, rfl⟩ := hnone rfl
    obtain rfl : xs = [] := List.eq_nil_of_length_eq_zero (by simpa using hl)
    clear hc hnone hl h1 hn
    go_enter Try.func68, Try.ntmps68
    go_wp2
    go_ret
    exact ⟨_, rfl, ⟨by simp, .inl ⟨rfl, _, rfl⟩⟩, Ext.refl _⟩
  | some a =>
    have HC := Lib.hid (hc a rfl)
    clear hc hnone
    rcases Nat.eq_zero_or_pos n with rfl | hpos
    · obtain rfl : xs = [] := List.eq_nil_of_length_eq_zero (by simpa using hl)
      clear HC hl h1 hn
      go_enter Try.func68, Try.ntmps68
      go_wp2
      go_ret
      exact ⟨_, rfl, ⟨by simp, .inl ⟨rfl, _, rfl⟩⟩, (Ext.refl _).alloc _⟩
    · obtain ⟨i0, hi, hz0, hz1, hz2⟩ := info_parts infoI
      have Hi := Lib.hid hi
      have Hz0 := Lib.hid hz0
      have Hz1 := Lib.hid hz1
      have Hz2 := Lib.hid hz2
      have H1 := Lib.hid h1
      have HL := Lib.hid hl
      have HN := Lib.hid hn
      clear hi hz0 hz1 hz2 h1 hl hn
      go_enter Try.func68, Try.ntmps68
      go_wp2_with (at_builtin; refine wpList_append_grows _ rfl _ _ 42 rfl 3 i0 (.int .i64 0) 1 8 Try.underlying42 Hi.out Hz0.out Hz1.out Hz2.out rfl (by decide) (some ⟨w.heap.size, 0, none⟩) 0 0 [] rfl (by simp) (by simp) (by simp) a n cap xs rfl HL.out ?c2 H1.out (by omega) ?c3 ?c4 ?_)
      case c2 =>
        intro j u hj
        have hcj := HC.out j u hj
        exact (Below.cell ((Ext.refl w).alloc _) (World.block_lt_of_cell? w _ hcj)).trans hcj
      case c3 => have := HN.out; unfold maxLen; omega
      case c4 => have := HN.out; omega
      intro v' w1 hown hg
      have hb : Ext w w1 := ((Ext.refl _).alloc _).grown hg (by simp)
      clear hg
      go_wp2
      go_ret
      refine ⟨_, rfl, ?_, hb⟩
      have hr := RowP.of_owns hown
      exact RowP.imp hr (fun g _ (hg : w.heap.size + 1 ≤ g) => Nat.le_of_succ_le hg)
set_option maxRecDepth 20000 in
set_option maxHeartbeats 400000 in
theorem cloneA_any {v : Value} {n : Nat} {xs : List Value} {w : World} (h : RowRd w 2 v n xs) (hn : n ≤ 60000) (h1 : ∀ u ∈ xs, u.oneCell' = true) :
    Calls Try.prog 67 #[v] w (RRow 101 2 n xs w) := by
  obtain ⟨hl, ao, cap, rfl, hcap, hnone, hc⟩ := h
  have he := fun (w : World) (a : Option Addr) (n c : Nat) => Lib.run_eql_slice_nil (P := Try.prog) w 36 101 a n c 0 0 Try.underlying36
  cases ao with
  | none =>
    obtain ⟨rfl, rfl⟩ := hnone rfl
    obtain rfl : xs = [] := List.eq_nil_of_length_eq_zero (by simpa using hl)
    clear hc hnone hl h1 hn
    go_enter Try.func67, Try.ntmps67
    go_wp2
    go_ret
    exact ⟨_, rfl, ⟨by simp, .inl ⟨rfl, _, rfl⟩⟩, Ext.refl _⟩
  | some a =>
    have HC := Lib.hid (hc a rfl)
    clear hc hnone
    rcases Nat.eq_zero_or_pos n with rfl | hpos
    · obtain rfl : xs = [] := List.eq_nil_of_length_eq_zero (by simpa using hl)
      clear HC hl h1 hn
      go_enter Try.func67, Try.ntmps67
      go_wp2
      go_ret
      exact ⟨_, rfl, ⟨by simp, .inl ⟨rfl, _, rfl⟩⟩, (Ext.refl _).alloc _⟩
    · obtain ⟨i0, hi, hz0, hz1, hz2⟩ := info_parts infoA
      have Hi := Lib.hid hi
      have Hz0 := Lib.hid hz0
      have Hz1 := Lib.hid hz1
      have Hz2 := Lib.hid hz2
      have H1 := Lib.hid h1
      have HL := Lib.hid hl
      have HN := Lib.hid hn
      clear hi hz0 hz1 hz2 h1 hl hn
      go_enter Try.func67, Try.ntmps67
      go_wp2_with (at_builtin; refine wpList_append_grows _ rfl _ _ 36 rfl 101 i0 (.agg #[.string ByteArray.empty, .string ByteArray.empty]) 2 32 Try.underlying36 Hi.out Hz0.out Hz1.out Hz2.out rfl (by decide) (some ⟨w.heap.size, 0, none⟩) 0 0 [] rfl (by simp) (by simp) (by simp) a n cap xs rfl HL.out ?c2 H1.out (by omega) ?c3 ?c4 ?_)
      case c2 =>
        intro j u hj
        have hcj := HC.out j u hj
        exact (Below.cell ((Ext.refl w).alloc _) (World.block_lt_of_cell? w _ hcj)).trans hcj
      case c3 => have := HN.out; unfold maxLen; omega
      case c4 => have := HN.out; omega
      intro v' w1 hown hg
      have hb : Ext w w1 := ((Ext.refl _).alloc _).grown hg (by simp)
      clear hg
      go_wp2
      go_ret
      refine ⟨_, rfl, ?_, hb⟩
      have hr := RowP.of_owns hown
      exact RowP.imp hr (fun g _ (hg : w.heap.size + 1 ≤ g) => Nat.le_of_succ_le hg)
end Go.Proofs.Ythgnbbbdcebjhaa

namespace Go.Proofs.Ythgnbbbdcebjhaa
open Go Go.RowKit Go.BigFrame
set_option linter.unusedVariables false

/-- what holds of every tree; d: how deep a node lies -/
structure WF (T : Tr) (d : Nat → Nat) : Prop where
  small : Small T
  root : ∃ nd, T.nodes[0]? = some (some nd) ∧ nd.parent = -1 ∧ nd.tag = 1
  deep : ∀ (i : Nat) (nd : Nd), T.nodes[i]? = some (some nd) → (d i : Int) ≤ T.deep
  up : ∀ (i : Nat) (nd : Nd), T.nodes[i]? = some (some nd) → nd.parent = -1 ∧ d i = 0 ∨ ∃ (p : Nat) (pd : Nd), nd.parent = (p : Int) ∧ T.nodes[p]? = some (some pd) ∧ d i = d p + 1 ∧ (i : Int) ∈ pd.kids
  kids : ∀ (i : Nat) (nd : Nd), T.nodes[i]? = some (some nd) → nd.kids.Nodup ∧ ∀ k ∈ nd.kids, ∃ (j : Nat) (kd : Nd), k = (j : Int) ∧ T.nodes[j]? = some (some kd) ∧ kd.parent = (i : Int)
  text : ∀ (i : Nat) (nd : Nd), T.nodes[i]? = some (some nd) → 0 ≤ nd.tag ∧ nd.tag ≤ 16 ∧ (nd.tag = 0 → nd.kids = [])
  count : T.count = ((T.nodes.countP Option.isSome : Nat) : Int)
theorem Tr.get_nat (T : Tr) (i : Nat) : T.get? (i : Int) = (T.nodes[i]?).join := by
  unfold Tr.get?; rw [if_neg (by omega), Int.toNat_natCast]
theorem Tr.get_of {T : Tr} {i : Nat} {nd : Nd} (h : T.nodes[i]? = some (some nd)) : T.get? (i : Int) = some nd := by
  rw [T.get_nat, h]; rfl
/-- the cell of the row of nodes, and the node's own cells -/
theorem TreeAt.at {w : World} {own : Ow} {ptr : Nat → Nat} {tb : Nat} {T : Tr} (hT : TreeAt w own ptr tb T) {i : Nat} {nd : Nd} (h : T.nodes[i]? = some (some nd)) :
    ∃ g cap av kv, w.cell? ⟨tb, 3, none⟩ = some (.slice (some ⟨g, 0, none⟩) T.nodes.length cap) ∧ w.cell? ⟨g, i, none⟩ = some (.pointer (some ⟨ptr i, 0, none⟩)) ∧
      w.heap[ptr i]? = some (.cells #[.int .i64 nd.tag, av, .string nd.text, kv, .int .i64 nd.parent] 76 (0, 0)) := by
  obtain ⟨nv, hb, _, hrow⟩ := hT.head
  obtain ⟨g, cap, rfl, hcell⟩ := hrow.cell (i := i) (x := .pointer (some ⟨ptr i, 0, none⟩)) (by simp [nodeVals, List.getElem?_mapIdx, h, nodeVal])
  obtain ⟨av, kv, h1, _⟩ := hT.node i nd h
  exact ⟨g, cap, av, kv, cellOf hb rfl, hcell, h1⟩
theorem TreeAt.nv {w : World} {own : Ow} {ptr : Nat → Nat} {tb : Nat} {T : Tr} (hT : TreeAt w own ptr tb T) {g cap : Nat} {i : Nat} {nd : Nd} (h : T.nodes[i]? = some (some nd))
    (hc : w.cell? ⟨tb, 3, none⟩ = some (.slice (some ⟨g, 0, none⟩) T.nodes.length cap)) : w.cell? ⟨g, i, none⟩ = some (.pointer (some ⟨ptr i, 0, none⟩)) := by
  obtain ⟨g', cap', _, _, h1, h2, _⟩ := hT.at h
  rw [hc] at h1
  cases h1
  exact h2
def up1 (d : Nat → Nat) (v : Value) : Nat := if intOf v < 0 then 0 else d (intOf v).toNat + 1

theorem up1_nat (d : Nat → Nat) (p : Nat) : up1 d (.int .i64 (p : Int)) = d p + 1 := by
  show (if (p : Int) < 0 then 0 else d ((p : Int)).toNat + 1) = d p + 1
  rw [if_neg (by omega), Int.toNat_natCast]
theorem up1_neg (d : Nat → Nat) : up1 d (.int .i64 (-1)) = 0 := rfl

set_option maxRecDepth 20000 in
set_option maxHeartbeats 1000000 in
theorem Depth_some {w : World} {own : Ow} {ptr : Nat → Nat} {tb : Nat} {T : Tr} (hT : TreeAt w own ptr tb T) {d : Nat → Nat} (hw : WF T d) {i : Nat} {nd : Nd} (h : T.nodes[i]? = some (some nd)) :
    Calls Try.prog 48 #[.pointer (some ⟨tb, 0, none⟩), .int .i64 i] w (RSame (.int .i64 (d i)) w) := by
  obtain ⟨g, cap, av, kv, c3, cn, cb⟩ := hT.at h
  have cp := cellOf cb (i := 4) (v := .int .i64 nd.parent) rfl
  have hlt := (List.getElem?_eq_some_iff.1 h).1
  have hlen := hw.small.len
  have HG := Lib.hid (Tr.get_of h)
  have HW := Lib.hid hw
  have HC := Lib.hid c3
  have HN := Lib.hid h
  clear cb h hw
  go_enter Try.func48, Try.ntmps48
  go_wp2_with (go_at_call 46; refine (get_some hT HG.out).mono ?_; rintro e w' ⟨rfl, rfl⟩)
  go_loop [5, 6] (fun v a => ∃ (j : Nat) (jd : Nd) (c : Nat), T.nodes[j]? = some (some jd) ∧ a = .int .i64 jd.parent ∧ v = .int .i64 c ∧ c + d j = d i ∧ c ≤ 40) (fun _ a => up1 d a)
  case atStart => exact ⟨i, nd, 0, HN.out, rfl, rfl, by omega, by omega⟩
  case round =>
    obtain ⟨j, jd, c, hj, rfl, rfl, hcd, hc40⟩ := hrel
    have HJ := Lib.hid hj
    have HCD := Lib.hid hcd
    clear hcd hj
    rcases HW.out.up j jd HJ.out with ⟨h0, h1⟩ | ⟨p, pd, h0, h1, h2, h3⟩
    · have hneg : jd.parent < 0 := by omega
      have H0 := Lib.hid h0
      have H1 := Lib.hid h1
      clear h0 h1
      go_wp2
      go_ret
      exact ⟨ret_int (by have := HCD.out; have := H1.out; omega), rfl⟩
    · obtain ⟨g', cap', av', kv', c3', cn', cb'⟩ := hT.at h1
      have cn'' := hT.nv h1 HC.out
      have cp' := cellOf cb' (i := 4) (v := .int .i64 pd.parent) rfl
      have hlt' := (List.getElem?_eq_some_iff.1 h1).1
      have H1 := Lib.hid h1
      have H2 := Lib.hid h2
      have hdeep := HW.out.deep i nd HN.out
      have hd1 := HW.out.small.deep1
      have hc39 : c ≤ 39 := by have := HCD.out; omega
      clear h1 h2 h3 cb' c3' cn' hdeep hd1
      rw [h0]
      clear h0
      go_wp2
      go_round
      case rel => exact ⟨p, pd, c + 1, H1.out, rfl, by go_num, by have := HCD.out; have := H2.out; omega, by omega⟩
      case measure =>
        have hu := HW.out.up p pd H1.out
        rcases hu with ⟨q0, q1⟩ | ⟨q, qd, q0, q1, q2, q3⟩
        · rw [q0, up1_neg, up1_nat]; omega
        · rw [q0, up1_nat, up1_nat]; omega

/-- is outer met on the way up from i? -/
def isIn (T : Tr) (outer : Int) : Nat → Int → Bool
  | 0, _ => false
  | f + 1, id => if id < 0 then false else if id = outer then true else match T.get? id with
    | some nd => isIn T outer f nd.parent
    | none => false
theorem isIn_step {T : Tr} (outer : Int) (f : Nat) {i : Nat} {nd : Nd} (h : T.nodes[i]? = some (some nd)) : isIn T outer (f + 1) i = if (i : Int) = outer then true else isIn T outer f nd.parent := by
  show (if (i : Int) < 0 then false else if (i : Int) = outer then true else match T.get? i with | some nd => isIn T outer f nd.parent | none => false) = _
  rw [if_neg (by omega), Tr.get_of h]
theorem isIn_neg (T : Tr) (outer : Int) (f : Nat) : isIn T outer f (-1) = false := by cases f <;> simp [isIn]
theorem isIn_more {T : Tr} {d : Nat → Nat} (hw : WF T d) (outer : Int) : ∀ (f g i : Nat) (nd : Nd), T.nodes[i]? = some (some nd) → d i < f → d i < g → isIn T outer f i = isIn T outer g i := by
  intro f
  induction f with
  | zero => intro g i nd h h1; omega
  | succ f ih =>
    intro g i nd h h1 h2
    cases g with
    | zero => omega
    | succ g =>
      rw [isIn_step outer f h, isIn_step outer g h]
      split
      · rfl
      · rcases hw.up i nd h with ⟨h3, h4⟩ | ⟨p, pd, h3, h4, h5, h6⟩
        · rw [h3, isIn_neg, isIn_neg]
        · rw [h3]; exact ih g p pd h4 (by omega) (by omega)
def Tr.within (T : Tr) (id outer : Int) : Bool := isIn T outer 50 id

set_option maxRecDepth 20000 in
set_option maxHeartbeats 1000000 in
theorem within_any {w : World} {own : Ow} {ptr : Nat → Nat} {tb : Nat} {T : Tr} (hT : TreeAt w own ptr tb T) {d : Nat → Nat} (hw : WF T d) {i : Nat} {nd : Nd} (h : T.nodes[i]? = some (some nd)) {outer : Int} (ho : 0 ≤ outer) :
    Calls Try.prog 55 #[.pointer (some ⟨tb, 0, none⟩), .int .i64 i, .int .i64 outer] w (RSame (.bool (T.within i outer)) w) := by
  obtain ⟨g, cap, av, kv, c3, cn, cb⟩ := hT.at h
  have hlt := (List.getElem?_eq_some_iff.1 h).1
  have hlen := hw.small.len
  have hd0 : d i < 50 := by have := hw.deep i nd h; have := hw.small.deep1; omega
  have HW := Lib.hid hw
  have HC := Lib.hid c3
  have HN := Lib.hid h
  clear cb h hw cn
  go_enter Try.func55, Try.ntmps55
  go_wp2_with fail
  go_loop [1] (fun a => a = .int .i64 (-1) ∧ T.within i outer = false ∨ ∃ (j : Nat) (jd : Nd) (f : Nat), T.nodes[j]? = some (some jd) ∧ a = .int .i64 j ∧ d j < f ∧ T.within i outer = isIn T outer f j) (fun a => up1 d a)
  case atStart => exact .inr ⟨i, nd, 50, HN.out, rfl, hd0, rfl⟩
  case round =>
    rcases hrel with ⟨rfl, hno⟩ | ⟨j, jd, f, hj, rfl, hf, hin⟩
    · have HO := Lib.hid hno
      clear hno
      have hne : ((-1 : Int) == outer) = false := by simp; omega
      go_wp2
      go_ret
      exact ⟨by rw [HO.out]; rfl, rfl⟩
    · have HJ := Lib.hid hj
      have HI := Lib.hid hin
      have hltj := (List.getElem?_eq_some_iff.1 hj).1
      clear hin hj
      by_cases he : (j : Int) = outer
      · have HE := Lib.hid he
        have hb : ((j : Int) != outer) = false := by simp [he]
        have hb' : ((j : Int) == outer) = true := by simp [he]
        clear he
        go_wp2
        go_ret
        refine ⟨?_, rfl⟩
        rw [HI.out]
        cases f with
        | zero => omega
        | succ f => unfold isIn; rw [if_neg (by omega), if_pos HE.out]; rfl
      · have hb : ((j : Int) != outer) = true := by simpa using he
        have HE := Lib.hid he
        clear he
        obtain ⟨g', cap', av', kv', c3', cn', cb'⟩ := hT.at HJ.out
        have cn'' := hT.nv HJ.out HC.out
        have cp' := cellOf cb' (i := 4) (v := .int .i64 jd.parent) rfl
        clear cb' c3' cn'
        go_wp2
        go_round
        case rel =>
          cases f with
          | zero => omega
          | succ f =>
            have hI := HI.out
            unfold isIn at hI
            rw [if_neg (by omega), if_neg HE.out, Tr.get_of HJ.out] at hI
            rcases HW.out.up j jd HJ.out with ⟨h3, h4⟩ | ⟨p, pd, h3, h4, h5, h6⟩
            · left
              simp only [h3] at hI
              exact ⟨by rw [h3], by rw [hI]; cases f <;> simp [isIn]⟩
            · right
              simp only [h3] at hI
              exact ⟨p, pd, f, h4, by rw [h3], by omega, hI⟩
        case measure =>
          rcases HW.out.up j jd HJ.out with ⟨h3, h4⟩ | ⟨p, pd, h3, h4, h5, h6⟩
          · rw [h3, up1_neg, up1_nat]; omega
          · rw [h3, up1_nat, up1_nat]; omega
end Go.Proofs.Ythgnbbbdcebjhaa

namespace Go.Proofs.Ythgnbbbdcebjhaa
open Go Go.RowKit Go.BigFrame
set_option linter.unusedVariables false

/-- how high a node stands, with fuel -/
def Tr.hgt (T : Tr) : Nat → Int → Int
  | 0, _ => 0
  | f + 1, id => match T.get? id with
    | none => -1
    | some nd => nd.kids.foldl (fun h k => max h (T.hgt f k + 1)) 0
theorem fold_le (F : Int → Int) (b : Int) (h1 : ∀ k, F k ≤ b) (h0 : 0 ≤ b) : ∀ (l : List Int) (z : Int), 0 ≤ z → z ≤ b → 0 ≤ l.foldl (fun h k => max h (F k)) z ∧ l.foldl (fun h k => max h (F k)) z ≤ b := by
  intro l
  induction l with
  | nil => intro z hz hb; exact ⟨hz, hb⟩
  | cons k r ih =>
    intro z hz hb
    have := h1 k
    exact ih _ (show 0 ≤ max z (F k) by omega) (show max z (F k) ≤ b by omega)
theorem Tr.hgt_le (T : Tr) : ∀ (f : Nat) (id : Int), -1 ≤ T.hgt f id ∧ T.hgt f id ≤ f := by
  intro f
  induction f with
  | zero => intro id; simp [Tr.hgt]
  | succ f ih =>
    intro id
    unfold Tr.hgt
    split
    · omega
    · have := fold_le (fun k => T.hgt f k + 1) (f + 1) (fun k => by have := (ih k).2; omega) (by omega)
      rename_i nd _
      have := this nd.kids 0 (Int.le_refl 0) (by omega)
      constructor <;> push_cast <;> omega
theorem WF.kid {T : Tr} {d : Nat → Nat} (hw : WF T d) {i : Nat} {nd : Nd} (h : T.nodes[i]? = some (some nd)) {n : Nat} {k : Int} (hk : nd.kids[n]? = some k) :
    ∃ (j : Nat) (kd : Nd), k = (j : Int) ∧ T.nodes[j]? = some (some kd) ∧ kd.parent = (i : Int) ∧ d j = d i + 1 := by
  obtain ⟨j, kd, h1, h2, h3⟩ := (hw.kids i nd h).2 k (List.mem_of_getElem? hk)
  refine ⟨j, kd, h1, h2, h3, ?_⟩
  rcases hw.up j kd h2 with ⟨h4, h5⟩ | ⟨p, pd, h4, h5, h6, h7⟩
  · omega
  · obtain rfl : p = i := by omega
    exact h6
theorem fold_snoc (F : Int → Int → Int) (l : List Int) (n : Nat) (k : Int) (h : l[n]? = some k) (z : Int) : (l.take (n + 1)).foldl F z = F ((l.take n).foldl F z) k := by
  obtain ⟨hlt, rfl⟩ := List.getElem?_eq_some_iff.1 h
  rw [List.take_succ_eq_append_getElem hlt, List.foldl_append]; rfl

set_option maxRecDepth 20000 in
set_option maxHeartbeats 1000000 in
theorem Height_fuel {w : World} {own : Ow} {ptr : Nat → Nat} {tb : Nat} {T : Tr} (hT : TreeAt w own ptr tb T) {d : Nat → Nat} (hw : WF T d) :
    ∀ (f i : Nat) (nd : Nd), T.nodes[i]? = some (some nd) → 41 ≤ d i + f → f ≤ 100 → Calls Try.prog 56 #[.pointer (some ⟨tb, 0, none⟩), .int .i64 i] w (RSame (.int .i64 (T.hgt f i)) w) := by
  intro f
  induction f with
  | zero => intro i nd h h1; have := hw.deep i nd h; have := hw.small.deep1; omega
  | succ f ih =>
    intro i nd h h1 h2
    obtain ⟨av, kv, cb, _, _, hk⟩ := hT.node i nd h
    obtain ⟨a, cap, rfl, e2, e3⟩ := hk.len
    have ck := cellOf cb (i := 3) (v := .slice a nd.kids.length cap) rfl
    have HG := Lib.hid (Tr.get_of h)
    have HW := Lib.hid hw
    have HN := Lib.hid h
    have IH := Lib.hid ih
    have hval : T.hgt (f + 1) i = nd.kids.foldl (fun h k => max h (T.hgt f k + 1)) 0 := by
      show (match T.get? i with | none => -1 | some nd => nd.kids.foldl (fun h k => max h (T.hgt f k + 1)) 0) = _
      rw [Tr.get_of h]
    have HV := Lib.hid hval
    unfold maxLen at e3
    clear cb hval ih
    by_cases he : nd.kids = []
    · have hz : nd.kids.length = 0 := by rw [he]; rfl
      rw [hz] at ck
      have HE := Lib.hid he
      clear he hz hk h hw h1 h2 e2 e3
      go_enter Try.func56, Try.ntmps56
      go_wp2_with (go_at_call 46; refine (get_some hT HG.out).mono ?_; rintro e w' ⟨rfl, rfl⟩)
      go_loop [6, 8, 19] (fun v k n => n = .int .i64 0 ∧ v = .int .i64 0) (fun _ _ n => 0)
      case atStart => exact ⟨rfl, rfl⟩
      case round =>
        obtain ⟨rfl, rfl⟩ := hrel
        go_wp2
        go_ret
        exact ⟨ret_int (by rw [HV.out, HE.out]; rfl), rfl⟩
    · obtain ⟨g, cap', e, _⟩ := hk.cell (i := 0) (x := .int .i64 (nd.kids.headD 0)) (by cases hh : nd.kids with | nil => exact absurd hh he | cons x r => simp)
      cases e
      have HK := Lib.hid hk
      clear he hk h hw
      go_enter Try.func56, Try.ntmps56
      go_wp2_with (go_at_call 46; refine (get_some hT HG.out).mono ?_; rintro e w' ⟨rfl, rfl⟩)
      go_loop [6, 8, 19] (fun v _ n => ∃ (k : Nat) (z : Int), k ≤ nd.kids.length ∧ n = .int .i64 k ∧ v = .int .i64 z ∧ 0 ≤ z ∧ z ≤ 200 ∧ z = (nd.kids.take k).foldl (fun h k => max h (T.hgt f k + 1)) 0) (fun _ _ n => nd.kids.length - (intOf n).toNat)
      case atStart => exact ⟨0, 0, Nat.zero_le _, rfl, rfl, by omega, by omega, by simp⟩
      case round =>
        obtain ⟨k, z, hk, rfl, rfl, z0, z1, hz⟩ := hrel
        have HZ := Lib.hid hz
        clear hz
        by_cases hlt : k < nd.kids.length
        · obtain ⟨x, hx⟩ : ∃ x, nd.kids[k]? = some x := ⟨nd.kids[k], by simp [hlt]⟩
          obtain ⟨g', cap', e, hc⟩ := HK.out.cell (i := k) (x := .int .i64 x) (by simp [hx])
          cases e
          obtain ⟨j, kd, h3, h4, h5, h6⟩ := HW.out.kid HN.out hx
          obtain ⟨q0, q1⟩ := T.hgt_le f j
          have HX := Lib.hid hx
          have H3 := Lib.hid h3
          have H4 := Lib.hid h4
          rw [h3] at hc
          clear hx h3 h4 h5
          go_wp2_with (go_at_call 56; refine (IH.out j kd H4.out (by omega) (by omega)).mono ?_; rintro e w' ⟨rfl, rfl⟩)
          all_goals
            go_round
            case rel => exact ⟨k + 1, _, by omega, by go_num, rfl, by omega, by omega, by rw [fold_snoc _ _ _ _ HX.out, ← HZ.out, H3.out]; try omega⟩
            case measure => simp [intOf]; omega
        · go_wp2
          go_ret
          refine ⟨ret_int ?_, rfl⟩
          rw [HV.out, HZ.out, List.take_of_length_le (by omega)]

/-- the first place of x; -1: there is none -/
def posOf (l : List Int) (x : Int) : Int := if x ∈ l then (l.idxOf x : Int) else -1
theorem posOf_at {l : List Int} {k : Nat} {x : Int} (h : l[k]? = some x) (hno : x ∉ l.take k) : posOf l x = k := by
  obtain ⟨hlt, rfl⟩ := List.getElem?_eq_some_iff.1 h
  unfold posOf
  rw [if_pos (List.getElem_mem hlt)]
  have h2 : l = l.take k ++ l[k] :: l.drop (k + 1) := by rw [← List.drop_eq_getElem_cons hlt, List.take_append_drop]
  have : l.idxOf l[k] = k := by
    conv => lhs; arg 2; rw [h2]
    rw [List.idxOf_append, if_neg hno, List.idxOf_cons_self, List.length_take]
    omega
  rw [this]
theorem posOf_no {l : List Int} {x : Int} (h : x ∉ l) : posOf l x = -1 := if_neg h

set_option maxRecDepth 20000 in
set_option maxHeartbeats 1000000 in
theorem index_any {v : Value} {l : List Int} {w : World} (h : RowRd w 1 v l.length (l.map (Value.int .i64))) (hn : l.length ≤ 60000) (x : Int) :
    Calls Try.prog 58 #[v, .int .i64 x] w (RSame (.int .i64 (posOf l x)) w) := by
  obtain ⟨_, ao, cap, rfl, hcap, hnone, hc⟩ := h
  have HN := Lib.hid hnone
  have HC := Lib.hid hc
  clear hnone hc hcap
  go_enter Try.func58, Try.ntmps58
  go_wp2
  go_loop [5, 8] (fun _ n => ∃ k : Nat, k ≤ l.length ∧ n = .int .i64 k ∧ x ∉ l.take k) (fun _ n => l.length - (intOf n).toNat)
  case atStart => exact ⟨0, Nat.zero_le _, rfl, by simp⟩
  case round =>
    obtain ⟨k, hk, rfl, hno⟩ := hrel
    have HO := Lib.hid hno
    clear hno
    by_cases hlt : k < l.length
    · cases ao with
      | none => exact absurd (HN.out rfl).1 (by omega)
      | some a =>
        obtain ⟨b, off, sp⟩ := a
        obtain ⟨y, hy⟩ : ∃ y, l[k]? = some y := ⟨l[k], by simp [hlt]⟩
        have hcell := HC.out _ rfl k (.int .i64 y) (by simp [hy])
        have HY := Lib.hid hy
        clear hy
        by_cases he : x = y
        · subst he
          go_wp2
          go_ret
          exact ⟨ret_int (by rw [posOf_at HY.out HO.out]), rfl⟩
        · have hb : (x == y) = false := by simpa using he
          have HE := Lib.hid he
          clear he
          go_wp2
          go_round
          case rel =>
            refine ⟨k + 1, by omega, by go_num, ?_⟩
            obtain ⟨hlt', hy⟩ := List.getElem?_eq_some_iff.1 HY.out
            rw [List.take_succ_eq_append_getElem hlt', List.mem_append, hy]
            intro hm
            rcases hm with hm | hm
            · exact HO.out hm
            · exact HE.out (by simpa using hm)
          case measure => simp [intOf]; omega
    · go_wp2
      go_ret
      refine ⟨ret_int ?_, rfl⟩
      have h := HO.out
      rw [List.take_of_length_le (by omega)] at h
      rw [posOf_no h]
end Go.Proofs.Ythgnbbbdcebjhaa

namespace Go.Proofs.Ythgnbbbdcebjhaa
open Go Go.RowKit Go.BigFrame
set_option linter.unusedVariables false

def runeList (s : ByteArray) : Nat → Nat → List Int
  | 0, _ => []
  | b + 1, i => if i < s.size then Int.ofNat (Utf8.decode s i).1 :: runeList s b (i + (Utf8.decode s i).2) else []
/-- a text, written anew in UTF-8 -/
def anewB (s : ByteArray) : ByteArray := runesBytes (runeList s s.size 0)
theorem runesFrom_eq (s : ByteArray) : ∀ (b i : Nat) (acc : Array Value), Conv.runesFrom s b i acc = acc ++ ((runeList s b i).map (Value.int .i32)).toArray := by
  intro b
  induction b with
  | zero => intro i acc; simp [Conv.runesFrom, runeList]
  | succ b ih =>
    intro i acc
    unfold Conv.runesFrom runeList
    split
    · show Conv.runesFrom s b (i + (Utf8.decode s i).2) (acc.push (.int .i32 (Int.ofNat (Utf8.decode s i).1))) = _
      rw [ih]; simp
    · simp
theorem runeList_len (s : ByteArray) : ∀ (b i : Nat), (runeList s b i).length ≤ b := by
  intro b
  induction b with
  | zero => intro i; simp [runeList]
  | succ b ih =>
    intro i
    unfold runeList
    split
    · have := ih (i + (Utf8.decode s i).2); simp; omega
    · simp
theorem anewB_size (s : ByteArray) : (anewB s).size ≤ 4 * s.size := by
  have h1 := runesBytes_size_le (runeList s s.size 0)
  have h2 := runeList_len s s.size 0
  unfold anewB; omega

set_option maxRecDepth 20000 in
set_option maxHeartbeats 400000 in
theorem anew_any (s : ByteArray) (hs : s.size ≤ 100000) (w : World) : Calls Try.prog 52 #[.string s] w (RVal (.string (anewB s)) w) := by
  have h1 := run_runes_of_string (P := Try.prog) w 9 64 21 s Try.underlying9 Try.underlying64 Try.underlying21 (by have := size_runesFrom s s.size 0 #[]; simp at this; omega)
  have e1 : Conv.runesFrom s s.size 0 #[] = ((runeList s s.size 0).map (Value.int .i32)).toArray := by rw [runesFrom_eq]; simp
  have hz : anewB s = runesBytes (runeList s s.size 0) := rfl
  have HZ := Lib.hid hz
  rw [e1] at h1
  clear hz e1 hs
  generalize runeList s s.size 0 = l at *
  generalize hk : grownCap w (List.map (Value.int IntKind.i32) l).toArray.size 0 21 = K at *
  have hge := grownCap_ge w (List.map (Value.int IntKind.i32) l).toArray.size 0 21
  rw [hk] at hge
  clear hk
  generalize hC : (List.map (Value.int IntKind.i32) l).toArray ++ Array.replicate (K - (List.map (Value.int IntKind.i32) l).toArray.size) (Value.int IntKind.i32 0) = C at *
  have h2 := run_convert_runes (P := Try.prog) (w.drew.alloc (.cells C 21)) 64 9 21 ⟨w.heap.size, 0, none⟩ l.length K l (Nat.le_refl _) Try.underlying64 Try.underlying21 Try.underlying9
    (by
      intro j hj
      have hb : (w.drew.alloc (.cells C 21)).heap[w.heap.size]? = some (.cells C 21 (0, 0)) := heap_alloc_new w.drew _
      rw [Addr.add_lit, Nat.zero_add]
      refine cellOf hb ?_
      rw [← hC, Array.getElem?_append_left (by simpa using hj)]
      simp [hj])
  rw [List.take_length] at h2
  simp only [List.size_toArray, List.length_map] at h1
  clear hC hge
  have HH1 := Lib.hid h1
  have HH2 := Lib.hid h2
  clear h1 h2
  go_enter Try.func52, Try.ntmps52
  go_wp2_with fail
  rw [HH1.out]
  go_wp2_with fail
  have h2' : Sem.run Try.prog (convert 64 9 (Value.slice (some { block := w.heap.size, off := 0 }) l.length K)) (w.alloc (Obj.cells C 21)).drew = Result.ok (Value.string (runesBytes l)) (w.alloc (Obj.cells C 21)).drew := HH2.out
  rw [h2']
  clear h2'
  go_wp2_with fail
  go_ret
  exact ⟨by rw [HZ.out]; rfl, ((Ext.refl _).alloc _).drew⟩
end Go.Proofs.Ythgnbbbdcebjhaa

namespace Go.Proofs.Ythgnbbbdcebjhaa
open Go Go.RowKit Go.BigFrame
set_option linter.unusedVariables false

theorem RowP.owns {w : World} {p : Nat → Prop} {e size : Nat} {v : Value} {n : Nat} {xs : List Value} (h : RowP w p e size v n xs) :
    (n = 0 ∧ xs = [] ∧ ∃ a, v = .slice (some a) 0 0) ∨ (w.ownsRow 0 e size v n xs ∧ ∀ k, v.ownBlock = some k → p k) := by
  rcases h.2 with ⟨h0, a, h1⟩ | ⟨g, cap, cur, h1, h2, h3, h4⟩
  · have hx : xs = [] := List.eq_nil_of_length_eq_zero (by rw [h.1, h0]; simp)
    cases a with
    | some a => exact .inl ⟨h0, hx, a, h1⟩
    | none => exact .inr ⟨⟨h.1, .inl ⟨h1, h0⟩⟩, by rw [h1]; intro k hk; cases hk⟩
  · exact .inr ⟨⟨h.1, .inr ⟨g, cap, cur, h1, Nat.zero_le _, h3, h4⟩⟩, by rw [h1]; intro k hk; cases hk; exact h2⟩
theorem RowP.of_owns0 {w' : World} {p : Nat → Prop} {B e size : Nat} {v : Value} {n : Nat} {xs : List Value} (h : w'.ownsRow B e size v n xs) (hp : ∀ k, v.ownBlock = some k → p k) : RowP w' p e size v n xs := by
  refine ⟨h.1, ?_⟩
  rcases h.2 with ⟨h1, h2⟩ | ⟨g, cap, cur, h1, h2, h3, h4⟩
  · exact .inl ⟨h2, none, h2 ▸ h1⟩
  · exact .inr ⟨g, cap, cur, h1, hp g (by rw [h1]; rfl), h3, h4⟩
/-- 'append(xs, ys..)' onto a row: it may grow; what may have been written is the row's own block -/
theorem run_append_row {P : Program} (w : World) (t ty e : TypeId) (i : TypeInfo) (z : Value) (size bytes : Nat) (ht : P.underlying t = some (.slice e)) (hi : P.info? e = some i) (hz : i.zero = some z)
    (hsize : i.size = size) (hby : i.bytes = bytes) (hzs : z.cells.size = size) (hsz : 0 < size) {p : Nat → Prop} {v : Value} {n : Nat} {xs : List Value} (hr : RowP w p e size v n xs)
    (a : Addr) (m c : Nat) (news : List Value) (hl : news.length = m * size) (hnews : ∀ j u, news[j]? = some u → w.cell? (a.add j) = some u) (h1 : ∀ u ∈ news, u.oneCell' = true)
    (hm : 0 < m) (h63 : n + m ≤ maxLen) (hbytes : (n + m) * bytes ≤ 140737488355328) :
    ∃ v' w' row, (Builtin.append_ #[t, t] ty #[v, .slice (some a) m c]).run P w = .ok v' w' ∧ RowP w' (fun g => p g ∨ w.heap.size ≤ g) e size v' (n + m) (xs ++ news) ∧ w.grownBy w' row ∧ ∀ k, row = some k → p k := by
  rcases hr.2 with ⟨rfl, ao, rfl⟩ | ⟨g, cap, cur, rfl, hpg, hg, hnc, hcm, hcs, htake⟩
  · obtain rfl : xs = [] := List.eq_nil_of_length_eq_zero (by rw [hr.1]; simp)
    cases ao with
    | some ad =>
      obtain ⟨v', w', h2, h3, h4⟩ := run_append_arg_grows (P := P) w t ty e i z size bytes ht hi hz hsize hby hzs hsz ad 0 0 [] (by simp) (by simp) a m c news hl hnews (by omega) h63 hbytes
      exact ⟨v', w', none, h2, (RowP.of_owns h3).imp fun g _ hg => .inr hg, h4, fun k hk => by cases hk⟩
    | none =>
      obtain ⟨v', w', h2, h3, h4, h5⟩ := run_append_own (P := P) w w.heap.size t ty e i z size bytes ht hi hz hsize hby hzs hsz (.slice none 0 0) 0 [] (World.ownsRow_nil w _ e size) a m c news hl hnews h1 h63 hbytes (Nat.le_refl _)
      exact ⟨v', w', none, h2, (RowP.of_owns h3).imp fun g _ hg => .inr hg, h4, fun k hk => by cases hk⟩
  · have hown : w.ownsRow 0 e size (.slice (some ⟨g, 0, none⟩) n cap) n xs := ⟨hr.1, .inr ⟨g, cap, cur, rfl, Nat.zero_le _, hg, hnc, hcm, hcs, htake⟩⟩
    by_cases hroom : n + m ≤ cap
    · obtain ⟨v', w', h2, h3, h4, h5⟩ := run_append_own (P := P) w 0 t ty e i z size bytes ht hi hz hsize hby hzs hsz _ n xs hown a m c news hl hnews h1 h63 hbytes (Nat.zero_le _)
      have hfit : n * i.size + news.length ≤ cur.size := by rw [hl, hcs, hsize, ← Nat.add_mul]; exact Nat.mul_le_mul_right _ hroom
      have hr2 := run_append_room (P := P) w t ty e i ht hi g n cap cur hg a m c news (by rw [hsize]; exact hl) hnews h1 hroom hfit
      rw [h2] at hr2
      have hv : v' = .slice (some ⟨g, 0, none⟩) (n + m) cap := by injection hr2
      refine ⟨v', w', some g, h2, RowP.of_owns0 h3 fun k hk => ?_, h4, fun k hk => by cases hk; exact hpg⟩
      rw [hv] at hk
      cases hk
      exact .inl hpg
    · have holds : ∀ j u, xs[j]? = some u → w.cell? ((⟨g, 0, none⟩ : Addr).add j) = some u := hown.cells (g := g) rfl
      obtain ⟨v', w', h2, h3, h4⟩ := run_append_arg_grows (P := P) w t ty e i z size bytes ht hi hz hsize hby hzs hsz ⟨g, 0, none⟩ n cap xs hr.1 holds a m c news hl hnews (by omega) h63 hbytes
      exact ⟨v', w', none, h2, (RowP.of_owns h3).imp fun g _ hg => .inr hg, h4, fun k hk => by cases hk⟩
theorem wpList_append_row {P : Program} {w : World} {ops : Array Oper} {rest : List Oper} {o : Oper} {a : Act} {Q : Exit → Act → World → Prop} (hgd : o.guard = none) (s x : Operand) (t : TypeId)
    (ho : o.op = .call { callee := .builtin .append, args := #[s, x], argTypes := #[t, t] })
    (e : TypeId) (i : TypeInfo) (z : Value) (size bytes : Nat) (ht : P.underlying t = some (.slice e)) (hi : P.info? e = some i) (hz : i.zero = some z)
    (hsize : i.size = size) (hby : i.bytes = bytes) (hzs : z.cells.size = size) (hsz : 0 < size) (p : Nat → Prop)
    (v : Value) (n : Nat) (xs : List Value) (hs : a.eval s = v) (hr : RowP w p e size v n xs)
    (ad : Addr) (m c : Nat) (news : List Value) (hx : a.eval x = .slice (some ad) m c) (hl : news.length = m * size) (hnews : ∀ j u, news[j]? = some u → w.cell? (ad.add j) = some u) (h1 : ∀ u ∈ news, u.oneCell' = true)
    (hm : 0 < m) (h63 : n + m ≤ maxLen) (hbytes : (n + m) * bytes ≤ 140737488355328)
    (h : ∀ v' w' row, RowP w' (fun g => p g ∨ w.heap.size ≤ g) e size v' (n + m) (xs ++ news) → w.grownBy w' row → (∀ k, row = some k → p k) → wpList P ops Q rest (a.put o.dst v') w') :
    wpList P ops Q (o :: rest) a w := by
  refine wpList_plain hgd fun K hK => ?_
  obtain ⟨v', w', row, h2, h3, h4, h5⟩ := run_append_row (P := P) w t o.type e i z size bytes ht hi hz hsize hby hzs hsz hr ad m c news hl hnews h1 hm h63 hbytes
  unfold Oper.wp execOp
  simp only [ho, resolve, invoke, builtin, Sem.run_bind, Sem.run_pure, Result.andThen_ok, List.map_toArray, List.map_cons, List.map_nil, hs, hx, h2]
  exact hK _ _ (h v' w' row h3 h4 h5)

set_option maxRecDepth 20000 in
set_option maxHeartbeats 400000 in
theorem isNil_no (b : Nat) (w : World) : Calls Try.prog 73 #[.pointer (some ⟨b, 0, none⟩)] w (RSame (.bool false) w) := by
  go_enter Try.func73, Try.ntmps73
  go_wp2
  go_ret
  exact ⟨rfl, rfl⟩
set_option maxRecDepth 20000 in
set_option maxHeartbeats 400000 in
theorem isNil_yes (w : World) : Calls Try.prog 73 #[.pointer none] w (RSame (.bool true) w) := by
  go_enter Try.func73, Try.ntmps73
  go_wp2
  go_ret
  exact ⟨rfl, rfl⟩
/-- the first free number; -1: there is none -/
def freeOf' (l : List (Option Nd)) : Int := if l.any Option.isNone then (l.findIdx Option.isNone : Int) else -1
theorem freeOf_at {l : List (Option Nd)} {k : Nat} (h : l[k]? = some none) (hno : ∀ (j : Nat) (x : Option Nd), j < k → l[j]? = some x → x ≠ none) : freeOf' l = k := by
  obtain ⟨hlt, hk⟩ := List.getElem?_eq_some_iff.1 h
  unfold freeOf'
  have ha : l.any Option.isNone = true := by rw [List.any_eq_true]; exact ⟨none, List.mem_of_getElem? h, rfl⟩
  rw [if_pos ha]
  congr 1
  rw [List.findIdx_eq hlt]
  refine ⟨by rw [hk]; rfl, fun j hj => ?_⟩
  have := hno j (l[j]'(by omega)) hj (by simp)
  cases hx : l[j]'(by omega) with
  | none => exact absurd hx this
  | some y => rfl
theorem freeOf_no {l : List (Option Nd)} (hno : ∀ (j : Nat) (x : Option Nd), l[j]? = some x → x ≠ none) : freeOf' l = -1 := by
  unfold freeOf'
  rw [if_neg]
  rw [List.any_eq_true]
  rintro ⟨x, hx, hn⟩
  obtain ⟨j, hj⟩ := List.getElem?_of_mem hx
  cases x with
  | none => exact hno j none hj rfl
  | some y => cases hn

set_option maxRecDepth 20000 in
set_option maxHeartbeats 1000000 in
theorem free_any {p : Nat → Prop} {ptr : Nat → Nat} {v : Value} {l : List (Option Nd)} {w : World} (h : RowP w p 71 1 v l.length (nodeVals ptr l)) (hn : l.length ≤ 60000) :
    Calls Try.prog 72 #[v, .func (.func 73) #[] #[]] w (RSame (.int .i64 (freeOf' l)) w) := by
  obtain ⟨_, ao, cap, rfl, hcap, hnone, hc⟩ := h.rd
  have HN := Lib.hid hnone
  have HC := Lib.hid hc
  clear hnone hc hcap h
  go_enter Try.func72, Try.ntmps72
  go_wp2
  go_loop [5, 8] (fun _ n => ∃ k : Nat, k ≤ l.length ∧ n = .int .i64 k ∧ ∀ (j : Nat) (x : Option Nd), j < k → l[j]? = some x → x ≠ none) (fun _ n => l.length - (intOf n).toNat)
  case atStart => exact ⟨0, Nat.zero_le _, rfl, fun j x hj => by omega⟩
  case round =>
    obtain ⟨k, hk, rfl, hno⟩ := hrel
    have HO := Lib.hid hno
    clear hno
    by_cases hlt : k < l.length
    · cases ao with
      | none => exact absurd (HN.out rfl).1 (by omega)
      | some a =>
        obtain ⟨b, off, sp⟩ := a
        obtain ⟨y, hy⟩ : ∃ y, l[k]? = some y := ⟨l[k], by simp [hlt]⟩
        have hcell := HC.out _ rfl k (nodeVal ptr k y) (by simp [nodeVals, List.getElem?_mapIdx, hy])
        have HY := Lib.hid hy
        clear hy
        cases y with
        | none =>
          simp only [nodeVal] at hcell
          go_wp2_with (go_at_call 73; refine (isNil_yes _).mono ?_; rintro e w' ⟨rfl, rfl⟩)
          go_ret
          exact ⟨ret_int (by rw [freeOf_at HY.out HO.out]), rfl⟩
        | some nd =>
          simp only [nodeVal] at hcell
          go_wp2_with (go_at_call 73; refine (isNil_no _ _).mono ?_; rintro e w' ⟨rfl, rfl⟩)
          go_round
          case rel =>
            refine ⟨k + 1, by omega, by go_num, fun j x hj hx => ?_⟩
            rcases Nat.lt_or_ge j k with h1 | h1
            · exact HO.out j x h1 hx
            · obtain rfl : j = k := by omega
              rw [HY.out] at hx
              cases hx
              exact fun h => by cases h
          case measure => simp [intOf]; omega
    · go_wp2
      go_ret
      refine ⟨ret_int ?_, rfl⟩
      rw [freeOf_no fun j x hx => HO.out j x (by have := (List.getElem?_eq_some_iff.1 hx).1; omega) hx]
end Go.Proofs.Ythgnbbbdcebjhaa

namespace Go.Proofs.Ythgnbbbdcebjhaa
open Go Go.RowKit Go.BigFrame
set_option linter.unusedVariables false

/-- what a call on a tree may turn: the tree's own blocks; who owns an old block stays -/
structure Step (own : Ow) (w : World) (own' : Ow) (w' : World) : Prop where
  os : w'.os = w.os
  tape : w'.tape = w.tape
  output : w'.output = w.output
  size : w.heap.size ≤ w'.heap.size
  rest : ∀ b, b < w.heap.size → own b = none → w'.heap[b]? = w.heap[b]?
  same : ∀ b, b < w.heap.size → own' b = own b
  owned : Owned own' w'
theorem Step.refl {own : Ow} {w : World} (h : Owned own w) : Step own w own w := ⟨rfl, rfl, rfl, Nat.le_refl _, fun _ _ _ => rfl, fun _ _ => rfl, h⟩
theorem Step.trans {o1 o2 o3 : Ow} {a b c : World} (h : Step o1 a o2 b) (k : Step o2 b o3 c) : Step o1 a o3 c :=
  ⟨k.os.trans h.os, k.tape.trans h.tape, k.output.trans h.output, Nat.le_trans h.size k.size,
   fun x hx hn => (k.rest x (Nat.lt_of_lt_of_le hx h.size) ((h.same x hx).trans hn)).trans (h.rest x hx hn),
   fun x hx => (k.same x (Nat.lt_of_lt_of_le hx h.size)).trans (h.same x hx), k.owned⟩
theorem Step.ext {own own' : Ow} {a b c : World} (h : Step own a own' b) (k : Ext b c) : Step own a own' c :=
  ⟨(Below.os k).trans h.os, (Below.tape k).trans h.tape, (Below.output k).trans h.output, Nat.le_trans h.size (Ext.size k),
   fun x hx hn => (Below.block k x (Nat.lt_of_lt_of_le hx h.size)).trans (h.rest x hx hn), h.same, fun x hx => Nat.lt_of_lt_of_le (h.owned x hx) (Ext.size k)⟩
theorem Step.setCell {own own' : Ow} {a b : World} (h : Step own a own' b) {p : Addr} (hp : p.block < a.heap.size → own p.block ≠ none) (u : Value) : Step own a own' (b.setCell p u) :=
  ⟨h.os, h.tape, h.output, by have := h.size; simpa [World.setCell] using this,
   fun x hx hn => by rw [Below.heap_setCell _ _ _ _ (fun e => hp (e ▸ hx) (e ▸ hn))]; exact h.rest x hx hn, h.same,
   fun x hx => by have := h.owned x hx; simpa [World.setCell] using this⟩
/-- new blocks get their owners -/
theorem Step.own {own own' own'' : Ow} {a b : World} (h : Step own a own' b) (h1 : ∀ x, x < a.heap.size → own'' x = own' x) (h2 : Owned own'' b) : Step own a own'' b :=
  ⟨h.os, h.tape, h.output, h.size, h.rest, fun x hx => (h1 x hx).trans (h.same x hx), h2⟩

theorem heap_setCell_same {w : World} {b i : Nat} {cs : Array Value} {t : TypeId} {fr : Nat × Nat} (h : w.heap[b]? = some (.cells cs t fr)) (u : Value) :
    (w.setCell ⟨b, i, none⟩ u).heap[b]? = some (.cells (cs.setIfInBounds i u) t fr) := by
  simp [World.setCell, Array.getElem?_modify, h]
theorem heap_setCell_other {w : World} {p : Addr} {b : Nat} (u : Value) (h : b ≠ p.block) : (w.setCell p u).heap[b]? = w.heap[b]? := Below.heap_setCell _ _ _ _ h

theorem RowP.move {w w' : World} {p p' : Nat → Prop} {e size : Nat} {v : Value} {n : Nat} {xs : List Value} (h : RowP w p e size v n xs) (k : ∀ g, p g → w'.heap[g]? = w.heap[g]? ∧ p' g) : RowP w' p' e size v n xs := by
  refine ⟨h.1, ?_⟩
  rcases h.2 with h0 | ⟨g, cap, cur, h1, h2, h3, h4⟩
  · exact .inl h0
  · exact .inr ⟨g, cap, cur, h1, (k g h2).2, by rw [(k g h2).1]; exact h3, h4⟩
/-- one node in memory -/
def NodeAt (w : World) (own : Ow) (i pb : Nat) (nd : Nd) : Prop :=
  ∃ av kv, w.heap[pb]? = some (.cells #[.int .i64 nd.tag, av, .string nd.text, kv, .int .i64 nd.parent] 76 (0, 0)) ∧
    own pb = some (2, i) ∧ RowAt w own 101 2 (3, i) av nd.attrs.length (attrCells nd.attrs) ∧ RowAt w own 3 1 (4, i) kv nd.kids.length (nd.kids.map (Value.int .i64))
theorem NodeAt.move {w w' : World} {own own' : Ow} {i pb : Nat} {nd : Nd} (h : NodeAt w own i pb nd) (k : ∀ b c, own b = some (c, i) → 2 ≤ c → w'.heap[b]? = w.heap[b]? ∧ own' b = own b) : NodeAt w' own' i pb nd := by
  obtain ⟨av, kv, h1, h2, h3, h4⟩ := h
  refine ⟨av, kv, by rw [(k pb 2 h2 (Nat.le_refl _)).1]; exact h1, by rw [(k pb 2 h2 (Nat.le_refl _)).2]; exact h2, RowP.move h3 fun g hg => ?_, RowP.move h4 fun g hg => ?_⟩
  · have := k g 3 hg (by omega); exact ⟨this.1, this.2.trans hg⟩
  · have := k g 4 hg (by omega); exact ⟨this.1, this.2.trans hg⟩
theorem TreeAt.nodeAt {w : World} {own : Ow} {ptr : Nat → Nat} {tb : Nat} {T : Tr} (h : TreeAt w own ptr tb T) {i : Nat} {nd : Nd} (hi : T.nodes[i]? = some (some nd)) : NodeAt w own i (ptr i) nd := h.node i nd hi

/-- the count is stored -/
theorem TreeAt.setCount {w : World} {own : Ow} {ptr : Nat → Nat} {tb : Nat} {T : Tr} (h : TreeAt w own ptr tb T) (c : Int) : TreeAt (w.setCell ⟨tb, 2, none⟩ (.int .i64 c)) own ptr tb { T with count := c } := by
  obtain ⟨nv, h1, h2, h3⟩ := h.head
  have k : ∀ b x, own b = some x → x ≠ (0, 0) → (w.setCell ⟨tb, 2, none⟩ (.int .i64 c)).heap[b]? = w.heap[b]? := fun b x hb hx =>
    heap_setCell_other _ (fun (e : b = tb) => hx (by rw [e, h2] at hb; exact (Option.some.inj hb).symm))
  constructor
  · exact ⟨nv, by rw [heap_setCell_same h1]; rfl, h2, RowP.move h3 fun g hg => ⟨k g _ hg (by simp), hg⟩⟩
  · intro i nd hi
    exact (h.nodeAt hi).move fun b x hb hx => ⟨k b _ hb (by simp; omega), rfl⟩

/-- the row of nodes with one more place, stored -/
theorem TreeAt.grow {w w' : World} {own own' : Ow} {ptr : Nat → Nat} {tb : Nat} {T : Tr} (h : TreeAt w own ptr tb T) {v : Value}
    (hr : RowAt w' own' 71 1 (1, 0) v (T.nodes.length + 1) (nodeVals ptr T.nodes ++ [.pointer none]))
    (k : ∀ b x, own b = some x → x ≠ (1, 0) → w'.heap[b]? = w.heap[b]? ∧ own' b = own b) :
    TreeAt (w'.setCell ⟨tb, 3, none⟩ v) own' ptr tb { T with nodes := T.nodes ++ [none] } := by
  obtain ⟨nv, h1, h2, h3⟩ := h.head
  have h1' := (k tb _ h2 (by simp)).1.trans h1
  have h2' := (k tb _ h2 (by simp)).2.trans h2
  have k' : ∀ b x, own' b = some x → x ≠ (0, 0) → (w'.setCell ⟨tb, 3, none⟩ v).heap[b]? = w'.heap[b]? := fun b x hb hx =>
    heap_setCell_other _ (fun (e : b = tb) => hx (by rw [e, h2'] at hb; exact (Option.some.inj hb).symm))
  constructor
  · refine ⟨v, by rw [heap_setCell_same h1']; rfl, h2', ?_⟩
    have : nodeVals ptr (T.nodes ++ [none]) = nodeVals ptr T.nodes ++ [.pointer none] := by simp [nodeVals, List.mapIdx_append, nodeVal]
    rw [this, List.length_append]
    exact RowP.move hr fun g hg => ⟨k' g _ hg (by simp), hg⟩
  · intro i nd hi
    have hi' : T.nodes[i]? = some (some nd) := by
      rw [List.getElem?_append] at hi
      split at hi
      · exact hi
      · rename_i hge
        rcases Nat.eq_zero_or_pos (i - T.nodes.length) with h0 | h0
        · rw [h0] at hi; simp at hi
        · rw [List.getElem?_eq_none (by simp; omega)] at hi; cases hi
    refine (h.nodeAt hi').move fun b x hb hx => ?_
    have := k b _ hb (by simp; omega)
    exact ⟨(k' b (x, i) (this.2.trans hb) (by simp; omega)).trans this.1, this.2⟩

/-- a node's fields, stored one by one: what must be known of the new row where there is one -/
theorem TreeAt.setNode {w w' : World} {own own' : Ow} {ptr : Nat → Nat} {tb : Nat} {T : Tr} (h : TreeAt w own ptr tb T) {i : Nat} {nd nd' : Nd} (hi : T.nodes[i]? = some (some nd))
    (hn : NodeAt w' own' i (ptr i) nd') (k : ∀ b x, own b = some x → (2 ≤ x.1 → x.2 ≠ i) → w'.heap[b]? = w.heap[b]? ∧ own' b = own b) :
    TreeAt w' own' ptr tb { T with nodes := T.nodes.set i (some nd') } := by
  obtain ⟨nv, h1, h2, h3⟩ := h.head
  have hlt := (List.getElem?_eq_some_iff.1 hi).1
  constructor
  · refine ⟨nv, (k tb _ h2 (by simp)).1.trans h1, (k tb _ h2 (by simp)).2.trans h2, ?_⟩
    have e : nodeVals ptr (T.nodes.set i (some nd')) = nodeVals ptr T.nodes := by
      apply List.ext_getElem?
      intro j
      simp only [nodeVals, List.getElem?_mapIdx, List.getElem?_set]
      split
      · rename_i hj; subst hj; rw [hi]; simp [nodeVal]
      · rfl
    rw [e, List.length_set]
    exact RowP.move h3 fun g hg => ⟨(k g _ hg (by simp)).1, (k g _ hg (by simp)).2.trans hg⟩
  · intro j md hj
    rw [List.getElem?_set] at hj
    split at hj
    · rename_i hji
      subst hji
      simp at hj
      subst hj
      exact hn
    · rename_i hji
      refine (h.nodeAt hj).move fun b x hb hx => ?_
      exact k b _ hb (fun _ => Ne.symm hji)

/-- a new node at a free place -/
theorem TreeAt.place {w w' : World} {own own' : Ow} {ptr : Nat → Nat} {tb : Nat} {T : Tr} (h : TreeAt w own ptr tb T) {i B g cap : Nat} {nd : Nd} (hi : T.nodes[i]? = some none)
    (hg : w.heap[tb]? = some (.cells #[.int .i64 T.cap, .int .i64 T.deep, .int .i64 T.count, .slice (some ⟨g, 0, none⟩) T.nodes.length cap] 81 (0, 0)))
    (hn : NodeAt w' own' i B nd) (k : ∀ b x, own b = some x → w'.heap[b]? = w.heap[b]? ∧ own' b = own b) :
    TreeAt (w'.setCell ⟨g, i, none⟩ (.pointer (some ⟨B, 0, none⟩))) own' (fun j => if j = i then B else ptr j) tb { T with nodes := T.nodes.set i (some nd) } := by
  obtain ⟨nv, h1, h2, h3⟩ := h.head
  have hlt := (List.getElem?_eq_some_iff.1 hi).1
  rw [hg] at h1
  obtain rfl : nv = .slice (some ⟨g, 0, none⟩) T.nodes.length cap := by simp at h1; exact h1.symm
  rcases h3.2 with ⟨h0, _⟩ | ⟨g', cap', cur, q1, q2, q3, q4, q5, q6, q7⟩
  · omega
  obtain ⟨rfl, rfl⟩ : g = g' ∧ cap = cap' := by simp at q1; exact q1
  have kg := k g _ q2
  have k' : ∀ b, own' b ≠ own' g → (w'.setCell ⟨g, i, none⟩ (.pointer (some ⟨B, 0, none⟩))).heap[b]? = w'.heap[b]? := fun b hb => heap_setCell_other _ (fun (e : b = g) => hb (by rw [e]))
  have hog : own' g = some (1, 0) := kg.2.trans q2
  constructor
  · have kt := k tb _ h2
    refine ⟨_, ((k' tb (by rw [hog, kt.2, h2]; simp)).trans kt.1).trans hg, kt.2.trans h2, ?_⟩
    refine ⟨by simp [nodeVals], .inr ⟨g, cap, cur.setIfInBounds i (.pointer (some ⟨B, 0, none⟩)), by simp, hog, by rw [heap_setCell_same (kg.1.trans q3)], by simpa using q4, q5, by simpa using q6, ?_⟩⟩
    apply List.ext_getElem?
    intro j
    have hq : (cur.toList.take (T.nodes.length * 1))[j]? = (nodeVals ptr T.nodes)[j]? := by rw [q7]
    simp only [nodeVals, List.getElem?_mapIdx, List.getElem?_take, List.length_set, Array.toList_setIfInBounds, List.getElem?_set, Nat.mul_one] at hq ⊢
    by_cases hj : i = j
    · subst hj
      rw [if_pos hlt, if_pos rfl, if_pos rfl, if_pos (by simp; omega), if_pos hlt]
      simp [nodeVal]
    · rw [if_neg hj, if_neg hj, hq]
      cases T.nodes[j]? with
      | none => rfl
      | some x => cases x <;> simp [nodeVal, Ne.symm hj]
  · intro j md hj
    rw [List.getElem?_set] at hj
    split at hj
    · rename_i hji
      subst hji
      simp at hj
      subst hj
      show NodeAt _ own' i (if i = i then B else ptr i) nd
      rw [if_pos rfl]
      exact hn.move fun b x hb hx => ⟨k' b (by rw [hb, hog]; simp; omega), rfl⟩
    · rename_i hji
      show NodeAt _ own' j (if j = i then B else ptr j) md
      rw [if_neg (Ne.symm hji)]
      refine (h.nodeAt hj).move fun b x hb hx => ?_
      have := k b _ hb
      exact ⟨(k' b (by rw [this.2, hb, hog]; simp; omega)).trans this.1, this.2⟩
end Go.Proofs.Ythgnbbbdcebjhaa

namespace Go.Proofs.Ythgnbbbdcebjhaa
open Go Go.RowKit Go.BigFrame
set_option linter.unusedVariables false
set_option linter.unusedSimpArgs false

/-- a tree behind a call: somebody owns it, it lies there -/
def After (own : Ow) (w : World) (tb : Nat) (T' : Tr) (w' : World) : Prop := ∃ own' ptr', TreeAt w' own' ptr' tb T' ∧ Step own w own' w'
/-- add's answer -/
def AddIs (own : Ow) (w : World) (tb : Nat) (id : Int) (T' : Tr) (e : Ending) (w' : World) : Prop := e = .returned (.int .i64 id) ∧ After own w tb T' w'

theorem heap_alloc_setCell (w : World) (p : Addr) (u : Value) (o : Obj) (hp : p.block < w.heap.size) (b : Nat) : ((w.setCell p u).alloc o).heap[b]? = ((w.alloc o).setCell p u).heap[b]? := by
  have hs : (w.setCell p u).heap.size = w.heap.size := by simp [World.setCell]
  by_cases hb : b = w.heap.size
  · subst hb
    rw [heap_setCell_other _ (by omega : w.heap.size ≠ p.block)]
    have e1 : ((w.setCell p u).alloc o).heap[w.heap.size]? = some o := by rw [← hs]; exact heap_alloc_new _ _
    rw [e1]; exact (heap_alloc_new w o).symm
  · by_cases hlt : b < w.heap.size
    · rw [Below.heap_alloc (w.setCell p u) o b (by rw [hs]; exact hlt)]
      by_cases hbp : b = p.block
      · subst hbp
        simp only [World.setCell, Array.getElem?_modify]
        rw [Below.heap_alloc w o _ hlt]
      · rw [heap_setCell_other _ hbp, heap_setCell_other _ hbp, Below.heap_alloc w o b hlt]
    · rw [Array.getElem?_eq_none (by simp [hs]; omega), Array.getElem?_eq_none (by simp [World.setCell]; omega)]
theorem Step.drew {own own' : Ow} {a b : World} (h : Step own a own' b) : Step own a own' b.drew := h.ext ((Ext.refl b).drew)
theorem Step.same_heap {own own' : Ow} {a b c : World} (h : Step own a own' b) (k : ∀ x : Nat, c.heap[x]? = b.heap[x]?) (h1 : c.os = b.os) (h2 : c.tape = b.tape) (h3 : c.output = b.output) (h4 : c.heap.size = b.heap.size) : Step own a own' c :=
  ⟨h1.trans h.os, h2.trans h.tape, h3.trans h.output, by rw [h4]; exact h.size, fun x hx hn => (k x).trans (h.rest x hx hn), h.same, fun x hx => by rw [h4]; exact h.owned x hx⟩
theorem Ext.step {own : Ow} {w w' : World} (h : Ext w w') (hO : Owned own w) : Step own w own w' :=
  ⟨Below.os h, Below.tape h, Below.output h, Ext.size h, fun b hb _ => Below.block h b hb, fun _ _ => rfl, fun b hb => Nat.lt_of_lt_of_le (hO b hb) (Ext.size h)⟩

/-- the world that add leaves at a free place -/
theorem add_plain {w wz : World} {own0 own : Ow} {ptr : Nat → Nat} {tb : Nat} {T : Tr} (h0 : Step own0 w own wz) (hT : TreeAt wz own ptr tb T) {i g capn : Nat} (hi : T.nodes[i]? = some none)
    (hb : wz.heap[tb]? = some (.cells #[.int .i64 T.cap, .int .i64 T.deep, .int .i64 T.count, .slice (some ⟨g, 0, none⟩) T.nodes.length capn] 81 (0, 0))) (hog : own g = some (1, 0)) (hob : own tb = some (0, 0))
    (hog0 : g < w.heap.size → own0 g ≠ none) (hob0 : tb < w.heap.size → own0 tb ≠ none)
    {av : Value} {attrs : List (ByteArray × ByteArray)} {rb : Option Nat} (hr1 : RowP wz (fun g => rb = some g) 101 2 av attrs.length (attrCells attrs)) (hr2 : ∀ k, rb = some k → own k = none ∧ w.heap.size ≤ k ∧ k < wz.heap.size) (tag : Int) (text : ByteArray)
    (c : Int) (hc : c = T.count + 1) :
    After own0 w tb { T with count := T.count + 1, nodes := T.nodes.set i (some ⟨tag, attrs, text, [], -1⟩) }
      (((wz.setCell ⟨g, i, none⟩ (.pointer (some ⟨wz.heap.size, 0, none⟩))).setCell ⟨tb, 2, none⟩ (.int .i64 c)).alloc (.cells #[.int .i64 tag, av, .string text, .slice none 0 0, .int .i64 (-1)] 76)).drew := by
  subst hc
  have hO := h0.owned
  have hgl := hO g (by simp [hog])
  have htl := hO tb (by simp [hob])
  have hws := h0.size
  let o : Obj := .cells #[.int .i64 tag, av, .string text, .slice none 0 0, .int .i64 (-1)] 76
  let own' : Ow := fun b => if b = wz.heap.size then some (2, i) else if rb = some b then some (3, i) else own b
  have hold : ∀ b, b < wz.heap.size → (wz.alloc o).heap[b]? = wz.heap[b]? := fun b hb => Below.heap_alloc _ _ _ hb
  have hown' : ∀ b x, own b = some x → own' b = own b := fun b x hb => by
    have h1 := hO b (by simp [hb])
    show (if b = wz.heap.size then _ else if rb = some b then _ else _) = _
    rw [if_neg (by omega), if_neg (fun h => by rw [(hr2 b h).1] at hb; cases hb)]
  have hB : own' wz.heap.size = some (2, i) := if_pos rfl
  have hn : NodeAt (wz.alloc o) own' i wz.heap.size ⟨tag, attrs, text, [], -1⟩ := by
    refine ⟨av, .slice none 0 0, heap_alloc_new wz o, hB, RowP.move hr1 fun k hk => ?_, ⟨by simp, .inl ⟨rfl, none, rfl⟩⟩⟩
    obtain ⟨k1, k2, k3⟩ := hr2 k hk
    refine ⟨hold k k3, ?_⟩
    show (if k = wz.heap.size then _ else _) = _
    rw [if_neg (by omega), if_pos hk]
  have hP := hT.place hi hb hn (fun b x hx => ⟨hold b (hO b (by simp [hx])), hown' b x hx⟩)
  have hC := hP.setCount (T.count + 1)
  have hlook : ∀ b : Nat, (((wz.setCell ⟨g, i, none⟩ (.pointer (some ⟨wz.heap.size, 0, none⟩))).setCell ⟨tb, 2, none⟩ (.int .i64 (T.count + 1))).alloc o).drew.heap[b]? =
      (((wz.alloc o).setCell ⟨g, i, none⟩ (.pointer (some ⟨wz.heap.size, 0, none⟩))).setCell ⟨tb, 2, none⟩ (.int .i64 (T.count + 1))).heap[b]? := fun b => by
    show (((wz.setCell ⟨g, i, none⟩ (.pointer (some ⟨wz.heap.size, 0, none⟩))).setCell ⟨tb, 2, none⟩ (.int .i64 (T.count + 1))).alloc o).heap[b]? = _
    rw [heap_alloc_setCell _ _ _ _ (by simp [World.setCell]; omega)]
    by_cases hbt : b = tb
    · subst hbt
      simp only [World.setCell, Array.getElem?_modify]
      have := heap_alloc_setCell wz ⟨g, i, none⟩ (.pointer (some ⟨wz.heap.size, 0, none⟩)) o (by show g < _; omega) b
      simp only [World.setCell, Array.getElem?_modify] at this
      rw [this]
    · rw [heap_setCell_other _ hbt, heap_setCell_other _ hbt, heap_alloc_setCell _ _ _ _ (by show g < _; omega)]
  refine ⟨own', _, hC.keep fun b _ => hlook b, ?_⟩
  have hst : Step own0 w own' (((wz.alloc o).setCell ⟨g, i, none⟩ (.pointer (some ⟨wz.heap.size, 0, none⟩))).setCell ⟨tb, 2, none⟩ (.int .i64 (T.count + 1))) := by
    have h1 : Step own0 w own (wz.alloc o) := h0.ext ((Ext.refl _).alloc _)
    refine ((h1.own (fun x hx => ?_) fun b hb => ?_).setCell hog0 _).setCell hob0 _
    · show (if x = wz.heap.size then _ else if rb = some x then _ else _) = _
      rw [if_neg (by omega), if_neg (fun h => by have := (hr2 x h).2.1; omega)]
    · have hb' : (if b = wz.heap.size then some (2, i) else if rb = some b then some (3, i) else own b) ≠ none := hb
      simp only [World.size_alloc]
      split at hb'
      · omega
      · split at hb'
        · rename_i hrb; have := (hr2 b hrb).2.2; omega
        · have := hO b hb'; omega
  exact hst.same_heap hlook rfl rfl rfl (by simp [World.setCell, World.drew])

set_option maxRecDepth 100000 in
set_option maxHeartbeats 2000000 in
theorem add_free {w : World} {own : Ow} {ptr : Nat → Nat} {tb : Nat} {T : Tr} (hT : TreeAt w own ptr tb T) (hO : Owned own w) (hs : Small T) {i : Nat} (hf : freeOf' T.nodes = (i : Int)) (hi : T.nodes[i]? = some none)
    (tag : Int) (text : ByteArray) (av : Value) (attrs : List (ByteArray × ByteArray)) (ha : RowRd w 2 av attrs.length (attrCells attrs)) (hn : attrs.length ≤ 60000) (h1c : ∀ u ∈ attrCells attrs, u.oneCell' = true) :
    Calls Try.prog 51 #[.pointer (some ⟨tb, 0, none⟩), .agg #[.int .i64 tag, av, .string text]] w (AddIs own w tb i { T with count := T.count + 1, nodes := T.nodes.set i (some ⟨tag, attrs, text, [], -1⟩) }) := by
  obtain ⟨ao, cap0, hav, _⟩ := ha.len_of
  subst hav
  obtain ⟨nv, hb, hob, hrow0⟩ := hT.head
  have hilt := (List.getElem?_eq_some_iff.1 hi).1
  obtain ⟨g, capn, hnv, _⟩ := hrow0.cell (i := i) (x := .pointer none) (by simp [nodeVals, List.getElem?_mapIdx, hi, nodeVal])
  subst hnv
  obtain ⟨_, _, hE, hcapn, hcapm⟩ := hrow0.len
  cases hE
  have hog : own g = some (1, 0) := by
    rcases hrow0.2 with ⟨h0, _⟩ | ⟨g', cap', cur, q1, q2, _⟩
    · omega
    · cases q1; exact q2
  have hgl := hO g (by simp [hog])
  have htl := hO tb (by simp [hob])
  have hcg : ∃ x, w.cell? ⟨g, i, none⟩ = some x := by
    obtain ⟨g', cap', q, hc⟩ := hrow0.cell (i := i) (x := .pointer none) (by simp [nodeVals, List.getElem?_mapIdx, hi, nodeVal])
    cases q; exact ⟨_, hc⟩
  obtain ⟨xg, hcg⟩ := hcg
  have hfg : w.frozen? ⟨g, i, none⟩ = false := by
    rcases hrow0.2 with ⟨h0, _⟩ | ⟨g', cap', cur, q1, q2, q3, _⟩
    · omega
    · cases q1; exact freeOf q3 i
  have ngt : g ≠ tb := fun e => by rw [e, hob] at hog; cases hog
  have hlen := hs.len
  have hc0 := hs.count0
  have hc1 := hs.count1
  have hc2 := hs.cap1
  have HB := Lib.hid hb
  have HA := Lib.hid ha
  have HF := Lib.hid hf
  have HI := Lib.hid hi
  have HT := Lib.hid hT
  have HOO := Lib.hid hO
  have HN := Lib.hid hn
  have H1 := Lib.hid h1c
  have HR0 := Lib.hid hrow0
  unfold maxLen at hcapm
  clear ha hf hi hT hO hn h1c hb hrow0 hs
  go_enter Try.func51, Try.ntmps51
  go_wp2_with fail
  refine (cloneA_any (RowRd.ext HA.out ((Ext.refl w).alloc _)) HN.out H1.out).mono ?_
  rintro e w1 ⟨v, rfl, hrow, hx⟩
  have c0 := hx.cell (b := w.heap.size) (o := 0) (v := .int .i64 tag) (by simp [go_sem])
  have c1 := hx.cell (b := w.heap.size) (o := 1) (v := .slice ao attrs.length cap0) (by simp [go_sem])
  have c2 := hx.cell (b := w.heap.size) (o := 2) (v := .string text) (by simp [go_sem])
  have f1 := hx.free (b := w.heap.size) (o := 1) (by simp <;> omega) (by simp [go_sem])
  have x1 : Ext w w1 := ((Ext.refl w).alloc _).trans hx
  obtain ⟨a1, cap1, hv, _⟩ := hrow.rd.len_of
  subst hv
  have hb1 := x1.block HB.out
  have t2 := cellOf hb1 (i := 2) (v := .int .i64 T.count) rfl
  have t3 := cellOf hb1 (i := 3) (v := .slice (some ⟨g, 0, none⟩) T.nodes.length capn) rfl
  have u2 := freeOf hb1 2
  have g1 := x1.cell hcg
  have g2 := x1.free hgl hfg
  have ntb : tb ≠ w.heap.size := Nat.ne_of_lt htl
  have ntb' : w.heap.size ≠ tb := Ne.symm ntb
  have ng : g ≠ w.heap.size := Nat.ne_of_lt hgl
  have ng' : w.heap.size ≠ g := Ne.symm ng
  have l0 := cell_lt c0
  have HB1 := Lib.hid hb1
  have HX := Lib.hid hx
  have HROW := Lib.hid hrow
  clear hb1 hx hrow hcg hfg
  go_wp2_with fail
  have hr2 : RowP (w1.setCell ⟨w.heap.size, 1, none⟩ (.slice a1 attrs.length cap1)) (fun g => own g = some (1, 0)) 71 1 (.slice (some ⟨g, 0, none⟩) T.nodes.length capn) T.nodes.length (nodeVals ptr T.nodes) := by
    refine RowP.move HR0.out fun b hb => ⟨?_, hb⟩
    have hbl := HOO.out b (by simp [hb])
    rw [heap_setCell_other _ (by show b ≠ w.heap.size; omega)]
    exact Below.block x1 b hbl
  refine (free_any hr2 (by omega)).mono ?_
  clear hr2
  rintro e w2 ⟨rfl, rfl⟩
  rw [HF.out]
  go_wp2_with fail
  obtain ⟨wz, hwz⟩ : ∃ wz : World, wz = w1.setCell ⟨w.heap.size, 1, none⟩ (.slice a1 attrs.length cap1) := ⟨_, rfl⟩
  have z0 : wz.cell? ⟨w.heap.size, 0, none⟩ = some (.int .i64 tag) := by rw [hwz]; simp [go_sem, c0]
  have z1 : wz.cell? ⟨w.heap.size, 1, none⟩ = some (.slice a1 attrs.length cap1) := by rw [hwz]; simp [go_sem, c1]
  have z2 : wz.cell? ⟨w.heap.size, 2, none⟩ = some (.string text) := by rw [hwz]; simp [go_sem, c2]
  have y2 : wz.cell? ⟨tb, 2, none⟩ = some (.int .i64 T.count) := by rw [hwz]; simp [go_sem, ntb, ntb', t2]
  have y3 : wz.cell? ⟨tb, 3, none⟩ = some (.slice (some ⟨g, 0, none⟩) T.nodes.length capn) := by rw [hwz]; simp [go_sem, ntb, ntb', t3]
  have v2 : wz.frozen? ⟨tb, 2, none⟩ = false := by rw [hwz]; simp [go_sem, u2]
  have k1 : wz.cell? ⟨g, i, none⟩ = some xg := by rw [hwz]; simp [go_sem, ng, ng', g1]
  have k2 : wz.frozen? ⟨g, i, none⟩ = false := by rw [hwz]; simp [go_sem, g2]
  have lz : wz.heap.size = w1.heap.size := by rw [hwz]; simp [World.setCell]
  have lg := cell_lt k1
  have lt := cell_lt y2
  have ngz : g ≠ wz.heap.size := Nat.ne_of_lt lg
  have ntz : tb ≠ wz.heap.size := Nat.ne_of_lt lt
  rw [← hwz]
  have HWZ := Lib.hid hwz
  have LZ := Lib.hid lz
  clear hwz c0 c1 c2 f1 t2 t3 u2 g1 g2 lz
  go_region_held3 (fun w' => w'.cell? ⟨tb, 3, none⟩ = some (.slice (some ⟨g, 0, none⟩) T.nodes.length capn) ∧ w'.cell? ⟨w.heap.size, 0, none⟩ = some (.int .i64 tag) ∧ w'.cell? ⟨w.heap.size, 1, none⟩ = some (.slice a1 attrs.length cap1) ∧ w'.cell? ⟨w.heap.size, 2, none⟩ = some (.string text))
    (first | exact ⟨y3, z0, z1, z2⟩ | go_keep) (first | fail | fail)
  go_wp2
  go_ret
  have hR : RowIn w1 (w.heap.size + 1) 101 2 (.slice a1 attrs.length cap1) attrs.length (attrCells attrs) := by
    have := HROW.out
    simpa using this
  obtain ⟨rb, hr1, hr2⟩ := hR.block
  have hzs : wz.heap.size = w1.heap.size := LZ.out
  have h0 : Step own w own wz := by rw [HWZ.out]; exact (x1.step HOO.out).setCell (fun h => by exfalso; exact Nat.lt_irrefl _ h) _
  have hk : Keep own w wz := fun b hb => by
    have hbl := HOO.out b hb
    rw [HWZ.out, heap_setCell_other _ (by show b ≠ w.heap.size; omega)]
    exact Below.block x1 b hbl
  exact ⟨rfl, add_plain h0 (HT.out.keep hk) HI.out (by rw [hk tb (by simp [hob])]; exact HB.out) hog hob (fun _ => by simp [hog]) (fun _ => by simp [hob])
    (RowP.move hr1 fun k hk => ⟨by rw [HWZ.out, heap_setCell_other _ (by have := (hr2 k hk).1; show k ≠ w.heap.size; omega)], hk⟩)
    (fun k hk => by
      have := hr2 k hk
      refine ⟨?_, by omega, by omega⟩
      cases ho : own k with
      | none => rfl
      | some x => have := HOO.out k (by simp [ho]); omega) tag text _ rfl⟩
end Go.Proofs.Ythgnbbbdcebjhaa

namespace Go.Proofs.Ythgnbbbdcebjhaa
open Go Go.RowKit Go.BigFrame
set_option linter.unusedVariables false
set_option linter.unusedSimpArgs false

/-- the row of nodes has grown by one place: whose blocks are whose, and the tree then -/
theorem grow_plain {w W w3 : World} {own0 own : Ow} {ptr : Nat → Nat} {tb : Nat} {T : Tr} (h0 : Step own0 w own W) (hT : TreeAt W own ptr tb T) (hob : own tb = some (0, 0)) (hob0 : tb < w.heap.size → own0 tb ≠ none)
    (h00 : ∀ b, b < w.heap.size → own b = some (1, 0) → own0 b ≠ none)
    {v : Value} {row : Option Nat} (hr : RowP w3 (fun g => own g = some (1, 0) ∨ W.heap.size ≤ g) 71 1 v (T.nodes.length + 1) (nodeVals ptr T.nodes ++ [.pointer none])) (hg : W.grownBy w3 row) (hrow : ∀ k, row = some k → own k = some (1, 0)) :
    ∃ own1 g cap, v = .slice (some ⟨g, 0, none⟩) (T.nodes.length + 1) cap ∧ cap ≤ maxLen ∧ T.nodes.length + 1 ≤ cap ∧ own1 g = some (1, 0) ∧ own1 tb = some (0, 0) ∧ (g < w.heap.size → own0 g ≠ none) ∧ Step own0 w own1 (w3.setCell ⟨tb, 3, none⟩ v) ∧ TreeAt (w3.setCell ⟨tb, 3, none⟩ v) own1 ptr tb { T with nodes := T.nodes ++ [none] } ∧
      (∀ b, own1 b = none → own b = none) ∧ (∀ b, own b = none → b < W.heap.size → own1 b = none) ∧
      (w3.setCell ⟨tb, 3, none⟩ v).heap[tb]? = some (.cells #[.int .i64 T.cap, .int .i64 T.deep, .int .i64 T.count, v] 81 (0, 0)) ∧ (∃ x, w3.cell? ⟨g, T.nodes.length, none⟩ = some x) ∧ w3.frozen? ⟨g, T.nodes.length, none⟩ = false ∧ g ≠ tb := by
  rcases hr.2 with ⟨h1, _⟩ | ⟨g, cap, cur, rfl, q2, q3, q4, q5, q6, q7⟩
  · omega
  have hO := h0.owned
  let own1 : Ow := fun b => if b < W.heap.size then own b else if b = g then some (1, 0) else none
  have e1 : ∀ b, b < W.heap.size → own1 b = own b := fun b hb => if_pos hb
  have hog : own1 g = some (1, 0) := by
    show (if g < W.heap.size then _ else _) = _
    rcases q2 with q2 | q2
    · rw [if_pos (hO g (by simp [q2]))]; exact q2
    · rw [if_neg (by omega), if_pos rfl]
  have htl := hO tb (by simp [hob])
  have hot : own1 tb = some (0, 0) := (e1 tb htl).trans hob
  have hgl : g < w3.heap.size := (Array.getElem?_eq_some_iff.1 q3).1
  have hsz := hg.size
  have keep : ∀ b x, own b = some x → x ≠ (1, 0) → w3.heap[b]? = W.heap[b]? ∧ own1 b = own b := fun b x hb hx => by
    have hbl := hO b (by simp [hb])
    exact ⟨hg.block b hbl (fun h => by have := hrow b h.symm; rw [hb] at this; exact hx (Option.some.inj this)), e1 b hbl⟩
  have hr' : RowAt w3 own1 71 1 (1, 0) (.slice (some ⟨g, 0, none⟩) (T.nodes.length + 1) cap) (T.nodes.length + 1) (nodeVals ptr T.nodes ++ [.pointer none]) :=
    ⟨hr.1, .inr ⟨g, cap, cur, rfl, hog, q3, q4, q5, q6, q7⟩⟩
  have hG := hT.grow hr' keep
  obtain ⟨nv, hb, _, _⟩ := hT.head
  have hb3 : w3.heap[tb]? = _ := (keep tb _ hob (by simp)).1.trans hb
  refine ⟨own1, g, cap, rfl, q5, q4, hog, hot, fun hgw => ?_, ?_, hG, fun b hb => ?_, fun b hb hbl => (e1 b hbl).trans hb, by rw [heap_setCell_same hb3]; rfl, ?_, freeOf q3 _, fun e => by rw [e, hot] at hog; cases hog⟩
  · have hgW := Nat.lt_of_lt_of_le hgw h0.size
    exact h00 g hgw ((e1 g hgW).symm.trans hog)
  · have hst : Step own0 w own1 w3 := by
      refine ⟨hg.os.trans h0.os, hg.tape.trans h0.tape, hg.output.trans h0.output, Nat.le_trans h0.size hg.size, fun b hb hn => ?_, fun b hb => (e1 b (Nat.lt_of_lt_of_le hb h0.size)).trans (h0.same b hb), fun b hb => ?_⟩
      · rw [hg.block b (Nat.lt_of_lt_of_le hb h0.size) (fun h => h00 b hb (hrow b h.symm) hn)]
        exact h0.rest b hb hn
      · have hb' : (if b < W.heap.size then own b else if b = g then some (1, 0) else none) ≠ none := hb
        split at hb'
        · omega
        · split at hb'
          · omega
          · exact absurd rfl hb'
    exact hst.setCell hob0 _
  · have hb' : (if b < W.heap.size then own b else if b = g then some (1, 0) else none) = none := hb
    split at hb'
    · exact hb'
    · cases ho : own b with
      | none => rfl
      | some x => have := hO b (by simp [ho]); omega
  · have hlt : T.nodes.length < cur.size := by rw [q6]; omega
    exact ⟨_, cellOf q3 (Array.getElem?_eq_getElem hlt)⟩

set_option maxRecDepth 100000 in
set_option maxHeartbeats 4000000 in
theorem add_full {w : World} {own : Ow} {ptr : Nat → Nat} {tb : Nat} {T : Tr} (hT : TreeAt w own ptr tb T) (hO : Owned own w) (hs : Small T) (hlen : T.nodes.length ≤ 1999) (hf : freeOf' T.nodes = -1)
    (tag : Int) (text : ByteArray) (av : Value) (attrs : List (ByteArray × ByteArray)) (ha : RowRd w 2 av attrs.length (attrCells attrs)) (hn : attrs.length ≤ 60000) (h1c : ∀ u ∈ attrCells attrs, u.oneCell' = true) :
    Calls Try.prog 51 #[.pointer (some ⟨tb, 0, none⟩), .agg #[.int .i64 tag, av, .string text]] w (AddIs own w tb T.nodes.length { T with count := T.count + 1, nodes := T.nodes ++ [some ⟨tag, attrs, text, [], -1⟩] }) := by
  obtain ⟨ao, cap0, hav, _⟩ := ha.len_of
  subst hav
  obtain ⟨nv, hb, hob, hrow0⟩ := hT.head
  obtain ⟨an, capn, hnv, hcapn, hcapm⟩ := hrow0.len
  subst hnv
  have htl := hO tb (by simp [hob])
  have hc0 := hs.count0
  have hc1 := hs.count1
  have hc2 := hs.cap1
  obtain ⟨i0, hi, hz0, hz1, hz2⟩ := info_parts infoP
  have Hi := Lib.hid hi
  have Hz0 := Lib.hid hz0
  have Hz1 := Lib.hid hz1
  have Hz2 := Lib.hid hz2
  have HB := Lib.hid hb
  have HA := Lib.hid ha
  have HF := Lib.hid hf
  have HT := Lib.hid hT
  have HOO := Lib.hid hO
  have HN := Lib.hid hn
  have H1 := Lib.hid h1c
  have HR0 := Lib.hid hrow0
  have HOB := Lib.hid hob
  unfold maxLen at hcapm
  clear ha hf hT hO hn h1c hb hrow0 hs hi hz0 hz1 hz2 hob
  go_enter Try.func51, Try.ntmps51
  go_wp2_with fail
  refine (cloneA_any (RowRd.ext HA.out ((Ext.refl w).alloc _)) HN.out H1.out).mono ?_
  rintro e w1 ⟨v, rfl, hrow, hx⟩
  have c0 := hx.cell (b := w.heap.size) (o := 0) (v := .int .i64 tag) (by simp [go_sem])
  have c1 := hx.cell (b := w.heap.size) (o := 1) (v := .slice ao attrs.length cap0) (by simp [go_sem])
  have c2 := hx.cell (b := w.heap.size) (o := 2) (v := .string text) (by simp [go_sem])
  have f1 := hx.free (b := w.heap.size) (o := 1) (by simp <;> omega) (by simp [go_sem])
  have x1 : Ext w w1 := ((Ext.refl w).alloc _).trans hx
  obtain ⟨a1, cap1, hv, _⟩ := hrow.rd.len_of
  subst hv
  have hb1 := x1.block HB.out
  have t2 := cellOf hb1 (i := 2) (v := .int .i64 T.count) rfl
  have t3 := cellOf hb1 (i := 3) (v := .slice an T.nodes.length capn) rfl
  have u2 := freeOf hb1 2
  have ntb : tb ≠ w.heap.size := Nat.ne_of_lt htl
  have ntb' : w.heap.size ≠ tb := Ne.symm ntb
  have l0 := cell_lt c0
  have HX := Lib.hid hx
  have HROW := Lib.hid hrow
  clear hb1 hx hrow
  go_wp2_with fail
  obtain ⟨wz, hwz⟩ : ∃ wz : World, wz = w1.setCell ⟨w.heap.size, 1, none⟩ (.slice a1 attrs.length cap1) := ⟨_, rfl⟩
  have z0 : wz.cell? ⟨w.heap.size, 0, none⟩ = some (.int .i64 tag) := by rw [hwz]; simp [go_sem, c0]
  have z1 : wz.cell? ⟨w.heap.size, 1, none⟩ = some (.slice a1 attrs.length cap1) := by rw [hwz]; simp [go_sem, c1]
  have z2 : wz.cell? ⟨w.heap.size, 2, none⟩ = some (.string text) := by rw [hwz]; simp [go_sem, c2]
  have y2 : wz.cell? ⟨tb, 2, none⟩ = some (.int .i64 T.count) := by rw [hwz]; simp [go_sem, ntb, ntb', t2]
  have y3 : wz.cell? ⟨tb, 3, none⟩ = some (.slice an T.nodes.length capn) := by rw [hwz]; simp [go_sem, ntb, ntb', t3]
  have lz : wz.heap.size = w1.heap.size := by rw [hwz]; simp [World.setCell]
  have h0 : Step own w own wz := by rw [hwz]; exact (x1.step HOO.out).setCell (fun h => by exfalso; exact Nat.lt_irrefl _ h) _
  have hk : Keep own w wz := fun b hb => by
    have hbl := HOO.out b hb
    rw [hwz, heap_setCell_other _ (by show b ≠ w.heap.size; omega)]
    exact Below.block x1 b hbl
  have hTz := HT.out.keep hk
  have hR : RowIn w1 (w.heap.size + 1) 101 2 (.slice a1 attrs.length cap1) attrs.length (attrCells attrs) := by
    have := HROW.out
    simpa using this
  obtain ⟨rb, hr1, hr2⟩ := hR.block
  have hr1z : RowP wz (fun g => rb = some g) 101 2 (.slice a1 attrs.length cap1) attrs.length (attrCells attrs) :=
    RowP.move hr1 fun k hk => ⟨by rw [hwz, heap_setCell_other _ (by have := (hr2 k hk).1; show k ≠ w.heap.size; omega)], hk⟩
  have hrz : RowP wz (fun g => own g = some (1, 0)) 71 1 (.slice an T.nodes.length capn) T.nodes.length (nodeVals ptr T.nodes) := RowP.move HR0.out fun b hb => ⟨hk b (by simp [hb]), hb⟩
  rw [← hwz]
  have H0 := Lib.hid h0
  have HTZ := Lib.hid hTz
  have HR1 := Lib.hid hr1z
  have HR2 := Lib.hid hr2
  have HRZ := Lib.hid hrz
  have LZ := Lib.hid lz
  have htz := cell_lt y2
  have hpz := cell_lt z0
  clear hwz c0 c1 c2 f1 t2 t3 u2 h0 hk hTz hR hr1 hr2 hr1z hrz lz x1
  refine (free_any HRZ.out (by omega)).mono ?_
  rintro e w2 ⟨rfl, rfl⟩
  rw [HF.out]
  go_wp2_with (at_builtin; refine wpList_append_row rfl _ _ 79 rfl 71 i0 (.pointer none) 1 8 Try.underlying79 Hi.out Hz0.out Hz1.out Hz2.out rfl (by decide) (fun g => own g = some (1, 0)) (.slice an T.nodes.length capn) T.nodes.length (nodeVals ptr T.nodes) rfl ?c1 ⟨wz.heap.size, 0, none⟩ 1 1 [.pointer none] rfl rfl ?c2 ?c3 (by decide) ?c4 ?c5 ?_)
  case c1 => exact RowP.ext HRZ.out ((Ext.refl _).alloc _)
  case c2 => exact cell_one_new _ _ _
  case c3 => simp [Value.oneCell']
  case c4 => unfold maxLen; omega
  case c5 => omega
  intro v' w3 row hrw hg hrow
  have hOz := H0.out.owned
  have xW : Ext wz (wz.alloc (Obj.cells #[Value.pointer none] 71)) := (Ext.refl _).alloc _
  have hgr := grow_plain (H0.out.ext xW) (HTZ.out.keep (xW.keep hOz)) HOB.out (fun _ => by rw [HOB.out]; simp) (fun b _ hb => by rw [hb]; simp) (by simpa using hrw) hg hrow
  obtain ⟨own1, g, cap, hv, hcm, hlc, hog1, hot1, hgn, hst, hT1, hn1, hn2, hb1, ⟨xg, hcg⟩, hfg, hgt⟩ := hgr
  have hpres : ∀ b, b < wz.heap.size → own b ≠ some (1, 0) → w3.heap[b]? = wz.heap[b]? := fun b hb hn => by
    rw [hg.block b (by simp; omega) (fun h => hn (hrow b h.symm))]
    exact Below.heap_alloc _ _ _ hb
  have hp0 : own w.heap.size = none := by
    cases ho : own w.heap.size with
    | none => rfl
    | some x => have := HOO.out w.heap.size (by simp [ho]); omega
  have e0 : ∀ o x, wz.cell? ⟨w.heap.size, o, none⟩ = some x → w3.cell? ⟨w.heap.size, o, none⟩ = some x := fun o x hx => (World.cell?_of_block (hpres w.heap.size hpz (by simp [hp0]))).trans hx
  have et : ∀ o x, wz.cell? ⟨tb, o, none⟩ = some x → w3.cell? ⟨tb, o, none⟩ = some x := fun o x hx => (World.cell?_of_block (hpres tb htz (by rw [HOB.out]; simp))).trans hx
  have ef : ∀ o, w3.frozen? ⟨tb, o, none⟩ = false := fun o => by
    obtain ⟨nv, q, _⟩ := HTZ.out.head
    exact freeOf ((hpres tb htz (by rw [HOB.out]; simp)).trans q) o
  replace z0 := e0 _ _ z0
  replace z1 := e0 _ _ z1
  replace z2 := e0 _ _ z2
  replace y2 := et _ _ y2
  replace y3 := et _ _ y3
  have v2 := ef 2
  have v3 := ef 3
  have hsz3 : wz.heap.size + 1 ≤ w3.heap.size := by have := hg.size; simpa using this
  have hr3 : RowP (w3.setCell ⟨tb, 3, none⟩ v') (fun g => rb = some g) 101 2 (.slice a1 attrs.length cap1) attrs.length (attrCells attrs) := RowP.move HR1.out fun k hk => by
    have hk2 := HR2.out k hk
    have hkz : k < wz.heap.size := by rw [LZ.out]; exact hk2.2
    refine ⟨?_, hk⟩
    rw [heap_setCell_other _ (by show k ≠ tb; omega)]
    refine hpres k hkz (fun h => ?_)
    have := HOO.out k (by simp [h]); omega
  have hr4 : ∀ k, rb = some k → own1 k = none ∧ w.heap.size ≤ k ∧ k < (w3.setCell ⟨tb, 3, none⟩ v').heap.size := fun k hk => by
    have hk2 := HR2.out k hk
    have hkz : k < wz.heap.size := by rw [LZ.out]; exact hk2.2
    refine ⟨hn2 k ?_ (by simp; omega), by omega, by simp [World.setCell]; omega⟩
    cases ho : own k with
    | none => rfl
    | some x => have := HOO.out k (by simp [ho]); omega
  have ngz := Ne.symm hgt
  have HST := Lib.hid hst
  have HT1 := Lib.hid hT1
  have HB1 := Lib.hid hb1
  have HR3 := Lib.hid hr3
  have HR4 := Lib.hid hr4
  have HOG := Lib.hid hog1
  have HOT := Lib.hid hot1
  have HGN := Lib.hid hgn
  have ng0 : g ≠ w.heap.size := fun e => by
    have h2 := hn2 w.heap.size hp0 (by simp; omega)
    rw [← e, hog1] at h2
    cases h2
  have ng0' := Ne.symm ng0
  unfold maxLen at hcm
  clear hst hT1 hb1 hr3 hr4 hn1 hn2 hpres e0 et ef hg hrow hrw hp0 xW hOz hog1 hot1 hgn
  rw [hv] at HST HT1 HB1 HR3 HR4 ⊢
  clear hv
  go_wp2_with fail
  obtain ⟨wq, hwq⟩ : ∃ wq : World, wq = w3.setCell ⟨tb, 3, none⟩ (.slice (some ⟨g, 0, none⟩) (T.nodes.length + 1) cap) := ⟨_, rfl⟩
  rw [← hwq] at HST HT1 HB1 HR3 HR4 ⊢
  replace z0 : wq.cell? ⟨w.heap.size, 0, none⟩ = some (.int .i64 tag) := by rw [hwq]; simp [go_sem, ntb, ntb', z0]
  replace z1 : wq.cell? ⟨w.heap.size, 1, none⟩ = some (.slice a1 attrs.length cap1) := by rw [hwq]; simp [go_sem, ntb, ntb', z1]
  replace z2 : wq.cell? ⟨w.heap.size, 2, none⟩ = some (.string text) := by rw [hwq]; simp [go_sem, ntb, ntb', z2]
  replace y2 : wq.cell? ⟨tb, 2, none⟩ = some (.int .i64 T.count) := by rw [hwq]; simp [go_sem, y2]
  replace y3 : wq.cell? ⟨tb, 3, none⟩ = some (.slice (some ⟨g, 0, none⟩) (T.nodes.length + 1) cap) := by rw [hwq]; simp [go_sem, y3]
  replace v2 : wq.frozen? ⟨tb, 2, none⟩ = false := by rw [hwq]; simp [go_sem, v2]
  replace hcg : wq.cell? ⟨g, T.nodes.length, none⟩ = some xg := by rw [hwq]; simp [go_sem, hgt, ngz, hcg]
  replace hfg : wq.frozen? ⟨g, T.nodes.length, none⟩ = false := by rw [hwq]; simp [go_sem, hfg]
  have lg := cell_lt hcg
  have lt := cell_lt y2
  have ngq : g ≠ wq.heap.size := Nat.ne_of_lt lg
  have ntq : tb ≠ wq.heap.size := Nat.ne_of_lt lt
  have hi0 : (0 : Int) ≤ (T.nodes.length : Int) := by omega
  have hi1 : (T.nodes.length : Int) < (T.nodes.length : Int) + 1 := by omega
  clear hwq v3
  go_region_held3 (fun w' => w'.cell? ⟨tb, 3, none⟩ = some (.slice (some ⟨g, 0, none⟩) (T.nodes.length + 1) cap) ∧ w'.cell? ⟨w.heap.size, 0, none⟩ = some (.int .i64 tag) ∧ w'.cell? ⟨w.heap.size, 1, none⟩ = some (.slice a1 attrs.length cap1) ∧ w'.cell? ⟨w.heap.size, 2, none⟩ = some (.string text))
    (first | exact ⟨y3, z0, z1, z2⟩ | go_keep) (first | fail | fail)
  go_wp2
  go_ret
  have hfin := add_plain (T := { T with nodes := T.nodes ++ [none] }) (i := T.nodes.length) HST.out HT1.out (by simp) (by simpa using HB1.out) HOG.out HOT.out HGN.out (fun _ => by rw [HOB.out]; simp) HR3.out HR4.out tag text (T.count + 1) rfl
  simp only [List.set_append_right _ _ (Nat.le_refl _), Nat.sub_self, List.set_cons_zero] at hfin
  exact ⟨rfl, hfin⟩
end Go.Proofs.Ythgnbbbdcebjhaa

namespace Go.Proofs.Ythgnbbbdcebjhaa
open Go Go.RowKit Go.BigFrame
set_option linter.unusedVariables false
set_option linter.unusedSimpArgs false

theorem freeOf_cases (l : List (Option Nd)) : (∃ i : Nat, freeOf' l = (i : Int) ∧ l[i]? = some none) ∨ (freeOf' l = -1 ∧ ∀ x ∈ l, x ≠ none) := by
  by_cases h : l.any Option.isNone = true
  · left
    have hlt : l.findIdx Option.isNone < l.length := List.findIdx_lt_length.2 (by
      rw [List.any_eq_true] at h; exact h)
    refine ⟨l.findIdx Option.isNone, by unfold freeOf'; rw [if_pos h], ?_⟩
    have := List.findIdx_getElem (w := hlt)
    rw [List.getElem?_eq_getElem hlt]
    cases hx : l[l.findIdx Option.isNone] with
    | none => rfl
    | some y => rw [hx] at this; cases this
  · right
    refine ⟨by unfold freeOf'; rw [if_neg h], fun x hx hn => h (List.any_eq_true.2 ⟨x, hx, by rw [hn]; rfl⟩)⟩
def Tr.newId (T : Tr) : Int := if 0 ≤ freeOf' T.nodes then freeOf' T.nodes else T.nodes.length
def Tr.put (T : Tr) (nd : Nd) : Tr := { T with count := T.count + 1, nodes := if 0 ≤ freeOf' T.nodes then T.nodes.set (freeOf' T.nodes).toNat (some nd) else T.nodes ++ [some nd] }
theorem count_all {l : List (Option Nd)} (h : ∀ x ∈ l, x ≠ none) : l.countP Option.isSome = l.length := by
  rw [List.countP_eq_length]
  intro x hx
  cases x with
  | none => exact absurd rfl (h none hx)
  | some y => rfl
theorem WF.len_full {T : Tr} {d : Nat → Nat} (hw : WF T d) (h : ∀ x ∈ T.nodes, x ≠ none) : (T.nodes.length : Int) = T.count := by
  rw [hw.count, count_all h]
theorem add_any {w : World} {own : Ow} {ptr : Nat → Nat} {tb : Nat} {T : Tr} (hT : TreeAt w own ptr tb T) (hO : Owned own w) (hs : Small T) (hr : (∀ x ∈ T.nodes, x ≠ none) → T.nodes.length ≤ 1999)
    (tag : Int) (text : ByteArray) (av : Value) (attrs : List (ByteArray × ByteArray)) (ha : RowRd w 2 av attrs.length (attrCells attrs)) (hn : attrs.length ≤ 60000) (h1c : ∀ u ∈ attrCells attrs, u.oneCell' = true) :
    Calls Try.prog 51 #[.pointer (some ⟨tb, 0, none⟩), .agg #[.int .i64 tag, av, .string text]] w (AddIs own w tb T.newId (T.put ⟨tag, attrs, text, [], -1⟩)) := by
  unfold Tr.newId Tr.put
  rcases freeOf_cases T.nodes with ⟨i, h1, h2⟩ | ⟨h1, h2⟩
  · have := add_free hT hO hs h1 h2 tag text av attrs ha hn h1c
    rw [h1, if_pos (by omega), if_pos (by omega), Int.toNat_natCast]
    exact this
  · have := add_full hT hO hs (hr h2) h1 tag text av attrs ha hn h1c
    rw [h1, if_neg (by omega), if_neg (by omega)]
    exact this
theorem attrCells_one (l : List (ByteArray × ByteArray)) : ∀ u ∈ attrCells l, u.oneCell' = true := by
  induction l with
  | nil => intro u hu; simp [attrCells] at hu
  | cons p r ih =>
    intro u hu
    obtain ⟨a, b⟩ := p
    simp only [attrCells, List.mem_cons] at hu
    rcases hu with rfl | rfl | hu
    · rfl
    · rfl
    · exact ih u hu
/-- where the new node is, the others as they were -/
theorem Tr.put_at (T : Tr) (nd : Nd) : ∃ n : Nat, T.newId = (n : Int) ∧ (T.put nd).nodes[n]? = some (some nd) ∧ (∀ (x : Nd), T.nodes[n]? ≠ some (some x)) ∧
    (∀ (j : Nat) (x : Nd), T.nodes[j]? = some (some x) → (T.put nd).nodes[j]? = some (some x)) ∧ (∀ (j : Nat) (x : Nd), j ≠ n → (T.put nd).nodes[j]? = some (some x) → T.nodes[j]? = some (some x)) ∧
    (T.put nd).nodes.countP Option.isSome = T.nodes.countP Option.isSome + 1 ∧ (T.put nd).nodes.length ≤ T.nodes.length + 1 ∧ ((∃ x ∈ T.nodes, x = none) → (T.put nd).nodes.length = T.nodes.length) := by
  unfold Tr.newId Tr.put
  rcases freeOf_cases T.nodes with ⟨i, h1, h2⟩ | ⟨h1, h2⟩
  · rw [h1, if_pos (by omega), if_pos (by omega), Int.toNat_natCast]
    have hlt := (List.getElem?_eq_some_iff.1 h2).1
    refine ⟨i, rfl, by simp [hlt], fun x h => (by rw [h2] at h; cases h), fun j x hj => ?_, fun j x hji hj => ?_, ?_, by simp, fun _ => by simp⟩
    · show (T.nodes.set i (some nd))[j]? = _
      rw [List.getElem?_set]
      split
      · rename_i e; subst e; rw [h2] at hj; cases hj
      · exact hj
    · have hj' : (T.nodes.set i (some nd))[j]? = some (some x) := hj
      rw [List.getElem?_set, if_neg (Ne.symm hji)] at hj'
      exact hj'
    · show (T.nodes.set i (some nd)).countP Option.isSome = _
      rw [List.countP_set hlt]
      have : T.nodes[i] = none := by
        have := List.getElem?_eq_getElem hlt
        rw [h2] at this
        exact (Option.some.inj this).symm
      simp [this]
  · rw [h1, if_neg (by omega), if_neg (by omega)]
    refine ⟨T.nodes.length, rfl, by simp, fun x h => ?_, fun j x hj => ?_, fun j x hji hj => ?_, by simp, by simp, fun ⟨x, hx, he⟩ => absurd he (h2 x hx)⟩
    · rw [List.getElem?_eq_none (Nat.le_refl _)] at h; cases h
    · show (T.nodes ++ [some nd])[j]? = _
      rw [List.getElem?_append_left (List.getElem?_eq_some_iff.1 hj).1]; exact hj
    · have hj' : (T.nodes ++ [some nd])[j]? = some (some x) := hj
      rw [List.getElem?_append] at hj'
      split at hj'
      · exact hj'
      · rename_i hge
        rw [List.getElem?_eq_none (by simp; omega)] at hj'
        cases hj'
theorem WF.put {T : Tr} {d : Nat → Nat} (hw : WF T d) (nd : Nd) (hk : nd.kids = []) (hp : nd.parent = -1) (ht0 : 0 ≤ nd.tag) (ht1 : nd.tag ≤ 16) (hroom : T.count + 1 ≤ T.cap) (hroot : T.newId ≠ 0) :
    WF (T.put nd) (fun j => if (j : Int) = T.newId then 0 else d j) := by
  obtain ⟨n, h1, h2, h3, h4, h5, h6, h7, h8⟩ := T.put_at nd
  have hs := hw.small
  have hcap : (T.put nd).cap = T.cap := rfl
  have hdeep : (T.put nd).deep = T.deep := rfl
  have hcount : (T.put nd).count = T.count + 1 := rfl
  refine ⟨⟨hs.cap0, hs.cap1, hs.deep0, hs.deep1, ?_, hroom, ?_⟩, ?_, ?_, ?_, ?_, ?_, ?_⟩
  · have := hs.count0; show 0 ≤ T.count + 1; omega
  · by_cases hx : ∃ x ∈ T.nodes, x = none
    · rw [h8 hx]; exact hs.len
    · have hl := hw.len_full (fun x hx' he => hx ⟨x, hx', he⟩)
      have := hs.cap1
      omega
  · obtain ⟨r, r1, r2, r3⟩ := hw.root
    exact ⟨r, h4 0 r r1, r2, r3⟩
  · intro i x hi
    by_cases hin : i = n
    · rw [if_pos (by rw [h1, hin])]; exact hs.deep0
    · rw [if_neg (by rw [h1]; omega)]; exact hw.deep i x (h5 i x hin hi)
  · intro i x hi
    by_cases hin : i = n
    · left
      rw [hin, h2] at hi
      cases hi
      exact ⟨hp, if_pos (by rw [h1, hin])⟩
    · rcases hw.up i x (h5 i x hin hi) with ⟨q1, q2⟩ | ⟨p, pd, q1, q2, q3, q4⟩
      · left
        exact ⟨q1, by rw [if_neg (by rw [h1]; omega)]; exact q2⟩
      · right
        have hpn : p ≠ n := fun e => h3 pd (e ▸ q2)
        exact ⟨p, pd, q1, h4 p pd q2, by rw [if_neg (by rw [h1]; omega), if_neg (by rw [h1]; omega)]; exact q3, q4⟩
  · intro i x hi
    by_cases hin : i = n
    · rw [hin, h2] at hi
      cases hi
      rw [hk]
      exact ⟨List.nodup_nil, fun k hk => by simp at hk⟩
    · obtain ⟨q1, q2⟩ := hw.kids i x (h5 i x hin hi)
      exact ⟨q1, fun k hk => by obtain ⟨j, kd, r1, r2, r3⟩ := q2 k hk; exact ⟨j, kd, r1, h4 j kd r2, r3⟩⟩
  · intro i x hi
    by_cases hin : i = n
    · rw [hin, h2] at hi
      cases hi
      exact ⟨ht0, ht1, fun _ => hk⟩
    · exact hw.text i x (h5 i x hin hi)
  · rw [hcount, h6, hw.count]; push_cast; rfl
theorem WF.newId_ne {T : Tr} {d : Nat → Nat} (hw : WF T d) : T.newId ≠ 0 := by
  obtain ⟨n, h1, _, h3, _⟩ := T.put_at ⟨0, [], ByteArray.empty, [], -1⟩
  obtain ⟨r, r1, _⟩ := hw.root
  intro h0
  have : n = 0 := by omega
  exact h3 r (this ▸ r1)
end Go.Proofs.Ythgnbbbdcebjhaa

namespace Go.Proofs.Ythgnbbbdcebjhaa
open Go Go.RowKit Go.BigFrame
set_option linter.unusedVariables false
set_option linter.unusedSimpArgs false

/-- within, once for all fuel -/
theorem WF.d50 {T : Tr} {d : Nat → Nat} (hw : WF T d) {i : Nat} {nd : Nd} (h : T.nodes[i]? = some (some nd)) : d i < 50 := by
  have := hw.deep i nd h; have := hw.small.deep1; omega
theorem WF.within_step {T : Tr} {d : Nat → Nat} (hw : WF T d) {i : Nat} {nd : Nd} (h : T.nodes[i]? = some (some nd)) (o : Int) :
    T.within i o = if (i : Int) = o then true else T.within nd.parent o := by
  show isIn T o 50 i = _
  rw [isIn_step o 49 h]
  split
  · rfl
  · rcases hw.up i nd h with ⟨h3, h4⟩ | ⟨p, pd, h3, h4, h5, h6⟩
    · rw [h3, isIn_neg]; exact (isIn_neg T o 50).symm
    · rw [h3]; have := hw.d50 h; exact isIn_more hw o 49 50 p pd h4 (by omega) (by omega)
theorem within_neg (T : Tr) (o : Int) : T.within (-1) o = false := isIn_neg T o 50
/-- induction on the depth of a node -/
theorem WF.induct {T : Tr} {d : Nat → Nat} (hw : WF T d) (P : Nat → Nd → Prop)
    (h0 : ∀ (i : Nat) (nd : Nd), T.nodes[i]? = some (some nd) → nd.parent = -1 → d i = 0 → P i nd)
    (h1 : ∀ (i : Nat) (nd : Nd) (p : Nat) (pd : Nd), T.nodes[i]? = some (some nd) → nd.parent = (p : Int) → T.nodes[p]? = some (some pd) → d i = d p + 1 → P p pd → P i nd) :
    ∀ (i : Nat) (nd : Nd), T.nodes[i]? = some (some nd) → P i nd := by
  have key : ∀ (n i : Nat) (nd : Nd), d i = n → T.nodes[i]? = some (some nd) → P i nd := by
    intro n
    induction n with
    | zero =>
      intro i nd hd h
      rcases hw.up i nd h with ⟨h3, h4⟩ | ⟨p, pd, h3, h4, h5, h6⟩
      · exact h0 i nd h h3 h4
      · omega
    | succ n ih =>
      intro i nd hd h
      rcases hw.up i nd h with ⟨h3, h4⟩ | ⟨p, pd, h3, h4, h5, h6⟩
      · omega
      · exact h1 i nd p pd h h3 h4 h5 (ih p pd (by omega) h4)
  exact fun i nd h => key (d i) i nd rfl h
theorem WF.within_self {T : Tr} {d : Nat → Nat} (hw : WF T d) {i : Nat} {nd : Nd} (h : T.nodes[i]? = some (some nd)) : T.within i i = true := by
  rw [hw.within_step h, if_pos rfl]
theorem WF.within_depth {T : Tr} {d : Nat → Nat} (hw : WF T d) {o : Nat} : ∀ (i : Nat) (nd : Nd), T.nodes[i]? = some (some nd) → T.within i o = true → d o ≤ d i ∧ (d o = d i → i = o) := by
  refine hw.induct _ (fun i nd h hp hd hi => ?_) (fun i nd p pd h hp hpd hd ih hi => ?_)
  · rw [hw.within_step h, hp, within_neg] at hi
    split at hi
    · rename_i e; have : i = o := by omega
      subst this; exact ⟨Nat.le_refl _, fun _ => rfl⟩
    · cases hi
  · rw [hw.within_step h, hp] at hi
    split at hi
    · rename_i e; have : i = o := by omega
      subst this; exact ⟨Nat.le_refl _, fun _ => rfl⟩
    · have := (ih hi).1; omega
theorem WF.within_trans {T : Tr} {d : Nat → Nat} (hw : WF T d) {o q : Nat} {od : Nd} (ho : T.nodes[o]? = some (some od)) (hq : T.within o q = true) :
    ∀ (i : Nat) (nd : Nd), T.nodes[i]? = some (some nd) → T.within i o = true → T.within i q = true := by
  refine hw.induct _ (fun i nd h hp hd hi => ?_) (fun i nd p pd h hp hpd hd ih hi => ?_)
  · rw [hw.within_step h, hp, within_neg] at hi
    split at hi
    · rename_i e; have : i = o := by omega
      subst this; exact hq
    · cases hi
  · rw [hw.within_step h, hp] at hi
    split at hi
    · rename_i e; have : i = o := by omega
      subst this; exact hq
    · rw [hw.within_step h, hp]
      split
      · rfl
      · exact ih hi
/-- a root is within nothing else -/
theorem WF.within_root {T : Tr} {d : Nat → Nat} (hw : WF T d) {i : Nat} {nd : Nd} (h : T.nodes[i]? = some (some nd)) (hp : nd.parent = -1) (o : Int) : T.within i o = decide ((i : Int) = o) := by
  rw [hw.within_step h, hp, within_neg]
  by_cases e : (i : Int) = o
  · rw [if_pos e, decide_eq_true e]
  · rw [if_neg e, decide_eq_false e]
/-- who is within a node is it, or within one of its kids -/
theorem WF.within_kid {T : Tr} {d : Nat → Nat} (hw : WF T d) {o : Nat} {od : Nd} (ho : T.nodes[o]? = some (some od)) :
    ∀ (i : Nat) (nd : Nd), T.nodes[i]? = some (some nd) → T.within i o = true → i = o ∨ ∃ k ∈ od.kids, T.within i k = true := by
  refine hw.induct _ (fun i nd h hp hd hi => ?_) (fun i nd p pd h hp hpd hd ih hi => ?_)
  · rw [hw.within_root h hp] at hi
    left; have := of_decide_eq_true hi; omega
  · rw [hw.within_step h, hp] at hi
    split at hi
    · rename_i e; left; omega
    · right
      rcases ih hi with rfl | ⟨k, hk, hk2⟩
      · rw [ho] at hpd
        obtain rfl : od = pd := by injection hpd with e; injection e
        rcases hw.up i nd h with ⟨h3, h4⟩ | ⟨p', pd', h3, h4, h5, h6⟩
        · omega
        · have hpp : p' = p := by omega
          subst hpp
          rw [ho] at h4
          obtain rfl : od = pd' := by injection h4 with e; injection e
          exact ⟨i, h6, hw.within_self h⟩
      · refine ⟨k, hk, ?_⟩
        rw [hw.within_step h, hp, hk2]
        split <;> rfl
theorem WF.kid_within {T : Tr} {d : Nat → Nat} (hw : WF T d) {o : Nat} {od : Nd} (ho : T.nodes[o]? = some (some od)) {k : Int} (hk : k ∈ od.kids) :
    ∀ (i : Nat) (nd : Nd), T.nodes[i]? = some (some nd) → T.within i k = true → T.within i o = true := by
  obtain ⟨j, kd, rfl, hj, hjp⟩ := (hw.kids o od ho).2 k hk
  refine fun i nd h hi => hw.within_trans hj ?_ i nd h hi
  rw [hw.within_step hj, hjp]
  split
  · rfl
  · exact hw.within_self ho

theorem fold_ge (F : Int → Int) : ∀ (l : List Int) (z : Int), z ≤ l.foldl (fun h k => max h (F k)) z := by
  intro l
  induction l with
  | nil => intro z; exact Int.le_refl _
  | cons k r ih => intro z; exact Int.le_trans (show z ≤ max z (F k) by omega) (ih _)
theorem fold_mem (F : Int → Int) : ∀ (l : List Int) (z : Int) (x : Int), x ∈ l → F x ≤ l.foldl (fun h k => max h (F k)) z := by
  intro l
  induction l with
  | nil => intro z x hx; cases hx
  | cons k r ih =>
    intro z x hx
    rcases List.mem_cons.1 hx with rfl | hx
    · exact Int.le_trans (show F x ≤ max z (F x) by omega) (fold_ge F r _)
    · exact ih _ x hx
theorem hgt_step (T : Tr) (f : Nat) {i : Nat} {nd : Nd} (h : T.nodes[i]? = some (some nd)) : T.hgt (f + 1) i = nd.kids.foldl (fun h k => max h (T.hgt f k + 1)) 0 := by
  show (match T.get? i with | none => -1 | some nd => nd.kids.foldl (fun h k => max h (T.hgt f k + 1)) 0) = _
  rw [Tr.get_of h]
theorem hgt_nn (T : Tr) (f : Nat) {i : Nat} {nd : Nd} (h : T.nodes[i]? = some (some nd)) : 0 ≤ T.hgt f i := by
  cases f with
  | zero => exact Int.le_refl 0
  | succ f => rw [hgt_step T f h]; exact fold_ge _ _ _
theorem fold_congr (F G : Int → Int) : ∀ (l : List Int) (z : Int), (∀ k ∈ l, F k = G k) → l.foldl (fun h k => max h (F k)) z = l.foldl (fun h k => max h (G k)) z := by
  intro l
  induction l with
  | nil => intro z _; rfl
  | cons k r ih =>
    intro z h
    simp only [List.foldl_cons]
    rw [h k (by simp)]
    exact ih _ fun x hx => h x (by simp [hx])
/-- enough fuel: the height is one -/
theorem WF.hgt_more {T : Tr} {d : Nat → Nat} (hw : WF T d) : ∀ (f g i : Nat) (nd : Nd), T.nodes[i]? = some (some nd) → 41 ≤ d i + f → 41 ≤ d i + g → T.hgt f i = T.hgt g i := by
  intro f
  induction f with
  | zero => intro g i nd h h1; have := hw.deep i nd h; have := hw.small.deep1; omega
  | succ f ih =>
    intro g i nd h h1 h2
    cases g with
    | zero => have := hw.deep i nd h; have := hw.small.deep1; omega
    | succ g =>
      rw [hgt_step T f h, hgt_step T g h]
      refine fold_congr _ _ _ _ fun k hk => ?_
      obtain ⟨n, hn⟩ := List.getElem?_of_mem hk
      obtain ⟨j, kd, rfl, hj, hjp, hjd⟩ := hw.kid h hn
      rw [ih g j kd hj (by omega) (by omega)]
/-- how high a node stands -/
def Tr.height (T : Tr) (i : Int) : Int := T.hgt 50 i
theorem WF.hgt_kid {T : Tr} {d : Nat → Nat} (hw : WF T d) {i : Nat} {nd : Nd} (h : T.nodes[i]? = some (some nd)) {j : Nat} (hk : (j : Int) ∈ nd.kids) : T.height j + 1 ≤ T.height i := by
  show T.hgt 50 j + 1 ≤ T.hgt 50 i
  obtain ⟨n, hn⟩ := List.getElem?_of_mem hk
  obtain ⟨j', kd, e, hj, hjp, hjd⟩ := hw.kid h hn
  obtain rfl : j' = j := by omega
  have h2 := hw.deep j' kd hj
  have h3 := hw.small.deep1
  rw [hw.hgt_more 50 49 j' kd hj (by omega) (by omega), hgt_step T 49 h]
  exact fold_mem (fun k => T.hgt 49 k + 1) nd.kids 0 j' hk
theorem WF.depth_le {T : Tr} {d : Nat → Nat} (hw : WF T d) {o : Nat} {od : Nd} (ho : T.nodes[o]? = some (some od)) :
    ∀ (i : Nat) (nd : Nd), T.nodes[i]? = some (some nd) → T.within i o = true → (d i : Int) + T.height i ≤ d o + T.height o := by
  refine hw.induct _ (fun i nd h hp hd hi => ?_) (fun i nd p pd h hp hpd hd ih hi => ?_)
  · rw [hw.within_root h hp] at hi
    have : i = o := by have := of_decide_eq_true hi; omega
    subst this; exact Int.le_refl _
  · rw [hw.within_step h, hp] at hi
    split at hi
    · rename_i e; have : i = o := by omega
      subst this; exact Int.le_refl _
    · have h1 := ih hi
      rcases hw.up i nd h with ⟨h3, h4⟩ | ⟨p', pd', h3, h4, h5, h6⟩
      · omega
      · obtain rfl : p' = p := by omega
        have := hw.hgt_kid h4 h6
        omega
/-- a kid stands in one row alone, once -/
theorem WF.kid_parent {T : Tr} {d : Nat → Nat} (hw : WF T d) {i j : Nat} {nd kd : Nd} (h : T.nodes[i]? = some (some nd)) (hk : (j : Int) ∈ nd.kids) (hj : T.nodes[j]? = some (some kd)) : kd.parent = i := by
  obtain ⟨j', kd', e, h1, h2⟩ := (hw.kids i nd h).2 _ hk
  obtain rfl : j' = j := by omega
  rw [hj] at h1
  injection h1 with e; injection e with e
  rw [e]; exact h2
end Go.Proofs.Ythgnbbbdcebjhaa

namespace Go.Proofs.Ythgnbbbdcebjhaa
open Go Go.RowKit Go.BigFrame
set_option linter.unusedVariables false
set_option linter.unusedSimpArgs false

/-- a fresh tree is answered -/
def NewIs (w : World) (T : Tr) (e : Ending) (w' : World) : Prop := ∃ tb own ptr, e = .returned (.tuple #[.pointer (some ⟨tb, 0, none⟩), .int .i64 0]) ∧ TreeAt w' own ptr tb T ∧ Owned own w' ∧ Ext w w' ∧ (∀ b, own b ≠ none → w.heap.size ≤ b)
def hostOf (cap deep : Int) : Tr := ⟨cap, deep, 1, [some ⟨1, [], ByteArray.empty, [], -1⟩]⟩
theorem hostOf_put (cap deep : Int) : (Tr.mk cap deep 0 []).put ⟨1, [], ByteArray.empty, [], -1⟩ = hostOf cap deep := rfl
theorem hostOf_wf (cap deep : Int) (h1 : 1 ≤ cap) (h2 : cap ≤ 2000) (h3 : 0 ≤ deep) (h4 : deep ≤ 40) : WF (hostOf cap deep) (fun _ => 0) := by
  have hz : ∀ (i : Nat) (nd : Nd), (hostOf cap deep).nodes[i]? = some (some nd) → nd = ⟨1, [], ByteArray.empty, [], -1⟩ := by
    intro i nd h
    have h' : [some (⟨1, [], ByteArray.empty, [], -1⟩ : Nd)][i]? = some (some nd) := h
    cases i with
    | zero => simp at h'; exact h'.symm
    | succ i => simp at h'
  refine ⟨⟨by show 0 ≤ cap; omega, h2, h3, h4, by show (0 : Int) ≤ 1; omega, by show 1 ≤ cap; omega, by simp [hostOf]⟩, ⟨_, rfl, rfl, rfl⟩, fun i nd _ => h3, fun i nd h => .inl ⟨by rw [hz i nd h], rfl⟩, fun i nd h => ?_, fun i nd h => ?_, by simp [hostOf]⟩
  · rw [hz i nd h]; exact ⟨List.nodup_nil, fun k hk => by simp at hk⟩
  · rw [hz i nd h]; exact ⟨by decide, by decide, fun h => rfl⟩
/-- an empty tree in a block of its own -/
theorem fresh_tree (w : World) (cap deep : Int) : ∃ own : Ow, (∀ b, own b = if b = w.heap.size then some (0, 0) else none) ∧
    TreeAt (w.alloc (.cells #[.int .i64 cap, .int .i64 deep, .int .i64 0, .slice none 0 0] 81)) own (fun _ => 0) w.heap.size ⟨cap, deep, 0, []⟩ ∧ Owned own (w.alloc (.cells #[.int .i64 cap, .int .i64 deep, .int .i64 0, .slice none 0 0] 81)) := by
  refine ⟨fun b => if b = w.heap.size then some (0, 0) else none, fun b => rfl, ⟨⟨.slice none 0 0, heap_alloc_new _ _, if_pos rfl, ⟨rfl, .inl ⟨rfl, none, rfl⟩⟩⟩, fun i nd h => by simp at h⟩, fun b hb => ?_⟩
  have hb' : (if b = w.heap.size then some ((0 : Nat), (0 : Nat)) else none) ≠ none := hb
  split at hb'
  · simp; omega
  · exact absurd rfl hb'

set_option maxRecDepth 100000 in
set_option maxHeartbeats 1000000 in
theorem New_ok (cap deep : Int) (h1 : 1 ≤ cap) (h2 : cap ≤ 2000) (h3 : 0 ≤ deep) (h4 : deep ≤ 40) (w : World) :
    Calls Try.prog 69 #[.int .i64 cap, .int .i64 deep] w (NewIs w (hostOf cap deep)) := by
  obtain ⟨own, ho, hT, hO⟩ := fresh_tree w cap deep
  have HO := Lib.hid ho
  have hc := add_any hT hO ⟨by show 0 ≤ cap; omega, h2, h3, h4, by show (0 : Int) ≤ 0; omega, by show 0 ≤ cap; omega, by simp⟩ (fun _ => by simp) 1 ByteArray.empty (.slice none 0 0) [] ⟨rfl, none, 0, rfl, Nat.le_refl _, fun _ => ⟨rfl, rfl⟩, fun a h => by cases h⟩ (by simp) (attrCells_one [])
  rw [hostOf_put] at hc
  have HC := Lib.hid hc
  clear ho hT hO hc
  go_enter Try.func69, Try.ntmps69
  go_wp2_with fail
  refine HC.out.mono ?_
  rintro e w1 ⟨rfl, own', ptr', hT', hS⟩
  go_wp2_with fail
  go_ret2
  refine ⟨w.heap.size, own', ptr', rfl, hT', hS.owned, ?_, fun b hb => ?_⟩
  · refine ⟨hS.os, hS.tape, hS.output, Nat.le_trans (by simp) hS.size, fun b hb => ?_⟩
    rw [hS.rest b (by simp; omega) (by rw [HO.out]; rw [if_neg (by omega)])]
    exact Below.heap_alloc _ _ _ hb
  · rcases Nat.lt_or_ge b w.heap.size with hlt | hge
    · rw [hS.same b (by simp; omega), HO.out, if_neg (by omega)] at hb
      exact absurd rfl hb
    · exact hge
/-- a number and no error are answered, the tree is another -/
def TwoAfter (own : Ow) (w : World) (tb : Nat) (id : Int) (T' : Tr) (e : Ending) (w' : World) : Prop := e = .returned (.tuple #[.int .i64 id, .int .i64 0]) ∧ After own w tb T' w'
theorem room_yes {w : World} {own : Ow} {ptr : Nat → Nat} {tb : Nat} {T : Tr} (hT : TreeAt w own ptr tb T) (hs : Small T) (n : Int) (h0 : 0 ≤ n) (h1 : n ≤ T.cap - T.count) :
    Calls Try.prog 49 #[.pointer (some ⟨tb, 0, none⟩), .int .i64 n] w (RBool true w) := by
  have h := room_any hT hs n h0 (by have := hs.cap1; have := hs.count0; omega)
  rw [decide_eq_true h1] at h
  exact h
end Go.Proofs.Ythgnbbbdcebjhaa

namespace Go.Proofs.Ythgnbbbdcebjhaa
open Go Go.RowKit Go.BigFrame
set_option linter.unusedVariables false
set_option linter.unusedSimpArgs false

/-- a row is answered; it may have been written in place, or made anew -/
def RIns (p : Nat → Prop) (w : World) (n : Nat) (ys : List Value) (e : Ending) (w' : World) : Prop :=
  ∃ v' row, e = .returned v' ∧ RowP w' (fun g => p g ∨ w.heap.size ≤ g) 3 1 v' n ys ∧ w.grownBy w' row ∧ ∀ k, row = some k → p k

theorem cell_one_new' {w : World} {b : Nat} {x : Value} (h : w.cell? ⟨b, 0, none⟩ = some x) : ∀ (j : Nat) u, [x][j]? = some u → w.cell? (Addr.add ⟨b, 0, none⟩ j) = some u := by
  intro j u hj
  match j, hj with
  | 0, hj => simpa [Addr.add, h] using hj

set_option maxRecDepth 100000 in
set_option maxHeartbeats 1000000 in
theorem insert_end {w : World} {p : Nat → Prop} {v : Value} {n : Nat} {xs : List Value} (hr : RowP w p 3 1 v n xs) (hn : n ≤ 60000) {b : Nat} {x : Int} (hx : w.cell? ⟨b, 0, none⟩ = some (.int .i64 x)) :
    Calls Try.prog 57 #[v, .int .i64 n, .slice (some ⟨b, 0, none⟩) 1 1] w (RIns p w (n + 1) (xs ++ [.int .i64 x])) := by
  obtain ⟨ao, cap, rfl, hc⟩ := hr.rd.len_of
  obtain ⟨i0, hi, hz0, hz1, hz2⟩ := info_parts infoI
  have Hi := Lib.hid hi
  have Hz0 := Lib.hid hz0
  have Hz1 := Lib.hid hz1
  have Hz2 := Lib.hid hz2
  have HR := Lib.hid hr
  have HX := Lib.hid hx
  have HN := Lib.hid hn
  have hcm : cap ≤ 9223372036854775807 := by
    rcases hr.2 with ⟨_, a, e⟩ | ⟨g, cap', cur, e, _, _, _, h, _⟩
    · cases e; omega
    · cases e; unfold maxLen at h; omega
  clear hi hz0 hz1 hz2 hr hx
  by_cases he : cap = n
  all_goals
    go_enter Try.func57, Try.ntmps57
    go_wp2_with (at_builtin; refine wpList_append_row rfl _ _ 42 rfl 3 i0 (.int .i64 0) 1 8 Try.underlying42 Hi.out Hz0.out Hz1.out Hz2.out rfl (by decide) p (.slice ao n cap) n xs rfl HR.out ⟨b, 0, none⟩ 1 1 [.int .i64 x] rfl rfl ?_ ?_ (by decide) ?_ ?_ ?_)
  all_goals first
    | exact cell_one_new' HX.out
    | (simp [Value.oneCell']; done)
    | (unfold maxLen; omega)
    | omega
    | skip
  all_goals
    intro v' w1 row h1 h2 h3
    go_wp2
    go_ret
    exact ⟨_, row, rfl, h1, h2, h3⟩
end Go.Proofs.Ythgnbbbdcebjhaa

namespace Go.Proofs.Ythgnbbbdcebjhaa
open Go Go.RowKit Go.BigFrame
set_option linter.unusedVariables false
set_option linter.unusedSimpArgs false

end Go.Proofs.Ythgnbbbdcebjhaa

namespace Go.Proofs.Ythgnbbbdcebjhaa
open Go Go.RowKit Go.BigFrame
set_option linter.unusedVariables false
set_option linter.unusedSimpArgs false

/-- a row of kids has been made anew or written in place, and stored into its node -/
theorem kids_plain {w W w3 : World} {own0 own : Ow} {ptr : Nat → Nat} {tb : Nat} {T : Tr} (h0 : Step own0 w own W) (hT : TreeAt W own ptr tb T) {p : Nat} {pd : Nd} (hp : T.nodes[p]? = some (some pd)) (ks : List Int)
    (hpw : ptr p < w.heap.size → own0 (ptr p) ≠ none) (h00 : ∀ b, b < w.heap.size → own b = some (4, p) → own0 b ≠ none)
    {v : Value} {row : Option Nat} (hr : RowP w3 (fun g => own g = some (4, p) ∨ W.heap.size ≤ g) 3 1 v ks.length (ks.map (Value.int .i64))) (hg : W.grownBy w3 row) (hrow : ∀ k, row = some k → own k = some (4, p)) :
    ∃ own1, Step own0 w own1 (w3.setCell ⟨ptr p, 3, none⟩ v) ∧ TreeAt (w3.setCell ⟨ptr p, 3, none⟩ v) own1 ptr tb { T with nodes := T.nodes.set p (some { pd with kids := ks }) } ∧ (∀ b x, own b = some x → own1 b = some x) := by
  have hO := h0.owned
  obtain ⟨av, kv, b1, b2, b3, b4⟩ := hT.node p pd hp
  have hsz := hg.size
  -- the row's own block
  obtain ⟨rb, hr1, hr2⟩ : ∃ rb : Option Nat, RowP w3 (fun g => rb = some g) 3 1 v ks.length (ks.map (Value.int .i64)) ∧ ∀ k, rb = some k → (own k = some (4, p) ∨ W.heap.size ≤ k) ∧ k < w3.heap.size := by
    rcases hr.2 with q | ⟨g, cap, cur, q1, q2, q3, q4⟩
    · exact ⟨none, ⟨hr.1, .inl q⟩, fun k hk => by cases hk⟩
    · exact ⟨some g, ⟨hr.1, .inr ⟨g, cap, cur, q1, rfl, q3, q4⟩⟩, fun k hk => by cases hk; exact ⟨q2, (Array.getElem?_eq_some_iff.1 q3).1⟩⟩
  let own1 : Ow := fun b => if b < W.heap.size then own b else if rb = some b then some (4, p) else none
  have e1 : ∀ b, b < W.heap.size → own1 b = own b := fun b hb => if_pos hb
  have e2 : ∀ b x, own b = some x → own1 b = some x := fun b x hb => (e1 b (hO b (by simp [hb]))).trans hb
  have hpl := hO (ptr p) (by simp [b2])
  have keep : ∀ b x, own b = some x → x ≠ (4, p) → w3.heap[b]? = W.heap[b]? := fun b x hb hx =>
    hg.block b (hO b (by simp [hb])) (fun h => by have := hrow b h.symm; rw [hb] at this; exact hx (Option.some.inj this))
  have hb3 : w3.heap[ptr p]? = _ := (keep _ _ b2 (by simp)).trans b1
  have other : ∀ b x, own b = some x → x ≠ (4, p) → b ≠ ptr p → (w3.setCell ⟨ptr p, 3, none⟩ v).heap[b]? = W.heap[b]? := fun b x hb hx hn =>
    (heap_setCell_other _ hn).trans (keep b x hb hx)
  refine ⟨own1, ?_, ?_, e2⟩
  · have hst : Step own0 w own1 w3 := by
      refine ⟨hg.os.trans h0.os, hg.tape.trans h0.tape, hg.output.trans h0.output, Nat.le_trans h0.size hg.size, fun b hb hn => ?_, fun b hb => (e1 b (Nat.lt_of_lt_of_le hb h0.size)).trans (h0.same b hb), fun b hb => ?_⟩
      · rw [hg.block b (Nat.lt_of_lt_of_le hb h0.size) (fun h => h00 b hb (hrow b h.symm) hn)]
        exact h0.rest b hb hn
      · have hb' : (if b < W.heap.size then own b else if rb = some b then some (4, p) else none) ≠ none := hb
        split at hb'
        · omega
        · split at hb'
          · rename_i h; exact (hr2 b h).2
          · exact absurd rfl hb'
    exact hst.setCell hpw _
  · refine hT.setNode (nd' := { pd with kids := ks }) hp ⟨av, v, by rw [heap_setCell_same hb3]; rfl, e2 _ _ b2, ?_, ?_⟩ ?_
    · exact RowP.move b3 fun g hg' => ⟨other g _ hg' (by simp) (fun e => by rw [e, b2] at hg'; cases hg'), e2 g _ hg'⟩
    · refine RowP.move hr1 fun g hg' => ?_
      obtain ⟨k1, k2⟩ := hr2 g hg'
      have hne : g ≠ ptr p := fun e => by
        rcases k1 with k1 | k1
        · rw [e, b2] at k1; cases k1
        · omega
      refine ⟨heap_setCell_other _ hne, ?_⟩
      show (if g < W.heap.size then _ else _) = _
      rcases k1 with k1 | k1
      · rw [if_pos (hO g (by simp [k1]))]; exact k1
      · rw [if_neg (by omega), if_pos hg']
    · intro b x hb hx
      have hx4 : x ≠ (4, p) := fun e => by rw [e] at hx; exact hx (by simp) rfl
      have hbp : b ≠ ptr p := fun e => by rw [e, b2] at hb; cases hb; exact hx (by simp) rfl
      exact ⟨other b x hb hx4 hbp, (e2 b x hb).trans hb.symm⟩
/-- a node's parent is stored -/
theorem TreeAt.setParent {w : World} {own : Ow} {ptr : Nat → Nat} {tb : Nat} {T : Tr} (hT : TreeAt w own ptr tb T) {k : Nat} {kd : Nd} (hk : T.nodes[k]? = some (some kd)) (q : Int) :
    TreeAt (w.setCell ⟨ptr k, 4, none⟩ (.int .i64 q)) own ptr tb { T with nodes := T.nodes.set k (some { kd with parent := q }) } := by
  obtain ⟨av, kv, b1, b2, b3, b4⟩ := hT.node k kd hk
  have other : ∀ b x, own b = some x → b ≠ ptr k → (w.setCell ⟨ptr k, 4, none⟩ (.int .i64 q)).heap[b]? = w.heap[b]? := fun b x hb hn => heap_setCell_other _ hn
  refine hT.setNode (nd' := { kd with parent := q }) hk ⟨av, kv, by rw [heap_setCell_same b1]; rfl, b2, RowP.move b3 fun g hg => ⟨other g _ hg (fun e => by rw [e, b2] at hg; cases hg), hg⟩, RowP.move b4 fun g hg => ⟨other g _ hg (fun e => by rw [e, b2] at hg; cases hg), hg⟩⟩ ?_
  intro b x hb hx
  exact ⟨other b x hb (fun e => by rw [e, b2] at hb; cases hb; exact hx (by simp) rfl), rfl⟩
/-- an error's number is answered, the tree is another -/
def ErrAfter (own : Ow) (w : World) (tb : Nat) (er : Int) (T' : Tr) (e : Ending) (w' : World) : Prop := e = .returned (.int .i64 er) ∧ After own w tb T' w'
/-- the tree behind an insert -/
def Tr.link (T : Tr) (p at' k : Nat) (pd kd : Nd) : Tr :=
  { T with nodes := (T.nodes.set p (some { pd with kids := pd.kids.take at' ++ [(k : Int)] ++ pd.kids.drop at' })).set k (some { kd with parent := p }) }
/-- what slices.Insert must be known to do -/
def InsertsAt (at' : Nat) (l : List Int) : Prop := ∀ (W : World) (p : Nat → Prop) (v : Value) (b : Nat) (x : Int), RowP W p 3 1 v l.length (l.map (Value.int .i64)) → l.length ≤ 60000 → at' ≤ l.length → W.heap[b]? = some (.cells #[.int .i64 x] 3 (0, 0)) → (¬ p b) →
  Calls Try.prog 57 #[v, .int .i64 at', .slice (some ⟨b, 0, none⟩) 1 1] W (RIns p W (l.length + 1) ((l.take at' ++ [x] ++ l.drop at').map (Value.int .i64)))

end Go.Proofs.Ythgnbbbdcebjhaa
