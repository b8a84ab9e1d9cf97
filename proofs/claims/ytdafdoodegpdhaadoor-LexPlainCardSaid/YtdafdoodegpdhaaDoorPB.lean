/- what of Base D1 D2 D3 D4 D5 D6 D7 D8 D9 D11 OwnN Sit CopyN Turn this seat can say -/
import Derived.WalkKit
import Derived.WalkSpells
import Derived.WalkLawsBesides
import Derived.BigQuiet
import Derived.Deep.QuietTactic
import Derived.Lib.Hide
import Derived.Deep.RegionWith
import Derived.Deep.RegionHeld3
import Derived.Deep.LoopGhost
import Derived.Deep.DeepFit
import Derived.Deep.DeepMust
import Derived.Deep.DeepCutAuto
import Derived.Outline
import Derived.Test.YtdafdoodegpdhaaDoorRows
import Derived.Laws.Cover4
import Derived.Laws.IdiomStrings
import Derived.Shelf.Slices.Reverse
import Derived.Ground.Names2Prog
import Derived.Shelf.Slices.Delete
import Derived.Shelf.Spec.SlicesInsertGrow
import Derived.Shelf.Slices.Cells
import Derived.Laws.EntriesVeiled
import Derived.Deep.CutBlock
import Derived.BigRegion
import Derived.RegionTactic
import Derived.ChangeAlike
import Derived.Deep.Slices
import Derived.ChangeSame
import Derived.ArgAppend
namespace Go.Proofs.YtdafdoodegpdhaaDoor
open Go Go.RowKit Go.BigFrame

/-- new blocks, draws; all old blocks as they were -/
def Ext (w w' : World) : Prop := Below w.heap.size w w'
theorem Ext.refl (w : World) : Ext w w := Below.refl _ _
theorem Ext.trans {a b c : World} (h : Ext a b) (k : Ext b c) : Ext a c := Below.trans h (Below.mono k (Below.size h))
theorem Ext.alloc {a w : World} (h : Ext a w) (o : Obj) : Ext a (w.alloc o) := Below.alloc h (Below.size h) o
theorem Ext.drew {a w : World} (h : Ext a w) : Ext a w.drew := Below.drew h
theorem Ext.undrew {w w' : World} (h : Ext w.drew w') : Ext w w' := (Ext.drew (Ext.refl w)).trans h
theorem Ext.setCell {a w : World} (h : Ext a w) {p : Addr} (hp : a.heap.size ≤ p.block) (u : Value) : Ext a (w.setCell p u) := Below.setCell h hp u
theorem Ext.grown {a w w' : World} {row : Option Nat} (h : Ext a w) (hg : w.grownBy w' row) (hr : ∀ k, row = some k → a.heap.size ≤ k) : Ext a w' :=
  Below.grown h hg (Below.size h) hr
theorem Ext.size {w w' : World} (h : Ext w w') : w.heap.size ≤ w'.heap.size := Below.size h
theorem Ext.cell {w w' : World} (h : Ext w w') {b o : Nat} {v : Value} (hc : w.cell? ⟨b, o, none⟩ = some v) : w'.cell? ⟨b, o, none⟩ = some v :=
  (Below.cell h (p := ⟨b, o, none⟩) (World.block_lt_of_cell? w _ hc)).trans hc
theorem Ext.free {w w' : World} (h : Ext w w') {b o : Nat} (hlt : b < w.heap.size) (hc : w.frozen? ⟨b, o, none⟩ = false) : w'.frozen? ⟨b, o, none⟩ = false :=
  (Below.frozen h (p := ⟨b, o, none⟩) hlt).trans hc
theorem Ext.block {w w' : World} (h : Ext w w') {b : Nat} {x : Obj} (hb : w.heap[b]? = some x) : w'.heap[b]? = some x :=
  (Below.block h b (Array.getElem?_eq_some_iff.1 hb).1).trans hb
theorem cell_lt {w : World} {b o : Nat} {v : Value} (h : w.cell? ⟨b, o, none⟩ = some v) : b < w.heap.size := World.block_lt_of_cell? w _ h
/-- a world behind new blocks and draws -/
structure ExtOf (w : World) where
  val : World
  ext : Ext w val
instance (w : World) : Nonempty (ExtOf w) := ⟨⟨w, Ext.refl w⟩⟩
theorem inExt {P : Program} {f : FuncId} {args : Array Value} {w : World} {u : ExtOf w} {v : Value} (h : Calls P f args u.val fun e w' => e = .returned v ∧ Ext u.val w') :
    Calls P f args u.val fun e w' => e = .returned v ∧ ∃ u' : ExtOf w, w' = u'.val :=
  h.mono fun _ w' hh => ⟨hh.1, ⟨w', u.ext.trans hh.2⟩, rfl⟩
/-- a region that draws its order, whose operations read, and whose callees make new blocks at most: one walk in the order of the text -/
theorem wp_region_ext {P : Program} {id : Nat} {Q : Exit → Act → World → Prop} {a : Act} {w : World} {l : List Oper} (hm : P.follows .mixedOrders = true) (hB : Region.lexB .any l.toArray = true)
    (h : wpQuiet P l.toArray (fun w' => ∃ u : ExtOf w, w' = u.val) (fun a' => ∀ w', (∃ u : ExtOf w, w' = u.val) → Q .normal a' w') l a) : (Code.region id l.toArray true).wp P Q a w :=
  wp_region_quiet (C := fun w' => ∃ u : ExtOf w, w' = u.val) hm hB ⟨⟨w.drew, (Ext.refl w).drew⟩, rfl⟩ (by simpa using h)

/-- a bool is returned; only new blocks -/
def RBool (b : Bool) (w : World) (e : Ending) (w' : World) : Prop := e = .returned (.bool b) ∧ Ext w w'

/-- a fresh block of two cells, known and free -/
abbrev Two (w : World) (b : Nat) (x y : Value) : Prop := w.cell? ⟨b, 0, none⟩ = some x ∧ w.cell? ⟨b, 1, none⟩ = some y ∧ w.frozen? ⟨b, 0, none⟩ = false ∧ w.frozen? ⟨b, 1, none⟩ = false
theorem Two.ext {w w' : World} {b : Nat} {x y : Value} (h : Two w b x y) (k : Ext w w') : Two w' b x y :=
  ⟨k.cell h.1, k.cell h.2.1, k.free (cell_lt h.1) h.2.2.1, k.free (cell_lt h.1) h.2.2.2⟩
theorem Two.new (w : World) (x y : Value) (t : TypeId) : Two (w.alloc (.cells #[x, y] t)) w.heap.size x y :=
  ⟨by simp [go_sem], by simp [go_sem], by simp [go_sem], by simp [go_sem]⟩
end Go.Proofs.YtdafdoodegpdhaaDoor

namespace Go.Proofs.YtdafdoodegpdhaaDoor
open Go Go.RowKit Go.BigFrame
set_option linter.unusedVariables false

structure Nd where
  tag : Int
  attrs : List (ByteArray × ByteArray)
  text : ByteArray
  kids : List Int
  parent : Int
structure Tr where
  cap : Int
  deep : Int
  count : Int
  nodes : List (Option Nd)

/-- whose is a block? -/
abbrev Ow := Nat → Option (Nat × Nat)
/-- a slice of n elements that starts its block (of which p holds) with these cells; an empty one without room may lie anywhere -/
def RowP (w : World) (p : Nat → Prop) (e size : Nat) (v : Value) (n : Nat) (xs : List Value) : Prop :=
  xs.length = n * size ∧ ((n = 0 ∧ ∃ a, v = .slice a 0 0) ∨
    ∃ g cap cur, v = .slice (some ⟨g, 0, none⟩) n cap ∧ p g ∧ w.heap[g]? = some (.cells cur e (0, 0)) ∧ n ≤ cap ∧ cap ≤ maxLen ∧ cur.size = cap * size ∧ cur.toList.take (n * size) = xs)
/-- .. owned -/
def RowAt (w : World) (own : Ow) (e size : Nat) (o : Nat × Nat) (v : Value) (n : Nat) (xs : List Value) : Prop := RowP w (fun g => own g = some o) e size v n xs
/-- .. in new memory -/
def RowIn (w : World) (B : Nat) (e size : Nat) (v : Value) (n : Nat) (xs : List Value) : Prop := RowP w (fun g => B ≤ g) e size v n xs
/-- a slice that reads so, wherever it lies -/
def RowRd (w : World) (size : Nat) (v : Value) (n : Nat) (xs : List Value) : Prop :=
  xs.length = n * size ∧ ∃ ao cap, v = .slice ao n cap ∧ n ≤ cap ∧ (ao = none → n = 0 ∧ cap = 0) ∧ ∀ a, ao = some a → ∀ (j : Nat) x, xs[j]? = some x → w.cell? (a.add j) = some x
def attrCells : List (ByteArray × ByteArray) → List Value
  | [] => []
  | (a, b) :: r => .string a :: .string b :: attrCells r
/-- the numbers are small -/
structure Small (T : Tr) : Prop where
  cap0 : 0 ≤ T.cap
  cap1 : T.cap ≤ 2000
  deep0 : 0 ≤ T.deep
  deep1 : T.deep ≤ 40
  count0 : 0 ≤ T.count
  count1 : T.count ≤ T.cap
  len : T.nodes.length ≤ 2000

def Tr.get? (T : Tr) (id : Int) : Option Nd := if id < 0 then none else (T.nodes[id.toNat]?).join

/-- all blocks that are owned, and what is read of them, stays -/
def Keep (own : Ow) (w w' : World) : Prop := ∀ b, own b ≠ none → w'.heap[b]? = w.heap[b]?
theorem RowAt.keep {w w' : World} {own : Ow} {e size : Nat} {o : Nat × Nat} {v : Value} {n : Nat} {xs : List Value} (h : RowAt w own e size o v n xs) (k : Keep own w w') : RowAt w' own e size o v n xs := by
  refine ⟨h.1, ?_⟩
  rcases h.2 with h0 | ⟨g, cap, cur, h1, h2, h3, h4⟩
  · exact .inl h0
  · exact .inr ⟨g, cap, cur, h1, h2, by rw [k g (by simp [h2])]; exact h3, h4⟩
/-- owned blocks are there -/
def Owned (own : Ow) (w : World) : Prop := ∀ b, own b ≠ none → b < w.heap.size
theorem Ext.keep {w w' : World} {own : Ow} (h : Ext w w') (o : Owned own w) : Keep own w w' := fun b hb => Below.block h b (o b hb)

theorem cellOf {w : World} {b : Nat} {cs : Array Value} {t : TypeId} {fr : Nat × Nat} (h : w.heap[b]? = some (.cells cs t fr)) {i : Nat} {v : Value} (hi : cs[i]? = some v) : w.cell? ⟨b, i, none⟩ = some v := by
  simp [World.cell?, h, hi]
theorem freeOf {w : World} {b : Nat} {cs : Array Value} {t : TypeId} (h : w.heap[b]? = some (.cells cs t (0, 0))) (i : Nat) : w.frozen? ⟨b, i, none⟩ = false := by
  simp [World.frozen?, h]
theorem RowP.rd {w : World} {p : Nat → Prop} {e size : Nat} {v : Value} {n : Nat} {xs : List Value} (h : RowP w p e size v n xs) : RowRd w size v n xs := by
  refine ⟨h.1, ?_⟩
  rcases h.2 with ⟨rfl, a, rfl⟩ | ⟨g, cap, cur, rfl, h2, h3, h4, h5, h6, h7⟩
  · have hl := h.1
    obtain rfl : xs = [] := List.eq_nil_of_length_eq_zero (by simpa using hl)
    exact ⟨a, 0, rfl, Nat.le_refl _, fun _ => ⟨rfl, rfl⟩, fun a' _ j x hx => by simp at hx⟩
  · refine ⟨_, cap, rfl, h4, (fun h => by cases h), fun a ha j x hx => ?_⟩
    cases ha
    rw [Addr.add_lit, Nat.zero_add]
    refine cellOf h3 ?_
    rw [← h7, List.getElem?_take] at hx
    split at hx
    · simpa using hx
    · cases hx
theorem RowRd.len_of {w : World} {size : Nat} {v : Value} {n : Nat} {xs : List Value} (h : RowRd w size v n xs) : ∃ a cap, v = .slice a n cap ∧ n ≤ cap := by
  obtain ⟨_, a, cap, h1, h2, _⟩ := h
  exact ⟨a, cap, h1, h2⟩
theorem RowRd.ext {w w' : World} {size : Nat} {v : Value} {n : Nat} {xs : List Value} (h : RowRd w size v n xs) (k : Ext w w') : RowRd w' size v n xs := by
  obtain ⟨h1, ao, cap, h2, h3, h4, h5⟩ := h
  refine ⟨h1, ao, cap, h2, h3, h4, fun a ha j x hx => ?_⟩
  have hc := h5 a ha j x hx
  exact (Below.cell k (World.block_lt_of_cell? w _ hc)).trans hc
theorem RowP.imp {w : World} {p q : Nat → Prop} {e size : Nat} {v : Value} {n : Nat} {xs : List Value} (h : RowP w p e size v n xs) (k : ∀ g, v.ownBlock = some g → p g → q g) : RowP w q e size v n xs := by
  refine ⟨h.1, ?_⟩
  rcases h.2 with h0 | ⟨g, cap, cur, h1, h2, h3⟩
  · exact .inl h0
  · exact .inr ⟨g, cap, cur, h1, k g (by rw [h1]; rfl) h2, h3⟩
theorem RowP.ext {w w' : World} {p : Nat → Prop} {e size : Nat} {v : Value} {n : Nat} {xs : List Value} (h : RowP w p e size v n xs) (k : Ext w w') : RowP w' p e size v n xs := by
  refine ⟨h.1, ?_⟩
  rcases h.2 with h0 | ⟨g, cap, cur, h1, h2, h3, h4⟩
  · exact .inl h0
  · exact .inr ⟨g, cap, cur, h1, h2, k.block h3, h4⟩
theorem RowP.block {w : World} {B e size : Nat} {v : Value} {n : Nat} {xs : List Value} (h : RowP w (fun g => B ≤ g) e size v n xs) : ∃ rb : Option Nat, RowP w (fun g => rb = some g) e size v n xs ∧ ∀ k, rb = some k → B ≤ k ∧ k < w.heap.size := by
  rcases h.2 with h0 | ⟨g, cap, cur, h1, h2, h3, h4⟩
  · exact ⟨none, ⟨h.1, .inl h0⟩, fun k hk => by cases hk⟩
  · exact ⟨some g, ⟨h.1, .inr ⟨g, cap, cur, h1, rfl, h3, h4⟩⟩, fun k hk => by cases hk; exact ⟨h2, (Array.getElem?_eq_some_iff.1 h3).1⟩⟩
theorem RowIn.block {w : World} {B e size : Nat} {v : Value} {n : Nat} {xs : List Value} (h : RowIn w B e size v n xs) : ∃ rb : Option Nat, RowP w (fun g => rb = some g) e size v n xs ∧ ∀ k, rb = some k → B ≤ k ∧ k < w.heap.size := RowP.block h
theorem RowP.of_owns {w : World} {B e size : Nat} {v : Value} {n : Nat} {xs : List Value} (h : w.ownsRow B e size v n xs) : RowIn w B e size v n xs := by
  refine ⟨h.1, ?_⟩
  rcases h.2 with ⟨h1, h2⟩ | ⟨g, cap, cur, h1, h2, h3, h4⟩
  · exact .inl ⟨h2, none, h2 ▸ h1⟩
  · exact .inr ⟨g, cap, cur, h1, h2, h3, h4⟩
theorem RowAt.cell {w : World} {own : Ow} {e : Nat} {o : Nat × Nat} {v : Value} {n : Nat} {xs : List Value} (h : RowAt w own e 1 o v n xs) {i : Nat} {x : Value} (hx : xs[i]? = some x) :
    ∃ g cap, v = .slice (some ⟨g, 0, none⟩) n cap ∧ w.cell? ⟨g, i, none⟩ = some x := by
  rcases h.2 with ⟨h0, _⟩ | ⟨g, cap, cur, h1, h2, h3, h4, h5, h6, h7⟩
  · have hl := h.1
    rw [h0] at hl
    obtain rfl : xs = [] := List.eq_nil_of_length_eq_zero (by simpa using hl)
    simp at hx
  · refine ⟨g, cap, h1, cellOf h3 ?_⟩
    rw [← h7, List.getElem?_take] at hx
    split at hx
    · simpa using hx
    · cases hx
theorem RowAt.len {w : World} {own : Ow} {e size : Nat} {o : Nat × Nat} {v : Value} {n : Nat} {xs : List Value} (h : RowAt w own e size o v n xs) : ∃ a cap, v = .slice a n cap ∧ n ≤ cap ∧ cap ≤ maxLen := by
  rcases h.2 with ⟨rfl, a, rfl⟩ | ⟨g, cap, cur, h1, h2, h3, h4, h5, h6⟩
  · exact ⟨a, 0, rfl, Nat.le_refl _, Nat.zero_le _⟩
  · exact ⟨_, cap, h1, h4, h5⟩

/-- a value is returned, and nothing has turned -/
def RSame (v : Value) (w : World) (e : Ending) (w' : World) : Prop := e = .returned v ∧ w = w'
/-- a value is returned; only new blocks -/
def RVal (v : Value) (w : World) (e : Ending) (w' : World) : Prop := e = .returned v ∧ Ext w w'
theorem RSame.val {P : Program} {f : FuncId} {args : Array Value} {v : Value} {w : World} (h : Calls P f args w (RSame v w)) : Calls P f args w (RVal v w) :=
  h.mono fun e w' hh => ⟨hh.1, hh.2 ▸ Ext.refl w⟩

end Go.Proofs.YtdafdoodegpdhaaDoor

namespace Go.Proofs.YtdafdoodegpdhaaDoor
open Go Go.RowKit Go.BigFrame
set_option linter.unusedVariables false

/-- two values are returned; only new blocks -/
def RTwo (v v' : Value) (w : World) (e : Ending) (w' : World) : Prop := e = .returned (.tuple #[v, v']) ∧ Ext w w'
end Go.Proofs.YtdafdoodegpdhaaDoor

namespace Go.Proofs.YtdafdoodegpdhaaDoor
open Go Go.RowKit Go.BigFrame
set_option linter.unusedVariables false

theorem infoA : (Tryd.prog.info? 55).map (fun i => (i.zero, i.size, i.bytes)) = some (some (.agg #[.string ByteArray.empty, .string ByteArray.empty]), 2, 32) := by kernel_rfl
end Go.Proofs.YtdafdoodegpdhaaDoor

namespace Go.Proofs.YtdafdoodegpdhaaDoor
open Go Go.RowKit Go.BigFrame
set_option linter.unusedVariables false

/-- what holds of every tree; d: how deep a node lies -/
structure WF (T : Tr) (d : Nat → Nat) : Prop where
  small : Small T
  root : ∃ nd, T.nodes[0]? = some (some nd) ∧ nd.parent = -1 ∧ nd.tag = 1
  deep : ∀ (i : Nat) (nd : Nd), T.nodes[i]? = some (some nd) → (d i : Int) ≤ T.deep
  up : ∀ (i : Nat) (nd : Nd), T.nodes[i]? = some (some nd) → nd.parent = -1 ∧ d i = 0 ∨ ∃ (p : Nat) (pd : Nd), nd.parent = (p : Int) ∧ T.nodes[p]? = some (some pd) ∧ d i = d p + 1 ∧ (i : Int) ∈ pd.kids
  kids : ∀ (i : Nat) (nd : Nd), T.nodes[i]? = some (some nd) → nd.kids.Nodup ∧ ∀ k ∈ nd.kids, ∃ (j : Nat) (kd : Nd), k = (j : Int) ∧ T.nodes[j]? = some (some kd) ∧ kd.parent = (i : Int)
  text : ∀ (i : Nat) (nd : Nd), T.nodes[i]? = some (some nd) → 0 ≤ nd.tag ∧ nd.tag ≤ 16 ∧ (nd.tag = 0 → nd.kids = [])
  count : T.count = ((T.nodes.countP Option.isSome : Nat) : Int)
theorem Tr.get_nat (T : Tr) (i : Nat) : T.get? (i : Int) = (T.nodes[i]?).join := by
  unfold Tr.get?; rw [if_neg (by omega), Int.toNat_natCast]
theorem Tr.get_of {T : Tr} {i : Nat} {nd : Nd} (h : T.nodes[i]? = some (some nd)) : T.get? (i : Int) = some nd := by
  rw [T.get_nat, h]; rfl
/-- is outer met on the way up from i? -/
def isIn (T : Tr) (outer : Int) : Nat → Int → Bool
  | 0, _ => false
  | f + 1, id => if id < 0 then false else if id = outer then true else match T.get? id with
    | some nd => isIn T outer f nd.parent
    | none => false
theorem isIn_step {T : Tr} (outer : Int) (f : Nat) {i : Nat} {nd : Nd} (h : T.nodes[i]? = some (some nd)) : isIn T outer (f + 1) i = if (i : Int) = outer then true else isIn T outer f nd.parent := by
  show (if (i : Int) < 0 then false else if (i : Int) = outer then true else match T.get? i with | some nd => isIn T outer f nd.parent | none => false) = _
  rw [if_neg (by omega), Tr.get_of h]
theorem isIn_neg (T : Tr) (outer : Int) (f : Nat) : isIn T outer f (-1) = false := by cases f <;> simp [isIn]
theorem isIn_more {T : Tr} {d : Nat → Nat} (hw : WF T d) (outer : Int) : ∀ (f g i : Nat) (nd : Nd), T.nodes[i]? = some (some nd) → d i < f → d i < g → isIn T outer f i = isIn T outer g i := by
  intro f
  induction f with
  | zero => intro g i nd h h1; omega
  | succ f ih =>
    intro g i nd h h1 h2
    cases g with
    | zero => omega
    | succ g =>
      rw [isIn_step outer f h, isIn_step outer g h]
      split
      · rfl
      · rcases hw.up i nd h with ⟨h3, h4⟩ | ⟨p, pd, h3, h4, h5, h6⟩
        · rw [h3, isIn_neg, isIn_neg]
        · rw [h3]; exact ih g p pd h4 (by omega) (by omega)
def Tr.within (T : Tr) (id outer : Int) : Bool := isIn T outer 50 id

end Go.Proofs.YtdafdoodegpdhaaDoor

namespace Go.Proofs.YtdafdoodegpdhaaDoor
open Go Go.RowKit Go.BigFrame
set_option linter.unusedVariables false

/-- how high a node stands, with fuel -/
def Tr.hgt (T : Tr) : Nat → Int → Int
  | 0, _ => 0
  | f + 1, id => match T.get? id with
    | none => -1
    | some nd => nd.kids.foldl (fun h k => max h (T.hgt f k + 1)) 0
theorem WF.kid {T : Tr} {d : Nat → Nat} (hw : WF T d) {i : Nat} {nd : Nd} (h : T.nodes[i]? = some (some nd)) {n : Nat} {k : Int} (hk : nd.kids[n]? = some k) :
    ∃ (j : Nat) (kd : Nd), k = (j : Int) ∧ T.nodes[j]? = some (some kd) ∧ kd.parent = (i : Int) ∧ d j = d i + 1 := by
  obtain ⟨j, kd, h1, h2, h3⟩ := (hw.kids i nd h).2 k (List.mem_of_getElem? hk)
  refine ⟨j, kd, h1, h2, h3, ?_⟩
  rcases hw.up j kd h2 with ⟨h4, h5⟩ | ⟨p, pd, h4, h5, h6, h7⟩
  · omega
  · obtain rfl : p = i := by omega
    exact h6
/-- the first place of x; -1: there is none -/
def posOf (l : List Int) (x : Int) : Int := if x ∈ l then (l.idxOf x : Int) else -1
end Go.Proofs.YtdafdoodegpdhaaDoor

namespace Go.Proofs.YtdafdoodegpdhaaDoor
open Go Go.RowKit Go.BigFrame
set_option linter.unusedVariables false

def runeList (s : ByteArray) : Nat → Nat → List Int
  | 0, _ => []
  | b + 1, i => if i < s.size then Int.ofNat (Utf8.decode s i).1 :: runeList s b (i + (Utf8.decode s i).2) else []
/-- a text, written anew in UTF-8 -/
def anewB (s : ByteArray) : ByteArray := runesBytes (runeList s s.size 0)
theorem runesFrom_eq (s : ByteArray) : ∀ (b i : Nat) (acc : Array Value), Conv.runesFrom s b i acc = acc ++ ((runeList s b i).map (Value.int .i32)).toArray := by
  intro b
  induction b with
  | zero => intro i acc; simp [Conv.runesFrom, runeList]
  | succ b ih =>
    intro i acc
    unfold Conv.runesFrom runeList
    split
    · show Conv.runesFrom s b (i + (Utf8.decode s i).2) (acc.push (.int .i32 (Int.ofNat (Utf8.decode s i).1))) = _
      rw [ih]; simp
    · simp
theorem runeList_len (s : ByteArray) : ∀ (b i : Nat), (runeList s b i).length ≤ b := by
  intro b
  induction b with
  | zero => intro i; simp [runeList]
  | succ b ih =>
    intro i
    unfold runeList
    split
    · have := ih (i + (Utf8.decode s i).2); simp; omega
    · simp
theorem anewB_size (s : ByteArray) : (anewB s).size ≤ 4 * s.size := by
  have h1 := runesBytes_size_le (runeList s s.size 0)
  have h2 := runeList_len s s.size 0
  unfold anewB; omega

end Go.Proofs.YtdafdoodegpdhaaDoor

namespace Go.Proofs.YtdafdoodegpdhaaDoor
open Go Go.RowKit Go.BigFrame
set_option linter.unusedVariables false

theorem RowP.owns {w : World} {p : Nat → Prop} {e size : Nat} {v : Value} {n : Nat} {xs : List Value} (h : RowP w p e size v n xs) :
    (n = 0 ∧ xs = [] ∧ ∃ a, v = .slice (some a) 0 0) ∨ (w.ownsRow 0 e size v n xs ∧ ∀ k, v.ownBlock = some k → p k) := by
  rcases h.2 with ⟨h0, a, h1⟩ | ⟨g, cap, cur, h1, h2, h3, h4⟩
  · have hx : xs = [] := List.eq_nil_of_length_eq_zero (by rw [h.1, h0]; simp)
    cases a with
    | some a => exact .inl ⟨h0, hx, a, h1⟩
    | none => exact .inr ⟨⟨h.1, .inl ⟨h1, h0⟩⟩, by rw [h1]; intro k hk; cases hk⟩
  · exact .inr ⟨⟨h.1, .inr ⟨g, cap, cur, h1, Nat.zero_le _, h3, h4⟩⟩, by rw [h1]; intro k hk; cases hk; exact h2⟩
theorem RowP.of_owns0 {w' : World} {p : Nat → Prop} {B e size : Nat} {v : Value} {n : Nat} {xs : List Value} (h : w'.ownsRow B e size v n xs) (hp : ∀ k, v.ownBlock = some k → p k) : RowP w' p e size v n xs := by
  refine ⟨h.1, ?_⟩
  rcases h.2 with ⟨h1, h2⟩ | ⟨g, cap, cur, h1, h2, h3, h4⟩
  · exact .inl ⟨h2, none, h2 ▸ h1⟩
  · exact .inr ⟨g, cap, cur, h1, hp g (by rw [h1]; rfl), h3, h4⟩
/-- 'append(xs, ys..)' onto a row: it may grow; what may have been written is the row's own block -/
theorem run_append_row {P : Program} (w : World) (t ty e : TypeId) (i : TypeInfo) (z : Value) (size bytes : Nat) (ht : P.underlying t = some (.slice e)) (hi : P.info? e = some i) (hz : i.zero = some z)
    (hsize : i.size = size) (hby : i.bytes = bytes) (hzs : z.cells.size = size) (hsz : 0 < size) {p : Nat → Prop} {v : Value} {n : Nat} {xs : List Value} (hr : RowP w p e size v n xs)
    (a : Addr) (m c : Nat) (news : List Value) (hl : news.length = m * size) (hnews : ∀ j u, news[j]? = some u → w.cell? (a.add j) = some u) (h1 : ∀ u ∈ news, u.oneCell' = true)
    (hm : 0 < m) (h63 : n + m ≤ maxLen) (hbytes : (n + m) * bytes ≤ 140737488355328) :
    ∃ v' w' row, (Builtin.append_ #[t, t] ty #[v, .slice (some a) m c]).run P w = .ok v' w' ∧ RowP w' (fun g => p g ∨ w.heap.size ≤ g) e size v' (n + m) (xs ++ news) ∧ w.grownBy w' row ∧ ∀ k, row = some k → p k := by
  rcases hr.2 with ⟨rfl, ao, rfl⟩ | ⟨g, cap, cur, rfl, hpg, hg, hnc, hcm, hcs, htake⟩
  · obtain rfl : xs = [] := List.eq_nil_of_length_eq_zero (by rw [hr.1]; simp)
    cases ao with
    | some ad =>
      obtain ⟨v', w', h2, h3, h4⟩ := run_append_arg_grows (P := P) w t ty e i z size bytes ht hi hz hsize hby hzs hsz ad 0 0 [] (by simp) (by simp) a m c news hl hnews (by omega) h63 hbytes
      exact ⟨v', w', none, h2, (RowP.of_owns h3).imp fun g _ hg => .inr hg, h4, fun k hk => by cases hk⟩
    | none =>
      obtain ⟨v', w', h2, h3, h4, h5⟩ := run_append_own (P := P) w w.heap.size t ty e i z size bytes ht hi hz hsize hby hzs hsz (.slice none 0 0) 0 [] (World.ownsRow_nil w _ e size) a m c news hl hnews h1 h63 hbytes (Nat.le_refl _)
      exact ⟨v', w', none, h2, (RowP.of_owns h3).imp fun g _ hg => .inr hg, h4, fun k hk => by cases hk⟩
  · have hown : w.ownsRow 0 e size (.slice (some ⟨g, 0, none⟩) n cap) n xs := ⟨hr.1, .inr ⟨g, cap, cur, rfl, Nat.zero_le _, hg, hnc, hcm, hcs, htake⟩⟩
    by_cases hroom : n + m ≤ cap
    · obtain ⟨v', w', h2, h3, h4, h5⟩ := run_append_own (P := P) w 0 t ty e i z size bytes ht hi hz hsize hby hzs hsz _ n xs hown a m c news hl hnews h1 h63 hbytes (Nat.zero_le _)
      have hfit : n * i.size + news.length ≤ cur.size := by rw [hl, hcs, hsize, ← Nat.add_mul]; exact Nat.mul_le_mul_right _ hroom
      have hr2 := run_append_room (P := P) w t ty e i ht hi g n cap cur hg a m c news (by rw [hsize]; exact hl) hnews h1 hroom hfit
      rw [h2] at hr2
      have hv : v' = .slice (some ⟨g, 0, none⟩) (n + m) cap := by injection hr2
      refine ⟨v', w', some g, h2, RowP.of_owns0 h3 fun k hk => ?_, h4, fun k hk => by cases hk; exact hpg⟩
      rw [hv] at hk
      cases hk
      exact .inl hpg
    · have holds : ∀ j u, xs[j]? = some u → w.cell? ((⟨g, 0, none⟩ : Addr).add j) = some u := hown.cells (g := g) rfl
      obtain ⟨v', w', h2, h3, h4⟩ := run_append_arg_grows (P := P) w t ty e i z size bytes ht hi hz hsize hby hzs hsz ⟨g, 0, none⟩ n cap xs hr.1 holds a m c news hl hnews (by omega) h63 hbytes
      exact ⟨v', w', none, h2, (RowP.of_owns h3).imp fun g _ hg => .inr hg, h4, fun k hk => by cases hk⟩
/-- the first free number; -1: there is none -/
def freeOf' (l : List (Option Nd)) : Int := if l.any Option.isNone then (l.findIdx Option.isNone : Int) else -1
end Go.Proofs.YtdafdoodegpdhaaDoor

namespace Go.Proofs.YtdafdoodegpdhaaDoor
open Go Go.RowKit Go.BigFrame
set_option linter.unusedVariables false

/-- what a call on a tree may turn: the tree's own blocks; who owns an old block stays -/
structure Step (own : Ow) (w : World) (own' : Ow) (w' : World) : Prop where
  os : w'.os = w.os
  tape : w'.tape = w.tape
  output : w'.output = w.output
  size : w.heap.size ≤ w'.heap.size
  rest : ∀ b, b < w.heap.size → own b = none → w'.heap[b]? = w.heap[b]?
  same : ∀ b, b < w.heap.size → own' b = own b
  owned : Owned own' w'
theorem Step.refl {own : Ow} {w : World} (h : Owned own w) : Step own w own w := ⟨rfl, rfl, rfl, Nat.le_refl _, fun _ _ _ => rfl, fun _ _ => rfl, h⟩
theorem Step.trans {o1 o2 o3 : Ow} {a b c : World} (h : Step o1 a o2 b) (k : Step o2 b o3 c) : Step o1 a o3 c :=
  ⟨k.os.trans h.os, k.tape.trans h.tape, k.output.trans h.output, Nat.le_trans h.size k.size,
   fun x hx hn => (k.rest x (Nat.lt_of_lt_of_le hx h.size) ((h.same x hx).trans hn)).trans (h.rest x hx hn),
   fun x hx => (k.same x (Nat.lt_of_lt_of_le hx h.size)).trans (h.same x hx), k.owned⟩
theorem Step.ext {own own' : Ow} {a b c : World} (h : Step own a own' b) (k : Ext b c) : Step own a own' c :=
  ⟨(Below.os k).trans h.os, (Below.tape k).trans h.tape, (Below.output k).trans h.output, Nat.le_trans h.size (Ext.size k),
   fun x hx hn => (Below.block k x (Nat.lt_of_lt_of_le hx h.size)).trans (h.rest x hx hn), h.same, fun x hx => Nat.lt_of_lt_of_le (h.owned x hx) (Ext.size k)⟩
theorem Step.setCell {own own' : Ow} {a b : World} (h : Step own a own' b) {p : Addr} (hp : p.block < a.heap.size → own p.block ≠ none) (u : Value) : Step own a own' (b.setCell p u) :=
  ⟨h.os, h.tape, h.output, by have := h.size; simpa [World.setCell] using this,
   fun x hx hn => by rw [Below.heap_setCell _ _ _ _ (fun e => hp (e ▸ hx) (e ▸ hn))]; exact h.rest x hx hn, h.same,
   fun x hx => by have := h.owned x hx; simpa [World.setCell] using this⟩
/-- new blocks get their owners -/
theorem Step.own {own own' own'' : Ow} {a b : World} (h : Step own a own' b) (h1 : ∀ x, x < a.heap.size → own'' x = own' x) (h2 : Owned own'' b) : Step own a own'' b :=
  ⟨h.os, h.tape, h.output, h.size, h.rest, fun x hx => (h1 x hx).trans (h.same x hx), h2⟩

theorem heap_setCell_same {w : World} {b i : Nat} {cs : Array Value} {t : TypeId} {fr : Nat × Nat} (h : w.heap[b]? = some (.cells cs t fr)) (u : Value) :
    (w.setCell ⟨b, i, none⟩ u).heap[b]? = some (.cells (cs.setIfInBounds i u) t fr) := by
  simp [World.setCell, Array.getElem?_modify, h]
theorem heap_setCell_other {w : World} {p : Addr} {b : Nat} (u : Value) (h : b ≠ p.block) : (w.setCell p u).heap[b]? = w.heap[b]? := Below.heap_setCell _ _ _ _ h

theorem RowP.move {w w' : World} {p p' : Nat → Prop} {e size : Nat} {v : Value} {n : Nat} {xs : List Value} (h : RowP w p e size v n xs) (k : ∀ g, p g → w'.heap[g]? = w.heap[g]? ∧ p' g) : RowP w' p' e size v n xs := by
  refine ⟨h.1, ?_⟩
  rcases h.2 with h0 | ⟨g, cap, cur, h1, h2, h3, h4⟩
  · exact .inl h0
  · exact .inr ⟨g, cap, cur, h1, (k g h2).2, by rw [(k g h2).1]; exact h3, h4⟩
end Go.Proofs.YtdafdoodegpdhaaDoor

namespace Go.Proofs.YtdafdoodegpdhaaDoor
open Go Go.RowKit Go.BigFrame
set_option linter.unusedVariables false
set_option linter.unusedSimpArgs false

theorem Step.drew {own own' : Ow} {a b : World} (h : Step own a own' b) : Step own a own' b.drew := h.ext ((Ext.refl b).drew)
theorem Ext.step {own : Ow} {w w' : World} (h : Ext w w') (hO : Owned own w) : Step own w own w' :=
  ⟨Below.os h, Below.tape h, Below.output h, Ext.size h, fun b hb _ => Below.block h b hb, fun _ _ => rfl, fun b hb => Nat.lt_of_lt_of_le (hO b hb) (Ext.size h)⟩

end Go.Proofs.YtdafdoodegpdhaaDoor

namespace Go.Proofs.YtdafdoodegpdhaaDoor
open Go Go.RowKit Go.BigFrame
set_option linter.unusedVariables false
set_option linter.unusedSimpArgs false

end Go.Proofs.YtdafdoodegpdhaaDoor

namespace Go.Proofs.YtdafdoodegpdhaaDoor
open Go Go.RowKit Go.BigFrame
set_option linter.unusedVariables false
set_option linter.unusedSimpArgs false

theorem freeOf_cases (l : List (Option Nd)) : (∃ i : Nat, freeOf' l = (i : Int) ∧ l[i]? = some none) ∨ (freeOf' l = -1 ∧ ∀ x ∈ l, x ≠ none) := by
  by_cases h : l.any Option.isNone = true
  · left
    have hlt : l.findIdx Option.isNone < l.length := List.findIdx_lt_length.2 (by
      rw [List.any_eq_true] at h; exact h)
    refine ⟨l.findIdx Option.isNone, by unfold freeOf'; rw [if_pos h], ?_⟩
    have := List.findIdx_getElem (w := hlt)
    rw [List.getElem?_eq_getElem hlt]
    cases hx : l[l.findIdx Option.isNone] with
    | none => rfl
    | some y => rw [hx] at this; cases this
  · right
    refine ⟨by unfold freeOf'; rw [if_neg h], fun x hx hn => h (List.any_eq_true.2 ⟨x, hx, by rw [hn]; rfl⟩)⟩
def Tr.newId (T : Tr) : Int := if 0 ≤ freeOf' T.nodes then freeOf' T.nodes else T.nodes.length
def Tr.put (T : Tr) (nd : Nd) : Tr := { T with count := T.count + 1, nodes := if 0 ≤ freeOf' T.nodes then T.nodes.set (freeOf' T.nodes).toNat (some nd) else T.nodes ++ [some nd] }
theorem count_all {l : List (Option Nd)} (h : ∀ x ∈ l, x ≠ none) : l.countP Option.isSome = l.length := by
  rw [List.countP_eq_length]
  intro x hx
  cases x with
  | none => exact absurd rfl (h none hx)
  | some y => rfl
theorem WF.len_full {T : Tr} {d : Nat → Nat} (hw : WF T d) (h : ∀ x ∈ T.nodes, x ≠ none) : (T.nodes.length : Int) = T.count := by
  rw [hw.count, count_all h]
theorem attrCells_one (l : List (ByteArray × ByteArray)) : ∀ u ∈ attrCells l, u.oneCell' = true := by
  induction l with
  | nil => intro u hu; simp [attrCells] at hu
  | cons p r ih =>
    intro u hu
    obtain ⟨a, b⟩ := p
    simp only [attrCells, List.mem_cons] at hu
    rcases hu with rfl | rfl | hu
    · rfl
    · rfl
    · exact ih u hu
theorem attrCells_len (l : List (ByteArray × ByteArray)) : (attrCells l).length = l.length * 2 := by
  induction l with
  | nil => rfl
  | cons p r ih => obtain ⟨a, b⟩ := p; simp only [attrCells, List.length_cons, ih]; omega

/-- where the new node is, the others as they were -/
theorem Tr.put_at (T : Tr) (nd : Nd) : ∃ n : Nat, T.newId = (n : Int) ∧ (T.put nd).nodes[n]? = some (some nd) ∧ (∀ (x : Nd), T.nodes[n]? ≠ some (some x)) ∧
    (∀ (j : Nat) (x : Nd), T.nodes[j]? = some (some x) → (T.put nd).nodes[j]? = some (some x)) ∧ (∀ (j : Nat) (x : Nd), j ≠ n → (T.put nd).nodes[j]? = some (some x) → T.nodes[j]? = some (some x)) ∧
    (T.put nd).nodes.countP Option.isSome = T.nodes.countP Option.isSome + 1 ∧ (T.put nd).nodes.length ≤ T.nodes.length + 1 ∧ ((∃ x ∈ T.nodes, x = none) → (T.put nd).nodes.length = T.nodes.length) := by
  unfold Tr.newId Tr.put
  rcases freeOf_cases T.nodes with ⟨i, h1, h2⟩ | ⟨h1, h2⟩
  · rw [h1, if_pos (by omega), if_pos (by omega), Int.toNat_natCast]
    have hlt := (List.getElem?_eq_some_iff.1 h2).1
    refine ⟨i, rfl, by simp [hlt], fun x h => (by rw [h2] at h; cases h), fun j x hj => ?_, fun j x hji hj => ?_, ?_, by simp, fun _ => by simp⟩
    · show (T.nodes.set i (some nd))[j]? = _
      rw [List.getElem?_set]
      split
      · rename_i e; subst e; rw [h2] at hj; cases hj
      · exact hj
    · have hj' : (T.nodes.set i (some nd))[j]? = some (some x) := hj
      rw [List.getElem?_set, if_neg (Ne.symm hji)] at hj'
      exact hj'
    · show (T.nodes.set i (some nd)).countP Option.isSome = _
      rw [List.countP_set hlt]
      have : T.nodes[i] = none := by
        have := List.getElem?_eq_getElem hlt
        rw [h2] at this
        exact (Option.some.inj this).symm
      simp [this]
  · rw [h1, if_neg (by omega), if_neg (by omega)]
    refine ⟨T.nodes.length, rfl, by simp, fun x h => ?_, fun j x hj => ?_, fun j x hji hj => ?_, by simp, by simp, fun ⟨x, hx, he⟩ => absurd he (h2 x hx)⟩
    · rw [List.getElem?_eq_none (Nat.le_refl _)] at h; cases h
    · show (T.nodes ++ [some nd])[j]? = _
      rw [List.getElem?_append_left (List.getElem?_eq_some_iff.1 hj).1]; exact hj
    · have hj' : (T.nodes ++ [some nd])[j]? = some (some x) := hj
      rw [List.getElem?_append] at hj'
      split at hj'
      · exact hj'
      · rename_i hge
        rw [List.getElem?_eq_none (by simp; omega)] at hj'
        cases hj'
theorem WF.put {T : Tr} {d : Nat → Nat} (hw : WF T d) (nd : Nd) (hk : nd.kids = []) (hp : nd.parent = -1) (ht0 : 0 ≤ nd.tag) (ht1 : nd.tag ≤ 16) (hroom : T.count + 1 ≤ T.cap) (hroot : T.newId ≠ 0) :
    WF (T.put nd) (fun j => if (j : Int) = T.newId then 0 else d j) := by
  obtain ⟨n, h1, h2, h3, h4, h5, h6, h7, h8⟩ := T.put_at nd
  have hs := hw.small
  have hcap : (T.put nd).cap = T.cap := rfl
  have hdeep : (T.put nd).deep = T.deep := rfl
  have hcount : (T.put nd).count = T.count + 1 := rfl
  refine ⟨⟨hs.cap0, hs.cap1, hs.deep0, hs.deep1, ?_, hroom, ?_⟩, ?_, ?_, ?_, ?_, ?_, ?_⟩
  · have := hs.count0; show 0 ≤ T.count + 1; omega
  · by_cases hx : ∃ x ∈ T.nodes, x = none
    · rw [h8 hx]; exact hs.len
    · have hl := hw.len_full (fun x hx' he => hx ⟨x, hx', he⟩)
      have := hs.cap1
      omega
  · obtain ⟨r, r1, r2, r3⟩ := hw.root
    exact ⟨r, h4 0 r r1, r2, r3⟩
  · intro i x hi
    by_cases hin : i = n
    · rw [if_pos (by rw [h1, hin])]; exact hs.deep0
    · rw [if_neg (by rw [h1]; omega)]; exact hw.deep i x (h5 i x hin hi)
  · intro i x hi
    by_cases hin : i = n
    · left
      rw [hin, h2] at hi
      cases hi
      exact ⟨hp, if_pos (by rw [h1, hin])⟩
    · rcases hw.up i x (h5 i x hin hi) with ⟨q1, q2⟩ | ⟨p, pd, q1, q2, q3, q4⟩
      · left
        exact ⟨q1, by rw [if_neg (by rw [h1]; omega)]; exact q2⟩
      · right
        have hpn : p ≠ n := fun e => h3 pd (e ▸ q2)
        exact ⟨p, pd, q1, h4 p pd q2, by rw [if_neg (by rw [h1]; omega), if_neg (by rw [h1]; omega)]; exact q3, q4⟩
  · intro i x hi
    by_cases hin : i = n
    · rw [hin, h2] at hi
      cases hi
      rw [hk]
      exact ⟨List.nodup_nil, fun k hk => by simp at hk⟩
    · obtain ⟨q1, q2⟩ := hw.kids i x (h5 i x hin hi)
      exact ⟨q1, fun k hk => by obtain ⟨j, kd, r1, r2, r3⟩ := q2 k hk; exact ⟨j, kd, r1, h4 j kd r2, r3⟩⟩
  · intro i x hi
    by_cases hin : i = n
    · rw [hin, h2] at hi
      cases hi
      exact ⟨ht0, ht1, fun _ => hk⟩
    · exact hw.text i x (h5 i x hin hi)
  · rw [hcount, h6, hw.count]; push_cast; rfl
end Go.Proofs.YtdafdoodegpdhaaDoor

namespace Go.Proofs.YtdafdoodegpdhaaDoor
open Go Go.RowKit Go.BigFrame
set_option linter.unusedVariables false
set_option linter.unusedSimpArgs false

/-- within, once for all fuel -/
theorem WF.d50 {T : Tr} {d : Nat → Nat} (hw : WF T d) {i : Nat} {nd : Nd} (h : T.nodes[i]? = some (some nd)) : d i < 50 := by
  have := hw.deep i nd h; have := hw.small.deep1; omega
theorem WF.within_step {T : Tr} {d : Nat → Nat} (hw : WF T d) {i : Nat} {nd : Nd} (h : T.nodes[i]? = some (some nd)) (o : Int) :
    T.within i o = if (i : Int) = o then true else T.within nd.parent o := by
  show isIn T o 50 i = _
  rw [isIn_step o 49 h]
  split
  · rfl
  · rcases hw.up i nd h with ⟨h3, h4⟩ | ⟨p, pd, h3, h4, h5, h6⟩
    · rw [h3, isIn_neg]; exact (isIn_neg T o 50).symm
    · rw [h3]; have := hw.d50 h; exact isIn_more hw o 49 50 p pd h4 (by omega) (by omega)
theorem within_neg (T : Tr) (o : Int) : T.within (-1) o = false := isIn_neg T o 50
/-- induction on the depth of a node -/
theorem WF.induct {T : Tr} {d : Nat → Nat} (hw : WF T d) (P : Nat → Nd → Prop)
    (h0 : ∀ (i : Nat) (nd : Nd), T.nodes[i]? = some (some nd) → nd.parent = -1 → d i = 0 → P i nd)
    (h1 : ∀ (i : Nat) (nd : Nd) (p : Nat) (pd : Nd), T.nodes[i]? = some (some nd) → nd.parent = (p : Int) → T.nodes[p]? = some (some pd) → d i = d p + 1 → P p pd → P i nd) :
    ∀ (i : Nat) (nd : Nd), T.nodes[i]? = some (some nd) → P i nd := by
  have key : ∀ (n i : Nat) (nd : Nd), d i = n → T.nodes[i]? = some (some nd) → P i nd := by
    intro n
    induction n with
    | zero =>
      intro i nd hd h
      rcases hw.up i nd h with ⟨h3, h4⟩ | ⟨p, pd, h3, h4, h5, h6⟩
      · exact h0 i nd h h3 h4
      · omega
    | succ n ih =>
      intro i nd hd h
      rcases hw.up i nd h with ⟨h3, h4⟩ | ⟨p, pd, h3, h4, h5, h6⟩
      · omega
      · exact h1 i nd p pd h h3 h4 h5 (ih p pd (by omega) h4)
  exact fun i nd h => key (d i) i nd rfl h
theorem WF.within_self {T : Tr} {d : Nat → Nat} (hw : WF T d) {i : Nat} {nd : Nd} (h : T.nodes[i]? = some (some nd)) : T.within i i = true := by
  rw [hw.within_step h, if_pos rfl]
theorem WF.within_depth {T : Tr} {d : Nat → Nat} (hw : WF T d) {o : Nat} : ∀ (i : Nat) (nd : Nd), T.nodes[i]? = some (some nd) → T.within i o = true → d o ≤ d i ∧ (d o = d i → i = o) := by
  refine hw.induct _ (fun i nd h hp hd hi => ?_) (fun i nd p pd h hp hpd hd ih hi => ?_)
  · rw [hw.within_step h, hp, within_neg] at hi
    split at hi
    · rename_i e; have : i = o := by omega
      subst this; exact ⟨Nat.le_refl _, fun _ => rfl⟩
    · cases hi
  · rw [hw.within_step h, hp] at hi
    split at hi
    · rename_i e; have : i = o := by omega
      subst this; exact ⟨Nat.le_refl _, fun _ => rfl⟩
    · have := (ih hi).1; omega
/-- a root is within nothing else -/
theorem WF.within_root {T : Tr} {d : Nat → Nat} (hw : WF T d) {i : Nat} {nd : Nd} (h : T.nodes[i]? = some (some nd)) (hp : nd.parent = -1) (o : Int) : T.within i o = decide ((i : Int) = o) := by
  rw [hw.within_step h, hp, within_neg]
  by_cases e : (i : Int) = o
  · rw [if_pos e, decide_eq_true e]
  · rw [if_neg e, decide_eq_false e]
theorem fold_ge (F : Int → Int) : ∀ (l : List Int) (z : Int), z ≤ l.foldl (fun h k => max h (F k)) z := by
  intro l
  induction l with
  | nil => intro z; exact Int.le_refl _
  | cons k r ih => intro z; exact Int.le_trans (show z ≤ max z (F k) by omega) (ih _)
theorem fold_mem (F : Int → Int) : ∀ (l : List Int) (z : Int) (x : Int), x ∈ l → F x ≤ l.foldl (fun h k => max h (F k)) z := by
  intro l
  induction l with
  | nil => intro z x hx; cases hx
  | cons k r ih =>
    intro z x hx
    rcases List.mem_cons.1 hx with rfl | hx
    · exact Int.le_trans (show F x ≤ max z (F x) by omega) (fold_ge F r _)
    · exact ih _ x hx
theorem hgt_step (T : Tr) (f : Nat) {i : Nat} {nd : Nd} (h : T.nodes[i]? = some (some nd)) : T.hgt (f + 1) i = nd.kids.foldl (fun h k => max h (T.hgt f k + 1)) 0 := by
  show (match T.get? i with | none => -1 | some nd => nd.kids.foldl (fun h k => max h (T.hgt f k + 1)) 0) = _
  rw [Tr.get_of h]
theorem hgt_nn (T : Tr) (f : Nat) {i : Nat} {nd : Nd} (h : T.nodes[i]? = some (some nd)) : 0 ≤ T.hgt f i := by
  cases f with
  | zero => exact Int.le_refl 0
  | succ f => rw [hgt_step T f h]; exact fold_ge _ _ _
theorem fold_congr (F G : Int → Int) : ∀ (l : List Int) (z : Int), (∀ k ∈ l, F k = G k) → l.foldl (fun h k => max h (F k)) z = l.foldl (fun h k => max h (G k)) z := by
  intro l
  induction l with
  | nil => intro z _; rfl
  | cons k r ih =>
    intro z h
    simp only [List.foldl_cons]
    rw [h k (by simp)]
    exact ih _ fun x hx => h x (by simp [hx])
/-- enough fuel: the height is one -/
theorem WF.hgt_more {T : Tr} {d : Nat → Nat} (hw : WF T d) : ∀ (f g i : Nat) (nd : Nd), T.nodes[i]? = some (some nd) → 41 ≤ d i + f → 41 ≤ d i + g → T.hgt f i = T.hgt g i := by
  intro f
  induction f with
  | zero => intro g i nd h h1; have := hw.deep i nd h; have := hw.small.deep1; omega
  | succ f ih =>
    intro g i nd h h1 h2
    cases g with
    | zero => have := hw.deep i nd h; have := hw.small.deep1; omega
    | succ g =>
      rw [hgt_step T f h, hgt_step T g h]
      refine fold_congr _ _ _ _ fun k hk => ?_
      obtain ⟨n, hn⟩ := List.getElem?_of_mem hk
      obtain ⟨j, kd, rfl, hj, hjp, hjd⟩ := hw.kid h hn
      rw [ih g j kd hj (by omega) (by omega)]
/-- how high a node stands -/
def Tr.height (T : Tr) (i : Int) : Int := T.hgt 50 i
theorem WF.hgt_kid {T : Tr} {d : Nat → Nat} (hw : WF T d) {i : Nat} {nd : Nd} (h : T.nodes[i]? = some (some nd)) {j : Nat} (hk : (j : Int) ∈ nd.kids) : T.height j + 1 ≤ T.height i := by
  show T.hgt 50 j + 1 ≤ T.hgt 50 i
  obtain ⟨n, hn⟩ := List.getElem?_of_mem hk
  obtain ⟨j', kd, e, hj, hjp, hjd⟩ := hw.kid h hn
  obtain rfl : j' = j := by omega
  have h2 := hw.deep j' kd hj
  have h3 := hw.small.deep1
  rw [hw.hgt_more 50 49 j' kd hj (by omega) (by omega), hgt_step T 49 h]
  exact fold_mem (fun k => T.hgt 49 k + 1) nd.kids 0 j' hk
theorem WF.depth_le {T : Tr} {d : Nat → Nat} (hw : WF T d) {o : Nat} {od : Nd} (ho : T.nodes[o]? = some (some od)) :
    ∀ (i : Nat) (nd : Nd), T.nodes[i]? = some (some nd) → T.within i o = true → (d i : Int) + T.height i ≤ d o + T.height o := by
  refine hw.induct _ (fun i nd h hp hd hi => ?_) (fun i nd p pd h hp hpd hd ih hi => ?_)
  · rw [hw.within_root h hp] at hi
    have : i = o := by have := of_decide_eq_true hi; omega
    subst this; exact Int.le_refl _
  · rw [hw.within_step h, hp] at hi
    split at hi
    · rename_i e; have : i = o := by omega
      subst this; exact Int.le_refl _
    · have h1 := ih hi
      rcases hw.up i nd h with ⟨h3, h4⟩ | ⟨p', pd', h3, h4, h5, h6⟩
      · omega
      · obtain rfl : p' = p := by omega
        have := hw.hgt_kid h4 h6
        omega
/-- a kid stands in one row alone, once -/
theorem WF.kid_parent {T : Tr} {d : Nat → Nat} (hw : WF T d) {i j : Nat} {nd kd : Nd} (h : T.nodes[i]? = some (some nd)) (hk : (j : Int) ∈ nd.kids) (hj : T.nodes[j]? = some (some kd)) : kd.parent = i := by
  obtain ⟨j', kd', e, h1, h2⟩ := (hw.kids i nd h).2 _ hk
  obtain rfl : j' = j := by omega
  rw [hj] at h1
  injection h1 with e; injection e with e
  rw [e]; exact h2
end Go.Proofs.YtdafdoodegpdhaaDoor

namespace Go.Proofs.YtdafdoodegpdhaaDoor
open Go Go.RowKit Go.BigFrame
set_option linter.unusedVariables false
set_option linter.unusedSimpArgs false

end Go.Proofs.YtdafdoodegpdhaaDoor

namespace Go.Proofs.YtdafdoodegpdhaaDoor
open Go Go.RowKit Go.BigFrame
set_option linter.unusedVariables false
set_option linter.unusedSimpArgs false

end Go.Proofs.YtdafdoodegpdhaaDoor

namespace Go.Proofs.YtdafdoodegpdhaaDoor
open Go Go.RowKit Go.BigFrame
set_option linter.unusedVariables false
set_option linter.unusedSimpArgs false

end Go.Proofs.YtdafdoodegpdhaaDoor

namespace Go.Proofs.YtdafdoodegpdhaaDoor
open Go Go.RowKit Go.BigFrame
set_option linter.unusedVariables false
set_option linter.unusedSimpArgs false

/-- the tree behind an insert -/
def Tr.link (T : Tr) (p at' k : Nat) (pd kd : Nd) : Tr :=
  { T with nodes := (T.nodes.set p (some { pd with kids := pd.kids.take at' ++ [(k : Int)] ++ pd.kids.drop at' })).set k (some { kd with parent := p }) }
end Go.Proofs.YtdafdoodegpdhaaDoor

namespace Go.Proofs.YtdafdoodegpdhaaDoor
open Go Go.RowKit Go.BigFrame
set_option linter.unusedVariables false
set_option linter.unusedSimpArgs false

def Tr.set2 (T : Tr) (p k : Nat) (pd kd : Nd) : Tr := { T with nodes := (T.nodes.set p (some pd)).set k (some kd) }
theorem Tr.set2_get {T : Tr} {p k : Nat} {pd kd pd' kd' : Nd} (hp : T.nodes[p]? = some (some pd)) (hk : T.nodes[k]? = some (some kd)) (j : Nat) :
    (T.set2 p k pd' kd').nodes[j]? = if j = k then some (some kd') else if j = p then some (some pd') else T.nodes[j]? := by
  have hpl := (List.getElem?_eq_some_iff.1 hp).1
  have hkl := (List.getElem?_eq_some_iff.1 hk).1
  show ((T.nodes.set p (some pd')).set k (some kd'))[j]? = _
  rw [List.getElem?_set]
  by_cases h1 : k = j
  · rw [if_pos h1, if_pos h1.symm, if_pos (by rw [List.length_set]; exact hkl)]
  · rw [if_neg h1, if_neg (Ne.symm h1), List.getElem?_set]
    by_cases h2 : p = j
    · rw [if_pos h2, if_pos h2.symm, if_pos hpl]
    · rw [if_neg h2, if_neg (Ne.symm h2)]
theorem countP_set_some {l : List (Option Nd)} {p : Nat} {pd pd' : Nd} (hp : l[p]? = some (some pd)) : (l.set p (some pd')).countP Option.isSome = l.countP Option.isSome := by
  obtain ⟨hlt, he⟩ := List.getElem?_eq_some_iff.1 hp
  have hpos : 0 < l.countP Option.isSome := List.countP_pos_iff.2 ⟨some pd, by rw [← he]; exact List.getElem_mem hlt, rfl⟩
  rw [List.countP_set hlt, he]
  simp
  omega
theorem Tr.set2_count {T : Tr} {p k : Nat} {pd kd pd' kd' : Nd} (hp : T.nodes[p]? = some (some pd)) (hk : T.nodes[k]? = some (some kd)) (hpk : p ≠ k) :
    (T.set2 p k pd' kd').nodes.countP Option.isSome = T.nodes.countP Option.isSome := by
  have h2 : (T.nodes.set p (some pd'))[k]? = some (some kd) := by rw [List.getElem?_set, if_neg hpk]; exact hk
  show ((T.nodes.set p (some pd')).set k (some kd')).countP Option.isSome = _
  rw [countP_set_some h2, countP_set_some hp]
theorem some_inj2 {x : Option (Option Nd)} {a b : Nd} (h : x = some (some a)) (k : x = some (some b)) : a = b := by
  rw [h] at k; injection k with k; injection k

theorem Tr.link_eq (T : Tr) (p at' k : Nat) (pd kd : Nd) : T.link p at' k pd kd = T.set2 p k { pd with kids := pd.kids.take at' ++ [(k : Int)] ++ pd.kids.drop at' } { kd with parent := p } := rfl
theorem WF.link {T : Tr} {d : Nat → Nat} (hw : WF T d) {p k at' : Nat} {pd kd : Nd} (hp : T.nodes[p]? = some (some pd)) (hk : T.nodes[k]? = some (some kd))
    (htag : pd.tag ≠ 0) (hk0 : k ≠ 0) (hpar : kd.parent = -1) (hin : T.within p k = false) (hdp : (d p : Int) + 1 + T.height k ≤ T.deep) :
    WF (T.link p at' k pd kd) (fun j => if T.within j k then d j + d p + 1 else d j) := by
  have hpk : p ≠ k := fun e => by subst e; rw [hw.within_self hp] at hin; cases hin
  have hg := fun j => Tr.set2_get (pd' := { pd with kids := pd.kids.take at' ++ [(k : Int)] ++ pd.kids.drop at' }) (kd' := { kd with parent := p }) hp hk j
  have hck := Tr.set2_count (pd' := { pd with kids := pd.kids.take at' ++ [(k : Int)] ++ pd.kids.drop at' }) (kd' := { kd with parent := p }) hp hk hpk
  rw [← Tr.link_eq] at hg hck
  have hmem : ∀ x : Int, x ∈ pd.kids.take at' ++ [(k : Int)] ++ pd.kids.drop at' ↔ x = k ∨ x ∈ pd.kids := fun x => by
    conv => rhs; rw [← List.take_append_drop at' pd.kids]
    simp only [List.mem_append, List.mem_singleton]
    constructor
    · rintro ((h | h) | h)
      · exact .inr (.inl h)
      · exact .inl h
      · exact .inr (.inr h)
    · rintro (h | h | h)
      · exact .inl (.inr h)
      · exact .inl (.inl h)
      · exact .inr h
  have hdk : d k = 0 := by
    rcases hw.up k kd hk with ⟨h3, h4⟩ | ⟨q, qd, h3, h4, h5, h6⟩
    · exact h4
    · omega
  have hkk := hw.within_self hk
  have hknot : (k : Int) ∉ pd.kids := fun h => by
    have := hw.kid_parent hp h hk; omega
  have wst : ∀ (j : Nat) (nd : Nd), T.nodes[j]? = some (some nd) → j ≠ k → T.within j k = T.within nd.parent k := fun j nd h hne => by
    rw [hw.within_step h, if_neg (by omega)]
  -- old nodes stand where they stood
  have hkeep : ∀ (j : Nat) (jd : Nd), T.nodes[j]? = some (some jd) → ∃ jd', (T.link p at' k pd kd).nodes[j]? = some (some jd') ∧ (j ≠ k → jd'.parent = jd.parent) ∧ (∀ x ∈ jd.kids, x ∈ jd'.kids) := fun j jd h => by
    rw [hg]
    by_cases h1 : j = k
    · subst h1
      rw [if_pos rfl]
      obtain rfl := some_inj2 hk h
      exact ⟨_, rfl, fun h => absurd rfl h, fun x hx => hx⟩
    · rw [if_neg h1]
      by_cases h2 : j = p
      · subst h2
        rw [if_pos rfl]
        obtain rfl := some_inj2 hp h
        exact ⟨_, rfl, fun _ => rfl, fun x hx => (hmem x).2 (.inr hx)⟩
      · rw [if_neg h2]
        exact ⟨jd, h, fun _ => rfl, fun x hx => hx⟩
  have hcap : (T.link p at' k pd kd).cap = T.cap := rfl
  have hdeep : (T.link p at' k pd kd).deep = T.deep := rfl
  have hcount : (T.link p at' k pd kd).count = T.count := rfl
  have hs := hw.small
  refine ⟨⟨hs.cap0, hs.cap1, hs.deep0, hs.deep1, hs.count0, hs.count1, by show ((T.nodes.set p _).set k _).length ≤ 2000; rw [List.length_set, List.length_set]; exact hs.len⟩, ?_, ?_, ?_, ?_, ?_, ?_⟩
  · obtain ⟨r, r1, r2, r3⟩ := hw.root
    rw [hg, if_neg (Ne.symm hk0)]
    by_cases h0 : 0 = p
    · rw [if_pos h0]
      rw [h0] at r1
      obtain rfl := some_inj2 hp r1
      exact ⟨_, rfl, r2, r3⟩
    · rw [if_neg h0]; exact ⟨r, r1, r2, r3⟩
  · intro j nd h
    rw [hg] at h
    have hj : ∃ jd, T.nodes[j]? = some (some jd) := by
      by_cases h1 : j = k
      · exact ⟨kd, h1 ▸ hk⟩
      · rw [if_neg h1] at h
        by_cases h2 : j = p
        · exact ⟨pd, h2 ▸ hp⟩
        · rw [if_neg h2] at h; exact ⟨nd, h⟩
    obtain ⟨jd, hj⟩ := hj
    show (((if T.within j k then d j + d p + 1 else d j : Nat)) : Int) ≤ T.deep
    by_cases hwk : T.within j k = true
    · rw [if_pos hwk]
      have h1 := hw.depth_le hk j jd hj hwk
      have h2 : 0 ≤ T.height j := hgt_nn T 50 hj
      push_cast
      omega
    · rw [if_neg hwk]; exact hw.deep j jd hj
  · intro j nd h
    rw [hg] at h
    by_cases h1 : j = k
    · rw [if_pos h1] at h
      subst h1
      obtain rfl := some_inj2 rfl h
      right
      refine ⟨p, _, rfl, by rw [hg, if_neg hpk, if_pos rfl], ?_, (hmem _).2 (.inl rfl)⟩
      rw [if_pos hkk, if_neg (by rw [hin]; decide)]
      omega
    · rw [if_neg h1] at h
      -- an old node: j
      have hold : ∃ jd, T.nodes[j]? = some (some jd) ∧ nd.parent = jd.parent := by
        by_cases h2 : j = p
        · rw [if_pos h2] at h
          obtain rfl := some_inj2 rfl h
          exact ⟨pd, h2 ▸ hp, rfl⟩
        · rw [if_neg h2] at h; exact ⟨nd, h, rfl⟩
      obtain ⟨jd, hj, hpe⟩ := hold
      have hst := wst j jd hj h1
      rcases hw.up j jd hj with ⟨h3, h4⟩ | ⟨q, qd, h3, h4, h5, h6⟩
      · left
        rw [h3, within_neg] at hst
        exact ⟨by rw [hpe, h3], by rw [if_neg (by rw [hst]; decide)]; exact h4⟩
      · right
        obtain ⟨qd', k1, k2, k3⟩ := hkeep q qd h4
        refine ⟨q, qd', by rw [hpe, h3], k1, ?_, k3 _ h6⟩
        rw [h3] at hst
        rw [hst]
        split <;> omega
  · intro i nd h
    have hkid : ∀ (x : Int) (i : Nat) (id' : Nd), T.nodes[i]? = some (some id') → x ∈ id'.kids → ∃ (j : Nat) (jd : Nd), x = (j : Int) ∧ (T.link p at' k pd kd).nodes[j]? = some (some jd) ∧ jd.parent = (i : Int) := fun x i id' hi hx => by
      obtain ⟨j, jd, rfl, hj, hjp⟩ := (hw.kids i id' hi).2 x hx
      obtain ⟨jd', k1, k2, k3⟩ := hkeep j jd hj
      refine ⟨j, jd', rfl, k1, (k2 fun e => ?_).trans hjp⟩
      subst e
      obtain rfl := some_inj2 hk hj
      omega
    rw [hg] at h
    by_cases h1 : i = k
    · rw [if_pos h1] at h
      subst h1
      obtain rfl := some_inj2 rfl h
      exact ⟨(hw.kids i kd hk).1, fun x hx => hkid x i kd hk hx⟩
    · rw [if_neg h1] at h
      by_cases h2 : i = p
      · rw [if_pos h2] at h
        subst h2
        obtain rfl := some_inj2 rfl h
        refine ⟨?_, fun x hx => ?_⟩
        · have hn := (hw.kids i pd hp).1
          rw [← List.take_append_drop at' pd.kids, List.nodup_append] at hn
          have e : pd.kids.take at' ++ [(k : Int)] ++ pd.kids.drop at' = pd.kids.take at' ++ ((k : Int) :: pd.kids.drop at') := by simp
          show (pd.kids.take at' ++ [(k : Int)] ++ pd.kids.drop at').Nodup
          rw [e, List.nodup_append]
          refine ⟨hn.1, List.nodup_cons.2 ⟨fun h => hknot (List.mem_of_mem_drop h), hn.2.1⟩, fun a ha b hb => ?_⟩
          rcases List.mem_cons.1 hb with rfl | hb
          · exact fun e => hknot (e ▸ List.mem_of_mem_take ha)
          · exact hn.2.2 a ha b hb
        · rcases (hmem x).1 hx with rfl | hx
          · exact ⟨k, _, rfl, by rw [hg, if_pos rfl], rfl⟩
          · exact hkid x i pd hp hx
      · rw [if_neg h2] at h
        exact ⟨(hw.kids i nd h).1, fun x hx => hkid x i nd h hx⟩
  · intro i nd h
    rw [hg] at h
    by_cases h1 : i = k
    · rw [if_pos h1] at h
      obtain rfl := some_inj2 rfl h
      exact hw.text k kd hk
    · rw [if_neg h1] at h
      by_cases h2 : i = p
      · rw [if_pos h2] at h
        obtain rfl := some_inj2 rfl h
        have := hw.text p pd hp
        exact ⟨this.1, this.2.1, fun h => absurd h htag⟩
      · rw [if_neg h2] at h; exact hw.text i nd h
  · rw [hcount, hck]; exact hw.count

/-- the tree behind a removal -/
def Tr.unlink (T : Tr) (p k : Nat) (pd kd : Nd) : Tr := T.set2 p k { pd with kids := pd.kids.erase (k : Int) } { kd with parent := -1 }
theorem WF.unlink {T : Tr} {d : Nat → Nat} (hw : WF T d) {p k : Nat} {pd kd : Nd} (hp : T.nodes[p]? = some (some pd)) (hk : T.nodes[k]? = some (some kd)) (hpar : kd.parent = (p : Int)) :
    WF (T.unlink p k pd kd) (fun j => if T.within j k then d j - d k else d j) := by
  have hdk : d k = d p + 1 ∧ (k : Int) ∈ pd.kids := by
    rcases hw.up k kd hk with ⟨h3, h4⟩ | ⟨q, qd, h3, h4, h5, h6⟩
    · omega
    · obtain rfl : q = p := by omega
      obtain rfl := some_inj2 hp h4
      exact ⟨h5, h6⟩
  have hpk : p ≠ k := fun e => by subst e; omega
  have hk0 : k ≠ 0 := fun e => by
    subst e
    obtain ⟨r, r1, r2, r3⟩ := hw.root
    obtain rfl := some_inj2 hk r1
    omega
  have hin : T.within p k = false := by
    cases hh : T.within p k with
    | false => rfl
    | true => have := (hw.within_depth p pd hp hh).1; omega
  have hg := fun j => Tr.set2_get (pd' := { pd with kids := pd.kids.erase (k : Int) }) (kd' := { kd with parent := -1 }) hp hk j
  have hck := Tr.set2_count (pd' := { pd with kids := pd.kids.erase (k : Int) }) (kd' := { kd with parent := -1 }) hp hk hpk
  have hnd := (hw.kids p pd hp).1
  have hmem : ∀ x : Int, x ∈ pd.kids.erase (k : Int) ↔ x ≠ k ∧ x ∈ pd.kids := fun x => hnd.mem_erase_iff
  have hkk := hw.within_self hk
  have wst : ∀ (j : Nat) (nd : Nd), T.nodes[j]? = some (some nd) → j ≠ k → T.within j k = T.within nd.parent k := fun j nd h hne => by
    rw [hw.within_step h, if_neg (by omega)]
  have hkeep : ∀ (j : Nat) (jd : Nd), T.nodes[j]? = some (some jd) → ∃ jd', (T.unlink p k pd kd).nodes[j]? = some (some jd') ∧ (j ≠ k → jd'.parent = jd.parent) ∧ (∀ x ∈ jd.kids, x ≠ k → x ∈ jd'.kids) := fun j jd h => by
    show ∃ jd', (T.set2 p k _ _).nodes[j]? = _ ∧ _
    rw [hg]
    by_cases h1 : j = k
    · subst h1
      rw [if_pos rfl]
      obtain rfl := some_inj2 hk h
      exact ⟨_, rfl, fun h => absurd rfl h, fun x hx _ => hx⟩
    · rw [if_neg h1]
      by_cases h2 : j = p
      · subst h2
        rw [if_pos rfl]
        obtain rfl := some_inj2 hp h
        exact ⟨_, rfl, fun _ => rfl, fun x hx hne => (hmem x).2 ⟨hne, hx⟩⟩
      · rw [if_neg h2]
        exact ⟨jd, h, fun _ => rfl, fun x hx _ => hx⟩
  have hs := hw.small
  have hg' : ∀ j, (T.unlink p k pd kd).nodes[j]? = if j = k then some (some { kd with parent := -1 }) else if j = p then some (some { pd with kids := pd.kids.erase (k : Int) }) else T.nodes[j]? := hg
  refine ⟨⟨hs.cap0, hs.cap1, hs.deep0, hs.deep1, hs.count0, hs.count1, by show ((T.nodes.set p _).set k _).length ≤ 2000; rw [List.length_set, List.length_set]; exact hs.len⟩, ?_, ?_, ?_, ?_, ?_, ?_⟩
  · obtain ⟨r, r1, r2, r3⟩ := hw.root
    rw [hg', if_neg (Ne.symm hk0)]
    by_cases h0 : 0 = p
    · rw [if_pos h0]
      rw [h0] at r1
      obtain rfl := some_inj2 hp r1
      exact ⟨_, rfl, r2, r3⟩
    · rw [if_neg h0]; exact ⟨r, r1, r2, r3⟩
  · intro j nd h
    rw [hg'] at h
    have hj : ∃ jd, T.nodes[j]? = some (some jd) := by
      by_cases h1 : j = k
      · exact ⟨kd, h1 ▸ hk⟩
      · rw [if_neg h1] at h
        by_cases h2 : j = p
        · exact ⟨pd, h2 ▸ hp⟩
        · rw [if_neg h2] at h; exact ⟨nd, h⟩
    obtain ⟨jd, hj⟩ := hj
    have h1 := hw.deep j jd hj
    show (((if T.within j k then d j - d k else d j : Nat)) : Int) ≤ T.deep
    split <;> omega
  · intro j nd h
    rw [hg'] at h
    by_cases h1 : j = k
    · rw [if_pos h1] at h
      subst h1
      obtain rfl := some_inj2 rfl h
      left
      exact ⟨rfl, by rw [if_pos hkk]; omega⟩
    · rw [if_neg h1] at h
      have hold : ∃ jd, T.nodes[j]? = some (some jd) ∧ nd.parent = jd.parent := by
        by_cases h2 : j = p
        · rw [if_pos h2] at h
          obtain rfl := some_inj2 rfl h
          exact ⟨pd, h2 ▸ hp, rfl⟩
        · rw [if_neg h2] at h; exact ⟨nd, h, rfl⟩
      obtain ⟨jd, hj, hpe⟩ := hold
      have hst := wst j jd hj h1
      rcases hw.up j jd hj with ⟨h3, h4⟩ | ⟨q, qd, h3, h4, h5, h6⟩
      · left
        rw [h3, within_neg] at hst
        exact ⟨by rw [hpe, h3], by rw [if_neg (by rw [hst]; decide)]; exact h4⟩
      · right
        obtain ⟨qd', k1, k2, k3⟩ := hkeep q qd h4
        refine ⟨q, qd', by rw [hpe, h3], k1, ?_, k3 _ h6 (by omega)⟩
        rw [h3] at hst
        rw [hst]
        by_cases hq : T.within q k = true
        · have := (hw.within_depth q qd h4 hq).1
          rw [if_pos hq, if_pos hq]; omega
        · rw [if_neg hq, if_neg hq]; exact h5
  · intro i nd h
    have hkid : ∀ (x : Int) (i : Nat) (id' : Nd), T.nodes[i]? = some (some id') → x ∈ id'.kids → x ≠ k → ∃ (j : Nat) (jd : Nd), x = (j : Int) ∧ (T.unlink p k pd kd).nodes[j]? = some (some jd) ∧ jd.parent = (i : Int) := fun x i id' hi hx hxk => by
      obtain ⟨j, jd, rfl, hj, hjp⟩ := (hw.kids i id' hi).2 x hx
      obtain ⟨jd', k1, k2, k3⟩ := hkeep j jd hj
      exact ⟨j, jd', rfl, k1, (k2 fun e => hxk (by rw [e])).trans hjp⟩
    rw [hg'] at h
    by_cases h1 : i = k
    · rw [if_pos h1] at h
      subst h1
      obtain rfl := some_inj2 rfl h
      refine ⟨(hw.kids i kd hk).1, fun x hx => hkid x i kd hk hx fun e => ?_⟩
      have := hw.kid_parent hk (e ▸ hx) hk
      omega
    · rw [if_neg h1] at h
      by_cases h2 : i = p
      · rw [if_pos h2] at h
        subst h2
        obtain rfl := some_inj2 rfl h
        exact ⟨hnd.erase _, fun x hx => hkid x i pd hp ((hmem x).1 hx).2 ((hmem x).1 hx).1⟩
      · rw [if_neg h2] at h
        refine ⟨(hw.kids i nd h).1, fun x hx => hkid x i nd h hx fun e => ?_⟩
        have := hw.kid_parent h (e ▸ hx) hk
        omega
  · intro i nd h
    rw [hg'] at h
    by_cases h1 : i = k
    · rw [if_pos h1] at h
      obtain rfl := some_inj2 rfl h
      exact hw.text k kd hk
    · rw [if_neg h1] at h
      by_cases h2 : i = p
      · rw [if_pos h2] at h
        obtain rfl := some_inj2 rfl h
        have := hw.text p pd hp
        exact ⟨this.1, this.2.1, fun h => by rw [this.2.2 h]; rfl⟩
      · rw [if_neg h2] at h; exact hw.text i nd h
  · show T.count = _
    rw [hw.count]
    show _ = (((T.set2 p k _ _).nodes.countP Option.isSome : Nat) : Int)
    rw [hck]

end Go.Proofs.YtdafdoodegpdhaaDoor

namespace Go.Proofs.YtdafdoodegpdhaaDoor
open Go Go.RowKit Go.BigFrame
set_option linter.unusedVariables false
set_option linter.unusedSimpArgs false

end Go.Proofs.YtdafdoodegpdhaaDoor

namespace Go.Proofs.YtdafdoodegpdhaaDoor
open Go Go.RowKit Go.BigFrame
set_option linter.unusedVariables false
set_option linter.unusedSimpArgs false

end Go.Proofs.YtdafdoodegpdhaaDoor

namespace Go.Proofs.YtdafdoodegpdhaaDoor
open Go Go.RowKit Go.BigFrame
set_option linter.unusedVariables false
set_option linter.unusedSimpArgs false

end Go.Proofs.YtdafdoodegpdhaaDoor

namespace Go.Proofs.YtdafdoodegpdhaaDoor
open Go Go.RowKit Go.BigFrame
set_option linter.unusedVariables false
set_option linter.unusedSimpArgs false

inductive PN where
  | mk (tag : Int) (attrs : List (ByteArray × ByteArray)) (text : ByteArray) (kids : List PN)
def PN.tag : PN → Int | .mk t _ _ _ => t
def PN.attrs : PN → List (ByteArray × ByteArray) | .mk _ a _ _ => a
def PN.text : PN → ByteArray | .mk _ _ s _ => s
def PN.kids : PN → List PN | .mk _ _ _ k => k
mutual
/-- how many nodes -/
def PN.size : PN → Nat
  | .mk _ _ _ ks => PN.sizes ks + 1
def PN.sizes : List PN → Nat
  | [] => 0
  | k :: r => PN.size k + PN.sizes r
end
theorem PN.size_pos (n : PN) : 0 < n.size := by cases n; simp [PN.size]
theorem PN.sizes_mem {k : PN} {l : List PN} (h : k ∈ l) : k.size ≤ PN.sizes l := by
  induction l with
  | nil => cases h
  | cons x r ih =>
    simp only [PN.sizes]
    rcases List.mem_cons.1 h with rfl | h
    · omega
    · have := ih h; omega
theorem PN.size_kid {n k : PN} (h : k ∈ n.kids) : k.size < n.size := by
  cases n with
  | mk t a s ks => simp only [PN.size]; have := PN.sizes_mem (l := ks) h; omega
/-- induction over the kids -/
theorem PN.induct (P : PN → Prop) (h : ∀ n, (∀ k ∈ n.kids, P k) → P n) : ∀ n, P n := by
  have key : ∀ m n, PN.size n ≤ m → P n := by
    intro m
    induction m with
    | zero => intro n hn; have := n.size_pos; omega
    | succ m ih => exact fun n hn => h n fun k hk => ih k (by have := PN.size_kid hk; omega)
  exact fun n => key n.size n (Nat.le_refl _)

theorem add_later (a : Addr) (i j : Nat) (hj : 0 < j) : a.add (i + j) = ⟨(a.add i).block, (a.add i).off + j, none⟩ := by
  unfold Addr.add
  by_cases hi : i = 0
  · subst hi
    rw [if_neg (by omega), if_pos rfl, Nat.zero_add]
  · rw [if_neg (by omega), if_neg hi, Nat.add_assoc]
/-- four cells that read as a plain tree; with fuel -/
def rdN (w : World) : Nat → PN → Value → Prop
  | 0, _, _ => False
  | f + 1, n, v => ∃ av kv, v = .agg #[.int .i64 n.tag, av, .string n.text, kv] ∧ RowRd w 2 av n.attrs.length (attrCells n.attrs) ∧
      ∃ ao cap, kv = .slice ao n.kids.length cap ∧ n.kids.length ≤ cap ∧ cap ≤ maxLen ∧ (ao = none → n.kids.length = 0 ∧ cap = 0) ∧
        ∀ a, ao = some a → ∀ (j : Nat) k, n.kids[j]? = some k → ∃ c0 c1 c2 c3, w.cell? (a.add (j * 4)) = some c0 ∧ w.cell? (a.add (j * 4 + 1)) = some c1 ∧ w.cell? (a.add (j * 4 + 2)) = some c2 ∧ w.cell? (a.add (j * 4 + 3)) = some c3 ∧
          rdN w f k (.agg #[c0, c1, c2, c3])
/-- a value that reads as a plain tree -/
def RdN (w : World) (n : PN) (v : Value) : Prop := ∃ f, rdN w f n v
/-- what is kept where no cell that is there has turned -/
def Cells (w w' : World) : Prop := ∀ p v, w.cell? p = some v → w'.cell? p = some v
theorem RowRd.cells {w w' : World} {size : Nat} {v : Value} {n : Nat} {xs : List Value} (h : RowRd w size v n xs) (k : Cells w w') : RowRd w' size v n xs := by
  obtain ⟨h1, ao, cap, h2, h3, h4, h5⟩ := h
  exact ⟨h1, ao, cap, h2, h3, h4, fun a ha j x hx => k _ _ (h5 a ha j x hx)⟩
theorem rdN_cells {w w' : World} (k : Cells w w') : ∀ (f : Nat) (n : PN) (v : Value), rdN w f n v → rdN w' f n v := by
  intro f
  induction f with
  | zero => intro n v h; exact h
  | succ f ih =>
    intro n v h
    obtain ⟨av, kv, e, h1, ao, cap, h2, h3, h3', h4, h5⟩ := h
    refine ⟨av, kv, e, h1.cells k, ao, cap, h2, h3, h3', h4, fun a ha j x hx => ?_⟩
    obtain ⟨c0, c1, c2, c3, k0, k1, k2, k3, hr⟩ := h5 a ha j x hx
    exact ⟨c0, c1, c2, c3, k _ _ k0, k _ _ k1, k _ _ k2, k _ _ k3, ih _ _ hr⟩
theorem RdN.cells {w w' : World} {n : PN} {v : Value} (h : RdN w n v) (k : Cells w w') : RdN w' n v := by
  obtain ⟨f, h⟩ := h; exact ⟨f, rdN_cells k f n v h⟩
theorem Ext.cells {w w' : World} (h : Ext w w') : Cells w w' := fun p v hp => (Below.cell h (World.block_lt_of_cell? w p hp)).trans hp
theorem rdN_more {w : World} : ∀ (f : Nat) (n : PN) (v : Value), rdN w f n v → rdN w (f + 1) n v := by
  intro f
  induction f with
  | zero => intro n v h; exact absurd h id
  | succ f ih =>
    intro n v h
    obtain ⟨av, kv, e, h1, ao, cap, h2, h3, h3', h4, h5⟩ := h
    refine ⟨av, kv, e, h1, ao, cap, h2, h3, h3', h4, fun a ha j x hx => ?_⟩
    obtain ⟨c0, c1, c2, c3, k0, k1, k2, k3, hr⟩ := h5 a ha j x hx
    exact ⟨c0, c1, c2, c3, k0, k1, k2, k3, ih _ _ hr⟩
theorem rdN_le {w : World} {f g : Nat} {n : PN} {v : Value} (h : rdN w f n v) (hfg : f ≤ g) : rdN w g n v := by
  induction hfg with
  | refl => exact h
  | step _ ih => exact rdN_more _ _ _ ih
/-- a row of plain trees -/
def KidsRd (w : World) (ks : List PN) (kv : Value) : Prop :=
  ∃ ao cap, kv = .slice ao ks.length cap ∧ ks.length ≤ cap ∧ cap ≤ maxLen ∧ (ao = none → ks.length = 0 ∧ cap = 0) ∧
    ∀ a, ao = some a → ∀ (j : Nat) k, ks[j]? = some k → ∃ c0 c1 c2 c3, w.cell? (a.add (j * 4)) = some c0 ∧ w.cell? (a.add (j * 4 + 1)) = some c1 ∧ w.cell? (a.add (j * 4 + 2)) = some c2 ∧ w.cell? (a.add (j * 4 + 3)) = some c3 ∧ RdN w k (.agg #[c0, c1, c2, c3])
theorem RdN.open {w : World} {n : PN} {v : Value} (h : RdN w n v) : ∃ av kv, v = .agg #[.int .i64 n.tag, av, .string n.text, kv] ∧ RowRd w 2 av n.attrs.length (attrCells n.attrs) ∧ KidsRd w n.kids kv := by
  obtain ⟨f, h⟩ := h
  cases f with
  | zero => exact absurd h id
  | succ f =>
    obtain ⟨av, kv, e, h1, ao, cap, h2, h3, h3', h4, h5⟩ := h
    refine ⟨av, kv, e, h1, ao, cap, h2, h3, h3', h4, fun a ha j x hx => ?_⟩
    obtain ⟨c0, c1, c2, c3, k0, k1, k2, k3, hr⟩ := h5 a ha j x hx
    exact ⟨c0, c1, c2, c3, k0, k1, k2, k3, f, hr⟩
theorem fuel_row {ks : List PN} {Q : Nat → Nat → PN → Prop} (hm : ∀ j f g k, Q j f k → f ≤ g → Q j g k) (h : ∀ (j : Nat) k, ks[j]? = some k → ∃ f, Q j f k) : ∃ f, ∀ (j : Nat) k, ks[j]? = some k → Q j f k := by
  induction ks generalizing Q with
  | nil => exact ⟨0, fun j k hk => by simp at hk⟩
  | cons x r ih =>
    obtain ⟨f, hf⟩ := h 0 x rfl
    obtain ⟨g, hg⟩ := ih (Q := fun j f k => Q (j + 1) f k) (fun j f g k => hm (j + 1) f g k) fun j k hk => h (j + 1) k (by simpa using hk)
    refine ⟨max f g, fun j k hk => ?_⟩
    cases j with
    | zero => simp at hk; subst hk; exact hm _ _ _ _ hf (Nat.le_max_left _ _)
    | succ j => exact hm _ _ _ _ (hg j k (by simpa using hk)) (Nat.le_max_right _ _)
theorem RdN.mk' {w : World} {n : PN} {av kv : Value} (h1 : RowRd w 2 av n.attrs.length (attrCells n.attrs)) (h2 : KidsRd w n.kids kv) : RdN w n (.agg #[.int .i64 n.tag, av, .string n.text, kv]) := by
  obtain ⟨ao, cap, rfl, h3, h3', h4, h5⟩ := h2
  cases ao with
  | none => exact ⟨1, av, _, rfl, h1, none, cap, rfl, h3, h3', h4, fun a ha => by cases ha⟩
  | some a =>
    obtain ⟨f, hf⟩ := fuel_row (ks := n.kids) (Q := fun j f k => ∃ c0 c1 c2 c3, w.cell? (a.add (j * 4)) = some c0 ∧ w.cell? (a.add (j * 4 + 1)) = some c1 ∧ w.cell? (a.add (j * 4 + 2)) = some c2 ∧ w.cell? (a.add (j * 4 + 3)) = some c3 ∧ rdN w f k (.agg #[c0, c1, c2, c3]))
      (fun j f g k ⟨c0, c1, c2, c3, k0, k1, k2, k3, hr⟩ hfg => ⟨c0, c1, c2, c3, k0, k1, k2, k3, rdN_le hr hfg⟩)
      (fun j k hk => by
        obtain ⟨c0, c1, c2, c3, k0, k1, k2, k3, f, hr⟩ := h5 a rfl j k hk
        exact ⟨f, c0, c1, c2, c3, k0, k1, k2, k3, hr⟩)
    exact ⟨f + 1, av, _, rfl, h1, some a, cap, rfl, h3, h3', h4, fun a' ha j k hk => by cases ha; exact hf j k hk⟩
theorem KidsRd.cells {w w' : World} {ks : List PN} {v : Value} (h : KidsRd w ks v) (k : Cells w w') : KidsRd w' ks v := by
  obtain ⟨ao, cap, h2, h3, h3', h4, h5⟩ := h
  refine ⟨ao, cap, h2, h3, h3', h4, fun a ha j x hx => ?_⟩
  obtain ⟨c0, c1, c2, c3, k0, k1, k2, k3, hr⟩ := h5 a ha j x hx
  exact ⟨c0, c1, c2, c3, k _ _ k0, k _ _ k1, k _ _ k2, k _ _ k3, hr.cells k⟩
end Go.Proofs.YtdafdoodegpdhaaDoor

namespace Go.Proofs.YtdafdoodegpdhaaDoor
open Go Go.RowKit Go.BigFrame
set_option linter.unusedVariables false
set_option linter.unusedSimpArgs false

/-- may a node itself not be? -/
def PN.bad (n : PN) : Bool := if n.tag = 0 then !(n.attrs.isEmpty && n.kids.isEmpty) else !(decide (1 ≤ n.tag ∧ n.tag ≤ 16) && n.text.size == 0)
mutual
def PN.ok : PN → Bool
  | .mk t a s ks => !(PN.mk t a s ks).bad && decide ((anewB s).size ≤ 8192) && PN.oks ks
def PN.oks : List PN → Bool
  | [] => true
  | k :: r => PN.ok k && PN.oks r
end
theorem PN.size_eq (n : PN) : n.size = PN.sizes n.kids + 1 := by cases n; rfl
/-- a node as a plain tree, with fuel -/
def noPN : PN := .mk 0 [] ByteArray.empty []
def Tr.pln (T : Tr) : Nat → Int → PN
  | 0, _ => noPN
  | f + 1, id => match T.get? id with
    | none => noPN
    | some nd => .mk nd.tag nd.attrs nd.text (nd.kids.map (T.pln f))
def Tr.plain (T : Tr) (id : Int) : PN := T.pln 50 id
theorem pln_step (T : Tr) (f : Nat) {i : Nat} {nd : Nd} (h : T.nodes[i]? = some (some nd)) : T.pln (f + 1) i = .mk nd.tag nd.attrs nd.text (nd.kids.map (T.pln f)) := by
  show (match T.get? i with | none => noPN | some nd => _) = _
  rw [Tr.get_of h]
theorem WF.pln_more {T : Tr} {d : Nat → Nat} (hw : WF T d) : ∀ (f g i : Nat) (nd : Nd), T.nodes[i]? = some (some nd) → 41 ≤ d i + f → 41 ≤ d i + g → T.pln f i = T.pln g i := by
  intro f
  induction f with
  | zero => intro g i nd h h1; have := hw.deep i nd h; have := hw.small.deep1; omega
  | succ f ih =>
    intro g i nd h h1 h2
    cases g with
    | zero => have := hw.deep i nd h; have := hw.small.deep1; omega
    | succ g =>
      rw [pln_step T f h, pln_step T g h]
      congr 1
      refine List.map_congr_left fun k hk => ?_
      obtain ⟨n, hn⟩ := List.getElem?_of_mem hk
      obtain ⟨j, kd, rfl, hj, hjp, hjd⟩ := hw.kid h hn
      exact ih g j kd hj (by omega) (by omega)
theorem WF.plain_eq {T : Tr} {d : Nat → Nat} (hw : WF T d) {i : Nat} {nd : Nd} (h : T.nodes[i]? = some (some nd)) : T.plain i = .mk nd.tag nd.attrs nd.text (nd.kids.map T.plain) := by
  show T.pln 50 i = _
  rw [pln_step T 49 h]
  congr 1
  refine List.map_congr_left fun k hk => ?_
  obtain ⟨n, hn⟩ := List.getElem?_of_mem hk
  obtain ⟨j, kd, rfl, hj, hjp, hjd⟩ := hw.kid h hn
  have := hw.deep j kd hj
  have := hw.small.deep1
  exact hw.pln_more 49 50 j kd hj (by omega) (by omega)
theorem WF.height_eq {T : Tr} {d : Nat → Nat} (hw : WF T d) {i : Nat} {nd : Nd} (h : T.nodes[i]? = some (some nd)) : T.height i = nd.kids.foldl (fun h k => max h (T.height k + 1)) 0 := by
  show T.hgt 50 i = _
  rw [hgt_step T 49 h]
  refine fold_congr _ _ _ _ fun k hk => ?_
  obtain ⟨n, hn⟩ := List.getElem?_of_mem hk
  obtain ⟨j, kd, rfl, hj, hjp, hjd⟩ := hw.kid h hn
  have := hw.deep j kd hj
  have := hw.small.deep1
  show _ = T.hgt 50 j + 1
  rw [hw.hgt_more 49 50 j kd hj (by omega) (by omega)]
/-- two trees that tell the same of all that is within a node -/
theorem pln_same {T T' : Tr} {d : Nat → Nat} (hw : WF T d) {o : Nat} (hs : ∀ (j : Nat) (jd : Nd), T.nodes[j]? = some (some jd) → T.within j o = true → ∃ jd', T'.nodes[j]? = some (some jd') ∧ jd'.tag = jd.tag ∧ jd'.attrs = jd.attrs ∧ jd'.text = jd.text ∧ jd'.kids = jd.kids) {od : Nd} (ho : T.nodes[o]? = some (some od)) :
    ∀ (f i : Nat) (nd : Nd), T.nodes[i]? = some (some nd) → T.within i o = true → T'.pln f i = T.pln f i ∧ T'.hgt f i = T.hgt f i := by
  intro f
  induction f with
  | zero => intro i nd h _; exact ⟨rfl, rfl⟩
  | succ f ih =>
    intro i nd h hin
    obtain ⟨nd', h', e1, e2, e3, e4⟩ := hs i nd h hin
    have hk : ∀ k ∈ nd.kids, T'.pln f k = T.pln f k ∧ T'.hgt f k = T.hgt f k := fun k hk => by
      obtain ⟨j, kd, rfl, hj, hjp⟩ := (hw.kids i nd h).2 k hk
      refine ih j kd hj ?_
      rw [hw.within_step hj, hjp]
      split
      · rfl
      · exact hin
    constructor
    · rw [pln_step T f h, pln_step T' f h', e1, e2, e3, e4]
      congr 1
      exact List.map_congr_left fun k hk' => (hk k hk').1
    · rw [hgt_step T f h, hgt_step T' f h', e4]
      exact fold_congr _ _ _ _ fun k hk' => by rw [(hk k hk').2]
theorem plain_same {T T' : Tr} {d : Nat → Nat} (hw : WF T d) {o : Nat} {od : Nd} (ho : T.nodes[o]? = some (some od))
    (hs : ∀ (j : Nat) (jd : Nd), T.nodes[j]? = some (some jd) → T.within j o = true → ∃ jd', T'.nodes[j]? = some (some jd') ∧ jd'.tag = jd.tag ∧ jd'.attrs = jd.attrs ∧ jd'.text = jd.text ∧ jd'.kids = jd.kids) :
    T'.plain o = T.plain o ∧ T'.height o = T.height o := pln_same hw hs ho 50 o od ho (hw.within_self ho)

/-- a loose node gets one kid more -/
def Tr.attach (T : Tr) (p k : Nat) (pd kd : Nd) : Tr := T.set2 p k { pd with kids := pd.kids ++ [(k : Int)] } { kd with parent := p }
theorem Tr.attach_link (T : Tr) (p k : Nat) (pd kd : Nd) : T.attach p k pd kd = T.link p pd.kids.length k pd kd := by
  rw [Tr.link_eq]; simp [Tr.attach]
theorem WF.attach {T : Tr} {d : Nat → Nat} (hw : WF T d) {p k : Nat} {pd kd : Nd} (hp : T.nodes[p]? = some (some pd)) (hk : T.nodes[k]? = some (some kd))
    (htag : pd.tag ≠ 0) (hk0 : k ≠ 0) (hpar : kd.parent = -1) (hpp : pd.parent = -1) (hpk : p ≠ k) (hh : T.height k + 1 ≤ T.deep) :
    ∃ d', WF (T.attach p k pd kd) d' ∧ (T.attach p k pd kd).height p = max (T.height p) (T.height k + 1) ∧ (T.attach p k pd kd).plain p = .mk pd.tag pd.attrs pd.text (pd.kids.map T.plain ++ [T.plain k]) := by
  have hin : T.within p k = false := by rw [hw.within_root hp hpp]; simp; omega
  have hdp : d p = 0 := by
    rcases hw.up p pd hp with ⟨h3, h4⟩ | ⟨q, qd, h3, h4, h5, h6⟩
    · exact h4
    · omega
  have hl := hw.link (at' := pd.kids.length) hp hk htag hk0 hpar hin (by omega)
  rw [← Tr.attach_link] at hl
  have hg := fun j => Tr.set2_get (pd' := { pd with kids := pd.kids ++ [(k : Int)] }) (kd' := { kd with parent := p }) hp hk j
  have hp' : (T.attach p k pd kd).nodes[p]? = some (some { pd with kids := pd.kids ++ [(k : Int)] }) := by
    show (T.set2 p k _ _).nodes[p]? = _
    rw [hg, if_neg hpk, if_pos rfl]
  -- nodes other than p tell the same
  have hsame : ∀ (j : Nat) (jd : Nd), T.nodes[j]? = some (some jd) → j ≠ p → ∃ jd', (T.attach p k pd kd).nodes[j]? = some (some jd') ∧ jd'.tag = jd.tag ∧ jd'.attrs = jd.attrs ∧ jd'.text = jd.text ∧ jd'.kids = jd.kids := fun j jd h hne => by
    show ∃ jd', (T.set2 p k _ _).nodes[j]? = some (some jd') ∧ _
    rw [hg]
    by_cases e : j = k
    · subst e
      rw [if_pos rfl]
      obtain rfl := some_inj2 hk h
      exact ⟨_, rfl, rfl, rfl, rfl, rfl⟩
    · rw [if_neg e, if_neg hne]
      exact ⟨jd, h, rfl, rfl, rfl, rfl⟩
  have hof : ∀ (o : Nat) (od : Nd), T.nodes[o]? = some (some od) → o ≠ p → (T.attach p k pd kd).plain o = T.plain o ∧ (T.attach p k pd kd).height o = T.height o := fun o od ho hne =>
    plain_same hw ho fun j jd hj hjo => hsame j jd hj fun e => by
      subst e
      obtain rfl := some_inj2 hp hj
      rw [hw.within_root hp hpp] at hjo
      have := of_decide_eq_true hjo
      omega
  have hkids : ∀ x ∈ pd.kids, (T.attach p k pd kd).plain x = T.plain x ∧ (T.attach p k pd kd).height x = T.height x := fun x hx => by
    obtain ⟨j, jd, rfl, hj, hjp⟩ := (hw.kids p pd hp).2 x hx
    refine hof j jd hj fun e => ?_
    subst e
    obtain rfl := some_inj2 hp hj
    omega
  have hkk := hof k kd hk (Ne.symm hpk)
  refine ⟨_, hl, ?_, ?_⟩
  · rw [hl.height_eq hp', hw.height_eq hp]
    show (pd.kids ++ [(k : Int)]).foldl _ 0 = _
    rw [List.foldl_append, List.foldl_cons, List.foldl_nil, hkk.2]
    rw [fold_congr (fun x => (T.attach p k pd kd).height x + 1) (fun x => T.height x + 1) pd.kids 0 fun x hx => by rw [(hkids x hx).2]]
  · rw [hl.plain_eq hp']
    show PN.mk pd.tag pd.attrs pd.text ((pd.kids ++ [(k : Int)]).map _) = _
    rw [List.map_append, List.map_cons, List.map_nil, hkk.1]
    congr 2
    exact List.map_congr_left fun x hx => (hkids x hx).1

/-- the first free number and the tree behind 'put', kids one by one -/
def Tr.look (T : Tr) (i : Int) : Nd := (T.get? i).getD ⟨0, [], ByteArray.empty, [], -1⟩
def Tr.join (T : Tr) (p k : Int) : Tr := T.attach p.toNat k.toNat (T.look p) (T.look k)
mutual
def PN.into (T : Tr) : PN → Tr
  | .mk t a s ks => PN.intos T.newId (T.put ⟨t, a, anewB s, [], -1⟩) ks
def PN.intos (id : Int) (T : Tr) : List PN → Tr
  | [] => T
  | k :: r => PN.intos id ((PN.into T k).join id T.newId) r
end
end Go.Proofs.YtdafdoodegpdhaaDoor

namespace Go.Proofs.YtdafdoodegpdhaaDoor
open Go Go.RowKit Go.BigFrame
set_option linter.unusedVariables false
set_option linter.unusedSimpArgs false

end Go.Proofs.YtdafdoodegpdhaaDoor

namespace Go.Proofs.YtdafdoodegpdhaaDoor
open Go Go.RowKit Go.BigFrame
end Go.Proofs.YtdafdoodegpdhaaDoor

namespace Go.Proofs.YtdafdoodegpdhaaDoor
open Go Go.RowKit Go.BigFrame
set_option linter.unusedVariables false
set_option linter.unusedSimpArgs false

end Go.Proofs.YtdafdoodegpdhaaDoor

namespace Go.Proofs.YtdafdoodegpdhaaDoor
open Go Go.RowKit Go.BigFrame
set_option linter.unusedVariables false
set_option linter.unusedSimpArgs false

theorem posOf_mem {l : List Int} {x : Int} (h : x ∈ l) : posOf l x = ((l.idxOf x : Nat) : Int) ∧ l.idxOf x < l.length ∧ l.eraseIdx (l.idxOf x) = l.erase x := by
  refine ⟨if_pos h, List.idxOf_lt_length_iff.2 h, ?_⟩
  induction l with
  | nil => cases h
  | cons y r ih =>
    by_cases e : y = x
    · subst e; simp
    · have hr : x ∈ r := by rcases List.mem_cons.1 h with h | h; exact absurd h.symm e; exact h
      have h2 : (y :: r).idxOf x = r.idxOf x + 1 := by
        rw [List.idxOf_cons]
        have : (y == x) = false := by simpa using e
        rw [this]; rfl
      rw [h2, List.eraseIdx_cons_succ, ih hr, List.erase_cons_tail (by simpa using e)]

end Go.Proofs.YtdafdoodegpdhaaDoor

namespace Go.Proofs.YtdafdoodegpdhaaDoor
open Go Go.RowKit Go.BigFrame
set_option linter.unusedVariables false
set_option linter.unusedSimpArgs false

/-- nothing but the tree's head and its row of nodes has turned -/
structure Top (own : Ow) (w w' : World) : Prop where
  os : w'.os = w.os
  tape : w'.tape = w.tape
  output : w'.output = w.output
  size : w'.heap.size = w.heap.size
  rest : ∀ b, own b ≠ some (0, 0) → own b ≠ some (1, 0) → w'.heap[b]? = w.heap[b]?
theorem Top.refl (own : Ow) (w : World) : Top own w w := ⟨rfl, rfl, rfl, rfl, fun _ _ _ => rfl⟩
theorem Top.trans {own : Ow} {a b c : World} (h : Top own a b) (k : Top own b c) : Top own a c :=
  ⟨k.os.trans h.os, k.tape.trans h.tape, k.output.trans h.output, k.size.trans h.size, fun x h0 h1 => (k.rest x h0 h1).trans (h.rest x h0 h1)⟩
theorem Top.setCell {own : Ow} {a b : World} (h : Top own a b) {p : Addr} (hp : own p.block = some (0, 0) ∨ own p.block = some (1, 0)) (u : Value) : Top own a (b.setCell p u) :=
  ⟨h.os, h.tape, h.output, by have := h.size; simpa [World.setCell] using this, fun x h0 h1 => (heap_setCell_other _ (fun e => by subst e; rcases hp with hp | hp; exact h0 hp; exact h1 hp)).trans (h.rest x h0 h1)⟩
theorem Top.cell {own : Ow} {w w' : World} (h : Top own w w') {b o : Nat} {v : Value} (hb : own b = none) (hc : w.cell? ⟨b, o, none⟩ = some v) : w'.cell? ⟨b, o, none⟩ = some v :=
  (World.cell?_of_block (a := ⟨b, o, none⟩) (h.rest b (by rw [hb]; simp) (by rw [hb]; simp))).trans hc
theorem Top.step {own : Ow} {w w' : World} (h : Top own w w') (hO : Owned own w) : Step own w own w' :=
  ⟨h.os, h.tape, h.output, Nat.le_of_eq h.size.symm, fun b _ hn => h.rest b (by rw [hn]; simp) (by rw [hn]; simp), fun _ _ => rfl, fun b hb => by rw [h.size]; exact hO b hb⟩
end Go.Proofs.YtdafdoodegpdhaaDoor

namespace Go.Proofs.YtdafdoodegpdhaaDoor
open Go Go.RowKit Go.BigFrame
set_option linter.unusedVariables false
set_option linter.unusedSimpArgs false

end Go.Proofs.YtdafdoodegpdhaaDoor

namespace Go.Proofs.YtdafdoodegpdhaaDoor
open Go Go.RowKit Go.BigFrame
set_option linter.unusedVariables false
set_option linter.unusedSimpArgs false

/-- what measure has in hand -/
structure Ms where
  count : Int
  height : Int
  e : Int
def Ms.one (n : PN) (deep : Int) (m : Ms) : Ms := ⟨m.count + 1, max m.height deep, if n.bad then 1 else if 8192 < (anewB n.text).size ∧ m.e = 0 then 10 else m.e⟩
mutual
def PN.look (deep : Int) (m : Ms) : PN → Ms
  | .mk t a s ks => PN.looks (deep + 1) (Ms.one (.mk t a s ks) deep m) ks
def PN.looks (deep : Int) (m : Ms) : List PN → Ms
  | [] => m
  | k :: r => PN.looks deep (PN.look deep m k) r
end
mutual
/-- all texts are short -/
def PN.short : PN → Bool
  | .mk _ a s ks => decide (s.size ≤ 100000) && decide (a.length ≤ 60000) && PN.shorts ks
def PN.shorts : List PN → Bool
  | [] => true
  | k :: r => PN.short k && PN.shorts r
end
theorem PN.short_eq (n : PN) : n.short = (decide (n.text.size ≤ 100000) && decide (n.attrs.length ≤ 60000) && PN.shorts n.kids) := by cases n; rfl
theorem sizes_append : ∀ (l r : List PN), PN.sizes (l ++ r) = PN.sizes l + PN.sizes r := by
  intro l
  induction l with
  | nil => intro r; simp [PN.sizes]
  | cons x l ih => intro r; simp only [List.cons_append, PN.sizes, ih]; omega
theorem sizes_take (l : List PN) (k : Nat) : PN.sizes (l.take k) ≤ PN.sizes l := by
  have := sizes_append (l.take k) (l.drop k)
  rw [List.take_append_drop] at this; omega
theorem sizes_take_succ {l : List PN} {i : Nat} {k : PN} (h : l[i]? = some k) : PN.sizes (l.take i) + k.size ≤ PN.sizes l := by
  obtain ⟨hlt, rfl⟩ := List.getElem?_eq_some_iff.1 h
  have h1 := sizes_take l (i + 1)
  rw [List.take_succ_eq_append_getElem hlt, sizes_append] at h1
  simp only [PN.sizes] at h1; omega
/-- a block of one cell -/
def One (w : World) (b : Nat) (v : Value) (t : TypeId) : Prop := w.heap[b]? = some (.cells #[v] t (0, 0))
theorem One.cell {w : World} {b : Nat} {v : Value} {t : TypeId} (h : One w b v t) : w.cell? ⟨b, 0, none⟩ = some v := cellOf h rfl
theorem One.free {w : World} {b : Nat} {v : Value} {t : TypeId} (h : One w b v t) : w.frozen? ⟨b, 0, none⟩ = false := freeOf h 0
theorem One.lt {w : World} {b : Nat} {v : Value} {t : TypeId} (h : One w b v t) : b < w.heap.size := (Array.getElem?_eq_some_iff.1 h).1
theorem One.alloc {w : World} {b : Nat} {v : Value} {t : TypeId} (h : One w b v t) (o : Obj) : One (w.alloc o) b v t := (Below.heap_alloc _ _ _ h.lt).trans h
theorem One.set {w : World} {b : Nat} {v : Value} {t : TypeId} (h : One w b v t) (u : Value) : One (w.setCell ⟨b, 0, none⟩ u) b u t := heap_setCell_same h u
theorem One.ext {w w' : World} {b : Nat} {v : Value} {t : TypeId} (h : One w b v t) (k : Ext w w') : One w' b v t := (Below.block k b h.lt).trans h
theorem One.new (w : World) (v : Value) (t : TypeId) : One (w.alloc (.cells #[v] t)) w.heap.size v t := heap_alloc_new w _
end Go.Proofs.YtdafdoodegpdhaaDoor

namespace Go.Proofs.YtdafdoodegpdhaaDoor
open Go Go.RowKit Go.BigFrame
set_option linter.unusedVariables false
set_option linter.unusedSimpArgs false

end Go.Proofs.YtdafdoodegpdhaaDoor

namespace Go.Proofs.YtdafdoodegpdhaaDoor
open Go Go.RowKit Go.BigFrame
set_option linter.unusedVariables false
set_option linter.unusedSimpArgs false

theorem One.at (w : World) (b : Nat) (v : Value) (t : TypeId) (hb : b = w.heap.size) : One (w.alloc (.cells #[v] t)) b v t := by subst hb; exact One.new w v t
end Go.Proofs.YtdafdoodegpdhaaDoor

namespace Go.Proofs.YtdafdoodegpdhaaDoor
open Go Go.RowKit Go.BigFrame
set_option linter.unusedVariables false
set_option linter.unusedSimpArgs false

/-- what a reading world tells lies apart from the tree -/
def Apart (g : World) (own : Ow) (w : World) : Prop := ∀ p v, g.cell? p = some v → w.cell? p = some v ∧ own p.block = none
theorem Apart.step {g : World} {own own' : Ow} {w w' : World} (h : Apart g own w) (k : Step own w own' w') : Apart g own' w' := fun p v hp => by
  obtain ⟨h1, h2⟩ := h p v hp
  have hl := World.block_lt_of_cell? w _ h1
  exact ⟨(World.cell?_of_block (k.rest _ hl h2)).trans h1, (k.same _ hl).trans h2⟩
theorem Apart.cells {g : World} {own : Ow} {w : World} (h : Apart g own w) : Cells g w := fun p v hp => (h p v hp).1
theorem Apart.ext {g : World} {own : Ow} {w w' : World} (h : Apart g own w) (k : Ext w w') : Apart g own w' := fun p v hp => ⟨k.cells _ _ (h p v hp).1, (h p v hp).2⟩
end Go.Proofs.YtdafdoodegpdhaaDoor

namespace Go.Proofs.YtdafdoodegpdhaaDoor
open Go Go.RowKit
set_option linter.unusedVariables false

section
variable {P : Program} {ops : Array Oper} {Q : Exit → Act → World → Prop} {md : Region.Mode} {S : World → Prop} {n : Nat}
end
end Go.Proofs.YtdafdoodegpdhaaDoor

namespace Go.Proofs.YtdafdoodegpdhaaDoor
open Go Go.RowKit Go.BigFrame
set_option linter.unusedVariables false
set_option linter.unusedSimpArgs false

end Go.Proofs.YtdafdoodegpdhaaDoor

namespace Go.Proofs.YtdafdoodegpdhaaDoor
open Go Go.RowKit Go.BigFrame
set_option linter.unusedVariables false
set_option linter.unusedSimpArgs false

/-- the world without what the tree owns -/
def hide (own : Ow) (w : World) : World := { w with heap := w.heap.mapIdx fun b x => if (own b).isNone then x else .cells #[] 0 (0, 0) }
theorem hide_cell {own : Ow} {w : World} {p : Addr} {v : Value} (h : w.cell? p = some v) (hn : own p.block = none) : (hide own w).cell? p = some v := by
  rw [← h]
  refine World.cell?_of_block ?_
  show (w.heap.mapIdx _)[p.block]? = _
  rw [Array.getElem?_mapIdx, hn]
  cases w.heap[p.block]? <;> rfl
theorem hide_apart (own : Ow) (w : World) : Apart (hide own w) own w := by
  intro p v h
  have hn : own p.block = none := by
    cases ho : own p.block with
    | none => rfl
    | some x =>
      exfalso
      have hb : (hide own w).heap[p.block]? = (w.heap[p.block]?).map fun _ => (.cells #[] 0 (0, 0) : Obj) := by
        show (w.heap.mapIdx _)[p.block]? = _
        rw [Array.getElem?_mapIdx, ho]; rfl
      cases hw : w.heap[p.block]? with
      | none => rw [hw] at hb; simp [World.cell?, hb] at h
      | some o => rw [hw] at hb; simp [World.cell?, hb] at h
  refine ⟨?_, hn⟩
  rw [← h]
  refine (World.cell?_of_block ?_).symm
  show (w.heap.mapIdx _)[p.block]? = _
  rw [Array.getElem?_mapIdx, hn]
  cases w.heap[p.block]? <;> rfl
theorem Apart.hide {g : World} {own : Ow} {w : World} (h : Apart g own w) : Cells g (hide own w) := fun p v hp => hide_cell (h p v hp).1 (h p v hp).2
end Go.Proofs.YtdafdoodegpdhaaDoor

namespace Go.Proofs.YtdafdoodegpdhaaDoor
open Go Go.RowKit Go.BigFrame
set_option linter.unusedVariables false
set_option linter.unusedSimpArgs false
end Go.Proofs.YtdafdoodegpdhaaDoor

namespace Go.Proofs.YtdafdoodegpdhaaDoor
open Go Go.RowKit Go.BigFrame
set_option linter.unusedVariables false
set_option linter.unusedSimpArgs false

end Go.Proofs.YtdafdoodegpdhaaDoor

namespace Go.Proofs.YtdafdoodegpdhaaDoor
open Go Go.RowKit Go.BigFrame
set_option linter.unusedVariables false
set_option linter.unusedSimpArgs false

end Go.Proofs.YtdafdoodegpdhaaDoor

namespace Go.Proofs.YtdafdoodegpdhaaDoor
open Go Go.RowKit Go.BigFrame Go.ChangeShapes Go.WideShapes Go.Deep
set_option linter.unusedVariables false
set_option linter.unusedSimpArgs false

theorem exists_row {α : Type} (n : Nat) (P : Nat → α → Prop) (h : ∀ i, i < n → ∃ x, P i x) : ∃ l : List α, l.length = n ∧ ∀ (i : Nat) x, l[i]? = some x → P i x := by
  induction n with
  | zero => exact ⟨[], rfl, fun i x hx => by simp at hx⟩
  | succ n ih =>
    obtain ⟨l, h1, h2⟩ := ih fun i hi => h i (by omega)
    obtain ⟨x, hx⟩ := h n (by omega)
    refine ⟨l ++ [x], by simp [h1], fun i y hy => ?_⟩
    rw [List.getElem?_append] at hy
    split at hy
    · exact h2 i y hy
    · rcases Nat.eq_zero_or_pos (i - l.length) with h0 | h0
      · rw [h0] at hy; simp at hy
        obtain rfl : i = n := by omega
        exact hy ▸ hx
      · rw [List.getElem?_eq_none (by simp; omega)] at hy; cases hy
theorem attrCells_get (l : List (ByteArray × ByteArray)) : ∀ (j : Nat) (x : Value), (attrCells l)[j]? = some x → ∃ p, l[j / 2]? = some p ∧ x = if j % 2 = 0 then .string p.1 else .string p.2 := by
  induction l with
  | nil => intro j x h; simp [attrCells] at h
  | cons q r ih =>
    obtain ⟨a, b⟩ := q
    intro j x h
    match j, h with
    | 0, h => simp [attrCells] at h; exact ⟨(a, b), by simp, by simp [h]⟩
    | 1, h => simp [attrCells] at h; exact ⟨(a, b), by simp, by simp [h]⟩
    | j + 2, h =>
      simp only [attrCells, List.getElem?_cons_succ] at h
      obtain ⟨p, h1, h2⟩ := ih j x h
      exact ⟨p, by rw [show (j + 2) / 2 = j / 2 + 1 by omega]; simpa using h1, by rw [show (j + 2) % 2 = j % 2 by omega]; exact h2⟩
section
variable {H : Type} {enc : TypeId × Value → H} {w : World} {base : Nat} {spare : Nat → Bool} {held : Bool}
theorem cells_at {a : Addr} {n : Nat} {cs : List Value} (h : w.cells? base a n = some cs) {i : Nat} {v : Value} (hi : cs[i]? = some v) : w.cell? (a.add i) = some v := by
  obtain ⟨_, hl, hg⟩ := World.cells?_some h
  have := (List.getElem?_eq_some_iff.1 hi).1
  rw [hg i (by omega)]; exact hi
theorem slice_elems {t e : TypeId} {fuel : Nat} {cs : List Value} {x : DataW H × List MemPlace} (ht : Tryd.prog.underlying t = some (.slice e)) (h : DataW.trod enc Tryd.prog w base spare held fuel t cs = some x) :
    cs = [.slice none 0 0] ∨ ∃ (a : Addr) (len cap n : Nat), fuel = n + 1 ∧ cs = [.slice (some a) len cap] ∧ len ≤ cap ∧ cap ≤ maxLen ∧
      ∀ i, i < len → ∃ cs' y, w.cells? base (a.add (i * Tryd.prog.cellsOf e)) (Tryd.prog.cellsOf e) = some cs' ∧ DataW.trod enc Tryd.prog w base spare held n e cs' = some y := by
  rcases DataW.trod_slice ht h with ⟨h0, _⟩ | ⟨a, len, cap, elems, rest, n, hn, hc, _, hb, hl, hm, hlen, hel, _⟩
  · exact .inl h0
  · refine .inr ⟨a, len, cap, n, hn, hc, hl, hm, fun i hi => ?_⟩
    have key := hel i hi
    rw [List.getElem?_eq_getElem (by omega)] at key
    obtain ⟨cs', h1, h2⟩ := Option.bind_eq_some_iff.1 key
    exact ⟨cs', _, h1, h2⟩
set_option maxRecDepth 20000 in
theorem read_attrs {fuel : Nat} {cs : List Value} {x : DataW H × List MemPlace} (h : DataW.trod enc Tryd.prog w base spare held fuel 22 cs = some x) :
    ∃ (v : Value) (l : List (ByteArray × ByteArray)), cs = [v] ∧ RowRd w 2 v l.length (attrCells l) := by
  rcases slice_elems Tryd.underlying22 h with rfl | ⟨a, len, cap, n, _, rfl, hl, hm, hi⟩
  · exact ⟨_, [], rfl, ⟨rfl, none, 0, rfl, Nat.le_refl _, fun _ => ⟨rfl, rfl⟩, fun a h => by cases h⟩⟩
  · have hC : Tryd.prog.cellsOf 55 = 2 := by kernel_rfl
    obtain ⟨l, h1, h2⟩ := exists_row len (fun i (p : ByteArray × ByteArray) => w.cell? (a.add (i * 2)) = some (.string p.1) ∧ w.cell? (a.add (i * 2 + 1)) = some (.string p.2)) fun i hil => by
      obtain ⟨cs', y, hc, ht⟩ := hi i (by omega)
      rw [hC] at hc
      obtain ⟨ys, n', rfl, _, hcl, hyl, hf⟩ := DataW.trod_struct Tryd.underlying55 ht
      rw [hC] at hcl
      have hS : Tryd.prog.cellsOf 9 = 1 := by kernel_rfl
      match cs', hcl with
      | [u0, u1], _ =>
        have g0 := hf 0 { name := _, type := 9, offset := 0, embedded := _, tag := _, pkgPath := _, byteOffset := _ } rfl
        have g1 := hf 1 { name := _, type := 9, offset := 1, embedded := _, tag := _, pkgPath := _, byteOffset := _ } rfl
        simp only [hS] at g0 g1
        match ys, hyl with
        | [y0, y1], _ =>
          obtain ⟨s0, e0, _⟩ := DataW.trod_string Tryd.underlying9 (x := y0) g0
          obtain ⟨s1, e1, _⟩ := DataW.trod_string Tryd.underlying9 (x := y1) g1
          simp at e0 e1
          subst e0 e1
          refine ⟨(s0, s1), cells_at hc (i := 0) rfl, ?_⟩
          have := cells_at hc (i := 1) (v := .string s1) rfl
          rw [Go.Deep.add_add] at this
          exact this
    refine ⟨_, l, rfl, ⟨by rw [attrCells_len], some a, cap, by rw [h1], by omega, (fun h => by cases h), fun a' ha j x hx => ?_⟩⟩
    cases ha
    obtain ⟨p, q1, q2⟩ := attrCells_get l j x hx
    have := h2 _ p q1
    rcases Nat.mod_two_eq_zero_or_one j with h0 | h0
    · rw [q2, if_pos h0, ← this.1, show j / 2 * 2 = j by omega]
    · rw [q2, if_neg (by omega), ← this.2, show j / 2 * 2 + 1 = j by omega]
set_option maxRecDepth 20000 in
theorem read_node : ∀ (fuel : Nat) (cs : List Value) (x : DataW H × List MemPlace), DataW.trod enc Tryd.prog w base spare held fuel 25 cs = some x →
    ∃ (c0 c1 c2 c3 : Value) (n : PN), cs = [c0, c1, c2, c3] ∧ RdN w n (.agg #[c0, c1, c2, c3]) := by
  intro fuel
  induction fuel using Nat.strongRecOn with
  | _ fuel ih =>
  intro cs x h
  have hC : Tryd.prog.cellsOf 25 = 4 := by kernel_rfl
  have hS : Tryd.prog.cellsOf 9 = 1 := by kernel_rfl
  have hI : Tryd.prog.cellsOf 3 = 1 := by kernel_rfl
  have hA : Tryd.prog.cellsOf 22 = 1 := by kernel_rfl
  have hK : Tryd.prog.cellsOf 23 = 1 := by kernel_rfl
  obtain ⟨ys, n, hfu, _, hcl, hyl, hf⟩ := DataW.trod_struct Tryd.underlying25 h
  rw [hC] at hcl
  match cs, hcl with
  | [c0, c1, c2, c3], _ =>
    have g0 := hf 0 { name := _, type := 3, offset := 0, embedded := _, tag := _, pkgPath := _, byteOffset := _ } rfl
    have g1 := hf 1 { name := _, type := 22, offset := 1, embedded := _, tag := _, pkgPath := _, byteOffset := _ } rfl
    have g2 := hf 2 { name := _, type := 9, offset := 2, embedded := _, tag := _, pkgPath := _, byteOffset := _ } rfl
    have g3 := hf 3 { name := _, type := 23, offset := 3, embedded := _, tag := _, pkgPath := _, byteOffset := _ } rfl
    simp only [hS, hI, hA, hK] at g0 g1 g2 g3
    match ys, hyl with
    | [y0, y1, y2, y3], _ =>
      obtain ⟨tag, e0, _⟩ := DataW.trod_int Tryd.underlying3 (x := y0) g0
      obtain ⟨av, attrs, e1, hattrs⟩ := read_attrs (x := y1) g1
      obtain ⟨s, e2, _⟩ := DataW.trod_string Tryd.underlying9 (x := y2) g2
      simp at e0 e1 e2
      subst e0 e1 e2
      have g3' : DataW.trod enc Tryd.prog w base spare held n 23 [c3] = some y3 := g3
      rcases slice_elems Tryd.underlying23 g3' with e3 | ⟨a, len, cap, n', hn', e3, hl, hm, hi⟩
      · simp at e3
        subst e3
        exact ⟨_, _, _, _, .mk tag attrs s [], rfl, RdN.mk' (n := .mk tag attrs s []) hattrs ⟨none, 0, rfl, Nat.le_refl _, Nat.zero_le _, fun _ => ⟨rfl, rfl⟩, fun a h => by cases h⟩⟩
      · simp at e3
        subst e3
        obtain ⟨l, h1, h2⟩ := exists_row len (fun i (k : PN) => ∃ c0 c1 c2 c3, w.cell? (a.add (i * 4)) = some c0 ∧ w.cell? (a.add (i * 4 + 1)) = some c1 ∧ w.cell? (a.add (i * 4 + 2)) = some c2 ∧ w.cell? (a.add (i * 4 + 3)) = some c3 ∧ RdN w k (.agg #[c0, c1, c2, c3])) fun i hil => by
          obtain ⟨cs', y, hc, ht⟩ := hi i (by omega)
          rw [hC] at hc
          obtain ⟨d0, d1, d2, d3, k, rfl, hk⟩ := ih n' (by omega) cs' _ ht
          refine ⟨k, d0, d1, d2, d3, cells_at hc (i := 0) rfl, ?_, ?_, ?_, hk⟩
          · have := cells_at hc (i := 1) (v := d1) rfl; rw [Go.Deep.add_add] at this; exact this
          · have := cells_at hc (i := 2) (v := d2) rfl; rw [Go.Deep.add_add] at this; exact this
          · have := cells_at hc (i := 3) (v := d3) rfl; rw [Go.Deep.add_add] at this; exact this
        exact ⟨_, _, _, _, .mk tag attrs s l, rfl, RdN.mk' (n := .mk tag attrs s l) hattrs ⟨some a, cap, by rw [show (PN.mk tag attrs s l).kids.length = len from h1], by rw [show (PN.mk tag attrs s l).kids.length = len from h1]; exact hl, hm, (fun h => by cases h), fun a' ha j k hk => (by cases ha; exact h2 j k hk)⟩⟩
end
section
variable {H : Type} {enc : TypeId × Value → H} {w : World} {base : Nat} {spare : Nat → Bool} {held : Bool}
end
end Go.Proofs.YtdafdoodegpdhaaDoor

namespace Go.Proofs.YtdafdoodegpdhaaDoor
open Go Go.RowKit Go.BigFrame
set_option linter.unusedVariables false
set_option linter.unusedSimpArgs false

mutual
/-- what weigh leaves, if it looks at all of it -/
def PN.light : PN → Bool
  | .mk _ a s ks => decide (s.size ≤ 20000) && decide (a.length ≤ 200) && PN.lights ks
def PN.lights : List PN → Bool
  | [] => true
  | k :: r => PN.light k && PN.lights r
end
theorem PN.light_eq (n : PN) : n.light = (decide (n.text.size ≤ 20000) && decide (n.attrs.length ≤ 200) && PN.lights n.kids) := by cases n; rfl
theorem PN.light_short : ∀ n : PN, n.light = true → n.short = true := by
  refine PN.induct _ fun n ih h => ?_
  rw [PN.light_eq] at h
  simp at h
  rw [PN.short_eq]
  have : ∀ l : List PN, (∀ k ∈ l, k ∈ n.kids) → PN.lights l = true → PN.shorts l = true := by
    intro l
    induction l with
    | nil => intro _ _; rfl
    | cons x r ih2 =>
      intro hm hl
      simp only [PN.lights, Bool.and_eq_true] at hl
      simp only [PN.shorts, Bool.and_eq_true]
      exact ⟨ih x (hm x (by simp)) hl.1, ih2 (fun k hk => hm k (by simp [hk])) hl.2⟩
  simp
  exact ⟨⟨by omega, by omega⟩, this n.kids (fun k hk => hk) h.2⟩
theorem add_pos (a : Addr) (j : Nat) (hj : 0 < j) : a.add j = ⟨a.block, a.off + j, none⟩ := by unfold Addr.add; rw [if_neg (by omega)]
end Go.Proofs.YtdafdoodegpdhaaDoor

namespace Go.Proofs.YtdafdoodegpdhaaDoor
open Go Go.RowKit Go.BigFrame
set_option linter.unusedVariables false
set_option linter.unusedSimpArgs false

def NdOk (nd : Nd) : Prop := nd.attrs.length ≤ 60000 ∧ nd.text.size ≤ 8192
def AttrsOk (T : Tr) : Prop := ∀ (i : Nat) (nd : Nd), T.nodes[i]? = some (some nd) → NdOk nd
theorem set_get {l : List (Option Nd)} {i : Nat} {x : Option Nd} {j : Nat} {nd : Nd} (h : (l.set i x)[j]? = some (some nd)) : x = some nd ∨ l[j]? = some (some nd) := by
  rw [List.getElem?_set] at h
  split at h
  · split at h
    · injection h with h; exact .inl h
    · cases h
  · exact .inr h
theorem AttrsOk.put {T : Tr} (h : AttrsOk T) (nd : Nd) (hn : NdOk nd) : AttrsOk (T.put nd) := by
  intro j x hj
  obtain ⟨n, _, h2, _, _, h5, _⟩ := T.put_at nd
  by_cases e : j = n
  · subst e
    obtain rfl := some_inj2 h2 hj
    exact hn
  · exact h j x (h5 j x e hj)
theorem AttrsOk.set2 {T : Tr} (h : AttrsOk T) {p k : Nat} {pd kd : Nd} (h1 : NdOk pd) (h2 : NdOk kd) : AttrsOk (T.set2 p k pd kd) := by
  intro j x hj
  rcases set_get hj with e | hj
  · injection e with e; subst e; exact h2
  · rcases set_get hj with e | hj
    · injection e with e; subst e; exact h1
    · exact h j x hj
section
variable {w : World} {own : Ow} {ptr : Nat → Nat} {tb : Nat} {T : Tr}
end
end Go.Proofs.YtdafdoodegpdhaaDoor

namespace Go.Proofs.YtdafdoodegpdhaaDoor
open Go Go.RowKit Go.BigFrame
set_option linter.unusedVariables false
set_option linter.unusedSimpArgs false

def d3 (i : Nat) : Nat := if i = 1 then 1 else 0
end Go.Proofs.YtdafdoodegpdhaaDoor

namespace Go.Proofs.YtdafdoodegpdhaaDoor
open Go Go.RowKit Go.BigFrame
set_option linter.unusedVariables false
set_option linter.unusedSimpArgs false

theorem attrCells_at : ∀ (l : List (ByteArray × ByteArray)) (k : Nat) (p : ByteArray × ByteArray), l[k]? = some p → (attrCells l)[k * 2]? = some (.string p.1) ∧ (attrCells l)[k * 2 + 1]? = some (.string p.2) := by
  intro l
  induction l with
  | nil => intro k p h; cases h
  | cons q r ih =>
    obtain ⟨a, b⟩ := q
    intro k p h
    cases k with
    | zero => cases h; exact ⟨rfl, rfl⟩
    | succ k =>
      have := ih k p h
      rw [show (k + 1) * 2 = k * 2 + 2 by omega]
      exact this
mutual
/-- no row of attributes is too long -/
def PN.fair : PN → Bool
  | .mk _ a _ ks => decide (a.length ≤ 60000) && PN.fairs ks
def PN.fairs : List PN → Bool
  | [] => true
  | k :: r => PN.fair k && PN.fairs r
end
theorem PN.fair_eq (n : PN) : n.fair = (decide (n.attrs.length ≤ 60000) && PN.fairs n.kids) := by cases n; rfl
theorem PN.fairs_mem {l : List PN} (h : PN.fairs l = true) {k : PN} (hk : k ∈ l) : k.fair = true := by
  induction l with
  | nil => cases hk
  | cons x r ih =>
    simp only [PN.fairs, Bool.and_eq_true] at h
    rcases List.mem_cons.1 hk with rfl | hk
    · exact h.1
    · exact ih h.2 hk
theorem PN.fairs_of {l : List PN} (h : ∀ k ∈ l, k.fair = true) : PN.fairs l = true := by
  induction l with
  | nil => rfl
  | cons x r ih =>
    simp only [PN.fairs, Bool.and_eq_true]
    exact ⟨h x (by simp), ih fun k hk => h k (by simp [hk])⟩
set_option maxRecDepth 100000 in
set_option maxHeartbeats 2000000 in
theorem SameAttrs_eq {w : World} {l : List (ByteArray × ByteArray)} {v v' : Value} (hlen : l.length ≤ 60000) (h : RowRd w 2 v l.length (attrCells l)) (h' : RowRd w 2 v' l.length (attrCells l)) :
    Calls Tryd.prog 36 #[v, v'] w (RBool true w) := by
  obtain ⟨_, ao, cap, rfl, hc, hno, hcl⟩ := h
  obtain ⟨_, ao', cap', rfl, hc', hno', hcl'⟩ := h'
  have HNO := Lib.hid hno
  have HNO' := Lib.hid hno'
  have HCL := Lib.hid hcl
  have HCL' := Lib.hid hcl'
  clear hno hno' hcl hcl'
  go_enter Tryd.func36, Tryd.ntmps36
  go_wp2_with fail
  go_loopw [5] (fun i wr => ∃ k : Nat, k ≤ l.length ∧ i = .int .i64 k ∧ Ext w wr) (fun i _ => l.length - (intOf i).toNat)
  case atStart => exact ⟨0, Nat.zero_le _, rfl, Ext.refl _⟩
  case round =>
    obtain ⟨k, hk, rfl, xr⟩ := hrel
    by_cases hkk : k < l.length
    · obtain ⟨p, hp⟩ : ∃ p, l[k]? = some p := ⟨l[k], by simp [hkk]⟩
      obtain ⟨e1, e2⟩ := attrCells_at l k p hp
      cases ao with
      | none => exact absurd (HNO.out rfl).1 (by omega)
      | some a =>
        cases ao' with
        | none => exact absurd (HNO'.out rfl).1 (by omega)
        | some a' =>
          obtain ⟨b, off, sp⟩ := a
          obtain ⟨b', off', sp'⟩ := a'
          have q0 := HCL.out _ rfl _ _ e1
          have q1 := HCL.out _ rfl _ _ e2
          have q0' := HCL'.out _ rfl _ _ e1
          have q1' := HCL'.out _ rfl _ _ e2
          rw [add_later _ _ _ (by decide)] at q1 q1'
          have XR := Lib.hid xr
          have d0 := fun u : ExtOf wr => u.ext.cells _ _ (xr.cells _ _ q0)
          have d1 := fun u : ExtOf wr => u.ext.cells _ _ (xr.cells _ _ q1)
          have d0' := fun u : ExtOf wr => u.ext.cells _ _ (xr.cells _ _ q0')
          have d1' := fun u : ExtOf wr => u.ext.cells _ _ (xr.cells _ _ q1')
          clear q0 q1 q0' q1' e1 e2 xr hp
          go_upto_region 6 with fail
          refine wp_region_ext (by kernel_rfl) (by kernel_rfl) ?_
          repeat (go_big_quiet_step (fail))
          refine wpQuiet_nil ?_
          rintro _ ⟨u, rfl⟩
          clear d0 d1 d0' d1'
          go_wp2_with fail
          go_roundw
          case rel => exact ⟨k + 1, by omega, by go_num, XR.out.trans u.ext⟩
          case measure => simp [intOf]; omega
    · go_wp2_with fail
      go_ret
      exact ⟨rfl, xr⟩
set_option maxRecDepth 100000 in
set_option maxHeartbeats 4000000 in
theorem SameNode_eq : ∀ (n : PN), n.fair = true → ∀ (w : World) (v v' : Value), RdN w n v → RdN w n v' → Calls Tryd.prog 17 #[v, v'] w (RBool true w) := by
  refine PN.induct _ fun n ih hfair w v v' h h' => ?_
  rw [PN.fair_eq] at hfair
  simp only [Bool.and_eq_true, decide_eq_true_eq] at hfair
  have hal := hfair.1
  have HF := Lib.hid hfair.2
  clear hfair
  obtain ⟨av, kv, rfl, hA, hK⟩ := h.open
  obtain ⟨av', kv', rfl, hA', hK'⟩ := h'.open
  obtain ⟨aa, acap, rfl, _⟩ := hA.len_of
  obtain ⟨aa', acap', rfl, _⟩ := hA'.len_of
  obtain ⟨ka, kcap, rfl, hkc, hkm, hkn, hk⟩ := hK
  obtain ⟨ka', kcap', rfl, hkc', hkm', hkn', hk'⟩ := hK'
  have IH := Lib.hid ih
  have HA := Lib.hid hA
  have HA' := Lib.hid hA'
  have HN := Lib.hid hkn
  have HN' := Lib.hid hkn'
  have HK := Lib.hid hk
  have HK' := Lib.hid hk'
  unfold maxLen at hkm hkm'
  clear ih hA hA' hkn hkn' hk hk' h h'
  have bM := heap_alloc_new w (.cells #[.int .i64 n.tag, .slice aa n.attrs.length acap, .string n.text, .slice ka n.kids.length kcap] 25)
  have xm := (Ext.refl w).alloc (.cells #[.int .i64 n.tag, .slice aa n.attrs.length acap, .string n.text, .slice ka n.kids.length kcap] 25)
  go_enter Tryd.func17, Tryd.ntmps17
  go_upto_region 1 with fail
  obtain ⟨wm, hwm⟩ : ∃ wm : World, wm = w.alloc (.cells #[.int .i64 n.tag, .slice aa n.attrs.length acap, .string n.text, .slice ka n.kids.length kcap] 25) := ⟨_, rfl⟩
  have hsz : wm.heap.size = w.heap.size + 1 := by rw [hwm]; simp
  rw [← hwm] at bM xm ⊢
  clear hwm
  have bM2 := heap_alloc_new wm (.cells #[.int .i64 n.tag, .slice aa' n.attrs.length acap', .string n.text, .slice ka' n.kids.length kcap'] 25)
  have xm2 := (Ext.refl wm).alloc (.cells #[.int .i64 n.tag, .slice aa' n.attrs.length acap', .string n.text, .slice ka' n.kids.length kcap'] 25)
  obtain ⟨wn, hwn⟩ : ∃ wn : World, wn = wm.alloc (.cells #[.int .i64 n.tag, .slice aa' n.attrs.length acap', .string n.text, .slice ka' n.kids.length kcap'] 25) := ⟨_, rfl⟩
  rw [← hwn] at bM2 xm2 ⊢
  clear hwn
  have b1 := (xm2.block bM)
  rw [hsz] at bM2
  have u0 := cellOf b1 (i := 0) (v := .int .i64 n.tag) rfl
  have u1 := cellOf b1 (i := 1) (v := .slice aa n.attrs.length acap) rfl
  have u2 := cellOf b1 (i := 2) (v := .string n.text) rfl
  have u3 := cellOf b1 (i := 3) (v := .slice ka n.kids.length kcap) rfl
  have t0 := cellOf bM2 (i := 0) (v := .int .i64 n.tag) rfl
  have t1 := cellOf bM2 (i := 1) (v := .slice aa' n.attrs.length acap') rfl
  have t2 := cellOf bM2 (i := 2) (v := .string n.text) rfl
  have t3 := cellOf bM2 (i := 3) (v := .slice ka' n.kids.length kcap') rfl
  have HX := Lib.hid (xm.trans xm2)
  have U3 := Lib.hid u3
  have T3 := Lib.hid t3
  clear bM xm bM2 xm2 b1
  go_wp2_with fail
  refine (SameAttrs_eq hal (HA.out.ext HX.out) (HA'.out.ext HX.out)).mono ?_
  rintro e w3 ⟨rfl, hx3⟩
  clear u0 u1 u2 u3 t0 t1 t2 t3
  have u3 := hx3.cell U3.out
  have t3 := hx3.cell T3.out
  have HX3 := Lib.hid (HX.out.trans hx3)
  clear hx3
  go_wp2_with fail
  have U3' := Lib.hid u3
  have T3' := Lib.hid t3
  clear u3 t3
  go_loopw [5] (fun i wr => ∃ k : Nat, k ≤ n.kids.length ∧ i = .int .i64 k ∧ Ext w3 wr) (fun i _ => n.kids.length - (intOf i).toNat)
  case atStart => exact ⟨0, Nat.zero_le _, rfl, Ext.refl _⟩
  case round =>
    obtain ⟨k, hk, rfl, xr⟩ := hrel
    have u3 := xr.cell U3'.out
    have t3 := xr.cell T3'.out
    have XR := Lib.hid xr
    have XW := Lib.hid (HX3.out.trans xr)
    clear xr
    by_cases hkk : k < n.kids.length
    · obtain ⟨x, hx⟩ : ∃ x, n.kids[k]? = some x := ⟨n.kids[k], by simp [hkk]⟩
      cases ka with
      | none => exact absurd (HN.out rfl).1 (by omega)
      | some a =>
        cases ka' with
        | none => exact absurd (HN'.out rfl).1 (by omega)
        | some a' =>
          obtain ⟨b, off, sp⟩ := a
          obtain ⟨b', off', sp'⟩ := a'
          obtain ⟨c0, c1, c2, c3, q0, q1, q2, q3, hr⟩ := HK.out _ rfl k x hx
          obtain ⟨c0', c1', c2', c3', q0', q1', q2', q3', hr'⟩ := HK'.out _ rfl k x hx
          obtain ⟨y1, y2, en, hy1, hy2⟩ := hr.open
          obtain ⟨y1a, y1c, ey1, _⟩ := hy1.len_of
          obtain ⟨y2a, y2c, ey2, _⟩ := hy2
          subst ey1 ey2
          cases en
          obtain ⟨z1, z2, en', hz1, hz2⟩ := hr'.open
          obtain ⟨z1a, z1c, ez1, _⟩ := hz1.len_of
          obtain ⟨z2a, z2c, ez2, _⟩ := hz2
          subst ez1 ez2
          cases en'
          rw [add_later _ _ _ (by decide)] at q1 q2 q3 q1' q2' q3'
          have X := XW.out.cells
          have d0 := fun u : ExtOf wr => u.ext.cells _ _ (X _ _ q0)
          have d1 := fun u : ExtOf wr => u.ext.cells _ _ (X _ _ q1)
          have d2 := fun u : ExtOf wr => u.ext.cells _ _ (X _ _ q2)
          have d3 := fun u : ExtOf wr => u.ext.cells _ _ (X _ _ q3)
          have d0' := fun u : ExtOf wr => u.ext.cells _ _ (X _ _ q0')
          have d1' := fun u : ExtOf wr => u.ext.cells _ _ (X _ _ q1')
          have d2' := fun u : ExtOf wr => u.ext.cells _ _ (X _ _ q2')
          have d3' := fun u : ExtOf wr => u.ext.cells _ _ (X _ _ q3')
          have du := fun u : ExtOf wr => u.ext.cell u3
          have dt := fun u : ExtOf wr => u.ext.cell t3
          have CALL := Lib.hid (show ∀ u : ExtOf wr, Calls Tryd.prog 17 #[_, _] u.val (RBool true u.val) from fun u => IH.out x (List.mem_of_getElem? hx) (PN.fairs_mem HF.out (List.mem_of_getElem? hx)) u.val _ _ (hr.cells (XW.out.trans u.ext).cells) (hr'.cells (XW.out.trans u.ext).cells))
          clear q0 q1 q2 q3 q0' q1' q2' q3' X hr hr' hy1 hz1 hx
          go_upto_region 6 with fail
          refine wp_region_ext (by kernel_rfl) (by kernel_rfl) ?_
          repeat (go_big_quiet_step ((go_at_call 17; exact inExt (CALL.out _))))
          refine wpQuiet_nil ?_
          rintro _ ⟨u, rfl⟩
          clear d0 d1 d2 d3 d0' d1' d2' d3' du dt u3 t3
          go_wp2_with fail
          go_roundw
          case rel => exact ⟨k + 1, by omega, by go_num, XR.out.trans u.ext⟩
          case measure => simp [intOf]; omega
    · go_wp2_with fail
      go_ret
      exact ⟨rfl, XW.out⟩
end Go.Proofs.YtdafdoodegpdhaaDoor

namespace Go.Proofs.YtdafdoodegpdhaaDoor
open Go Go.RowKit Go.BigFrame
set_option linter.unusedVariables false
set_option linter.unusedSimpArgs false

abbrev noNode0 : Value := .agg #[.int .i64 0, .slice none 0 0, .string ⟨#[]⟩, .slice none 0 0]
/-- a plain tree in new memory is returned -/
def PlainIs (n : PN) (w : World) (e : Ending) (w' : World) : Prop := ∃ v g, e = .returned v ∧ RdN g n v ∧ Ext w w' ∧ ∀ q x, g.cell? q = some x → w'.cell? q = some x ∧ w.heap.size ≤ q.block
/-- the box of the plain node: its four cells -/
def PlainBox (w0 wx : World) (b : Nat) (tag : Int) (attrs : List (ByteArray × ByteArray)) (text : ByteArray) : Prop := ∃ aa acap, wx.heap[b]? = some (.cells #[.int .i64 tag, .slice aa attrs.length acap, .string text, .slice none 0 0] 25 (0, 0)) ∧
  RowP wx (fun g => w0.heap.size ≤ g ∧ g ≠ b) 55 2 (.slice aa attrs.length acap) attrs.length (attrCells attrs)
/-- what is told at the loop's head: k kids stand in the row; a reading world tells the row of attributes and the kids -/
structure PlainAt (w1 wr : World) (b : Nat) (nd : Nd) (F : Int → PN) (aa : Option Addr) (acap k : Nat) : Prop where
  ext : Ext w1 wr
  row : ∃ kv xs g, wr.heap[b]? = some (.cells #[.int .i64 nd.tag, .slice aa nd.attrs.length acap, .string nd.text, kv] 25 (0, 0)) ∧ RowP wr (fun x => w1.heap.size ≤ x ∧ x ≠ b) 25 4 kv k xs ∧ (∀ y, kv.ownBlock = some y → y < wr.heap.size) ∧
    RowRd g 2 (.slice aa nd.attrs.length acap) nd.attrs.length (attrCells nd.attrs) ∧
    (∀ (j : Nat) (x : Int), j < k → nd.kids[j]? = some x → ∃ c0 c1 c2 c3, xs[j * 4]? = some c0 ∧ xs[j * 4 + 1]? = some c1 ∧ xs[j * 4 + 2]? = some c2 ∧ xs[j * 4 + 3]? = some c3 ∧ RdN g (F x) (.agg #[c0, c1, c2, c3])) ∧
    ∀ q x, g.cell? q = some x → wr.cell? q = some x ∧ w1.heap.size ≤ q.block ∧ q.block ≠ b ∧ kv.ownBlock ≠ some q.block
theorem PlainBox.at {w1 wx : World} {b : Nat} {nd : Nd} (F : Int → PN) (h : PlainBox w1 wx b nd.tag nd.attrs nd.text) (x : Ext w1 wx) :
    ∃ aa acap, PlainAt w1 wx b nd F aa acap 0 := by
  obtain ⟨aa, acap, hb, hr⟩ := h
  refine ⟨aa, acap, x, .slice none 0 0, [], hide (fun y => if w1.heap.size ≤ y ∧ y ≠ b then none else some (0, 0)) wx, hb, ⟨rfl, .inl ⟨rfl, none, rfl⟩⟩, (fun y e => by cases e), ?_, fun j x hj => by omega, fun q y hq => ?_⟩
  · have hr' := hr
    obtain ⟨h1, h2⟩ := hr
    obtain ⟨h3, ao, cap, h4, h5, h6, h7⟩ := hr'.rd
    refine ⟨h3, ao, cap, h4, h5, h6, fun a ha j x hx => ?_⟩
    refine hide_cell (h7 a ha j x hx) ?_
    rcases h2 with ⟨h8, a8, h9⟩ | ⟨g, cap', cur, h8, h9, _⟩
    · rw [h8] at h1
      have h0 : attrCells nd.attrs = [] := List.eq_nil_of_length_eq_zero (by omega)
      rw [h0] at hx
      simp at hx
    · rw [h4] at h8
      cases h8
      cases ha
      rw [Addr.add_lit]
      exact if_pos h9
  · obtain ⟨h1, h2⟩ := hide_apart _ _ q y hq
    dsimp only at h2
    split at h2
    · rename_i h3
      exact ⟨h1, h3.1, h3.2, fun e => by cases e⟩
    · cases h2
theorem PlainAt.step {w1 wr wk cw wA : World} {b : Nat} {nd : Nd} {F : Int → PN} {aa : Option Addr} {acap k : Nat} {kv v' : Value} {xs : List Value} {g g' : World} {x : Int} {c0 c1 c2 c3 : Value} {row : Option Nat}
    (hx : Ext w1 wr) (hb : wr.heap[b]? = some (.cells #[.int .i64 nd.tag, .slice aa nd.attrs.length acap, .string nd.text, kv] 25 (0, 0))) (hb1 : w1.heap.size ≤ b)
    (hr : RowP wr (fun x => w1.heap.size ≤ x ∧ x ≠ b) 25 4 kv k xs) (hkb : ∀ y, kv.ownBlock = some y → y < wr.heap.size) (ha : RowRd g 2 (.slice aa nd.attrs.length acap) nd.attrs.length (attrCells nd.attrs))
    (hk : ∀ (j : Nat) (x : Int), j < k → nd.kids[j]? = some x → ∃ c0 c1 c2 c3, xs[j * 4]? = some c0 ∧ xs[j * 4 + 1]? = some c1 ∧ xs[j * 4 + 2]? = some c2 ∧ xs[j * 4 + 3]? = some c3 ∧ RdN g (F x) (.agg #[c0, c1, c2, c3]))
    (hg : ∀ q x, g.cell? q = some x → wr.cell? q = some x ∧ w1.heap.size ≤ q.block ∧ q.block ≠ b ∧ kv.ownBlock ≠ some q.block)
    (hn : nd.kids[k]? = some x) (hxk : Ext wr wk) (hr' : RdN g' (F x) (.agg #[c0, c1, c2, c3])) (hg' : ∀ q y, g'.cell? q = some y → wk.cell? q = some y ∧ wr.heap.size ≤ q.block)
    (hxc : Ext wk cw) (hA : RowP wA (fun y => (w1.heap.size ≤ y ∧ y ≠ b ∧ kv.ownBlock = some y) ∨ cw.heap.size ≤ y) 25 4 v' (k + 1) (xs ++ [c0, c1, c2, c3])) (hgA : cw.grownBy wA row) (hrow : ∀ z, row = some z → w1.heap.size ≤ z ∧ z ≠ b ∧ kv.ownBlock = some z) :
    PlainAt w1 (wA.setCell ⟨b, 3, none⟩ v') b nd F aa acap (k + 1) := by
  have hbl : b < wr.heap.size := (Array.getElem?_eq_some_iff.1 hb).1
  have hxc2 : Ext wr cw := hxk.trans hxc
  have hs1 := Ext.size hx
  have hs2 := Ext.size hxk
  have hs3 := Ext.size hxc
  have hlen : xs.length = k * 4 := hr.1
  have hbA : wA.heap[b]? = some (.cells #[.int .i64 nd.tag, .slice aa nd.attrs.length acap, .string nd.text, kv] 25 (0, 0)) := by
    rw [hgA.block b (by omega) (fun e => (hrow b e.symm).2.1 rfl)]
    exact hxc2.block hb
  -- a cell of a block that is neither b nor the rows' own
  have keep : ∀ q y, cw.cell? q = some y → q.block ≠ b → kv.ownBlock ≠ some q.block → (wA.setCell ⟨b, 3, none⟩ v').cell? q = some y := fun q y hq h1 h2 => by
    have hl := World.block_lt_of_cell? cw q hq
    have e1 : wA.cell? q = some y := (World.cell?_of_block (hgA.block q.block hl (fun e => h2 (hrow q.block e.symm).2.2))).trans hq
    exact (World.cell?_of_block (heap_setCell_other (p := ⟨b, 3, none⟩) _ h1)).trans e1
  have vown : ∀ y, v'.ownBlock = some y → (w1.heap.size ≤ y ∧ y ≠ b ∧ kv.ownBlock = some y) ∨ cw.heap.size ≤ y := fun y hy => by
    rcases hA.2 with ⟨h0, _⟩ | ⟨gb, cap, cur, h8, h9, _⟩
    · omega
    · rw [h8] at hy; cases hy; exact h9
  have hkey : ∀ q y, cw.cell? q = some y → w1.heap.size ≤ q.block → q.block ≠ b → kv.ownBlock ≠ some q.block → (hide (fun y => if w1.heap.size ≤ y ∧ y ≠ b ∧ v'.ownBlock ≠ some y then none else some (0, 0)) (wA.setCell ⟨b, 3, none⟩ v')).cell? q = some y := fun q y hq h0 h1 h2 => by
    refine hide_cell (keep q y hq h1 h2) (if_pos ⟨h0, h1, fun e => ?_⟩)
    rcases vown _ e with h | h
    · exact h2 h.2.2
    · have := World.block_lt_of_cell? cw q hq; omega
  have cg : Cells g (hide (fun y => if w1.heap.size ≤ y ∧ y ≠ b ∧ v'.ownBlock ≠ some y then none else some (0, 0)) (wA.setCell ⟨b, 3, none⟩ v')) := fun q y hq => by
    obtain ⟨h1, h2, h3, h4⟩ := hg q y hq
    exact hkey q y (hxc2.cells _ _ h1) h2 h3 h4
  have cg' : Cells g' (hide (fun y => if w1.heap.size ≤ y ∧ y ≠ b ∧ v'.ownBlock ≠ some y then none else some (0, 0)) (wA.setCell ⟨b, 3, none⟩ v')) := fun q y hq => by
    obtain ⟨h1, h2⟩ := hg' q y hq
    exact hkey q y (hxc.cells _ _ h1) (by omega) (by omega) fun e => by have := hkb _ e; omega
  refine ⟨?_, v', xs ++ [c0, c1, c2, c3], _, ?_, ?_, fun y hy => ?_, ha.cells cg, fun j z hj hz => ?_, fun q y hq => ?_⟩
  · refine Ext.setCell ((hx.trans hxc2).grown hgA fun z hz => (hrow z hz).1) hb1 _
  · have e := heap_setCell_same (i := 3) hbA v'
    rw [e]; rfl
  · refine RowP.move hA fun gb hgb => ⟨heap_setCell_other (p := ⟨b, 3, none⟩) _ ?_, ?_⟩
    · rcases hgb with h | h
      · exact h.2.1
      · show gb ≠ b; omega
    · rcases hgb with h | h
      · exact ⟨h.1, h.2.1⟩
      · exact ⟨by omega, by omega⟩
  · rcases hA.2 with ⟨h0, _⟩ | ⟨gb, cap, cur, h8, h9, h10, _⟩
    · omega
    · rw [h8] at hy; cases hy
      have := (Array.getElem?_eq_some_iff.1 h10).1
      simpa [World.setCell] using this
  · by_cases e : j = k
    · subst e
      rw [hn] at hz
      cases hz
      refine ⟨c0, c1, c2, c3, ?_, ?_, ?_, ?_, hr'.cells cg'⟩ <;> simp [← hlen]
    · obtain ⟨d0, d1, d2, d3, q0, q1, q2, q3, hq⟩ := hk j z (by omega) hz
      exact ⟨d0, d1, d2, d3, by rw [List.getElem?_append_left (by omega)]; exact q0, by rw [List.getElem?_append_left (by omega)]; exact q1, by rw [List.getElem?_append_left (by omega)]; exact q2, by rw [List.getElem?_append_left (by omega)]; exact q3, hq.cells cg⟩
  · obtain ⟨h1, h2⟩ := hide_apart _ _ q y hq
    dsimp only at h2
    split at h2
    · rename_i h3
      exact ⟨h1, h3.1, h3.2.1, h3.2.2⟩
    · cases h2
theorem infoN : (Tryd.prog.info? 25).map (fun i => (i.zero, i.size, i.bytes)) = some (some noNode0, 4, 72) := by kernel_rfl
theorem cells_four {w : World} {b : Nat} {c0 c1 c2 c3 : Value} {t : TypeId} (h : w.heap[b]? = some (.cells #[c0, c1, c2, c3] t (0, 0))) : ∀ (j : Nat) u, [c0, c1, c2, c3][j]? = some u → w.cell? (Addr.add ⟨b, 0, none⟩ j) = some u := by
  intro j u hu
  rw [Addr.add_lit, Nat.zero_add]
  refine cellOf h ?_
  simpa using hu
end Go.Proofs.YtdafdoodegpdhaaDoor

namespace Go.Proofs.YtdafdoodegpdhaaDoor
open Go Go.RowKit Go.BigFrame
set_option linter.unusedVariables false
set_option linter.unusedSimpArgs false

end Go.Proofs.YtdafdoodegpdhaaDoor

namespace Go.Proofs.YtdafdoodegpdhaaDoor
open Go Go.RowKit Go.BigFrame
set_option linter.unusedVariables false
set_option linter.unusedSimpArgs false

theorem PN.light_fair : ∀ n : PN, n.light = true → n.fair = true := by
  refine PN.induct _ fun n ih h => ?_
  rw [PN.light_eq] at h
  simp only [Bool.and_eq_true, decide_eq_true_eq] at h
  rw [PN.fair_eq]
  simp only [Bool.and_eq_true, decide_eq_true_eq]
  refine ⟨by omega, PN.fairs_of fun k hk => ih k hk ?_⟩
  have : ∀ l : List PN, PN.lights l = true → k ∈ l → k.light = true := by
    intro l
    induction l with
    | nil => intro _ h; cases h
    | cons x r ih2 =>
      intro hl hm
      simp only [PN.lights, Bool.and_eq_true] at hl
      rcases List.mem_cons.1 hm with rfl | hm
      · exact hl.1
      · exact ih2 hl.2 hm
  exact this n.kids h.2 hk
end Go.Proofs.YtdafdoodegpdhaaDoor

namespace Go.Proofs.YtdafdoodegpdhaaDoor
open Go Go.RowKit Go.BigFrame
set_option linter.unusedVariables false
set_option linter.unusedSimpArgs false

theorem set_same {α : Type} {l : List α} {i : Nat} {x : α} (h : l[i]? = some x) : l.set i x = l := by
  obtain ⟨hlt, rfl⟩ := List.getElem?_eq_some_iff.1 h
  exact List.set_getElem_self hlt
/-- two nodes turned twice -/
theorem Tr.set2_set2 (T : Tr) {p k : Nat} (hpk : p ≠ k) (pd kd pd' kd' : Nd) : (T.set2 p k pd' kd').set2 p k pd kd = T.set2 p k pd kd := by
  unfold Tr.set2
  simp only [Tr.mk.injEq, true_and]
  rw [List.set_comm _ _ (Ne.symm hpk), List.set_set, List.set_set]
theorem Tr.set2_self {T : Tr} {p k : Nat} (hpk : p ≠ k) {pd kd : Nd} (hp : T.nodes[p]? = some (some pd)) (hk : T.nodes[k]? = some (some kd)) : T.set2 p k pd kd = T := by
  show { T with nodes := (T.nodes.set p (some pd)).set k (some kd) } = T
  rw [set_same hp, set_same hk]
theorem mid_erase {l : List Int} (hn : l.Nodup) {x : Int} (hx : x ∈ l) : (l.erase x).take (l.idxOf x) ++ [x] ++ (l.erase x).drop (l.idxOf x) = l := by
  have hlt : l.idxOf x < l.length := List.idxOf_lt_length_of_mem hx
  rw [List.erase_eq_eraseIdx_of_idxOf rfl, List.eraseIdx_eq_take_drop_succ]
  generalize hi : l.idxOf x = i at *
  have hx : l[i] = x := by subst hi; exact List.getElem_idxOf hlt
  have ht : (l.take i).length = i := by rw [List.length_take]; omega
  rw [List.take_append_of_le_length (by omega), List.take_of_length_le (by omega), List.drop_append_of_le_length (by omega), List.drop_of_length_le (by omega), List.nil_append, ← hx, List.append_assoc]
  simp
/-- taken off and hung up again -/
theorem Tr.link_unlink {T : Tr} {p k : Nat} {pd kd : Nd} (hp : T.nodes[p]? = some (some pd)) (hk : T.nodes[k]? = some (some kd)) (hpk : p ≠ k) (hpar : kd.parent = (p : Int)) (hn : pd.kids.Nodup) (hin : (k : Int) ∈ pd.kids) :
    (T.unlink p k pd kd).link p (pd.kids.idxOf (k : Int)) k { pd with kids := pd.kids.erase (k : Int) } { kd with parent := -1 } = T := by
  rw [Tr.link_eq]
  unfold Tr.unlink
  rw [Tr.set2_set2 _ hpk]
  have e1 : ({ pd with kids := (pd.kids.erase (k : Int)).take (pd.kids.idxOf (k : Int)) ++ [(k : Int)] ++ (pd.kids.erase (k : Int)).drop (pd.kids.idxOf (k : Int)) } : Nd) = pd := by rw [mid_erase hn hin]
  have e2 : ({ kd with parent := (p : Int) } : Nd) = kd := by rw [← hpar]
  show T.set2 p k { pd with kids := (pd.kids.erase (k : Int)).take (pd.kids.idxOf (k : Int)) ++ [(k : Int)] ++ (pd.kids.erase (k : Int)).drop (pd.kids.idxOf (k : Int)) } { kd with parent := (p : Int) } = T
  rw [e1, e2]
  exact Tr.set2_self hpk hp hk
/-- what lies within a node stays, whoever else is turned -/
theorem WF.plain_set2 {T : Tr} {d : Nat → Nat} (hw : WF T d) {p k : Nat} {pd kd pd' : Nd} {q : Int} (hp : T.nodes[p]? = some (some pd)) (hk : T.nodes[k]? = some (some kd)) (hin : T.within p k = false) :
    (T.set2 p k pd' { kd with parent := q }).plain k = T.plain k ∧ (T.set2 p k pd' { kd with parent := q }).height k = T.height k := by
  refine pln_same hw (o := k) (fun j jd hj hjk => ?_) hk 50 k kd hk (hw.within_self hk)
  rw [Tr.set2_get hp hk]
  by_cases h1 : j = k
  · subst h1
    obtain rfl := some_inj2 hk hj
    exact ⟨_, if_pos rfl, rfl, rfl, rfl, rfl⟩
  · rw [if_neg h1]
    by_cases h2 : j = p
    · subst h2; rw [hjk] at hin; cases hin
    · rw [if_neg h2]; exact ⟨jd, hj, rfl, rfl, rfl, rfl⟩
theorem fold_top (F : Int → Int) (b : Int) : ∀ (l : List Int) (z : Int), z ≤ b → (∀ k ∈ l, F k ≤ b) → l.foldl (fun h k => max h (F k)) z ≤ b := by
  intro l
  induction l with
  | nil => intro z hz _; exact hz
  | cons k r ih =>
    intro z hz hk
    have := hk k (by simp)
    exact ih _ (show max z (F k) ≤ b by omega) fun x hx => hk x (by simp [hx])
/-- the deepest within a node is not too deep -/
theorem WF.high_deep {T : Tr} {d : Nat → Nat} (hw : WF T d) : ∀ (f i : Nat) (nd : Nd), T.nodes[i]? = some (some nd) → (d i : Int) + T.hgt f i ≤ T.deep := by
  intro f
  induction f with
  | zero => intro i nd h; have := hw.deep i nd h; show (d i : Int) + 0 ≤ T.deep; omega
  | succ f ih =>
    intro i nd h
    rw [hgt_step T f h]
    have := hw.deep i nd h
    have := fold_top (fun k => T.hgt f k + 1) (T.deep - d i) nd.kids 0 (by omega) fun k hk => by
      obtain ⟨n, hn⟩ := List.getElem?_of_mem hk
      obtain ⟨j, kd, rfl, hj, hjp, hjd⟩ := hw.kid h hn
      have := ih j kd hj
      show T.hgt f j + 1 ≤ T.deep - d i
      omega
    omega
/-- a parent is not within its kid -/
theorem WF.up_out {T : Tr} {d : Nat → Nat} (hw : WF T d) {p k : Nat} {pd kd : Nd} (hp : T.nodes[p]? = some (some pd)) (hk : T.nodes[k]? = some (some kd)) (hpar : kd.parent = (p : Int)) : T.within p k = false ∧ d k = d p + 1 ∧ (k : Int) ∈ pd.kids ∧ p ≠ k := by
  have hd : d k = d p + 1 ∧ (k : Int) ∈ pd.kids := by
    rcases hw.up k kd hk with ⟨h3, h4⟩ | ⟨q, qd, h3, h4, h5, h6⟩
    · omega
    · obtain rfl : q = p := by omega
      obtain rfl := some_inj2 hp h4
      exact ⟨h5, h6⟩
  refine ⟨?_, hd.1, hd.2, fun e => by subst e; omega⟩
  cases hin : T.within p k with
  | false => rfl
  | true => have := (hw.within_depth p pd hp hin).1; omega
end Go.Proofs.YtdafdoodegpdhaaDoor

namespace Go.Proofs.YtdafdoodegpdhaaDoor
open Go Go.RowKit Go.BigFrame
set_option linter.unusedVariables false
set_option linter.unusedSimpArgs false

/-- the four cells of kid number j -/
def four (cur : Array Value) (j : Nat) : Value := .agg #[cur[j * 4]?.getD undef, cur[j * 4 + 1]?.getD undef, cur[j * 4 + 2]?.getD undef, cur[j * 4 + 3]?.getD undef]
inductive OwnN (ga w : World) : PN → Value → (Nat → Prop) → Prop
  | leaf (n : PN) (av kv : Value) (F : Nat → Prop) (ha : RowRd ga 2 av n.attrs.length (attrCells n.attrs)) (h0 : n.kids = []) (hk : ∃ a, kv = .slice a 0 0) : OwnN ga w n (.agg #[.int .i64 n.tag, av, .string n.text, kv]) F
  | node (n : PN) (av : Value) (b cap : Nat) (cur : Array Value) (F : Nat → Prop) (G : Nat → Nat → Prop) (ha : RowRd ga 2 av n.attrs.length (attrCells n.attrs)) (hb : w.heap[b]? = some (.cells cur 25 (0, 0))) (hl : n.kids.length ≤ cap) (hm : cap ≤ maxLen) (hs : cur.size = cap * 4)
      (hk : ∀ (j : Nat) (k : PN), n.kids[j]? = some k → OwnN ga w k (four cur j) (G j)) (hFb : F b) (hG : ∀ j x, j < n.kids.length → G j x → F x ∧ x ≠ b) (hd : ∀ i j x, i < n.kids.length → j < n.kids.length → i ≠ j → G i x → ¬ G j x) : OwnN ga w n (.agg #[.int .i64 n.tag, av, .string n.text, .slice (some ⟨b, 0, none⟩) n.kids.length cap]) F
theorem OwnN.keep {ga w w' : World} {n : PN} {v : Value} {F : Nat → Prop} (h : OwnN ga w n v F) : (∀ b o, F b → w.heap[b]? = some o → w'.heap[b]? = some o) → OwnN ga w' n v F := by
  induction h with
  | leaf n av kv F ha h0 hk => exact fun _ => .leaf n av kv F ha h0 hk
  | node n av b cap cur F G ha hb hl hm hs hk hFb hG hd ih =>
    intro k
    exact .node n av b cap cur F G ha (k b _ hFb hb) hl hm hs (fun j x hx => ih j x hx fun b o hb => k b o (hG j b (List.getElem?_eq_some_iff.1 hx).1 hb).1) hFb hG hd
theorem OwnN.more {ga ga' w : World} {n : PN} {v : Value} {F : Nat → Prop} (h : OwnN ga w n v F) (k : Cells ga ga') : OwnN ga' w n v F := by
  induction h with
  | leaf n av kv F ha h0 hk => exact .leaf n av kv F (ha.cells k) h0 hk
  | node n av b cap cur F G ha hb hl hm hs hk hFb hG hd ih => exact .node n av b cap cur F G (ha.cells k) hb hl hm hs (fun j x hx => ih j x hx) hFb hG hd
theorem four_at {cur : Array Value} {cap j : Nat} (hs : cur.size = cap * 4) (hj : j < cap) : ∃ c0 c1 c2 c3, four cur j = .agg #[c0, c1, c2, c3] ∧ cur[j * 4]? = some c0 ∧ cur[j * 4 + 1]? = some c1 ∧ cur[j * 4 + 2]? = some c2 ∧ cur[j * 4 + 3]? = some c3 := by
  have h0 : j * 4 < cur.size := by omega
  have h1 : j * 4 + 1 < cur.size := by omega
  have h2 : j * 4 + 2 < cur.size := by omega
  have h3 : j * 4 + 3 < cur.size := by omega
  refine ⟨cur[j * 4], cur[j * 4 + 1], cur[j * 4 + 2], cur[j * 4 + 3], ?_, ?_, ?_, ?_, ?_⟩
  · unfold four
    rw [Array.getElem?_eq_getElem h0, Array.getElem?_eq_getElem h1, Array.getElem?_eq_getElem h2, Array.getElem?_eq_getElem h3]; rfl
  · exact Array.getElem?_eq_getElem h0
  · exact Array.getElem?_eq_getElem h1
  · exact Array.getElem?_eq_getElem h2
  · exact Array.getElem?_eq_getElem h3
/-- it reads as the plain tree -/
theorem OwnN.rd {ga w g : World} {B : Nat} {n : PN} {v : Value} {F : Nat → Prop} (h : OwnN ga w n v F) (hga : Cells ga g) (hc : ∀ q y, w.cell? q = some y → B ≤ q.block → g.cell? q = some y) : (∀ x, F x → B ≤ x) → RdN g n v := by
  induction h with
  | leaf n av kv F ha h0 hk =>
    intro _
    obtain ⟨a, rfl⟩ := hk
    refine RdN.mk' (ha.cells hga) ⟨a, 0, by rw [h0]; rfl, by rw [h0]; exact Nat.le_refl _, Nat.zero_le _, fun _ => ⟨by rw [h0]; rfl, rfl⟩, fun a ha j k hk => ?_⟩
    rw [h0] at hk; simp at hk
  | node n av b cap cur F G ha hb hl hm hs hk hFb hG hd ih =>
    intro hF
    refine RdN.mk' (ha.cells hga) ⟨_, cap, rfl, hl, hm, (fun e => by cases e), fun a ha' j k hk' => ?_⟩
    cases ha'
    have hj := (List.getElem?_eq_some_iff.1 hk').1
    obtain ⟨c0, c1, c2, c3, e, q0, q1, q2, q3⟩ := four_at hs (show j < cap by omega)
    have hr := ih j k hk' fun x hx => hF x (hG j x hj hx).1
    rw [e] at hr
    have cell : ∀ (m : Nat) z, cur[m]? = some z → g.cell? (Addr.add ⟨b, 0, none⟩ m) = some z := fun m z hz => by
      rw [Addr.add_lit, Nat.zero_add]
      exact hc ⟨b, m, none⟩ z (cellOf hb hz) (hF b hFb)
    exact ⟨c0, c1, c2, c3, cell _ _ q0, cell _ _ q1, cell _ _ q2, cell _ _ q3, hr⟩
theorem OwnN.shape {ga w : World} {n : PN} {v : Value} {F : Nat → Prop} (h : OwnN ga w n v F) : ∃ a ac k kc, v = .agg #[.int .i64 n.tag, .slice a n.attrs.length ac, .string n.text, .slice k n.kids.length kc] := by
  cases h with
  | leaf n av kv F ha h0 hk =>
    obtain ⟨a, ac, rfl, _⟩ := ha.len_of
    obtain ⟨k, rfl⟩ := hk
    exact ⟨a, ac, k, 0, by rw [h0]; rfl⟩
  | node n av b cap cur F G ha hb hl hm hs hk hFb hG hd =>
    obtain ⟨a, ac, rfl, _⟩ := ha.len_of
    exact ⟨a, ac, _, cap, rfl⟩
/-- what is copied into new memory -/
def CopyNIs (n : PN) (w : World) (e : Ending) (w' : World) : Prop :=
  ∃ v F ga, e = .returned v ∧ OwnN ga w' n v F ∧ Ext w w' ∧ (∀ x, F x → w.heap.size ≤ x ∧ x < w'.heap.size) ∧ ∀ q y, ga.cell? q = some y → w'.cell? q = some y ∧ w.heap.size ≤ q.block ∧ ¬ F q.block
theorem CopyNIs.plain {n : PN} {w w' : World} {e : Ending} (h : CopyNIs n w e w') : PlainIs n w e w' := by
  obtain ⟨v, F, ga, rfl, ho, hx, hF, hg⟩ := h
  refine ⟨v, hide (fun x => if x < w.heap.size then some (0, 0) else none) w', rfl, ho.rd (B := w.heap.size) (fun q y hq => hide_cell (hg q y hq).1 (if_neg (by have := (hg q y hq).2.1; omega))) (fun q y hq hb => hide_cell hq (if_neg (by omega))) (fun x hx => (hF x hx).1), hx, fun q y hq => ?_⟩
  obtain ⟨h1, h2⟩ := hide_apart _ _ q y hq
  dsimp only at h2
  split at h2
  · cases h2
  · exact ⟨h1, by omega⟩
/-- the loop of CopyNode: k kids are copied -/
structure CopNAt (w1 wr : World) (n : PN) (av lv : Value) (k : Nat) : Prop where
  ext : Ext w1 wr
  row : ∃ (xs : List Value) (ga : World) (G : Nat → Nat → Prop), RowP wr (fun x => w1.heap.size ≤ x) 25 4 lv k xs ∧ (∀ y, lv.ownBlock = some y → w1.heap.size ≤ y ∧ y < wr.heap.size) ∧ RowRd ga 2 av n.attrs.length (attrCells n.attrs) ∧
    (∀ (j : Nat) (x : PN), j < k → n.kids[j]? = some x → ∃ c0 c1 c2 c3, xs[j * 4]? = some c0 ∧ xs[j * 4 + 1]? = some c1 ∧ xs[j * 4 + 2]? = some c2 ∧ xs[j * 4 + 3]? = some c3 ∧ OwnN ga wr x (.agg #[c0, c1, c2, c3]) (G j)) ∧
    (∀ j x, j < k → G j x → w1.heap.size ≤ x ∧ x < wr.heap.size ∧ lv.ownBlock ≠ some x) ∧ (∀ i j x, i < k → j < k → i ≠ j → G i x → ¬ G j x) ∧
    ∀ q y, ga.cell? q = some y → wr.cell? q = some y ∧ w1.heap.size ≤ q.block ∧ lv.ownBlock ≠ some q.block ∧ ∀ j, j < k → ¬ G j q.block
theorem CopNAt.init {w1 wr : World} {n : PN} {av : Value} (hx : Ext w1 wr) (h : RowP wr (fun x => w1.heap.size ≤ x) 55 2 av n.attrs.length (attrCells n.attrs)) : CopNAt w1 wr n av (.slice none 0 0) 0 := by
  have hr := h.rd
  refine ⟨hx, [], hide (fun y => if w1.heap.size ≤ y then none else some (0, 0)) wr, fun _ _ => False, ⟨rfl, .inl ⟨rfl, none, rfl⟩⟩, (fun y e => by cases e), ?_, fun j x hj => by omega, fun j x hj => by omega, fun i j x hi => by omega, fun q y hq => ?_⟩
  · obtain ⟨h3, ao, cap, h4, h5, h6, h7⟩ := hr
    refine ⟨h3, ao, cap, h4, h5, h6, fun a ha j x hx => hide_cell (h7 a ha j x hx) ?_⟩
    rcases h.2 with ⟨h8, a8, h9⟩ | ⟨g, cap', cur, h8, h9, _⟩
    · have h0 : attrCells n.attrs = [] := List.eq_nil_of_length_eq_zero (by omega)
      rw [h0] at hx; simp at hx
    · rw [h4] at h8
      cases h8
      cases ha
      rw [Addr.add_lit]
      exact if_pos h9
  · obtain ⟨h1, h2⟩ := hide_apart _ _ q y hq
    dsimp only at h2
    split at h2
    · rename_i h3
      exact ⟨h1, h3, (fun e => by cases e), fun j hj => by omega⟩
    · cases h2
open Classical in
theorem CopNAt.step {w1 wr wk cw wA : World} {n : PN} {av lv v' : Value} {k : Nat} {xs : List Value} {ga ga' : World} {G : Nat → Nat → Prop} {F' : Nat → Prop} {x : PN} {c0 c1 c2 c3 : Value} {row : Option Nat}
    (hx : Ext w1 wr) (hr : RowP wr (fun x => w1.heap.size ≤ x) 25 4 lv k xs) (hlb : ∀ y, lv.ownBlock = some y → w1.heap.size ≤ y ∧ y < wr.heap.size) (ha : RowRd ga 2 av n.attrs.length (attrCells n.attrs))
    (hk : ∀ (j : Nat) (x : PN), j < k → n.kids[j]? = some x → ∃ c0 c1 c2 c3, xs[j * 4]? = some c0 ∧ xs[j * 4 + 1]? = some c1 ∧ xs[j * 4 + 2]? = some c2 ∧ xs[j * 4 + 3]? = some c3 ∧ OwnN ga wr x (.agg #[c0, c1, c2, c3]) (G j))
    (hG : ∀ j x, j < k → G j x → w1.heap.size ≤ x ∧ x < wr.heap.size ∧ lv.ownBlock ≠ some x) (hd : ∀ i j x, i < k → j < k → i ≠ j → G i x → ¬ G j x)
    (hg : ∀ q y, ga.cell? q = some y → wr.cell? q = some y ∧ w1.heap.size ≤ q.block ∧ lv.ownBlock ≠ some q.block ∧ ∀ j, j < k → ¬ G j q.block)
    (hn : n.kids[k]? = some x) (hxk : Ext wr wk) (ho : OwnN ga' wk x (.agg #[c0, c1, c2, c3]) F') (hF : ∀ x, F' x → wr.heap.size ≤ x ∧ x < wk.heap.size) (hg' : ∀ q y, ga'.cell? q = some y → wk.cell? q = some y ∧ wr.heap.size ≤ q.block ∧ ¬ F' q.block)
    (hxc : Ext wk cw) (hA : RowP wA (fun y => (w1.heap.size ≤ y ∧ lv.ownBlock = some y) ∨ cw.heap.size ≤ y) 25 4 v' (k + 1) (xs ++ [c0, c1, c2, c3])) (hgA : cw.grownBy wA row) (hrow : ∀ z, row = some z → w1.heap.size ≤ z ∧ lv.ownBlock = some z) :
    CopNAt w1 wA n av v' (k + 1) := by
  have hs1 := Ext.size hx
  have hs2 := Ext.size hxk
  have hs3 := Ext.size hxc
  have hs4 := hgA.size
  have hlen : xs.length = k * 4 := hr.1
  have vown : ∀ y, v'.ownBlock = some y → (w1.heap.size ≤ y ∧ lv.ownBlock = some y) ∨ cw.heap.size ≤ y := fun y hy => by
    rcases hA.2 with ⟨h0, _⟩ | ⟨gb, cap, cur, h8, h9, _⟩
    · omega
    · rw [h8] at hy; cases hy; exact h9
  have kb : ∀ (y : Nat) (o : Obj), cw.heap[y]? = some o → lv.ownBlock ≠ some y → wA.heap[y]? = some o := fun y o hy hn => by
    rw [hgA.block y (Array.getElem?_eq_some_iff.1 hy).1 (fun e => hn (hrow y e.symm).2)]; exact hy
  have kc : ∀ q y, cw.cell? q = some y → lv.ownBlock ≠ some q.block → wA.cell? q = some y := fun q y hq h2 =>
    (World.cell?_of_block (hgA.block q.block (World.block_lt_of_cell? cw q hq) (fun e => h2 (hrow q.block e.symm).2))).trans hq
  have nol : ∀ y, wr.heap.size ≤ y → lv.ownBlock ≠ some y := fun y hy e => by have := hlb y e; omega
  let G2 : Nat → Nat → Prop := fun j => if j < k then G j else F'
  have e1 : ∀ j, j < k → G2 j = G j := fun j hj => if_pos hj
  have e2 : G2 k = F' := if_neg (by omega)
  have hG2 : ∀ j x, j < k + 1 → G2 j x → w1.heap.size ≤ x ∧ x < cw.heap.size ∧ lv.ownBlock ≠ some x := fun j y hj hy => by
    by_cases h : j < k
    · rw [e1 j h] at hy
      have := hG j y h hy
      exact ⟨this.1, by omega, this.2.2⟩
    · obtain rfl : j = k := by omega
      rw [e2] at hy
      have := hF y hy
      exact ⟨by omega, by omega, nol y this.1⟩
  have hd2 : ∀ i j x, i < k + 1 → j < k + 1 → i ≠ j → G2 i x → ¬ G2 j x := fun i j y hi hj hij h1 h2 => by
    by_cases ei : i < k
    · by_cases ej : j < k
      · rw [e1 i ei] at h1; rw [e1 j ej] at h2
        exact hd i j y ei ej hij h1 h2
      · obtain rfl : j = k := by omega
        rw [e1 i ei] at h1; rw [e2] at h2
        have := hG i y ei h1; have := hF y h2; omega
    · obtain rfl : i = k := by omega
      by_cases ej : j < i
      · rw [e1 j ej] at h2; rw [e2] at h1
        have := hG j y ej h2; have := hF y h1; omega
      · omega
  let ow : Ow := fun y => if w1.heap.size ≤ y ∧ v'.ownBlock ≠ some y ∧ ∀ j, j < k + 1 → ¬ G2 j y then none else some (0, 0)
  have cg : Cells ga (hide ow wA) := fun q y hq => by
    obtain ⟨h1, h2, h3, h4⟩ := hg q y hq
    have hl := World.block_lt_of_cell? wr q h1
    refine hide_cell (kc q y ((hxk.trans hxc).cells _ _ h1) h3) (if_pos ⟨h2, fun e => ?_, fun j hj hy => ?_⟩)
    · rcases vown _ e with h | h
      · exact h3 h.2
      · omega
    · by_cases h : j < k
      · rw [e1 j h] at hy; exact h4 j h hy
      · obtain rfl : j = k := by omega
        rw [e2] at hy; have := hF _ hy; omega
  have cg' : Cells ga' (hide ow wA) := fun q y hq => by
    obtain ⟨h1, h2, h3⟩ := hg' q y hq
    have hl := World.block_lt_of_cell? wk q h1
    refine hide_cell (kc q y (hxc.cells _ _ h1) (nol _ h2)) (if_pos ⟨by omega, fun e => ?_, fun j hj hy => ?_⟩)
    · rcases vown _ e with h | h
      · exact nol _ h2 h.2
      · omega
    · by_cases h : j < k
      · rw [e1 j h] at hy; have := hG j _ h hy; omega
      · obtain rfl : j = k := by omega
        rw [e2] at hy; exact h3 hy
  refine ⟨(hx.trans (hxk.trans hxc)).grown hgA fun z hz => (hrow z hz).1, xs ++ [c0, c1, c2, c3], hide ow wA, G2, ?_, fun y hy => ?_, ha.cells cg, fun j z hj hz => ?_, fun j y hj hy => ?_, hd2, fun q y hq => ?_⟩
  · exact RowP.imp hA fun gb _ hgb => by
      rcases hgb with h | h
      · exact h.1
      · show w1.heap.size ≤ gb; omega
  · rcases hA.2 with ⟨h0, _⟩ | ⟨gb, cap, cur, h8, h9, h10, _⟩
    · omega
    · rw [h8] at hy; cases hy
      refine ⟨?_, (Array.getElem?_eq_some_iff.1 h10).1⟩
      show w1.heap.size ≤ gb
      rcases h9 with h | h
      · exact h.1
      · omega
  · by_cases e : j < k
    · obtain ⟨d0, d1, d2, d3, q0, q1, q2, q3, hq⟩ := hk j z e hz
      refine ⟨d0, d1, d2, d3, by rw [List.getElem?_append_left (by omega)]; exact q0, by rw [List.getElem?_append_left (by omega)]; exact q1, by rw [List.getElem?_append_left (by omega)]; exact q2, by rw [List.getElem?_append_left (by omega)]; exact q3, ?_⟩
      rw [e1 j e]
      exact (hq.more cg).keep fun b o hb hw => kb b o ((hxk.trans hxc).block hw) (hG j b e hb).2.2
    · obtain rfl : j = k := by omega
      rw [hn] at hz
      cases hz
      refine ⟨c0, c1, c2, c3, ?_, ?_, ?_, ?_, ?_⟩
      · simp [← hlen]
      · simp [← hlen]
      · simp [← hlen]
      · simp [← hlen]
      · rw [e2]
        exact (ho.more cg').keep fun b o hb hw => kb b o (hxc.block hw) (nol b (hF b hb).1)
  · obtain ⟨h1, h2, h3⟩ := hG2 j y hj hy
    refine ⟨h1, by omega, fun e => ?_⟩
    rcases vown _ e with h | h
    · exact h3 h.2
    · omega
  · obtain ⟨h1, h2⟩ := hide_apart _ _ q y hq
    by_cases h : w1.heap.size ≤ q.block ∧ v'.ownBlock ≠ some q.block ∧ ∀ j, j < k + 1 → ¬ G2 j q.block
    · exact ⟨h1, h.1, h.2.1, h.2.2⟩
    · have h3 : (if w1.heap.size ≤ q.block ∧ v'.ownBlock ≠ some q.block ∧ ∀ j, j < k + 1 → ¬ G2 j q.block then none else some (0, 0)) = (none : Option (Nat × Nat)) := h2
      rw [if_neg h] at h3; cases h3
theorem CopNAt.fin {w w1 wr w3 : World} {n : PN} {av lv : Value} (h : CopNAt w1 wr n av lv n.kids.length) (hw : w.heap.size ≤ w1.heap.size) (hx3 : Ext w w3) (hs : w3.heap.size = wr.heap.size) (hk : ∀ x, w1.heap.size ≤ x → w3.heap[x]? = wr.heap[x]?) :
    CopyNIs n w (.returned (.agg #[.int .i64 n.tag, av, .string n.text, lv])) w3 := by
  obtain ⟨hx, xs, ga, G, hr, hlb, ha, hkx, hG, hd, hg⟩ := h
  have hs1 := Ext.size hx
  have kc : ∀ q y, wr.cell? q = some y → w1.heap.size ≤ q.block → w3.cell? q = some y := fun q y hq hl => (World.cell?_of_block (hk q.block hl)).trans hq
  refine ⟨_, fun x => lv.ownBlock = some x ∨ ∃ j, j < n.kids.length ∧ G j x, ga, rfl, ?_, hx3, fun x hx => ?_, fun q y hq => ?_⟩
  · rcases hr.2 with ⟨h0, a, rfl⟩ | ⟨g, cap, cur, rfl, h3, h4, h5, h6, h7, h8⟩
    · exact .leaf n av _ _ ha (List.eq_nil_of_length_eq_zero h0) ⟨a, rfl⟩
    · refine .node n av g cap cur _ G ha (by rw [hk g h3]; exact h4) h5 h6 h7 (fun j x hj => ?_) (.inl rfl) (fun j x hj hx => ⟨.inr ⟨j, hj, hx⟩, fun e => (hG j x hj hx).2.2 (by rw [e]; rfl)⟩) hd
      have hjl := (List.getElem?_eq_some_iff.1 hj).1
      obtain ⟨c0, c1, c2, c3, q0, q1, q2, q3, ho⟩ := hkx j x hjl hj
      have cell : ∀ (m : Nat) z, xs[m]? = some z → cur[m]? = some z := fun m z hz => by
        rw [← h8, List.getElem?_take] at hz
        split at hz
        · simpa using hz
        · cases hz
      have e : four cur j = .agg #[c0, c1, c2, c3] := by
        unfold four
        rw [cell _ _ q0, cell _ _ q1, cell _ _ q2, cell _ _ q3]; rfl
      rw [e]
      exact ho.keep fun b o hb hw => by rw [hk b (hG j b hjl hb).1]; exact hw
  · rcases hx with h | ⟨j, hj, h⟩
    · have h1 := hlb x h
      exact ⟨by omega, by omega⟩
    · have := hG j x hj h
      exact ⟨by omega, by omega⟩
  · obtain ⟨h1, h2, h3, h4⟩ := hg q y hq
    exact ⟨kc q y h1 h2, by omega, fun h => by
      rcases h with h | ⟨j, hj, h⟩
      · exact h3 h
      · exact h4 j hj h⟩
end Go.Proofs.YtdafdoodegpdhaaDoor

namespace Go.Proofs.YtdafdoodegpdhaaDoor
open Go Go.RowKit Go.BigFrame
set_option linter.unusedVariables false
set_option linter.unusedSimpArgs false

section
variable {w0 w : World} {tb : Nat} {T : Tr} {g : World}
theorem RdN.shape {w : World} {n : PN} {v : Value} (h : RdN w n v) : ∃ a ac k kc, v = .agg #[.int .i64 n.tag, .slice a n.attrs.length ac, .string n.text, .slice k n.kids.length kc] := by
  obtain ⟨av, kv, rfl, ha, k, kc, rfl, _⟩ := h.open
  obtain ⟨a, ac, rfl, _⟩ := ha.len_of
  exact ⟨a, ac, k, kc, rfl⟩
/-- a box of a plain tree -/
def Box4 (g : World) (b : Nat) (c0 c1 c2 c3 : Value) : Prop := g.cell? ⟨b, 0, none⟩ = some c0 ∧ g.cell? ⟨b, 1, none⟩ = some c1 ∧ g.cell? ⟨b, 2, none⟩ = some c2 ∧ g.cell? ⟨b, 3, none⟩ = some c3
theorem Box4.cells {g g2 : World} {b : Nat} {c0 c1 c2 c3 : Value} (h : Box4 g b c0 c1 c2 c3) (k : Cells g g2) : Box4 g2 b c0 c1 c2 c3 := ⟨k _ _ h.1, k _ _ h.2.1, k _ _ h.2.2.1, k _ _ h.2.2.2⟩
theorem Box4.of {w g : World} {b : Nat} {c0 c1 c2 c3 : Value} {t : TypeId} (h : w.heap[b]? = some (.cells #[c0, c1, c2, c3] t (0, 0))) {B : Nat} (hb : B ≤ b) (hn : ∀ q y, w.cell? q = some y → B ≤ q.block → g.cell? q = some y) : Box4 g b c0 c1 c2 c3 :=
  ⟨hn _ _ (cellOf h (i := 0) rfl) hb, hn _ _ (cellOf h (i := 1) rfl) hb, hn _ _ (cellOf h (i := 2) rfl) hb, hn _ _ (cellOf h (i := 3) rfl) hb⟩
end
/-- a node that is taken off -/
theorem WF.off {T : Tr} {d : Nat → Nat} (hw : WF T d) (hA : AttrsOk T) {i p : Nat} {nd pd : Nd} (hi : T.nodes[i]? = some (some nd)) (hp : T.nodes[p]? = some (some pd)) (hpar : nd.parent = (p : Int)) :
    ∃ (T1 : Tr) (d1 : Nat → Nat), T.unlink p i pd nd = T1 ∧ WF T1 d1 ∧ AttrsOk T1 ∧ T1.nodes[i]? = some (some { nd with parent := -1 }) ∧ T1.nodes[p]? = some (some { pd with kids := pd.kids.erase (i : Int) }) ∧ T1.plain i = T.plain i ∧ d1 i = 0 ∧ i ≠ 0 ∧
      pd.tag ≠ 0 ∧ posOf pd.kids i = ((pd.kids.idxOf (i : Int) : Nat) : Int) ∧ pd.kids.idxOf (i : Int) ≤ (pd.kids.erase (i : Int)).length ∧ T1.within p i = false ∧ (d1 p : Int) + 1 + T1.height i ≤ T1.deep ∧
      T1.link p (pd.kids.idxOf (i : Int)) i { pd with kids := pd.kids.erase (i : Int) } { nd with parent := -1 } = T ∧ T.count = T1.count := by
  obtain ⟨h1, h2, h3, h4⟩ := hw.up_out hp hi hpar
  have hw1 := hw.unlink hp hi hpar
  have hg := fun j => Tr.set2_get (pd' := { pd with kids := pd.kids.erase (i : Int) }) (kd' := { nd with parent := -1 }) hp hi j
  have hi1 : (T.unlink p i pd nd).nodes[i]? = some (some { nd with parent := -1 }) := by
    show (T.set2 p i _ _).nodes[i]? = _
    rw [hg, if_pos rfl]
  have hp1 : (T.unlink p i pd nd).nodes[p]? = some (some { pd with kids := pd.kids.erase (i : Int) }) := by
    show (T.set2 p i _ _).nodes[p]? = _
    rw [hg, if_neg h4, if_pos rfl]
  have hpl := hw.plain_set2 (pd' := { pd with kids := pd.kids.erase (i : Int) }) (q := -1) hp hi h1
  obtain ⟨k1, k2, k3⟩ := posOf_mem h3
  have hhd := hw.high_deep 50 i nd hi
  have hd0 : i ≠ 0 := fun e => by
    subst e
    obtain ⟨rd, r1, r2, _⟩ := hw.root
    obtain rfl := some_inj2 r1 hi
    omega
  have hle : (pd.kids.erase (i : Int)).length + 1 = pd.kids.length := by
    have := List.length_erase_of_mem h3; have := List.length_pos_of_mem h3; omega
  refine ⟨T.unlink p i pd nd, _, rfl, hw1, hA.set2 (show NdOk pd from hA _ _ hp) (show NdOk nd from hA _ _ hi), hi1, hp1, hpl.1, ?_, hd0, fun e => ?_, k1, by omega, ?_, ?_, ?_, rfl⟩
  · show (if T.within i i then d i - d i else d i) = 0
    rw [hw.within_self hi]; simp
  · have := (hw.text p pd hp).2.2 e
    rw [this] at h3; cases h3
  · cases hin : (T.unlink p i pd nd).within p i with
    | false => rfl
    | true =>
      have e0 : (if T.within i i then d i - d i else d i) = 0 := by rw [hw.within_self hi]; simp
      rcases Nat.eq_zero_or_pos (d p) with hz | hz
      · have h5 := (hw1.within_depth p _ hp1 hin).2 (by
          show (if T.within i i then d i - d i else d i) = (if T.within p i then d p - d i else d p)
          rw [e0, h1]; simpa using hz.symm)
        exact absurd h5 h4
      · -- the parent's way up is as it was
        have key : ∀ (j : Nat) (jd : Nd), T.nodes[j]? = some (some jd) → T.within j i = false → (T.unlink p i pd nd).within j i = false := by
          refine hw.induct _ (fun j jd hj hjp hjd hji => ?_) (fun j jd q qd hj hjp hq hjd ih hji => ?_)
          · have hne : j ≠ i := fun e => by subst e; rw [hw.within_self hj] at hji; cases hji
            have hj1 : ∃ jd', (T.unlink p i pd nd).nodes[j]? = some (some jd') ∧ jd'.parent = -1 := by
              by_cases e : j = p
              · subst e; obtain rfl := some_inj2 hp hj; exact ⟨_, hp1, hjp⟩
              · refine ⟨jd, ?_, hjp⟩
                show (T.set2 p i _ _).nodes[j]? = _
                rw [hg, if_neg hne, if_neg e]; exact hj
            obtain ⟨jd', e1, e2⟩ := hj1
            rw [hw1.within_root e1 e2]
            exact decide_eq_false (by omega)
          · have hne : j ≠ i := fun e => by subst e; rw [hw.within_self hj] at hji; cases hji
            have hj1 : ∃ jd', (T.unlink p i pd nd).nodes[j]? = some (some jd') ∧ jd'.parent = (q : Int) := by
              by_cases e : j = p
              · subst e; obtain rfl := some_inj2 hp hj; exact ⟨_, hp1, hjp⟩
              · refine ⟨jd, ?_, hjp⟩
                show (T.set2 p i _ _).nodes[j]? = _
                rw [hg, if_neg hne, if_neg e]; exact hj
            obtain ⟨jd', e1, e2⟩ := hj1
            rw [hw1.within_step e1, if_neg (by omega), e2]
            refine ih ?_
            rw [hw.within_step hj, if_neg (by omega), hjp] at hji
            exact hji
        rw [key p pd hp h1] at hin; cases hin
  · show ((if T.within p i then d p - d i else d p : Nat) : Int) + 1 + (T.unlink p i pd nd).height i ≤ T.deep
    have e : (T.unlink p i pd nd).height i = T.height i := hpl.2
    rw [h1, e]
    have : (d i : Int) + T.height i ≤ T.deep := hhd
    simp
    omega
  · exact Tr.link_unlink hp hi h4 hpar (hw.kids p pd hp).1 h3
end Go.Proofs.YtdafdoodegpdhaaDoor

namespace Go.Proofs.YtdafdoodegpdhaaDoor
open Go Go.RowKit Go.BigFrame
set_option linter.unusedVariables false
set_option linter.unusedSimpArgs false

/-- an append whose run is known, in the order of the text -/
theorem wpList_append_run {P : Program} (w : World) {ops : Array Oper} {rest : List Oper} {o : Oper} {a : Act} {Q : Exit → Act → World → Prop}
    (hg : o.guard = none) (s x : Operand) (t : TypeId) (hop : o.op = Op.call { callee := Callee.builtin Builtin.append, args := #[s, x], argTypes := #[t, t] })
    (v u : Value) (hs : a.eval s = v) (hx : a.eval x = u) (v' : Value) (w' : World) (hr : (Builtin.append_ #[t, t] o.type #[v, u]).run P w = .ok v' w') (hK : wpList P ops Q rest (a.put o.dst v') w') :
    wpList P ops Q (o :: rest) a w := by
  refine wpList_plain hg fun K hK' => ?_
  unfold Oper.wp
  simp [execOp, hop, resolve, invoke, builtin, hs, hx, hr, Result.andThen]
  exact hK' _ _ hK
/-- 'append([]T{}, xs..)' -/
theorem append_empty {w : World} {b : Nat} {v : Value} {n : Nat} {xs : List Value} (h : RowRd w 2 v n xs) (hn : n ≤ 60000) (h1 : ∀ u ∈ xs, u.oneCell' = true) :
    ∃ v' w', (Builtin.append_ #[22, 22] 22 #[.slice (some ⟨b, 0, none⟩) 0 0, v]).run Tryd.prog w = .ok v' w' ∧ RowP w' (fun g => w.heap.size ≤ g) 55 2 v' n xs ∧ Ext w w' := by
  obtain ⟨hl, ao, cap, rfl, hcap, hnone, hc⟩ := h
  rcases Nat.eq_zero_or_pos n with rfl | hpos
  · obtain rfl : xs = [] := List.eq_nil_of_length_eq_zero (by simpa using hl)
    refine ⟨.slice (some ⟨b, 0, none⟩) 0 0, w, ?_, ⟨rfl, .inl ⟨rfl, _, rfl⟩⟩, Ext.refl _⟩
    cases ao with
    | none => obtain ⟨_, rfl⟩ := hnone rfl; go_simp
    | some a => go_simp
  · cases ao with
    | none => exact absurd (hnone rfl).1 (by omega)
    | some a =>
      obtain ⟨i0, hi, hz0, hz1, hz2⟩ := info_parts infoA
      obtain ⟨v', w', h2, h3, h4⟩ := run_append_arg_grows (P := Tryd.prog) w 22 22 55 i0 _ 2 _ Tryd.underlying22 hi hz0 hz1 hz2 (by kernel_rfl) (by decide) ⟨b, 0, none⟩ 0 0 [] (by simp) (by simp) a n cap xs hl (hc a rfl) (by omega) (by unfold maxLen; omega) (by omega)
      refine ⟨v', w', h2, (by have := RowP.of_owns h3; simpa using this : RowIn w' w.heap.size 55 2 v' n xs), (Ext.refl w).grown h4 (fun k hk => by cases hk)⟩
theorem Ext.setBoth {a b : World} (h : Ext a b) (p : Addr) (u : Value) : Ext (a.setCell p u) (b.setCell p u) := by
  refine ⟨h.os, h.tape, h.output, by simpa [World.setCell] using h.size, fun k hk => ?_⟩
  have hk' : k < a.heap.size := by simpa [World.setCell] using hk
  have e := Below.block h k hk'
  simp only [World.setCell, Array.getElem?_modify]
  rw [e]
theorem PN.len_sizes (l : List PN) : l.length ≤ PN.sizes l := by
  induction l with
  | nil => exact Nat.le_refl _
  | cons k r ih => simp only [PN.sizes, List.length_cons]; have := k.size_pos; omega
theorem PN.len_size (n : PN) : n.kids.length < n.size := by
  rw [PN.size_eq]; have := PN.len_sizes n.kids; omega
set_option maxRecDepth 100000 in
set_option maxHeartbeats 4000000 in
theorem CopyNode_any {w0 : World} : ∀ n : PN, n.fair = true → n.size ≤ 100000 → ∀ (w : World) (v : Value), RdN w0 n v → Ext w0 w → Calls Tryd.prog 10 #[v] w (CopyNIs n w) := by
  refine PN.induct _ fun n ih hfair hsz w v h hx0 => ?_
  have hnl := n.len_size
  have HSZN := Lib.hid hsz
  rw [PN.fair_eq] at hfair
  simp only [Bool.and_eq_true, decide_eq_true_eq] at hfair
  have hal := hfair.1
  have HF := Lib.hid hfair.2
  clear hfair
  obtain ⟨av, kv, rfl, hA, hK⟩ := h.open
  obtain ⟨aa, acap, rfl, _⟩ := hA.len_of
  obtain ⟨ka, kcap, rfl, hkc, hkm, hkn, hk⟩ := hK
  have IH := Lib.hid ih
  have HN := Lib.hid hkn
  have HK := Lib.hid hk
  unfold maxLen at hkm
  have xm := ((Ext.refl w).alloc (.cells #[.int .i64 n.tag, .slice aa n.attrs.length acap, .string n.text, .slice ka n.kids.length kcap] 25)).alloc (.cells #[.int .i64 0, .slice none 0 0, .string ⟨#[]⟩, .slice none 0 0] 25)
  have b1 := ((Ext.refl (w.alloc (.cells #[.int .i64 n.tag, .slice aa n.attrs.length acap, .string n.text, .slice ka n.kids.length kcap] 25))).alloc (.cells #[.int .i64 0, .slice none 0 0, .string ⟨#[]⟩, .slice none 0 0] 25)).block (heap_alloc_new w (.cells #[.int .i64 n.tag, .slice aa n.attrs.length acap, .string n.text, .slice ka n.kids.length kcap] 25))
  have b2 := heap_alloc_new (w.alloc (.cells #[.int .i64 n.tag, .slice aa n.attrs.length acap, .string n.text, .slice ka n.kids.length kcap] 25)) (.cells #[.int .i64 0, .slice none 0 0, .string ⟨#[]⟩, .slice none 0 0] 25)
  clear hsz
  replace hnl : n.kids.length ≤ 100000 := by have := HSZN.out; omega
  have hsz : ((w.alloc (.cells #[.int .i64 n.tag, .slice aa n.attrs.length acap, .string n.text, .slice ka n.kids.length kcap] 25)).alloc (.cells #[.int .i64 0, .slice none 0 0, .string ⟨#[]⟩, .slice none 0 0] 25)).heap.size = w.heap.size + 2 := by simp
  rw [show (w.alloc (.cells #[.int .i64 n.tag, .slice aa n.attrs.length acap, .string n.text, .slice ka n.kids.length kcap] 25)).heap.size = w.heap.size + 1 by simp] at b2
  have HA := Lib.hid (hA.ext (hx0.trans xm))
  have HX0 := Lib.hid hx0
  clear ih hkn hk h hA hx0
  go_enter Tryd.func10, Tryd.ntmps10
  go_upto_region 1 with fail
  obtain ⟨w1, hw1⟩ : ∃ w1 : World, w1 = (w.alloc (.cells #[.int .i64 n.tag, .slice aa n.attrs.length acap, .string n.text, .slice ka n.kids.length kcap] 25)).alloc (.cells #[.int .i64 0, .slice none 0 0, .string ⟨#[]⟩, .slice none 0 0] 25) := ⟨_, rfl⟩
  rw [← hw1] at xm b1 b2 hsz HA ⊢
  clear hw1
  have c0 := cellOf b1 (i := 0) (v := .int .i64 n.tag) rfl
  have c1 := cellOf b1 (i := 1) (v := .slice aa n.attrs.length acap) rfl
  have c2 := cellOf b1 (i := 2) (v := .string n.text) rfl
  have c3 := cellOf b1 (i := 3) (v := .slice ka n.kids.length kcap) rfl
  have f1 := freeOf b1 1
  have B1 := Lib.hid b1
  have B2 := Lib.hid b2
  have HXM := Lib.hid xm
  have HSZ := Lib.hid hsz
  have np : w.heap.size ≠ w1.heap.size := by omega
  have np' := Ne.symm np
  have np2 : w.heap.size + 1 ≠ w1.heap.size := by omega
  have xe := (Ext.refl w1).alloc (.cells #[] 55)
  obtain ⟨va, wA, hrun, hra, hxa⟩ := append_empty (w := w1.alloc (.cells #[] 55)) (b := w1.heap.size) (HA.out.ext xe) hal (attrCells_one _)
  obtain ⟨aa', acap', rfl, _⟩ := hra.rd.len_of
  have hra' := RowP.imp hra (q := fun g => w1.heap.size ≤ g) fun g _ hg => by have h : (w1.alloc (.cells #[] 55)).heap.size ≤ g := hg; simp at h; show w1.heap.size ≤ g; omega
  have hxa1 := xe.trans hxa
  have ce1 := xe.cell c1
  have cA1 := hxa1.cell c1
  have fA1 := hxa1.free (cell_lt c1) f1
  have HRA := Lib.hid hra'
  have HXA := Lib.hid hxa1
  have HRUN := Lib.hid hrun
  clear b1 b2 xm hsz hra hra' hxa xe hrun hxa1
  go_wp2_with (at_builtin; refine wpList_append_run _ rfl _ _ 22 rfl _ _ rfl rfl _ _ HRUN.out ?_)
  have hsw := HXA.out.setBoth ⟨w.heap.size, 1, none⟩ (.slice aa' n.attrs.length acap')
  have e1 := heap_setCell_same (i := 1) B1.out (.slice aa' n.attrs.length acap')
  have e2 : (w1.setCell ⟨w.heap.size, 1, none⟩ (.slice aa' n.attrs.length acap')).heap[w.heap.size + 1]? = _ := (heap_setCell_other (p := ⟨w.heap.size, 1, none⟩) (.slice aa' n.attrs.length acap') (show w.heap.size + 1 ≠ w.heap.size by omega)).trans B2.out
  have ez : (w1.setCell ⟨w.heap.size, 1, none⟩ (.slice aa' n.attrs.length acap')).heap.size = w.heap.size + 2 := by have := HSZ.out; simpa [World.setCell] using this
  have ew : Ext w (w1.setCell ⟨w.heap.size, 1, none⟩ (.slice aa' n.attrs.length acap')) := HXM.out.setCell (Nat.le_refl _) _
  have hro : RowP (wA.setCell ⟨w.heap.size, 1, none⟩ (.slice aa' n.attrs.length acap')) (fun g => w.heap.size + 2 ≤ g) 55 2 (.slice aa' n.attrs.length acap') n.attrs.length (attrCells n.attrs) :=
    RowP.move HRA.out fun g hg => ⟨heap_setCell_other (p := ⟨w.heap.size, 1, none⟩) _ (by have := HSZ.out; have h : w1.heap.size ≤ g := hg; show g ≠ w.heap.size; omega), by have := HSZ.out; have h : w1.heap.size ≤ g := hg; omega⟩
  obtain ⟨ws, hws⟩ : ∃ ws : World, ws = wA.setCell ⟨w.heap.size, 1, none⟩ (.slice aa' n.attrs.length acap') := ⟨_, rfl⟩
  obtain ⟨wb, hwb⟩ : ∃ wb : World, wb = w1.setCell ⟨w.heap.size, 1, none⟩ (.slice aa' n.attrs.length acap') := ⟨_, rfl⟩
  rw [← hws, ← hwb] at hsw
  rw [← hwb] at e1 e2 ez ew
  rw [← hws] at hro ⊢
  clear hws hwb
  have HIN := Lib.hid (CopNAt.init (n := n) hsw (ez ▸ hro))
  have E1 := Lib.hid (show wb.heap[w.heap.size]? = some (.cells #[.int .i64 n.tag, .slice aa' n.attrs.length acap', .string n.text, .slice ka n.kids.length kcap] 25 (0, 0)) from e1)
  have E2 := Lib.hid e2
  have EZ := Lib.hid ez
  have EW := Lib.hid ew
  clear hsw e1 e2 ez ew hro c0 c1 c2 c3 f1 ce1 cA1 fA1 np np' np2
  go_loopw [3, 4] (fun lv i wr => ∃ k : Nat, k ≤ n.kids.length ∧ i = .int .i64 k ∧ CopNAt wb wr n (.slice aa' n.attrs.length acap') lv k) (fun _ i _ => n.kids.length - (intOf i).toNat)
  case atStart => exact ⟨0, Nat.zero_le _, rfl, HIN.out⟩
  case round =>
    obtain ⟨k, hk, rfl, hat⟩ := hrel
    clear HIN
    have HAT := Lib.hid hat
    obtain ⟨hxr, xs, ga, G, hr, hlb, ha, hkx, hG, hd, hg⟩ := hat
    obtain ⟨al, cl, rfl, hcl⟩ := hr.rd.len_of
    have hb := hxr.block E1.out
    have c3 := cellOf hb (i := 3) (v := .slice ka n.kids.length kcap) rfl
    by_cases hlt : k < n.kids.length
    · obtain ⟨x, hxi⟩ : ∃ x, n.kids[k]? = some x := ⟨n.kids[k], by simp [hlt]⟩
      cases ka with
      | none => exact absurd (HN.out rfl).1 (by omega)
      | some a =>
        obtain ⟨b, off, sp⟩ := a
        obtain ⟨d0, d1, d2, d3, q0, q1, q2, q3, hrd⟩ := HK.out _ rfl k x hxi
        obtain ⟨y1, y2, y3, y4, en⟩ := hrd.shape
        cases en
        have hext := HX0.out.trans (EW.out.trans hxr)
        replace q0 := hext.cells _ _ q0
        replace q1 := hext.cells _ _ q1
        replace q2 := hext.cells _ _ q2
        replace q3 := hext.cells _ _ q3
        rw [add_later _ _ _ (by decide)] at q1 q2 q3
        have REC := Lib.hid (IH.out x (List.mem_of_getElem? hxi) (PN.fairs_mem HF.out (List.mem_of_getElem? hxi)) (by have := PN.size_kid (List.mem_of_getElem? hxi); have := HSZN.out; omega) wr _ hrd hext)
        have HXR := Lib.hid hxr
        have HR := Lib.hid hr
        have HLB := Lib.hid hlb
        have HGA := Lib.hid ha
        have HKX := Lib.hid hkx
        have HG := Lib.hid hG
        have HD := Lib.hid hd
        have HGG := Lib.hid hg
        have HXX := Lib.hid hxi
        clear hxr hr hlb ha hkx hG hd hg hxi hrd hext hb
        go_wp2_with fail
        refine REC.out.mono ?_
        rintro e wk ⟨v', F', ga', rfl, ho, hxk, hF, hg'⟩
        obtain ⟨a2, ac2, k2, kc2, rfl⟩ := ho.shape
        have xc := (Ext.refl wk).alloc (.cells #[.int .i64 x.tag, .slice a2 x.attrs.length ac2, .string x.text, .slice k2 x.kids.length kc2] 25)
        have hnew := cells_four (heap_alloc_new wk (.cells #[.int .i64 x.tag, .slice a2 x.attrs.length ac2, .string x.text, .slice k2 x.kids.length kc2] 25))
        obtain ⟨i0, hii, hz0, hz1, hz2⟩ := info_parts infoN
        obtain ⟨v', wA2, row, hrunA, hrA, hgA, hrowA⟩ := run_append_row (P := Tryd.prog) (wk.alloc (.cells #[.int .i64 x.tag, .slice a2 x.attrs.length ac2, .string x.text, .slice k2 x.kids.length kc2] 25)) 23 23 25 i0 noNode0 4 72 Tryd.underlying23 hii hz0 hz1 hz2 (by kernel_rfl) (by decide)
          (p := fun y => wb.heap.size ≤ y ∧ (Value.slice al k cl).ownBlock = some y) (RowP.imp (RowP.ext HR.out (hxk.trans xc)) (fun y hy hp => ⟨hp, hy⟩)) ⟨wk.heap.size, 0, none⟩ 1 1 _ rfl hnew (by simp [Value.oneCell']) (by decide) (by unfold maxLen; omega) (by omega)
        have FIN := Lib.hid (CopNAt.step HXR.out HR.out HLB.out HGA.out HKX.out HG.out HD.out HGG.out HXX.out hxk ho hF hg' xc hrA hgA hrowA)
        have HRA := Lib.hid hrunA
        clear hrA hgA hrowA hrunA hii hz0 hz1 hz2 hnew xc hxk ho hF hg' q0 q1 q2 q3 c3
        go_wp2_with (at_builtin; refine wpList_append_run _ rfl _ _ 23 rfl _ _ rfl rfl _ _ HRA.out ?_)
        go_roundw
        case rel => exact ⟨k + 1, by omega, by go_num, FIN.out⟩
        case measure => simp [intOf]; omega
    · obtain rfl : k = n.kids.length := by omega
      have hb2 := hxr.block E2.out
      have c0 := cellOf hb (i := 0) (v := .int .i64 n.tag) rfl
      have c1 := cellOf hb (i := 1) (v := .slice aa' n.attrs.length acap') rfl
      have c2 := cellOf hb (i := 2) (v := .string n.text) rfl
      have f3 := freeOf hb 3
      have r0 := cellOf hb2 (i := 0) (v := .int .i64 0) rfl
      have r1 := cellOf hb2 (i := 1) (v := .slice none 0 0) rfl
      have r2 := cellOf hb2 (i := 2) (v := .string ⟨#[]⟩) rfl
      have r3 := cellOf hb2 (i := 3) (v := .slice none 0 0) rfl
      have g0 := freeOf hb2 0
      have g1 := freeOf hb2 1
      have g2 := freeOf hb2 2
      have g3 := freeOf hb2 3
      have hs1 : wb.heap.size = w.heap.size + 2 := EZ.out
      have FIN := Lib.hid (fun (u0 u1 u2 u3 u4 : Value) => CopNAt.fin (w := w) (w3 := ((((wr.setCell ⟨w.heap.size, 3, none⟩ u0).setCell ⟨w.heap.size + 1, 0, none⟩ u1).setCell ⟨w.heap.size + 1, 1, none⟩ u2).setCell ⟨w.heap.size + 1, 2, none⟩ u3).setCell ⟨w.heap.size + 1, 3, none⟩ u4) HAT.out (by omega)
        ((((((EW.out.trans hxr).setCell (Nat.le_refl _) _).setCell (Nat.le_succ _) _).setCell (Nat.le_succ _) _).setCell (Nat.le_succ _) _).setCell (Nat.le_succ _) _) (by simp [World.setCell])
        (fun y hy => by
          have n1 : y ≠ w.heap.size := by omega
          have n2 : y ≠ w.heap.size + 1 := by omega
          rw [heap_setCell_other (p := ⟨w.heap.size + 1, 3, none⟩) _ n2, heap_setCell_other (p := ⟨w.heap.size + 1, 2, none⟩) _ n2, heap_setCell_other (p := ⟨w.heap.size + 1, 1, none⟩) _ n2, heap_setCell_other (p := ⟨w.heap.size + 1, 0, none⟩) _ n2, heap_setCell_other (p := ⟨w.heap.size, 3, none⟩) _ n1]))
      have HB1 := Lib.hid hb
      have HB2 := Lib.hid hb2
      clear hxr hr hlb ha hkx hG hd hg hb hb2 hs1
      go_wp2_with fail
      exact bodyPost_ret (v := .agg #[.int .i64 n.tag, .slice aa' n.attrs.length acap', .string n.text, .slice al n.kids.length cl]) (by simp [results, Tryd.results10, go_sem, r0, r1, r2, r3]) rfl (FIN.out _ _ _ _ _)
end Go.Proofs.YtdafdoodegpdhaaDoor

namespace Go.Proofs.YtdafdoodegpdhaaDoor
open Go Go.RowKit Go.BigFrame
set_option linter.unusedVariables false
set_option linter.unusedSimpArgs false

set_option maxRecDepth 20000 in
set_option maxHeartbeats 400000 in
theorem Anew_any (s : ByteArray) (hs : s.size ≤ 100000) (w : World) : Calls Tryd.prog 22 #[.string s] w (RVal (.string (anewB s)) w) := by
  have h1 := run_runes_of_string (P := Tryd.prog) w 9 85 21 s Tryd.underlying9 Tryd.underlying85 Tryd.underlying21 (by have := size_runesFrom s s.size 0 #[]; simp at this; omega)
  have e1 : Conv.runesFrom s s.size 0 #[] = ((runeList s s.size 0).map (Value.int .i32)).toArray := by rw [runesFrom_eq]; simp
  have hz : anewB s = runesBytes (runeList s s.size 0) := rfl
  have HZ := Lib.hid hz
  rw [e1] at h1
  clear hz e1 hs
  generalize runeList s s.size 0 = l at *
  generalize hk : grownCap w (List.map (Value.int IntKind.i32) l).toArray.size 0 21 = K at *
  have hge := grownCap_ge w (List.map (Value.int IntKind.i32) l).toArray.size 0 21
  rw [hk] at hge
  clear hk
  generalize hC : (List.map (Value.int IntKind.i32) l).toArray ++ Array.replicate (K - (List.map (Value.int IntKind.i32) l).toArray.size) (Value.int IntKind.i32 0) = C at *
  have h2 := run_convert_runes (P := Tryd.prog) (w.drew.alloc (.cells C 21)) 85 9 21 ⟨w.heap.size, 0, none⟩ l.length K l (Nat.le_refl _) Tryd.underlying85 Tryd.underlying21 Tryd.underlying9
    (by
      intro j hj
      have hb : (w.drew.alloc (.cells C 21)).heap[w.heap.size]? = some (.cells C 21 (0, 0)) := heap_alloc_new w.drew _
      rw [Addr.add_lit, Nat.zero_add]
      refine cellOf hb ?_
      rw [← hC, Array.getElem?_append_left (by simpa using hj)]
      simp [hj])
  rw [List.take_length] at h2
  simp only [List.size_toArray, List.length_map] at h1
  clear hC hge
  have HH1 := Lib.hid h1
  have HH2 := Lib.hid h2
  clear h1 h2
  go_enter Tryd.func22, Tryd.ntmps22
  go_wp2_with fail
  rw [HH1.out]
  go_wp2_with fail
  have h2' : Sem.run Tryd.prog (convert 85 9 (Value.slice (some { block := w.heap.size, off := 0 }) l.length K)) (w.alloc (Obj.cells C 21)).drew = Result.ok (Value.string (runesBytes l)) (w.alloc (Obj.cells C 21)).drew := HH2.out
  rw [h2']
  clear h2'
  go_wp2_with fail
  go_ret
  exact ⟨by rw [HZ.out]; rfl, ((Ext.refl _).alloc _).drew⟩

/-- all blocks but those of F are as they were; new ones may be -/
structure Chg (F : Nat → Prop) (w w' : World) : Prop where
  os : w'.os = w.os
  tape : w'.tape = w.tape
  output : w'.output = w.output
  size : w.heap.size ≤ w'.heap.size
  rest : ∀ b, b < w.heap.size → ¬ F b → w'.heap[b]? = w.heap[b]?
theorem Chg.refl (F : Nat → Prop) (w : World) : Chg F w w := ⟨rfl, rfl, rfl, Nat.le_refl _, fun _ _ _ => rfl⟩
theorem Chg.trans {F : Nat → Prop} {a b c : World} (h : Chg F a b) (k : Chg F b c) : Chg F a c :=
  ⟨k.os.trans h.os, k.tape.trans h.tape, k.output.trans h.output, Nat.le_trans h.size k.size, fun x hx hn => (k.rest x (Nat.lt_of_lt_of_le hx h.size) hn).trans (h.rest x hx hn)⟩
theorem Chg.block {F : Nat → Prop} {a b : World} (h : Chg F a b) {x : Nat} {o : Obj} (hx : a.heap[x]? = some o) (hn : ¬ F x) : b.heap[x]? = some o :=
  (h.rest x (Array.getElem?_eq_some_iff.1 hx).1 hn).trans hx
theorem Chg.cell {F : Nat → Prop} {a b : World} (h : Chg F a b) {q : Addr} {y : Value} (hq : a.cell? q = some y) (hn : ¬ F q.block) : b.cell? q = some y :=
  (World.cell?_of_block (h.rest q.block (World.block_lt_of_cell? a q hq) hn)).trans hq
/-- the kids of a plain tree in memory of its own -/
def KidsO (ga w : World) (ks : List PN) (ka : Option Addr) (kc : Nat) (F : Nat → Prop) : Prop :=
  (ks = [] ∧ kc = 0) ∨ ∃ (b : Nat) (cur : Array Value) (G : Nat → Nat → Prop), ka = some ⟨b, 0, none⟩ ∧ w.heap[b]? = some (.cells cur 25 (0, 0)) ∧ ks.length ≤ kc ∧ kc ≤ maxLen ∧ cur.size = kc * 4 ∧
    (∀ (j : Nat) (k : PN), ks[j]? = some k → OwnN ga w k (four cur j) (G j)) ∧ F b ∧ (∀ j x, j < ks.length → G j x → F x ∧ x ≠ b) ∧ (∀ i j x, i < ks.length → j < ks.length → i ≠ j → G i x → ¬ G j x)
theorem OwnN.open {ga w : World} {n : PN} {v : Value} {F : Nat → Prop} (h : OwnN ga w n v F) : ∃ av ka kc, v = .agg #[.int .i64 n.tag, av, .string n.text, .slice ka n.kids.length kc] ∧ RowRd ga 2 av n.attrs.length (attrCells n.attrs) ∧ KidsO ga w n.kids ka kc F := by
  cases h with
  | leaf n av kv F ha h0 hk =>
    obtain ⟨k, rfl⟩ := hk
    exact ⟨av, k, 0, by rw [h0]; rfl, ha, .inl ⟨h0, rfl⟩⟩
  | node n av b cap cur F G ha hb hl hm hs hk hFb hG hd =>
    exact ⟨av, _, cap, rfl, ha, .inr ⟨b, cur, G, rfl, hb, hl, hm, hs, hk, hFb, hG, hd⟩⟩
set_option maxRecDepth 100000 in
set_option maxHeartbeats 2000000 in
theorem Size_any {w0 : World} : ∀ (n : PN) (nv : Value) (w : World), n.size ≤ 100000 → RdN w0 n nv → Ext w0 w → Calls Tryd.prog 34 #[nv] w (RVal (.int .i64 n.size) w) := by
  refine PN.induct _ fun n ih nv w hsz hr hx => ?_
  have hnl := n.len_size
  have hse := n.size_eq
  obtain ⟨av, kv, rfl, ha, hk⟩ := hr.open
  obtain ⟨aa, acap, rfl, hac⟩ := ha.len_of
  obtain ⟨ka, kcap, rfl, hkc, hkm, hkn, hkr⟩ := hk
  have x1 := (Ext.refl w).alloc (.cells #[.int .i64 n.tag, .slice aa n.attrs.length acap, .string n.text, .slice ka n.kids.length kcap] 25)
  have hbox := heap_alloc_new w (.cells #[.int .i64 n.tag, .slice aa n.attrs.length acap, .string n.text, .slice ka n.kids.length kcap] 25)
  have HKR := Lib.hid hkr
  have HKN := Lib.hid hkn
  have HX := Lib.hid hx
  have HX1 := Lib.hid x1
  have IH := Lib.hid ih
  unfold maxLen at hkm
  clear hkr hkn hx ih hr ha x1
  have HSE := Lib.hid hse
  have HSZ := Lib.hid hsz
  replace hnl : n.kids.length ≤ 100000 := by omega
  clear hse hsz
  go_enter Tryd.func34, Tryd.ntmps34
  go_upto_region 1 with fail
  obtain ⟨wb, hwb⟩ : ∃ wb : World, wb = w.alloc (.cells #[.int .i64 n.tag, .slice aa n.attrs.length acap, .string n.text, .slice ka n.kids.length kcap] 25) := ⟨_, rfl⟩
  rw [← hwb] at hbox HX1 ⊢
  clear hwb
  have k3 := cellOf hbox (i := 3) (v := .slice ka n.kids.length kcap) rfl
  clear hbox
  go_wp2_with fail
  go_loopw [3, 4] (fun c i wr => ∃ k : Nat, k ≤ n.kids.length ∧ i = .int .i64 k ∧ c = .int .i64 ((1 + PN.sizes (n.kids.take k) : Nat) : Int) ∧ Ext wb wr) (fun _ i _ => n.kids.length - (intOf i).toNat)
  case atStart => exact ⟨0, Nat.zero_le _, rfl, by simp [PN.sizes], Ext.refl _⟩
  case round =>
    obtain ⟨k, hk, rfl, rfl, xr⟩ := hrel
    have HXR := Lib.hid xr
    replace k3 := xr.cell k3
    clear xr
    by_cases hkk : k < n.kids.length
    · obtain ⟨x, hx⟩ : ∃ x, n.kids[k]? = some x := ⟨n.kids[k], by simp [hkk]⟩
      cases ka with
      | none => exact absurd (HKN.out rfl).1 (by omega)
      | some a =>
        obtain ⟨b, off, sp⟩ := a
        obtain ⟨c0', c1', c2', c3', q0, q1, q2, q3, hrd⟩ := HKR.out _ rfl k x hx
        have hxx : Ext w0 wr := (HX.out.trans HX1.out).trans HXR.out
        replace q0 := hxx.cells _ _ q0
        replace q1 := hxx.cells _ _ q1
        replace q2 := hxx.cells _ _ q2
        replace q3 := hxx.cells _ _ q3
        rw [add_later _ _ _ (by decide)] at q1 q2 q3
        have htk := sizes_take_succ hx
        have hle := sizes_take n.kids (k + 1)
        have htk2 : PN.sizes (n.kids.take (k + 1)) = PN.sizes (n.kids.take k) + x.size := by
          obtain ⟨hlt', hxe⟩ := List.getElem?_eq_some_iff.1 hx
          rw [List.take_succ_eq_append_getElem hlt', hxe, sizes_append]; simp [PN.sizes]
        have h1 := HSE.out
        have h2 := HSZ.out
        have hrec := IH.out x (List.mem_of_getElem? hx) _ wr (by omega) hrd hxx
        have hb1 : 1 + PN.sizes (n.kids.take k) ≤ 100000 := by omega
        have hb2 : x.size ≤ 100000 := by omega
        have HREC := Lib.hid hrec
        have HTK := Lib.hid htk2
        clear hx hrd hrec hxx htk hle htk2 h1 h2
        generalize hs : 1 + PN.sizes (n.kids.take k) = S at *
        have HS := Lib.hid hs
        clear hs
        go_wp2_with fail
        refine HREC.out.mono ?_
        rintro e w' ⟨rfl, p4⟩
        generalize hs2 : x.size = X at *
        have HS2 := Lib.hid hs2
        clear hs2
        go_wp2_with fail
        go_roundw
        case rel => exact ⟨k + 1, by omega, by go_num, by rw [HTK.out, ← Nat.add_assoc, HS.out]; push_cast; rfl, HXR.out.trans p4⟩
        case measure => simp [intOf]; omega
    · obtain rfl : k = n.kids.length := by omega
      generalize hs : 1 + PN.sizes (n.kids.take n.kids.length) = S at *
      have HS := Lib.hid hs
      clear hs
      go_wp2_with fail
      go_ret
      refine ⟨?_, HX1.out.trans HXR.out⟩
      have e : 1 + PN.sizes (n.kids.take n.kids.length) = n.size := by rw [List.take_length]; have := HSE.out; omega
      rw [← HS.out, e]
      rfl
end Go.Proofs.YtdafdoodegpdhaaDoor
