/- what of PB PA PN PV PE PI PL PW PC PD PT PG PH PX PMA PMC PMB PMD PQ PMF this seat can say -/
import Derived.WalkKit
import Derived.WalkSpells
import Derived.WalkLawsBesides
import Derived.BigQuiet
import Derived.Deep.QuietTactic
import Derived.Lib.Hide
import Derived.Deep.RegionWith
import Derived.Deep.RegionHeld3
import Derived.Deep.LoopGhost
import Derived.Deep.DeepFit
import Derived.Deep.DeepMust
import Derived.Deep.DeepCutAuto
import Derived.Outline
import Derived.Test.YtdafdoodegpdhaaGreatDoorRows
import Derived.Laws.Cover4
import Derived.Laws.IdiomStrings
import Derived.Shelf.Slices.Reverse
import Derived.Ground.Names2Prog
import Derived.Shelf.Slices.Delete
import Derived.Shelf.Spec.SlicesInsertGrow
import Derived.Shelf.Slices.Cells
import Derived.Laws.EntriesVeiled
import Derived.Deep.CutBlock
import Derived.BigRegion
import Derived.RegionTactic
import Derived.ChangeAlike
import Derived.Deep.Slices
import Derived.ChangeSame
import Derived.ArgAppend
import Derived.Lib.ValidLaws
import Derived.Lib.SlTrimSet
import Derived.Shelf.Utf8.AppendRune
import Derived.Shelf.Unicode.ValidAny
import Derived.Shelf.Strings.SlTrimAscii
import Derived.Shelf.Strings.BuilderK
import Derived.Lib.OthersKept
import Derived.Deep.AppendSrc
import Derived.Deep.Upon
import Derived.Lib.ConvBytes
import Derived.Lib.SmallJoins
namespace Go.Proofs.YtdafdoodegpdhaaGreatDoor
open Go Go.RowKit Go.BigFrame

/-- new blocks, draws; all old blocks as they were -/
def Ext (w w' : World) : Prop := Below w.heap.size w w'
theorem Ext.refl (w : World) : Ext w w := Below.refl _ _
theorem Ext.trans {a b c : World} (h : Ext a b) (k : Ext b c) : Ext a c := Below.trans h (Below.mono k (Below.size h))
theorem Ext.alloc {a w : World} (h : Ext a w) (o : Obj) : Ext a (w.alloc o) := Below.alloc h (Below.size h) o
theorem Ext.drew {a w : World} (h : Ext a w) : Ext a w.drew := Below.drew h
theorem Ext.undrew {w w' : World} (h : Ext w.drew w') : Ext w w' := (Ext.drew (Ext.refl w)).trans h
theorem Ext.setCell {a w : World} (h : Ext a w) {p : Addr} (hp : a.heap.size ≤ p.block) (u : Value) : Ext a (w.setCell p u) := Below.setCell h hp u
theorem Ext.grown {a w w' : World} {row : Option Nat} (h : Ext a w) (hg : w.grownBy w' row) (hr : ∀ k, row = some k → a.heap.size ≤ k) : Ext a w' :=
  Below.grown h hg (Below.size h) hr
theorem Ext.size {w w' : World} (h : Ext w w') : w.heap.size ≤ w'.heap.size := Below.size h
theorem Ext.cell {w w' : World} (h : Ext w w') {b o : Nat} {v : Value} (hc : w.cell? ⟨b, o, none⟩ = some v) : w'.cell? ⟨b, o, none⟩ = some v :=
  (Below.cell h (p := ⟨b, o, none⟩) (World.block_lt_of_cell? w _ hc)).trans hc
theorem Ext.free {w w' : World} (h : Ext w w') {b o : Nat} (hlt : b < w.heap.size) (hc : w.frozen? ⟨b, o, none⟩ = false) : w'.frozen? ⟨b, o, none⟩ = false :=
  (Below.frozen h (p := ⟨b, o, none⟩) hlt).trans hc
theorem Ext.block {w w' : World} (h : Ext w w') {b : Nat} {x : Obj} (hb : w.heap[b]? = some x) : w'.heap[b]? = some x :=
  (Below.block h b (Array.getElem?_eq_some_iff.1 hb).1).trans hb
theorem cell_lt {w : World} {b o : Nat} {v : Value} (h : w.cell? ⟨b, o, none⟩ = some v) : b < w.heap.size := World.block_lt_of_cell? w _ h
/-- a world behind new blocks and draws -/
structure ExtOf (w : World) where
  val : World
  ext : Ext w val
instance (w : World) : Nonempty (ExtOf w) := ⟨⟨w, Ext.refl w⟩⟩
theorem inExt {P : Program} {f : FuncId} {args : Array Value} {w : World} {u : ExtOf w} {v : Value} (h : Calls P f args u.val fun e w' => e = .returned v ∧ Ext u.val w') :
    Calls P f args u.val fun e w' => e = .returned v ∧ ∃ u' : ExtOf w, w' = u'.val :=
  h.mono fun _ w' hh => ⟨hh.1, ⟨w', u.ext.trans hh.2⟩, rfl⟩
/-- a region that draws its order, whose operations read, and whose callees make new blocks at most: one walk in the order of the text -/
theorem wp_region_ext {P : Program} {id : Nat} {Q : Exit → Act → World → Prop} {a : Act} {w : World} {l : List Oper} (hm : P.follows .mixedOrders = true) (hB : Region.lexB .any l.toArray = true)
    (h : wpQuiet P l.toArray (fun w' => ∃ u : ExtOf w, w' = u.val) (fun a' => ∀ w', (∃ u : ExtOf w, w' = u.val) → Q .normal a' w') l a) : (Code.region id l.toArray true).wp P Q a w :=
  wp_region_quiet (C := fun w' => ∃ u : ExtOf w, w' = u.val) hm hB ⟨⟨w.drew, (Ext.refl w).drew⟩, rfl⟩ (by simpa using h)

/-- a bool is returned; only new blocks -/
def RBool (b : Bool) (w : World) (e : Ending) (w' : World) : Prop := e = .returned (.bool b) ∧ Ext w w'

/-- a fresh block of two cells, known and free -/
abbrev Two (w : World) (b : Nat) (x y : Value) : Prop := w.cell? ⟨b, 0, none⟩ = some x ∧ w.cell? ⟨b, 1, none⟩ = some y ∧ w.frozen? ⟨b, 0, none⟩ = false ∧ w.frozen? ⟨b, 1, none⟩ = false
theorem Two.ext {w w' : World} {b : Nat} {x y : Value} (h : Two w b x y) (k : Ext w w') : Two w' b x y :=
  ⟨k.cell h.1, k.cell h.2.1, k.free (cell_lt h.1) h.2.2.1, k.free (cell_lt h.1) h.2.2.2⟩
theorem Two.new (w : World) (x y : Value) (t : TypeId) : Two (w.alloc (.cells #[x, y] t)) w.heap.size x y :=
  ⟨by simp [go_sem], by simp [go_sem], by simp [go_sem], by simp [go_sem]⟩
end Go.Proofs.YtdafdoodegpdhaaGreatDoor

namespace Go.Proofs.YtdafdoodegpdhaaGreatDoor
open Go Go.RowKit Go.BigFrame
set_option linter.unusedVariables false

structure Nd where
  tag : Int
  attrs : List (ByteArray × ByteArray)
  text : ByteArray
  kids : List Int
  parent : Int
structure Tr where
  cap : Int
  deep : Int
  count : Int
  nodes : List (Option Nd)

/-- whose is a block? -/
abbrev Ow := Nat → Option (Nat × Nat)
/-- a slice of n elements that starts its block (of which p holds) with these cells; an empty one without room may lie anywhere -/
def RowP (w : World) (p : Nat → Prop) (e size : Nat) (v : Value) (n : Nat) (xs : List Value) : Prop :=
  xs.length = n * size ∧ ((n = 0 ∧ ∃ a, v = .slice a 0 0) ∨
    ∃ g cap cur, v = .slice (some ⟨g, 0, none⟩) n cap ∧ p g ∧ w.heap[g]? = some (.cells cur e (0, 0)) ∧ n ≤ cap ∧ cap ≤ maxLen ∧ cur.size = cap * size ∧ cur.toList.take (n * size) = xs)
/-- .. owned -/
def RowAt (w : World) (own : Ow) (e size : Nat) (o : Nat × Nat) (v : Value) (n : Nat) (xs : List Value) : Prop := RowP w (fun g => own g = some o) e size v n xs
/-- .. in new memory -/
def RowIn (w : World) (B : Nat) (e size : Nat) (v : Value) (n : Nat) (xs : List Value) : Prop := RowP w (fun g => B ≤ g) e size v n xs
/-- a slice that reads so, wherever it lies -/
def RowRd (w : World) (size : Nat) (v : Value) (n : Nat) (xs : List Value) : Prop :=
  xs.length = n * size ∧ ∃ ao cap, v = .slice ao n cap ∧ n ≤ cap ∧ (ao = none → n = 0 ∧ cap = 0) ∧ ∀ a, ao = some a → ∀ (j : Nat) x, xs[j]? = some x → w.cell? (a.add j) = some x
def attrCells : List (ByteArray × ByteArray) → List Value
  | [] => []
  | (a, b) :: r => .string a :: .string b :: attrCells r
/-- the numbers are small -/
structure Small (T : Tr) : Prop where
  cap0 : 0 ≤ T.cap
  cap1 : T.cap ≤ 2000
  deep0 : 0 ≤ T.deep
  deep1 : T.deep ≤ 40
  count0 : 0 ≤ T.count
  count1 : T.count ≤ T.cap
  len : T.nodes.length ≤ 2000

def Tr.get? (T : Tr) (id : Int) : Option Nd := if id < 0 then none else (T.nodes[id.toNat]?).join

/-- all blocks that are owned, and what is read of them, stays -/
def Keep (own : Ow) (w w' : World) : Prop := ∀ b, own b ≠ none → w'.heap[b]? = w.heap[b]?
theorem RowAt.keep {w w' : World} {own : Ow} {e size : Nat} {o : Nat × Nat} {v : Value} {n : Nat} {xs : List Value} (h : RowAt w own e size o v n xs) (k : Keep own w w') : RowAt w' own e size o v n xs := by
  refine ⟨h.1, ?_⟩
  rcases h.2 with h0 | ⟨g, cap, cur, h1, h2, h3, h4⟩
  · exact .inl h0
  · exact .inr ⟨g, cap, cur, h1, h2, by rw [k g (by simp [h2])]; exact h3, h4⟩
/-- owned blocks are there -/
def Owned (own : Ow) (w : World) : Prop := ∀ b, own b ≠ none → b < w.heap.size
theorem Ext.keep {w w' : World} {own : Ow} (h : Ext w w') (o : Owned own w) : Keep own w w' := fun b hb => Below.block h b (o b hb)

theorem cellOf {w : World} {b : Nat} {cs : Array Value} {t : TypeId} {fr : Nat × Nat} (h : w.heap[b]? = some (.cells cs t fr)) {i : Nat} {v : Value} (hi : cs[i]? = some v) : w.cell? ⟨b, i, none⟩ = some v := by
  simp [World.cell?, h, hi]
theorem freeOf {w : World} {b : Nat} {cs : Array Value} {t : TypeId} (h : w.heap[b]? = some (.cells cs t (0, 0))) (i : Nat) : w.frozen? ⟨b, i, none⟩ = false := by
  simp [World.frozen?, h]
theorem RowP.rd {w : World} {p : Nat → Prop} {e size : Nat} {v : Value} {n : Nat} {xs : List Value} (h : RowP w p e size v n xs) : RowRd w size v n xs := by
  refine ⟨h.1, ?_⟩
  rcases h.2 with ⟨rfl, a, rfl⟩ | ⟨g, cap, cur, rfl, h2, h3, h4, h5, h6, h7⟩
  · have hl := h.1
    obtain rfl : xs = [] := List.eq_nil_of_length_eq_zero (by simpa using hl)
    exact ⟨a, 0, rfl, Nat.le_refl _, fun _ => ⟨rfl, rfl⟩, fun a' _ j x hx => by simp at hx⟩
  · refine ⟨_, cap, rfl, h4, (fun h => by cases h), fun a ha j x hx => ?_⟩
    cases ha
    rw [Addr.add_lit, Nat.zero_add]
    refine cellOf h3 ?_
    rw [← h7, List.getElem?_take] at hx
    split at hx
    · simpa using hx
    · cases hx
theorem RowRd.len_of {w : World} {size : Nat} {v : Value} {n : Nat} {xs : List Value} (h : RowRd w size v n xs) : ∃ a cap, v = .slice a n cap ∧ n ≤ cap := by
  obtain ⟨_, a, cap, h1, h2, _⟩ := h
  exact ⟨a, cap, h1, h2⟩
theorem RowRd.ext {w w' : World} {size : Nat} {v : Value} {n : Nat} {xs : List Value} (h : RowRd w size v n xs) (k : Ext w w') : RowRd w' size v n xs := by
  obtain ⟨h1, ao, cap, h2, h3, h4, h5⟩ := h
  refine ⟨h1, ao, cap, h2, h3, h4, fun a ha j x hx => ?_⟩
  have hc := h5 a ha j x hx
  exact (Below.cell k (World.block_lt_of_cell? w _ hc)).trans hc
theorem RowP.imp {w : World} {p q : Nat → Prop} {e size : Nat} {v : Value} {n : Nat} {xs : List Value} (h : RowP w p e size v n xs) (k : ∀ g, v.ownBlock = some g → p g → q g) : RowP w q e size v n xs := by
  refine ⟨h.1, ?_⟩
  rcases h.2 with h0 | ⟨g, cap, cur, h1, h2, h3⟩
  · exact .inl h0
  · exact .inr ⟨g, cap, cur, h1, k g (by rw [h1]; rfl) h2, h3⟩
theorem RowP.ext {w w' : World} {p : Nat → Prop} {e size : Nat} {v : Value} {n : Nat} {xs : List Value} (h : RowP w p e size v n xs) (k : Ext w w') : RowP w' p e size v n xs := by
  refine ⟨h.1, ?_⟩
  rcases h.2 with h0 | ⟨g, cap, cur, h1, h2, h3, h4⟩
  · exact .inl h0
  · exact .inr ⟨g, cap, cur, h1, h2, k.block h3, h4⟩
theorem RowP.block {w : World} {B e size : Nat} {v : Value} {n : Nat} {xs : List Value} (h : RowP w (fun g => B ≤ g) e size v n xs) : ∃ rb : Option Nat, RowP w (fun g => rb = some g) e size v n xs ∧ ∀ k, rb = some k → B ≤ k ∧ k < w.heap.size := by
  rcases h.2 with h0 | ⟨g, cap, cur, h1, h2, h3, h4⟩
  · exact ⟨none, ⟨h.1, .inl h0⟩, fun k hk => by cases hk⟩
  · exact ⟨some g, ⟨h.1, .inr ⟨g, cap, cur, h1, rfl, h3, h4⟩⟩, fun k hk => by cases hk; exact ⟨h2, (Array.getElem?_eq_some_iff.1 h3).1⟩⟩
theorem RowIn.block {w : World} {B e size : Nat} {v : Value} {n : Nat} {xs : List Value} (h : RowIn w B e size v n xs) : ∃ rb : Option Nat, RowP w (fun g => rb = some g) e size v n xs ∧ ∀ k, rb = some k → B ≤ k ∧ k < w.heap.size := RowP.block h
theorem RowP.of_owns {w : World} {B e size : Nat} {v : Value} {n : Nat} {xs : List Value} (h : w.ownsRow B e size v n xs) : RowIn w B e size v n xs := by
  refine ⟨h.1, ?_⟩
  rcases h.2 with ⟨h1, h2⟩ | ⟨g, cap, cur, h1, h2, h3, h4⟩
  · exact .inl ⟨h2, none, h2 ▸ h1⟩
  · exact .inr ⟨g, cap, cur, h1, h2, h3, h4⟩
theorem RowAt.cell {w : World} {own : Ow} {e : Nat} {o : Nat × Nat} {v : Value} {n : Nat} {xs : List Value} (h : RowAt w own e 1 o v n xs) {i : Nat} {x : Value} (hx : xs[i]? = some x) :
    ∃ g cap, v = .slice (some ⟨g, 0, none⟩) n cap ∧ w.cell? ⟨g, i, none⟩ = some x := by
  rcases h.2 with ⟨h0, _⟩ | ⟨g, cap, cur, h1, h2, h3, h4, h5, h6, h7⟩
  · have hl := h.1
    rw [h0] at hl
    obtain rfl : xs = [] := List.eq_nil_of_length_eq_zero (by simpa using hl)
    simp at hx
  · refine ⟨g, cap, h1, cellOf h3 ?_⟩
    rw [← h7, List.getElem?_take] at hx
    split at hx
    · simpa using hx
    · cases hx
theorem RowAt.len {w : World} {own : Ow} {e size : Nat} {o : Nat × Nat} {v : Value} {n : Nat} {xs : List Value} (h : RowAt w own e size o v n xs) : ∃ a cap, v = .slice a n cap ∧ n ≤ cap ∧ cap ≤ maxLen := by
  rcases h.2 with ⟨rfl, a, rfl⟩ | ⟨g, cap, cur, h1, h2, h3, h4, h5, h6⟩
  · exact ⟨a, 0, rfl, Nat.le_refl _, Nat.zero_le _⟩
  · exact ⟨_, cap, h1, h4, h5⟩

/-- a value is returned, and nothing has turned -/
def RSame (v : Value) (w : World) (e : Ending) (w' : World) : Prop := e = .returned v ∧ w = w'
/-- a value is returned; only new blocks -/
def RVal (v : Value) (w : World) (e : Ending) (w' : World) : Prop := e = .returned v ∧ Ext w w'
theorem RSame.val {P : Program} {f : FuncId} {args : Array Value} {v : Value} {w : World} (h : Calls P f args w (RSame v w)) : Calls P f args w (RVal v w) :=
  h.mono fun e w' hh => ⟨hh.1, hh.2 ▸ Ext.refl w⟩

end Go.Proofs.YtdafdoodegpdhaaGreatDoor

namespace Go.Proofs.YtdafdoodegpdhaaGreatDoor
open Go Go.RowKit Go.BigFrame
set_option linter.unusedVariables false

/-- two values are returned; only new blocks -/
def RTwo (v v' : Value) (w : World) (e : Ending) (w' : World) : Prop := e = .returned (.tuple #[v, v']) ∧ Ext w w'
end Go.Proofs.YtdafdoodegpdhaaGreatDoor

namespace Go.Proofs.YtdafdoodegpdhaaGreatDoor
open Go Go.RowKit Go.BigFrame
set_option linter.unusedVariables false

theorem infoA : (Tryz.prog.info? 72).map (fun i => (i.zero, i.size, i.bytes)) = some (some (.agg #[.string ByteArray.empty, .string ByteArray.empty]), 2, 32) := by kernel_rfl
end Go.Proofs.YtdafdoodegpdhaaGreatDoor

namespace Go.Proofs.YtdafdoodegpdhaaGreatDoor
open Go Go.RowKit Go.BigFrame
set_option linter.unusedVariables false

/-- what holds of every tree; d: how deep a node lies -/
structure WF (T : Tr) (d : Nat → Nat) : Prop where
  small : Small T
  root : ∃ nd, T.nodes[0]? = some (some nd) ∧ nd.parent = -1 ∧ nd.tag = 1
  deep : ∀ (i : Nat) (nd : Nd), T.nodes[i]? = some (some nd) → (d i : Int) ≤ T.deep
  up : ∀ (i : Nat) (nd : Nd), T.nodes[i]? = some (some nd) → nd.parent = -1 ∧ d i = 0 ∨ ∃ (p : Nat) (pd : Nd), nd.parent = (p : Int) ∧ T.nodes[p]? = some (some pd) ∧ d i = d p + 1 ∧ (i : Int) ∈ pd.kids
  kids : ∀ (i : Nat) (nd : Nd), T.nodes[i]? = some (some nd) → nd.kids.Nodup ∧ ∀ k ∈ nd.kids, ∃ (j : Nat) (kd : Nd), k = (j : Int) ∧ T.nodes[j]? = some (some kd) ∧ kd.parent = (i : Int)
  text : ∀ (i : Nat) (nd : Nd), T.nodes[i]? = some (some nd) → 0 ≤ nd.tag ∧ nd.tag ≤ 16 ∧ (nd.tag = 0 → nd.kids = [])
  count : T.count = ((T.nodes.countP Option.isSome : Nat) : Int)
theorem Tr.get_nat (T : Tr) (i : Nat) : T.get? (i : Int) = (T.nodes[i]?).join := by
  unfold Tr.get?; rw [if_neg (by omega), Int.toNat_natCast]
theorem Tr.get_of {T : Tr} {i : Nat} {nd : Nd} (h : T.nodes[i]? = some (some nd)) : T.get? (i : Int) = some nd := by
  rw [T.get_nat, h]; rfl
/-- is outer met on the way up from i? -/
def isIn (T : Tr) (outer : Int) : Nat → Int → Bool
  | 0, _ => false
  | f + 1, id => if id < 0 then false else if id = outer then true else match T.get? id with
    | some nd => isIn T outer f nd.parent
    | none => false
theorem isIn_step {T : Tr} (outer : Int) (f : Nat) {i : Nat} {nd : Nd} (h : T.nodes[i]? = some (some nd)) : isIn T outer (f + 1) i = if (i : Int) = outer then true else isIn T outer f nd.parent := by
  show (if (i : Int) < 0 then false else if (i : Int) = outer then true else match T.get? i with | some nd => isIn T outer f nd.parent | none => false) = _
  rw [if_neg (by omega), Tr.get_of h]
theorem isIn_neg (T : Tr) (outer : Int) (f : Nat) : isIn T outer f (-1) = false := by cases f <;> simp [isIn]
theorem isIn_more {T : Tr} {d : Nat → Nat} (hw : WF T d) (outer : Int) : ∀ (f g i : Nat) (nd : Nd), T.nodes[i]? = some (some nd) → d i < f → d i < g → isIn T outer f i = isIn T outer g i := by
  intro f
  induction f with
  | zero => intro g i nd h h1; omega
  | succ f ih =>
    intro g i nd h h1 h2
    cases g with
    | zero => omega
    | succ g =>
      rw [isIn_step outer f h, isIn_step outer g h]
      split
      · rfl
      · rcases hw.up i nd h with ⟨h3, h4⟩ | ⟨p, pd, h3, h4, h5, h6⟩
        · rw [h3, isIn_neg, isIn_neg]
        · rw [h3]; exact ih g p pd h4 (by omega) (by omega)
def Tr.within (T : Tr) (id outer : Int) : Bool := isIn T outer 50 id

end Go.Proofs.YtdafdoodegpdhaaGreatDoor

namespace Go.Proofs.YtdafdoodegpdhaaGreatDoor
open Go Go.RowKit Go.BigFrame
set_option linter.unusedVariables false

/-- how high a node stands, with fuel -/
def Tr.hgt (T : Tr) : Nat → Int → Int
  | 0, _ => 0
  | f + 1, id => match T.get? id with
    | none => -1
    | some nd => nd.kids.foldl (fun h k => max h (T.hgt f k + 1)) 0
theorem WF.kid {T : Tr} {d : Nat → Nat} (hw : WF T d) {i : Nat} {nd : Nd} (h : T.nodes[i]? = some (some nd)) {n : Nat} {k : Int} (hk : nd.kids[n]? = some k) :
    ∃ (j : Nat) (kd : Nd), k = (j : Int) ∧ T.nodes[j]? = some (some kd) ∧ kd.parent = (i : Int) ∧ d j = d i + 1 := by
  obtain ⟨j, kd, h1, h2, h3⟩ := (hw.kids i nd h).2 k (List.mem_of_getElem? hk)
  refine ⟨j, kd, h1, h2, h3, ?_⟩
  rcases hw.up j kd h2 with ⟨h4, h5⟩ | ⟨p, pd, h4, h5, h6, h7⟩
  · omega
  · obtain rfl : p = i := by omega
    exact h6
/-- the first place of x; -1: there is none -/
def posOf (l : List Int) (x : Int) : Int := if x ∈ l then (l.idxOf x : Int) else -1
end Go.Proofs.YtdafdoodegpdhaaGreatDoor

namespace Go.Proofs.YtdafdoodegpdhaaGreatDoor
open Go Go.RowKit Go.BigFrame
set_option linter.unusedVariables false

def runeList (s : ByteArray) : Nat → Nat → List Int
  | 0, _ => []
  | b + 1, i => if i < s.size then Int.ofNat (Utf8.decode s i).1 :: runeList s b (i + (Utf8.decode s i).2) else []
/-- a text, written anew in UTF-8 -/
def anewB (s : ByteArray) : ByteArray := runesBytes (runeList s s.size 0)
theorem runesFrom_eq (s : ByteArray) : ∀ (b i : Nat) (acc : Array Value), Conv.runesFrom s b i acc = acc ++ ((runeList s b i).map (Value.int .i32)).toArray := by
  intro b
  induction b with
  | zero => intro i acc; simp [Conv.runesFrom, runeList]
  | succ b ih =>
    intro i acc
    unfold Conv.runesFrom runeList
    split
    · show Conv.runesFrom s b (i + (Utf8.decode s i).2) (acc.push (.int .i32 (Int.ofNat (Utf8.decode s i).1))) = _
      rw [ih]; simp
    · simp
theorem runeList_len (s : ByteArray) : ∀ (b i : Nat), (runeList s b i).length ≤ b := by
  intro b
  induction b with
  | zero => intro i; simp [runeList]
  | succ b ih =>
    intro i
    unfold runeList
    split
    · have := ih (i + (Utf8.decode s i).2); simp; omega
    · simp
theorem anewB_size (s : ByteArray) : (anewB s).size ≤ 4 * s.size := by
  have h1 := runesBytes_size_le (runeList s s.size 0)
  have h2 := runeList_len s s.size 0
  unfold anewB; omega

end Go.Proofs.YtdafdoodegpdhaaGreatDoor

namespace Go.Proofs.YtdafdoodegpdhaaGreatDoor
open Go Go.RowKit Go.BigFrame
set_option linter.unusedVariables false

theorem RowP.owns {w : World} {p : Nat → Prop} {e size : Nat} {v : Value} {n : Nat} {xs : List Value} (h : RowP w p e size v n xs) :
    (n = 0 ∧ xs = [] ∧ ∃ a, v = .slice (some a) 0 0) ∨ (w.ownsRow 0 e size v n xs ∧ ∀ k, v.ownBlock = some k → p k) := by
  rcases h.2 with ⟨h0, a, h1⟩ | ⟨g, cap, cur, h1, h2, h3, h4⟩
  · have hx : xs = [] := List.eq_nil_of_length_eq_zero (by rw [h.1, h0]; simp)
    cases a with
    | some a => exact .inl ⟨h0, hx, a, h1⟩
    | none => exact .inr ⟨⟨h.1, .inl ⟨h1, h0⟩⟩, by rw [h1]; intro k hk; cases hk⟩
  · exact .inr ⟨⟨h.1, .inr ⟨g, cap, cur, h1, Nat.zero_le _, h3, h4⟩⟩, by rw [h1]; intro k hk; cases hk; exact h2⟩
theorem RowP.of_owns0 {w' : World} {p : Nat → Prop} {B e size : Nat} {v : Value} {n : Nat} {xs : List Value} (h : w'.ownsRow B e size v n xs) (hp : ∀ k, v.ownBlock = some k → p k) : RowP w' p e size v n xs := by
  refine ⟨h.1, ?_⟩
  rcases h.2 with ⟨h1, h2⟩ | ⟨g, cap, cur, h1, h2, h3, h4⟩
  · exact .inl ⟨h2, none, h2 ▸ h1⟩
  · exact .inr ⟨g, cap, cur, h1, hp g (by rw [h1]; rfl), h3, h4⟩
/-- 'append(xs, ys..)' onto a row: it may grow; what may have been written is the row's own block -/
theorem run_append_row {P : Program} (w : World) (t ty e : TypeId) (i : TypeInfo) (z : Value) (size bytes : Nat) (ht : P.underlying t = some (.slice e)) (hi : P.info? e = some i) (hz : i.zero = some z)
    (hsize : i.size = size) (hby : i.bytes = bytes) (hzs : z.cells.size = size) (hsz : 0 < size) {p : Nat → Prop} {v : Value} {n : Nat} {xs : List Value} (hr : RowP w p e size v n xs)
    (a : Addr) (m c : Nat) (news : List Value) (hl : news.length = m * size) (hnews : ∀ j u, news[j]? = some u → w.cell? (a.add j) = some u) (h1 : ∀ u ∈ news, u.oneCell' = true)
    (hm : 0 < m) (h63 : n + m ≤ maxLen) (hbytes : (n + m) * bytes ≤ 140737488355328) :
    ∃ v' w' row, (Builtin.append_ #[t, t] ty #[v, .slice (some a) m c]).run P w = .ok v' w' ∧ RowP w' (fun g => p g ∨ w.heap.size ≤ g) e size v' (n + m) (xs ++ news) ∧ w.grownBy w' row ∧ ∀ k, row = some k → p k := by
  rcases hr.2 with ⟨rfl, ao, rfl⟩ | ⟨g, cap, cur, rfl, hpg, hg, hnc, hcm, hcs, htake⟩
  · obtain rfl : xs = [] := List.eq_nil_of_length_eq_zero (by rw [hr.1]; simp)
    cases ao with
    | some ad =>
      obtain ⟨v', w', h2, h3, h4⟩ := run_append_arg_grows (P := P) w t ty e i z size bytes ht hi hz hsize hby hzs hsz ad 0 0 [] (by simp) (by simp) a m c news hl hnews (by omega) h63 hbytes
      exact ⟨v', w', none, h2, (RowP.of_owns h3).imp fun g _ hg => .inr hg, h4, fun k hk => by cases hk⟩
    | none =>
      obtain ⟨v', w', h2, h3, h4, h5⟩ := run_append_own (P := P) w w.heap.size t ty e i z size bytes ht hi hz hsize hby hzs hsz (.slice none 0 0) 0 [] (World.ownsRow_nil w _ e size) a m c news hl hnews h1 h63 hbytes (Nat.le_refl _)
      exact ⟨v', w', none, h2, (RowP.of_owns h3).imp fun g _ hg => .inr hg, h4, fun k hk => by cases hk⟩
  · have hown : w.ownsRow 0 e size (.slice (some ⟨g, 0, none⟩) n cap) n xs := ⟨hr.1, .inr ⟨g, cap, cur, rfl, Nat.zero_le _, hg, hnc, hcm, hcs, htake⟩⟩
    by_cases hroom : n + m ≤ cap
    · obtain ⟨v', w', h2, h3, h4, h5⟩ := run_append_own (P := P) w 0 t ty e i z size bytes ht hi hz hsize hby hzs hsz _ n xs hown a m c news hl hnews h1 h63 hbytes (Nat.zero_le _)
      have hfit : n * i.size + news.length ≤ cur.size := by rw [hl, hcs, hsize, ← Nat.add_mul]; exact Nat.mul_le_mul_right _ hroom
      have hr2 := run_append_room (P := P) w t ty e i ht hi g n cap cur hg a m c news (by rw [hsize]; exact hl) hnews h1 hroom hfit
      rw [h2] at hr2
      have hv : v' = .slice (some ⟨g, 0, none⟩) (n + m) cap := by injection hr2
      refine ⟨v', w', some g, h2, RowP.of_owns0 h3 fun k hk => ?_, h4, fun k hk => by cases hk; exact hpg⟩
      rw [hv] at hk
      cases hk
      exact .inl hpg
    · have holds : ∀ j u, xs[j]? = some u → w.cell? ((⟨g, 0, none⟩ : Addr).add j) = some u := hown.cells (g := g) rfl
      obtain ⟨v', w', h2, h3, h4⟩ := run_append_arg_grows (P := P) w t ty e i z size bytes ht hi hz hsize hby hzs hsz ⟨g, 0, none⟩ n cap xs hr.1 holds a m c news hl hnews (by omega) h63 hbytes
      exact ⟨v', w', none, h2, (RowP.of_owns h3).imp fun g _ hg => .inr hg, h4, fun k hk => by cases hk⟩
/-- the first free number; -1: there is none -/
def freeOf' (l : List (Option Nd)) : Int := if l.any Option.isNone then (l.findIdx Option.isNone : Int) else -1
end Go.Proofs.YtdafdoodegpdhaaGreatDoor

namespace Go.Proofs.YtdafdoodegpdhaaGreatDoor
open Go Go.RowKit Go.BigFrame
set_option linter.unusedVariables false

/-- what a call on a tree may turn: the tree's own blocks; who owns an old block stays -/
structure Step (own : Ow) (w : World) (own' : Ow) (w' : World) : Prop where
  os : w'.os = w.os
  tape : w'.tape = w.tape
  output : w'.output = w.output
  size : w.heap.size ≤ w'.heap.size
  rest : ∀ b, b < w.heap.size → own b = none → w'.heap[b]? = w.heap[b]?
  same : ∀ b, b < w.heap.size → own' b = own b
  owned : Owned own' w'
theorem Step.refl {own : Ow} {w : World} (h : Owned own w) : Step own w own w := ⟨rfl, rfl, rfl, Nat.le_refl _, fun _ _ _ => rfl, fun _ _ => rfl, h⟩
theorem Step.trans {o1 o2 o3 : Ow} {a b c : World} (h : Step o1 a o2 b) (k : Step o2 b o3 c) : Step o1 a o3 c :=
  ⟨k.os.trans h.os, k.tape.trans h.tape, k.output.trans h.output, Nat.le_trans h.size k.size,
   fun x hx hn => (k.rest x (Nat.lt_of_lt_of_le hx h.size) ((h.same x hx).trans hn)).trans (h.rest x hx hn),
   fun x hx => (k.same x (Nat.lt_of_lt_of_le hx h.size)).trans (h.same x hx), k.owned⟩
theorem Step.ext {own own' : Ow} {a b c : World} (h : Step own a own' b) (k : Ext b c) : Step own a own' c :=
  ⟨(Below.os k).trans h.os, (Below.tape k).trans h.tape, (Below.output k).trans h.output, Nat.le_trans h.size (Ext.size k),
   fun x hx hn => (Below.block k x (Nat.lt_of_lt_of_le hx h.size)).trans (h.rest x hx hn), h.same, fun x hx => Nat.lt_of_lt_of_le (h.owned x hx) (Ext.size k)⟩
theorem Step.setCell {own own' : Ow} {a b : World} (h : Step own a own' b) {p : Addr} (hp : p.block < a.heap.size → own p.block ≠ none) (u : Value) : Step own a own' (b.setCell p u) :=
  ⟨h.os, h.tape, h.output, by have := h.size; simpa [World.setCell] using this,
   fun x hx hn => by rw [Below.heap_setCell _ _ _ _ (fun e => hp (e ▸ hx) (e ▸ hn))]; exact h.rest x hx hn, h.same,
   fun x hx => by have := h.owned x hx; simpa [World.setCell] using this⟩
/-- new blocks get their owners -/
theorem Step.own {own own' own'' : Ow} {a b : World} (h : Step own a own' b) (h1 : ∀ x, x < a.heap.size → own'' x = own' x) (h2 : Owned own'' b) : Step own a own'' b :=
  ⟨h.os, h.tape, h.output, h.size, h.rest, fun x hx => (h1 x hx).trans (h.same x hx), h2⟩

theorem heap_setCell_same {w : World} {b i : Nat} {cs : Array Value} {t : TypeId} {fr : Nat × Nat} (h : w.heap[b]? = some (.cells cs t fr)) (u : Value) :
    (w.setCell ⟨b, i, none⟩ u).heap[b]? = some (.cells (cs.setIfInBounds i u) t fr) := by
  simp [World.setCell, Array.getElem?_modify, h]
theorem heap_setCell_other {w : World} {p : Addr} {b : Nat} (u : Value) (h : b ≠ p.block) : (w.setCell p u).heap[b]? = w.heap[b]? := Below.heap_setCell _ _ _ _ h

theorem RowP.move {w w' : World} {p p' : Nat → Prop} {e size : Nat} {v : Value} {n : Nat} {xs : List Value} (h : RowP w p e size v n xs) (k : ∀ g, p g → w'.heap[g]? = w.heap[g]? ∧ p' g) : RowP w' p' e size v n xs := by
  refine ⟨h.1, ?_⟩
  rcases h.2 with h0 | ⟨g, cap, cur, h1, h2, h3, h4⟩
  · exact .inl h0
  · exact .inr ⟨g, cap, cur, h1, (k g h2).2, by rw [(k g h2).1]; exact h3, h4⟩
end Go.Proofs.YtdafdoodegpdhaaGreatDoor

namespace Go.Proofs.YtdafdoodegpdhaaGreatDoor
open Go Go.RowKit Go.BigFrame
set_option linter.unusedVariables false
set_option linter.unusedSimpArgs false

theorem Step.drew {own own' : Ow} {a b : World} (h : Step own a own' b) : Step own a own' b.drew := h.ext ((Ext.refl b).drew)
theorem Ext.step {own : Ow} {w w' : World} (h : Ext w w') (hO : Owned own w) : Step own w own w' :=
  ⟨Below.os h, Below.tape h, Below.output h, Ext.size h, fun b hb _ => Below.block h b hb, fun _ _ => rfl, fun b hb => Nat.lt_of_lt_of_le (hO b hb) (Ext.size h)⟩

end Go.Proofs.YtdafdoodegpdhaaGreatDoor

namespace Go.Proofs.YtdafdoodegpdhaaGreatDoor
open Go Go.RowKit Go.BigFrame
set_option linter.unusedVariables false
set_option linter.unusedSimpArgs false

end Go.Proofs.YtdafdoodegpdhaaGreatDoor

namespace Go.Proofs.YtdafdoodegpdhaaGreatDoor
open Go Go.RowKit Go.BigFrame
set_option linter.unusedVariables false
set_option linter.unusedSimpArgs false

theorem freeOf_cases (l : List (Option Nd)) : (∃ i : Nat, freeOf' l = (i : Int) ∧ l[i]? = some none) ∨ (freeOf' l = -1 ∧ ∀ x ∈ l, x ≠ none) := by
  by_cases h : l.any Option.isNone = true
  · left
    have hlt : l.findIdx Option.isNone < l.length := List.findIdx_lt_length.2 (by
      rw [List.any_eq_true] at h; exact h)
    refine ⟨l.findIdx Option.isNone, by unfold freeOf'; rw [if_pos h], ?_⟩
    have := List.findIdx_getElem (w := hlt)
    rw [List.getElem?_eq_getElem hlt]
    cases hx : l[l.findIdx Option.isNone] with
    | none => rfl
    | some y => rw [hx] at this; cases this
  · right
    refine ⟨by unfold freeOf'; rw [if_neg h], fun x hx hn => h (List.any_eq_true.2 ⟨x, hx, by rw [hn]; rfl⟩)⟩
def Tr.newId (T : Tr) : Int := if 0 ≤ freeOf' T.nodes then freeOf' T.nodes else T.nodes.length
def Tr.put (T : Tr) (nd : Nd) : Tr := { T with count := T.count + 1, nodes := if 0 ≤ freeOf' T.nodes then T.nodes.set (freeOf' T.nodes).toNat (some nd) else T.nodes ++ [some nd] }
theorem count_all {l : List (Option Nd)} (h : ∀ x ∈ l, x ≠ none) : l.countP Option.isSome = l.length := by
  rw [List.countP_eq_length]
  intro x hx
  cases x with
  | none => exact absurd rfl (h none hx)
  | some y => rfl
theorem WF.len_full {T : Tr} {d : Nat → Nat} (hw : WF T d) (h : ∀ x ∈ T.nodes, x ≠ none) : (T.nodes.length : Int) = T.count := by
  rw [hw.count, count_all h]
theorem attrCells_one (l : List (ByteArray × ByteArray)) : ∀ u ∈ attrCells l, u.oneCell' = true := by
  induction l with
  | nil => intro u hu; simp [attrCells] at hu
  | cons p r ih =>
    intro u hu
    obtain ⟨a, b⟩ := p
    simp only [attrCells, List.mem_cons] at hu
    rcases hu with rfl | rfl | hu
    · rfl
    · rfl
    · exact ih u hu
theorem attrCells_len (l : List (ByteArray × ByteArray)) : (attrCells l).length = l.length * 2 := by
  induction l with
  | nil => rfl
  | cons p r ih => obtain ⟨a, b⟩ := p; simp only [attrCells, List.length_cons, ih]; omega

/-- where the new node is, the others as they were -/
theorem Tr.put_at (T : Tr) (nd : Nd) : ∃ n : Nat, T.newId = (n : Int) ∧ (T.put nd).nodes[n]? = some (some nd) ∧ (∀ (x : Nd), T.nodes[n]? ≠ some (some x)) ∧
    (∀ (j : Nat) (x : Nd), T.nodes[j]? = some (some x) → (T.put nd).nodes[j]? = some (some x)) ∧ (∀ (j : Nat) (x : Nd), j ≠ n → (T.put nd).nodes[j]? = some (some x) → T.nodes[j]? = some (some x)) ∧
    (T.put nd).nodes.countP Option.isSome = T.nodes.countP Option.isSome + 1 ∧ (T.put nd).nodes.length ≤ T.nodes.length + 1 ∧ ((∃ x ∈ T.nodes, x = none) → (T.put nd).nodes.length = T.nodes.length) := by
  unfold Tr.newId Tr.put
  rcases freeOf_cases T.nodes with ⟨i, h1, h2⟩ | ⟨h1, h2⟩
  · rw [h1, if_pos (by omega), if_pos (by omega), Int.toNat_natCast]
    have hlt := (List.getElem?_eq_some_iff.1 h2).1
    refine ⟨i, rfl, by simp [hlt], fun x h => (by rw [h2] at h; cases h), fun j x hj => ?_, fun j x hji hj => ?_, ?_, by simp, fun _ => by simp⟩
    · show (T.nodes.set i (some nd))[j]? = _
      rw [List.getElem?_set]
      split
      · rename_i e; subst e; rw [h2] at hj; cases hj
      · exact hj
    · have hj' : (T.nodes.set i (some nd))[j]? = some (some x) := hj
      rw [List.getElem?_set, if_neg (Ne.symm hji)] at hj'
      exact hj'
    · show (T.nodes.set i (some nd)).countP Option.isSome = _
      rw [List.countP_set hlt]
      have : T.nodes[i] = none := by
        have := List.getElem?_eq_getElem hlt
        rw [h2] at this
        exact (Option.some.inj this).symm
      simp [this]
  · rw [h1, if_neg (by omega), if_neg (by omega)]
    refine ⟨T.nodes.length, rfl, by simp, fun x h => ?_, fun j x hj => ?_, fun j x hji hj => ?_, by simp, by simp, fun ⟨x, hx, he⟩ => absurd he (h2 x hx)⟩
    · rw [List.getElem?_eq_none (Nat.le_refl _)] at h; cases h
    · show (T.nodes ++ [some nd])[j]? = _
      rw [List.getElem?_append_left (List.getElem?_eq_some_iff.1 hj).1]; exact hj
    · have hj' : (T.nodes ++ [some nd])[j]? = some (some x) := hj
      rw [List.getElem?_append] at hj'
      split at hj'
      · exact hj'
      · rename_i hge
        rw [List.getElem?_eq_none (by simp; omega)] at hj'
        cases hj'
theorem WF.put {T : Tr} {d : Nat → Nat} (hw : WF T d) (nd : Nd) (hk : nd.kids = []) (hp : nd.parent = -1) (ht0 : 0 ≤ nd.tag) (ht1 : nd.tag ≤ 16) (hroom : T.count + 1 ≤ T.cap) (hroot : T.newId ≠ 0) :
    WF (T.put nd) (fun j => if (j : Int) = T.newId then 0 else d j) := by
  obtain ⟨n, h1, h2, h3, h4, h5, h6, h7, h8⟩ := T.put_at nd
  have hs := hw.small
  have hcap : (T.put nd).cap = T.cap := rfl
  have hdeep : (T.put nd).deep = T.deep := rfl
  have hcount : (T.put nd).count = T.count + 1 := rfl
  refine ⟨⟨hs.cap0, hs.cap1, hs.deep0, hs.deep1, ?_, hroom, ?_⟩, ?_, ?_, ?_, ?_, ?_, ?_⟩
  · have := hs.count0; show 0 ≤ T.count + 1; omega
  · by_cases hx : ∃ x ∈ T.nodes, x = none
    · rw [h8 hx]; exact hs.len
    · have hl := hw.len_full (fun x hx' he => hx ⟨x, hx', he⟩)
      have := hs.cap1
      omega
  · obtain ⟨r, r1, r2, r3⟩ := hw.root
    exact ⟨r, h4 0 r r1, r2, r3⟩
  · intro i x hi
    by_cases hin : i = n
    · rw [if_pos (by rw [h1, hin])]; exact hs.deep0
    · rw [if_neg (by rw [h1]; omega)]; exact hw.deep i x (h5 i x hin hi)
  · intro i x hi
    by_cases hin : i = n
    · left
      rw [hin, h2] at hi
      cases hi
      exact ⟨hp, if_pos (by rw [h1, hin])⟩
    · rcases hw.up i x (h5 i x hin hi) with ⟨q1, q2⟩ | ⟨p, pd, q1, q2, q3, q4⟩
      · left
        exact ⟨q1, by rw [if_neg (by rw [h1]; omega)]; exact q2⟩
      · right
        have hpn : p ≠ n := fun e => h3 pd (e ▸ q2)
        exact ⟨p, pd, q1, h4 p pd q2, by rw [if_neg (by rw [h1]; omega), if_neg (by rw [h1]; omega)]; exact q3, q4⟩
  · intro i x hi
    by_cases hin : i = n
    · rw [hin, h2] at hi
      cases hi
      rw [hk]
      exact ⟨List.nodup_nil, fun k hk => by simp at hk⟩
    · obtain ⟨q1, q2⟩ := hw.kids i x (h5 i x hin hi)
      exact ⟨q1, fun k hk => by obtain ⟨j, kd, r1, r2, r3⟩ := q2 k hk; exact ⟨j, kd, r1, h4 j kd r2, r3⟩⟩
  · intro i x hi
    by_cases hin : i = n
    · rw [hin, h2] at hi
      cases hi
      exact ⟨ht0, ht1, fun _ => hk⟩
    · exact hw.text i x (h5 i x hin hi)
  · rw [hcount, h6, hw.count]; push_cast; rfl
end Go.Proofs.YtdafdoodegpdhaaGreatDoor

namespace Go.Proofs.YtdafdoodegpdhaaGreatDoor
open Go Go.RowKit Go.BigFrame
set_option linter.unusedVariables false
set_option linter.unusedSimpArgs false

/-- within, once for all fuel -/
theorem WF.d50 {T : Tr} {d : Nat → Nat} (hw : WF T d) {i : Nat} {nd : Nd} (h : T.nodes[i]? = some (some nd)) : d i < 50 := by
  have := hw.deep i nd h; have := hw.small.deep1; omega
theorem WF.within_step {T : Tr} {d : Nat → Nat} (hw : WF T d) {i : Nat} {nd : Nd} (h : T.nodes[i]? = some (some nd)) (o : Int) :
    T.within i o = if (i : Int) = o then true else T.within nd.parent o := by
  show isIn T o 50 i = _
  rw [isIn_step o 49 h]
  split
  · rfl
  · rcases hw.up i nd h with ⟨h3, h4⟩ | ⟨p, pd, h3, h4, h5, h6⟩
    · rw [h3, isIn_neg]; exact (isIn_neg T o 50).symm
    · rw [h3]; have := hw.d50 h; exact isIn_more hw o 49 50 p pd h4 (by omega) (by omega)
theorem within_neg (T : Tr) (o : Int) : T.within (-1) o = false := isIn_neg T o 50
/-- induction on the depth of a node -/
theorem WF.induct {T : Tr} {d : Nat → Nat} (hw : WF T d) (P : Nat → Nd → Prop)
    (h0 : ∀ (i : Nat) (nd : Nd), T.nodes[i]? = some (some nd) → nd.parent = -1 → d i = 0 → P i nd)
    (h1 : ∀ (i : Nat) (nd : Nd) (p : Nat) (pd : Nd), T.nodes[i]? = some (some nd) → nd.parent = (p : Int) → T.nodes[p]? = some (some pd) → d i = d p + 1 → P p pd → P i nd) :
    ∀ (i : Nat) (nd : Nd), T.nodes[i]? = some (some nd) → P i nd := by
  have key : ∀ (n i : Nat) (nd : Nd), d i = n → T.nodes[i]? = some (some nd) → P i nd := by
    intro n
    induction n with
    | zero =>
      intro i nd hd h
      rcases hw.up i nd h with ⟨h3, h4⟩ | ⟨p, pd, h3, h4, h5, h6⟩
      · exact h0 i nd h h3 h4
      · omega
    | succ n ih =>
      intro i nd hd h
      rcases hw.up i nd h with ⟨h3, h4⟩ | ⟨p, pd, h3, h4, h5, h6⟩
      · omega
      · exact h1 i nd p pd h h3 h4 h5 (ih p pd (by omega) h4)
  exact fun i nd h => key (d i) i nd rfl h
theorem WF.within_self {T : Tr} {d : Nat → Nat} (hw : WF T d) {i : Nat} {nd : Nd} (h : T.nodes[i]? = some (some nd)) : T.within i i = true := by
  rw [hw.within_step h, if_pos rfl]
theorem WF.within_depth {T : Tr} {d : Nat → Nat} (hw : WF T d) {o : Nat} : ∀ (i : Nat) (nd : Nd), T.nodes[i]? = some (some nd) → T.within i o = true → d o ≤ d i ∧ (d o = d i → i = o) := by
  refine hw.induct _ (fun i nd h hp hd hi => ?_) (fun i nd p pd h hp hpd hd ih hi => ?_)
  · rw [hw.within_step h, hp, within_neg] at hi
    split at hi
    · rename_i e; have : i = o := by omega
      subst this; exact ⟨Nat.le_refl _, fun _ => rfl⟩
    · cases hi
  · rw [hw.within_step h, hp] at hi
    split at hi
    · rename_i e; have : i = o := by omega
      subst this; exact ⟨Nat.le_refl _, fun _ => rfl⟩
    · have := (ih hi).1; omega
/-- a root is within nothing else -/
theorem WF.within_root {T : Tr} {d : Nat → Nat} (hw : WF T d) {i : Nat} {nd : Nd} (h : T.nodes[i]? = some (some nd)) (hp : nd.parent = -1) (o : Int) : T.within i o = decide ((i : Int) = o) := by
  rw [hw.within_step h, hp, within_neg]
  by_cases e : (i : Int) = o
  · rw [if_pos e, decide_eq_true e]
  · rw [if_neg e, decide_eq_false e]
theorem fold_ge (F : Int → Int) : ∀ (l : List Int) (z : Int), z ≤ l.foldl (fun h k => max h (F k)) z := by
  intro l
  induction l with
  | nil => intro z; exact Int.le_refl _
  | cons k r ih => intro z; exact Int.le_trans (show z ≤ max z (F k) by omega) (ih _)
theorem fold_mem (F : Int → Int) : ∀ (l : List Int) (z : Int) (x : Int), x ∈ l → F x ≤ l.foldl (fun h k => max h (F k)) z := by
  intro l
  induction l with
  | nil => intro z x hx; cases hx
  | cons k r ih =>
    intro z x hx
    rcases List.mem_cons.1 hx with rfl | hx
    · exact Int.le_trans (show F x ≤ max z (F x) by omega) (fold_ge F r _)
    · exact ih _ x hx
theorem hgt_step (T : Tr) (f : Nat) {i : Nat} {nd : Nd} (h : T.nodes[i]? = some (some nd)) : T.hgt (f + 1) i = nd.kids.foldl (fun h k => max h (T.hgt f k + 1)) 0 := by
  show (match T.get? i with | none => -1 | some nd => nd.kids.foldl (fun h k => max h (T.hgt f k + 1)) 0) = _
  rw [Tr.get_of h]
theorem hgt_nn (T : Tr) (f : Nat) {i : Nat} {nd : Nd} (h : T.nodes[i]? = some (some nd)) : 0 ≤ T.hgt f i := by
  cases f with
  | zero => exact Int.le_refl 0
  | succ f => rw [hgt_step T f h]; exact fold_ge _ _ _
theorem fold_congr (F G : Int → Int) : ∀ (l : List Int) (z : Int), (∀ k ∈ l, F k = G k) → l.foldl (fun h k => max h (F k)) z = l.foldl (fun h k => max h (G k)) z := by
  intro l
  induction l with
  | nil => intro z _; rfl
  | cons k r ih =>
    intro z h
    simp only [List.foldl_cons]
    rw [h k (by simp)]
    exact ih _ fun x hx => h x (by simp [hx])
/-- enough fuel: the height is one -/
theorem WF.hgt_more {T : Tr} {d : Nat → Nat} (hw : WF T d) : ∀ (f g i : Nat) (nd : Nd), T.nodes[i]? = some (some nd) → 41 ≤ d i + f → 41 ≤ d i + g → T.hgt f i = T.hgt g i := by
  intro f
  induction f with
  | zero => intro g i nd h h1; have := hw.deep i nd h; have := hw.small.deep1; omega
  | succ f ih =>
    intro g i nd h h1 h2
    cases g with
    | zero => have := hw.deep i nd h; have := hw.small.deep1; omega
    | succ g =>
      rw [hgt_step T f h, hgt_step T g h]
      refine fold_congr _ _ _ _ fun k hk => ?_
      obtain ⟨n, hn⟩ := List.getElem?_of_mem hk
      obtain ⟨j, kd, rfl, hj, hjp, hjd⟩ := hw.kid h hn
      rw [ih g j kd hj (by omega) (by omega)]
/-- how high a node stands -/
def Tr.height (T : Tr) (i : Int) : Int := T.hgt 50 i
theorem WF.hgt_kid {T : Tr} {d : Nat → Nat} (hw : WF T d) {i : Nat} {nd : Nd} (h : T.nodes[i]? = some (some nd)) {j : Nat} (hk : (j : Int) ∈ nd.kids) : T.height j + 1 ≤ T.height i := by
  show T.hgt 50 j + 1 ≤ T.hgt 50 i
  obtain ⟨n, hn⟩ := List.getElem?_of_mem hk
  obtain ⟨j', kd, e, hj, hjp, hjd⟩ := hw.kid h hn
  obtain rfl : j' = j := by omega
  have h2 := hw.deep j' kd hj
  have h3 := hw.small.deep1
  rw [hw.hgt_more 50 49 j' kd hj (by omega) (by omega), hgt_step T 49 h]
  exact fold_mem (fun k => T.hgt 49 k + 1) nd.kids 0 j' hk
theorem WF.depth_le {T : Tr} {d : Nat → Nat} (hw : WF T d) {o : Nat} {od : Nd} (ho : T.nodes[o]? = some (some od)) :
    ∀ (i : Nat) (nd : Nd), T.nodes[i]? = some (some nd) → T.within i o = true → (d i : Int) + T.height i ≤ d o + T.height o := by
  refine hw.induct _ (fun i nd h hp hd hi => ?_) (fun i nd p pd h hp hpd hd ih hi => ?_)
  · rw [hw.within_root h hp] at hi
    have : i = o := by have := of_decide_eq_true hi; omega
    subst this; exact Int.le_refl _
  · rw [hw.within_step h, hp] at hi
    split at hi
    · rename_i e; have : i = o := by omega
      subst this; exact Int.le_refl _
    · have h1 := ih hi
      rcases hw.up i nd h with ⟨h3, h4⟩ | ⟨p', pd', h3, h4, h5, h6⟩
      · omega
      · obtain rfl : p' = p := by omega
        have := hw.hgt_kid h4 h6
        omega
/-- a kid stands in one row alone, once -/
theorem WF.kid_parent {T : Tr} {d : Nat → Nat} (hw : WF T d) {i j : Nat} {nd kd : Nd} (h : T.nodes[i]? = some (some nd)) (hk : (j : Int) ∈ nd.kids) (hj : T.nodes[j]? = some (some kd)) : kd.parent = i := by
  obtain ⟨j', kd', e, h1, h2⟩ := (hw.kids i nd h).2 _ hk
  obtain rfl : j' = j := by omega
  rw [hj] at h1
  injection h1 with e; injection e with e
  rw [e]; exact h2
end Go.Proofs.YtdafdoodegpdhaaGreatDoor

namespace Go.Proofs.YtdafdoodegpdhaaGreatDoor
open Go Go.RowKit Go.BigFrame
set_option linter.unusedVariables false
set_option linter.unusedSimpArgs false

end Go.Proofs.YtdafdoodegpdhaaGreatDoor

namespace Go.Proofs.YtdafdoodegpdhaaGreatDoor
open Go Go.RowKit Go.BigFrame
set_option linter.unusedVariables false
set_option linter.unusedSimpArgs false

end Go.Proofs.YtdafdoodegpdhaaGreatDoor

namespace Go.Proofs.YtdafdoodegpdhaaGreatDoor
open Go Go.RowKit Go.BigFrame
set_option linter.unusedVariables false
set_option linter.unusedSimpArgs false

end Go.Proofs.YtdafdoodegpdhaaGreatDoor

namespace Go.Proofs.YtdafdoodegpdhaaGreatDoor
open Go Go.RowKit Go.BigFrame
set_option linter.unusedVariables false
set_option linter.unusedSimpArgs false

/-- the tree behind an insert -/
def Tr.link (T : Tr) (p at' k : Nat) (pd kd : Nd) : Tr :=
  { T with nodes := (T.nodes.set p (some { pd with kids := pd.kids.take at' ++ [(k : Int)] ++ pd.kids.drop at' })).set k (some { kd with parent := p }) }
end Go.Proofs.YtdafdoodegpdhaaGreatDoor

namespace Go.Proofs.YtdafdoodegpdhaaGreatDoor
open Go Go.RowKit Go.BigFrame
set_option linter.unusedVariables false
set_option linter.unusedSimpArgs false

def Tr.set2 (T : Tr) (p k : Nat) (pd kd : Nd) : Tr := { T with nodes := (T.nodes.set p (some pd)).set k (some kd) }
theorem Tr.set2_get {T : Tr} {p k : Nat} {pd kd pd' kd' : Nd} (hp : T.nodes[p]? = some (some pd)) (hk : T.nodes[k]? = some (some kd)) (j : Nat) :
    (T.set2 p k pd' kd').nodes[j]? = if j = k then some (some kd') else if j = p then some (some pd') else T.nodes[j]? := by
  have hpl := (List.getElem?_eq_some_iff.1 hp).1
  have hkl := (List.getElem?_eq_some_iff.1 hk).1
  show ((T.nodes.set p (some pd')).set k (some kd'))[j]? = _
  rw [List.getElem?_set]
  by_cases h1 : k = j
  · rw [if_pos h1, if_pos h1.symm, if_pos (by rw [List.length_set]; exact hkl)]
  · rw [if_neg h1, if_neg (Ne.symm h1), List.getElem?_set]
    by_cases h2 : p = j
    · rw [if_pos h2, if_pos h2.symm, if_pos hpl]
    · rw [if_neg h2, if_neg (Ne.symm h2)]
theorem countP_set_some {l : List (Option Nd)} {p : Nat} {pd pd' : Nd} (hp : l[p]? = some (some pd)) : (l.set p (some pd')).countP Option.isSome = l.countP Option.isSome := by
  obtain ⟨hlt, he⟩ := List.getElem?_eq_some_iff.1 hp
  have hpos : 0 < l.countP Option.isSome := List.countP_pos_iff.2 ⟨some pd, by rw [← he]; exact List.getElem_mem hlt, rfl⟩
  rw [List.countP_set hlt, he]
  simp
  omega
theorem Tr.set2_count {T : Tr} {p k : Nat} {pd kd pd' kd' : Nd} (hp : T.nodes[p]? = some (some pd)) (hk : T.nodes[k]? = some (some kd)) (hpk : p ≠ k) :
    (T.set2 p k pd' kd').nodes.countP Option.isSome = T.nodes.countP Option.isSome := by
  have h2 : (T.nodes.set p (some pd'))[k]? = some (some kd) := by rw [List.getElem?_set, if_neg hpk]; exact hk
  show ((T.nodes.set p (some pd')).set k (some kd')).countP Option.isSome = _
  rw [countP_set_some h2, countP_set_some hp]
theorem some_inj2 {x : Option (Option Nd)} {a b : Nd} (h : x = some (some a)) (k : x = some (some b)) : a = b := by
  rw [h] at k; injection k with k; injection k

theorem Tr.link_eq (T : Tr) (p at' k : Nat) (pd kd : Nd) : T.link p at' k pd kd = T.set2 p k { pd with kids := pd.kids.take at' ++ [(k : Int)] ++ pd.kids.drop at' } { kd with parent := p } := rfl
theorem WF.link {T : Tr} {d : Nat → Nat} (hw : WF T d) {p k at' : Nat} {pd kd : Nd} (hp : T.nodes[p]? = some (some pd)) (hk : T.nodes[k]? = some (some kd))
    (htag : pd.tag ≠ 0) (hk0 : k ≠ 0) (hpar : kd.parent = -1) (hin : T.within p k = false) (hdp : (d p : Int) + 1 + T.height k ≤ T.deep) :
    WF (T.link p at' k pd kd) (fun j => if T.within j k then d j + d p + 1 else d j) := by
  have hpk : p ≠ k := fun e => by subst e; rw [hw.within_self hp] at hin; cases hin
  have hg := fun j => Tr.set2_get (pd' := { pd with kids := pd.kids.take at' ++ [(k : Int)] ++ pd.kids.drop at' }) (kd' := { kd with parent := p }) hp hk j
  have hck := Tr.set2_count (pd' := { pd with kids := pd.kids.take at' ++ [(k : Int)] ++ pd.kids.drop at' }) (kd' := { kd with parent := p }) hp hk hpk
  rw [← Tr.link_eq] at hg hck
  have hmem : ∀ x : Int, x ∈ pd.kids.take at' ++ [(k : Int)] ++ pd.kids.drop at' ↔ x = k ∨ x ∈ pd.kids := fun x => by
    conv => rhs; rw [← List.take_append_drop at' pd.kids]
    simp only [List.mem_append, List.mem_singleton]
    constructor
    · rintro ((h | h) | h)
      · exact .inr (.inl h)
      · exact .inl h
      · exact .inr (.inr h)
    · rintro (h | h | h)
      · exact .inl (.inr h)
      · exact .inl (.inl h)
      · exact .inr h
  have hdk : d k = 0 := by
    rcases hw.up k kd hk with ⟨h3, h4⟩ | ⟨q, qd, h3, h4, h5, h6⟩
    · exact h4
    · omega
  have hkk := hw.within_self hk
  have hknot : (k : Int) ∉ pd.kids := fun h => by
    have := hw.kid_parent hp h hk; omega
  have wst : ∀ (j : Nat) (nd : Nd), T.nodes[j]? = some (some nd) → j ≠ k → T.within j k = T.within nd.parent k := fun j nd h hne => by
    rw [hw.within_step h, if_neg (by omega)]
  -- old nodes stand where they stood
  have hkeep : ∀ (j : Nat) (jd : Nd), T.nodes[j]? = some (some jd) → ∃ jd', (T.link p at' k pd kd).nodes[j]? = some (some jd') ∧ (j ≠ k → jd'.parent = jd.parent) ∧ (∀ x ∈ jd.kids, x ∈ jd'.kids) := fun j jd h => by
    rw [hg]
    by_cases h1 : j = k
    · subst h1
      rw [if_pos rfl]
      obtain rfl := some_inj2 hk h
      exact ⟨_, rfl, fun h => absurd rfl h, fun x hx => hx⟩
    · rw [if_neg h1]
      by_cases h2 : j = p
      · subst h2
        rw [if_pos rfl]
        obtain rfl := some_inj2 hp h
        exact ⟨_, rfl, fun _ => rfl, fun x hx => (hmem x).2 (.inr hx)⟩
      · rw [if_neg h2]
        exact ⟨jd, h, fun _ => rfl, fun x hx => hx⟩
  have hcap : (T.link p at' k pd kd).cap = T.cap := rfl
  have hdeep : (T.link p at' k pd kd).deep = T.deep := rfl
  have hcount : (T.link p at' k pd kd).count = T.count := rfl
  have hs := hw.small
  refine ⟨⟨hs.cap0, hs.cap1, hs.deep0, hs.deep1, hs.count0, hs.count1, by show ((T.nodes.set p _).set k _).length ≤ 2000; rw [List.length_set, List.length_set]; exact hs.len⟩, ?_, ?_, ?_, ?_, ?_, ?_⟩
  · obtain ⟨r, r1, r2, r3⟩ := hw.root
    rw [hg, if_neg (Ne.symm hk0)]
    by_cases h0 : 0 = p
    · rw [if_pos h0]
      rw [h0] at r1
      obtain rfl := some_inj2 hp r1
      exact ⟨_, rfl, r2, r3⟩
    · rw [if_neg h0]; exact ⟨r, r1, r2, r3⟩
  · intro j nd h
    rw [hg] at h
    have hj : ∃ jd, T.nodes[j]? = some (some jd) := by
      by_cases h1 : j = k
      · exact ⟨kd, h1 ▸ hk⟩
      · rw [if_neg h1] at h
        by_cases h2 : j = p
        · exact ⟨pd, h2 ▸ hp⟩
        · rw [if_neg h2] at h; exact ⟨nd, h⟩
    obtain ⟨jd, hj⟩ := hj
    show (((if T.within j k then d j + d p + 1 else d j : Nat)) : Int) ≤ T.deep
    by_cases hwk : T.within j k = true
    · rw [if_pos hwk]
      have h1 := hw.depth_le hk j jd hj hwk
      have h2 : 0 ≤ T.height j := hgt_nn T 50 hj
      push_cast
      omega
    · rw [if_neg hwk]; exact hw.deep j jd hj
  · intro j nd h
    rw [hg] at h
    by_cases h1 : j = k
    · rw [if_pos h1] at h
      subst h1
      obtain rfl := some_inj2 rfl h
      right
      refine ⟨p, _, rfl, by rw [hg, if_neg hpk, if_pos rfl], ?_, (hmem _).2 (.inl rfl)⟩
      rw [if_pos hkk, if_neg (by rw [hin]; decide)]
      omega
    · rw [if_neg h1] at h
      -- an old node: j
      have hold : ∃ jd, T.nodes[j]? = some (some jd) ∧ nd.parent = jd.parent := by
        by_cases h2 : j = p
        · rw [if_pos h2] at h
          obtain rfl := some_inj2 rfl h
          exact ⟨pd, h2 ▸ hp, rfl⟩
        · rw [if_neg h2] at h; exact ⟨nd, h, rfl⟩
      obtain ⟨jd, hj, hpe⟩ := hold
      have hst := wst j jd hj h1
      rcases hw.up j jd hj with ⟨h3, h4⟩ | ⟨q, qd, h3, h4, h5, h6⟩
      · left
        rw [h3, within_neg] at hst
        exact ⟨by rw [hpe, h3], by rw [if_neg (by rw [hst]; decide)]; exact h4⟩
      · right
        obtain ⟨qd', k1, k2, k3⟩ := hkeep q qd h4
        refine ⟨q, qd', by rw [hpe, h3], k1, ?_, k3 _ h6⟩
        rw [h3] at hst
        rw [hst]
        split <;> omega
  · intro i nd h
    have hkid : ∀ (x : Int) (i : Nat) (id' : Nd), T.nodes[i]? = some (some id') → x ∈ id'.kids → ∃ (j : Nat) (jd : Nd), x = (j : Int) ∧ (T.link p at' k pd kd).nodes[j]? = some (some jd) ∧ jd.parent = (i : Int) := fun x i id' hi hx => by
      obtain ⟨j, jd, rfl, hj, hjp⟩ := (hw.kids i id' hi).2 x hx
      obtain ⟨jd', k1, k2, k3⟩ := hkeep j jd hj
      refine ⟨j, jd', rfl, k1, (k2 fun e => ?_).trans hjp⟩
      subst e
      obtain rfl := some_inj2 hk hj
      omega
    rw [hg] at h
    by_cases h1 : i = k
    · rw [if_pos h1] at h
      subst h1
      obtain rfl := some_inj2 rfl h
      exact ⟨(hw.kids i kd hk).1, fun x hx => hkid x i kd hk hx⟩
    · rw [if_neg h1] at h
      by_cases h2 : i = p
      · rw [if_pos h2] at h
        subst h2
        obtain rfl := some_inj2 rfl h
        refine ⟨?_, fun x hx => ?_⟩
        · have hn := (hw.kids i pd hp).1
          rw [← List.take_append_drop at' pd.kids, List.nodup_append] at hn
          have e : pd.kids.take at' ++ [(k : Int)] ++ pd.kids.drop at' = pd.kids.take at' ++ ((k : Int) :: pd.kids.drop at') := by simp
          show (pd.kids.take at' ++ [(k : Int)] ++ pd.kids.drop at').Nodup
          rw [e, List.nodup_append]
          refine ⟨hn.1, List.nodup_cons.2 ⟨fun h => hknot (List.mem_of_mem_drop h), hn.2.1⟩, fun a ha b hb => ?_⟩
          rcases List.mem_cons.1 hb with rfl | hb
          · exact fun e => hknot (e ▸ List.mem_of_mem_take ha)
          · exact hn.2.2 a ha b hb
        · rcases (hmem x).1 hx with rfl | hx
          · exact ⟨k, _, rfl, by rw [hg, if_pos rfl], rfl⟩
          · exact hkid x i pd hp hx
      · rw [if_neg h2] at h
        exact ⟨(hw.kids i nd h).1, fun x hx => hkid x i nd h hx⟩
  · intro i nd h
    rw [hg] at h
    by_cases h1 : i = k
    · rw [if_pos h1] at h
      obtain rfl := some_inj2 rfl h
      exact hw.text k kd hk
    · rw [if_neg h1] at h
      by_cases h2 : i = p
      · rw [if_pos h2] at h
        obtain rfl := some_inj2 rfl h
        have := hw.text p pd hp
        exact ⟨this.1, this.2.1, fun h => absurd h htag⟩
      · rw [if_neg h2] at h; exact hw.text i nd h
  · rw [hcount, hck]; exact hw.count

/-- the tree behind a removal -/
def Tr.unlink (T : Tr) (p k : Nat) (pd kd : Nd) : Tr := T.set2 p k { pd with kids := pd.kids.erase (k : Int) } { kd with parent := -1 }
theorem WF.unlink {T : Tr} {d : Nat → Nat} (hw : WF T d) {p k : Nat} {pd kd : Nd} (hp : T.nodes[p]? = some (some pd)) (hk : T.nodes[k]? = some (some kd)) (hpar : kd.parent = (p : Int)) :
    WF (T.unlink p k pd kd) (fun j => if T.within j k then d j - d k else d j) := by
  have hdk : d k = d p + 1 ∧ (k : Int) ∈ pd.kids := by
    rcases hw.up k kd hk with ⟨h3, h4⟩ | ⟨q, qd, h3, h4, h5, h6⟩
    · omega
    · obtain rfl : q = p := by omega
      obtain rfl := some_inj2 hp h4
      exact ⟨h5, h6⟩
  have hpk : p ≠ k := fun e => by subst e; omega
  have hk0 : k ≠ 0 := fun e => by
    subst e
    obtain ⟨r, r1, r2, r3⟩ := hw.root
    obtain rfl := some_inj2 hk r1
    omega
  have hin : T.within p k = false := by
    cases hh : T.within p k with
    | false => rfl
    | true => have := (hw.within_depth p pd hp hh).1; omega
  have hg := fun j => Tr.set2_get (pd' := { pd with kids := pd.kids.erase (k : Int) }) (kd' := { kd with parent := -1 }) hp hk j
  have hck := Tr.set2_count (pd' := { pd with kids := pd.kids.erase (k : Int) }) (kd' := { kd with parent := -1 }) hp hk hpk
  have hnd := (hw.kids p pd hp).1
  have hmem : ∀ x : Int, x ∈ pd.kids.erase (k : Int) ↔ x ≠ k ∧ x ∈ pd.kids := fun x => hnd.mem_erase_iff
  have hkk := hw.within_self hk
  have wst : ∀ (j : Nat) (nd : Nd), T.nodes[j]? = some (some nd) → j ≠ k → T.within j k = T.within nd.parent k := fun j nd h hne => by
    rw [hw.within_step h, if_neg (by omega)]
  have hkeep : ∀ (j : Nat) (jd : Nd), T.nodes[j]? = some (some jd) → ∃ jd', (T.unlink p k pd kd).nodes[j]? = some (some jd') ∧ (j ≠ k → jd'.parent = jd.parent) ∧ (∀ x ∈ jd.kids, x ≠ k → x ∈ jd'.kids) := fun j jd h => by
    show ∃ jd', (T.set2 p k _ _).nodes[j]? = _ ∧ _
    rw [hg]
    by_cases h1 : j = k
    · subst h1
      rw [if_pos rfl]
      obtain rfl := some_inj2 hk h
      exact ⟨_, rfl, fun h => absurd rfl h, fun x hx _ => hx⟩
    · rw [if_neg h1]
      by_cases h2 : j = p
      · subst h2
        rw [if_pos rfl]
        obtain rfl := some_inj2 hp h
        exact ⟨_, rfl, fun _ => rfl, fun x hx hne => (hmem x).2 ⟨hne, hx⟩⟩
      · rw [if_neg h2]
        exact ⟨jd, h, fun _ => rfl, fun x hx _ => hx⟩
  have hs := hw.small
  have hg' : ∀ j, (T.unlink p k pd kd).nodes[j]? = if j = k then some (some { kd with parent := -1 }) else if j = p then some (some { pd with kids := pd.kids.erase (k : Int) }) else T.nodes[j]? := hg
  refine ⟨⟨hs.cap0, hs.cap1, hs.deep0, hs.deep1, hs.count0, hs.count1, by show ((T.nodes.set p _).set k _).length ≤ 2000; rw [List.length_set, List.length_set]; exact hs.len⟩, ?_, ?_, ?_, ?_, ?_, ?_⟩
  · obtain ⟨r, r1, r2, r3⟩ := hw.root
    rw [hg', if_neg (Ne.symm hk0)]
    by_cases h0 : 0 = p
    · rw [if_pos h0]
      rw [h0] at r1
      obtain rfl := some_inj2 hp r1
      exact ⟨_, rfl, r2, r3⟩
    · rw [if_neg h0]; exact ⟨r, r1, r2, r3⟩
  · intro j nd h
    rw [hg'] at h
    have hj : ∃ jd, T.nodes[j]? = some (some jd) := by
      by_cases h1 : j = k
      · exact ⟨kd, h1 ▸ hk⟩
      · rw [if_neg h1] at h
        by_cases h2 : j = p
        · exact ⟨pd, h2 ▸ hp⟩
        · rw [if_neg h2] at h; exact ⟨nd, h⟩
    obtain ⟨jd, hj⟩ := hj
    have h1 := hw.deep j jd hj
    show (((if T.within j k then d j - d k else d j : Nat)) : Int) ≤ T.deep
    split <;> omega
  · intro j nd h
    rw [hg'] at h
    by_cases h1 : j = k
    · rw [if_pos h1] at h
      subst h1
      obtain rfl := some_inj2 rfl h
      left
      exact ⟨rfl, by rw [if_pos hkk]; omega⟩
    · rw [if_neg h1] at h
      have hold : ∃ jd, T.nodes[j]? = some (some jd) ∧ nd.parent = jd.parent := by
        by_cases h2 : j = p
        · rw [if_pos h2] at h
          obtain rfl := some_inj2 rfl h
          exact ⟨pd, h2 ▸ hp, rfl⟩
        · rw [if_neg h2] at h; exact ⟨nd, h, rfl⟩
      obtain ⟨jd, hj, hpe⟩ := hold
      have hst := wst j jd hj h1
      rcases hw.up j jd hj with ⟨h3, h4⟩ | ⟨q, qd, h3, h4, h5, h6⟩
      · left
        rw [h3, within_neg] at hst
        exact ⟨by rw [hpe, h3], by rw [if_neg (by rw [hst]; decide)]; exact h4⟩
      · right
        obtain ⟨qd', k1, k2, k3⟩ := hkeep q qd h4
        refine ⟨q, qd', by rw [hpe, h3], k1, ?_, k3 _ h6 (by omega)⟩
        rw [h3] at hst
        rw [hst]
        by_cases hq : T.within q k = true
        · have := (hw.within_depth q qd h4 hq).1
          rw [if_pos hq, if_pos hq]; omega
        · rw [if_neg hq, if_neg hq]; exact h5
  · intro i nd h
    have hkid : ∀ (x : Int) (i : Nat) (id' : Nd), T.nodes[i]? = some (some id') → x ∈ id'.kids → x ≠ k → ∃ (j : Nat) (jd : Nd), x = (j : Int) ∧ (T.unlink p k pd kd).nodes[j]? = some (some jd) ∧ jd.parent = (i : Int) := fun x i id' hi hx hxk => by
      obtain ⟨j, jd, rfl, hj, hjp⟩ := (hw.kids i id' hi).2 x hx
      obtain ⟨jd', k1, k2, k3⟩ := hkeep j jd hj
      exact ⟨j, jd', rfl, k1, (k2 fun e => hxk (by rw [e])).trans hjp⟩
    rw [hg'] at h
    by_cases h1 : i = k
    · rw [if_pos h1] at h
      subst h1
      obtain rfl := some_inj2 rfl h
      refine ⟨(hw.kids i kd hk).1, fun x hx => hkid x i kd hk hx fun e => ?_⟩
      have := hw.kid_parent hk (e ▸ hx) hk
      omega
    · rw [if_neg h1] at h
      by_cases h2 : i = p
      · rw [if_pos h2] at h
        subst h2
        obtain rfl := some_inj2 rfl h
        exact ⟨hnd.erase _, fun x hx => hkid x i pd hp ((hmem x).1 hx).2 ((hmem x).1 hx).1⟩
      · rw [if_neg h2] at h
        refine ⟨(hw.kids i nd h).1, fun x hx => hkid x i nd h hx fun e => ?_⟩
        have := hw.kid_parent h (e ▸ hx) hk
        omega
  · intro i nd h
    rw [hg'] at h
    by_cases h1 : i = k
    · rw [if_pos h1] at h
      obtain rfl := some_inj2 rfl h
      exact hw.text k kd hk
    · rw [if_neg h1] at h
      by_cases h2 : i = p
      · rw [if_pos h2] at h
        obtain rfl := some_inj2 rfl h
        have := hw.text p pd hp
        exact ⟨this.1, this.2.1, fun h => by rw [this.2.2 h]; rfl⟩
      · rw [if_neg h2] at h; exact hw.text i nd h
  · show T.count = _
    rw [hw.count]
    show _ = (((T.set2 p k _ _).nodes.countP Option.isSome : Nat) : Int)
    rw [hck]

end Go.Proofs.YtdafdoodegpdhaaGreatDoor

namespace Go.Proofs.YtdafdoodegpdhaaGreatDoor
open Go Go.RowKit Go.BigFrame
set_option linter.unusedVariables false
set_option linter.unusedSimpArgs false

end Go.Proofs.YtdafdoodegpdhaaGreatDoor

namespace Go.Proofs.YtdafdoodegpdhaaGreatDoor
open Go Go.RowKit Go.BigFrame
set_option linter.unusedVariables false
set_option linter.unusedSimpArgs false

end Go.Proofs.YtdafdoodegpdhaaGreatDoor

namespace Go.Proofs.YtdafdoodegpdhaaGreatDoor
open Go Go.RowKit Go.BigFrame
set_option linter.unusedVariables false
set_option linter.unusedSimpArgs false

end Go.Proofs.YtdafdoodegpdhaaGreatDoor

namespace Go.Proofs.YtdafdoodegpdhaaGreatDoor
open Go Go.RowKit Go.BigFrame
set_option linter.unusedVariables false
set_option linter.unusedSimpArgs false

inductive PN where
  | mk (tag : Int) (attrs : List (ByteArray × ByteArray)) (text : ByteArray) (kids : List PN)
def PN.tag : PN → Int | .mk t _ _ _ => t
def PN.attrs : PN → List (ByteArray × ByteArray) | .mk _ a _ _ => a
def PN.text : PN → ByteArray | .mk _ _ s _ => s
def PN.kids : PN → List PN | .mk _ _ _ k => k
mutual
/-- how many nodes -/
def PN.size : PN → Nat
  | .mk _ _ _ ks => PN.sizes ks + 1
def PN.sizes : List PN → Nat
  | [] => 0
  | k :: r => PN.size k + PN.sizes r
end
theorem PN.size_pos (n : PN) : 0 < n.size := by cases n; simp [PN.size]
theorem PN.sizes_mem {k : PN} {l : List PN} (h : k ∈ l) : k.size ≤ PN.sizes l := by
  induction l with
  | nil => cases h
  | cons x r ih =>
    simp only [PN.sizes]
    rcases List.mem_cons.1 h with rfl | h
    · omega
    · have := ih h; omega
theorem PN.size_kid {n k : PN} (h : k ∈ n.kids) : k.size < n.size := by
  cases n with
  | mk t a s ks => simp only [PN.size]; have := PN.sizes_mem (l := ks) h; omega
/-- induction over the kids -/
theorem PN.induct (P : PN → Prop) (h : ∀ n, (∀ k ∈ n.kids, P k) → P n) : ∀ n, P n := by
  have key : ∀ m n, PN.size n ≤ m → P n := by
    intro m
    induction m with
    | zero => intro n hn; have := n.size_pos; omega
    | succ m ih => exact fun n hn => h n fun k hk => ih k (by have := PN.size_kid hk; omega)
  exact fun n => key n.size n (Nat.le_refl _)

theorem add_later (a : Addr) (i j : Nat) (hj : 0 < j) : a.add (i + j) = ⟨(a.add i).block, (a.add i).off + j, none⟩ := by
  unfold Addr.add
  by_cases hi : i = 0
  · subst hi
    rw [if_neg (by omega), if_pos rfl, Nat.zero_add]
  · rw [if_neg (by omega), if_neg hi, Nat.add_assoc]
/-- four cells that read as a plain tree; with fuel -/
def rdN (w : World) : Nat → PN → Value → Prop
  | 0, _, _ => False
  | f + 1, n, v => ∃ av kv, v = .agg #[.int .i64 n.tag, av, .string n.text, kv] ∧ RowRd w 2 av n.attrs.length (attrCells n.attrs) ∧
      ∃ ao cap, kv = .slice ao n.kids.length cap ∧ n.kids.length ≤ cap ∧ cap ≤ maxLen ∧ (ao = none → n.kids.length = 0 ∧ cap = 0) ∧
        ∀ a, ao = some a → ∀ (j : Nat) k, n.kids[j]? = some k → ∃ c0 c1 c2 c3, w.cell? (a.add (j * 4)) = some c0 ∧ w.cell? (a.add (j * 4 + 1)) = some c1 ∧ w.cell? (a.add (j * 4 + 2)) = some c2 ∧ w.cell? (a.add (j * 4 + 3)) = some c3 ∧
          rdN w f k (.agg #[c0, c1, c2, c3])
/-- a value that reads as a plain tree -/
def RdN (w : World) (n : PN) (v : Value) : Prop := ∃ f, rdN w f n v
/-- what is kept where no cell that is there has turned -/
def Cells (w w' : World) : Prop := ∀ p v, w.cell? p = some v → w'.cell? p = some v
theorem RowRd.cells {w w' : World} {size : Nat} {v : Value} {n : Nat} {xs : List Value} (h : RowRd w size v n xs) (k : Cells w w') : RowRd w' size v n xs := by
  obtain ⟨h1, ao, cap, h2, h3, h4, h5⟩ := h
  exact ⟨h1, ao, cap, h2, h3, h4, fun a ha j x hx => k _ _ (h5 a ha j x hx)⟩
theorem rdN_cells {w w' : World} (k : Cells w w') : ∀ (f : Nat) (n : PN) (v : Value), rdN w f n v → rdN w' f n v := by
  intro f
  induction f with
  | zero => intro n v h; exact h
  | succ f ih =>
    intro n v h
    obtain ⟨av, kv, e, h1, ao, cap, h2, h3, h3', h4, h5⟩ := h
    refine ⟨av, kv, e, h1.cells k, ao, cap, h2, h3, h3', h4, fun a ha j x hx => ?_⟩
    obtain ⟨c0, c1, c2, c3, k0, k1, k2, k3, hr⟩ := h5 a ha j x hx
    exact ⟨c0, c1, c2, c3, k _ _ k0, k _ _ k1, k _ _ k2, k _ _ k3, ih _ _ hr⟩
theorem RdN.cells {w w' : World} {n : PN} {v : Value} (h : RdN w n v) (k : Cells w w') : RdN w' n v := by
  obtain ⟨f, h⟩ := h; exact ⟨f, rdN_cells k f n v h⟩
theorem Ext.cells {w w' : World} (h : Ext w w') : Cells w w' := fun p v hp => (Below.cell h (World.block_lt_of_cell? w p hp)).trans hp
theorem rdN_more {w : World} : ∀ (f : Nat) (n : PN) (v : Value), rdN w f n v → rdN w (f + 1) n v := by
  intro f
  induction f with
  | zero => intro n v h; exact absurd h id
  | succ f ih =>
    intro n v h
    obtain ⟨av, kv, e, h1, ao, cap, h2, h3, h3', h4, h5⟩ := h
    refine ⟨av, kv, e, h1, ao, cap, h2, h3, h3', h4, fun a ha j x hx => ?_⟩
    obtain ⟨c0, c1, c2, c3, k0, k1, k2, k3, hr⟩ := h5 a ha j x hx
    exact ⟨c0, c1, c2, c3, k0, k1, k2, k3, ih _ _ hr⟩
theorem rdN_le {w : World} {f g : Nat} {n : PN} {v : Value} (h : rdN w f n v) (hfg : f ≤ g) : rdN w g n v := by
  induction hfg with
  | refl => exact h
  | step _ ih => exact rdN_more _ _ _ ih
/-- a row of plain trees -/
def KidsRd (w : World) (ks : List PN) (kv : Value) : Prop :=
  ∃ ao cap, kv = .slice ao ks.length cap ∧ ks.length ≤ cap ∧ cap ≤ maxLen ∧ (ao = none → ks.length = 0 ∧ cap = 0) ∧
    ∀ a, ao = some a → ∀ (j : Nat) k, ks[j]? = some k → ∃ c0 c1 c2 c3, w.cell? (a.add (j * 4)) = some c0 ∧ w.cell? (a.add (j * 4 + 1)) = some c1 ∧ w.cell? (a.add (j * 4 + 2)) = some c2 ∧ w.cell? (a.add (j * 4 + 3)) = some c3 ∧ RdN w k (.agg #[c0, c1, c2, c3])
theorem RdN.open {w : World} {n : PN} {v : Value} (h : RdN w n v) : ∃ av kv, v = .agg #[.int .i64 n.tag, av, .string n.text, kv] ∧ RowRd w 2 av n.attrs.length (attrCells n.attrs) ∧ KidsRd w n.kids kv := by
  obtain ⟨f, h⟩ := h
  cases f with
  | zero => exact absurd h id
  | succ f =>
    obtain ⟨av, kv, e, h1, ao, cap, h2, h3, h3', h4, h5⟩ := h
    refine ⟨av, kv, e, h1, ao, cap, h2, h3, h3', h4, fun a ha j x hx => ?_⟩
    obtain ⟨c0, c1, c2, c3, k0, k1, k2, k3, hr⟩ := h5 a ha j x hx
    exact ⟨c0, c1, c2, c3, k0, k1, k2, k3, f, hr⟩
theorem fuel_row {ks : List PN} {Q : Nat → Nat → PN → Prop} (hm : ∀ j f g k, Q j f k → f ≤ g → Q j g k) (h : ∀ (j : Nat) k, ks[j]? = some k → ∃ f, Q j f k) : ∃ f, ∀ (j : Nat) k, ks[j]? = some k → Q j f k := by
  induction ks generalizing Q with
  | nil => exact ⟨0, fun j k hk => by simp at hk⟩
  | cons x r ih =>
    obtain ⟨f, hf⟩ := h 0 x rfl
    obtain ⟨g, hg⟩ := ih (Q := fun j f k => Q (j + 1) f k) (fun j f g k => hm (j + 1) f g k) fun j k hk => h (j + 1) k (by simpa using hk)
    refine ⟨max f g, fun j k hk => ?_⟩
    cases j with
    | zero => simp at hk; subst hk; exact hm _ _ _ _ hf (Nat.le_max_left _ _)
    | succ j => exact hm _ _ _ _ (hg j k (by simpa using hk)) (Nat.le_max_right _ _)
theorem RdN.mk' {w : World} {n : PN} {av kv : Value} (h1 : RowRd w 2 av n.attrs.length (attrCells n.attrs)) (h2 : KidsRd w n.kids kv) : RdN w n (.agg #[.int .i64 n.tag, av, .string n.text, kv]) := by
  obtain ⟨ao, cap, rfl, h3, h3', h4, h5⟩ := h2
  cases ao with
  | none => exact ⟨1, av, _, rfl, h1, none, cap, rfl, h3, h3', h4, fun a ha => by cases ha⟩
  | some a =>
    obtain ⟨f, hf⟩ := fuel_row (ks := n.kids) (Q := fun j f k => ∃ c0 c1 c2 c3, w.cell? (a.add (j * 4)) = some c0 ∧ w.cell? (a.add (j * 4 + 1)) = some c1 ∧ w.cell? (a.add (j * 4 + 2)) = some c2 ∧ w.cell? (a.add (j * 4 + 3)) = some c3 ∧ rdN w f k (.agg #[c0, c1, c2, c3]))
      (fun j f g k ⟨c0, c1, c2, c3, k0, k1, k2, k3, hr⟩ hfg => ⟨c0, c1, c2, c3, k0, k1, k2, k3, rdN_le hr hfg⟩)
      (fun j k hk => by
        obtain ⟨c0, c1, c2, c3, k0, k1, k2, k3, f, hr⟩ := h5 a rfl j k hk
        exact ⟨f, c0, c1, c2, c3, k0, k1, k2, k3, hr⟩)
    exact ⟨f + 1, av, _, rfl, h1, some a, cap, rfl, h3, h3', h4, fun a' ha j k hk => by cases ha; exact hf j k hk⟩
theorem KidsRd.cells {w w' : World} {ks : List PN} {v : Value} (h : KidsRd w ks v) (k : Cells w w') : KidsRd w' ks v := by
  obtain ⟨ao, cap, h2, h3, h3', h4, h5⟩ := h
  refine ⟨ao, cap, h2, h3, h3', h4, fun a ha j x hx => ?_⟩
  obtain ⟨c0, c1, c2, c3, k0, k1, k2, k3, hr⟩ := h5 a ha j x hx
  exact ⟨c0, c1, c2, c3, k _ _ k0, k _ _ k1, k _ _ k2, k _ _ k3, hr.cells k⟩
end Go.Proofs.YtdafdoodegpdhaaGreatDoor

namespace Go.Proofs.YtdafdoodegpdhaaGreatDoor
open Go Go.RowKit Go.BigFrame
set_option linter.unusedVariables false
set_option linter.unusedSimpArgs false

/-- may a node itself not be? -/
def PN.bad (n : PN) : Bool := if n.tag = 0 then !(n.attrs.isEmpty && n.kids.isEmpty) else !(decide (1 ≤ n.tag ∧ n.tag ≤ 16) && n.text.size == 0)
mutual
def PN.ok : PN → Bool
  | .mk t a s ks => !(PN.mk t a s ks).bad && decide ((anewB s).size ≤ 8192) && PN.oks ks
def PN.oks : List PN → Bool
  | [] => true
  | k :: r => PN.ok k && PN.oks r
end
theorem PN.size_eq (n : PN) : n.size = PN.sizes n.kids + 1 := by cases n; rfl
/-- a node as a plain tree, with fuel -/
def noPN : PN := .mk 0 [] ByteArray.empty []
def Tr.pln (T : Tr) : Nat → Int → PN
  | 0, _ => noPN
  | f + 1, id => match T.get? id with
    | none => noPN
    | some nd => .mk nd.tag nd.attrs nd.text (nd.kids.map (T.pln f))
def Tr.plain (T : Tr) (id : Int) : PN := T.pln 50 id
theorem pln_step (T : Tr) (f : Nat) {i : Nat} {nd : Nd} (h : T.nodes[i]? = some (some nd)) : T.pln (f + 1) i = .mk nd.tag nd.attrs nd.text (nd.kids.map (T.pln f)) := by
  show (match T.get? i with | none => noPN | some nd => _) = _
  rw [Tr.get_of h]
theorem WF.pln_more {T : Tr} {d : Nat → Nat} (hw : WF T d) : ∀ (f g i : Nat) (nd : Nd), T.nodes[i]? = some (some nd) → 41 ≤ d i + f → 41 ≤ d i + g → T.pln f i = T.pln g i := by
  intro f
  induction f with
  | zero => intro g i nd h h1; have := hw.deep i nd h; have := hw.small.deep1; omega
  | succ f ih =>
    intro g i nd h h1 h2
    cases g with
    | zero => have := hw.deep i nd h; have := hw.small.deep1; omega
    | succ g =>
      rw [pln_step T f h, pln_step T g h]
      congr 1
      refine List.map_congr_left fun k hk => ?_
      obtain ⟨n, hn⟩ := List.getElem?_of_mem hk
      obtain ⟨j, kd, rfl, hj, hjp, hjd⟩ := hw.kid h hn
      exact ih g j kd hj (by omega) (by omega)
theorem WF.plain_eq {T : Tr} {d : Nat → Nat} (hw : WF T d) {i : Nat} {nd : Nd} (h : T.nodes[i]? = some (some nd)) : T.plain i = .mk nd.tag nd.attrs nd.text (nd.kids.map T.plain) := by
  show T.pln 50 i = _
  rw [pln_step T 49 h]
  congr 1
  refine List.map_congr_left fun k hk => ?_
  obtain ⟨n, hn⟩ := List.getElem?_of_mem hk
  obtain ⟨j, kd, rfl, hj, hjp, hjd⟩ := hw.kid h hn
  have := hw.deep j kd hj
  have := hw.small.deep1
  exact hw.pln_more 49 50 j kd hj (by omega) (by omega)
theorem WF.height_eq {T : Tr} {d : Nat → Nat} (hw : WF T d) {i : Nat} {nd : Nd} (h : T.nodes[i]? = some (some nd)) : T.height i = nd.kids.foldl (fun h k => max h (T.height k + 1)) 0 := by
  show T.hgt 50 i = _
  rw [hgt_step T 49 h]
  refine fold_congr _ _ _ _ fun k hk => ?_
  obtain ⟨n, hn⟩ := List.getElem?_of_mem hk
  obtain ⟨j, kd, rfl, hj, hjp, hjd⟩ := hw.kid h hn
  have := hw.deep j kd hj
  have := hw.small.deep1
  show _ = T.hgt 50 j + 1
  rw [hw.hgt_more 49 50 j kd hj (by omega) (by omega)]
/-- two trees that tell the same of all that is within a node -/
theorem pln_same {T T' : Tr} {d : Nat → Nat} (hw : WF T d) {o : Nat} (hs : ∀ (j : Nat) (jd : Nd), T.nodes[j]? = some (some jd) → T.within j o = true → ∃ jd', T'.nodes[j]? = some (some jd') ∧ jd'.tag = jd.tag ∧ jd'.attrs = jd.attrs ∧ jd'.text = jd.text ∧ jd'.kids = jd.kids) {od : Nd} (ho : T.nodes[o]? = some (some od)) :
    ∀ (f i : Nat) (nd : Nd), T.nodes[i]? = some (some nd) → T.within i o = true → T'.pln f i = T.pln f i ∧ T'.hgt f i = T.hgt f i := by
  intro f
  induction f with
  | zero => intro i nd h _; exact ⟨rfl, rfl⟩
  | succ f ih =>
    intro i nd h hin
    obtain ⟨nd', h', e1, e2, e3, e4⟩ := hs i nd h hin
    have hk : ∀ k ∈ nd.kids, T'.pln f k = T.pln f k ∧ T'.hgt f k = T.hgt f k := fun k hk => by
      obtain ⟨j, kd, rfl, hj, hjp⟩ := (hw.kids i nd h).2 k hk
      refine ih j kd hj ?_
      rw [hw.within_step hj, hjp]
      split
      · rfl
      · exact hin
    constructor
    · rw [pln_step T f h, pln_step T' f h', e1, e2, e3, e4]
      congr 1
      exact List.map_congr_left fun k hk' => (hk k hk').1
    · rw [hgt_step T f h, hgt_step T' f h', e4]
      exact fold_congr _ _ _ _ fun k hk' => by rw [(hk k hk').2]
theorem plain_same {T T' : Tr} {d : Nat → Nat} (hw : WF T d) {o : Nat} {od : Nd} (ho : T.nodes[o]? = some (some od))
    (hs : ∀ (j : Nat) (jd : Nd), T.nodes[j]? = some (some jd) → T.within j o = true → ∃ jd', T'.nodes[j]? = some (some jd') ∧ jd'.tag = jd.tag ∧ jd'.attrs = jd.attrs ∧ jd'.text = jd.text ∧ jd'.kids = jd.kids) :
    T'.plain o = T.plain o ∧ T'.height o = T.height o := pln_same hw hs ho 50 o od ho (hw.within_self ho)

/-- a loose node gets one kid more -/
def Tr.attach (T : Tr) (p k : Nat) (pd kd : Nd) : Tr := T.set2 p k { pd with kids := pd.kids ++ [(k : Int)] } { kd with parent := p }
theorem Tr.attach_link (T : Tr) (p k : Nat) (pd kd : Nd) : T.attach p k pd kd = T.link p pd.kids.length k pd kd := by
  rw [Tr.link_eq]; simp [Tr.attach]
theorem WF.attach {T : Tr} {d : Nat → Nat} (hw : WF T d) {p k : Nat} {pd kd : Nd} (hp : T.nodes[p]? = some (some pd)) (hk : T.nodes[k]? = some (some kd))
    (htag : pd.tag ≠ 0) (hk0 : k ≠ 0) (hpar : kd.parent = -1) (hpp : pd.parent = -1) (hpk : p ≠ k) (hh : T.height k + 1 ≤ T.deep) :
    ∃ d', WF (T.attach p k pd kd) d' ∧ (T.attach p k pd kd).height p = max (T.height p) (T.height k + 1) ∧ (T.attach p k pd kd).plain p = .mk pd.tag pd.attrs pd.text (pd.kids.map T.plain ++ [T.plain k]) := by
  have hin : T.within p k = false := by rw [hw.within_root hp hpp]; simp; omega
  have hdp : d p = 0 := by
    rcases hw.up p pd hp with ⟨h3, h4⟩ | ⟨q, qd, h3, h4, h5, h6⟩
    · exact h4
    · omega
  have hl := hw.link (at' := pd.kids.length) hp hk htag hk0 hpar hin (by omega)
  rw [← Tr.attach_link] at hl
  have hg := fun j => Tr.set2_get (pd' := { pd with kids := pd.kids ++ [(k : Int)] }) (kd' := { kd with parent := p }) hp hk j
  have hp' : (T.attach p k pd kd).nodes[p]? = some (some { pd with kids := pd.kids ++ [(k : Int)] }) := by
    show (T.set2 p k _ _).nodes[p]? = _
    rw [hg, if_neg hpk, if_pos rfl]
  -- nodes other than p tell the same
  have hsame : ∀ (j : Nat) (jd : Nd), T.nodes[j]? = some (some jd) → j ≠ p → ∃ jd', (T.attach p k pd kd).nodes[j]? = some (some jd') ∧ jd'.tag = jd.tag ∧ jd'.attrs = jd.attrs ∧ jd'.text = jd.text ∧ jd'.kids = jd.kids := fun j jd h hne => by
    show ∃ jd', (T.set2 p k _ _).nodes[j]? = some (some jd') ∧ _
    rw [hg]
    by_cases e : j = k
    · subst e
      rw [if_pos rfl]
      obtain rfl := some_inj2 hk h
      exact ⟨_, rfl, rfl, rfl, rfl, rfl⟩
    · rw [if_neg e, if_neg hne]
      exact ⟨jd, h, rfl, rfl, rfl, rfl⟩
  have hof : ∀ (o : Nat) (od : Nd), T.nodes[o]? = some (some od) → o ≠ p → (T.attach p k pd kd).plain o = T.plain o ∧ (T.attach p k pd kd).height o = T.height o := fun o od ho hne =>
    plain_same hw ho fun j jd hj hjo => hsame j jd hj fun e => by
      subst e
      obtain rfl := some_inj2 hp hj
      rw [hw.within_root hp hpp] at hjo
      have := of_decide_eq_true hjo
      omega
  have hkids : ∀ x ∈ pd.kids, (T.attach p k pd kd).plain x = T.plain x ∧ (T.attach p k pd kd).height x = T.height x := fun x hx => by
    obtain ⟨j, jd, rfl, hj, hjp⟩ := (hw.kids p pd hp).2 x hx
    refine hof j jd hj fun e => ?_
    subst e
    obtain rfl := some_inj2 hp hj
    omega
  have hkk := hof k kd hk (Ne.symm hpk)
  refine ⟨_, hl, ?_, ?_⟩
  · rw [hl.height_eq hp', hw.height_eq hp]
    show (pd.kids ++ [(k : Int)]).foldl _ 0 = _
    rw [List.foldl_append, List.foldl_cons, List.foldl_nil, hkk.2]
    rw [fold_congr (fun x => (T.attach p k pd kd).height x + 1) (fun x => T.height x + 1) pd.kids 0 fun x hx => by rw [(hkids x hx).2]]
  · rw [hl.plain_eq hp']
    show PN.mk pd.tag pd.attrs pd.text ((pd.kids ++ [(k : Int)]).map _) = _
    rw [List.map_append, List.map_cons, List.map_nil, hkk.1]
    congr 2
    exact List.map_congr_left fun x hx => (hkids x hx).1

/-- the first free number and the tree behind 'put', kids one by one -/
def Tr.look (T : Tr) (i : Int) : Nd := (T.get? i).getD ⟨0, [], ByteArray.empty, [], -1⟩
def Tr.join (T : Tr) (p k : Int) : Tr := T.attach p.toNat k.toNat (T.look p) (T.look k)
mutual
def PN.into (T : Tr) : PN → Tr
  | .mk t a s ks => PN.intos T.newId (T.put ⟨t, a, anewB s, [], -1⟩) ks
def PN.intos (id : Int) (T : Tr) : List PN → Tr
  | [] => T
  | k :: r => PN.intos id ((PN.into T k).join id T.newId) r
end
end Go.Proofs.YtdafdoodegpdhaaGreatDoor

namespace Go.Proofs.YtdafdoodegpdhaaGreatDoor
open Go Go.RowKit Go.BigFrame
set_option linter.unusedVariables false
set_option linter.unusedSimpArgs false

end Go.Proofs.YtdafdoodegpdhaaGreatDoor

namespace Go.Proofs.YtdafdoodegpdhaaGreatDoor
open Go Go.RowKit Go.BigFrame
end Go.Proofs.YtdafdoodegpdhaaGreatDoor

namespace Go.Proofs.YtdafdoodegpdhaaGreatDoor
open Go Go.RowKit Go.BigFrame
set_option linter.unusedVariables false
set_option linter.unusedSimpArgs false

end Go.Proofs.YtdafdoodegpdhaaGreatDoor

namespace Go.Proofs.YtdafdoodegpdhaaGreatDoor
open Go Go.RowKit Go.BigFrame
set_option linter.unusedVariables false
set_option linter.unusedSimpArgs false

theorem posOf_mem {l : List Int} {x : Int} (h : x ∈ l) : posOf l x = ((l.idxOf x : Nat) : Int) ∧ l.idxOf x < l.length ∧ l.eraseIdx (l.idxOf x) = l.erase x := by
  refine ⟨if_pos h, List.idxOf_lt_length_iff.2 h, ?_⟩
  induction l with
  | nil => cases h
  | cons y r ih =>
    by_cases e : y = x
    · subst e; simp
    · have hr : x ∈ r := by rcases List.mem_cons.1 h with h | h; exact absurd h.symm e; exact h
      have h2 : (y :: r).idxOf x = r.idxOf x + 1 := by
        rw [List.idxOf_cons]
        have : (y == x) = false := by simpa using e
        rw [this]; rfl
      rw [h2, List.eraseIdx_cons_succ, ih hr, List.erase_cons_tail (by simpa using e)]

end Go.Proofs.YtdafdoodegpdhaaGreatDoor

namespace Go.Proofs.YtdafdoodegpdhaaGreatDoor
open Go Go.RowKit Go.BigFrame
set_option linter.unusedVariables false
set_option linter.unusedSimpArgs false

/-- nothing but the tree's head and its row of nodes has turned -/
structure Top (own : Ow) (w w' : World) : Prop where
  os : w'.os = w.os
  tape : w'.tape = w.tape
  output : w'.output = w.output
  size : w'.heap.size = w.heap.size
  rest : ∀ b, own b ≠ some (0, 0) → own b ≠ some (1, 0) → w'.heap[b]? = w.heap[b]?
theorem Top.refl (own : Ow) (w : World) : Top own w w := ⟨rfl, rfl, rfl, rfl, fun _ _ _ => rfl⟩
theorem Top.trans {own : Ow} {a b c : World} (h : Top own a b) (k : Top own b c) : Top own a c :=
  ⟨k.os.trans h.os, k.tape.trans h.tape, k.output.trans h.output, k.size.trans h.size, fun x h0 h1 => (k.rest x h0 h1).trans (h.rest x h0 h1)⟩
theorem Top.setCell {own : Ow} {a b : World} (h : Top own a b) {p : Addr} (hp : own p.block = some (0, 0) ∨ own p.block = some (1, 0)) (u : Value) : Top own a (b.setCell p u) :=
  ⟨h.os, h.tape, h.output, by have := h.size; simpa [World.setCell] using this, fun x h0 h1 => (heap_setCell_other _ (fun e => by subst e; rcases hp with hp | hp; exact h0 hp; exact h1 hp)).trans (h.rest x h0 h1)⟩
theorem Top.cell {own : Ow} {w w' : World} (h : Top own w w') {b o : Nat} {v : Value} (hb : own b = none) (hc : w.cell? ⟨b, o, none⟩ = some v) : w'.cell? ⟨b, o, none⟩ = some v :=
  (World.cell?_of_block (a := ⟨b, o, none⟩) (h.rest b (by rw [hb]; simp) (by rw [hb]; simp))).trans hc
theorem Top.step {own : Ow} {w w' : World} (h : Top own w w') (hO : Owned own w) : Step own w own w' :=
  ⟨h.os, h.tape, h.output, Nat.le_of_eq h.size.symm, fun b _ hn => h.rest b (by rw [hn]; simp) (by rw [hn]; simp), fun _ _ => rfl, fun b hb => by rw [h.size]; exact hO b hb⟩
end Go.Proofs.YtdafdoodegpdhaaGreatDoor

namespace Go.Proofs.YtdafdoodegpdhaaGreatDoor
open Go Go.RowKit Go.BigFrame
set_option linter.unusedVariables false
set_option linter.unusedSimpArgs false

end Go.Proofs.YtdafdoodegpdhaaGreatDoor

namespace Go.Proofs.YtdafdoodegpdhaaGreatDoor
open Go Go.RowKit Go.BigFrame
set_option linter.unusedVariables false
set_option linter.unusedSimpArgs false

/-- what measure has in hand -/
structure Ms where
  count : Int
  height : Int
  e : Int
def Ms.one (n : PN) (deep : Int) (m : Ms) : Ms := ⟨m.count + 1, max m.height deep, if n.bad then 1 else if 8192 < (anewB n.text).size ∧ m.e = 0 then 10 else m.e⟩
mutual
def PN.look (deep : Int) (m : Ms) : PN → Ms
  | .mk t a s ks => PN.looks (deep + 1) (Ms.one (.mk t a s ks) deep m) ks
def PN.looks (deep : Int) (m : Ms) : List PN → Ms
  | [] => m
  | k :: r => PN.looks deep (PN.look deep m k) r
end
mutual
/-- all texts are short -/
def PN.short : PN → Bool
  | .mk _ a s ks => decide (s.size ≤ 100000) && decide (a.length ≤ 60000) && PN.shorts ks
def PN.shorts : List PN → Bool
  | [] => true
  | k :: r => PN.short k && PN.shorts r
end
theorem PN.short_eq (n : PN) : n.short = (decide (n.text.size ≤ 100000) && decide (n.attrs.length ≤ 60000) && PN.shorts n.kids) := by cases n; rfl
theorem sizes_append : ∀ (l r : List PN), PN.sizes (l ++ r) = PN.sizes l + PN.sizes r := by
  intro l
  induction l with
  | nil => intro r; simp [PN.sizes]
  | cons x l ih => intro r; simp only [List.cons_append, PN.sizes, ih]; omega
theorem sizes_take (l : List PN) (k : Nat) : PN.sizes (l.take k) ≤ PN.sizes l := by
  have := sizes_append (l.take k) (l.drop k)
  rw [List.take_append_drop] at this; omega
theorem sizes_take_succ {l : List PN} {i : Nat} {k : PN} (h : l[i]? = some k) : PN.sizes (l.take i) + k.size ≤ PN.sizes l := by
  obtain ⟨hlt, rfl⟩ := List.getElem?_eq_some_iff.1 h
  have h1 := sizes_take l (i + 1)
  rw [List.take_succ_eq_append_getElem hlt, sizes_append] at h1
  simp only [PN.sizes] at h1; omega
/-- a block of one cell -/
def One (w : World) (b : Nat) (v : Value) (t : TypeId) : Prop := w.heap[b]? = some (.cells #[v] t (0, 0))
theorem One.cell {w : World} {b : Nat} {v : Value} {t : TypeId} (h : One w b v t) : w.cell? ⟨b, 0, none⟩ = some v := cellOf h rfl
theorem One.free {w : World} {b : Nat} {v : Value} {t : TypeId} (h : One w b v t) : w.frozen? ⟨b, 0, none⟩ = false := freeOf h 0
theorem One.lt {w : World} {b : Nat} {v : Value} {t : TypeId} (h : One w b v t) : b < w.heap.size := (Array.getElem?_eq_some_iff.1 h).1
theorem One.alloc {w : World} {b : Nat} {v : Value} {t : TypeId} (h : One w b v t) (o : Obj) : One (w.alloc o) b v t := (Below.heap_alloc _ _ _ h.lt).trans h
theorem One.set {w : World} {b : Nat} {v : Value} {t : TypeId} (h : One w b v t) (u : Value) : One (w.setCell ⟨b, 0, none⟩ u) b u t := heap_setCell_same h u
theorem One.ext {w w' : World} {b : Nat} {v : Value} {t : TypeId} (h : One w b v t) (k : Ext w w') : One w' b v t := (Below.block k b h.lt).trans h
theorem One.new (w : World) (v : Value) (t : TypeId) : One (w.alloc (.cells #[v] t)) w.heap.size v t := heap_alloc_new w _
end Go.Proofs.YtdafdoodegpdhaaGreatDoor

namespace Go.Proofs.YtdafdoodegpdhaaGreatDoor
open Go Go.RowKit Go.BigFrame
set_option linter.unusedVariables false
set_option linter.unusedSimpArgs false

end Go.Proofs.YtdafdoodegpdhaaGreatDoor

namespace Go.Proofs.YtdafdoodegpdhaaGreatDoor
open Go Go.RowKit Go.BigFrame
set_option linter.unusedVariables false
set_option linter.unusedSimpArgs false

theorem One.at (w : World) (b : Nat) (v : Value) (t : TypeId) (hb : b = w.heap.size) : One (w.alloc (.cells #[v] t)) b v t := by subst hb; exact One.new w v t
end Go.Proofs.YtdafdoodegpdhaaGreatDoor

namespace Go.Proofs.YtdafdoodegpdhaaGreatDoor
open Go Go.RowKit Go.BigFrame
set_option linter.unusedVariables false
set_option linter.unusedSimpArgs false

/-- what a reading world tells lies apart from the tree -/
def Apart (g : World) (own : Ow) (w : World) : Prop := ∀ p v, g.cell? p = some v → w.cell? p = some v ∧ own p.block = none
theorem Apart.step {g : World} {own own' : Ow} {w w' : World} (h : Apart g own w) (k : Step own w own' w') : Apart g own' w' := fun p v hp => by
  obtain ⟨h1, h2⟩ := h p v hp
  have hl := World.block_lt_of_cell? w _ h1
  exact ⟨(World.cell?_of_block (k.rest _ hl h2)).trans h1, (k.same _ hl).trans h2⟩
theorem Apart.cells {g : World} {own : Ow} {w : World} (h : Apart g own w) : Cells g w := fun p v hp => (h p v hp).1
theorem Apart.ext {g : World} {own : Ow} {w w' : World} (h : Apart g own w) (k : Ext w w') : Apart g own w' := fun p v hp => ⟨k.cells _ _ (h p v hp).1, (h p v hp).2⟩
end Go.Proofs.YtdafdoodegpdhaaGreatDoor

namespace Go.Proofs.YtdafdoodegpdhaaGreatDoor
open Go Go.RowKit
set_option linter.unusedVariables false

section
variable {P : Program} {ops : Array Oper} {Q : Exit → Act → World → Prop} {md : Region.Mode} {S : World → Prop} {n : Nat}
end
end Go.Proofs.YtdafdoodegpdhaaGreatDoor

namespace Go.Proofs.YtdafdoodegpdhaaGreatDoor
open Go Go.RowKit Go.BigFrame
set_option linter.unusedVariables false
set_option linter.unusedSimpArgs false

end Go.Proofs.YtdafdoodegpdhaaGreatDoor

namespace Go.Proofs.YtdafdoodegpdhaaGreatDoor
open Go Go.RowKit Go.BigFrame
set_option linter.unusedVariables false
set_option linter.unusedSimpArgs false

/-- the world without what the tree owns -/
def hide (own : Ow) (w : World) : World := { w with heap := w.heap.mapIdx fun b x => if (own b).isNone then x else .cells #[] 0 (0, 0) }
theorem hide_cell {own : Ow} {w : World} {p : Addr} {v : Value} (h : w.cell? p = some v) (hn : own p.block = none) : (hide own w).cell? p = some v := by
  rw [← h]
  refine World.cell?_of_block ?_
  show (w.heap.mapIdx _)[p.block]? = _
  rw [Array.getElem?_mapIdx, hn]
  cases w.heap[p.block]? <;> rfl
theorem hide_apart (own : Ow) (w : World) : Apart (hide own w) own w := by
  intro p v h
  have hn : own p.block = none := by
    cases ho : own p.block with
    | none => rfl
    | some x =>
      exfalso
      have hb : (hide own w).heap[p.block]? = (w.heap[p.block]?).map fun _ => (.cells #[] 0 (0, 0) : Obj) := by
        show (w.heap.mapIdx _)[p.block]? = _
        rw [Array.getElem?_mapIdx, ho]; rfl
      cases hw : w.heap[p.block]? with
      | none => rw [hw] at hb; simp [World.cell?, hb] at h
      | some o => rw [hw] at hb; simp [World.cell?, hb] at h
  refine ⟨?_, hn⟩
  rw [← h]
  refine (World.cell?_of_block ?_).symm
  show (w.heap.mapIdx _)[p.block]? = _
  rw [Array.getElem?_mapIdx, hn]
  cases w.heap[p.block]? <;> rfl
theorem Apart.hide {g : World} {own : Ow} {w : World} (h : Apart g own w) : Cells g (hide own w) := fun p v hp => hide_cell (h p v hp).1 (h p v hp).2
end Go.Proofs.YtdafdoodegpdhaaGreatDoor

namespace Go.Proofs.YtdafdoodegpdhaaGreatDoor
open Go Go.RowKit Go.BigFrame
set_option linter.unusedVariables false
set_option linter.unusedSimpArgs false
end Go.Proofs.YtdafdoodegpdhaaGreatDoor

namespace Go.Proofs.YtdafdoodegpdhaaGreatDoor
open Go Go.RowKit Go.BigFrame
set_option linter.unusedVariables false
set_option linter.unusedSimpArgs false

end Go.Proofs.YtdafdoodegpdhaaGreatDoor

namespace Go.Proofs.YtdafdoodegpdhaaGreatDoor
open Go Go.RowKit Go.BigFrame
set_option linter.unusedVariables false
set_option linter.unusedSimpArgs false

end Go.Proofs.YtdafdoodegpdhaaGreatDoor

namespace Go.Proofs.YtdafdoodegpdhaaGreatDoor
open Go Go.RowKit Go.BigFrame Go.ChangeShapes Go.WideShapes Go.Deep
set_option linter.unusedVariables false
set_option linter.unusedSimpArgs false

theorem exists_row {α : Type} (n : Nat) (P : Nat → α → Prop) (h : ∀ i, i < n → ∃ x, P i x) : ∃ l : List α, l.length = n ∧ ∀ (i : Nat) x, l[i]? = some x → P i x := by
  induction n with
  | zero => exact ⟨[], rfl, fun i x hx => by simp at hx⟩
  | succ n ih =>
    obtain ⟨l, h1, h2⟩ := ih fun i hi => h i (by omega)
    obtain ⟨x, hx⟩ := h n (by omega)
    refine ⟨l ++ [x], by simp [h1], fun i y hy => ?_⟩
    rw [List.getElem?_append] at hy
    split at hy
    · exact h2 i y hy
    · rcases Nat.eq_zero_or_pos (i - l.length) with h0 | h0
      · rw [h0] at hy; simp at hy
        obtain rfl : i = n := by omega
        exact hy ▸ hx
      · rw [List.getElem?_eq_none (by simp; omega)] at hy; cases hy
theorem attrCells_get (l : List (ByteArray × ByteArray)) : ∀ (j : Nat) (x : Value), (attrCells l)[j]? = some x → ∃ p, l[j / 2]? = some p ∧ x = if j % 2 = 0 then .string p.1 else .string p.2 := by
  induction l with
  | nil => intro j x h; simp [attrCells] at h
  | cons q r ih =>
    obtain ⟨a, b⟩ := q
    intro j x h
    match j, h with
    | 0, h => simp [attrCells] at h; exact ⟨(a, b), by simp, by simp [h]⟩
    | 1, h => simp [attrCells] at h; exact ⟨(a, b), by simp, by simp [h]⟩
    | j + 2, h =>
      simp only [attrCells, List.getElem?_cons_succ] at h
      obtain ⟨p, h1, h2⟩ := ih j x h
      exact ⟨p, by rw [show (j + 2) / 2 = j / 2 + 1 by omega]; simpa using h1, by rw [show (j + 2) % 2 = j % 2 by omega]; exact h2⟩
section
variable {H : Type} {enc : TypeId × Value → H} {w : World} {base : Nat} {spare : Nat → Bool} {held : Bool}
theorem cells_at {a : Addr} {n : Nat} {cs : List Value} (h : w.cells? base a n = some cs) {i : Nat} {v : Value} (hi : cs[i]? = some v) : w.cell? (a.add i) = some v := by
  obtain ⟨_, hl, hg⟩ := World.cells?_some h
  have := (List.getElem?_eq_some_iff.1 hi).1
  rw [hg i (by omega)]; exact hi
theorem slice_elems {t e : TypeId} {fuel : Nat} {cs : List Value} {x : DataW H × List MemPlace} (ht : Tryz.prog.underlying t = some (.slice e)) (h : DataW.trod enc Tryz.prog w base spare held fuel t cs = some x) :
    cs = [.slice none 0 0] ∨ ∃ (a : Addr) (len cap n : Nat), fuel = n + 1 ∧ cs = [.slice (some a) len cap] ∧ len ≤ cap ∧ cap ≤ maxLen ∧
      ∀ i, i < len → ∃ cs' y, w.cells? base (a.add (i * Tryz.prog.cellsOf e)) (Tryz.prog.cellsOf e) = some cs' ∧ DataW.trod enc Tryz.prog w base spare held n e cs' = some y := by
  rcases DataW.trod_slice ht h with ⟨h0, _⟩ | ⟨a, len, cap, elems, rest, n, hn, hc, _, hb, hl, hm, hlen, hel, _⟩
  · exact .inl h0
  · refine .inr ⟨a, len, cap, n, hn, hc, hl, hm, fun i hi => ?_⟩
    have key := hel i hi
    rw [List.getElem?_eq_getElem (by omega)] at key
    obtain ⟨cs', h1, h2⟩ := Option.bind_eq_some_iff.1 key
    exact ⟨cs', _, h1, h2⟩
set_option maxRecDepth 20000 in
theorem read_attrs {fuel : Nat} {cs : List Value} {x : DataW H × List MemPlace} (h : DataW.trod enc Tryz.prog w base spare held fuel 28 cs = some x) :
    ∃ (v : Value) (l : List (ByteArray × ByteArray)), cs = [v] ∧ RowRd w 2 v l.length (attrCells l) := by
  rcases slice_elems Tryz.underlying28 h with rfl | ⟨a, len, cap, n, _, rfl, hl, hm, hi⟩
  · exact ⟨_, [], rfl, ⟨rfl, none, 0, rfl, Nat.le_refl _, fun _ => ⟨rfl, rfl⟩, fun a h => by cases h⟩⟩
  · have hC : Tryz.prog.cellsOf 72 = 2 := by kernel_rfl
    obtain ⟨l, h1, h2⟩ := exists_row len (fun i (p : ByteArray × ByteArray) => w.cell? (a.add (i * 2)) = some (.string p.1) ∧ w.cell? (a.add (i * 2 + 1)) = some (.string p.2)) fun i hil => by
      obtain ⟨cs', y, hc, ht⟩ := hi i (by omega)
      rw [hC] at hc
      obtain ⟨ys, n', rfl, _, hcl, hyl, hf⟩ := DataW.trod_struct Tryz.underlying72 ht
      rw [hC] at hcl
      have hS : Tryz.prog.cellsOf 9 = 1 := by kernel_rfl
      match cs', hcl with
      | [u0, u1], _ =>
        have g0 := hf 0 { name := _, type := 9, offset := 0, embedded := _, tag := _, pkgPath := _, byteOffset := _ } rfl
        have g1 := hf 1 { name := _, type := 9, offset := 1, embedded := _, tag := _, pkgPath := _, byteOffset := _ } rfl
        simp only [hS] at g0 g1
        match ys, hyl with
        | [y0, y1], _ =>
          obtain ⟨s0, e0, _⟩ := DataW.trod_string Tryz.underlying9 (x := y0) g0
          obtain ⟨s1, e1, _⟩ := DataW.trod_string Tryz.underlying9 (x := y1) g1
          simp at e0 e1
          subst e0 e1
          refine ⟨(s0, s1), cells_at hc (i := 0) rfl, ?_⟩
          have := cells_at hc (i := 1) (v := .string s1) rfl
          rw [Go.Deep.add_add] at this
          exact this
    refine ⟨_, l, rfl, ⟨by rw [attrCells_len], some a, cap, by rw [h1], by omega, (fun h => by cases h), fun a' ha j x hx => ?_⟩⟩
    cases ha
    obtain ⟨p, q1, q2⟩ := attrCells_get l j x hx
    have := h2 _ p q1
    rcases Nat.mod_two_eq_zero_or_one j with h0 | h0
    · rw [q2, if_pos h0, ← this.1, show j / 2 * 2 = j by omega]
    · rw [q2, if_neg (by omega), ← this.2, show j / 2 * 2 + 1 = j by omega]
end
section
variable {H : Type} {enc : TypeId × Value → H} {w : World} {base : Nat} {spare : Nat → Bool} {held : Bool}
end
end Go.Proofs.YtdafdoodegpdhaaGreatDoor

namespace Go.Proofs.YtdafdoodegpdhaaGreatDoor
open Go Go.RowKit Go.BigFrame
set_option linter.unusedVariables false
set_option linter.unusedSimpArgs false

mutual
/-- what weigh leaves, if it looks at all of it -/
def PN.light : PN → Bool
  | .mk _ a s ks => decide (s.size ≤ 20000) && decide (a.length ≤ 200) && PN.lights ks
def PN.lights : List PN → Bool
  | [] => true
  | k :: r => PN.light k && PN.lights r
end
theorem PN.light_eq (n : PN) : n.light = (decide (n.text.size ≤ 20000) && decide (n.attrs.length ≤ 200) && PN.lights n.kids) := by cases n; rfl
theorem PN.light_short : ∀ n : PN, n.light = true → n.short = true := by
  refine PN.induct _ fun n ih h => ?_
  rw [PN.light_eq] at h
  simp at h
  rw [PN.short_eq]
  have : ∀ l : List PN, (∀ k ∈ l, k ∈ n.kids) → PN.lights l = true → PN.shorts l = true := by
    intro l
    induction l with
    | nil => intro _ _; rfl
    | cons x r ih2 =>
      intro hm hl
      simp only [PN.lights, Bool.and_eq_true] at hl
      simp only [PN.shorts, Bool.and_eq_true]
      exact ⟨ih x (hm x (by simp)) hl.1, ih2 (fun k hk => hm k (by simp [hk])) hl.2⟩
  simp
  exact ⟨⟨by omega, by omega⟩, this n.kids (fun k hk => hk) h.2⟩
theorem add_pos (a : Addr) (j : Nat) (hj : 0 < j) : a.add j = ⟨a.block, a.off + j, none⟩ := by unfold Addr.add; rw [if_neg (by omega)]
end Go.Proofs.YtdafdoodegpdhaaGreatDoor

namespace Go.Proofs.YtdafdoodegpdhaaGreatDoor
open Go Go.RowKit Go.BigFrame
set_option linter.unusedVariables false
set_option linter.unusedSimpArgs false

def NdOk (nd : Nd) : Prop := nd.attrs.length ≤ 60000 ∧ nd.text.size ≤ 8192
def AttrsOk (T : Tr) : Prop := ∀ (i : Nat) (nd : Nd), T.nodes[i]? = some (some nd) → NdOk nd
theorem set_get {l : List (Option Nd)} {i : Nat} {x : Option Nd} {j : Nat} {nd : Nd} (h : (l.set i x)[j]? = some (some nd)) : x = some nd ∨ l[j]? = some (some nd) := by
  rw [List.getElem?_set] at h
  split at h
  · split at h
    · injection h with h; exact .inl h
    · cases h
  · exact .inr h
theorem AttrsOk.put {T : Tr} (h : AttrsOk T) (nd : Nd) (hn : NdOk nd) : AttrsOk (T.put nd) := by
  intro j x hj
  obtain ⟨n, _, h2, _, _, h5, _⟩ := T.put_at nd
  by_cases e : j = n
  · subst e
    obtain rfl := some_inj2 h2 hj
    exact hn
  · exact h j x (h5 j x e hj)
theorem AttrsOk.set2 {T : Tr} (h : AttrsOk T) {p k : Nat} {pd kd : Nd} (h1 : NdOk pd) (h2 : NdOk kd) : AttrsOk (T.set2 p k pd kd) := by
  intro j x hj
  rcases set_get hj with e | hj
  · injection e with e; subst e; exact h2
  · rcases set_get hj with e | hj
    · injection e with e; subst e; exact h1
    · exact h j x hj
section
variable {w : World} {own : Ow} {ptr : Nat → Nat} {tb : Nat} {T : Tr}
end
end Go.Proofs.YtdafdoodegpdhaaGreatDoor

namespace Go.Proofs.YtdafdoodegpdhaaGreatDoor
open Go Go.RowKit Go.BigFrame
set_option linter.unusedVariables false
set_option linter.unusedSimpArgs false

def d3 (i : Nat) : Nat := if i = 1 then 1 else 0
end Go.Proofs.YtdafdoodegpdhaaGreatDoor

namespace Go.Proofs.YtdafdoodegpdhaaGreatDoor
open Go Go.RowKit Go.BigFrame
set_option linter.unusedVariables false
set_option linter.unusedSimpArgs false

theorem attrCells_at : ∀ (l : List (ByteArray × ByteArray)) (k : Nat) (p : ByteArray × ByteArray), l[k]? = some p → (attrCells l)[k * 2]? = some (.string p.1) ∧ (attrCells l)[k * 2 + 1]? = some (.string p.2) := by
  intro l
  induction l with
  | nil => intro k p h; cases h
  | cons q r ih =>
    obtain ⟨a, b⟩ := q
    intro k p h
    cases k with
    | zero => cases h; exact ⟨rfl, rfl⟩
    | succ k =>
      have := ih k p h
      rw [show (k + 1) * 2 = k * 2 + 2 by omega]
      exact this
mutual
/-- no row of attributes is too long -/
def PN.fair : PN → Bool
  | .mk _ a _ ks => decide (a.length ≤ 60000) && PN.fairs ks
def PN.fairs : List PN → Bool
  | [] => true
  | k :: r => PN.fair k && PN.fairs r
end
theorem PN.fair_eq (n : PN) : n.fair = (decide (n.attrs.length ≤ 60000) && PN.fairs n.kids) := by cases n; rfl
theorem PN.fairs_mem {l : List PN} (h : PN.fairs l = true) {k : PN} (hk : k ∈ l) : k.fair = true := by
  induction l with
  | nil => cases hk
  | cons x r ih =>
    simp only [PN.fairs, Bool.and_eq_true] at h
    rcases List.mem_cons.1 hk with rfl | hk
    · exact h.1
    · exact ih h.2 hk
theorem PN.fairs_of {l : List PN} (h : ∀ k ∈ l, k.fair = true) : PN.fairs l = true := by
  induction l with
  | nil => rfl
  | cons x r ih =>
    simp only [PN.fairs, Bool.and_eq_true]
    exact ⟨h x (by simp), ih fun k hk => h k (by simp [hk])⟩
set_option maxRecDepth 100000 in
set_option maxHeartbeats 2000000 in
theorem SameAttrs_eq {w : World} {l : List (ByteArray × ByteArray)} {v v' : Value} (hlen : l.length ≤ 60000) (h : RowRd w 2 v l.length (attrCells l)) (h' : RowRd w 2 v' l.length (attrCells l)) :
    Calls Tryz.prog 19 #[v, v'] w (RBool true w) := by
  obtain ⟨_, ao, cap, rfl, hc, hno, hcl⟩ := h
  obtain ⟨_, ao', cap', rfl, hc', hno', hcl'⟩ := h'
  have HNO := Lib.hid hno
  have HNO' := Lib.hid hno'
  have HCL := Lib.hid hcl
  have HCL' := Lib.hid hcl'
  clear hno hno' hcl hcl'
  go_enter Tryz.func19, Tryz.ntmps19
  go_wp2_with fail
  go_loopw [5] (fun i wr => ∃ k : Nat, k ≤ l.length ∧ i = .int .i64 k ∧ Ext w wr) (fun i _ => l.length - (intOf i).toNat)
  case atStart => exact ⟨0, Nat.zero_le _, rfl, Ext.refl _⟩
  case round =>
    obtain ⟨k, hk, rfl, xr⟩ := hrel
    by_cases hkk : k < l.length
    · obtain ⟨p, hp⟩ : ∃ p, l[k]? = some p := ⟨l[k], by simp [hkk]⟩
      obtain ⟨e1, e2⟩ := attrCells_at l k p hp
      cases ao with
      | none => exact absurd (HNO.out rfl).1 (by omega)
      | some a =>
        cases ao' with
        | none => exact absurd (HNO'.out rfl).1 (by omega)
        | some a' =>
          obtain ⟨b, off, sp⟩ := a
          obtain ⟨b', off', sp'⟩ := a'
          have q0 := HCL.out _ rfl _ _ e1
          have q1 := HCL.out _ rfl _ _ e2
          have q0' := HCL'.out _ rfl _ _ e1
          have q1' := HCL'.out _ rfl _ _ e2
          rw [add_later _ _ _ (by decide)] at q1 q1'
          have XR := Lib.hid xr
          have d0 := fun u : ExtOf wr => u.ext.cells _ _ (xr.cells _ _ q0)
          have d1 := fun u : ExtOf wr => u.ext.cells _ _ (xr.cells _ _ q1)
          have d0' := fun u : ExtOf wr => u.ext.cells _ _ (xr.cells _ _ q0')
          have d1' := fun u : ExtOf wr => u.ext.cells _ _ (xr.cells _ _ q1')
          clear q0 q1 q0' q1' e1 e2 xr hp
          go_upto_region 6 with fail
          refine wp_region_ext (by kernel_rfl) (by kernel_rfl) ?_
          repeat (go_big_quiet_step (fail))
          refine wpQuiet_nil ?_
          rintro _ ⟨u, rfl⟩
          clear d0 d1 d0' d1'
          go_wp2_with fail
          go_roundw
          case rel => exact ⟨k + 1, by omega, by go_num, XR.out.trans u.ext⟩
          case measure => simp [intOf]; omega
    · go_wp2_with fail
      go_ret
      exact ⟨rfl, xr⟩
end Go.Proofs.YtdafdoodegpdhaaGreatDoor

namespace Go.Proofs.YtdafdoodegpdhaaGreatDoor
open Go Go.RowKit Go.BigFrame
set_option linter.unusedVariables false
set_option linter.unusedSimpArgs false

abbrev noNode0 : Value := .agg #[.int .i64 0, .slice none 0 0, .string ⟨#[]⟩, .slice none 0 0]
/-- a plain tree in new memory is returned -/
def PlainIs (n : PN) (w : World) (e : Ending) (w' : World) : Prop := ∃ v g, e = .returned v ∧ RdN g n v ∧ Ext w w' ∧ ∀ q x, g.cell? q = some x → w'.cell? q = some x ∧ w.heap.size ≤ q.block
theorem cells_four {w : World} {b : Nat} {c0 c1 c2 c3 : Value} {t : TypeId} (h : w.heap[b]? = some (.cells #[c0, c1, c2, c3] t (0, 0))) : ∀ (j : Nat) u, [c0, c1, c2, c3][j]? = some u → w.cell? (Addr.add ⟨b, 0, none⟩ j) = some u := by
  intro j u hu
  rw [Addr.add_lit, Nat.zero_add]
  refine cellOf h ?_
  simpa using hu
end Go.Proofs.YtdafdoodegpdhaaGreatDoor

namespace Go.Proofs.YtdafdoodegpdhaaGreatDoor
open Go Go.RowKit Go.BigFrame
set_option linter.unusedVariables false
set_option linter.unusedSimpArgs false

end Go.Proofs.YtdafdoodegpdhaaGreatDoor

namespace Go.Proofs.YtdafdoodegpdhaaGreatDoor
open Go Go.RowKit Go.BigFrame
set_option linter.unusedVariables false
set_option linter.unusedSimpArgs false

theorem PN.light_fair : ∀ n : PN, n.light = true → n.fair = true := by
  refine PN.induct _ fun n ih h => ?_
  rw [PN.light_eq] at h
  simp only [Bool.and_eq_true, decide_eq_true_eq] at h
  rw [PN.fair_eq]
  simp only [Bool.and_eq_true, decide_eq_true_eq]
  refine ⟨by omega, PN.fairs_of fun k hk => ih k hk ?_⟩
  have : ∀ l : List PN, PN.lights l = true → k ∈ l → k.light = true := by
    intro l
    induction l with
    | nil => intro _ h; cases h
    | cons x r ih2 =>
      intro hl hm
      simp only [PN.lights, Bool.and_eq_true] at hl
      rcases List.mem_cons.1 hm with rfl | hm
      · exact hl.1
      · exact ih2 hl.2 hm
  exact this n.kids h.2 hk
end Go.Proofs.YtdafdoodegpdhaaGreatDoor

namespace Go.Proofs.YtdafdoodegpdhaaGreatDoor
open Go Go.RowKit Go.BigFrame
set_option linter.unusedVariables false
set_option linter.unusedSimpArgs false

theorem set_same {α : Type} {l : List α} {i : Nat} {x : α} (h : l[i]? = some x) : l.set i x = l := by
  obtain ⟨hlt, rfl⟩ := List.getElem?_eq_some_iff.1 h
  exact List.set_getElem_self hlt
/-- two nodes turned twice -/
theorem Tr.set2_set2 (T : Tr) {p k : Nat} (hpk : p ≠ k) (pd kd pd' kd' : Nd) : (T.set2 p k pd' kd').set2 p k pd kd = T.set2 p k pd kd := by
  unfold Tr.set2
  simp only [Tr.mk.injEq, true_and]
  rw [List.set_comm _ _ (Ne.symm hpk), List.set_set, List.set_set]
theorem Tr.set2_self {T : Tr} {p k : Nat} (hpk : p ≠ k) {pd kd : Nd} (hp : T.nodes[p]? = some (some pd)) (hk : T.nodes[k]? = some (some kd)) : T.set2 p k pd kd = T := by
  show { T with nodes := (T.nodes.set p (some pd)).set k (some kd) } = T
  rw [set_same hp, set_same hk]
theorem mid_erase {l : List Int} (hn : l.Nodup) {x : Int} (hx : x ∈ l) : (l.erase x).take (l.idxOf x) ++ [x] ++ (l.erase x).drop (l.idxOf x) = l := by
  have hlt : l.idxOf x < l.length := List.idxOf_lt_length_of_mem hx
  rw [List.erase_eq_eraseIdx_of_idxOf rfl, List.eraseIdx_eq_take_drop_succ]
  generalize hi : l.idxOf x = i at *
  have hx : l[i] = x := by subst hi; exact List.getElem_idxOf hlt
  have ht : (l.take i).length = i := by rw [List.length_take]; omega
  rw [List.take_append_of_le_length (by omega), List.take_of_length_le (by omega), List.drop_append_of_le_length (by omega), List.drop_of_length_le (by omega), List.nil_append, ← hx, List.append_assoc]
  simp
/-- taken off and hung up again -/
theorem Tr.link_unlink {T : Tr} {p k : Nat} {pd kd : Nd} (hp : T.nodes[p]? = some (some pd)) (hk : T.nodes[k]? = some (some kd)) (hpk : p ≠ k) (hpar : kd.parent = (p : Int)) (hn : pd.kids.Nodup) (hin : (k : Int) ∈ pd.kids) :
    (T.unlink p k pd kd).link p (pd.kids.idxOf (k : Int)) k { pd with kids := pd.kids.erase (k : Int) } { kd with parent := -1 } = T := by
  rw [Tr.link_eq]
  unfold Tr.unlink
  rw [Tr.set2_set2 _ hpk]
  have e1 : ({ pd with kids := (pd.kids.erase (k : Int)).take (pd.kids.idxOf (k : Int)) ++ [(k : Int)] ++ (pd.kids.erase (k : Int)).drop (pd.kids.idxOf (k : Int)) } : Nd) = pd := by rw [mid_erase hn hin]
  have e2 : ({ kd with parent := (p : Int) } : Nd) = kd := by rw [← hpar]
  show T.set2 p k { pd with kids := (pd.kids.erase (k : Int)).take (pd.kids.idxOf (k : Int)) ++ [(k : Int)] ++ (pd.kids.erase (k : Int)).drop (pd.kids.idxOf (k : Int)) } { kd with parent := (p : Int) } = T
  rw [e1, e2]
  exact Tr.set2_self hpk hp hk
/-- what lies within a node stays, whoever else is turned -/
theorem WF.plain_set2 {T : Tr} {d : Nat → Nat} (hw : WF T d) {p k : Nat} {pd kd pd' : Nd} {q : Int} (hp : T.nodes[p]? = some (some pd)) (hk : T.nodes[k]? = some (some kd)) (hin : T.within p k = false) :
    (T.set2 p k pd' { kd with parent := q }).plain k = T.plain k ∧ (T.set2 p k pd' { kd with parent := q }).height k = T.height k := by
  refine pln_same hw (o := k) (fun j jd hj hjk => ?_) hk 50 k kd hk (hw.within_self hk)
  rw [Tr.set2_get hp hk]
  by_cases h1 : j = k
  · subst h1
    obtain rfl := some_inj2 hk hj
    exact ⟨_, if_pos rfl, rfl, rfl, rfl, rfl⟩
  · rw [if_neg h1]
    by_cases h2 : j = p
    · subst h2; rw [hjk] at hin; cases hin
    · rw [if_neg h2]; exact ⟨jd, hj, rfl, rfl, rfl, rfl⟩
theorem fold_top (F : Int → Int) (b : Int) : ∀ (l : List Int) (z : Int), z ≤ b → (∀ k ∈ l, F k ≤ b) → l.foldl (fun h k => max h (F k)) z ≤ b := by
  intro l
  induction l with
  | nil => intro z hz _; exact hz
  | cons k r ih =>
    intro z hz hk
    have := hk k (by simp)
    exact ih _ (show max z (F k) ≤ b by omega) fun x hx => hk x (by simp [hx])
/-- the deepest within a node is not too deep -/
theorem WF.high_deep {T : Tr} {d : Nat → Nat} (hw : WF T d) : ∀ (f i : Nat) (nd : Nd), T.nodes[i]? = some (some nd) → (d i : Int) + T.hgt f i ≤ T.deep := by
  intro f
  induction f with
  | zero => intro i nd h; have := hw.deep i nd h; show (d i : Int) + 0 ≤ T.deep; omega
  | succ f ih =>
    intro i nd h
    rw [hgt_step T f h]
    have := hw.deep i nd h
    have := fold_top (fun k => T.hgt f k + 1) (T.deep - d i) nd.kids 0 (by omega) fun k hk => by
      obtain ⟨n, hn⟩ := List.getElem?_of_mem hk
      obtain ⟨j, kd, rfl, hj, hjp, hjd⟩ := hw.kid h hn
      have := ih j kd hj
      show T.hgt f j + 1 ≤ T.deep - d i
      omega
    omega
/-- a parent is not within its kid -/
theorem WF.up_out {T : Tr} {d : Nat → Nat} (hw : WF T d) {p k : Nat} {pd kd : Nd} (hp : T.nodes[p]? = some (some pd)) (hk : T.nodes[k]? = some (some kd)) (hpar : kd.parent = (p : Int)) : T.within p k = false ∧ d k = d p + 1 ∧ (k : Int) ∈ pd.kids ∧ p ≠ k := by
  have hd : d k = d p + 1 ∧ (k : Int) ∈ pd.kids := by
    rcases hw.up k kd hk with ⟨h3, h4⟩ | ⟨q, qd, h3, h4, h5, h6⟩
    · omega
    · obtain rfl : q = p := by omega
      obtain rfl := some_inj2 hp h4
      exact ⟨h5, h6⟩
  refine ⟨?_, hd.1, hd.2, fun e => by subst e; omega⟩
  cases hin : T.within p k with
  | false => rfl
  | true => have := (hw.within_depth p pd hp hin).1; omega
end Go.Proofs.YtdafdoodegpdhaaGreatDoor

namespace Go.Proofs.YtdafdoodegpdhaaGreatDoor
open Go Go.RowKit Go.BigFrame
set_option linter.unusedVariables false
set_option linter.unusedSimpArgs false

/-- the four cells of kid number j -/
def four (cur : Array Value) (j : Nat) : Value := .agg #[cur[j * 4]?.getD undef, cur[j * 4 + 1]?.getD undef, cur[j * 4 + 2]?.getD undef, cur[j * 4 + 3]?.getD undef]
theorem four_at {cur : Array Value} {cap j : Nat} (hs : cur.size = cap * 4) (hj : j < cap) : ∃ c0 c1 c2 c3, four cur j = .agg #[c0, c1, c2, c3] ∧ cur[j * 4]? = some c0 ∧ cur[j * 4 + 1]? = some c1 ∧ cur[j * 4 + 2]? = some c2 ∧ cur[j * 4 + 3]? = some c3 := by
  have h0 : j * 4 < cur.size := by omega
  have h1 : j * 4 + 1 < cur.size := by omega
  have h2 : j * 4 + 2 < cur.size := by omega
  have h3 : j * 4 + 3 < cur.size := by omega
  refine ⟨cur[j * 4], cur[j * 4 + 1], cur[j * 4 + 2], cur[j * 4 + 3], ?_, ?_, ?_, ?_, ?_⟩
  · unfold four
    rw [Array.getElem?_eq_getElem h0, Array.getElem?_eq_getElem h1, Array.getElem?_eq_getElem h2, Array.getElem?_eq_getElem h3]; rfl
  · exact Array.getElem?_eq_getElem h0
  · exact Array.getElem?_eq_getElem h1
  · exact Array.getElem?_eq_getElem h2
  · exact Array.getElem?_eq_getElem h3
end Go.Proofs.YtdafdoodegpdhaaGreatDoor

namespace Go.Proofs.YtdafdoodegpdhaaGreatDoor
open Go Go.RowKit Go.BigFrame
set_option linter.unusedVariables false
set_option linter.unusedSimpArgs false

section
variable {w0 w : World} {tb : Nat} {T : Tr} {g : World}
theorem RdN.shape {w : World} {n : PN} {v : Value} (h : RdN w n v) : ∃ a ac k kc, v = .agg #[.int .i64 n.tag, .slice a n.attrs.length ac, .string n.text, .slice k n.kids.length kc] := by
  obtain ⟨av, kv, rfl, ha, k, kc, rfl, _⟩ := h.open
  obtain ⟨a, ac, rfl, _⟩ := ha.len_of
  exact ⟨a, ac, k, kc, rfl⟩
/-- a box of a plain tree -/
def Box4 (g : World) (b : Nat) (c0 c1 c2 c3 : Value) : Prop := g.cell? ⟨b, 0, none⟩ = some c0 ∧ g.cell? ⟨b, 1, none⟩ = some c1 ∧ g.cell? ⟨b, 2, none⟩ = some c2 ∧ g.cell? ⟨b, 3, none⟩ = some c3
theorem Box4.cells {g g2 : World} {b : Nat} {c0 c1 c2 c3 : Value} (h : Box4 g b c0 c1 c2 c3) (k : Cells g g2) : Box4 g2 b c0 c1 c2 c3 := ⟨k _ _ h.1, k _ _ h.2.1, k _ _ h.2.2.1, k _ _ h.2.2.2⟩
theorem Box4.of {w g : World} {b : Nat} {c0 c1 c2 c3 : Value} {t : TypeId} (h : w.heap[b]? = some (.cells #[c0, c1, c2, c3] t (0, 0))) {B : Nat} (hb : B ≤ b) (hn : ∀ q y, w.cell? q = some y → B ≤ q.block → g.cell? q = some y) : Box4 g b c0 c1 c2 c3 :=
  ⟨hn _ _ (cellOf h (i := 0) rfl) hb, hn _ _ (cellOf h (i := 1) rfl) hb, hn _ _ (cellOf h (i := 2) rfl) hb, hn _ _ (cellOf h (i := 3) rfl) hb⟩
end
/-- a node that is taken off -/
theorem WF.off {T : Tr} {d : Nat → Nat} (hw : WF T d) (hA : AttrsOk T) {i p : Nat} {nd pd : Nd} (hi : T.nodes[i]? = some (some nd)) (hp : T.nodes[p]? = some (some pd)) (hpar : nd.parent = (p : Int)) :
    ∃ (T1 : Tr) (d1 : Nat → Nat), T.unlink p i pd nd = T1 ∧ WF T1 d1 ∧ AttrsOk T1 ∧ T1.nodes[i]? = some (some { nd with parent := -1 }) ∧ T1.nodes[p]? = some (some { pd with kids := pd.kids.erase (i : Int) }) ∧ T1.plain i = T.plain i ∧ d1 i = 0 ∧ i ≠ 0 ∧
      pd.tag ≠ 0 ∧ posOf pd.kids i = ((pd.kids.idxOf (i : Int) : Nat) : Int) ∧ pd.kids.idxOf (i : Int) ≤ (pd.kids.erase (i : Int)).length ∧ T1.within p i = false ∧ (d1 p : Int) + 1 + T1.height i ≤ T1.deep ∧
      T1.link p (pd.kids.idxOf (i : Int)) i { pd with kids := pd.kids.erase (i : Int) } { nd with parent := -1 } = T ∧ T.count = T1.count := by
  obtain ⟨h1, h2, h3, h4⟩ := hw.up_out hp hi hpar
  have hw1 := hw.unlink hp hi hpar
  have hg := fun j => Tr.set2_get (pd' := { pd with kids := pd.kids.erase (i : Int) }) (kd' := { nd with parent := -1 }) hp hi j
  have hi1 : (T.unlink p i pd nd).nodes[i]? = some (some { nd with parent := -1 }) := by
    show (T.set2 p i _ _).nodes[i]? = _
    rw [hg, if_pos rfl]
  have hp1 : (T.unlink p i pd nd).nodes[p]? = some (some { pd with kids := pd.kids.erase (i : Int) }) := by
    show (T.set2 p i _ _).nodes[p]? = _
    rw [hg, if_neg h4, if_pos rfl]
  have hpl := hw.plain_set2 (pd' := { pd with kids := pd.kids.erase (i : Int) }) (q := -1) hp hi h1
  obtain ⟨k1, k2, k3⟩ := posOf_mem h3
  have hhd := hw.high_deep 50 i nd hi
  have hd0 : i ≠ 0 := fun e => by
    subst e
    obtain ⟨rd, r1, r2, _⟩ := hw.root
    obtain rfl := some_inj2 r1 hi
    omega
  have hle : (pd.kids.erase (i : Int)).length + 1 = pd.kids.length := by
    have := List.length_erase_of_mem h3; have := List.length_pos_of_mem h3; omega
  refine ⟨T.unlink p i pd nd, _, rfl, hw1, hA.set2 (show NdOk pd from hA _ _ hp) (show NdOk nd from hA _ _ hi), hi1, hp1, hpl.1, ?_, hd0, fun e => ?_, k1, by omega, ?_, ?_, ?_, rfl⟩
  · show (if T.within i i then d i - d i else d i) = 0
    rw [hw.within_self hi]; simp
  · have := (hw.text p pd hp).2.2 e
    rw [this] at h3; cases h3
  · cases hin : (T.unlink p i pd nd).within p i with
    | false => rfl
    | true =>
      have e0 : (if T.within i i then d i - d i else d i) = 0 := by rw [hw.within_self hi]; simp
      rcases Nat.eq_zero_or_pos (d p) with hz | hz
      · have h5 := (hw1.within_depth p _ hp1 hin).2 (by
          show (if T.within i i then d i - d i else d i) = (if T.within p i then d p - d i else d p)
          rw [e0, h1]; simpa using hz.symm)
        exact absurd h5 h4
      · -- the parent's way up is as it was
        have key : ∀ (j : Nat) (jd : Nd), T.nodes[j]? = some (some jd) → T.within j i = false → (T.unlink p i pd nd).within j i = false := by
          refine hw.induct _ (fun j jd hj hjp hjd hji => ?_) (fun j jd q qd hj hjp hq hjd ih hji => ?_)
          · have hne : j ≠ i := fun e => by subst e; rw [hw.within_self hj] at hji; cases hji
            have hj1 : ∃ jd', (T.unlink p i pd nd).nodes[j]? = some (some jd') ∧ jd'.parent = -1 := by
              by_cases e : j = p
              · subst e; obtain rfl := some_inj2 hp hj; exact ⟨_, hp1, hjp⟩
              · refine ⟨jd, ?_, hjp⟩
                show (T.set2 p i _ _).nodes[j]? = _
                rw [hg, if_neg hne, if_neg e]; exact hj
            obtain ⟨jd', e1, e2⟩ := hj1
            rw [hw1.within_root e1 e2]
            exact decide_eq_false (by omega)
          · have hne : j ≠ i := fun e => by subst e; rw [hw.within_self hj] at hji; cases hji
            have hj1 : ∃ jd', (T.unlink p i pd nd).nodes[j]? = some (some jd') ∧ jd'.parent = (q : Int) := by
              by_cases e : j = p
              · subst e; obtain rfl := some_inj2 hp hj; exact ⟨_, hp1, hjp⟩
              · refine ⟨jd, ?_, hjp⟩
                show (T.set2 p i _ _).nodes[j]? = _
                rw [hg, if_neg hne, if_neg e]; exact hj
            obtain ⟨jd', e1, e2⟩ := hj1
            rw [hw1.within_step e1, if_neg (by omega), e2]
            refine ih ?_
            rw [hw.within_step hj, if_neg (by omega), hjp] at hji
            exact hji
        rw [key p pd hp h1] at hin; cases hin
  · show ((if T.within p i then d p - d i else d p : Nat) : Int) + 1 + (T.unlink p i pd nd).height i ≤ T.deep
    have e : (T.unlink p i pd nd).height i = T.height i := hpl.2
    rw [h1, e]
    have : (d i : Int) + T.height i ≤ T.deep := hhd
    simp
    omega
  · exact Tr.link_unlink hp hi h4 hpar (hw.kids p pd hp).1 h3
end Go.Proofs.YtdafdoodegpdhaaGreatDoor

namespace Go.Proofs.YtdafdoodegpdhaaGreatDoor
open Go Go.RowKit Go.BigFrame
set_option linter.unusedVariables false
set_option linter.unusedSimpArgs false

/-- an append whose run is known, in the order of the text -/
theorem wpList_append_run {P : Program} (w : World) {ops : Array Oper} {rest : List Oper} {o : Oper} {a : Act} {Q : Exit → Act → World → Prop}
    (hg : o.guard = none) (s x : Operand) (t : TypeId) (hop : o.op = Op.call { callee := Callee.builtin Builtin.append, args := #[s, x], argTypes := #[t, t] })
    (v u : Value) (hs : a.eval s = v) (hx : a.eval x = u) (v' : Value) (w' : World) (hr : (Builtin.append_ #[t, t] o.type #[v, u]).run P w = .ok v' w') (hK : wpList P ops Q rest (a.put o.dst v') w') :
    wpList P ops Q (o :: rest) a w := by
  refine wpList_plain hg fun K hK' => ?_
  unfold Oper.wp
  simp [execOp, hop, resolve, invoke, builtin, hs, hx, hr, Result.andThen]
  exact hK' _ _ hK
/-- 'append([]T{}, xs..)' -/
theorem append_empty {w : World} {b : Nat} {v : Value} {n : Nat} {xs : List Value} (h : RowRd w 2 v n xs) (hn : n ≤ 60000) (h1 : ∀ u ∈ xs, u.oneCell' = true) :
    ∃ v' w', (Builtin.append_ #[28, 28] 28 #[.slice (some ⟨b, 0, none⟩) 0 0, v]).run Tryz.prog w = .ok v' w' ∧ RowP w' (fun g => w.heap.size ≤ g) 72 2 v' n xs ∧ Ext w w' := by
  obtain ⟨hl, ao, cap, rfl, hcap, hnone, hc⟩ := h
  rcases Nat.eq_zero_or_pos n with rfl | hpos
  · obtain rfl : xs = [] := List.eq_nil_of_length_eq_zero (by simpa using hl)
    refine ⟨.slice (some ⟨b, 0, none⟩) 0 0, w, ?_, ⟨rfl, .inl ⟨rfl, _, rfl⟩⟩, Ext.refl _⟩
    cases ao with
    | none => obtain ⟨_, rfl⟩ := hnone rfl; go_simp
    | some a => go_simp
  · cases ao with
    | none => exact absurd (hnone rfl).1 (by omega)
    | some a =>
      obtain ⟨i0, hi, hz0, hz1, hz2⟩ := info_parts infoA
      obtain ⟨v', w', h2, h3, h4⟩ := run_append_arg_grows (P := Tryz.prog) w 28 28 72 i0 _ 2 _ Tryz.underlying28 hi hz0 hz1 hz2 (by kernel_rfl) (by decide) ⟨b, 0, none⟩ 0 0 [] (by simp) (by simp) a n cap xs hl (hc a rfl) (by omega) (by unfold maxLen; omega) (by omega)
      refine ⟨v', w', h2, (by have := RowP.of_owns h3; simpa using this : RowIn w' w.heap.size 72 2 v' n xs), (Ext.refl w).grown h4 (fun k hk => by cases hk)⟩
theorem Ext.setBoth {a b : World} (h : Ext a b) (p : Addr) (u : Value) : Ext (a.setCell p u) (b.setCell p u) := by
  refine ⟨h.os, h.tape, h.output, by simpa [World.setCell] using h.size, fun k hk => ?_⟩
  have hk' : k < a.heap.size := by simpa [World.setCell] using hk
  have e := Below.block h k hk'
  simp only [World.setCell, Array.getElem?_modify]
  rw [e]
theorem PN.len_sizes (l : List PN) : l.length ≤ PN.sizes l := by
  induction l with
  | nil => exact Nat.le_refl _
  | cons k r ih => simp only [PN.sizes, List.length_cons]; have := k.size_pos; omega
theorem PN.len_size (n : PN) : n.kids.length < n.size := by
  rw [PN.size_eq]; have := PN.len_sizes n.kids; omega
end Go.Proofs.YtdafdoodegpdhaaGreatDoor

namespace Go.Proofs.YtdafdoodegpdhaaGreatDoor
open Go Go.RowKit Go.BigFrame
set_option linter.unusedVariables false
set_option linter.unusedSimpArgs false

set_option maxRecDepth 20000 in
set_option maxHeartbeats 400000 in
theorem Anew_any (s : ByteArray) (hs : s.size ≤ 100000) (w : World) : Calls Tryz.prog 15 #[.string s] w (RVal (.string (anewB s)) w) := by
  have h1 := run_runes_of_string (P := Tryz.prog) w 9 46 21 s Tryz.underlying9 Tryz.underlying46 Tryz.underlying21 (by have := size_runesFrom s s.size 0 #[]; simp at this; omega)
  have e1 : Conv.runesFrom s s.size 0 #[] = ((runeList s s.size 0).map (Value.int .i32)).toArray := by rw [runesFrom_eq]; simp
  have hz : anewB s = runesBytes (runeList s s.size 0) := rfl
  have HZ := Lib.hid hz
  rw [e1] at h1
  clear hz e1 hs
  generalize runeList s s.size 0 = l at *
  generalize hk : grownCap w (List.map (Value.int IntKind.i32) l).toArray.size 0 21 = K at *
  have hge := grownCap_ge w (List.map (Value.int IntKind.i32) l).toArray.size 0 21
  rw [hk] at hge
  clear hk
  generalize hC : (List.map (Value.int IntKind.i32) l).toArray ++ Array.replicate (K - (List.map (Value.int IntKind.i32) l).toArray.size) (Value.int IntKind.i32 0) = C at *
  have h2 := run_convert_runes (P := Tryz.prog) (w.drew.alloc (.cells C 21)) 46 9 21 ⟨w.heap.size, 0, none⟩ l.length K l (Nat.le_refl _) Tryz.underlying46 Tryz.underlying21 Tryz.underlying9
    (by
      intro j hj
      have hb : (w.drew.alloc (.cells C 21)).heap[w.heap.size]? = some (.cells C 21 (0, 0)) := heap_alloc_new w.drew _
      rw [Addr.add_lit, Nat.zero_add]
      refine cellOf hb ?_
      rw [← hC, Array.getElem?_append_left (by simpa using hj)]
      simp [hj])
  rw [List.take_length] at h2
  simp only [List.size_toArray, List.length_map] at h1
  clear hC hge
  have HH1 := Lib.hid h1
  have HH2 := Lib.hid h2
  clear h1 h2
  go_enter Tryz.func15, Tryz.ntmps15
  go_wp2_with fail
  rw [HH1.out]
  go_wp2_with fail
  have h2' : Sem.run Tryz.prog (convert 46 9 (Value.slice (some { block := w.heap.size, off := 0 }) l.length K)) (w.alloc (Obj.cells C 21)).drew = Result.ok (Value.string (runesBytes l)) (w.alloc (Obj.cells C 21)).drew := HH2.out
  rw [h2']
  clear h2'
  go_wp2_with fail
  go_ret
  exact ⟨by rw [HZ.out]; rfl, ((Ext.refl _).alloc _).drew⟩

/-- all blocks but those of F are as they were; new ones may be -/
structure Chg (F : Nat → Prop) (w w' : World) : Prop where
  os : w'.os = w.os
  tape : w'.tape = w.tape
  output : w'.output = w.output
  size : w.heap.size ≤ w'.heap.size
  rest : ∀ b, b < w.heap.size → ¬ F b → w'.heap[b]? = w.heap[b]?
theorem Chg.refl (F : Nat → Prop) (w : World) : Chg F w w := ⟨rfl, rfl, rfl, Nat.le_refl _, fun _ _ _ => rfl⟩
theorem Chg.trans {F : Nat → Prop} {a b c : World} (h : Chg F a b) (k : Chg F b c) : Chg F a c :=
  ⟨k.os.trans h.os, k.tape.trans h.tape, k.output.trans h.output, Nat.le_trans h.size k.size, fun x hx hn => (k.rest x (Nat.lt_of_lt_of_le hx h.size) hn).trans (h.rest x hx hn)⟩
theorem Chg.block {F : Nat → Prop} {a b : World} (h : Chg F a b) {x : Nat} {o : Obj} (hx : a.heap[x]? = some o) (hn : ¬ F x) : b.heap[x]? = some o :=
  (h.rest x (Array.getElem?_eq_some_iff.1 hx).1 hn).trans hx
theorem Chg.cell {F : Nat → Prop} {a b : World} (h : Chg F a b) {q : Addr} {y : Value} (hq : a.cell? q = some y) (hn : ¬ F q.block) : b.cell? q = some y :=
  (World.cell?_of_block (h.rest q.block (World.block_lt_of_cell? a q hq) hn)).trans hq
end Go.Proofs.YtdafdoodegpdhaaGreatDoor

namespace Go.Proofs.YtdafdoodegpdhaaGreatDoor
open Go
set_option linter.unusedVariables false
set_option linter.unusedSimpArgs false

/-- what is written of a rune -/
def escR (v : Bool) (r : Int) : List UInt8 :=
  if r = 38 then [38, 97, 109, 112, 59] else if r = 60 then [38, 108, 116, 59] else if r = 62 then [38, 103, 116, 59]
  else if r = 160 then [38, 110, 98, 115, 112, 59] else if r = 34 ∧ v = true then [38, 113, 117, 111, 116, 59] else (Utf8.encode r).data.toList
def escRs (v : Bool) (l : List Int) : List UInt8 := l.flatMap (escR v)
def esc (v : Bool) (s : ByteArray) : List UInt8 := escRs v (runeList s s.size 0)
/-- the document's loop, over bytes -/
def refEsc (v : Bool) : List UInt8 → List UInt8
  | [] => []
  | c :: l =>
    if c = 38 then [38, 97, 109, 112, 59] ++ refEsc v l
    else if c = 60 then [38, 108, 116, 59] ++ refEsc v l
    else if c = 62 then [38, 103, 116, 59] ++ refEsc v l
    else if c = 34 ∧ v = true then [38, 113, 117, 111, 116, 59] ++ refEsc v l
    else if c = 194 ∧ l.head? = some 160 then [38, 110, 98, 115, 112, 59] ++ refEsc v l.tail
    else c :: refEsc v l
  termination_by l => l.length
  decreasing_by all_goals simp; try omega
theorem ofNat_nat {n : Nat} (h : n < 256) : (UInt8.ofNat n).toNat = n := by simp; omega
theorem ofNat_eq {n m : Nat} (h : n < 256) (k : m < 256) : UInt8.ofNat n = UInt8.ofNat m ↔ n = m := by
  constructor
  · intro e
    have := congrArg UInt8.toNat e
    rw [ofNat_nat h, ofNat_nat k] at this
    exact this
  · rintro rfl; rfl
theorem refEsc_high (v : Bool) {c : UInt8} {l : List UInt8} (h : 128 ≤ c.toNat) (h2 : c ≠ 194 ∨ l.head? ≠ some 160) : refEsc v (c :: l) = c :: refEsc v l := by
  have ne : ∀ k : UInt8, k.toNat < 128 → c ≠ k := fun k hk e => by rw [e] at h; omega
  rw [refEsc, if_neg (ne 38 (by decide)), if_neg (ne 60 (by decide)), if_neg (ne 62 (by decide)), if_neg (fun e => ne 34 (by decide) e.1), if_neg (fun e => h2.elim (fun k => k e.1) (fun k => k e.2))]
theorem valid_cases {r : Int} (h : Utf8.valid r = true) : ∃ n : Nat, r = n ∧ (n < 55296 ∨ 57344 ≤ n ∧ n ≤ 1114111) := by
  unfold Utf8.valid at h
  simp at h
  refine ⟨r.toNat, by omega, by omega⟩
theorem encode_nat {n : Nat} (h : n < 55296 ∨ 57344 ≤ n ∧ n ≤ 1114111) : (Utf8.encode (n : Int)).data.toList =
    if n < 128 then [UInt8.ofNat n] else if n < 2048 then [UInt8.ofNat (192 + n / 64), UInt8.ofNat (128 + n % 64)]
    else if n < 65536 then [UInt8.ofNat (224 + n / 4096), UInt8.ofNat (128 + n / 64 % 64), UInt8.ofNat (128 + n % 64)]
    else [UInt8.ofNat (240 + n / 262144), UInt8.ofNat (128 + n / 4096 % 64), UInt8.ofNat (128 + n / 64 % 64), UInt8.ofNat (128 + n % 64)] := by
  have hv : Utf8.valid (n : Int) = true := by unfold Utf8.valid; simp; omega
  unfold Utf8.encode
  simp only [hv, if_true, Int.toNat_natCast]
  split
  · rfl
  · split
    · rfl
    · split <;> rfl
theorem refEsc_encode (v : Bool) {r : Int} (h : Utf8.valid r = true) (l : List UInt8) : refEsc v ((Utf8.encode r).data.toList ++ l) = escR v r ++ refEsc v l := by
  obtain ⟨n, rfl, hn⟩ := valid_cases h
  have ez := encode_nat hn
  have e1 : ∀ k : Nat, ((n : Int) = (k : Int)) ↔ n = k := fun k => by omega
  by_cases h1 : n < 128
  · rw [if_pos h1] at ez
    have ec : ∀ (k : Nat) (c : UInt8), c = UInt8.ofNat k → k < 256 → (UInt8.ofNat n = c ↔ n = k) := fun k c e hk => e ▸ ofNat_eq (by omega) hk
    unfold escR
    rw [ez, List.singleton_append, refEsc]
    by_cases a1 : n = 38
    · subst a1; rfl
    by_cases a2 : n = 60
    · subst a2; rfl
    by_cases a3 : n = 62
    · subst a3; rfl
    have b1 : ¬ (n : Int) = 38 := by omega
    have b2 : ¬ (n : Int) = 60 := by omega
    have b3 : ¬ (n : Int) = 62 := by omega
    have b4 : ¬ (n : Int) = 160 := by omega
    rw [if_neg (fun e => a1 ((ec 38 38 rfl (by omega)).1 e)), if_neg (fun e => a2 ((ec 60 60 rfl (by omega)).1 e)), if_neg (fun e => a3 ((ec 62 62 rfl (by omega)).1 e))]
    by_cases a4 : n = 34 ∧ v = true
    · rw [if_pos (show UInt8.ofNat n = 34 ∧ v = true from ⟨(ec 34 34 rfl (by omega)).2 a4.1, a4.2⟩), if_neg b1, if_neg b2, if_neg b3, if_neg b4, if_pos ⟨by omega, a4.2⟩]
    · rw [if_neg (show ¬ (UInt8.ofNat n = 34 ∧ v = true) from fun e => a4 ⟨(ec 34 34 rfl (by omega)).1 e.1, e.2⟩), if_neg (show ¬ (UInt8.ofNat n = 194 ∧ l.head? = some 160) from fun e => by have := (ec 194 194 rfl (by omega)).1 e.1; omega), if_neg b1, if_neg b2, if_neg b3, if_neg b4, if_neg (fun e => a4 ⟨by omega, e.2⟩)]
      rfl
  · rw [if_neg h1] at ez
    have he : escR v (n : Int) = if n = 160 then [38, 110, 98, 115, 112, 59] else (Utf8.encode (n : Int)).data.toList := by
      unfold escR
      rw [if_neg (by omega), if_neg (by omega), if_neg (by omega)]
      by_cases a : n = 160
      · rw [if_pos (by omega), if_pos a]
      · rw [if_neg (by omega), if_neg a, if_neg (fun e => by omega)]
    rw [he]
    have hi : ∀ k : Nat, k < 64 → 128 ≤ (UInt8.ofNat (128 + k)).toNat ∧ UInt8.ofNat (128 + k) ≠ 194 := fun k hk => ⟨by rw [ofNat_nat (by omega)]; omega, fun e => by have := (ofNat_eq (n := 128 + k) (m := 194) (by omega) (by omega)).1 e; omega⟩
    have lo : ∀ k : Nat, k < 64 → ∀ l, refEsc v (UInt8.ofNat (128 + k) :: l) = UInt8.ofNat (128 + k) :: refEsc v l := fun k hk l => refEsc_high v (hi k hk).1 (.inl (hi k hk).2)
    by_cases h2 : n < 2048
    · rw [if_pos h2] at ez
      by_cases a : n = 160
      · subst a
        rw [if_pos rfl, ez]
        show refEsc v (194 :: 160 :: l) = _
        rw [refEsc, if_neg (by decide), if_neg (by decide), if_neg (by decide), if_neg (fun e => absurd e.1 (by decide)), if_pos ⟨rfl, rfl⟩]
        rfl
      · rw [if_neg a, ez]
        show refEsc v (UInt8.ofNat (192 + n / 64) :: UInt8.ofNat (128 + n % 64) :: l) = _
        rw [refEsc_high v (by rw [ofNat_nat (by omega)]; omega) ?_, lo _ (Nat.mod_lt _ (by omega))]
        · rfl
        · by_cases b : n / 64 = 2
          · refine .inr fun e => ?_
            have e3 : UInt8.ofNat (128 + n % 64) = UInt8.ofNat 160 := by injection e
            have := (ofNat_eq (by omega) (by omega)).1 e3
            omega
          · refine .inl fun e => ?_
            have := (ofNat_eq (n := 192 + n / 64) (m := 194) (by omega) (by omega)).1 e
            omega
    · rw [if_neg h2] at ez
      rw [if_neg (by omega)]
      by_cases h3 : n < 65536
      · rw [if_pos h3] at ez
        rw [ez]
        show refEsc v (UInt8.ofNat (224 + n / 4096) :: UInt8.ofNat (128 + n / 64 % 64) :: UInt8.ofNat (128 + n % 64) :: l) = _
        rw [refEsc_high v (by rw [ofNat_nat (by omega)]; omega) (.inl fun e => by have := (ofNat_eq (n := 224 + n / 4096) (m := 194) (by omega) (by omega)).1 e; omega), lo _ (Nat.mod_lt _ (by omega)), lo _ (Nat.mod_lt _ (by omega))]
        rfl
      · rw [if_neg h3] at ez
        rw [ez]
        show refEsc v (UInt8.ofNat (240 + n / 262144) :: UInt8.ofNat (128 + n / 4096 % 64) :: UInt8.ofNat (128 + n / 64 % 64) :: UInt8.ofNat (128 + n % 64) :: l) = _
        rw [refEsc_high v (by rw [ofNat_nat (by omega)]; omega) (.inl fun e => by have := (ofNat_eq (n := 240 + n / 262144) (m := 194) (by omega) (by omega)).1 e; omega), lo _ (Nat.mod_lt _ (by omega)), lo _ (Nat.mod_lt _ (by omega)), lo _ (Nat.mod_lt _ (by omega))]
        rfl
theorem decode_valid (s : ByteArray) (i : Nat) : Utf8.valid (Int.ofNat (Utf8.decode s i).1) = true := by
  have hb : ∀ k, (s.get! (i + k)).toNat < 256 := fun k => (s.get! (i + k)).toNat_lt
  have h0 := hb 0; have h1 := hb 1; have h2 := hb 2; have h3 := hb 3
  have ok : ∀ c : Nat, c < 55296 → Utf8.valid (Int.ofNat c) = true := fun c hc => by unfold Utf8.valid; simp; omega
  have er : Utf8.valid (Int.ofNat Utf8.runeError) = true := by decide
  simp only [Utf8.decode]
  split
  · exact ok _ (by omega)
  · split
    · split
      · exact ok _ (by omega)
      · exact er
    · split
      · split
        · rename_i h; simp at h; exact h.2
        · exact er
      · split
        · split
          · rename_i h; simp at h; exact h.2
          · exact er
        · exact er
theorem runeList_valid (s : ByteArray) : ∀ (b i : Nat), ∀ r ∈ runeList s b i, Utf8.valid r = true := by
  intro b
  induction b with
  | zero => intro i r h; cases h
  | succ b ih =>
    intro i r h
    unfold runeList at h
    split at h
    · rcases List.mem_cons.1 h with rfl | h
      · exact decode_valid s i
      · exact ih _ r h
    · cases h
theorem runesBytes_list (l : List Int) : (runesBytes l).data.toList = l.flatMap fun r => (Utf8.encode r).data.toList := by
  have h : ∀ (l : List Int) (acc : ByteArray), (l.foldl (fun r n => r ++ Utf8.encode n) acc).data.toList = acc.data.toList ++ l.flatMap fun r => (Utf8.encode r).data.toList := by
    intro l
    induction l with
    | nil => intro acc; simp
    | cons x r ih => intro acc; rw [List.foldl_cons, ih]; simp
  have := h l ByteArray.empty
  simpa [runesBytes] using this
theorem refEsc_runes (v : Bool) : ∀ l : List Int, (∀ r ∈ l, Utf8.valid r = true) → refEsc v (l.flatMap fun r => (Utf8.encode r).data.toList) = escRs v l := by
  intro l
  induction l with
  | nil => intro _; simp [escRs, refEsc]
  | cons x r ih =>
    intro h
    rw [List.flatMap_cons, refEsc_encode v (h x (by simp)), ih fun y hy => h y (by simp [hy])]
    simp [escRs]
/-- both write the same -/
theorem refEsc_anew (v : Bool) (s : ByteArray) : refEsc v (anewB s).data.toList = esc v s := by
  unfold anewB esc
  rw [runesBytes_list, refEsc_runes v _ (runeList_valid s _ _)]
/-- a byte 194 is not the last -/
def C2ok (l : List UInt8) : Prop := ∀ j : Nat, l[j]? = some 194 → j + 1 < l.length
theorem C2ok.encode {r : Int} (h : Utf8.valid r = true) {l : List UInt8} (hl : C2ok l) : C2ok ((Utf8.encode r).data.toList ++ l) := by
  obtain ⟨n, rfl, hn⟩ := valid_cases h
  have ez := encode_nat hn
  have ne : ∀ m : Nat, m < 256 → m ≠ 194 → UInt8.ofNat m ≠ 194 := fun m hm h e => h ((ofNat_eq (m := 194) hm (by omega)).1 e)
  have go : ∀ (p : List UInt8) (c : UInt8), c ≠ 194 → C2ok (p ++ [c] ++ l) := by
    intro p c hc j hj
    by_cases h1 : j < p.length
    · simp; omega
    · by_cases h2 : j = p.length
      · subst h2; simp at hj; exact absurd hj hc
      · rw [List.getElem?_append_right (by simp; omega)] at hj
        have := hl _ hj
        simp at this ⊢; omega
  rw [ez]
  split
  · exact go [] _ (ne _ (by omega) (by omega))
  · split
    · exact go [_] _ (ne _ (by omega) (by omega))
    · split
      · exact go [_, _] _ (ne _ (by omega) (by omega))
      · exact go [_, _, _] _ (ne _ (by omega) (by omega))
theorem C2ok.runes : ∀ l : List Int, (∀ r ∈ l, Utf8.valid r = true) → C2ok (l.flatMap fun r => (Utf8.encode r).data.toList) := by
  intro l
  induction l with
  | nil => intro _ j hj; simp at hj
  | cons x r ih => intro h; rw [List.flatMap_cons]; exact .encode (h x (by simp)) (ih fun y hy => h y (by simp [hy]))
theorem C2ok.anew (s : ByteArray) : C2ok (anewB s).data.toList := by
  unfold anewB
  rw [runesBytes_list]
  exact .runes _ (runeList_valid s _ _)
theorem encode_len (r : Int) : 1 ≤ (Utf8.encode r).data.toList.length ∧ (Utf8.encode r).data.toList.length ≤ 4 := by
  unfold Utf8.encode
  dsimp only
  generalize (if Utf8.valid r = true then r.toNat else Utf8.runeError) = c
  split
  · exact ⟨by simp, by simp⟩
  · split
    · exact ⟨by simp, by simp⟩
    · split
      · exact ⟨by simp, by simp⟩
      · exact ⟨by simp, by simp⟩
theorem escR_len (v : Bool) (r : Int) : 1 ≤ (escR v r).length ∧ (escR v r).length ≤ 6 := by
  have := encode_len r
  unfold escR
  repeat' split
  all_goals first | (simp; done) | omega
theorem escRs_len (v : Bool) (l : List Int) : (escRs v l).length ≤ 6 * l.length := by
  induction l with
  | nil => simp [escRs]
  | cons x r ih =>
    have := escR_len v x
    simp only [escRs, List.flatMap_cons, List.length_append, List.length_cons] at ih ⊢
    omega
theorem esc_len (v : Bool) (s : ByteArray) : (esc v s).length ≤ 6 * s.size := by
  have h1 := escRs_len v (runeList s s.size 0)
  have h2 := runeList_len s s.size 0
  unfold esc; omega
end Go.Proofs.YtdafdoodegpdhaaGreatDoor

namespace Go.Proofs.YtdafdoodegpdhaaGreatDoor
open Go
set_option linter.unusedVariables false
set_option linter.unusedSimpArgs false

def clsT (t : Int) : Int := if t < 0 ∨ 16 < t then 0 else if t = 0 then 1 else if t = 1 ∨ t = 6 ∨ t = 7 ∨ t = 8 then 2 else if 2 ≤ t ∧ t ≤ 5 ∨ t = 9 then 3 else if t = 16 then 5 else 4
def nameT (t : Int) : ByteArray :=
  if t = 1 then ⟨#[100, 105, 118]⟩ else if t = 2 then ⟨#[112]⟩ else if t = 3 then ⟨#[104, 49]⟩ else if t = 4 then ⟨#[104, 50]⟩ else if t = 5 then ⟨#[104, 51]⟩
  else if t = 6 then ⟨#[98, 108, 111, 99, 107, 113, 117, 111, 116, 101]⟩ else if t = 7 then ⟨#[117, 108]⟩ else if t = 8 then ⟨#[111, 108]⟩ else if t = 9 then ⟨#[108, 105]⟩
  else if t = 10 then ⟨#[97]⟩ else if t = 11 then ⟨#[98]⟩ else if t = 12 then ⟨#[105]⟩ else if t = 13 then ⟨#[117]⟩ else if t = 14 then ⟨#[115]⟩
  else if t = 15 then ⟨#[115, 112, 97, 110]⟩ else if t = 16 then ⟨#[98, 114]⟩ else ⟨#[]⟩
def attrM (a : ByteArray × ByteArray) : List UInt8 := 32 :: a.1.data.toList ++ [61, 34] ++ esc true a.2 ++ [34]
mutual
/-- a node's markup -/
def PN.outer : PN → List UInt8
  | .mk t a s ks => if t = 0 then esc false s else if clsT t = 0 then PN.outers ks
      else 60 :: (nameT t).data.toList ++ a.flatMap attrM ++ [62] ++ if clsT t = 5 then [] else PN.outers ks ++ ([60, 47] ++ (nameT t).data.toList ++ [62])
def PN.outers : List PN → List UInt8
  | [] => []
  | k :: r => PN.outer k ++ PN.outers r
end
def PN.inner (n : PN) : List UInt8 := if n.tag = 0 then [] else PN.outers n.kids
theorem PN.outer_eq (n : PN) : n.outer = if n.tag = 0 then esc false n.text else if clsT n.tag = 0 then PN.outers n.kids
      else 60 :: (nameT n.tag).data.toList ++ n.attrs.flatMap attrM ++ [62] ++ if clsT n.tag = 5 then [] else PN.outers n.kids ++ ([60, 47] ++ (nameT n.tag).data.toList ++ [62]) := by cases n; rfl
theorem PN.outers_append (l r : List PN) : PN.outers (l ++ r) = PN.outers l ++ PN.outers r := by
  induction l with
  | nil => rfl
  | cons x l ih => simp only [List.cons_append, PN.outers, ih, List.append_assoc]
def nameOk (s : ByteArray) : Bool :=
  decide (1 ≤ s.size ∧ s.size ≤ 16) && s.data.toList.head?.any (fun c => decide (97 ≤ c.toNat ∧ c.toNat ≤ 122)) && s.data.toList.all fun c => decide (97 ≤ c.toNat ∧ c.toNat ≤ 122 ∨ 48 ≤ c.toNat ∧ c.toNat ≤ 57 ∨ c.toNat = 45)
def mayR (r : Int) : Bool := decide (32 ≤ r ∧ r ≠ 127)
def valueOk (s : ByteArray) : Bool := decide (s.size ≤ 200) && decide (anewB s = s) && (runeList s s.size 0).all mayR
/-- where the first attribute of a name is -/
def attrAt (l : List (ByteArray × ByteArray)) (n : ByteArray) : Int := match l.findIdx? (fun a => decide (a.1 = n)) with | some i => i | none => -1
def attrsMay (l : List (ByteArray × ByteArray)) : Bool := l.zipIdx.all fun (a, i) => nameOk a.1 && valueOk a.2 && decide (attrAt l a.1 = i)
def blankB (c : UInt8) : Bool := decide (c = 9 ∨ c = 10 ∨ c = 12 ∨ c = 13 ∨ c = 32)
def textOk (box : Bool) (n : PN) : Bool := n.attrs.isEmpty && n.kids.isEmpty && decide (n.text.size ≠ 0) && decide (anewB n.text = n.text) && !(box && n.text.data.toList.all blankB)
mutual
/-- may a node be where it stands? (depth; in a box; a p or heading, an li around) -/
def PN.norm (d : Int) (box line li : Bool) : PN → Bool
  | .mk t a s ks => decide (d ≤ 40) && (if clsT t = 0 then false else if clsT t = 1 then textOk box (.mk t a s ks)
      else if clsT t = 5 then s.size == 0 && attrsMay a && ks.isEmpty
      else if clsT t = 4 then s.size == 0 && attrsMay a && PN.norms (d + 1) false line li false ks
      else !(line || t == 9 && li) && (s.size == 0 && attrsMay a && PN.norms (d + 1) (clsT t == 2) (clsT t == 3 && t != 9) (t == 9 || li && t != 7 && t != 8) false ks))
def PN.norms (d : Int) (box line li : Bool) (prev : Bool) : List PN → Bool
  | [] => true
  | k :: r => !(prev && k.tag == 0) && PN.norm d box line li k && PN.norms d box line li (k.tag == 0) r
end
theorem PN.norm_eq (d : Int) (box line li : Bool) (n : PN) : n.norm d box line li = (decide (d ≤ 40) && (if clsT n.tag = 0 then false else if clsT n.tag = 1 then textOk box n
      else if clsT n.tag = 5 then n.text.size == 0 && attrsMay n.attrs && n.kids.isEmpty
      else if clsT n.tag = 4 then n.text.size == 0 && attrsMay n.attrs && PN.norms (d + 1) false line li false n.kids
      else !(line || n.tag == 9 && li) && (n.text.size == 0 && attrsMay n.attrs && PN.norms (d + 1) (clsT n.tag == 2) (clsT n.tag == 3 && n.tag != 9) (n.tag == 9 || li && n.tag != 7 && n.tag != 8) false n.kids))) := by cases n; rfl
/-- a p or heading around, a box or an li not between: the innermost first, without the host -/
def lineIn : List Int → Bool
  | [] => false
  | t :: r => if 2 ≤ t ∧ t ≤ 5 then true else if clsT t = 2 ∨ t = 9 then false else lineIn r
def liIn : List Int → Bool
  | [] => false
  | t :: r => if t = 7 ∨ t = 8 then false else if t = 9 then true else liIn r
theorem lineIn_inline {t : Int} (h : clsT t = 4 ∨ clsT t = 5) (r : List Int) : lineIn (t :: r) = lineIn r ∧ liIn (t :: r) = liIn r := by
  have : 10 ≤ t := by
    unfold clsT at h
    repeat' split at h
    all_goals omega
  have h2 : clsT t ≠ 2 := by omega
  exact ⟨by rw [lineIn, if_neg (by omega), if_neg (by omega)], by rw [liIn, if_neg (by omega), if_neg (by omega)]⟩
theorem lineIn_big {t : Int} (h : clsT t = 2 ∨ clsT t = 3) (r : List Int) : lineIn (t :: r) = (clsT t == 3 && t != 9) ∧ liIn (t :: r) = (t == 9 || liIn r && t != 7 && t != 8) := by
  have ht : 1 ≤ t ∧ t ≤ 9 := by
    unfold clsT at h
    repeat' split at h
    all_goals omega
  obtain ⟨a, b⟩ := ht
  have hc : t = 1 ∨ t = 2 ∨ t = 3 ∨ t = 4 ∨ t = 5 ∨ t = 6 ∨ t = 7 ∨ t = 8 ∨ t = 9 := by omega
  rcases hc with rfl | rfl | rfl | rfl | rfl | rfl | rfl | rfl | rfl <;> simp [lineIn, liIn, clsT]
def PN.whole (n : PN) : Bool := decide (n.tag = 1) && n.attrs.isEmpty && n.text.size == 0 && PN.norms 1 true false false false n.kids && decide (n.size ≤ 2000) && decide (n.inner.length ≤ 8192)
end Go.Proofs.YtdafdoodegpdhaaGreatDoor

namespace Go.Proofs.YtdafdoodegpdhaaGreatDoor
open Go
set_option linter.unusedVariables false
set_option linter.unusedSimpArgs false

theorem encode_rune {r : Int} (h : Utf8.valid r = true) : (Utf8.encode r).data.toList = Lib.encodeRune r := by
  obtain ⟨n, rfl, hn⟩ := valid_cases h
  rw [encode_nat hn]
  unfold Lib.encodeRune
  have e : ∀ m : Nat, ((m : Int)).toNat.toUInt8 = UInt8.ofNat m := fun m => rfl
  by_cases h1 : n < 128
  · rw [if_pos h1, Lib.encodeRuneZ_one (by omega) (by omega)]; rfl
  · rw [if_neg h1]
    by_cases h2 : n < 2048
    · rw [if_pos h2, Lib.encodeRuneZ_two (by omega) (by omega)]
      rw [show (192 + (n : Int) / 64) = ((192 + n / 64 : Nat) : Int) by omega, show (128 + (n : Int) % 64) = ((128 + n % 64 : Nat) : Int) by omega]
      rfl
    · rw [if_neg h2]
      by_cases h3 : n < 65536
      · rw [if_pos h3, Lib.encodeRuneZ_three (by omega)]
        rw [show (224 + (n : Int) / 4096) = ((224 + n / 4096 : Nat) : Int) by omega, show (128 + (n : Int) / 64 % 64) = ((128 + n / 64 % 64 : Nat) : Int) by omega, show (128 + (n : Int) % 64) = ((128 + n % 64 : Nat) : Int) by omega]
        rfl
      · rw [if_neg h3, Lib.encodeRuneZ_four (by omega) (by omega)]
        rw [show (240 + (n : Int) / 262144) = ((240 + n / 262144 : Nat) : Int) by omega, show (128 + (n : Int) / 4096 % 64) = ((128 + n / 4096 % 64 : Nat) : Int) by omega, show (128 + (n : Int) / 64 % 64) = ((128 + n / 64 % 64 : Nat) : Int) by omega, show (128 + (n : Int) % 64) = ((128 + n % 64 : Nat) : Int) by omega]
        rfl
theorem width_pos (s : ByteArray) (pos : Nat) (h : pos < s.size) : 1 ≤ (Utf8.decode s pos).2 := by
  rw [← Lib.decodeL_drop]; exact Lib.decodeL_width _
/-- the characters from a place on, as bytes -/
def restB (s : ByteArray) (f pos : Nat) : List UInt8 := (runeList s f pos).flatMap fun r => (Utf8.encode r).data.toList
theorem drop_len (s : ByteArray) (pos : Nat) : (s.data.toList.drop pos).length = s.size - pos := by rw [List.length_drop]; rfl
theorem drop_ne (s : ByteArray) {pos : Nat} (h : pos < s.size) : s.data.toList.drop pos ≠ [] := fun e => by have := drop_len s pos; rw [e] at this; simp at this; omega
/-- valid bytes are those that are written anew as they are -/
theorem rest_valid (s : ByteArray) : ∀ (f pos : Nat), s.size ≤ pos + f → (Lib.validD (s.data.toList.drop pos) = true ↔ restB s f pos = s.data.toList.drop pos) := by
  intro f
  induction f with
  | zero =>
    intro pos h
    have e : s.data.toList.drop pos = [] := List.eq_nil_of_length_eq_zero (by rw [drop_len]; omega)
    rw [e]
    exact ⟨fun _ => rfl, fun _ => rfl⟩
  | succ f ih =>
    intro pos h
    by_cases hp : pos < s.size
    · have hne := drop_ne s hp
      have hw := Lib.decodeL_width (s.data.toList.drop pos)
      have hle := Lib.decodeL_le _ hne
      have hD := Lib.decodeL_drop s pos
      rw [Lib.validD_step _ hne]
      have er : restB s (f + 1) pos = (Utf8.encode (Int.ofNat (Utf8.decode s pos).1)).data.toList ++ restB s f (pos + (Utf8.decode s pos).2) := by
        unfold restB; rw [runeList, if_pos hp]; rfl
      have hva := decode_valid s pos
      by_cases hb : (Lib.decodeL (s.data.toList.drop pos)).1 = 65533 ∧ (Lib.decodeL (s.data.toList.drop pos)).2 = 1
      · rw [if_pos hb]
        refine ⟨fun e => (by cases e), fun e => ?_⟩
        exfalso
        rw [er, ← hD, hb.1] at e
        have e3 : (Utf8.encode (Int.ofNat 65533)).data.toList = [239, 191, 189] := by decide
        rw [e3] at e
        have h2 := hb.2
        rw [← e, Lib.decodeL_N] at h2
        simp [Lib.decodeN] at h2
      · rw [if_neg hb, List.drop_drop]
        rw [hD] at hb hle ⊢
        have i1 := ih (pos + (Utf8.decode s pos).2) (by rw [hD] at hw; omega)
        rw [i1, er, encode_rune hva]
        have h4 := Lib.encode_decode _ hne (by rw [hD]; exact hb)
        rw [hD] at h4
        have h5 : Lib.encodeRune (Int.ofNat (Utf8.decode s pos).1) = (s.data.toList.drop pos).take (Utf8.decode s pos).2 := h4
        rw [h5]
        have h6 : s.data.toList.drop pos = (s.data.toList.drop pos).take (Utf8.decode s pos).2 ++ s.data.toList.drop (pos + (Utf8.decode s pos).2) := by
          rw [← List.drop_drop, List.take_append_drop]
        constructor
        · intro e; rw [e]; exact h6.symm
        · intro e
          have h7 := e.trans h6
          exact List.append_cancel_left h7
    · have e : s.data.toList.drop pos = [] := List.eq_nil_of_length_eq_zero (by rw [drop_len]; omega)
      rw [e]
      have : restB s (f + 1) pos = [] := by unfold restB; rw [runeList, if_neg hp]; rfl
      rw [this]
      exact ⟨fun _ => rfl, fun _ => rfl⟩
theorem bytes_ext {s t : ByteArray} (h : s.data.toList = t.data.toList) : s = t := by
  cases s; cases t; simp only at h; congr 1; exact Array.ext' h
theorem valid_anew (s : ByteArray) : Lib.validD s.data.toList = decide (anewB s = s) := by
  have h := rest_valid s s.size 0 (by omega)
  rw [List.drop_zero] at h
  have e : (anewB s).data.toList = restB s s.size 0 := by unfold anewB restB; exact runesBytes_list _
  rw [Bool.eq_iff_iff, h, ← e, decide_eq_true_eq]
  exact ⟨bytes_ext, fun e => by rw [e]⟩
/-- nothing is left of a text that is blank -/
theorem dropWhile_nil {p : UInt8 → Bool} : ∀ {l : List UInt8}, l.dropWhile p = [] ↔ ∀ c ∈ l, p c = true := by
  intro l
  induction l with
  | nil => simp
  | cons a l ih =>
    rw [List.dropWhile_cons]
    by_cases h : p a = true
    · rw [if_pos h, ih]; simp [h]
    · rw [if_neg h]; simp [h]
theorem takeWhile_mem {p : UInt8 → Bool} : ∀ {l : List UInt8} {c : UInt8}, c ∈ l.takeWhile p → p c = true := by
  intro l
  induction l with
  | nil => intro c h; simp at h
  | cons a l ih =>
    intro c h
    rw [List.takeWhile_cons] at h
    by_cases ha : p a = true
    · rw [if_pos ha] at h
      rcases List.mem_cons.1 h with rfl | h
      · exact ha
      · exact ih h
    · rw [if_neg ha] at h; simp at h
theorem trimLeft_nil {l cs : List UInt8} : Lib.trimLeftS l cs = [] ↔ ∀ c ∈ l, cs.contains c = true := by
  unfold Lib.trimLeftS
  exact dropWhile_nil
theorem trimRight_mem {l cs : List UInt8} (h : ∀ c ∈ Lib.trimRightS l cs, cs.contains c = true) : ∀ c ∈ l, cs.contains c = true := by
  unfold Lib.trimRightS at h
  intro c hc
  have e : l.reverse = l.reverse.takeWhile (cs.contains ·) ++ l.reverse.dropWhile (cs.contains ·) := (List.takeWhile_append_dropWhile).symm
  have hc' : c ∈ l.reverse := by simpa using hc
  rw [e] at hc'
  rcases List.mem_append.1 hc' with h1 | h1
  · exact takeWhile_mem h1
  · exact h c (by simpa using h1)
theorem trim_blank (l : List UInt8) : (Lib.trimS l [32, 9, 10, 12, 13] = []) ↔ l.all blankB = true := by
  have hb : ∀ c : UInt8, ([32, 9, 10, 12, 13] : List UInt8).contains c = true ↔ blankB c = true := by
    intro c
    simp only [List.contains_cons, List.contains_nil, Bool.or_false, Bool.or_eq_true, beq_iff_eq, blankB, decide_eq_true_eq]
    constructor <;> rintro (h | h | h | h | h) <;> simp [h]
  unfold Lib.trimS
  rw [trimLeft_nil, List.all_eq_true]
  constructor
  · intro h c hc; exact (hb c).1 (trimRight_mem h c hc)
  · intro h c hc
    refine (hb c).2 (h c ?_)
    unfold Lib.trimRightS at hc
    have := List.mem_reverse.1 hc
    exact List.mem_reverse.1 ((List.dropWhile_suffix _).subset this)
/-- may a character of a name be: the first one, a further one -/
def nameR (first : Bool) (r : Int) : Bool := decide (97 ≤ r ∧ r ≤ 122) || !first && (decide (48 ≤ r ∧ r ≤ 57) || decide (r = 45))
def nameB (c : UInt8) : Bool := decide (97 ≤ c.toNat ∧ c.toNat ≤ 122 ∨ 48 ≤ c.toNat ∧ c.toNat ≤ 57 ∨ c.toNat = 45)
theorem nameR_small {first : Bool} {r : Int} (h : nameR first r = true) : 0 ≤ r ∧ r < 128 := by
  unfold nameR at h
  simp only [Bool.or_eq_true, Bool.and_eq_true, decide_eq_true_eq] at h
  omega
theorem decode_small (s : ByteArray) {pos : Nat} (hp : pos < s.size) (h : (Utf8.decode s pos).1 < 128) : Utf8.decode s pos = ((s[pos]'hp).toNat, 1) ∧ (s[pos]'hp).toNat < 128 := by
  by_cases ha : (s[pos]'hp).toNat < 128
  · exact ⟨decode_ascii s pos hp ha, ha⟩
  · have := (decode_high s pos hp (by omega)).1; omega
end Go.Proofs.YtdafdoodegpdhaaGreatDoor

namespace Go.Proofs.YtdafdoodegpdhaaGreatDoor
open Go Go.RowKit Go.BigFrame
set_option linter.unusedVariables false
set_option linter.unusedSimpArgs false

/-- are they the same? -/
noncomputable def same {α : Type} (x y : α) : Bool := @decide (x = y) (Classical.propDecidable _)
theorem same_iff {α : Type} {x y : α} : same x y = true ↔ x = y := by exact @decide_eq_true_iff _ (Classical.propDecidable _)
theorem same_no {α : Type} {x y : α} : same x y = false ↔ ¬ x = y := by exact @decide_eq_false_iff_not _ (Classical.propDecidable _)
theorem str_same (a b : ByteArray) : (a.toList == b.toList) = true ↔ a = b := by
  rw [beq_iff_eq, ByteArray.toList_eq, ByteArray.toList_eq]
  exact ⟨bytes_ext, fun e => by rw [e]⟩
theorem bcases (b : Bool) : b = true ∨ b = false := by cases b; exact .inr rfl; exact .inl rfl
set_option maxRecDepth 100000 in
set_option maxHeartbeats 2000000 in
theorem SameAttrs_any {w : World} {l m : List (ByteArray × ByteArray)} {v v' : Value} (hlen : l.length ≤ 60000) (hlen' : m.length ≤ 60000) (h : RowRd w 2 v l.length (attrCells l)) (h' : RowRd w 2 v' m.length (attrCells m)) :
    Calls Tryz.prog 19 #[v, v'] w (RBool (same l m) w) := by
  obtain ⟨_, ao, cap, rfl, hc, hno, hcl⟩ := h
  obtain ⟨_, ao', cap', rfl, hc', hno', hcl'⟩ := h'
  have HNO := Lib.hid hno
  have HNO' := Lib.hid hno'
  have HCL := Lib.hid hcl
  have HCL' := Lib.hid hcl'
  have x0 := Ext.refl w
  obtain ⟨r, hr⟩ : ∃ r, same l m = r := ⟨_, rfl⟩
  rw [hr]
  have HR := Lib.hid hr
  clear hno hno' hcl hcl' hr
  by_cases hll : l.length = m.length
  case neg =>
    have e1 : ((l.length : Int) == (m.length : Int)) = false := by simp; omega
    have hr0 : r = false := by rw [← HR.out, same_no]; rintro rfl; exact hll rfl
    subst hr0
    clear hll
    go_enter Tryz.func19, Tryz.ntmps19
    go_wp2_with fail
    go_ret
    exact ⟨rfl, x0⟩
  have HLL := Lib.hid hll
  rw [← hll]
  clear hll x0
  go_enter Tryz.func19, Tryz.ntmps19
  go_wp2_with fail
  go_loopw [5] (fun i wr => ∃ k : Nat, k ≤ l.length ∧ i = .int .i64 k ∧ Ext w wr ∧ ∀ j : Nat, j < k → l[j]? = m[j]?) (fun i _ => l.length - (intOf i).toNat)
  case atStart => exact ⟨0, Nat.zero_le _, rfl, Ext.refl _, fun j hj => absurd hj (Nat.not_lt_zero _)⟩
  case round =>
    obtain ⟨k, hk, rfl, xr, hpre⟩ := hrel
    have HP := Lib.hid hpre
    clear hpre
    by_cases hkk : k < l.length
    · obtain ⟨p, hp⟩ : ∃ p, l[k]? = some p := ⟨l[k], by simp [hkk]⟩
      obtain ⟨q, hq⟩ : ∃ q, m[k]? = some q := ⟨m[k]'(by have := HLL.out; omega), List.getElem?_eq_getElem _⟩
      obtain ⟨e1, e2⟩ := attrCells_at l k p hp
      obtain ⟨f1, f2⟩ := attrCells_at m k q hq
      cases ao with
      | none => exact absurd (HNO.out rfl).1 (by omega)
      | some a =>
        cases ao' with
        | none => exact absurd (HNO'.out rfl).1 (by have := HLL.out; omega)
        | some a' =>
          obtain ⟨b, off, sp⟩ := a
          obtain ⟨b', off', sp'⟩ := a'
          have q0 := HCL.out _ rfl _ _ e1
          have q1 := HCL.out _ rfl _ _ e2
          have q0' := HCL'.out _ rfl _ _ f1
          have q1' := HCL'.out _ rfl _ _ f2
          rw [add_later _ _ _ (by decide)] at q1 q1'
          have XR := Lib.hid xr
          have d0 := fun u : ExtOf wr => u.ext.cells _ _ (xr.cells _ _ q0)
          have d1 := fun u : ExtOf wr => u.ext.cells _ _ (xr.cells _ _ q1)
          have d0' := fun u : ExtOf wr => u.ext.cells _ _ (xr.cells _ _ q0')
          have d1' := fun u : ExtOf wr => u.ext.cells _ _ (xr.cells _ _ q1')
          have PQ := Lib.hid (And.intro hp hq)
          clear q0 q1 q0' q1' e1 e2 f1 f2 xr hp hq
          have good : (p.1.toList == q.1.toList) = true → (p.2.toList == q.2.toList) = true → ∀ j : Nat, j < k + 1 → l[j]? = m[j]? := by
            intro h1 h2 j hj
            rcases Nat.lt_or_ge j k with h3 | h3
            · exact HP.out j h3
            · obtain rfl : j = k := by omega
              rw [PQ.out.1, PQ.out.2, Prod.ext ((str_same _ _).1 h1) ((str_same _ _).1 h2)]
          have bad : (p.1.toList == q.1.toList) = false ∨ (p.2.toList == q.2.toList) = false → r = false := by
            intro h
            rw [← HR.out, same_no]
            rintro rfl
            have e := PQ.out.1.symm.trans PQ.out.2
            cases e
            rcases h with h | h
            · rw [(str_same _ _).2 rfl] at h; cases h
            · rw [(str_same _ _).2 rfl] at h; cases h
          have GOOD := Lib.hid good
          have BAD := Lib.hid bad
          clear good bad
          rcases bcases (p.1.toList == q.1.toList) with t1 | t1
          · rcases bcases (p.2.toList == q.2.toList) with t2 | t2
            · have GD := Lib.hid (GOOD.out t1 t2)
              go_upto_region 6 with fail
              refine wp_region_ext (by kernel_rfl) (by kernel_rfl) ?_
              repeat (go_big_quiet_step (fail))
              refine wpQuiet_nil ?_
              rintro _ ⟨u, rfl⟩
              clear d0 d1 d0' d1'
              go_wp2_with fail
              go_roundw
              case rel => exact ⟨k + 1, by omega, by go_num, XR.out.trans u.ext, GD.out⟩
              case measure => simp [intOf]; omega
            · have hr0 : r = false := BAD.out (.inr t2)
              subst hr0
              go_upto_region 6 with fail
              refine wp_region_ext (by kernel_rfl) (by kernel_rfl) ?_
              repeat (go_big_quiet_step (fail))
              refine wpQuiet_nil ?_
              rintro _ ⟨u, rfl⟩
              clear d0 d1 d0' d1'
              go_wp2_with fail
              go_ret
              exact ⟨rfl, XR.out.trans u.ext⟩
          · have hr0 : r = false := BAD.out (.inl t1)
            subst hr0
            go_upto_region 6 with fail
            refine wp_region_ext (by kernel_rfl) (by kernel_rfl) ?_
            repeat (go_big_quiet_step (fail))
            refine wpQuiet_nil ?_
            rintro _ ⟨u, rfl⟩
            clear d0 d1 d0' d1'
            go_wp2_with fail
            go_ret
            exact ⟨rfl, XR.out.trans u.ext⟩
    · have hr0 : r = true := by
        rw [← HR.out, same_iff]
        refine List.ext_getElem? fun j => ?_
        rcases Nat.lt_or_ge j k with h3 | h3
        · exact HP.out j h3
        · rw [List.getElem?_eq_none (by omega), List.getElem?_eq_none (by have := HLL.out; omega)]
      subst hr0
      go_wp2_with fail
      go_ret
      exact ⟨rfl, xr⟩
theorem PN.ext4 {n m : PN} (h1 : n.tag = m.tag) (h2 : n.attrs = m.attrs) (h3 : n.text = m.text) (h4 : n.kids = m.kids) : n = m := by
  cases n; cases m
  simp only [PN.tag, PN.attrs, PN.text, PN.kids] at h1 h2 h3 h4
  subst h1 h2 h3 h4
  rfl
end Go.Proofs.YtdafdoodegpdhaaGreatDoor

namespace Go.Proofs.YtdafdoodegpdhaaGreatDoor
open Go
set_option linter.unusedVariables false
set_option linter.unusedSimpArgs false

/-- what has no such byte, ahead of what begins with one, or of nothing -/
def Begins (P : UInt8 → Prop) (l : List UInt8) : Prop := ∀ c, l.head? = some c → P c
theorem span_inj {P : UInt8 → Prop} : ∀ {p q x y : List UInt8}, (∀ c ∈ p, ¬ P c) → (∀ c ∈ q, ¬ P c) → Begins P x → Begins P y → p ++ x = q ++ y → p = q ∧ x = y := by
  intro p
  induction p with
  | nil =>
    intro q x y _ hq hx _ h
    cases q with
    | nil => exact ⟨rfl, h⟩
    | cons c q =>
      simp only [List.nil_append, List.cons_append] at h
      exact absurd (hx c (by rw [h]; rfl)) (hq c (by simp))
  | cons a p ih =>
    intro q x y hp hq hx hy h
    cases q with
    | nil =>
      simp only [List.nil_append, List.cons_append] at h
      exact absurd (hy a (by rw [← h]; rfl)) (hp a (by simp))
    | cons c q =>
      simp only [List.cons_append, List.cons.injEq] at h
      obtain ⟨rfl, h⟩ := h
      obtain ⟨rfl, e⟩ := ih (fun c hc => hp c (by simp [hc])) (fun c hc => hq c (by simp [hc])) hx hy h
      exact ⟨rfl, e⟩
/-- the bytes of a character -/
def encL (n : Nat) : List UInt8 :=
  if n < 128 then [UInt8.ofNat n] else if n < 2048 then [UInt8.ofNat (192 + n / 64), UInt8.ofNat (128 + n % 64)]
    else if n < 65536 then [UInt8.ofNat (224 + n / 4096), UInt8.ofNat (128 + n / 64 % 64), UInt8.ofNat (128 + n % 64)]
    else [UInt8.ofNat (240 + n / 262144), UInt8.ofNat (128 + n / 4096 % 64), UInt8.ofNat (128 + n / 64 % 64), UInt8.ofNat (128 + n % 64)]
theorem ofNat_inj' {n m : Nat} (e : UInt8.ofNat n = UInt8.ofNat m) (h : n < 256) (k : m < 256) : n = m := (ofNat_eq h k).1 e
theorem encL_inj {n m : Nat} (hn : n ≤ 1114111) (hm : m ≤ 1114111) {x y : List UInt8} (h : encL n ++ x = encL m ++ y) : n = m ∧ x = y := by
  unfold encL at h
  by_cases a1 : n < 128 <;> by_cases b1 : m < 128
  · rw [if_pos a1, if_pos b1] at h
    simp only [List.cons_append, List.nil_append, List.cons.injEq] at h
    exact ⟨ofNat_inj' h.1 (by omega) (by omega), h.2⟩
  · exfalso
    rw [if_pos a1, if_neg b1] at h
    by_cases b2 : m < 2048
    · rw [if_pos b2] at h
      simp only [List.cons_append, List.nil_append, List.cons.injEq] at h
      have := ofNat_inj' h.1 (by omega) (by omega); omega
    · rw [if_neg b2] at h
      by_cases b3 : m < 65536
      · rw [if_pos b3] at h
        simp only [List.cons_append, List.nil_append, List.cons.injEq] at h
        have := ofNat_inj' h.1 (by omega) (by omega); omega
      · rw [if_neg b3] at h
        simp only [List.cons_append, List.nil_append, List.cons.injEq] at h
        have := ofNat_inj' h.1 (by omega) (by omega); omega
  · exfalso
    rw [if_neg a1, if_pos b1] at h
    by_cases b2 : n < 2048
    · rw [if_pos b2] at h
      simp only [List.cons_append, List.nil_append, List.cons.injEq] at h
      have := ofNat_inj' h.1 (by omega) (by omega); omega
    · rw [if_neg b2] at h
      by_cases b3 : n < 65536
      · rw [if_pos b3] at h
        simp only [List.cons_append, List.nil_append, List.cons.injEq] at h
        have := ofNat_inj' h.1 (by omega) (by omega); omega
      · rw [if_neg b3] at h
        simp only [List.cons_append, List.nil_append, List.cons.injEq] at h
        have := ofNat_inj' h.1 (by omega) (by omega); omega
  · rw [if_neg a1, if_neg b1] at h
    by_cases a2 : n < 2048 <;> by_cases b2 : m < 2048
    · rw [if_pos a2, if_pos b2] at h
      simp only [List.cons_append, List.nil_append, List.cons.injEq] at h
      have e1 := ofNat_inj' h.1 (by omega) (by omega)
      have e2 := ofNat_inj' h.2.1 (by omega) (by omega)
      exact ⟨by omega, h.2.2⟩
    · exfalso
      rw [if_pos a2, if_neg b2] at h
      by_cases b3 : m < 65536
      · rw [if_pos b3] at h
        simp only [List.cons_append, List.nil_append, List.cons.injEq] at h
        have := ofNat_inj' h.1 (by omega) (by omega); omega
      · rw [if_neg b3] at h
        simp only [List.cons_append, List.nil_append, List.cons.injEq] at h
        have := ofNat_inj' h.1 (by omega) (by omega); omega
    · exfalso
      rw [if_neg a2, if_pos b2] at h
      by_cases b3 : n < 65536
      · rw [if_pos b3] at h
        simp only [List.cons_append, List.nil_append, List.cons.injEq] at h
        have := ofNat_inj' h.1 (by omega) (by omega); omega
      · rw [if_neg b3] at h
        simp only [List.cons_append, List.nil_append, List.cons.injEq] at h
        have := ofNat_inj' h.1 (by omega) (by omega); omega
    · rw [if_neg a2, if_neg b2] at h
      by_cases a3 : n < 65536 <;> by_cases b3 : m < 65536
      · rw [if_pos a3, if_pos b3] at h
        simp only [List.cons_append, List.nil_append, List.cons.injEq] at h
        have e1 := ofNat_inj' h.1 (by omega) (by omega)
        have e2 := ofNat_inj' h.2.1 (by omega) (by omega)
        have e3 := ofNat_inj' h.2.2.1 (by omega) (by omega)
        exact ⟨by omega, h.2.2.2⟩
      · exfalso
        rw [if_pos a3, if_neg b3] at h
        simp only [List.cons_append, List.nil_append, List.cons.injEq] at h
        have := ofNat_inj' h.1 (by omega) (by omega); omega
      · exfalso
        rw [if_neg a3, if_pos b3] at h
        simp only [List.cons_append, List.nil_append, List.cons.injEq] at h
        have := ofNat_inj' h.1 (by omega) (by omega); omega
      · rw [if_neg a3, if_neg b3] at h
        simp only [List.cons_append, List.nil_append, List.cons.injEq] at h
        have e1 := ofNat_inj' h.1 (by omega) (by omega)
        have e2 := ofNat_inj' h.2.1 (by omega) (by omega)
        have e3 := ofNat_inj' h.2.2.1 (by omega) (by omega)
        have e4 := ofNat_inj' h.2.2.2.1 (by omega) (by omega)
        exact ⟨by omega, h.2.2.2.2⟩
theorem encL_mem {n : Nat} (hn : n ≤ 1114111) {c : UInt8} (h : c ∈ encL n) : c = UInt8.ofNat n ∧ n < 128 ∨ 128 ≤ c.toNat := by
  unfold encL at h
  by_cases h1 : n < 128
  · rw [if_pos h1] at h; simp only [List.mem_singleton] at h; exact .inl ⟨h, h1⟩
  · rw [if_neg h1] at h
    refine .inr ?_
    by_cases h2 : n < 2048
    · rw [if_pos h2] at h
      simp only [List.mem_cons, List.not_mem_nil, or_false] at h
      rcases h with rfl | rfl <;> rw [ofNat_nat (by omega)] <;> omega
    · rw [if_neg h2] at h
      by_cases h3 : n < 65536
      · rw [if_pos h3] at h
        simp only [List.mem_cons, List.not_mem_nil, or_false] at h
        rcases h with rfl | rfl | rfl <;> rw [ofNat_nat (by omega)] <;> omega
      · rw [if_neg h3] at h
        simp only [List.mem_cons, List.not_mem_nil, or_false] at h
        rcases h with rfl | rfl | rfl | rfl <;> rw [ofNat_nat (by omega)] <;> omega
/-- what is written of a character -/
def escN (v : Bool) (n : Nat) : List UInt8 :=
  if n = 38 then [38, 97, 109, 112, 59] else if n = 60 then [38, 108, 116, 59] else if n = 62 then [38, 103, 116, 59]
  else if n = 160 then [38, 110, 98, 115, 112, 59] else if n = 34 ∧ v = true then [38, 113, 117, 111, 116, 59] else encL n
theorem escR_nat (v : Bool) {n : Nat} (h : n < 55296 ∨ 57344 ≤ n ∧ n ≤ 1114111) : escR v (n : Int) = escN v n := by
  unfold escR escN
  rw [encode_nat h]
  have e1 : ((n : Int) = 38) ↔ n = 38 := by omega
  have e2 : ((n : Int) = 60) ↔ n = 60 := by omega
  have e3 : ((n : Int) = 62) ↔ n = 62 := by omega
  have e4 : ((n : Int) = 160) ↔ n = 160 := by omega
  have e5 : ((n : Int) = 34) ↔ n = 34 := by omega
  simp only [e1, e2, e3, e4, e5]
  rfl
/-- either one of the five, or its own bytes -/
theorem escN_cases (v : Bool) (n : Nat) : (n = 38 ∧ escN v n = [38, 97, 109, 112, 59]) ∨ (n = 60 ∧ escN v n = [38, 108, 116, 59]) ∨ (n = 62 ∧ escN v n = [38, 103, 116, 59]) ∨ (n = 160 ∧ escN v n = [38, 110, 98, 115, 112, 59])
    ∨ (n = 34 ∧ v = true ∧ escN v n = [38, 113, 117, 111, 116, 59]) ∨ (n ≠ 38 ∧ n ≠ 60 ∧ n ≠ 62 ∧ n ≠ 160 ∧ ¬ (n = 34 ∧ v = true) ∧ escN v n = encL n) := by
  unfold escN
  by_cases a1 : n = 38
  · exact .inl ⟨a1, by rw [if_pos a1]⟩
  by_cases a2 : n = 60
  · exact .inr (.inl ⟨a2, by rw [if_neg a1, if_pos a2]⟩)
  by_cases a3 : n = 62
  · exact .inr (.inr (.inl ⟨a3, by rw [if_neg a1, if_neg a2, if_pos a3]⟩))
  by_cases a4 : n = 160
  · exact .inr (.inr (.inr (.inl ⟨a4, by rw [if_neg a1, if_neg a2, if_neg a3, if_pos a4]⟩)))
  by_cases a5 : n = 34 ∧ v = true
  · exact .inr (.inr (.inr (.inr (.inl ⟨a5.1, a5.2, by rw [if_neg a1, if_neg a2, if_neg a3, if_neg a4, if_pos a5]⟩))))
  · exact .inr (.inr (.inr (.inr (.inr ⟨a1, a2, a3, a4, a5, by rw [if_neg a1, if_neg a2, if_neg a3, if_neg a4, if_neg a5]⟩))))
theorem encL_head {n : Nat} (hn : n ≤ 1114111) (h : n ≠ 38) : ∃ c l, encL n = c :: l ∧ c ≠ 38 := by
  have hne : encL n ≠ [] := by
    unfold encL
    split
    · simp
    · split
      · simp
      · split <;> simp
  match he : encL n, hne with
  | c :: l, _ =>
    refine ⟨c, l, rfl, fun e => ?_⟩
    rcases encL_mem hn (c := c) (by rw [he]; simp) with ⟨h1, h2⟩ | h1
    · exact h (ofNat_inj' (h1.symm.trans e) (by omega) (by omega))
    · rw [e] at h1; exact absurd h1 (by decide)
theorem escN_inj (v : Bool) {n m : Nat} (hn : n ≤ 1114111) (hm : m ≤ 1114111) {x y : List UInt8} (h : escN v n ++ x = escN v m ++ y) : n = m ∧ x = y := by
  rcases escN_cases v n with ⟨a, e⟩ | ⟨a, e⟩ | ⟨a, e⟩ | ⟨a, e⟩ | ⟨a, _, e⟩ | ⟨a, _, _, _, _, e⟩ <;>
  rcases escN_cases v m with ⟨b, f⟩ | ⟨b, f⟩ | ⟨b, f⟩ | ⟨b, f⟩ | ⟨b, _, f⟩ | ⟨b, _, _, _, _, f⟩ <;> rw [e, f] at h
  all_goals first
    | exact encL_inj hn hm h
    | (exact ⟨a.trans b.symm, by simpa using h⟩)
    | (exfalso; simp at h; done)
    | (exfalso; obtain ⟨c, l, ec, hc⟩ := encL_head hn a; rw [ec] at h; simp only [List.cons_append, List.cons.injEq] at h; exact hc h.1)
    | (exfalso; obtain ⟨c, l, ec, hc⟩ := encL_head hm b; rw [ec] at h; simp only [List.cons_append, List.cons.injEq] at h; exact hc h.1.symm)
theorem escRs_inj (v : Bool) : ∀ {l m : List Int}, (∀ r ∈ l, Utf8.valid r = true) → (∀ r ∈ m, Utf8.valid r = true) → escRs v l = escRs v m → l = m := by
  have ne : ∀ r : Int, escR v r ≠ [] := fun r e => by have := escR_len v r; rw [e] at this; simp at this
  intro l
  induction l with
  | nil =>
    intro m _ _ h
    cases m with
    | nil => rfl
    | cons r m => simp only [escRs, List.flatMap_nil, List.flatMap_cons] at h; exact absurd (List.append_eq_nil_iff.1 h.symm).1 (ne r)
  | cons r l ih =>
    intro m hl hm h
    cases m with
    | nil => simp only [escRs, List.flatMap_nil, List.flatMap_cons] at h; exact absurd (List.append_eq_nil_iff.1 h).1 (ne r)
    | cons s m =>
      obtain ⟨n, rfl, hn⟩ := valid_cases (hl r (by simp))
      obtain ⟨k, rfl, hk⟩ := valid_cases (hm s (by simp))
      simp only [escRs, List.flatMap_cons] at h
      rw [escR_nat v hn, escR_nat v hk] at h
      obtain ⟨e, h2⟩ := escN_inj v (by omega) (by omega) h
      subst e
      have e2 : l = m := ih (fun r hr => hl r (List.mem_cons_of_mem _ hr)) (fun r hr => hm r (List.mem_cons_of_mem _ hr)) h2
      rw [e2]
theorem esc_inj (v : Bool) {s t : ByteArray} (hs : anewB s = s) (ht : anewB t = t) (h : esc v s = esc v t) : s = t := by
  have := escRs_inj v (runeList_valid s s.size 0) (runeList_valid t t.size 0) h
  rw [← hs, ← ht]
  unfold anewB
  rw [this]
theorem esc_no (v : Bool) (s : ByteArray) : ∀ c ∈ esc v s, c ≠ 60 ∧ c ≠ 62 ∧ (v = true → c ≠ 34) := by
  intro c hc
  unfold esc escRs at hc
  obtain ⟨r, hr, hc⟩ := List.mem_flatMap.1 hc
  obtain ⟨n, rfl, hn⟩ := valid_cases (runeList_valid s _ _ r hr)
  rw [escR_nat v hn] at hc
  rcases escN_cases v n with ⟨a, e⟩ | ⟨a, e⟩ | ⟨a, e⟩ | ⟨a, e⟩ | ⟨a, _, e⟩ | ⟨a1, a2, a3, a4, a5, e⟩ <;> rw [e] at hc
  case inr.inr.inr.inr.inr =>
    rcases encL_mem (by omega) hc with ⟨rfl, h⟩ | h
    · refine ⟨fun e => a2 (ofNat_inj' (m := 60) e (by omega) (by omega)), fun e => a3 (ofNat_inj' (m := 62) e (by omega) (by omega)), fun hv e => a5 ⟨ofNat_inj' (m := 34) e (by omega) (by omega), hv⟩⟩
    · refine ⟨fun e => ?_, fun e => ?_, fun _ e => ?_⟩ <;> rw [e] at h <;> exact absurd h (by decide)
  all_goals
    simp only [List.mem_cons, List.not_mem_nil, or_false] at hc
    rcases hc with rfl | rfl | rfl | rfl | rfl | rfl <;> exact ⟨by decide, by decide, fun _ => by decide⟩
theorem esc_nil {v : Bool} {s : ByteArray} (h : s.size ≠ 0) : esc v s ≠ [] := by
  unfold esc
  obtain ⟨f, hf⟩ : ∃ f, s.size = f + 1 := ⟨s.size - 1, by omega⟩
  rw [hf, runeList, if_pos (by omega)]
  intro e
  have := escR_len v (Int.ofNat (Utf8.decode s 0).1)
  simp only [escRs, List.flatMap_cons] at e
  rw [(List.append_eq_nil_iff.1 e).1] at this
  simp at this
theorem nameOk_no {s : ByteArray} (h : nameOk s = true) : ∀ c ∈ s.data.toList, c ≠ 61 ∧ c ≠ 32 := by
  intro c hc
  unfold nameOk at h
  simp only [Bool.and_eq_true] at h
  have := List.all_eq_true.1 h.2 c hc
  simp only [decide_eq_true_eq] at this
  refine ⟨fun e => ?_, fun e => ?_⟩ <;> rw [e] at this <;> exact absurd this (by decide)
def attrOk (a : ByteArray × ByteArray) : Prop := nameOk a.1 = true ∧ anewB a.2 = a.2
theorem attrsMay_ok {l : List (ByteArray × ByteArray)} (h : attrsMay l = true) : ∀ a ∈ l, attrOk a := by
  intro a ha
  obtain ⟨i, hi⟩ := List.mem_iff_getElem?.1 ha
  unfold attrsMay at h
  have := List.all_eq_true.1 h (a, i) (by rw [List.mk_mem_zipIdx_iff_getElem?]; simpa using hi)
  simp only [Bool.and_eq_true, valueOk, decide_eq_true_eq] at this
  exact ⟨this.1.1, this.1.2.1.2⟩
theorem attrM_inj {a b : ByteArray × ByteArray} (ha : attrOk a) (hb : attrOk b) {x y : List UInt8} (h : attrM a ++ x = attrM b ++ y) : a = b ∧ x = y := by
  unfold attrM at h
  simp only [List.cons_append, List.append_assoc, List.cons.injEq, true_and, List.nil_append] at h
  replace h := span_inj (P := fun c => c = 61) (fun c hc => (nameOk_no ha.1 c hc).1) (fun c hc => (nameOk_no hb.1 c hc).1) (fun c hc => by simp at hc; exact hc.symm) (fun c hc => by simp at hc; exact hc.symm) h
  obtain ⟨e1, h⟩ := h
  simp only [List.cons.injEq, true_and] at h
  replace h := span_inj (P := fun c => c = 34) (fun c hc => (esc_no true _ c hc).2.2 rfl) (fun c hc => (esc_no true _ c hc).2.2 rfl) (fun c hc => by simp at hc; exact hc.symm) (fun c hc => by simp at hc; exact hc.symm) h
  obtain ⟨e2, h⟩ := h
  simp only [List.cons.injEq, true_and] at h
  exact ⟨Prod.ext (bytes_ext e1) (esc_inj true ha.2 hb.2 e2), h⟩
theorem attrsM_inj : ∀ {l m : List (ByteArray × ByteArray)}, (∀ a ∈ l, attrOk a) → (∀ a ∈ m, attrOk a) → ∀ {x y : List UInt8}, l.flatMap attrM ++ 62 :: x = m.flatMap attrM ++ 62 :: y → l = m ∧ x = y := by
  intro l
  induction l with
  | nil =>
    intro m _ _ x y h
    cases m with
    | nil => simp at h; exact ⟨rfl, h⟩
    | cons b m => exfalso; simp only [List.flatMap_nil, List.flatMap_cons, List.nil_append, attrM, List.cons_append] at h; simp at h
  | cons a l ih =>
    intro m hl hm x y h
    cases m with
    | nil => exfalso; simp only [List.flatMap_nil, List.flatMap_cons, List.nil_append, attrM, List.cons_append] at h; simp at h
    | cons b m =>
      rw [List.flatMap_cons, List.flatMap_cons, List.append_assoc, List.append_assoc] at h
      obtain ⟨e, h2⟩ := attrM_inj (hl a (by simp)) (hm b (by simp)) h
      obtain ⟨e3, h4⟩ := ih (fun a ha => hl a (List.mem_cons_of_mem _ ha)) (fun a ha => hm a (List.mem_cons_of_mem _ ha)) h2
      exact ⟨by rw [e, e3], h4⟩
theorem attrsM_begin (l : List (ByteArray × ByteArray)) (x : List UInt8) : Begins (fun c => c = 32 ∨ c = 62) (l.flatMap attrM ++ 62 :: x) := by
  intro c hc
  cases l with
  | nil => simp at hc; exact .inr hc.symm
  | cons a l => simp [List.flatMap_cons, attrM] at hc; exact .inl hc.symm
theorem name_cases {t : Int} (h : clsT t ≠ 0) (h0 : t ≠ 0) : t = 1 ∨ t = 2 ∨ t = 3 ∨ t = 4 ∨ t = 5 ∨ t = 6 ∨ t = 7 ∨ t = 8 ∨ t = 9 ∨ t = 10 ∨ t = 11 ∨ t = 12 ∨ t = 13 ∨ t = 14 ∨ t = 15 ∨ t = 16 := by
  unfold clsT at h
  by_cases a : t < 0 ∨ 16 < t
  · rw [if_pos a] at h; exact absurd rfl h
  · omega
theorem nameT_no {t : Int} (h : clsT t ≠ 0) (h0 : t ≠ 0) : (∀ c ∈ (nameT t).data.toList, c ≠ 32 ∧ c ≠ 62 ∧ c ≠ 47) ∧ (nameT t).data.toList ≠ [] := by
  rcases name_cases h h0 with rfl | rfl | rfl | rfl | rfl | rfl | rfl | rfl | rfl | rfl | rfl | rfl | rfl | rfl | rfl | rfl <;> decide
def tagOf (l : List UInt8) : Int :=
  if l = [100, 105, 118] then 1 else if l = [112] then 2 else if l = [104, 49] then 3 else if l = [104, 50] then 4 else if l = [104, 51] then 5
  else if l = [98, 108, 111, 99, 107, 113, 117, 111, 116, 101] then 6 else if l = [117, 108] then 7 else if l = [111, 108] then 8 else if l = [108, 105] then 9
  else if l = [97] then 10 else if l = [98] then 11 else if l = [105] then 12 else if l = [117] then 13 else if l = [115] then 14 else if l = [115, 112, 97, 110] then 15 else if l = [98, 114] then 16 else 0
theorem tagOf_name {t : Int} (h : clsT t ≠ 0) (h0 : t ≠ 0) : tagOf (nameT t).data.toList = t := by
  rcases name_cases h h0 with rfl | rfl | rfl | rfl | rfl | rfl | rfl | rfl | rfl | rfl | rfl | rfl | rfl | rfl | rfl | rfl <;> decide
theorem nameT_inj {t u : Int} (h : clsT t ≠ 0) (h0 : t ≠ 0) (k : clsT u ≠ 0) (k0 : u ≠ 0) (e : (nameT t).data.toList = (nameT u).data.toList) : t = u := by
  rw [← tagOf_name h h0, ← tagOf_name k k0, e]
/-- what the proof asks of a node: a text, or an element -/
theorem clsT_one {t : Int} : clsT t = 1 ↔ t = 0 := by
  constructor
  · intro h
    unfold clsT at h
    repeat' split at h
    all_goals omega
  · rintro rfl; rfl
def IsText (n : PN) : Prop := ∃ s, n = .mk 0 [] s [] ∧ s.size ≠ 0 ∧ anewB s = s
def IsElem (n : PN) : Prop := ∃ t a ks, n = .mk t a ⟨#[]⟩ ks ∧ clsT t ≠ 0 ∧ t ≠ 0 ∧ (∀ p ∈ a, attrOk p) ∧ (clsT t = 5 → ks = []) ∧ (clsT t ≠ 5 → ∃ d b l i, PN.norms d b l i false ks = true)
theorem empty_of {s : ByteArray} (h : s.size = 0) : s = ⟨#[]⟩ := by
  apply bytes_ext
  have : s.data.toList.length = 0 := h
  rw [List.eq_nil_of_length_eq_zero this]
theorem norm_is {d : Int} {b l i : Bool} {n : PN} (h : PN.norm d b l i n = true) : n.tag = 0 ∧ IsText n ∨ n.tag ≠ 0 ∧ IsElem n := by
  cases n with
  | mk t a s ks =>
    unfold PN.norm at h
    simp only [Bool.and_eq_true, decide_eq_true_eq] at h
    obtain ⟨_, h⟩ := h
    by_cases c0 : clsT t = 0
    · rw [if_pos c0] at h; cases h
    rw [if_neg c0] at h
    by_cases c1 : clsT t = 1
    · rw [if_pos c1] at h
      obtain rfl := clsT_one.1 c1
      refine .inl ⟨rfl, ?_⟩
      unfold textOk at h
      simp only [Bool.and_eq_true, decide_eq_true_eq, PN.attrs, PN.kids, PN.text, List.isEmpty_iff] at h
      obtain ⟨⟨⟨⟨rfl, rfl⟩, h3⟩, h4⟩, _⟩ := h
      exact ⟨s, rfl, by simpa using h3, of_decide_eq_true h4⟩
    rw [if_neg c1] at h
    have ht : t ≠ 0 := fun e => c1 (clsT_one.2 e)
    refine .inr ⟨ht, ?_⟩
    by_cases c5 : clsT t = 5
    · rw [if_pos c5] at h
      simp only [Bool.and_eq_true, beq_iff_eq, List.isEmpty_iff] at h
      obtain ⟨⟨h1, h2⟩, rfl⟩ := h
      rw [empty_of h1]
      exact ⟨t, a, [], rfl, c0, ht, attrsMay_ok h2, fun _ => rfl, fun e => absurd c5 e⟩
    rw [if_neg c5] at h
    by_cases c4 : clsT t = 4
    · rw [if_pos c4] at h
      simp only [Bool.and_eq_true, beq_iff_eq] at h
      obtain ⟨⟨h1, h2⟩, h3⟩ := h
      rw [empty_of h1]
      exact ⟨t, a, ks, rfl, c0, ht, attrsMay_ok h2, fun e => absurd e c5, fun _ => ⟨_, _, _, _, h3⟩⟩
    rw [if_neg c4] at h
    simp only [Bool.and_eq_true, beq_iff_eq] at h
    obtain ⟨_, ⟨h1, h2⟩, h3⟩ := h
    rw [empty_of h1]
    exact ⟨t, a, ks, rfl, c0, ht, attrsMay_ok h2, fun e => absurd e c5, fun _ => ⟨_, _, _, _, h3⟩⟩
theorem outer_text (s : ByteArray) : (PN.mk 0 [] s []).outer = esc false s := by rw [PN.outer_eq]; exact if_pos rfl
/-- behind kids: nothing, or a tag's end -/
def Ends (r : List UInt8) : Prop := r = [] ∨ ∃ t, r = 60 :: 47 :: t
theorem outer_elem {t : Int} {a : List (ByteArray × ByteArray)} {ks : List PN} (h : clsT t ≠ 0) (h0 : t ≠ 0) (rest : List UInt8) :
    (PN.mk t a ⟨#[]⟩ ks).outer ++ rest = 60 :: ((nameT t).data.toList ++ (a.flatMap attrM ++ 62 :: (if clsT t = 5 then rest else PN.outers ks ++ ([60, 47] ++ (nameT t).data.toList ++ 62 :: rest)))) := by
  rw [PN.outer_eq]
  show (if t = 0 then esc false ⟨#[]⟩ else if clsT t = 0 then PN.outers ks else 60 :: (nameT t).data.toList ++ a.flatMap attrM ++ [62] ++ if clsT t = 5 then [] else PN.outers ks ++ ([60, 47] ++ (nameT t).data.toList ++ [62])) ++ rest = _
  rw [if_neg h0, if_neg h]
  by_cases c : clsT t = 5
  · rw [if_pos c, if_pos c]; simp
  · rw [if_neg c, if_neg c]; simp
theorem text_first {s : ByteArray} (h : s.size ≠ 0) (x : List UInt8) : ∃ c l, esc false s ++ x = c :: l ∧ c ≠ 60 := by
  have := esc_nil (v := false) h
  match he : esc false s, this with
  | c :: l, _ => exact ⟨c, l ++ x, rfl, (esc_no false s c (by rw [he]; simp)).1⟩
theorem outers_inj : ∀ (z : Nat) (l l' : List PN) (d d' : Int) (b b' li li' i i' p p' : Bool) (rest rest' : List UInt8), PN.sizes l ≤ z → PN.norms d b li i p l = true → PN.norms d' b' li' i' p' l' = true → Ends rest → Ends rest' →
    PN.outers l ++ rest = PN.outers l' ++ rest' → l = l' ∧ rest = rest' := by
  intro z
  have first : ∀ (x : PN) (r : List UInt8), IsElem x → ∃ c q, x.outer ++ r = 60 :: c :: q ∧ c ≠ 47 := by
    rintro x r ⟨t, a, ks, rfl, h1, h2, _⟩
    rw [outer_elem h1 h2]
    obtain ⟨hn, hne⟩ := nameT_no h1 h2
    match he : (nameT t).data.toList, hne with
    | c :: q, _ => exact ⟨c, _, rfl, (hn c (by rw [he]; simp)).2.2⟩
  have ends60 : ∀ {r : List UInt8}, Ends r → Begins (fun c => c = 60) r := by
    rintro r (rfl | ⟨t, rfl⟩) c hc
    · cases hc
    · simp at hc; exact hc.symm
  have noEnd : ∀ {x : PN} {r q : List UInt8} {d : Int} {b l i : Bool}, PN.norm d b l i x = true → Ends r → r = x.outer ++ q → False := by
    intro x r q d b l i hx hr e
    rcases norm_is hx with ⟨_, s, rfl, hs, _⟩ | ⟨_, he⟩
    · rw [outer_text] at e
      obtain ⟨c, l, hc, h60⟩ := text_first hs q
      rw [hc] at e
      rcases hr with rfl | ⟨t, rfl⟩
      · cases e
      · simp only [List.cons.injEq] at e; exact h60 e.1.symm
    · obtain ⟨c, l, hc, h47⟩ := first x q he
      rw [hc] at e
      rcases hr with rfl | ⟨t, rfl⟩
      · cases e
      · simp only [List.cons.injEq, true_and] at e; exact h47 e.1.symm
  induction z with
  | zero =>
    intro l l' d d' b b' li li' i i' p p' rest rest' hz hl hl' hr hr' h
    cases l with
    | cons x l => have := x.size_eq; simp only [PN.sizes] at hz; omega
    | nil =>
      cases l' with
      | nil => exact ⟨rfl, h⟩
      | cons x l' =>
        simp only [PN.norms, Bool.and_eq_true] at hl'
        simp only [PN.outers, List.nil_append, List.append_assoc] at h
        exact (noEnd hl'.1.2 hr h).elim
  | succ z ih =>
    intro l l' d d' b b' li li' i i' p p' rest rest' hz hl hl' hr hr' h
    cases l with
    | nil =>
      cases l' with
      | nil => exact ⟨rfl, h⟩
      | cons x l' =>
        simp only [PN.norms, Bool.and_eq_true] at hl'
        simp only [PN.outers, List.nil_append, List.append_assoc] at h
        exact (noEnd hl'.1.2 hr h).elim
    | cons x l =>
      cases l' with
      | nil =>
        simp only [PN.norms, Bool.and_eq_true] at hl
        simp only [PN.outers, List.nil_append, List.append_assoc] at h
        exact (noEnd hl.1.2 hr' h.symm).elim
      | cons x' l' =>
        simp only [PN.norms, Bool.and_eq_true] at hl hl'
        obtain ⟨⟨_, hx⟩, hl⟩ := hl
        obtain ⟨⟨_, hx'⟩, hl'⟩ := hl'
        simp only [PN.outers, List.append_assoc] at h
        simp only [PN.sizes] at hz
        have hsx := x.size_eq
        have behind : ∀ {l : List PN} {rest : List UInt8} {d : Int} {b li i : Bool}, PN.norms d b li i true l = true → Ends rest → Begins (fun c => c = 60) (PN.outers l ++ rest) := by
          intro l rest d b li i hl hr
          cases l with
          | nil => exact ends60 hr
          | cons y l =>
            simp only [PN.norms, Bool.and_eq_true, Bool.not_eq_true', Bool.true_and, beq_eq_false_iff_ne] at hl
            rcases norm_is hl.1.2 with ⟨e, _⟩ | ⟨_, he⟩
            · exact absurd e hl.1.1
            · obtain ⟨c, q, hc, _⟩ := first y (PN.outers l ++ rest) he
              intro c' hc'
              simp only [PN.outers, List.append_assoc] at hc'
              rw [hc] at hc'
              simp at hc'
              exact hc'.symm
        rcases norm_is hx with ⟨t0, s, rfl, hs, hsv⟩ | ⟨tn, he⟩
        · rcases norm_is hx' with ⟨t0', s', rfl, hs', hsv'⟩ | ⟨tn', he'⟩
          · rw [outer_text, outer_text] at h
            replace h := span_inj (P := fun c => c = 60) (fun c hc => (esc_no false _ c hc).1) (fun c hc => (esc_no false _ c hc).1) (behind hl hr) (behind hl' hr') h
            obtain ⟨e, h⟩ := h
            obtain rfl := esc_inj false hsv hsv' e
            replace h := ih l l' _ _ _ _ _ _ _ _ _ _ rest rest' (by omega) hl hl' hr hr' h
            obtain ⟨e9, h⟩ := h
            subst e9
            exact ⟨rfl, h⟩
          · exfalso
            rw [outer_text] at h
            obtain ⟨c, q, hc, h60⟩ := text_first hs (PN.outers l ++ rest)
            obtain ⟨c', q', hc', _⟩ := first x' (PN.outers l' ++ rest') he'
            rw [hc, hc'] at h
            simp only [List.cons.injEq] at h
            exact h60 h.1
        · rcases norm_is hx' with ⟨t0', s', rfl, hs', hsv'⟩ | ⟨tn', he'⟩
          · exfalso
            rw [outer_text] at h
            obtain ⟨c, q, hc, h60⟩ := text_first hs' (PN.outers l' ++ rest')
            obtain ⟨c', q', hc', _⟩ := first x (PN.outers l ++ rest) he
            rw [hc, hc'] at h
            simp only [List.cons.injEq] at h
            exact h60 h.1.symm
          · obtain ⟨t, a, ks, rfl, c0, ht, ha, k5, kn⟩ := he
            obtain ⟨t', a', ks', rfl, c0', ht', ha', k5', kn'⟩ := he'
            rw [outer_elem c0 ht, outer_elem c0' ht'] at h
            simp only [List.cons.injEq, true_and] at h
            replace h := span_inj (P := fun c => c = 32 ∨ c = 62) (fun c hc e => by have := (nameT_no c0 ht).1 c hc; exact e.elim this.1 this.2.1) (fun c hc e => by have := (nameT_no c0' ht').1 c hc; exact e.elim this.1 this.2.1) (attrsM_begin _ _) (attrsM_begin _ _) h
            obtain ⟨e, h⟩ := h
            obtain rfl := nameT_inj c0 ht c0' ht' e
            replace h := attrsM_inj ha ha' h
            obtain ⟨e9, h⟩ := h
            subst e9
            by_cases c5 : clsT t = 5
            · rw [if_pos c5, if_pos c5] at h
              obtain rfl := k5 c5
              obtain rfl := k5' c5
              replace h := ih l l' _ _ _ _ _ _ _ _ _ _ rest rest' (by omega) hl hl' hr hr' h
              obtain ⟨e9, h⟩ := h
              subst e9
              exact ⟨rfl, h⟩
            · rw [if_neg c5, if_neg c5] at h
              obtain ⟨_, _, _, _, hk⟩ := kn c5
              obtain ⟨_, _, _, _, hk'⟩ := kn' c5
              simp only [PN.kids] at hsx
              replace h := ih ks ks' _ _ _ _ _ _ _ _ _ _ _ _ (by omega) hk hk' (.inr ⟨_, rfl⟩) (.inr ⟨_, rfl⟩) h
              obtain ⟨e9, h⟩ := h
              subst e9
              have h2 : PN.outers l ++ rest = PN.outers l' ++ rest' := by simpa using h
              obtain ⟨e8, h8⟩ := ih l l' _ _ _ _ _ _ _ _ _ _ rest rest' (by omega) hl hl' hr hr' h2
              subst e8
              exact ⟨rfl, h8⟩
/-- unlike normal nodes have unlike markup -/
theorem whole_inj {n m : PN} (hn : n.whole = true) (hm : m.whole = true) (h : n.inner = m.inner) : n = m := by
  cases n with
  | mk t a s ks =>
    cases m with
    | mk t' a' s' ks' =>
      unfold PN.whole at hn hm
      simp only [Bool.and_eq_true, decide_eq_true_eq, PN.tag, PN.attrs, PN.text, PN.kids, List.isEmpty_iff, beq_iff_eq] at hn hm
      obtain ⟨⟨⟨⟨⟨e1, rfl⟩, hs⟩, hk⟩, _⟩, _⟩ := hn
      obtain ⟨⟨⟨⟨⟨e2, rfl⟩, hs'⟩, hk'⟩, _⟩, _⟩ := hm
      obtain rfl : t = 1 := of_decide_eq_true e1
      obtain rfl : t' = 1 := of_decide_eq_true e2
      rw [empty_of hs, empty_of hs']
      have e : PN.outers ks = PN.outers ks' := h
      obtain ⟨rfl, _⟩ := outers_inj _ ks ks' _ _ _ _ _ _ _ _ _ _ [] [] (Nat.le_refl _) hk hk' (.inl rfl) (.inl rfl) (by rw [e])
      rfl
end Go.Proofs.YtdafdoodegpdhaaGreatDoor

namespace Go.Proofs.YtdafdoodegpdhaaGreatDoor
open Go Go.RowKit
set_option maxRecDepth 100000
def lays196_ren : Go.Shelf.Ren := ⟨fun | 196 => 71 | 259 => 80 | n => n, fun | 0 => 0 | 3 => 3 | 4 => 4 | 5 => 5 | 9 => 9 | 12 => 12 | 46 => 86 | 53 => 102 | 119 => 97 | 138 => 99 | 139 => 100 | n => n, fun | 3 => 1 | 4 => 2 | n => n⟩
theorem lays196 : Go.Proofs.Lays.n196 Tryz.prog lays196_ren := {
  mixed := by kernel_rfl
  f196 := Tryz.func71.trans (congrArg some (by kernel_rfl))
  f259 := Tryz.func80.trans (congrArg some (by kernel_rfl))
  t0 := Tryz.underlying0
  a0 := Tryz.isAgg0
  z0 := Tryz.sizeOf0
  v0 := Tryz.zeroValue0
  t3 := Tryz.underlying3
  a3 := Tryz.isAgg3
  z3 := Tryz.sizeOf3
  v3 := Tryz.zeroValue3
  t4 := Tryz.underlying4
  a4 := Tryz.isAgg4
  z4 := Tryz.sizeOf4
  v4 := Tryz.zeroValue4
  t5 := Tryz.underlying5
  a5 := Tryz.isAgg5
  z5 := Tryz.sizeOf5
  v5 := Tryz.zeroValue5
  t9 := Tryz.underlying9
  a9 := Tryz.isAgg9
  z9 := Tryz.sizeOf9
  v9 := Tryz.zeroValue9
  t12 := Tryz.underlying12
  a12 := Tryz.isAgg12
  z12 := Tryz.sizeOf12
  v12 := Tryz.zeroValue12
  t46 := Tryz.underlying86
  a46 := Tryz.isAgg86
  z46 := Tryz.sizeOf86
  v46 := Tryz.zeroValue86
  t53 := Tryz.underlying102
  a53 := Tryz.isAgg102
  z53 := Tryz.sizeOf102
  v53 := Tryz.zeroValue102
  t119 := Tryz.underlying97
  a119 := Tryz.isAgg97
  z119 := Tryz.sizeOf97
  t138 := Tryz.underlying99
  a138 := Tryz.isAgg99
  z138 := Tryz.sizeOf99
  v138 := Tryz.zeroValue99
  t139 := Tryz.underlying100
  a139 := Tryz.isAgg100
  z139 := Tryz.sizeOf100
  v139 := Tryz.zeroValue100
  g3 := by kernel_rfl
  g4 := by kernel_rfl }
theorem infoByte : (Tryz.prog.info? 5).map (fun i => (i.zero, i.size, i.bytes)) = some (some (.int .u8 0), 1, 1) := by kernel_rfl
theorem infoSet : (Tryz.prog.info? 106).map (fun i => (i.zero, i.size)) = some (some (.agg (Array.replicate 256 (.bool false))), 256) := by kernel_rfl
theorem ValidString_any (s : ByteArray) (w : World) (hs : s.size ≤ 9223372036854775807) (hT : Lib.Utf8Tabs 1 2 w) :
    Calls Tryz.prog 71 #[.string s] w fun e w' => e = .returned (.bool (Lib.validD s.data.toList)) ∧ Below w.heap.size w w' := Any.utf8_ValidString lays196 s w hs hT
end Go.Proofs.YtdafdoodegpdhaaGreatDoor

namespace Go.Proofs.YtdafdoodegpdhaaGreatDoor
open Go Go.RowKit Go.BigFrame
set_option linter.unusedVariables false
set_option linter.unusedSimpArgs false

abbrev Kept (b : Nat) (w w' : World) : Prop := Lib.OthersKept 5 (some b) w w'
theorem infoBuilder : (Tryz.prog.info? 57).map (fun i => i.size) = some 2 := by kernel_rfl
set_option maxHeartbeats 2000000 in
set_option maxRecDepth 100000 in
theorem copyCheck_used (b : Nat) (w : World) (h0 : w.cell? ⟨b, 0, none⟩ = some (.pointer (some ⟨b, 0, none⟩))) :
    Calls Tryz.prog 57 #[.pointer (some ⟨b, 0, none⟩)] w fun e w' => e = .returned (.tuple #[]) ∧ w' = w := by
  obtain ⟨j, hj, _⟩ := Option.map_eq_some_iff.1 infoBuilder
  go_enter Tryz.func57, Tryz.ntmps57
  go_wp2
  rw [Lib.run_neq_ptr_same w _ Tryz.underlying55 hj]
  go_wp2
  go_end0
  exact ⟨rfl, rfl⟩
theorem cellsByte : Tryz.prog.cellsOf 5 = 1 := by kernel_rfl
end Go.Proofs.YtdafdoodegpdhaaGreatDoor

namespace Go.Proofs.YtdafdoodegpdhaaGreatDoor
open Go Go.RowKit Go.BigFrame
set_option linter.unusedVariables false
set_option linter.unusedSimpArgs false

theorem Kept.iterAt {b : Nat} {w wr : World} (h : Kept b w wr) {k : Nat} (hk : w.heap.size ≤ k) (s : ByteArray) (pos : Nat) : Kept b w (wr.iterAt k s pos) := fun j o hj hb ho => by
  have hl := (Array.getElem?_eq_some_iff.1 hj).1
  rw [Lib.iterAt_other wr k j s pos (by omega)]
  exact h j o hj hb ho
end Go.Proofs.YtdafdoodegpdhaaGreatDoor

namespace Go.Proofs.YtdafdoodegpdhaaGreatDoor
open Go Go.RowKit Go.BigFrame
set_option linter.unusedVariables false
set_option linter.unusedSimpArgs false

mutual
/-- as much as a node's markup may take -/
def PN.cost : PN → Nat
  | .mk t a s ks => 6 * s.size + (a.map fun p => p.1.size + 6 * p.2.size + 4).sum + 27 + PN.costs ks
def PN.costs : List PN → Nat
  | [] => 0
  | k :: r => PN.cost k + PN.costs r
end
theorem PN.cost_eq (n : PN) : n.cost = 6 * n.text.size + (n.attrs.map fun p => p.1.size + 6 * p.2.size + 4).sum + 27 + PN.costs n.kids := by cases n; rfl
theorem attrM_len (p : ByteArray × ByteArray) : (attrM p).length ≤ p.1.size + 6 * p.2.size + 4 := by
  have := esc_len true p.2
  have h : p.1.data.toList.length = p.1.size := rfl
  unfold attrM
  simp only [List.length_append, List.length_cons, List.length_nil]
  omega
theorem attrsM_len (l : List (ByteArray × ByteArray)) : (l.flatMap attrM).length ≤ (l.map fun p => p.1.size + 6 * p.2.size + 4).sum := by
  induction l with
  | nil => simp
  | cons x r ih =>
    have := attrM_len x
    simp only [List.flatMap_cons, List.length_append, List.map_cons, List.sum_cons]
    omega
theorem nameT_len (t : Int) : (nameT t).data.toList.length ≤ 10 := by
  have h : t = 1 ∨ t = 2 ∨ t = 3 ∨ t = 4 ∨ t = 5 ∨ t = 6 ∨ t = 7 ∨ t = 8 ∨ t = 9 ∨ t = 10 ∨ t = 11 ∨ t = 12 ∨ t = 13 ∨ t = 14 ∨ t = 15 ∨ t = 16 ∨ ¬ (1 ≤ t ∧ t ≤ 16) := by omega
  rcases h with rfl | rfl | rfl | rfl | rfl | rfl | rfl | rfl | rfl | rfl | rfl | rfl | rfl | rfl | rfl | rfl | h
  all_goals first
    | decide
    | (unfold nameT; rw [if_neg (by omega), if_neg (by omega), if_neg (by omega), if_neg (by omega), if_neg (by omega), if_neg (by omega), if_neg (by omega), if_neg (by omega), if_neg (by omega), if_neg (by omega), if_neg (by omega), if_neg (by omega), if_neg (by omega), if_neg (by omega), if_neg (by omega), if_neg (by omega)]; decide)
theorem PN.costs_mem : ∀ {l : List PN} {k : PN}, k ∈ l → k.cost ≤ PN.costs l := by
  intro l
  induction l with
  | nil => intro k h; cases h
  | cons x r ih =>
    intro k h
    simp only [PN.costs]
    rcases List.mem_cons.1 h with rfl | h
    · omega
    · have := ih h; omega
theorem PN.outers_len {l : List PN} (h : ∀ k ∈ l, k.outer.length ≤ k.cost) : (PN.outers l).length ≤ PN.costs l := by
  induction l with
  | nil => simp [PN.outers, PN.costs]
  | cons x r ih =>
    have h1 := h x (by simp)
    have h2 := ih fun k hk => h k (by simp [hk])
    simp only [PN.outers, PN.costs, List.length_append]
    omega
theorem PN.outer_len : ∀ n : PN, n.outer.length ≤ n.cost := by
  refine PN.induct _ fun n ih => ?_
  have h1 := PN.outers_len ih
  have h2 := esc_len false n.text
  have h3 := attrsM_len n.attrs
  have h4 := nameT_len n.tag
  rw [PN.outer_eq, PN.cost_eq]
  split
  · omega
  · split
    · omega
    · split <;> simp only [List.length_append, List.length_cons, List.length_nil] <;> omega
theorem PN.costs_append (l r : List PN) : PN.costs (l ++ r) = PN.costs l + PN.costs r := by
  induction l with
  | nil => simp [PN.costs]
  | cons x l ih => simp only [List.cons_append, PN.costs, ih]; omega
theorem tagB (x : Int) : (x == 0) = true ∨ (x == 0) = false := by cases h : (x == 0); exact .inr rfl; exact .inl rfl
theorem Kept.ext {b : Nat} {w w' : World} (h : Ext w w') : Kept b w w' := fun j o hj _ _ => h.block hj
theorem Ext.trans' {a b c : World} (h : Ext a b) (k : Below a.heap.size b c) : Ext a c := Below.trans h k
end Go.Proofs.YtdafdoodegpdhaaGreatDoor

namespace Go.Proofs.YtdafdoodegpdhaaGreatDoor
open Go Go.RowKit Go.BigFrame
set_option linter.unusedVariables false
set_option linter.unusedSimpArgs false

/-- these blocks are there -/
def Has (B : Nat) (l : List (Nat × Array Value)) (w : World) : Prop := ∀ p ∈ l, B ≤ p.1 ∧ w.heap[p.1]? = some (.cells p.2 9 (0, 0))
theorem Has.more {B : Nat} {l : List (Nat × Array Value)} {w w' : World} (h : Has B l w) (x : Ext w w') : Has B l w' := fun p hp => ⟨(h p hp).1, x.block (h p hp).2⟩
def Stop (p : Prop) : Prop := p
section
variable {P : Program} {ops : Array Oper} {rest : List Oper} {o : Oper} {a : Act} {Q : Exit → Act → World → Prop}
theorem wpList_name {w0 w : World} {l : List (Nat × Array Value)} {cs : Array Value} (hx : Ext w0 w) (hl : Has w0.heap.size l w) (h : ∀ w', Ext w0 w' → Has w0.heap.size ((w.heap.size, cs) :: l) w' → wpList P ops Q rest a w') : wpList P ops Q rest a (w.alloc (.cells cs 9)) :=
  h _ (hx.alloc _) fun p hp => by
    rcases List.mem_cons.1 hp with rfl | hp
    · exact ⟨hx.size, heap_alloc_new w _⟩
    · exact (hl.more ((Ext.refl w).alloc _)) p hp
theorem run_storeWhole (w : World) {b : Nat} {t T : TypeId} {cur vs : Array Value} (hg : w.heap[b]? = some (.cells cur T (0, 0))) (hz : ∀ w, (sizeOf t).run P w = .ok vs.size w) (hl : vs.size = cur.size) (h1 : ∀ v ∈ vs.toList, v.oneCell' = true) :
    (Instr.storeAt t (.pointer (some ⟨b, 0, none⟩)) (.agg vs)).run P w = .ok () (w.setRow b vs) := by
  have h := run_storeCells_at (P := P) b 0 T vs.toList 0 cur w hg (by simp [hl]) h1
  simp only [Nat.zero_add, List.take_zero, List.nil_append] at h
  rw [List.drop_eq_nil_of_le (by simp [hl])] at h
  simp only [List.append_nil, Array.toArray_toList] at h
  simp only [Instr.storeAt, Instr.sureAddr, storeVar, Sem.run_bind, Sem.run_pure, Result.andThen_ok, hz, Value.cells, ne_eq, not_true, if_false]
  exact h
theorem wpList_store {w : World} {b : Nat} {t T : TypeId} {x y : Operand} {cur vs : Array Value} (hgd : o.guard = none) (ho : o.op = .store t x y) (hx : a.eval x = .pointer (some ⟨b, 0, none⟩)) (hy : a.eval y = .agg vs)
    (hg : w.heap[b]? = some (.cells cur T (0, 0))) (hz : ∀ w, (sizeOf t).run P w = .ok vs.size w) (hl : vs.size = cur.size) (h1 : ∀ v ∈ vs.toList, v.oneCell' = true) (h : wpList P ops Q rest (a.put o.dst undef) (w.setRow b vs)) : wpList P ops Q (o :: rest) a w := by
  refine wpList_plain hgd fun K hK => ?_
  have hr := run_storeWhole (P := P) w hg hz hl h1
  unfold Oper.wp execOp
  simp only [ho, hx, hy, hr, Sem.run_bind, Sem.run_pure, Result.andThen_ok]
  first | exact hK _ _ h | (rw [Oper.upon_skip]; exact hK _ _ h) | (simp only [Oper.upon]; exact hK _ _ h)
theorem wpList_stop {w : World} {t : TypeId} {x y : Operand} (ho : o.op = .store t x y) (h : Stop (wpList P ops Q [o] a w)) : wpList P ops Q [o] a w := h
end
def zeroTab : Array Value := #[.slice none 0 0, .int .i64 0, .slice none 0 0, .int .i64 0, .slice none 0 0, .int .i64 0, .slice none 0 0, .int .i64 0, .slice none 0 0, .int .i64 0, .slice none 0 0, .int .i64 0, .slice none 0 0, .int .i64 0, .slice none 0 0, .int .i64 0, .slice none 0 0, .int .i64 0, .slice none 0 0, .int .i64 0, .slice none 0 0, .int .i64 0, .slice none 0 0, .int .i64 0, .slice none 0 0, .int .i64 0, .slice none 0 0, .int .i64 0, .slice none 0 0, .int .i64 0, .slice none 0 0, .int .i64 0, .slice none 0 0, .int .i64 0]
/-- the table: each tag's names, and its class -/
def TabIs (w : World) (e : Ending) (w' : World) : Prop := ∃ B g1 g2 g3 g4 g5 g6 g7 g8 g9 g10 g11 g12 g13 g14 g15 g16 : Nat, e = .returned (.agg #[.slice none 0 0, .int .i64 1, .slice (some ⟨g1, 0, none⟩) 1 1, .int .i64 2, .slice (some ⟨g2, 0, none⟩) 1 1, .int .i64 3, .slice (some ⟨g3, 0, none⟩) 1 1, .int .i64 3, .slice (some ⟨g4, 0, none⟩) 1 1, .int .i64 3, .slice (some ⟨g5, 0, none⟩) 1 1, .int .i64 3, .slice (some ⟨g6, 0, none⟩) 1 1, .int .i64 2, .slice (some ⟨g7, 0, none⟩) 1 1, .int .i64 2, .slice (some ⟨g8, 0, none⟩) 1 1, .int .i64 2, .slice (some ⟨g9, 0, none⟩) 1 1, .int .i64 3, .slice (some ⟨g10, 0, none⟩) 1 1, .int .i64 4, .slice (some ⟨g11, 0, none⟩) 2 2, .int .i64 4, .slice (some ⟨g12, 0, none⟩) 2 2, .int .i64 4, .slice (some ⟨g13, 0, none⟩) 2 2, .int .i64 4, .slice (some ⟨g14, 0, none⟩) 3 3, .int .i64 4, .slice (some ⟨g15, 0, none⟩) 1 1, .int .i64 4, .slice (some ⟨g16, 0, none⟩) 1 1, .int .i64 5]) ∧ Has B [(g16, #[.string ⟨#[98, 114]⟩]), (g15, #[.string ⟨#[115, 112, 97, 110]⟩]), (g14, #[.string ⟨#[115]⟩, .string ⟨#[115, 116, 114, 105, 107, 101]⟩, .string ⟨#[100, 101, 108]⟩]), (g13, #[.string ⟨#[117]⟩, .string ⟨#[105, 110, 115]⟩]), (g12, #[.string ⟨#[105]⟩, .string ⟨#[101, 109]⟩]), (g11, #[.string ⟨#[98]⟩, .string ⟨#[115, 116, 114, 111, 110, 103]⟩]), (g10, #[.string ⟨#[97]⟩]), (g9, #[.string ⟨#[108, 105]⟩]), (g8, #[.string ⟨#[111, 108]⟩]), (g7, #[.string ⟨#[117, 108]⟩]), (g6, #[.string ⟨#[98, 108, 111, 99, 107, 113, 117, 111, 116, 101]⟩]), (g5, #[.string ⟨#[104, 51]⟩]), (g4, #[.string ⟨#[104, 50]⟩]), (g3, #[.string ⟨#[104, 49]⟩]), (g2, #[.string ⟨#[112]⟩]), (g1, #[.string ⟨#[100, 105, 118]⟩])] w' ∧ Ext w w'
theorem setRow_other (w : World) (b j : Nat) (vs : Array Value) (h : j ≠ b) : (w.setRow b vs).heap[j]? = w.heap[j]? := by simp [World.setRow, Array.getElem?_modify, Ne.symm h]
end Go.Proofs.YtdafdoodegpdhaaGreatDoor

namespace Go.Proofs.YtdafdoodegpdhaaGreatDoor
open Go Go.RowKit Go.BigFrame
set_option linter.unusedVariables false
set_option linter.unusedSimpArgs false

/-- what is told of a tag -/
def OfIs (t : Int) (w : World) (e : Ending) (w' : World) : Prop := ∃ v, e = .returned (.agg #[v, .int .i64 (clsT t)]) ∧ Ext w w' ∧
  ((v = .slice none 0 0 ∧ nameT t = ⟨#[]⟩) ∨ ∃ g n : Nat, v = .slice (some ⟨g, 0, none⟩) n n ∧ 0 < n ∧ w'.cell? ⟨g, 0, none⟩ = some (.string (nameT t)))
theorem Has.cell0 {B : Nat} {l : List (Nat × Array Value)} {w : World} (h : Has B l w) {g : Nat} {cs : Array Value} (hm : (g, cs) ∈ l) {v : Value} (hv : cs[0]? = some v) : w.cell? ⟨g, 0, none⟩ = some v := cellOf (h _ hm).2 hv
end Go.Proofs.YtdafdoodegpdhaaGreatDoor

namespace Go.Proofs.YtdafdoodegpdhaaGreatDoor
open Go Go.RowKit Go.BigFrame
set_option linter.unusedVariables false
set_option linter.unusedSimpArgs false

theorem strCells_bytes (s : ByteArray) : Lib.strCells s = Lib.byteCells s.data.toList := rfl
theorem RowRd.attr {w : World} {a : Addr} {l : List (ByteArray × ByteArray)} {cap n : Nat} (h : RowRd w 2 (.slice (some a) n cap) n (attrCells l)) {k : Nat} {p : ByteArray × ByteArray} (hk : l[k]? = some p) :
    w.cell? (a.add (k * 2)) = some (.string p.1) ∧ w.cell? (a.add (k * 2 + 1)) = some (.string p.2) := by
  obtain ⟨_, ao, cap', e, _, _, hc⟩ := h
  cases e
  obtain ⟨e1, e2⟩ := attrCells_at l k p hk
  exact ⟨hc _ rfl _ _ e1, hc _ rfl _ _ e2⟩
theorem Kept.attr {b : Nat} {w w' : World} (h : Kept b w w') {k : Nat} {cs : Array Value} {fr : Nat × Nat} (hk : w.heap[k]? = some (.cells cs 72 fr)) (hb : k ≠ b) : w'.heap[k]? = some (.cells cs 72 fr) :=
  h k _ hk (fun e => hb (Option.some.inj e)) (fun _ _ e => by cases e)
/-- the rest of an element's markup, behind so many attributes -/
def tailM (n : PN) (nm : List UInt8) (c : Int) (k : Nat) : List UInt8 := (n.attrs.drop k).flatMap attrM ++ [62] ++ if c = 5 then [] else PN.outers n.kids ++ ([60, 47] ++ nm ++ [62])
def costA (l : List (ByteArray × ByteArray)) : Nat := (l.map fun p => p.1.size + 6 * p.2.size + 4).sum
theorem costA_len (l : List (ByteArray × ByteArray)) : l.length ≤ costA l := by
  induction l with
  | nil => simp
  | cons x r ih => simp only [costA, List.map_cons, List.sum_cons, List.length_cons] at ih ⊢; omega
theorem costA_drop {l : List (ByteArray × ByteArray)} {k : Nat} {p : ByteArray × ByteArray} (h : l[k]? = some p) : l.drop k = p :: l.drop (k + 1) ∧ costA (l.drop k) = p.1.size + 6 * p.2.size + 4 + costA (l.drop (k + 1)) := by
  obtain ⟨hk, e⟩ := List.getElem?_eq_some_iff.1 h
  have : l.drop k = p :: l.drop (k + 1) := by rw [← e]; exact List.drop_eq_getElem_cons hk
  refine ⟨this, ?_⟩
  rw [this]; simp [costA]
end Go.Proofs.YtdafdoodegpdhaaGreatDoor

namespace Go.Proofs.YtdafdoodegpdhaaGreatDoor
open Go
set_option linter.unusedVariables false
set_option linter.unusedSimpArgs false

theorem byte_mem {s : ByteArray} {c : UInt8} : c ∈ s.data.toList ↔ ∃ (j : Nat) (h : j < s.size), s[j]'h = c := by
  rw [List.mem_iff_getElem]
  constructor
  · rintro ⟨j, h, e⟩; exact ⟨j, h, e⟩
  · rintro ⟨j, h, e⟩; exact ⟨j, h, e⟩
theorem nameOk_iff (s : ByteArray) : nameOk s = true ↔ (1 ≤ s.size ∧ s.size ≤ 16) ∧ ∀ j (h : j < s.size), nameR (decide (j = 0)) ((s[j]'h).toNat : Int) = true := by
  unfold nameOk
  simp only [Bool.and_eq_true, decide_eq_true_eq, List.all_eq_true]
  have hh : ∀ h : 0 < s.size, s.data.toList.head? = some (s[0]'h) := fun h => by
    rw [List.head?_eq_getElem?, List.getElem?_eq_getElem (by exact h)]; rfl
  constructor
  · rintro ⟨⟨h1, h2⟩, h3⟩
    refine ⟨h1, fun j hj => ?_⟩
    have a := h3 _ (byte_mem.2 ⟨j, hj, rfl⟩)
    rw [hh (by omega)] at h2
    simp only [Option.any_some, decide_eq_true_eq] at h2
    unfold nameR
    by_cases hz : j = 0
    · subst hz
      simp only [decide_true, Bool.or_eq_true, decide_eq_true_eq]
      exact .inl (by omega)
    · simp only [hz, decide_false, Bool.or_eq_true, Bool.not_false, Bool.true_and, decide_eq_true_eq]
      omega
  · rintro ⟨h1, h2⟩
    refine ⟨⟨h1, ?_⟩, fun c hc => ?_⟩
    · rw [hh (by omega)]
      have := h2 0 (by omega)
      unfold nameR at this
      simp only [decide_true, Bool.not_true, Bool.false_and, Bool.or_false, decide_eq_true_eq] at this
      simp only [Option.any_some, decide_eq_true_eq]
      omega
    · obtain ⟨j, hj, rfl⟩ := byte_mem.1 hc
      have := h2 j hj
      unfold nameR at this
      simp only [Bool.or_eq_true, Bool.and_eq_true, decide_eq_true_eq] at this
      omega
theorem name_step {s : ByteArray} (h : nameOk s = true) {pos : Nat} (hp : pos < s.size) : nameR (decide (pos = 0)) (Int.ofNat (Utf8.decode s pos).1) = true := by
  have a := ((nameOk_iff s).1 h).2 pos hp
  have b := nameR_small a
  rw [decode_ascii s pos hp (by omega)]
  exact a
theorem name_next {s : ByteArray} {pos : Nat} (hp : pos < s.size) (h : nameR (decide (pos = 0)) (Int.ofNat (Utf8.decode s pos).1) = true) :
    (Utf8.decode s pos).2 = 1 ∧ nameR (decide (pos = 0)) ((s[pos]'hp).toNat : Int) = true := by
  have b := nameR_small h
  have c := (decode_small s hp (by have := b.2; simp at this; omega)).1
  rw [c] at h ⊢
  exact ⟨rfl, h⟩
theorem attrsMay_iff (l : List (ByteArray × ByteArray)) : attrsMay l = true ↔ ∀ (i : Nat) a, l[i]? = some a → nameOk a.1 = true ∧ valueOk a.2 = true ∧ attrAt l a.1 = i := by
  unfold attrsMay
  rw [List.all_eq_true]
  constructor
  · intro h i a hi
    have := h (a, i) (by rw [List.mk_mem_zipIdx_iff_getElem?]; exact hi)
    simp only [Bool.and_eq_true, decide_eq_true_eq] at this
    exact ⟨this.1.1, this.1.2, this.2⟩
  · rintro h ⟨a, i⟩ hm
    rw [List.mk_mem_zipIdx_iff_getElem?] at hm
    have := h i a hm
    simp only [Bool.and_eq_true, decide_eq_true_eq]
    exact ⟨⟨this.1, this.2.1⟩, this.2.2⟩
theorem attrAt_hit {l : List (ByteArray × ByteArray)} {n : ByteArray} {k : Nat} {a : ByteArray × ByteArray} (h : l[k]? = some a) (e : a.1 = n) (hb : ∀ (j : Nat) x, j < k → l[j]? = some x → x.1 ≠ n) : attrAt l n = k := by
  obtain ⟨hk, ha⟩ := List.getElem?_eq_some_iff.1 h
  have : l.findIdx? (fun a => decide (a.1 = n)) = some k := by
    rw [List.findIdx?_eq_some_iff_getElem]
    refine ⟨hk, by rw [ha]; simpa using e, fun j hj => ?_⟩
    have := hb j _ hj (List.getElem?_eq_getElem (by omega))
    simpa using this
  unfold attrAt; rw [this]
theorem attrAt_none {l : List (ByteArray × ByteArray)} {n : ByteArray} (hb : ∀ (j : Nat) x, l[j]? = some x → x.1 ≠ n) : attrAt l n = -1 := by
  have : l.findIdx? (fun a => decide (a.1 = n)) = none := by
    rw [List.findIdx?_eq_none_iff]
    intro x hx
    obtain ⟨j, hj⟩ := List.mem_iff_getElem?.1 hx
    have := hb j x hj
    simpa using this
  unfold attrAt; rw [this]
theorem attrAt_le {l : List (ByteArray × ByteArray)} {k : Nat} {a : ByteArray × ByteArray} (h : l[k]? = some a) : 0 ≤ attrAt l a.1 ∧ attrAt l a.1 ≤ k := by
  unfold attrAt
  cases e : l.findIdx? (fun x => decide (x.1 = a.1)) with
  | none =>
    rw [List.findIdx?_eq_none_iff] at e
    have := e a (List.mem_of_getElem? h)
    simp at this
  | some j =>
    obtain ⟨hj, _, hb⟩ := List.findIdx?_eq_some_iff_getElem.1 e
    refine ⟨by simp, ?_⟩
    by_cases hk : k < j
    · have := hb k hk
      obtain ⟨hk', ha⟩ := List.getElem?_eq_some_iff.1 h
      rw [ha] at this
      simp at this
    · simp only []; omega
end Go.Proofs.YtdafdoodegpdhaaGreatDoor

namespace Go.Proofs.YtdafdoodegpdhaaGreatDoor
open Go Go.RowKit Go.BigFrame
set_option linter.unusedVariables false
set_option linter.unusedSimpArgs false

theorem setCells_row {e : TypeId} (g : Nat) : ∀ (news : List Value) (o : Nat) (w : World) (cur : Array Value) (fz : Nat × Nat), w.heap[g]? = some (.cells cur e fz) → o + news.length ≤ cur.size →
    ∃ cur', (w.setCells g o news).heap[g]? = some (.cells cur' e fz) ∧ cur'.size = cur.size ∧ cur'.toList.take (o + news.length) = cur.toList.take o ++ news := by
  intro news
  induction news with
  | nil => intro o w cur fz h hl; exact ⟨cur, h, rfl, by simp⟩
  | cons v r ih =>
    intro o w cur fz h hl
    simp only [List.length_cons] at hl
    have h1 := heap_setCell_same (i := o) h v
    obtain ⟨cur', h2, h3, h4⟩ := ih (o + 1) (w.setCell ⟨g, o, none⟩ v) _ fz h1 (by simp; omega)
    refine ⟨cur', h2, by rw [h3]; simp, ?_⟩
    rw [List.length_cons, show o + (r.length + 1) = o + 1 + r.length by omega, h4]
    have hlt : o < cur.toList.length := by simpa using (show o < cur.size by omega)
    have : (cur.setIfInBounds o v).toList.take (o + 1) = cur.toList.take o ++ [v] := by
      have hlt2 : o < cur.size := by simpa using hlt
      have hmin : min o cur.size = o := Nat.min_eq_left (Nat.le_of_lt hlt2)
      rw [Array.toList_setIfInBounds, List.take_set, List.take_succ_eq_append_getElem hlt, List.set_append_right _ _ (by simp; omega)]
      simp [hmin]
    rw [this]; simp
theorem below_sc {B : Nat} {a : World} (b : Nat) (hb : B ≤ b) : ∀ (vs : List Value) (o : Nat) {w : World}, Below B a w → Below B a (w.setCells b o vs)
  | [], _, _, h => h
  | v :: vs, o, w, h => below_sc b hb vs (o + 1) (h.setCell (p := ⟨b, o, none⟩) hb v)
theorem size_sc (b : Nat) : ∀ (vs : List Value) (o : Nat) (w : World), (w.setCells b o vs).heap.size = w.heap.size
  | [], _, _ => rfl
  | v :: vs, o, w => by
    show ((w.setCell ⟨b, o, none⟩ v).setCells b (o + 1) vs).heap.size = _
    rw [size_sc b vs (o + 1)]; simp
/-- a slice of new memory that holds these bytes; what lies behind them may be written -/
def Buf (W0 : World) (v : Value) (l : List UInt8) (w : World) : Prop := ∃ (g cap : Nat) (cur : Array Value) (fz : Nat × Nat), v = .slice (some ⟨g, 0, none⟩) l.length cap ∧ W0.heap.size ≤ g ∧ w.heap[g]? = some (.cells cur 5 fz) ∧
  (fz.2 ≤ l.length ∨ cap ≤ fz.1) ∧ l.length ≤ cap ∧ cap ≤ maxLen ∧ cur.size = cap ∧ cur.toList.take l.length = Lib.byteCells l ∧ Below W0.heap.size W0 w ∧ W0.heap.size ≤ w.heap.size
theorem Buf.at {W0 w : World} {v : Value} {l : List UInt8} (h : Buf W0 v l w) : ∃ g cap cur fz, v = .slice (some ⟨g, 0, none⟩) l.length cap ∧ W0.heap.size ≤ g ∧ w.heap[g]? = some (.cells cur 5 fz) ∧ cur.toList.take l.length = Lib.byteCells l := by
  obtain ⟨g, cap, cur, fz, h1, h2, h3, _, _, _, _, h8, _⟩ := h
  exact ⟨g, cap, cur, fz, h1, h2, h3, h8⟩
theorem Buf.cells {W0 w : World} {v : Value} {l : List UInt8} (h : Buf W0 v l w) {g n cap : Nat} (hv : v = .slice (some ⟨g, 0, none⟩) n cap) : ∀ j u, (Lib.byteCells l)[j]? = some u → w.cell? ((⟨g, 0, none⟩ : Addr).add j) = some u := by
  obtain ⟨g', cap', cur, fz, h1, h2, h3, _, _, _, _, h8, _⟩ := h
  rw [hv] at h1
  cases h1
  intro j u hj
  rw [Addr.add_lit, Nat.zero_add]
  refine cellOf h3 ?_
  rw [← h8, List.getElem?_take] at hj
  split at hj
  · rw [← Array.getElem?_toList]; exact hj
  · cases hj
theorem Buf.ex {W0 w : World} {v : Value} {l : List UInt8} (h : Buf W0 v l w) : Ext W0 w := by
  obtain ⟨g, cap, cur, fz, _, _, _, _, _, _, _, _, h9, _⟩ := h; exact h9
theorem Buf.ext {W0 w w' : World} {v : Value} {l : List UInt8} (h : Buf W0 v l w) (k : Ext w w') : Buf W0 v l w' := by
  obtain ⟨g, cap, cur, fz, h1, h2, h3, h4, h5, h6, h7, h8, h9, h10⟩ := h
  exact ⟨g, cap, cur, fz, h1, h2, k.block h3, h4, h5, h6, h7, h8, Below.trans h9 (Below.mono k h10), Nat.le_trans h10 k.size⟩
theorem Buf.new (w : World) : Buf w (.slice (some ⟨w.heap.size, 0, none⟩) 0 0) [] (w.alloc (.cells #[] 5)) :=
  ⟨w.heap.size, 0, #[], (0, 0), rfl, Nat.le_refl _, heap_alloc_new w _, .inl (Nat.le_refl _), Nat.le_refl _, Nat.zero_le _, rfl, rfl, (Ext.refl w).alloc _, by simp⟩
theorem Buf.base {W0 W w : World} {v : Value} {l : List UInt8} (h : Buf W v l w) (k : Ext W0 W) : Buf W0 v l w := by
  obtain ⟨g, cap, cur, fz, h1, h2, h3, h4, h5, h6, h7, h8, h9, h10⟩ := h
  exact ⟨g, cap, cur, fz, h1, Nat.le_trans k.size h2, h3, h4, h5, h6, h7, h8, Below.trans k (Below.mono h9 k.size), Nat.le_trans k.size h10⟩
def RBuf (l : List UInt8) (w : World) (e : Ending) (w' : World) : Prop := ∃ v, e = .returned v ∧ Buf w v l w'
/-- bytes appended -/
theorem run_buf {W0 w : World} {v : Value} {l : List UInt8} (h : Buf W0 v l w) {tx : TypeId} {x : Value} {l2 : List UInt8} (ty : TypeId) (hs : Src Tryz.prog 1 tx x l2.length (Lib.byteCells l2) w) (hlen : l.length + l2.length ≤ 140737488355328) :
    ∃ v' w', (Builtin.append_ #[42, tx] ty #[v, x]).run Tryz.prog w = .ok v' w' ∧ Buf W0 v' (l ++ l2) w' := by
  have hcells : ∀ g n cap, v = .slice (some ⟨g, 0, none⟩) n cap → ∀ j u, (Lib.byteCells l)[j]? = some u → w.cell? ((⟨g, 0, none⟩ : Addr).add j) = some u := fun g n cap hv => h.cells hv
  obtain ⟨g, cap, cur, fz, rfl, h2, h3, h4, h5, h6, h7, h8, h9, h10⟩ := h
  obtain ⟨i0, hi, hz0, hz1, hz2⟩ := info_parts infoByte
  have hl2 : (Lib.byteCells l2).length = l2.length := Lib.byteCells_length l2
  have hl1 : (Lib.byteCells l).length = l.length := Lib.byteCells_length l
  have hlt : g < w.heap.size := (Array.getElem?_eq_some_iff.1 h3).1
  by_cases hroom : l.length + l2.length ≤ cap
  · have hr := run_append_room_src (P := Tryz.prog) (w := w) 42 tx ty 5 i0 Tryz.underlying42 hi g 0 l.length cap x l2.length (Lib.byteCells l2) (by rw [hz1]; exact hs) hroom
      (by
        intro j hj
        rw [hz1, Nat.zero_add, Nat.mul_one]
        have : l.length + j < cur.size := by omega
        rw [cellOf h3 (i := l.length + j) (v := cur[l.length + j]) (by simp [this])]; rfl)
      (by
        intro j hj
        rw [hz1, Nat.zero_add, Nat.mul_one]
        unfold World.frozen?
        simp only [h3]
        rcases h4 with h4 | h4 <;> simp <;> omega)
    rw [hz1, Nat.mul_one, Nat.zero_add] at hr
    obtain ⟨cur', q1, q2, q3⟩ := setCells_row g (Lib.byteCells l2) l.length w cur fz h3 (by omega)
    refine ⟨_, _, hr, g, cap, cur', fz, by rw [List.length_append], h2, q1, ?_, by rw [List.length_append]; exact hroom, h6, by omega, ?_, ?_, ?_⟩
    · rw [List.length_append]; omega
    · rw [List.length_append, Lib.byteCells_append, ← h8, ← q3, hl2]
    · exact below_sc g h2 _ _ h9
    · rw [size_sc]; exact h10
  · have hold : (Builtin.firstCells i0.size l.length (.slice (some ⟨g, 0, none⟩) l.length cap)).run Tryz.prog w.drew = .ok (Lib.byteCells l).toArray w.drew := by
      rw [hz1]
      exact run_firstCells_some w.drew 1 l.length ⟨g, 0, none⟩ l.length cap (Lib.byteCells l) (by omega) (by simpa using hcells g _ _ rfl)
    have hr := run_append_grow_src (P := Tryz.prog) (w := w) 42 tx ty 5 i0 (.int .u8 0) Tryz.underlying42 hi hz0 (some ⟨g, 0, none⟩) l.length cap (Lib.byteCells l) hold x l2.length (Lib.byteCells l2) (by rw [hz1]; exact hs) (by omega) (by omega) (by rw [hz2]; exact growslice_fits (by omega) (by omega))
    have hge := grownCap_ge w (l.length + l2.length) cap 5
    have hcm2 : grownCap w (l.length + l2.length) cap 5 ≤ maxLen := grownCap_le_maxLen w (l.length + l2.length) cap 5 (by unfold maxLen; omega)
    refine ⟨_, _, hr, w.heap.size, _, _, (0, 0), by rw [List.length_append], h10, heap_alloc_new w.drew _, .inl (Nat.zero_le _), by rw [List.length_append]; exact hge, hcm2, ?_, ?_, Below.alloc (Below.drew h9) (by simpa using h10) _, by simp; omega⟩
    · simp only [Array.size_append, List.size_toArray, size_zeroCells, List.length_append, hl1, hl2]
      simp [Value.cells]
      omega
    · rw [Array.toList_append, List.length_append, Lib.byteCells_append]
      exact List.take_left' (by rw [List.length_append, hl1, hl2])
section
variable {ops : Array Oper} {rest : List Oper} {o : Oper} {a : Act} {Q : Exit → Act → World → Prop}
theorem wpB_text {w : World} (hgd : o.guard = none) (sl x : Operand) (ho : o.op = .call { callee := .builtin .append, args := #[sl, x], argTypes := #[42, 9] })
    (v : Value) (l : List UInt8) (hs : a.eval sl = v) (W0 : World) (hb : Buf W0 v l w) (s : ByteArray) (hx : a.eval x = .string s) (hlen : l.length + s.size ≤ 140737488355328)
    (l' : List UInt8) (hl : l ++ s.data.toList = l') (h : ∀ v' w', Buf W0 v' l' w' → wpList Tryz.prog ops Q rest (a.put o.dst v') w') : wpList Tryz.prog ops Q (o :: rest) a w := by
  refine wpList_plain hgd fun K hK => ?_
  obtain ⟨v', w', hr, hb'⟩ := run_buf hb (x := .string s) (l2 := s.data.toList) o.type (Src.ofString w Tryz.underlying9 s) hlen
  subst hl
  unfold Oper.wp execOp
  simp only [ho, resolve, invoke, builtin, Sem.run_bind, Sem.run_pure, Result.andThen_ok, List.map_toArray, List.map_cons, List.map_nil, hs, hx, hr]
  exact hK _ _ (h v' w' hb')
theorem wpB_buf {w : World} (hgd : o.guard = none) (sl x : Operand) (ho : o.op = .call { callee := .builtin .append, args := #[sl, x], argTypes := #[42, 42] })
    (v : Value) (l : List UInt8) (hs : a.eval sl = v) (W0 W1 : World) (hb : Buf W0 v l w) (v2 : Value) (l2 : List UInt8) (hb2 : Buf W1 v2 l2 w) (hx : a.eval x = v2) (hlen : l.length + l2.length ≤ 140737488355328)
    (l' : List UInt8) (hl : l ++ l2 = l') (h : ∀ v' w', Buf W0 v' l' w' → wpList Tryz.prog ops Q rest (a.put o.dst v') w') : wpList Tryz.prog ops Q (o :: rest) a w := by
  obtain ⟨g, cap, cur, fz, hv, _, _, _⟩ := hb2.at
  refine wpList_plain hgd fun K hK => ?_
  obtain ⟨v', w', hr, hb'⟩ := run_buf hb (x := v2) (l2 := l2) o.type (by
    rw [hv]
    refine Src.ofSlice w Tryz.underlying42 ⟨g, 0, none⟩ l2.length cap (Lib.byteCells l2) (by rw [Lib.byteCells_length, Nat.mul_one]) (hb2.cells hv) ?_
    intro u hu
    simp only [Lib.byteCells, List.mem_map] at hu
    obtain ⟨c, _, rfl⟩ := hu
    rfl) hlen
  subst hl
  unfold Oper.wp execOp
  simp only [ho, resolve, invoke, builtin, Sem.run_bind, Sem.run_pure, Result.andThen_ok, List.map_toArray, List.map_cons, List.map_nil, hs, hx, hr]
  exact hK _ _ (h v' w' hb')
theorem wpB_byte {w : World} (hgd : o.guard = none) (sl x : Operand) (ho : o.op = .call { callee := .builtin .append, args := #[sl, x], argTypes := #[42, 42] })
    (v : Value) (l : List UInt8) (hs : a.eval sl = v) (W0 : World) (hb : Buf W0 v l w) (c : UInt8) (z : Int) (hz : z = (c.toNat : Int)) (hx : a.eval x = .slice (some ⟨w.heap.size, 0, none⟩) 1 1) (hlen : l.length + 1 ≤ 140737488355328)
    (l' : List UInt8) (hl : l ++ [c] = l') (h : ∀ v' w', Buf W0 v' l' w' → wpList Tryz.prog ops Q rest (a.put o.dst v') w') : wpList Tryz.prog ops Q (o :: rest) a (w.alloc (.cells #[.int .u8 z] 5)) := by
  subst hz
  have hbw : Buf w (.slice (some ⟨w.heap.size, 0, none⟩) 1 1) [c] (w.alloc (.cells #[.int .u8 (c.toNat : Int)] 5)) :=
    ⟨w.heap.size, 1, _, (0, 0), rfl, Nat.le_refl _, heap_alloc_new w _, .inl (Nat.zero_le _), Nat.le_refl _, by decide, rfl, rfl, (Ext.refl w).alloc _, by simp⟩
  exact wpB_buf hgd sl x ho v l hs W0 w (hb.ext ((Ext.refl w).alloc _)) _ [c] hbw hx hlen l' hl h
end
end Go.Proofs.YtdafdoodegpdhaaGreatDoor

namespace Go.Proofs.YtdafdoodegpdhaaGreatDoor
open Go Go.RowKit Go.BigFrame
set_option linter.unusedVariables false
set_option linter.unusedSimpArgs false

set_option maxRecDepth 20000 in
set_option maxHeartbeats 400000 in
theorem Anew_big (s : ByteArray) (hs : s.size ≤ 1000000000000) (w : World) : Calls Tryz.prog 15 #[.string s] w (RVal (.string (anewB s)) w) := by
  have h1 := run_runes_of_string (P := Tryz.prog) w 9 46 21 s Tryz.underlying9 Tryz.underlying46 Tryz.underlying21 (by have := size_runesFrom s s.size 0 #[]; simp at this; omega)
  have e1 : Conv.runesFrom s s.size 0 #[] = ((runeList s s.size 0).map (Value.int .i32)).toArray := by rw [runesFrom_eq]; simp
  have hz : anewB s = runesBytes (runeList s s.size 0) := rfl
  have HZ := Lib.hid hz
  rw [e1] at h1
  clear hz e1 hs
  generalize runeList s s.size 0 = l at *
  generalize hk : grownCap w (List.map (Value.int IntKind.i32) l).toArray.size 0 21 = K at *
  have hge := grownCap_ge w (List.map (Value.int IntKind.i32) l).toArray.size 0 21
  rw [hk] at hge
  clear hk
  generalize hC : (List.map (Value.int IntKind.i32) l).toArray ++ Array.replicate (K - (List.map (Value.int IntKind.i32) l).toArray.size) (Value.int IntKind.i32 0) = C at *
  have h2 := run_convert_runes (P := Tryz.prog) (w.drew.alloc (.cells C 21)) 46 9 21 ⟨w.heap.size, 0, none⟩ l.length K l (Nat.le_refl _) Tryz.underlying46 Tryz.underlying21 Tryz.underlying9
    (by
      intro j hj
      have hb : (w.drew.alloc (.cells C 21)).heap[w.heap.size]? = some (.cells C 21 (0, 0)) := heap_alloc_new w.drew _
      rw [Addr.add_lit, Nat.zero_add]
      refine cellOf hb ?_
      rw [← hC, Array.getElem?_append_left (by simpa using hj)]
      simp [hj])
  rw [List.take_length] at h2
  simp only [List.size_toArray, List.length_map] at h1
  clear hC hge
  have HH1 := Lib.hid h1
  have HH2 := Lib.hid h2
  clear h1 h2
  go_enter Tryz.func15, Tryz.ntmps15
  go_wp2_with fail
  rw [HH1.out]
  go_wp2_with fail
  have h2' : Sem.run Tryz.prog (convert 46 9 (Value.slice (some { block := w.heap.size, off := 0 }) l.length K)) (w.alloc (Obj.cells C 21)).drew = Result.ok (Value.string (runesBytes l)) (w.alloc (Obj.cells C 21)).drew := HH2.out
  rw [h2']
  clear h2'
  go_wp2_with fail
  go_ret
  exact ⟨by rw [HZ.out]; rfl, ((Ext.refl _).alloc _).drew⟩
end Go.Proofs.YtdafdoodegpdhaaGreatDoor

namespace Go.Proofs.YtdafdoodegpdhaaGreatDoor
open Go Go.RowKit Go.BigFrame
set_option linter.unusedVariables false
set_option linter.unusedSimpArgs false

/-- a tag's names -/
def NamesIs (t : Int) (w : World) (e : Ending) (w' : World) : Prop := ∃ v, e = .returned v ∧ Ext w w' ∧
  ((v = .slice none 0 0 ∧ nameT t = ⟨#[]⟩) ∨ ∃ g n : Nat, v = .slice (some ⟨g, 0, none⟩) n n ∧ 0 < n ∧ w'.cell? ⟨g, 0, none⟩ = some (.string (nameT t)))
def TabN (w : World) (v : Value) (w' : World) : Prop := ∃ T B g1 g2 g3 g4 g5 g6 g7 g8 g9 g10 g11 g12 g13 g14 g15 g16 : Nat, v = .slice (some ⟨T, 0, none⟩) 17 17 ∧ w'.heap[T]? = some (.cells #[.slice none 0 0, .slice (some ⟨g1, 0, none⟩) 1 1, .slice (some ⟨g2, 0, none⟩) 1 1, .slice (some ⟨g3, 0, none⟩) 1 1, .slice (some ⟨g4, 0, none⟩) 1 1, .slice (some ⟨g5, 0, none⟩) 1 1, .slice (some ⟨g6, 0, none⟩) 1 1, .slice (some ⟨g7, 0, none⟩) 1 1, .slice (some ⟨g8, 0, none⟩) 1 1, .slice (some ⟨g9, 0, none⟩) 1 1, .slice (some ⟨g10, 0, none⟩) 1 1, .slice (some ⟨g11, 0, none⟩) 2 2, .slice (some ⟨g12, 0, none⟩) 2 2, .slice (some ⟨g13, 0, none⟩) 2 2, .slice (some ⟨g14, 0, none⟩) 3 3, .slice (some ⟨g15, 0, none⟩) 1 1, .slice (some ⟨g16, 0, none⟩) 1 1] 73 (0, 0)) ∧ Has B [(g16, #[.string ⟨#[98, 114]⟩]), (g15, #[.string ⟨#[115, 112, 97, 110]⟩]), (g14, #[.string ⟨#[115]⟩, .string ⟨#[115, 116, 114, 105, 107, 101]⟩, .string ⟨#[100, 101, 108]⟩]), (g13, #[.string ⟨#[117]⟩, .string ⟨#[105, 110, 115]⟩]), (g12, #[.string ⟨#[105]⟩, .string ⟨#[101, 109]⟩]), (g11, #[.string ⟨#[98]⟩, .string ⟨#[115, 116, 114, 111, 110, 103]⟩]), (g10, #[.string ⟨#[97]⟩]), (g9, #[.string ⟨#[108, 105]⟩]), (g8, #[.string ⟨#[111, 108]⟩]), (g7, #[.string ⟨#[117, 108]⟩]), (g6, #[.string ⟨#[98, 108, 111, 99, 107, 113, 117, 111, 116, 101]⟩]), (g5, #[.string ⟨#[104, 51]⟩]), (g4, #[.string ⟨#[104, 50]⟩]), (g3, #[.string ⟨#[104, 49]⟩]), (g2, #[.string ⟨#[112]⟩]), (g1, #[.string ⟨#[100, 105, 118]⟩])] w' ∧ Ext w w'
end Go.Proofs.YtdafdoodegpdhaaGreatDoor

namespace Go.Proofs.YtdafdoodegpdhaaGreatDoor
open Go Go.RowKit Go.BigFrame
set_option linter.unusedVariables false
set_option linter.unusedSimpArgs false

/-- a text's bytes in new memory -/
theorem run_toBytes (w : World) (s : ByteArray) (hs : s.size ≤ 140737488355328) : ∃ v w', (Go.convert 9 42 (.string s)).run Tryz.prog w = .ok v w' ∧ Buf w v s.data.toList w' := by
  have hsz : s.data.toList.length = s.size := rfl
  have hge := grownCap_ge w s.size 0 5
  have hcm := grownCap_le_maxLen w s.size 0 5 (by unfold maxLen; omega)
  have hcs : (Lib.bytesCells w 5 s).size = grownCap w s.size 0 5 := by
    unfold Lib.bytesCells
    simp
    show s.size + _ = _
    omega
  refine ⟨_, _, Lib.run_convert_string_bytes w 9 42 5 s Tryz.underlying9 Tryz.underlying42 Tryz.underlying5, w.heap.size, _, _, _, rfl, Nat.le_refl _, Lib.bytesWorld_at_new w 5 s, .inr ?_, ?_, hcm, hcs, ?_, Joins.below_bytesWorld _ w _ s (Nat.le_refl _), ?_⟩
  · exact Nat.le_of_eq hcs.symm
  · rw [hsz]; exact hge
  · unfold Lib.bytesCells Lib.byteCells
    simp
  · rw [Lib.bytesWorld_size]; omega
/-- bytes as a text -/
theorem run_ofBytes {W0 w : World} {v : Value} {l : List UInt8} (h : Buf W0 v l w) : (Go.convert 42 9 v).run Tryz.prog w = .ok (.string ⟨l.toArray⟩) w := by
  obtain ⟨g, cap, cur, fz, hv, _, _, _⟩ := h.at
  rw [hv]
  refine run_convert_bytes_back w 42 9 5 ⟨g, 0, none⟩ cap l Tryz.underlying42 Tryz.underlying5 Tryz.underlying9 fun j hj => ?_
  refine h.cells hv j _ ?_
  unfold Lib.byteCells
  simp [hj]

theorem RBuf.mk' {l l' : List UInt8} {w W w' : World} {v : Value} (h : Buf W v l w') (k : Ext w W) (e : l = l') : RBuf l' w (.returned v) w' := ⟨v, rfl, e ▸ h.base k⟩
end Go.Proofs.YtdafdoodegpdhaaGreatDoor

namespace Go.Proofs.YtdafdoodegpdhaaGreatDoor
open Go Go.RowKit Go.BigFrame
set_option linter.unusedVariables false
set_option linter.unusedSimpArgs false

theorem Ext.iterAt {w wr : World} (h : Ext w wr) {k : Nat} (hk : w.heap.size ≤ k) (s : ByteArray) (pos : Nat) : Ext w (wr.iterAt k s pos) := Lib.below_iterAt h hk s pos
set_option maxHeartbeats 400000 in
set_option maxRecDepth 100000 in
theorem ValidRune_ok (r : Int) (h : Utf8.valid r = true) (w : World) : Calls Tryz.prog 76 #[.int .i32 r] w (RBool true w) := by
  obtain ⟨n, rfl, hn⟩ := valid_cases h
  have h0 : (0 : Int) ≤ (n : Int) := by omega
  have x := Ext.refl w
  clear h
  by_cases h1 : n < 55296
  · have h2 : (n : Int) < 55296 := by omega
    clear hn h1
    go_enter Tryz.func76, Tryz.ntmps76
    go_wp2
    go_ret
    exact ⟨rfl, x⟩
  · have h2 : ¬ (n : Int) < 55296 := by omega
    have h3 : (57343 : Int) < (n : Int) := by omega
    have h4 : (n : Int) ≤ 1114111 := by omega
    clear hn h1
    go_enter Tryz.func76, Tryz.ntmps76
    go_wp2
    go_ret
    exact ⟨rfl, x⟩
/-- a character's class, as far as it is asked: is it one that may be? -/
def ClassIs (r : Int) (w : World) (e : Ending) (w' : World) : Prop := ∃ k : Int, e = .returned (.int .i64 k) ∧ decide (1 < k) = mayR r ∧ Ext w w'
set_option maxHeartbeats 1000000 in
set_option maxRecDepth 100000 in
theorem CClass_any (r : Int) (h : Utf8.valid r = true) (w : World) : Calls Tryz.prog 79 #[.int .i32 r] w (ClassIs r w) := by
  have hv := ValidRune_ok r h w
  obtain ⟨n, rfl, hn⟩ := valid_cases h
  have HV := Lib.hid hv
  have fin : ∀ (k : Int) (w' : World), decide (1 < k) = mayR (n : Int) → Ext w w' → ClassIs (n : Int) w (.returned (.int .i64 k)) w' := fun k w' h1 h2 => ⟨k, rfl, h1, h2⟩
  have FIN := Lib.hid fin
  have HN := Lib.hid hn
  clear h hv hn fin
  go_enter Tryz.func79, Tryz.ntmps79
  go_wp2_with fail
  refine HV.out.mono ?_
  rintro e w1 ⟨rfl, x1⟩
  have X1 := Lib.hid x1
  clear x1
  by_cases a1 : (n : Int) < 32
  · go_wp2_with fail
    go_ret
    exact FIN.out _ _ (by unfold mayR; simp; omega) X1.out
  by_cases a2 : (n : Int) = 127
  · have b2 : ((n : Int) == 127) = true := by simpa using a2
    have A2 := Lib.hid a2
    clear a2
    go_wp2_with fail
    go_ret
    exact FIN.out _ _ (by unfold mayR; have := A2.out; simp; omega) X1.out
  have b2 : ((n : Int) == 127) = false := by simpa using a2
  have hm : mayR (n : Int) = true := by unfold mayR; simp; omega
  rw [hm] at FIN
  have A1 := Lib.hid a1
  by_cases a3 : (n : Int) = 32
  · have b3 : ((n : Int) == 32) = true := by simpa using a3
    clear a3 a2
    go_wp2_with fail
    go_ret
    exact FIN.out _ _ rfl X1.out
  have b3 : ((n : Int) == 32) = false := by simpa using a3
  by_cases a4 : (n : Int) = 160
  · have b4 : ((n : Int) == 160) = true := by simpa using a4
    clear a4 a3 a2
    go_wp2_with fail
    go_ret
    exact FIN.out _ _ rfl X1.out
  have b4 : ((n : Int) == 160) = false := by simpa using a4
  by_cases a5 : (n : Int) = 65533
  · have b5 : ((n : Int) == 65533) = true := by simpa using a5
    clear a5 a4 a3 a2
    go_wp2_with fail
    go_ret
    exact FIN.out _ _ rfl X1.out
  have b5 : ((n : Int) == 65533) = false := by simpa using a5
  clear a5 a4 a3 a2
  by_cases a6 : (128 : Int) ≤ (n : Int)
  · have c1 : (97 : Int) ≤ (n : Int) := by omega
    have c2 : ¬ (n : Int) ≤ 122 := by omega
    have c3 : (65 : Int) ≤ (n : Int) := by omega
    have c4 : ¬ (n : Int) ≤ 90 := by omega
    go_wp2_with fail
    go_ret
    exact FIN.out _ _ rfl X1.out
  by_cases a7 : (97 : Int) ≤ (n : Int)
  · by_cases a8 : (n : Int) ≤ 122
    · go_wp2_with fail
      go_ret
      exact FIN.out _ _ rfl X1.out
    · have c3 : (65 : Int) ≤ (n : Int) := by omega
      have c4 : ¬ (n : Int) ≤ 90 := by omega
      have c5 : (48 : Int) ≤ (n : Int) := by omega
      have c6 : ¬ (n : Int) ≤ 57 := by omega
      go_wp2_with fail
      go_ret
      exact FIN.out _ _ rfl X1.out
  by_cases a9 : (65 : Int) ≤ (n : Int)
  · by_cases a8 : (n : Int) ≤ 90
    · go_wp2_with fail
      go_ret
      exact FIN.out _ _ rfl X1.out
    · have c5 : (48 : Int) ≤ (n : Int) := by omega
      have c6 : ¬ (n : Int) ≤ 57 := by omega
      go_wp2_with fail
      go_ret
      exact FIN.out _ _ rfl X1.out
  by_cases a8 : (48 : Int) ≤ (n : Int)
  · by_cases a10 : (n : Int) ≤ 57
    · go_wp2_with fail
      go_ret
      exact FIN.out _ _ rfl X1.out
    · go_wp2_with fail
      go_ret
      exact FIN.out _ _ rfl X1.out
  · go_wp2_with fail
    go_ret
    exact FIN.out _ _ rfl X1.out
set_option maxHeartbeats 400000 in
set_option maxRecDepth 100000 in
theorem CMay_any (r : Int) (h : Utf8.valid r = true) (w : World) : Calls Tryz.prog 70 #[.int .i32 r] w (RBool (mayR r) w) := by
  have HC := Lib.hid (CClass_any r h w)
  clear h
  obtain ⟨b, hb⟩ : ∃ b, mayR r = b := ⟨_, rfl⟩
  rw [hb]
  have HB := Lib.hid hb
  clear hb
  go_enter Tryz.func70, Tryz.ntmps70
  go_wp2_with fail
  refine HC.out.mono ?_
  rintro e w1 ⟨k, rfl, hk, x1⟩
  have HK := Lib.hid hk
  clear hk
  go_wp2_with fail
  go_ret
  exact ⟨by rw [← HB.out, ← HK.out]; rfl, x1⟩
set_option maxHeartbeats 1000000 in
set_option maxRecDepth 100000 in
theorem AName_any (s : ByteArray) (w : World) : Calls Tryz.prog 54 #[.string s] w (RBool (nameOk s) w) := by
  have x0 := Ext.refl w
  obtain ⟨b, hb⟩ : ∃ b, nameOk s = b := ⟨_, rfl⟩
  rw [hb]
  have HB := Lib.hid hb
  clear hb
  by_cases h1 : s.size < 1
  · have e : b = false := by
      cases hb : b
      · rfl
      · have := ((nameOk_iff s).1 (HB.out.trans hb)).1; omega
    subst e
    have h1' : (s.size : Int) < 1 := by omega
    clear h1
    go_enter Tryz.func54, Tryz.ntmps54
    go_wp2
    go_ret
    exact ⟨rfl, x0⟩
  have h1' : ¬ (s.size : Int) < 1 := by omega
  by_cases h2 : 16 < s.size
  · have e : b = false := by
      cases hb : b
      · rfl
      · have := ((nameOk_iff s).1 (HB.out.trans hb)).1; omega
    subst e
    have h2' : (16 : Int) < (s.size : Int) := by omega
    clear h1 h2
    go_enter Tryz.func54, Tryz.ntmps54
    go_wp2
    go_ret
    exact ⟨rfl, x0⟩
  have h2' : ¬ (16 : Int) < (s.size : Int) := by omega
  have HS := Lib.hid (show 1 ≤ s.size ∧ s.size ≤ 16 by omega)
  clear h1 h2
  go_enter Tryz.func54, Tryz.ntmps54
  go_wp2_with fail
  clear h1' h2'
  go_loopw [] (fun wr => ∃ pos : Nat, wr.heap[w.heap.size]? = some (.stringIter s pos) ∧ Ext w wr ∧ pos ≤ s.size ∧ ∀ j (h : j < s.size), j < pos → nameR (decide (j = 0)) ((s[j]'h).toNat : Int) = true) (fun wr => s.size - wr.iterPos w.heap.size)
  case atStart => exact ⟨0, by have := World.iter_heap w s 0; simpa using this, (Ext.refl w).alloc _, Nat.zero_le _, fun j _ hj => absurd hj (Nat.not_lt_zero _)⟩
  case round =>
    obtain ⟨pos, hit, xr, hle, hpre⟩ := hrel
    have hsz : w.heap.size < wr.heap.size := (Array.getElem?_eq_some_iff.1 hit).1
    have HPRE := Lib.hid hpre
    clear hpre
    by_cases hp : pos < s.size
    · have hnx : ∀ ty, (Instr.next (.pointer (some ⟨w.heap.size, 0, none⟩)) true ty).run Tryz.prog wr = _ := fun ty => Lib.run_next_any_at wr w.heap.size s pos ty hit hp
      have HST := Lib.hid (fun h : nameOk s = true => name_step h hp)
      have HNX := Lib.hid (fun h => name_next (s := s) (pos := pos) hp h)
      have HDL := Lib.hid (decode_le s pos)
      have hit2 := Lib.iterAt_heap wr w.heap.size s pos (pos + (Utf8.decode s pos).2) hit
      have xr2 := xr.iterAt (Nat.le_refl _) s (pos + (Utf8.decode s pos).2)
      have HIT2 := Lib.hid hit2
      have XR2 := Lib.hid xr2
      have HIT := Lib.hid hit
      clear hit hit2 xr xr2
      generalize Utf8.decode s pos = D at *
      obtain ⟨rn, wd⟩ := D
      dsimp only at *
      have good : nameR (decide (pos = 0)) (Int.ofNat rn) = true → ∃ wx : World, wx = wr.iterAt w.heap.size s (pos + wd) ∧ (∃ pos : Nat, wx.heap[w.heap.size]? = some (.stringIter s pos) ∧ Ext w wx ∧ pos ≤ s.size ∧ ∀ j (h : j < s.size), j < pos → nameR (decide (j = 0)) ((s[j]'h).toNat : Int) = true) ∧ s.size - wx.iterPos w.heap.size < s.size - wr.iterPos w.heap.size := by
        intro h
        obtain ⟨e1, e2⟩ := HNX.out h
        refine ⟨_, rfl, ⟨pos + wd, HIT2.out, XR2.out, by omega, fun j hj hlt => ?_⟩, ?_⟩
        · by_cases hjp : j = pos
          · subst hjp; exact e2
          · exact HPRE.out j hj (by omega)
        · simp only [World.iterPos, HIT2.out, HIT.out]; omega
      have bad : nameR (decide (pos = 0)) (Int.ofNat rn) = false → b = false := by
        intro h
        cases hb : b
        · rfl
        · have := HST.out (HB.out.trans hb); rw [h] at this; cases this
      have GOOD := Lib.hid good
      have BAD := Lib.hid bad
      clear good bad
      by_cases l1 : (97 : Int) ≤ (rn : Int) ∧ (rn : Int) ≤ 122
      · obtain ⟨wx, hwx, r1, r2⟩ := GOOD.out (by unfold nameR; simp; omega)
        obtain ⟨l1, l2⟩ := l1
        go_wp2_with fail
        go_roundw
        case rel => rw [← hwx]; exact r1
        case measure => rw [← hwx]; exact r2
      · by_cases hz : pos = 0
        · have hb : b = false := BAD.out (by unfold nameR; subst hz; simp; omega)
          subst hb
          subst hz
          by_cases l2 : (97 : Int) ≤ (rn : Int)
          · have l3 : ¬ (rn : Int) ≤ 122 := by omega
            clear l1
            go_wp2_with fail
            go_ret
            exact ⟨rfl, by have := XR2.out; rw [Nat.zero_add] at this; exact this⟩
          · clear l1
            go_wp2_with fail
            go_ret
            exact ⟨rfl, by have := XR2.out; rw [Nat.zero_add] at this; exact this⟩
        · have hz1 : ((pos : Int) == 0) = false := by simpa using hz
          have hz2 : ¬ (pos : Int) = 0 := by omega
          by_cases d1 : (48 : Int) ≤ (rn : Int) ∧ (rn : Int) ≤ 57
          · obtain ⟨wx, hwx, r1, r2⟩ := GOOD.out (by unfold nameR; simp [hz]; omega)
            have d2 : ¬ (rn : Int) < 48 := by omega
            have d3 : ¬ (57 : Int) < (rn : Int) := by omega
            have d4 : ¬ (97 : Int) ≤ (rn : Int) := by omega
            clear d1 l1 hz
            go_wp2_with fail
            go_roundw
            case rel => rw [← hwx]; exact r1
            case measure => rw [← hwx]; exact r2
          · by_cases d5 : (rn : Int) = 45
            · obtain ⟨wx, hwx, r1, r2⟩ := GOOD.out (by unfold nameR; simp [hz]; omega)
              have d2 : (rn : Int) < 48 := by omega
              have d4 : ¬ (97 : Int) ≤ (rn : Int) := by omega
              have d6 : ((rn : Int) == 45) = true := by simpa using d5
              clear d1 l1 hz d5
              go_wp2_with fail
              go_roundw
              case rel => rw [← hwx]; exact r1
              case measure => rw [← hwx]; exact r2
            · have hb : b = false := BAD.out (by unfold nameR; simp [hz]; omega)
              subst hb
              have d6 : ((rn : Int) == 45) = false := by simpa using d5
              by_cases l2 : (97 : Int) ≤ (rn : Int)
              · have l3 : ¬ (rn : Int) ≤ 122 := by omega
                have d2 : ¬ (rn : Int) < 48 := by omega
                have d3 : (57 : Int) < (rn : Int) := by omega
                clear l1 d1 d5 hz
                go_wp2_with fail
                go_ret
                exact ⟨rfl, XR2.out⟩
              · by_cases d2 : (rn : Int) < 48
                · clear l1 d1 d5 hz
                  go_wp2_with fail
                  go_ret
                  exact ⟨rfl, XR2.out⟩
                · have d3 : (57 : Int) < (rn : Int) := by omega
                  clear l1 d1 d5 hz
                  go_wp2_with fail
                  go_ret
                  exact ⟨rfl, XR2.out⟩
    · have hnx : ∀ ty, (Instr.next (.pointer (some ⟨w.heap.size, 0, none⟩)) true ty).run Tryz.prog wr = _ := fun ty => Lib.run_next_end_at wr w.heap.size s pos ty hit hp
      have hb : b = true := by
        rw [← HB.out]
        exact (nameOk_iff s).2 ⟨HS.out, fun j hj => HPRE.out j hj (by omega)⟩
      subst hb
      go_wp2
      go_ret
      exact ⟨rfl, xr⟩
/-- the tables of unicode/utf8 are as they are laid -/
def Tabs (w : World) : Prop := Lib.Utf8Tabs 1 2 w
theorem Tabs.ext {w w' : World} (h : Tabs w) (x : Ext w w') : Tabs w' := ⟨fun c hc => x.cell (h.1 c hc), fun i hi => ⟨x.cell (h.2 i hi).1, x.cell (h.2 i hi).2⟩⟩
set_option maxHeartbeats 1000000 in
set_option maxRecDepth 100000 in
theorem AValue_any (s : ByteArray) (w : World) (hT : Tabs w) : Calls Tryz.prog 55 #[.string s] w (RBool (valueOk s) w) := by
  obtain ⟨b, hb⟩ : ∃ b, valueOk s = b := ⟨_, rfl⟩
  rw [hb]
  have HB := Lib.hid hb
  have HT := Lib.hid hT
  clear hb hT
  go_enter Tryz.func55, Tryz.ntmps55
  go_wp2_with fail
  go_loopw [] (fun wr => ∃ pos fuel : Nat, wr.heap[w.heap.size]? = some (.stringIter s pos) ∧ Ext w wr ∧ s.size ≤ pos + fuel ∧ (runeList s s.size 0).all mayR = (runeList s fuel pos).all mayR) (fun wr => s.size - wr.iterPos w.heap.size)
  case atStart => exact ⟨0, s.size, by have := World.iter_heap w s 0; simpa using this, (Ext.refl w).alloc _, by omega, rfl⟩
  case round =>
    obtain ⟨pos, fuel, hit, xr, hfu, hall⟩ := hrel
    have hsz : w.heap.size < wr.heap.size := (Array.getElem?_eq_some_iff.1 hit).1
    by_cases hp : pos < s.size
    · have hnx : ∀ ty, (Instr.next (.pointer (some ⟨w.heap.size, 0, none⟩)) true ty).run Tryz.prog wr = _ := fun ty => Lib.run_next_any_at wr w.heap.size s pos ty hit hp
      have hwd := width_pos s pos hp
      have hva := decode_valid s pos
      have hit2 := Lib.iterAt_heap wr w.heap.size s pos (pos + (Utf8.decode s pos).2) hit
      have xr2 := xr.iterAt (Nat.le_refl _) s (pos + (Utf8.decode s pos).2)
      obtain ⟨f, rfl⟩ : ∃ f, fuel = f + 1 := ⟨fuel - 1, by omega⟩
      have hrl : runeList s (f + 1) pos = Int.ofNat (Utf8.decode s pos).1 :: runeList s f (pos + (Utf8.decode s pos).2) := by rw [runeList, if_pos hp]
      rw [hrl, List.all_cons] at hall
      clear hrl
      generalize Utf8.decode s pos = D at *
      obtain ⟨rn, wd⟩ := D
      dsimp only at *
      have HC := Lib.hid (CMay_any (Int.ofNat rn) hva (wr.iterAt w.heap.size s (pos + wd)))
      have HIT2 := Lib.hid hit2
      have XR2 := Lib.hid xr2
      have HIT := Lib.hid hit
      have HALL := Lib.hid hall
      clear hit hit2 xr xr2 hva hall
      have hm : mayR (Int.ofNat rn) = true ∨ mayR (Int.ofNat rn) = false := by cases mayR (Int.ofNat rn); exact .inr rfl; exact .inl rfl
      rcases hm with hm | hm
      · rw [hm] at HC
        go_wp2_with fail
        refine HC.out.mono ?_
        rintro e w2 ⟨rfl, x2⟩
        have hi2 := x2.block HIT2.out
        have r1 : ∃ pos fuel : Nat, w2.heap[w.heap.size]? = some (.stringIter s pos) ∧ Ext w w2 ∧ s.size ≤ pos + fuel ∧ (runeList s s.size 0).all mayR = (runeList s fuel pos).all mayR :=
          ⟨pos + wd, f, hi2, XR2.out.trans x2, by omega, by rw [HALL.out, hm, Bool.true_and]⟩
        have r2 : s.size - w2.iterPos w.heap.size < s.size - wr.iterPos w.heap.size := by
          simp only [World.iterPos, hi2, HIT.out]; omega
        have R1 := Lib.hid r1
        have R2 := Lib.hid r2
        clear r1 r2 hi2 x2
        go_wp2_with fail
        go_roundw
        case rel => exact R1.out
        case measure => exact R2.out
      · rw [hm] at HC
        have hb : b = false := by rw [← HB.out]; unfold valueOk; rw [HALL.out, hm]; simp
        subst hb
        go_wp2_with fail
        refine HC.out.mono ?_
        rintro e w2 ⟨rfl, x2⟩
        have X2 := Lib.hid (XR2.out.trans x2)
        clear x2
        go_wp2_with fail
        go_ret
        exact ⟨rfl, X2.out⟩
    · have hnx : ∀ ty, (Instr.next (.pointer (some ⟨w.heap.size, 0, none⟩)) true ty).run Tryz.prog wr = _ := fun ty => Lib.run_next_end_at wr w.heap.size s pos ty hit hp
      have e : runeList s fuel pos = [] := by cases fuel with | zero => rfl | succ f => rw [runeList, if_neg hp]
      rw [e] at hall
      have hb2 : b = (decide (s.size ≤ 200) && Lib.validD s.data.toList) := by rw [← HB.out, valid_anew]; unfold valueOk; rw [hall]; simp
      have XR := Lib.hid xr
      have HB2 := Lib.hid hb2
      clear hall hb2 xr hit e
      by_cases h2 : s.size ≤ 200
      · have h2' : (s.size : Int) ≤ 200 := by omega
        have HV := Lib.hid (ValidString_any s wr (by omega) (HT.out.ext XR.out))
        have hb3 : b = Lib.validD s.data.toList := by rw [HB2.out]; simp [h2]
        rw [← hb3] at HV
        have h2 := Lib.hid h2
        clear hb3
        go_wp2_with fail
        refine HV.out.mono ?_
        rintro e w2 ⟨rfl, x2⟩
        have X2 := Lib.hid (XR.out.trans x2)
        clear x2
        go_wp2_with fail
        go_ret
        exact ⟨rfl, X2.out⟩
      · have h2' : ¬ (s.size : Int) ≤ 200 := by omega
        have hb3 : b = false := by rw [HB2.out]; simp [h2]
        subst hb3
        clear h2
        go_wp2_with fail
        go_ret
        exact ⟨rfl, XR.out⟩
theorem ret_int {x y : Int} (h : x = y) : Ending.returned (.int .i64 x) = Ending.returned (.int .i64 y) := by rw [h]
theorem str_eq (a b : ByteArray) : (a.toList == b.toList) = decide (a = b) := by
  rw [Bool.eq_iff_iff, beq_iff_eq, decide_eq_true_eq, ByteArray.toList_eq, ByteArray.toList_eq]
  exact ⟨bytes_ext, fun e => by rw [e]⟩
end Go.Proofs.YtdafdoodegpdhaaGreatDoor

namespace Go.Proofs.YtdafdoodegpdhaaGreatDoor
open Go Go.RowKit Go.BigFrame
set_option linter.unusedVariables false
set_option linter.unusedSimpArgs false

theorem r1Class_any_fin {r : Int} {w : World} (k : Int) (w' : World) (h1 : decide (1 < k) = mayR r) (h2 : Ext w w') : ClassIs r w (.returned (.int .i64 k)) w' := ⟨k, rfl, h1, h2⟩
set_option maxHeartbeats 2000000 in
set_option maxRecDepth 100000 in
theorem r1Class_any (r : Int) (h : Utf8.valid r = true) (w : World) : Calls Tryz.prog 77 #[.int .i32 r] w (ClassIs r w) := by
  obtain ⟨n, rfl, hn⟩ := valid_cases h
  have FIN := Lib.hid (fun (k : Int) (w' : World) (h1 : decide (1 < k) = mayR (n : Int)) (h2 : Ext w w') => r1Class_any_fin (r := (n : Int)) k w' h1 h2)
  have x := Ext.refl w
  have z0 : ¬ (n : Int) < 0 := by omega
  have z1 : ¬ (1114111 : Int) < (n : Int) := by omega
  have z2 : (55296 : Int) ≤ (n : Int) ∧ ¬ (n : Int) ≤ 57343 ∨ ¬ (55296 : Int) ≤ (n : Int) := by omega
  clear h hn
  have go : ∀ {P : Prop}, P → P := fun p => p
  by_cases a1 : (n : Int) < 32
  · have a2 : ¬ (55296 : Int) ≤ (n : Int) := by omega
    go_enter Tryz.func77, Tryz.ntmps77
    go_wp2_with fail
    go_ret
    exact FIN.out _ _ (by unfold mayR; simp; omega) x
  by_cases a2 : (n : Int) = 127
  · have b2 : ((n : Int) == 127) = true := by simpa using a2
    have A2 := Lib.hid a2
    have a3 : ¬ (55296 : Int) ≤ (n : Int) := by omega
    clear a2
    go_enter Tryz.func77, Tryz.ntmps77
    go_wp2_with fail
    go_ret
    exact FIN.out _ _ (by unfold mayR; have := A2.out; simp; omega) x
  have b2 : ((n : Int) == 127) = false := by simpa using a2
  have hm : mayR (n : Int) = true := by unfold mayR; simp; omega
  rw [hm] at FIN
  have A1 := Lib.hid a1
  clear a2 hm
  by_cases a3 : (n : Int) = 32
  · have b3 : ((n : Int) == 32) = true := by simpa using a3
    have a4 : ¬ (55296 : Int) ≤ (n : Int) := by omega
    clear a3 A1
    go_enter Tryz.func77, Tryz.ntmps77
    go_wp2_with fail
    go_ret
    exact FIN.out _ _ rfl x
  have b3 : ((n : Int) == 32) = false := by simpa using a3
  by_cases a4 : (n : Int) = 160
  · have b4 : ((n : Int) == 160) = true := by simpa using a4
    have a5 : ¬ (55296 : Int) ≤ (n : Int) := by omega
    clear a4 a3
    go_enter Tryz.func77, Tryz.ntmps77
    go_wp2_with fail
    go_ret
    exact FIN.out _ _ rfl x
  have b4 : ((n : Int) == 160) = false := by simpa using a4
  clear a4 a3
  rcases z2 with ⟨y1, y2⟩ | y1
  · have c1 : (97 : Int) ≤ (n : Int) := by omega
    have c2 : ¬ (n : Int) ≤ 122 := by omega
    have c3 : (65 : Int) ≤ (n : Int) := by omega
    have c4 : ¬ (n : Int) ≤ 90 := by omega
    have c5 : (128 : Int) ≤ (n : Int) := by omega
    have c6 : (48 : Int) ≤ (n : Int) := by omega
    have c7 : ¬ (n : Int) ≤ 57 := by omega
    have b5 : ((n : Int) == 65533) = true ∨ ((n : Int) == 65533) = false := by cases ((n : Int) == 65533); exact .inr rfl; exact .inl rfl
    rcases b5 with b5 | b5
    · go_enter Tryz.func77, Tryz.ntmps77
      go_wp2_with fail
      go_ret
      exact FIN.out _ _ rfl x
    · go_enter Tryz.func77, Tryz.ntmps77
      go_wp2_with fail
      go_ret
      exact FIN.out _ _ rfl x
  · have b5 : ((n : Int) == 65533) = false := by rw [beq_eq_false_iff_ne]; omega
    by_cases c1 : (97 : Int) ≤ (n : Int)
    · have c3 : (65 : Int) ≤ (n : Int) := by omega
      have c4 : ¬ (n : Int) ≤ 90 := by omega
      have c6 : (48 : Int) ≤ (n : Int) := by omega
      have c7 : ¬ (n : Int) ≤ 57 := by omega
      by_cases c2 : (n : Int) ≤ 122
      · go_enter Tryz.func77, Tryz.ntmps77
        go_wp2_with fail
        go_ret
        exact FIN.out _ _ rfl x
      · by_cases c5 : (128 : Int) ≤ (n : Int)
        · go_enter Tryz.func77, Tryz.ntmps77
          go_wp2_with fail
          go_ret
          exact FIN.out _ _ rfl x
        · go_enter Tryz.func77, Tryz.ntmps77
          go_wp2_with fail
          go_ret
          exact FIN.out _ _ rfl x
    · have c5 : ¬ (128 : Int) ≤ (n : Int) := by omega
      by_cases c3 : (65 : Int) ≤ (n : Int)
      · have c6 : (48 : Int) ≤ (n : Int) := by omega
        have c7 : ¬ (n : Int) ≤ 57 := by omega
        by_cases c4 : (n : Int) ≤ 90
        · go_enter Tryz.func77, Tryz.ntmps77
          go_wp2_with fail
          go_ret
          exact FIN.out _ _ rfl x
        · go_enter Tryz.func77, Tryz.ntmps77
          go_wp2_with fail
          go_ret
          exact FIN.out _ _ rfl x
      · by_cases c6 : (48 : Int) ≤ (n : Int)
        · by_cases c7 : (n : Int) ≤ 57
          · go_enter Tryz.func77, Tryz.ntmps77
            go_wp2_with fail
            go_ret
            exact FIN.out _ _ rfl x
          · go_enter Tryz.func77, Tryz.ntmps77
            go_wp2_with fail
            go_ret
            exact FIN.out _ _ rfl x
        · go_enter Tryz.func77, Tryz.ntmps77
          go_wp2_with fail
          go_ret
          exact FIN.out _ _ rfl x
set_option maxHeartbeats 400000 in
set_option maxRecDepth 100000 in
theorem r1May_any (r : Int) (h : Utf8.valid r = true) (w : World) : Calls Tryz.prog 62 #[.int .i32 r] w (RBool (mayR r) w) := by
  have HC := Lib.hid (r1Class_any r h w)
  clear h
  obtain ⟨b, hb⟩ : ∃ b, mayR r = b := ⟨_, rfl⟩
  rw [hb]
  have HB := Lib.hid hb
  clear hb
  go_enter Tryz.func62, Tryz.ntmps62
  go_wp2_with fail
  refine HC.out.mono ?_
  rintro e w1 ⟨k, rfl, hk, x1⟩
  have HK := Lib.hid hk
  clear hk
  go_wp2_with fail
  go_ret
  refine ⟨?_, x1⟩
  have e : decide ((2 : Int) ≤ k) = b := by rw [← HB.out, ← HK.out]; exact decide_eq_decide.2 ⟨fun h => by omega, fun h => by omega⟩
  rw [← e]
  rfl
/-- a text's characters -/
def RRunes (s : ByteArray) (w : World) (e : Ending) (w' : World) : Prop := ∃ v, e = .returned v ∧ Ext w w' ∧ RowRd w' 1 v (runeList s s.size 0).length ((runeList s s.size 0).map (.int .i32)) ∧ ∀ u, Ext w' u → (Go.convert 46 9 v).run Tryz.prog u = .ok (.string (anewB s)) u
theorem runes_run (s : ByteArray) (hs : s.size ≤ 1000000000000) (w : World) : ∃ (v : Value) (w' : World), (Go.convert 9 46 (.string s)).run Tryz.prog w = .ok v w' ∧ RRunes s w (.returned v) w' := by
  have h1 := run_runes_of_string (P := Tryz.prog) w 9 46 21 s Tryz.underlying9 Tryz.underlying46 Tryz.underlying21 (by have := size_runesFrom s s.size 0 #[]; simp at this; omega)
  have e1 : Conv.runesFrom s s.size 0 #[] = ((runeList s s.size 0).map (Value.int .i32)).toArray := by rw [runesFrom_eq]; simp
  have hz : anewB s = runesBytes (runeList s s.size 0) := rfl
  rw [e1] at h1
  unfold RRunes
  rw [hz]
  clear hz e1 hs
  generalize runeList s s.size 0 = l at *
  generalize hk : grownCap w (List.map (Value.int IntKind.i32) l).toArray.size 0 21 = K at *
  have hge := grownCap_ge w (List.map (Value.int IntKind.i32) l).toArray.size 0 21
  rw [hk] at hge
  clear hk
  generalize hC : (List.map (Value.int IntKind.i32) l).toArray ++ Array.replicate (K - (List.map (Value.int IntKind.i32) l).toArray.size) (Value.int IntKind.i32 0) = C at *
  have hcells : ∀ u, Ext (w.drew.alloc (.cells C 21)) u → ∀ j (hj : j < l.length), u.cell? ((⟨w.heap.size, 0, none⟩ : Addr).add j) = some (.int .i32 l[j]) := by
    intro u hu j hj
    have hb : u.heap[w.heap.size]? = some (.cells C 21 (0, 0)) := hu.block (heap_alloc_new w.drew _)
    rw [Addr.add_lit, Nat.zero_add]
    refine cellOf hb ?_
    rw [← hC, Array.getElem?_append_left (by simpa using hj)]
    simp [hj]
  simp only [List.size_toArray, List.length_map] at h1 hge
  refine ⟨_, _, h1, _, rfl, (Ext.refl w).drew.alloc _, ⟨by simp, _, _, rfl, hge, (fun e => by cases e), fun a e j x hx => ?_⟩, fun u hu => ?_⟩
  · cases e
    obtain ⟨hj, e⟩ := List.getElem?_eq_some_iff.1 hx
    rw [List.getElem_map] at e
    rw [← e]
    exact hcells _ (Ext.refl _) j (by simpa using hj)
  · have h2 := run_convert_runes (P := Tryz.prog) u 46 9 21 ⟨w.heap.size, 0, none⟩ l.length K l (Nat.le_refl _) Tryz.underlying46 Tryz.underlying21 Tryz.underlying9 (fun j hj => by rw [hcells u hu j hj]; simp [List.getD, hj])
    rw [List.take_length] at h2
    exact h2
set_option maxHeartbeats 400000 in
set_option maxRecDepth 100000 in
theorem Runes_any (s : ByteArray) (hs : s.size ≤ 1000000000000) (w : World) : Calls Tryz.prog 61 #[.string s] w (RRunes s w) := by
  obtain ⟨v, w', h1, h2⟩ := runes_run s hs w
  have HR := Lib.hid h2
  have H1 := Lib.hid h1
  clear h1 h2 hs
  go_enter Tryz.func61, Tryz.ntmps61
  go_wp2_with fail
  rw [H1.out]
  go_wp2_with fail
  go_ret
  exact HR.out
set_option maxHeartbeats 1000000 in
set_option maxRecDepth 100000 in
theorem r3Name_any (s : ByteArray) (w : World) : Calls Tryz.prog 38 #[.string s] w (RBool (nameOk s) w) := by
  have x0 := Ext.refl w
  obtain ⟨b, hb⟩ : ∃ b, nameOk s = b := ⟨_, rfl⟩
  rw [hb]
  have HB := Lib.hid hb
  clear hb
  have bad : ¬ ((1 ≤ s.size ∧ s.size ≤ 16) ∧ ∀ j (h : j < s.size), nameR (decide (j = 0)) ((s[j]'h).toNat : Int) = true) → b = false := by
    intro h
    cases hb : b
    · rfl
    · exact absurd ((nameOk_iff s).1 (HB.out.trans hb)) h
  have BAD := Lib.hid bad
  clear bad
  by_cases h1 : s.size = 0
  · have e : b = false := BAD.out fun h => by omega
    subst e
    have h1' : ((s.size : Int) == 0) = true := by simpa using h1
    clear h1
    go_enter Tryz.func38, Tryz.ntmps38
    go_wp2
    go_ret
    exact ⟨rfl, x0⟩
  have h1' : ((s.size : Int) == 0) = false := by simpa using h1
  by_cases h2 : 16 < s.size
  · have e : b = false := BAD.out fun h => by omega
    subst e
    have h2' : (16 : Int) < (s.size : Int) := by omega
    clear h1 h2
    go_enter Tryz.func38, Tryz.ntmps38
    go_wp2
    go_ret
    exact ⟨rfl, x0⟩
  have h2' : ¬ (16 : Int) < (s.size : Int) := by omega
  have HS := Lib.hid (show 1 ≤ s.size ∧ s.size ≤ 16 by omega)
  have hpos : 0 < s.size := by omega
  obtain ⟨c, hc⟩ : ∃ c, s[0]'hpos = c := ⟨_, rfl⟩
  have hix : ∀ W : World, (Instr.index 9 (.string s) (.int .i64 0)).run Tryz.prog W = .ok (.int .u8 (c.toNat : Int)) W := by
    intro W
    rw [run_index_string W 9 s .i64 0 Tryz.underlying9, dif_pos ⟨by omega, by omega⟩]
    simp only [Int.toNat_zero, hc]
  have HC0 := Lib.hid hc
  have HP := Lib.hid hpos
  clear h1 h2 hc
  have bad0 : ¬ (97 ≤ c.toNat ∧ c.toNat ≤ 122) → b = false := fun h => BAD.out fun g => h (by
    have := g.2 0 HP.out
    rw [HC0.out] at this
    unfold nameR at this
    simp at this
    omega)
  by_cases l1 : (c.toNat : Int) < 97
  · have e : b = false := bad0 (by omega)
    subst e
    go_enter Tryz.func38, Tryz.ntmps38
    go_wp2
    go_ret
    exact ⟨rfl, x0⟩
  by_cases l2 : (122 : Int) < (c.toNat : Int)
  · have e : b = false := bad0 (by omega)
    subst e
    go_enter Tryz.func38, Tryz.ntmps38
    go_wp2
    go_ret
    exact ⟨rfl, x0⟩
  have H0 := Lib.hid (show 97 ≤ c.toNat ∧ c.toNat ≤ 122 by omega)
  clear bad0
  go_enter Tryz.func38, Tryz.ntmps38
  go_wp2_with fail
  clear h1' h2' l1 l2 hix
  go_loopw [3] (fun i wr => ∃ k : Nat, i = .int .i64 k ∧ k ≤ s.size ∧ wr = w ∧ ∀ j (h : j < s.size), j < k → nameR (decide (j = 0)) ((s[j]'h).toNat : Int) = true) (fun i _ => s.size - (intOf i).toNat)
  case atStart => exact ⟨0, rfl, Nat.zero_le _, rfl, fun j _ hj => absurd hj (Nat.not_lt_zero _)⟩
  case round =>
    obtain ⟨k, rfl, hk, rfl, hpre⟩ := hrel
    have HPRE := Lib.hid hpre
    have hs16 : s.size ≤ 16 := HS.out.2
    clear hpre
    by_cases hlt : k < s.size
    · obtain ⟨d, hd⟩ : ∃ d, s[k]'hlt = d := ⟨_, rfl⟩
      have hix : ∀ W : World, (Instr.index 9 (.string s) (.int .i64 (k : Int))).run Tryz.prog W = .ok (.int .u8 (d.toNat : Int)) W := by
        intro W
        rw [run_index_string W 9 s .i64 (k : Int) Tryz.underlying9, dif_pos ⟨by omega, by omega⟩]
        simp only [Int.toNat_natCast, hd]
      have good : nameR (decide (k = 0)) (d.toNat : Int) = true → ∀ j (h : j < s.size), j < k + 1 → nameR (decide (j = 0)) ((s[j]'h).toNat : Int) = true := by
        intro h j hj hjk
        by_cases hjp : j = k
        · subst hjp; rw [hd]; exact h
        · exact HPRE.out j hj (by omega)
      have bad : nameR (decide (k = 0)) (d.toNat : Int) = false → b = false := fun h => BAD.out fun g => by
        have := g.2 k hlt
        rw [hd, h] at this
        cases this
      have k0 : ¬ (97 ≤ d.toNat ∧ d.toNat ≤ 122) → k ≠ 0 := by
        rintro h rfl
        have := HC0.out
        rw [hd] at this
        exact h (this ▸ H0.out)
      have GOOD := Lib.hid good
      have BADK := Lib.hid bad
      have K0 := Lib.hid k0
      clear good bad k0 hd
      by_cases m1 : (97 : Int) ≤ (d.toNat : Int) ∧ (d.toNat : Int) ≤ 122
      · have HG := Lib.hid (GOOD.out (by unfold nameR; simp; omega))
        obtain ⟨m1, m2⟩ := m1
        go_wp2_with fail
        go_roundw
        case rel => exact ⟨k + 1, by go_num, by omega, by first | rfl | trivial, HG.out⟩
        case measure => simp [intOf]; omega
      · have hk0 := K0.out (by omega)
        have HK0 := Lib.hid hk0
        clear hk0
        have m2 : ¬ (97 : Int) ≤ (d.toNat : Int) ∨ ((97 : Int) ≤ (d.toNat : Int) ∧ ¬ (d.toNat : Int) ≤ 122) := by omega
        by_cases d1 : (48 : Int) ≤ (d.toNat : Int) ∧ (d.toNat : Int) ≤ 57
        · have HG := Lib.hid (GOOD.out (by unfold nameR; simp [HK0.out]; omega))
          have d4 : ¬ (97 : Int) ≤ (d.toNat : Int) := by omega
          obtain ⟨d1, d2⟩ := d1
          clear m1 m2
          go_wp2_with fail
          go_roundw
          case rel => exact ⟨k + 1, by go_num, by omega, by first | rfl | trivial, HG.out⟩
          case measure => simp [intOf]; omega
        · by_cases d5 : (d.toNat : Int) = 45
          · have HG := Lib.hid (GOOD.out (by unfold nameR; simp [HK0.out]; omega))
            have d4 : ¬ (97 : Int) ≤ (d.toNat : Int) := by omega
            have d3 : ¬ (48 : Int) ≤ (d.toNat : Int) := by omega
            have d6 : ((d.toNat : Int) == 45) = true := by simpa using d5
            clear m1 m2 d1 d5
            go_wp2_with fail
            go_roundw
            case rel => exact ⟨k + 1, by go_num, by omega, by first | rfl | trivial, HG.out⟩
            case measure => simp [intOf]; omega
          · have hb : b = false := BADK.out (by unfold nameR; simp [HK0.out]; omega)
            subst hb
            have d6 : ((d.toNat : Int) == 45) = false := by simpa using d5
            have d2 : ¬ (48 : Int) ≤ (d.toNat : Int) ∨ ((48 : Int) ≤ (d.toNat : Int) ∧ ¬ (d.toNat : Int) ≤ 57) := by omega
            clear m1 d1 d5
            rcases m2 with m2 | ⟨m2, m3⟩
            · rcases d2 with d2 | ⟨d2, d3⟩
              · go_wp2_with fail
                go_ret
                exact ⟨rfl, x0⟩
              · go_wp2_with fail
                go_ret
                exact ⟨rfl, x0⟩
            · rcases d2 with d2 | ⟨d2, d3⟩
              · go_wp2_with fail
                go_ret
                exact ⟨rfl, x0⟩
              · go_wp2_with fail
                go_ret
                exact ⟨rfl, x0⟩
    · have hb : b = true := by
        rw [← HB.out]
        exact (nameOk_iff s).2 ⟨HS.out, fun j hj => HPRE.out j hj (by omega)⟩
      subst hb
      go_wp2
      go_ret
      exact ⟨rfl, x0⟩
set_option maxHeartbeats 1000000 in
set_option maxRecDepth 100000 in
theorem r3Value_any (s : ByteArray) (hs : s.size ≤ 1000000000000) (w : World) : Calls Tryz.prog 39 #[.string s] w (RBool (valueOk s) w) := by
  obtain ⟨b, hb⟩ : ∃ b, valueOk s = b := ⟨_, rfl⟩
  rw [hb]
  have HB := Lib.hid hb
  have HR := Lib.hid (Runes_any s hs w)
  have HVAL := Lib.hid (runeList_valid s s.size 0)
  clear hb hs
  go_enter Tryz.func39, Tryz.ntmps39
  go_wp2_with fail
  refine HR.out.mono ?_
  rintro e w1 ⟨v, rfl, x1, hr, hcv⟩
  obtain ⟨ao, cap, rfl, hcap⟩ := hr.len_of
  have X1 := Lib.hid x1
  have HRW := Lib.hid hr
  have HCV := Lib.hid (hcv w1 (Ext.refl _))
  clear x1 hr hcv
  by_cases h1 : 200 < s.size
  · have e : b = false := by rw [← HB.out]; unfold valueOk; rw [decide_eq_false (by omega)]; simp
    subst e
    have h1' : (200 : Int) < (s.size : Int) := by omega
    clear h1
    go_wp2_with fail
    go_ret
    exact ⟨rfl, X1.out⟩
  have h1' : ¬ (200 : Int) < (s.size : Int) := by omega
  have H1 := Lib.hid (show s.size ≤ 200 by omega)
  clear h1
  by_cases h2 : anewB s = s
  case neg =>
    have e : b = false := by rw [← HB.out]; unfold valueOk; rw [decide_eq_false h2]; simp
    subst e
    have h2' : ((anewB s).toList == s.toList) = false := by rw [str_eq]; exact decide_eq_false h2
    clear h2
    go_wp2_with fail
    rw [HCV.out]
    go_wp2_with fail
    go_ret
    exact ⟨rfl, X1.out⟩
  have h2' : ((anewB s).toList == s.toList) = true := by rw [str_eq]; exact decide_eq_true h2
  have H2 := Lib.hid h2
  clear h2
  have hlen : (runeList s s.size 0).length ≤ 1000000000000 := by
    have := runeList_len s s.size 0
    have := H1.out
    omega
  go_wp2_with fail
  rw [HCV.out]
  go_wp2_with fail
  have hall : b = (runeList s s.size 0).all mayR := by
    rw [← HB.out]; unfold valueOk; rw [decide_eq_true H1.out, decide_eq_true H2.out]; rfl
  have HALL := Lib.hid hall
  clear hall h1' h2'
  generalize runeList s s.size 0 = l at *
  go_loopw [4] (fun i wr => ∃ k : Nat, i = .int .i64 k ∧ k ≤ l.length ∧ Ext w1 wr ∧ ∀ (j : Nat) (r : Int), j < k → l[j]? = some r → mayR r = true) (fun i _ => l.length - (intOf i).toNat)
  case atStart => exact ⟨0, rfl, Nat.zero_le _, Ext.refl _, fun j r hj => absurd hj (Nat.not_lt_zero _)⟩
  case round =>
    obtain ⟨k, rfl, hk, xr, hpre⟩ := hrel
    have HPRE := Lib.hid hpre
    have XR := Lib.hid xr
    clear hpre
    by_cases hlt : k < l.length
    · obtain ⟨r, hr⟩ : ∃ r, l[k]? = some r := ⟨l[k], by simp [hlt]⟩
      obtain ⟨_, ao', cap', e, _, h0, hc⟩ := HRW.out
      cases e
      cases ao with
      | none => exact absurd (h0 rfl).1 (by omega)
      | some a =>
        have q := xr.cells _ _ (hc a rfl k (.int .i32 r) (by rw [List.getElem?_map, hr]; rfl))
        have HM := Lib.hid (r1May_any r (HVAL.out r (List.mem_of_getElem? hr)) wr)
        have HRR := Lib.hid hr
        obtain ⟨m, hm⟩ : ∃ m, mayR r = m := ⟨_, rfl⟩
        rw [hm] at HM
        have HMM := Lib.hid hm
        clear hr hc h0 hm xr
        cases m with
        | true =>
          go_wp2_with (go_at_call 62; refine HM.out.mono ?_)
          rintro e w3 ⟨rfl, x3⟩
          go_wp2_with fail
          go_roundw
          case rel =>
            refine ⟨k + 1, by go_num, by omega, XR.out.trans x3, fun j y hj hy => ?_⟩
            by_cases hjk : j = k
            · subst hjk
              rw [HRR.out] at hy
              cases hy
              exact HMM.out
            · exact HPRE.out j y (by omega) hy
          case measure => simp [intOf]; omega
        | false =>
          have hb : b = false := by
            rw [HALL.out, Bool.eq_false_iff]
            intro h
            rw [List.all_eq_true] at h
            have := h r (List.mem_of_getElem? HRR.out)
            rw [HMM.out] at this
            cases this
          subst hb
          go_wp2_with (go_at_call 62; refine HM.out.mono ?_)
          rintro e w3 ⟨rfl, x3⟩
          go_wp2_with fail
          go_ret
          exact ⟨rfl, (X1.out.trans XR.out).trans x3⟩
    · have hb : b = true := by
        rw [HALL.out, List.all_eq_true]
        intro r hr
        obtain ⟨j, hj, e⟩ := List.getElem_of_mem hr
        exact HPRE.out j r (by omega) (by rw [List.getElem?_eq_getElem hj, e])
      subst hb
      clear xr
      go_wp2
      go_ret
      exact ⟨rfl, X1.out.trans XR.out⟩
set_option maxHeartbeats 400000 in
set_option maxRecDepth 100000 in
theorem rBlank_any (c : UInt8) (w : World) : Calls Tryz.prog 60 #[.int .u8 (c.toNat : Int)] w (RBool (blankB c) w) := by
  obtain ⟨b, hb⟩ : ∃ b, blankB c = b := ⟨_, rfl⟩
  rw [hb]
  have HB := Lib.hid hb
  have x := Ext.refl w
  have ne : ∀ m : UInt8, c ≠ m → ((c.toNat : Int) == (m.toNat : Int)) = false := by
    intro m h
    rw [beq_eq_false_iff_ne]
    intro e
    exact h (UInt8.toNat_inj.1 (by omega))
  have NE := Lib.hid ne
  clear hb ne
  by_cases h1 : c = 9
  · have e : b = true := by rw [← HB.out, h1]; rfl
    have e1 : ((c.toNat : Int) == 9) = true := by rw [h1]; rfl
    subst e
    clear h1
    go_enter Tryz.func60, Tryz.ntmps60
    go_wp2
    go_ret
    exact ⟨rfl, x⟩
  have e1 : ((c.toNat : Int) == 9) = false := NE.out 9 h1
  by_cases h2 : c = 10
  · have e : b = true := by rw [← HB.out, h2]; rfl
    have e2 : ((c.toNat : Int) == 10) = true := by rw [h2]; rfl
    subst e
    clear h1 h2
    go_enter Tryz.func60, Tryz.ntmps60
    go_wp2
    go_ret
    exact ⟨rfl, x⟩
  have e2 : ((c.toNat : Int) == 10) = false := NE.out 10 h2
  by_cases h3 : c = 12
  · have e : b = true := by rw [← HB.out, h3]; rfl
    have e3 : ((c.toNat : Int) == 12) = true := by rw [h3]; rfl
    subst e
    clear h1 h2 h3
    go_enter Tryz.func60, Tryz.ntmps60
    go_wp2
    go_ret
    exact ⟨rfl, x⟩
  have e3 : ((c.toNat : Int) == 12) = false := NE.out 12 h3
  by_cases h4 : c = 13
  · have e : b = true := by rw [← HB.out, h4]; rfl
    have e4 : ((c.toNat : Int) == 13) = true := by rw [h4]; rfl
    subst e
    clear h1 h2 h3 h4
    go_enter Tryz.func60, Tryz.ntmps60
    go_wp2
    go_ret
    exact ⟨rfl, x⟩
  have e4 : ((c.toNat : Int) == 13) = false := NE.out 13 h4
  by_cases h5 : c = 32
  · have e : b = true := by rw [← HB.out, h5]; rfl
    have e5 : ((c.toNat : Int) == 32) = true := by rw [h5]; rfl
    subst e
    clear h1 h2 h3 h4 h5
    go_enter Tryz.func60, Tryz.ntmps60
    go_wp2
    go_ret
    exact ⟨rfl, x⟩
  have e5 : ((c.toNat : Int) == 32) = false := NE.out 32 h5
  have e : b = false := by rw [← HB.out]; unfold blankB; simp [h1, h2, h3, h4, h5]
  subst e
  clear h1 h2 h3 h4 h5
  go_enter Tryz.func60, Tryz.ntmps60
  go_wp2
  go_ret
  exact ⟨rfl, x⟩
end Go.Proofs.YtdafdoodegpdhaaGreatDoor
