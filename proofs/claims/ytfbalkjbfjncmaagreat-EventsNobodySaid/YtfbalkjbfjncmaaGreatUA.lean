/- what of Base D1 D2 D3 D4 D5 D6 D7 D8 D9 D11 OwnN Plain Sit Apart this seat can say -/
import Derived.WalkKit
import Derived.WalkSpells
import Derived.WalkLawsBesides
import Derived.BigQuiet
import Derived.Deep.QuietTactic
import Derived.Lib.Hide
import Derived.Deep.RegionWith
import Derived.Deep.RegionHeld3
import Derived.Deep.LoopGhost
import Derived.Deep.DeepFit
import Derived.Deep.DeepMust
import Derived.Deep.DeepCutAuto
import Derived.Outline
import Derived.Test.YtfbalkjbfjncmaaGreatRows
import Derived.Laws.Cover4
import Derived.Laws.IdiomStrings
import Derived.Shelf.Slices.Reverse
import Derived.Ground.Names2Prog
import Derived.Shelf.Slices.Delete
import Derived.Shelf.Spec.SlicesInsertGrow
import Derived.Shelf.Slices.Cells
import Derived.Laws.EntriesVeiled
import Derived.Deep.CutBlock
import Derived.BigRegion
import Derived.RegionTactic
import Derived.ChangeAlike
import Derived.Deep.Slices
import Derived.ChangeSame
namespace Go.Proofs.YtfbalkjbfjncmaaGreat
open Go Go.RowKit Go.BigFrame

/-- new blocks, draws; all old blocks as they were -/
def Ext (w w' : World) : Prop := Below w.heap.size w w'
theorem Ext.refl (w : World) : Ext w w := Below.refl _ _
theorem Ext.trans {a b c : World} (h : Ext a b) (k : Ext b c) : Ext a c := Below.trans h (Below.mono k (Below.size h))
theorem Ext.alloc {a w : World} (h : Ext a w) (o : Obj) : Ext a (w.alloc o) := Below.alloc h (Below.size h) o
theorem Ext.drew {a w : World} (h : Ext a w) : Ext a w.drew := Below.drew h
theorem Ext.setCell {a w : World} (h : Ext a w) {p : Addr} (hp : a.heap.size ≤ p.block) (u : Value) : Ext a (w.setCell p u) := Below.setCell h hp u
theorem Ext.grown {a w w' : World} {row : Option Nat} (h : Ext a w) (hg : w.grownBy w' row) (hr : ∀ k, row = some k → a.heap.size ≤ k) : Ext a w' :=
  Below.grown h hg (Below.size h) hr
theorem Ext.size {w w' : World} (h : Ext w w') : w.heap.size ≤ w'.heap.size := Below.size h
theorem Ext.cell {w w' : World} (h : Ext w w') {b o : Nat} {v : Value} (hc : w.cell? ⟨b, o, none⟩ = some v) : w'.cell? ⟨b, o, none⟩ = some v :=
  (Below.cell h (p := ⟨b, o, none⟩) (World.block_lt_of_cell? w _ hc)).trans hc
theorem Ext.free {w w' : World} (h : Ext w w') {b o : Nat} (hlt : b < w.heap.size) (hc : w.frozen? ⟨b, o, none⟩ = false) : w'.frozen? ⟨b, o, none⟩ = false :=
  (Below.frozen h (p := ⟨b, o, none⟩) hlt).trans hc
theorem Ext.block {w w' : World} (h : Ext w w') {b : Nat} {x : Obj} (hb : w.heap[b]? = some x) : w'.heap[b]? = some x :=
  (Below.block h b (Array.getElem?_eq_some_iff.1 hb).1).trans hb
theorem cell_lt {w : World} {b o : Nat} {v : Value} (h : w.cell? ⟨b, o, none⟩ = some v) : b < w.heap.size := World.block_lt_of_cell? w _ h
theorem ret_int {k : IntKind} {a b : Int} (h : a = b) : Ending.returned (.int k a) = .returned (.int k b) := by rw [h]

/-- a world behind new blocks and draws -/
structure ExtOf (w : World) where
  val : World
  ext : Ext w val
instance (w : World) : Nonempty (ExtOf w) := ⟨⟨w, Ext.refl w⟩⟩
theorem inExt {P : Program} {f : FuncId} {args : Array Value} {w : World} {u : ExtOf w} {v : Value} (h : Calls P f args u.val fun e w' => e = .returned v ∧ Ext u.val w') :
    Calls P f args u.val fun e w' => e = .returned v ∧ ∃ u' : ExtOf w, w' = u'.val :=
  h.mono fun _ w' hh => ⟨hh.1, ⟨w', u.ext.trans hh.2⟩, rfl⟩
/-- a region that draws its order, whose operations read, and whose callees make new blocks at most: one walk in the order of the text -/
theorem wp_region_ext {P : Program} {id : Nat} {Q : Exit → Act → World → Prop} {a : Act} {w : World} {l : List Oper} (hm : P.follows .mixedOrders = true) (hB : Region.lexB .any l.toArray = true)
    (h : wpQuiet P l.toArray (fun w' => ∃ u : ExtOf w, w' = u.val) (fun a' => ∀ w', (∃ u : ExtOf w, w' = u.val) → Q .normal a' w') l a) : (Code.region id l.toArray true).wp P Q a w :=
  wp_region_quiet (C := fun w' => ∃ u : ExtOf w, w' = u.val) hm hB ⟨⟨w.drew, (Ext.refl w).drew⟩, rfl⟩ (by simpa using h)

/-- a bool is returned; only new blocks -/
def RBool (b : Bool) (w : World) (e : Ending) (w' : World) : Prop := e = .returned (.bool b) ∧ Ext w w'

/-- a fresh block of two cells, known and free -/
abbrev Two (w : World) (b : Nat) (x y : Value) : Prop := w.cell? ⟨b, 0, none⟩ = some x ∧ w.cell? ⟨b, 1, none⟩ = some y ∧ w.frozen? ⟨b, 0, none⟩ = false ∧ w.frozen? ⟨b, 1, none⟩ = false
theorem Two.ext {w w' : World} {b : Nat} {x y : Value} (h : Two w b x y) (k : Ext w w') : Two w' b x y :=
  ⟨k.cell h.1, k.cell h.2.1, k.free (cell_lt h.1) h.2.2.1, k.free (cell_lt h.1) h.2.2.2⟩
theorem Two.new (w : World) (x y : Value) (t : TypeId) : Two (w.alloc (.cells #[x, y] t)) w.heap.size x y :=
  ⟨by simp [go_sem], by simp [go_sem], by simp [go_sem], by simp [go_sem]⟩
end Go.Proofs.YtfbalkjbfjncmaaGreat

namespace Go.Proofs.YtfbalkjbfjncmaaGreat
open Go Go.RowKit Go.BigFrame
set_option linter.unusedVariables false

structure Nd where
  tag : Int
  attrs : List (ByteArray × ByteArray)
  text : ByteArray
  kids : List Int
  parent : Int
structure Tr where
  cap : Int
  deep : Int
  count : Int
  nodes : List (Option Nd)

/-- whose is a block? -/
abbrev Ow := Nat → Option (Nat × Nat)
/-- a slice of n elements that starts its block (of which p holds) with these cells; an empty one without room may lie anywhere -/
def RowP (w : World) (p : Nat → Prop) (e size : Nat) (v : Value) (n : Nat) (xs : List Value) : Prop :=
  xs.length = n * size ∧ ((n = 0 ∧ ∃ a, v = .slice a 0 0) ∨
    ∃ g cap cur, v = .slice (some ⟨g, 0, none⟩) n cap ∧ p g ∧ w.heap[g]? = some (.cells cur e (0, 0)) ∧ n ≤ cap ∧ cap ≤ maxLen ∧ cur.size = cap * size ∧ cur.toList.take (n * size) = xs)
/-- .. owned -/
def RowAt (w : World) (own : Ow) (e size : Nat) (o : Nat × Nat) (v : Value) (n : Nat) (xs : List Value) : Prop := RowP w (fun g => own g = some o) e size v n xs
/-- .. in new memory -/
def RowIn (w : World) (B : Nat) (e size : Nat) (v : Value) (n : Nat) (xs : List Value) : Prop := RowP w (fun g => B ≤ g) e size v n xs
/-- a slice that reads so, wherever it lies -/
def RowRd (w : World) (size : Nat) (v : Value) (n : Nat) (xs : List Value) : Prop :=
  xs.length = n * size ∧ ∃ ao cap, v = .slice ao n cap ∧ n ≤ cap ∧ (ao = none → n = 0 ∧ cap = 0) ∧ ∀ a, ao = some a → ∀ (j : Nat) x, xs[j]? = some x → w.cell? (a.add j) = some x
def attrCells : List (ByteArray × ByteArray) → List Value
  | [] => []
  | (a, b) :: r => .string a :: .string b :: attrCells r
def nodeVal (ptr : Nat → Nat) (i : Nat) : Option Nd → Value
  | some _ => .pointer (some ⟨ptr i, 0, none⟩)
  | none => .pointer none
def nodeVals (ptr : Nat → Nat) (l : List (Option Nd)) : List Value := l.mapIdx (nodeVal ptr)
/-- the tree at block tb -/
structure TreeAt (w : World) (own : Ow) (ptr : Nat → Nat) (tb : Nat) (T : Tr) : Prop where
  head : ∃ nv, w.heap[tb]? = some (.cells #[.int .i64 T.cap, .int .i64 T.deep, .int .i64 T.count, nv] 83 (0, 0)) ∧ own tb = some (0, 0) ∧
    RowAt w own 88 1 (1, 0) nv T.nodes.length (nodeVals ptr T.nodes)
  node : ∀ i nd, T.nodes[i]? = some (some nd) → ∃ av kv, w.heap[ptr i]? = some (.cells #[.int .i64 nd.tag, av, .string nd.text, kv, .int .i64 nd.parent] 92 (0, 0)) ∧
    own (ptr i) = some (2, i) ∧ RowAt w own 97 2 (3, i) av nd.attrs.length (attrCells nd.attrs) ∧ RowAt w own 3 1 (4, i) kv nd.kids.length (nd.kids.map (Value.int .i64))
/-- the numbers are small -/
structure Small (T : Tr) : Prop where
  cap0 : 0 ≤ T.cap
  cap1 : T.cap ≤ 2000
  deep0 : 0 ≤ T.deep
  deep1 : T.deep ≤ 40
  count0 : 0 ≤ T.count
  count1 : T.count ≤ T.cap
  len : T.nodes.length ≤ 2000

def Tr.get? (T : Tr) (id : Int) : Option Nd := if id < 0 then none else (T.nodes[id.toNat]?).join

/-- all blocks that are owned, and what is read of them, stays -/
def Keep (own : Ow) (w w' : World) : Prop := ∀ b, own b ≠ none → w'.heap[b]? = w.heap[b]?
theorem RowAt.keep {w w' : World} {own : Ow} {e size : Nat} {o : Nat × Nat} {v : Value} {n : Nat} {xs : List Value} (h : RowAt w own e size o v n xs) (k : Keep own w w') : RowAt w' own e size o v n xs := by
  refine ⟨h.1, ?_⟩
  rcases h.2 with h0 | ⟨g, cap, cur, h1, h2, h3, h4⟩
  · exact .inl h0
  · exact .inr ⟨g, cap, cur, h1, h2, by rw [k g (by simp [h2])]; exact h3, h4⟩
theorem TreeAt.keep {w w' : World} {own : Ow} {ptr : Nat → Nat} {tb : Nat} {T : Tr} (h : TreeAt w own ptr tb T) (k : Keep own w w') : TreeAt w' own ptr tb T := by
  constructor
  · obtain ⟨nv, h1, h2, h3⟩ := h.head
    exact ⟨nv, by rw [k tb (by simp [h2])]; exact h1, h2, h3.keep k⟩
  · intro i nd hi
    obtain ⟨av, kv, h1, h2, h3, h4⟩ := h.node i nd hi
    exact ⟨av, kv, by rw [k _ (by simp [h2])]; exact h1, h2, h3.keep k, h4.keep k⟩
/-- owned blocks are there -/
def Owned (own : Ow) (w : World) : Prop := ∀ b, own b ≠ none → b < w.heap.size
theorem Ext.keep {w w' : World} {own : Ow} (h : Ext w w') (o : Owned own w) : Keep own w w' := fun b hb => Below.block h b (o b hb)

theorem cellOf {w : World} {b : Nat} {cs : Array Value} {t : TypeId} {fr : Nat × Nat} (h : w.heap[b]? = some (.cells cs t fr)) {i : Nat} {v : Value} (hi : cs[i]? = some v) : w.cell? ⟨b, i, none⟩ = some v := by
  simp [World.cell?, h, hi]
theorem freeOf {w : World} {b : Nat} {cs : Array Value} {t : TypeId} (h : w.heap[b]? = some (.cells cs t (0, 0))) (i : Nat) : w.frozen? ⟨b, i, none⟩ = false := by
  simp [World.frozen?, h]
theorem RowP.rd {w : World} {p : Nat → Prop} {e size : Nat} {v : Value} {n : Nat} {xs : List Value} (h : RowP w p e size v n xs) : RowRd w size v n xs := by
  refine ⟨h.1, ?_⟩
  rcases h.2 with ⟨rfl, a, rfl⟩ | ⟨g, cap, cur, rfl, h2, h3, h4, h5, h6, h7⟩
  · have hl := h.1
    obtain rfl : xs = [] := List.eq_nil_of_length_eq_zero (by simpa using hl)
    exact ⟨a, 0, rfl, Nat.le_refl _, fun _ => ⟨rfl, rfl⟩, fun a' _ j x hx => by simp at hx⟩
  · refine ⟨_, cap, rfl, h4, (fun h => by cases h), fun a ha j x hx => ?_⟩
    cases ha
    rw [Addr.add_lit, Nat.zero_add]
    refine cellOf h3 ?_
    rw [← h7, List.getElem?_take] at hx
    split at hx
    · simpa using hx
    · cases hx
theorem RowRd.len_of {w : World} {size : Nat} {v : Value} {n : Nat} {xs : List Value} (h : RowRd w size v n xs) : ∃ a cap, v = .slice a n cap ∧ n ≤ cap := by
  obtain ⟨_, a, cap, h1, h2, _⟩ := h
  exact ⟨a, cap, h1, h2⟩
theorem RowRd.ext {w w' : World} {size : Nat} {v : Value} {n : Nat} {xs : List Value} (h : RowRd w size v n xs) (k : Ext w w') : RowRd w' size v n xs := by
  obtain ⟨h1, ao, cap, h2, h3, h4, h5⟩ := h
  refine ⟨h1, ao, cap, h2, h3, h4, fun a ha j x hx => ?_⟩
  have hc := h5 a ha j x hx
  exact (Below.cell k (World.block_lt_of_cell? w _ hc)).trans hc
theorem RowP.imp {w : World} {p q : Nat → Prop} {e size : Nat} {v : Value} {n : Nat} {xs : List Value} (h : RowP w p e size v n xs) (k : ∀ g, v.ownBlock = some g → p g → q g) : RowP w q e size v n xs := by
  refine ⟨h.1, ?_⟩
  rcases h.2 with h0 | ⟨g, cap, cur, h1, h2, h3⟩
  · exact .inl h0
  · exact .inr ⟨g, cap, cur, h1, k g (by rw [h1]; rfl) h2, h3⟩
theorem RowP.ext {w w' : World} {p : Nat → Prop} {e size : Nat} {v : Value} {n : Nat} {xs : List Value} (h : RowP w p e size v n xs) (k : Ext w w') : RowP w' p e size v n xs := by
  refine ⟨h.1, ?_⟩
  rcases h.2 with h0 | ⟨g, cap, cur, h1, h2, h3, h4⟩
  · exact .inl h0
  · exact .inr ⟨g, cap, cur, h1, h2, k.block h3, h4⟩
theorem RowP.block {w : World} {B e size : Nat} {v : Value} {n : Nat} {xs : List Value} (h : RowP w (fun g => B ≤ g) e size v n xs) : ∃ rb : Option Nat, RowP w (fun g => rb = some g) e size v n xs ∧ ∀ k, rb = some k → B ≤ k ∧ k < w.heap.size := by
  rcases h.2 with h0 | ⟨g, cap, cur, h1, h2, h3, h4⟩
  · exact ⟨none, ⟨h.1, .inl h0⟩, fun k hk => by cases hk⟩
  · exact ⟨some g, ⟨h.1, .inr ⟨g, cap, cur, h1, rfl, h3, h4⟩⟩, fun k hk => by cases hk; exact ⟨h2, (Array.getElem?_eq_some_iff.1 h3).1⟩⟩
theorem RowIn.block {w : World} {B e size : Nat} {v : Value} {n : Nat} {xs : List Value} (h : RowIn w B e size v n xs) : ∃ rb : Option Nat, RowP w (fun g => rb = some g) e size v n xs ∧ ∀ k, rb = some k → B ≤ k ∧ k < w.heap.size := RowP.block h
theorem RowP.of_owns {w : World} {B e size : Nat} {v : Value} {n : Nat} {xs : List Value} (h : w.ownsRow B e size v n xs) : RowIn w B e size v n xs := by
  refine ⟨h.1, ?_⟩
  rcases h.2 with ⟨h1, h2⟩ | ⟨g, cap, cur, h1, h2, h3, h4⟩
  · exact .inl ⟨h2, none, h2 ▸ h1⟩
  · exact .inr ⟨g, cap, cur, h1, h2, h3, h4⟩
theorem RowAt.cell {w : World} {own : Ow} {e : Nat} {o : Nat × Nat} {v : Value} {n : Nat} {xs : List Value} (h : RowAt w own e 1 o v n xs) {i : Nat} {x : Value} (hx : xs[i]? = some x) :
    ∃ g cap, v = .slice (some ⟨g, 0, none⟩) n cap ∧ w.cell? ⟨g, i, none⟩ = some x := by
  rcases h.2 with ⟨h0, _⟩ | ⟨g, cap, cur, h1, h2, h3, h4, h5, h6, h7⟩
  · have hl := h.1
    rw [h0] at hl
    obtain rfl : xs = [] := List.eq_nil_of_length_eq_zero (by simpa using hl)
    simp at hx
  · refine ⟨g, cap, h1, cellOf h3 ?_⟩
    rw [← h7, List.getElem?_take] at hx
    split at hx
    · simpa using hx
    · cases hx
theorem RowAt.len {w : World} {own : Ow} {e size : Nat} {o : Nat × Nat} {v : Value} {n : Nat} {xs : List Value} (h : RowAt w own e size o v n xs) : ∃ a cap, v = .slice a n cap ∧ n ≤ cap ∧ cap ≤ maxLen := by
  rcases h.2 with ⟨rfl, a, rfl⟩ | ⟨g, cap, cur, h1, h2, h3, h4, h5, h6⟩
  · exact ⟨a, 0, rfl, Nat.le_refl _, Nat.zero_le _⟩
  · exact ⟨_, cap, h1, h4, h5⟩

/-- a value is returned, and nothing has turned -/
def RSame (v : Value) (w : World) (e : Ending) (w' : World) : Prop := e = .returned v ∧ w = w'
/-- a value is returned; only new blocks -/
def RVal (v : Value) (w : World) (e : Ending) (w' : World) : Prop := e = .returned v ∧ Ext w w'
end Go.Proofs.YtfbalkjbfjncmaaGreat

namespace Go.Proofs.YtfbalkjbfjncmaaGreat
open Go Go.RowKit Go.BigFrame
set_option linter.unusedVariables false

/-- two values are returned; only new blocks -/
def RTwo (v v' : Value) (w : World) (e : Ending) (w' : World) : Prop := e = .returned (.tuple #[v, v']) ∧ Ext w w'
end Go.Proofs.YtfbalkjbfjncmaaGreat

namespace Go.Proofs.YtfbalkjbfjncmaaGreat
open Go Go.RowKit Go.BigFrame
set_option linter.unusedVariables false

/-- a slice in new memory is returned -/
def RRow (e size n : Nat) (xs : List Value) (w : World) (en : Ending) (w' : World) : Prop := ∃ v, en = .returned v ∧ RowIn w' w.heap.size e size v n xs ∧ Ext w w'
theorem infoA : (Tryz.prog.info? 97).map (fun i => (i.zero, i.size, i.bytes)) = some (some (.agg #[.string ByteArray.empty, .string ByteArray.empty]), 2, 32) := by kernel_rfl
theorem infoP : (Tryz.prog.info? 88).map (fun i => (i.zero, i.size, i.bytes)) = some (some (.pointer none), 1, 8) := by kernel_rfl

set_option maxRecDepth 20000 in
set_option maxHeartbeats 400000 in
theorem cloneA_any {v : Value} {n : Nat} {xs : List Value} {w : World} (h : RowRd w 2 v n xs) (hn : n ≤ 60000) (h1 : ∀ u ∈ xs, u.oneCell' = true) :
    Calls Tryz.prog 31 #[v] w (RRow 97 2 n xs w) := by
  obtain ⟨hl, ao, cap, rfl, hcap, hnone, hc⟩ := h
  have he := fun (w : World) (a : Option Addr) (n c : Nat) => Lib.run_eql_slice_nil (P := Tryz.prog) w 85 97 a n c 0 0 Tryz.underlying85
  cases ao with
  | none =>
    obtain ⟨rfl, rfl⟩ := hnone rfl
    obtain rfl : xs = [] := List.eq_nil_of_length_eq_zero (by simpa using hl)
    clear hc hnone hl h1 hn
    go_enter Tryz.func31, Tryz.ntmps31
    go_wp2
    go_ret
    exact ⟨_, rfl, ⟨by simp, .inl ⟨rfl, _, rfl⟩⟩, Ext.refl _⟩
  | some a =>
    have HC := Lib.hid (hc a rfl)
    clear hc hnone
    rcases Nat.eq_zero_or_pos n with rfl | hpos
    · obtain rfl : xs = [] := List.eq_nil_of_length_eq_zero (by simpa using hl)
      clear HC hl h1 hn
      go_enter Tryz.func31, Tryz.ntmps31
      go_wp2
      go_ret
      exact ⟨_, rfl, ⟨by simp, .inl ⟨rfl, _, rfl⟩⟩, (Ext.refl _).alloc _⟩
    · obtain ⟨i0, hi, hz0, hz1, hz2⟩ := info_parts infoA
      have Hi := Lib.hid hi
      have Hz0 := Lib.hid hz0
      have Hz1 := Lib.hid hz1
      have Hz2 := Lib.hid hz2
      have H1 := Lib.hid h1
      have HL := Lib.hid hl
      have HN := Lib.hid hn
      clear hi hz0 hz1 hz2 h1 hl hn
      go_enter Tryz.func31, Tryz.ntmps31
      go_wp2_with (at_builtin; refine wpList_append_grows _ rfl _ _ 85 rfl 97 i0 (.agg #[.string ByteArray.empty, .string ByteArray.empty]) 2 32 Tryz.underlying85 Hi.out Hz0.out Hz1.out Hz2.out rfl (by decide) (some ⟨w.heap.size, 0, none⟩) 0 0 [] rfl (by simp) (by simp) (by simp) a n cap xs rfl HL.out ?c2 H1.out (by omega) ?c3 ?c4 ?_)
      case c2 =>
        intro j u hj
        have hcj := HC.out j u hj
        exact (Below.cell ((Ext.refl w).alloc _) (World.block_lt_of_cell? w _ hcj)).trans hcj
      case c3 => have := HN.out; unfold maxLen; omega
      case c4 => have := HN.out; omega
      intro v' w1 hown hg
      have hb : Ext w w1 := ((Ext.refl _).alloc _).grown hg (by simp)
      clear hg
      go_wp2
      go_ret
      refine ⟨_, rfl, ?_, hb⟩
      have hr := RowP.of_owns hown
      exact RowP.imp hr (fun g _ (hg : w.heap.size + 1 ≤ g) => Nat.le_of_succ_le hg)
end Go.Proofs.YtfbalkjbfjncmaaGreat

namespace Go.Proofs.YtfbalkjbfjncmaaGreat
open Go Go.RowKit Go.BigFrame
set_option linter.unusedVariables false

/-- what holds of every tree; d: how deep a node lies -/
structure WF (T : Tr) (d : Nat → Nat) : Prop where
  small : Small T
  root : ∃ nd, T.nodes[0]? = some (some nd) ∧ nd.parent = -1 ∧ nd.tag = 1
  deep : ∀ (i : Nat) (nd : Nd), T.nodes[i]? = some (some nd) → (d i : Int) ≤ T.deep
  up : ∀ (i : Nat) (nd : Nd), T.nodes[i]? = some (some nd) → nd.parent = -1 ∧ d i = 0 ∨ ∃ (p : Nat) (pd : Nd), nd.parent = (p : Int) ∧ T.nodes[p]? = some (some pd) ∧ d i = d p + 1 ∧ (i : Int) ∈ pd.kids
  kids : ∀ (i : Nat) (nd : Nd), T.nodes[i]? = some (some nd) → nd.kids.Nodup ∧ ∀ k ∈ nd.kids, ∃ (j : Nat) (kd : Nd), k = (j : Int) ∧ T.nodes[j]? = some (some kd) ∧ kd.parent = (i : Int)
  text : ∀ (i : Nat) (nd : Nd), T.nodes[i]? = some (some nd) → 0 ≤ nd.tag ∧ nd.tag ≤ 16 ∧ (nd.tag = 0 → nd.kids = [])
  count : T.count = ((T.nodes.countP Option.isSome : Nat) : Int)
/-- the cell of the row of nodes, and the node's own cells -/
theorem TreeAt.at {w : World} {own : Ow} {ptr : Nat → Nat} {tb : Nat} {T : Tr} (hT : TreeAt w own ptr tb T) {i : Nat} {nd : Nd} (h : T.nodes[i]? = some (some nd)) :
    ∃ g cap av kv, w.cell? ⟨tb, 3, none⟩ = some (.slice (some ⟨g, 0, none⟩) T.nodes.length cap) ∧ w.cell? ⟨g, i, none⟩ = some (.pointer (some ⟨ptr i, 0, none⟩)) ∧
      w.heap[ptr i]? = some (.cells #[.int .i64 nd.tag, av, .string nd.text, kv, .int .i64 nd.parent] 92 (0, 0)) := by
  obtain ⟨nv, hb, _, hrow⟩ := hT.head
  obtain ⟨g, cap, rfl, hcell⟩ := hrow.cell (i := i) (x := .pointer (some ⟨ptr i, 0, none⟩)) (by simp [nodeVals, List.getElem?_mapIdx, h, nodeVal])
  obtain ⟨av, kv, h1, _⟩ := hT.node i nd h
  exact ⟨g, cap, av, kv, cellOf hb rfl, hcell, h1⟩
theorem TreeAt.nv {w : World} {own : Ow} {ptr : Nat → Nat} {tb : Nat} {T : Tr} (hT : TreeAt w own ptr tb T) {g cap : Nat} {i : Nat} {nd : Nd} (h : T.nodes[i]? = some (some nd))
    (hc : w.cell? ⟨tb, 3, none⟩ = some (.slice (some ⟨g, 0, none⟩) T.nodes.length cap)) : w.cell? ⟨g, i, none⟩ = some (.pointer (some ⟨ptr i, 0, none⟩)) := by
  obtain ⟨g', cap', _, _, h1, h2, _⟩ := hT.at h
  rw [hc] at h1
  cases h1
  exact h2
end Go.Proofs.YtfbalkjbfjncmaaGreat

namespace Go.Proofs.YtfbalkjbfjncmaaGreat
open Go Go.RowKit Go.BigFrame
set_option linter.unusedVariables false

/-- how high a node stands, with fuel -/
def Tr.hgt (T : Tr) : Nat → Int → Int
  | 0, _ => 0
  | f + 1, id => match T.get? id with
    | none => -1
    | some nd => nd.kids.foldl (fun h k => max h (T.hgt f k + 1)) 0
end Go.Proofs.YtfbalkjbfjncmaaGreat

namespace Go.Proofs.YtfbalkjbfjncmaaGreat
open Go Go.RowKit Go.BigFrame
set_option linter.unusedVariables false

end Go.Proofs.YtfbalkjbfjncmaaGreat

namespace Go.Proofs.YtfbalkjbfjncmaaGreat
open Go Go.RowKit Go.BigFrame
set_option linter.unusedVariables false

theorem RowP.owns {w : World} {p : Nat → Prop} {e size : Nat} {v : Value} {n : Nat} {xs : List Value} (h : RowP w p e size v n xs) :
    (n = 0 ∧ xs = [] ∧ ∃ a, v = .slice (some a) 0 0) ∨ (w.ownsRow 0 e size v n xs ∧ ∀ k, v.ownBlock = some k → p k) := by
  rcases h.2 with ⟨h0, a, h1⟩ | ⟨g, cap, cur, h1, h2, h3, h4⟩
  · have hx : xs = [] := List.eq_nil_of_length_eq_zero (by rw [h.1, h0]; simp)
    cases a with
    | some a => exact .inl ⟨h0, hx, a, h1⟩
    | none => exact .inr ⟨⟨h.1, .inl ⟨h1, h0⟩⟩, by rw [h1]; intro k hk; cases hk⟩
  · exact .inr ⟨⟨h.1, .inr ⟨g, cap, cur, h1, Nat.zero_le _, h3, h4⟩⟩, by rw [h1]; intro k hk; cases hk; exact h2⟩
theorem RowP.of_owns0 {w' : World} {p : Nat → Prop} {B e size : Nat} {v : Value} {n : Nat} {xs : List Value} (h : w'.ownsRow B e size v n xs) (hp : ∀ k, v.ownBlock = some k → p k) : RowP w' p e size v n xs := by
  refine ⟨h.1, ?_⟩
  rcases h.2 with ⟨h1, h2⟩ | ⟨g, cap, cur, h1, h2, h3, h4⟩
  · exact .inl ⟨h2, none, h2 ▸ h1⟩
  · exact .inr ⟨g, cap, cur, h1, hp g (by rw [h1]; rfl), h3, h4⟩
/-- 'append(xs, ys..)' onto a row: it may grow; what may have been written is the row's own block -/
theorem run_append_row {P : Program} (w : World) (t ty e : TypeId) (i : TypeInfo) (z : Value) (size bytes : Nat) (ht : P.underlying t = some (.slice e)) (hi : P.info? e = some i) (hz : i.zero = some z)
    (hsize : i.size = size) (hby : i.bytes = bytes) (hzs : z.cells.size = size) (hsz : 0 < size) {p : Nat → Prop} {v : Value} {n : Nat} {xs : List Value} (hr : RowP w p e size v n xs)
    (a : Addr) (m c : Nat) (news : List Value) (hl : news.length = m * size) (hnews : ∀ j u, news[j]? = some u → w.cell? (a.add j) = some u) (h1 : ∀ u ∈ news, u.oneCell' = true)
    (hm : 0 < m) (h63 : n + m ≤ maxLen) (hbytes : (n + m) * bytes ≤ 140737488355328) :
    ∃ v' w' row, (Builtin.append_ #[t, t] ty #[v, .slice (some a) m c]).run P w = .ok v' w' ∧ RowP w' (fun g => p g ∨ w.heap.size ≤ g) e size v' (n + m) (xs ++ news) ∧ w.grownBy w' row ∧ ∀ k, row = some k → p k := by
  rcases hr.2 with ⟨rfl, ao, rfl⟩ | ⟨g, cap, cur, rfl, hpg, hg, hnc, hcm, hcs, htake⟩
  · obtain rfl : xs = [] := List.eq_nil_of_length_eq_zero (by rw [hr.1]; simp)
    cases ao with
    | some ad =>
      obtain ⟨v', w', h2, h3, h4⟩ := run_append_arg_grows (P := P) w t ty e i z size bytes ht hi hz hsize hby hzs hsz ad 0 0 [] (by simp) (by simp) a m c news hl hnews (by omega) h63 hbytes
      exact ⟨v', w', none, h2, (RowP.of_owns h3).imp fun g _ hg => .inr hg, h4, fun k hk => by cases hk⟩
    | none =>
      obtain ⟨v', w', h2, h3, h4, h5⟩ := run_append_own (P := P) w w.heap.size t ty e i z size bytes ht hi hz hsize hby hzs hsz (.slice none 0 0) 0 [] (World.ownsRow_nil w _ e size) a m c news hl hnews h1 h63 hbytes (Nat.le_refl _)
      exact ⟨v', w', none, h2, (RowP.of_owns h3).imp fun g _ hg => .inr hg, h4, fun k hk => by cases hk⟩
  · have hown : w.ownsRow 0 e size (.slice (some ⟨g, 0, none⟩) n cap) n xs := ⟨hr.1, .inr ⟨g, cap, cur, rfl, Nat.zero_le _, hg, hnc, hcm, hcs, htake⟩⟩
    by_cases hroom : n + m ≤ cap
    · obtain ⟨v', w', h2, h3, h4, h5⟩ := run_append_own (P := P) w 0 t ty e i z size bytes ht hi hz hsize hby hzs hsz _ n xs hown a m c news hl hnews h1 h63 hbytes (Nat.zero_le _)
      have hfit : n * i.size + news.length ≤ cur.size := by rw [hl, hcs, hsize, ← Nat.add_mul]; exact Nat.mul_le_mul_right _ hroom
      have hr2 := run_append_room (P := P) w t ty e i ht hi g n cap cur hg a m c news (by rw [hsize]; exact hl) hnews h1 hroom hfit
      rw [h2] at hr2
      have hv : v' = .slice (some ⟨g, 0, none⟩) (n + m) cap := by injection hr2
      refine ⟨v', w', some g, h2, RowP.of_owns0 h3 fun k hk => ?_, h4, fun k hk => by cases hk; exact hpg⟩
      rw [hv] at hk
      cases hk
      exact .inl hpg
    · have holds : ∀ j u, xs[j]? = some u → w.cell? ((⟨g, 0, none⟩ : Addr).add j) = some u := hown.cells (g := g) rfl
      obtain ⟨v', w', h2, h3, h4⟩ := run_append_arg_grows (P := P) w t ty e i z size bytes ht hi hz hsize hby hzs hsz ⟨g, 0, none⟩ n cap xs hr.1 holds a m c news hl hnews (by omega) h63 hbytes
      exact ⟨v', w', none, h2, (RowP.of_owns h3).imp fun g _ hg => .inr hg, h4, fun k hk => by cases hk⟩
theorem wpList_append_row {P : Program} {w : World} {ops : Array Oper} {rest : List Oper} {o : Oper} {a : Act} {Q : Exit → Act → World → Prop} (hgd : o.guard = none) (s x : Operand) (t : TypeId)
    (ho : o.op = .call { callee := .builtin .append, args := #[s, x], argTypes := #[t, t] })
    (e : TypeId) (i : TypeInfo) (z : Value) (size bytes : Nat) (ht : P.underlying t = some (.slice e)) (hi : P.info? e = some i) (hz : i.zero = some z)
    (hsize : i.size = size) (hby : i.bytes = bytes) (hzs : z.cells.size = size) (hsz : 0 < size) (p : Nat → Prop)
    (v : Value) (n : Nat) (xs : List Value) (hs : a.eval s = v) (hr : RowP w p e size v n xs)
    (ad : Addr) (m c : Nat) (news : List Value) (hx : a.eval x = .slice (some ad) m c) (hl : news.length = m * size) (hnews : ∀ j u, news[j]? = some u → w.cell? (ad.add j) = some u) (h1 : ∀ u ∈ news, u.oneCell' = true)
    (hm : 0 < m) (h63 : n + m ≤ maxLen) (hbytes : (n + m) * bytes ≤ 140737488355328)
    (h : ∀ v' w' row, RowP w' (fun g => p g ∨ w.heap.size ≤ g) e size v' (n + m) (xs ++ news) → w.grownBy w' row → (∀ k, row = some k → p k) → wpList P ops Q rest (a.put o.dst v') w') :
    wpList P ops Q (o :: rest) a w := by
  refine wpList_plain hgd fun K hK => ?_
  obtain ⟨v', w', row, h2, h3, h4, h5⟩ := run_append_row (P := P) w t o.type e i z size bytes ht hi hz hsize hby hzs hsz hr ad m c news hl hnews h1 hm h63 hbytes
  unfold Oper.wp execOp
  simp only [ho, resolve, invoke, builtin, Sem.run_bind, Sem.run_pure, Result.andThen_ok, List.map_toArray, List.map_cons, List.map_nil, hs, hx, h2]
  exact hK _ _ (h v' w' row h3 h4 h5)

set_option maxRecDepth 20000 in
set_option maxHeartbeats 400000 in
theorem isNil_no (b : Nat) (w : World) : Calls Tryz.prog 33 #[.pointer (some ⟨b, 0, none⟩)] w (RSame (.bool false) w) := by
  go_enter Tryz.func33, Tryz.ntmps33
  go_wp2
  go_ret
  exact ⟨rfl, rfl⟩
set_option maxRecDepth 20000 in
set_option maxHeartbeats 400000 in
theorem isNil_yes (w : World) : Calls Tryz.prog 33 #[.pointer none] w (RSame (.bool true) w) := by
  go_enter Tryz.func33, Tryz.ntmps33
  go_wp2
  go_ret
  exact ⟨rfl, rfl⟩
/-- the first free number; -1: there is none -/
def freeOf' (l : List (Option Nd)) : Int := if l.any Option.isNone then (l.findIdx Option.isNone : Int) else -1
theorem freeOf_at {l : List (Option Nd)} {k : Nat} (h : l[k]? = some none) (hno : ∀ (j : Nat) (x : Option Nd), j < k → l[j]? = some x → x ≠ none) : freeOf' l = k := by
  obtain ⟨hlt, hk⟩ := List.getElem?_eq_some_iff.1 h
  unfold freeOf'
  have ha : l.any Option.isNone = true := by rw [List.any_eq_true]; exact ⟨none, List.mem_of_getElem? h, rfl⟩
  rw [if_pos ha]
  congr 1
  rw [List.findIdx_eq hlt]
  refine ⟨by rw [hk]; rfl, fun j hj => ?_⟩
  have := hno j (l[j]'(by omega)) hj (by simp)
  cases hx : l[j]'(by omega) with
  | none => exact absurd hx this
  | some y => rfl
theorem freeOf_no {l : List (Option Nd)} (hno : ∀ (j : Nat) (x : Option Nd), l[j]? = some x → x ≠ none) : freeOf' l = -1 := by
  unfold freeOf'
  rw [if_neg]
  rw [List.any_eq_true]
  rintro ⟨x, hx, hn⟩
  obtain ⟨j, hj⟩ := List.getElem?_of_mem hx
  cases x with
  | none => exact hno j none hj rfl
  | some y => cases hn

set_option maxRecDepth 20000 in
set_option maxHeartbeats 1000000 in
theorem free_any {p : Nat → Prop} {ptr : Nat → Nat} {v : Value} {l : List (Option Nd)} {w : World} (h : RowP w p 88 1 v l.length (nodeVals ptr l)) (hn : l.length ≤ 60000) :
    Calls Tryz.prog 32 #[v, .func (.func 33) #[] #[]] w (RSame (.int .i64 (freeOf' l)) w) := by
  obtain ⟨_, ao, cap, rfl, hcap, hnone, hc⟩ := h.rd
  have HN := Lib.hid hnone
  have HC := Lib.hid hc
  clear hnone hc hcap h
  go_enter Tryz.func32, Tryz.ntmps32
  go_wp2
  go_loop [5, 8] (fun _ n => ∃ k : Nat, k ≤ l.length ∧ n = .int .i64 k ∧ ∀ (j : Nat) (x : Option Nd), j < k → l[j]? = some x → x ≠ none) (fun _ n => l.length - (intOf n).toNat)
  case atStart => exact ⟨0, Nat.zero_le _, rfl, fun j x hj => by omega⟩
  case round =>
    obtain ⟨k, hk, rfl, hno⟩ := hrel
    have HO := Lib.hid hno
    clear hno
    by_cases hlt : k < l.length
    · cases ao with
      | none => exact absurd (HN.out rfl).1 (by omega)
      | some a =>
        obtain ⟨b, off, sp⟩ := a
        obtain ⟨y, hy⟩ : ∃ y, l[k]? = some y := ⟨l[k], by simp [hlt]⟩
        have hcell := HC.out _ rfl k (nodeVal ptr k y) (by simp [nodeVals, List.getElem?_mapIdx, hy])
        have HY := Lib.hid hy
        clear hy
        cases y with
        | none =>
          simp only [nodeVal] at hcell
          go_wp2_with (go_at_call 33; refine (isNil_yes _).mono ?_; rintro e w' ⟨rfl, rfl⟩)
          go_ret
          exact ⟨ret_int (by rw [freeOf_at HY.out HO.out]), rfl⟩
        | some nd =>
          simp only [nodeVal] at hcell
          go_wp2_with (go_at_call 33; refine (isNil_no _ _).mono ?_; rintro e w' ⟨rfl, rfl⟩)
          go_round
          case rel =>
            refine ⟨k + 1, by omega, by go_num, fun j x hj hx => ?_⟩
            rcases Nat.lt_or_ge j k with h1 | h1
            · exact HO.out j x h1 hx
            · obtain rfl : j = k := by omega
              rw [HY.out] at hx
              cases hx
              exact fun h => by cases h
          case measure => simp [intOf]; omega
    · go_wp2
      go_ret
      refine ⟨ret_int ?_, rfl⟩
      rw [freeOf_no fun j x hx => HO.out j x (by have := (List.getElem?_eq_some_iff.1 hx).1; omega) hx]
end Go.Proofs.YtfbalkjbfjncmaaGreat

namespace Go.Proofs.YtfbalkjbfjncmaaGreat
open Go Go.RowKit Go.BigFrame
set_option linter.unusedVariables false

/-- what a call on a tree may turn: the tree's own blocks; who owns an old block stays -/
structure Step (own : Ow) (w : World) (own' : Ow) (w' : World) : Prop where
  os : w'.os = w.os
  tape : w'.tape = w.tape
  output : w'.output = w.output
  size : w.heap.size ≤ w'.heap.size
  rest : ∀ b, b < w.heap.size → own b = none → w'.heap[b]? = w.heap[b]?
  same : ∀ b, b < w.heap.size → own' b = own b
  owned : Owned own' w'
theorem Step.refl {own : Ow} {w : World} (h : Owned own w) : Step own w own w := ⟨rfl, rfl, rfl, Nat.le_refl _, fun _ _ _ => rfl, fun _ _ => rfl, h⟩
theorem Step.trans {o1 o2 o3 : Ow} {a b c : World} (h : Step o1 a o2 b) (k : Step o2 b o3 c) : Step o1 a o3 c :=
  ⟨k.os.trans h.os, k.tape.trans h.tape, k.output.trans h.output, Nat.le_trans h.size k.size,
   fun x hx hn => (k.rest x (Nat.lt_of_lt_of_le hx h.size) ((h.same x hx).trans hn)).trans (h.rest x hx hn),
   fun x hx => (k.same x (Nat.lt_of_lt_of_le hx h.size)).trans (h.same x hx), k.owned⟩
theorem Step.ext {own own' : Ow} {a b c : World} (h : Step own a own' b) (k : Ext b c) : Step own a own' c :=
  ⟨(Below.os k).trans h.os, (Below.tape k).trans h.tape, (Below.output k).trans h.output, Nat.le_trans h.size (Ext.size k),
   fun x hx hn => (Below.block k x (Nat.lt_of_lt_of_le hx h.size)).trans (h.rest x hx hn), h.same, fun x hx => Nat.lt_of_lt_of_le (h.owned x hx) (Ext.size k)⟩
theorem Step.setCell {own own' : Ow} {a b : World} (h : Step own a own' b) {p : Addr} (hp : p.block < a.heap.size → own p.block ≠ none) (u : Value) : Step own a own' (b.setCell p u) :=
  ⟨h.os, h.tape, h.output, by have := h.size; simpa [World.setCell] using this,
   fun x hx hn => by rw [Below.heap_setCell _ _ _ _ (fun e => hp (e ▸ hx) (e ▸ hn))]; exact h.rest x hx hn, h.same,
   fun x hx => by have := h.owned x hx; simpa [World.setCell] using this⟩
/-- new blocks get their owners -/
theorem Step.own {own own' own'' : Ow} {a b : World} (h : Step own a own' b) (h1 : ∀ x, x < a.heap.size → own'' x = own' x) (h2 : Owned own'' b) : Step own a own'' b :=
  ⟨h.os, h.tape, h.output, h.size, h.rest, fun x hx => (h1 x hx).trans (h.same x hx), h2⟩

theorem heap_setCell_same {w : World} {b i : Nat} {cs : Array Value} {t : TypeId} {fr : Nat × Nat} (h : w.heap[b]? = some (.cells cs t fr)) (u : Value) :
    (w.setCell ⟨b, i, none⟩ u).heap[b]? = some (.cells (cs.setIfInBounds i u) t fr) := by
  simp [World.setCell, Array.getElem?_modify, h]
theorem heap_setCell_other {w : World} {p : Addr} {b : Nat} (u : Value) (h : b ≠ p.block) : (w.setCell p u).heap[b]? = w.heap[b]? := Below.heap_setCell _ _ _ _ h

theorem RowP.move {w w' : World} {p p' : Nat → Prop} {e size : Nat} {v : Value} {n : Nat} {xs : List Value} (h : RowP w p e size v n xs) (k : ∀ g, p g → w'.heap[g]? = w.heap[g]? ∧ p' g) : RowP w' p' e size v n xs := by
  refine ⟨h.1, ?_⟩
  rcases h.2 with h0 | ⟨g, cap, cur, h1, h2, h3, h4⟩
  · exact .inl h0
  · exact .inr ⟨g, cap, cur, h1, (k g h2).2, by rw [(k g h2).1]; exact h3, h4⟩
/-- one node in memory -/
def NodeAt (w : World) (own : Ow) (i pb : Nat) (nd : Nd) : Prop :=
  ∃ av kv, w.heap[pb]? = some (.cells #[.int .i64 nd.tag, av, .string nd.text, kv, .int .i64 nd.parent] 92 (0, 0)) ∧
    own pb = some (2, i) ∧ RowAt w own 97 2 (3, i) av nd.attrs.length (attrCells nd.attrs) ∧ RowAt w own 3 1 (4, i) kv nd.kids.length (nd.kids.map (Value.int .i64))
theorem NodeAt.move {w w' : World} {own own' : Ow} {i pb : Nat} {nd : Nd} (h : NodeAt w own i pb nd) (k : ∀ b c, own b = some (c, i) → 2 ≤ c → w'.heap[b]? = w.heap[b]? ∧ own' b = own b) : NodeAt w' own' i pb nd := by
  obtain ⟨av, kv, h1, h2, h3, h4⟩ := h
  refine ⟨av, kv, by rw [(k pb 2 h2 (Nat.le_refl _)).1]; exact h1, by rw [(k pb 2 h2 (Nat.le_refl _)).2]; exact h2, RowP.move h3 fun g hg => ?_, RowP.move h4 fun g hg => ?_⟩
  · have := k g 3 hg (by omega); exact ⟨this.1, this.2.trans hg⟩
  · have := k g 4 hg (by omega); exact ⟨this.1, this.2.trans hg⟩
theorem TreeAt.nodeAt {w : World} {own : Ow} {ptr : Nat → Nat} {tb : Nat} {T : Tr} (h : TreeAt w own ptr tb T) {i : Nat} {nd : Nd} (hi : T.nodes[i]? = some (some nd)) : NodeAt w own i (ptr i) nd := h.node i nd hi

/-- the count is stored -/
theorem TreeAt.setCount {w : World} {own : Ow} {ptr : Nat → Nat} {tb : Nat} {T : Tr} (h : TreeAt w own ptr tb T) (c : Int) : TreeAt (w.setCell ⟨tb, 2, none⟩ (.int .i64 c)) own ptr tb { T with count := c } := by
  obtain ⟨nv, h1, h2, h3⟩ := h.head
  have k : ∀ b x, own b = some x → x ≠ (0, 0) → (w.setCell ⟨tb, 2, none⟩ (.int .i64 c)).heap[b]? = w.heap[b]? := fun b x hb hx =>
    heap_setCell_other _ (fun (e : b = tb) => hx (by rw [e, h2] at hb; exact (Option.some.inj hb).symm))
  constructor
  · exact ⟨nv, by rw [heap_setCell_same h1]; rfl, h2, RowP.move h3 fun g hg => ⟨k g _ hg (by simp), hg⟩⟩
  · intro i nd hi
    exact (h.nodeAt hi).move fun b x hb hx => ⟨k b _ hb (by simp; omega), rfl⟩

/-- the row of nodes with one more place, stored -/
theorem TreeAt.grow {w w' : World} {own own' : Ow} {ptr : Nat → Nat} {tb : Nat} {T : Tr} (h : TreeAt w own ptr tb T) {v : Value}
    (hr : RowAt w' own' 88 1 (1, 0) v (T.nodes.length + 1) (nodeVals ptr T.nodes ++ [.pointer none]))
    (k : ∀ b x, own b = some x → x ≠ (1, 0) → w'.heap[b]? = w.heap[b]? ∧ own' b = own b) :
    TreeAt (w'.setCell ⟨tb, 3, none⟩ v) own' ptr tb { T with nodes := T.nodes ++ [none] } := by
  obtain ⟨nv, h1, h2, h3⟩ := h.head
  have h1' := (k tb _ h2 (by simp)).1.trans h1
  have h2' := (k tb _ h2 (by simp)).2.trans h2
  have k' : ∀ b x, own' b = some x → x ≠ (0, 0) → (w'.setCell ⟨tb, 3, none⟩ v).heap[b]? = w'.heap[b]? := fun b x hb hx =>
    heap_setCell_other _ (fun (e : b = tb) => hx (by rw [e, h2'] at hb; exact (Option.some.inj hb).symm))
  constructor
  · refine ⟨v, by rw [heap_setCell_same h1']; rfl, h2', ?_⟩
    have : nodeVals ptr (T.nodes ++ [none]) = nodeVals ptr T.nodes ++ [.pointer none] := by simp [nodeVals, List.mapIdx_append, nodeVal]
    rw [this, List.length_append]
    exact RowP.move hr fun g hg => ⟨k' g _ hg (by simp), hg⟩
  · intro i nd hi
    have hi' : T.nodes[i]? = some (some nd) := by
      rw [List.getElem?_append] at hi
      split at hi
      · exact hi
      · rename_i hge
        rcases Nat.eq_zero_or_pos (i - T.nodes.length) with h0 | h0
        · rw [h0] at hi; simp at hi
        · rw [List.getElem?_eq_none (by simp; omega)] at hi; cases hi
    refine (h.nodeAt hi').move fun b x hb hx => ?_
    have := k b _ hb (by simp; omega)
    exact ⟨(k' b (x, i) (this.2.trans hb) (by simp; omega)).trans this.1, this.2⟩

/-- a new node at a free place -/
theorem TreeAt.place {w w' : World} {own own' : Ow} {ptr : Nat → Nat} {tb : Nat} {T : Tr} (h : TreeAt w own ptr tb T) {i B g cap : Nat} {nd : Nd} (hi : T.nodes[i]? = some none)
    (hg : w.heap[tb]? = some (.cells #[.int .i64 T.cap, .int .i64 T.deep, .int .i64 T.count, .slice (some ⟨g, 0, none⟩) T.nodes.length cap] 83 (0, 0)))
    (hn : NodeAt w' own' i B nd) (k : ∀ b x, own b = some x → w'.heap[b]? = w.heap[b]? ∧ own' b = own b) :
    TreeAt (w'.setCell ⟨g, i, none⟩ (.pointer (some ⟨B, 0, none⟩))) own' (fun j => if j = i then B else ptr j) tb { T with nodes := T.nodes.set i (some nd) } := by
  obtain ⟨nv, h1, h2, h3⟩ := h.head
  have hlt := (List.getElem?_eq_some_iff.1 hi).1
  rw [hg] at h1
  obtain rfl : nv = .slice (some ⟨g, 0, none⟩) T.nodes.length cap := by simp at h1; exact h1.symm
  rcases h3.2 with ⟨h0, _⟩ | ⟨g', cap', cur, q1, q2, q3, q4, q5, q6, q7⟩
  · omega
  obtain ⟨rfl, rfl⟩ : g = g' ∧ cap = cap' := by simp at q1; exact q1
  have kg := k g _ q2
  have k' : ∀ b, own' b ≠ own' g → (w'.setCell ⟨g, i, none⟩ (.pointer (some ⟨B, 0, none⟩))).heap[b]? = w'.heap[b]? := fun b hb => heap_setCell_other _ (fun (e : b = g) => hb (by rw [e]))
  have hog : own' g = some (1, 0) := kg.2.trans q2
  constructor
  · have kt := k tb _ h2
    refine ⟨_, ((k' tb (by rw [hog, kt.2, h2]; simp)).trans kt.1).trans hg, kt.2.trans h2, ?_⟩
    refine ⟨by simp [nodeVals], .inr ⟨g, cap, cur.setIfInBounds i (.pointer (some ⟨B, 0, none⟩)), by simp, hog, by rw [heap_setCell_same (kg.1.trans q3)], by simpa using q4, q5, by simpa using q6, ?_⟩⟩
    apply List.ext_getElem?
    intro j
    have hq : (cur.toList.take (T.nodes.length * 1))[j]? = (nodeVals ptr T.nodes)[j]? := by rw [q7]
    simp only [nodeVals, List.getElem?_mapIdx, List.getElem?_take, List.length_set, Array.toList_setIfInBounds, List.getElem?_set, Nat.mul_one] at hq ⊢
    by_cases hj : i = j
    · subst hj
      rw [if_pos hlt, if_pos rfl, if_pos rfl, if_pos (by simp; omega), if_pos hlt]
      simp [nodeVal]
    · rw [if_neg hj, if_neg hj, hq]
      cases T.nodes[j]? with
      | none => rfl
      | some x => cases x <;> simp [nodeVal, Ne.symm hj]
  · intro j md hj
    rw [List.getElem?_set] at hj
    split at hj
    · rename_i hji
      subst hji
      simp at hj
      subst hj
      show NodeAt _ own' i (if i = i then B else ptr i) nd
      rw [if_pos rfl]
      exact hn.move fun b x hb hx => ⟨k' b (by rw [hb, hog]; simp; omega), rfl⟩
    · rename_i hji
      show NodeAt _ own' j (if j = i then B else ptr j) md
      rw [if_neg (Ne.symm hji)]
      refine (h.nodeAt hj).move fun b x hb hx => ?_
      have := k b _ hb
      exact ⟨(k' b (by rw [this.2, hb, hog]; simp; omega)).trans this.1, this.2⟩
end Go.Proofs.YtfbalkjbfjncmaaGreat

namespace Go.Proofs.YtfbalkjbfjncmaaGreat
open Go Go.RowKit Go.BigFrame
set_option linter.unusedVariables false
set_option linter.unusedSimpArgs false

/-- a tree behind a call: somebody owns it, it lies there -/
def After (own : Ow) (w : World) (tb : Nat) (T' : Tr) (w' : World) : Prop := ∃ own' ptr', TreeAt w' own' ptr' tb T' ∧ Step own w own' w'
/-- add's answer -/
def AddIs (own : Ow) (w : World) (tb : Nat) (id : Int) (T' : Tr) (e : Ending) (w' : World) : Prop := e = .returned (.int .i64 id) ∧ After own w tb T' w'

theorem heap_alloc_setCell (w : World) (p : Addr) (u : Value) (o : Obj) (hp : p.block < w.heap.size) (b : Nat) : ((w.setCell p u).alloc o).heap[b]? = ((w.alloc o).setCell p u).heap[b]? := by
  have hs : (w.setCell p u).heap.size = w.heap.size := by simp [World.setCell]
  by_cases hb : b = w.heap.size
  · subst hb
    rw [heap_setCell_other _ (by omega : w.heap.size ≠ p.block)]
    have e1 : ((w.setCell p u).alloc o).heap[w.heap.size]? = some o := by rw [← hs]; exact heap_alloc_new _ _
    rw [e1]; exact (heap_alloc_new w o).symm
  · by_cases hlt : b < w.heap.size
    · rw [Below.heap_alloc (w.setCell p u) o b (by rw [hs]; exact hlt)]
      by_cases hbp : b = p.block
      · subst hbp
        simp only [World.setCell, Array.getElem?_modify]
        rw [Below.heap_alloc w o _ hlt]
      · rw [heap_setCell_other _ hbp, heap_setCell_other _ hbp, Below.heap_alloc w o b hlt]
    · rw [Array.getElem?_eq_none (by simp [hs]; omega), Array.getElem?_eq_none (by simp [World.setCell]; omega)]
theorem Step.drew {own own' : Ow} {a b : World} (h : Step own a own' b) : Step own a own' b.drew := h.ext ((Ext.refl b).drew)
theorem Step.same_heap {own own' : Ow} {a b c : World} (h : Step own a own' b) (k : ∀ x : Nat, c.heap[x]? = b.heap[x]?) (h1 : c.os = b.os) (h2 : c.tape = b.tape) (h3 : c.output = b.output) (h4 : c.heap.size = b.heap.size) : Step own a own' c :=
  ⟨h1.trans h.os, h2.trans h.tape, h3.trans h.output, by rw [h4]; exact h.size, fun x hx hn => (k x).trans (h.rest x hx hn), h.same, fun x hx => by rw [h4]; exact h.owned x hx⟩
theorem Ext.step {own : Ow} {w w' : World} (h : Ext w w') (hO : Owned own w) : Step own w own w' :=
  ⟨Below.os h, Below.tape h, Below.output h, Ext.size h, fun b hb _ => Below.block h b hb, fun _ _ => rfl, fun b hb => Nat.lt_of_lt_of_le (hO b hb) (Ext.size h)⟩

/-- the world that add leaves at a free place -/
theorem add_plain {w wz : World} {own0 own : Ow} {ptr : Nat → Nat} {tb : Nat} {T : Tr} (h0 : Step own0 w own wz) (hT : TreeAt wz own ptr tb T) {i g capn : Nat} (hi : T.nodes[i]? = some none)
    (hb : wz.heap[tb]? = some (.cells #[.int .i64 T.cap, .int .i64 T.deep, .int .i64 T.count, .slice (some ⟨g, 0, none⟩) T.nodes.length capn] 83 (0, 0))) (hog : own g = some (1, 0)) (hob : own tb = some (0, 0))
    (hog0 : g < w.heap.size → own0 g ≠ none) (hob0 : tb < w.heap.size → own0 tb ≠ none)
    {av : Value} {attrs : List (ByteArray × ByteArray)} {rb : Option Nat} (hr1 : RowP wz (fun g => rb = some g) 97 2 av attrs.length (attrCells attrs)) (hr2 : ∀ k, rb = some k → own k = none ∧ w.heap.size ≤ k ∧ k < wz.heap.size) (tag : Int) (text : ByteArray)
    (c : Int) (hc : c = T.count + 1) :
    After own0 w tb { T with count := T.count + 1, nodes := T.nodes.set i (some ⟨tag, attrs, text, [], -1⟩) }
      (((wz.setCell ⟨g, i, none⟩ (.pointer (some ⟨wz.heap.size, 0, none⟩))).setCell ⟨tb, 2, none⟩ (.int .i64 c)).alloc (.cells #[.int .i64 tag, av, .string text, .slice none 0 0, .int .i64 (-1)] 92)).drew := by
  subst hc
  have hO := h0.owned
  have hgl := hO g (by simp [hog])
  have htl := hO tb (by simp [hob])
  have hws := h0.size
  let o : Obj := .cells #[.int .i64 tag, av, .string text, .slice none 0 0, .int .i64 (-1)] 92
  let own' : Ow := fun b => if b = wz.heap.size then some (2, i) else if rb = some b then some (3, i) else own b
  have hold : ∀ b, b < wz.heap.size → (wz.alloc o).heap[b]? = wz.heap[b]? := fun b hb => Below.heap_alloc _ _ _ hb
  have hown' : ∀ b x, own b = some x → own' b = own b := fun b x hb => by
    have h1 := hO b (by simp [hb])
    show (if b = wz.heap.size then _ else if rb = some b then _ else _) = _
    rw [if_neg (by omega), if_neg (fun h => by rw [(hr2 b h).1] at hb; cases hb)]
  have hB : own' wz.heap.size = some (2, i) := if_pos rfl
  have hn : NodeAt (wz.alloc o) own' i wz.heap.size ⟨tag, attrs, text, [], -1⟩ := by
    refine ⟨av, .slice none 0 0, heap_alloc_new wz o, hB, RowP.move hr1 fun k hk => ?_, ⟨by simp, .inl ⟨rfl, none, rfl⟩⟩⟩
    obtain ⟨k1, k2, k3⟩ := hr2 k hk
    refine ⟨hold k k3, ?_⟩
    show (if k = wz.heap.size then _ else _) = _
    rw [if_neg (by omega), if_pos hk]
  have hP := hT.place hi hb hn (fun b x hx => ⟨hold b (hO b (by simp [hx])), hown' b x hx⟩)
  have hC := hP.setCount (T.count + 1)
  have hlook : ∀ b : Nat, (((wz.setCell ⟨g, i, none⟩ (.pointer (some ⟨wz.heap.size, 0, none⟩))).setCell ⟨tb, 2, none⟩ (.int .i64 (T.count + 1))).alloc o).drew.heap[b]? =
      (((wz.alloc o).setCell ⟨g, i, none⟩ (.pointer (some ⟨wz.heap.size, 0, none⟩))).setCell ⟨tb, 2, none⟩ (.int .i64 (T.count + 1))).heap[b]? := fun b => by
    show (((wz.setCell ⟨g, i, none⟩ (.pointer (some ⟨wz.heap.size, 0, none⟩))).setCell ⟨tb, 2, none⟩ (.int .i64 (T.count + 1))).alloc o).heap[b]? = _
    rw [heap_alloc_setCell _ _ _ _ (by simp [World.setCell]; omega)]
    by_cases hbt : b = tb
    · subst hbt
      simp only [World.setCell, Array.getElem?_modify]
      have := heap_alloc_setCell wz ⟨g, i, none⟩ (.pointer (some ⟨wz.heap.size, 0, none⟩)) o (by show g < _; omega) b
      simp only [World.setCell, Array.getElem?_modify] at this
      rw [this]
    · rw [heap_setCell_other _ hbt, heap_setCell_other _ hbt, heap_alloc_setCell _ _ _ _ (by show g < _; omega)]
  refine ⟨own', _, hC.keep fun b _ => hlook b, ?_⟩
  have hst : Step own0 w own' (((wz.alloc o).setCell ⟨g, i, none⟩ (.pointer (some ⟨wz.heap.size, 0, none⟩))).setCell ⟨tb, 2, none⟩ (.int .i64 (T.count + 1))) := by
    have h1 : Step own0 w own (wz.alloc o) := h0.ext ((Ext.refl _).alloc _)
    refine ((h1.own (fun x hx => ?_) fun b hb => ?_).setCell hog0 _).setCell hob0 _
    · show (if x = wz.heap.size then _ else if rb = some x then _ else _) = _
      rw [if_neg (by omega), if_neg (fun h => by have := (hr2 x h).2.1; omega)]
    · have hb' : (if b = wz.heap.size then some (2, i) else if rb = some b then some (3, i) else own b) ≠ none := hb
      simp only [World.size_alloc]
      split at hb'
      · omega
      · split at hb'
        · rename_i hrb; have := (hr2 b hrb).2.2; omega
        · have := hO b hb'; omega
  exact hst.same_heap hlook rfl rfl rfl (by simp [World.setCell, World.drew])

set_option maxRecDepth 100000 in
set_option maxHeartbeats 2000000 in
theorem add_free {w : World} {own : Ow} {ptr : Nat → Nat} {tb : Nat} {T : Tr} (hT : TreeAt w own ptr tb T) (hO : Owned own w) (hs : Small T) {i : Nat} (hf : freeOf' T.nodes = (i : Int)) (hi : T.nodes[i]? = some none)
    (tag : Int) (text : ByteArray) (av : Value) (attrs : List (ByteArray × ByteArray)) (ha : RowRd w 2 av attrs.length (attrCells attrs)) (hn : attrs.length ≤ 60000) (h1c : ∀ u ∈ attrCells attrs, u.oneCell' = true) :
    Calls Tryz.prog 25 #[.pointer (some ⟨tb, 0, none⟩), .agg #[.int .i64 tag, av, .string text]] w (AddIs own w tb i { T with count := T.count + 1, nodes := T.nodes.set i (some ⟨tag, attrs, text, [], -1⟩) }) := by
  obtain ⟨ao, cap0, hav, _⟩ := ha.len_of
  subst hav
  obtain ⟨nv, hb, hob, hrow0⟩ := hT.head
  have hilt := (List.getElem?_eq_some_iff.1 hi).1
  obtain ⟨g, capn, hnv, _⟩ := hrow0.cell (i := i) (x := .pointer none) (by simp [nodeVals, List.getElem?_mapIdx, hi, nodeVal])
  subst hnv
  obtain ⟨_, _, hE, hcapn, hcapm⟩ := hrow0.len
  cases hE
  have hog : own g = some (1, 0) := by
    rcases hrow0.2 with ⟨h0, _⟩ | ⟨g', cap', cur, q1, q2, _⟩
    · omega
    · cases q1; exact q2
  have hgl := hO g (by simp [hog])
  have htl := hO tb (by simp [hob])
  have hcg : ∃ x, w.cell? ⟨g, i, none⟩ = some x := by
    obtain ⟨g', cap', q, hc⟩ := hrow0.cell (i := i) (x := .pointer none) (by simp [nodeVals, List.getElem?_mapIdx, hi, nodeVal])
    cases q; exact ⟨_, hc⟩
  obtain ⟨xg, hcg⟩ := hcg
  have hfg : w.frozen? ⟨g, i, none⟩ = false := by
    rcases hrow0.2 with ⟨h0, _⟩ | ⟨g', cap', cur, q1, q2, q3, _⟩
    · omega
    · cases q1; exact freeOf q3 i
  have ngt : g ≠ tb := fun e => by rw [e, hob] at hog; cases hog
  have hlen := hs.len
  have hc0 := hs.count0
  have hc1 := hs.count1
  have hc2 := hs.cap1
  have HB := Lib.hid hb
  have HA := Lib.hid ha
  have HF := Lib.hid hf
  have HI := Lib.hid hi
  have HT := Lib.hid hT
  have HOO := Lib.hid hO
  have HN := Lib.hid hn
  have H1 := Lib.hid h1c
  have HR0 := Lib.hid hrow0
  unfold maxLen at hcapm
  clear ha hf hi hT hO hn h1c hb hrow0 hs
  go_enter Tryz.func25, Tryz.ntmps25
  go_wp2_with fail
  refine (cloneA_any (RowRd.ext HA.out ((Ext.refl w).alloc _)) HN.out H1.out).mono ?_
  rintro e w1 ⟨v, rfl, hrow, hx⟩
  have c0 := hx.cell (b := w.heap.size) (o := 0) (v := .int .i64 tag) (by simp [go_sem])
  have c1 := hx.cell (b := w.heap.size) (o := 1) (v := .slice ao attrs.length cap0) (by simp [go_sem])
  have c2 := hx.cell (b := w.heap.size) (o := 2) (v := .string text) (by simp [go_sem])
  have f1 := hx.free (b := w.heap.size) (o := 1) (by simp <;> omega) (by simp [go_sem])
  have x1 : Ext w w1 := ((Ext.refl w).alloc _).trans hx
  obtain ⟨a1, cap1, hv, _⟩ := hrow.rd.len_of
  subst hv
  have hb1 := x1.block HB.out
  have t2 := cellOf hb1 (i := 2) (v := .int .i64 T.count) rfl
  have t3 := cellOf hb1 (i := 3) (v := .slice (some ⟨g, 0, none⟩) T.nodes.length capn) rfl
  have u2 := freeOf hb1 2
  have g1 := x1.cell hcg
  have g2 := x1.free hgl hfg
  have ntb : tb ≠ w.heap.size := Nat.ne_of_lt htl
  have ntb' : w.heap.size ≠ tb := Ne.symm ntb
  have ng : g ≠ w.heap.size := Nat.ne_of_lt hgl
  have ng' : w.heap.size ≠ g := Ne.symm ng
  have l0 := cell_lt c0
  have HB1 := Lib.hid hb1
  have HX := Lib.hid hx
  have HROW := Lib.hid hrow
  clear hb1 hx hrow hcg hfg
  go_wp2_with fail
  have hr2 : RowP (w1.setCell ⟨w.heap.size, 1, none⟩ (.slice a1 attrs.length cap1)) (fun g => own g = some (1, 0)) 88 1 (.slice (some ⟨g, 0, none⟩) T.nodes.length capn) T.nodes.length (nodeVals ptr T.nodes) := by
    refine RowP.move HR0.out fun b hb => ⟨?_, hb⟩
    have hbl := HOO.out b (by simp [hb])
    rw [heap_setCell_other _ (by show b ≠ w.heap.size; omega)]
    exact Below.block x1 b hbl
  refine (free_any hr2 (by omega)).mono ?_
  clear hr2
  rintro e w2 ⟨rfl, rfl⟩
  rw [HF.out]
  go_wp2_with fail
  obtain ⟨wz, hwz⟩ : ∃ wz : World, wz = w1.setCell ⟨w.heap.size, 1, none⟩ (.slice a1 attrs.length cap1) := ⟨_, rfl⟩
  have z0 : wz.cell? ⟨w.heap.size, 0, none⟩ = some (.int .i64 tag) := by rw [hwz]; simp [go_sem, c0]
  have z1 : wz.cell? ⟨w.heap.size, 1, none⟩ = some (.slice a1 attrs.length cap1) := by rw [hwz]; simp [go_sem, c1]
  have z2 : wz.cell? ⟨w.heap.size, 2, none⟩ = some (.string text) := by rw [hwz]; simp [go_sem, c2]
  have y2 : wz.cell? ⟨tb, 2, none⟩ = some (.int .i64 T.count) := by rw [hwz]; simp [go_sem, ntb, ntb', t2]
  have y3 : wz.cell? ⟨tb, 3, none⟩ = some (.slice (some ⟨g, 0, none⟩) T.nodes.length capn) := by rw [hwz]; simp [go_sem, ntb, ntb', t3]
  have v2 : wz.frozen? ⟨tb, 2, none⟩ = false := by rw [hwz]; simp [go_sem, u2]
  have k1 : wz.cell? ⟨g, i, none⟩ = some xg := by rw [hwz]; simp [go_sem, ng, ng', g1]
  have k2 : wz.frozen? ⟨g, i, none⟩ = false := by rw [hwz]; simp [go_sem, g2]
  have lz : wz.heap.size = w1.heap.size := by rw [hwz]; simp [World.setCell]
  have lg := cell_lt k1
  have lt := cell_lt y2
  have ngz : g ≠ wz.heap.size := Nat.ne_of_lt lg
  have ntz : tb ≠ wz.heap.size := Nat.ne_of_lt lt
  rw [← hwz]
  have HWZ := Lib.hid hwz
  have LZ := Lib.hid lz
  clear hwz c0 c1 c2 f1 t2 t3 u2 g1 g2 lz
  go_region_held3 (fun w' => w'.cell? ⟨tb, 3, none⟩ = some (.slice (some ⟨g, 0, none⟩) T.nodes.length capn) ∧ w'.cell? ⟨w.heap.size, 0, none⟩ = some (.int .i64 tag) ∧ w'.cell? ⟨w.heap.size, 1, none⟩ = some (.slice a1 attrs.length cap1) ∧ w'.cell? ⟨w.heap.size, 2, none⟩ = some (.string text))
    (first | exact ⟨y3, z0, z1, z2⟩ | go_keep) (first | fail | fail)
  go_wp2
  go_ret
  have hR : RowIn w1 (w.heap.size + 1) 97 2 (.slice a1 attrs.length cap1) attrs.length (attrCells attrs) := by
    have := HROW.out
    simpa using this
  obtain ⟨rb, hr1, hr2⟩ := hR.block
  have hzs : wz.heap.size = w1.heap.size := LZ.out
  have h0 : Step own w own wz := by rw [HWZ.out]; exact (x1.step HOO.out).setCell (fun h => by exfalso; exact Nat.lt_irrefl _ h) _
  have hk : Keep own w wz := fun b hb => by
    have hbl := HOO.out b hb
    rw [HWZ.out, heap_setCell_other _ (by show b ≠ w.heap.size; omega)]
    exact Below.block x1 b hbl
  exact ⟨rfl, add_plain h0 (HT.out.keep hk) HI.out (by rw [hk tb (by simp [hob])]; exact HB.out) hog hob (fun _ => by simp [hog]) (fun _ => by simp [hob])
    (RowP.move hr1 fun k hk => ⟨by rw [HWZ.out, heap_setCell_other _ (by have := (hr2 k hk).1; show k ≠ w.heap.size; omega)], hk⟩)
    (fun k hk => by
      have := hr2 k hk
      refine ⟨?_, by omega, by omega⟩
      cases ho : own k with
      | none => rfl
      | some x => have := HOO.out k (by simp [ho]); omega) tag text _ rfl⟩
end Go.Proofs.YtfbalkjbfjncmaaGreat

namespace Go.Proofs.YtfbalkjbfjncmaaGreat
open Go Go.RowKit Go.BigFrame
set_option linter.unusedVariables false
set_option linter.unusedSimpArgs false

/-- the row of nodes has grown by one place: whose blocks are whose, and the tree then -/
theorem grow_plain {w W w3 : World} {own0 own : Ow} {ptr : Nat → Nat} {tb : Nat} {T : Tr} (h0 : Step own0 w own W) (hT : TreeAt W own ptr tb T) (hob : own tb = some (0, 0)) (hob0 : tb < w.heap.size → own0 tb ≠ none)
    (h00 : ∀ b, b < w.heap.size → own b = some (1, 0) → own0 b ≠ none)
    {v : Value} {row : Option Nat} (hr : RowP w3 (fun g => own g = some (1, 0) ∨ W.heap.size ≤ g) 88 1 v (T.nodes.length + 1) (nodeVals ptr T.nodes ++ [.pointer none])) (hg : W.grownBy w3 row) (hrow : ∀ k, row = some k → own k = some (1, 0)) :
    ∃ own1 g cap, v = .slice (some ⟨g, 0, none⟩) (T.nodes.length + 1) cap ∧ cap ≤ maxLen ∧ T.nodes.length + 1 ≤ cap ∧ own1 g = some (1, 0) ∧ own1 tb = some (0, 0) ∧ (g < w.heap.size → own0 g ≠ none) ∧ Step own0 w own1 (w3.setCell ⟨tb, 3, none⟩ v) ∧ TreeAt (w3.setCell ⟨tb, 3, none⟩ v) own1 ptr tb { T with nodes := T.nodes ++ [none] } ∧
      (∀ b, own1 b = none → own b = none) ∧ (∀ b, own b = none → b < W.heap.size → own1 b = none) ∧
      (w3.setCell ⟨tb, 3, none⟩ v).heap[tb]? = some (.cells #[.int .i64 T.cap, .int .i64 T.deep, .int .i64 T.count, v] 83 (0, 0)) ∧ (∃ x, w3.cell? ⟨g, T.nodes.length, none⟩ = some x) ∧ w3.frozen? ⟨g, T.nodes.length, none⟩ = false ∧ g ≠ tb := by
  rcases hr.2 with ⟨h1, _⟩ | ⟨g, cap, cur, rfl, q2, q3, q4, q5, q6, q7⟩
  · omega
  have hO := h0.owned
  let own1 : Ow := fun b => if b < W.heap.size then own b else if b = g then some (1, 0) else none
  have e1 : ∀ b, b < W.heap.size → own1 b = own b := fun b hb => if_pos hb
  have hog : own1 g = some (1, 0) := by
    show (if g < W.heap.size then _ else _) = _
    rcases q2 with q2 | q2
    · rw [if_pos (hO g (by simp [q2]))]; exact q2
    · rw [if_neg (by omega), if_pos rfl]
  have htl := hO tb (by simp [hob])
  have hot : own1 tb = some (0, 0) := (e1 tb htl).trans hob
  have hgl : g < w3.heap.size := (Array.getElem?_eq_some_iff.1 q3).1
  have hsz := hg.size
  have keep : ∀ b x, own b = some x → x ≠ (1, 0) → w3.heap[b]? = W.heap[b]? ∧ own1 b = own b := fun b x hb hx => by
    have hbl := hO b (by simp [hb])
    exact ⟨hg.block b hbl (fun h => by have := hrow b h.symm; rw [hb] at this; exact hx (Option.some.inj this)), e1 b hbl⟩
  have hr' : RowAt w3 own1 88 1 (1, 0) (.slice (some ⟨g, 0, none⟩) (T.nodes.length + 1) cap) (T.nodes.length + 1) (nodeVals ptr T.nodes ++ [.pointer none]) :=
    ⟨hr.1, .inr ⟨g, cap, cur, rfl, hog, q3, q4, q5, q6, q7⟩⟩
  have hG := hT.grow hr' keep
  obtain ⟨nv, hb, _, _⟩ := hT.head
  have hb3 : w3.heap[tb]? = _ := (keep tb _ hob (by simp)).1.trans hb
  refine ⟨own1, g, cap, rfl, q5, q4, hog, hot, fun hgw => ?_, ?_, hG, fun b hb => ?_, fun b hb hbl => (e1 b hbl).trans hb, by rw [heap_setCell_same hb3]; rfl, ?_, freeOf q3 _, fun e => by rw [e, hot] at hog; cases hog⟩
  · have hgW := Nat.lt_of_lt_of_le hgw h0.size
    exact h00 g hgw ((e1 g hgW).symm.trans hog)
  · have hst : Step own0 w own1 w3 := by
      refine ⟨hg.os.trans h0.os, hg.tape.trans h0.tape, hg.output.trans h0.output, Nat.le_trans h0.size hg.size, fun b hb hn => ?_, fun b hb => (e1 b (Nat.lt_of_lt_of_le hb h0.size)).trans (h0.same b hb), fun b hb => ?_⟩
      · rw [hg.block b (Nat.lt_of_lt_of_le hb h0.size) (fun h => h00 b hb (hrow b h.symm) hn)]
        exact h0.rest b hb hn
      · have hb' : (if b < W.heap.size then own b else if b = g then some (1, 0) else none) ≠ none := hb
        split at hb'
        · omega
        · split at hb'
          · omega
          · exact absurd rfl hb'
    exact hst.setCell hob0 _
  · have hb' : (if b < W.heap.size then own b else if b = g then some (1, 0) else none) = none := hb
    split at hb'
    · exact hb'
    · cases ho : own b with
      | none => rfl
      | some x => have := hO b (by simp [ho]); omega
  · have hlt : T.nodes.length < cur.size := by rw [q6]; omega
    exact ⟨_, cellOf q3 (Array.getElem?_eq_getElem hlt)⟩

set_option maxRecDepth 100000 in
set_option maxHeartbeats 4000000 in
theorem add_full {w : World} {own : Ow} {ptr : Nat → Nat} {tb : Nat} {T : Tr} (hT : TreeAt w own ptr tb T) (hO : Owned own w) (hs : Small T) (hlen : T.nodes.length ≤ 1999) (hf : freeOf' T.nodes = -1)
    (tag : Int) (text : ByteArray) (av : Value) (attrs : List (ByteArray × ByteArray)) (ha : RowRd w 2 av attrs.length (attrCells attrs)) (hn : attrs.length ≤ 60000) (h1c : ∀ u ∈ attrCells attrs, u.oneCell' = true) :
    Calls Tryz.prog 25 #[.pointer (some ⟨tb, 0, none⟩), .agg #[.int .i64 tag, av, .string text]] w (AddIs own w tb T.nodes.length { T with count := T.count + 1, nodes := T.nodes ++ [some ⟨tag, attrs, text, [], -1⟩] }) := by
  obtain ⟨ao, cap0, hav, _⟩ := ha.len_of
  subst hav
  obtain ⟨nv, hb, hob, hrow0⟩ := hT.head
  obtain ⟨an, capn, hnv, hcapn, hcapm⟩ := hrow0.len
  subst hnv
  have htl := hO tb (by simp [hob])
  have hc0 := hs.count0
  have hc1 := hs.count1
  have hc2 := hs.cap1
  obtain ⟨i0, hi, hz0, hz1, hz2⟩ := info_parts infoP
  have Hi := Lib.hid hi
  have Hz0 := Lib.hid hz0
  have Hz1 := Lib.hid hz1
  have Hz2 := Lib.hid hz2
  have HB := Lib.hid hb
  have HA := Lib.hid ha
  have HF := Lib.hid hf
  have HT := Lib.hid hT
  have HOO := Lib.hid hO
  have HN := Lib.hid hn
  have H1 := Lib.hid h1c
  have HR0 := Lib.hid hrow0
  have HOB := Lib.hid hob
  unfold maxLen at hcapm
  clear ha hf hT hO hn h1c hb hrow0 hs hi hz0 hz1 hz2 hob
  go_enter Tryz.func25, Tryz.ntmps25
  go_wp2_with fail
  refine (cloneA_any (RowRd.ext HA.out ((Ext.refl w).alloc _)) HN.out H1.out).mono ?_
  rintro e w1 ⟨v, rfl, hrow, hx⟩
  have c0 := hx.cell (b := w.heap.size) (o := 0) (v := .int .i64 tag) (by simp [go_sem])
  have c1 := hx.cell (b := w.heap.size) (o := 1) (v := .slice ao attrs.length cap0) (by simp [go_sem])
  have c2 := hx.cell (b := w.heap.size) (o := 2) (v := .string text) (by simp [go_sem])
  have f1 := hx.free (b := w.heap.size) (o := 1) (by simp <;> omega) (by simp [go_sem])
  have x1 : Ext w w1 := ((Ext.refl w).alloc _).trans hx
  obtain ⟨a1, cap1, hv, _⟩ := hrow.rd.len_of
  subst hv
  have hb1 := x1.block HB.out
  have t2 := cellOf hb1 (i := 2) (v := .int .i64 T.count) rfl
  have t3 := cellOf hb1 (i := 3) (v := .slice an T.nodes.length capn) rfl
  have u2 := freeOf hb1 2
  have ntb : tb ≠ w.heap.size := Nat.ne_of_lt htl
  have ntb' : w.heap.size ≠ tb := Ne.symm ntb
  have l0 := cell_lt c0
  have HX := Lib.hid hx
  have HROW := Lib.hid hrow
  clear hb1 hx hrow
  go_wp2_with fail
  obtain ⟨wz, hwz⟩ : ∃ wz : World, wz = w1.setCell ⟨w.heap.size, 1, none⟩ (.slice a1 attrs.length cap1) := ⟨_, rfl⟩
  have z0 : wz.cell? ⟨w.heap.size, 0, none⟩ = some (.int .i64 tag) := by rw [hwz]; simp [go_sem, c0]
  have z1 : wz.cell? ⟨w.heap.size, 1, none⟩ = some (.slice a1 attrs.length cap1) := by rw [hwz]; simp [go_sem, c1]
  have z2 : wz.cell? ⟨w.heap.size, 2, none⟩ = some (.string text) := by rw [hwz]; simp [go_sem, c2]
  have y2 : wz.cell? ⟨tb, 2, none⟩ = some (.int .i64 T.count) := by rw [hwz]; simp [go_sem, ntb, ntb', t2]
  have y3 : wz.cell? ⟨tb, 3, none⟩ = some (.slice an T.nodes.length capn) := by rw [hwz]; simp [go_sem, ntb, ntb', t3]
  have lz : wz.heap.size = w1.heap.size := by rw [hwz]; simp [World.setCell]
  have h0 : Step own w own wz := by rw [hwz]; exact (x1.step HOO.out).setCell (fun h => by exfalso; exact Nat.lt_irrefl _ h) _
  have hk : Keep own w wz := fun b hb => by
    have hbl := HOO.out b hb
    rw [hwz, heap_setCell_other _ (by show b ≠ w.heap.size; omega)]
    exact Below.block x1 b hbl
  have hTz := HT.out.keep hk
  have hR : RowIn w1 (w.heap.size + 1) 97 2 (.slice a1 attrs.length cap1) attrs.length (attrCells attrs) := by
    have := HROW.out
    simpa using this
  obtain ⟨rb, hr1, hr2⟩ := hR.block
  have hr1z : RowP wz (fun g => rb = some g) 97 2 (.slice a1 attrs.length cap1) attrs.length (attrCells attrs) :=
    RowP.move hr1 fun k hk => ⟨by rw [hwz, heap_setCell_other _ (by have := (hr2 k hk).1; show k ≠ w.heap.size; omega)], hk⟩
  have hrz : RowP wz (fun g => own g = some (1, 0)) 88 1 (.slice an T.nodes.length capn) T.nodes.length (nodeVals ptr T.nodes) := RowP.move HR0.out fun b hb => ⟨hk b (by simp [hb]), hb⟩
  rw [← hwz]
  have H0 := Lib.hid h0
  have HTZ := Lib.hid hTz
  have HR1 := Lib.hid hr1z
  have HR2 := Lib.hid hr2
  have HRZ := Lib.hid hrz
  have LZ := Lib.hid lz
  have htz := cell_lt y2
  have hpz := cell_lt z0
  clear hwz c0 c1 c2 f1 t2 t3 u2 h0 hk hTz hR hr1 hr2 hr1z hrz lz x1
  refine (free_any HRZ.out (by omega)).mono ?_
  rintro e w2 ⟨rfl, rfl⟩
  rw [HF.out]
  go_wp2_with (at_builtin; refine wpList_append_row rfl _ _ 81 rfl 88 i0 (.pointer none) 1 8 Tryz.underlying81 Hi.out Hz0.out Hz1.out Hz2.out rfl (by decide) (fun g => own g = some (1, 0)) (.slice an T.nodes.length capn) T.nodes.length (nodeVals ptr T.nodes) rfl ?c1 ⟨wz.heap.size, 0, none⟩ 1 1 [.pointer none] rfl rfl ?c2 ?c3 (by decide) ?c4 ?c5 ?_)
  case c1 => exact RowP.ext HRZ.out ((Ext.refl _).alloc _)
  case c2 => exact cell_one_new _ _ _
  case c3 => simp [Value.oneCell']
  case c4 => unfold maxLen; omega
  case c5 => omega
  intro v' w3 row hrw hg hrow
  have hOz := H0.out.owned
  have xW : Ext wz (wz.alloc (Obj.cells #[Value.pointer none] 88)) := (Ext.refl _).alloc _
  have hgr := grow_plain (H0.out.ext xW) (HTZ.out.keep (xW.keep hOz)) HOB.out (fun _ => by rw [HOB.out]; simp) (fun b _ hb => by rw [hb]; simp) (by simpa using hrw) hg hrow
  obtain ⟨own1, g, cap, hv, hcm, hlc, hog1, hot1, hgn, hst, hT1, hn1, hn2, hb1, ⟨xg, hcg⟩, hfg, hgt⟩ := hgr
  have hpres : ∀ b, b < wz.heap.size → own b ≠ some (1, 0) → w3.heap[b]? = wz.heap[b]? := fun b hb hn => by
    rw [hg.block b (by simp; omega) (fun h => hn (hrow b h.symm))]
    exact Below.heap_alloc _ _ _ hb
  have hp0 : own w.heap.size = none := by
    cases ho : own w.heap.size with
    | none => rfl
    | some x => have := HOO.out w.heap.size (by simp [ho]); omega
  have e0 : ∀ o x, wz.cell? ⟨w.heap.size, o, none⟩ = some x → w3.cell? ⟨w.heap.size, o, none⟩ = some x := fun o x hx => (World.cell?_of_block (hpres w.heap.size hpz (by simp [hp0]))).trans hx
  have et : ∀ o x, wz.cell? ⟨tb, o, none⟩ = some x → w3.cell? ⟨tb, o, none⟩ = some x := fun o x hx => (World.cell?_of_block (hpres tb htz (by rw [HOB.out]; simp))).trans hx
  have ef : ∀ o, w3.frozen? ⟨tb, o, none⟩ = false := fun o => by
    obtain ⟨nv, q, _⟩ := HTZ.out.head
    exact freeOf ((hpres tb htz (by rw [HOB.out]; simp)).trans q) o
  replace z0 := e0 _ _ z0
  replace z1 := e0 _ _ z1
  replace z2 := e0 _ _ z2
  replace y2 := et _ _ y2
  replace y3 := et _ _ y3
  have v2 := ef 2
  have v3 := ef 3
  have hsz3 : wz.heap.size + 1 ≤ w3.heap.size := by have := hg.size; simpa using this
  have hr3 : RowP (w3.setCell ⟨tb, 3, none⟩ v') (fun g => rb = some g) 97 2 (.slice a1 attrs.length cap1) attrs.length (attrCells attrs) := RowP.move HR1.out fun k hk => by
    have hk2 := HR2.out k hk
    have hkz : k < wz.heap.size := by rw [LZ.out]; exact hk2.2
    refine ⟨?_, hk⟩
    rw [heap_setCell_other _ (by show k ≠ tb; omega)]
    refine hpres k hkz (fun h => ?_)
    have := HOO.out k (by simp [h]); omega
  have hr4 : ∀ k, rb = some k → own1 k = none ∧ w.heap.size ≤ k ∧ k < (w3.setCell ⟨tb, 3, none⟩ v').heap.size := fun k hk => by
    have hk2 := HR2.out k hk
    have hkz : k < wz.heap.size := by rw [LZ.out]; exact hk2.2
    refine ⟨hn2 k ?_ (by simp; omega), by omega, by simp [World.setCell]; omega⟩
    cases ho : own k with
    | none => rfl
    | some x => have := HOO.out k (by simp [ho]); omega
  have ngz := Ne.symm hgt
  have HST := Lib.hid hst
  have HT1 := Lib.hid hT1
  have HB1 := Lib.hid hb1
  have HR3 := Lib.hid hr3
  have HR4 := Lib.hid hr4
  have HOG := Lib.hid hog1
  have HOT := Lib.hid hot1
  have HGN := Lib.hid hgn
  have ng0 : g ≠ w.heap.size := fun e => by
    have h2 := hn2 w.heap.size hp0 (by simp; omega)
    rw [← e, hog1] at h2
    cases h2
  have ng0' := Ne.symm ng0
  unfold maxLen at hcm
  clear hst hT1 hb1 hr3 hr4 hn1 hn2 hpres e0 et ef hg hrow hrw hp0 xW hOz hog1 hot1 hgn
  rw [hv] at HST HT1 HB1 HR3 HR4 ⊢
  clear hv
  go_wp2_with fail
  obtain ⟨wq, hwq⟩ : ∃ wq : World, wq = w3.setCell ⟨tb, 3, none⟩ (.slice (some ⟨g, 0, none⟩) (T.nodes.length + 1) cap) := ⟨_, rfl⟩
  rw [← hwq] at HST HT1 HB1 HR3 HR4 ⊢
  replace z0 : wq.cell? ⟨w.heap.size, 0, none⟩ = some (.int .i64 tag) := by rw [hwq]; simp [go_sem, ntb, ntb', z0]
  replace z1 : wq.cell? ⟨w.heap.size, 1, none⟩ = some (.slice a1 attrs.length cap1) := by rw [hwq]; simp [go_sem, ntb, ntb', z1]
  replace z2 : wq.cell? ⟨w.heap.size, 2, none⟩ = some (.string text) := by rw [hwq]; simp [go_sem, ntb, ntb', z2]
  replace y2 : wq.cell? ⟨tb, 2, none⟩ = some (.int .i64 T.count) := by rw [hwq]; simp [go_sem, y2]
  replace y3 : wq.cell? ⟨tb, 3, none⟩ = some (.slice (some ⟨g, 0, none⟩) (T.nodes.length + 1) cap) := by rw [hwq]; simp [go_sem, y3]
  replace v2 : wq.frozen? ⟨tb, 2, none⟩ = false := by rw [hwq]; simp [go_sem, v2]
  replace hcg : wq.cell? ⟨g, T.nodes.length, none⟩ = some xg := by rw [hwq]; simp [go_sem, hgt, ngz, hcg]
  replace hfg : wq.frozen? ⟨g, T.nodes.length, none⟩ = false := by rw [hwq]; simp [go_sem, hfg]
  have lg := cell_lt hcg
  have lt := cell_lt y2
  have ngq : g ≠ wq.heap.size := Nat.ne_of_lt lg
  have ntq : tb ≠ wq.heap.size := Nat.ne_of_lt lt
  have hi0 : (0 : Int) ≤ (T.nodes.length : Int) := by omega
  have hi1 : (T.nodes.length : Int) < (T.nodes.length : Int) + 1 := by omega
  clear hwq v3
  go_region_held3 (fun w' => w'.cell? ⟨tb, 3, none⟩ = some (.slice (some ⟨g, 0, none⟩) (T.nodes.length + 1) cap) ∧ w'.cell? ⟨w.heap.size, 0, none⟩ = some (.int .i64 tag) ∧ w'.cell? ⟨w.heap.size, 1, none⟩ = some (.slice a1 attrs.length cap1) ∧ w'.cell? ⟨w.heap.size, 2, none⟩ = some (.string text))
    (first | exact ⟨y3, z0, z1, z2⟩ | go_keep) (first | fail | fail)
  go_wp2
  go_ret
  have hfin := add_plain (T := { T with nodes := T.nodes ++ [none] }) (i := T.nodes.length) HST.out HT1.out (by simp) (by simpa using HB1.out) HOG.out HOT.out HGN.out (fun _ => by rw [HOB.out]; simp) HR3.out HR4.out tag text (T.count + 1) rfl
  simp only [List.set_append_right _ _ (Nat.le_refl _), Nat.sub_self, List.set_cons_zero] at hfin
  exact ⟨rfl, hfin⟩
end Go.Proofs.YtfbalkjbfjncmaaGreat

namespace Go.Proofs.YtfbalkjbfjncmaaGreat
open Go Go.RowKit Go.BigFrame
set_option linter.unusedVariables false
set_option linter.unusedSimpArgs false

theorem freeOf_cases (l : List (Option Nd)) : (∃ i : Nat, freeOf' l = (i : Int) ∧ l[i]? = some none) ∨ (freeOf' l = -1 ∧ ∀ x ∈ l, x ≠ none) := by
  by_cases h : l.any Option.isNone = true
  · left
    have hlt : l.findIdx Option.isNone < l.length := List.findIdx_lt_length.2 (by
      rw [List.any_eq_true] at h; exact h)
    refine ⟨l.findIdx Option.isNone, by unfold freeOf'; rw [if_pos h], ?_⟩
    have := List.findIdx_getElem (w := hlt)
    rw [List.getElem?_eq_getElem hlt]
    cases hx : l[l.findIdx Option.isNone] with
    | none => rfl
    | some y => rw [hx] at this; cases this
  · right
    refine ⟨by unfold freeOf'; rw [if_neg h], fun x hx hn => h (List.any_eq_true.2 ⟨x, hx, by rw [hn]; rfl⟩)⟩
def Tr.newId (T : Tr) : Int := if 0 ≤ freeOf' T.nodes then freeOf' T.nodes else T.nodes.length
def Tr.put (T : Tr) (nd : Nd) : Tr := { T with count := T.count + 1, nodes := if 0 ≤ freeOf' T.nodes then T.nodes.set (freeOf' T.nodes).toNat (some nd) else T.nodes ++ [some nd] }
theorem count_all {l : List (Option Nd)} (h : ∀ x ∈ l, x ≠ none) : l.countP Option.isSome = l.length := by
  rw [List.countP_eq_length]
  intro x hx
  cases x with
  | none => exact absurd rfl (h none hx)
  | some y => rfl
theorem WF.len_full {T : Tr} {d : Nat → Nat} (hw : WF T d) (h : ∀ x ∈ T.nodes, x ≠ none) : (T.nodes.length : Int) = T.count := by
  rw [hw.count, count_all h]
theorem add_any {w : World} {own : Ow} {ptr : Nat → Nat} {tb : Nat} {T : Tr} (hT : TreeAt w own ptr tb T) (hO : Owned own w) (hs : Small T) (hr : (∀ x ∈ T.nodes, x ≠ none) → T.nodes.length ≤ 1999)
    (tag : Int) (text : ByteArray) (av : Value) (attrs : List (ByteArray × ByteArray)) (ha : RowRd w 2 av attrs.length (attrCells attrs)) (hn : attrs.length ≤ 60000) (h1c : ∀ u ∈ attrCells attrs, u.oneCell' = true) :
    Calls Tryz.prog 25 #[.pointer (some ⟨tb, 0, none⟩), .agg #[.int .i64 tag, av, .string text]] w (AddIs own w tb T.newId (T.put ⟨tag, attrs, text, [], -1⟩)) := by
  unfold Tr.newId Tr.put
  rcases freeOf_cases T.nodes with ⟨i, h1, h2⟩ | ⟨h1, h2⟩
  · have := add_free hT hO hs h1 h2 tag text av attrs ha hn h1c
    rw [h1, if_pos (by omega), if_pos (by omega), Int.toNat_natCast]
    exact this
  · have := add_full hT hO hs (hr h2) h1 tag text av attrs ha hn h1c
    rw [h1, if_neg (by omega), if_neg (by omega)]
    exact this
theorem attrCells_one (l : List (ByteArray × ByteArray)) : ∀ u ∈ attrCells l, u.oneCell' = true := by
  induction l with
  | nil => intro u hu; simp [attrCells] at hu
  | cons p r ih =>
    intro u hu
    obtain ⟨a, b⟩ := p
    simp only [attrCells, List.mem_cons] at hu
    rcases hu with rfl | rfl | hu
    · rfl
    · rfl
    · exact ih u hu
/-- where the new node is, the others as they were -/
theorem Tr.put_at (T : Tr) (nd : Nd) : ∃ n : Nat, T.newId = (n : Int) ∧ (T.put nd).nodes[n]? = some (some nd) ∧ (∀ (x : Nd), T.nodes[n]? ≠ some (some x)) ∧
    (∀ (j : Nat) (x : Nd), T.nodes[j]? = some (some x) → (T.put nd).nodes[j]? = some (some x)) ∧ (∀ (j : Nat) (x : Nd), j ≠ n → (T.put nd).nodes[j]? = some (some x) → T.nodes[j]? = some (some x)) ∧
    (T.put nd).nodes.countP Option.isSome = T.nodes.countP Option.isSome + 1 ∧ (T.put nd).nodes.length ≤ T.nodes.length + 1 ∧ ((∃ x ∈ T.nodes, x = none) → (T.put nd).nodes.length = T.nodes.length) := by
  unfold Tr.newId Tr.put
  rcases freeOf_cases T.nodes with ⟨i, h1, h2⟩ | ⟨h1, h2⟩
  · rw [h1, if_pos (by omega), if_pos (by omega), Int.toNat_natCast]
    have hlt := (List.getElem?_eq_some_iff.1 h2).1
    refine ⟨i, rfl, by simp [hlt], fun x h => (by rw [h2] at h; cases h), fun j x hj => ?_, fun j x hji hj => ?_, ?_, by simp, fun _ => by simp⟩
    · show (T.nodes.set i (some nd))[j]? = _
      rw [List.getElem?_set]
      split
      · rename_i e; subst e; rw [h2] at hj; cases hj
      · exact hj
    · have hj' : (T.nodes.set i (some nd))[j]? = some (some x) := hj
      rw [List.getElem?_set, if_neg (Ne.symm hji)] at hj'
      exact hj'
    · show (T.nodes.set i (some nd)).countP Option.isSome = _
      rw [List.countP_set hlt]
      have : T.nodes[i] = none := by
        have := List.getElem?_eq_getElem hlt
        rw [h2] at this
        exact (Option.some.inj this).symm
      simp [this]
  · rw [h1, if_neg (by omega), if_neg (by omega)]
    refine ⟨T.nodes.length, rfl, by simp, fun x h => ?_, fun j x hj => ?_, fun j x hji hj => ?_, by simp, by simp, fun ⟨x, hx, he⟩ => absurd he (h2 x hx)⟩
    · rw [List.getElem?_eq_none (Nat.le_refl _)] at h; cases h
    · show (T.nodes ++ [some nd])[j]? = _
      rw [List.getElem?_append_left (List.getElem?_eq_some_iff.1 hj).1]; exact hj
    · have hj' : (T.nodes ++ [some nd])[j]? = some (some x) := hj
      rw [List.getElem?_append] at hj'
      split at hj'
      · exact hj'
      · rename_i hge
        rw [List.getElem?_eq_none (by simp; omega)] at hj'
        cases hj'
theorem WF.put {T : Tr} {d : Nat → Nat} (hw : WF T d) (nd : Nd) (hk : nd.kids = []) (hp : nd.parent = -1) (ht0 : 0 ≤ nd.tag) (ht1 : nd.tag ≤ 16) (hroom : T.count + 1 ≤ T.cap) (hroot : T.newId ≠ 0) :
    WF (T.put nd) (fun j => if (j : Int) = T.newId then 0 else d j) := by
  obtain ⟨n, h1, h2, h3, h4, h5, h6, h7, h8⟩ := T.put_at nd
  have hs := hw.small
  have hcap : (T.put nd).cap = T.cap := rfl
  have hdeep : (T.put nd).deep = T.deep := rfl
  have hcount : (T.put nd).count = T.count + 1 := rfl
  refine ⟨⟨hs.cap0, hs.cap1, hs.deep0, hs.deep1, ?_, hroom, ?_⟩, ?_, ?_, ?_, ?_, ?_, ?_⟩
  · have := hs.count0; show 0 ≤ T.count + 1; omega
  · by_cases hx : ∃ x ∈ T.nodes, x = none
    · rw [h8 hx]; exact hs.len
    · have hl := hw.len_full (fun x hx' he => hx ⟨x, hx', he⟩)
      have := hs.cap1
      omega
  · obtain ⟨r, r1, r2, r3⟩ := hw.root
    exact ⟨r, h4 0 r r1, r2, r3⟩
  · intro i x hi
    by_cases hin : i = n
    · rw [if_pos (by rw [h1, hin])]; exact hs.deep0
    · rw [if_neg (by rw [h1]; omega)]; exact hw.deep i x (h5 i x hin hi)
  · intro i x hi
    by_cases hin : i = n
    · left
      rw [hin, h2] at hi
      cases hi
      exact ⟨hp, if_pos (by rw [h1, hin])⟩
    · rcases hw.up i x (h5 i x hin hi) with ⟨q1, q2⟩ | ⟨p, pd, q1, q2, q3, q4⟩
      · left
        exact ⟨q1, by rw [if_neg (by rw [h1]; omega)]; exact q2⟩
      · right
        have hpn : p ≠ n := fun e => h3 pd (e ▸ q2)
        exact ⟨p, pd, q1, h4 p pd q2, by rw [if_neg (by rw [h1]; omega), if_neg (by rw [h1]; omega)]; exact q3, q4⟩
  · intro i x hi
    by_cases hin : i = n
    · rw [hin, h2] at hi
      cases hi
      rw [hk]
      exact ⟨List.nodup_nil, fun k hk => by simp at hk⟩
    · obtain ⟨q1, q2⟩ := hw.kids i x (h5 i x hin hi)
      exact ⟨q1, fun k hk => by obtain ⟨j, kd, r1, r2, r3⟩ := q2 k hk; exact ⟨j, kd, r1, h4 j kd r2, r3⟩⟩
  · intro i x hi
    by_cases hin : i = n
    · rw [hin, h2] at hi
      cases hi
      exact ⟨ht0, ht1, fun _ => hk⟩
    · exact hw.text i x (h5 i x hin hi)
  · rw [hcount, h6, hw.count]; push_cast; rfl
end Go.Proofs.YtfbalkjbfjncmaaGreat

namespace Go.Proofs.YtfbalkjbfjncmaaGreat
open Go Go.RowKit Go.BigFrame
set_option linter.unusedVariables false
set_option linter.unusedSimpArgs false

end Go.Proofs.YtfbalkjbfjncmaaGreat

namespace Go.Proofs.YtfbalkjbfjncmaaGreat
open Go Go.RowKit Go.BigFrame
set_option linter.unusedVariables false
set_option linter.unusedSimpArgs false

/-- a fresh tree is answered -/
def NewIs (w : World) (T : Tr) (e : Ending) (w' : World) : Prop := ∃ tb own ptr, e = .returned (.tuple #[.pointer (some ⟨tb, 0, none⟩), .int .i64 0]) ∧ TreeAt w' own ptr tb T ∧ Owned own w' ∧ Ext w w' ∧ (∀ b, own b ≠ none → w.heap.size ≤ b)
def hostOf (cap deep : Int) : Tr := ⟨cap, deep, 1, [some ⟨1, [], ByteArray.empty, [], -1⟩]⟩
theorem hostOf_put (cap deep : Int) : (Tr.mk cap deep 0 []).put ⟨1, [], ByteArray.empty, [], -1⟩ = hostOf cap deep := rfl
theorem hostOf_wf (cap deep : Int) (h1 : 1 ≤ cap) (h2 : cap ≤ 2000) (h3 : 0 ≤ deep) (h4 : deep ≤ 40) : WF (hostOf cap deep) (fun _ => 0) := by
  have hz : ∀ (i : Nat) (nd : Nd), (hostOf cap deep).nodes[i]? = some (some nd) → nd = ⟨1, [], ByteArray.empty, [], -1⟩ := by
    intro i nd h
    have h' : [some (⟨1, [], ByteArray.empty, [], -1⟩ : Nd)][i]? = some (some nd) := h
    cases i with
    | zero => simp at h'; exact h'.symm
    | succ i => simp at h'
  refine ⟨⟨by show 0 ≤ cap; omega, h2, h3, h4, by show (0 : Int) ≤ 1; omega, by show 1 ≤ cap; omega, by simp [hostOf]⟩, ⟨_, rfl, rfl, rfl⟩, fun i nd _ => h3, fun i nd h => .inl ⟨by rw [hz i nd h], rfl⟩, fun i nd h => ?_, fun i nd h => ?_, by simp [hostOf]⟩
  · rw [hz i nd h]; exact ⟨List.nodup_nil, fun k hk => by simp at hk⟩
  · rw [hz i nd h]; exact ⟨by decide, by decide, fun h => rfl⟩
/-- an empty tree in a block of its own -/
theorem fresh_tree (w : World) (cap deep : Int) : ∃ own : Ow, (∀ b, own b = if b = w.heap.size then some (0, 0) else none) ∧
    TreeAt (w.alloc (.cells #[.int .i64 cap, .int .i64 deep, .int .i64 0, .slice none 0 0] 83)) own (fun _ => 0) w.heap.size ⟨cap, deep, 0, []⟩ ∧ Owned own (w.alloc (.cells #[.int .i64 cap, .int .i64 deep, .int .i64 0, .slice none 0 0] 83)) := by
  refine ⟨fun b => if b = w.heap.size then some (0, 0) else none, fun b => rfl, ⟨⟨.slice none 0 0, heap_alloc_new _ _, if_pos rfl, ⟨rfl, .inl ⟨rfl, none, rfl⟩⟩⟩, fun i nd h => by simp at h⟩, fun b hb => ?_⟩
  have hb' : (if b = w.heap.size then some ((0 : Nat), (0 : Nat)) else none) ≠ none := hb
  split at hb'
  · simp; omega
  · exact absurd rfl hb'

set_option maxRecDepth 100000 in
set_option maxHeartbeats 1000000 in
theorem New_ok (cap deep : Int) (h1 : 1 ≤ cap) (h2 : cap ≤ 2000) (h3 : 0 ≤ deep) (h4 : deep ≤ 40) (w : World) :
    Calls Tryz.prog 13 #[.int .i64 cap, .int .i64 deep] w (NewIs w (hostOf cap deep)) := by
  obtain ⟨own, ho, hT, hO⟩ := fresh_tree w cap deep
  have HO := Lib.hid ho
  have hc := add_any hT hO ⟨by show 0 ≤ cap; omega, h2, h3, h4, by show (0 : Int) ≤ 0; omega, by show 0 ≤ cap; omega, by simp⟩ (fun _ => by simp) 1 ByteArray.empty (.slice none 0 0) [] ⟨rfl, none, 0, rfl, Nat.le_refl _, fun _ => ⟨rfl, rfl⟩, fun a h => by cases h⟩ (by simp) (attrCells_one [])
  rw [hostOf_put] at hc
  have HC := Lib.hid hc
  clear ho hT hO hc
  go_enter Tryz.func13, Tryz.ntmps13
  go_wp2_with fail
  refine HC.out.mono ?_
  rintro e w1 ⟨rfl, own', ptr', hT', hS⟩
  go_wp2_with fail
  go_ret2
  refine ⟨w.heap.size, own', ptr', rfl, hT', hS.owned, ?_, fun b hb => ?_⟩
  · refine ⟨hS.os, hS.tape, hS.output, Nat.le_trans (by simp) hS.size, fun b hb => ?_⟩
    rw [hS.rest b (by simp; omega) (by rw [HO.out]; rw [if_neg (by omega)])]
    exact Below.heap_alloc _ _ _ hb
  · rcases Nat.lt_or_ge b w.heap.size with hlt | hge
    · rw [hS.same b (by simp; omega), HO.out, if_neg (by omega)] at hb
      exact absurd rfl hb
    · exact hge
end Go.Proofs.YtfbalkjbfjncmaaGreat

namespace Go.Proofs.YtfbalkjbfjncmaaGreat
open Go Go.RowKit Go.BigFrame
set_option linter.unusedVariables false
set_option linter.unusedSimpArgs false

end Go.Proofs.YtfbalkjbfjncmaaGreat

namespace Go.Proofs.YtfbalkjbfjncmaaGreat
open Go Go.RowKit Go.BigFrame
set_option linter.unusedVariables false
set_option linter.unusedSimpArgs false

end Go.Proofs.YtfbalkjbfjncmaaGreat

namespace Go.Proofs.YtfbalkjbfjncmaaGreat
open Go Go.RowKit Go.BigFrame
set_option linter.unusedVariables false
set_option linter.unusedSimpArgs false

end Go.Proofs.YtfbalkjbfjncmaaGreat

namespace Go.Proofs.YtfbalkjbfjncmaaGreat
open Go Go.RowKit Go.BigFrame
set_option linter.unusedVariables false
set_option linter.unusedSimpArgs false

end Go.Proofs.YtfbalkjbfjncmaaGreat

namespace Go.Proofs.YtfbalkjbfjncmaaGreat
open Go Go.RowKit Go.BigFrame
set_option linter.unusedVariables false
set_option linter.unusedSimpArgs false

end Go.Proofs.YtfbalkjbfjncmaaGreat

namespace Go.Proofs.YtfbalkjbfjncmaaGreat
open Go Go.RowKit Go.BigFrame
set_option linter.unusedVariables false
set_option linter.unusedSimpArgs false

end Go.Proofs.YtfbalkjbfjncmaaGreat

namespace Go.Proofs.YtfbalkjbfjncmaaGreat
open Go Go.RowKit Go.BigFrame
set_option linter.unusedVariables false
set_option linter.unusedSimpArgs false

end Go.Proofs.YtfbalkjbfjncmaaGreat

namespace Go.Proofs.YtfbalkjbfjncmaaGreat
open Go Go.RowKit Go.BigFrame
set_option linter.unusedVariables false
set_option linter.unusedSimpArgs false

end Go.Proofs.YtfbalkjbfjncmaaGreat

namespace Go.Proofs.YtfbalkjbfjncmaaGreat
open Go Go.RowKit Go.BigFrame
set_option linter.unusedVariables false
set_option linter.unusedSimpArgs false

end Go.Proofs.YtfbalkjbfjncmaaGreat

namespace Go.Proofs.YtfbalkjbfjncmaaGreat
open Go Go.RowKit Go.BigFrame
set_option linter.unusedVariables false
set_option linter.unusedSimpArgs false

end Go.Proofs.YtfbalkjbfjncmaaGreat

namespace Go.Proofs.YtfbalkjbfjncmaaGreat
open Go Go.RowKit Go.BigFrame
end Go.Proofs.YtfbalkjbfjncmaaGreat

namespace Go.Proofs.YtfbalkjbfjncmaaGreat
open Go Go.RowKit Go.BigFrame
set_option linter.unusedVariables false
set_option linter.unusedSimpArgs false

end Go.Proofs.YtfbalkjbfjncmaaGreat

namespace Go.Proofs.YtfbalkjbfjncmaaGreat
open Go Go.RowKit Go.BigFrame
set_option linter.unusedVariables false
set_option linter.unusedSimpArgs false

end Go.Proofs.YtfbalkjbfjncmaaGreat

namespace Go.Proofs.YtfbalkjbfjncmaaGreat
open Go Go.RowKit Go.BigFrame
set_option linter.unusedVariables false
set_option linter.unusedSimpArgs false

end Go.Proofs.YtfbalkjbfjncmaaGreat

namespace Go.Proofs.YtfbalkjbfjncmaaGreat
open Go Go.RowKit Go.BigFrame
set_option linter.unusedVariables false
set_option linter.unusedSimpArgs false

end Go.Proofs.YtfbalkjbfjncmaaGreat

namespace Go.Proofs.YtfbalkjbfjncmaaGreat
open Go Go.RowKit Go.BigFrame
set_option linter.unusedVariables false
set_option linter.unusedSimpArgs false

end Go.Proofs.YtfbalkjbfjncmaaGreat

namespace Go.Proofs.YtfbalkjbfjncmaaGreat
open Go Go.RowKit Go.BigFrame
set_option linter.unusedVariables false
set_option linter.unusedSimpArgs false

end Go.Proofs.YtfbalkjbfjncmaaGreat

namespace Go.Proofs.YtfbalkjbfjncmaaGreat
open Go Go.RowKit Go.BigFrame
set_option linter.unusedVariables false
set_option linter.unusedSimpArgs false

end Go.Proofs.YtfbalkjbfjncmaaGreat

namespace Go.Proofs.YtfbalkjbfjncmaaGreat
open Go Go.RowKit Go.BigFrame
set_option linter.unusedVariables false
set_option linter.unusedSimpArgs false

end Go.Proofs.YtfbalkjbfjncmaaGreat

namespace Go.Proofs.YtfbalkjbfjncmaaGreat
open Go Go.RowKit
set_option linter.unusedVariables false

section
variable {P : Program} {ops : Array Oper} {Q : Exit → Act → World → Prop} {md : Region.Mode} {S : World → Prop} {n : Nat}
end
end Go.Proofs.YtfbalkjbfjncmaaGreat

namespace Go.Proofs.YtfbalkjbfjncmaaGreat
open Go Go.RowKit Go.BigFrame
set_option linter.unusedVariables false
set_option linter.unusedSimpArgs false

end Go.Proofs.YtfbalkjbfjncmaaGreat

namespace Go.Proofs.YtfbalkjbfjncmaaGreat
open Go Go.RowKit Go.BigFrame
set_option linter.unusedVariables false
set_option linter.unusedSimpArgs false

end Go.Proofs.YtfbalkjbfjncmaaGreat

namespace Go.Proofs.YtfbalkjbfjncmaaGreat
open Go Go.RowKit Go.BigFrame
set_option linter.unusedVariables false
set_option linter.unusedSimpArgs false
end Go.Proofs.YtfbalkjbfjncmaaGreat

namespace Go.Proofs.YtfbalkjbfjncmaaGreat
open Go Go.RowKit Go.BigFrame
set_option linter.unusedVariables false
set_option linter.unusedSimpArgs false

end Go.Proofs.YtfbalkjbfjncmaaGreat

namespace Go.Proofs.YtfbalkjbfjncmaaGreat
open Go Go.RowKit Go.BigFrame
set_option linter.unusedVariables false
set_option linter.unusedSimpArgs false

end Go.Proofs.YtfbalkjbfjncmaaGreat

namespace Go.Proofs.YtfbalkjbfjncmaaGreat
open Go Go.RowKit Go.BigFrame Go.ChangeShapes Go.WideShapes Go.Deep
set_option linter.unusedVariables false
set_option linter.unusedSimpArgs false

section
variable {H : Type} {enc : TypeId × Value → H} {w : World} {base : Nat} {spare : Nat → Bool} {held : Bool}
end
section
variable {H : Type} {enc : TypeId × Value → H} {w : World} {base : Nat} {spare : Nat → Bool} {held : Bool}
end
end Go.Proofs.YtfbalkjbfjncmaaGreat

namespace Go.Proofs.YtfbalkjbfjncmaaGreat
open Go Go.RowKit Go.BigFrame
set_option linter.unusedVariables false
set_option linter.unusedSimpArgs false

end Go.Proofs.YtfbalkjbfjncmaaGreat

namespace Go.Proofs.YtfbalkjbfjncmaaGreat
open Go Go.RowKit Go.BigFrame
set_option linter.unusedVariables false
set_option linter.unusedSimpArgs false

section
variable {w : World} {own : Ow} {ptr : Nat → Nat} {tb : Nat} {T : Tr}
end
end Go.Proofs.YtfbalkjbfjncmaaGreat

namespace Go.Proofs.YtfbalkjbfjncmaaGreat
open Go Go.RowKit Go.BigFrame
set_option linter.unusedVariables false
set_option linter.unusedSimpArgs false

end Go.Proofs.YtfbalkjbfjncmaaGreat

namespace Go.Proofs.YtfbalkjbfjncmaaGreat
open Go Go.RowKit Go.BigFrame
set_option linter.unusedVariables false
set_option linter.unusedSimpArgs false

end Go.Proofs.YtfbalkjbfjncmaaGreat

namespace Go.Proofs.YtfbalkjbfjncmaaGreat
open Go Go.RowKit Go.BigFrame
set_option linter.unusedVariables false
set_option linter.unusedSimpArgs false

end Go.Proofs.YtfbalkjbfjncmaaGreat

namespace Go.Proofs.YtfbalkjbfjncmaaGreat
open Go Go.RowKit Go.BigFrame
set_option linter.unusedVariables false
set_option linter.unusedSimpArgs false

end Go.Proofs.YtfbalkjbfjncmaaGreat

namespace Go.Proofs.YtfbalkjbfjncmaaGreat
open Go Go.RowKit Go.BigFrame
set_option linter.unusedVariables false
set_option linter.unusedSimpArgs false

end Go.Proofs.YtfbalkjbfjncmaaGreat

namespace Go.Proofs.YtfbalkjbfjncmaaGreat
open Go Go.RowKit Go.BigFrame
set_option linter.unusedVariables false
set_option linter.unusedSimpArgs false

end Go.Proofs.YtfbalkjbfjncmaaGreat

namespace Go.Proofs.YtfbalkjbfjncmaaGreat
open Go Go.RowKit Go.BigFrame
set_option linter.unusedVariables false
set_option linter.unusedSimpArgs false

end Go.Proofs.YtfbalkjbfjncmaaGreat

namespace Go.Proofs.YtfbalkjbfjncmaaGreat
open Go Go.RowKit Go.BigFrame
set_option linter.unusedVariables false
set_option linter.unusedSimpArgs false

end Go.Proofs.YtfbalkjbfjncmaaGreat

namespace Go.Proofs.YtfbalkjbfjncmaaGreat
open Go Go.RowKit Go.BigFrame
set_option linter.unusedVariables false
set_option linter.unusedSimpArgs false

section
variable {w0 w : World} {tb : Nat} {T : Tr} {g : World}
end
end Go.Proofs.YtfbalkjbfjncmaaGreat

namespace Go.Proofs.YtfbalkjbfjncmaaGreat
open Go Go.RowKit Go.BigFrame
set_option linter.unusedVariables false
set_option linter.unusedSimpArgs false

end Go.Proofs.YtfbalkjbfjncmaaGreat
