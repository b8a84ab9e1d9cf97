/- what of V1 V2 V2b V3 W1 W2 W3 W4 VQ VA VB VC VD VE VF VG VH VI VJ VK VL VR VS VU VV VT VW VX VY VAA VTB VTC VTD VTE D0 DB DA DC DD DE DF DG DH DI DJ DK DL DM DN DOa DP EY EA EB EC ED EE EF EFa EFb EFc EFd EFe EG EH EJ GA GP GN GB GC GD GE GF GG GH GI GJ GK GL GM GO GQ GR GS is leant on -/
import Derived.WalkKit
import Derived.WalkSpells
import Derived.WalkLawsBesides
import Derived.BigQuiet
import Derived.Deep.QuietTactic
import Derived.Lib.Hide
import Derived.Deep.RegionWith
import Derived.Deep.RegionHeld3
import Derived.Deep.LoopGhost
import Derived.Deep.DeepFit
import Derived.Deep.DeepMust
import Derived.Deep.DeepCutAuto
import Derived.Outline
import Derived.Test.YtfibikkcfmohjaaGreatRows
import Derived.Laws.Cover4
import Derived.Laws.IdiomStrings
import Derived.Shelf.Slices.Reverse
import Derived.Ground.Names2Prog
import Derived.Shelf.Slices.Delete
import Derived.Shelf.Spec.SlicesInsertGrow
import Derived.Shelf.Slices.Cells
import Derived.Laws.EntriesVeiled
import Derived.Deep.CutBlock
import Derived.BigRegion
import Derived.RegionTactic
import Derived.ChangeAlike
import Derived.Deep.Slices
import Derived.ChangeSame
import Derived.ArgAppend
import Derived.Laws.RangeAny
import Derived.RangeFuncBox
import Derived.RangeFuncLeaves
import Derived.Shelf.Abstract
import Derived.OwnWalkIn
import Derived.TacticsInMore
import Derived.LoopNIn
import Derived.LoopIn
import Derived.Maps.AppendAt
import Derived.StillTail
import Derived.Lib.ValidLaws
import Derived.Lib.SlTrimSet
import Derived.Lib.MapLaws
import Derived.Shelf.Strings.BuilderK
import Derived.Lib.OthersKept
import Derived.Lib.UnsafeStr
set_option linter.unusedVariables false
set_option linter.unusedSimpArgs false
set_option maxRecDepth 100000
set_option maxHeartbeats 4000000
namespace Go.Proofs.YtfibikkcfmohjaaGreat
open Go
theorem qh {p : Prop} (h : p) : RowKit.Hid p := h
theorem zA (l : List Value) (i : Nat) (a : Value) : l.toArray.setIfInBounds i a = (l.set i a).toArray := List.setIfInBounds_toArray l i a
theorem zB (a b : Value) (l : List Value) : (a :: l).set 0 b = b :: l := rfl
theorem zC (a b : Value) (l : List Value) (n : Nat) : (a :: l).set (n + 1) b = a :: l.set n b := rfl
end Go.Proofs.YtfibikkcfmohjaaGreat
namespace Go.Proofs.YtfibikkcfmohjaaGreat
open Go Go.RowKit Go.BigFrame
def Ext (w w' : World) : Prop := Below w.heap.size w w'
theorem Ext.refl (w : World) : Ext w w := Below.refl _ _
theorem Ext.trans {a b c : World} (h : Ext a b) (k : Ext b c) : Ext a c := Below.trans h (Below.mono k (Below.size h))
theorem Ext.alloc {a w : World} (h : Ext a w) (o : Obj) : Ext a (w.alloc o) := Below.alloc h (Below.size h) o
theorem Ext.drew {a w : World} (h : Ext a w) : Ext a w.drew := Below.drew h
theorem Ext.undrew {w w' : World} (h : Ext w.drew w') : Ext w w' := (Ext.drew (Ext.refl w)).trans h
theorem Ext.setCell {a w : World} (h : Ext a w) {p : Addr} (hp : a.heap.size ≤ p.block) (u : Value) : Ext a (w.setCell p u) := Below.setCell h hp u
theorem Ext.grown {a w w' : World} {row : Option Nat} (h : Ext a w) (hg : w.grownBy w' row) (hr : ∀ k, row = some k → a.heap.size ≤ k) : Ext a w' :=
  Below.grown h hg (Below.size h) hr
theorem Ext.size {w w' : World} (h : Ext w w') : w.heap.size ≤ w'.heap.size := Below.size h
theorem Ext.cell {w w' : World} (h : Ext w w') {b o : Nat} {v : Value} (hc : w.cell? ⟨b, o, none⟩ = some v) : w'.cell? ⟨b, o, none⟩ = some v :=
  (Below.cell h (p := ⟨b, o, none⟩) (World.block_lt_of_cell? w _ hc)).trans hc
theorem Ext.free {w w' : World} (h : Ext w w') {b o : Nat} (hlt : b < w.heap.size) (hc : w.frozen? ⟨b, o, none⟩ = false) : w'.frozen? ⟨b, o, none⟩ = false :=
  (Below.frozen h (p := ⟨b, o, none⟩) hlt).trans hc
theorem Ext.block {w w' : World} (h : Ext w w') {b : Nat} {x : Obj} (hb : w.heap[b]? = some x) : w'.heap[b]? = some x :=
  (Below.block h b (Array.getElem?_eq_some_iff.1 hb).1).trans hb
theorem cell_lt {w : World} {b o : Nat} {v : Value} (h : w.cell? ⟨b, o, none⟩ = some v) : b < w.heap.size := World.block_lt_of_cell? w _ h
theorem ret_int {k : IntKind} {a b : Int} (h : a = b) : Ending.returned (.int k a) = .returned (.int k b) := by rw [h]

structure ExtOf (w : World) where
  val : World
  ext : Ext w val
instance (w : World) : Nonempty (ExtOf w) := ⟨⟨w, Ext.refl w⟩⟩
theorem inExt {P : Program} {f : FuncId} {args : Array Value} {w : World} {u : ExtOf w} {v : Value} (h : Calls P f args u.val fun e w' => e = .returned v ∧ Ext u.val w') :
    Calls P f args u.val fun e w' => e = .returned v ∧ ∃ u' : ExtOf w, w' = u'.val :=
  h.mono fun _ w' hh => ⟨hh.1, ⟨w', u.ext.trans hh.2⟩, rfl⟩
theorem wp_region_ext {P : Program} {id : Nat} {Q : Exit → Act → World → Prop} {a : Act} {w : World} {l : List Oper} (hm : P.follows .mixedOrders = true) (hB : Region.lexB .any l.toArray = true)
    (h : wpQuiet P l.toArray (fun w' => ∃ u : ExtOf w, w' = u.val) (fun a' => ∀ w', (∃ u : ExtOf w, w' = u.val) → Q .normal a' w') l a) : (Code.region id l.toArray true).wp P Q a w :=
  wp_region_quiet (C := fun w' => ∃ u : ExtOf w, w' = u.val) hm hB ⟨⟨w.drew, (Ext.refl w).drew⟩, rfl⟩ (by simpa using h)

def RBool (b : Bool) (w : World) (e : Ending) (w' : World) : Prop := e = .returned (.bool b) ∧ Ext w w'

theorem owned_ints {w : World} {base e : Nat} {v : Value} {n : Nat} {zs : List Int} (h : w.ownsRow base e 1 v n (zs.map (Value.int .i64))) (hn : 0 < n) :
    ∃ g cap, v = .slice (some ⟨g, 0, none⟩) zs.length cap ∧ base ≤ g ∧ g < w.heap.size ∧ ∀ (i : Nat) z, zs[i]? = some z → w.cell? ⟨g, i, none⟩ = some (.int .i64 z) := by
  have h' := h
  obtain ⟨hlen, hv | ⟨g, cap, cur, rfl, hbg, hgg, hcap, hmax, hsz, htk⟩⟩ := h
  · omega
  · have hC := h'.cells (g := g) rfl
    have e : n = zs.length := by simp at hlen; omega
    subst e
    refine ⟨g, cap, rfl, hbg, (Array.getElem?_eq_some_iff.1 hgg).1, fun i z hz => ?_⟩
    have := hC i (.int .i64 z) (by simp [hz])
    simpa [Addr.add_lit] using this

abbrev Two (w : World) (b : Nat) (x y : Value) : Prop := w.cell? ⟨b, 0, none⟩ = some x ∧ w.cell? ⟨b, 1, none⟩ = some y ∧ w.frozen? ⟨b, 0, none⟩ = false ∧ w.frozen? ⟨b, 1, none⟩ = false
theorem Two.new (w : World) (x y : Value) (t : TypeId) : Two (w.alloc (.cells #[x, y] t)) w.heap.size x y :=
  ⟨by simp [go_sem], by simp [go_sem], by simp [go_sem], by simp [go_sem]⟩
theorem cells2 {w : World} {b : Nat} {x y : Value} (h0 : w.cell? ⟨b, 0, none⟩ = some x) (h1 : w.cell? ⟨b, 1, none⟩ = some y) : ∀ j u, [x, y][j]? = some u → w.cell? (Addr.add ⟨b, 0, none⟩ j) = some u := by
  intro j u h
  match j, h with
  | 0, h => simpa [Addr.add, h0] using h
  | 1, h => simpa [Addr.add, h1] using h
theorem cells_3 {w : World} {b : Nat} {x y p : Int} (h0 : w.cell? ⟨b, 0, none⟩ = some (.int .i64 x)) (h1 : w.cell? ⟨b, 1, none⟩ = some (.int .i64 y)) (h2 : w.cell? ⟨b, 2, none⟩ = some (.int .i64 p)) : ∀ (i : Nat) z, [x, y, p][i]? = some z → w.cell? ⟨b, i, none⟩ = some (.int .i64 z) := by
  intro j u h
  match j, h with
  | 0, h => simpa [h0] using h
  | 1, h => simpa [h1] using h
  | 2, h => simpa [h2] using h
theorem cells_2 {w : World} {b : Nat} {x y : Int} (h0 : w.cell? ⟨b, 0, none⟩ = some (.int .i64 x)) (h1 : w.cell? ⟨b, 1, none⟩ = some (.int .i64 y)) : ∀ (i : Nat) z, [x, y][i]? = some z → w.cell? ⟨b, i, none⟩ = some (.int .i64 z) := by
  intro j u h
  match j, h with
  | 0, h => simpa [h0] using h
  | 1, h => simpa [h1] using h
theorem cells_4 {w : World} {b : Nat} {x y p q : Int} (h0 : w.cell? ⟨b, 0, none⟩ = some (.int .i64 x)) (h1 : w.cell? ⟨b, 1, none⟩ = some (.int .i64 y)) (h2 : w.cell? ⟨b, 2, none⟩ = some (.int .i64 p)) (h3 : w.cell? ⟨b, 3, none⟩ = some (.int .i64 q)) : ∀ (i : Nat) z, [x, y, p, q][i]? = some z → w.cell? ⟨b, i, none⟩ = some (.int .i64 z) := by
  intro j u h
  match j, h with
  | 0, h => simpa [h0] using h
  | 1, h => simpa [h1] using h
  | 2, h => simpa [h2] using h
  | 3, h => simpa [h3] using h
theorem cells_5 {w : World} {b : Nat} {x y p q r : Int} (h0 : w.cell? ⟨b, 0, none⟩ = some (.int .i64 x)) (h1 : w.cell? ⟨b, 1, none⟩ = some (.int .i64 y)) (h2 : w.cell? ⟨b, 2, none⟩ = some (.int .i64 p)) (h3 : w.cell? ⟨b, 3, none⟩ = some (.int .i64 q)) (h4 : w.cell? ⟨b, 4, none⟩ = some (.int .i64 r)) : ∀ (i : Nat) z, [x, y, p, q, r][i]? = some z → w.cell? ⟨b, i, none⟩ = some (.int .i64 z) := by
  intro j u h
  match j, h with
  | 0, h => simpa [h0] using h
  | 1, h => simpa [h1] using h
  | 2, h => simpa [h2] using h
  | 3, h => simpa [h3] using h
  | 4, h => simpa [h4] using h
structure Nd where
  tag : Int
  attrs : List (ByteArray × ByteArray)
  text : ByteArray
  kids : List Int
  parent : Int
structure Tr where
  cap : Int
  deep : Int
  count : Int
  nodes : List (Option Nd)

abbrev Ow := Nat → Option (Nat × Nat)
def RowP (w : World) (p : Nat → Prop) (e size : Nat) (v : Value) (n : Nat) (xs : List Value) : Prop :=
  xs.length = n * size ∧ ((n = 0 ∧ ∃ a, v = .slice a 0 0) ∨
    ∃ g cap cur, v = .slice (some ⟨g, 0, none⟩) n cap ∧ p g ∧ w.heap[g]? = some (.cells cur e (0, 0)) ∧ n ≤ cap ∧ cap ≤ maxLen ∧ cur.size = cap * size ∧ cur.toList.take (n * size) = xs)
def RowAt (w : World) (own : Ow) (e size : Nat) (o : Nat × Nat) (v : Value) (n : Nat) (xs : List Value) : Prop := RowP w (fun g => own g = some o) e size v n xs
def RowIn (w : World) (B : Nat) (e size : Nat) (v : Value) (n : Nat) (xs : List Value) : Prop := RowP w (fun g => B ≤ g) e size v n xs
def RowRd (w : World) (size : Nat) (v : Value) (n : Nat) (xs : List Value) : Prop :=
  xs.length = n * size ∧ ∃ ao cap, v = .slice ao n cap ∧ n ≤ cap ∧ (ao = none → n = 0 ∧ cap = 0) ∧ ∀ a, ao = some a → ∀ (j : Nat) x, xs[j]? = some x → w.cell? (a.add j) = some x
def attrCells : List (ByteArray × ByteArray) → List Value
  | [] => []
  | (a, b) :: r => .string a :: .string b :: attrCells r
def nodeVal (ptr : Nat → Nat) (i : Nat) : Option Nd → Value
  | some _ => .pointer (some ⟨ptr i, 0, none⟩)
  | none => .pointer none
def nodeVals (ptr : Nat → Nat) (l : List (Option Nd)) : List Value := l.mapIdx (nodeVal ptr)
structure TreeAt (w : World) (own : Ow) (ptr : Nat → Nat) (tb : Nat) (T : Tr) : Prop where
  head : ∃ nv, w.heap[tb]? = some (.cells #[.int .i64 T.cap, .int .i64 T.deep, .int .i64 T.count, nv] 165 (0, 0)) ∧ own tb = some (0, 0) ∧
    RowAt w own 119 1 (1, 0) nv T.nodes.length (nodeVals ptr T.nodes)
  node : ∀ i nd, T.nodes[i]? = some (some nd) → ∃ av kv, w.heap[ptr i]? = some (.cells #[.int .i64 nd.tag, av, .string nd.text, kv, .int .i64 nd.parent] 128 (0, 0)) ∧
    own (ptr i) = some (2, i) ∧ RowAt w own 131 2 (3, i) av nd.attrs.length (attrCells nd.attrs) ∧ RowAt w own 3 1 (4, i) kv nd.kids.length (nd.kids.map (Value.int .i64))
structure Small (T : Tr) : Prop where
  cap0 : 0 ≤ T.cap
  cap1 : T.cap ≤ 2000
  deep0 : 0 ≤ T.deep
  deep1 : T.deep ≤ 40
  count0 : 0 ≤ T.count
  count1 : T.count ≤ T.cap
  len : T.nodes.length ≤ 2000

def Tr.get? (T : Tr) (id : Int) : Option Nd := if id < 0 then none else (T.nodes[id.toNat]?).join

def Keep (own : Ow) (w w' : World) : Prop := ∀ b, own b ≠ none → w'.heap[b]? = w.heap[b]?
theorem RowAt.keep {w w' : World} {own : Ow} {e size : Nat} {o : Nat × Nat} {v : Value} {n : Nat} {xs : List Value} (h : RowAt w own e size o v n xs) (k : Keep own w w') : RowAt w' own e size o v n xs := by
  refine ⟨h.1, ?_⟩
  rcases h.2 with h0 | ⟨g, cap, cur, h1, h2, h3, h4⟩
  · exact .inl h0
  · exact .inr ⟨g, cap, cur, h1, h2, by rw [k g (by simp [h2])]; exact h3, h4⟩
theorem TreeAt.keep {w w' : World} {own : Ow} {ptr : Nat → Nat} {tb : Nat} {T : Tr} (h : TreeAt w own ptr tb T) (k : Keep own w w') : TreeAt w' own ptr tb T := by
  constructor
  · obtain ⟨nv, h1, h2, h3⟩ := h.head
    exact ⟨nv, by rw [k tb (by simp [h2])]; exact h1, h2, h3.keep k⟩
  · intro i nd hi
    obtain ⟨av, kv, h1, h2, h3, h4⟩ := h.node i nd hi
    exact ⟨av, kv, by rw [k _ (by simp [h2])]; exact h1, h2, h3.keep k, h4.keep k⟩
def Owned (own : Ow) (w : World) : Prop := ∀ b, own b ≠ none → b < w.heap.size
theorem Ext.keep {w w' : World} {own : Ow} (h : Ext w w') (o : Owned own w) : Keep own w w' := fun b hb => Below.block h b (o b hb)

theorem cellOf {w : World} {b : Nat} {cs : Array Value} {t : TypeId} {fr : Nat × Nat} (h : w.heap[b]? = some (.cells cs t fr)) {i : Nat} {v : Value} (hi : cs[i]? = some v) : w.cell? ⟨b, i, none⟩ = some v := by
  simp [World.cell?, h, hi]
theorem freeOf {w : World} {b : Nat} {cs : Array Value} {t : TypeId} (h : w.heap[b]? = some (.cells cs t (0, 0))) (i : Nat) : w.frozen? ⟨b, i, none⟩ = false := by
  simp [World.frozen?, h]
theorem RowP.rd {w : World} {p : Nat → Prop} {e size : Nat} {v : Value} {n : Nat} {xs : List Value} (h : RowP w p e size v n xs) : RowRd w size v n xs := by
  refine ⟨h.1, ?_⟩
  rcases h.2 with ⟨rfl, a, rfl⟩ | ⟨g, cap, cur, rfl, h2, h3, h4, h5, h6, h7⟩
  · have hl := h.1
    obtain rfl : xs = [] := List.eq_nil_of_length_eq_zero (by simpa using hl)
    exact ⟨a, 0, rfl, Nat.le_refl _, fun _ => ⟨rfl, rfl⟩, fun a' _ j x hx => by simp at hx⟩
  · refine ⟨_, cap, rfl, h4, (fun h => by cases h), fun a ha j x hx => ?_⟩
    cases ha
    rw [Addr.add_lit, Nat.zero_add]
    refine cellOf h3 ?_
    rw [← h7, List.getElem?_take] at hx
    split at hx
    · simpa using hx
    · cases hx
theorem RowRd.len_of {w : World} {size : Nat} {v : Value} {n : Nat} {xs : List Value} (h : RowRd w size v n xs) : ∃ a cap, v = .slice a n cap ∧ n ≤ cap := by
  obtain ⟨_, a, cap, h1, h2, _⟩ := h
  exact ⟨a, cap, h1, h2⟩
theorem RowRd.ext {w w' : World} {size : Nat} {v : Value} {n : Nat} {xs : List Value} (h : RowRd w size v n xs) (k : Ext w w') : RowRd w' size v n xs := by
  obtain ⟨h1, ao, cap, h2, h3, h4, h5⟩ := h
  refine ⟨h1, ao, cap, h2, h3, h4, fun a ha j x hx => ?_⟩
  have hc := h5 a ha j x hx
  exact (Below.cell k (World.block_lt_of_cell? w _ hc)).trans hc
theorem RowP.imp {w : World} {p q : Nat → Prop} {e size : Nat} {v : Value} {n : Nat} {xs : List Value} (h : RowP w p e size v n xs) (k : ∀ g, v.ownBlock = some g → p g → q g) : RowP w q e size v n xs := by
  refine ⟨h.1, ?_⟩
  rcases h.2 with h0 | ⟨g, cap, cur, h1, h2, h3⟩
  · exact .inl h0
  · exact .inr ⟨g, cap, cur, h1, k g (by rw [h1]; rfl) h2, h3⟩
theorem RowP.ext {w w' : World} {p : Nat → Prop} {e size : Nat} {v : Value} {n : Nat} {xs : List Value} (h : RowP w p e size v n xs) (k : Ext w w') : RowP w' p e size v n xs := by
  refine ⟨h.1, ?_⟩
  rcases h.2 with h0 | ⟨g, cap, cur, h1, h2, h3, h4⟩
  · exact .inl h0
  · exact .inr ⟨g, cap, cur, h1, h2, k.block h3, h4⟩
theorem RowP.block {w : World} {B e size : Nat} {v : Value} {n : Nat} {xs : List Value} (h : RowP w (fun g => B ≤ g) e size v n xs) : ∃ rb : Option Nat, RowP w (fun g => rb = some g) e size v n xs ∧ ∀ k, rb = some k → B ≤ k ∧ k < w.heap.size := by
  rcases h.2 with h0 | ⟨g, cap, cur, h1, h2, h3, h4⟩
  · exact ⟨none, ⟨h.1, .inl h0⟩, fun k hk => by cases hk⟩
  · exact ⟨some g, ⟨h.1, .inr ⟨g, cap, cur, h1, rfl, h3, h4⟩⟩, fun k hk => by cases hk; exact ⟨h2, (Array.getElem?_eq_some_iff.1 h3).1⟩⟩
theorem RowIn.block {w : World} {B e size : Nat} {v : Value} {n : Nat} {xs : List Value} (h : RowIn w B e size v n xs) : ∃ rb : Option Nat, RowP w (fun g => rb = some g) e size v n xs ∧ ∀ k, rb = some k → B ≤ k ∧ k < w.heap.size := RowP.block h
theorem RowP.of_owns {w : World} {B e size : Nat} {v : Value} {n : Nat} {xs : List Value} (h : w.ownsRow B e size v n xs) : RowIn w B e size v n xs := by
  refine ⟨h.1, ?_⟩
  rcases h.2 with ⟨h1, h2⟩ | ⟨g, cap, cur, h1, h2, h3, h4⟩
  · exact .inl ⟨h2, none, h2 ▸ h1⟩
  · exact .inr ⟨g, cap, cur, h1, h2, h3, h4⟩
theorem RowAt.cell {w : World} {own : Ow} {e : Nat} {o : Nat × Nat} {v : Value} {n : Nat} {xs : List Value} (h : RowAt w own e 1 o v n xs) {i : Nat} {x : Value} (hx : xs[i]? = some x) :
    ∃ g cap, v = .slice (some ⟨g, 0, none⟩) n cap ∧ w.cell? ⟨g, i, none⟩ = some x := by
  rcases h.2 with ⟨h0, _⟩ | ⟨g, cap, cur, h1, h2, h3, h4, h5, h6, h7⟩
  · have hl := h.1
    rw [h0] at hl
    obtain rfl : xs = [] := List.eq_nil_of_length_eq_zero (by simpa using hl)
    simp at hx
  · refine ⟨g, cap, h1, cellOf h3 ?_⟩
    rw [← h7, List.getElem?_take] at hx
    split at hx
    · simpa using hx
    · cases hx
theorem RowAt.len {w : World} {own : Ow} {e size : Nat} {o : Nat × Nat} {v : Value} {n : Nat} {xs : List Value} (h : RowAt w own e size o v n xs) : ∃ a cap, v = .slice a n cap ∧ n ≤ cap ∧ cap ≤ maxLen := by
  rcases h.2 with ⟨rfl, a, rfl⟩ | ⟨g, cap, cur, h1, h2, h3, h4, h5, h6⟩
  · exact ⟨a, 0, rfl, Nat.le_refl _, Nat.zero_le _⟩
  · exact ⟨_, cap, h1, h4, h5⟩

def RSame (v : Value) (w : World) (e : Ending) (w' : World) : Prop := e = .returned v ∧ w = w'
def RVal (v : Value) (w : World) (e : Ending) (w' : World) : Prop := e = .returned v ∧ Ext w w'
theorem RSame.val {P : Program} {f : FuncId} {args : Array Value} {v : Value} {w : World} (h : Calls P f args w (RSame v w)) : Calls P f args w (RVal v w) :=
  h.mono fun e w' hh => ⟨hh.1, hh.2 ▸ Ext.refl w⟩

theorem Tr.get_lt {T : Tr} {id : Int} {nd : Nd} (h : T.get? id = some nd) : 0 ≤ id ∧ id.toNat < T.nodes.length ∧ T.nodes[id.toNat]? = some (some nd) := by
  unfold Tr.get? at h
  split at h
  · cases h
  · have h' : T.nodes[id.toNat]? = some (some nd) := by
      cases hc : T.nodes[id.toNat]? with
      | none => rw [hc] at h; cases h
      | some x => rw [hc] at h; simpa using h
    exact ⟨by omega, (List.getElem?_eq_some_iff.1 h').1, h'⟩

theorem get_some {w : World} {own : Ow} {ptr : Nat → Nat} {tb : Nat} {T : Tr} (hT : TreeAt w own ptr tb T) {id : Int} {nd : Nd} (h : T.get? id = some nd) :
    Calls Tryz.prog 87 #[.pointer (some ⟨tb, 0, none⟩), .int .i64 id] w (RSame (.pointer (some ⟨ptr id.toNat, 0, none⟩)) w) := by
  obtain ⟨h0, hlt, hnd⟩ := Tr.get_lt h
  obtain ⟨i, rfl⟩ := Int.eq_ofNat_of_zero_le h0
  simp only [Int.toNat_natCast] at hlt hnd ⊢
  obtain ⟨nv, hb, _, hrow⟩ := hT.head
  obtain ⟨g, cap, rfl, hcell⟩ := hrow.cell (i := i) (x := .pointer (some ⟨ptr i, 0, none⟩)) (by simp [nodeVals, List.getElem?_mapIdx, hnd, nodeVal])
  obtain ⟨_, _, e1, e2, e3⟩ := hrow.len
  cases e1
  have c3 := cellOf hb (i := 3) rfl
  unfold maxLen at e3
  clear hb hrow hT hnd h h0
  go_enter Tryz.func87, Tryz.ntmps87
  go_wp2
  go_ret
  exact ⟨rfl, rfl⟩
theorem get_none {w : World} {own : Ow} {ptr : Nat → Nat} {tb : Nat} {T : Tr} (hT : TreeAt w own ptr tb T) {id : Int} (h : T.get? id = none) :
    Calls Tryz.prog 87 #[.pointer (some ⟨tb, 0, none⟩), .int .i64 id] w (RSame (.pointer none) w) := by
  obtain ⟨nv, hb, _, hrow⟩ := hT.head
  obtain ⟨a, cap, rfl, e2, e3⟩ := hrow.len
  have c3 := cellOf hb (i := 3) rfl
  unfold maxLen at e3
  by_cases h0 : id < 0
  · clear hb hrow hT h
    go_enter Tryz.func87, Tryz.ntmps87
    go_wp2
    go_ret
    exact ⟨rfl, rfl⟩
  · obtain ⟨i, rfl⟩ := Int.eq_ofNat_of_zero_le (by omega : 0 ≤ id)
    by_cases hlt : i < T.nodes.length
    · have hnd : T.nodes[i]? = some none := by
        unfold Tr.get? at h
        rw [if_neg h0, Int.toNat_natCast] at h
        cases hc : T.nodes[i]? with
        | none => rw [List.getElem?_eq_none_iff] at hc; omega
        | some x => rw [hc] at h; cases x with
          | none => rfl
          | some y => simp at h
      obtain ⟨g, cap', e, hcell⟩ := hrow.cell (i := i) (x := .pointer none) (by simp [nodeVals, List.getElem?_mapIdx, hnd, nodeVal])
      cases e
      clear hb hrow hT hnd h h0
      go_enter Tryz.func87, Tryz.ntmps87
      go_wp2
      go_ret
      exact ⟨rfl, rfl⟩
    · clear hb hrow hT h
      go_enter Tryz.func87, Tryz.ntmps87
      go_wp2
      go_ret
      exact ⟨rfl, rfl⟩
theorem Has_none {w : World} {own : Ow} {ptr : Nat → Nat} {tb : Nat} {T : Tr} (hT : TreeAt w own ptr tb T) {id : Int} (h : T.get? id = none) : Calls Tryz.prog 26 #[.pointer (some ⟨tb, 0, none⟩), .int .i64 id] w (RSame (.bool false) w) := by
  have H := qh h
  clear h
  go_enter Tryz.func26, Tryz.ntmps26
  go_wp2_with (go_at_call 87; refine (get_none hT H.out).mono ?_; rintro e w' ⟨rfl, rfl⟩)
  go_ret
  exact ⟨rfl, rfl⟩
theorem Has_some {w : World} {own : Ow} {ptr : Nat → Nat} {tb : Nat} {T : Tr} (hT : TreeAt w own ptr tb T) {id : Int} {nd : Nd} (h : T.get? id = some nd) : Calls Tryz.prog 26 #[.pointer (some ⟨tb, 0, none⟩), .int .i64 id] w (RSame (.bool true) w) := by
  have H := qh h
  have hn := (Tr.get_lt h).2.2
  obtain ⟨av, kv, hb, _⟩ := hT.node _ _ hn

  clear hb hn h
  go_enter Tryz.func26, Tryz.ntmps26
  go_wp2_with (go_at_call 87; refine (get_some hT H.out).mono ?_; rintro e w' ⟨rfl, rfl⟩)
  go_ret
  exact ⟨rfl, rfl⟩
theorem Tag_none {w : World} {own : Ow} {ptr : Nat → Nat} {tb : Nat} {T : Tr} (hT : TreeAt w own ptr tb T) {id : Int} (h : T.get? id = none) : Calls Tryz.prog 47 #[.pointer (some ⟨tb, 0, none⟩), .int .i64 id] w (RSame (.int .i64 (-1)) w) := by
  have H := qh h
  clear h
  go_enter Tryz.func47, Tryz.ntmps47
  go_wp2_with (go_at_call 87; refine (get_none hT H.out).mono ?_; rintro e w' ⟨rfl, rfl⟩)
  go_ret
  exact ⟨rfl, rfl⟩
theorem Tag_some {w : World} {own : Ow} {ptr : Nat → Nat} {tb : Nat} {T : Tr} (hT : TreeAt w own ptr tb T) {id : Int} {nd : Nd} (h : T.get? id = some nd) : Calls Tryz.prog 47 #[.pointer (some ⟨tb, 0, none⟩), .int .i64 id] w (RSame (.int .i64 nd.tag) w) := by
  have H := qh h
  have hn := (Tr.get_lt h).2.2
  obtain ⟨av, kv, hb, _⟩ := hT.node _ _ hn

  have c := cellOf hb (i := 0) rfl
  clear hb hn h
  go_enter Tryz.func47, Tryz.ntmps47
  go_wp2_with (go_at_call 87; refine (get_some hT H.out).mono ?_; rintro e w' ⟨rfl, rfl⟩)
  go_ret
  exact ⟨rfl, rfl⟩
theorem Told_none {w : World} {own : Ow} {ptr : Nat → Nat} {tb : Nat} {T : Tr} (hT : TreeAt w own ptr tb T) {id : Int} (h : T.get? id = none) : Calls Tryz.prog 49 #[.pointer (some ⟨tb, 0, none⟩), .int .i64 id] w (RSame (.string ByteArray.empty) w) := by
  have H := qh h
  clear h
  go_enter Tryz.func49, Tryz.ntmps49
  go_wp2_with (go_at_call 87; refine (get_none hT H.out).mono ?_; rintro e w' ⟨rfl, rfl⟩)
  go_ret
  exact ⟨rfl, rfl⟩
theorem Told_some {w : World} {own : Ow} {ptr : Nat → Nat} {tb : Nat} {T : Tr} (hT : TreeAt w own ptr tb T) {id : Int} {nd : Nd} (h : T.get? id = some nd) : Calls Tryz.prog 49 #[.pointer (some ⟨tb, 0, none⟩), .int .i64 id] w (RSame (.string nd.text) w) := by
  have H := qh h
  have hn := (Tr.get_lt h).2.2
  obtain ⟨av, kv, hb, _⟩ := hT.node _ _ hn

  have c := cellOf hb (i := 2) rfl
  clear hb hn h
  go_enter Tryz.func49, Tryz.ntmps49
  go_wp2_with (go_at_call 87; refine (get_some hT H.out).mono ?_; rintro e w' ⟨rfl, rfl⟩)
  go_ret
  exact ⟨rfl, rfl⟩
theorem Parent_none {w : World} {own : Ow} {ptr : Nat → Nat} {tb : Nat} {T : Tr} (hT : TreeAt w own ptr tb T) {id : Int} (h : T.get? id = none) : Calls Tryz.prog 27 #[.pointer (some ⟨tb, 0, none⟩), .int .i64 id] w (RSame (.int .i64 (-1)) w) := by
  have H := qh h
  clear h
  go_enter Tryz.func27, Tryz.ntmps27
  go_wp2_with (go_at_call 87; refine (get_none hT H.out).mono ?_; rintro e w' ⟨rfl, rfl⟩)
  go_ret
  exact ⟨rfl, rfl⟩
theorem Parent_some {w : World} {own : Ow} {ptr : Nat → Nat} {tb : Nat} {T : Tr} (hT : TreeAt w own ptr tb T) {id : Int} {nd : Nd} (h : T.get? id = some nd) : Calls Tryz.prog 27 #[.pointer (some ⟨tb, 0, none⟩), .int .i64 id] w (RSame (.int .i64 nd.parent) w) := by
  have H := qh h
  have hn := (Tr.get_lt h).2.2
  obtain ⟨av, kv, hb, _⟩ := hT.node _ _ hn

  have c := cellOf hb (i := 4) rfl
  clear hb hn h
  go_enter Tryz.func27, Tryz.ntmps27
  go_wp2_with (go_at_call 87; refine (get_some hT H.out).mono ?_; rintro e w' ⟨rfl, rfl⟩)
  go_ret
  exact ⟨rfl, rfl⟩
theorem Count_any {w : World} {own : Ow} {ptr : Nat → Nat} {tb : Nat} {T : Tr} (hT : TreeAt w own ptr tb T) : Calls Tryz.prog 91 #[.pointer (some ⟨tb, 0, none⟩)] w (RSame (.int .i64 T.count) w) := by
  obtain ⟨nv, hb, _⟩ := hT.head
  have c := cellOf hb (i := 2) rfl
  clear hb
  go_enter Tryz.func91, Tryz.ntmps91
  go_wp2
  go_ret
  exact ⟨rfl, rfl⟩
def RTwo (v v' : Value) (w : World) (e : Ending) (w' : World) : Prop := e = .returned (.tuple #[v, v']) ∧ Ext w w'
theorem Room_any {w : World} {own : Ow} {ptr : Nat → Nat} {tb : Nat} {T : Tr} (hT : TreeAt w own ptr tb T) : Calls Tryz.prog 64 #[.pointer (some ⟨tb, 0, none⟩)] w (RTwo (.int .i64 T.cap) (.int .i64 T.deep) w) := by
  obtain ⟨nv, hb, _⟩ := hT.head
  have c := cellOf hb (i := 0) rfl
  have c' := cellOf hb (i := 1) rfl
  clear hb
  have d := fun u : ExtOf w => u.ext.cell c
  have d' := fun u : ExtOf w => u.ext.cell c'
  go_enter Tryz.func64, Tryz.ntmps64
  go_wp2_with fail
  refine wp_region_ext (by kernel_rfl) (by kernel_rfl) ?_
  repeat (go_big_quiet_step (fail))
  refine wpQuiet_nil ?_
  rintro _ ⟨u, rfl⟩
  go_wp2
  go_ret2
  exact ⟨rfl, u.ext⟩
theorem room_any {w : World} {own : Ow} {ptr : Nat → Nat} {tb : Nat} {T : Tr} (hT : TreeAt w own ptr tb T) (hs : Small T) (n : Int) (h0 : 0 ≤ n) (h1 : n ≤ 100000000) : Calls Tryz.prog 119 #[.pointer (some ⟨tb, 0, none⟩), .int .i64 n] w (RBool (decide (n ≤ T.cap - T.count)) w) := by
  obtain ⟨nv, hb, _⟩ := hT.head
  have c := cellOf hb (i := 0) rfl
  have c' := cellOf hb (i := 2) rfl
  clear hb
  have d := fun u : ExtOf w => u.ext.cell c
  have d' := fun u : ExtOf w => u.ext.cell c'
  have b1 := hs.cap0
  have b2 := hs.cap1
  have b3 := hs.count0
  have b4 := hs.count1
  have b5 : IntKind.i64.wrap (T.cap - T.count) = T.cap - T.count := IntWalk.i64_in _ (by omega)
  go_enter Tryz.func119, Tryz.ntmps119
  go_wp2_with fail
  refine wp_region_ext (by kernel_rfl) (by kernel_rfl) ?_
  repeat (go_big_quiet_step (fail))
  refine wpQuiet_nil ?_
  rintro _ ⟨u, rfl⟩
  go_wp2
  go_ret
  exact ⟨rfl, u.ext⟩
theorem element_yes (n : Int) (h0 : 1 ≤ n) (h1 : n ≤ 16) (w : World) : Calls Tryz.prog 128 #[.int .i64 n] w (RSame (.bool true) w) := by
  go_enter Tryz.func128, Tryz.ntmps128
  go_wp2
  go_ret
  exact ⟨rfl, rfl⟩
theorem element_no (n : Int) (h : ¬ (1 ≤ n ∧ n ≤ 16)) (w : World) : Calls Tryz.prog 128 #[.int .i64 n] w (RSame (.bool false) w) := by
  by_cases h0 : 1 ≤ n
  · have h1 : ¬ n ≤ 16 := fun h1 => h ⟨h0, h1⟩
    clear h
    go_enter Tryz.func128, Tryz.ntmps128
    go_wp2
    go_ret
    exact ⟨rfl, rfl⟩
  · clear h
    go_enter Tryz.func128, Tryz.ntmps128
    go_wp2
    go_ret
    exact ⟨rfl, rfl⟩
def RRow (e size n : Nat) (xs : List Value) (w : World) (en : Ending) (w' : World) : Prop := ∃ v, en = .returned v ∧ RowIn w' w.heap.size e size v n xs ∧ Ext w w'
theorem infoI : (Tryz.prog.info? 3).map (fun i => (i.zero, i.size, i.bytes)) = some (some (.int .i64 0), 1, 8) := by kernel_rfl
theorem infoA : (Tryz.prog.info? 131).map (fun i => (i.zero, i.size, i.bytes)) = some (some (.agg #[.string ByteArray.empty, .string ByteArray.empty]), 2, 32) := by kernel_rfl
theorem infoP : (Tryz.prog.info? 119).map (fun i => (i.zero, i.size, i.bytes)) = some (some (.pointer none), 1, 8) := by kernel_rfl

theorem cloneI_any {v : Value} {n : Nat} {xs : List Value} {w : World} (h : RowRd w 1 v n xs) (hn : n ≤ 60000) (h1 : ∀ u ∈ xs, u.oneCell' = true) :
    Calls Tryz.prog 97 #[v] w (RRow 3 1 n xs w) := by
  obtain ⟨hl, ao, cap, rfl, hcap, hnone, hc⟩ := h
  have he := fun (w : World) (a : Option Addr) (n c : Nat) => Lib.run_eql_slice_nil (P := Tryz.prog) w 50 3 a n c 0 0 Tryz.underlying50
  cases ao with
  | none =>
    obtain ⟨rfl, rfl⟩ := hnone rfl
    obtain rfl : xs = [] := List.eq_nil_of_length_eq_zero (by simpa using hl)
    clear hc hnone hl h1 hn
    go_enter Tryz.func97, Tryz.ntmps97
    go_wp2
    go_ret
    exact ⟨_, rfl, ⟨by simp, .inl ⟨rfl, _, rfl⟩⟩, Ext.refl _⟩
  | some a =>
    have HC := qh (hc a rfl)
    clear hc hnone
    rcases Nat.eq_zero_or_pos n with rfl | hpos
    · obtain rfl : xs = [] := List.eq_nil_of_length_eq_zero (by simpa using hl)
      clear HC hl h1 hn
      go_enter Tryz.func97, Tryz.ntmps97
      go_wp2
      go_ret
      exact ⟨_, rfl, ⟨by simp, .inl ⟨rfl, _, rfl⟩⟩, (Ext.refl _).alloc _⟩
    · obtain ⟨i0, hi, hz0, hz1, hz2⟩ := info_parts infoI
      have Hi := qh hi
      have Hz0 := qh hz0
      have Hz1 := qh hz1
      have Hz2 := qh hz2
      have H1 := qh h1
      have HL := qh hl
      have HN := qh hn
      clear hi hz0 hz1 hz2 h1 hl hn
      go_enter Tryz.func97, Tryz.ntmps97
      go_wp2_with (at_builtin; refine wpList_append_grows _ rfl _ _ 50 rfl 3 i0 (.int .i64 0) 1 8 Tryz.underlying50 Hi.out Hz0.out Hz1.out Hz2.out rfl (by decide) (some ⟨w.heap.size, 0, none⟩) 0 0 [] rfl (by simp) (by simp) (by simp) a n cap xs rfl HL.out ?c2 H1.out (by omega) ?c3 ?c4 ?_)
      case c2 =>
        intro j u hj
        have hcj := HC.out j u hj
        exact (Below.cell ((Ext.refl w).alloc _) (World.block_lt_of_cell? w _ hcj)).trans hcj
      case c3 => have := HN.out; unfold maxLen; omega
      case c4 => have := HN.out; omega
      intro v' w1 hown hg
      have hb : Ext w w1 := ((Ext.refl _).alloc _).grown hg (by simp)
      clear hg
      go_wp2
      go_ret
      refine ⟨_, rfl, ?_, hb⟩
      have hr := RowP.of_owns hown
      exact RowP.imp hr (fun g _ (hg : w.heap.size + 1 ≤ g) => Nat.le_of_succ_le hg)
theorem cloneA_any {v : Value} {n : Nat} {xs : List Value} {w : World} (h : RowRd w 2 v n xs) (hn : n ≤ 60000) (h1 : ∀ u ∈ xs, u.oneCell' = true) :
    Calls Tryz.prog 92 #[v] w (RRow 131 2 n xs w) := by
  obtain ⟨hl, ao, cap, rfl, hcap, hnone, hc⟩ := h
  have he := fun (w : World) (a : Option Addr) (n c : Nat) => Lib.run_eql_slice_nil (P := Tryz.prog) w 31 131 a n c 0 0 Tryz.underlying31
  cases ao with
  | none =>
    obtain ⟨rfl, rfl⟩ := hnone rfl
    obtain rfl : xs = [] := List.eq_nil_of_length_eq_zero (by simpa using hl)
    clear hc hnone hl h1 hn
    go_enter Tryz.func92, Tryz.ntmps92
    go_wp2
    go_ret
    exact ⟨_, rfl, ⟨by simp, .inl ⟨rfl, _, rfl⟩⟩, Ext.refl _⟩
  | some a =>
    have HC := qh (hc a rfl)
    clear hc hnone
    rcases Nat.eq_zero_or_pos n with rfl | hpos
    · obtain rfl : xs = [] := List.eq_nil_of_length_eq_zero (by simpa using hl)
      clear HC hl h1 hn
      go_enter Tryz.func92, Tryz.ntmps92
      go_wp2
      go_ret
      exact ⟨_, rfl, ⟨by simp, .inl ⟨rfl, _, rfl⟩⟩, (Ext.refl _).alloc _⟩
    · obtain ⟨i0, hi, hz0, hz1, hz2⟩ := info_parts infoA
      have Hi := qh hi
      have Hz0 := qh hz0
      have Hz1 := qh hz1
      have Hz2 := qh hz2
      have H1 := qh h1
      have HL := qh hl
      have HN := qh hn
      clear hi hz0 hz1 hz2 h1 hl hn
      go_enter Tryz.func92, Tryz.ntmps92
      go_wp2_with (at_builtin; refine wpList_append_grows _ rfl _ _ 31 rfl 131 i0 (.agg #[.string ByteArray.empty, .string ByteArray.empty]) 2 32 Tryz.underlying31 Hi.out Hz0.out Hz1.out Hz2.out rfl (by decide) (some ⟨w.heap.size, 0, none⟩) 0 0 [] rfl (by simp) (by simp) (by simp) a n cap xs rfl HL.out ?c2 H1.out (by omega) ?c3 ?c4 ?_)
      case c2 =>
        intro j u hj
        have hcj := HC.out j u hj
        exact (Below.cell ((Ext.refl w).alloc _) (World.block_lt_of_cell? w _ hcj)).trans hcj
      case c3 => have := HN.out; unfold maxLen; omega
      case c4 => have := HN.out; omega
      intro v' w1 hown hg
      have hb : Ext w w1 := ((Ext.refl _).alloc _).grown hg (by simp)
      clear hg
      go_wp2
      go_ret
      refine ⟨_, rfl, ?_, hb⟩
      have hr := RowP.of_owns hown
      exact RowP.imp hr (fun g _ (hg : w.heap.size + 1 ≤ g) => Nat.le_of_succ_le hg)
structure WF (T : Tr) (d : Nat → Nat) : Prop where
  small : Small T
  root : ∃ nd, T.nodes[0]? = some (some nd) ∧ nd.parent = -1 ∧ nd.tag = 1
  deep : ∀ (i : Nat) (nd : Nd), T.nodes[i]? = some (some nd) → (d i : Int) ≤ T.deep
  up : ∀ (i : Nat) (nd : Nd), T.nodes[i]? = some (some nd) → nd.parent = -1 ∧ d i = 0 ∨ ∃ (p : Nat) (pd : Nd), nd.parent = (p : Int) ∧ T.nodes[p]? = some (some pd) ∧ d i = d p + 1 ∧ (i : Int) ∈ pd.kids
  kids : ∀ (i : Nat) (nd : Nd), T.nodes[i]? = some (some nd) → nd.kids.Nodup ∧ ∀ k ∈ nd.kids, ∃ (j : Nat) (kd : Nd), k = (j : Int) ∧ T.nodes[j]? = some (some kd) ∧ kd.parent = (i : Int)
  text : ∀ (i : Nat) (nd : Nd), T.nodes[i]? = some (some nd) → 0 ≤ nd.tag ∧ nd.tag ≤ 16 ∧ (nd.tag = 0 → nd.kids = [])
  count : T.count = ((T.nodes.countP Option.isSome : Nat) : Int)
theorem Tr.get_nat (T : Tr) (i : Nat) : T.get? (i : Int) = (T.nodes[i]?).join := by
  unfold Tr.get?; rw [if_neg (by omega), Int.toNat_natCast]
theorem Tr.get_of {T : Tr} {i : Nat} {nd : Nd} (h : T.nodes[i]? = some (some nd)) : T.get? (i : Int) = some nd := by
  rw [T.get_nat, h]; rfl
theorem TreeAt.at {w : World} {own : Ow} {ptr : Nat → Nat} {tb : Nat} {T : Tr} (hT : TreeAt w own ptr tb T) {i : Nat} {nd : Nd} (h : T.nodes[i]? = some (some nd)) :
    ∃ g cap av kv, w.cell? ⟨tb, 3, none⟩ = some (.slice (some ⟨g, 0, none⟩) T.nodes.length cap) ∧ w.cell? ⟨g, i, none⟩ = some (.pointer (some ⟨ptr i, 0, none⟩)) ∧
      w.heap[ptr i]? = some (.cells #[.int .i64 nd.tag, av, .string nd.text, kv, .int .i64 nd.parent] 128 (0, 0)) := by
  obtain ⟨nv, hb, _, hrow⟩ := hT.head
  obtain ⟨g, cap, rfl, hcell⟩ := hrow.cell (i := i) (x := .pointer (some ⟨ptr i, 0, none⟩)) (by simp [nodeVals, List.getElem?_mapIdx, h, nodeVal])
  obtain ⟨av, kv, h1, _⟩ := hT.node i nd h
  exact ⟨g, cap, av, kv, cellOf hb rfl, hcell, h1⟩
theorem TreeAt.nv {w : World} {own : Ow} {ptr : Nat → Nat} {tb : Nat} {T : Tr} (hT : TreeAt w own ptr tb T) {g cap : Nat} {i : Nat} {nd : Nd} (h : T.nodes[i]? = some (some nd))
    (hc : w.cell? ⟨tb, 3, none⟩ = some (.slice (some ⟨g, 0, none⟩) T.nodes.length cap)) : w.cell? ⟨g, i, none⟩ = some (.pointer (some ⟨ptr i, 0, none⟩)) := by
  obtain ⟨g', cap', _, _, h1, h2, _⟩ := hT.at h
  rw [hc] at h1
  cases h1
  exact h2
def up1 (d : Nat → Nat) (v : Value) : Nat := if intOf v < 0 then 0 else d (intOf v).toNat + 1

theorem up1_nat (d : Nat → Nat) (p : Nat) : up1 d (.int .i64 (p : Int)) = d p + 1 := by
  show (if (p : Int) < 0 then 0 else d ((p : Int)).toNat + 1) = d p + 1
  rw [if_neg (by omega), Int.toNat_natCast]
theorem up1_neg (d : Nat → Nat) : up1 d (.int .i64 (-1)) = 0 := rfl

theorem Depth_some {w : World} {own : Ow} {ptr : Nat → Nat} {tb : Nat} {T : Tr} (hT : TreeAt w own ptr tb T) {d : Nat → Nat} (hw : WF T d) {i : Nat} {nd : Nd} (h : T.nodes[i]? = some (some nd)) :
    Calls Tryz.prog 65 #[.pointer (some ⟨tb, 0, none⟩), .int .i64 i] w (RSame (.int .i64 (d i)) w) := by
  obtain ⟨g, cap, av, kv, c3, cn, cb⟩ := hT.at h
  have cp := cellOf cb (i := 4) (v := .int .i64 nd.parent) rfl
  have hlt := (List.getElem?_eq_some_iff.1 h).1
  have hlen := hw.small.len
  have HG := qh (Tr.get_of h)
  have HW := qh hw
  have HC := qh c3
  have HN := qh h
  clear cb h hw
  go_enter Tryz.func65, Tryz.ntmps65
  go_wp2_with (go_at_call 87; refine (get_some hT HG.out).mono ?_; rintro e w' ⟨rfl, rfl⟩)
  go_loop [5, 6] (fun v a => ∃ (j : Nat) (jd : Nd) (c : Nat), T.nodes[j]? = some (some jd) ∧ a = .int .i64 jd.parent ∧ v = .int .i64 c ∧ c + d j = d i ∧ c ≤ 40) (fun _ a => up1 d a)
  case atStart => exact ⟨i, nd, 0, HN.out, rfl, rfl, by omega, by omega⟩
  case round =>
    obtain ⟨j, jd, c, hj, rfl, rfl, hcd, hc40⟩ := hrel
    have HJ := qh hj
    have HCD := qh hcd
    clear hcd hj
    rcases HW.out.up j jd HJ.out with ⟨h0, h1⟩ | ⟨p, pd, h0, h1, h2, h3⟩
    · have hneg : jd.parent < 0 := by omega
      have H0 := qh h0
      have H1 := qh h1
      clear h0 h1
      go_wp2
      go_ret
      exact ⟨ret_int (by have := HCD.out; have := H1.out; omega), rfl⟩
    · obtain ⟨g', cap', av', kv', c3', cn', cb'⟩ := hT.at h1
      have cn'' := hT.nv h1 HC.out
      have cp' := cellOf cb' (i := 4) (v := .int .i64 pd.parent) rfl
      have hlt' := (List.getElem?_eq_some_iff.1 h1).1
      have H1 := qh h1
      have H2 := qh h2
      have hdeep := HW.out.deep i nd HN.out
      have hd1 := HW.out.small.deep1
      have hc39 : c ≤ 39 := by have := HCD.out; omega
      clear h1 h2 h3 cb' c3' cn' hdeep hd1
      rw [h0]
      clear h0
      go_wp2
      go_round
      case rel => exact ⟨p, pd, c + 1, H1.out, rfl, by go_num, by have := HCD.out; have := H2.out; omega, by omega⟩
      case measure =>
        have hu := HW.out.up p pd H1.out
        rcases hu with ⟨q0, q1⟩ | ⟨q, qd, q0, q1, q2, q3⟩
        · rw [q0, up1_neg, up1_nat]; omega
        · rw [q0, up1_nat, up1_nat]; omega

def isIn (T : Tr) (outer : Int) : Nat → Int → Bool
  | 0, _ => false
  | f + 1, id => if id < 0 then false else if id = outer then true else match T.get? id with
    | some nd => isIn T outer f nd.parent
    | none => false
theorem isIn_step {T : Tr} (outer : Int) (f : Nat) {i : Nat} {nd : Nd} (h : T.nodes[i]? = some (some nd)) : isIn T outer (f + 1) i = if (i : Int) = outer then true else isIn T outer f nd.parent := by
  show (if (i : Int) < 0 then false else if (i : Int) = outer then true else match T.get? i with | some nd => isIn T outer f nd.parent | none => false) = _
  rw [if_neg (by omega), Tr.get_of h]
theorem isIn_neg (T : Tr) (outer : Int) (f : Nat) : isIn T outer f (-1) = false := by cases f <;> simp [isIn]
theorem isIn_more {T : Tr} {d : Nat → Nat} (hw : WF T d) (outer : Int) : ∀ (f g i : Nat) (nd : Nd), T.nodes[i]? = some (some nd) → d i < f → d i < g → isIn T outer f i = isIn T outer g i := by
  intro f
  induction f with
  | zero => intro g i nd h h1; omega
  | succ f ih =>
    intro g i nd h h1 h2
    cases g with
    | zero => omega
    | succ g =>
      rw [isIn_step outer f h, isIn_step outer g h]
      split
      · rfl
      · rcases hw.up i nd h with ⟨h3, h4⟩ | ⟨p, pd, h3, h4, h5, h6⟩
        · rw [h3, isIn_neg, isIn_neg]
        · rw [h3]; exact ih g p pd h4 (by omega) (by omega)
def Tr.within (T : Tr) (id outer : Int) : Bool := isIn T outer 50 id

theorem within_any {w : World} {own : Ow} {ptr : Nat → Nat} {tb : Nat} {T : Tr} (hT : TreeAt w own ptr tb T) {d : Nat → Nat} (hw : WF T d) {i : Nat} {nd : Nd} (h : T.nodes[i]? = some (some nd)) {outer : Int} (ho : 0 ≤ outer) :
    Calls Tryz.prog 88 #[.pointer (some ⟨tb, 0, none⟩), .int .i64 i, .int .i64 outer] w (RSame (.bool (T.within i outer)) w) := by
  obtain ⟨g, cap, av, kv, c3, cn, cb⟩ := hT.at h
  have hlt := (List.getElem?_eq_some_iff.1 h).1
  have hlen := hw.small.len
  have hd0 : d i < 50 := by have := hw.deep i nd h; have := hw.small.deep1; omega
  have HW := qh hw
  have HC := qh c3
  have HN := qh h
  clear cb h hw cn
  go_enter Tryz.func88, Tryz.ntmps88
  go_wp2_with fail
  go_loop [1] (fun a => a = .int .i64 (-1) ∧ T.within i outer = false ∨ ∃ (j : Nat) (jd : Nd) (f : Nat), T.nodes[j]? = some (some jd) ∧ a = .int .i64 j ∧ d j < f ∧ T.within i outer = isIn T outer f j) (fun a => up1 d a)
  case atStart => exact .inr ⟨i, nd, 50, HN.out, rfl, hd0, rfl⟩
  case round =>
    rcases hrel with ⟨rfl, hno⟩ | ⟨j, jd, f, hj, rfl, hf, hin⟩
    · have HO := qh hno
      clear hno
      have hne : ((-1 : Int) == outer) = false := by simp; omega
      go_wp2
      go_ret
      exact ⟨by rw [HO.out]; rfl, rfl⟩
    · have HJ := qh hj
      have HI := qh hin
      have hltj := (List.getElem?_eq_some_iff.1 hj).1
      clear hin hj
      by_cases he : (j : Int) = outer
      · have HE := qh he
        have hb : ((j : Int) != outer) = false := by simp [he]
        have hb' : ((j : Int) == outer) = true := by simp [he]
        clear he
        go_wp2
        go_ret
        refine ⟨?_, rfl⟩
        rw [HI.out]
        cases f with
        | zero => omega
        | succ f => unfold isIn; rw [if_neg (by omega), if_pos HE.out]; rfl
      · have hb : ((j : Int) != outer) = true := by simpa using he
        have HE := qh he
        clear he
        obtain ⟨g', cap', av', kv', c3', cn', cb'⟩ := hT.at HJ.out
        have cn'' := hT.nv HJ.out HC.out
        have cp' := cellOf cb' (i := 4) (v := .int .i64 jd.parent) rfl
        clear cb' c3' cn'
        go_wp2
        go_round
        case rel =>
          cases f with
          | zero => omega
          | succ f =>
            have hI := HI.out
            unfold isIn at hI
            rw [if_neg (by omega), if_neg HE.out, Tr.get_of HJ.out] at hI
            rcases HW.out.up j jd HJ.out with ⟨h3, h4⟩ | ⟨p, pd, h3, h4, h5, h6⟩
            · left
              simp only [h3] at hI
              exact ⟨by rw [h3], by rw [hI]; cases f <;> simp [isIn]⟩
            · right
              simp only [h3] at hI
              exact ⟨p, pd, f, h4, by rw [h3], by omega, hI⟩
        case measure =>
          rcases HW.out.up j jd HJ.out with ⟨h3, h4⟩ | ⟨p, pd, h3, h4, h5, h6⟩
          · rw [h3, up1_neg, up1_nat]; omega
          · rw [h3, up1_nat, up1_nat]; omega
def Tr.hgt (T : Tr) : Nat → Int → Int
  | 0, _ => 0
  | f + 1, id => match T.get? id with
    | none => -1
    | some nd => nd.kids.foldl (fun h k => max h (T.hgt f k + 1)) 0
theorem fold_le (F : Int → Int) (b : Int) (h1 : ∀ k, F k ≤ b) (h0 : 0 ≤ b) : ∀ (l : List Int) (z : Int), 0 ≤ z → z ≤ b → 0 ≤ l.foldl (fun h k => max h (F k)) z ∧ l.foldl (fun h k => max h (F k)) z ≤ b := by
  intro l
  induction l with
  | nil => intro z hz hb; exact ⟨hz, hb⟩
  | cons k r ih =>
    intro z hz hb
    have := h1 k
    exact ih _ (show 0 ≤ max z (F k) by omega) (show max z (F k) ≤ b by omega)
theorem Tr.hgt_le (T : Tr) : ∀ (f : Nat) (id : Int), -1 ≤ T.hgt f id ∧ T.hgt f id ≤ f := by
  intro f
  induction f with
  | zero => intro id; simp [Tr.hgt]
  | succ f ih =>
    intro id
    unfold Tr.hgt
    split
    · omega
    · have := fold_le (fun k => T.hgt f k + 1) (f + 1) (fun k => by have := (ih k).2; omega) (by omega)
      rename_i nd _
      have := this nd.kids 0 (Int.le_refl 0) (by omega)
      constructor <;> push_cast <;> omega
theorem WF.kid {T : Tr} {d : Nat → Nat} (hw : WF T d) {i : Nat} {nd : Nd} (h : T.nodes[i]? = some (some nd)) {n : Nat} {k : Int} (hk : nd.kids[n]? = some k) :
    ∃ (j : Nat) (kd : Nd), k = (j : Int) ∧ T.nodes[j]? = some (some kd) ∧ kd.parent = (i : Int) ∧ d j = d i + 1 := by
  obtain ⟨j, kd, h1, h2, h3⟩ := (hw.kids i nd h).2 k (List.mem_of_getElem? hk)
  refine ⟨j, kd, h1, h2, h3, ?_⟩
  rcases hw.up j kd h2 with ⟨h4, h5⟩ | ⟨p, pd, h4, h5, h6, h7⟩
  · omega
  · obtain rfl : p = i := by omega
    exact h6
theorem fold_snoc (F : Int → Int → Int) (l : List Int) (n : Nat) (k : Int) (h : l[n]? = some k) (z : Int) : (l.take (n + 1)).foldl F z = F ((l.take n).foldl F z) k := by
  obtain ⟨hlt, rfl⟩ := List.getElem?_eq_some_iff.1 h
  rw [List.take_succ_eq_append_getElem hlt, List.foldl_append]; rfl

theorem Height_fuel {w : World} {own : Ow} {ptr : Nat → Nat} {tb : Nat} {T : Tr} (hT : TreeAt w own ptr tb T) {d : Nat → Nat} (hw : WF T d) :
    ∀ (f i : Nat) (nd : Nd), T.nodes[i]? = some (some nd) → 41 ≤ d i + f → f ≤ 100 → Calls Tryz.prog 63 #[.pointer (some ⟨tb, 0, none⟩), .int .i64 i] w (RSame (.int .i64 (T.hgt f i)) w) := by
  intro f
  induction f with
  | zero => intro i nd h h1; have := hw.deep i nd h; have := hw.small.deep1; omega
  | succ f ih =>
    intro i nd h h1 h2
    obtain ⟨av, kv, cb, _, _, hk⟩ := hT.node i nd h
    obtain ⟨a, cap, rfl, e2, e3⟩ := hk.len
    have ck := cellOf cb (i := 3) (v := .slice a nd.kids.length cap) rfl
    have HG := qh (Tr.get_of h)
    have HW := qh hw
    have HN := qh h
    have IH := qh ih
    have hval : T.hgt (f + 1) i = nd.kids.foldl (fun h k => max h (T.hgt f k + 1)) 0 := by
      show (match T.get? i with | none => -1 | some nd => nd.kids.foldl (fun h k => max h (T.hgt f k + 1)) 0) = _
      rw [Tr.get_of h]
    have HV := qh hval
    unfold maxLen at e3
    clear cb hval ih
    by_cases he : nd.kids = []
    · have hz : nd.kids.length = 0 := by rw [he]; rfl
      rw [hz] at ck
      have HE := qh he
      clear he hz hk h hw h1 h2 e2 e3
      go_enter Tryz.func63, Tryz.ntmps63
      go_wp2_with (go_at_call 87; refine (get_some hT HG.out).mono ?_; rintro e w' ⟨rfl, rfl⟩)
      go_loop [6, 8, 19] (fun v k n => n = .int .i64 0 ∧ v = .int .i64 0) (fun _ _ n => 0)
      case atStart => exact ⟨rfl, rfl⟩
      case round =>
        obtain ⟨rfl, rfl⟩ := hrel
        go_wp2
        go_ret
        exact ⟨ret_int (by rw [HV.out, HE.out]; rfl), rfl⟩
    · obtain ⟨g, cap', e, _⟩ := hk.cell (i := 0) (x := .int .i64 (nd.kids.headD 0)) (by cases hh : nd.kids with | nil => exact absurd hh he | cons x r => simp)
      cases e
      have HK := qh hk
      clear he hk h hw
      go_enter Tryz.func63, Tryz.ntmps63
      go_wp2_with (go_at_call 87; refine (get_some hT HG.out).mono ?_; rintro e w' ⟨rfl, rfl⟩)
      go_loop [6, 8, 19] (fun v _ n => ∃ (k : Nat) (z : Int), k ≤ nd.kids.length ∧ n = .int .i64 k ∧ v = .int .i64 z ∧ 0 ≤ z ∧ z ≤ 200 ∧ z = (nd.kids.take k).foldl (fun h k => max h (T.hgt f k + 1)) 0) (fun _ _ n => nd.kids.length - (intOf n).toNat)
      case atStart => exact ⟨0, 0, Nat.zero_le _, rfl, rfl, by omega, by omega, by simp⟩
      case round =>
        obtain ⟨k, z, hk, rfl, rfl, z0, z1, hz⟩ := hrel
        have HZ := qh hz
        clear hz
        by_cases hlt : k < nd.kids.length
        · obtain ⟨x, hx⟩ : ∃ x, nd.kids[k]? = some x := ⟨nd.kids[k], by simp [hlt]⟩
          obtain ⟨g', cap', e, hc⟩ := HK.out.cell (i := k) (x := .int .i64 x) (by simp [hx])
          cases e
          obtain ⟨j, kd, h3, h4, h5, h6⟩ := HW.out.kid HN.out hx
          obtain ⟨q0, q1⟩ := T.hgt_le f j
          have HX := qh hx
          have H3 := qh h3
          have H4 := qh h4
          rw [h3] at hc
          clear hx h3 h4 h5
          go_wp2_with (go_at_call 63; refine (IH.out j kd H4.out (by omega) (by omega)).mono ?_; rintro e w' ⟨rfl, rfl⟩)
          all_goals
            go_round
            case rel => exact ⟨k + 1, _, by omega, by go_num, rfl, by omega, by omega, by rw [fold_snoc _ _ _ _ HX.out, ← HZ.out, H3.out]; try omega⟩
            case measure => simp [intOf]; omega
        · go_wp2
          go_ret
          refine ⟨ret_int ?_, rfl⟩
          rw [HV.out, HZ.out, List.take_of_length_le (by omega)]

def posOf (l : List Int) (x : Int) : Int := if x ∈ l then (l.idxOf x : Int) else -1
theorem posOf_at {l : List Int} {k : Nat} {x : Int} (h : l[k]? = some x) (hno : x ∉ l.take k) : posOf l x = k := by
  obtain ⟨hlt, rfl⟩ := List.getElem?_eq_some_iff.1 h
  unfold posOf
  rw [if_pos (List.getElem_mem hlt)]
  have h2 : l = l.take k ++ l[k] :: l.drop (k + 1) := by rw [← List.drop_eq_getElem_cons hlt, List.take_append_drop]
  have : l.idxOf l[k] = k := by
    conv => lhs; arg 2; rw [h2]
    rw [List.idxOf_append, if_neg hno, List.idxOf_cons_self, List.length_take]
    omega
  rw [this]
theorem posOf_no {l : List Int} {x : Int} (h : x ∉ l) : posOf l x = -1 := if_neg h

theorem index_any {v : Value} {l : List Int} {w : World} (h : RowRd w 1 v l.length (l.map (Value.int .i64))) (hn : l.length ≤ 60000) (x : Int) :
    Calls Tryz.prog 93 #[v, .int .i64 x] w (RSame (.int .i64 (posOf l x)) w) := by
  obtain ⟨_, ao, cap, rfl, hcap, hnone, hc⟩ := h
  have HN := qh hnone
  have HC := qh hc
  clear hnone hc hcap
  go_enter Tryz.func93, Tryz.ntmps93
  go_wp2
  go_loop [5, 8] (fun _ n => ∃ k : Nat, k ≤ l.length ∧ n = .int .i64 k ∧ x ∉ l.take k) (fun _ n => l.length - (intOf n).toNat)
  case atStart => exact ⟨0, Nat.zero_le _, rfl, by simp⟩
  case round =>
    obtain ⟨k, hk, rfl, hno⟩ := hrel
    have HO := qh hno
    clear hno
    by_cases hlt : k < l.length
    · cases ao with
      | none => exact absurd (HN.out rfl).1 (by omega)
      | some a =>
        obtain ⟨b, off, sp⟩ := a
        obtain ⟨y, hy⟩ : ∃ y, l[k]? = some y := ⟨l[k], by simp [hlt]⟩
        have hcell := HC.out _ rfl k (.int .i64 y) (by simp [hy])
        have HY := qh hy
        clear hy
        by_cases he : x = y
        · subst he
          go_wp2
          go_ret
          exact ⟨ret_int (by rw [posOf_at HY.out HO.out]), rfl⟩
        · have hb : (x == y) = false := by simpa using he
          have HE := qh he
          clear he
          go_wp2
          go_round
          case rel =>
            refine ⟨k + 1, by omega, by go_num, ?_⟩
            obtain ⟨hlt', hy⟩ := List.getElem?_eq_some_iff.1 HY.out
            rw [List.take_succ_eq_append_getElem hlt', List.mem_append, hy]
            intro hm
            rcases hm with hm | hm
            · exact HO.out hm
            · exact HE.out (by simpa using hm)
          case measure => simp [intOf]; omega
    · go_wp2
      go_ret
      refine ⟨ret_int ?_, rfl⟩
      have h := HO.out
      rw [List.take_of_length_le (by omega)] at h
      rw [posOf_no h]
def runeList (s : ByteArray) : Nat → Nat → List Int
  | 0, _ => []
  | b + 1, i => if i < s.size then Int.ofNat (Utf8.decode s i).1 :: runeList s b (i + (Utf8.decode s i).2) else []
def anewB (s : ByteArray) : ByteArray := runesBytes (runeList s s.size 0)
theorem runesFrom_eq (s : ByteArray) : ∀ (b i : Nat) (acc : Array Value), Conv.runesFrom s b i acc = acc ++ ((runeList s b i).map (Value.int .i32)).toArray := by
  intro b
  induction b with
  | zero => intro i acc; simp [Conv.runesFrom, runeList]
  | succ b ih =>
    intro i acc
    unfold Conv.runesFrom runeList
    split
    · show Conv.runesFrom s b (i + (Utf8.decode s i).2) (acc.push (.int .i32 (Int.ofNat (Utf8.decode s i).1))) = _
      rw [ih]; simp
    · simp
theorem runeList_len (s : ByteArray) : ∀ (b i : Nat), (runeList s b i).length ≤ b := by
  intro b
  induction b with
  | zero => intro i; simp [runeList]
  | succ b ih =>
    intro i
    unfold runeList
    split
    · have := ih (i + (Utf8.decode s i).2); simp; omega
    · simp
theorem anewB_size (s : ByteArray) : (anewB s).size ≤ 4 * s.size := by
  have h1 := runesBytes_size_le (runeList s s.size 0)
  have h2 := runeList_len s s.size 0
  unfold anewB; omega

theorem anew_any (s : ByteArray) (hs : s.size ≤ 100000) (w : World) : Calls Tryz.prog 118 #[.string s] w (RVal (.string (anewB s)) w) := by
  have h1 := run_runes_of_string (P := Tryz.prog) w 9 84 21 s Tryz.underlying9 Tryz.underlying84 Tryz.underlying21 (by have := size_runesFrom s s.size 0 #[]; simp at this; omega)
  have e1 : Conv.runesFrom s s.size 0 #[] = ((runeList s s.size 0).map (Value.int .i32)).toArray := by rw [runesFrom_eq]; simp
  have hz : anewB s = runesBytes (runeList s s.size 0) := rfl
  have HZ := qh hz
  rw [e1] at h1
  clear hz e1 hs
  generalize runeList s s.size 0 = l at *
  generalize hk : grownCap w (List.map (Value.int IntKind.i32) l).toArray.size 0 21 = K at *
  have hge := grownCap_ge w (List.map (Value.int IntKind.i32) l).toArray.size 0 21
  rw [hk] at hge
  clear hk
  generalize hC : (List.map (Value.int IntKind.i32) l).toArray ++ Array.replicate (K - (List.map (Value.int IntKind.i32) l).toArray.size) (Value.int IntKind.i32 0) = C at *
  have h2 := run_convert_runes (P := Tryz.prog) (w.drew.alloc (.cells C 21)) 84 9 21 ⟨w.heap.size, 0, none⟩ l.length K l (Nat.le_refl _) Tryz.underlying84 Tryz.underlying21 Tryz.underlying9
    (by
      intro j hj
      have hb : (w.drew.alloc (.cells C 21)).heap[w.heap.size]? = some (.cells C 21 (0, 0)) := heap_alloc_new w.drew _
      rw [Addr.add_lit, Nat.zero_add]
      refine cellOf hb ?_
      rw [← hC, Array.getElem?_append_left (by simpa using hj)]
      simp [hj])
  rw [List.take_length] at h2
  simp only [List.size_toArray, List.length_map] at h1
  clear hC hge
  have HH1 := qh h1
  have HH2 := qh h2
  clear h1 h2
  go_enter Tryz.func118, Tryz.ntmps118
  go_wp2_with fail
  rw [HH1.out]
  go_wp2_with fail
  have h2' : Sem.run Tryz.prog (convert 84 9 (Value.slice (some { block := w.heap.size, off := 0 }) l.length K)) (w.alloc (Obj.cells C 21)).drew = Result.ok (Value.string (runesBytes l)) (w.alloc (Obj.cells C 21)).drew := HH2.out
  rw [h2']
  clear h2'
  go_wp2_with fail
  go_ret
  exact ⟨by rw [HZ.out]; rfl, ((Ext.refl _).alloc _).drew⟩
theorem RowP.of_owns0 {w' : World} {p : Nat → Prop} {B e size : Nat} {v : Value} {n : Nat} {xs : List Value} (h : w'.ownsRow B e size v n xs) (hp : ∀ k, v.ownBlock = some k → p k) : RowP w' p e size v n xs := by
  refine ⟨h.1, ?_⟩
  rcases h.2 with ⟨h1, h2⟩ | ⟨g, cap, cur, h1, h2, h3, h4⟩
  · exact .inl ⟨h2, none, h2 ▸ h1⟩
  · exact .inr ⟨g, cap, cur, h1, hp g (by rw [h1]; rfl), h3, h4⟩
theorem run_append_row {P : Program} (w : World) (t ty e : TypeId) (i : TypeInfo) (z : Value) (size bytes : Nat) (ht : P.underlying t = some (.slice e)) (hi : P.info? e = some i) (hz : i.zero = some z)
    (hsize : i.size = size) (hby : i.bytes = bytes) (hzs : z.cells.size = size) (hsz : 0 < size) {p : Nat → Prop} {v : Value} {n : Nat} {xs : List Value} (hr : RowP w p e size v n xs)
    (a : Addr) (m c : Nat) (news : List Value) (hl : news.length = m * size) (hnews : ∀ j u, news[j]? = some u → w.cell? (a.add j) = some u) (h1 : ∀ u ∈ news, u.oneCell' = true)
    (hm : 0 < m) (h63 : n + m ≤ maxLen) (hbytes : (n + m) * bytes ≤ 140737488355328) :
    ∃ v' w' row, (Builtin.append_ #[t, t] ty #[v, .slice (some a) m c]).run P w = .ok v' w' ∧ RowP w' (fun g => p g ∨ w.heap.size ≤ g) e size v' (n + m) (xs ++ news) ∧ w.grownBy w' row ∧ ∀ k, row = some k → p k := by
  rcases hr.2 with ⟨rfl, ao, rfl⟩ | ⟨g, cap, cur, rfl, hpg, hg, hnc, hcm, hcs, htake⟩
  · obtain rfl : xs = [] := List.eq_nil_of_length_eq_zero (by rw [hr.1]; simp)
    cases ao with
    | some ad =>
      obtain ⟨v', w', h2, h3, h4⟩ := run_append_arg_grows (P := P) w t ty e i z size bytes ht hi hz hsize hby hzs hsz ad 0 0 [] (by simp) (by simp) a m c news hl hnews (by omega) h63 hbytes
      exact ⟨v', w', none, h2, (RowP.of_owns h3).imp fun g _ hg => .inr hg, h4, fun k hk => by cases hk⟩
    | none =>
      obtain ⟨v', w', h2, h3, h4, h5⟩ := run_append_own (P := P) w w.heap.size t ty e i z size bytes ht hi hz hsize hby hzs hsz (.slice none 0 0) 0 [] (World.ownsRow_nil w _ e size) a m c news hl hnews h1 h63 hbytes (Nat.le_refl _)
      exact ⟨v', w', none, h2, (RowP.of_owns h3).imp fun g _ hg => .inr hg, h4, fun k hk => by cases hk⟩
  · have hown : w.ownsRow 0 e size (.slice (some ⟨g, 0, none⟩) n cap) n xs := ⟨hr.1, .inr ⟨g, cap, cur, rfl, Nat.zero_le _, hg, hnc, hcm, hcs, htake⟩⟩
    by_cases hroom : n + m ≤ cap
    · obtain ⟨v', w', h2, h3, h4, h5⟩ := run_append_own (P := P) w 0 t ty e i z size bytes ht hi hz hsize hby hzs hsz _ n xs hown a m c news hl hnews h1 h63 hbytes (Nat.zero_le _)
      have hfit : n * i.size + news.length ≤ cur.size := by rw [hl, hcs, hsize, ← Nat.add_mul]; exact Nat.mul_le_mul_right _ hroom
      have hr2 := run_append_room (P := P) w t ty e i ht hi g n cap cur hg a m c news (by rw [hsize]; exact hl) hnews h1 hroom hfit
      rw [h2] at hr2
      have hv : v' = .slice (some ⟨g, 0, none⟩) (n + m) cap := by injection hr2
      refine ⟨v', w', some g, h2, RowP.of_owns0 h3 fun k hk => ?_, h4, fun k hk => by cases hk; exact hpg⟩
      rw [hv] at hk
      cases hk
      exact .inl hpg
    · have holds : ∀ j u, xs[j]? = some u → w.cell? ((⟨g, 0, none⟩ : Addr).add j) = some u := hown.cells (g := g) rfl
      obtain ⟨v', w', h2, h3, h4⟩ := run_append_arg_grows (P := P) w t ty e i z size bytes ht hi hz hsize hby hzs hsz ⟨g, 0, none⟩ n cap xs hr.1 holds a m c news hl hnews (by omega) h63 hbytes
      exact ⟨v', w', none, h2, (RowP.of_owns h3).imp fun g _ hg => .inr hg, h4, fun k hk => by cases hk⟩
theorem wpList_append_row {P : Program} {w : World} {ops : Array Oper} {rest : List Oper} {o : Oper} {a : Act} {Q : Exit → Act → World → Prop} (hgd : o.guard = none) (s x : Operand) (t : TypeId)
    (ho : o.op = .call { callee := .builtin .append, args := #[s, x], argTypes := #[t, t] })
    (e : TypeId) (i : TypeInfo) (z : Value) (size bytes : Nat) (ht : P.underlying t = some (.slice e)) (hi : P.info? e = some i) (hz : i.zero = some z)
    (hsize : i.size = size) (hby : i.bytes = bytes) (hzs : z.cells.size = size) (hsz : 0 < size) (p : Nat → Prop)
    (v : Value) (n : Nat) (xs : List Value) (hs : a.eval s = v) (hr : RowP w p e size v n xs)
    (ad : Addr) (m c : Nat) (news : List Value) (hx : a.eval x = .slice (some ad) m c) (hl : news.length = m * size) (hnews : ∀ j u, news[j]? = some u → w.cell? (ad.add j) = some u) (h1 : ∀ u ∈ news, u.oneCell' = true)
    (hm : 0 < m) (h63 : n + m ≤ maxLen) (hbytes : (n + m) * bytes ≤ 140737488355328)
    (h : ∀ v' w' row, RowP w' (fun g => p g ∨ w.heap.size ≤ g) e size v' (n + m) (xs ++ news) → w.grownBy w' row → (∀ k, row = some k → p k) → wpList P ops Q rest (a.put o.dst v') w') :
    wpList P ops Q (o :: rest) a w := by
  refine wpList_plain hgd fun K hK => ?_
  obtain ⟨v', w', row, h2, h3, h4, h5⟩ := run_append_row (P := P) w t o.type e i z size bytes ht hi hz hsize hby hzs hsz hr ad m c news hl hnews h1 hm h63 hbytes
  unfold Oper.wp execOp
  simp only [ho, resolve, invoke, builtin, Sem.run_bind, Sem.run_pure, Result.andThen_ok, List.map_toArray, List.map_cons, List.map_nil, hs, hx, h2]
  exact hK _ _ (h v' w' row h3 h4 h5)

theorem isNil_no (b : Nat) (w : World) : Calls Tryz.prog 158 #[.pointer (some ⟨b, 0, none⟩)] w (RSame (.bool false) w) := by
  go_enter Tryz.func158, Tryz.ntmps158
  go_wp2
  go_ret
  exact ⟨rfl, rfl⟩
theorem isNil_yes (w : World) : Calls Tryz.prog 158 #[.pointer none] w (RSame (.bool true) w) := by
  go_enter Tryz.func158, Tryz.ntmps158
  go_wp2
  go_ret
  exact ⟨rfl, rfl⟩
def freeOf' (l : List (Option Nd)) : Int := if l.any Option.isNone then (l.findIdx Option.isNone : Int) else -1
theorem freeOf_at {l : List (Option Nd)} {k : Nat} (h : l[k]? = some none) (hno : ∀ (j : Nat) (x : Option Nd), j < k → l[j]? = some x → x ≠ none) : freeOf' l = k := by
  obtain ⟨hlt, hk⟩ := List.getElem?_eq_some_iff.1 h
  unfold freeOf'
  have ha : l.any Option.isNone = true := by rw [List.any_eq_true]; exact ⟨none, List.mem_of_getElem? h, rfl⟩
  rw [if_pos ha]
  congr 1
  rw [List.findIdx_eq hlt]
  refine ⟨by rw [hk]; rfl, fun j hj => ?_⟩
  have := hno j (l[j]'(by omega)) hj (by simp)
  cases hx : l[j]'(by omega) with
  | none => exact absurd hx this
  | some y => rfl
theorem freeOf_no {l : List (Option Nd)} (hno : ∀ (j : Nat) (x : Option Nd), l[j]? = some x → x ≠ none) : freeOf' l = -1 := by
  unfold freeOf'
  rw [if_neg]
  rw [List.any_eq_true]
  rintro ⟨x, hx, hn⟩
  obtain ⟨j, hj⟩ := List.getElem?_of_mem hx
  cases x with
  | none => exact hno j none hj rfl
  | some y => cases hn

theorem free_any {p : Nat → Prop} {ptr : Nat → Nat} {v : Value} {l : List (Option Nd)} {w : World} (h : RowP w p 119 1 v l.length (nodeVals ptr l)) (hn : l.length ≤ 60000) :
    Calls Tryz.prog 157 #[v, .func (.func 158) #[] #[]] w (RSame (.int .i64 (freeOf' l)) w) := by
  obtain ⟨_, ao, cap, rfl, hcap, hnone, hc⟩ := h.rd
  have HN := qh hnone
  have HC := qh hc
  clear hnone hc hcap h
  go_enter Tryz.func157, Tryz.ntmps157
  go_wp2
  go_loop [5, 8] (fun _ n => ∃ k : Nat, k ≤ l.length ∧ n = .int .i64 k ∧ ∀ (j : Nat) (x : Option Nd), j < k → l[j]? = some x → x ≠ none) (fun _ n => l.length - (intOf n).toNat)
  case atStart => exact ⟨0, Nat.zero_le _, rfl, fun j x hj => by omega⟩
  case round =>
    obtain ⟨k, hk, rfl, hno⟩ := hrel
    have HO := qh hno
    clear hno
    by_cases hlt : k < l.length
    · cases ao with
      | none => exact absurd (HN.out rfl).1 (by omega)
      | some a =>
        obtain ⟨b, off, sp⟩ := a
        obtain ⟨y, hy⟩ : ∃ y, l[k]? = some y := ⟨l[k], by simp [hlt]⟩
        have hcell := HC.out _ rfl k (nodeVal ptr k y) (by simp [nodeVals, List.getElem?_mapIdx, hy])
        have HY := qh hy
        clear hy
        cases y with
        | none =>
          simp only [nodeVal] at hcell
          go_wp2_with (go_at_call 158; refine (isNil_yes _).mono ?_; rintro e w' ⟨rfl, rfl⟩)
          go_ret
          exact ⟨ret_int (by rw [freeOf_at HY.out HO.out]), rfl⟩
        | some nd =>
          simp only [nodeVal] at hcell
          go_wp2_with (go_at_call 158; refine (isNil_no _ _).mono ?_; rintro e w' ⟨rfl, rfl⟩)
          go_round
          case rel =>
            refine ⟨k + 1, by omega, by go_num, fun j x hj hx => ?_⟩
            rcases Nat.lt_or_ge j k with h1 | h1
            · exact HO.out j x h1 hx
            · obtain rfl : j = k := by omega
              rw [HY.out] at hx
              cases hx
              exact fun h => by cases h
          case measure => simp [intOf]; omega
    · go_wp2
      go_ret
      refine ⟨ret_int ?_, rfl⟩
      rw [freeOf_no fun j x hx => HO.out j x (by have := (List.getElem?_eq_some_iff.1 hx).1; omega) hx]
structure Step (own : Ow) (w : World) (own' : Ow) (w' : World) : Prop where
  os : w'.os = w.os
  tape : w'.tape = w.tape
  output : w'.output = w.output
  size : w.heap.size ≤ w'.heap.size
  rest : ∀ b, b < w.heap.size → own b = none → w'.heap[b]? = w.heap[b]?
  same : ∀ b, b < w.heap.size → own' b = own b
  owned : Owned own' w'
theorem Step.trans {o1 o2 o3 : Ow} {a b c : World} (h : Step o1 a o2 b) (k : Step o2 b o3 c) : Step o1 a o3 c :=
  ⟨k.os.trans h.os, k.tape.trans h.tape, k.output.trans h.output, Nat.le_trans h.size k.size,
   fun x hx hn => (k.rest x (Nat.lt_of_lt_of_le hx h.size) ((h.same x hx).trans hn)).trans (h.rest x hx hn),
   fun x hx => (k.same x (Nat.lt_of_lt_of_le hx h.size)).trans (h.same x hx), k.owned⟩
theorem Step.ext {own own' : Ow} {a b c : World} (h : Step own a own' b) (k : Ext b c) : Step own a own' c :=
  ⟨(Below.os k).trans h.os, (Below.tape k).trans h.tape, (Below.output k).trans h.output, Nat.le_trans h.size (Ext.size k),
   fun x hx hn => (Below.block k x (Nat.lt_of_lt_of_le hx h.size)).trans (h.rest x hx hn), h.same, fun x hx => Nat.lt_of_lt_of_le (h.owned x hx) (Ext.size k)⟩
theorem Step.setCell {own own' : Ow} {a b : World} (h : Step own a own' b) {p : Addr} (hp : p.block < a.heap.size → own p.block ≠ none) (u : Value) : Step own a own' (b.setCell p u) :=
  ⟨h.os, h.tape, h.output, by have := h.size; simpa [World.setCell] using this,
   fun x hx hn => by rw [Below.heap_setCell _ _ _ _ (fun e => hp (e ▸ hx) (e ▸ hn))]; exact h.rest x hx hn, h.same,
   fun x hx => by have := h.owned x hx; simpa [World.setCell] using this⟩
theorem Step.own {own own' own'' : Ow} {a b : World} (h : Step own a own' b) (h1 : ∀ x, x < a.heap.size → own'' x = own' x) (h2 : Owned own'' b) : Step own a own'' b :=
  ⟨h.os, h.tape, h.output, h.size, h.rest, fun x hx => (h1 x hx).trans (h.same x hx), h2⟩

theorem heap_setCell_same {w : World} {b i : Nat} {cs : Array Value} {t : TypeId} {fr : Nat × Nat} (h : w.heap[b]? = some (.cells cs t fr)) (u : Value) :
    (w.setCell ⟨b, i, none⟩ u).heap[b]? = some (.cells (cs.setIfInBounds i u) t fr) := by
  simp [World.setCell, Array.getElem?_modify, h]
theorem heap_setCell_other {w : World} {p : Addr} {b : Nat} (u : Value) (h : b ≠ p.block) : (w.setCell p u).heap[b]? = w.heap[b]? := Below.heap_setCell _ _ _ _ h

theorem RowP.move {w w' : World} {p p' : Nat → Prop} {e size : Nat} {v : Value} {n : Nat} {xs : List Value} (h : RowP w p e size v n xs) (k : ∀ g, p g → w'.heap[g]? = w.heap[g]? ∧ p' g) : RowP w' p' e size v n xs := by
  refine ⟨h.1, ?_⟩
  rcases h.2 with h0 | ⟨g, cap, cur, h1, h2, h3, h4⟩
  · exact .inl h0
  · exact .inr ⟨g, cap, cur, h1, (k g h2).2, by rw [(k g h2).1]; exact h3, h4⟩
def NodeAt (w : World) (own : Ow) (i pb : Nat) (nd : Nd) : Prop :=
  ∃ av kv, w.heap[pb]? = some (.cells #[.int .i64 nd.tag, av, .string nd.text, kv, .int .i64 nd.parent] 128 (0, 0)) ∧
    own pb = some (2, i) ∧ RowAt w own 131 2 (3, i) av nd.attrs.length (attrCells nd.attrs) ∧ RowAt w own 3 1 (4, i) kv nd.kids.length (nd.kids.map (Value.int .i64))
theorem NodeAt.move {w w' : World} {own own' : Ow} {i pb : Nat} {nd : Nd} (h : NodeAt w own i pb nd) (k : ∀ b c, own b = some (c, i) → 2 ≤ c → w'.heap[b]? = w.heap[b]? ∧ own' b = own b) : NodeAt w' own' i pb nd := by
  obtain ⟨av, kv, h1, h2, h3, h4⟩ := h
  refine ⟨av, kv, by rw [(k pb 2 h2 (Nat.le_refl _)).1]; exact h1, by rw [(k pb 2 h2 (Nat.le_refl _)).2]; exact h2, RowP.move h3 fun g hg => ?_, RowP.move h4 fun g hg => ?_⟩
  · have := k g 3 hg (by omega); exact ⟨this.1, this.2.trans hg⟩
  · have := k g 4 hg (by omega); exact ⟨this.1, this.2.trans hg⟩
theorem TreeAt.nodeAt {w : World} {own : Ow} {ptr : Nat → Nat} {tb : Nat} {T : Tr} (h : TreeAt w own ptr tb T) {i : Nat} {nd : Nd} (hi : T.nodes[i]? = some (some nd)) : NodeAt w own i (ptr i) nd := h.node i nd hi

theorem TreeAt.setCount {w : World} {own : Ow} {ptr : Nat → Nat} {tb : Nat} {T : Tr} (h : TreeAt w own ptr tb T) (c : Int) : TreeAt (w.setCell ⟨tb, 2, none⟩ (.int .i64 c)) own ptr tb { T with count := c } := by
  obtain ⟨nv, h1, h2, h3⟩ := h.head
  have k : ∀ b x, own b = some x → x ≠ (0, 0) → (w.setCell ⟨tb, 2, none⟩ (.int .i64 c)).heap[b]? = w.heap[b]? := fun b x hb hx =>
    heap_setCell_other _ (fun (e : b = tb) => hx (by rw [e, h2] at hb; exact (Option.some.inj hb).symm))
  constructor
  · exact ⟨nv, by rw [heap_setCell_same h1]; rfl, h2, RowP.move h3 fun g hg => ⟨k g _ hg (by simp), hg⟩⟩
  · intro i nd hi
    exact (h.nodeAt hi).move fun b x hb hx => ⟨k b _ hb (by simp; omega), rfl⟩

theorem TreeAt.grow {w w' : World} {own own' : Ow} {ptr : Nat → Nat} {tb : Nat} {T : Tr} (h : TreeAt w own ptr tb T) {v : Value}
    (hr : RowAt w' own' 119 1 (1, 0) v (T.nodes.length + 1) (nodeVals ptr T.nodes ++ [.pointer none]))
    (k : ∀ b x, own b = some x → x ≠ (1, 0) → w'.heap[b]? = w.heap[b]? ∧ own' b = own b) :
    TreeAt (w'.setCell ⟨tb, 3, none⟩ v) own' ptr tb { T with nodes := T.nodes ++ [none] } := by
  obtain ⟨nv, h1, h2, h3⟩ := h.head
  have h1' := (k tb _ h2 (by simp)).1.trans h1
  have h2' := (k tb _ h2 (by simp)).2.trans h2
  have k' : ∀ b x, own' b = some x → x ≠ (0, 0) → (w'.setCell ⟨tb, 3, none⟩ v).heap[b]? = w'.heap[b]? := fun b x hb hx =>
    heap_setCell_other _ (fun (e : b = tb) => hx (by rw [e, h2'] at hb; exact (Option.some.inj hb).symm))
  constructor
  · refine ⟨v, by rw [heap_setCell_same h1']; rfl, h2', ?_⟩
    have : nodeVals ptr (T.nodes ++ [none]) = nodeVals ptr T.nodes ++ [.pointer none] := by simp [nodeVals, List.mapIdx_append, nodeVal]
    rw [this, List.length_append]
    exact RowP.move hr fun g hg => ⟨k' g _ hg (by simp), hg⟩
  · intro i nd hi
    have hi' : T.nodes[i]? = some (some nd) := by
      rw [List.getElem?_append] at hi
      split at hi
      · exact hi
      · rename_i hge
        rcases Nat.eq_zero_or_pos (i - T.nodes.length) with h0 | h0
        · rw [h0] at hi; simp at hi
        · rw [List.getElem?_eq_none (by simp; omega)] at hi; cases hi
    refine (h.nodeAt hi').move fun b x hb hx => ?_
    have := k b _ hb (by simp; omega)
    exact ⟨(k' b (x, i) (this.2.trans hb) (by simp; omega)).trans this.1, this.2⟩

theorem TreeAt.setNode {w w' : World} {own own' : Ow} {ptr : Nat → Nat} {tb : Nat} {T : Tr} (h : TreeAt w own ptr tb T) {i : Nat} {nd nd' : Nd} (hi : T.nodes[i]? = some (some nd))
    (hn : NodeAt w' own' i (ptr i) nd') (k : ∀ b x, own b = some x → (2 ≤ x.1 → x.2 ≠ i) → w'.heap[b]? = w.heap[b]? ∧ own' b = own b) :
    TreeAt w' own' ptr tb { T with nodes := T.nodes.set i (some nd') } := by
  obtain ⟨nv, h1, h2, h3⟩ := h.head
  have hlt := (List.getElem?_eq_some_iff.1 hi).1
  constructor
  · refine ⟨nv, (k tb _ h2 (by simp)).1.trans h1, (k tb _ h2 (by simp)).2.trans h2, ?_⟩
    have e : nodeVals ptr (T.nodes.set i (some nd')) = nodeVals ptr T.nodes := by
      apply List.ext_getElem?
      intro j
      simp only [nodeVals, List.getElem?_mapIdx, List.getElem?_set]
      split
      · rename_i hj; subst hj; rw [hi]; simp [nodeVal]
      · rfl
    rw [e, List.length_set]
    exact RowP.move h3 fun g hg => ⟨(k g _ hg (by simp)).1, (k g _ hg (by simp)).2.trans hg⟩
  · intro j md hj
    rw [List.getElem?_set] at hj
    split at hj
    · rename_i hji
      subst hji
      simp at hj
      subst hj
      exact hn
    · rename_i hji
      refine (h.nodeAt hj).move fun b x hb hx => ?_
      exact k b _ hb (fun _ => Ne.symm hji)

theorem TreeAt.place {w w' : World} {own own' : Ow} {ptr : Nat → Nat} {tb : Nat} {T : Tr} (h : TreeAt w own ptr tb T) {i B g cap : Nat} {nd : Nd} (hi : T.nodes[i]? = some none)
    (hg : w.heap[tb]? = some (.cells #[.int .i64 T.cap, .int .i64 T.deep, .int .i64 T.count, .slice (some ⟨g, 0, none⟩) T.nodes.length cap] 165 (0, 0)))
    (hn : NodeAt w' own' i B nd) (k : ∀ b x, own b = some x → w'.heap[b]? = w.heap[b]? ∧ own' b = own b) :
    TreeAt (w'.setCell ⟨g, i, none⟩ (.pointer (some ⟨B, 0, none⟩))) own' (fun j => if j = i then B else ptr j) tb { T with nodes := T.nodes.set i (some nd) } := by
  obtain ⟨nv, h1, h2, h3⟩ := h.head
  have hlt := (List.getElem?_eq_some_iff.1 hi).1
  rw [hg] at h1
  obtain rfl : nv = .slice (some ⟨g, 0, none⟩) T.nodes.length cap := by simp at h1; exact h1.symm
  rcases h3.2 with ⟨h0, _⟩ | ⟨g', cap', cur, q1, q2, q3, q4, q5, q6, q7⟩
  · omega
  obtain ⟨rfl, rfl⟩ : g = g' ∧ cap = cap' := by simp at q1; exact q1
  have kg := k g _ q2
  have k' : ∀ b, own' b ≠ own' g → (w'.setCell ⟨g, i, none⟩ (.pointer (some ⟨B, 0, none⟩))).heap[b]? = w'.heap[b]? := fun b hb => heap_setCell_other _ (fun (e : b = g) => hb (by rw [e]))
  have hog : own' g = some (1, 0) := kg.2.trans q2
  constructor
  · have kt := k tb _ h2
    refine ⟨_, ((k' tb (by rw [hog, kt.2, h2]; simp)).trans kt.1).trans hg, kt.2.trans h2, ?_⟩
    refine ⟨by simp [nodeVals], .inr ⟨g, cap, cur.setIfInBounds i (.pointer (some ⟨B, 0, none⟩)), by simp, hog, by rw [heap_setCell_same (kg.1.trans q3)], by simpa using q4, q5, by simpa using q6, ?_⟩⟩
    apply List.ext_getElem?
    intro j
    have hq : (cur.toList.take (T.nodes.length * 1))[j]? = (nodeVals ptr T.nodes)[j]? := by rw [q7]
    simp only [nodeVals, List.getElem?_mapIdx, List.getElem?_take, List.length_set, Array.toList_setIfInBounds, List.getElem?_set, Nat.mul_one] at hq ⊢
    by_cases hj : i = j
    · subst hj
      rw [if_pos hlt, if_pos rfl, if_pos rfl, if_pos (by simp; omega), if_pos hlt]
      simp [nodeVal]
    · rw [if_neg hj, if_neg hj, hq]
      cases T.nodes[j]? with
      | none => rfl
      | some x => cases x <;> simp [nodeVal, Ne.symm hj]
  · intro j md hj
    rw [List.getElem?_set] at hj
    split at hj
    · rename_i hji
      subst hji
      simp at hj
      subst hj
      show NodeAt _ own' i (if i = i then B else ptr i) nd
      rw [if_pos rfl]
      exact hn.move fun b x hb hx => ⟨k' b (by rw [hb, hog]; simp; omega), rfl⟩
    · rename_i hji
      show NodeAt _ own' j (if j = i then B else ptr j) md
      rw [if_neg (Ne.symm hji)]
      refine (h.nodeAt hj).move fun b x hb hx => ?_
      have := k b _ hb
      exact ⟨(k' b (by rw [this.2, hb, hog]; simp; omega)).trans this.1, this.2⟩
def After (own : Ow) (w : World) (tb : Nat) (T' : Tr) (w' : World) : Prop := ∃ own' ptr', TreeAt w' own' ptr' tb T' ∧ Step own w own' w'
def AddIs (own : Ow) (w : World) (tb : Nat) (id : Int) (T' : Tr) (e : Ending) (w' : World) : Prop := e = .returned (.int .i64 id) ∧ After own w tb T' w'

theorem heap_alloc_setCell (w : World) (p : Addr) (u : Value) (o : Obj) (hp : p.block < w.heap.size) (b : Nat) : ((w.setCell p u).alloc o).heap[b]? = ((w.alloc o).setCell p u).heap[b]? := by
  have hs : (w.setCell p u).heap.size = w.heap.size := by simp [World.setCell]
  by_cases hb : b = w.heap.size
  · subst hb
    rw [heap_setCell_other _ (by omega : w.heap.size ≠ p.block)]
    have e1 : ((w.setCell p u).alloc o).heap[w.heap.size]? = some o := by rw [← hs]; exact heap_alloc_new _ _
    rw [e1]; exact (heap_alloc_new w o).symm
  · by_cases hlt : b < w.heap.size
    · rw [Below.heap_alloc (w.setCell p u) o b (by rw [hs]; exact hlt)]
      by_cases hbp : b = p.block
      · subst hbp
        simp only [World.setCell, Array.getElem?_modify]
        rw [Below.heap_alloc w o _ hlt]
      · rw [heap_setCell_other _ hbp, heap_setCell_other _ hbp, Below.heap_alloc w o b hlt]
    · rw [Array.getElem?_eq_none (by simp [hs]; omega), Array.getElem?_eq_none (by simp [World.setCell]; omega)]
theorem Step.same_heap {own own' : Ow} {a b c : World} (h : Step own a own' b) (k : ∀ x : Nat, c.heap[x]? = b.heap[x]?) (h1 : c.os = b.os) (h2 : c.tape = b.tape) (h3 : c.output = b.output) (h4 : c.heap.size = b.heap.size) : Step own a own' c :=
  ⟨h1.trans h.os, h2.trans h.tape, h3.trans h.output, by rw [h4]; exact h.size, fun x hx hn => (k x).trans (h.rest x hx hn), h.same, fun x hx => by rw [h4]; exact h.owned x hx⟩
theorem Ext.step {own : Ow} {w w' : World} (h : Ext w w') (hO : Owned own w) : Step own w own w' :=
  ⟨Below.os h, Below.tape h, Below.output h, Ext.size h, fun b hb _ => Below.block h b hb, fun _ _ => rfl, fun b hb => Nat.lt_of_lt_of_le (hO b hb) (Ext.size h)⟩

theorem add_plain {w wz : World} {own0 own : Ow} {ptr : Nat → Nat} {tb : Nat} {T : Tr} (h0 : Step own0 w own wz) (hT : TreeAt wz own ptr tb T) {i g capn : Nat} (hi : T.nodes[i]? = some none)
    (hb : wz.heap[tb]? = some (.cells #[.int .i64 T.cap, .int .i64 T.deep, .int .i64 T.count, .slice (some ⟨g, 0, none⟩) T.nodes.length capn] 165 (0, 0))) (hog : own g = some (1, 0)) (hob : own tb = some (0, 0))
    (hog0 : g < w.heap.size → own0 g ≠ none) (hob0 : tb < w.heap.size → own0 tb ≠ none)
    {av : Value} {attrs : List (ByteArray × ByteArray)} {rb : Option Nat} (hr1 : RowP wz (fun g => rb = some g) 131 2 av attrs.length (attrCells attrs)) (hr2 : ∀ k, rb = some k → own k = none ∧ w.heap.size ≤ k ∧ k < wz.heap.size) (tag : Int) (text : ByteArray)
    (c : Int) (hc : c = T.count + 1) :
    After own0 w tb { T with count := T.count + 1, nodes := T.nodes.set i (some ⟨tag, attrs, text, [], -1⟩) }
      (((wz.setCell ⟨g, i, none⟩ (.pointer (some ⟨wz.heap.size, 0, none⟩))).setCell ⟨tb, 2, none⟩ (.int .i64 c)).alloc (.cells #[.int .i64 tag, av, .string text, .slice none 0 0, .int .i64 (-1)] 128)).drew := by
  subst hc
  have hO := h0.owned
  have hgl := hO g (by simp [hog])
  have htl := hO tb (by simp [hob])
  have hws := h0.size
  let o : Obj := .cells #[.int .i64 tag, av, .string text, .slice none 0 0, .int .i64 (-1)] 128
  let own' : Ow := fun b => if b = wz.heap.size then some (2, i) else if rb = some b then some (3, i) else own b
  have hold : ∀ b, b < wz.heap.size → (wz.alloc o).heap[b]? = wz.heap[b]? := fun b hb => Below.heap_alloc _ _ _ hb
  have hown' : ∀ b x, own b = some x → own' b = own b := fun b x hb => by
    have h1 := hO b (by simp [hb])
    show (if b = wz.heap.size then _ else if rb = some b then _ else _) = _
    rw [if_neg (by omega), if_neg (fun h => by rw [(hr2 b h).1] at hb; cases hb)]
  have hB : own' wz.heap.size = some (2, i) := if_pos rfl
  have hn : NodeAt (wz.alloc o) own' i wz.heap.size ⟨tag, attrs, text, [], -1⟩ := by
    refine ⟨av, .slice none 0 0, heap_alloc_new wz o, hB, RowP.move hr1 fun k hk => ?_, ⟨by simp, .inl ⟨rfl, none, rfl⟩⟩⟩
    obtain ⟨k1, k2, k3⟩ := hr2 k hk
    refine ⟨hold k k3, ?_⟩
    show (if k = wz.heap.size then _ else _) = _
    rw [if_neg (by omega), if_pos hk]
  have hP := hT.place hi hb hn (fun b x hx => ⟨hold b (hO b (by simp [hx])), hown' b x hx⟩)
  have hC := hP.setCount (T.count + 1)
  have hlook : ∀ b : Nat, (((wz.setCell ⟨g, i, none⟩ (.pointer (some ⟨wz.heap.size, 0, none⟩))).setCell ⟨tb, 2, none⟩ (.int .i64 (T.count + 1))).alloc o).drew.heap[b]? =
      (((wz.alloc o).setCell ⟨g, i, none⟩ (.pointer (some ⟨wz.heap.size, 0, none⟩))).setCell ⟨tb, 2, none⟩ (.int .i64 (T.count + 1))).heap[b]? := fun b => by
    show (((wz.setCell ⟨g, i, none⟩ (.pointer (some ⟨wz.heap.size, 0, none⟩))).setCell ⟨tb, 2, none⟩ (.int .i64 (T.count + 1))).alloc o).heap[b]? = _
    rw [heap_alloc_setCell _ _ _ _ (by simp [World.setCell]; omega)]
    by_cases hbt : b = tb
    · subst hbt
      simp only [World.setCell, Array.getElem?_modify]
      have := heap_alloc_setCell wz ⟨g, i, none⟩ (.pointer (some ⟨wz.heap.size, 0, none⟩)) o (by show g < _; omega) b
      simp only [World.setCell, Array.getElem?_modify] at this
      rw [this]
    · rw [heap_setCell_other _ hbt, heap_setCell_other _ hbt, heap_alloc_setCell _ _ _ _ (by show g < _; omega)]
  refine ⟨own', _, hC.keep fun b _ => hlook b, ?_⟩
  have hst : Step own0 w own' (((wz.alloc o).setCell ⟨g, i, none⟩ (.pointer (some ⟨wz.heap.size, 0, none⟩))).setCell ⟨tb, 2, none⟩ (.int .i64 (T.count + 1))) := by
    have h1 : Step own0 w own (wz.alloc o) := h0.ext ((Ext.refl _).alloc _)
    refine ((h1.own (fun x hx => ?_) fun b hb => ?_).setCell hog0 _).setCell hob0 _
    · show (if x = wz.heap.size then _ else if rb = some x then _ else _) = _
      rw [if_neg (by omega), if_neg (fun h => by have := (hr2 x h).2.1; omega)]
    · have hb' : (if b = wz.heap.size then some (2, i) else if rb = some b then some (3, i) else own b) ≠ none := hb
      simp only [World.size_alloc]
      split at hb'
      · omega
      · split at hb'
        · rename_i hrb; have := (hr2 b hrb).2.2; omega
        · have := hO b hb'; omega
  exact hst.same_heap hlook rfl rfl rfl (by simp [World.setCell, World.drew])

theorem add_free {w : World} {own : Ow} {ptr : Nat → Nat} {tb : Nat} {T : Tr} (hT : TreeAt w own ptr tb T) (hO : Owned own w) (hs : Small T) {i : Nat} (hf : freeOf' T.nodes = (i : Int)) (hi : T.nodes[i]? = some none)
    (tag : Int) (text : ByteArray) (av : Value) (attrs : List (ByteArray × ByteArray)) (ha : RowRd w 2 av attrs.length (attrCells attrs)) (hn : attrs.length ≤ 60000) (h1c : ∀ u ∈ attrCells attrs, u.oneCell' = true) :
    Calls Tryz.prog 120 #[.pointer (some ⟨tb, 0, none⟩), .agg #[.int .i64 tag, av, .string text]] w (AddIs own w tb i { T with count := T.count + 1, nodes := T.nodes.set i (some ⟨tag, attrs, text, [], -1⟩) }) := by
  obtain ⟨ao, cap0, hav, _⟩ := ha.len_of
  subst hav
  obtain ⟨nv, hb, hob, hrow0⟩ := hT.head
  have hilt := (List.getElem?_eq_some_iff.1 hi).1
  obtain ⟨g, capn, hnv, _⟩ := hrow0.cell (i := i) (x := .pointer none) (by simp [nodeVals, List.getElem?_mapIdx, hi, nodeVal])
  subst hnv
  obtain ⟨_, _, hE, hcapn, hcapm⟩ := hrow0.len
  cases hE
  have hog : own g = some (1, 0) := by
    rcases hrow0.2 with ⟨h0, _⟩ | ⟨g', cap', cur, q1, q2, _⟩
    · omega
    · cases q1; exact q2
  have hgl := hO g (by simp [hog])
  have htl := hO tb (by simp [hob])
  have hcg : ∃ x, w.cell? ⟨g, i, none⟩ = some x := by
    obtain ⟨g', cap', q, hc⟩ := hrow0.cell (i := i) (x := .pointer none) (by simp [nodeVals, List.getElem?_mapIdx, hi, nodeVal])
    cases q; exact ⟨_, hc⟩
  obtain ⟨xg, hcg⟩ := hcg
  have hfg : w.frozen? ⟨g, i, none⟩ = false := by
    rcases hrow0.2 with ⟨h0, _⟩ | ⟨g', cap', cur, q1, q2, q3, _⟩
    · omega
    · cases q1; exact freeOf q3 i
  have ngt : g ≠ tb := fun e => by rw [e, hob] at hog; cases hog
  have hlen := hs.len
  have hc0 := hs.count0
  have hc1 := hs.count1
  have hc2 := hs.cap1
  have HB := qh hb
  have HA := qh ha
  have HF := qh hf
  have HI := qh hi
  have HT := qh hT
  have HOO := qh hO
  have HN := qh hn
  have H1 := qh h1c
  have HR0 := qh hrow0
  unfold maxLen at hcapm
  clear ha hf hi hT hO hn h1c hb hrow0 hs
  go_enter Tryz.func120, Tryz.ntmps120
  go_wp2_with fail
  refine (cloneA_any (RowRd.ext HA.out ((Ext.refl w).alloc _)) HN.out H1.out).mono ?_
  rintro e w1 ⟨v, rfl, hrow, hx⟩
  have c0 := hx.cell (b := w.heap.size) (o := 0) (v := .int .i64 tag) (by simp [go_sem])
  have c1 := hx.cell (b := w.heap.size) (o := 1) (v := .slice ao attrs.length cap0) (by simp [go_sem])
  have c2 := hx.cell (b := w.heap.size) (o := 2) (v := .string text) (by simp [go_sem])
  have f1 := hx.free (b := w.heap.size) (o := 1) (by simp <;> omega) (by simp [go_sem])
  have x1 : Ext w w1 := ((Ext.refl w).alloc _).trans hx
  obtain ⟨a1, cap1, hv, _⟩ := hrow.rd.len_of
  subst hv
  have hb1 := x1.block HB.out
  have t2 := cellOf hb1 (i := 2) (v := .int .i64 T.count) rfl
  have t3 := cellOf hb1 (i := 3) (v := .slice (some ⟨g, 0, none⟩) T.nodes.length capn) rfl
  have u2 := freeOf hb1 2
  have g1 := x1.cell hcg
  have g2 := x1.free hgl hfg
  have ntb : tb ≠ w.heap.size := Nat.ne_of_lt htl
  have ntb' : w.heap.size ≠ tb := Ne.symm ntb
  have ng : g ≠ w.heap.size := Nat.ne_of_lt hgl
  have ng' : w.heap.size ≠ g := Ne.symm ng
  have l0 := cell_lt c0
  have HB1 := qh hb1
  have HX := qh hx
  have HROW := qh hrow
  clear hb1 hx hrow hcg hfg
  go_wp2_with fail
  have hr2 : RowP (w1.setCell ⟨w.heap.size, 1, none⟩ (.slice a1 attrs.length cap1)) (fun g => own g = some (1, 0)) 119 1 (.slice (some ⟨g, 0, none⟩) T.nodes.length capn) T.nodes.length (nodeVals ptr T.nodes) := by
    refine RowP.move HR0.out fun b hb => ⟨?_, hb⟩
    have hbl := HOO.out b (by simp [hb])
    rw [heap_setCell_other _ (by show b ≠ w.heap.size; omega)]
    exact Below.block x1 b hbl
  refine (free_any hr2 (by omega)).mono ?_
  clear hr2
  rintro e w2 ⟨rfl, rfl⟩
  rw [HF.out]
  go_wp2_with fail
  obtain ⟨wz, hwz⟩ : ∃ wz : World, wz = w1.setCell ⟨w.heap.size, 1, none⟩ (.slice a1 attrs.length cap1) := ⟨_, rfl⟩
  have z0 : wz.cell? ⟨w.heap.size, 0, none⟩ = some (.int .i64 tag) := by rw [hwz]; simp [go_sem, c0]
  have z1 : wz.cell? ⟨w.heap.size, 1, none⟩ = some (.slice a1 attrs.length cap1) := by rw [hwz]; simp [go_sem, c1]
  have z2 : wz.cell? ⟨w.heap.size, 2, none⟩ = some (.string text) := by rw [hwz]; simp [go_sem, c2]
  have y2 : wz.cell? ⟨tb, 2, none⟩ = some (.int .i64 T.count) := by rw [hwz]; simp [go_sem, ntb, ntb', t2]
  have y3 : wz.cell? ⟨tb, 3, none⟩ = some (.slice (some ⟨g, 0, none⟩) T.nodes.length capn) := by rw [hwz]; simp [go_sem, ntb, ntb', t3]
  have v2 : wz.frozen? ⟨tb, 2, none⟩ = false := by rw [hwz]; simp [go_sem, u2]
  have k1 : wz.cell? ⟨g, i, none⟩ = some xg := by rw [hwz]; simp [go_sem, ng, ng', g1]
  have k2 : wz.frozen? ⟨g, i, none⟩ = false := by rw [hwz]; simp [go_sem, g2]
  have lz : wz.heap.size = w1.heap.size := by rw [hwz]; simp [World.setCell]
  have lg := cell_lt k1
  have lt := cell_lt y2
  have ngz : g ≠ wz.heap.size := Nat.ne_of_lt lg
  have ntz : tb ≠ wz.heap.size := Nat.ne_of_lt lt
  rw [← hwz]
  have HWZ := qh hwz
  have LZ := qh lz
  clear hwz c0 c1 c2 f1 t2 t3 u2 g1 g2 lz
  go_region_held3 (fun w' => w'.cell? ⟨tb, 3, none⟩ = some (.slice (some ⟨g, 0, none⟩) T.nodes.length capn) ∧ w'.cell? ⟨w.heap.size, 0, none⟩ = some (.int .i64 tag) ∧ w'.cell? ⟨w.heap.size, 1, none⟩ = some (.slice a1 attrs.length cap1) ∧ w'.cell? ⟨w.heap.size, 2, none⟩ = some (.string text))
    (first | exact ⟨y3, z0, z1, z2⟩ | go_keep) (first | fail | fail)
  go_wp2
  go_ret
  have hR : RowIn w1 (w.heap.size + 1) 131 2 (.slice a1 attrs.length cap1) attrs.length (attrCells attrs) := by
    have := HROW.out
    simpa using this
  obtain ⟨rb, hr1, hr2⟩ := hR.block
  have hzs : wz.heap.size = w1.heap.size := LZ.out
  have h0 : Step own w own wz := by rw [HWZ.out]; exact (x1.step HOO.out).setCell (fun h => by exfalso; exact Nat.lt_irrefl _ h) _
  have hk : Keep own w wz := fun b hb => by
    have hbl := HOO.out b hb
    rw [HWZ.out, heap_setCell_other _ (by show b ≠ w.heap.size; omega)]
    exact Below.block x1 b hbl
  exact ⟨rfl, add_plain h0 (HT.out.keep hk) HI.out (by rw [hk tb (by simp [hob])]; exact HB.out) hog hob (fun _ => by simp [hog]) (fun _ => by simp [hob])
    (RowP.move hr1 fun k hk => ⟨by rw [HWZ.out, heap_setCell_other _ (by have := (hr2 k hk).1; show k ≠ w.heap.size; omega)], hk⟩)
    (fun k hk => by
      have := hr2 k hk
      refine ⟨?_, by omega, by omega⟩
      cases ho : own k with
      | none => rfl
      | some x => have := HOO.out k (by simp [ho]); omega) tag text _ rfl⟩
theorem grow_plain {w W w3 : World} {own0 own : Ow} {ptr : Nat → Nat} {tb : Nat} {T : Tr} (h0 : Step own0 w own W) (hT : TreeAt W own ptr tb T) (hob : own tb = some (0, 0)) (hob0 : tb < w.heap.size → own0 tb ≠ none)
    (h00 : ∀ b, b < w.heap.size → own b = some (1, 0) → own0 b ≠ none)
    {v : Value} {row : Option Nat} (hr : RowP w3 (fun g => own g = some (1, 0) ∨ W.heap.size ≤ g) 119 1 v (T.nodes.length + 1) (nodeVals ptr T.nodes ++ [.pointer none])) (hg : W.grownBy w3 row) (hrow : ∀ k, row = some k → own k = some (1, 0)) :
    ∃ own1 g cap, v = .slice (some ⟨g, 0, none⟩) (T.nodes.length + 1) cap ∧ cap ≤ maxLen ∧ T.nodes.length + 1 ≤ cap ∧ own1 g = some (1, 0) ∧ own1 tb = some (0, 0) ∧ (g < w.heap.size → own0 g ≠ none) ∧ Step own0 w own1 (w3.setCell ⟨tb, 3, none⟩ v) ∧ TreeAt (w3.setCell ⟨tb, 3, none⟩ v) own1 ptr tb { T with nodes := T.nodes ++ [none] } ∧
      (∀ b, own1 b = none → own b = none) ∧ (∀ b, own b = none → b < W.heap.size → own1 b = none) ∧
      (w3.setCell ⟨tb, 3, none⟩ v).heap[tb]? = some (.cells #[.int .i64 T.cap, .int .i64 T.deep, .int .i64 T.count, v] 165 (0, 0)) ∧ (∃ x, w3.cell? ⟨g, T.nodes.length, none⟩ = some x) ∧ w3.frozen? ⟨g, T.nodes.length, none⟩ = false ∧ g ≠ tb := by
  rcases hr.2 with ⟨h1, _⟩ | ⟨g, cap, cur, rfl, q2, q3, q4, q5, q6, q7⟩
  · omega
  have hO := h0.owned
  let own1 : Ow := fun b => if b < W.heap.size then own b else if b = g then some (1, 0) else none
  have e1 : ∀ b, b < W.heap.size → own1 b = own b := fun b hb => if_pos hb
  have hog : own1 g = some (1, 0) := by
    show (if g < W.heap.size then _ else _) = _
    rcases q2 with q2 | q2
    · rw [if_pos (hO g (by simp [q2]))]; exact q2
    · rw [if_neg (by omega), if_pos rfl]
  have htl := hO tb (by simp [hob])
  have hot : own1 tb = some (0, 0) := (e1 tb htl).trans hob
  have hgl : g < w3.heap.size := (Array.getElem?_eq_some_iff.1 q3).1
  have hsz := hg.size
  have keep : ∀ b x, own b = some x → x ≠ (1, 0) → w3.heap[b]? = W.heap[b]? ∧ own1 b = own b := fun b x hb hx => by
    have hbl := hO b (by simp [hb])
    exact ⟨hg.block b hbl (fun h => by have := hrow b h.symm; rw [hb] at this; exact hx (Option.some.inj this)), e1 b hbl⟩
  have hr' : RowAt w3 own1 119 1 (1, 0) (.slice (some ⟨g, 0, none⟩) (T.nodes.length + 1) cap) (T.nodes.length + 1) (nodeVals ptr T.nodes ++ [.pointer none]) :=
    ⟨hr.1, .inr ⟨g, cap, cur, rfl, hog, q3, q4, q5, q6, q7⟩⟩
  have hG := hT.grow hr' keep
  obtain ⟨nv, hb, _, _⟩ := hT.head
  have hb3 : w3.heap[tb]? = _ := (keep tb _ hob (by simp)).1.trans hb
  refine ⟨own1, g, cap, rfl, q5, q4, hog, hot, fun hgw => ?_, ?_, hG, fun b hb => ?_, fun b hb hbl => (e1 b hbl).trans hb, by rw [heap_setCell_same hb3]; rfl, ?_, freeOf q3 _, fun e => by rw [e, hot] at hog; cases hog⟩
  · have hgW := Nat.lt_of_lt_of_le hgw h0.size
    exact h00 g hgw ((e1 g hgW).symm.trans hog)
  · have hst : Step own0 w own1 w3 := by
      refine ⟨hg.os.trans h0.os, hg.tape.trans h0.tape, hg.output.trans h0.output, Nat.le_trans h0.size hg.size, fun b hb hn => ?_, fun b hb => (e1 b (Nat.lt_of_lt_of_le hb h0.size)).trans (h0.same b hb), fun b hb => ?_⟩
      · rw [hg.block b (Nat.lt_of_lt_of_le hb h0.size) (fun h => h00 b hb (hrow b h.symm) hn)]
        exact h0.rest b hb hn
      · have hb' : (if b < W.heap.size then own b else if b = g then some (1, 0) else none) ≠ none := hb
        split at hb'
        · omega
        · split at hb'
          · omega
          · exact absurd rfl hb'
    exact hst.setCell hob0 _
  · have hb' : (if b < W.heap.size then own b else if b = g then some (1, 0) else none) = none := hb
    split at hb'
    · exact hb'
    · cases ho : own b with
      | none => rfl
      | some x => have := hO b (by simp [ho]); omega
  · have hlt : T.nodes.length < cur.size := by rw [q6]; omega
    exact ⟨_, cellOf q3 (Array.getElem?_eq_getElem hlt)⟩

theorem add_full {w : World} {own : Ow} {ptr : Nat → Nat} {tb : Nat} {T : Tr} (hT : TreeAt w own ptr tb T) (hO : Owned own w) (hs : Small T) (hlen : T.nodes.length ≤ 1999) (hf : freeOf' T.nodes = -1)
    (tag : Int) (text : ByteArray) (av : Value) (attrs : List (ByteArray × ByteArray)) (ha : RowRd w 2 av attrs.length (attrCells attrs)) (hn : attrs.length ≤ 60000) (h1c : ∀ u ∈ attrCells attrs, u.oneCell' = true) :
    Calls Tryz.prog 120 #[.pointer (some ⟨tb, 0, none⟩), .agg #[.int .i64 tag, av, .string text]] w (AddIs own w tb T.nodes.length { T with count := T.count + 1, nodes := T.nodes ++ [some ⟨tag, attrs, text, [], -1⟩] }) := by
  obtain ⟨ao, cap0, hav, _⟩ := ha.len_of
  subst hav
  obtain ⟨nv, hb, hob, hrow0⟩ := hT.head
  obtain ⟨an, capn, hnv, hcapn, hcapm⟩ := hrow0.len
  subst hnv
  have htl := hO tb (by simp [hob])
  have hc0 := hs.count0
  have hc1 := hs.count1
  have hc2 := hs.cap1
  obtain ⟨i0, hi, hz0, hz1, hz2⟩ := info_parts infoP
  have Hi := qh hi
  have Hz0 := qh hz0
  have Hz1 := qh hz1
  have Hz2 := qh hz2
  have HB := qh hb
  have HA := qh ha
  have HF := qh hf
  have HT := qh hT
  have HOO := qh hO
  have HN := qh hn
  have H1 := qh h1c
  have HR0 := qh hrow0
  have HOB := qh hob
  unfold maxLen at hcapm
  clear ha hf hT hO hn h1c hb hrow0 hs hi hz0 hz1 hz2 hob
  go_enter Tryz.func120, Tryz.ntmps120
  go_wp2_with fail
  refine (cloneA_any (RowRd.ext HA.out ((Ext.refl w).alloc _)) HN.out H1.out).mono ?_
  rintro e w1 ⟨v, rfl, hrow, hx⟩
  have c0 := hx.cell (b := w.heap.size) (o := 0) (v := .int .i64 tag) (by simp [go_sem])
  have c1 := hx.cell (b := w.heap.size) (o := 1) (v := .slice ao attrs.length cap0) (by simp [go_sem])
  have c2 := hx.cell (b := w.heap.size) (o := 2) (v := .string text) (by simp [go_sem])
  have f1 := hx.free (b := w.heap.size) (o := 1) (by simp <;> omega) (by simp [go_sem])
  have x1 : Ext w w1 := ((Ext.refl w).alloc _).trans hx
  obtain ⟨a1, cap1, hv, _⟩ := hrow.rd.len_of
  subst hv
  have hb1 := x1.block HB.out
  have t2 := cellOf hb1 (i := 2) (v := .int .i64 T.count) rfl
  have t3 := cellOf hb1 (i := 3) (v := .slice an T.nodes.length capn) rfl
  have u2 := freeOf hb1 2
  have ntb : tb ≠ w.heap.size := Nat.ne_of_lt htl
  have ntb' : w.heap.size ≠ tb := Ne.symm ntb
  have l0 := cell_lt c0
  have HX := qh hx
  have HROW := qh hrow
  clear hb1 hx hrow
  go_wp2_with fail
  obtain ⟨wz, hwz⟩ : ∃ wz : World, wz = w1.setCell ⟨w.heap.size, 1, none⟩ (.slice a1 attrs.length cap1) := ⟨_, rfl⟩
  have z0 : wz.cell? ⟨w.heap.size, 0, none⟩ = some (.int .i64 tag) := by rw [hwz]; simp [go_sem, c0]
  have z1 : wz.cell? ⟨w.heap.size, 1, none⟩ = some (.slice a1 attrs.length cap1) := by rw [hwz]; simp [go_sem, c1]
  have z2 : wz.cell? ⟨w.heap.size, 2, none⟩ = some (.string text) := by rw [hwz]; simp [go_sem, c2]
  have y2 : wz.cell? ⟨tb, 2, none⟩ = some (.int .i64 T.count) := by rw [hwz]; simp [go_sem, ntb, ntb', t2]
  have y3 : wz.cell? ⟨tb, 3, none⟩ = some (.slice an T.nodes.length capn) := by rw [hwz]; simp [go_sem, ntb, ntb', t3]
  have lz : wz.heap.size = w1.heap.size := by rw [hwz]; simp [World.setCell]
  have h0 : Step own w own wz := by rw [hwz]; exact (x1.step HOO.out).setCell (fun h => by exfalso; exact Nat.lt_irrefl _ h) _
  have hk : Keep own w wz := fun b hb => by
    have hbl := HOO.out b hb
    rw [hwz, heap_setCell_other _ (by show b ≠ w.heap.size; omega)]
    exact Below.block x1 b hbl
  have hTz := HT.out.keep hk
  have hR : RowIn w1 (w.heap.size + 1) 131 2 (.slice a1 attrs.length cap1) attrs.length (attrCells attrs) := by
    have := HROW.out
    simpa using this
  obtain ⟨rb, hr1, hr2⟩ := hR.block
  have hr1z : RowP wz (fun g => rb = some g) 131 2 (.slice a1 attrs.length cap1) attrs.length (attrCells attrs) :=
    RowP.move hr1 fun k hk => ⟨by rw [hwz, heap_setCell_other _ (by have := (hr2 k hk).1; show k ≠ w.heap.size; omega)], hk⟩
  have hrz : RowP wz (fun g => own g = some (1, 0)) 119 1 (.slice an T.nodes.length capn) T.nodes.length (nodeVals ptr T.nodes) := RowP.move HR0.out fun b hb => ⟨hk b (by simp [hb]), hb⟩
  rw [← hwz]
  have H0 := qh h0
  have HTZ := qh hTz
  have HR1 := qh hr1z
  have HR2 := qh hr2
  have HRZ := qh hrz
  have LZ := qh lz
  have htz := cell_lt y2
  have hpz := cell_lt z0
  clear hwz c0 c1 c2 f1 t2 t3 u2 h0 hk hTz hR hr1 hr2 hr1z hrz lz x1
  refine (free_any HRZ.out (by omega)).mono ?_
  rintro e w2 ⟨rfl, rfl⟩
  rw [HF.out]
  go_wp2_with (at_builtin; refine wpList_append_row rfl _ _ 163 rfl 119 i0 (.pointer none) 1 8 Tryz.underlying163 Hi.out Hz0.out Hz1.out Hz2.out rfl (by decide) (fun g => own g = some (1, 0)) (.slice an T.nodes.length capn) T.nodes.length (nodeVals ptr T.nodes) rfl ?c1 ⟨wz.heap.size, 0, none⟩ 1 1 [.pointer none] rfl rfl ?c2 ?c3 (by decide) ?c4 ?c5 ?_)
  case c1 => exact RowP.ext HRZ.out ((Ext.refl _).alloc _)
  case c2 => exact cell_one_new _ _ _
  case c3 => simp [Value.oneCell']
  case c4 => unfold maxLen; omega
  case c5 => omega
  intro v' w3 row hrw hg hrow
  have hOz := H0.out.owned
  have xW : Ext wz (wz.alloc (Obj.cells #[Value.pointer none] 119)) := (Ext.refl _).alloc _
  have hgr := grow_plain (H0.out.ext xW) (HTZ.out.keep (xW.keep hOz)) HOB.out (fun _ => by rw [HOB.out]; simp) (fun b _ hb => by rw [hb]; simp) (by simpa using hrw) hg hrow
  obtain ⟨own1, g, cap, hv, hcm, hlc, hog1, hot1, hgn, hst, hT1, hn1, hn2, hb1, ⟨xg, hcg⟩, hfg, hgt⟩ := hgr
  have hpres : ∀ b, b < wz.heap.size → own b ≠ some (1, 0) → w3.heap[b]? = wz.heap[b]? := fun b hb hn => by
    rw [hg.block b (by simp; omega) (fun h => hn (hrow b h.symm))]
    exact Below.heap_alloc _ _ _ hb
  have hp0 : own w.heap.size = none := by
    cases ho : own w.heap.size with
    | none => rfl
    | some x => have := HOO.out w.heap.size (by simp [ho]); omega
  have e0 : ∀ o x, wz.cell? ⟨w.heap.size, o, none⟩ = some x → w3.cell? ⟨w.heap.size, o, none⟩ = some x := fun o x hx => (World.cell?_of_block (hpres w.heap.size hpz (by simp [hp0]))).trans hx
  have et : ∀ o x, wz.cell? ⟨tb, o, none⟩ = some x → w3.cell? ⟨tb, o, none⟩ = some x := fun o x hx => (World.cell?_of_block (hpres tb htz (by rw [HOB.out]; simp))).trans hx
  have ef : ∀ o, w3.frozen? ⟨tb, o, none⟩ = false := fun o => by
    obtain ⟨nv, q, _⟩ := HTZ.out.head
    exact freeOf ((hpres tb htz (by rw [HOB.out]; simp)).trans q) o
  replace z0 := e0 _ _ z0
  replace z1 := e0 _ _ z1
  replace z2 := e0 _ _ z2
  replace y2 := et _ _ y2
  replace y3 := et _ _ y3
  have v2 := ef 2
  have v3 := ef 3
  have hsz3 : wz.heap.size + 1 ≤ w3.heap.size := by have := hg.size; simpa using this
  have hr3 : RowP (w3.setCell ⟨tb, 3, none⟩ v') (fun g => rb = some g) 131 2 (.slice a1 attrs.length cap1) attrs.length (attrCells attrs) := RowP.move HR1.out fun k hk => by
    have hk2 := HR2.out k hk
    have hkz : k < wz.heap.size := by rw [LZ.out]; exact hk2.2
    refine ⟨?_, hk⟩
    rw [heap_setCell_other _ (by show k ≠ tb; omega)]
    refine hpres k hkz (fun h => ?_)
    have := HOO.out k (by simp [h]); omega
  have hr4 : ∀ k, rb = some k → own1 k = none ∧ w.heap.size ≤ k ∧ k < (w3.setCell ⟨tb, 3, none⟩ v').heap.size := fun k hk => by
    have hk2 := HR2.out k hk
    have hkz : k < wz.heap.size := by rw [LZ.out]; exact hk2.2
    refine ⟨hn2 k ?_ (by simp; omega), by omega, by simp [World.setCell]; omega⟩
    cases ho : own k with
    | none => rfl
    | some x => have := HOO.out k (by simp [ho]); omega
  have ngz := Ne.symm hgt
  have HST := qh hst
  have HT1 := qh hT1
  have HB1 := qh hb1
  have HR3 := qh hr3
  have HR4 := qh hr4
  have HOG := qh hog1
  have HOT := qh hot1
  have HGN := qh hgn
  have ng0 : g ≠ w.heap.size := fun e => by
    have h2 := hn2 w.heap.size hp0 (by simp; omega)
    rw [← e, hog1] at h2
    cases h2
  have ng0' := Ne.symm ng0
  unfold maxLen at hcm
  clear hst hT1 hb1 hr3 hr4 hn1 hn2 hpres e0 et ef hg hrow hrw hp0 xW hOz hog1 hot1 hgn
  rw [hv] at HST HT1 HB1 HR3 HR4 ⊢
  clear hv
  go_wp2_with fail
  obtain ⟨wq, hwq⟩ : ∃ wq : World, wq = w3.setCell ⟨tb, 3, none⟩ (.slice (some ⟨g, 0, none⟩) (T.nodes.length + 1) cap) := ⟨_, rfl⟩
  rw [← hwq] at HST HT1 HB1 HR3 HR4 ⊢
  replace z0 : wq.cell? ⟨w.heap.size, 0, none⟩ = some (.int .i64 tag) := by rw [hwq]; simp [go_sem, ntb, ntb', z0]
  replace z1 : wq.cell? ⟨w.heap.size, 1, none⟩ = some (.slice a1 attrs.length cap1) := by rw [hwq]; simp [go_sem, ntb, ntb', z1]
  replace z2 : wq.cell? ⟨w.heap.size, 2, none⟩ = some (.string text) := by rw [hwq]; simp [go_sem, ntb, ntb', z2]
  replace y2 : wq.cell? ⟨tb, 2, none⟩ = some (.int .i64 T.count) := by rw [hwq]; simp [go_sem, y2]
  replace y3 : wq.cell? ⟨tb, 3, none⟩ = some (.slice (some ⟨g, 0, none⟩) (T.nodes.length + 1) cap) := by rw [hwq]; simp [go_sem, y3]
  replace v2 : wq.frozen? ⟨tb, 2, none⟩ = false := by rw [hwq]; simp [go_sem, v2]
  replace hcg : wq.cell? ⟨g, T.nodes.length, none⟩ = some xg := by rw [hwq]; simp [go_sem, hgt, ngz, hcg]
  replace hfg : wq.frozen? ⟨g, T.nodes.length, none⟩ = false := by rw [hwq]; simp [go_sem, hfg]
  have lg := cell_lt hcg
  have lt := cell_lt y2
  have ngq : g ≠ wq.heap.size := Nat.ne_of_lt lg
  have ntq : tb ≠ wq.heap.size := Nat.ne_of_lt lt
  have hi0 : (0 : Int) ≤ (T.nodes.length : Int) := by omega
  have hi1 : (T.nodes.length : Int) < (T.nodes.length : Int) + 1 := by omega
  clear hwq v3
  go_region_held3 (fun w' => w'.cell? ⟨tb, 3, none⟩ = some (.slice (some ⟨g, 0, none⟩) (T.nodes.length + 1) cap) ∧ w'.cell? ⟨w.heap.size, 0, none⟩ = some (.int .i64 tag) ∧ w'.cell? ⟨w.heap.size, 1, none⟩ = some (.slice a1 attrs.length cap1) ∧ w'.cell? ⟨w.heap.size, 2, none⟩ = some (.string text))
    (first | exact ⟨y3, z0, z1, z2⟩ | go_keep) (first | fail | fail)
  go_wp2
  go_ret
  have hfin := add_plain (T := { T with nodes := T.nodes ++ [none] }) (i := T.nodes.length) HST.out HT1.out (by simp) (by simpa using HB1.out) HOG.out HOT.out HGN.out (fun _ => by rw [HOB.out]; simp) HR3.out HR4.out tag text (T.count + 1) rfl
  simp only [List.set_append_right _ _ (Nat.le_refl _), Nat.sub_self, List.set_cons_zero] at hfin
  exact ⟨rfl, hfin⟩
theorem freeOf_cases (l : List (Option Nd)) : (∃ i : Nat, freeOf' l = (i : Int) ∧ l[i]? = some none) ∨ (freeOf' l = -1 ∧ ∀ x ∈ l, x ≠ none) := by
  by_cases h : l.any Option.isNone = true
  · left
    have hlt : l.findIdx Option.isNone < l.length := List.findIdx_lt_length.2 (by
      rw [List.any_eq_true] at h; exact h)
    refine ⟨l.findIdx Option.isNone, by unfold freeOf'; rw [if_pos h], ?_⟩
    have := List.findIdx_getElem (w := hlt)
    rw [List.getElem?_eq_getElem hlt]
    cases hx : l[l.findIdx Option.isNone] with
    | none => rfl
    | some y => rw [hx] at this; cases this
  · right
    refine ⟨by unfold freeOf'; rw [if_neg h], fun x hx hn => h (List.any_eq_true.2 ⟨x, hx, by rw [hn]; rfl⟩)⟩
def Tr.newId (T : Tr) : Int := if 0 ≤ freeOf' T.nodes then freeOf' T.nodes else T.nodes.length
def Tr.put (T : Tr) (nd : Nd) : Tr := { T with count := T.count + 1, nodes := if 0 ≤ freeOf' T.nodes then T.nodes.set (freeOf' T.nodes).toNat (some nd) else T.nodes ++ [some nd] }
theorem count_all {l : List (Option Nd)} (h : ∀ x ∈ l, x ≠ none) : l.countP Option.isSome = l.length := by
  rw [List.countP_eq_length]
  intro x hx
  cases x with
  | none => exact absurd rfl (h none hx)
  | some y => rfl
theorem WF.len_full {T : Tr} {d : Nat → Nat} (hw : WF T d) (h : ∀ x ∈ T.nodes, x ≠ none) : (T.nodes.length : Int) = T.count := by
  rw [hw.count, count_all h]
theorem add_any {w : World} {own : Ow} {ptr : Nat → Nat} {tb : Nat} {T : Tr} (hT : TreeAt w own ptr tb T) (hO : Owned own w) (hs : Small T) (hr : (∀ x ∈ T.nodes, x ≠ none) → T.nodes.length ≤ 1999)
    (tag : Int) (text : ByteArray) (av : Value) (attrs : List (ByteArray × ByteArray)) (ha : RowRd w 2 av attrs.length (attrCells attrs)) (hn : attrs.length ≤ 60000) (h1c : ∀ u ∈ attrCells attrs, u.oneCell' = true) :
    Calls Tryz.prog 120 #[.pointer (some ⟨tb, 0, none⟩), .agg #[.int .i64 tag, av, .string text]] w (AddIs own w tb T.newId (T.put ⟨tag, attrs, text, [], -1⟩)) := by
  unfold Tr.newId Tr.put
  rcases freeOf_cases T.nodes with ⟨i, h1, h2⟩ | ⟨h1, h2⟩
  · have := add_free hT hO hs h1 h2 tag text av attrs ha hn h1c
    rw [h1, if_pos (by omega), if_pos (by omega), Int.toNat_natCast]
    exact this
  · have := add_full hT hO hs (hr h2) h1 tag text av attrs ha hn h1c
    rw [h1, if_neg (by omega), if_neg (by omega)]
    exact this
theorem attrCells_one (l : List (ByteArray × ByteArray)) : ∀ u ∈ attrCells l, u.oneCell' = true := by
  induction l with
  | nil => intro u hu; simp [attrCells] at hu
  | cons p r ih =>
    intro u hu
    obtain ⟨a, b⟩ := p
    simp only [attrCells, List.mem_cons] at hu
    rcases hu with rfl | rfl | hu
    · rfl
    · rfl
    · exact ih u hu
theorem Tr.put_at (T : Tr) (nd : Nd) : ∃ n : Nat, T.newId = (n : Int) ∧ (T.put nd).nodes[n]? = some (some nd) ∧ (∀ (x : Nd), T.nodes[n]? ≠ some (some x)) ∧
    (∀ (j : Nat) (x : Nd), T.nodes[j]? = some (some x) → (T.put nd).nodes[j]? = some (some x)) ∧ (∀ (j : Nat) (x : Nd), j ≠ n → (T.put nd).nodes[j]? = some (some x) → T.nodes[j]? = some (some x)) ∧
    (T.put nd).nodes.countP Option.isSome = T.nodes.countP Option.isSome + 1 ∧ (T.put nd).nodes.length ≤ T.nodes.length + 1 ∧ ((∃ x ∈ T.nodes, x = none) → (T.put nd).nodes.length = T.nodes.length) := by
  unfold Tr.newId Tr.put
  rcases freeOf_cases T.nodes with ⟨i, h1, h2⟩ | ⟨h1, h2⟩
  · rw [h1, if_pos (by omega), if_pos (by omega), Int.toNat_natCast]
    have hlt := (List.getElem?_eq_some_iff.1 h2).1
    refine ⟨i, rfl, by simp [hlt], fun x h => (by rw [h2] at h; cases h), fun j x hj => ?_, fun j x hji hj => ?_, ?_, by simp, fun _ => by simp⟩
    · show (T.nodes.set i (some nd))[j]? = _
      rw [List.getElem?_set]
      split
      · rename_i e; subst e; rw [h2] at hj; cases hj
      · exact hj
    · have hj' : (T.nodes.set i (some nd))[j]? = some (some x) := hj
      rw [List.getElem?_set, if_neg (Ne.symm hji)] at hj'
      exact hj'
    · show (T.nodes.set i (some nd)).countP Option.isSome = _
      rw [List.countP_set hlt]
      have : T.nodes[i] = none := by
        have := List.getElem?_eq_getElem hlt
        rw [h2] at this
        exact (Option.some.inj this).symm
      simp [this]
  · rw [h1, if_neg (by omega), if_neg (by omega)]
    refine ⟨T.nodes.length, rfl, by simp, fun x h => ?_, fun j x hj => ?_, fun j x hji hj => ?_, by simp, by simp, fun ⟨x, hx, he⟩ => absurd he (h2 x hx)⟩
    · rw [List.getElem?_eq_none (Nat.le_refl _)] at h; cases h
    · show (T.nodes ++ [some nd])[j]? = _
      rw [List.getElem?_append_left (List.getElem?_eq_some_iff.1 hj).1]; exact hj
    · have hj' : (T.nodes ++ [some nd])[j]? = some (some x) := hj
      rw [List.getElem?_append] at hj'
      split at hj'
      · exact hj'
      · rename_i hge
        rw [List.getElem?_eq_none (by simp; omega)] at hj'
        cases hj'
theorem WF.put {T : Tr} {d : Nat → Nat} (hw : WF T d) (nd : Nd) (hk : nd.kids = []) (hp : nd.parent = -1) (ht0 : 0 ≤ nd.tag) (ht1 : nd.tag ≤ 16) (hroom : T.count + 1 ≤ T.cap) (hroot : T.newId ≠ 0) :
    WF (T.put nd) (fun j => if (j : Int) = T.newId then 0 else d j) := by
  obtain ⟨n, h1, h2, h3, h4, h5, h6, h7, h8⟩ := T.put_at nd
  have hs := hw.small
  have hcap : (T.put nd).cap = T.cap := rfl
  have hdeep : (T.put nd).deep = T.deep := rfl
  have hcount : (T.put nd).count = T.count + 1 := rfl
  refine ⟨⟨hs.cap0, hs.cap1, hs.deep0, hs.deep1, ?_, hroom, ?_⟩, ?_, ?_, ?_, ?_, ?_, ?_⟩
  · have := hs.count0; show 0 ≤ T.count + 1; omega
  · by_cases hx : ∃ x ∈ T.nodes, x = none
    · rw [h8 hx]; exact hs.len
    · have hl := hw.len_full (fun x hx' he => hx ⟨x, hx', he⟩)
      have := hs.cap1
      omega
  · obtain ⟨r, r1, r2, r3⟩ := hw.root
    exact ⟨r, h4 0 r r1, r2, r3⟩
  · intro i x hi
    by_cases hin : i = n
    · rw [if_pos (by rw [h1, hin])]; exact hs.deep0
    · rw [if_neg (by rw [h1]; omega)]; exact hw.deep i x (h5 i x hin hi)
  · intro i x hi
    by_cases hin : i = n
    · left
      rw [hin, h2] at hi
      cases hi
      exact ⟨hp, if_pos (by rw [h1, hin])⟩
    · rcases hw.up i x (h5 i x hin hi) with ⟨q1, q2⟩ | ⟨p, pd, q1, q2, q3, q4⟩
      · left
        exact ⟨q1, by rw [if_neg (by rw [h1]; omega)]; exact q2⟩
      · right
        have hpn : p ≠ n := fun e => h3 pd (e ▸ q2)
        exact ⟨p, pd, q1, h4 p pd q2, by rw [if_neg (by rw [h1]; omega), if_neg (by rw [h1]; omega)]; exact q3, q4⟩
  · intro i x hi
    by_cases hin : i = n
    · rw [hin, h2] at hi
      cases hi
      rw [hk]
      exact ⟨List.nodup_nil, fun k hk => by simp at hk⟩
    · obtain ⟨q1, q2⟩ := hw.kids i x (h5 i x hin hi)
      exact ⟨q1, fun k hk => by obtain ⟨j, kd, r1, r2, r3⟩ := q2 k hk; exact ⟨j, kd, r1, h4 j kd r2, r3⟩⟩
  · intro i x hi
    by_cases hin : i = n
    · rw [hin, h2] at hi
      cases hi
      exact ⟨ht0, ht1, fun _ => hk⟩
    · exact hw.text i x (h5 i x hin hi)
  · rw [hcount, h6, hw.count]; push_cast; rfl
theorem WF.newId_ne {T : Tr} {d : Nat → Nat} (hw : WF T d) : T.newId ≠ 0 := by
  obtain ⟨n, h1, _, h3, _⟩ := T.put_at ⟨0, [], ByteArray.empty, [], -1⟩
  obtain ⟨r, r1, _⟩ := hw.root
  intro h0
  have : n = 0 := by omega
  exact h3 r (this ▸ r1)
theorem WF.d50 {T : Tr} {d : Nat → Nat} (hw : WF T d) {i : Nat} {nd : Nd} (h : T.nodes[i]? = some (some nd)) : d i < 50 := by
  have := hw.deep i nd h; have := hw.small.deep1; omega
theorem WF.within_step {T : Tr} {d : Nat → Nat} (hw : WF T d) {i : Nat} {nd : Nd} (h : T.nodes[i]? = some (some nd)) (o : Int) :
    T.within i o = if (i : Int) = o then true else T.within nd.parent o := by
  show isIn T o 50 i = _
  rw [isIn_step o 49 h]
  split
  · rfl
  · rcases hw.up i nd h with ⟨h3, h4⟩ | ⟨p, pd, h3, h4, h5, h6⟩
    · rw [h3, isIn_neg]; exact (isIn_neg T o 50).symm
    · rw [h3]; have := hw.d50 h; exact isIn_more hw o 49 50 p pd h4 (by omega) (by omega)
theorem within_neg (T : Tr) (o : Int) : T.within (-1) o = false := isIn_neg T o 50
theorem WF.induct {T : Tr} {d : Nat → Nat} (hw : WF T d) (P : Nat → Nd → Prop)
    (h0 : ∀ (i : Nat) (nd : Nd), T.nodes[i]? = some (some nd) → nd.parent = -1 → d i = 0 → P i nd)
    (h1 : ∀ (i : Nat) (nd : Nd) (p : Nat) (pd : Nd), T.nodes[i]? = some (some nd) → nd.parent = (p : Int) → T.nodes[p]? = some (some pd) → d i = d p + 1 → P p pd → P i nd) :
    ∀ (i : Nat) (nd : Nd), T.nodes[i]? = some (some nd) → P i nd := by
  have key : ∀ (n i : Nat) (nd : Nd), d i = n → T.nodes[i]? = some (some nd) → P i nd := by
    intro n
    induction n with
    | zero =>
      intro i nd hd h
      rcases hw.up i nd h with ⟨h3, h4⟩ | ⟨p, pd, h3, h4, h5, h6⟩
      · exact h0 i nd h h3 h4
      · omega
    | succ n ih =>
      intro i nd hd h
      rcases hw.up i nd h with ⟨h3, h4⟩ | ⟨p, pd, h3, h4, h5, h6⟩
      · omega
      · exact h1 i nd p pd h h3 h4 h5 (ih p pd (by omega) h4)
  exact fun i nd h => key (d i) i nd rfl h
theorem WF.within_self {T : Tr} {d : Nat → Nat} (hw : WF T d) {i : Nat} {nd : Nd} (h : T.nodes[i]? = some (some nd)) : T.within i i = true := by
  rw [hw.within_step h, if_pos rfl]
theorem WF.within_depth {T : Tr} {d : Nat → Nat} (hw : WF T d) {o : Nat} : ∀ (i : Nat) (nd : Nd), T.nodes[i]? = some (some nd) → T.within i o = true → d o ≤ d i ∧ (d o = d i → i = o) := by
  refine hw.induct _ (fun i nd h hp hd hi => ?_) (fun i nd p pd h hp hpd hd ih hi => ?_)
  · rw [hw.within_step h, hp, within_neg] at hi
    split at hi
    · rename_i e; have : i = o := by omega
      subst this; exact ⟨Nat.le_refl _, fun _ => rfl⟩
    · cases hi
  · rw [hw.within_step h, hp] at hi
    split at hi
    · rename_i e; have : i = o := by omega
      subst this; exact ⟨Nat.le_refl _, fun _ => rfl⟩
    · have := (ih hi).1; omega
theorem WF.within_trans {T : Tr} {d : Nat → Nat} (hw : WF T d) {o q : Nat} {od : Nd} (ho : T.nodes[o]? = some (some od)) (hq : T.within o q = true) :
    ∀ (i : Nat) (nd : Nd), T.nodes[i]? = some (some nd) → T.within i o = true → T.within i q = true := by
  refine hw.induct _ (fun i nd h hp hd hi => ?_) (fun i nd p pd h hp hpd hd ih hi => ?_)
  · rw [hw.within_step h, hp, within_neg] at hi
    split at hi
    · rename_i e; have : i = o := by omega
      subst this; exact hq
    · cases hi
  · rw [hw.within_step h, hp] at hi
    split at hi
    · rename_i e; have : i = o := by omega
      subst this; exact hq
    · rw [hw.within_step h, hp]
      split
      · rfl
      · exact ih hi
theorem WF.within_root {T : Tr} {d : Nat → Nat} (hw : WF T d) {i : Nat} {nd : Nd} (h : T.nodes[i]? = some (some nd)) (hp : nd.parent = -1) (o : Int) : T.within i o = decide ((i : Int) = o) := by
  rw [hw.within_step h, hp, within_neg]
  by_cases e : (i : Int) = o
  · rw [if_pos e, decide_eq_true e]
  · rw [if_neg e, decide_eq_false e]
theorem WF.within_kid {T : Tr} {d : Nat → Nat} (hw : WF T d) {o : Nat} {od : Nd} (ho : T.nodes[o]? = some (some od)) :
    ∀ (i : Nat) (nd : Nd), T.nodes[i]? = some (some nd) → T.within i o = true → i = o ∨ ∃ k ∈ od.kids, T.within i k = true := by
  refine hw.induct _ (fun i nd h hp hd hi => ?_) (fun i nd p pd h hp hpd hd ih hi => ?_)
  · rw [hw.within_root h hp] at hi
    left; have := of_decide_eq_true hi; omega
  · rw [hw.within_step h, hp] at hi
    split at hi
    · rename_i e; left; omega
    · right
      rcases ih hi with rfl | ⟨k, hk, hk2⟩
      · rw [ho] at hpd
        obtain rfl : od = pd := by injection hpd with e; injection e
        rcases hw.up i nd h with ⟨h3, h4⟩ | ⟨p', pd', h3, h4, h5, h6⟩
        · omega
        · have hpp : p' = p := by omega
          subst hpp
          rw [ho] at h4
          obtain rfl : od = pd' := by injection h4 with e; injection e
          exact ⟨i, h6, hw.within_self h⟩
      · refine ⟨k, hk, ?_⟩
        rw [hw.within_step h, hp, hk2]
        split <;> rfl
theorem WF.kid_within {T : Tr} {d : Nat → Nat} (hw : WF T d) {o : Nat} {od : Nd} (ho : T.nodes[o]? = some (some od)) {k : Int} (hk : k ∈ od.kids) :
    ∀ (i : Nat) (nd : Nd), T.nodes[i]? = some (some nd) → T.within i k = true → T.within i o = true := by
  obtain ⟨j, kd, rfl, hj, hjp⟩ := (hw.kids o od ho).2 k hk
  refine fun i nd h hi => hw.within_trans hj ?_ i nd h hi
  rw [hw.within_step hj, hjp]
  split
  · rfl
  · exact hw.within_self ho

theorem fold_ge (F : Int → Int) : ∀ (l : List Int) (z : Int), z ≤ l.foldl (fun h k => max h (F k)) z := by
  intro l
  induction l with
  | nil => intro z; exact Int.le_refl _
  | cons k r ih => intro z; exact Int.le_trans (show z ≤ max z (F k) by omega) (ih _)
theorem fold_mem (F : Int → Int) : ∀ (l : List Int) (z : Int) (x : Int), x ∈ l → F x ≤ l.foldl (fun h k => max h (F k)) z := by
  intro l
  induction l with
  | nil => intro z x hx; cases hx
  | cons k r ih =>
    intro z x hx
    rcases List.mem_cons.1 hx with rfl | hx
    · exact Int.le_trans (show F x ≤ max z (F x) by omega) (fold_ge F r _)
    · exact ih _ x hx
theorem hgt_step (T : Tr) (f : Nat) {i : Nat} {nd : Nd} (h : T.nodes[i]? = some (some nd)) : T.hgt (f + 1) i = nd.kids.foldl (fun h k => max h (T.hgt f k + 1)) 0 := by
  show (match T.get? i with | none => -1 | some nd => nd.kids.foldl (fun h k => max h (T.hgt f k + 1)) 0) = _
  rw [Tr.get_of h]
theorem hgt_nn (T : Tr) (f : Nat) {i : Nat} {nd : Nd} (h : T.nodes[i]? = some (some nd)) : 0 ≤ T.hgt f i := by
  cases f with
  | zero => exact Int.le_refl 0
  | succ f => rw [hgt_step T f h]; exact fold_ge _ _ _
theorem fold_congr (F G : Int → Int) : ∀ (l : List Int) (z : Int), (∀ k ∈ l, F k = G k) → l.foldl (fun h k => max h (F k)) z = l.foldl (fun h k => max h (G k)) z := by
  intro l
  induction l with
  | nil => intro z _; rfl
  | cons k r ih =>
    intro z h
    simp only [List.foldl_cons]
    rw [h k (by simp)]
    exact ih _ fun x hx => h x (by simp [hx])
theorem WF.hgt_more {T : Tr} {d : Nat → Nat} (hw : WF T d) : ∀ (f g i : Nat) (nd : Nd), T.nodes[i]? = some (some nd) → 41 ≤ d i + f → 41 ≤ d i + g → T.hgt f i = T.hgt g i := by
  intro f
  induction f with
  | zero => intro g i nd h h1; have := hw.deep i nd h; have := hw.small.deep1; omega
  | succ f ih =>
    intro g i nd h h1 h2
    cases g with
    | zero => have := hw.deep i nd h; have := hw.small.deep1; omega
    | succ g =>
      rw [hgt_step T f h, hgt_step T g h]
      refine fold_congr _ _ _ _ fun k hk => ?_
      obtain ⟨n, hn⟩ := List.getElem?_of_mem hk
      obtain ⟨j, kd, rfl, hj, hjp, hjd⟩ := hw.kid h hn
      rw [ih g j kd hj (by omega) (by omega)]
def Tr.height (T : Tr) (i : Int) : Int := T.hgt 50 i
theorem WF.hgt_kid {T : Tr} {d : Nat → Nat} (hw : WF T d) {i : Nat} {nd : Nd} (h : T.nodes[i]? = some (some nd)) {j : Nat} (hk : (j : Int) ∈ nd.kids) : T.height j + 1 ≤ T.height i := by
  show T.hgt 50 j + 1 ≤ T.hgt 50 i
  obtain ⟨n, hn⟩ := List.getElem?_of_mem hk
  obtain ⟨j', kd, e, hj, hjp, hjd⟩ := hw.kid h hn
  obtain rfl : j' = j := by omega
  have h2 := hw.deep j' kd hj
  have h3 := hw.small.deep1
  rw [hw.hgt_more 50 49 j' kd hj (by omega) (by omega), hgt_step T 49 h]
  exact fold_mem (fun k => T.hgt 49 k + 1) nd.kids 0 j' hk
theorem WF.depth_le {T : Tr} {d : Nat → Nat} (hw : WF T d) {o : Nat} {od : Nd} (ho : T.nodes[o]? = some (some od)) :
    ∀ (i : Nat) (nd : Nd), T.nodes[i]? = some (some nd) → T.within i o = true → (d i : Int) + T.height i ≤ d o + T.height o := by
  refine hw.induct _ (fun i nd h hp hd hi => ?_) (fun i nd p pd h hp hpd hd ih hi => ?_)
  · rw [hw.within_root h hp] at hi
    have : i = o := by have := of_decide_eq_true hi; omega
    subst this; exact Int.le_refl _
  · rw [hw.within_step h, hp] at hi
    split at hi
    · rename_i e; have : i = o := by omega
      subst this; exact Int.le_refl _
    · have h1 := ih hi
      rcases hw.up i nd h with ⟨h3, h4⟩ | ⟨p', pd', h3, h4, h5, h6⟩
      · omega
      · obtain rfl : p' = p := by omega
        have := hw.hgt_kid h4 h6
        omega
theorem WF.kid_parent {T : Tr} {d : Nat → Nat} (hw : WF T d) {i j : Nat} {nd kd : Nd} (h : T.nodes[i]? = some (some nd)) (hk : (j : Int) ∈ nd.kids) (hj : T.nodes[j]? = some (some kd)) : kd.parent = i := by
  obtain ⟨j', kd', e, h1, h2⟩ := (hw.kids i nd h).2 _ hk
  obtain rfl : j' = j := by omega
  rw [hj] at h1
  injection h1 with e; injection e with e
  rw [e]; exact h2
def NewIs (w : World) (T : Tr) (e : Ending) (w' : World) : Prop := ∃ tb own ptr, e = .returned (.tuple #[.pointer (some ⟨tb, 0, none⟩), .int .i64 0]) ∧ TreeAt w' own ptr tb T ∧ Owned own w' ∧ Ext w w' ∧ (∀ b, own b ≠ none → w.heap.size ≤ b)
def hostOf (cap deep : Int) : Tr := ⟨cap, deep, 1, [some ⟨1, [], ByteArray.empty, [], -1⟩]⟩
theorem hostOf_put (cap deep : Int) : (Tr.mk cap deep 0 []).put ⟨1, [], ByteArray.empty, [], -1⟩ = hostOf cap deep := rfl
theorem hostOf_wf (cap deep : Int) (h1 : 1 ≤ cap) (h2 : cap ≤ 2000) (h3 : 0 ≤ deep) (h4 : deep ≤ 40) : WF (hostOf cap deep) (fun _ => 0) := by
  have hz : ∀ (i : Nat) (nd : Nd), (hostOf cap deep).nodes[i]? = some (some nd) → nd = ⟨1, [], ByteArray.empty, [], -1⟩ := by
    intro i nd h
    have h' : [some (⟨1, [], ByteArray.empty, [], -1⟩ : Nd)][i]? = some (some nd) := h
    cases i with
    | zero => simp at h'; exact h'.symm
    | succ i => simp at h'
  refine ⟨⟨by show 0 ≤ cap; omega, h2, h3, h4, by show (0 : Int) ≤ 1; omega, by show 1 ≤ cap; omega, by simp [hostOf]⟩, ⟨_, rfl, rfl, rfl⟩, fun i nd _ => h3, fun i nd h => .inl ⟨by rw [hz i nd h], rfl⟩, fun i nd h => ?_, fun i nd h => ?_, by simp [hostOf]⟩
  · rw [hz i nd h]; exact ⟨List.nodup_nil, fun k hk => by simp at hk⟩
  · rw [hz i nd h]; exact ⟨by decide, by decide, fun h => rfl⟩
theorem fresh_tree (w : World) (cap deep : Int) : ∃ own : Ow, (∀ b, own b = if b = w.heap.size then some (0, 0) else none) ∧
    TreeAt (w.alloc (.cells #[.int .i64 cap, .int .i64 deep, .int .i64 0, .slice none 0 0] 165)) own (fun _ => 0) w.heap.size ⟨cap, deep, 0, []⟩ ∧ Owned own (w.alloc (.cells #[.int .i64 cap, .int .i64 deep, .int .i64 0, .slice none 0 0] 165)) := by
  refine ⟨fun b => if b = w.heap.size then some (0, 0) else none, fun b => rfl, ⟨⟨.slice none 0 0, heap_alloc_new _ _, if_pos rfl, ⟨rfl, .inl ⟨rfl, none, rfl⟩⟩⟩, fun i nd h => by simp at h⟩, fun b hb => ?_⟩
  have hb' : (if b = w.heap.size then some ((0 : Nat), (0 : Nat)) else none) ≠ none := hb
  split at hb'
  · simp; omega
  · exact absurd rfl hb'

theorem New_ok (cap deep : Int) (h1 : 1 ≤ cap) (h2 : cap ≤ 2000) (h3 : 0 ≤ deep) (h4 : deep ≤ 40) (w : World) :
    Calls Tryz.prog 140 #[.int .i64 cap, .int .i64 deep] w (NewIs w (hostOf cap deep)) := by
  obtain ⟨own, ho, hT, hO⟩ := fresh_tree w cap deep
  have HO := qh ho
  have hc := add_any hT hO ⟨by show 0 ≤ cap; omega, h2, h3, h4, by show (0 : Int) ≤ 0; omega, by show 0 ≤ cap; omega, by simp⟩ (fun _ => by simp) 1 ByteArray.empty (.slice none 0 0) [] ⟨rfl, none, 0, rfl, Nat.le_refl _, fun _ => ⟨rfl, rfl⟩, fun a h => by cases h⟩ (by simp) (attrCells_one [])
  rw [hostOf_put] at hc
  have HC := qh hc
  clear ho hT hO hc
  go_enter Tryz.func140, Tryz.ntmps140
  go_wp2_with fail
  refine HC.out.mono ?_
  rintro e w1 ⟨rfl, own', ptr', hT', hS⟩
  go_wp2_with fail
  go_ret2
  refine ⟨w.heap.size, own', ptr', rfl, hT', hS.owned, ?_, fun b hb => ?_⟩
  · refine ⟨hS.os, hS.tape, hS.output, Nat.le_trans (by simp) hS.size, fun b hb => ?_⟩
    rw [hS.rest b (by simp; omega) (by rw [HO.out]; rw [if_neg (by omega)])]
    exact Below.heap_alloc _ _ _ hb
  · rcases Nat.lt_or_ge b w.heap.size with hlt | hge
    · rw [hS.same b (by simp; omega), HO.out, if_neg (by omega)] at hb
      exact absurd rfl hb
    · exact hge
def TwoAfter (own : Ow) (w : World) (tb : Nat) (id : Int) (T' : Tr) (e : Ending) (w' : World) : Prop := e = .returned (.tuple #[.int .i64 id, .int .i64 0]) ∧ After own w tb T' w'
theorem After.of_ext {own : Ow} {w w1 w2 : World} {tb : Nat} {T' : Tr} (h : After own w1 tb T' w2) (x : Ext w w1) (hO : Owned own w) : After own w tb T' w2 := by
  obtain ⟨own', ptr', h1, h2⟩ := h
  exact ⟨own', ptr', h1, (x.step hO).trans h2⟩

theorem room_yes {w : World} {own : Ow} {ptr : Nat → Nat} {tb : Nat} {T : Tr} (hT : TreeAt w own ptr tb T) (hs : Small T) (n : Int) (h0 : 0 ≤ n) (h1 : n ≤ T.cap - T.count) :
    Calls Tryz.prog 119 #[.pointer (some ⟨tb, 0, none⟩), .int .i64 n] w (RBool true w) := by
  have h := room_any hT hs n h0 (by have := hs.cap1; have := hs.count0; omega)
  rw [decide_eq_true h1] at h
  exact h
theorem Text_ok {w : World} {own : Ow} {ptr : Nat → Nat} {tb : Nat} {T : Tr} (hT : TreeAt w own ptr tb T) (hO : Owned own w) {d : Nat → Nat} (hw : WF T d) (s : ByteArray) (hsz : s.size ≤ 100000) (h2 : (anewB s).size ≤ 8192) (h3 : 1 ≤ T.cap - T.count) :
    Calls Tryz.prog 52 #[.pointer (some ⟨tb, 0, none⟩), .string s] w (TwoAfter own w tb T.newId (T.put ⟨0, [], anewB s, [], -1⟩)) := by
  have H := qh hsz
  have HW := qh hw
  have H3 := qh h3
  have HT := qh hT
  have HO := qh hO
  clear hw h3 hsz hT hO
  go_enter Tryz.func52, Tryz.ntmps52
  go_wp2_with (first
    | (go_at_call 118; refine (anew_any _ H.out _).mono ?_; rintro e w' ⟨rfl, hx⟩)
    | (go_at_call 119; refine (room_yes (HT.out.keep (hx.keep HO.out)) HW.out.small 1 (by omega) H3.out).mono ?_; rintro e w2 ⟨rfl, hy⟩)
    | (go_at_call 120; refine (add_any (HT.out.keep ((hx.trans hy).keep HO.out)) (fun b hb => Nat.lt_of_lt_of_le (HO.out b hb) (hx.trans hy).size) HW.out.small ?c1 0 (anewB s) _ [] ⟨rfl, none, 0, rfl, Nat.le_refl _, fun _ => ⟨rfl, rfl⟩, fun a h => by cases h⟩ (by simp) (attrCells_one _)).mono ?_))
  case c1 =>
    intro hall
    have := HW.out.len_full hall
    have := H3.out
    have := HW.out.small.cap1
    omega
  rintro e w3 ⟨rfl, hA⟩
  go_wp2_with fail
  go_ret2
  exact ⟨rfl, hA.of_ext (hx.trans hy) HO.out⟩
def RIns (p : Nat → Prop) (w : World) (n : Nat) (ys : List Value) (e : Ending) (w' : World) : Prop :=
  ∃ v' row, e = .returned v' ∧ RowP w' (fun g => p g ∨ w.heap.size ≤ g) 3 1 v' n ys ∧ w.grownBy w' row ∧ ∀ k, row = some k → p k

theorem cell_one_new' {w : World} {b : Nat} {x : Value} (h : w.cell? ⟨b, 0, none⟩ = some x) : ∀ (j : Nat) u, [x][j]? = some u → w.cell? (Addr.add ⟨b, 0, none⟩ j) = some u := by
  intro j u hj
  match j, hj with
  | 0, hj => simpa [Addr.add, h] using hj

theorem insert_end {w : World} {p : Nat → Prop} {v : Value} {n : Nat} {xs : List Value} (hr : RowP w p 3 1 v n xs) (hn : n ≤ 60000) {b : Nat} {x : Int} (hx : w.cell? ⟨b, 0, none⟩ = some (.int .i64 x)) :
    Calls Tryz.prog 162 #[v, .int .i64 n, .slice (some ⟨b, 0, none⟩) 1 1] w (RIns p w (n + 1) (xs ++ [.int .i64 x])) := by
  obtain ⟨ao, cap, rfl, hc⟩ := hr.rd.len_of
  obtain ⟨i0, hi, hz0, hz1, hz2⟩ := info_parts infoI
  have Hi := qh hi
  have Hz0 := qh hz0
  have Hz1 := qh hz1
  have Hz2 := qh hz2
  have HR := qh hr
  have HX := qh hx
  have HN := qh hn
  have hcm : cap ≤ 9223372036854775807 := by
    rcases hr.2 with ⟨_, a, e⟩ | ⟨g, cap', cur, e, _, _, _, h, _⟩
    · cases e; omega
    · cases e; unfold maxLen at h; omega
  clear hi hz0 hz1 hz2 hr hx
  by_cases he : cap = n
  all_goals
    go_enter Tryz.func162, Tryz.ntmps162
    go_wp2_with (at_builtin; refine wpList_append_row rfl _ _ 50 rfl 3 i0 (.int .i64 0) 1 8 Tryz.underlying50 Hi.out Hz0.out Hz1.out Hz2.out rfl (by decide) p (.slice ao n cap) n xs rfl HR.out ⟨b, 0, none⟩ 1 1 [.int .i64 x] rfl rfl ?_ ?_ (by decide) ?_ ?_ ?_)
  all_goals first
    | exact cell_one_new' HX.out
    | (simp [Value.oneCell']; done)
    | (unfold maxLen; omega)
    | omega
    | skip
  all_goals
    intro v' w1 row h1 h2 h3
    go_wp2
    go_ret
    exact ⟨_, row, rfl, h1, h2, h3⟩
theorem kids_plain {w W w3 : World} {own0 own : Ow} {ptr : Nat → Nat} {tb : Nat} {T : Tr} (h0 : Step own0 w own W) (hT : TreeAt W own ptr tb T) {p : Nat} {pd : Nd} (hp : T.nodes[p]? = some (some pd)) (ks : List Int)
    (hpw : ptr p < w.heap.size → own0 (ptr p) ≠ none) (h00 : ∀ b, b < w.heap.size → own b = some (4, p) → own0 b ≠ none)
    {v : Value} {row : Option Nat} (hr : RowP w3 (fun g => own g = some (4, p) ∨ W.heap.size ≤ g) 3 1 v ks.length (ks.map (Value.int .i64))) (hg : W.grownBy w3 row) (hrow : ∀ k, row = some k → own k = some (4, p)) :
    ∃ own1, Step own0 w own1 (w3.setCell ⟨ptr p, 3, none⟩ v) ∧ TreeAt (w3.setCell ⟨ptr p, 3, none⟩ v) own1 ptr tb { T with nodes := T.nodes.set p (some { pd with kids := ks }) } ∧ (∀ b x, own b = some x → own1 b = some x) := by
  have hO := h0.owned
  obtain ⟨av, kv, b1, b2, b3, b4⟩ := hT.node p pd hp
  have hsz := hg.size
  -- the row's own block
  obtain ⟨rb, hr1, hr2⟩ : ∃ rb : Option Nat, RowP w3 (fun g => rb = some g) 3 1 v ks.length (ks.map (Value.int .i64)) ∧ ∀ k, rb = some k → (own k = some (4, p) ∨ W.heap.size ≤ k) ∧ k < w3.heap.size := by
    rcases hr.2 with q | ⟨g, cap, cur, q1, q2, q3, q4⟩
    · exact ⟨none, ⟨hr.1, .inl q⟩, fun k hk => by cases hk⟩
    · exact ⟨some g, ⟨hr.1, .inr ⟨g, cap, cur, q1, rfl, q3, q4⟩⟩, fun k hk => by cases hk; exact ⟨q2, (Array.getElem?_eq_some_iff.1 q3).1⟩⟩
  let own1 : Ow := fun b => if b < W.heap.size then own b else if rb = some b then some (4, p) else none
  have e1 : ∀ b, b < W.heap.size → own1 b = own b := fun b hb => if_pos hb
  have e2 : ∀ b x, own b = some x → own1 b = some x := fun b x hb => (e1 b (hO b (by simp [hb]))).trans hb
  have hpl := hO (ptr p) (by simp [b2])
  have keep : ∀ b x, own b = some x → x ≠ (4, p) → w3.heap[b]? = W.heap[b]? := fun b x hb hx =>
    hg.block b (hO b (by simp [hb])) (fun h => by have := hrow b h.symm; rw [hb] at this; exact hx (Option.some.inj this))
  have hb3 : w3.heap[ptr p]? = _ := (keep _ _ b2 (by simp)).trans b1
  have other : ∀ b x, own b = some x → x ≠ (4, p) → b ≠ ptr p → (w3.setCell ⟨ptr p, 3, none⟩ v).heap[b]? = W.heap[b]? := fun b x hb hx hn =>
    (heap_setCell_other _ hn).trans (keep b x hb hx)
  refine ⟨own1, ?_, ?_, e2⟩
  · have hst : Step own0 w own1 w3 := by
      refine ⟨hg.os.trans h0.os, hg.tape.trans h0.tape, hg.output.trans h0.output, Nat.le_trans h0.size hg.size, fun b hb hn => ?_, fun b hb => (e1 b (Nat.lt_of_lt_of_le hb h0.size)).trans (h0.same b hb), fun b hb => ?_⟩
      · rw [hg.block b (Nat.lt_of_lt_of_le hb h0.size) (fun h => h00 b hb (hrow b h.symm) hn)]
        exact h0.rest b hb hn
      · have hb' : (if b < W.heap.size then own b else if rb = some b then some (4, p) else none) ≠ none := hb
        split at hb'
        · omega
        · split at hb'
          · rename_i h; exact (hr2 b h).2
          · exact absurd rfl hb'
    exact hst.setCell hpw _
  · refine hT.setNode (nd' := { pd with kids := ks }) hp ⟨av, v, by rw [heap_setCell_same hb3]; rfl, e2 _ _ b2, ?_, ?_⟩ ?_
    · exact RowP.move b3 fun g hg' => ⟨other g _ hg' (by simp) (fun e => by rw [e, b2] at hg'; cases hg'), e2 g _ hg'⟩
    · refine RowP.move hr1 fun g hg' => ?_
      obtain ⟨k1, k2⟩ := hr2 g hg'
      have hne : g ≠ ptr p := fun e => by
        rcases k1 with k1 | k1
        · rw [e, b2] at k1; cases k1
        · omega
      refine ⟨heap_setCell_other _ hne, ?_⟩
      show (if g < W.heap.size then _ else _) = _
      rcases k1 with k1 | k1
      · rw [if_pos (hO g (by simp [k1]))]; exact k1
      · rw [if_neg (by omega), if_pos hg']
    · intro b x hb hx
      have hx4 : x ≠ (4, p) := fun e => by rw [e] at hx; exact hx (by simp) rfl
      have hbp : b ≠ ptr p := fun e => by rw [e, b2] at hb; cases hb; exact hx (by simp) rfl
      exact ⟨other b x hb hx4 hbp, (e2 b x hb).trans hb.symm⟩
theorem TreeAt.setParent {w : World} {own : Ow} {ptr : Nat → Nat} {tb : Nat} {T : Tr} (hT : TreeAt w own ptr tb T) {k : Nat} {kd : Nd} (hk : T.nodes[k]? = some (some kd)) (q : Int) :
    TreeAt (w.setCell ⟨ptr k, 4, none⟩ (.int .i64 q)) own ptr tb { T with nodes := T.nodes.set k (some { kd with parent := q }) } := by
  obtain ⟨av, kv, b1, b2, b3, b4⟩ := hT.node k kd hk
  have other : ∀ b x, own b = some x → b ≠ ptr k → (w.setCell ⟨ptr k, 4, none⟩ (.int .i64 q)).heap[b]? = w.heap[b]? := fun b x hb hn => heap_setCell_other _ hn
  refine hT.setNode (nd' := { kd with parent := q }) hk ⟨av, kv, by rw [heap_setCell_same b1]; rfl, b2, RowP.move b3 fun g hg => ⟨other g _ hg (fun e => by rw [e, b2] at hg; cases hg), hg⟩, RowP.move b4 fun g hg => ⟨other g _ hg (fun e => by rw [e, b2] at hg; cases hg), hg⟩⟩ ?_
  intro b x hb hx
  exact ⟨other b x hb (fun e => by rw [e, b2] at hb; cases hb; exact hx (by simp) rfl), rfl⟩
def ErrAfter (own : Ow) (w : World) (tb : Nat) (er : Int) (T' : Tr) (e : Ending) (w' : World) : Prop := e = .returned (.int .i64 er) ∧ After own w tb T' w'
def Tr.link (T : Tr) (p at' k : Nat) (pd kd : Nd) : Tr :=
  { T with nodes := (T.nodes.set p (some { pd with kids := pd.kids.take at' ++ [(k : Int)] ++ pd.kids.drop at' })).set k (some { kd with parent := p }) }
def InsertsAt (at' : Nat) (l : List Int) : Prop := ∀ (W : World) (p : Nat → Prop) (v : Value) (b : Nat) (x : Int), RowP W p 3 1 v l.length (l.map (Value.int .i64)) → l.length ≤ 60000 → at' ≤ l.length → W.heap[b]? = some (.cells #[.int .i64 x] 3 (0, 0)) → (¬ p b) →
  Calls Tryz.prog 162 #[v, .int .i64 at', .slice (some ⟨b, 0, none⟩) 1 1] W (RIns p W (l.length + 1) ((l.take at' ++ [x] ++ l.drop at').map (Value.int .i64)))
def Tr.set2 (T : Tr) (p k : Nat) (pd kd : Nd) : Tr := { T with nodes := (T.nodes.set p (some pd)).set k (some kd) }
theorem Tr.set2_get {T : Tr} {p k : Nat} {pd kd pd' kd' : Nd} (hp : T.nodes[p]? = some (some pd)) (hk : T.nodes[k]? = some (some kd)) (j : Nat) :
    (T.set2 p k pd' kd').nodes[j]? = if j = k then some (some kd') else if j = p then some (some pd') else T.nodes[j]? := by
  have hpl := (List.getElem?_eq_some_iff.1 hp).1
  have hkl := (List.getElem?_eq_some_iff.1 hk).1
  show ((T.nodes.set p (some pd')).set k (some kd'))[j]? = _
  rw [List.getElem?_set]
  by_cases h1 : k = j
  · rw [if_pos h1, if_pos h1.symm, if_pos (by rw [List.length_set]; exact hkl)]
  · rw [if_neg h1, if_neg (Ne.symm h1), List.getElem?_set]
    by_cases h2 : p = j
    · rw [if_pos h2, if_pos h2.symm, if_pos hpl]
    · rw [if_neg h2, if_neg (Ne.symm h2)]
theorem countP_set_some {l : List (Option Nd)} {p : Nat} {pd pd' : Nd} (hp : l[p]? = some (some pd)) : (l.set p (some pd')).countP Option.isSome = l.countP Option.isSome := by
  obtain ⟨hlt, he⟩ := List.getElem?_eq_some_iff.1 hp
  have hpos : 0 < l.countP Option.isSome := List.countP_pos_iff.2 ⟨some pd, by rw [← he]; exact List.getElem_mem hlt, rfl⟩
  rw [List.countP_set hlt, he]
  simp
  omega
theorem Tr.set2_count {T : Tr} {p k : Nat} {pd kd pd' kd' : Nd} (hp : T.nodes[p]? = some (some pd)) (hk : T.nodes[k]? = some (some kd)) (hpk : p ≠ k) :
    (T.set2 p k pd' kd').nodes.countP Option.isSome = T.nodes.countP Option.isSome := by
  have h2 : (T.nodes.set p (some pd'))[k]? = some (some kd) := by rw [List.getElem?_set, if_neg hpk]; exact hk
  show ((T.nodes.set p (some pd')).set k (some kd')).countP Option.isSome = _
  rw [countP_set_some h2, countP_set_some hp]
theorem some_inj2 {x : Option (Option Nd)} {a b : Nd} (h : x = some (some a)) (k : x = some (some b)) : a = b := by
  rw [h] at k; injection k with k; injection k

theorem Tr.link_eq (T : Tr) (p at' k : Nat) (pd kd : Nd) : T.link p at' k pd kd = T.set2 p k { pd with kids := pd.kids.take at' ++ [(k : Int)] ++ pd.kids.drop at' } { kd with parent := p } := rfl
theorem WF.link {T : Tr} {d : Nat → Nat} (hw : WF T d) {p k at' : Nat} {pd kd : Nd} (hp : T.nodes[p]? = some (some pd)) (hk : T.nodes[k]? = some (some kd))
    (htag : pd.tag ≠ 0) (hk0 : k ≠ 0) (hpar : kd.parent = -1) (hin : T.within p k = false) (hdp : (d p : Int) + 1 + T.height k ≤ T.deep) :
    WF (T.link p at' k pd kd) (fun j => if T.within j k then d j + d p + 1 else d j) := by
  have hpk : p ≠ k := fun e => by subst e; rw [hw.within_self hp] at hin; cases hin
  have hg := fun j => Tr.set2_get (pd' := { pd with kids := pd.kids.take at' ++ [(k : Int)] ++ pd.kids.drop at' }) (kd' := { kd with parent := p }) hp hk j
  have hck := Tr.set2_count (pd' := { pd with kids := pd.kids.take at' ++ [(k : Int)] ++ pd.kids.drop at' }) (kd' := { kd with parent := p }) hp hk hpk
  rw [← Tr.link_eq] at hg hck
  have hmem : ∀ x : Int, x ∈ pd.kids.take at' ++ [(k : Int)] ++ pd.kids.drop at' ↔ x = k ∨ x ∈ pd.kids := fun x => by
    conv => rhs; rw [← List.take_append_drop at' pd.kids]
    simp only [List.mem_append, List.mem_singleton]
    constructor
    · rintro ((h | h) | h)
      · exact .inr (.inl h)
      · exact .inl h
      · exact .inr (.inr h)
    · rintro (h | h | h)
      · exact .inl (.inr h)
      · exact .inl (.inl h)
      · exact .inr h
  have hdk : d k = 0 := by
    rcases hw.up k kd hk with ⟨h3, h4⟩ | ⟨q, qd, h3, h4, h5, h6⟩
    · exact h4
    · omega
  have hkk := hw.within_self hk
  have hknot : (k : Int) ∉ pd.kids := fun h => by
    have := hw.kid_parent hp h hk; omega
  have wst : ∀ (j : Nat) (nd : Nd), T.nodes[j]? = some (some nd) → j ≠ k → T.within j k = T.within nd.parent k := fun j nd h hne => by
    rw [hw.within_step h, if_neg (by omega)]
  -- old nodes stand where they stood
  have hkeep : ∀ (j : Nat) (jd : Nd), T.nodes[j]? = some (some jd) → ∃ jd', (T.link p at' k pd kd).nodes[j]? = some (some jd') ∧ (j ≠ k → jd'.parent = jd.parent) ∧ (∀ x ∈ jd.kids, x ∈ jd'.kids) := fun j jd h => by
    rw [hg]
    by_cases h1 : j = k
    · subst h1
      rw [if_pos rfl]
      obtain rfl := some_inj2 hk h
      exact ⟨_, rfl, fun h => absurd rfl h, fun x hx => hx⟩
    · rw [if_neg h1]
      by_cases h2 : j = p
      · subst h2
        rw [if_pos rfl]
        obtain rfl := some_inj2 hp h
        exact ⟨_, rfl, fun _ => rfl, fun x hx => (hmem x).2 (.inr hx)⟩
      · rw [if_neg h2]
        exact ⟨jd, h, fun _ => rfl, fun x hx => hx⟩
  have hcap : (T.link p at' k pd kd).cap = T.cap := rfl
  have hdeep : (T.link p at' k pd kd).deep = T.deep := rfl
  have hcount : (T.link p at' k pd kd).count = T.count := rfl
  have hs := hw.small
  refine ⟨⟨hs.cap0, hs.cap1, hs.deep0, hs.deep1, hs.count0, hs.count1, by show ((T.nodes.set p _).set k _).length ≤ 2000; rw [List.length_set, List.length_set]; exact hs.len⟩, ?_, ?_, ?_, ?_, ?_, ?_⟩
  · obtain ⟨r, r1, r2, r3⟩ := hw.root
    rw [hg, if_neg (Ne.symm hk0)]
    by_cases h0 : 0 = p
    · rw [if_pos h0]
      rw [h0] at r1
      obtain rfl := some_inj2 hp r1
      exact ⟨_, rfl, r2, r3⟩
    · rw [if_neg h0]; exact ⟨r, r1, r2, r3⟩
  · intro j nd h
    rw [hg] at h
    have hj : ∃ jd, T.nodes[j]? = some (some jd) := by
      by_cases h1 : j = k
      · exact ⟨kd, h1 ▸ hk⟩
      · rw [if_neg h1] at h
        by_cases h2 : j = p
        · exact ⟨pd, h2 ▸ hp⟩
        · rw [if_neg h2] at h; exact ⟨nd, h⟩
    obtain ⟨jd, hj⟩ := hj
    show (((if T.within j k then d j + d p + 1 else d j : Nat)) : Int) ≤ T.deep
    by_cases hwk : T.within j k = true
    · rw [if_pos hwk]
      have h1 := hw.depth_le hk j jd hj hwk
      have h2 : 0 ≤ T.height j := hgt_nn T 50 hj
      push_cast
      omega
    · rw [if_neg hwk]; exact hw.deep j jd hj
  · intro j nd h
    rw [hg] at h
    by_cases h1 : j = k
    · rw [if_pos h1] at h
      subst h1
      obtain rfl := some_inj2 rfl h
      right
      refine ⟨p, _, rfl, by rw [hg, if_neg hpk, if_pos rfl], ?_, (hmem _).2 (.inl rfl)⟩
      rw [if_pos hkk, if_neg (by rw [hin]; decide)]
      omega
    · rw [if_neg h1] at h
      -- an old node: j
      have hold : ∃ jd, T.nodes[j]? = some (some jd) ∧ nd.parent = jd.parent := by
        by_cases h2 : j = p
        · rw [if_pos h2] at h
          obtain rfl := some_inj2 rfl h
          exact ⟨pd, h2 ▸ hp, rfl⟩
        · rw [if_neg h2] at h; exact ⟨nd, h, rfl⟩
      obtain ⟨jd, hj, hpe⟩ := hold
      have hst := wst j jd hj h1
      rcases hw.up j jd hj with ⟨h3, h4⟩ | ⟨q, qd, h3, h4, h5, h6⟩
      · left
        rw [h3, within_neg] at hst
        exact ⟨by rw [hpe, h3], by rw [if_neg (by rw [hst]; decide)]; exact h4⟩
      · right
        obtain ⟨qd', k1, k2, k3⟩ := hkeep q qd h4
        refine ⟨q, qd', by rw [hpe, h3], k1, ?_, k3 _ h6⟩
        rw [h3] at hst
        rw [hst]
        split <;> omega
  · intro i nd h
    have hkid : ∀ (x : Int) (i : Nat) (id' : Nd), T.nodes[i]? = some (some id') → x ∈ id'.kids → ∃ (j : Nat) (jd : Nd), x = (j : Int) ∧ (T.link p at' k pd kd).nodes[j]? = some (some jd) ∧ jd.parent = (i : Int) := fun x i id' hi hx => by
      obtain ⟨j, jd, rfl, hj, hjp⟩ := (hw.kids i id' hi).2 x hx
      obtain ⟨jd', k1, k2, k3⟩ := hkeep j jd hj
      refine ⟨j, jd', rfl, k1, (k2 fun e => ?_).trans hjp⟩
      subst e
      obtain rfl := some_inj2 hk hj
      omega
    rw [hg] at h
    by_cases h1 : i = k
    · rw [if_pos h1] at h
      subst h1
      obtain rfl := some_inj2 rfl h
      exact ⟨(hw.kids i kd hk).1, fun x hx => hkid x i kd hk hx⟩
    · rw [if_neg h1] at h
      by_cases h2 : i = p
      · rw [if_pos h2] at h
        subst h2
        obtain rfl := some_inj2 rfl h
        refine ⟨?_, fun x hx => ?_⟩
        · have hn := (hw.kids i pd hp).1
          rw [← List.take_append_drop at' pd.kids, List.nodup_append] at hn
          have e : pd.kids.take at' ++ [(k : Int)] ++ pd.kids.drop at' = pd.kids.take at' ++ ((k : Int) :: pd.kids.drop at') := by simp
          show (pd.kids.take at' ++ [(k : Int)] ++ pd.kids.drop at').Nodup
          rw [e, List.nodup_append]
          refine ⟨hn.1, List.nodup_cons.2 ⟨fun h => hknot (List.mem_of_mem_drop h), hn.2.1⟩, fun a ha b hb => ?_⟩
          rcases List.mem_cons.1 hb with rfl | hb
          · exact fun e => hknot (e ▸ List.mem_of_mem_take ha)
          · exact hn.2.2 a ha b hb
        · rcases (hmem x).1 hx with rfl | hx
          · exact ⟨k, _, rfl, by rw [hg, if_pos rfl], rfl⟩
          · exact hkid x i pd hp hx
      · rw [if_neg h2] at h
        exact ⟨(hw.kids i nd h).1, fun x hx => hkid x i nd h hx⟩
  · intro i nd h
    rw [hg] at h
    by_cases h1 : i = k
    · rw [if_pos h1] at h
      obtain rfl := some_inj2 rfl h
      exact hw.text k kd hk
    · rw [if_neg h1] at h
      by_cases h2 : i = p
      · rw [if_pos h2] at h
        obtain rfl := some_inj2 rfl h
        have := hw.text p pd hp
        exact ⟨this.1, this.2.1, fun h => absurd h htag⟩
      · rw [if_neg h2] at h; exact hw.text i nd h
  · rw [hcount, hck]; exact hw.count

def Tr.unlink (T : Tr) (p k : Nat) (pd kd : Nd) : Tr := T.set2 p k { pd with kids := pd.kids.erase (k : Int) } { kd with parent := -1 }
theorem WF.unlink {T : Tr} {d : Nat → Nat} (hw : WF T d) {p k : Nat} {pd kd : Nd} (hp : T.nodes[p]? = some (some pd)) (hk : T.nodes[k]? = some (some kd)) (hpar : kd.parent = (p : Int)) :
    WF (T.unlink p k pd kd) (fun j => if T.within j k then d j - d k else d j) := by
  have hdk : d k = d p + 1 ∧ (k : Int) ∈ pd.kids := by
    rcases hw.up k kd hk with ⟨h3, h4⟩ | ⟨q, qd, h3, h4, h5, h6⟩
    · omega
    · obtain rfl : q = p := by omega
      obtain rfl := some_inj2 hp h4
      exact ⟨h5, h6⟩
  have hpk : p ≠ k := fun e => by subst e; omega
  have hk0 : k ≠ 0 := fun e => by
    subst e
    obtain ⟨r, r1, r2, r3⟩ := hw.root
    obtain rfl := some_inj2 hk r1
    omega
  have hin : T.within p k = false := by
    cases hh : T.within p k with
    | false => rfl
    | true => have := (hw.within_depth p pd hp hh).1; omega
  have hg := fun j => Tr.set2_get (pd' := { pd with kids := pd.kids.erase (k : Int) }) (kd' := { kd with parent := -1 }) hp hk j
  have hck := Tr.set2_count (pd' := { pd with kids := pd.kids.erase (k : Int) }) (kd' := { kd with parent := -1 }) hp hk hpk
  have hnd := (hw.kids p pd hp).1
  have hmem : ∀ x : Int, x ∈ pd.kids.erase (k : Int) ↔ x ≠ k ∧ x ∈ pd.kids := fun x => hnd.mem_erase_iff
  have hkk := hw.within_self hk
  have wst : ∀ (j : Nat) (nd : Nd), T.nodes[j]? = some (some nd) → j ≠ k → T.within j k = T.within nd.parent k := fun j nd h hne => by
    rw [hw.within_step h, if_neg (by omega)]
  have hkeep : ∀ (j : Nat) (jd : Nd), T.nodes[j]? = some (some jd) → ∃ jd', (T.unlink p k pd kd).nodes[j]? = some (some jd') ∧ (j ≠ k → jd'.parent = jd.parent) ∧ (∀ x ∈ jd.kids, x ≠ k → x ∈ jd'.kids) := fun j jd h => by
    show ∃ jd', (T.set2 p k _ _).nodes[j]? = _ ∧ _
    rw [hg]
    by_cases h1 : j = k
    · subst h1
      rw [if_pos rfl]
      obtain rfl := some_inj2 hk h
      exact ⟨_, rfl, fun h => absurd rfl h, fun x hx _ => hx⟩
    · rw [if_neg h1]
      by_cases h2 : j = p
      · subst h2
        rw [if_pos rfl]
        obtain rfl := some_inj2 hp h
        exact ⟨_, rfl, fun _ => rfl, fun x hx hne => (hmem x).2 ⟨hne, hx⟩⟩
      · rw [if_neg h2]
        exact ⟨jd, h, fun _ => rfl, fun x hx _ => hx⟩
  have hs := hw.small
  have hg' : ∀ j, (T.unlink p k pd kd).nodes[j]? = if j = k then some (some { kd with parent := -1 }) else if j = p then some (some { pd with kids := pd.kids.erase (k : Int) }) else T.nodes[j]? := hg
  refine ⟨⟨hs.cap0, hs.cap1, hs.deep0, hs.deep1, hs.count0, hs.count1, by show ((T.nodes.set p _).set k _).length ≤ 2000; rw [List.length_set, List.length_set]; exact hs.len⟩, ?_, ?_, ?_, ?_, ?_, ?_⟩
  · obtain ⟨r, r1, r2, r3⟩ := hw.root
    rw [hg', if_neg (Ne.symm hk0)]
    by_cases h0 : 0 = p
    · rw [if_pos h0]
      rw [h0] at r1
      obtain rfl := some_inj2 hp r1
      exact ⟨_, rfl, r2, r3⟩
    · rw [if_neg h0]; exact ⟨r, r1, r2, r3⟩
  · intro j nd h
    rw [hg'] at h
    have hj : ∃ jd, T.nodes[j]? = some (some jd) := by
      by_cases h1 : j = k
      · exact ⟨kd, h1 ▸ hk⟩
      · rw [if_neg h1] at h
        by_cases h2 : j = p
        · exact ⟨pd, h2 ▸ hp⟩
        · rw [if_neg h2] at h; exact ⟨nd, h⟩
    obtain ⟨jd, hj⟩ := hj
    have h1 := hw.deep j jd hj
    show (((if T.within j k then d j - d k else d j : Nat)) : Int) ≤ T.deep
    split <;> omega
  · intro j nd h
    rw [hg'] at h
    by_cases h1 : j = k
    · rw [if_pos h1] at h
      subst h1
      obtain rfl := some_inj2 rfl h
      left
      exact ⟨rfl, by rw [if_pos hkk]; omega⟩
    · rw [if_neg h1] at h
      have hold : ∃ jd, T.nodes[j]? = some (some jd) ∧ nd.parent = jd.parent := by
        by_cases h2 : j = p
        · rw [if_pos h2] at h
          obtain rfl := some_inj2 rfl h
          exact ⟨pd, h2 ▸ hp, rfl⟩
        · rw [if_neg h2] at h; exact ⟨nd, h, rfl⟩
      obtain ⟨jd, hj, hpe⟩ := hold
      have hst := wst j jd hj h1
      rcases hw.up j jd hj with ⟨h3, h4⟩ | ⟨q, qd, h3, h4, h5, h6⟩
      · left
        rw [h3, within_neg] at hst
        exact ⟨by rw [hpe, h3], by rw [if_neg (by rw [hst]; decide)]; exact h4⟩
      · right
        obtain ⟨qd', k1, k2, k3⟩ := hkeep q qd h4
        refine ⟨q, qd', by rw [hpe, h3], k1, ?_, k3 _ h6 (by omega)⟩
        rw [h3] at hst
        rw [hst]
        by_cases hq : T.within q k = true
        · have := (hw.within_depth q qd h4 hq).1
          rw [if_pos hq, if_pos hq]; omega
        · rw [if_neg hq, if_neg hq]; exact h5
  · intro i nd h
    have hkid : ∀ (x : Int) (i : Nat) (id' : Nd), T.nodes[i]? = some (some id') → x ∈ id'.kids → x ≠ k → ∃ (j : Nat) (jd : Nd), x = (j : Int) ∧ (T.unlink p k pd kd).nodes[j]? = some (some jd) ∧ jd.parent = (i : Int) := fun x i id' hi hx hxk => by
      obtain ⟨j, jd, rfl, hj, hjp⟩ := (hw.kids i id' hi).2 x hx
      obtain ⟨jd', k1, k2, k3⟩ := hkeep j jd hj
      exact ⟨j, jd', rfl, k1, (k2 fun e => hxk (by rw [e])).trans hjp⟩
    rw [hg'] at h
    by_cases h1 : i = k
    · rw [if_pos h1] at h
      subst h1
      obtain rfl := some_inj2 rfl h
      refine ⟨(hw.kids i kd hk).1, fun x hx => hkid x i kd hk hx fun e => ?_⟩
      have := hw.kid_parent hk (e ▸ hx) hk
      omega
    · rw [if_neg h1] at h
      by_cases h2 : i = p
      · rw [if_pos h2] at h
        subst h2
        obtain rfl := some_inj2 rfl h
        exact ⟨hnd.erase _, fun x hx => hkid x i pd hp ((hmem x).1 hx).2 ((hmem x).1 hx).1⟩
      · rw [if_neg h2] at h
        refine ⟨(hw.kids i nd h).1, fun x hx => hkid x i nd h hx fun e => ?_⟩
        have := hw.kid_parent h (e ▸ hx) hk
        omega
  · intro i nd h
    rw [hg'] at h
    by_cases h1 : i = k
    · rw [if_pos h1] at h
      obtain rfl := some_inj2 rfl h
      exact hw.text k kd hk
    · rw [if_neg h1] at h
      by_cases h2 : i = p
      · rw [if_pos h2] at h
        obtain rfl := some_inj2 rfl h
        have := hw.text p pd hp
        exact ⟨this.1, this.2.1, fun h => by rw [this.2.2 h]; rfl⟩
      · rw [if_neg h2] at h; exact hw.text i nd h
  · show T.count = _
    rw [hw.count]
    show _ = (((T.set2 p k _ _).nodes.countP Option.isSome : Nat) : Int)
    rw [hck]

theorem WF.setAt {T : Tr} {d : Nat → Nat} (hw : WF T d) {i : Nat} {nd nd' : Nd} (hi : T.nodes[i]? = some (some nd)) (hk : nd'.kids = nd.kids) (hp : nd'.parent = nd.parent) (h0 : 0 ≤ nd'.tag) (h1 : nd'.tag ≤ 16) (h2 : nd'.tag = 0 → nd.tag = 0) (h3 : i = 0 → nd'.tag = nd.tag) :
    WF { T with nodes := T.nodes.set i (some nd') } d := by
  have hil := (List.getElem?_eq_some_iff.1 hi).1
  have hg : ∀ j, (T.nodes.set i (some nd'))[j]? = if j = i then some (some nd') else T.nodes[j]? := fun j => by
    rw [List.getElem?_set]
    by_cases h : i = j
    · rw [if_pos h, if_pos h.symm, if_pos hil]
    · rw [if_neg h, if_neg (Ne.symm h)]
  have hkeep : ∀ (j : Nat) (jd : Nd), T.nodes[j]? = some (some jd) → ∃ jd', (T.nodes.set i (some nd'))[j]? = some (some jd') ∧ jd'.parent = jd.parent ∧ jd'.kids = jd.kids := fun j jd h => by
    rw [hg]
    by_cases e : j = i
    · subst e
      rw [if_pos rfl]
      obtain rfl := some_inj2 hi h
      exact ⟨_, rfl, hp, hk⟩
    · rw [if_neg e]; exact ⟨jd, h, rfl, rfl⟩
  have hback : ∀ (j : Nat) (jd' : Nd), (T.nodes.set i (some nd'))[j]? = some (some jd') → ∃ jd, T.nodes[j]? = some (some jd) ∧ jd'.parent = jd.parent ∧ jd'.kids = jd.kids := fun j jd' h => by
    rw [hg] at h
    by_cases e : j = i
    · subst e
      rw [if_pos rfl] at h
      obtain rfl := some_inj2 rfl h
      exact ⟨nd, hi, hp, hk⟩
    · rw [if_neg e] at h; exact ⟨jd', h, rfl, rfl⟩
  have hs := hw.small
  refine ⟨⟨hs.cap0, hs.cap1, hs.deep0, hs.deep1, hs.count0, hs.count1, by show (T.nodes.set i _).length ≤ 2000; rw [List.length_set]; exact hs.len⟩, ?_, ?_, ?_, ?_, ?_, ?_⟩
  · obtain ⟨r, r1, r2, r3⟩ := hw.root
    show ∃ nd, (T.nodes.set i (some nd'))[0]? = some (some nd) ∧ _
    rw [hg]
    by_cases e : 0 = i
    · rw [if_pos e]
      rw [e] at r1
      obtain rfl := some_inj2 hi r1
      exact ⟨_, rfl, hp.trans r2, (h3 e.symm).trans r3⟩
    · rw [if_neg e]; exact ⟨r, r1, r2, r3⟩
  · intro j jd' h
    obtain ⟨jd, hj, _⟩ := hback j jd' h
    exact hw.deep j jd hj
  · intro j jd' h
    obtain ⟨jd, hj, e1, e2⟩ := hback j jd' h
    rcases hw.up j jd hj with ⟨h3, h4⟩ | ⟨q, qd, h3, h4, h5, h6⟩
    · exact .inl ⟨e1.trans h3, h4⟩
    · obtain ⟨qd', k1, k2, k3⟩ := hkeep q qd h4
      exact .inr ⟨q, qd', e1.trans h3, k1, h5, k3 ▸ h6⟩
  · intro j jd' h
    obtain ⟨jd, hj, e1, e2⟩ := hback j jd' h
    rw [e2]
    refine ⟨(hw.kids j jd hj).1, fun x hx => ?_⟩
    obtain ⟨q, qd, rfl, q1, q2⟩ := (hw.kids j jd hj).2 x hx
    obtain ⟨qd', k1, k2, k3⟩ := hkeep q qd q1
    exact ⟨q, qd', rfl, k1, k2.trans q2⟩
  · intro j jd' h
    have h' : (T.nodes.set i (some nd'))[j]? = some (some jd') := h
    rw [hg] at h'
    by_cases e : j = i
    · rw [if_pos e] at h'
      obtain rfl := some_inj2 rfl h'
      have := hw.text i nd hi
      exact ⟨h0, h1, fun h => by rw [hk]; exact this.2.2 (h2 h)⟩
    · rw [if_neg e] at h'; exact hw.text j jd' h'
  · show T.count = (((T.nodes.set i (some nd')).countP Option.isSome : Nat) : Int)
    rw [countP_set_some hi]; exact hw.count
def Tr.inAny (T : Tr) (ks : List Int) (j : Nat) : Bool := ks.any fun k => T.within j k
def Tr.rid (T : Tr) (q : Nat → Bool) : Tr :=
  let l := T.nodes.mapIdx fun j x => if q j then none else x
  { T with nodes := l, count := ((l.countP Option.isSome : Nat) : Int) }
theorem Tr.rid_get (T : Tr) (q : Nat → Bool) (j : Nat) : (T.rid q).nodes[j]? = (T.nodes[j]?).map fun x => if q j then none else x := by
  show (T.nodes.mapIdx _)[j]? = _
  rw [List.getElem?_mapIdx]
theorem Tr.rid_some {T : Tr} {q : Nat → Bool} {j : Nat} {nd : Nd} : (T.rid q).nodes[j]? = some (some nd) ↔ q j = false ∧ T.nodes[j]? = some (some nd) := by
  rw [Tr.rid_get]
  cases h : T.nodes[j]? with
  | none => simp
  | some x =>
    cases hq : q j with
    | true => simp
    | false => simp
theorem Tr.rid_none {T : Tr} (hc : T.count = ((T.nodes.countP Option.isSome : Nat) : Int)) : T.rid (fun _ => false) = T := by
  unfold Tr.rid
  have e : (T.nodes.mapIdx fun j x => if (fun _ : Nat => false) j then none else x) = T.nodes := by
    apply List.ext_getElem?
    intro j
    rw [List.getElem?_mapIdx]
    cases T.nodes[j]? <;> simp
  simp only [e]
  rw [← hc]
theorem Tr.rid_congr {T : Tr} {q q' : Nat → Bool} (h : ∀ (j : Nat) (nd : Nd), T.nodes[j]? = some (some nd) → q j = q' j) : T.rid q = T.rid q' := by
  unfold Tr.rid
  have e : (T.nodes.mapIdx fun j x => if q j then none else x) = (T.nodes.mapIdx fun j x => if q' j then none else x) := by
    apply List.ext_getElem?
    intro j
    rw [List.getElem?_mapIdx, List.getElem?_mapIdx]
    cases hx : T.nodes[j]? with
    | none => rfl
    | some x =>
      cases x with
      | none => simp
      | some nd => rw [h j nd hx]
  simp only [e]
theorem Tr.rid_len (T : Tr) (q : Nat → Bool) : (T.rid q).nodes.length = T.nodes.length := by
  show (T.nodes.mapIdx _).length = _
  exact List.length_mapIdx
theorem countP_set_none {l : List (Option Nd)} {p : Nat} {pd : Nd} (hp : l[p]? = some (some pd)) : (l.set p none).countP Option.isSome + 1 = l.countP Option.isSome := by
  obtain ⟨hlt, he⟩ := List.getElem?_eq_some_iff.1 hp
  have hpos : 0 < l.countP Option.isSome := List.countP_pos_iff.2 ⟨some pd, by rw [← he]; exact List.getElem_mem hlt, rfl⟩
  rw [List.countP_set hlt, he]
  simp
  omega
theorem Tr.rid_set {T : Tr} {q : Nat → Bool} {i : Nat} {nd : Nd} (hi : T.nodes[i]? = some (some nd)) (hq : q i = false) :
    { T.rid q with nodes := (T.rid q).nodes.set i none, count := (T.rid q).count - 1 } = T.rid fun j => decide (j = i) || q j := by
  have hg : (T.rid q).nodes[i]? = some (some nd) := Tr.rid_some.2 ⟨hq, hi⟩
  have hil := (List.getElem?_eq_some_iff.1 hg).1
  have e : (T.rid q).nodes.set i none = (T.rid fun j => decide (j = i) || q j).nodes := by
    apply List.ext_getElem?
    intro j
    rw [List.getElem?_set, Tr.rid_get, Tr.rid_get]
    by_cases h : i = j
    · subst h
      rw [if_pos rfl, if_pos hil, hi]
      simp
    · rw [if_neg h]
      have : decide (j = i) = false := by simp; omega
      rw [this, Bool.false_or]
  have hc := countP_set_none hg
  show Tr.mk T.cap T.deep ((T.rid q).count - 1) ((T.rid q).nodes.set i none) = Tr.mk T.cap T.deep (T.rid _).count (T.rid fun j => decide (j = i) || q j).nodes
  rw [e] at hc ⊢
  have e2 : (T.rid q).count - 1 = (T.rid fun j => decide (j = i) || q j).count := by
    show (((T.rid q).nodes.countP Option.isSome : Nat) : Int) - 1 = (((T.rid fun j => decide (j = i) || q j).nodes.countP Option.isSome : Nat) : Int)
    omega
  rw [e2]
theorem WF.rid {T : Tr} {d : Nat → Nat} (hw : WF T d) {i : Nat} {nd : Nd} (hi : T.nodes[i]? = some (some nd)) (hp : nd.parent = -1) (h0 : i ≠ 0) : WF (T.rid fun j => T.within j i) d := by
  have hs := hw.small
  have hcle : (T.rid fun j => T.within j i).count ≤ T.count := by
    show (((T.rid fun j => T.within j i).nodes.countP Option.isSome : Nat) : Int) ≤ T.count
    rw [hw.count]
    have : (T.rid fun j => T.within j i).nodes.countP Option.isSome ≤ T.nodes.countP Option.isSome := by
      show (T.nodes.mapIdx fun j x => if T.within j i then none else x).countP Option.isSome ≤ _
      generalize T.nodes = l
      suffices h : ∀ (l : List (Option Nd)) (q : Nat → Bool), (l.mapIdx fun j x => if q j then none else x).countP Option.isSome ≤ l.countP Option.isSome from h l _
      intro l
      induction l with
      | nil => intro q; simp
      | cons x r ih =>
        intro q
        rw [List.mapIdx_cons, List.countP_cons, List.countP_cons]
        have := ih fun j => q (j + 1)
        have h2 : (if (if q 0 then none else x).isSome = true then 1 else 0) ≤ (if x.isSome = true then 1 else 0) := by
          cases q 0 <;> cases x <;> simp
        omega
    omega
  have hroot : T.within (0 : Nat) i = false := by
    obtain ⟨r, r1, r2, r3⟩ := hw.root
    rw [hw.within_root r1 r2]
    simp; omega
  refine ⟨⟨hs.cap0, hs.cap1, hs.deep0, hs.deep1, by show (0 : Int) ≤ ((_ : Nat) : Int); omega, by have := hs.count1; show (T.rid _).count ≤ T.cap; omega, by rw [Tr.rid_len]; exact hs.len⟩, ?_, ?_, ?_, ?_, ?_, rfl⟩
  · obtain ⟨r, r1, r2, r3⟩ := hw.root
    exact ⟨r, Tr.rid_some.2 ⟨hroot, r1⟩, r2, r3⟩
  · intro j jd h; exact hw.deep j jd (Tr.rid_some.1 h).2
  · intro j jd h
    obtain ⟨hq, hj⟩ := Tr.rid_some.1 h
    rcases hw.up j jd hj with h3 | ⟨p, pd, h3, h4, h5, h6⟩
    · exact .inl h3
    · right
      refine ⟨p, pd, h3, Tr.rid_some.2 ⟨?_, h4⟩, h5, h6⟩
      rw [hw.within_step hj, h3] at hq
      split at hq
      · cases hq
      · exact hq
  · intro j jd h
    obtain ⟨hq, hj⟩ := Tr.rid_some.1 h
    refine ⟨(hw.kids j jd hj).1, fun k hk => ?_⟩
    obtain ⟨m, kd, rfl, hm, hmp⟩ := (hw.kids j jd hj).2 k hk
    refine ⟨m, kd, rfl, Tr.rid_some.2 ⟨?_, hm⟩, hmp⟩
    show T.within m i = false
    rw [hw.within_step hm, hmp]
    split
    · rename_i e
      obtain rfl : m = i := by omega
      obtain rfl := some_inj2 hi hm
      omega
    · exact hq
  · intro j jd h; exact hw.text j jd (Tr.rid_some.1 h).2
theorem WF.inAny_kids {T : Tr} {d : Nat → Nat} (hw : WF T d) {i : Nat} {nd : Nd} (hi : T.nodes[i]? = some (some nd)) {j : Nat} {jd : Nd} (hj : T.nodes[j]? = some (some jd)) :
    (decide (j = i) || T.inAny nd.kids j) = T.within j i := by
  rw [Bool.eq_iff_iff]
  unfold Tr.inAny
  simp only [Bool.or_eq_true, decide_eq_true_eq, List.any_eq_true]
  constructor
  · rintro (rfl | ⟨k, hk, h⟩)
    · exact hw.within_self hi
    · exact hw.kid_within hi hk j jd hj h
  · intro h
    rcases hw.within_kid hi j jd hj h with h | ⟨k, hk, h⟩
    · exact .inl h
    · exact .inr ⟨k, hk, h⟩
theorem WF.kids_apart {T : Tr} {d : Nat → Nat} (hw : WF T d) {i : Nat} {nd : Nd} (hi : T.nodes[i]? = some (some nd)) {a b : Nat} (ha : (a : Int) ∈ nd.kids) (hb : (b : Int) ∈ nd.kids) (hab : a ≠ b) :
    ∀ (j : Nat) (jd : Nd), T.nodes[j]? = some (some jd) → T.within j a = true → T.within j b = true → False := by
  obtain ⟨_, ad, ea, had, hap⟩ := (hw.kids i nd hi).2 _ ha
  obtain ⟨_, bd, eb, hbd, hbp⟩ := (hw.kids i nd hi).2 _ hb
  have ea' := Int.ofNat.inj ea
  have eb' := Int.ofNat.inj eb
  subst ea' eb'
  have hda : d a = d i + 1 := by
    rcases hw.up a ad had with ⟨h3, h4⟩ | ⟨p, pd, h3, h4, h5, h6⟩
    · omega
    · obtain rfl : p = i := by omega
      exact h5
  have hdb : d b = d i + 1 := by
    rcases hw.up b bd hbd with ⟨h3, h4⟩ | ⟨p, pd, h3, h4, h5, h6⟩
    · omega
    · obtain rfl : p = i := by omega
      exact h5
  refine hw.induct _ (fun j jd h hp hd h1 h2 => ?_) (fun j jd p pd h hp hpd hd ih h1 h2 => ?_)
  · rw [hw.within_root h hp] at h1 h2
    have := of_decide_eq_true h1; have := of_decide_eq_true h2; omega
  · rw [hw.within_step h, hp] at h1 h2
    by_cases e1 : (j : Int) = a
    · have e1' : j = a := by omega
      subst e1'
      rw [if_neg (by omega)] at h2
      have := hw.within_depth p pd hpd h2
      omega
    · rw [if_neg e1] at h1
      by_cases e2 : (j : Int) = b
      · have e2' : j = b := by omega
        subst e2'
        have := hw.within_depth p pd hpd h1
        omega
      · rw [if_neg e2] at h2
        exact ih h1 h2
theorem Insert_ok {w : World} {own : Ow} {ptr : Nat → Nat} {tb : Nat} {T : Tr} (hT : TreeAt w own ptr tb T) (hO : Owned own w) {d : Nat → Nat} (hw : WF T d) {p k at' : Nat} {pd kd : Nd} (hp : T.nodes[p]? = some (some pd)) (hk : T.nodes[k]? = some (some kd))
    (htag : (pd.tag == 0) = false) (hk0 : k ≠ 0) (hpar : kd.parent = -1) (hat : at' ≤ pd.kids.length) (hkl : pd.kids.length ≤ 60000) (hin : T.within p k = false) (hdp : (d p : Int) + 1 + T.hgt 50 k ≤ T.deep) (hsl : InsertsAt at' pd.kids) :
    Calls Tryz.prog 122 #[.pointer (some ⟨tb, 0, none⟩), .int .i64 p, .int .i64 at', .int .i64 k] w (ErrAfter own w tb 0 (T.link p at' k pd kd)) := by
  obtain ⟨avp, kvp, bp, op, _, hkp⟩ := hT.node p pd hp
  obtain ⟨avk, kvk, bk, ok, _, _⟩ := hT.node k kd hk
  obtain ⟨nv, hb, hob, _⟩ := hT.head
  obtain ⟨ka, kcap, rfl, kc1, kc2⟩ := hkp.len
  have hpk : p ≠ k := fun e => by
    subst e
    have : T.within p p = true := by
      show isIn T p 50 p = true
      rw [isIn_step _ _ hp, if_pos rfl]
    rw [this] at hin; cases hin
  have cp0 := cellOf bp (i := 0) (v := .int .i64 pd.tag) rfl
  have cp3 := cellOf bp (i := 3) (v := .slice ka pd.kids.length kcap) rfl
  have ck4 := cellOf bk (i := 4) (v := .int .i64 (-1)) (by rw [← hpar]; rfl)
  have ct1 := cellOf hb (i := 1) (v := .int .i64 T.deep) rfl
  have hkb : ((k : Int) == 0) = false := by simp; omega
  have hpb : (p : Int) ≤ 2000 := by have := (List.getElem?_eq_some_iff.1 hp).1; have := hw.small.len; omega
  obtain ⟨hh1, hh2⟩ := T.hgt_le 50 k
  have hd1 := hw.deep p pd hp
  have hd2 := hw.small.deep1
  have hpkb : ptr p ≠ ptr k := fun e => by rw [e, ok] at op; simp at op; omega
  have HP := qh (Tr.get_of hp)
  have HK := qh (Tr.get_of hk)
  have HNP := qh hp
  have HNK := qh hk
  have HW := qh hw
  have HT := qh hT
  have HO := qh hO
  have HIN := qh hin
  have HSL := qh hsl
  have HBP := qh bp
  have HBK := qh bk
  have HOP := qh op
  have HOK := qh ok
  have HKP := qh hkp
  have HPK := qh hpk
  have HPKB := qh hpkb
  have ct1' := fun u : ExtOf w => u.ext.cell ct1
  clear hp hk hw hT hO hin bp bk hb hkp hpar hk0 kc2 hsl op ok hob hpk hpkb
  go_enter Tryz.func122, Tryz.ntmps122
  go_wp2_with fail
  refine (get_some HT.out HP.out).mono ?_
  rintro e w' ⟨rfl, rfl⟩
  go_wp2_with fail
  refine (get_some HT.out HK.out).mono ?_
  rintro e w' ⟨rfl, rfl⟩
  go_wp2_with fail
  refine (within_any HT.out HW.out HNP.out (by omega)).mono ?_
  rintro e w' ⟨rfl, rfl⟩
  rw [HIN.out]
  go_wp2_with fail
  refine wp_region_ext (by kernel_rfl) (by kernel_rfl) ?_
  repeat (go_big_quiet_step (first
    | (go_at_call 65; exact inExt (RSame.val (Depth_some (HT.out.keep (ExtOf.ext _ |>.keep HO.out)) HW.out HNP.out)))
    | (go_at_call 63; exact inExt (RSame.val (Height_fuel (HT.out.keep (ExtOf.ext _ |>.keep HO.out)) HW.out 50 k kd HNK.out (by omega) (by omega))))))
  refine wpQuiet_nil ?_
  rintro _ ⟨u, rfl⟩
  obtain ⟨wu, xu⟩ := u
  show Exit.then _ _ Exit.normal _ wu
  clear ct1'
  replace cp3 := xu.cell cp3
  have XU := qh xu
  clear xu cp0 ck4 ct1
  go_wp2_with fail
  have hOu : Owned own wu := fun b hb => Nat.lt_of_lt_of_le (HO.out b hb) XU.out.size
  have hTu := HT.out.keep (XU.out.keep HO.out)
  have hins := HSL.out (wu.alloc (.cells #[.int .i64 k] 3)) (fun g => own g = some (4, p)) (.slice ka pd.kids.length kcap) wu.heap.size k
    (RowP.ext (RowP.move HKP.out fun g hg => ⟨XU.out.keep HO.out g (by simp [hg]), hg⟩) ((Ext.refl _).alloc _)) hkl hat (heap_alloc_new _ _) (fun h => by have := hOu wu.heap.size (by simp [h]); omega)
  refine hins.mono ?_
  clear hins
  rintro e w3 ⟨v', row, rfl, hr, hg, hrow⟩
  replace hrow : ∀ b, row = some b → own b = some (4, p) := hrow
  have hW : Step own w own (wu.alloc (.cells #[.int .i64 k] 3)) := (XU.out.step HO.out).ext ((Ext.refl _).alloc _)
  have hTW := hTu.keep (((Ext.refl wu).alloc (.cells #[.int .i64 k] 3)).keep hOu)
  obtain ⟨own1, hs1, hT1, hsame⟩ := kids_plain hW hTW HNP.out (pd.kids.take at' ++ [(k : Int)] ++ pd.kids.drop at') (fun _ => by rw [HOP.out]; simp) (fun b _ hb => by rw [hb]; simp) (by
      have hlen : (pd.kids.take at' ++ [(k : Int)] ++ pd.kids.drop at').length = pd.kids.length + 1 := by simp; omega
      rw [hlen]; simpa using hr) hg hrow
  have hkd : (T.nodes.set p (some { pd with kids := pd.kids.take at' ++ [(k : Int)] ++ pd.kids.drop at' }))[k]? = some (some kd) := by
    rw [List.getElem?_set, if_neg HPK.out]; exact HNK.out
  have hT2 := hT1.setParent hkd (p : Int)
  have hs2 := hs1.setCell (p := ⟨ptr k, 4, none⟩) (fun _ => by show own (ptr k) ≠ none; rw [HOK.out]; simp) (.int .i64 p)
  have hpl := HO.out (ptr p) (by rw [HOP.out]; simp)
  have hkl' := HO.out (ptr k) (by rw [HOK.out]; simp)
  have hsz := XU.out.size
  have hsame3 : ∀ b x, own b = some x → x ≠ (4, p) → w3.heap[b]? = w.heap[b]? := fun b x hb hx => by
    have hbl := HO.out b (by simp [hb])
    rw [hg.block b (by simp; omega) (fun h => by have := hrow b h.symm; rw [hb] at this; exact hx (Option.some.inj this)), Below.heap_alloc _ _ _ (by omega)]
    exact Below.block XU.out b hbl
  have bp3 := (hsame3 _ _ HOP.out (by simp)).trans HBP.out
  have bk3 := (hsame3 _ _ HOK.out (by simp)).trans HBK.out
  have cp3' := cellOf bp3 (i := 3) (v := .slice ka pd.kids.length kcap) rfl
  have fp3 := freeOf bp3 3
  have ck4' := cellOf bk3 (i := 4) (v := .int .i64 kd.parent) rfl
  have fk4 := freeOf bk3 4
  have n1 := HPKB.out
  have n2 := Ne.symm HPKB.out
  obtain ⟨va, vcap, hv, _⟩ := hr.rd.len_of
  have HS2 := qh hs2
  have HT2 := qh hT2
  clear hs1 hT1 hsame hkd hT2 hs2 hsame3 bp3 bk3 hr hg hrow hW hTW hTu hOu cp3
  rw [hv] at HS2 HT2 ⊢
  clear hv
  go_wp2
  go_ret
  exact ⟨rfl, own1, ptr, HT2.out, HS2.out⟩

theorem insertsAt_end (l : List Int) : InsertsAt l.length l := by
  intro W p v b x hr hl _ hx0 _
  have hx := cellOf hx0 (i := 0) (v := .int .i64 x) rfl
  have h := insert_end hr hl hx
  have e : (l.take l.length ++ [x] ++ l.drop l.length).map (Value.int .i64) = l.map (Value.int .i64) ++ [.int .i64 x] := by simp
  rw [e]; exact h
theorem RowP.len_of' {w : World} {p : Nat → Prop} {e size : Nat} {v : Value} {n : Nat} {xs : List Value} (h : RowP w p e size v n xs) : ∃ a cap, v = .slice a n cap ∧ n ≤ cap := h.rd.len_of
def Tr.setAt (T : Tr) (i : Nat) (nd : Nd) : Tr := { T with nodes := T.nodes.set i (some nd) }
theorem TreeAt.setText {w : World} {own : Ow} {ptr : Nat → Nat} {tb : Nat} {T : Tr} (hT : TreeAt w own ptr tb T) {k : Nat} {kd : Nd} (hk : T.nodes[k]? = some (some kd)) (s : ByteArray) :
    TreeAt (w.setCell ⟨ptr k, 2, none⟩ (.string s)) own ptr tb (T.setAt k { kd with text := s }) := by
  obtain ⟨av, kv, b1, b2, b3, b4⟩ := hT.node k kd hk
  have other : ∀ b x, own b = some x → b ≠ ptr k → (w.setCell ⟨ptr k, 2, none⟩ (.string s)).heap[b]? = w.heap[b]? := fun b x hb hn => heap_setCell_other _ hn
  refine hT.setNode (nd' := { kd with text := s }) hk ⟨av, kv, by rw [heap_setCell_same b1]; rfl, b2, RowP.move b3 fun g hg => ⟨other g _ hg (fun e => by rw [e, b2] at hg; cases hg), hg⟩, RowP.move b4 fun g hg => ⟨other g _ hg (fun e => by rw [e, b2] at hg; cases hg), hg⟩⟩ ?_
  intro b x hb hx
  exact ⟨other b x hb (fun e => by rw [e, b2] at hb; cases hb; exact hx (by simp) rfl), rfl⟩
theorem SetText_ok {w : World} {own : Ow} {ptr : Nat → Nat} {tb : Nat} {T : Tr} (hT : TreeAt w own ptr tb T) (hO : Owned own w) {i : Nat} {nd : Nd} (hn : T.nodes[i]? = some (some nd)) (ht : (nd.tag != 0) = false) (s : ByteArray) (hs : s.size ≤ 100000) (hl : (anewB s).size ≤ 8192) :
    Calls Tryz.prog 159 #[.pointer (some ⟨tb, 0, none⟩), .int .i64 i, .string s] w (ErrAfter own w tb 0 (T.setAt i { nd with text := anewB s })) := by
  have H := qh (Tr.get_of hn)
  have HS := qh hs
  obtain ⟨av, kv, hb, hob, _⟩ := hT.node _ _ hn
  have c := cellOf hb (i := 0) (v := .int .i64 nd.tag) rfl
  have f := freeOf hb 2
  have c2 := cellOf hb (i := 2) (v := .string nd.text) rfl
  have HC := qh c
  have HC2 := qh c2
  have HF := qh f
  have HT := qh hT
  have HN := qh hn
  have HO := qh hO
  have HOB := qh hob
  clear hb hn hT hO hob hs c f c2
  go_enter Tryz.func159, Tryz.ntmps159
  go_wp2_with (first
    | (go_at_call 87; refine (get_some (HT.out.keep (hx.keep HO.out)) H.out).mono ?_; rintro e w' ⟨rfl, rfl⟩; have c := hx.cell HC.out; have c2 := hx.cell HC2.out; have f := hx.free (cell_lt HC.out) HF.out)
    | (go_at_call 118; refine (anew_any _ HS.out _).mono ?_; rintro e w' ⟨rfl, hx⟩))
  go_ret
  exact ⟨rfl, own, ptr, (HT.out.keep (hx.keep HO.out)).setText HN.out _, (hx.step HO.out).setCell (fun _ => by show own (ptr i) ≠ none; rw [HOB.out]; simp) _⟩
inductive PN where
  | mk (tag : Int) (attrs : List (ByteArray × ByteArray)) (text : ByteArray) (kids : List PN)
def PN.tag : PN → Int | .mk t _ _ _ => t
def PN.attrs : PN → List (ByteArray × ByteArray) | .mk _ a _ _ => a
def PN.text : PN → ByteArray | .mk _ _ s _ => s
def PN.kids : PN → List PN | .mk _ _ _ k => k
mutual
def PN.size : PN → Nat
  | .mk _ _ _ ks => PN.sizes ks + 1
def PN.sizes : List PN → Nat
  | [] => 0
  | k :: r => PN.size k + PN.sizes r
end
theorem PN.size_pos (n : PN) : 0 < n.size := by cases n; simp [PN.size]
theorem PN.sizes_mem {k : PN} {l : List PN} (h : k ∈ l) : k.size ≤ PN.sizes l := by
  induction l with
  | nil => cases h
  | cons x r ih =>
    simp only [PN.sizes]
    rcases List.mem_cons.1 h with rfl | h
    · omega
    · have := ih h; omega
theorem PN.size_kid {n k : PN} (h : k ∈ n.kids) : k.size < n.size := by
  cases n with
  | mk t a s ks => simp only [PN.size]; have := PN.sizes_mem (l := ks) h; omega
theorem PN.induct (P : PN → Prop) (h : ∀ n, (∀ k ∈ n.kids, P k) → P n) : ∀ n, P n := by
  have key : ∀ m n, PN.size n ≤ m → P n := by
    intro m
    induction m with
    | zero => intro n hn; have := n.size_pos; omega
    | succ m ih => exact fun n hn => h n fun k hk => ih k (by have := PN.size_kid hk; omega)
  exact fun n => key n.size n (Nat.le_refl _)

theorem add_later (a : Addr) (i j : Nat) (hj : 0 < j) : a.add (i + j) = ⟨(a.add i).block, (a.add i).off + j, none⟩ := by
  unfold Addr.add
  by_cases hi : i = 0
  · subst hi
    rw [if_neg (by omega), if_pos rfl, Nat.zero_add]
  · rw [if_neg (by omega), if_neg hi, Nat.add_assoc]
def rdN (w : World) : Nat → PN → Value → Prop
  | 0, _, _ => False
  | f + 1, n, v => ∃ av kv, v = .agg #[.int .i64 n.tag, av, .string n.text, kv] ∧ RowRd w 2 av n.attrs.length (attrCells n.attrs) ∧
      ∃ ao cap, kv = .slice ao n.kids.length cap ∧ n.kids.length ≤ cap ∧ cap ≤ maxLen ∧ (ao = none → n.kids.length = 0 ∧ cap = 0) ∧
        ∀ a, ao = some a → ∀ (j : Nat) k, n.kids[j]? = some k → ∃ c0 c1 c2 c3, w.cell? (a.add (j * 4)) = some c0 ∧ w.cell? (a.add (j * 4 + 1)) = some c1 ∧ w.cell? (a.add (j * 4 + 2)) = some c2 ∧ w.cell? (a.add (j * 4 + 3)) = some c3 ∧
          rdN w f k (.agg #[c0, c1, c2, c3])
def RdN (w : World) (n : PN) (v : Value) : Prop := ∃ f, rdN w f n v
def Cells (w w' : World) : Prop := ∀ p v, w.cell? p = some v → w'.cell? p = some v
theorem RowRd.cells {w w' : World} {size : Nat} {v : Value} {n : Nat} {xs : List Value} (h : RowRd w size v n xs) (k : Cells w w') : RowRd w' size v n xs := by
  obtain ⟨h1, ao, cap, h2, h3, h4, h5⟩ := h
  exact ⟨h1, ao, cap, h2, h3, h4, fun a ha j x hx => k _ _ (h5 a ha j x hx)⟩
theorem rdN_cells {w w' : World} (k : Cells w w') : ∀ (f : Nat) (n : PN) (v : Value), rdN w f n v → rdN w' f n v := by
  intro f
  induction f with
  | zero => intro n v h; exact h
  | succ f ih =>
    intro n v h
    obtain ⟨av, kv, e, h1, ao, cap, h2, h3, h3', h4, h5⟩ := h
    refine ⟨av, kv, e, h1.cells k, ao, cap, h2, h3, h3', h4, fun a ha j x hx => ?_⟩
    obtain ⟨c0, c1, c2, c3, k0, k1, k2, k3, hr⟩ := h5 a ha j x hx
    exact ⟨c0, c1, c2, c3, k _ _ k0, k _ _ k1, k _ _ k2, k _ _ k3, ih _ _ hr⟩
theorem RdN.cells {w w' : World} {n : PN} {v : Value} (h : RdN w n v) (k : Cells w w') : RdN w' n v := by
  obtain ⟨f, h⟩ := h; exact ⟨f, rdN_cells k f n v h⟩
theorem Ext.cells {w w' : World} (h : Ext w w') : Cells w w' := fun p v hp => (Below.cell h (World.block_lt_of_cell? w p hp)).trans hp
theorem rdN_more {w : World} : ∀ (f : Nat) (n : PN) (v : Value), rdN w f n v → rdN w (f + 1) n v := by
  intro f
  induction f with
  | zero => intro n v h; exact absurd h id
  | succ f ih =>
    intro n v h
    obtain ⟨av, kv, e, h1, ao, cap, h2, h3, h3', h4, h5⟩ := h
    refine ⟨av, kv, e, h1, ao, cap, h2, h3, h3', h4, fun a ha j x hx => ?_⟩
    obtain ⟨c0, c1, c2, c3, k0, k1, k2, k3, hr⟩ := h5 a ha j x hx
    exact ⟨c0, c1, c2, c3, k0, k1, k2, k3, ih _ _ hr⟩
theorem rdN_le {w : World} {f g : Nat} {n : PN} {v : Value} (h : rdN w f n v) (hfg : f ≤ g) : rdN w g n v := by
  induction hfg with
  | refl => exact h
  | step _ ih => exact rdN_more _ _ _ ih
def KidsRd (w : World) (ks : List PN) (kv : Value) : Prop :=
  ∃ ao cap, kv = .slice ao ks.length cap ∧ ks.length ≤ cap ∧ cap ≤ maxLen ∧ (ao = none → ks.length = 0 ∧ cap = 0) ∧
    ∀ a, ao = some a → ∀ (j : Nat) k, ks[j]? = some k → ∃ c0 c1 c2 c3, w.cell? (a.add (j * 4)) = some c0 ∧ w.cell? (a.add (j * 4 + 1)) = some c1 ∧ w.cell? (a.add (j * 4 + 2)) = some c2 ∧ w.cell? (a.add (j * 4 + 3)) = some c3 ∧ RdN w k (.agg #[c0, c1, c2, c3])
theorem RdN.open {w : World} {n : PN} {v : Value} (h : RdN w n v) : ∃ av kv, v = .agg #[.int .i64 n.tag, av, .string n.text, kv] ∧ RowRd w 2 av n.attrs.length (attrCells n.attrs) ∧ KidsRd w n.kids kv := by
  obtain ⟨f, h⟩ := h
  cases f with
  | zero => exact absurd h id
  | succ f =>
    obtain ⟨av, kv, e, h1, ao, cap, h2, h3, h3', h4, h5⟩ := h
    refine ⟨av, kv, e, h1, ao, cap, h2, h3, h3', h4, fun a ha j x hx => ?_⟩
    obtain ⟨c0, c1, c2, c3, k0, k1, k2, k3, hr⟩ := h5 a ha j x hx
    exact ⟨c0, c1, c2, c3, k0, k1, k2, k3, f, hr⟩
theorem fuel_row {ks : List PN} {Q : Nat → Nat → PN → Prop} (hm : ∀ j f g k, Q j f k → f ≤ g → Q j g k) (h : ∀ (j : Nat) k, ks[j]? = some k → ∃ f, Q j f k) : ∃ f, ∀ (j : Nat) k, ks[j]? = some k → Q j f k := by
  induction ks generalizing Q with
  | nil => exact ⟨0, fun j k hk => by simp at hk⟩
  | cons x r ih =>
    obtain ⟨f, hf⟩ := h 0 x rfl
    obtain ⟨g, hg⟩ := ih (Q := fun j f k => Q (j + 1) f k) (fun j f g k => hm (j + 1) f g k) fun j k hk => h (j + 1) k (by simpa using hk)
    refine ⟨max f g, fun j k hk => ?_⟩
    cases j with
    | zero => simp at hk; subst hk; exact hm _ _ _ _ hf (Nat.le_max_left _ _)
    | succ j => exact hm _ _ _ _ (hg j k (by simpa using hk)) (Nat.le_max_right _ _)
theorem RdN.mk' {w : World} {n : PN} {av kv : Value} (h1 : RowRd w 2 av n.attrs.length (attrCells n.attrs)) (h2 : KidsRd w n.kids kv) : RdN w n (.agg #[.int .i64 n.tag, av, .string n.text, kv]) := by
  obtain ⟨ao, cap, rfl, h3, h3', h4, h5⟩ := h2
  cases ao with
  | none => exact ⟨1, av, _, rfl, h1, none, cap, rfl, h3, h3', h4, fun a ha => by cases ha⟩
  | some a =>
    obtain ⟨f, hf⟩ := fuel_row (ks := n.kids) (Q := fun j f k => ∃ c0 c1 c2 c3, w.cell? (a.add (j * 4)) = some c0 ∧ w.cell? (a.add (j * 4 + 1)) = some c1 ∧ w.cell? (a.add (j * 4 + 2)) = some c2 ∧ w.cell? (a.add (j * 4 + 3)) = some c3 ∧ rdN w f k (.agg #[c0, c1, c2, c3]))
      (fun j f g k ⟨c0, c1, c2, c3, k0, k1, k2, k3, hr⟩ hfg => ⟨c0, c1, c2, c3, k0, k1, k2, k3, rdN_le hr hfg⟩)
      (fun j k hk => by
        obtain ⟨c0, c1, c2, c3, k0, k1, k2, k3, f, hr⟩ := h5 a rfl j k hk
        exact ⟨f, c0, c1, c2, c3, k0, k1, k2, k3, hr⟩)
    exact ⟨f + 1, av, _, rfl, h1, some a, cap, rfl, h3, h3', h4, fun a' ha j k hk => by cases ha; exact hf j k hk⟩
def PN.bad (n : PN) : Bool := if n.tag = 0 then !(n.attrs.isEmpty && n.kids.isEmpty) else !(decide (1 ≤ n.tag ∧ n.tag ≤ 16) && n.text.size == 0)
mutual
def PN.high : PN → Nat
  | .mk _ _ _ ks => PN.highs ks
def PN.highs : List PN → Nat
  | [] => 0
  | k :: r => max (PN.high k + 1) (PN.highs r)
end
mutual
def PN.anew : PN → PN
  | .mk t a s ks => .mk t a (anewB s) (PN.anews ks)
def PN.anews : List PN → List PN
  | [] => []
  | k :: r => PN.anew k :: PN.anews r
end
mutual
def PN.ok : PN → Bool
  | .mk t a s ks => !(PN.mk t a s ks).bad && decide ((anewB s).size ≤ 8192) && PN.oks ks
def PN.oks : List PN → Bool
  | [] => true
  | k :: r => PN.ok k && PN.oks r
end
theorem PN.high_eq (n : PN) : n.high = PN.highs n.kids := by cases n; rfl
theorem PN.size_eq (n : PN) : n.size = PN.sizes n.kids + 1 := by cases n; rfl
theorem PN.anew_eq (n : PN) : n.anew = .mk n.tag n.attrs (anewB n.text) (PN.anews n.kids) := by cases n; rfl
theorem PN.anews_eq (l : List PN) : PN.anews l = l.map PN.anew := by
  induction l with
  | nil => rfl
  | cons k r ih => simp only [PN.anews, List.map_cons, ih]
theorem PN.ok_eq (n : PN) : n.ok = (!n.bad && decide ((anewB n.text).size ≤ 8192) && PN.oks n.kids) := by cases n; rfl
theorem PN.oks_mem {l : List PN} (h : PN.oks l = true) {k : PN} (hk : k ∈ l) : k.ok = true := by
  induction l with
  | nil => cases hk
  | cons x r ih =>
    simp only [PN.oks, Bool.and_eq_true] at h
    rcases List.mem_cons.1 hk with rfl | hk
    · exact h.1
    · exact ih h.2 hk
theorem PN.ok_bad {n : PN} (h : n.ok = true) : n.bad = false := by
  rw [PN.ok_eq] at h; simp at h; exact h.1.1
theorem PN.ok_kids {n : PN} (h : n.ok = true) : PN.oks n.kids = true := by
  rw [PN.ok_eq] at h; simp at h; exact h.2
theorem PN.bad_tag {n : PN} (h : n.bad = false) : 0 ≤ n.tag ∧ n.tag ≤ 16 ∧ (n.tag = 0 → n.kids = [] ∧ n.attrs = []) ∧ (n.tag ≠ 0 → n.text.size = 0) := by
  unfold PN.bad at h
  by_cases h0 : n.tag = 0
  · rw [if_pos h0] at h
    simp at h
    exact ⟨by omega, by omega, fun _ => ⟨h.2, h.1⟩, fun e => absurd h0 e⟩
  · rw [if_neg h0] at h
    simp at h
    exact ⟨by omega, by omega, fun e => absurd e h0, fun _ => by rw [h.2]; rfl⟩

def noPN : PN := .mk 0 [] ByteArray.empty []
def Tr.pln (T : Tr) : Nat → Int → PN
  | 0, _ => noPN
  | f + 1, id => match T.get? id with
    | none => noPN
    | some nd => .mk nd.tag nd.attrs nd.text (nd.kids.map (T.pln f))
def Tr.plain (T : Tr) (id : Int) : PN := T.pln 50 id
theorem pln_step (T : Tr) (f : Nat) {i : Nat} {nd : Nd} (h : T.nodes[i]? = some (some nd)) : T.pln (f + 1) i = .mk nd.tag nd.attrs nd.text (nd.kids.map (T.pln f)) := by
  show (match T.get? i with | none => noPN | some nd => _) = _
  rw [Tr.get_of h]
theorem WF.pln_more {T : Tr} {d : Nat → Nat} (hw : WF T d) : ∀ (f g i : Nat) (nd : Nd), T.nodes[i]? = some (some nd) → 41 ≤ d i + f → 41 ≤ d i + g → T.pln f i = T.pln g i := by
  intro f
  induction f with
  | zero => intro g i nd h h1; have := hw.deep i nd h; have := hw.small.deep1; omega
  | succ f ih =>
    intro g i nd h h1 h2
    cases g with
    | zero => have := hw.deep i nd h; have := hw.small.deep1; omega
    | succ g =>
      rw [pln_step T f h, pln_step T g h]
      congr 1
      refine List.map_congr_left fun k hk => ?_
      obtain ⟨n, hn⟩ := List.getElem?_of_mem hk
      obtain ⟨j, kd, rfl, hj, hjp, hjd⟩ := hw.kid h hn
      exact ih g j kd hj (by omega) (by omega)
theorem WF.plain_eq {T : Tr} {d : Nat → Nat} (hw : WF T d) {i : Nat} {nd : Nd} (h : T.nodes[i]? = some (some nd)) : T.plain i = .mk nd.tag nd.attrs nd.text (nd.kids.map T.plain) := by
  show T.pln 50 i = _
  rw [pln_step T 49 h]
  congr 1
  refine List.map_congr_left fun k hk => ?_
  obtain ⟨n, hn⟩ := List.getElem?_of_mem hk
  obtain ⟨j, kd, rfl, hj, hjp, hjd⟩ := hw.kid h hn
  have := hw.deep j kd hj
  have := hw.small.deep1
  exact hw.pln_more 49 50 j kd hj (by omega) (by omega)
theorem WF.height_eq {T : Tr} {d : Nat → Nat} (hw : WF T d) {i : Nat} {nd : Nd} (h : T.nodes[i]? = some (some nd)) : T.height i = nd.kids.foldl (fun h k => max h (T.height k + 1)) 0 := by
  show T.hgt 50 i = _
  rw [hgt_step T 49 h]
  refine fold_congr _ _ _ _ fun k hk => ?_
  obtain ⟨n, hn⟩ := List.getElem?_of_mem hk
  obtain ⟨j, kd, rfl, hj, hjp, hjd⟩ := hw.kid h hn
  have := hw.deep j kd hj
  have := hw.small.deep1
  show _ = T.hgt 50 j + 1
  rw [hw.hgt_more 49 50 j kd hj (by omega) (by omega)]
theorem pln_same {T T' : Tr} {d : Nat → Nat} (hw : WF T d) {o : Nat} (hs : ∀ (j : Nat) (jd : Nd), T.nodes[j]? = some (some jd) → T.within j o = true → ∃ jd', T'.nodes[j]? = some (some jd') ∧ jd'.tag = jd.tag ∧ jd'.attrs = jd.attrs ∧ jd'.text = jd.text ∧ jd'.kids = jd.kids) {od : Nd} (ho : T.nodes[o]? = some (some od)) :
    ∀ (f i : Nat) (nd : Nd), T.nodes[i]? = some (some nd) → T.within i o = true → T'.pln f i = T.pln f i ∧ T'.hgt f i = T.hgt f i := by
  intro f
  induction f with
  | zero => intro i nd h _; exact ⟨rfl, rfl⟩
  | succ f ih =>
    intro i nd h hin
    obtain ⟨nd', h', e1, e2, e3, e4⟩ := hs i nd h hin
    have hk : ∀ k ∈ nd.kids, T'.pln f k = T.pln f k ∧ T'.hgt f k = T.hgt f k := fun k hk => by
      obtain ⟨j, kd, rfl, hj, hjp⟩ := (hw.kids i nd h).2 k hk
      refine ih j kd hj ?_
      rw [hw.within_step hj, hjp]
      split
      · rfl
      · exact hin
    constructor
    · rw [pln_step T f h, pln_step T' f h', e1, e2, e3, e4]
      congr 1
      exact List.map_congr_left fun k hk' => (hk k hk').1
    · rw [hgt_step T f h, hgt_step T' f h', e4]
      exact fold_congr _ _ _ _ fun k hk' => by rw [(hk k hk').2]
theorem plain_same {T T' : Tr} {d : Nat → Nat} (hw : WF T d) {o : Nat} {od : Nd} (ho : T.nodes[o]? = some (some od))
    (hs : ∀ (j : Nat) (jd : Nd), T.nodes[j]? = some (some jd) → T.within j o = true → ∃ jd', T'.nodes[j]? = some (some jd') ∧ jd'.tag = jd.tag ∧ jd'.attrs = jd.attrs ∧ jd'.text = jd.text ∧ jd'.kids = jd.kids) :
    T'.plain o = T.plain o ∧ T'.height o = T.height o := pln_same hw hs ho 50 o od ho (hw.within_self ho)

def Tr.attach (T : Tr) (p k : Nat) (pd kd : Nd) : Tr := T.set2 p k { pd with kids := pd.kids ++ [(k : Int)] } { kd with parent := p }
theorem Tr.attach_link (T : Tr) (p k : Nat) (pd kd : Nd) : T.attach p k pd kd = T.link p pd.kids.length k pd kd := by
  rw [Tr.link_eq]; simp [Tr.attach]
theorem WF.attach {T : Tr} {d : Nat → Nat} (hw : WF T d) {p k : Nat} {pd kd : Nd} (hp : T.nodes[p]? = some (some pd)) (hk : T.nodes[k]? = some (some kd))
    (htag : pd.tag ≠ 0) (hk0 : k ≠ 0) (hpar : kd.parent = -1) (hpp : pd.parent = -1) (hpk : p ≠ k) (hh : T.height k + 1 ≤ T.deep) :
    ∃ d', WF (T.attach p k pd kd) d' ∧ (T.attach p k pd kd).height p = max (T.height p) (T.height k + 1) ∧ (T.attach p k pd kd).plain p = .mk pd.tag pd.attrs pd.text (pd.kids.map T.plain ++ [T.plain k]) := by
  have hin : T.within p k = false := by rw [hw.within_root hp hpp]; simp; omega
  have hdp : d p = 0 := by
    rcases hw.up p pd hp with ⟨h3, h4⟩ | ⟨q, qd, h3, h4, h5, h6⟩
    · exact h4
    · omega
  have hl := hw.link (at' := pd.kids.length) hp hk htag hk0 hpar hin (by omega)
  rw [← Tr.attach_link] at hl
  have hg := fun j => Tr.set2_get (pd' := { pd with kids := pd.kids ++ [(k : Int)] }) (kd' := { kd with parent := p }) hp hk j
  have hp' : (T.attach p k pd kd).nodes[p]? = some (some { pd with kids := pd.kids ++ [(k : Int)] }) := by
    show (T.set2 p k _ _).nodes[p]? = _
    rw [hg, if_neg hpk, if_pos rfl]
  -- nodes other than p tell the same
  have hsame : ∀ (j : Nat) (jd : Nd), T.nodes[j]? = some (some jd) → j ≠ p → ∃ jd', (T.attach p k pd kd).nodes[j]? = some (some jd') ∧ jd'.tag = jd.tag ∧ jd'.attrs = jd.attrs ∧ jd'.text = jd.text ∧ jd'.kids = jd.kids := fun j jd h hne => by
    show ∃ jd', (T.set2 p k _ _).nodes[j]? = some (some jd') ∧ _
    rw [hg]
    by_cases e : j = k
    · subst e
      rw [if_pos rfl]
      obtain rfl := some_inj2 hk h
      exact ⟨_, rfl, rfl, rfl, rfl, rfl⟩
    · rw [if_neg e, if_neg hne]
      exact ⟨jd, h, rfl, rfl, rfl, rfl⟩
  have hof : ∀ (o : Nat) (od : Nd), T.nodes[o]? = some (some od) → o ≠ p → (T.attach p k pd kd).plain o = T.plain o ∧ (T.attach p k pd kd).height o = T.height o := fun o od ho hne =>
    plain_same hw ho fun j jd hj hjo => hsame j jd hj fun e => by
      subst e
      obtain rfl := some_inj2 hp hj
      rw [hw.within_root hp hpp] at hjo
      have := of_decide_eq_true hjo
      omega
  have hkids : ∀ x ∈ pd.kids, (T.attach p k pd kd).plain x = T.plain x ∧ (T.attach p k pd kd).height x = T.height x := fun x hx => by
    obtain ⟨j, jd, rfl, hj, hjp⟩ := (hw.kids p pd hp).2 x hx
    refine hof j jd hj fun e => ?_
    subst e
    obtain rfl := some_inj2 hp hj
    omega
  have hkk := hof k kd hk (Ne.symm hpk)
  refine ⟨_, hl, ?_, ?_⟩
  · rw [hl.height_eq hp', hw.height_eq hp]
    show (pd.kids ++ [(k : Int)]).foldl _ 0 = _
    rw [List.foldl_append, List.foldl_cons, List.foldl_nil, hkk.2]
    rw [fold_congr (fun x => (T.attach p k pd kd).height x + 1) (fun x => T.height x + 1) pd.kids 0 fun x hx => by rw [(hkids x hx).2]]
  · rw [hl.plain_eq hp']
    show PN.mk pd.tag pd.attrs pd.text ((pd.kids ++ [(k : Int)]).map _) = _
    rw [List.map_append, List.map_cons, List.map_nil, hkk.1]
    congr 2
    exact List.map_congr_left fun x hx => (hkids x hx).1

def Tr.look (T : Tr) (i : Int) : Nd := (T.get? i).getD ⟨0, [], ByteArray.empty, [], -1⟩
def Tr.join (T : Tr) (p k : Int) : Tr := T.attach p.toNat k.toNat (T.look p) (T.look k)
mutual
def PN.into (T : Tr) : PN → Tr
  | .mk t a s ks => PN.intos T.newId (T.put ⟨t, a, anewB s, [], -1⟩) ks
def PN.intos (id : Int) (T : Tr) : List PN → Tr
  | [] => T
  | k :: r => PN.intos id ((PN.into T k).join id T.newId) r
end
theorem PN.into_eq (T : Tr) (n : PN) : PN.into T n = PN.intos T.newId (T.put ⟨n.tag, n.attrs, anewB n.text, [], -1⟩) n.kids := by cases n; rfl
theorem look_of {T : Tr} {i : Nat} {nd : Nd} (h : T.nodes[i]? = some (some nd)) : T.look i = nd := by
  unfold Tr.look; rw [Tr.get_of h]; rfl
structure Put (T T' : Tr) (d' : Nat → Nat) (i : Nat) (n : PN) (sz hi : Nat) : Prop where
  wf : WF T' d'
  node : ∃ nd, T'.nodes[i]? = some (some nd) ∧ nd.parent = -1
  high : T'.height i = hi
  plain : T'.plain i = n
  old : ∀ (j : Nat) (x : Nd), j ≠ i → T.nodes[j]? = some (some x) → T'.nodes[j]? = some (some x)
  count : T'.count = T.count + sz
  cap : T'.cap = T.cap
  deep : T'.deep = T.deep
theorem WF.put_one {T : Tr} {d : Nat → Nat} (hw : WF T d) {n : PN} (hb : n.bad = false) (hroom : T.count + 1 ≤ T.cap) :
    ∃ (d' : Nat → Nat) (i : Nat), T.newId = (i : Int) ∧ i ≠ 0 ∧ (∀ x : Nd, T.nodes[i]? ≠ some (some x)) ∧ (T.put ⟨n.tag, n.attrs, anewB n.text, [], -1⟩).nodes[i]? = some (some ⟨n.tag, n.attrs, anewB n.text, [], -1⟩) ∧
      Put T (T.put ⟨n.tag, n.attrs, anewB n.text, [], -1⟩) d' i (.mk n.tag n.attrs (anewB n.text) []) 1 0 := by
  obtain ⟨b0, b1, b2, b3⟩ := PN.bad_tag hb
  obtain ⟨i, h1, h2, h3, h4, h5, h6, h7, h8⟩ := T.put_at ⟨n.tag, n.attrs, anewB n.text, [], -1⟩
  have hne := hw.newId_ne
  have hp := hw.put ⟨n.tag, n.attrs, anewB n.text, [], -1⟩ rfl rfl b0 b1 hroom hne
  refine ⟨_, i, h1, by omega, h3, h2, ⟨hp, ⟨_, h2, rfl⟩, ?_, ?_, fun j x _ hj => h4 j x hj, rfl, rfl, rfl⟩⟩
  · rw [hp.height_eq h2]; rfl
  · rw [hp.plain_eq h2]; rfl

def PutsOk (n : PN) : Prop := ∀ (T : Tr) (d : Nat → Nat), WF T d → T.count + n.size ≤ T.cap → (n.high : Int) ≤ T.deep → ∃ (d' : Nat → Nat) (i : Nat), T.newId = (i : Int) ∧ i ≠ 0 ∧ (∀ x : Nd, T.nodes[i]? ≠ some (some x)) ∧ Put T (PN.into T n) d' i n.anew n.size n.high
theorem intos_ok : ∀ (ks : List PN) (hks : ∀ k ∈ ks, PutsOk k) (T : Tr) (d : Nat → Nat) (i : Nat) (nd : Nd), WF T d → T.nodes[i]? = some (some nd) → nd.parent = -1 → (nd.tag ≠ 0 ∨ ks = []) → T.count + PN.sizes ks ≤ T.cap → (PN.highs ks : Int) ≤ T.deep → (∀ x ∈ nd.kids, 0 ≤ x) →
    ∃ (d' : Nat → Nat) (nd' : Nd), (PN.intos i T ks).nodes[i]? = some (some nd') ∧ Put T (PN.intos i T ks) d' i (.mk nd.tag nd.attrs nd.text (nd.kids.map T.plain ++ PN.anews ks)) (PN.sizes ks) (max (T.height i).toNat (PN.highs ks)) := by
  intro ks
  induction ks with
  | nil =>
    intro hks T d i nd hw hi hp ht hc hh hx
    refine ⟨d, nd, hi, ⟨hw, ⟨nd, hi, hp⟩, ?_, ?_, fun j x _ hj => hj, ?_, rfl, rfl⟩⟩
    · have := hgt_nn T 50 hi
      show T.height i = ((max (T.height i).toNat 0 : Nat) : Int)
      have h0 : 0 ≤ T.height i := this
      omega
    · show T.plain i = _
      rw [hw.plain_eq hi]; simp [PN.anews]
    · show T.count = T.count + ((0 : Nat) : Int); simp
  | cons k r ih =>
    intro hks T d i nd hw hi hp ht hc hh hx
    simp only [PN.sizes, PN.highs] at hc hh
    have hkpos := k.size_pos
    obtain ⟨d1, m, hm1, hm0, hm2, hP⟩ := hks k (by simp) T d hw (by omega) (by omega)
    have him : i ≠ m := fun e => hm2 nd (e ▸ hi)
    have hi1 : (PN.into T k).nodes[i]? = some (some nd) := hP.old i nd him hi
    obtain ⟨kd, hk1, hk2⟩ := hP.node
    have ht' : nd.tag ≠ 0 := by rcases ht with h | h; exact h; cases h
    obtain ⟨d2, hw2, hh2, hp2⟩ := hP.wf.attach hi1 hk1 ht' hm0 hk2 hp him (by rw [hP.high, hP.deep]; omega)
    have hjoin : (PN.into T k).join i T.newId = (PN.into T k).attach i m nd kd := by
      unfold Tr.join
      rw [hm1, Int.toNat_natCast, Int.toNat_natCast, look_of hi1, look_of hk1]
    have hg := fun j => Tr.set2_get (pd' := { nd with kids := nd.kids ++ [(m : Int)] }) (kd' := { kd with parent := i }) hi1 hk1 j
    have hi2 : ((PN.into T k).attach i m nd kd).nodes[i]? = some (some { nd with kids := nd.kids ++ [(m : Int)] }) := by
      show (Tr.set2 _ i m _ _).nodes[i]? = _
      rw [hg, if_neg him, if_pos rfl]
    -- heights and plains of the kids that were there
    have hold := plain_same (T' := PN.into T k) hw hi fun j jd hj _ => by
      refine ⟨jd, hP.old j jd (fun e => hm2 jd (e ▸ hj)) hj, rfl, rfl, rfl, rfl⟩
    have hcount : ((PN.into T k).attach i m nd kd).count = T.count + k.size := hP.count
    have hcap : ((PN.into T k).attach i m nd kd).cap = T.cap := hP.cap
    have hdeep : ((PN.into T k).attach i m nd kd).deep = T.deep := hP.deep
    obtain ⟨d3, nd3, hn3, hP3⟩ := ih (fun x hx' => hks x (by simp [hx'])) _ d2 i _ hw2 hi2 hp (.inl ht') (by rw [hcount, hcap]; omega) (by rw [hdeep]; omega) (fun x hx' => by
      rcases List.mem_append.1 hx' with h | h
      · exact hx x h
      · simp at h; omega)
    have e0 : PN.intos i T (k :: r) = PN.intos i ((PN.into T k).attach i m nd kd) r := by
      simp only [PN.intos]; rw [hjoin]
    rw [e0]
    refine ⟨d3, nd3, hn3, ⟨hP3.wf, hP3.node, ?_, ?_, fun j x hj hjx => ?_, ?_, hP3.cap.trans hcap, hP3.deep.trans hdeep⟩⟩
    · rw [hP3.high, hh2, hP.high, hold.2]
      simp only [PN.highs]
      have h0 : 0 ≤ T.height i := hgt_nn T 50 hi
      omega
    · rw [hP3.plain]
      have e1 := hw2.plain_eq hi2
      rw [hp2] at e1
      have e2 : (nd.kids ++ [(m : Int)]).map ((PN.into T k).attach i m nd kd).plain = nd.kids.map T.plain ++ [k.anew] := by
        have e3 : nd.kids.map (PN.into T k).plain = nd.kids.map T.plain := by
          have q1 := hP.wf.plain_eq hi1
          rw [hold.1, hw.plain_eq hi] at q1
          exact (PN.mk.inj q1).2.2.2.symm
        have e4 := (PN.mk.inj e1).2.2.2
        show List.map ((PN.into T k).attach i m nd kd).plain (nd.kids ++ [(m : Int)]) = _
        rw [← e3, ← hP.plain]
        exact e4.symm
      show PN.mk nd.tag nd.attrs nd.text ((nd.kids ++ [(m : Int)]).map _ ++ PN.anews r) = _
      rw [e2]
      simp [PN.anews]
    · have hjm : j ≠ m := fun e => hm2 x (e ▸ hjx)
      refine hP3.old j x hj ?_
      show (Tr.set2 _ i m _ _).nodes[j]? = _
      rw [hg, if_neg hjm, if_neg hj]
      exact hP.old j x hjm hjx
    · rw [hP3.count, hcount]
      simp only [PN.sizes]
      push_cast; omega
theorem into_ok : ∀ n : PN, n.ok = true → PutsOk n := by
  refine PN.induct _ fun n ih hok T d hw hc hh => ?_
  have hb := PN.ok_bad hok
  have hkids := PN.ok_kids hok
  obtain ⟨b0, b1, b2, b3⟩ := PN.bad_tag hb
  rw [PN.size_eq] at hc
  obtain ⟨d1, i, h1, h0, h2, h3, hP⟩ := hw.put_one hb (by omega)
  obtain ⟨d2, nd2, hn2, hP2⟩ := intos_ok n.kids (fun k hk => ih k hk (PN.oks_mem hkids hk)) _ d1 i _ hP.wf h3 rfl (by
    by_cases e : n.tag = 0
    · exact .inr (b2 e).1
    · exact .inl e) (by rw [hP.count, hP.cap]; omega) (by rw [hP.deep]; rw [PN.high_eq] at hh; exact hh) (fun x hx => by cases hx)
  rw [PN.into_eq, h1]
  refine ⟨d2, i, rfl, h0, h2, ⟨hP2.wf, hP2.node, ?_, ?_, fun j x hj hjx => hP2.old j x hj (hP.old j x hj hjx), ?_, hP2.cap.trans hP.cap, hP2.deep.trans hP.deep⟩⟩
  · rw [hP2.high, hP.high, PN.high_eq]; simp
  · rw [hP2.plain, PN.anew_eq]; simp
  · rw [hP2.count, hP.count, PN.size_eq]; push_cast; omega
theorem Kids_none {w : World} {own : Ow} {ptr : Nat → Nat} {tb : Nat} {T : Tr} (hT : TreeAt w own ptr tb T) {id : Int} (h : T.get? id = none) :
    Calls Tryz.prog 32 #[.pointer (some ⟨tb, 0, none⟩), .int .i64 id] w (RVal (.slice none 0 0) w) := by
  have H := qh h
  clear h
  go_enter Tryz.func32, Tryz.ntmps32
  go_wp2_with (go_at_call 87; refine (get_none hT H.out).mono ?_; rintro e w' ⟨rfl, rfl⟩)
  go_ret
  exact ⟨rfl, Ext.refl _⟩
theorem ints_one (l : List Int) : ∀ u ∈ l.map (Value.int .i64), u.oneCell' = true := by
  intro u hu
  obtain ⟨x, _, rfl⟩ := List.mem_map.1 hu
  rfl
theorem Kids_some {w : World} {own : Ow} {ptr : Nat → Nat} {tb : Nat} {T : Tr} (hT : TreeAt w own ptr tb T) {id : Int} {nd : Nd} (h : T.get? id = some nd) (hl : nd.kids.length ≤ 60000) :
    Calls Tryz.prog 32 #[.pointer (some ⟨tb, 0, none⟩), .int .i64 id] w (RRow 3 1 nd.kids.length (nd.kids.map (Value.int .i64)) w) := by
  have H := qh h
  have hn := (Tr.get_lt h).2.2
  obtain ⟨av, kv, hb, _, _, ha⟩ := hT.node _ _ hn
  have hr := RowP.rd ha
  obtain ⟨aa, acap, rfl, _⟩ := hr.len_of
  have c := cellOf hb (i := 3) (v := .slice aa nd.kids.length acap) rfl
  have HR := qh hr
  have HL := qh hl
  clear h hb hn hr ha hl
  go_enter Tryz.func32, Tryz.ntmps32
  go_wp2_with (first
    | (go_at_call 87; refine (get_some hT H.out).mono ?_; rintro e w' ⟨rfl, rfl⟩)
    | (go_at_call 97; refine (cloneI_any HR.out HL.out (ints_one _)).mono ?_; rintro e w' ⟨v, rfl, hr, hx⟩))
  go_ret
  exact ⟨_, rfl, hr, hx⟩
theorem Index_root {w : World} {own : Ow} {ptr : Nat → Nat} {tb : Nat} {T : Tr} (hT : TreeAt w own ptr tb T) {id : Int} (h : T.get? id = none ∨ ∃ nd, T.get? id = some nd ∧ T.get? nd.parent = none) :
    Calls Tryz.prog 29 #[.pointer (some ⟨tb, 0, none⟩), .int .i64 id] w (RVal (.int .i64 (-1)) w) := by
  rcases h with h | ⟨nd, h, h2⟩
  · have H := qh h
    have H2 : Hid (T.get? (-1) = none) := qh (by rfl)
    clear h
    go_enter Tryz.func29, Tryz.ntmps29
    go_wp2_with (first
      | (go_at_call 27; refine (Parent_none hT H.out).mono ?_; rintro e w' ⟨rfl, rfl⟩)
      | (go_at_call 87; refine (get_none hT H2.out).mono ?_; rintro e w' ⟨rfl, rfl⟩))
    go_ret
    exact ⟨rfl, Ext.refl _⟩
  · have H := qh h
    have H2 := qh h2
    clear h h2
    go_enter Tryz.func29, Tryz.ntmps29
    go_wp2_with (first
      | (go_at_call 27; refine (Parent_some hT H.out).mono ?_; rintro e w' ⟨rfl, rfl⟩)
      | (go_at_call 87; refine (get_none hT H2.out).mono ?_; rintro e w' ⟨rfl, rfl⟩))
    go_ret
    exact ⟨rfl, Ext.refl _⟩
theorem Index_kid {w : World} {own : Ow} {ptr : Nat → Nat} {tb : Nat} {T : Tr} (hT : TreeAt w own ptr tb T) {id : Int} {nd pd : Nd} (h : T.get? id = some nd) (h2 : T.get? nd.parent = some pd) (hl : pd.kids.length ≤ 60000) :
    Calls Tryz.prog 29 #[.pointer (some ⟨tb, 0, none⟩), .int .i64 id] w (RVal (.int .i64 (posOf pd.kids id)) w) := by
  have hn := (Tr.get_lt h2).2.2
  obtain ⟨av, kv, hb, _, _, ha⟩ := hT.node _ _ hn
  have hr := RowP.rd ha
  obtain ⟨aa, acap, rfl, _⟩ := hr.len_of
  have c := cellOf hb (i := 3) (v := .slice aa pd.kids.length acap) rfl
  have HR := qh hr
  have HL := qh hl
  have H := qh h
  have H2 := qh h2
  clear h h2 hb hn hr ha hl
  go_enter Tryz.func29, Tryz.ntmps29
  go_wp2_with (first
    | (go_at_call 27; refine (Parent_some hT H.out).mono ?_; rintro e w' ⟨rfl, rfl⟩)
    | (go_at_call 87; refine (get_some hT H2.out).mono ?_; rintro e w' ⟨rfl, rfl⟩)
    | (go_at_call 93; refine (index_any HR.out HL.out _).mono ?_; rintro e w' ⟨rfl, rfl⟩))
  go_ret
  exact ⟨rfl, Ext.refl _⟩
def laysIns_ren : Go.Shelf.Ren := ⟨fun | 21 => 162 | 27 => 200 | 28 => 201 | 35 => 217 | 39 => 156 | n => n, fun | 0 => 0 | 3 => 3 | 4 => 4 | 22 => 50 | n => n, fun | n => n⟩
theorem laysIns : Go.Proofs.Lays2.n21 Tryz.prog laysIns_ren := {
  mixed := by kernel_rfl
  f21 := Tryz.func162.trans (congrArg some (by kernel_rfl))
  f27 := Tryz.func200.trans (congrArg some (by kernel_rfl))
  f28 := Tryz.func201.trans (congrArg some (by kernel_rfl))
  f35 := Tryz.func217.trans (congrArg some (by kernel_rfl))
  f39 := Tryz.func156.trans (congrArg some (by kernel_rfl))
  t0 := Tryz.underlying0
  a0 := Tryz.isAgg0
  z0 := Tryz.sizeOf0
  v0 := Tryz.zeroValue0
  t3 := Tryz.underlying3
  a3 := Tryz.isAgg3
  z3 := Tryz.sizeOf3
  v3 := Tryz.zeroValue3
  t4 := Tryz.underlying4
  a4 := Tryz.isAgg4
  z4 := Tryz.sizeOf4
  v4 := Tryz.zeroValue4
  t22 := Tryz.underlying50
  a22 := Tryz.isAgg50
  z22 := Tryz.sizeOf50
  v22 := Tryz.zeroValue50
  i3 := by kernel_rfl }
def laysDel_ren : Go.Shelf.Ren := ⟨fun | 23 => 165 | n => n, fun | 0 => 0 | 3 => 3 | 4 => 4 | 22 => 50 | n => n, fun | n => n⟩
theorem laysDel : Go.Proofs.Lays2.n23 Tryz.prog laysDel_ren := {
  mixed := by kernel_rfl
  f23 := Tryz.func165.trans (congrArg some (by kernel_rfl))
  t0 := Tryz.underlying0
  a0 := Tryz.isAgg0
  z0 := Tryz.sizeOf0
  v0 := Tryz.zeroValue0
  t3 := Tryz.underlying3
  a3 := Tryz.isAgg3
  z3 := Tryz.sizeOf3
  v3 := Tryz.zeroValue3
  t4 := Tryz.underlying4
  a4 := Tryz.isAgg4
  z4 := Tryz.sizeOf4
  v4 := Tryz.zeroValue4
  t22 := Tryz.underlying50
  a22 := Tryz.isAgg50
  z22 := Tryz.sizeOf50
  v22 := Tryz.zeroValue50
  i3 := by kernel_rfl }
def putMany (cur : Array Value) : Nat → List Value → Array Value
  | _, [] => cur
  | o, v :: r => putMany (cur.setIfInBounds o v) (o + 1) r
theorem putMany_size : ∀ (vs : List Value) (o : Nat) (cur : Array Value), (putMany cur o vs).size = cur.size
  | [], _, _ => rfl
  | v :: r, o, cur => by rw [putMany, putMany_size r]; simp
theorem putMany_get : ∀ (vs : List Value) (o : Nat) (cur : Array Value) (j : Nat), j < cur.size → (putMany cur o vs)[j]? = if o ≤ j ∧ j < o + vs.length then vs[j - o]? else cur[j]?
  | [], o, cur, j, hj => by rw [putMany, if_neg (by simp <;> omega)]
  | v :: r, o, cur, j, hj => by
    rw [putMany, putMany_get r (o + 1) _ j (by simpa using hj)]
    by_cases h1 : o + 1 ≤ j ∧ j < o + 1 + r.length
    · rw [if_pos h1, if_pos ⟨by omega, by simp; omega⟩]
      obtain ⟨k, rfl⟩ : ∃ k, j = o + 1 + k := ⟨j - (o + 1), by omega⟩
      rw [show o + 1 + k - (o + 1) = k by omega, show o + 1 + k - o = k + 1 by omega, List.getElem?_cons_succ]
    · rw [if_neg h1, Array.getElem?_setIfInBounds]
      by_cases h2 : o = j
      · subst h2
        rw [if_pos rfl, if_pos hj, if_pos ⟨Nat.le_refl _, by simp⟩, Nat.sub_self]; rfl
      · rw [if_neg h2, if_neg (by simp; omega)]
theorem heap_setCells_same {b : Nat} {t : TypeId} {fr : Nat × Nat} : ∀ (vs : List Value) (o : Nat) (w : World) (cur : Array Value), w.heap[b]? = some (.cells cur t fr) → (w.setCells b o vs).heap[b]? = some (.cells (putMany cur o vs) t fr)
  | [], _, _, _, h => h
  | v :: r, o, w, cur, h => heap_setCells_same r (o + 1) _ _ (heap_setCell_same h v)
theorem heap_setCells_far {b k : Nat} (hk : k ≠ b) : ∀ (vs : List Value) (o : Nat) (w : World), (w.setCells b o vs).heap[k]? = w.heap[k]?
  | [], _, _ => rfl
  | v :: r, o, w => (heap_setCells_far hk r (o + 1) _).trans (heap_setCell_other (p := ⟨b, o, none⟩) v hk)
theorem setCells_parts (b : Nat) : ∀ (vs : List Value) (o : Nat) (w : World), (w.setCells b o vs).os = w.os ∧ (w.setCells b o vs).tape = w.tape ∧ (w.setCells b o vs).output = w.output ∧ (w.setCells b o vs).heap.size = w.heap.size
  | [], _, _ => ⟨rfl, rfl, rfl, rfl⟩
  | v :: r, o, w => by
    have h := setCells_parts b r (o + 1) (w.setCell ⟨b, o, none⟩ v)
    refine ⟨h.1, h.2.1, h.2.2.1, h.2.2.2.trans ?_⟩
    simp [World.setCell]
theorem grown_setCells (b o : Nat) (vs : List Value) (w : World) : w.grownBy (w.setCells b o vs) (some b) := by
  obtain ⟨h1, h2, h3, h4⟩ := setCells_parts b vs o w
  exact ⟨h1, h2, h3, Nat.le_of_eq h4.symm, fun k _ hk => heap_setCells_far (fun e => hk (by rw [e])) vs o w⟩
theorem grown_trans {a b c : World} {row : Option Nat} (h : a.grownBy b row) (k : b.grownBy c row) : a.grownBy c row :=
  ⟨k.os.trans h.os, k.tape.trans h.tape, k.output.trans h.output, Nat.le_trans h.size k.size, fun x hx hr => (k.block x (Nat.lt_of_lt_of_le hx h.size) hr).trans (h.block x hx hr)⟩
theorem grown_drewN (w : World) (n : Nat) (row : Option Nat) : w.grownBy (w.drewN n) row := ⟨rfl, rfl, rfl, Nat.le_refl _, fun _ _ _ => rfl⟩
theorem RowP.some_ {w : World} {p : Nat → Prop} {e : TypeId} {v : Value} {n : Nat} {xs : List Value} (h : RowP w p e 1 v n xs) (hn : 0 < n) :
    ∃ g cap cur, v = .slice (some ⟨g, 0, none⟩) n cap ∧ p g ∧ w.heap[g]? = some (.cells cur e (0, 0)) ∧ n ≤ cap ∧ cap ≤ maxLen ∧ cur.size = cap ∧ xs.length = n ∧ ∀ j, j < n → cur[j]? = xs[j]? := by
  rcases h.2 with ⟨h0, _⟩ | ⟨g, cap, cur, h1, h2, h3, h4, h5, h6, h7⟩
  · omega
  · have hl := h.1
    rw [Nat.mul_one] at h6 h7 hl
    refine ⟨g, cap, cur, h1, h2, h3, h4, h5, h6, hl, fun j hj => ?_⟩
    rw [← h7, List.getElem?_take, if_pos hj]
    simp
theorem RowP.of_some {w : World} {p : Nat → Prop} {e g n cap : Nat} {cur : Array Value} {xs : List Value} (h2 : p g) (h3 : w.heap[g]? = some (.cells cur e (0, 0))) (h4 : n ≤ cap) (h5 : cap ≤ maxLen) (h6 : cur.size = cap) (hl : xs.length = n)
    (h7 : ∀ j, j < n → cur[j]? = xs[j]?) : RowP w p e 1 (.slice (some ⟨g, 0, none⟩) n cap) n xs := by
  refine ⟨by rw [Nat.mul_one]; exact hl, .inr ⟨g, cap, cur, rfl, h2, h3, h4, h5, by rw [Nat.mul_one]; exact h6, ?_⟩⟩
  rw [Nat.mul_one]
  apply List.ext_getElem?
  intro j
  rw [List.getElem?_take]
  by_cases hj : j < n
  · rw [if_pos hj, ← h7 j hj]; simp
  · rw [if_neg hj, List.getElem?_eq_none (by omega)]
def RRowP (p : Nat → Prop) (w : World) (n : Nat) (ys : List Value) (e : Ending) (w' : World) : Prop :=
  ∃ v' row, e = .returned v' ∧ RowP w' p 3 1 v' n ys ∧ w.grownBy w' row ∧ ∀ k, row = some k → p k

theorem delete_any {w : World} {p : Nat → Prop} {v : Value} {l : List Int} (hr : RowP w p 3 1 v l.length (l.map (Value.int .i64))) (hn : l.length ≤ 60000) {i : Nat} (hi : i < l.length) (j : Int) (hj : j = (i : Int) + 1) :
    Calls Tryz.prog 165 #[v, .int .i64 i, .int .i64 j] w (RRowP p w (l.length - 1) ((l.eraseIdx i).map (Value.int .i64))) := by
  obtain ⟨g, cap, cur, rfl, h2, h3, h4, h5, h6, h7, h8⟩ := hr.some_ (by omega)
  obtain rfl : j = ((i + 1 : Nat) : Int) := by omega
  unfold maxLen at h5
  have hc := Any.slices_Delete_int_cells laysDel g 0 l.length cap i (i + 1) l w (Nat.le_refl _) h4 (by omega) (by omega) (by omega)
    (fun j hj => by
      rw [Nat.zero_add]
      refine cellOf h3 ?_
      rw [h8 j hj, List.getElem?_map, List.getElem?_eq_getElem hj]
      simp [List.getD_eq_getElem?_getD, List.getElem?_eq_getElem hj])
    (fun j _ => freeOf h3 _)
  refine Calls.mono (P := Tryz.prog) (f := 165) hc ?_
  rintro e w' ⟨rfl, q, rfl⟩
  have hh : (w.drewN q).heap[g]? = some (.cells cur 3 (0, 0)) := h3
  refine ⟨_, some g, rfl, ?_, grown_trans (grown_drewN w q _) (grown_setCells _ _ _ _), fun k hk => by cases hk; exact h2⟩
  rw [show l.length - (i + 1 - i) = l.length - 1 by omega]
  refine RowP.of_some h2 (heap_setCells_same _ _ _ _ hh) (by omega) (by unfold maxLen; omega) (by rw [putMany_size]; exact h6) (by simp [List.length_eraseIdx, hi]) fun j hj => ?_
  rw [putMany_get _ _ _ _ (by omega), if_pos ⟨Nat.zero_le _, by simp; omega⟩, Nat.sub_zero, List.getElem?_map, List.getElem?_map, List.take_of_length_le (Nat.le_refl _), List.eraseIdx_eq_take_drop_succ, List.getElem?_append_left (by simp; omega)]

theorem put_two (l : List Int) (cur : Array Value) (i : Nat) (x : Int) (hi : i < l.length) (hs : l.length + 1 ≤ cur.size) (h8 : ∀ j, j < i → cur[j]? = (l.map (Value.int .i64))[j]?) :
    ∀ j, j < l.length + 1 → (putMany (putMany cur (i + 1) ((l.map (Value.int .i64)).drop i)) i [.int .i64 x])[j]? = ((l.take i ++ [x] ++ l.drop i).map (Value.int .i64))[j]? := by
  intro j hj
  rw [putMany_get _ _ _ _ (by rw [putMany_size]; omega)]
  have e : (l.take i ++ [x] ++ l.drop i).map (Value.int .i64) = (l.map (Value.int .i64)).take i ++ (.int .i64 x :: (l.map (Value.int .i64)).drop i) := by simp
  rw [e]
  rcases Nat.lt_trichotomy j i with h | h | h
  · rw [if_neg (by simp; omega), putMany_get _ _ _ _ (by omega), if_neg (by omega), List.getElem?_append_left (by simp; omega), List.getElem?_take, if_pos h, h8 j h]
  · subst h
    rw [if_pos ⟨Nat.le_refl _, by simp⟩, Nat.sub_self, List.getElem?_append_right (by simp; omega)]
    have : j - ((l.map (Value.int .i64)).take j).length = 0 := by simp; omega
    rw [this]; rfl
  · rw [if_neg (by simp; omega), putMany_get _ _ _ _ (by omega), if_pos ⟨by omega, by simp; omega⟩, List.getElem?_append_right (by simp; omega)]
    have : j - ((l.map (Value.int .i64)).take i).length = j - (i + 1) + 1 := by simp; omega
    rw [this, List.getElem?_cons_succ]
theorem put_three (l : List Int) (i : Nat) (x : Int) (Z : Array Value) (hi : i < l.length) (hz : ((l.map (Value.int .i64)).take i).length + (l.length + 1 - i) ≤ (((l.map (Value.int .i64)).take i).toArray ++ Z).size) :
    ∀ j, j < l.length + 1 → (putMany (putMany (((l.map (Value.int .i64)).take i).toArray ++ Z) i [.int .i64 x]) (i + 1) ((l.map (Value.int .i64)).drop i))[j]? = ((l.take i ++ [x] ++ l.drop i).map (Value.int .i64))[j]? := by
  intro j hj
  have hz' : l.length + 1 ≤ (((l.map (Value.int .i64)).take i).toArray ++ Z).size := by
    have : ((l.map (Value.int .i64)).take i).length = i := by simp; omega
    omega
  rw [putMany_get _ _ _ _ (by rw [putMany_size]; omega)]
  have e : (l.take i ++ [x] ++ l.drop i).map (Value.int .i64) = (l.map (Value.int .i64)).take i ++ (.int .i64 x :: (l.map (Value.int .i64)).drop i) := by simp
  rw [e]
  rcases Nat.lt_trichotomy j i with h | h | h
  · rw [if_neg (by omega), putMany_get _ _ _ _ (by omega), if_neg (by simp; omega), List.getElem?_append_left (by simp; omega), Array.getElem?_append_left (by simp; omega)]
    simp
  · subst h
    rw [if_neg (by omega), putMany_get _ _ _ _ (by omega), if_pos ⟨Nat.le_refl _, by simp⟩, Nat.sub_self, List.getElem?_append_right (by simp; omega)]
    have : j - ((l.map (Value.int .i64)).take j).length = 0 := by simp; omega
    rw [this]; rfl
  · rw [if_pos ⟨by omega, by simp; omega⟩, List.getElem?_append_right (by simp; omega)]
    have : j - ((l.map (Value.int .i64)).take i).length = j - (i + 1) + 1 := by simp; omega
    rw [this, List.getElem?_cons_succ]
theorem insertsAt_mid (l : List Int) (i : Nat) (hi : i < l.length) : InsertsAt i l := by
  intro W p v b x hr hl _ hx hpb
  obtain ⟨g, cap, cur, rfl, h2, h3, h4, h5, h6, h7, h8⟩ := hr.some_ (by omega)
  unfold maxLen at h5
  have hbg : b ≠ g := fun e => hpb (e ▸ h2)
  have hgl := (Array.getElem?_eq_some_iff.1 h3).1
  have hcell : ∀ (j : Nat) (v : Value), (l.map (Value.int .i64))[j]? = some v → W.cell? ⟨g, 0 + j, none⟩ = some v := fun j v hv => by
    rw [Nat.zero_add]
    refine cellOf h3 ?_
    have hjl := (List.getElem?_eq_some_iff.1 hv).1
    rw [h8 j (by simpa using hjl)]; exact hv
  have hvx : ∀ (j : Nat) (v : Value), [Value.int .i64 x][j]? = some v → W.cell? ⟨b, 0 + j, none⟩ = some v := fun j v hv => by
    match j, hv with
    | 0, hv => cases hv; exact cellOf hx rfl
  by_cases hroom : l.length + 1 ≤ cap
  · have hc := Any2.slices_Insert_int_shift laysIns g 0 l.length cap i b 0 1 1 (l.map (Value.int .i64)) [.int .i64 x] W hi (by omega) hroom (by omega) hbg (by simp) rfl hcell
      (fun j hj => by rw [Nat.zero_add, cellOf h3 (Array.getElem?_eq_getElem (by omega))]; rfl) (fun j _ => freeOf h3 _) hvx (ints_one l) (by simp [Value.oneCell'])
      3 3 1 cur.size (by simp [World.shape?, hx]) (by simp [World.shape?, h3]) (by omega) (freeOf hx _) (freeOf hx _)
    refine Calls.mono (P := Tryz.prog) (f := 162) hc ?_
    rintro e w' ⟨rfl, rfl⟩
    have hh : W.drew.heap[g]? = some (.cells cur 3 (0, 0)) := h3
    refine ⟨_, some g, rfl, ?_, grown_trans (grown_drewN W 1 _) (grown_trans (grown_setCells _ _ _ _) (grown_setCells _ _ _ _)), fun k hk => by cases hk; exact h2⟩
    rw [Nat.zero_add, Nat.zero_add]
    exact RowP.of_some (.inl h2) (heap_setCells_same _ _ _ _ (heap_setCells_same _ _ _ _ hh)) hroom (by unfold maxLen; omega) (by rw [putMany_size, putMany_size]; exact h6) (by simp; omega)
      (put_two l cur i x hi (by omega) fun j hj => h8 j (by omega))
  · have hc := Any2.slices_Insert_int_grow laysIns g 0 l.length cap i b 0 1 1 (l.map (Value.int .i64)) [.int .i64 x] W hi (by omega) h4 (by omega) (by omega) (by simp) rfl hcell hvx (ints_one l) (by simp [Value.oneCell'])
    refine Calls.mono (P := Tryz.prog) (f := 162) hc ?_
    rintro e w' ⟨rfl, rfl⟩
    have hG := grownCap_ge W (l.length + 1) cap (laysIns_ren.t 3)
    have hGm := grownCap_le_maxLen W (l.length + 1) cap (laysIns_ren.t 3) (by unfold maxLen; omega)
    generalize grownCap W (l.length + 1) cap (laysIns_ren.t 3) = G at hG hGm ⊢
    refine ⟨_, none, rfl, ?_, ?_, fun k hk => by cases hk⟩
    · have hsz : ∀ k, (Builtin.zeroCells (Value.int .i64 0).cells k).size = k := fun k => by simp [Builtin.zeroCells, Value.cells]
      have e : ((l.map (Value.int .i64)).take i).toArray ++ Builtin.zeroCells (Value.int .i64 0).cells (l.length + 1 - i) ++ Builtin.zeroCells (Value.int .i64 0).cells (G - (l.length + 1)) = ((l.map (Value.int .i64)).take i).toArray ++ (Builtin.zeroCells (Value.int .i64 0).cells (l.length + 1 - i) ++ Builtin.zeroCells (Value.int .i64 0).cells (G - (l.length + 1))) := by simp
      rw [e]
      have hh := heap_alloc_new W (.cells (((l.map (Value.int .i64)).take i).toArray ++ (Builtin.zeroCells (Value.int .i64 0).cells (l.length + 1 - i) ++ Builtin.zeroCells (Value.int .i64 0).cells (G - (l.length + 1)))) 3)
      have hs : (((l.map (Value.int .i64)).take i).toArray ++ (Builtin.zeroCells (Value.int .i64 0).cells (l.length + 1 - i) ++ Builtin.zeroCells (Value.int .i64 0).cells (G - (l.length + 1)))).size = G := by
        simp only [Array.size_append, hsz, List.size_toArray, List.length_take, List.length_map]; omega
      refine RowP.of_some (.inr (Nat.le_refl _)) (heap_setCells_same _ _ _ _ (show _ = _ from heap_setCells_same _ _ _ _ (show _ = _ from hh))) hG hGm (by rw [putMany_size, putMany_size]; exact hs) (by simp; omega) ?_
      exact put_three l i x _ hi (by rw [hs]; simp; omega)
    · have hA := fun (k : Nat) (hk : k < W.heap.size) => Below.heap_alloc W (.cells (((l.map (Value.int .i64)).take i).toArray ++ Builtin.zeroCells (Value.int .i64 0).cells (l.length + 1 - i) ++ Builtin.zeroCells (Value.int .i64 0).cells (G - (l.length + 1))) (laysIns_ren.t 3)) k hk
      have hne : ∀ k, k < W.heap.size → k ≠ W.heap.size := fun k hk => by omega
      refine ⟨?_, ?_, ?_, ?_, fun k hk _ => ?_⟩
      · exact (setCells_parts _ _ _ _).1.trans (show _ = _ from (setCells_parts _ _ _ _).1)
      · exact (setCells_parts _ _ _ _).2.1.trans (show _ = _ from (setCells_parts _ _ _ _).2.1)
      · exact (setCells_parts _ _ _ _).2.2.1.trans (show _ = _ from (setCells_parts _ _ _ _).2.2.1)
      · rw [(setCells_parts _ _ _ _).2.2.2]
        show _ ≤ ((World.setCells _ _ _ _)).heap.size
        rw [(setCells_parts _ _ _ _).2.2.2]
        show _ ≤ (World.alloc _ _).heap.size
        simp
      · exact (heap_setCells_far (hne k hk) _ _ _).trans (show _ = _ from (heap_setCells_far (hne k hk) _ _ _).trans (hA k hk))
theorem insertsAt_any (l : List Int) (i : Nat) : InsertsAt i l := by
  intro W p v b x hr hl hi hx hpb
  rcases Nat.lt_or_ge i l.length with h | h
  · exact insertsAt_mid l i h W p v b x hr hl hi hx hpb
  · obtain rfl : i = l.length := by omega
    exact insertsAt_end l W p v b x hr hl hi hx hpb
theorem posOf_mem {l : List Int} {x : Int} (h : x ∈ l) : posOf l x = ((l.idxOf x : Nat) : Int) ∧ l.idxOf x < l.length ∧ l.eraseIdx (l.idxOf x) = l.erase x := by
  refine ⟨if_pos h, List.idxOf_lt_length_iff.2 h, ?_⟩
  induction l with
  | nil => cases h
  | cons y r ih =>
    by_cases e : y = x
    · subst e; simp
    · have hr : x ∈ r := by rcases List.mem_cons.1 h with h | h; exact absurd h.symm e; exact h
      have h2 : (y :: r).idxOf x = r.idxOf x + 1 := by
        rw [List.idxOf_cons]
        have : (y == x) = false := by simpa using e
        rw [this]; rfl
      rw [h2, List.eraseIdx_cons_succ, ih hr, List.erase_cons_tail (by simpa using e)]

theorem Remove_ok {w : World} {own : Ow} {ptr : Nat → Nat} {tb : Nat} {T : Tr} (hT : TreeAt w own ptr tb T) (hO : Owned own w) {p k : Nat} {pd kd : Nd} (hp : T.nodes[p]? = some (some pd)) (hk : T.nodes[k]? = some (some kd))
    (hpar : kd.parent = (p : Int)) (hpk : p ≠ k) (hkl : pd.kids.length ≤ 60000) (hin : (k : Int) ∈ pd.kids) :
    Calls Tryz.prog 131 #[.pointer (some ⟨tb, 0, none⟩), .int .i64 k] w (ErrAfter own w tb 0 (T.unlink p k pd kd)) := by
  obtain ⟨hps, hil, her⟩ := posOf_mem hin
  obtain ⟨avp, kvp, bp, op, _, hkp⟩ := hT.node p pd hp
  obtain ⟨avk, kvk, bk, ok, _, _⟩ := hT.node k kd hk
  obtain ⟨g, gcap, _, _, c3, cg, _⟩ := hT.at hp
  obtain ⟨ka, kcap, rfl, kc1, kc2⟩ := hkp.len
  have cp3 := cellOf bp (i := 3) (v := .slice ka pd.kids.length kcap) rfl
  have ck4 := cellOf bk (i := 4) (v := .int .i64 (p : Int)) (by rw [← hpar]; rfl)
  have hpb : (p : Int) < T.nodes.length := by have := (List.getElem?_eq_some_iff.1 hp).1; omega
  have hpkb : ptr p ≠ ptr k := fun e => by rw [e, ok] at op; simp at op; omega
  have HK := qh (Tr.get_of hk)
  have HNP := qh hp
  have HNK := qh hk
  have HT := qh hT
  have HO := qh hO
  have HBP := qh bp
  have HBK := qh bk
  have HOP := qh op
  have HOK := qh ok
  have HKP := qh hkp
  have HPK := qh hpk
  have HPKB := qh hpkb
  have HPS := qh hps
  have HER := qh her
  have HPAR := qh hpar
  have c3' := fun u : ExtOf w => u.ext.cell c3
  have cg' := fun u : ExtOf w => u.ext.cell cg
  have ck' := fun u : ExtOf w => u.ext.cell ck4
  have hil' : ((pd.kids.idxOf (k : Int) : Nat) : Int) ≤ 60000 := by omega
  clear hp hk hT hO bp bk hkp hpar kc2 op ok hpk hpkb hps her hin
  go_enter Tryz.func131, Tryz.ntmps131
  go_wp2_with fail
  refine (get_some HT.out HK.out).mono ?_
  rintro e w' ⟨rfl, rfl⟩
  go_wp2_with fail
  refine wp_region_ext (by kernel_rfl) (by kernel_rfl) ?_
  repeat (go_big_quiet_step (fail))
  refine wpQuiet_nil ?_
  rintro _ ⟨u, rfl⟩
  obtain ⟨wu, xu⟩ := u
  show Exit.then _ _ Exit.normal _ wu
  clear c3' cg' ck'
  replace cp3 := xu.cell cp3
  have XU := qh xu
  clear xu c3 cg ck4
  go_wp2_with fail
  have hOu : Owned own wu := fun b hb => Nat.lt_of_lt_of_le (HO.out b hb) XU.out.size
  have hTu := HT.out.keep (XU.out.keep HO.out)
  have hrow : RowP wu (fun g => own g = some (4, p)) 3 1 (.slice ka pd.kids.length kcap) pd.kids.length (pd.kids.map (Value.int .i64)) :=
    RowP.move HKP.out fun g hg => ⟨XU.out.keep HO.out g (by simp [hg]), hg⟩
  have HROW := qh hrow
  clear hrow
  refine (index_any HROW.out.rd hkl _).mono ?_
  rintro e w' ⟨rfl, rfl⟩
  rw [HPS.out]
  go_wp2_with fail
  have hdel := delete_any HROW.out hkl hil (((pd.kids.idxOf (k : Int) : Nat) : Int) + 1) rfl
  refine hdel.mono ?_
  clear hdel
  rintro e w3 ⟨v', row, rfl, hr, hg, hrow⟩
  replace hrow : ∀ b, row = some b → own b = some (4, p) := hrow
  rw [HER.out] at hr
  have hlen : (pd.kids.erase (k : Int)).length = pd.kids.length - 1 := by rw [← HER.out, List.length_eraseIdx, if_pos hil]
  rw [← hlen] at hr
  obtain ⟨own1, hs1, hT1, hsame⟩ := kids_plain (XU.out.step HO.out) hTu HNP.out (pd.kids.erase (k : Int)) (fun _ => by rw [HOP.out]; simp) (fun b _ hb => by rw [hb]; simp) (hr.imp fun _ _ h => .inl h) hg hrow
  have hkd : (T.nodes.set p (some { pd with kids := pd.kids.erase (k : Int) }))[k]? = some (some kd) := by
    rw [List.getElem?_set, if_neg HPK.out]; exact HNK.out
  have hT2 := hT1.setParent hkd (-1)
  have hs2 := hs1.setCell (p := ⟨ptr k, 4, none⟩) (fun _ => by show own (ptr k) ≠ none; rw [HOK.out]; simp) (.int .i64 (-1))
  have hsame3 : ∀ b x, own b = some x → x ≠ (4, p) → w3.heap[b]? = w.heap[b]? := fun b x hb hx => by
    have hbl := HO.out b (by simp [hb])
    have hsz := XU.out.size
    rw [hg.block b (by omega) (fun h => by have := hrow b h.symm; rw [hb] at this; exact hx (Option.some.inj this))]
    exact Below.block XU.out b hbl
  have bp3 := (hsame3 _ _ HOP.out (by simp)).trans HBP.out
  have bk3 := (hsame3 _ _ HOK.out (by simp)).trans HBK.out
  have cp3' := cellOf bp3 (i := 3) (v := .slice ka pd.kids.length kcap) rfl
  have fp3 := freeOf bp3 3
  have ck4' := cellOf bk3 (i := 4) (v := .int .i64 kd.parent) rfl
  have fk4 := freeOf bk3 4
  have n1 := HPKB.out
  have n2 := Ne.symm HPKB.out
  obtain ⟨va, vcap, hv, _⟩ := hr.rd.len_of
  have HS2 := qh hs2
  have HT2 := qh hT2
  clear hs1 hT1 hsame hkd hT2 hs2 hsame3 bp3 bk3 hr hg hrow hTu hOu cp3 hlen
  rw [hv] at HS2 HT2 ⊢
  clear hv
  go_wp2
  go_ret
  exact ⟨rfl, own1, ptr, HT2.out, HS2.out⟩
structure Top (own : Ow) (w w' : World) : Prop where
  os : w'.os = w.os
  tape : w'.tape = w.tape
  output : w'.output = w.output
  size : w'.heap.size = w.heap.size
  rest : ∀ b, own b ≠ some (0, 0) → own b ≠ some (1, 0) → w'.heap[b]? = w.heap[b]?
theorem Top.refl (own : Ow) (w : World) : Top own w w := ⟨rfl, rfl, rfl, rfl, fun _ _ _ => rfl⟩
theorem Top.trans {own : Ow} {a b c : World} (h : Top own a b) (k : Top own b c) : Top own a c :=
  ⟨k.os.trans h.os, k.tape.trans h.tape, k.output.trans h.output, k.size.trans h.size, fun x h0 h1 => (k.rest x h0 h1).trans (h.rest x h0 h1)⟩
theorem Top.setCell {own : Ow} {a b : World} (h : Top own a b) {p : Addr} (hp : own p.block = some (0, 0) ∨ own p.block = some (1, 0)) (u : Value) : Top own a (b.setCell p u) :=
  ⟨h.os, h.tape, h.output, by have := h.size; simpa [World.setCell] using this, fun x h0 h1 => (heap_setCell_other _ (fun e => by subst e; rcases hp with hp | hp; exact h0 hp; exact h1 hp)).trans (h.rest x h0 h1)⟩
theorem Top.cell {own : Ow} {w w' : World} (h : Top own w w') {b o : Nat} {v : Value} (hb : own b = none) (hc : w.cell? ⟨b, o, none⟩ = some v) : w'.cell? ⟨b, o, none⟩ = some v :=
  (World.cell?_of_block (a := ⟨b, o, none⟩) (h.rest b (by rw [hb]; simp) (by rw [hb]; simp))).trans hc
theorem Top.step {own : Ow} {w w' : World} (h : Top own w w') (hO : Owned own w) : Step own w own w' :=
  ⟨h.os, h.tape, h.output, Nat.le_of_eq h.size.symm, fun b _ hn => h.rest b (by rw [hn]; simp) (by rw [hn]; simp), fun _ _ => rfl, fun b hb => by rw [h.size]; exact hO b hb⟩
theorem TreeAt.setNone {w : World} {own : Ow} {ptr : Nat → Nat} {tb : Nat} {T : Tr} (h : TreeAt w own ptr tb T) {i g cap : Nat} (hi : i < T.nodes.length)
    (hg : w.heap[tb]? = some (.cells #[.int .i64 T.cap, .int .i64 T.deep, .int .i64 T.count, .slice (some ⟨g, 0, none⟩) T.nodes.length cap] 165 (0, 0))) :
    TreeAt (w.setCell ⟨g, i, none⟩ (.pointer none)) own ptr tb { T with nodes := T.nodes.set i none } := by
  obtain ⟨nv, h1, h2, h3⟩ := h.head
  rw [hg] at h1
  obtain rfl : nv = .slice (some ⟨g, 0, none⟩) T.nodes.length cap := by simp at h1; exact h1.symm
  rcases h3.2 with ⟨h0, _⟩ | ⟨g', cap', cur, q1, q2, q3, q4, q5, q6, q7⟩
  · omega
  obtain ⟨rfl, rfl⟩ : g = g' ∧ cap = cap' := by simp at q1; exact q1
  have k' : ∀ b, own b ≠ own g → (w.setCell ⟨g, i, none⟩ (.pointer none)).heap[b]? = w.heap[b]? := fun b hb => heap_setCell_other _ (fun (e : b = g) => hb (by rw [e]))
  constructor
  · refine ⟨_, (k' tb (by rw [q2, h2]; simp)).trans hg, h2, ?_⟩
    refine ⟨by simp [nodeVals], .inr ⟨g, cap, cur.setIfInBounds i (.pointer none), by simp, q2, by rw [heap_setCell_same q3], by simpa using q4, q5, by simpa using q6, ?_⟩⟩
    apply List.ext_getElem?
    intro j
    have hq : (cur.toList.take (T.nodes.length * 1))[j]? = (nodeVals ptr T.nodes)[j]? := by rw [q7]
    simp only [nodeVals, List.getElem?_mapIdx, List.getElem?_take, List.length_set, Array.toList_setIfInBounds, List.getElem?_set, Nat.mul_one] at hq ⊢
    by_cases hj : i = j
    · subst hj
      rw [if_pos hi, if_pos rfl, if_pos rfl, if_pos (by simp; omega), if_pos hi]
      simp [nodeVal]
    · rw [if_neg hj, if_neg hj, hq]
  · intro j md hj
    rw [List.getElem?_set] at hj
    split at hj
    · try split at hj
      all_goals simp at hj
    · refine (h.nodeAt hj).move fun b x hb hx => ?_
      exact ⟨k' b (by rw [hb, q2]; simp; omega), rfl⟩
theorem TreeAt.kidCell {w : World} {own : Ow} {i : Nat} {kv : Value} {l : List Int} (hr : RowAt w own 3 1 (4, i) kv l.length (l.map (Value.int .i64))) {wr : World} (ht : Top own w wr) {j : Nat} {x : Int} (hx : l[j]? = some x) :
    ∃ g cap, kv = .slice (some ⟨g, 0, none⟩) l.length cap ∧ wr.cell? ⟨g, j, none⟩ = some (.int .i64 x) :=
  RowAt.cell (RowP.move hr fun g hg => ⟨ht.rest g (by rw [hg]; simp) (by rw [hg]; simp), hg⟩) (i := j) (x := .int .i64 x) (by rw [List.getElem?_map, hx]; rfl)

def DropIs (own : Ow) (w : World) (ptr : Nat → Nat) (tb : Nat) (T' : Tr) (e : Ending) (w' : World) : Prop := e = .returned (.tuple #[]) ∧ TreeAt w' own ptr tb T' ∧ Top own w w'
abbrev dropF (tc dc : Nat) : Value := .func (.func 166) #[] #[.pointer (some ⟨tc, 0, none⟩), .pointer (some ⟨dc, 0, none⟩)]
theorem inAny_take (T : Tr) (ks : List Int) (k : Nat) (x : Int) (h : ks[k]? = some x) (j : Nat) : T.inAny (ks.take (k + 1)) j = (T.within j x || T.inAny (ks.take k) j) := by
  obtain ⟨hlt, rfl⟩ := List.getElem?_eq_some_iff.1 h
  unfold Tr.inAny
  rw [List.take_succ_eq_append_getElem hlt, List.any_append, Bool.or_comm]
  simp
theorem drop_fuel {T : Tr} {d : Nat → Nat} (hw : WF T d) {own : Ow} {ptr : Nat → Nat} {tb tc dc : Nat} (htc : own tc = none) (hdc : own dc = none) :
    ∀ (f i : Nat) (nd : Nd) (q : Nat → Bool) (w : World), T.nodes[i]? = some (some nd) → 41 ≤ d i + f → (∀ (j : Nat) (jd : Nd), T.nodes[j]? = some (some jd) → T.within j i = true → q j = false) →
      TreeAt w own ptr tb (T.rid q) → Owned own w → w.cell? ⟨tc, 0, none⟩ = some (.pointer (some ⟨tb, 0, none⟩)) → w.cell? ⟨dc, 0, none⟩ = some (dropF tc dc) →
      Calls Tryz.prog 166 #[.int .i64 i, .pointer (some ⟨tc, 0, none⟩), .pointer (some ⟨dc, 0, none⟩)] w (DropIs own w ptr tb (T.rid fun j => T.within j i || q j)) := by
  intro f
  induction f with
  | zero => intro i nd q w h h1; have := hw.deep i nd h; have := hw.small.deep1; omega
  | succ f ih =>
    intro i nd q w h h1 hq hT hO ctc cdc
    have hqi := hq i nd h (hw.within_self h)
    have hi' : (T.rid q).nodes[i]? = some (some nd) := Tr.rid_some.2 ⟨hqi, h⟩
    obtain ⟨av, kv, bi, oi, _, hkr⟩ := hT.node i nd hi'
    obtain ⟨ka, kcap, rfl, kc1, kc2⟩ := hkr.len
    obtain ⟨g, gcap, _, _, c3, cg, _⟩ := hT.at hi'
    have ck3 := cellOf bi (i := 3) (v := .slice ka nd.kids.length kcap) rfl
    have hlen := hw.small.len
    have hil := (List.getElem?_eq_some_iff.1 h).1
    rw [Tr.rid_len] at c3
    have HW := qh hw
    have HT := qh hT
    have HO := qh hO
    have HH := qh h
    have HQ := qh hq
    have HQI := qh hqi
    have IH := qh ih
    have HKR := qh hkr
    have HTC := qh htc
    have HDC := qh hdc
    have HTCC := qh ctc
    have HDCC := qh cdc
    have HII := qh hi'
    unfold maxLen at kc2
    have hw0 : Top own w w := Top.refl own w
    clear hw hT hO h hq hqi ih hkr htc hdc bi hi' oi cdc
    go_enter Tryz.func166, Tryz.ntmps166
    go_wp2_with fail
    have hstart : TreeAt w own ptr tb (T.rid fun j => T.inAny (nd.kids.take 0) j || q j) := by
      have e : (fun j => T.inAny (nd.kids.take 0) j || q j) = q := by funext j; simp [Tr.inAny]
      rw [e]; exact HT.out
    have HS := qh hstart
    clear hstart ctc c3 cg ck3
    go_loopw [5, 17] (fun _ n wr => ∃ k : Nat, k ≤ nd.kids.length ∧ n = .int .i64 k ∧ Top own w wr ∧ TreeAt wr own ptr tb (T.rid fun j => T.inAny (nd.kids.take k) j || q j)) (fun _ n _ => nd.kids.length - (intOf n).toNat)
    case atStart => exact ⟨0, Nat.zero_le _, rfl, hw0, HS.out⟩
    case round =>
      obtain ⟨k, hk, rfl, htop, htr⟩ := hrel
      have HTR := qh htr
      have HTOP := qh htop
      clear htr htop
      by_cases hlt : k < nd.kids.length
      · obtain ⟨x, hx⟩ : ∃ x, nd.kids[k]? = some x := ⟨nd.kids[k], by simp [hlt]⟩
        obtain ⟨gk, gkc, e, hc⟩ := TreeAt.kidCell HKR.out HTOP.out hx
        cases e
        obtain ⟨j, kd, h3, h4, h5, h6⟩ := HW.out.kid HH.out hx
        subst h3
        have hd := HTOP.out.cell HDC.out HDCC.out
        have ht := HTOP.out.cell HTC.out HTCC.out
        have HX := qh hx
        have H4 := qh h4
        have hmem : (j : Int) ∈ nd.kids := List.mem_of_getElem? hx
        have hqj : ∀ (m : Nat) (md : Nd), T.nodes[m]? = some (some md) → T.within m j = true → (T.inAny (nd.kids.take k) m || q m) = false := fun m md hm hin => by
          rw [HQ.out m md hm (HW.out.kid_within HH.out hmem m md hm hin), Bool.or_false]
          unfold Tr.inAny
          rw [Bool.eq_false_iff]
          intro hany
          obtain ⟨y, hy, hyin⟩ := List.any_eq_true.1 hany
          obtain ⟨jy, yd, rfl, hyn, _⟩ := (HW.out.kids i nd HH.out).2 y (List.mem_of_mem_take hy)
          refine HW.out.kids_apart HH.out (List.mem_of_mem_take hy) hmem (fun e => ?_) m md hm hyin hin
          subst e
          have hnd := (HW.out.kids i nd HH.out).1
          obtain ⟨hlt', he⟩ := List.getElem?_eq_some_iff.1 hx
          rw [← List.take_append_drop k nd.kids, List.nodup_append] at hnd
          refine hnd.2.2 _ hy _ ?_ rfl
          rw [List.drop_eq_getElem_cons hlt', he]
          exact List.mem_cons_self
        have HQJ := qh hqj
        have hOr : Owned own wr := fun b hb => by rw [HTOP.out.size]; exact HO.out b hb
        have HOR := qh hOr
        have h41 : 41 ≤ d j + f := by omega
        have hrec := IH.out j kd _ wr H4.out h41 HQJ.out HTR.out HOR.out ht hd
        have HREC := qh hrec
        clear hx h4 h5 h6 hqj hOr hrec hmem
        go_wp2_with (go_at_call 166; refine HREC.out.mono ?_; rintro e w' ⟨rfl, hT', htop'⟩)
        go_roundw
        case rel =>
          refine ⟨k + 1, by omega, by go_num, HTOP.out.trans htop', ?_⟩
          have e : (fun m : Nat => T.inAny (nd.kids.take (k + 1)) m || q m) = fun m : Nat => T.within m j || (T.inAny (nd.kids.take k) m || q m) := by
            funext m; rw [inAny_take T nd.kids k j HX.out, Bool.or_assoc]
          rw [e]; exact hT'
        case measure => simp [intOf]; omega
      · have hkl : k = nd.kids.length := by omega
        have ht := HTOP.out.cell HTC.out HTCC.out
        have htr := HTR.out
        rw [hkl, List.take_length] at htr
        have hany : T.inAny nd.kids i = false := by
          unfold Tr.inAny
          rw [Bool.eq_false_iff]
          intro hany
          obtain ⟨y, hy, hyin⟩ := List.any_eq_true.1 hany
          obtain ⟨n, hn⟩ := List.getElem?_of_mem hy
          obtain ⟨jy, yd, rfl, hyn, _, hyd⟩ := HW.out.kid HH.out hn
          have := (HW.out.within_depth i nd HH.out hyin).1
          omega
        have hi2 : (T.rid fun j => T.inAny nd.kids j || q j).nodes[i]? = some (some nd) := Tr.rid_some.2 ⟨by rw [hany, HQI.out]; rfl, HH.out⟩
        obtain ⟨nv, hbt, hot, hrow⟩ := htr.head
        obtain ⟨g', gcap', hnv, hcell⟩ := hrow.cell (i := i) (x := .pointer (some ⟨ptr i, 0, none⟩)) (by simp [nodeVals, List.getElem?_mapIdx, hi2, nodeVal])
        subst hnv
        obtain ⟨hog, hfg⟩ : own g' = some (1, 0) ∧ wr.frozen? ⟨g', i, none⟩ = false := by
          rcases hrow.2 with ⟨h0, _⟩ | ⟨g2, cap2, cur, q1, q2, q3, _⟩
          · rw [Tr.rid_len] at h0; omega
          · cases q1; exact ⟨q2, freeOf q3 i⟩
        obtain ⟨_, _, e0, hc1, hc2⟩ := hrow.len
        cases e0
        have hs1 := htr.setNone (i := i) (by rw [Tr.rid_len]; exact hil) hbt
        have hs2 := hs1.setCount ((T.rid fun j => T.inAny nd.kids j || q j).count - 1)
        have hs3 : TreeAt ((wr.setCell ⟨g', i, none⟩ (.pointer none)).setCell ⟨tb, 2, none⟩ (.int .i64 ((T.rid fun j => T.inAny nd.kids j || q j).count - 1))) own ptr tb (T.rid fun j => T.within j i || q j) := by
          have e1 := Tr.rid_set (q := fun j => T.inAny nd.kids j || q j) HH.out (by rw [hany, HQI.out]; rfl)
          have e2 : (T.rid fun j => decide (j = i) || (T.inAny nd.kids j || q j)) = T.rid fun j => T.within j i || q j := Tr.rid_congr fun j jd hj => by
            rw [← Bool.or_assoc, HW.out.inAny_kids HH.out hj]
          rw [← e2, ← e1]
          exact hs2
        have hs4 : Top own w ((wr.setCell ⟨g', i, none⟩ (.pointer none)).setCell ⟨tb, 2, none⟩ (.int .i64 ((T.rid fun j => T.inAny nd.kids j || q j).count - 1))) := (HTOP.out.setCell (.inr hog) _).setCell (.inl hot) _
        have ngt : g' ≠ tb := fun e => by rw [e, hot] at hog; cases hog
        have ngt' := Ne.symm ngt
        have ct3 := cellOf hbt (i := 3) (v := .slice (some ⟨g', 0, none⟩) (T.rid fun j => T.inAny nd.kids j || q j).nodes.length gcap') rfl
        have ct2 := cellOf hbt (i := 2) (v := .int .i64 (T.rid fun j => T.inAny nd.kids j || q j).count) rfl
        have ft2 := freeOf hbt 2
        have hcnt : 0 ≤ (T.rid fun j => T.inAny nd.kids j || q j).count ∧ (T.rid fun j => T.inAny nd.kids j || q j).count ≤ 2000 := by
          have h1 : (T.rid fun j => T.inAny nd.kids j || q j).nodes.countP Option.isSome ≤ (T.rid fun j => T.inAny nd.kids j || q j).nodes.length := List.countP_le_length
          rw [Tr.rid_len] at h1
          show 0 ≤ (((T.rid fun j => T.inAny nd.kids j || q j).nodes.countP Option.isSome : Nat) : Int) ∧ (((T.rid fun j => T.inAny nd.kids j || q j).nodes.countP Option.isSome : Nat) : Int) ≤ 2000
          omega
        rw [Tr.rid_len] at ct3 hc1
        have HS3 := qh hs3
        have HS4 := qh hs4
        have ntc : tc ≠ g' := fun e => by have := HTC.out; rw [e, hog] at this; cases this
        have ntc' : tc ≠ tb := fun e => by have := HTC.out; rw [e, hot] at this; cases this
        generalize (T.rid fun j => T.inAny nd.kids j || q j).count = C at *
        obtain ⟨hcn0, hcn1⟩ := hcnt
        have ntc2 := Ne.symm ntc
        have ntc3 := Ne.symm ntc'
        clear hs1 hs2 hs3 hs4 htr hrow hbt hot hog hi2 hany hkl
        go_wp2
        go_end0
        exact ⟨rfl, HS3.out, HS4.out⟩
theorem Drop_ok {w : World} {own : Ow} {ptr : Nat → Nat} {tb : Nat} {T : Tr} (hT : TreeAt w own ptr tb T) (hO : Owned own w) {d : Nat → Nat} (hw : WF T d) {i : Nat} {nd : Nd} (hi : T.nodes[i]? = some (some nd)) (h0 : i ≠ 0) (hp : nd.parent = -1) :
    Calls Tryz.prog 134 #[.pointer (some ⟨tb, 0, none⟩), .int .i64 i] w (ErrAfter own w tb 0 (T.rid fun j => T.within j i)) := by
  have x1 := (Ext.refl w).alloc (.cells #[.pointer (some ⟨tb, 0, none⟩)] 46)
  have x2 : Ext w ((w.alloc (.cells #[.pointer (some ⟨tb, 0, none⟩)] 46)).alloc (.cells #[dropF w.heap.size (w.heap.size + 1)] 197)) := x1.alloc _
  have hT1 := hT.keep (x1.keep hO)
  obtain ⟨av, kv, hb, _⟩ := hT1.node _ _ hi
  have c := cellOf hb (i := 4) (v := .int .i64 (-1)) (by rw [← hp]; rfl)
  have hT2 := hT.keep (x2.keep hO)
  rw [← Tr.rid_none hw.count] at hT2
  have hO2 : Owned own ((w.alloc (.cells #[.pointer (some ⟨tb, 0, none⟩)] 46)).alloc (.cells #[dropF w.heap.size (w.heap.size + 1)] 197)) := fun b hb => Nat.lt_of_lt_of_le (hO b hb) x2.size
  have htc : own w.heap.size = none := by
    cases ho : own w.heap.size with
    | none => rfl
    | some x => have := hO w.heap.size (by simp [ho]); omega
  have hdc : own (w.heap.size + 1) = none := by
    cases ho : own (w.heap.size + 1) with
    | none => rfl
    | some x => have := hO (w.heap.size + 1) (by simp [ho]); omega
  have hd := drop_fuel hw htc hdc 50 i nd (fun _ => false) _ hi (by omega) (fun _ _ _ _ => rfl) hT2 hO2 (by simp [go_sem]) (by simp [go_sem])
  have hib : ((i : Int) == 0) = false := by simp; omega
  have H := qh (Tr.get_of hi)
  have HT1 := qh hT1
  have HD := qh hd
  have HX := qh x2
  have HO := qh hO
  have e : (T.rid fun j => T.within j i || false) = T.rid fun j => T.within j i := by simp
  have HE := qh e
  clear hT hO hw hi h0 hp x1 x2 hT1 hb hT2 hO2 htc hdc hd e
  go_enter Tryz.func134, Tryz.ntmps134
  go_wp2_with (first
    | (go_at_call 87; refine (get_some HT1.out H.out).mono ?_; rintro e w' ⟨rfl, rfl⟩)
    | (go_at_call 166; refine HD.out.mono ?_; rintro e w' ⟨rfl, hT', htop⟩))
  go_ret
  rw [HE.out] at hT'
  have hs := HX.out.step HO.out
  exact ⟨rfl, own, ptr, hT', hs.trans (htop.step hs.owned)⟩
structure Ms where
  count : Int
  height : Int
  e : Int
def Ms.one (n : PN) (deep : Int) (m : Ms) : Ms := ⟨m.count + 1, max m.height deep, if n.bad then 1 else if 8192 < (anewB n.text).size ∧ m.e = 0 then 10 else m.e⟩
mutual
def PN.look (deep : Int) (m : Ms) : PN → Ms
  | .mk t a s ks => PN.looks (deep + 1) (Ms.one (.mk t a s ks) deep m) ks
def PN.looks (deep : Int) (m : Ms) : List PN → Ms
  | [] => m
  | k :: r => PN.looks deep (PN.look deep m k) r
end
theorem PN.look_eq (deep : Int) (m : Ms) (n : PN) : PN.look deep m n = PN.looks (deep + 1) (Ms.one n deep m) n.kids := by cases n; rfl
mutual
def PN.short : PN → Bool
  | .mk _ a s ks => decide (s.size ≤ 100000) && decide (a.length ≤ 60000) && PN.shorts ks
def PN.shorts : List PN → Bool
  | [] => true
  | k :: r => PN.short k && PN.shorts r
end
theorem PN.short_eq (n : PN) : n.short = (decide (n.text.size ≤ 100000) && decide (n.attrs.length ≤ 60000) && PN.shorts n.kids) := by cases n; rfl
theorem PN.shorts_mem {l : List PN} (h : PN.shorts l = true) {k : PN} (hk : k ∈ l) : k.short = true := by
  induction l with
  | nil => cases hk
  | cons x r ih =>
    simp only [PN.shorts, Bool.and_eq_true] at h
    rcases List.mem_cons.1 hk with rfl | hk
    · exact h.1
    · exact ih h.2 hk
theorem looks_snoc (deep : Int) : ∀ (l : List PN) (m : Ms) (k : PN), PN.looks deep m (l ++ [k]) = PN.look deep (PN.looks deep m l) k := by
  intro l
  induction l with
  | nil => intro m k; rfl
  | cons x r ih => intro m k; simp only [List.cons_append, PN.looks]; exact ih _ _
theorem looks_take (deep : Int) (m : Ms) (l : List PN) (i : Nat) (k : PN) (h : l[i]? = some k) : PN.looks deep m (l.take (i + 1)) = PN.look deep (PN.looks deep m (l.take i)) k := by
  obtain ⟨hlt, rfl⟩ := List.getElem?_eq_some_iff.1 h
  rw [List.take_succ_eq_append_getElem hlt, looks_snoc]
theorem looks_spec : ∀ (l : List PN), (∀ k ∈ l, ∀ (deep : Int) (m : Ms), (PN.look deep m k).count = m.count + k.size ∧ (PN.look deep m k).height = max m.height (deep + k.high) ∧ ((PN.look deep m k).e = 0 ↔ m.e = 0 ∧ k.ok = true)) →
    ∀ (deep : Int) (m : Ms), (PN.looks deep m l).count = m.count + PN.sizes l ∧ (max (PN.looks deep m l).height (deep - 1)) = max m.height (deep - 1 + PN.highs l) ∧ m.height ≤ (PN.looks deep m l).height ∧ ((PN.looks deep m l).e = 0 ↔ m.e = 0 ∧ PN.oks l = true) := by
  intro l
  induction l with
  | nil => intro _ deep m; simp [PN.looks, PN.sizes, PN.highs, PN.oks]
  | cons k r ih =>
    intro h deep m
    obtain ⟨h1, h2, h3⟩ := h k (by simp) deep m
    obtain ⟨g1, g2, g3, g4⟩ := ih (fun x hx => h x (by simp [hx])) deep (PN.look deep m k)
    simp only [PN.looks, PN.sizes, PN.highs, PN.oks]
    refine ⟨by rw [g1, h1]; push_cast; omega, by omega, by omega, ?_⟩
    rw [g4, h3, Bool.and_eq_true, and_assoc]
theorem look_spec : ∀ (n : PN) (deep : Int) (m : Ms), (PN.look deep m n).count = m.count + n.size ∧ (PN.look deep m n).height = max m.height (deep + n.high) ∧ ((PN.look deep m n).e = 0 ↔ m.e = 0 ∧ n.ok = true) := by
  refine PN.induct _ fun n ih deep m => ?_
  obtain ⟨g1, g2, g3, g4⟩ := looks_spec n.kids ih (deep + 1) (Ms.one n deep m)
  rw [PN.look_eq, PN.size_eq, PN.high_eq, PN.ok_eq]
  have e1 : (Ms.one n deep m).count = m.count + 1 := rfl
  have e2 : (Ms.one n deep m).height = max m.height deep := rfl
  rw [e1] at g1
  rw [e2] at g2 g3
  refine ⟨by rw [g1]; push_cast; omega, by omega, ?_⟩
  rw [g4]
  show (if n.bad then (1 : Int) else if 8192 < (anewB n.text).size ∧ m.e = 0 then 10 else m.e) = 0 ∧ _ ↔ _
  cases hb : n.bad with
  | true => simp
  | false =>
    simp only [Bool.false_eq_true, if_false, Bool.not_false, Bool.true_and, Bool.and_eq_true, decide_eq_true_eq]
    by_cases hl : 8192 < (anewB n.text).size
    · by_cases he : m.e = 0
      · rw [if_pos ⟨hl, he⟩]
        constructor
        · intro h; exact absurd h.1 (by decide)
        · intro h; omega
      · rw [if_neg (fun h => he h.2)]
        constructor
        · intro h; exact absurd h.1 he
        · intro h; exact absurd h.1 he
    · rw [if_neg (fun h => hl h.1)]
      constructor
      · intro h; exact ⟨h.1, by omega, h.2⟩
      · intro h; exact ⟨h.1, h.2.2⟩
theorem sizes_append : ∀ (l r : List PN), PN.sizes (l ++ r) = PN.sizes l + PN.sizes r := by
  intro l
  induction l with
  | nil => intro r; simp [PN.sizes]
  | cons x l ih => intro r; simp only [List.cons_append, PN.sizes, ih]; omega
theorem sizes_take (l : List PN) (k : Nat) : PN.sizes (l.take k) ≤ PN.sizes l := by
  have := sizes_append (l.take k) (l.drop k)
  rw [List.take_append_drop] at this; omega
theorem sizes_take_succ {l : List PN} {i : Nat} {k : PN} (h : l[i]? = some k) : PN.sizes (l.take i) + k.size ≤ PN.sizes l := by
  obtain ⟨hlt, rfl⟩ := List.getElem?_eq_some_iff.1 h
  have h1 := sizes_take l (i + 1)
  rw [List.take_succ_eq_append_getElem hlt, sizes_append] at h1
  simp only [PN.sizes] at h1; omega
theorem high_lt : ∀ n : PN, n.high < n.size := by
  refine PN.induct _ fun n ih => ?_
  rw [PN.high_eq, PN.size_eq]
  have : ∀ l : List PN, (∀ k ∈ l, k.high < k.size) → PN.highs l ≤ PN.sizes l := by
    intro l
    induction l with
    | nil => intro _; simp [PN.highs]
    | cons x r ih2 => intro h; simp only [PN.highs, PN.sizes]; have := h x (by simp); have := ih2 fun k hk => h k (by simp [hk]); omega
  have := this n.kids ih; omega
theorem highs_le (l : List PN) : PN.highs l ≤ PN.sizes l := by
  induction l with
  | nil => simp [PN.highs]
  | cons x r ih => simp only [PN.highs, PN.sizes]; have := high_lt x; omega
theorem one_e (n : PN) (deep : Int) (m : Ms) (h0 : 0 ≤ m.e) (h1 : m.e ≤ 100) : 0 ≤ (Ms.one n deep m).e ∧ (Ms.one n deep m).e ≤ 100 := by
  unfold Ms.one
  simp only
  split
  · omega
  · split <;> omega
theorem looks_e : ∀ (l : List PN), (∀ k ∈ l, ∀ (deep : Int) (m : Ms), 0 ≤ m.e → m.e ≤ 100 → 0 ≤ (PN.look deep m k).e ∧ (PN.look deep m k).e ≤ 100) → ∀ (deep : Int) (m : Ms), 0 ≤ m.e → m.e ≤ 100 → 0 ≤ (PN.looks deep m l).e ∧ (PN.looks deep m l).e ≤ 100 := by
  intro l
  induction l with
  | nil => intro _ deep m h0 h1; exact ⟨h0, h1⟩
  | cons k r ih =>
    intro h deep m h0 h1
    have := h k (by simp) deep m h0 h1
    exact ih (fun x hx => h x (by simp [hx])) deep _ this.1 this.2
theorem look_e : ∀ (n : PN) (deep : Int) (m : Ms), 0 ≤ m.e → m.e ≤ 100 → 0 ≤ (PN.look deep m n).e ∧ (PN.look deep m n).e ≤ 100 := by
  refine PN.induct _ fun n ih deep m h0 h1 => ?_
  rw [PN.look_eq]
  have := one_e n deep m h0 h1
  exact looks_e n.kids ih (deep + 1) _ this.1 this.2
theorem looks_bounds (n : PN) (deep : Int) (m : Ms) (d0 : 0 ≤ deep) (d1 : deep + n.size ≤ 100000) (c0 : 0 ≤ m.count) (c1 : m.count + n.size ≤ 100000) (h0 : 0 ≤ m.height) (h1 : m.height ≤ 100000) (e0 : 0 ≤ m.e) (e1 : m.e ≤ 100) {i : Nat} {k : PN} (hk : n.kids[i]? = some k) :
    deep + 1 + k.size ≤ 100000 ∧ 0 ≤ (PN.looks (deep + 1) (Ms.one n deep m) (n.kids.take i)).count ∧ (PN.looks (deep + 1) (Ms.one n deep m) (n.kids.take i)).count + k.size ≤ 100000 ∧
      0 ≤ (PN.looks (deep + 1) (Ms.one n deep m) (n.kids.take i)).height ∧ (PN.looks (deep + 1) (Ms.one n deep m) (n.kids.take i)).height ≤ 100000 ∧ 0 ≤ (PN.looks (deep + 1) (Ms.one n deep m) (n.kids.take i)).e ∧ (PN.looks (deep + 1) (Ms.one n deep m) (n.kids.take i)).e ≤ 100 := by
  have hs := PN.size_eq n
  have ht := sizes_take_succ hk
  have hh := highs_le (n.kids.take i)
  obtain ⟨g1, g2, g3, g4⟩ := looks_spec (n.kids.take i) (fun k _ => look_spec k) (deep + 1) (Ms.one n deep m)
  have o := one_e n deep m e0 e1
  have oe := looks_e (n.kids.take i) (fun k _ => look_e k) (deep + 1) (Ms.one n deep m) o.1 o.2
  have q1 : (Ms.one n deep m).count = m.count + 1 := rfl
  have q2 : (Ms.one n deep m).height = max m.height deep := rfl
  rw [q1] at g1
  rw [q2] at g2 g3
  refine ⟨by omega, by omega, by omega, by omega, by omega, oe.1, oe.2⟩
theorem bad_attrs {n : PN} (ht : n.tag = 0) (h : 0 < n.attrs.length) : n.bad = true := by
  unfold PN.bad
  rw [if_pos ht]
  cases ha : n.attrs with
  | nil => rw [ha] at h; simp at h
  | cons a b => rfl
theorem bad_kids {n : PN} (ht : n.tag = 0) (h : 0 < n.kids.length) : n.bad = true := by
  unfold PN.bad
  rw [if_pos ht]
  cases ha : n.kids with
  | nil => rw [ha] at h; simp at h
  | cons a b => cases n.attrs <;> rfl
theorem bad_text {n : PN} (ht : n.tag = 0) (h : ¬ 0 < n.attrs.length) (k : ¬ 0 < n.kids.length) : n.bad = false := by
  unfold PN.bad
  rw [if_pos ht, List.eq_nil_of_length_eq_zero (by omega : n.attrs.length = 0), List.eq_nil_of_length_eq_zero (by omega : n.kids.length = 0)]; rfl
theorem bad_tag' {n : PN} (ht : n.tag ≠ 0) (h : ¬ (1 ≤ n.tag ∧ n.tag ≤ 16)) : n.bad = true := by
  unfold PN.bad
  rw [if_neg ht, decide_eq_false h]; rfl
theorem bad_said {n : PN} (ht : n.tag ≠ 0) (h : n.text.size ≠ 0) : n.bad = true := by
  unfold PN.bad
  rw [if_neg ht]
  have : (n.text.size == 0) = false := by simpa using h
  rw [this]; simp
theorem bad_fine {n : PN} (ht : n.tag ≠ 0) (h : 1 ≤ n.tag ∧ n.tag ≤ 16) (k : n.text.size = 0) : n.bad = false := by
  unfold PN.bad
  rw [if_neg ht, decide_eq_true h, k]; rfl
theorem text_none {s : ByteArray} (h : s.size = 0) : s = ByteArray.empty := by
  cases s with
  | mk d =>
    have : d.size = 0 := h
    simp at this; subst this; rfl
theorem text_some {s : ByteArray} (h : s.size ≠ 0) : s.toList.isEmpty = false := by
  rw [ByteArray.toList_eq]
  cases hd : s.data.toList with
  | nil =>
    exfalso; apply h
    show s.data.size = 0
    rw [← Array.length_toList, hd]; rfl
  | cons a b => rfl
def One (w : World) (b : Nat) (v : Value) (t : TypeId) : Prop := w.heap[b]? = some (.cells #[v] t (0, 0))
theorem One.cell {w : World} {b : Nat} {v : Value} {t : TypeId} (h : One w b v t) : w.cell? ⟨b, 0, none⟩ = some v := cellOf h rfl
theorem One.free {w : World} {b : Nat} {v : Value} {t : TypeId} (h : One w b v t) : w.frozen? ⟨b, 0, none⟩ = false := freeOf h 0
theorem One.lt {w : World} {b : Nat} {v : Value} {t : TypeId} (h : One w b v t) : b < w.heap.size := (Array.getElem?_eq_some_iff.1 h).1
theorem One.alloc {w : World} {b : Nat} {v : Value} {t : TypeId} (h : One w b v t) (o : Obj) : One (w.alloc o) b v t := (Below.heap_alloc _ _ _ h.lt).trans h
theorem One.set {w : World} {b : Nat} {v : Value} {t : TypeId} (h : One w b v t) (u : Value) : One (w.setCell ⟨b, 0, none⟩ u) b u t := heap_setCell_same h u
theorem One.far {w : World} {b : Nat} {v : Value} {t : TypeId} (h : One w b v t) {p : Addr} (hp : b ≠ p.block) (u : Value) : One (w.setCell p u) b v t := (heap_setCell_other u hp).trans h
theorem One.ext {w w' : World} {b : Nat} {v : Value} {t : TypeId} (h : One w b v t) (k : Ext w w') : One w' b v t := (Below.block k b h.lt).trans h
theorem One.new (w : World) (v : Value) (t : TypeId) : One (w.alloc (.cells #[v] t)) w.heap.size v t := heap_alloc_new w _
structure Held4 (w : World) (bc bh be bl : Nat) (m : Ms) : Prop where
  c : One w bc (.int .i64 m.count) 3
  h : One w bh (.int .i64 m.height) 3
  e : One w be (.int .i64 m.e) 22
  l : One w bl (.func (.func 203) #[] #[.pointer (some ⟨bc, 0, none⟩), .pointer (some ⟨bh, 0, none⟩), .pointer (some ⟨be, 0, none⟩), .pointer (some ⟨bl, 0, none⟩)]) 218
def LookIs (w0 : World) (bc bh be bl : Nat) (m : Ms) (e : Ending) (w' : World) : Prop := e = .returned (.tuple #[]) ∧ Ext w0 w' ∧ Held4 w' bc bh be bl m
theorem look_any {w0 : World} {bc bh be bl : Nat} (n1 : bc ≠ bh) (n2 : bc ≠ be) (n3 : bc ≠ bl) (n4 : bh ≠ be) (n5 : bh ≠ bl) (n6 : be ≠ bl) (b1 : w0.heap.size ≤ bc) (b2 : w0.heap.size ≤ bh) (b3 : w0.heap.size ≤ be) (b4 : w0.heap.size ≤ bl) :
    ∀ (n : PN), n.short = true → ∀ (nv : Value) (deep : Int) (m : Ms) (w : World), RdN w0 n nv → 0 ≤ deep → deep + n.size ≤ 100000 → 0 ≤ m.count → m.count + n.size ≤ 100000 → 0 ≤ m.height → m.height ≤ 100000 → 0 ≤ m.e → m.e ≤ 100 → Ext w0 w → Held4 w bc bh be bl m →
      Calls Tryz.prog 203 #[nv, .int .i64 deep, .pointer (some ⟨bc, 0, none⟩), .pointer (some ⟨bh, 0, none⟩), .pointer (some ⟨be, 0, none⟩), .pointer (some ⟨bl, 0, none⟩)] w (LookIs w0 bc bh be bl (PN.look deep m n)) := by
  refine PN.induct _ fun n ih hsh nv deep m w hr d0 d1 c0 c1 h0 h1 e0 e1 hx hh => ?_
  obtain ⟨av, kv, rfl, ha, hk⟩ := hr.open
  obtain ⟨aa, acap, rfl, hac⟩ := ha.len_of
  obtain ⟨ka, kcap, rfl, hkc, hkm, hkn, hkr⟩ := hk
  have n1' := Ne.symm n1
  have n2' := Ne.symm n2
  have n3' := Ne.symm n3
  have n4' := Ne.symm n4
  have n5' := Ne.symm n5
  have n6' := Ne.symm n6
  have hbox := heap_alloc_new w (.cells #[.int .i64 n.tag, .slice aa n.attrs.length acap, .string n.text, .slice ka n.kids.length kcap] 34)
  have hh1 : Held4 (w.alloc (.cells #[.int .i64 n.tag, .slice aa n.attrs.length acap, .string n.text, .slice ka n.kids.length kcap] 34)) bc bh be bl m := ⟨hh.c.alloc _, hh.h.alloc _, hh.e.alloc _, hh.l.alloc _⟩
  have x1 := hx.alloc (.cells #[.int .i64 n.tag, .slice aa n.attrs.length acap, .string n.text, .slice ka n.kids.length kcap] 34)
  have sz : (w.alloc (.cells #[.int .i64 n.tag, .slice aa n.attrs.length acap, .string n.text, .slice ka n.kids.length kcap] 34)).heap.size = w.heap.size + 1 := by simp
  have lc : bc ≠ w.heap.size := Nat.ne_of_lt hh.c.lt
  have lh : bh ≠ w.heap.size := Nat.ne_of_lt hh.h.lt
  have le : be ≠ w.heap.size := Nat.ne_of_lt hh.e.lt
  have lc' := Ne.symm lc
  have lh' := Ne.symm lh
  have le' := Ne.symm le
  have HA := qh ha
  have HKR := qh hkr
  have HKN := qh hkn
  have HX := qh hx
  have HH := qh hh
  have HSH := qh hsh
  have IH := qh ih
  unfold maxLen at hkm
  clear ha hkr hkn hx hh hsh ih hr
  go_enter Tryz.func203, Tryz.ntmps203
  go_upto_region 1 with fail
  obtain ⟨wb, hwb⟩ : ∃ wb : World, wb = w.alloc (.cells #[.int .i64 n.tag, .slice aa n.attrs.length acap, .string n.text, .slice ka n.kids.length kcap] 34) := ⟨_, rfl⟩
  rw [← hwb] at hbox hh1 x1 sz ⊢
  clear hwb
  have cc := hh1.c.cell
  have ch := hh1.h.cell
  have ce := hh1.e.cell
  have fc := hh1.c.free
  have fh := hh1.h.free
  have fe := hh1.e.free
  have k0 := cellOf hbox (i := 0) (v := .int .i64 n.tag) rfl
  have k1 := cellOf hbox (i := 1) (v := .slice aa n.attrs.length acap) rfl
  have k2 := cellOf hbox (i := 2) (v := .string n.text) rfl
  have k3 := cellOf hbox (i := 3) (v := .slice ka n.kids.length kcap) rfl
  have HB := qh hbox
  have HH1 := qh hh1
  have HX1 := qh x1
  have SZ := qh sz
  clear hbox hh1 x1 sz
  have hz1 : Held4 ((wb.setCell ⟨bc, 0, none⟩ (.int .i64 (m.count + 1))).setCell ⟨bh, 0, none⟩ (.int .i64 (max m.height deep))) bc bh be bl ⟨m.count + 1, max m.height deep, m.e⟩ :=
    ⟨(HH1.out.c.set _).far n1 _, (HH1.out.h.far n1' _).set _, (HH1.out.e.far n2' _).far n4' _, (HH1.out.l.far n3' _).far n5' _⟩
  have hz2 : Ext w0 ((wb.setCell ⟨bc, 0, none⟩ (.int .i64 (m.count + 1))).setCell ⟨bh, 0, none⟩ (.int .i64 (max m.height deep))) := (HX1.out.setCell b1 _).setCell b2 _
  have hz3 : ((wb.setCell ⟨bc, 0, none⟩ (.int .i64 (m.count + 1))).setCell ⟨bh, 0, none⟩ (.int .i64 (max m.height deep))).heap[w.heap.size]? = some (.cells #[.int .i64 n.tag, .slice aa n.attrs.length acap, .string n.text, .slice ka n.kids.length kcap] 34 (0, 0)) :=
    (heap_setCell_other _ lh').trans ((heap_setCell_other _ lc').trans HB.out)
  have HZ1 := qh hz1
  have HZ2 := qh hz2
  have HZ3 := qh hz3
  clear hz1 hz2 hz3
  go_upto_block 0 with fail
  obtain ⟨wz, hwz⟩ : ∃ wz : World, wz = (wb.setCell ⟨bc, 0, none⟩ (.int .i64 (m.count + 1))).setCell ⟨bh, 0, none⟩ (.int .i64 (max m.height deep)) := ⟨_, rfl⟩
  rw [← hwz] at HZ1 HZ2 HZ3 ⊢
  clear hwz cc ch ce fc fh fe k0 k1 k2 k3
  go_cut [8] (fun _ wx => Ext w0 wx ∧ Held4 wx bc bh be bl (Ms.one n deep m) ∧ wx.cell? ⟨w.heap.size, 3, none⟩ = some (.slice ka n.kids.length kcap))
  case first =>
    have ce : wz.cell? ⟨be, 0, none⟩ = some (.int .i64 m.e) := HZ1.out.e.cell
    have fe := HZ1.out.e.free
    have k0 := cellOf HZ3.out (i := 0) (v := .int .i64 n.tag) rfl
    have k1 := cellOf HZ3.out (i := 1) (v := .slice aa n.attrs.length acap) rfl
    have k2 := cellOf HZ3.out (i := 2) (v := .string n.text) rfl
    have k3 := cellOf HZ3.out (i := 3) (v := .slice ka n.kids.length kcap) rfl
    have hbad1 : n.bad = true → Ext w0 (wz.setCell ⟨be, 0, none⟩ (.int .i64 1)) ∧ Held4 (wz.setCell ⟨be, 0, none⟩ (.int .i64 1)) bc bh be bl (Ms.one n deep m) ∧ (wz.setCell ⟨be, 0, none⟩ (.int .i64 1)).cell? ⟨w.heap.size, 3, none⟩ = some (.slice ka n.kids.length kcap) := fun hb => by
      refine ⟨HZ2.out.setCell b3 _, ?_, cellOf ((heap_setCell_other _ le').trans HZ3.out) rfl⟩
      have e : Ms.one n deep m = ⟨m.count + 1, max m.height deep, 1⟩ := by unfold Ms.one; rw [if_pos hb]
      rw [e]
      exact ⟨HZ1.out.c.far n2 _, HZ1.out.h.far n4 _, HZ1.out.e.set _, HZ1.out.l.far n6' _⟩
    have hlong1 : ∀ wy, n.bad = false → 8192 < (anewB n.text).size → m.e = 0 → Ext wz wy → Ext w0 (wy.setCell ⟨be, 0, none⟩ (.int .i64 10)) ∧ Held4 (wy.setCell ⟨be, 0, none⟩ (.int .i64 10)) bc bh be bl (Ms.one n deep m) ∧ (wy.setCell ⟨be, 0, none⟩ (.int .i64 10)).cell? ⟨w.heap.size, 3, none⟩ = some (.slice ka n.kids.length kcap) := fun wy hb hl he hy => by
      refine ⟨(HZ2.out.trans hy).setCell b3 _, ?_, cellOf ((heap_setCell_other _ le').trans (hy.block HZ3.out)) rfl⟩
      have e : Ms.one n deep m = ⟨m.count + 1, max m.height deep, 10⟩ := by unfold Ms.one; rw [if_neg (by rw [hb]; decide), if_pos ⟨hl, he⟩]
      rw [e]
      exact ⟨(HZ1.out.c.ext hy).far n2 _, (HZ1.out.h.ext hy).far n4 _, (HZ1.out.e.ext hy).set _, (HZ1.out.l.ext hy).far n6' _⟩
    have hfine1 : ∀ wy, n.bad = false → ¬ (8192 < (anewB n.text).size ∧ m.e = 0) → Ext wz wy → Ext w0 wy ∧ Held4 wy bc bh be bl (Ms.one n deep m) ∧ wy.cell? ⟨w.heap.size, 3, none⟩ = some (.slice ka n.kids.length kcap) := fun wy hb hl hy => by
      refine ⟨HZ2.out.trans hy, ?_, cellOf (hy.block HZ3.out) rfl⟩
      have e : Ms.one n deep m = ⟨m.count + 1, max m.height deep, m.e⟩ := by unfold Ms.one; rw [if_neg (by rw [hb]; decide), if_neg hl]
      rw [e]
      exact ⟨HZ1.out.c.ext hy, HZ1.out.h.ext hy, HZ1.out.e.ext hy, HZ1.out.l.ext hy⟩
    have HB1 := qh hbad1
    have HL1 := qh hlong1
    have HF1 := qh hfine1
    have hts : n.text.size ≤ 100000 := by have := HSH.out; rw [PN.short_eq] at this; simp at this; exact this.1.1
    have has : n.attrs.length ≤ 60000 := by have := HSH.out; rw [PN.short_eq] at this; simp at this; exact this.1.2
    have hbs : (anewB n.text).size ≤ 400000 := by have := anewB_size n.text; omega
    have HTS := qh hts
    have hbb : n.bad = (if n.tag = 0 then !(n.attrs.isEmpty && n.kids.isEmpty) else !(decide (1 ≤ n.tag ∧ n.tag ≤ 16) && n.text.size == 0)) := rfl
    have HBB := qh hbb
    clear hbad1 hlong1 hfine1 hbb hts
    -- what is left of the ways where the node itself may be
    have hfine : n.bad = false → ∀ wy, Ext wz wy → (if 8192 < (anewB n.text).size ∧ m.e = 0 then True else True) := fun _ _ _ => by split <;> trivial
    clear hfine
    by_cases ht : n.tag = 0
    · have tb : (n.tag == 0) = true := by simp [ht]
      have HT := qh ht
      by_cases hA : 0 < n.attrs.length
      · have HBAD : Hid (n.bad = true) := qh (bad_attrs ht hA)
        clear ht
        go_wp2_with (fail)
        go_meet
        exact HB1.out HBAD.out
      · have hA0 : n.attrs.length = 0 := by omega
        by_cases hK : 0 < n.kids.length
        · have HBAD : Hid (n.bad = true) := qh (bad_kids ht hK)
          clear ht hA0
          go_wp2_with (fail)
          go_meet
          exact HB1.out HBAD.out
        · have HBAD : Hid (n.bad = false) := qh (bad_text ht hA hK)
          clear ht hA0
          by_cases hl : 8192 < (anewB n.text).size
          · by_cases he : m.e = 0
            · have eb : (m.e == 0) = true := by simp [he]
              have HE := qh he
              clear he
              go_wp2_with (go_at_call 118; refine (anew_any _ HTS.out _).mono ?_; rintro e w' ⟨rfl, hy⟩; have ce : _ = some (Value.int IntKind.i64 m.e) := (HZ1.out.e.ext hy).cell; have fe := (HZ1.out.e.ext hy).free)
              go_meet
              exact HL1.out _ HBAD.out hl HE.out hy
            · have eb : (m.e == 0) = false := by simpa using he
              have HE := qh he
              clear he
              go_wp2_with (go_at_call 118; refine (anew_any _ HTS.out _).mono ?_; rintro e w' ⟨rfl, hy⟩; have ce : _ = some (Value.int IntKind.i64 m.e) := (HZ1.out.e.ext hy).cell; have fe := (HZ1.out.e.ext hy).free)
              go_meet
              exact HF1.out _ HBAD.out (fun h => HE.out h.2) hy
          · go_wp2_with (go_at_call 118; refine (anew_any _ HTS.out _).mono ?_; rintro e w' ⟨rfl, hy⟩; have ce : _ = some (Value.int IntKind.i64 m.e) := (HZ1.out.e.ext hy).cell; have fe := (HZ1.out.e.ext hy).free)
            go_meet
            exact HF1.out _ HBAD.out (fun h => hl h.1) hy
    · have tb : (n.tag == 0) = false := by simpa using ht
      have HT := qh ht
      by_cases hE : 1 ≤ n.tag ∧ n.tag ≤ 16
      · by_cases hS : n.text.size = 0
        · have HBAD : Hid (n.bad = false) := qh (bad_fine ht hE hS)
          have hemp := text_none hS
          have hanew : (anewB n.text).size = 0 := by rw [hemp]; rfl
          have hsb : n.text.toList.isEmpty = true := by rw [hemp, ByteArray.toList_eq]; rfl
          have hl : ¬ 8192 < (anewB n.text).size := by omega
          obtain ⟨E1, E2⟩ := hE
          have hst : n.text.toList = [] := by rw [hemp, ByteArray.toList_eq]; rfl
          clear ht hS hemp hanew
          go_wp2_with (first
            | (go_at_call 128; refine (element_yes _ E1 E2 _).mono ?_; rintro e w' ⟨rfl, rfl⟩)
            | (go_at_call 118; refine (anew_any _ HTS.out _).mono ?_; rintro e w' ⟨rfl, hy⟩; have ce : _ = some (Value.int IntKind.i64 m.e) := (HZ1.out.e.ext hy).cell; have fe := (HZ1.out.e.ext hy).free))
          go_meet
          exact HF1.out _ HBAD.out (fun h => hl h.1) hy
        · have HBAD : Hid (n.bad = true) := qh (bad_said ht hS)
          have hsb := text_some hS
          have hst : !n.text.toList.isEmpty := by rw [hsb]; rfl
          obtain ⟨E1, E2⟩ := hE
          clear ht hS
          go_wp2_with (go_at_call 128; refine (element_yes _ E1 E2 _).mono ?_; rintro e w' ⟨rfl, rfl⟩)
          go_meet
          exact HB1.out HBAD.out
      · have HBAD : Hid (n.bad = true) := qh (bad_tag' ht hE)
        have HEE := qh hE
        clear ht hE
        go_wp2_with (go_at_call 128; refine (element_no _ HEE.out _).mono ?_; rintro e w' ⟨rfl, rfl⟩)
        go_meet
        exact HB1.out HBAD.out
  case rest =>
    obtain ⟨x2, h2, k3⟩ := hcut
    have hkl : (n.kids.length : Int) ≤ 9223372036854775807 := by omega
    have HX2 := qh x2
    have HH2 := qh h2
    clear x2 h2
    go_wp2_with fail
    go_loopw [10, 61] (fun _ i wr => ∃ k : Nat, k ≤ n.kids.length ∧ i = .int .i64 k ∧ Ext w0 wr ∧ Held4 wr bc bh be bl (PN.looks (deep + 1) (Ms.one n deep m) (n.kids.take k))) (fun _ i _ => n.kids.length - (intOf i).toNat)
    case atStart => exact ⟨0, Nat.zero_le _, rfl, HX2.out, by simpa [PN.looks] using HH2.out⟩
    case round =>
      obtain ⟨k, hk, rfl, xr, hr⟩ := hrel
      have HXR := qh xr
      have HHR := qh hr
      have cl := hr.l.cell
      clear xr hr
      by_cases hlt : k < n.kids.length
      · obtain ⟨x, hx⟩ : ∃ x, n.kids[k]? = some x := ⟨n.kids[k], by simp [hlt]⟩
        cases ka with
        | none => exact absurd (HKN.out rfl).1 (by omega)
        | some a =>
          obtain ⟨b, off, sp⟩ := a
          obtain ⟨c0', c1', c2', c3', q0, q1, q2, q3, hrd⟩ := HKR.out _ rfl k x hx
          obtain ⟨av', kv', e, ha', hk'⟩ := hrd.open
          obtain ⟨aa', acap', e2, _⟩ := ha'.len_of
          obtain ⟨ka', kcap', e3, _⟩ := hk'
          subst e2 e3
          cases e
          clear ha'
          replace q0 := HXR.out.cells _ _ q0
          replace q1 := HXR.out.cells _ _ q1
          replace q2 := HXR.out.cells _ _ q2
          replace q3 := HXR.out.cells _ _ q3
          rw [add_later _ _ _ (by decide)] at q1 q2 q3
          obtain ⟨g1, g2, g3, g4, g5, g6, g7⟩ := looks_bounds n deep m d0 d1 c0 c1 h0 h1 e0 e1 hx
          have hmem : x ∈ n.kids := List.mem_of_getElem? hx
          have hshx : x.short = true := by
            have := HSH.out; rw [PN.short_eq] at this; simp at this
            exact PN.shorts_mem this.2 hmem
          have cl' := (HHR.out.l.alloc (.cells #[.int .i64 x.tag, .slice aa' x.attrs.length acap', .string x.text, .slice ka' x.kids.length kcap'] 34)).cell
          have hrec := (fun w' hw' hh' => IH.out x hmem hshx _ (deep + 1) _ w' hrd (by omega) g1 g2 g3 g4 g5 g6 g7 hw' hh') (wr.alloc (.cells #[.int .i64 x.tag, .slice aa' x.attrs.length acap', .string x.text, .slice ka' x.kids.length kcap'] 34)) (HXR.out.alloc _) ⟨HHR.out.c.alloc _, HHR.out.h.alloc _, HHR.out.e.alloc _, HHR.out.l.alloc _⟩
          have HREC := qh hrec
          have HXX := qh hx
          have ndl : deep + 1 ≤ 9223372036854775807 := by omega
          clear hx hrec hrd hmem hshx g1 g2 g3 g4 g5 g6 g7
          go_wp2_with fail
          refine HREC.out.mono ?_
          rintro e w' ⟨rfl, hx', hh'⟩
          go_wp2_with fail
          go_roundw
          case rel =>
            refine ⟨k + 1, by omega, by go_num, hx', ?_⟩
            rw [looks_take _ _ _ _ _ HXX.out]
            exact hh'
          case measure => simp [intOf]; omega
      · go_wp2_with fail
        go_end0
        refine ⟨rfl, HXR.out, ?_⟩
        have e : n.kids.take k = n.kids := List.take_of_length_le (by omega)
        have h := HHR.out
        rw [e, ← PN.look_eq] at h
        exact h
theorem One.at (w : World) (b : Nat) (v : Value) (t : TypeId) (hb : b = w.heap.size) : One (w.alloc (.cells #[v] t)) b v t := by subst hb; exact One.new w v t
def RThree (a b c : Value) (w : World) (e : Ending) (w' : World) : Prop := e = .returned (.tuple #[a, b, c]) ∧ Ext w w'
abbrev lookF (b : Nat) : Value := .func (.func 203) #[] #[.pointer (some ⟨b + 1, 0, none⟩), .pointer (some ⟨b + 2, 0, none⟩), .pointer (some ⟨b + 3, 0, none⟩), .pointer (some ⟨b + 4, 0, none⟩)]
theorem measure_any {w : World} {n : PN} {nv : Value} (hr : RdN w n nv) (hsh : n.short = true) (hs : n.size ≤ 90000) :
    Calls Tryz.prog 174 #[nv] w (RThree (.int .i64 n.size) (.int .i64 n.high) (.int .i64 (PN.look 0 ⟨0, 0, 0⟩ n).e) w) := by
  obtain ⟨av, kv, rfl, ha, hk⟩ := hr.open
  obtain ⟨aa, acap, rfl, hac⟩ := ha.len_of
  obtain ⟨ka, kcap, rfl, hkc, hkm, hkn, hkr⟩ := hk
  have hz := fun x : World => (show Ext w x → Held4 x (w.heap.size + 1) (w.heap.size + 2) (w.heap.size + 3) (w.heap.size + 4) ⟨0, 0, 0⟩ → Calls Tryz.prog 203 #[.agg #[.int .i64 n.tag, .slice aa n.attrs.length acap, .string n.text, .slice ka n.kids.length kcap], .int .i64 0, .pointer (some ⟨w.heap.size + 1, 0, none⟩), .pointer (some ⟨w.heap.size + 2, 0, none⟩), .pointer (some ⟨w.heap.size + 3, 0, none⟩), .pointer (some ⟨w.heap.size + 4, 0, none⟩)] x (LookIs w (w.heap.size + 1) (w.heap.size + 2) (w.heap.size + 3) (w.heap.size + 4) (PN.look 0 ⟨0, 0, 0⟩ n)) from
    look_any (by omega) (by omega) (by omega) (by omega) (by omega) (by omega) (by omega) (by omega) (by omega) (by omega) n hsh _ 0 ⟨0, 0, 0⟩ x hr (Int.le_refl 0) (by omega) (Int.le_refl 0) (by show (0 : Int) + n.size ≤ 100000; omega) (Int.le_refl 0) (by decide) (Int.le_refl 0) (by decide))
  have hl := look_spec n 0 ⟨0, 0, 0⟩
  have HZ := qh hz
  have HL := qh hl
  clear hz hl hkr hkn ha hr
  go_enter Tryz.func174, Tryz.ntmps174
  go_wp2_with fail
  refine (HZ.out _ ?_ ?_).mono ?_
  · exact ((((((Ext.refl w).alloc _).alloc _).alloc _).alloc _).alloc _)
  · exact ⟨(((One.at (w.alloc _) _ (.int .i64 0) 3 (by simp)).alloc _).alloc _).alloc _, ((One.at ((w.alloc _).alloc _) _ (.int .i64 0) 3 (by simp)).alloc _).alloc _, (One.at (((w.alloc _).alloc _).alloc _) _ (.int .i64 0) 22 (by simp)).alloc _,
      One.at ((((w.alloc _).alloc _).alloc _).alloc _) _ (lookF w.heap.size) 218 (by simp)⟩
  rintro e w1 ⟨rfl, hx, hh⟩
  obtain ⟨l1, l2, l3⟩ := HL.out
  have q1 : (PN.look 0 ⟨0, 0, 0⟩ n).count = (n.size : Int) := by rw [l1]; simp
  have q2 : (PN.look 0 ⟨0, 0, 0⟩ n).height = (n.high : Int) := by rw [l2]; show max (0 : Int) (0 + (n.high : Int)) = _; omega
  obtain ⟨hc, hh', he, hf⟩ := hh
  rw [q1] at hc
  rw [q2] at hh'
  have cc := hc.cell
  have ch := hh'.cell
  have ce := he.cell
  have fc := hc.free
  have fh := hh'.free
  have fe := he.free
  clear l1 l2 l3 q1 q2 HL hc hh' he hf HZ
  generalize (PN.look 0 ⟨0, 0, 0⟩ n).e = E at *
  go_wp2_with fail
  go_region
  go_wp2
  refine bodyPost_ret (v := .tuple #[.int .i64 n.size, .int .i64 n.high, .int .i64 E]) (by simp [results, Tryz.results174, go_sem, cc, ch, ce]) rfl ⟨rfl, ?_⟩
  exact (((hx.setCell (by show w.heap.size ≤ _; simp <;> omega) _).setCell (by show w.heap.size ≤ _; simp <;> omega) _).setCell (by show w.heap.size ≤ _; simp <;> omega) _).drew
end Go.Proofs.YtfibikkcfmohjaaGreat
