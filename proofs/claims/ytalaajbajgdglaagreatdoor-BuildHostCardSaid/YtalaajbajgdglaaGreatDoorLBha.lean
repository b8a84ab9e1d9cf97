/- what of ZP Z1 Z2 Z3 BA BB BC BD BE BF BG BH BI BJ BK BL BM BN BO BP BQ BR NA NC NB ND NE NF BS BT ZY BV BW BY Z4 CA CB CC CD TA TB TC TD TE TF TG TK TH TI is leant on -/
import Derived.WalkKit
import Derived.WalkSpells
import Derived.WalkLawsBesides
import Derived.BigQuiet
import Derived.Deep.QuietTactic
import Derived.Lib.Hide
import Derived.Deep.RegionWith
import Derived.Deep.RegionHeld3
import Derived.Deep.LoopGhost
import Derived.Deep.DeepFit
import Derived.Deep.DeepMust
import Derived.Deep.DeepCutAuto
import Derived.Outline
import Derived.Test.YtalaajbajgdglaaGreatDoorRows
import Derived.Laws.Cover4
import Derived.Laws.IdiomStrings
import Derived.Shelf.Slices.Reverse
import Derived.Ground.Names2Prog
import Derived.Shelf.Slices.Delete
import Derived.Shelf.Spec.SlicesInsertGrow
import Derived.Shelf.Slices.Cells
import Derived.Laws.EntriesVeiled
import Derived.Deep.CutBlock
import Derived.BigRegion
import Derived.RegionTactic
import Derived.ChangeAlike
import Derived.Deep.Slices
import Derived.ChangeSame
import Derived.ArgAppend
import Derived.Lib.ValidLaws
import Derived.Lib.SlTrimSet
import Derived.Shelf.Utf8.AppendRune
import Derived.Shelf.Unicode.ValidAny
import Derived.Shelf.Strings.SlTrimAscii
import Derived.Shelf.Strings.BuilderK
import Derived.Lib.OthersKept
import Derived.Deep.AppendSrc
import Derived.Deep.Upon
import Derived.Lib.ConvBytes
import Derived.Lib.SmallJoins
import Derived.Lib.Bytealg
import Derived.Shelf.Strings.Prefix
import Derived.Shelf.Small.Strs
import Derived.Shelf.Strings.Search3
import Derived.Lib.IfaceNeq
import Derived.Shelf.Strconv.ToError
import Derived.WalkMore
import Derived.Lib.UnsafeStr
import Derived.Lib.IndexMore
import Derived.Shelf.Lays
import Derived.Maps.OwnSet
import Derived.StringKeys
import Derived.IntWalk
import Derived.Maps.AppendAt
import Derived.RangeFuncBox
import Derived.RangeFuncLeaves
import Derived.RangeFuncWrites
import Derived.RangeFuncCalls
import Derived.Shelf.Abstract
import Derived.Shelf.AbstractIn
import Derived.Sort.BigQuietIn
import Derived.OwnWalkIn
import Derived.TacticsInMore
import Derived.LoopNIn
import Derived.LoopIn
import Derived.Sort.CutIn
import Derived.Shelf.RegionOpen
import Derived.Great.BuildSlice
import Derived.Lib.MapLaws
set_option linter.unusedVariables false
set_option linter.unusedSimpArgs false
set_option maxRecDepth 1000000
set_option maxHeartbeats 8000000
namespace Go.Proofs.YtalaajbajgdglaaGreatDoor
open Go
theorem qh {p : Prop} (h : p) : RowKit.Hid p := h
theorem zA (l : List Value) (i : Nat) (a : Value) : l.toArray.setIfInBounds i a = (l.set i a).toArray := List.setIfInBounds_toArray l i a
theorem zB (a b : Value) (l : List Value) : (a :: l).set 0 b = b :: l := rfl
theorem zC (a b : Value) (l : List Value) (n : Nat) : (a :: l).set (n + 1) b = a :: l.set n b := rfl
end Go.Proofs.YtalaajbajgdglaaGreatDoor
namespace Go.Proofs.YtalaajbajgdglaaGreatDoor
open Go Go.RowKit Go.BigFrame
def Ext (w w' : World) : Prop := Below w.heap.size w w'
theorem Ext.refl (w : World) : Ext w w := Below.refl _ _
theorem Ext.trans {a b c : World} (h : Ext a b) (k : Ext b c) : Ext a c := Below.trans h (Below.mono k (Below.size h))
theorem Ext.alloc {a w : World} (h : Ext a w) (o : Obj) : Ext a (w.alloc o) := Below.alloc h (Below.size h) o
theorem Ext.drew {a w : World} (h : Ext a w) : Ext a w.drew := Below.drew h
theorem Ext.setCell {a w : World} (h : Ext a w) {p : Addr} (hp : a.heap.size ≤ p.block) (u : Value) : Ext a (w.setCell p u) := Below.setCell h hp u
theorem Ext.grown {a w w' : World} {row : Option Nat} (h : Ext a w) (hg : w.grownBy w' row) (hr : ∀ k, row = some k → a.heap.size ≤ k) : Ext a w' :=
  Below.grown h hg (Below.size h) hr
theorem Ext.size {w w' : World} (h : Ext w w') : w.heap.size ≤ w'.heap.size := Below.size h
theorem Ext.cell {w w' : World} (h : Ext w w') {b o : Nat} {v : Value} (hc : w.cell? ⟨b, o, none⟩ = some v) : w'.cell? ⟨b, o, none⟩ = some v :=
  (Below.cell h (p := ⟨b, o, none⟩) (World.block_lt_of_cell? w _ hc)).trans hc
theorem Ext.free {w w' : World} (h : Ext w w') {b o : Nat} (hlt : b < w.heap.size) (hc : w.frozen? ⟨b, o, none⟩ = false) : w'.frozen? ⟨b, o, none⟩ = false :=
  (Below.frozen h (p := ⟨b, o, none⟩) hlt).trans hc
theorem Ext.block {w w' : World} (h : Ext w w') {b : Nat} {x : Obj} (hb : w.heap[b]? = some x) : w'.heap[b]? = some x :=
  (Below.block h b (Array.getElem?_eq_some_iff.1 hb).1).trans hb
theorem cell_lt {w : World} {b o : Nat} {v : Value} (h : w.cell? ⟨b, o, none⟩ = some v) : b < w.heap.size := World.block_lt_of_cell? w _ h
structure ExtOf (w : World) where
  val : World
  ext : Ext w val
instance (w : World) : Nonempty (ExtOf w) := ⟨⟨w, Ext.refl w⟩⟩
theorem inExt {P : Program} {f : FuncId} {args : Array Value} {w : World} {u : ExtOf w} {v : Value} (h : Calls P f args u.val fun e w' => e = .returned v ∧ Ext u.val w') :
    Calls P f args u.val fun e w' => e = .returned v ∧ ∃ u' : ExtOf w, w' = u'.val :=
  h.mono fun _ w' hh => ⟨hh.1, ⟨w', u.ext.trans hh.2⟩, rfl⟩
theorem wp_region_ext {P : Program} {id : Nat} {Q : Exit → Act → World → Prop} {a : Act} {w : World} {l : List Oper} (hm : P.follows .mixedOrders = true) (hB : Region.lexB .any l.toArray = true)
    (h : wpQuiet P l.toArray (fun w' => ∃ u : ExtOf w, w' = u.val) (fun a' => ∀ w', (∃ u : ExtOf w, w' = u.val) → Q .normal a' w') l a) : (Code.region id l.toArray true).wp P Q a w :=
  wp_region_quiet (C := fun w' => ∃ u : ExtOf w, w' = u.val) hm hB ⟨⟨w.drew, (Ext.refl w).drew⟩, rfl⟩ (by simpa using h)

def RBool (b : Bool) (w : World) (e : Ending) (w' : World) : Prop := e = .returned (.bool b) ∧ Ext w w'
structure Nd where
  tag : Int
  attrs : List (ByteArray × ByteArray)
  text : ByteArray
  kids : List Int
  parent : Int
structure Tr where
  cap : Int
  deep : Int
  count : Int
  nodes : List (Option Nd)

abbrev Ow := Nat → Option (Nat × Nat)
def RowP (w : World) (p : Nat → Prop) (e size : Nat) (v : Value) (n : Nat) (xs : List Value) : Prop :=
  xs.length = n * size ∧ ((n = 0 ∧ ∃ a, v = .slice a 0 0) ∨
    ∃ g cap cur, v = .slice (some ⟨g, 0, none⟩) n cap ∧ p g ∧ w.heap[g]? = some (.cells cur e (0, 0)) ∧ n ≤ cap ∧ cap ≤ maxLen ∧ cur.size = cap * size ∧ cur.toList.take (n * size) = xs)
def RowIn (w : World) (B : Nat) (e size : Nat) (v : Value) (n : Nat) (xs : List Value) : Prop := RowP w (fun g => B ≤ g) e size v n xs
def RowRd (w : World) (size : Nat) (v : Value) (n : Nat) (xs : List Value) : Prop :=
  xs.length = n * size ∧ ∃ ao cap, v = .slice ao n cap ∧ n ≤ cap ∧ (ao = none → n = 0 ∧ cap = 0) ∧ ∀ a, ao = some a → ∀ (j : Nat) x, xs[j]? = some x → w.cell? (a.add j) = some x
def attrCells : List (ByteArray × ByteArray) → List Value
  | [] => []
  | (a, b) :: r => .string a :: .string b :: attrCells r
theorem cellOf {w : World} {b : Nat} {cs : Array Value} {t : TypeId} {fr : Nat × Nat} (h : w.heap[b]? = some (.cells cs t fr)) {i : Nat} {v : Value} (hi : cs[i]? = some v) : w.cell? ⟨b, i, none⟩ = some v := by
  simp [World.cell?, h, hi]
theorem freeOf {w : World} {b : Nat} {cs : Array Value} {t : TypeId} (h : w.heap[b]? = some (.cells cs t (0, 0))) (i : Nat) : w.frozen? ⟨b, i, none⟩ = false := by
  simp [World.frozen?, h]
theorem RowP.rd {w : World} {p : Nat → Prop} {e size : Nat} {v : Value} {n : Nat} {xs : List Value} (h : RowP w p e size v n xs) : RowRd w size v n xs := by
  refine ⟨h.1, ?_⟩
  rcases h.2 with ⟨rfl, a, rfl⟩ | ⟨g, cap, cur, rfl, h2, h3, h4, h5, h6, h7⟩
  · have hl := h.1
    obtain rfl : xs = [] := List.eq_nil_of_length_eq_zero (by simpa using hl)
    exact ⟨a, 0, rfl, Nat.le_refl _, fun _ => ⟨rfl, rfl⟩, fun a' _ j x hx => by simp at hx⟩
  · refine ⟨_, cap, rfl, h4, (fun h => by cases h), fun a ha j x hx => ?_⟩
    cases ha
    rw [Addr.add_lit, Nat.zero_add]
    refine cellOf h3 ?_
    rw [← h7, List.getElem?_take] at hx
    split at hx
    · simpa using hx
    · cases hx
theorem RowRd.len_of {w : World} {size : Nat} {v : Value} {n : Nat} {xs : List Value} (h : RowRd w size v n xs) : ∃ a cap, v = .slice a n cap ∧ n ≤ cap := by
  obtain ⟨_, a, cap, h1, h2, _⟩ := h
  exact ⟨a, cap, h1, h2⟩
theorem RowRd.ext {w w' : World} {size : Nat} {v : Value} {n : Nat} {xs : List Value} (h : RowRd w size v n xs) (k : Ext w w') : RowRd w' size v n xs := by
  obtain ⟨h1, ao, cap, h2, h3, h4, h5⟩ := h
  refine ⟨h1, ao, cap, h2, h3, h4, fun a ha j x hx => ?_⟩
  have hc := h5 a ha j x hx
  exact (Below.cell k (World.block_lt_of_cell? w _ hc)).trans hc
theorem RowP.imp {w : World} {p q : Nat → Prop} {e size : Nat} {v : Value} {n : Nat} {xs : List Value} (h : RowP w p e size v n xs) (k : ∀ g, v.ownBlock = some g → p g → q g) : RowP w q e size v n xs := by
  refine ⟨h.1, ?_⟩
  rcases h.2 with h0 | ⟨g, cap, cur, h1, h2, h3⟩
  · exact .inl h0
  · exact .inr ⟨g, cap, cur, h1, k g (by rw [h1]; rfl) h2, h3⟩
theorem RowP.ext {w w' : World} {p : Nat → Prop} {e size : Nat} {v : Value} {n : Nat} {xs : List Value} (h : RowP w p e size v n xs) (k : Ext w w') : RowP w' p e size v n xs := by
  refine ⟨h.1, ?_⟩
  rcases h.2 with h0 | ⟨g, cap, cur, h1, h2, h3, h4⟩
  · exact .inl h0
  · exact .inr ⟨g, cap, cur, h1, h2, k.block h3, h4⟩
theorem RowP.of_owns {w : World} {B e size : Nat} {v : Value} {n : Nat} {xs : List Value} (h : w.ownsRow B e size v n xs) : RowIn w B e size v n xs := by
  refine ⟨h.1, ?_⟩
  rcases h.2 with ⟨h1, h2⟩ | ⟨g, cap, cur, h1, h2, h3, h4⟩
  · exact .inl ⟨h2, none, h2 ▸ h1⟩
  · exact .inr ⟨g, cap, cur, h1, h2, h3, h4⟩
def RVal (v : Value) (w : World) (e : Ending) (w' : World) : Prop := e = .returned v ∧ Ext w w'
def RTwo (v v' : Value) (w : World) (e : Ending) (w' : World) : Prop := e = .returned (.tuple #[v, v']) ∧ Ext w w'
theorem infoA : (Tryz.prog.info? 104).map (fun i => (i.zero, i.size, i.bytes)) = some (some (.agg #[.string ByteArray.empty, .string ByteArray.empty]), 2, 32) := by kernel_rfl
def runeList (s : ByteArray) : Nat → Nat → List Int
  | 0, _ => []
  | b + 1, i => if i < s.size then Int.ofNat (Utf8.decode s i).1 :: runeList s b (i + (Utf8.decode s i).2) else []
def anewB (s : ByteArray) : ByteArray := runesBytes (runeList s s.size 0)
theorem runesFrom_eq (s : ByteArray) : ∀ (b i : Nat) (acc : Array Value), Conv.runesFrom s b i acc = acc ++ ((runeList s b i).map (Value.int .i32)).toArray := by
  intro b
  induction b with
  | zero => intro i acc; simp [Conv.runesFrom, runeList]
  | succ b ih =>
    intro i acc
    unfold Conv.runesFrom runeList
    split
    · show Conv.runesFrom s b (i + (Utf8.decode s i).2) (acc.push (.int .i32 (Int.ofNat (Utf8.decode s i).1))) = _
      rw [ih]; simp
    · simp
theorem runeList_len (s : ByteArray) : ∀ (b i : Nat), (runeList s b i).length ≤ b := by
  intro b
  induction b with
  | zero => intro i; simp [runeList]
  | succ b ih =>
    intro i
    unfold runeList
    split
    · have := ih (i + (Utf8.decode s i).2); simp; omega
    · simp
theorem anewB_size (s : ByteArray) : (anewB s).size ≤ 4 * s.size := by
  have h1 := runesBytes_size_le (runeList s s.size 0)
  have h2 := runeList_len s s.size 0
  unfold anewB; omega
theorem RowP.of_owns0 {w' : World} {p : Nat → Prop} {B e size : Nat} {v : Value} {n : Nat} {xs : List Value} (h : w'.ownsRow B e size v n xs) (hp : ∀ k, v.ownBlock = some k → p k) : RowP w' p e size v n xs := by
  refine ⟨h.1, ?_⟩
  rcases h.2 with ⟨h1, h2⟩ | ⟨g, cap, cur, h1, h2, h3, h4⟩
  · exact .inl ⟨h2, none, h2 ▸ h1⟩
  · exact .inr ⟨g, cap, cur, h1, hp g (by rw [h1]; rfl), h3, h4⟩
theorem run_append_row {P : Program} (w : World) (t ty e : TypeId) (i : TypeInfo) (z : Value) (size bytes : Nat) (ht : P.underlying t = some (.slice e)) (hi : P.info? e = some i) (hz : i.zero = some z)
    (hsize : i.size = size) (hby : i.bytes = bytes) (hzs : z.cells.size = size) (hsz : 0 < size) {p : Nat → Prop} {v : Value} {n : Nat} {xs : List Value} (hr : RowP w p e size v n xs)
    (a : Addr) (m c : Nat) (news : List Value) (hl : news.length = m * size) (hnews : ∀ j u, news[j]? = some u → w.cell? (a.add j) = some u) (h1 : ∀ u ∈ news, u.oneCell' = true)
    (hm : 0 < m) (h63 : n + m ≤ maxLen) (hbytes : (n + m) * bytes ≤ 140737488355328) :
    ∃ v' w' row, (Builtin.append_ #[t, t] ty #[v, .slice (some a) m c]).run P w = .ok v' w' ∧ RowP w' (fun g => p g ∨ w.heap.size ≤ g) e size v' (n + m) (xs ++ news) ∧ w.grownBy w' row ∧ ∀ k, row = some k → p k := by
  rcases hr.2 with ⟨rfl, ao, rfl⟩ | ⟨g, cap, cur, rfl, hpg, hg, hnc, hcm, hcs, htake⟩
  · obtain rfl : xs = [] := List.eq_nil_of_length_eq_zero (by rw [hr.1]; simp)
    cases ao with
    | some ad =>
      obtain ⟨v', w', h2, h3, h4⟩ := run_append_arg_grows (P := P) w t ty e i z size bytes ht hi hz hsize hby hzs hsz ad 0 0 [] (by simp) (by simp) a m c news hl hnews (by omega) h63 hbytes
      exact ⟨v', w', none, h2, (RowP.of_owns h3).imp fun g _ hg => .inr hg, h4, fun k hk => by cases hk⟩
    | none =>
      obtain ⟨v', w', h2, h3, h4, h5⟩ := run_append_own (P := P) w w.heap.size t ty e i z size bytes ht hi hz hsize hby hzs hsz (.slice none 0 0) 0 [] (World.ownsRow_nil w _ e size) a m c news hl hnews h1 h63 hbytes (Nat.le_refl _)
      exact ⟨v', w', none, h2, (RowP.of_owns h3).imp fun g _ hg => .inr hg, h4, fun k hk => by cases hk⟩
  · have hown : w.ownsRow 0 e size (.slice (some ⟨g, 0, none⟩) n cap) n xs := ⟨hr.1, .inr ⟨g, cap, cur, rfl, Nat.zero_le _, hg, hnc, hcm, hcs, htake⟩⟩
    by_cases hroom : n + m ≤ cap
    · obtain ⟨v', w', h2, h3, h4, h5⟩ := run_append_own (P := P) w 0 t ty e i z size bytes ht hi hz hsize hby hzs hsz _ n xs hown a m c news hl hnews h1 h63 hbytes (Nat.zero_le _)
      have hfit : n * i.size + news.length ≤ cur.size := by rw [hl, hcs, hsize, ← Nat.add_mul]; exact Nat.mul_le_mul_right _ hroom
      have hr2 := run_append_room (P := P) w t ty e i ht hi g n cap cur hg a m c news (by rw [hsize]; exact hl) hnews h1 hroom hfit
      rw [h2] at hr2
      have hv : v' = .slice (some ⟨g, 0, none⟩) (n + m) cap := by injection hr2
      refine ⟨v', w', some g, h2, RowP.of_owns0 h3 fun k hk => ?_, h4, fun k hk => by cases hk; exact hpg⟩
      rw [hv] at hk
      cases hk
      exact .inl hpg
    · have holds : ∀ j u, xs[j]? = some u → w.cell? ((⟨g, 0, none⟩ : Addr).add j) = some u := hown.cells (g := g) rfl
      obtain ⟨v', w', h2, h3, h4⟩ := run_append_arg_grows (P := P) w t ty e i z size bytes ht hi hz hsize hby hzs hsz ⟨g, 0, none⟩ n cap xs hr.1 holds a m c news hl hnews (by omega) h63 hbytes
      exact ⟨v', w', none, h2, (RowP.of_owns h3).imp fun g _ hg => .inr hg, h4, fun k hk => by cases hk⟩
theorem heap_setCell_same {w : World} {b i : Nat} {cs : Array Value} {t : TypeId} {fr : Nat × Nat} (h : w.heap[b]? = some (.cells cs t fr)) (u : Value) :
    (w.setCell ⟨b, i, none⟩ u).heap[b]? = some (.cells (cs.setIfInBounds i u) t fr) := by
  simp [World.setCell, Array.getElem?_modify, h]
theorem heap_setCell_other {w : World} {p : Addr} {b : Nat} (u : Value) (h : b ≠ p.block) : (w.setCell p u).heap[b]? = w.heap[b]? := Below.heap_setCell _ _ _ _ h
theorem attrCells_len (l : List (ByteArray × ByteArray)) : (attrCells l).length = l.length * 2 := by
  induction l with
  | nil => rfl
  | cons p r ih => obtain ⟨a, b⟩ := p; simp only [attrCells, List.length_cons, ih]; omega
inductive PN where
  | mk (tag : Int) (attrs : List (ByteArray × ByteArray)) (text : ByteArray) (kids : List PN)
def PN.tag : PN → Int | .mk t _ _ _ => t
def PN.attrs : PN → List (ByteArray × ByteArray) | .mk _ a _ _ => a
def PN.text : PN → ByteArray | .mk _ _ s _ => s
def PN.kids : PN → List PN | .mk _ _ _ k => k
mutual
def PN.size : PN → Nat
  | .mk _ _ _ ks => PN.sizes ks + 1
def PN.sizes : List PN → Nat
  | [] => 0
  | k :: r => PN.size k + PN.sizes r
end
theorem PN.size_pos (n : PN) : 0 < n.size := by cases n; simp [PN.size]
theorem PN.sizes_mem {k : PN} {l : List PN} (h : k ∈ l) : k.size ≤ PN.sizes l := by
  induction l with
  | nil => cases h
  | cons x r ih =>
    simp only [PN.sizes]
    rcases List.mem_cons.1 h with rfl | h
    · omega
    · have := ih h; omega
theorem PN.size_kid {n k : PN} (h : k ∈ n.kids) : k.size < n.size := by
  cases n with
  | mk t a s ks => simp only [PN.size]; have := PN.sizes_mem (l := ks) h; omega
theorem PN.induct (P : PN → Prop) (h : ∀ n, (∀ k ∈ n.kids, P k) → P n) : ∀ n, P n := by
  have key : ∀ m n, PN.size n ≤ m → P n := by
    intro m
    induction m with
    | zero => intro n hn; have := n.size_pos; omega
    | succ m ih => exact fun n hn => h n fun k hk => ih k (by have := PN.size_kid hk; omega)
  exact fun n => key n.size n (Nat.le_refl _)

theorem add_later (a : Addr) (i j : Nat) (hj : 0 < j) : a.add (i + j) = ⟨(a.add i).block, (a.add i).off + j, none⟩ := by
  unfold Addr.add
  by_cases hi : i = 0
  · subst hi
    rw [if_neg (by omega), if_pos rfl, Nat.zero_add]
  · rw [if_neg (by omega), if_neg hi, Nat.add_assoc]
def rdN (w : World) : Nat → PN → Value → Prop
  | 0, _, _ => False
  | f + 1, n, v => ∃ av kv, v = .agg #[.int .i64 n.tag, av, .string n.text, kv] ∧ RowRd w 2 av n.attrs.length (attrCells n.attrs) ∧
      ∃ ao cap, kv = .slice ao n.kids.length cap ∧ n.kids.length ≤ cap ∧ cap ≤ maxLen ∧ (ao = none → n.kids.length = 0 ∧ cap = 0) ∧
        ∀ a, ao = some a → ∀ (j : Nat) k, n.kids[j]? = some k → ∃ c0 c1 c2 c3, w.cell? (a.add (j * 4)) = some c0 ∧ w.cell? (a.add (j * 4 + 1)) = some c1 ∧ w.cell? (a.add (j * 4 + 2)) = some c2 ∧ w.cell? (a.add (j * 4 + 3)) = some c3 ∧
          rdN w f k (.agg #[c0, c1, c2, c3])
def RdN (w : World) (n : PN) (v : Value) : Prop := ∃ f, rdN w f n v
def Cells (w w' : World) : Prop := ∀ p v, w.cell? p = some v → w'.cell? p = some v
theorem RowRd.cells {w w' : World} {size : Nat} {v : Value} {n : Nat} {xs : List Value} (h : RowRd w size v n xs) (k : Cells w w') : RowRd w' size v n xs := by
  obtain ⟨h1, ao, cap, h2, h3, h4, h5⟩ := h
  exact ⟨h1, ao, cap, h2, h3, h4, fun a ha j x hx => k _ _ (h5 a ha j x hx)⟩
theorem rdN_cells {w w' : World} (k : Cells w w') : ∀ (f : Nat) (n : PN) (v : Value), rdN w f n v → rdN w' f n v := by
  intro f
  induction f with
  | zero => intro n v h; exact h
  | succ f ih =>
    intro n v h
    obtain ⟨av, kv, e, h1, ao, cap, h2, h3, h3', h4, h5⟩ := h
    refine ⟨av, kv, e, h1.cells k, ao, cap, h2, h3, h3', h4, fun a ha j x hx => ?_⟩
    obtain ⟨c0, c1, c2, c3, k0, k1, k2, k3, hr⟩ := h5 a ha j x hx
    exact ⟨c0, c1, c2, c3, k _ _ k0, k _ _ k1, k _ _ k2, k _ _ k3, ih _ _ hr⟩
theorem RdN.cells {w w' : World} {n : PN} {v : Value} (h : RdN w n v) (k : Cells w w') : RdN w' n v := by
  obtain ⟨f, h⟩ := h; exact ⟨f, rdN_cells k f n v h⟩
theorem Ext.cells {w w' : World} (h : Ext w w') : Cells w w' := fun p v hp => (Below.cell h (World.block_lt_of_cell? w p hp)).trans hp
theorem rdN_more {w : World} : ∀ (f : Nat) (n : PN) (v : Value), rdN w f n v → rdN w (f + 1) n v := by
  intro f
  induction f with
  | zero => intro n v h; exact absurd h id
  | succ f ih =>
    intro n v h
    obtain ⟨av, kv, e, h1, ao, cap, h2, h3, h3', h4, h5⟩ := h
    refine ⟨av, kv, e, h1, ao, cap, h2, h3, h3', h4, fun a ha j x hx => ?_⟩
    obtain ⟨c0, c1, c2, c3, k0, k1, k2, k3, hr⟩ := h5 a ha j x hx
    exact ⟨c0, c1, c2, c3, k0, k1, k2, k3, ih _ _ hr⟩
theorem rdN_le {w : World} {f g : Nat} {n : PN} {v : Value} (h : rdN w f n v) (hfg : f ≤ g) : rdN w g n v := by
  induction hfg with
  | refl => exact h
  | step _ ih => exact rdN_more _ _ _ ih
def KidsRd (w : World) (ks : List PN) (kv : Value) : Prop :=
  ∃ ao cap, kv = .slice ao ks.length cap ∧ ks.length ≤ cap ∧ cap ≤ maxLen ∧ (ao = none → ks.length = 0 ∧ cap = 0) ∧
    ∀ a, ao = some a → ∀ (j : Nat) k, ks[j]? = some k → ∃ c0 c1 c2 c3, w.cell? (a.add (j * 4)) = some c0 ∧ w.cell? (a.add (j * 4 + 1)) = some c1 ∧ w.cell? (a.add (j * 4 + 2)) = some c2 ∧ w.cell? (a.add (j * 4 + 3)) = some c3 ∧ RdN w k (.agg #[c0, c1, c2, c3])
theorem RdN.open {w : World} {n : PN} {v : Value} (h : RdN w n v) : ∃ av kv, v = .agg #[.int .i64 n.tag, av, .string n.text, kv] ∧ RowRd w 2 av n.attrs.length (attrCells n.attrs) ∧ KidsRd w n.kids kv := by
  obtain ⟨f, h⟩ := h
  cases f with
  | zero => exact absurd h id
  | succ f =>
    obtain ⟨av, kv, e, h1, ao, cap, h2, h3, h3', h4, h5⟩ := h
    refine ⟨av, kv, e, h1, ao, cap, h2, h3, h3', h4, fun a ha j x hx => ?_⟩
    obtain ⟨c0, c1, c2, c3, k0, k1, k2, k3, hr⟩ := h5 a ha j x hx
    exact ⟨c0, c1, c2, c3, k0, k1, k2, k3, f, hr⟩
theorem fuel_row {ks : List PN} {Q : Nat → Nat → PN → Prop} (hm : ∀ j f g k, Q j f k → f ≤ g → Q j g k) (h : ∀ (j : Nat) k, ks[j]? = some k → ∃ f, Q j f k) : ∃ f, ∀ (j : Nat) k, ks[j]? = some k → Q j f k := by
  induction ks generalizing Q with
  | nil => exact ⟨0, fun j k hk => by simp at hk⟩
  | cons x r ih =>
    obtain ⟨f, hf⟩ := h 0 x rfl
    obtain ⟨g, hg⟩ := ih (Q := fun j f k => Q (j + 1) f k) (fun j f g k => hm (j + 1) f g k) fun j k hk => h (j + 1) k (by simpa using hk)
    refine ⟨max f g, fun j k hk => ?_⟩
    cases j with
    | zero => simp at hk; subst hk; exact hm _ _ _ _ hf (Nat.le_max_left _ _)
    | succ j => exact hm _ _ _ _ (hg j k (by simpa using hk)) (Nat.le_max_right _ _)
theorem RdN.mk' {w : World} {n : PN} {av kv : Value} (h1 : RowRd w 2 av n.attrs.length (attrCells n.attrs)) (h2 : KidsRd w n.kids kv) : RdN w n (.agg #[.int .i64 n.tag, av, .string n.text, kv]) := by
  obtain ⟨ao, cap, rfl, h3, h3', h4, h5⟩ := h2
  cases ao with
  | none => exact ⟨1, av, _, rfl, h1, none, cap, rfl, h3, h3', h4, fun a ha => by cases ha⟩
  | some a =>
    obtain ⟨f, hf⟩ := fuel_row (ks := n.kids) (Q := fun j f k => ∃ c0 c1 c2 c3, w.cell? (a.add (j * 4)) = some c0 ∧ w.cell? (a.add (j * 4 + 1)) = some c1 ∧ w.cell? (a.add (j * 4 + 2)) = some c2 ∧ w.cell? (a.add (j * 4 + 3)) = some c3 ∧ rdN w f k (.agg #[c0, c1, c2, c3]))
      (fun j f g k ⟨c0, c1, c2, c3, k0, k1, k2, k3, hr⟩ hfg => ⟨c0, c1, c2, c3, k0, k1, k2, k3, rdN_le hr hfg⟩)
      (fun j k hk => by
        obtain ⟨c0, c1, c2, c3, k0, k1, k2, k3, f, hr⟩ := h5 a rfl j k hk
        exact ⟨f, c0, c1, c2, c3, k0, k1, k2, k3, hr⟩)
    exact ⟨f + 1, av, _, rfl, h1, some a, cap, rfl, h3, h3', h4, fun a' ha j k hk => by cases ha; exact hf j k hk⟩
theorem PN.size_eq (n : PN) : n.size = PN.sizes n.kids + 1 := by cases n; rfl
def Apart (g : World) (own : Ow) (w : World) : Prop := ∀ p v, g.cell? p = some v → w.cell? p = some v ∧ own p.block = none
end Go.Proofs.YtalaajbajgdglaaGreatDoor
namespace Go.Proofs.YtalaajbajgdglaaGreatDoor
open Go Go.RowKit
end Go.Proofs.YtalaajbajgdglaaGreatDoor
namespace Go.Proofs.YtalaajbajgdglaaGreatDoor
open Go Go.RowKit Go.BigFrame
def hide (own : Ow) (w : World) : World := { w with heap := w.heap.mapIdx fun b x => if (own b).isNone then x else .cells #[] 0 (0, 0) }
theorem hide_cell {own : Ow} {w : World} {p : Addr} {v : Value} (h : w.cell? p = some v) (hn : own p.block = none) : (hide own w).cell? p = some v := by
  rw [← h]
  refine World.cell?_of_block ?_
  show (w.heap.mapIdx _)[p.block]? = _
  rw [Array.getElem?_mapIdx, hn]
  cases w.heap[p.block]? <;> rfl
theorem hide_apart (own : Ow) (w : World) : Apart (hide own w) own w := by
  intro p v h
  have hn : own p.block = none := by
    cases ho : own p.block with
    | none => rfl
    | some x =>
      exfalso
      have hb : (hide own w).heap[p.block]? = (w.heap[p.block]?).map fun _ => (.cells #[] 0 (0, 0) : Obj) := by
        show (w.heap.mapIdx _)[p.block]? = _
        rw [Array.getElem?_mapIdx, ho]; rfl
      cases hw : w.heap[p.block]? with
      | none => rw [hw] at hb; simp [World.cell?, hb] at h
      | some o => rw [hw] at hb; simp [World.cell?, hb] at h
  refine ⟨?_, hn⟩
  rw [← h]
  refine (World.cell?_of_block ?_).symm
  show (w.heap.mapIdx _)[p.block]? = _
  rw [Array.getElem?_mapIdx, hn]
  cases w.heap[p.block]? <;> rfl
end Go.Proofs.YtalaajbajgdglaaGreatDoor
namespace Go.Proofs.YtalaajbajgdglaaGreatDoor
open Go Go.RowKit Go.BigFrame Go.ChangeShapes Go.WideShapes Go.Deep
end Go.Proofs.YtalaajbajgdglaaGreatDoor
namespace Go.Proofs.YtalaajbajgdglaaGreatDoor
open Go Go.RowKit Go.BigFrame
theorem add_pos (a : Addr) (j : Nat) (hj : 0 < j) : a.add j = ⟨a.block, a.off + j, none⟩ := by unfold Addr.add; rw [if_neg (by omega)]
def d3 (i : Nat) : Nat := if i = 1 then 1 else 0
theorem attrCells_at : ∀ (l : List (ByteArray × ByteArray)) (k : Nat) (p : ByteArray × ByteArray), l[k]? = some p → (attrCells l)[k * 2]? = some (.string p.1) ∧ (attrCells l)[k * 2 + 1]? = some (.string p.2) := by
  intro l
  induction l with
  | nil => intro k p h; cases h
  | cons q r ih =>
    obtain ⟨a, b⟩ := q
    intro k p h
    cases k with
    | zero => cases h; exact ⟨rfl, rfl⟩
    | succ k =>
      have := ih k p h
      rw [show (k + 1) * 2 = k * 2 + 2 by omega]
      exact this
mutual
def PN.fair : PN → Bool
  | .mk _ a _ ks => decide (a.length ≤ 60000) && PN.fairs ks
def PN.fairs : List PN → Bool
  | [] => true
  | k :: r => PN.fair k && PN.fairs r
end
theorem PN.fair_eq (n : PN) : n.fair = (decide (n.attrs.length ≤ 60000) && PN.fairs n.kids) := by cases n; rfl
theorem PN.fairs_mem {l : List PN} (h : PN.fairs l = true) {k : PN} (hk : k ∈ l) : k.fair = true := by
  induction l with
  | nil => cases hk
  | cons x r ih =>
    simp only [PN.fairs, Bool.and_eq_true] at h
    rcases List.mem_cons.1 hk with rfl | hk
    · exact h.1
    · exact ih h.2 hk
theorem SameAttrs_eq {w : World} {l : List (ByteArray × ByteArray)} {v v' : Value} (hlen : l.length ≤ 60000) (h : RowRd w 2 v l.length (attrCells l)) (h' : RowRd w 2 v' l.length (attrCells l)) :
    Calls Tryz.prog 33 #[v, v'] w (RBool true w) := by
  obtain ⟨_, ao, cap, rfl, hc, hno, hcl⟩ := h
  obtain ⟨_, ao', cap', rfl, hc', hno', hcl'⟩ := h'
  have HNO := qh hno
  have HNO' := qh hno'
  have HCL := qh hcl
  have HCL' := qh hcl'
  clear hno hno' hcl hcl'
  go_enter Tryz.func33, Tryz.ntmps33
  go_wp2_with fail
  go_loopw [5] (fun i wr => ∃ k : Nat, k ≤ l.length ∧ i = .int .i64 k ∧ Ext w wr) (fun i _ => l.length - (intOf i).toNat)
  case atStart => exact ⟨0, Nat.zero_le _, rfl, Ext.refl _⟩
  case round =>
    obtain ⟨k, hk, rfl, xr⟩ := hrel
    by_cases hkk : k < l.length
    · obtain ⟨p, hp⟩ : ∃ p, l[k]? = some p := ⟨l[k], by simp [hkk]⟩
      obtain ⟨e1, e2⟩ := attrCells_at l k p hp
      cases ao with
      | none => exact absurd (HNO.out rfl).1 (by omega)
      | some a =>
        cases ao' with
        | none => exact absurd (HNO'.out rfl).1 (by omega)
        | some a' =>
          obtain ⟨b, off, sp⟩ := a
          obtain ⟨b', off', sp'⟩ := a'
          have q0 := HCL.out _ rfl _ _ e1
          have q1 := HCL.out _ rfl _ _ e2
          have q0' := HCL'.out _ rfl _ _ e1
          have q1' := HCL'.out _ rfl _ _ e2
          rw [add_later _ _ _ (by decide)] at q1 q1'
          have XR := qh xr
          have d0 := fun u : ExtOf wr => u.ext.cells _ _ (xr.cells _ _ q0)
          have d1 := fun u : ExtOf wr => u.ext.cells _ _ (xr.cells _ _ q1)
          have d0' := fun u : ExtOf wr => u.ext.cells _ _ (xr.cells _ _ q0')
          have d1' := fun u : ExtOf wr => u.ext.cells _ _ (xr.cells _ _ q1')
          clear q0 q1 q0' q1' e1 e2 xr hp
          go_upto_region 6 with fail
          refine wp_region_ext (by kernel_rfl) (by kernel_rfl) ?_
          repeat (go_big_quiet_step (fail))
          refine wpQuiet_nil ?_
          rintro _ ⟨u, rfl⟩
          clear d0 d1 d0' d1'
          go_wp2_with fail
          go_roundw
          case rel => exact ⟨k + 1, by omega, by go_num, XR.out.trans u.ext⟩
          case measure => simp [intOf]; omega
    · go_wp2_with fail
      go_ret
      exact ⟨rfl, xr⟩
theorem SameNode_eq : ∀ (n : PN), n.fair = true → ∀ (w : World) (v v' : Value), RdN w n v → RdN w n v' → Calls Tryz.prog 12 #[v, v'] w (RBool true w) := by
  refine PN.induct _ fun n ih hfair w v v' h h' => ?_
  rw [PN.fair_eq] at hfair
  simp only [Bool.and_eq_true, decide_eq_true_eq] at hfair
  have hal := hfair.1
  have HF := qh hfair.2
  clear hfair
  obtain ⟨av, kv, rfl, hA, hK⟩ := h.open
  obtain ⟨av', kv', rfl, hA', hK'⟩ := h'.open
  obtain ⟨aa, acap, rfl, _⟩ := hA.len_of
  obtain ⟨aa', acap', rfl, _⟩ := hA'.len_of
  obtain ⟨ka, kcap, rfl, hkc, hkm, hkn, hk⟩ := hK
  obtain ⟨ka', kcap', rfl, hkc', hkm', hkn', hk'⟩ := hK'
  have IH := qh ih
  have HA := qh hA
  have HA' := qh hA'
  have HN := qh hkn
  have HN' := qh hkn'
  have HK := qh hk
  have HK' := qh hk'
  unfold maxLen at hkm hkm'
  clear ih hA hA' hkn hkn' hk hk' h h'
  have bM := heap_alloc_new w (.cells #[.int .i64 n.tag, .slice aa n.attrs.length acap, .string n.text, .slice ka n.kids.length kcap] 26)
  have xm := (Ext.refl w).alloc (.cells #[.int .i64 n.tag, .slice aa n.attrs.length acap, .string n.text, .slice ka n.kids.length kcap] 26)
  go_enter Tryz.func12, Tryz.ntmps12
  go_upto_region 1 with fail
  obtain ⟨wm, hwm⟩ : ∃ wm : World, wm = w.alloc (.cells #[.int .i64 n.tag, .slice aa n.attrs.length acap, .string n.text, .slice ka n.kids.length kcap] 26) := ⟨_, rfl⟩
  have hsz : wm.heap.size = w.heap.size + 1 := by rw [hwm]; simp
  rw [← hwm] at bM xm ⊢
  clear hwm
  have bM2 := heap_alloc_new wm (.cells #[.int .i64 n.tag, .slice aa' n.attrs.length acap', .string n.text, .slice ka' n.kids.length kcap'] 26)
  have xm2 := (Ext.refl wm).alloc (.cells #[.int .i64 n.tag, .slice aa' n.attrs.length acap', .string n.text, .slice ka' n.kids.length kcap'] 26)
  obtain ⟨wn, hwn⟩ : ∃ wn : World, wn = wm.alloc (.cells #[.int .i64 n.tag, .slice aa' n.attrs.length acap', .string n.text, .slice ka' n.kids.length kcap'] 26) := ⟨_, rfl⟩
  rw [← hwn] at bM2 xm2 ⊢
  clear hwn
  have b1 := (xm2.block bM)
  rw [hsz] at bM2
  have u0 := cellOf b1 (i := 0) (v := .int .i64 n.tag) rfl
  have u1 := cellOf b1 (i := 1) (v := .slice aa n.attrs.length acap) rfl
  have u2 := cellOf b1 (i := 2) (v := .string n.text) rfl
  have u3 := cellOf b1 (i := 3) (v := .slice ka n.kids.length kcap) rfl
  have t0 := cellOf bM2 (i := 0) (v := .int .i64 n.tag) rfl
  have t1 := cellOf bM2 (i := 1) (v := .slice aa' n.attrs.length acap') rfl
  have t2 := cellOf bM2 (i := 2) (v := .string n.text) rfl
  have t3 := cellOf bM2 (i := 3) (v := .slice ka' n.kids.length kcap') rfl
  have HX := qh (xm.trans xm2)
  have U3 := qh u3
  have T3 := qh t3
  clear bM xm bM2 xm2 b1
  go_wp2_with fail
  refine (SameAttrs_eq hal (HA.out.ext HX.out) (HA'.out.ext HX.out)).mono ?_
  rintro e w3 ⟨rfl, hx3⟩
  clear u0 u1 u2 u3 t0 t1 t2 t3
  have u3 := hx3.cell U3.out
  have t3 := hx3.cell T3.out
  have HX3 := qh (HX.out.trans hx3)
  clear hx3
  go_wp2_with fail
  have U3' := qh u3
  have T3' := qh t3
  clear u3 t3
  go_loopw [5] (fun i wr => ∃ k : Nat, k ≤ n.kids.length ∧ i = .int .i64 k ∧ Ext w3 wr) (fun i _ => n.kids.length - (intOf i).toNat)
  case atStart => exact ⟨0, Nat.zero_le _, rfl, Ext.refl _⟩
  case round =>
    obtain ⟨k, hk, rfl, xr⟩ := hrel
    have u3 := xr.cell U3'.out
    have t3 := xr.cell T3'.out
    have XR := qh xr
    have XW := qh (HX3.out.trans xr)
    clear xr
    by_cases hkk : k < n.kids.length
    · obtain ⟨x, hx⟩ : ∃ x, n.kids[k]? = some x := ⟨n.kids[k], by simp [hkk]⟩
      cases ka with
      | none => exact absurd (HN.out rfl).1 (by omega)
      | some a =>
        cases ka' with
        | none => exact absurd (HN'.out rfl).1 (by omega)
        | some a' =>
          obtain ⟨b, off, sp⟩ := a
          obtain ⟨b', off', sp'⟩ := a'
          obtain ⟨c0, c1, c2, c3, q0, q1, q2, q3, hr⟩ := HK.out _ rfl k x hx
          obtain ⟨c0', c1', c2', c3', q0', q1', q2', q3', hr'⟩ := HK'.out _ rfl k x hx
          obtain ⟨y1, y2, en, hy1, hy2⟩ := hr.open
          obtain ⟨y1a, y1c, ey1, _⟩ := hy1.len_of
          obtain ⟨y2a, y2c, ey2, _⟩ := hy2
          subst ey1 ey2
          cases en
          obtain ⟨z1, z2, en', hz1, hz2⟩ := hr'.open
          obtain ⟨z1a, z1c, ez1, _⟩ := hz1.len_of
          obtain ⟨z2a, z2c, ez2, _⟩ := hz2
          subst ez1 ez2
          cases en'
          rw [add_later _ _ _ (by decide)] at q1 q2 q3 q1' q2' q3'
          have X := XW.out.cells
          have d0 := fun u : ExtOf wr => u.ext.cells _ _ (X _ _ q0)
          have d1 := fun u : ExtOf wr => u.ext.cells _ _ (X _ _ q1)
          have d2 := fun u : ExtOf wr => u.ext.cells _ _ (X _ _ q2)
          have d3 := fun u : ExtOf wr => u.ext.cells _ _ (X _ _ q3)
          have d0' := fun u : ExtOf wr => u.ext.cells _ _ (X _ _ q0')
          have d1' := fun u : ExtOf wr => u.ext.cells _ _ (X _ _ q1')
          have d2' := fun u : ExtOf wr => u.ext.cells _ _ (X _ _ q2')
          have d3' := fun u : ExtOf wr => u.ext.cells _ _ (X _ _ q3')
          have du := fun u : ExtOf wr => u.ext.cell u3
          have dt := fun u : ExtOf wr => u.ext.cell t3
          have CALL := qh (show ∀ u : ExtOf wr, Calls Tryz.prog 12 #[_, _] u.val (RBool true u.val) from fun u => IH.out x (List.mem_of_getElem? hx) (PN.fairs_mem HF.out (List.mem_of_getElem? hx)) u.val _ _ (hr.cells (XW.out.trans u.ext).cells) (hr'.cells (XW.out.trans u.ext).cells))
          clear q0 q1 q2 q3 q0' q1' q2' q3' X hr hr' hy1 hz1 hx
          go_upto_region 6 with fail
          refine wp_region_ext (by kernel_rfl) (by kernel_rfl) ?_
          repeat (go_big_quiet_step ((go_at_call 12; exact inExt (CALL.out _))))
          refine wpQuiet_nil ?_
          rintro _ ⟨u, rfl⟩
          clear d0 d1 d2 d3 d0' d1' d2' d3' du dt u3 t3
          go_wp2_with fail
          go_roundw
          case rel => exact ⟨k + 1, by omega, by go_num, XR.out.trans u.ext⟩
          case measure => simp [intOf]; omega
    · go_wp2_with fail
      go_ret
      exact ⟨rfl, XW.out⟩
abbrev noNode0 : Value := .agg #[.int .i64 0, .slice none 0 0, .string ⟨#[]⟩, .slice none 0 0]
theorem infoN : (Tryz.prog.info? 26).map (fun i => (i.zero, i.size, i.bytes)) = some (some noNode0, 4, 72) := by kernel_rfl
theorem cells_four {w : World} {b : Nat} {c0 c1 c2 c3 : Value} {t : TypeId} (h : w.heap[b]? = some (.cells #[c0, c1, c2, c3] t (0, 0))) : ∀ (j : Nat) u, [c0, c1, c2, c3][j]? = some u → w.cell? (Addr.add ⟨b, 0, none⟩ j) = some u := by
  intro j u hu
  rw [Addr.add_lit, Nat.zero_add]
  refine cellOf h ?_
  simpa using hu
def four (cur : Array Value) (j : Nat) : Value := .agg #[cur[j * 4]?.getD undef, cur[j * 4 + 1]?.getD undef, cur[j * 4 + 2]?.getD undef, cur[j * 4 + 3]?.getD undef]
inductive OwnN (ga w : World) : PN → Value → (Nat → Prop) → Prop
  | leaf (n : PN) (av kv : Value) (F : Nat → Prop) (ha : RowRd ga 2 av n.attrs.length (attrCells n.attrs)) (h0 : n.kids = []) (hk : ∃ a, kv = .slice a 0 0) : OwnN ga w n (.agg #[.int .i64 n.tag, av, .string n.text, kv]) F
  | node (n : PN) (av : Value) (b cap : Nat) (cur : Array Value) (F : Nat → Prop) (G : Nat → Nat → Prop) (ha : RowRd ga 2 av n.attrs.length (attrCells n.attrs)) (hb : w.heap[b]? = some (.cells cur 26 (0, 0))) (hl : n.kids.length ≤ cap) (hm : cap ≤ maxLen) (hs : cur.size = cap * 4)
      (hk : ∀ (j : Nat) (k : PN), n.kids[j]? = some k → OwnN ga w k (four cur j) (G j)) (hFb : F b) (hG : ∀ j x, j < n.kids.length → G j x → F x ∧ x ≠ b) (hd : ∀ i j x, i < n.kids.length → j < n.kids.length → i ≠ j → G i x → ¬ G j x) : OwnN ga w n (.agg #[.int .i64 n.tag, av, .string n.text, .slice (some ⟨b, 0, none⟩) n.kids.length cap]) F
theorem OwnN.keep {ga w w' : World} {n : PN} {v : Value} {F : Nat → Prop} (h : OwnN ga w n v F) : (∀ b o, F b → w.heap[b]? = some o → w'.heap[b]? = some o) → OwnN ga w' n v F := by
  induction h with
  | leaf n av kv F ha h0 hk => exact fun _ => .leaf n av kv F ha h0 hk
  | node n av b cap cur F G ha hb hl hm hs hk hFb hG hd ih =>
    intro k
    exact .node n av b cap cur F G ha (k b _ hFb hb) hl hm hs (fun j x hx => ih j x hx fun b o hb => k b o (hG j b (List.getElem?_eq_some_iff.1 hx).1 hb).1) hFb hG hd
theorem four_at {cur : Array Value} {cap j : Nat} (hs : cur.size = cap * 4) (hj : j < cap) : ∃ c0 c1 c2 c3, four cur j = .agg #[c0, c1, c2, c3] ∧ cur[j * 4]? = some c0 ∧ cur[j * 4 + 1]? = some c1 ∧ cur[j * 4 + 2]? = some c2 ∧ cur[j * 4 + 3]? = some c3 := by
  have h0 : j * 4 < cur.size := by omega
  have h1 : j * 4 + 1 < cur.size := by omega
  have h2 : j * 4 + 2 < cur.size := by omega
  have h3 : j * 4 + 3 < cur.size := by omega
  refine ⟨cur[j * 4], cur[j * 4 + 1], cur[j * 4 + 2], cur[j * 4 + 3], ?_, ?_, ?_, ?_, ?_⟩
  · unfold four
    rw [Array.getElem?_eq_getElem h0, Array.getElem?_eq_getElem h1, Array.getElem?_eq_getElem h2, Array.getElem?_eq_getElem h3]; rfl
  · exact Array.getElem?_eq_getElem h0
  · exact Array.getElem?_eq_getElem h1
  · exact Array.getElem?_eq_getElem h2
  · exact Array.getElem?_eq_getElem h3
theorem OwnN.rd {ga w g : World} {B : Nat} {n : PN} {v : Value} {F : Nat → Prop} (h : OwnN ga w n v F) (hga : Cells ga g) (hc : ∀ q y, w.cell? q = some y → B ≤ q.block → g.cell? q = some y) : (∀ x, F x → B ≤ x) → RdN g n v := by
  induction h with
  | leaf n av kv F ha h0 hk =>
    intro _
    obtain ⟨a, rfl⟩ := hk
    refine RdN.mk' (ha.cells hga) ⟨a, 0, by rw [h0]; rfl, by rw [h0]; exact Nat.le_refl _, Nat.zero_le _, fun _ => ⟨by rw [h0]; rfl, rfl⟩, fun a ha j k hk => ?_⟩
    rw [h0] at hk; simp at hk
  | node n av b cap cur F G ha hb hl hm hs hk hFb hG hd ih =>
    intro hF
    refine RdN.mk' (ha.cells hga) ⟨_, cap, rfl, hl, hm, (fun e => by cases e), fun a ha' j k hk' => ?_⟩
    cases ha'
    have hj := (List.getElem?_eq_some_iff.1 hk').1
    obtain ⟨c0, c1, c2, c3, e, q0, q1, q2, q3⟩ := four_at hs (show j < cap by omega)
    have hr := ih j k hk' fun x hx => hF x (hG j x hj hx).1
    rw [e] at hr
    have cell : ∀ (m : Nat) z, cur[m]? = some z → g.cell? (Addr.add ⟨b, 0, none⟩ m) = some z := fun m z hz => by
      rw [Addr.add_lit, Nat.zero_add]
      exact hc ⟨b, m, none⟩ z (cellOf hb hz) (hF b hFb)
    exact ⟨c0, c1, c2, c3, cell _ _ q0, cell _ _ q1, cell _ _ q2, cell _ _ q3, hr⟩
theorem OwnN.shape {ga w : World} {n : PN} {v : Value} {F : Nat → Prop} (h : OwnN ga w n v F) : ∃ a ac k kc, v = .agg #[.int .i64 n.tag, .slice a n.attrs.length ac, .string n.text, .slice k n.kids.length kc] := by
  cases h with
  | leaf n av kv F ha h0 hk =>
    obtain ⟨a, ac, rfl, _⟩ := ha.len_of
    obtain ⟨k, rfl⟩ := hk
    exact ⟨a, ac, k, 0, by rw [h0]; rfl⟩
  | node n av b cap cur F G ha hb hl hm hs hk hFb hG hd =>
    obtain ⟨a, ac, rfl, _⟩ := ha.len_of
    exact ⟨a, ac, _, cap, rfl⟩
section
variable {w0 w : World} {tb : Nat} {T : Tr} {g : World}
theorem RdN.shape {w : World} {n : PN} {v : Value} (h : RdN w n v) : ∃ a ac k kc, v = .agg #[.int .i64 n.tag, .slice a n.attrs.length ac, .string n.text, .slice k n.kids.length kc] := by
  obtain ⟨av, kv, rfl, ha, k, kc, rfl, _⟩ := h.open
  obtain ⟨a, ac, rfl, _⟩ := ha.len_of
  exact ⟨a, ac, k, kc, rfl⟩
end
theorem wpList_append_run {P : Program} (w : World) {ops : Array Oper} {rest : List Oper} {o : Oper} {a : Act} {Q : Exit → Act → World → Prop}
    (hg : o.guard = none) (s x : Operand) (t : TypeId) (hop : o.op = Op.call { callee := Callee.builtin Builtin.append, args := #[s, x], argTypes := #[t, t] })
    (v u : Value) (hs : a.eval s = v) (hx : a.eval x = u) (v' : Value) (w' : World) (hr : (Builtin.append_ #[t, t] o.type #[v, u]).run P w = .ok v' w') (hK : wpList P ops Q rest (a.put o.dst v') w') :
    wpList P ops Q (o :: rest) a w := by
  refine wpList_plain hg fun K hK' => ?_
  unfold Oper.wp
  simp [execOp, hop, resolve, invoke, builtin, hs, hx, hr, Result.andThen]
  exact hK' _ _ hK
end Go.Proofs.YtalaajbajgdglaaGreatDoor
namespace Go.Proofs.YtalaajbajgdglaaGreatDoor
open Go
theorem ofNat_nat {n : Nat} (h : n < 256) : (UInt8.ofNat n).toNat = n := by simp; omega
theorem valid_cases {r : Int} (h : Utf8.valid r = true) : ∃ n : Nat, r = n ∧ (n < 55296 ∨ 57344 ≤ n ∧ n ≤ 1114111) := by
  unfold Utf8.valid at h
  simp at h
  refine ⟨r.toNat, by omega, by omega⟩
theorem encode_nat {n : Nat} (h : n < 55296 ∨ 57344 ≤ n ∧ n ≤ 1114111) : (Utf8.encode (n : Int)).data.toList =
    if n < 128 then [UInt8.ofNat n] else if n < 2048 then [UInt8.ofNat (192 + n / 64), UInt8.ofNat (128 + n % 64)]
    else if n < 65536 then [UInt8.ofNat (224 + n / 4096), UInt8.ofNat (128 + n / 64 % 64), UInt8.ofNat (128 + n % 64)]
    else [UInt8.ofNat (240 + n / 262144), UInt8.ofNat (128 + n / 4096 % 64), UInt8.ofNat (128 + n / 64 % 64), UInt8.ofNat (128 + n % 64)] := by
  have hv : Utf8.valid (n : Int) = true := by unfold Utf8.valid; simp; omega
  unfold Utf8.encode
  simp only [hv, if_true, Int.toNat_natCast]
  split
  · rfl
  · split
    · rfl
    · split <;> rfl
theorem decode_valid (s : ByteArray) (i : Nat) : Utf8.valid (Int.ofNat (Utf8.decode s i).1) = true := by
  have hb : ∀ k, (s.get! (i + k)).toNat < 256 := fun k => (s.get! (i + k)).toNat_lt
  have h0 := hb 0; have h1 := hb 1; have h2 := hb 2; have h3 := hb 3
  have ok : ∀ c : Nat, c < 55296 → Utf8.valid (Int.ofNat c) = true := fun c hc => by unfold Utf8.valid; simp; omega
  have er : Utf8.valid (Int.ofNat Utf8.runeError) = true := by decide
  simp only [Utf8.decode]
  split
  · exact ok _ (by omega)
  · split
    · split
      · exact ok _ (by omega)
      · exact er
    · split
      · split
        · rename_i h; simp at h; exact h.2
        · exact er
      · split
        · split
          · rename_i h; simp at h; exact h.2
          · exact er
        · exact er
theorem runeList_valid (s : ByteArray) : ∀ (b i : Nat), ∀ r ∈ runeList s b i, Utf8.valid r = true := by
  intro b
  induction b with
  | zero => intro i r h; cases h
  | succ b ih =>
    intro i r h
    unfold runeList at h
    split at h
    · rcases List.mem_cons.1 h with rfl | h
      · exact decode_valid s i
      · exact ih _ r h
    · cases h
theorem runesBytes_list (l : List Int) : (runesBytes l).data.toList = l.flatMap fun r => (Utf8.encode r).data.toList := by
  have h : ∀ (l : List Int) (acc : ByteArray), (l.foldl (fun r n => r ++ Utf8.encode n) acc).data.toList = acc.data.toList ++ l.flatMap fun r => (Utf8.encode r).data.toList := by
    intro l
    induction l with
    | nil => intro acc; simp
    | cons x r ih => intro acc; rw [List.foldl_cons, ih]; simp
  have := h l ByteArray.empty
  simpa [runesBytes] using this
theorem encode_len (r : Int) : 1 ≤ (Utf8.encode r).data.toList.length ∧ (Utf8.encode r).data.toList.length ≤ 4 := by
  unfold Utf8.encode
  dsimp only
  generalize (if Utf8.valid r = true then r.toNat else Utf8.runeError) = c
  split
  · exact ⟨by simp, by simp⟩
  · split
    · exact ⟨by simp, by simp⟩
    · split
      · exact ⟨by simp, by simp⟩
      · exact ⟨by simp, by simp⟩
def clsT (t : Int) : Int := if t < 0 ∨ 16 < t then 0 else if t = 0 then 1 else if t = 1 ∨ t = 6 ∨ t = 7 ∨ t = 8 then 2 else if 2 ≤ t ∧ t ≤ 5 ∨ t = 9 then 3 else if t = 16 then 5 else 4
def nameT (t : Int) : ByteArray :=
  if t = 1 then ⟨#[100, 105, 118]⟩ else if t = 2 then ⟨#[112]⟩ else if t = 3 then ⟨#[104, 49]⟩ else if t = 4 then ⟨#[104, 50]⟩ else if t = 5 then ⟨#[104, 51]⟩
  else if t = 6 then ⟨#[98, 108, 111, 99, 107, 113, 117, 111, 116, 101]⟩ else if t = 7 then ⟨#[117, 108]⟩ else if t = 8 then ⟨#[111, 108]⟩ else if t = 9 then ⟨#[108, 105]⟩
  else if t = 10 then ⟨#[97]⟩ else if t = 11 then ⟨#[98]⟩ else if t = 12 then ⟨#[105]⟩ else if t = 13 then ⟨#[117]⟩ else if t = 14 then ⟨#[115]⟩
  else if t = 15 then ⟨#[115, 112, 97, 110]⟩ else if t = 16 then ⟨#[98, 114]⟩ else ⟨#[]⟩
def nameOk (s : ByteArray) : Bool :=
  decide (1 ≤ s.size ∧ s.size ≤ 16) && s.data.toList.head?.any (fun c => decide (97 ≤ c.toNat ∧ c.toNat ≤ 122)) && s.data.toList.all fun c => decide (97 ≤ c.toNat ∧ c.toNat ≤ 122 ∨ 48 ≤ c.toNat ∧ c.toNat ≤ 57 ∨ c.toNat = 45)
def mayR (r : Int) : Bool := decide (32 ≤ r ∧ r ≠ 127)
def valueOk (s : ByteArray) : Bool := decide (s.size ≤ 200) && decide (anewB s = s) && (runeList s s.size 0).all mayR
def attrAt (l : List (ByteArray × ByteArray)) (n : ByteArray) : Int := match l.findIdx? (fun a => decide (a.1 = n)) with | some i => i | none => -1
def attrsMay (l : List (ByteArray × ByteArray)) : Bool := l.zipIdx.all fun (a, i) => nameOk a.1 && valueOk a.2 && decide (attrAt l a.1 = i)
def blankB (c : UInt8) : Bool := decide (c = 9 ∨ c = 10 ∨ c = 12 ∨ c = 13 ∨ c = 32)
def textOk (box : Bool) (n : PN) : Bool := n.attrs.isEmpty && n.kids.isEmpty && decide (n.text.size ≠ 0) && decide (anewB n.text = n.text) && !(box && n.text.data.toList.all blankB)
mutual
def PN.norm (d : Int) (box line li : Bool) : PN → Bool
  | .mk t a s ks => decide (d ≤ 40) && (if clsT t = 0 then false else if clsT t = 1 then textOk box (.mk t a s ks)
      else if clsT t = 5 then s.size == 0 && attrsMay a && ks.isEmpty
      else if clsT t = 4 then s.size == 0 && attrsMay a && PN.norms (d + 1) false line li false ks
      else !(line || t == 9 && li) && (s.size == 0 && attrsMay a && PN.norms (d + 1) (clsT t == 2) (clsT t == 3 && t != 9) (t == 9 || li && t != 7 && t != 8) false ks))
def PN.norms (d : Int) (box line li : Bool) (prev : Bool) : List PN → Bool
  | [] => true
  | k :: r => !(prev && k.tag == 0) && PN.norm d box line li k && PN.norms d box line li (k.tag == 0) r
end
theorem PN.norm_eq (d : Int) (box line li : Bool) (n : PN) : n.norm d box line li = (decide (d ≤ 40) && (if clsT n.tag = 0 then false else if clsT n.tag = 1 then textOk box n
      else if clsT n.tag = 5 then n.text.size == 0 && attrsMay n.attrs && n.kids.isEmpty
      else if clsT n.tag = 4 then n.text.size == 0 && attrsMay n.attrs && PN.norms (d + 1) false line li false n.kids
      else !(line || n.tag == 9 && li) && (n.text.size == 0 && attrsMay n.attrs && PN.norms (d + 1) (clsT n.tag == 2) (clsT n.tag == 3 && n.tag != 9) (n.tag == 9 || li && n.tag != 7 && n.tag != 8) false n.kids))) := by cases n; rfl
def lineIn : List Int → Bool
  | [] => false
  | t :: r => if 2 ≤ t ∧ t ≤ 5 then true else if clsT t = 2 ∨ t = 9 then false else lineIn r
def liIn : List Int → Bool
  | [] => false
  | t :: r => if t = 7 ∨ t = 8 then false else if t = 9 then true else liIn r
theorem lineIn_inline {t : Int} (h : clsT t = 4 ∨ clsT t = 5) (r : List Int) : lineIn (t :: r) = lineIn r ∧ liIn (t :: r) = liIn r := by
  have : 10 ≤ t := by
    unfold clsT at h
    repeat' split at h
    all_goals omega
  have h2 : clsT t ≠ 2 := by omega
  exact ⟨by rw [lineIn, if_neg (by omega), if_neg (by omega)], by rw [liIn, if_neg (by omega), if_neg (by omega)]⟩
theorem lineIn_big {t : Int} (h : clsT t = 2 ∨ clsT t = 3) (r : List Int) : lineIn (t :: r) = (clsT t == 3 && t != 9) ∧ liIn (t :: r) = (t == 9 || liIn r && t != 7 && t != 8) := by
  have ht : 1 ≤ t ∧ t ≤ 9 := by
    unfold clsT at h
    repeat' split at h
    all_goals omega
  obtain ⟨a, b⟩ := ht
  have hc : t = 1 ∨ t = 2 ∨ t = 3 ∨ t = 4 ∨ t = 5 ∨ t = 6 ∨ t = 7 ∨ t = 8 ∨ t = 9 := by omega
  rcases hc with rfl | rfl | rfl | rfl | rfl | rfl | rfl | rfl | rfl <;> simp [lineIn, liIn, clsT]
theorem encode_rune {r : Int} (h : Utf8.valid r = true) : (Utf8.encode r).data.toList = Lib.encodeRune r := by
  obtain ⟨n, rfl, hn⟩ := valid_cases h
  rw [encode_nat hn]
  unfold Lib.encodeRune
  have e : ∀ m : Nat, ((m : Int)).toNat.toUInt8 = UInt8.ofNat m := fun m => rfl
  by_cases h1 : n < 128
  · rw [if_pos h1, Lib.encodeRuneZ_one (by omega) (by omega)]; rfl
  · rw [if_neg h1]
    by_cases h2 : n < 2048
    · rw [if_pos h2, Lib.encodeRuneZ_two (by omega) (by omega)]
      rw [show (192 + (n : Int) / 64) = ((192 + n / 64 : Nat) : Int) by omega, show (128 + (n : Int) % 64) = ((128 + n % 64 : Nat) : Int) by omega]
      rfl
    · rw [if_neg h2]
      by_cases h3 : n < 65536
      · rw [if_pos h3, Lib.encodeRuneZ_three (by omega)]
        rw [show (224 + (n : Int) / 4096) = ((224 + n / 4096 : Nat) : Int) by omega, show (128 + (n : Int) / 64 % 64) = ((128 + n / 64 % 64 : Nat) : Int) by omega, show (128 + (n : Int) % 64) = ((128 + n % 64 : Nat) : Int) by omega]
        rfl
      · rw [if_neg h3, Lib.encodeRuneZ_four (by omega) (by omega)]
        rw [show (240 + (n : Int) / 262144) = ((240 + n / 262144 : Nat) : Int) by omega, show (128 + (n : Int) / 4096 % 64) = ((128 + n / 4096 % 64 : Nat) : Int) by omega, show (128 + (n : Int) / 64 % 64) = ((128 + n / 64 % 64 : Nat) : Int) by omega, show (128 + (n : Int) % 64) = ((128 + n % 64 : Nat) : Int) by omega]
        rfl
theorem width_pos (s : ByteArray) (pos : Nat) (h : pos < s.size) : 1 ≤ (Utf8.decode s pos).2 := by
  rw [← Lib.decodeL_drop]; exact Lib.decodeL_width _
def restB (s : ByteArray) (f pos : Nat) : List UInt8 := (runeList s f pos).flatMap fun r => (Utf8.encode r).data.toList
theorem drop_len (s : ByteArray) (pos : Nat) : (s.data.toList.drop pos).length = s.size - pos := by rw [List.length_drop]; rfl
theorem drop_ne (s : ByteArray) {pos : Nat} (h : pos < s.size) : s.data.toList.drop pos ≠ [] := fun e => by have := drop_len s pos; rw [e] at this; simp at this; omega
theorem rest_valid (s : ByteArray) : ∀ (f pos : Nat), s.size ≤ pos + f → (Lib.validD (s.data.toList.drop pos) = true ↔ restB s f pos = s.data.toList.drop pos) := by
  intro f
  induction f with
  | zero =>
    intro pos h
    have e : s.data.toList.drop pos = [] := List.eq_nil_of_length_eq_zero (by rw [drop_len]; omega)
    rw [e]
    exact ⟨fun _ => rfl, fun _ => rfl⟩
  | succ f ih =>
    intro pos h
    by_cases hp : pos < s.size
    · have hne := drop_ne s hp
      have hw := Lib.decodeL_width (s.data.toList.drop pos)
      have hle := Lib.decodeL_le _ hne
      have hD := Lib.decodeL_drop s pos
      rw [Lib.validD_step _ hne]
      have er : restB s (f + 1) pos = (Utf8.encode (Int.ofNat (Utf8.decode s pos).1)).data.toList ++ restB s f (pos + (Utf8.decode s pos).2) := by
        unfold restB; rw [runeList, if_pos hp]; rfl
      have hva := decode_valid s pos
      by_cases hb : (Lib.decodeL (s.data.toList.drop pos)).1 = 65533 ∧ (Lib.decodeL (s.data.toList.drop pos)).2 = 1
      · rw [if_pos hb]
        refine ⟨fun e => (by cases e), fun e => ?_⟩
        exfalso
        rw [er, ← hD, hb.1] at e
        have e3 : (Utf8.encode (Int.ofNat 65533)).data.toList = [239, 191, 189] := by decide
        rw [e3] at e
        have h2 := hb.2
        rw [← e, Lib.decodeL_N] at h2
        simp [Lib.decodeN] at h2
      · rw [if_neg hb, List.drop_drop]
        rw [hD] at hb hle ⊢
        have i1 := ih (pos + (Utf8.decode s pos).2) (by rw [hD] at hw; omega)
        rw [i1, er, encode_rune hva]
        have h4 := Lib.encode_decode _ hne (by rw [hD]; exact hb)
        rw [hD] at h4
        have h5 : Lib.encodeRune (Int.ofNat (Utf8.decode s pos).1) = (s.data.toList.drop pos).take (Utf8.decode s pos).2 := h4
        rw [h5]
        have h6 : s.data.toList.drop pos = (s.data.toList.drop pos).take (Utf8.decode s pos).2 ++ s.data.toList.drop (pos + (Utf8.decode s pos).2) := by
          rw [← List.drop_drop, List.take_append_drop]
        constructor
        · intro e; rw [e]; exact h6.symm
        · intro e
          have h7 := e.trans h6
          exact List.append_cancel_left h7
    · have e : s.data.toList.drop pos = [] := List.eq_nil_of_length_eq_zero (by rw [drop_len]; omega)
      rw [e]
      have : restB s (f + 1) pos = [] := by unfold restB; rw [runeList, if_neg hp]; rfl
      rw [this]
      exact ⟨fun _ => rfl, fun _ => rfl⟩
theorem bytes_ext {s t : ByteArray} (h : s.data.toList = t.data.toList) : s = t := by
  cases s; cases t; simp only at h; congr 1; exact Array.ext' h
theorem valid_anew (s : ByteArray) : Lib.validD s.data.toList = decide (anewB s = s) := by
  have h := rest_valid s s.size 0 (by omega)
  rw [List.drop_zero] at h
  have e : (anewB s).data.toList = restB s s.size 0 := by unfold anewB restB; exact runesBytes_list _
  rw [Bool.eq_iff_iff, h, ← e, decide_eq_true_eq]
  exact ⟨bytes_ext, fun e => by rw [e]⟩
theorem dropWhile_nil {p : UInt8 → Bool} : ∀ {l : List UInt8}, l.dropWhile p = [] ↔ ∀ c ∈ l, p c = true := by
  intro l
  induction l with
  | nil => simp
  | cons a l ih =>
    rw [List.dropWhile_cons]
    by_cases h : p a = true
    · rw [if_pos h, ih]; simp [h]
    · rw [if_neg h]; simp [h]
theorem takeWhile_mem {p : UInt8 → Bool} : ∀ {l : List UInt8} {c : UInt8}, c ∈ l.takeWhile p → p c = true := by
  intro l
  induction l with
  | nil => intro c h; simp at h
  | cons a l ih =>
    intro c h
    rw [List.takeWhile_cons] at h
    by_cases ha : p a = true
    · rw [if_pos ha] at h
      rcases List.mem_cons.1 h with rfl | h
      · exact ha
      · exact ih h
    · rw [if_neg ha] at h; simp at h
theorem trimLeft_nil {l cs : List UInt8} : Lib.trimLeftS l cs = [] ↔ ∀ c ∈ l, cs.contains c = true := by
  unfold Lib.trimLeftS
  exact dropWhile_nil
theorem trimRight_mem {l cs : List UInt8} (h : ∀ c ∈ Lib.trimRightS l cs, cs.contains c = true) : ∀ c ∈ l, cs.contains c = true := by
  unfold Lib.trimRightS at h
  intro c hc
  have e : l.reverse = l.reverse.takeWhile (cs.contains ·) ++ l.reverse.dropWhile (cs.contains ·) := (List.takeWhile_append_dropWhile).symm
  have hc' : c ∈ l.reverse := by simpa using hc
  rw [e] at hc'
  rcases List.mem_append.1 hc' with h1 | h1
  · exact takeWhile_mem h1
  · exact h c (by simpa using h1)
theorem trim_blank (l : List UInt8) : (Lib.trimS l [32, 9, 10, 12, 13] = []) ↔ l.all blankB = true := by
  have hb : ∀ c : UInt8, ([32, 9, 10, 12, 13] : List UInt8).contains c = true ↔ blankB c = true := by
    intro c
    simp only [List.contains_cons, List.contains_nil, Bool.or_false, Bool.or_eq_true, beq_iff_eq, blankB, decide_eq_true_eq]
    constructor <;> rintro (h | h | h | h | h) <;> simp [h]
  unfold Lib.trimS
  rw [trimLeft_nil, List.all_eq_true]
  constructor
  · intro h c hc; exact (hb c).1 (trimRight_mem h c hc)
  · intro h c hc
    refine (hb c).2 (h c ?_)
    unfold Lib.trimRightS at hc
    have := List.mem_reverse.1 hc
    exact List.mem_reverse.1 ((List.dropWhile_suffix _).subset this)
def nameR (first : Bool) (r : Int) : Bool := decide (97 ≤ r ∧ r ≤ 122) || !first && (decide (48 ≤ r ∧ r ≤ 57) || decide (r = 45))
theorem nameR_small {first : Bool} {r : Int} (h : nameR first r = true) : 0 ≤ r ∧ r < 128 := by
  unfold nameR at h
  simp only [Bool.or_eq_true, Bool.and_eq_true, decide_eq_true_eq] at h
  omega
theorem decode_small (s : ByteArray) {pos : Nat} (hp : pos < s.size) (h : (Utf8.decode s pos).1 < 128) : Utf8.decode s pos = ((s[pos]'hp).toNat, 1) ∧ (s[pos]'hp).toNat < 128 := by
  by_cases ha : (s[pos]'hp).toNat < 128
  · exact ⟨decode_ascii s pos hp ha, ha⟩
  · have := (decode_high s pos hp (by omega)).1; omega
end Go.Proofs.YtalaajbajgdglaaGreatDoor
namespace Go.Proofs.YtalaajbajgdglaaGreatDoor
open Go Go.RowKit Go.BigFrame
noncomputable def same {α : Type} (x y : α) : Bool := @decide (x = y) (Classical.propDecidable _)
theorem bcases (b : Bool) : b = true ∨ b = false := by cases b; exact .inr rfl; exact .inl rfl
end Go.Proofs.YtalaajbajgdglaaGreatDoor
namespace Go.Proofs.YtalaajbajgdglaaGreatDoor
open Go
def encL (n : Nat) : List UInt8 :=
  if n < 128 then [UInt8.ofNat n] else if n < 2048 then [UInt8.ofNat (192 + n / 64), UInt8.ofNat (128 + n % 64)]
    else if n < 65536 then [UInt8.ofNat (224 + n / 4096), UInt8.ofNat (128 + n / 64 % 64), UInt8.ofNat (128 + n % 64)]
    else [UInt8.ofNat (240 + n / 262144), UInt8.ofNat (128 + n / 4096 % 64), UInt8.ofNat (128 + n / 64 % 64), UInt8.ofNat (128 + n % 64)]
theorem encL_mem {n : Nat} (hn : n ≤ 1114111) {c : UInt8} (h : c ∈ encL n) : c = UInt8.ofNat n ∧ n < 128 ∨ 128 ≤ c.toNat := by
  unfold encL at h
  by_cases h1 : n < 128
  · rw [if_pos h1] at h; simp only [List.mem_singleton] at h; exact .inl ⟨h, h1⟩
  · rw [if_neg h1] at h
    refine .inr ?_
    by_cases h2 : n < 2048
    · rw [if_pos h2] at h
      simp only [List.mem_cons, List.not_mem_nil, or_false] at h
      rcases h with rfl | rfl <;> rw [ofNat_nat (by omega)] <;> omega
    · rw [if_neg h2] at h
      by_cases h3 : n < 65536
      · rw [if_pos h3] at h
        simp only [List.mem_cons, List.not_mem_nil, or_false] at h
        rcases h with rfl | rfl | rfl <;> rw [ofNat_nat (by omega)] <;> omega
      · rw [if_neg h3] at h
        simp only [List.mem_cons, List.not_mem_nil, or_false] at h
        rcases h with rfl | rfl | rfl | rfl <;> rw [ofNat_nat (by omega)] <;> omega
def attrOk (a : ByteArray × ByteArray) : Prop := nameOk a.1 = true ∧ anewB a.2 = a.2
theorem attrsMay_ok {l : List (ByteArray × ByteArray)} (h : attrsMay l = true) : ∀ a ∈ l, attrOk a := by
  intro a ha
  obtain ⟨i, hi⟩ := List.mem_iff_getElem?.1 ha
  unfold attrsMay at h
  have := List.all_eq_true.1 h (a, i) (by rw [List.mk_mem_zipIdx_iff_getElem?]; simpa using hi)
  simp only [Bool.and_eq_true, valueOk, decide_eq_true_eq] at this
  exact ⟨this.1.1, this.1.2.1.2⟩
theorem name_cases {t : Int} (h : clsT t ≠ 0) (h0 : t ≠ 0) : t = 1 ∨ t = 2 ∨ t = 3 ∨ t = 4 ∨ t = 5 ∨ t = 6 ∨ t = 7 ∨ t = 8 ∨ t = 9 ∨ t = 10 ∨ t = 11 ∨ t = 12 ∨ t = 13 ∨ t = 14 ∨ t = 15 ∨ t = 16 := by
  unfold clsT at h
  by_cases a : t < 0 ∨ 16 < t
  · rw [if_pos a] at h; exact absurd rfl h
  · omega
theorem clsT_one {t : Int} : clsT t = 1 ↔ t = 0 := by
  constructor
  · intro h
    unfold clsT at h
    repeat' split at h
    all_goals omega
  · rintro rfl; rfl
def IsText (n : PN) : Prop := ∃ s, n = .mk 0 [] s [] ∧ s.size ≠ 0 ∧ anewB s = s
def IsElem (n : PN) : Prop := ∃ t a ks, n = .mk t a ⟨#[]⟩ ks ∧ clsT t ≠ 0 ∧ t ≠ 0 ∧ (∀ p ∈ a, attrOk p) ∧ (clsT t = 5 → ks = []) ∧ (clsT t ≠ 5 → ∃ d b l i, PN.norms d b l i false ks = true)
theorem empty_of {s : ByteArray} (h : s.size = 0) : s = ⟨#[]⟩ := by
  apply bytes_ext
  have : s.data.toList.length = 0 := h
  rw [List.eq_nil_of_length_eq_zero this]
theorem norm_is {d : Int} {b l i : Bool} {n : PN} (h : PN.norm d b l i n = true) : n.tag = 0 ∧ IsText n ∨ n.tag ≠ 0 ∧ IsElem n := by
  cases n with
  | mk t a s ks =>
    unfold PN.norm at h
    simp only [Bool.and_eq_true, decide_eq_true_eq] at h
    obtain ⟨_, h⟩ := h
    by_cases c0 : clsT t = 0
    · rw [if_pos c0] at h; cases h
    rw [if_neg c0] at h
    by_cases c1 : clsT t = 1
    · rw [if_pos c1] at h
      obtain rfl := clsT_one.1 c1
      refine .inl ⟨rfl, ?_⟩
      unfold textOk at h
      simp only [Bool.and_eq_true, decide_eq_true_eq, PN.attrs, PN.kids, PN.text, List.isEmpty_iff] at h
      obtain ⟨⟨⟨⟨rfl, rfl⟩, h3⟩, h4⟩, _⟩ := h
      exact ⟨s, rfl, by simpa using h3, of_decide_eq_true h4⟩
    rw [if_neg c1] at h
    have ht : t ≠ 0 := fun e => c1 (clsT_one.2 e)
    refine .inr ⟨ht, ?_⟩
    by_cases c5 : clsT t = 5
    · rw [if_pos c5] at h
      simp only [Bool.and_eq_true, beq_iff_eq, List.isEmpty_iff] at h
      obtain ⟨⟨h1, h2⟩, rfl⟩ := h
      rw [empty_of h1]
      exact ⟨t, a, [], rfl, c0, ht, attrsMay_ok h2, fun _ => rfl, fun e => absurd c5 e⟩
    rw [if_neg c5] at h
    by_cases c4 : clsT t = 4
    · rw [if_pos c4] at h
      simp only [Bool.and_eq_true, beq_iff_eq] at h
      obtain ⟨⟨h1, h2⟩, h3⟩ := h
      rw [empty_of h1]
      exact ⟨t, a, ks, rfl, c0, ht, attrsMay_ok h2, fun e => absurd e c5, fun _ => ⟨_, _, _, _, h3⟩⟩
    rw [if_neg c4] at h
    simp only [Bool.and_eq_true, beq_iff_eq] at h
    obtain ⟨_, ⟨h1, h2⟩, h3⟩ := h
    rw [empty_of h1]
    exact ⟨t, a, ks, rfl, c0, ht, attrsMay_ok h2, fun e => absurd e c5, fun _ => ⟨_, _, _, _, h3⟩⟩
end Go.Proofs.YtalaajbajgdglaaGreatDoor
namespace Go.Proofs.YtalaajbajgdglaaGreatDoor
open Go Go.RowKit
def lays196_ren : Go.Shelf.Ren := ⟨fun | 196 => 167 | 259 => 188 | n => n, fun | 0 => 0 | 3 => 3 | 4 => 4 | 5 => 5 | 9 => 9 | 12 => 12 | 46 => 188 | 53 => 214 | 119 => 208 | 138 => 210 | 139 => 211 | n => n, fun | 3 => 1 | 4 => 2 | n => n⟩
theorem lays196 : Go.Proofs.Lays.n196 Tryz.prog lays196_ren := {
  mixed := by kernel_rfl
  f196 := Tryz.func167.trans (congrArg some (by kernel_rfl))
  f259 := Tryz.func188.trans (congrArg some (by kernel_rfl))
  t0 := Tryz.underlying0
  a0 := Tryz.isAgg0
  z0 := Tryz.sizeOf0
  v0 := Tryz.zeroValue0
  t3 := Tryz.underlying3
  a3 := Tryz.isAgg3
  z3 := Tryz.sizeOf3
  v3 := Tryz.zeroValue3
  t4 := Tryz.underlying4
  a4 := Tryz.isAgg4
  z4 := Tryz.sizeOf4
  v4 := Tryz.zeroValue4
  t5 := Tryz.underlying5
  a5 := Tryz.isAgg5
  z5 := Tryz.sizeOf5
  v5 := Tryz.zeroValue5
  t9 := Tryz.underlying9
  a9 := Tryz.isAgg9
  z9 := Tryz.sizeOf9
  v9 := Tryz.zeroValue9
  t12 := Tryz.underlying12
  a12 := Tryz.isAgg12
  z12 := Tryz.sizeOf12
  v12 := Tryz.zeroValue12
  t46 := Tryz.underlying188
  a46 := Tryz.isAgg188
  z46 := Tryz.sizeOf188
  v46 := Tryz.zeroValue188
  t53 := Tryz.underlying214
  a53 := Tryz.isAgg214
  z53 := Tryz.sizeOf214
  v53 := Tryz.zeroValue214
  t119 := Tryz.underlying208
  a119 := Tryz.isAgg208
  z119 := Tryz.sizeOf208
  t138 := Tryz.underlying210
  a138 := Tryz.isAgg210
  z138 := Tryz.sizeOf210
  v138 := Tryz.zeroValue210
  t139 := Tryz.underlying211
  a139 := Tryz.isAgg211
  z139 := Tryz.sizeOf211
  v139 := Tryz.zeroValue211
  g3 := by kernel_rfl
  g4 := by kernel_rfl }
def lays160_ren : Go.Shelf.Ren := ⟨fun | 119 => 172 | 120 => 195 | 137 => 92 | 151 => 179 | 152 => 194 | 160 => 98 | 197 => 173 | 217 => 139 | 224 => 160 | 225 => 159 | 227 => 148 | 228 => 178 | 231 => 146 | 232 => 147 | 233 => 149 | 234 => 150 | 235 => 151 | 236 => 152 | 260 => 192 | 266 => 168 | 271 => 180 | n => n, fun | 0 => 0 | 3 => 3 | 4 => 4 | 5 => 5 | 9 => 9 | 21 => 21 | 46 => 188 | 105 => 194 | 116 => 178 | 117 => 179 | 119 => 208 | 124 => 182 | 138 => 210 | 139 => 211 | n => n, fun | 3 => 1 | 4 => 2 | n => n⟩
theorem lays160 : Go.Proofs.Lays.n160 Tryz.prog lays160_ren := {
  mixed := by kernel_rfl
  f119 := Tryz.func172.trans (congrArg some (by kernel_rfl))
  f120 := Tryz.func195.trans (congrArg some (by kernel_rfl))
  f137 := Tryz.func92.trans (congrArg some (by kernel_rfl))
  f151 := Tryz.func179.trans (congrArg some (by kernel_rfl))
  f152 := Tryz.func194.trans (congrArg some (by kernel_rfl))
  f160 := Tryz.func98.trans (congrArg some (by kernel_rfl))
  f197 := Tryz.func173.trans (congrArg some (by kernel_rfl))
  f217 := Tryz.func139.trans (congrArg some (by kernel_rfl))
  f224 := Tryz.func160.trans (congrArg some (by kernel_rfl))
  f225 := Tryz.func159.trans (congrArg some (by kernel_rfl))
  f227 := Tryz.func148.trans (congrArg some (by kernel_rfl))
  f228 := Tryz.func178.trans (congrArg some (by kernel_rfl))
  f231 := Tryz.func146.trans (congrArg some (by kernel_rfl))
  f232 := Tryz.func147.trans (congrArg some (by kernel_rfl))
  f233 := Tryz.func149.trans (congrArg some (by kernel_rfl))
  f234 := Tryz.func150.trans (congrArg some (by kernel_rfl))
  f235 := Tryz.func151.trans (congrArg some (by kernel_rfl))
  f236 := Tryz.func152.trans (congrArg some (by kernel_rfl))
  f260 := Tryz.func192.trans (congrArg some (by kernel_rfl))
  f266 := Tryz.func168.trans (congrArg some (by kernel_rfl))
  f271 := Tryz.func180.trans (congrArg some (by kernel_rfl))
  t0 := Tryz.underlying0
  a0 := Tryz.isAgg0
  z0 := Tryz.sizeOf0
  v0 := Tryz.zeroValue0
  t3 := Tryz.underlying3
  a3 := Tryz.isAgg3
  z3 := Tryz.sizeOf3
  v3 := Tryz.zeroValue3
  t4 := Tryz.underlying4
  a4 := Tryz.isAgg4
  z4 := Tryz.sizeOf4
  v4 := Tryz.zeroValue4
  t5 := Tryz.underlying5
  a5 := Tryz.isAgg5
  z5 := Tryz.sizeOf5
  v5 := Tryz.zeroValue5
  t9 := Tryz.underlying9
  a9 := Tryz.isAgg9
  z9 := Tryz.sizeOf9
  v9 := Tryz.zeroValue9
  t21 := Tryz.underlying21
  a21 := Tryz.isAgg21
  z21 := Tryz.sizeOf21
  v21 := Tryz.zeroValue21
  t46 := Tryz.underlying188
  a46 := Tryz.isAgg188
  z46 := Tryz.sizeOf188
  v46 := Tryz.zeroValue188
  t105 := Tryz.underlying194
  a105 := Tryz.isAgg194
  z105 := Tryz.sizeOf194
  v105 := Tryz.zeroValue194
  t116 := Tryz.underlying178
  a116 := Tryz.isAgg178
  z116 := Tryz.sizeOf178
  t117 := Tryz.underlying179
  a117 := Tryz.isAgg179
  z117 := Tryz.sizeOf179
  v117 := Tryz.zeroValue179
  t119 := Tryz.underlying208
  a119 := Tryz.isAgg208
  z119 := Tryz.sizeOf208
  t124 := Tryz.underlying182
  a124 := Tryz.isAgg182
  z124 := Tryz.sizeOf182
  v124 := Tryz.zeroValue182
  t138 := Tryz.underlying210
  a138 := Tryz.isAgg210
  z138 := Tryz.sizeOf210
  v138 := Tryz.zeroValue210
  t139 := Tryz.underlying211
  a139 := Tryz.isAgg211
  z139 := Tryz.sizeOf211
  v139 := Tryz.zeroValue211
  g3 := by kernel_rfl
  g4 := by kernel_rfl }
theorem infoByte : (Tryz.prog.info? 5).map (fun i => (i.zero, i.size, i.bytes)) = some (some (.int .u8 0), 1, 1) := by kernel_rfl
theorem infoSet : (Tryz.prog.info? 178).map (fun i => (i.zero, i.size)) = some (some (.agg (Array.replicate 256 (.bool false))), 256) := by kernel_rfl
theorem ValidString_any (s : ByteArray) (w : World) (hs : s.size ≤ 9223372036854775807) (hT : Lib.Utf8Tabs 1 2 w) :
    Calls Tryz.prog 167 #[.string s] w fun e w' => e = .returned (.bool (Lib.validD s.data.toList)) ∧ Below w.heap.size w w' := Any.utf8_ValidString lays196 s w hs hT
theorem Trim_any (s cutset : ByteArray) (w : World) (hs : s.size ≤ 9223372036854775807) (hcs : cutset.size < 4294967281)
    (hascii : ∀ (j : Nat) b, cutset.data.toList[j]? = some b → b.toNat < 128) :
    Calls Tryz.prog 98 #[.string s, .string cutset] w fun e w' => e = .returned (.string ⟨(Lib.trimS s.data.toList cutset.data.toList).toArray⟩) ∧ Below w.heap.size w w' := Any.strings_Trim_laid lays160 infoSet s cutset w hs hcs hascii
end Go.Proofs.YtalaajbajgdglaaGreatDoor
namespace Go.Proofs.YtalaajbajgdglaaGreatDoor
open Go Go.RowKit Go.BigFrame
abbrev PrF (B b : Nat) (bs : List Value) (w : World) : Prop := Lib.IsBuilderF 84 5 B b bs w
abbrev PrA (B b : Nat) (p : Value) (bs : List Value) (w : World) : Prop := Lib.BuilderAtF 84 5 B b p bs w
abbrev Kept (b : Nat) (w w' : World) : Prop := Lib.OthersKept 5 (some b) w w'
theorem infoBuilder : (Tryz.prog.info? 82).map (fun i => i.size) = some 2 := by kernel_rfl
theorem liesPrinter : liesAt Tryz.prog Tryz.prog.depth 84 (2 / Tryz.prog.cellsOf 84) 0 82 1 = true := by kernel_rfl
theorem copyCheck_fresh (b : Nat) (w : World) (h0 : w.cell? ⟨b, 0, none⟩ = some (.pointer none)) (hsh : w.shape? b = some (84, 2)) (hfz : w.frozen? ⟨b, 0, none⟩ = false) :
    Calls Tryz.prog 140 #[.pointer (some ⟨b, 0, none⟩)] w fun e w' => e = .returned (.tuple #[]) ∧ w' = w.setCell ⟨b, 0, none⟩ (.pointer (some ⟨b, 0, none⟩)) := by
  obtain ⟨j, hj, hjs⟩ := Option.map_eq_some_iff.1 infoBuilder
  go_enter Tryz.func140, Tryz.ntmps140
  go_wp2
  rw [Lib.run_to_unsafe w ⟨b, 0, none⟩ Tryz.underlying80 Tryz.underlying190 hj (by rw [hjs]; decide) hsh (Nat.zero_lt_succ 1)]
  simp only [Result.andThen]
  rw [Oper.upon_value]
  go_wp2
  rw [run_callFunc_extern Tryz.func169 (by kernel_rfl) (by kernel_rfl) (by kernel_rfl) (e := Extern.AbiNoEscape.same) (by kernel_rfl)]
  rw [Lib.run_noEscape]
  simp only [Result.andThen]
  rw [Oper.upon_value]
  go_wp2
  rw [Lib.run_from_unsafe w ⟨b, 0, none⟩ Tryz.underlying190 Tryz.underlying80 hj hsh liesPrinter]
  simp only [Result.andThen]
  rw [Oper.upon_value]
  go_wp2
  go_end0
  exact ⟨rfl, rfl⟩
theorem copyCheck_used (b : Nat) (w : World) (h0 : w.cell? ⟨b, 0, none⟩ = some (.pointer (some ⟨b, 0, none⟩))) :
    Calls Tryz.prog 140 #[.pointer (some ⟨b, 0, none⟩)] w fun e w' => e = .returned (.tuple #[]) ∧ w' = w := by
  obtain ⟨j, hj, _⟩ := Option.map_eq_some_iff.1 infoBuilder
  go_enter Tryz.func140, Tryz.ntmps140
  go_wp2
  rw [Lib.run_neq_ptr_same w _ Tryz.underlying80 hj]
  go_wp2
  go_end0
  exact ⟨rfl, rfl⟩
theorem copyCheck_k (B b : Nat) (bs : List Value) (w : World) (h : PrF B b bs w) :
    Calls Tryz.prog 140 #[.pointer (some ⟨b, 0, none⟩)] w fun e w' => e = .returned (.tuple #[]) ∧ (PrA B b (.pointer (some ⟨b, 0, none⟩)) bs w' ∧ Below B w w' ∧ Kept b w w') := by
  rcases h with h | h
  · refine (copyCheck_fresh b w h.cell0 h.shape h.frozen0).mono ?_
    rintro e w' ⟨rfl, rfl⟩
    exact ⟨rfl, h.used _, (Below.refl B w).setCell (p := ⟨b, 0, none⟩) h.1 _, (Lib.OthersKept.refl _ _ w).setCell ⟨b, 0, none⟩ rfl _⟩
  · refine (copyCheck_used b w h.cell0).mono ?_
    rintro e w' ⟨rfl, rfl⟩
    exact ⟨rfl, h, Below.refl B _, Lib.OthersKept.refl _ _ _⟩
theorem WriteString_k (B b : Nat) (bs : List Value) (s : ByteArray) (w : World) (h : PrF B b bs w) (hlen : bs.length + s.size ≤ 140737488355328) (hBw : B ≤ w.heap.size) :
    Calls Tryz.prog 93 #[.pointer (some ⟨b, 0, none⟩), .string s] w fun e w' => e = .returned (.tuple #[.int .i64 s.size, .nilIface]) ∧ (PrA B b (.pointer (some ⟨b, 0, none⟩)) (bs ++ Lib.strCells s) w' ∧ Below B w w' ∧ Kept b w w') := by
  obtain ⟨i0, hi, hz0, hz1, hz2⟩ := info_parts infoByte
  go_enter Tryz.func93, Tryz.ntmps93
  go_wp2_with (go_at_call 140; refine (copyCheck_k B b bs _ h).mono ?_)
  rintro e w1 ⟨rfl, h1, hb1, hk1⟩
  obtain ⟨hB, v, hbk, hown, hne⟩ := h1
  have c0 : w1.cell? ⟨b, 0, none⟩ = some (.pointer (some ⟨b, 0, none⟩)) := by rw [Lib.cell_of_heap hbk]; rfl
  have c1 : w1.cell? ⟨b, 1, none⟩ = some v := by rw [Lib.cell_of_heap hbk]; rfl
  go_wp2_with (at_builtin; refine Lib.wpList_append_own_stringF _ rfl _ _ 71 9 rfl B 5 i0 Tryz.underlying71 Tryz.underlying9 hi hz0 hz1 hz2 _ _ _ rfl hown s rfl ?c3 ?c4 ?c5 ?_)
  case c3 => unfold maxLen; omega
  case c4 => omega
  case c5 => have := hb1.size; omega
  intro v' w2 hown' hgrow _
  have hlt : b < w1.heap.size := by
    rcases Nat.lt_or_ge b w1.heap.size with h' | h'
    · exact h'
    · simp [Array.getElem?_eq_none h'] at hbk
  have hb2 : w2.heap[b]? = some (.cells #[.pointer (some ⟨b, 0, none⟩), v] 84 (0, 0)) := by
    rw [hgrow.block b hlt (fun e => hne e.symm)]
    exact hbk
  have d0 : w2.cell? ⟨b, 0, none⟩ = some (.pointer (some ⟨b, 0, none⟩)) := by rw [Lib.cell_of_heap hb2]; rfl
  have d1 : w2.cell? ⟨b, 1, none⟩ = some v := by rw [Lib.cell_of_heap hb2]; rfl
  have f1 : w2.frozen? ⟨b, 1, none⟩ = false := Lib.frozen_of_heap hb2 1
  obtain ⟨ao, n', cap, rfl⟩ : ∃ ao n' cap, v' = .slice ao n' cap := by
    rcases hown'.2 with ⟨hv, _⟩ | ⟨g, cap, cur, fz, hv, _⟩
    · exact ⟨_, _, _, hv⟩
    · exact ⟨_, _, _, hv⟩
  go_wp2
  go_ret2
  refine ⟨rfl, ?_, ?_, (hk1.grown hgrow (Lib.ownsRowF_kind hown)).setCell ⟨b, 1, none⟩ rfl _⟩
  · exact Lib.BuilderAtF.put (T := 84) (e := 5) hB hb2 (bs' := bs ++ Lib.strCells s) (by simpa [Lib.strCells_length] using hown') (by decide)
  · exact (hb1.grown hgrow (by have := hb1.size; omega) (fun k hk => (hown.lt k hk).1)).setCell (p := ⟨b, 1, none⟩) hB _
theorem cellsByte : Tryz.prog.cellsOf 5 = 1 := by kernel_rfl
theorem String_k (B b : Nat) (l : List UInt8) (w : World) (h : PrF B b (Lib.byteCells l) w) (h0 : l ≠ []) :
    Calls Tryz.prog 38 #[.pointer (some ⟨b, 0, none⟩)] w fun e w' => e = .returned (.string ⟨l.toArray⟩) ∧ Below B w w' := by
  obtain ⟨p, hp, hAt⟩ : ∃ p, (p = .pointer none ∨ p = .pointer (some ⟨b, 0, none⟩)) ∧ PrA B b p (Lib.byteCells l) w := by
    rcases h with h | h
    · exact ⟨_, .inl rfl, h⟩
    · exact ⟨_, .inr rfl, h⟩
  obtain ⟨hB, v, hbk, hown, hne⟩ := hAt
  have hl0 : l.length ≠ 0 := by simpa using h0
  rw [Lib.byteCells_length] at hown
  obtain ⟨g, cap, cur, fz, rfl, hbg, hg, hfz, hnc, hcm, hcs, htake⟩ : ∃ g cap cur fz, v = .slice (some ⟨g, 0, none⟩) l.length cap ∧ B ≤ g ∧ w.heap[g]? = some (.cells cur 5 fz) ∧ fz.2 ≤ l.length * 1 ∧ l.length ≤ cap ∧ cap ≤ maxLen ∧ cur.size = cap * 1 ∧ cur.toList.take (l.length * 1) = Lib.byteCells l := by
    rcases hown.2 with ⟨_, hz⟩ | ⟨g, cap, cur, fz, hv, r⟩
    · exact absurd hz hl0
    · exact ⟨g, cap, cur, fz, hv, r⟩
  have c1 : w.drew.cell? ⟨b, 1, none⟩ = some (.slice (some ⟨g, 0, none⟩) l.length cap) := by
    have : w.drew.heap[b]? = some (.cells #[p, .slice (some ⟨g, 0, none⟩) l.length cap] 84 (0, 0)) := hbk
    rw [Lib.cell_of_heap this]; rfl
  have hSD : (Builtin.unsafeSliceData_ #[71] 121 #[.slice (some ⟨g, 0, none⟩) l.length cap]).run Tryz.prog w.drew = .ok (.pointer (some ⟨g, 0, none⟩)) w.drew :=
    Lib.run_unsafeSliceData_row _ _ _ _ _ _ (by omega)
  have hUS : (Builtin.unsafeString_ #[121, 3] 9 #[.pointer (some ⟨g, 0, none⟩), .int .i64 l.length]).run Tryz.prog w.drew = .ok (.string ⟨l.toArray⟩) (w.drew.freeze ⟨g, 0, none⟩ l.length) := by
    refine Lib.run_unsafeString_row w.drew 121 3 9 5 Tryz.underlying121 cellsByte g cur.size (by have hg' : w.drew.heap[g]? = some (.cells cur 5 fz) := hg; simp [World.shape?, hg']) l h0 (by omega) (by unfold maxLen at hcm; omega) ?_
    intro j x hx
    have := hown.cells (g := g) rfl j (.int .u8 x.toNat) (by simp [Lib.byteCells, hx])
    exact this
  have mixed : Tryz.prog.follows .mixedOrders = true := by kernel_rfl
  go_enter Tryz.func38, Tryz.ntmps38
  go_wp2
  go_region_o
  all_goals (go_wp2; go_ret; exact ⟨rfl, Lib.below_freeze (Below.drew (Below.refl B w)) (p := ⟨g, 0, none⟩) hbg _⟩)
def Printed (B b : Nat) (l : List UInt8) (w : World) (e : Ending) (w' : World) : Prop := e = .returned (.tuple #[]) ∧ PrF B b (Lib.byteCells l) w' ∧ Below B w w' ∧ Kept b w w'
def Has (B : Nat) (l : List (Nat × Array Value)) (w : World) : Prop := ∀ p ∈ l, B ≤ p.1 ∧ w.heap[p.1]? = some (.cells p.2 9 (0, 0))
theorem Has.more {B : Nat} {l : List (Nat × Array Value)} {w w' : World} (h : Has B l w) (x : Ext w w') : Has B l w' := fun p hp => ⟨(h p hp).1, x.block (h p hp).2⟩
def Stop (p : Prop) : Prop := p
section
variable {P : Program} {ops : Array Oper} {rest : List Oper} {o : Oper} {a : Act} {Q : Exit → Act → World → Prop}
theorem wpList_name {w0 w : World} {l : List (Nat × Array Value)} {cs : Array Value} (hx : Ext w0 w) (hl : Has w0.heap.size l w) (h : ∀ w', Ext w0 w' → Has w0.heap.size ((w.heap.size, cs) :: l) w' → wpList P ops Q rest a w') : wpList P ops Q rest a (w.alloc (.cells cs 9)) :=
  h _ (hx.alloc _) fun p hp => by
    rcases List.mem_cons.1 hp with rfl | hp
    · exact ⟨hx.size, heap_alloc_new w _⟩
    · exact (hl.more ((Ext.refl w).alloc _)) p hp
theorem run_storeWhole (w : World) {b : Nat} {t T : TypeId} {cur vs : Array Value} (hg : w.heap[b]? = some (.cells cur T (0, 0))) (hz : ∀ w, (sizeOf t).run P w = .ok vs.size w) (hl : vs.size = cur.size) (h1 : ∀ v ∈ vs.toList, v.oneCell' = true) :
    (Instr.storeAt t (.pointer (some ⟨b, 0, none⟩)) (.agg vs)).run P w = .ok () (w.setRow b vs) := by
  have h := run_storeCells_at (P := P) b 0 T vs.toList 0 cur w hg (by simp [hl]) h1
  simp only [Nat.zero_add, List.take_zero, List.nil_append] at h
  rw [List.drop_eq_nil_of_le (by simp [hl])] at h
  simp only [List.append_nil, Array.toArray_toList] at h
  simp only [Instr.storeAt, Instr.sureAddr, storeVar, Sem.run_bind, Sem.run_pure, Result.andThen_ok, hz, Value.cells, ne_eq, not_true, if_false]
  exact h
theorem wpList_store {w : World} {b : Nat} {t T : TypeId} {x y : Operand} {cur vs : Array Value} (hgd : o.guard = none) (ho : o.op = .store t x y) (hx : a.eval x = .pointer (some ⟨b, 0, none⟩)) (hy : a.eval y = .agg vs)
    (hg : w.heap[b]? = some (.cells cur T (0, 0))) (hz : ∀ w, (sizeOf t).run P w = .ok vs.size w) (hl : vs.size = cur.size) (h1 : ∀ v ∈ vs.toList, v.oneCell' = true) (h : wpList P ops Q rest (a.put o.dst undef) (w.setRow b vs)) : wpList P ops Q (o :: rest) a w := by
  refine wpList_plain hgd fun K hK => ?_
  have hr := run_storeWhole (P := P) w hg hz hl h1
  unfold Oper.wp execOp
  simp only [ho, hx, hy, hr, Sem.run_bind, Sem.run_pure, Result.andThen_ok]
  first | exact hK _ _ h | (rw [Oper.upon_skip]; exact hK _ _ h) | (simp only [Oper.upon]; exact hK _ _ h)
theorem wpList_stop {w : World} {t : TypeId} {x y : Operand} (ho : o.op = .store t x y) (h : Stop (wpList P ops Q [o] a w)) : wpList P ops Q [o] a w := h
end
def TabIs (w : World) (e : Ending) (w' : World) : Prop := ∃ B g1 g2 g3 g4 g5 g6 g7 g8 g9 g10 g11 g12 g13 g14 g15 g16 : Nat, e = .returned (.agg #[.slice none 0 0, .int .i64 1, .slice (some ⟨g1, 0, none⟩) 1 1, .int .i64 2, .slice (some ⟨g2, 0, none⟩) 1 1, .int .i64 3, .slice (some ⟨g3, 0, none⟩) 1 1, .int .i64 3, .slice (some ⟨g4, 0, none⟩) 1 1, .int .i64 3, .slice (some ⟨g5, 0, none⟩) 1 1, .int .i64 3, .slice (some ⟨g6, 0, none⟩) 1 1, .int .i64 2, .slice (some ⟨g7, 0, none⟩) 1 1, .int .i64 2, .slice (some ⟨g8, 0, none⟩) 1 1, .int .i64 2, .slice (some ⟨g9, 0, none⟩) 1 1, .int .i64 3, .slice (some ⟨g10, 0, none⟩) 1 1, .int .i64 4, .slice (some ⟨g11, 0, none⟩) 2 2, .int .i64 4, .slice (some ⟨g12, 0, none⟩) 2 2, .int .i64 4, .slice (some ⟨g13, 0, none⟩) 2 2, .int .i64 4, .slice (some ⟨g14, 0, none⟩) 3 3, .int .i64 4, .slice (some ⟨g15, 0, none⟩) 1 1, .int .i64 4, .slice (some ⟨g16, 0, none⟩) 1 1, .int .i64 5]) ∧ Has B [(g16, #[.string ⟨#[98, 114]⟩]), (g15, #[.string ⟨#[115, 112, 97, 110]⟩]), (g14, #[.string ⟨#[115]⟩, .string ⟨#[115, 116, 114, 105, 107, 101]⟩, .string ⟨#[100, 101, 108]⟩]), (g13, #[.string ⟨#[117]⟩, .string ⟨#[105, 110, 115]⟩]), (g12, #[.string ⟨#[105]⟩, .string ⟨#[101, 109]⟩]), (g11, #[.string ⟨#[98]⟩, .string ⟨#[115, 116, 114, 111, 110, 103]⟩]), (g10, #[.string ⟨#[97]⟩]), (g9, #[.string ⟨#[108, 105]⟩]), (g8, #[.string ⟨#[111, 108]⟩]), (g7, #[.string ⟨#[117, 108]⟩]), (g6, #[.string ⟨#[98, 108, 111, 99, 107, 113, 117, 111, 116, 101]⟩]), (g5, #[.string ⟨#[104, 51]⟩]), (g4, #[.string ⟨#[104, 50]⟩]), (g3, #[.string ⟨#[104, 49]⟩]), (g2, #[.string ⟨#[112]⟩]), (g1, #[.string ⟨#[100, 105, 118]⟩])] w' ∧ Ext w w'
theorem setRow_other (w : World) (b j : Nat) (vs : Array Value) (h : j ≠ b) : (w.setRow b vs).heap[j]? = w.heap[j]? := by simp [World.setRow, Array.getElem?_modify, Ne.symm h]
theorem table_any (w : World) : Calls Tryz.prog 143 #[] w (TabIs w) := by
  have HX0 := (Ext.refl w).alloc (.cells #[.slice none 0 0, .int .i64 0, .slice none 0 0, .int .i64 0, .slice none 0 0, .int .i64 0, .slice none 0 0, .int .i64 0, .slice none 0 0, .int .i64 0, .slice none 0 0, .int .i64 0, .slice none 0 0, .int .i64 0, .slice none 0 0, .int .i64 0, .slice none 0 0, .int .i64 0, .slice none 0 0, .int .i64 0, .slice none 0 0, .int .i64 0, .slice none 0 0, .int .i64 0, .slice none 0 0, .int .i64 0, .slice none 0 0, .int .i64 0, .slice none 0 0, .int .i64 0, .slice none 0 0, .int .i64 0, .slice none 0 0, .int .i64 0] 172)
  have HB0 := heap_alloc_new w (.cells #[.slice none 0 0, .int .i64 0, .slice none 0 0, .int .i64 0, .slice none 0 0, .int .i64 0, .slice none 0 0, .int .i64 0, .slice none 0 0, .int .i64 0, .slice none 0 0, .int .i64 0, .slice none 0 0, .int .i64 0, .slice none 0 0, .int .i64 0, .slice none 0 0, .int .i64 0, .slice none 0 0, .int .i64 0, .slice none 0 0, .int .i64 0, .slice none 0 0, .int .i64 0, .slice none 0 0, .int .i64 0, .slice none 0 0, .int .i64 0, .slice none 0 0, .int .i64 0, .slice none 0 0, .int .i64 0, .slice none 0 0, .int .i64 0] 172)
  go_enter Tryz.func143, Tryz.ntmps143
  go_upto_region 1 with fail
  obtain ⟨w1, hw1⟩ : ∃ w1 : World, w1 = w.alloc (.cells #[.slice none 0 0, .int .i64 0, .slice none 0 0, .int .i64 0, .slice none 0 0, .int .i64 0, .slice none 0 0, .int .i64 0, .slice none 0 0, .int .i64 0, .slice none 0 0, .int .i64 0, .slice none 0 0, .int .i64 0, .slice none 0 0, .int .i64 0, .slice none 0 0, .int .i64 0, .slice none 0 0, .int .i64 0, .slice none 0 0, .int .i64 0, .slice none 0 0, .int .i64 0, .slice none 0 0, .int .i64 0, .slice none 0 0, .int .i64 0, .slice none 0 0, .int .i64 0, .slice none 0 0, .int .i64 0, .slice none 0 0, .int .i64 0] 172) := ⟨_, rfl⟩
  rw [← hw1] at HX0 HB0
  rw [← hw1]
  clear hw1
  have HX := Ext.refl w1
  have HS : Has w1.heap.size [] w1 := fun p hp => by cases hp
  go_wp2_with (first | (with_reducible refine wpList_name HX HS ?_; clear HX HS; intro _ HX HS) | (with_reducible refine wpList_stop rfl ?_))
  rename_i W1 W2 W3 W4 W5 W6 W7 W8 W9 W10 W11 W12 W13 W14 W15 W16
  have HB := HX.block HB0
  have hsz : w.heap.size < w1.heap.size := (Array.getElem?_eq_some_iff.1 HB0).1
  have HXX := qh HX
  have HSS := qh HS
  have HX00 := qh HX0
  clear HX HS HX0 HB0
  unfold Stop
  refine wpList_store rfl rfl rfl rfl HB (fun w => Tryz.sizeOf172 w) rfl ?c1 ?_
  case c1 => intro v hv; simp at hv; (repeat (rcases hv with rfl | hv; · rfl))
  have hrow : (W16.setRow w.heap.size #[.slice none 0 0, .int .i64 1, .slice (some ⟨w1.heap.size, 0, none⟩) 1 1, .int .i64 2, .slice (some ⟨W1.heap.size, 0, none⟩) 1 1, .int .i64 3, .slice (some ⟨W2.heap.size, 0, none⟩) 1 1, .int .i64 3, .slice (some ⟨W3.heap.size, 0, none⟩) 1 1, .int .i64 3, .slice (some ⟨W4.heap.size, 0, none⟩) 1 1, .int .i64 3, .slice (some ⟨W5.heap.size, 0, none⟩) 1 1, .int .i64 2, .slice (some ⟨W6.heap.size, 0, none⟩) 1 1, .int .i64 2, .slice (some ⟨W7.heap.size, 0, none⟩) 1 1, .int .i64 2, .slice (some ⟨W8.heap.size, 0, none⟩) 1 1, .int .i64 3, .slice (some ⟨W9.heap.size, 0, none⟩) 1 1, .int .i64 4, .slice (some ⟨W10.heap.size, 0, none⟩) 2 2, .int .i64 4, .slice (some ⟨W11.heap.size, 0, none⟩) 2 2, .int .i64 4, .slice (some ⟨W12.heap.size, 0, none⟩) 2 2, .int .i64 4, .slice (some ⟨W13.heap.size, 0, none⟩) 3 3, .int .i64 4, .slice (some ⟨W14.heap.size, 0, none⟩) 1 1, .int .i64 4, .slice (some ⟨W15.heap.size, 0, none⟩) 1 1, .int .i64 5]).heap[w.heap.size]? = some (.cells #[.slice none 0 0, .int .i64 1, .slice (some ⟨w1.heap.size, 0, none⟩) 1 1, .int .i64 2, .slice (some ⟨W1.heap.size, 0, none⟩) 1 1, .int .i64 3, .slice (some ⟨W2.heap.size, 0, none⟩) 1 1, .int .i64 3, .slice (some ⟨W3.heap.size, 0, none⟩) 1 1, .int .i64 3, .slice (some ⟨W4.heap.size, 0, none⟩) 1 1, .int .i64 3, .slice (some ⟨W5.heap.size, 0, none⟩) 1 1, .int .i64 2, .slice (some ⟨W6.heap.size, 0, none⟩) 1 1, .int .i64 2, .slice (some ⟨W7.heap.size, 0, none⟩) 1 1, .int .i64 2, .slice (some ⟨W8.heap.size, 0, none⟩) 1 1, .int .i64 3, .slice (some ⟨W9.heap.size, 0, none⟩) 1 1, .int .i64 4, .slice (some ⟨W10.heap.size, 0, none⟩) 2 2, .int .i64 4, .slice (some ⟨W11.heap.size, 0, none⟩) 2 2, .int .i64 4, .slice (some ⟨W12.heap.size, 0, none⟩) 2 2, .int .i64 4, .slice (some ⟨W13.heap.size, 0, none⟩) 3 3, .int .i64 4, .slice (some ⟨W14.heap.size, 0, none⟩) 1 1, .int .i64 4, .slice (some ⟨W15.heap.size, 0, none⟩) 1 1, .int .i64 5] 172 (0, 0)) := by simp [World.setRow, Array.getElem?_modify, HB]
  have hlv := run_loadVar_row (P := Tryz.prog) _ w.heap.size 172 172 #[.slice none 0 0, .int .i64 1, .slice (some ⟨w1.heap.size, 0, none⟩) 1 1, .int .i64 2, .slice (some ⟨W1.heap.size, 0, none⟩) 1 1, .int .i64 3, .slice (some ⟨W2.heap.size, 0, none⟩) 1 1, .int .i64 3, .slice (some ⟨W3.heap.size, 0, none⟩) 1 1, .int .i64 3, .slice (some ⟨W4.heap.size, 0, none⟩) 1 1, .int .i64 3, .slice (some ⟨W5.heap.size, 0, none⟩) 1 1, .int .i64 2, .slice (some ⟨W6.heap.size, 0, none⟩) 1 1, .int .i64 2, .slice (some ⟨W7.heap.size, 0, none⟩) 1 1, .int .i64 2, .slice (some ⟨W8.heap.size, 0, none⟩) 1 1, .int .i64 3, .slice (some ⟨W9.heap.size, 0, none⟩) 1 1, .int .i64 4, .slice (some ⟨W10.heap.size, 0, none⟩) 2 2, .int .i64 4, .slice (some ⟨W11.heap.size, 0, none⟩) 2 2, .int .i64 4, .slice (some ⟨W12.heap.size, 0, none⟩) 2 2, .int .i64 4, .slice (some ⟨W13.heap.size, 0, none⟩) 3 3, .int .i64 4, .slice (some ⟨W14.heap.size, 0, none⟩) 1 1, .int .i64 4, .slice (some ⟨W15.heap.size, 0, none⟩) 1 1, .int .i64 5] (0, 0) _ hrow Tryz.underlying172 rfl (by kernel_rfl)
  clear HB
  go_wp2
  refine bodyPost_ret (v := .agg #[.slice none 0 0, .int .i64 1, .slice (some ⟨w1.heap.size, 0, none⟩) 1 1, .int .i64 2, .slice (some ⟨W1.heap.size, 0, none⟩) 1 1, .int .i64 3, .slice (some ⟨W2.heap.size, 0, none⟩) 1 1, .int .i64 3, .slice (some ⟨W3.heap.size, 0, none⟩) 1 1, .int .i64 3, .slice (some ⟨W4.heap.size, 0, none⟩) 1 1, .int .i64 3, .slice (some ⟨W5.heap.size, 0, none⟩) 1 1, .int .i64 2, .slice (some ⟨W6.heap.size, 0, none⟩) 1 1, .int .i64 2, .slice (some ⟨W7.heap.size, 0, none⟩) 1 1, .int .i64 2, .slice (some ⟨W8.heap.size, 0, none⟩) 1 1, .int .i64 3, .slice (some ⟨W9.heap.size, 0, none⟩) 1 1, .int .i64 4, .slice (some ⟨W10.heap.size, 0, none⟩) 2 2, .int .i64 4, .slice (some ⟨W11.heap.size, 0, none⟩) 2 2, .int .i64 4, .slice (some ⟨W12.heap.size, 0, none⟩) 2 2, .int .i64 4, .slice (some ⟨W13.heap.size, 0, none⟩) 3 3, .int .i64 4, .slice (some ⟨W14.heap.size, 0, none⟩) 1 1, .int .i64 4, .slice (some ⟨W15.heap.size, 0, none⟩) 1 1, .int .i64 5]) (by simp [results, Tryz.results143, asAddr, hlv]) rfl ?_
  have hxx := HX00.out.trans HXX.out
  have o1 := Below.os hxx
  have o2 := Below.tape hxx
  have o3 := Below.output hxx
  exact ⟨w1.heap.size, w1.heap.size, W1.heap.size, W2.heap.size, W3.heap.size, W4.heap.size, W5.heap.size, W6.heap.size, W7.heap.size, W8.heap.size, W9.heap.size, W10.heap.size, W11.heap.size, W12.heap.size, W13.heap.size, W14.heap.size, W15.heap.size, rfl, fun p hp => ⟨(HSS.out p hp).1, (setRow_other _ _ _ _ (by have := (HSS.out p hp).1; omega)).trans (HSS.out p hp).2⟩,
    ⟨o1, o2, o3, by simpa [World.setRow] using Below.size hxx, fun i hi => (setRow_other _ _ _ _ (by omega)).trans (Below.block hxx i hi)⟩⟩
def OfIs (t : Int) (w : World) (e : Ending) (w' : World) : Prop := ∃ v, e = .returned (.agg #[v, .int .i64 (clsT t)]) ∧ Ext w w' ∧
  ((v = .slice none 0 0 ∧ nameT t = ⟨#[]⟩) ∨ ∃ g n : Nat, v = .slice (some ⟨g, 0, none⟩) n n ∧ 0 < n ∧ w'.cell? ⟨g, 0, none⟩ = some (.string (nameT t)))
theorem Has.cell0 {B : Nat} {l : List (Nat × Array Value)} {w : World} (h : Has B l w) {g : Nat} {cs : Array Value} (hm : (g, cs) ∈ l) {v : Value} (hv : cs[0]? = some v) : w.cell? ⟨g, 0, none⟩ = some v := cellOf (h _ hm).2 hv
theorem box_row {w : World} {b : Nat} {v u : Value} (h : w.heap[b]? = some (.cells #[.slice none 0 0, .int .i64 0] 150 (0, 0))) :
    ((w.setCell ⟨b, 0, none⟩ v).setCell ⟨b, 1, none⟩ u).heap[b]? = some (.cells #[v, u] 150 (0, 0)) := heap_setCell_same (heap_setCell_same h v) u
theorem of_0 (w : World) : Calls Tryz.prog 108 #[.int .i64 0] w (OfIs 0 w) := by
  have HX0 := (Ext.refl w).alloc (.cells #[.slice none 0 0, .int .i64 0] 150)
  have HB0 := heap_alloc_new w (.cells #[.slice none 0 0, .int .i64 0] 150)
  go_enter Tryz.func108, Tryz.ntmps108
  go_wp2_with fail
  obtain ⟨w1, hw1⟩ : ∃ w1 : World, w1 = w.alloc (.cells #[.slice none 0 0, .int .i64 0] 150) := ⟨_, rfl⟩
  have hsz : w.heap.size < w1.heap.size := by rw [hw1]; simp
  rw [← hw1] at HX0 HB0
  rw [← hw1]
  clear hw1
  refine (table_any _).mono ?_
  rintro e w2 ⟨B, g1, g2, g3, g4, g5, g6, g7, g8, g9, g10, g11, g12, g13, g14, g15, g16, rfl, HH, HX⟩
  have i0 : ∀ w : World, (Instr.index 172 (.agg #[.slice none 0 0, .int .i64 1, .slice (some ⟨g1, 0, none⟩) 1 1, .int .i64 2, .slice (some ⟨g2, 0, none⟩) 1 1, .int .i64 3, .slice (some ⟨g3, 0, none⟩) 1 1, .int .i64 3, .slice (some ⟨g4, 0, none⟩) 1 1, .int .i64 3, .slice (some ⟨g5, 0, none⟩) 1 1, .int .i64 3, .slice (some ⟨g6, 0, none⟩) 1 1, .int .i64 2, .slice (some ⟨g7, 0, none⟩) 1 1, .int .i64 2, .slice (some ⟨g8, 0, none⟩) 1 1, .int .i64 2, .slice (some ⟨g9, 0, none⟩) 1 1, .int .i64 3, .slice (some ⟨g10, 0, none⟩) 1 1, .int .i64 4, .slice (some ⟨g11, 0, none⟩) 2 2, .int .i64 4, .slice (some ⟨g12, 0, none⟩) 2 2, .int .i64 4, .slice (some ⟨g13, 0, none⟩) 2 2, .int .i64 4, .slice (some ⟨g14, 0, none⟩) 3 3, .int .i64 4, .slice (some ⟨g15, 0, none⟩) 1 1, .int .i64 4, .slice (some ⟨g16, 0, none⟩) 1 1, .int .i64 5]) (.int .i64 0)).run Tryz.prog w = .ok (.agg #[.slice none 0 0, .int .i64 1]) w := fun _ => by kernel_rfl
  have HB := HX.block HB0
  have c0 := cellOf HB (i := 0) (v := .slice none 0 0) rfl
  have c1 := cellOf HB (i := 1) (v := .int .i64 0) rfl
  have f0 := freeOf HB 0
  have f1 := freeOf HB 1
  have HSS := qh HH
  have HXX := qh (HX0.trans HX)
  have HR := qh (box_row (v := .slice none 0 0) (u := .int .i64 1) HB)
  have HZ := qh (show w.heap.size < w2.heap.size from Nat.lt_of_lt_of_le hsz HX.size)
  have C0 := qh c0
  clear HH HX HX0 HB HB0 hsz
  go_wp2
  have hlv := run_loadVar_row (P := Tryz.prog) _ w.heap.size 150 150 #[.slice none 0 0, .int .i64 1] (0, 0) _ HR.out Tryz.underlying150 rfl (by kernel_rfl)
  refine bodyPost_ret (v := .agg #[.slice none 0 0, .int .i64 1]) (by simp [results, Tryz.results108, asAddr, hlv]) rfl ?_
  have HE : ∀ {g : Nat} {s : ByteArray}, w2.cell? ⟨g, 0, none⟩ = some (.string s) → ((w2.setCell ⟨w.heap.size, 0, none⟩ (.slice none 0 0)).setCell ⟨w.heap.size, 1, none⟩ (.int .i64 1)).cell? ⟨g, 0, none⟩ = some (.string s) := fun {g s} h3 => by
    have hne : w.heap.size ≠ g := fun e => by rw [← e, C0.out] at h3; cases h3
    rw [World.cell?_setCell_far _ _ _ _ hne, World.cell?_setCell_far _ _ _ _ hne]; exact h3
  exact ⟨_, rfl, (HXX.out.setCell (p := ⟨w.heap.size, 0, none⟩) (Nat.le_refl _) _).setCell (p := ⟨w.heap.size, 1, none⟩) (Nat.le_refl _) _, .inl ⟨rfl, rfl⟩⟩
theorem of_1 (w : World) : Calls Tryz.prog 108 #[.int .i64 1] w (OfIs 1 w) := by
  have HX0 := (Ext.refl w).alloc (.cells #[.slice none 0 0, .int .i64 0] 150)
  have HB0 := heap_alloc_new w (.cells #[.slice none 0 0, .int .i64 0] 150)
  go_enter Tryz.func108, Tryz.ntmps108
  go_wp2_with fail
  obtain ⟨w1, hw1⟩ : ∃ w1 : World, w1 = w.alloc (.cells #[.slice none 0 0, .int .i64 0] 150) := ⟨_, rfl⟩
  have hsz : w.heap.size < w1.heap.size := by rw [hw1]; simp
  rw [← hw1] at HX0 HB0
  rw [← hw1]
  clear hw1
  refine (table_any _).mono ?_
  rintro e w2 ⟨B, g1, g2, g3, g4, g5, g6, g7, g8, g9, g10, g11, g12, g13, g14, g15, g16, rfl, HH, HX⟩
  have i0 : ∀ w : World, (Instr.index 172 (.agg #[.slice none 0 0, .int .i64 1, .slice (some ⟨g1, 0, none⟩) 1 1, .int .i64 2, .slice (some ⟨g2, 0, none⟩) 1 1, .int .i64 3, .slice (some ⟨g3, 0, none⟩) 1 1, .int .i64 3, .slice (some ⟨g4, 0, none⟩) 1 1, .int .i64 3, .slice (some ⟨g5, 0, none⟩) 1 1, .int .i64 3, .slice (some ⟨g6, 0, none⟩) 1 1, .int .i64 2, .slice (some ⟨g7, 0, none⟩) 1 1, .int .i64 2, .slice (some ⟨g8, 0, none⟩) 1 1, .int .i64 2, .slice (some ⟨g9, 0, none⟩) 1 1, .int .i64 3, .slice (some ⟨g10, 0, none⟩) 1 1, .int .i64 4, .slice (some ⟨g11, 0, none⟩) 2 2, .int .i64 4, .slice (some ⟨g12, 0, none⟩) 2 2, .int .i64 4, .slice (some ⟨g13, 0, none⟩) 2 2, .int .i64 4, .slice (some ⟨g14, 0, none⟩) 3 3, .int .i64 4, .slice (some ⟨g15, 0, none⟩) 1 1, .int .i64 4, .slice (some ⟨g16, 0, none⟩) 1 1, .int .i64 5]) (.int .i64 1)).run Tryz.prog w = .ok (.agg #[.slice (some ⟨g1, 0, none⟩) 1 1, .int .i64 2]) w := fun _ => by kernel_rfl
  have HB := HX.block HB0
  have c0 := cellOf HB (i := 0) (v := .slice none 0 0) rfl
  have c1 := cellOf HB (i := 1) (v := .int .i64 0) rfl
  have f0 := freeOf HB 0
  have f1 := freeOf HB 1
  have HSS := qh HH
  have HXX := qh (HX0.trans HX)
  have HR := qh (box_row (v := .slice (some ⟨g1, 0, none⟩) 1 1) (u := .int .i64 2) HB)
  have HZ := qh (show w.heap.size < w2.heap.size from Nat.lt_of_lt_of_le hsz HX.size)
  have C0 := qh c0
  clear HH HX HX0 HB HB0 hsz
  go_wp2
  have hlv := run_loadVar_row (P := Tryz.prog) _ w.heap.size 150 150 #[.slice (some ⟨g1, 0, none⟩) 1 1, .int .i64 2] (0, 0) _ HR.out Tryz.underlying150 rfl (by kernel_rfl)
  refine bodyPost_ret (v := .agg #[.slice (some ⟨g1, 0, none⟩) 1 1, .int .i64 2]) (by simp [results, Tryz.results108, asAddr, hlv]) rfl ?_
  have HE : ∀ {g : Nat} {s : ByteArray}, w2.cell? ⟨g, 0, none⟩ = some (.string s) → ((w2.setCell ⟨w.heap.size, 0, none⟩ (.slice (some ⟨g1, 0, none⟩) 1 1)).setCell ⟨w.heap.size, 1, none⟩ (.int .i64 2)).cell? ⟨g, 0, none⟩ = some (.string s) := fun {g s} h3 => by
    have hne : w.heap.size ≠ g := fun e => by rw [← e, C0.out] at h3; cases h3
    rw [World.cell?_setCell_far _ _ _ _ hne, World.cell?_setCell_far _ _ _ _ hne]; exact h3
  exact ⟨_, rfl, (HXX.out.setCell (p := ⟨w.heap.size, 0, none⟩) (Nat.le_refl _) _).setCell (p := ⟨w.heap.size, 1, none⟩) (Nat.le_refl _) _, .inr ⟨g1, 1, rfl, by decide, HE (HSS.out.cell0 (g := g1) (cs := #[.string ⟨#[100, 105, 118]⟩]) (by simp) rfl)⟩⟩
theorem of_2 (w : World) : Calls Tryz.prog 108 #[.int .i64 2] w (OfIs 2 w) := by
  have HX0 := (Ext.refl w).alloc (.cells #[.slice none 0 0, .int .i64 0] 150)
  have HB0 := heap_alloc_new w (.cells #[.slice none 0 0, .int .i64 0] 150)
  go_enter Tryz.func108, Tryz.ntmps108
  go_wp2_with fail
  obtain ⟨w1, hw1⟩ : ∃ w1 : World, w1 = w.alloc (.cells #[.slice none 0 0, .int .i64 0] 150) := ⟨_, rfl⟩
  have hsz : w.heap.size < w1.heap.size := by rw [hw1]; simp
  rw [← hw1] at HX0 HB0
  rw [← hw1]
  clear hw1
  refine (table_any _).mono ?_
  rintro e w2 ⟨B, g1, g2, g3, g4, g5, g6, g7, g8, g9, g10, g11, g12, g13, g14, g15, g16, rfl, HH, HX⟩
  have i0 : ∀ w : World, (Instr.index 172 (.agg #[.slice none 0 0, .int .i64 1, .slice (some ⟨g1, 0, none⟩) 1 1, .int .i64 2, .slice (some ⟨g2, 0, none⟩) 1 1, .int .i64 3, .slice (some ⟨g3, 0, none⟩) 1 1, .int .i64 3, .slice (some ⟨g4, 0, none⟩) 1 1, .int .i64 3, .slice (some ⟨g5, 0, none⟩) 1 1, .int .i64 3, .slice (some ⟨g6, 0, none⟩) 1 1, .int .i64 2, .slice (some ⟨g7, 0, none⟩) 1 1, .int .i64 2, .slice (some ⟨g8, 0, none⟩) 1 1, .int .i64 2, .slice (some ⟨g9, 0, none⟩) 1 1, .int .i64 3, .slice (some ⟨g10, 0, none⟩) 1 1, .int .i64 4, .slice (some ⟨g11, 0, none⟩) 2 2, .int .i64 4, .slice (some ⟨g12, 0, none⟩) 2 2, .int .i64 4, .slice (some ⟨g13, 0, none⟩) 2 2, .int .i64 4, .slice (some ⟨g14, 0, none⟩) 3 3, .int .i64 4, .slice (some ⟨g15, 0, none⟩) 1 1, .int .i64 4, .slice (some ⟨g16, 0, none⟩) 1 1, .int .i64 5]) (.int .i64 2)).run Tryz.prog w = .ok (.agg #[.slice (some ⟨g2, 0, none⟩) 1 1, .int .i64 3]) w := fun _ => by kernel_rfl
  have HB := HX.block HB0
  have c0 := cellOf HB (i := 0) (v := .slice none 0 0) rfl
  have c1 := cellOf HB (i := 1) (v := .int .i64 0) rfl
  have f0 := freeOf HB 0
  have f1 := freeOf HB 1
  have HSS := qh HH
  have HXX := qh (HX0.trans HX)
  have HR := qh (box_row (v := .slice (some ⟨g2, 0, none⟩) 1 1) (u := .int .i64 3) HB)
  have HZ := qh (show w.heap.size < w2.heap.size from Nat.lt_of_lt_of_le hsz HX.size)
  have C0 := qh c0
  clear HH HX HX0 HB HB0 hsz
  go_wp2
  have hlv := run_loadVar_row (P := Tryz.prog) _ w.heap.size 150 150 #[.slice (some ⟨g2, 0, none⟩) 1 1, .int .i64 3] (0, 0) _ HR.out Tryz.underlying150 rfl (by kernel_rfl)
  refine bodyPost_ret (v := .agg #[.slice (some ⟨g2, 0, none⟩) 1 1, .int .i64 3]) (by simp [results, Tryz.results108, asAddr, hlv]) rfl ?_
  have HE : ∀ {g : Nat} {s : ByteArray}, w2.cell? ⟨g, 0, none⟩ = some (.string s) → ((w2.setCell ⟨w.heap.size, 0, none⟩ (.slice (some ⟨g2, 0, none⟩) 1 1)).setCell ⟨w.heap.size, 1, none⟩ (.int .i64 3)).cell? ⟨g, 0, none⟩ = some (.string s) := fun {g s} h3 => by
    have hne : w.heap.size ≠ g := fun e => by rw [← e, C0.out] at h3; cases h3
    rw [World.cell?_setCell_far _ _ _ _ hne, World.cell?_setCell_far _ _ _ _ hne]; exact h3
  exact ⟨_, rfl, (HXX.out.setCell (p := ⟨w.heap.size, 0, none⟩) (Nat.le_refl _) _).setCell (p := ⟨w.heap.size, 1, none⟩) (Nat.le_refl _) _, .inr ⟨g2, 1, rfl, by decide, HE (HSS.out.cell0 (g := g2) (cs := #[.string ⟨#[112]⟩]) (by simp) rfl)⟩⟩
theorem of_3 (w : World) : Calls Tryz.prog 108 #[.int .i64 3] w (OfIs 3 w) := by
  have HX0 := (Ext.refl w).alloc (.cells #[.slice none 0 0, .int .i64 0] 150)
  have HB0 := heap_alloc_new w (.cells #[.slice none 0 0, .int .i64 0] 150)
  go_enter Tryz.func108, Tryz.ntmps108
  go_wp2_with fail
  obtain ⟨w1, hw1⟩ : ∃ w1 : World, w1 = w.alloc (.cells #[.slice none 0 0, .int .i64 0] 150) := ⟨_, rfl⟩
  have hsz : w.heap.size < w1.heap.size := by rw [hw1]; simp
  rw [← hw1] at HX0 HB0
  rw [← hw1]
  clear hw1
  refine (table_any _).mono ?_
  rintro e w2 ⟨B, g1, g2, g3, g4, g5, g6, g7, g8, g9, g10, g11, g12, g13, g14, g15, g16, rfl, HH, HX⟩
  have i0 : ∀ w : World, (Instr.index 172 (.agg #[.slice none 0 0, .int .i64 1, .slice (some ⟨g1, 0, none⟩) 1 1, .int .i64 2, .slice (some ⟨g2, 0, none⟩) 1 1, .int .i64 3, .slice (some ⟨g3, 0, none⟩) 1 1, .int .i64 3, .slice (some ⟨g4, 0, none⟩) 1 1, .int .i64 3, .slice (some ⟨g5, 0, none⟩) 1 1, .int .i64 3, .slice (some ⟨g6, 0, none⟩) 1 1, .int .i64 2, .slice (some ⟨g7, 0, none⟩) 1 1, .int .i64 2, .slice (some ⟨g8, 0, none⟩) 1 1, .int .i64 2, .slice (some ⟨g9, 0, none⟩) 1 1, .int .i64 3, .slice (some ⟨g10, 0, none⟩) 1 1, .int .i64 4, .slice (some ⟨g11, 0, none⟩) 2 2, .int .i64 4, .slice (some ⟨g12, 0, none⟩) 2 2, .int .i64 4, .slice (some ⟨g13, 0, none⟩) 2 2, .int .i64 4, .slice (some ⟨g14, 0, none⟩) 3 3, .int .i64 4, .slice (some ⟨g15, 0, none⟩) 1 1, .int .i64 4, .slice (some ⟨g16, 0, none⟩) 1 1, .int .i64 5]) (.int .i64 3)).run Tryz.prog w = .ok (.agg #[.slice (some ⟨g3, 0, none⟩) 1 1, .int .i64 3]) w := fun _ => by kernel_rfl
  have HB := HX.block HB0
  have c0 := cellOf HB (i := 0) (v := .slice none 0 0) rfl
  have c1 := cellOf HB (i := 1) (v := .int .i64 0) rfl
  have f0 := freeOf HB 0
  have f1 := freeOf HB 1
  have HSS := qh HH
  have HXX := qh (HX0.trans HX)
  have HR := qh (box_row (v := .slice (some ⟨g3, 0, none⟩) 1 1) (u := .int .i64 3) HB)
  have HZ := qh (show w.heap.size < w2.heap.size from Nat.lt_of_lt_of_le hsz HX.size)
  have C0 := qh c0
  clear HH HX HX0 HB HB0 hsz
  go_wp2
  have hlv := run_loadVar_row (P := Tryz.prog) _ w.heap.size 150 150 #[.slice (some ⟨g3, 0, none⟩) 1 1, .int .i64 3] (0, 0) _ HR.out Tryz.underlying150 rfl (by kernel_rfl)
  refine bodyPost_ret (v := .agg #[.slice (some ⟨g3, 0, none⟩) 1 1, .int .i64 3]) (by simp [results, Tryz.results108, asAddr, hlv]) rfl ?_
  have HE : ∀ {g : Nat} {s : ByteArray}, w2.cell? ⟨g, 0, none⟩ = some (.string s) → ((w2.setCell ⟨w.heap.size, 0, none⟩ (.slice (some ⟨g3, 0, none⟩) 1 1)).setCell ⟨w.heap.size, 1, none⟩ (.int .i64 3)).cell? ⟨g, 0, none⟩ = some (.string s) := fun {g s} h3 => by
    have hne : w.heap.size ≠ g := fun e => by rw [← e, C0.out] at h3; cases h3
    rw [World.cell?_setCell_far _ _ _ _ hne, World.cell?_setCell_far _ _ _ _ hne]; exact h3
  exact ⟨_, rfl, (HXX.out.setCell (p := ⟨w.heap.size, 0, none⟩) (Nat.le_refl _) _).setCell (p := ⟨w.heap.size, 1, none⟩) (Nat.le_refl _) _, .inr ⟨g3, 1, rfl, by decide, HE (HSS.out.cell0 (g := g3) (cs := #[.string ⟨#[104, 49]⟩]) (by simp) rfl)⟩⟩
theorem of_4 (w : World) : Calls Tryz.prog 108 #[.int .i64 4] w (OfIs 4 w) := by
  have HX0 := (Ext.refl w).alloc (.cells #[.slice none 0 0, .int .i64 0] 150)
  have HB0 := heap_alloc_new w (.cells #[.slice none 0 0, .int .i64 0] 150)
  go_enter Tryz.func108, Tryz.ntmps108
  go_wp2_with fail
  obtain ⟨w1, hw1⟩ : ∃ w1 : World, w1 = w.alloc (.cells #[.slice none 0 0, .int .i64 0] 150) := ⟨_, rfl⟩
  have hsz : w.heap.size < w1.heap.size := by rw [hw1]; simp
  rw [← hw1] at HX0 HB0
  rw [← hw1]
  clear hw1
  refine (table_any _).mono ?_
  rintro e w2 ⟨B, g1, g2, g3, g4, g5, g6, g7, g8, g9, g10, g11, g12, g13, g14, g15, g16, rfl, HH, HX⟩
  have i0 : ∀ w : World, (Instr.index 172 (.agg #[.slice none 0 0, .int .i64 1, .slice (some ⟨g1, 0, none⟩) 1 1, .int .i64 2, .slice (some ⟨g2, 0, none⟩) 1 1, .int .i64 3, .slice (some ⟨g3, 0, none⟩) 1 1, .int .i64 3, .slice (some ⟨g4, 0, none⟩) 1 1, .int .i64 3, .slice (some ⟨g5, 0, none⟩) 1 1, .int .i64 3, .slice (some ⟨g6, 0, none⟩) 1 1, .int .i64 2, .slice (some ⟨g7, 0, none⟩) 1 1, .int .i64 2, .slice (some ⟨g8, 0, none⟩) 1 1, .int .i64 2, .slice (some ⟨g9, 0, none⟩) 1 1, .int .i64 3, .slice (some ⟨g10, 0, none⟩) 1 1, .int .i64 4, .slice (some ⟨g11, 0, none⟩) 2 2, .int .i64 4, .slice (some ⟨g12, 0, none⟩) 2 2, .int .i64 4, .slice (some ⟨g13, 0, none⟩) 2 2, .int .i64 4, .slice (some ⟨g14, 0, none⟩) 3 3, .int .i64 4, .slice (some ⟨g15, 0, none⟩) 1 1, .int .i64 4, .slice (some ⟨g16, 0, none⟩) 1 1, .int .i64 5]) (.int .i64 4)).run Tryz.prog w = .ok (.agg #[.slice (some ⟨g4, 0, none⟩) 1 1, .int .i64 3]) w := fun _ => by kernel_rfl
  have HB := HX.block HB0
  have c0 := cellOf HB (i := 0) (v := .slice none 0 0) rfl
  have c1 := cellOf HB (i := 1) (v := .int .i64 0) rfl
  have f0 := freeOf HB 0
  have f1 := freeOf HB 1
  have HSS := qh HH
  have HXX := qh (HX0.trans HX)
  have HR := qh (box_row (v := .slice (some ⟨g4, 0, none⟩) 1 1) (u := .int .i64 3) HB)
  have HZ := qh (show w.heap.size < w2.heap.size from Nat.lt_of_lt_of_le hsz HX.size)
  have C0 := qh c0
  clear HH HX HX0 HB HB0 hsz
  go_wp2
  have hlv := run_loadVar_row (P := Tryz.prog) _ w.heap.size 150 150 #[.slice (some ⟨g4, 0, none⟩) 1 1, .int .i64 3] (0, 0) _ HR.out Tryz.underlying150 rfl (by kernel_rfl)
  refine bodyPost_ret (v := .agg #[.slice (some ⟨g4, 0, none⟩) 1 1, .int .i64 3]) (by simp [results, Tryz.results108, asAddr, hlv]) rfl ?_
  have HE : ∀ {g : Nat} {s : ByteArray}, w2.cell? ⟨g, 0, none⟩ = some (.string s) → ((w2.setCell ⟨w.heap.size, 0, none⟩ (.slice (some ⟨g4, 0, none⟩) 1 1)).setCell ⟨w.heap.size, 1, none⟩ (.int .i64 3)).cell? ⟨g, 0, none⟩ = some (.string s) := fun {g s} h3 => by
    have hne : w.heap.size ≠ g := fun e => by rw [← e, C0.out] at h3; cases h3
    rw [World.cell?_setCell_far _ _ _ _ hne, World.cell?_setCell_far _ _ _ _ hne]; exact h3
  exact ⟨_, rfl, (HXX.out.setCell (p := ⟨w.heap.size, 0, none⟩) (Nat.le_refl _) _).setCell (p := ⟨w.heap.size, 1, none⟩) (Nat.le_refl _) _, .inr ⟨g4, 1, rfl, by decide, HE (HSS.out.cell0 (g := g4) (cs := #[.string ⟨#[104, 50]⟩]) (by simp) rfl)⟩⟩
theorem of_5 (w : World) : Calls Tryz.prog 108 #[.int .i64 5] w (OfIs 5 w) := by
  have HX0 := (Ext.refl w).alloc (.cells #[.slice none 0 0, .int .i64 0] 150)
  have HB0 := heap_alloc_new w (.cells #[.slice none 0 0, .int .i64 0] 150)
  go_enter Tryz.func108, Tryz.ntmps108
  go_wp2_with fail
  obtain ⟨w1, hw1⟩ : ∃ w1 : World, w1 = w.alloc (.cells #[.slice none 0 0, .int .i64 0] 150) := ⟨_, rfl⟩
  have hsz : w.heap.size < w1.heap.size := by rw [hw1]; simp
  rw [← hw1] at HX0 HB0
  rw [← hw1]
  clear hw1
  refine (table_any _).mono ?_
  rintro e w2 ⟨B, g1, g2, g3, g4, g5, g6, g7, g8, g9, g10, g11, g12, g13, g14, g15, g16, rfl, HH, HX⟩
  have i0 : ∀ w : World, (Instr.index 172 (.agg #[.slice none 0 0, .int .i64 1, .slice (some ⟨g1, 0, none⟩) 1 1, .int .i64 2, .slice (some ⟨g2, 0, none⟩) 1 1, .int .i64 3, .slice (some ⟨g3, 0, none⟩) 1 1, .int .i64 3, .slice (some ⟨g4, 0, none⟩) 1 1, .int .i64 3, .slice (some ⟨g5, 0, none⟩) 1 1, .int .i64 3, .slice (some ⟨g6, 0, none⟩) 1 1, .int .i64 2, .slice (some ⟨g7, 0, none⟩) 1 1, .int .i64 2, .slice (some ⟨g8, 0, none⟩) 1 1, .int .i64 2, .slice (some ⟨g9, 0, none⟩) 1 1, .int .i64 3, .slice (some ⟨g10, 0, none⟩) 1 1, .int .i64 4, .slice (some ⟨g11, 0, none⟩) 2 2, .int .i64 4, .slice (some ⟨g12, 0, none⟩) 2 2, .int .i64 4, .slice (some ⟨g13, 0, none⟩) 2 2, .int .i64 4, .slice (some ⟨g14, 0, none⟩) 3 3, .int .i64 4, .slice (some ⟨g15, 0, none⟩) 1 1, .int .i64 4, .slice (some ⟨g16, 0, none⟩) 1 1, .int .i64 5]) (.int .i64 5)).run Tryz.prog w = .ok (.agg #[.slice (some ⟨g5, 0, none⟩) 1 1, .int .i64 3]) w := fun _ => by kernel_rfl
  have HB := HX.block HB0
  have c0 := cellOf HB (i := 0) (v := .slice none 0 0) rfl
  have c1 := cellOf HB (i := 1) (v := .int .i64 0) rfl
  have f0 := freeOf HB 0
  have f1 := freeOf HB 1
  have HSS := qh HH
  have HXX := qh (HX0.trans HX)
  have HR := qh (box_row (v := .slice (some ⟨g5, 0, none⟩) 1 1) (u := .int .i64 3) HB)
  have HZ := qh (show w.heap.size < w2.heap.size from Nat.lt_of_lt_of_le hsz HX.size)
  have C0 := qh c0
  clear HH HX HX0 HB HB0 hsz
  go_wp2
  have hlv := run_loadVar_row (P := Tryz.prog) _ w.heap.size 150 150 #[.slice (some ⟨g5, 0, none⟩) 1 1, .int .i64 3] (0, 0) _ HR.out Tryz.underlying150 rfl (by kernel_rfl)
  refine bodyPost_ret (v := .agg #[.slice (some ⟨g5, 0, none⟩) 1 1, .int .i64 3]) (by simp [results, Tryz.results108, asAddr, hlv]) rfl ?_
  have HE : ∀ {g : Nat} {s : ByteArray}, w2.cell? ⟨g, 0, none⟩ = some (.string s) → ((w2.setCell ⟨w.heap.size, 0, none⟩ (.slice (some ⟨g5, 0, none⟩) 1 1)).setCell ⟨w.heap.size, 1, none⟩ (.int .i64 3)).cell? ⟨g, 0, none⟩ = some (.string s) := fun {g s} h3 => by
    have hne : w.heap.size ≠ g := fun e => by rw [← e, C0.out] at h3; cases h3
    rw [World.cell?_setCell_far _ _ _ _ hne, World.cell?_setCell_far _ _ _ _ hne]; exact h3
  exact ⟨_, rfl, (HXX.out.setCell (p := ⟨w.heap.size, 0, none⟩) (Nat.le_refl _) _).setCell (p := ⟨w.heap.size, 1, none⟩) (Nat.le_refl _) _, .inr ⟨g5, 1, rfl, by decide, HE (HSS.out.cell0 (g := g5) (cs := #[.string ⟨#[104, 51]⟩]) (by simp) rfl)⟩⟩
theorem of_6 (w : World) : Calls Tryz.prog 108 #[.int .i64 6] w (OfIs 6 w) := by
  have HX0 := (Ext.refl w).alloc (.cells #[.slice none 0 0, .int .i64 0] 150)
  have HB0 := heap_alloc_new w (.cells #[.slice none 0 0, .int .i64 0] 150)
  go_enter Tryz.func108, Tryz.ntmps108
  go_wp2_with fail
  obtain ⟨w1, hw1⟩ : ∃ w1 : World, w1 = w.alloc (.cells #[.slice none 0 0, .int .i64 0] 150) := ⟨_, rfl⟩
  have hsz : w.heap.size < w1.heap.size := by rw [hw1]; simp
  rw [← hw1] at HX0 HB0
  rw [← hw1]
  clear hw1
  refine (table_any _).mono ?_
  rintro e w2 ⟨B, g1, g2, g3, g4, g5, g6, g7, g8, g9, g10, g11, g12, g13, g14, g15, g16, rfl, HH, HX⟩
  have i0 : ∀ w : World, (Instr.index 172 (.agg #[.slice none 0 0, .int .i64 1, .slice (some ⟨g1, 0, none⟩) 1 1, .int .i64 2, .slice (some ⟨g2, 0, none⟩) 1 1, .int .i64 3, .slice (some ⟨g3, 0, none⟩) 1 1, .int .i64 3, .slice (some ⟨g4, 0, none⟩) 1 1, .int .i64 3, .slice (some ⟨g5, 0, none⟩) 1 1, .int .i64 3, .slice (some ⟨g6, 0, none⟩) 1 1, .int .i64 2, .slice (some ⟨g7, 0, none⟩) 1 1, .int .i64 2, .slice (some ⟨g8, 0, none⟩) 1 1, .int .i64 2, .slice (some ⟨g9, 0, none⟩) 1 1, .int .i64 3, .slice (some ⟨g10, 0, none⟩) 1 1, .int .i64 4, .slice (some ⟨g11, 0, none⟩) 2 2, .int .i64 4, .slice (some ⟨g12, 0, none⟩) 2 2, .int .i64 4, .slice (some ⟨g13, 0, none⟩) 2 2, .int .i64 4, .slice (some ⟨g14, 0, none⟩) 3 3, .int .i64 4, .slice (some ⟨g15, 0, none⟩) 1 1, .int .i64 4, .slice (some ⟨g16, 0, none⟩) 1 1, .int .i64 5]) (.int .i64 6)).run Tryz.prog w = .ok (.agg #[.slice (some ⟨g6, 0, none⟩) 1 1, .int .i64 2]) w := fun _ => by kernel_rfl
  have HB := HX.block HB0
  have c0 := cellOf HB (i := 0) (v := .slice none 0 0) rfl
  have c1 := cellOf HB (i := 1) (v := .int .i64 0) rfl
  have f0 := freeOf HB 0
  have f1 := freeOf HB 1
  have HSS := qh HH
  have HXX := qh (HX0.trans HX)
  have HR := qh (box_row (v := .slice (some ⟨g6, 0, none⟩) 1 1) (u := .int .i64 2) HB)
  have HZ := qh (show w.heap.size < w2.heap.size from Nat.lt_of_lt_of_le hsz HX.size)
  have C0 := qh c0
  clear HH HX HX0 HB HB0 hsz
  go_wp2
  have hlv := run_loadVar_row (P := Tryz.prog) _ w.heap.size 150 150 #[.slice (some ⟨g6, 0, none⟩) 1 1, .int .i64 2] (0, 0) _ HR.out Tryz.underlying150 rfl (by kernel_rfl)
  refine bodyPost_ret (v := .agg #[.slice (some ⟨g6, 0, none⟩) 1 1, .int .i64 2]) (by simp [results, Tryz.results108, asAddr, hlv]) rfl ?_
  have HE : ∀ {g : Nat} {s : ByteArray}, w2.cell? ⟨g, 0, none⟩ = some (.string s) → ((w2.setCell ⟨w.heap.size, 0, none⟩ (.slice (some ⟨g6, 0, none⟩) 1 1)).setCell ⟨w.heap.size, 1, none⟩ (.int .i64 2)).cell? ⟨g, 0, none⟩ = some (.string s) := fun {g s} h3 => by
    have hne : w.heap.size ≠ g := fun e => by rw [← e, C0.out] at h3; cases h3
    rw [World.cell?_setCell_far _ _ _ _ hne, World.cell?_setCell_far _ _ _ _ hne]; exact h3
  exact ⟨_, rfl, (HXX.out.setCell (p := ⟨w.heap.size, 0, none⟩) (Nat.le_refl _) _).setCell (p := ⟨w.heap.size, 1, none⟩) (Nat.le_refl _) _, .inr ⟨g6, 1, rfl, by decide, HE (HSS.out.cell0 (g := g6) (cs := #[.string ⟨#[98, 108, 111, 99, 107, 113, 117, 111, 116, 101]⟩]) (by simp) rfl)⟩⟩
theorem of_7 (w : World) : Calls Tryz.prog 108 #[.int .i64 7] w (OfIs 7 w) := by
  have HX0 := (Ext.refl w).alloc (.cells #[.slice none 0 0, .int .i64 0] 150)
  have HB0 := heap_alloc_new w (.cells #[.slice none 0 0, .int .i64 0] 150)
  go_enter Tryz.func108, Tryz.ntmps108
  go_wp2_with fail
  obtain ⟨w1, hw1⟩ : ∃ w1 : World, w1 = w.alloc (.cells #[.slice none 0 0, .int .i64 0] 150) := ⟨_, rfl⟩
  have hsz : w.heap.size < w1.heap.size := by rw [hw1]; simp
  rw [← hw1] at HX0 HB0
  rw [← hw1]
  clear hw1
  refine (table_any _).mono ?_
  rintro e w2 ⟨B, g1, g2, g3, g4, g5, g6, g7, g8, g9, g10, g11, g12, g13, g14, g15, g16, rfl, HH, HX⟩
  have i0 : ∀ w : World, (Instr.index 172 (.agg #[.slice none 0 0, .int .i64 1, .slice (some ⟨g1, 0, none⟩) 1 1, .int .i64 2, .slice (some ⟨g2, 0, none⟩) 1 1, .int .i64 3, .slice (some ⟨g3, 0, none⟩) 1 1, .int .i64 3, .slice (some ⟨g4, 0, none⟩) 1 1, .int .i64 3, .slice (some ⟨g5, 0, none⟩) 1 1, .int .i64 3, .slice (some ⟨g6, 0, none⟩) 1 1, .int .i64 2, .slice (some ⟨g7, 0, none⟩) 1 1, .int .i64 2, .slice (some ⟨g8, 0, none⟩) 1 1, .int .i64 2, .slice (some ⟨g9, 0, none⟩) 1 1, .int .i64 3, .slice (some ⟨g10, 0, none⟩) 1 1, .int .i64 4, .slice (some ⟨g11, 0, none⟩) 2 2, .int .i64 4, .slice (some ⟨g12, 0, none⟩) 2 2, .int .i64 4, .slice (some ⟨g13, 0, none⟩) 2 2, .int .i64 4, .slice (some ⟨g14, 0, none⟩) 3 3, .int .i64 4, .slice (some ⟨g15, 0, none⟩) 1 1, .int .i64 4, .slice (some ⟨g16, 0, none⟩) 1 1, .int .i64 5]) (.int .i64 7)).run Tryz.prog w = .ok (.agg #[.slice (some ⟨g7, 0, none⟩) 1 1, .int .i64 2]) w := fun _ => by kernel_rfl
  have HB := HX.block HB0
  have c0 := cellOf HB (i := 0) (v := .slice none 0 0) rfl
  have c1 := cellOf HB (i := 1) (v := .int .i64 0) rfl
  have f0 := freeOf HB 0
  have f1 := freeOf HB 1
  have HSS := qh HH
  have HXX := qh (HX0.trans HX)
  have HR := qh (box_row (v := .slice (some ⟨g7, 0, none⟩) 1 1) (u := .int .i64 2) HB)
  have HZ := qh (show w.heap.size < w2.heap.size from Nat.lt_of_lt_of_le hsz HX.size)
  have C0 := qh c0
  clear HH HX HX0 HB HB0 hsz
  go_wp2
  have hlv := run_loadVar_row (P := Tryz.prog) _ w.heap.size 150 150 #[.slice (some ⟨g7, 0, none⟩) 1 1, .int .i64 2] (0, 0) _ HR.out Tryz.underlying150 rfl (by kernel_rfl)
  refine bodyPost_ret (v := .agg #[.slice (some ⟨g7, 0, none⟩) 1 1, .int .i64 2]) (by simp [results, Tryz.results108, asAddr, hlv]) rfl ?_
  have HE : ∀ {g : Nat} {s : ByteArray}, w2.cell? ⟨g, 0, none⟩ = some (.string s) → ((w2.setCell ⟨w.heap.size, 0, none⟩ (.slice (some ⟨g7, 0, none⟩) 1 1)).setCell ⟨w.heap.size, 1, none⟩ (.int .i64 2)).cell? ⟨g, 0, none⟩ = some (.string s) := fun {g s} h3 => by
    have hne : w.heap.size ≠ g := fun e => by rw [← e, C0.out] at h3; cases h3
    rw [World.cell?_setCell_far _ _ _ _ hne, World.cell?_setCell_far _ _ _ _ hne]; exact h3
  exact ⟨_, rfl, (HXX.out.setCell (p := ⟨w.heap.size, 0, none⟩) (Nat.le_refl _) _).setCell (p := ⟨w.heap.size, 1, none⟩) (Nat.le_refl _) _, .inr ⟨g7, 1, rfl, by decide, HE (HSS.out.cell0 (g := g7) (cs := #[.string ⟨#[117, 108]⟩]) (by simp) rfl)⟩⟩
theorem of_8 (w : World) : Calls Tryz.prog 108 #[.int .i64 8] w (OfIs 8 w) := by
  have HX0 := (Ext.refl w).alloc (.cells #[.slice none 0 0, .int .i64 0] 150)
  have HB0 := heap_alloc_new w (.cells #[.slice none 0 0, .int .i64 0] 150)
  go_enter Tryz.func108, Tryz.ntmps108
  go_wp2_with fail
  obtain ⟨w1, hw1⟩ : ∃ w1 : World, w1 = w.alloc (.cells #[.slice none 0 0, .int .i64 0] 150) := ⟨_, rfl⟩
  have hsz : w.heap.size < w1.heap.size := by rw [hw1]; simp
  rw [← hw1] at HX0 HB0
  rw [← hw1]
  clear hw1
  refine (table_any _).mono ?_
  rintro e w2 ⟨B, g1, g2, g3, g4, g5, g6, g7, g8, g9, g10, g11, g12, g13, g14, g15, g16, rfl, HH, HX⟩
  have i0 : ∀ w : World, (Instr.index 172 (.agg #[.slice none 0 0, .int .i64 1, .slice (some ⟨g1, 0, none⟩) 1 1, .int .i64 2, .slice (some ⟨g2, 0, none⟩) 1 1, .int .i64 3, .slice (some ⟨g3, 0, none⟩) 1 1, .int .i64 3, .slice (some ⟨g4, 0, none⟩) 1 1, .int .i64 3, .slice (some ⟨g5, 0, none⟩) 1 1, .int .i64 3, .slice (some ⟨g6, 0, none⟩) 1 1, .int .i64 2, .slice (some ⟨g7, 0, none⟩) 1 1, .int .i64 2, .slice (some ⟨g8, 0, none⟩) 1 1, .int .i64 2, .slice (some ⟨g9, 0, none⟩) 1 1, .int .i64 3, .slice (some ⟨g10, 0, none⟩) 1 1, .int .i64 4, .slice (some ⟨g11, 0, none⟩) 2 2, .int .i64 4, .slice (some ⟨g12, 0, none⟩) 2 2, .int .i64 4, .slice (some ⟨g13, 0, none⟩) 2 2, .int .i64 4, .slice (some ⟨g14, 0, none⟩) 3 3, .int .i64 4, .slice (some ⟨g15, 0, none⟩) 1 1, .int .i64 4, .slice (some ⟨g16, 0, none⟩) 1 1, .int .i64 5]) (.int .i64 8)).run Tryz.prog w = .ok (.agg #[.slice (some ⟨g8, 0, none⟩) 1 1, .int .i64 2]) w := fun _ => by kernel_rfl
  have HB := HX.block HB0
  have c0 := cellOf HB (i := 0) (v := .slice none 0 0) rfl
  have c1 := cellOf HB (i := 1) (v := .int .i64 0) rfl
  have f0 := freeOf HB 0
  have f1 := freeOf HB 1
  have HSS := qh HH
  have HXX := qh (HX0.trans HX)
  have HR := qh (box_row (v := .slice (some ⟨g8, 0, none⟩) 1 1) (u := .int .i64 2) HB)
  have HZ := qh (show w.heap.size < w2.heap.size from Nat.lt_of_lt_of_le hsz HX.size)
  have C0 := qh c0
  clear HH HX HX0 HB HB0 hsz
  go_wp2
  have hlv := run_loadVar_row (P := Tryz.prog) _ w.heap.size 150 150 #[.slice (some ⟨g8, 0, none⟩) 1 1, .int .i64 2] (0, 0) _ HR.out Tryz.underlying150 rfl (by kernel_rfl)
  refine bodyPost_ret (v := .agg #[.slice (some ⟨g8, 0, none⟩) 1 1, .int .i64 2]) (by simp [results, Tryz.results108, asAddr, hlv]) rfl ?_
  have HE : ∀ {g : Nat} {s : ByteArray}, w2.cell? ⟨g, 0, none⟩ = some (.string s) → ((w2.setCell ⟨w.heap.size, 0, none⟩ (.slice (some ⟨g8, 0, none⟩) 1 1)).setCell ⟨w.heap.size, 1, none⟩ (.int .i64 2)).cell? ⟨g, 0, none⟩ = some (.string s) := fun {g s} h3 => by
    have hne : w.heap.size ≠ g := fun e => by rw [← e, C0.out] at h3; cases h3
    rw [World.cell?_setCell_far _ _ _ _ hne, World.cell?_setCell_far _ _ _ _ hne]; exact h3
  exact ⟨_, rfl, (HXX.out.setCell (p := ⟨w.heap.size, 0, none⟩) (Nat.le_refl _) _).setCell (p := ⟨w.heap.size, 1, none⟩) (Nat.le_refl _) _, .inr ⟨g8, 1, rfl, by decide, HE (HSS.out.cell0 (g := g8) (cs := #[.string ⟨#[111, 108]⟩]) (by simp) rfl)⟩⟩
theorem of_9 (w : World) : Calls Tryz.prog 108 #[.int .i64 9] w (OfIs 9 w) := by
  have HX0 := (Ext.refl w).alloc (.cells #[.slice none 0 0, .int .i64 0] 150)
  have HB0 := heap_alloc_new w (.cells #[.slice none 0 0, .int .i64 0] 150)
  go_enter Tryz.func108, Tryz.ntmps108
  go_wp2_with fail
  obtain ⟨w1, hw1⟩ : ∃ w1 : World, w1 = w.alloc (.cells #[.slice none 0 0, .int .i64 0] 150) := ⟨_, rfl⟩
  have hsz : w.heap.size < w1.heap.size := by rw [hw1]; simp
  rw [← hw1] at HX0 HB0
  rw [← hw1]
  clear hw1
  refine (table_any _).mono ?_
  rintro e w2 ⟨B, g1, g2, g3, g4, g5, g6, g7, g8, g9, g10, g11, g12, g13, g14, g15, g16, rfl, HH, HX⟩
  have i0 : ∀ w : World, (Instr.index 172 (.agg #[.slice none 0 0, .int .i64 1, .slice (some ⟨g1, 0, none⟩) 1 1, .int .i64 2, .slice (some ⟨g2, 0, none⟩) 1 1, .int .i64 3, .slice (some ⟨g3, 0, none⟩) 1 1, .int .i64 3, .slice (some ⟨g4, 0, none⟩) 1 1, .int .i64 3, .slice (some ⟨g5, 0, none⟩) 1 1, .int .i64 3, .slice (some ⟨g6, 0, none⟩) 1 1, .int .i64 2, .slice (some ⟨g7, 0, none⟩) 1 1, .int .i64 2, .slice (some ⟨g8, 0, none⟩) 1 1, .int .i64 2, .slice (some ⟨g9, 0, none⟩) 1 1, .int .i64 3, .slice (some ⟨g10, 0, none⟩) 1 1, .int .i64 4, .slice (some ⟨g11, 0, none⟩) 2 2, .int .i64 4, .slice (some ⟨g12, 0, none⟩) 2 2, .int .i64 4, .slice (some ⟨g13, 0, none⟩) 2 2, .int .i64 4, .slice (some ⟨g14, 0, none⟩) 3 3, .int .i64 4, .slice (some ⟨g15, 0, none⟩) 1 1, .int .i64 4, .slice (some ⟨g16, 0, none⟩) 1 1, .int .i64 5]) (.int .i64 9)).run Tryz.prog w = .ok (.agg #[.slice (some ⟨g9, 0, none⟩) 1 1, .int .i64 3]) w := fun _ => by kernel_rfl
  have HB := HX.block HB0
  have c0 := cellOf HB (i := 0) (v := .slice none 0 0) rfl
  have c1 := cellOf HB (i := 1) (v := .int .i64 0) rfl
  have f0 := freeOf HB 0
  have f1 := freeOf HB 1
  have HSS := qh HH
  have HXX := qh (HX0.trans HX)
  have HR := qh (box_row (v := .slice (some ⟨g9, 0, none⟩) 1 1) (u := .int .i64 3) HB)
  have HZ := qh (show w.heap.size < w2.heap.size from Nat.lt_of_lt_of_le hsz HX.size)
  have C0 := qh c0
  clear HH HX HX0 HB HB0 hsz
  go_wp2
  have hlv := run_loadVar_row (P := Tryz.prog) _ w.heap.size 150 150 #[.slice (some ⟨g9, 0, none⟩) 1 1, .int .i64 3] (0, 0) _ HR.out Tryz.underlying150 rfl (by kernel_rfl)
  refine bodyPost_ret (v := .agg #[.slice (some ⟨g9, 0, none⟩) 1 1, .int .i64 3]) (by simp [results, Tryz.results108, asAddr, hlv]) rfl ?_
  have HE : ∀ {g : Nat} {s : ByteArray}, w2.cell? ⟨g, 0, none⟩ = some (.string s) → ((w2.setCell ⟨w.heap.size, 0, none⟩ (.slice (some ⟨g9, 0, none⟩) 1 1)).setCell ⟨w.heap.size, 1, none⟩ (.int .i64 3)).cell? ⟨g, 0, none⟩ = some (.string s) := fun {g s} h3 => by
    have hne : w.heap.size ≠ g := fun e => by rw [← e, C0.out] at h3; cases h3
    rw [World.cell?_setCell_far _ _ _ _ hne, World.cell?_setCell_far _ _ _ _ hne]; exact h3
  exact ⟨_, rfl, (HXX.out.setCell (p := ⟨w.heap.size, 0, none⟩) (Nat.le_refl _) _).setCell (p := ⟨w.heap.size, 1, none⟩) (Nat.le_refl _) _, .inr ⟨g9, 1, rfl, by decide, HE (HSS.out.cell0 (g := g9) (cs := #[.string ⟨#[108, 105]⟩]) (by simp) rfl)⟩⟩
theorem of_10 (w : World) : Calls Tryz.prog 108 #[.int .i64 10] w (OfIs 10 w) := by
  have HX0 := (Ext.refl w).alloc (.cells #[.slice none 0 0, .int .i64 0] 150)
  have HB0 := heap_alloc_new w (.cells #[.slice none 0 0, .int .i64 0] 150)
  go_enter Tryz.func108, Tryz.ntmps108
  go_wp2_with fail
  obtain ⟨w1, hw1⟩ : ∃ w1 : World, w1 = w.alloc (.cells #[.slice none 0 0, .int .i64 0] 150) := ⟨_, rfl⟩
  have hsz : w.heap.size < w1.heap.size := by rw [hw1]; simp
  rw [← hw1] at HX0 HB0
  rw [← hw1]
  clear hw1
  refine (table_any _).mono ?_
  rintro e w2 ⟨B, g1, g2, g3, g4, g5, g6, g7, g8, g9, g10, g11, g12, g13, g14, g15, g16, rfl, HH, HX⟩
  have i0 : ∀ w : World, (Instr.index 172 (.agg #[.slice none 0 0, .int .i64 1, .slice (some ⟨g1, 0, none⟩) 1 1, .int .i64 2, .slice (some ⟨g2, 0, none⟩) 1 1, .int .i64 3, .slice (some ⟨g3, 0, none⟩) 1 1, .int .i64 3, .slice (some ⟨g4, 0, none⟩) 1 1, .int .i64 3, .slice (some ⟨g5, 0, none⟩) 1 1, .int .i64 3, .slice (some ⟨g6, 0, none⟩) 1 1, .int .i64 2, .slice (some ⟨g7, 0, none⟩) 1 1, .int .i64 2, .slice (some ⟨g8, 0, none⟩) 1 1, .int .i64 2, .slice (some ⟨g9, 0, none⟩) 1 1, .int .i64 3, .slice (some ⟨g10, 0, none⟩) 1 1, .int .i64 4, .slice (some ⟨g11, 0, none⟩) 2 2, .int .i64 4, .slice (some ⟨g12, 0, none⟩) 2 2, .int .i64 4, .slice (some ⟨g13, 0, none⟩) 2 2, .int .i64 4, .slice (some ⟨g14, 0, none⟩) 3 3, .int .i64 4, .slice (some ⟨g15, 0, none⟩) 1 1, .int .i64 4, .slice (some ⟨g16, 0, none⟩) 1 1, .int .i64 5]) (.int .i64 10)).run Tryz.prog w = .ok (.agg #[.slice (some ⟨g10, 0, none⟩) 1 1, .int .i64 4]) w := fun _ => by kernel_rfl
  have HB := HX.block HB0
  have c0 := cellOf HB (i := 0) (v := .slice none 0 0) rfl
  have c1 := cellOf HB (i := 1) (v := .int .i64 0) rfl
  have f0 := freeOf HB 0
  have f1 := freeOf HB 1
  have HSS := qh HH
  have HXX := qh (HX0.trans HX)
  have HR := qh (box_row (v := .slice (some ⟨g10, 0, none⟩) 1 1) (u := .int .i64 4) HB)
  have HZ := qh (show w.heap.size < w2.heap.size from Nat.lt_of_lt_of_le hsz HX.size)
  have C0 := qh c0
  clear HH HX HX0 HB HB0 hsz
  go_wp2
  have hlv := run_loadVar_row (P := Tryz.prog) _ w.heap.size 150 150 #[.slice (some ⟨g10, 0, none⟩) 1 1, .int .i64 4] (0, 0) _ HR.out Tryz.underlying150 rfl (by kernel_rfl)
  refine bodyPost_ret (v := .agg #[.slice (some ⟨g10, 0, none⟩) 1 1, .int .i64 4]) (by simp [results, Tryz.results108, asAddr, hlv]) rfl ?_
  have HE : ∀ {g : Nat} {s : ByteArray}, w2.cell? ⟨g, 0, none⟩ = some (.string s) → ((w2.setCell ⟨w.heap.size, 0, none⟩ (.slice (some ⟨g10, 0, none⟩) 1 1)).setCell ⟨w.heap.size, 1, none⟩ (.int .i64 4)).cell? ⟨g, 0, none⟩ = some (.string s) := fun {g s} h3 => by
    have hne : w.heap.size ≠ g := fun e => by rw [← e, C0.out] at h3; cases h3
    rw [World.cell?_setCell_far _ _ _ _ hne, World.cell?_setCell_far _ _ _ _ hne]; exact h3
  exact ⟨_, rfl, (HXX.out.setCell (p := ⟨w.heap.size, 0, none⟩) (Nat.le_refl _) _).setCell (p := ⟨w.heap.size, 1, none⟩) (Nat.le_refl _) _, .inr ⟨g10, 1, rfl, by decide, HE (HSS.out.cell0 (g := g10) (cs := #[.string ⟨#[97]⟩]) (by simp) rfl)⟩⟩
theorem of_11 (w : World) : Calls Tryz.prog 108 #[.int .i64 11] w (OfIs 11 w) := by
  have HX0 := (Ext.refl w).alloc (.cells #[.slice none 0 0, .int .i64 0] 150)
  have HB0 := heap_alloc_new w (.cells #[.slice none 0 0, .int .i64 0] 150)
  go_enter Tryz.func108, Tryz.ntmps108
  go_wp2_with fail
  obtain ⟨w1, hw1⟩ : ∃ w1 : World, w1 = w.alloc (.cells #[.slice none 0 0, .int .i64 0] 150) := ⟨_, rfl⟩
  have hsz : w.heap.size < w1.heap.size := by rw [hw1]; simp
  rw [← hw1] at HX0 HB0
  rw [← hw1]
  clear hw1
  refine (table_any _).mono ?_
  rintro e w2 ⟨B, g1, g2, g3, g4, g5, g6, g7, g8, g9, g10, g11, g12, g13, g14, g15, g16, rfl, HH, HX⟩
  have i0 : ∀ w : World, (Instr.index 172 (.agg #[.slice none 0 0, .int .i64 1, .slice (some ⟨g1, 0, none⟩) 1 1, .int .i64 2, .slice (some ⟨g2, 0, none⟩) 1 1, .int .i64 3, .slice (some ⟨g3, 0, none⟩) 1 1, .int .i64 3, .slice (some ⟨g4, 0, none⟩) 1 1, .int .i64 3, .slice (some ⟨g5, 0, none⟩) 1 1, .int .i64 3, .slice (some ⟨g6, 0, none⟩) 1 1, .int .i64 2, .slice (some ⟨g7, 0, none⟩) 1 1, .int .i64 2, .slice (some ⟨g8, 0, none⟩) 1 1, .int .i64 2, .slice (some ⟨g9, 0, none⟩) 1 1, .int .i64 3, .slice (some ⟨g10, 0, none⟩) 1 1, .int .i64 4, .slice (some ⟨g11, 0, none⟩) 2 2, .int .i64 4, .slice (some ⟨g12, 0, none⟩) 2 2, .int .i64 4, .slice (some ⟨g13, 0, none⟩) 2 2, .int .i64 4, .slice (some ⟨g14, 0, none⟩) 3 3, .int .i64 4, .slice (some ⟨g15, 0, none⟩) 1 1, .int .i64 4, .slice (some ⟨g16, 0, none⟩) 1 1, .int .i64 5]) (.int .i64 11)).run Tryz.prog w = .ok (.agg #[.slice (some ⟨g11, 0, none⟩) 2 2, .int .i64 4]) w := fun _ => by kernel_rfl
  have HB := HX.block HB0
  have c0 := cellOf HB (i := 0) (v := .slice none 0 0) rfl
  have c1 := cellOf HB (i := 1) (v := .int .i64 0) rfl
  have f0 := freeOf HB 0
  have f1 := freeOf HB 1
  have HSS := qh HH
  have HXX := qh (HX0.trans HX)
  have HR := qh (box_row (v := .slice (some ⟨g11, 0, none⟩) 2 2) (u := .int .i64 4) HB)
  have HZ := qh (show w.heap.size < w2.heap.size from Nat.lt_of_lt_of_le hsz HX.size)
  have C0 := qh c0
  clear HH HX HX0 HB HB0 hsz
  go_wp2
  have hlv := run_loadVar_row (P := Tryz.prog) _ w.heap.size 150 150 #[.slice (some ⟨g11, 0, none⟩) 2 2, .int .i64 4] (0, 0) _ HR.out Tryz.underlying150 rfl (by kernel_rfl)
  refine bodyPost_ret (v := .agg #[.slice (some ⟨g11, 0, none⟩) 2 2, .int .i64 4]) (by simp [results, Tryz.results108, asAddr, hlv]) rfl ?_
  have HE : ∀ {g : Nat} {s : ByteArray}, w2.cell? ⟨g, 0, none⟩ = some (.string s) → ((w2.setCell ⟨w.heap.size, 0, none⟩ (.slice (some ⟨g11, 0, none⟩) 2 2)).setCell ⟨w.heap.size, 1, none⟩ (.int .i64 4)).cell? ⟨g, 0, none⟩ = some (.string s) := fun {g s} h3 => by
    have hne : w.heap.size ≠ g := fun e => by rw [← e, C0.out] at h3; cases h3
    rw [World.cell?_setCell_far _ _ _ _ hne, World.cell?_setCell_far _ _ _ _ hne]; exact h3
  exact ⟨_, rfl, (HXX.out.setCell (p := ⟨w.heap.size, 0, none⟩) (Nat.le_refl _) _).setCell (p := ⟨w.heap.size, 1, none⟩) (Nat.le_refl _) _, .inr ⟨g11, 2, rfl, by decide, HE (HSS.out.cell0 (g := g11) (cs := #[.string ⟨#[98]⟩, .string ⟨#[115, 116, 114, 111, 110, 103]⟩]) (by simp) rfl)⟩⟩
theorem of_12 (w : World) : Calls Tryz.prog 108 #[.int .i64 12] w (OfIs 12 w) := by
  have HX0 := (Ext.refl w).alloc (.cells #[.slice none 0 0, .int .i64 0] 150)
  have HB0 := heap_alloc_new w (.cells #[.slice none 0 0, .int .i64 0] 150)
  go_enter Tryz.func108, Tryz.ntmps108
  go_wp2_with fail
  obtain ⟨w1, hw1⟩ : ∃ w1 : World, w1 = w.alloc (.cells #[.slice none 0 0, .int .i64 0] 150) := ⟨_, rfl⟩
  have hsz : w.heap.size < w1.heap.size := by rw [hw1]; simp
  rw [← hw1] at HX0 HB0
  rw [← hw1]
  clear hw1
  refine (table_any _).mono ?_
  rintro e w2 ⟨B, g1, g2, g3, g4, g5, g6, g7, g8, g9, g10, g11, g12, g13, g14, g15, g16, rfl, HH, HX⟩
  have i0 : ∀ w : World, (Instr.index 172 (.agg #[.slice none 0 0, .int .i64 1, .slice (some ⟨g1, 0, none⟩) 1 1, .int .i64 2, .slice (some ⟨g2, 0, none⟩) 1 1, .int .i64 3, .slice (some ⟨g3, 0, none⟩) 1 1, .int .i64 3, .slice (some ⟨g4, 0, none⟩) 1 1, .int .i64 3, .slice (some ⟨g5, 0, none⟩) 1 1, .int .i64 3, .slice (some ⟨g6, 0, none⟩) 1 1, .int .i64 2, .slice (some ⟨g7, 0, none⟩) 1 1, .int .i64 2, .slice (some ⟨g8, 0, none⟩) 1 1, .int .i64 2, .slice (some ⟨g9, 0, none⟩) 1 1, .int .i64 3, .slice (some ⟨g10, 0, none⟩) 1 1, .int .i64 4, .slice (some ⟨g11, 0, none⟩) 2 2, .int .i64 4, .slice (some ⟨g12, 0, none⟩) 2 2, .int .i64 4, .slice (some ⟨g13, 0, none⟩) 2 2, .int .i64 4, .slice (some ⟨g14, 0, none⟩) 3 3, .int .i64 4, .slice (some ⟨g15, 0, none⟩) 1 1, .int .i64 4, .slice (some ⟨g16, 0, none⟩) 1 1, .int .i64 5]) (.int .i64 12)).run Tryz.prog w = .ok (.agg #[.slice (some ⟨g12, 0, none⟩) 2 2, .int .i64 4]) w := fun _ => by kernel_rfl
  have HB := HX.block HB0
  have c0 := cellOf HB (i := 0) (v := .slice none 0 0) rfl
  have c1 := cellOf HB (i := 1) (v := .int .i64 0) rfl
  have f0 := freeOf HB 0
  have f1 := freeOf HB 1
  have HSS := qh HH
  have HXX := qh (HX0.trans HX)
  have HR := qh (box_row (v := .slice (some ⟨g12, 0, none⟩) 2 2) (u := .int .i64 4) HB)
  have HZ := qh (show w.heap.size < w2.heap.size from Nat.lt_of_lt_of_le hsz HX.size)
  have C0 := qh c0
  clear HH HX HX0 HB HB0 hsz
  go_wp2
  have hlv := run_loadVar_row (P := Tryz.prog) _ w.heap.size 150 150 #[.slice (some ⟨g12, 0, none⟩) 2 2, .int .i64 4] (0, 0) _ HR.out Tryz.underlying150 rfl (by kernel_rfl)
  refine bodyPost_ret (v := .agg #[.slice (some ⟨g12, 0, none⟩) 2 2, .int .i64 4]) (by simp [results, Tryz.results108, asAddr, hlv]) rfl ?_
  have HE : ∀ {g : Nat} {s : ByteArray}, w2.cell? ⟨g, 0, none⟩ = some (.string s) → ((w2.setCell ⟨w.heap.size, 0, none⟩ (.slice (some ⟨g12, 0, none⟩) 2 2)).setCell ⟨w.heap.size, 1, none⟩ (.int .i64 4)).cell? ⟨g, 0, none⟩ = some (.string s) := fun {g s} h3 => by
    have hne : w.heap.size ≠ g := fun e => by rw [← e, C0.out] at h3; cases h3
    rw [World.cell?_setCell_far _ _ _ _ hne, World.cell?_setCell_far _ _ _ _ hne]; exact h3
  exact ⟨_, rfl, (HXX.out.setCell (p := ⟨w.heap.size, 0, none⟩) (Nat.le_refl _) _).setCell (p := ⟨w.heap.size, 1, none⟩) (Nat.le_refl _) _, .inr ⟨g12, 2, rfl, by decide, HE (HSS.out.cell0 (g := g12) (cs := #[.string ⟨#[105]⟩, .string ⟨#[101, 109]⟩]) (by simp) rfl)⟩⟩
theorem of_13 (w : World) : Calls Tryz.prog 108 #[.int .i64 13] w (OfIs 13 w) := by
  have HX0 := (Ext.refl w).alloc (.cells #[.slice none 0 0, .int .i64 0] 150)
  have HB0 := heap_alloc_new w (.cells #[.slice none 0 0, .int .i64 0] 150)
  go_enter Tryz.func108, Tryz.ntmps108
  go_wp2_with fail
  obtain ⟨w1, hw1⟩ : ∃ w1 : World, w1 = w.alloc (.cells #[.slice none 0 0, .int .i64 0] 150) := ⟨_, rfl⟩
  have hsz : w.heap.size < w1.heap.size := by rw [hw1]; simp
  rw [← hw1] at HX0 HB0
  rw [← hw1]
  clear hw1
  refine (table_any _).mono ?_
  rintro e w2 ⟨B, g1, g2, g3, g4, g5, g6, g7, g8, g9, g10, g11, g12, g13, g14, g15, g16, rfl, HH, HX⟩
  have i0 : ∀ w : World, (Instr.index 172 (.agg #[.slice none 0 0, .int .i64 1, .slice (some ⟨g1, 0, none⟩) 1 1, .int .i64 2, .slice (some ⟨g2, 0, none⟩) 1 1, .int .i64 3, .slice (some ⟨g3, 0, none⟩) 1 1, .int .i64 3, .slice (some ⟨g4, 0, none⟩) 1 1, .int .i64 3, .slice (some ⟨g5, 0, none⟩) 1 1, .int .i64 3, .slice (some ⟨g6, 0, none⟩) 1 1, .int .i64 2, .slice (some ⟨g7, 0, none⟩) 1 1, .int .i64 2, .slice (some ⟨g8, 0, none⟩) 1 1, .int .i64 2, .slice (some ⟨g9, 0, none⟩) 1 1, .int .i64 3, .slice (some ⟨g10, 0, none⟩) 1 1, .int .i64 4, .slice (some ⟨g11, 0, none⟩) 2 2, .int .i64 4, .slice (some ⟨g12, 0, none⟩) 2 2, .int .i64 4, .slice (some ⟨g13, 0, none⟩) 2 2, .int .i64 4, .slice (some ⟨g14, 0, none⟩) 3 3, .int .i64 4, .slice (some ⟨g15, 0, none⟩) 1 1, .int .i64 4, .slice (some ⟨g16, 0, none⟩) 1 1, .int .i64 5]) (.int .i64 13)).run Tryz.prog w = .ok (.agg #[.slice (some ⟨g13, 0, none⟩) 2 2, .int .i64 4]) w := fun _ => by kernel_rfl
  have HB := HX.block HB0
  have c0 := cellOf HB (i := 0) (v := .slice none 0 0) rfl
  have c1 := cellOf HB (i := 1) (v := .int .i64 0) rfl
  have f0 := freeOf HB 0
  have f1 := freeOf HB 1
  have HSS := qh HH
  have HXX := qh (HX0.trans HX)
  have HR := qh (box_row (v := .slice (some ⟨g13, 0, none⟩) 2 2) (u := .int .i64 4) HB)
  have HZ := qh (show w.heap.size < w2.heap.size from Nat.lt_of_lt_of_le hsz HX.size)
  have C0 := qh c0
  clear HH HX HX0 HB HB0 hsz
  go_wp2
  have hlv := run_loadVar_row (P := Tryz.prog) _ w.heap.size 150 150 #[.slice (some ⟨g13, 0, none⟩) 2 2, .int .i64 4] (0, 0) _ HR.out Tryz.underlying150 rfl (by kernel_rfl)
  refine bodyPost_ret (v := .agg #[.slice (some ⟨g13, 0, none⟩) 2 2, .int .i64 4]) (by simp [results, Tryz.results108, asAddr, hlv]) rfl ?_
  have HE : ∀ {g : Nat} {s : ByteArray}, w2.cell? ⟨g, 0, none⟩ = some (.string s) → ((w2.setCell ⟨w.heap.size, 0, none⟩ (.slice (some ⟨g13, 0, none⟩) 2 2)).setCell ⟨w.heap.size, 1, none⟩ (.int .i64 4)).cell? ⟨g, 0, none⟩ = some (.string s) := fun {g s} h3 => by
    have hne : w.heap.size ≠ g := fun e => by rw [← e, C0.out] at h3; cases h3
    rw [World.cell?_setCell_far _ _ _ _ hne, World.cell?_setCell_far _ _ _ _ hne]; exact h3
  exact ⟨_, rfl, (HXX.out.setCell (p := ⟨w.heap.size, 0, none⟩) (Nat.le_refl _) _).setCell (p := ⟨w.heap.size, 1, none⟩) (Nat.le_refl _) _, .inr ⟨g13, 2, rfl, by decide, HE (HSS.out.cell0 (g := g13) (cs := #[.string ⟨#[117]⟩, .string ⟨#[105, 110, 115]⟩]) (by simp) rfl)⟩⟩
theorem of_14 (w : World) : Calls Tryz.prog 108 #[.int .i64 14] w (OfIs 14 w) := by
  have HX0 := (Ext.refl w).alloc (.cells #[.slice none 0 0, .int .i64 0] 150)
  have HB0 := heap_alloc_new w (.cells #[.slice none 0 0, .int .i64 0] 150)
  go_enter Tryz.func108, Tryz.ntmps108
  go_wp2_with fail
  obtain ⟨w1, hw1⟩ : ∃ w1 : World, w1 = w.alloc (.cells #[.slice none 0 0, .int .i64 0] 150) := ⟨_, rfl⟩
  have hsz : w.heap.size < w1.heap.size := by rw [hw1]; simp
  rw [← hw1] at HX0 HB0
  rw [← hw1]
  clear hw1
  refine (table_any _).mono ?_
  rintro e w2 ⟨B, g1, g2, g3, g4, g5, g6, g7, g8, g9, g10, g11, g12, g13, g14, g15, g16, rfl, HH, HX⟩
  have i0 : ∀ w : World, (Instr.index 172 (.agg #[.slice none 0 0, .int .i64 1, .slice (some ⟨g1, 0, none⟩) 1 1, .int .i64 2, .slice (some ⟨g2, 0, none⟩) 1 1, .int .i64 3, .slice (some ⟨g3, 0, none⟩) 1 1, .int .i64 3, .slice (some ⟨g4, 0, none⟩) 1 1, .int .i64 3, .slice (some ⟨g5, 0, none⟩) 1 1, .int .i64 3, .slice (some ⟨g6, 0, none⟩) 1 1, .int .i64 2, .slice (some ⟨g7, 0, none⟩) 1 1, .int .i64 2, .slice (some ⟨g8, 0, none⟩) 1 1, .int .i64 2, .slice (some ⟨g9, 0, none⟩) 1 1, .int .i64 3, .slice (some ⟨g10, 0, none⟩) 1 1, .int .i64 4, .slice (some ⟨g11, 0, none⟩) 2 2, .int .i64 4, .slice (some ⟨g12, 0, none⟩) 2 2, .int .i64 4, .slice (some ⟨g13, 0, none⟩) 2 2, .int .i64 4, .slice (some ⟨g14, 0, none⟩) 3 3, .int .i64 4, .slice (some ⟨g15, 0, none⟩) 1 1, .int .i64 4, .slice (some ⟨g16, 0, none⟩) 1 1, .int .i64 5]) (.int .i64 14)).run Tryz.prog w = .ok (.agg #[.slice (some ⟨g14, 0, none⟩) 3 3, .int .i64 4]) w := fun _ => by kernel_rfl
  have HB := HX.block HB0
  have c0 := cellOf HB (i := 0) (v := .slice none 0 0) rfl
  have c1 := cellOf HB (i := 1) (v := .int .i64 0) rfl
  have f0 := freeOf HB 0
  have f1 := freeOf HB 1
  have HSS := qh HH
  have HXX := qh (HX0.trans HX)
  have HR := qh (box_row (v := .slice (some ⟨g14, 0, none⟩) 3 3) (u := .int .i64 4) HB)
  have HZ := qh (show w.heap.size < w2.heap.size from Nat.lt_of_lt_of_le hsz HX.size)
  have C0 := qh c0
  clear HH HX HX0 HB HB0 hsz
  go_wp2
  have hlv := run_loadVar_row (P := Tryz.prog) _ w.heap.size 150 150 #[.slice (some ⟨g14, 0, none⟩) 3 3, .int .i64 4] (0, 0) _ HR.out Tryz.underlying150 rfl (by kernel_rfl)
  refine bodyPost_ret (v := .agg #[.slice (some ⟨g14, 0, none⟩) 3 3, .int .i64 4]) (by simp [results, Tryz.results108, asAddr, hlv]) rfl ?_
  have HE : ∀ {g : Nat} {s : ByteArray}, w2.cell? ⟨g, 0, none⟩ = some (.string s) → ((w2.setCell ⟨w.heap.size, 0, none⟩ (.slice (some ⟨g14, 0, none⟩) 3 3)).setCell ⟨w.heap.size, 1, none⟩ (.int .i64 4)).cell? ⟨g, 0, none⟩ = some (.string s) := fun {g s} h3 => by
    have hne : w.heap.size ≠ g := fun e => by rw [← e, C0.out] at h3; cases h3
    rw [World.cell?_setCell_far _ _ _ _ hne, World.cell?_setCell_far _ _ _ _ hne]; exact h3
  exact ⟨_, rfl, (HXX.out.setCell (p := ⟨w.heap.size, 0, none⟩) (Nat.le_refl _) _).setCell (p := ⟨w.heap.size, 1, none⟩) (Nat.le_refl _) _, .inr ⟨g14, 3, rfl, by decide, HE (HSS.out.cell0 (g := g14) (cs := #[.string ⟨#[115]⟩, .string ⟨#[115, 116, 114, 105, 107, 101]⟩, .string ⟨#[100, 101, 108]⟩]) (by simp) rfl)⟩⟩
theorem of_15 (w : World) : Calls Tryz.prog 108 #[.int .i64 15] w (OfIs 15 w) := by
  have HX0 := (Ext.refl w).alloc (.cells #[.slice none 0 0, .int .i64 0] 150)
  have HB0 := heap_alloc_new w (.cells #[.slice none 0 0, .int .i64 0] 150)
  go_enter Tryz.func108, Tryz.ntmps108
  go_wp2_with fail
  obtain ⟨w1, hw1⟩ : ∃ w1 : World, w1 = w.alloc (.cells #[.slice none 0 0, .int .i64 0] 150) := ⟨_, rfl⟩
  have hsz : w.heap.size < w1.heap.size := by rw [hw1]; simp
  rw [← hw1] at HX0 HB0
  rw [← hw1]
  clear hw1
  refine (table_any _).mono ?_
  rintro e w2 ⟨B, g1, g2, g3, g4, g5, g6, g7, g8, g9, g10, g11, g12, g13, g14, g15, g16, rfl, HH, HX⟩
  have i0 : ∀ w : World, (Instr.index 172 (.agg #[.slice none 0 0, .int .i64 1, .slice (some ⟨g1, 0, none⟩) 1 1, .int .i64 2, .slice (some ⟨g2, 0, none⟩) 1 1, .int .i64 3, .slice (some ⟨g3, 0, none⟩) 1 1, .int .i64 3, .slice (some ⟨g4, 0, none⟩) 1 1, .int .i64 3, .slice (some ⟨g5, 0, none⟩) 1 1, .int .i64 3, .slice (some ⟨g6, 0, none⟩) 1 1, .int .i64 2, .slice (some ⟨g7, 0, none⟩) 1 1, .int .i64 2, .slice (some ⟨g8, 0, none⟩) 1 1, .int .i64 2, .slice (some ⟨g9, 0, none⟩) 1 1, .int .i64 3, .slice (some ⟨g10, 0, none⟩) 1 1, .int .i64 4, .slice (some ⟨g11, 0, none⟩) 2 2, .int .i64 4, .slice (some ⟨g12, 0, none⟩) 2 2, .int .i64 4, .slice (some ⟨g13, 0, none⟩) 2 2, .int .i64 4, .slice (some ⟨g14, 0, none⟩) 3 3, .int .i64 4, .slice (some ⟨g15, 0, none⟩) 1 1, .int .i64 4, .slice (some ⟨g16, 0, none⟩) 1 1, .int .i64 5]) (.int .i64 15)).run Tryz.prog w = .ok (.agg #[.slice (some ⟨g15, 0, none⟩) 1 1, .int .i64 4]) w := fun _ => by kernel_rfl
  have HB := HX.block HB0
  have c0 := cellOf HB (i := 0) (v := .slice none 0 0) rfl
  have c1 := cellOf HB (i := 1) (v := .int .i64 0) rfl
  have f0 := freeOf HB 0
  have f1 := freeOf HB 1
  have HSS := qh HH
  have HXX := qh (HX0.trans HX)
  have HR := qh (box_row (v := .slice (some ⟨g15, 0, none⟩) 1 1) (u := .int .i64 4) HB)
  have HZ := qh (show w.heap.size < w2.heap.size from Nat.lt_of_lt_of_le hsz HX.size)
  have C0 := qh c0
  clear HH HX HX0 HB HB0 hsz
  go_wp2
  have hlv := run_loadVar_row (P := Tryz.prog) _ w.heap.size 150 150 #[.slice (some ⟨g15, 0, none⟩) 1 1, .int .i64 4] (0, 0) _ HR.out Tryz.underlying150 rfl (by kernel_rfl)
  refine bodyPost_ret (v := .agg #[.slice (some ⟨g15, 0, none⟩) 1 1, .int .i64 4]) (by simp [results, Tryz.results108, asAddr, hlv]) rfl ?_
  have HE : ∀ {g : Nat} {s : ByteArray}, w2.cell? ⟨g, 0, none⟩ = some (.string s) → ((w2.setCell ⟨w.heap.size, 0, none⟩ (.slice (some ⟨g15, 0, none⟩) 1 1)).setCell ⟨w.heap.size, 1, none⟩ (.int .i64 4)).cell? ⟨g, 0, none⟩ = some (.string s) := fun {g s} h3 => by
    have hne : w.heap.size ≠ g := fun e => by rw [← e, C0.out] at h3; cases h3
    rw [World.cell?_setCell_far _ _ _ _ hne, World.cell?_setCell_far _ _ _ _ hne]; exact h3
  exact ⟨_, rfl, (HXX.out.setCell (p := ⟨w.heap.size, 0, none⟩) (Nat.le_refl _) _).setCell (p := ⟨w.heap.size, 1, none⟩) (Nat.le_refl _) _, .inr ⟨g15, 1, rfl, by decide, HE (HSS.out.cell0 (g := g15) (cs := #[.string ⟨#[115, 112, 97, 110]⟩]) (by simp) rfl)⟩⟩
theorem of_16 (w : World) : Calls Tryz.prog 108 #[.int .i64 16] w (OfIs 16 w) := by
  have HX0 := (Ext.refl w).alloc (.cells #[.slice none 0 0, .int .i64 0] 150)
  have HB0 := heap_alloc_new w (.cells #[.slice none 0 0, .int .i64 0] 150)
  go_enter Tryz.func108, Tryz.ntmps108
  go_wp2_with fail
  obtain ⟨w1, hw1⟩ : ∃ w1 : World, w1 = w.alloc (.cells #[.slice none 0 0, .int .i64 0] 150) := ⟨_, rfl⟩
  have hsz : w.heap.size < w1.heap.size := by rw [hw1]; simp
  rw [← hw1] at HX0 HB0
  rw [← hw1]
  clear hw1
  refine (table_any _).mono ?_
  rintro e w2 ⟨B, g1, g2, g3, g4, g5, g6, g7, g8, g9, g10, g11, g12, g13, g14, g15, g16, rfl, HH, HX⟩
  have i0 : ∀ w : World, (Instr.index 172 (.agg #[.slice none 0 0, .int .i64 1, .slice (some ⟨g1, 0, none⟩) 1 1, .int .i64 2, .slice (some ⟨g2, 0, none⟩) 1 1, .int .i64 3, .slice (some ⟨g3, 0, none⟩) 1 1, .int .i64 3, .slice (some ⟨g4, 0, none⟩) 1 1, .int .i64 3, .slice (some ⟨g5, 0, none⟩) 1 1, .int .i64 3, .slice (some ⟨g6, 0, none⟩) 1 1, .int .i64 2, .slice (some ⟨g7, 0, none⟩) 1 1, .int .i64 2, .slice (some ⟨g8, 0, none⟩) 1 1, .int .i64 2, .slice (some ⟨g9, 0, none⟩) 1 1, .int .i64 3, .slice (some ⟨g10, 0, none⟩) 1 1, .int .i64 4, .slice (some ⟨g11, 0, none⟩) 2 2, .int .i64 4, .slice (some ⟨g12, 0, none⟩) 2 2, .int .i64 4, .slice (some ⟨g13, 0, none⟩) 2 2, .int .i64 4, .slice (some ⟨g14, 0, none⟩) 3 3, .int .i64 4, .slice (some ⟨g15, 0, none⟩) 1 1, .int .i64 4, .slice (some ⟨g16, 0, none⟩) 1 1, .int .i64 5]) (.int .i64 16)).run Tryz.prog w = .ok (.agg #[.slice (some ⟨g16, 0, none⟩) 1 1, .int .i64 5]) w := fun _ => by kernel_rfl
  have HB := HX.block HB0
  have c0 := cellOf HB (i := 0) (v := .slice none 0 0) rfl
  have c1 := cellOf HB (i := 1) (v := .int .i64 0) rfl
  have f0 := freeOf HB 0
  have f1 := freeOf HB 1
  have HSS := qh HH
  have HXX := qh (HX0.trans HX)
  have HR := qh (box_row (v := .slice (some ⟨g16, 0, none⟩) 1 1) (u := .int .i64 5) HB)
  have HZ := qh (show w.heap.size < w2.heap.size from Nat.lt_of_lt_of_le hsz HX.size)
  have C0 := qh c0
  clear HH HX HX0 HB HB0 hsz
  go_wp2
  have hlv := run_loadVar_row (P := Tryz.prog) _ w.heap.size 150 150 #[.slice (some ⟨g16, 0, none⟩) 1 1, .int .i64 5] (0, 0) _ HR.out Tryz.underlying150 rfl (by kernel_rfl)
  refine bodyPost_ret (v := .agg #[.slice (some ⟨g16, 0, none⟩) 1 1, .int .i64 5]) (by simp [results, Tryz.results108, asAddr, hlv]) rfl ?_
  have HE : ∀ {g : Nat} {s : ByteArray}, w2.cell? ⟨g, 0, none⟩ = some (.string s) → ((w2.setCell ⟨w.heap.size, 0, none⟩ (.slice (some ⟨g16, 0, none⟩) 1 1)).setCell ⟨w.heap.size, 1, none⟩ (.int .i64 5)).cell? ⟨g, 0, none⟩ = some (.string s) := fun {g s} h3 => by
    have hne : w.heap.size ≠ g := fun e => by rw [← e, C0.out] at h3; cases h3
    rw [World.cell?_setCell_far _ _ _ _ hne, World.cell?_setCell_far _ _ _ _ hne]; exact h3
  exact ⟨_, rfl, (HXX.out.setCell (p := ⟨w.heap.size, 0, none⟩) (Nat.le_refl _) _).setCell (p := ⟨w.heap.size, 1, none⟩) (Nat.le_refl _) _, .inr ⟨g16, 1, rfl, by decide, HE (HSS.out.cell0 (g := g16) (cs := #[.string ⟨#[98, 114]⟩]) (by simp) rfl)⟩⟩
theorem of_out (w : World) (t : Int) (h : t < 0 ∨ 16 < t) : Calls Tryz.prog 108 #[.int .i64 t] w (OfIs t w) := by
  have HX0 := (Ext.refl w).alloc (.cells #[.slice none 0 0, .int .i64 0] 150)
  have HB0 := heap_alloc_new w (.cells #[.slice none 0 0, .int .i64 0] 150)
  have e1 : clsT t = 0 := if_pos h
  have e2 : nameT t = ⟨#[]⟩ := by unfold nameT; rw [if_neg (by omega), if_neg (by omega), if_neg (by omega), if_neg (by omega), if_neg (by omega), if_neg (by omega), if_neg (by omega), if_neg (by omega), if_neg (by omega), if_neg (by omega), if_neg (by omega), if_neg (by omega), if_neg (by omega), if_neg (by omega), if_neg (by omega), if_neg (by omega)]
  have HR := qh HB0
  have fin : OfIs t w (.returned (.agg #[.slice none 0 0, .int .i64 0])) (w.alloc (.cells #[.slice none 0 0, .int .i64 0] 150)) :=
    ⟨.slice none 0 0, by rw [e1], HX0, .inl ⟨rfl, e2⟩⟩
  have FIN := qh fin
  clear fin HX0 HB0
  by_cases hneg : t < 0
  · have hn : decide (t < 0) = true := by simpa using hneg
    clear h hneg
    go_enter Tryz.func108, Tryz.ntmps108
    go_wp2_with fail
    have hlv := run_loadVar_row (P := Tryz.prog) _ w.heap.size 150 150 #[.slice none 0 0, .int .i64 0] (0, 0) _ HR.out Tryz.underlying150 rfl (by kernel_rfl)
    exact bodyPost_ret (v := .agg #[.slice none 0 0, .int .i64 0]) (by simp [results, Tryz.results108, asAddr, hlv]) rfl FIN.out
  · have hn : decide (t < 0) = false := by simpa using hneg
    have hn2 : decide (16 < t) = true := by simp; omega
    clear h hneg
    go_enter Tryz.func108, Tryz.ntmps108
    go_wp2_with fail
    have hlv := run_loadVar_row (P := Tryz.prog) _ w.heap.size 150 150 #[.slice none 0 0, .int .i64 0] (0, 0) _ HR.out Tryz.underlying150 rfl (by kernel_rfl)
    exact bodyPost_ret (v := .agg #[.slice none 0 0, .int .i64 0]) (by simp [results, Tryz.results108, asAddr, hlv]) rfl FIN.out
theorem of_any (w : World) (t : Int) : Calls Tryz.prog 108 #[.int .i64 t] w (OfIs t w) := by
  have h : t = 0 ∨ t = 1 ∨ t = 2 ∨ t = 3 ∨ t = 4 ∨ t = 5 ∨ t = 6 ∨ t = 7 ∨ t = 8 ∨ t = 9 ∨ t = 10 ∨ t = 11 ∨ t = 12 ∨ t = 13 ∨ t = 14 ∨ t = 15 ∨ t = 16 ∨ t < 0 ∨ 16 < t := by omega
  rcases h with rfl | rfl | rfl | rfl | rfl | rfl | rfl | rfl | rfl | rfl | rfl | rfl | rfl | rfl | rfl | rfl | rfl | h
  · exact of_0 w
  · exact of_1 w
  · exact of_2 w
  · exact of_3 w
  · exact of_4 w
  · exact of_5 w
  · exact of_6 w
  · exact of_7 w
  · exact of_8 w
  · exact of_9 w
  · exact of_10 w
  · exact of_11 w
  · exact of_12 w
  · exact of_13 w
  · exact of_14 w
  · exact of_15 w
  · exact of_16 w
  · exact of_out w t h
theorem Class_any (w : World) (t : Int) : Calls Tryz.prog 64 #[.int .i64 t] w (RVal (.int .i64 (clsT t)) w) := by
  go_enter Tryz.func64, Tryz.ntmps64
  go_wp2_with fail
  refine (of_any _ t).mono ?_
  rintro e w2 ⟨v, rfl, hx, _⟩
  obtain ⟨c, hc⟩ : ∃ c, clsT t = c := ⟨_, rfl⟩
  rw [hc]
  have HC := qh hc
  clear hc
  have fl : ∀ w : World, (Instr.field 150 (.agg #[v, .int .i64 c]) 1).run Tryz.prog w = .ok (.int .i64 c) w := fun _ => by kernel_rfl
  go_wp2
  go_ret
  exact ⟨by rw [HC.out]; rfl, hx⟩
end Go.Proofs.YtalaajbajgdglaaGreatDoor
