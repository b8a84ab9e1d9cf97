/- Package dom: SetTag, SetText, SetAttrs; Attrs, Kids, Index: what they answer, and the tree then. Conditions: at most 100000 bytes, 60000 attributes.
Plain trees (api.Node) in plain words (PN), and how they lie in memory: four cells; the rows of attributes and of kids.
Plain trees and trees in plain words: what a plain tree weighs; a tree's node as a plain tree; a plain tree put into a tree, node by node. No program in sight.
Package dom: Attrs, Kids, Index of a node; the errors of Insert and Remove.
The library's contracts of slices.Insert, slices.Delete, slices.Reverse at []int, laid at this program by numbers. No conditions beside theirs. -/
import Derived.Test.YtiglflmjidikpaaD3
import Derived.Shelf.Slices.Reverse
import Derived.Ground.Names2Prog
import Derived.Shelf.Slices.Delete
import Derived.Shelf.Spec.SlicesInsertGrow
import Derived.Shelf.Slices.Cells
namespace Go.Proofs.Ytiglflmjidikpaa
open Go Go.RowKit Go.BigFrame
set_option linter.unusedVariables false
set_option linter.unusedSimpArgs false

theorem RowP.len_of' {w : World} {p : Nat → Prop} {e size : Nat} {v : Value} {n : Nat} {xs : List Value} (h : RowP w p e size v n xs) : ∃ a cap, v = .slice a n cap ∧ n ≤ cap := h.rd.len_of
def Tr.setAt (T : Tr) (i : Nat) (nd : Nd) : Tr := { T with nodes := T.nodes.set i (some nd) }
/-- a cell of a node is stored -/
theorem TreeAt.setTag {w : World} {own : Ow} {ptr : Nat → Nat} {tb : Nat} {T : Tr} (hT : TreeAt w own ptr tb T) {k : Nat} {kd : Nd} (hk : T.nodes[k]? = some (some kd)) (q : Int) :
    TreeAt (w.setCell ⟨ptr k, 0, none⟩ (.int .i64 q)) own ptr tb (T.setAt k { kd with tag := q }) := by
  obtain ⟨av, kv, b1, b2, b3, b4⟩ := hT.node k kd hk
  have other : ∀ b x, own b = some x → b ≠ ptr k → (w.setCell ⟨ptr k, 0, none⟩ (.int .i64 q)).heap[b]? = w.heap[b]? := fun b x hb hn => heap_setCell_other _ hn
  refine hT.setNode (nd' := { kd with tag := q }) hk ⟨av, kv, by rw [heap_setCell_same b1]; rfl, b2, RowP.move b3 fun g hg => ⟨other g _ hg (fun e => by rw [e, b2] at hg; cases hg), hg⟩, RowP.move b4 fun g hg => ⟨other g _ hg (fun e => by rw [e, b2] at hg; cases hg), hg⟩⟩ ?_
  intro b x hb hx
  exact ⟨other b x hb (fun e => by rw [e, b2] at hb; cases hb; exact hx (by simp) rfl), rfl⟩
theorem TreeAt.setText {w : World} {own : Ow} {ptr : Nat → Nat} {tb : Nat} {T : Tr} (hT : TreeAt w own ptr tb T) {k : Nat} {kd : Nd} (hk : T.nodes[k]? = some (some kd)) (s : ByteArray) :
    TreeAt (w.setCell ⟨ptr k, 2, none⟩ (.string s)) own ptr tb (T.setAt k { kd with text := s }) := by
  obtain ⟨av, kv, b1, b2, b3, b4⟩ := hT.node k kd hk
  have other : ∀ b x, own b = some x → b ≠ ptr k → (w.setCell ⟨ptr k, 2, none⟩ (.string s)).heap[b]? = w.heap[b]? := fun b x hb hn => heap_setCell_other _ hn
  refine hT.setNode (nd' := { kd with text := s }) hk ⟨av, kv, by rw [heap_setCell_same b1]; rfl, b2, RowP.move b3 fun g hg => ⟨other g _ hg (fun e => by rw [e, b2] at hg; cases hg), hg⟩, RowP.move b4 fun g hg => ⟨other g _ hg (fun e => by rw [e, b2] at hg; cases hg), hg⟩⟩ ?_
  intro b x hb hx
  exact ⟨other b x hb (fun e => by rw [e, b2] at hb; cases hb; exact hx (by simp) rfl), rfl⟩
/-- a new row of attributes, stored -/
theorem attrs_plain {w W : World} {own : Ow} {ptr : Nat → Nat} {tb : Nat} {T : Tr} (hO : Owned own w) (hT : TreeAt w own ptr tb T) (hx : Ext w W) {k : Nat} {kd : Nd} (hk : T.nodes[k]? = some (some kd))
    {v : Value} {attrs : List (ByteArray × ByteArray)} (hr : RowIn W w.heap.size 44 2 v attrs.length (attrCells attrs)) :
    After own w tb (T.setAt k { kd with attrs := attrs }) (W.setCell ⟨ptr k, 1, none⟩ v) := by
  obtain ⟨av, kv, b1, b2, b3, b4⟩ := hT.node k kd hk
  obtain ⟨rb, hr1, hr2⟩ := hr.block
  have hpl := hO (ptr k) (by simp [b2])
  have hsz := hx.size
  let own1 : Ow := fun b => if rb = some b then some (3, k) else own b
  have e1 : ∀ b x, own b = some x → own1 b = some x := fun b x hb => by
    show (if rb = some b then _ else _) = _
    rw [if_neg (fun h => by have := hr2 b h; have := hO b (by simp [hb]); omega)]; exact hb
  have hk' := hx.keep hO
  have other : ∀ b x, own b = some x → b ≠ ptr k → (W.setCell ⟨ptr k, 1, none⟩ v).heap[b]? = w.heap[b]? := fun b x hb hn => (heap_setCell_other _ hn).trans (hk' b (by simp [hb]))
  have hb3 : W.heap[ptr k]? = _ := (hk' (ptr k) (by simp [b2])).trans b1
  refine ⟨own1, ptr, hT.setNode (nd' := { kd with attrs := attrs }) hk ⟨v, kv, by rw [heap_setCell_same hb3]; rfl, e1 _ _ b2, RowP.move hr1 fun g hg => ?_, RowP.move b4 fun g hg => ⟨other g _ hg (fun e => by rw [e, b2] at hg; cases hg), e1 _ _ hg⟩⟩ ?_, ?_⟩
  · have := hr2 g hg
    exact ⟨heap_setCell_other _ (by show g ≠ ptr k; omega), if_pos hg⟩
  · intro b x hb hxx
    exact ⟨other b x hb (fun e => by rw [e, b2] at hb; cases hb; exact hxx (by simp) rfl), (e1 b x hb).trans hb.symm⟩
  · refine ((hx.step hO).own (fun x hx' => ?_) fun b hb => ?_).setCell (fun _ => by show own (ptr k) ≠ none; simp [b2]) _
    · show (if rb = some x then _ else _) = _
      rw [if_neg (fun h => by have := hr2 x h; omega)]
    · have hb' : (if rb = some b then some (3, k) else own b) ≠ none := hb
      split at hb'
      · rename_i h; exact (hr2 b h).2
      · have := hO b hb'; omega

set_option maxRecDepth 100000 in
set_option maxHeartbeats 1000000 in
theorem SetTag_none {w : World} {own : Ow} {ptr : Nat → Nat} {tb : Nat} {T : Tr} (hT : TreeAt w own ptr tb T) {id : Int} (h : T.get? id = none) (tag : Int) :
    Calls Try.prog 29 #[.pointer (some ⟨tb, 0, none⟩), .int .i64 id, .int .i64 tag] w (RVal (.int .i64 2) w) := by
  have H := Lib.hid h
  clear h
  go_enter Try.func29, Try.ntmps29
  go_wp2_with (go_at_call 80; refine (get_none hT H.out).mono ?_; rintro e w' ⟨rfl, rfl⟩)
  go_ret
  exact ⟨rfl, Ext.refl _⟩
set_option maxRecDepth 100000 in
set_option maxHeartbeats 1000000 in
theorem SetTag_kind {w : World} {own : Ow} {ptr : Nat → Nat} {tb : Nat} {T : Tr} (hT : TreeAt w own ptr tb T) {id : Int} {nd : Nd} (h : T.get? id = some nd) (ht : (nd.tag == 0) = true) (tag : Int) :
    Calls Try.prog 29 #[.pointer (some ⟨tb, 0, none⟩), .int .i64 id, .int .i64 tag] w (RVal (.int .i64 6) w) := by
  have H := Lib.hid h
  have hn := (Tr.get_lt h).2.2
  obtain ⟨av, kv, hb, _⟩ := hT.node _ _ hn
  have c := cellOf hb (i := 0) (v := .int .i64 nd.tag) rfl
  clear h hb hn
  go_enter Try.func29, Try.ntmps29
  go_wp2_with (go_at_call 80; refine (get_some hT H.out).mono ?_; rintro e w' ⟨rfl, rfl⟩)
  go_ret
  exact ⟨rfl, Ext.refl _⟩
set_option maxRecDepth 100000 in
set_option maxHeartbeats 1000000 in
theorem SetTag_arg {w : World} {own : Ow} {ptr : Nat → Nat} {tb : Nat} {T : Tr} (hT : TreeAt w own ptr tb T) {id : Int} {nd : Nd} (h : T.get? id = some nd) (ht : (nd.tag == 0) = false) (tag : Int) (hb : ¬ (1 ≤ tag ∧ tag ≤ 16) ∨ id = 0) :
    Calls Try.prog 29 #[.pointer (some ⟨tb, 0, none⟩), .int .i64 id, .int .i64 tag] w (RVal (.int .i64 1) w) := by
  have H := Lib.hid h
  have hn := (Tr.get_lt h).2.2
  obtain ⟨av, kv, hbk, _⟩ := hT.node _ _ hn
  have c := cellOf hbk (i := 0) (v := .int .i64 nd.tag) rfl
  clear h hbk hn
  by_cases h1 : 1 ≤ tag ∧ tag ≤ 16
  · have h0 : id = 0 := by rcases hb with hb | hb; exact absurd h1 hb; exact hb
    subst h0
    obtain ⟨g1, g2⟩ := h1
    simp only [Int.toNat_zero] at c
    clear hb
    go_enter Try.func29, Try.ntmps29
    go_wp2_with (first
      | (go_at_call 80; refine (get_some hT H.out).mono ?_; rintro e w' ⟨rfl, rfl⟩)
      | (go_at_call 90; refine (element_yes _ g1 g2 _).mono ?_; rintro e w' ⟨rfl, rfl⟩))
    go_ret
    exact ⟨rfl, Ext.refl _⟩
  · have HB := Lib.hid h1
    clear hb h1
    go_enter Try.func29, Try.ntmps29
    go_wp2_with (first
      | (go_at_call 80; refine (get_some hT H.out).mono ?_; rintro e w' ⟨rfl, rfl⟩)
      | (go_at_call 90; refine (element_no _ HB.out _).mono ?_; rintro e w' ⟨rfl, rfl⟩))
    go_ret
    exact ⟨rfl, Ext.refl _⟩
set_option maxRecDepth 100000 in
set_option maxHeartbeats 1000000 in
theorem SetTag_ok {w : World} {own : Ow} {ptr : Nat → Nat} {tb : Nat} {T : Tr} (hT : TreeAt w own ptr tb T) (hO : Owned own w) {i : Nat} {nd : Nd} (hn : T.nodes[i]? = some (some nd)) (ht : (nd.tag == 0) = false) (tag : Int) (g1 : 1 ≤ tag) (g2 : tag ≤ 16) (hi : i ≠ 0) :
    Calls Try.prog 29 #[.pointer (some ⟨tb, 0, none⟩), .int .i64 i, .int .i64 tag] w (ErrAfter own w tb 0 (T.setAt i { nd with tag := tag })) := by
  have H := Lib.hid (Tr.get_of hn)
  obtain ⟨av, kv, hb, hob, _⟩ := hT.node _ _ hn
  have c := cellOf hb (i := 0) (v := .int .i64 nd.tag) rfl
  have f := freeOf hb 0
  have hib : ((i : Int) == 0) = false := by simp; omega
  have HT := Lib.hid hT
  have HN := Lib.hid hn
  have HO := Lib.hid hO
  have HOB := Lib.hid hob
  clear hb hn hT hO hob hi
  go_enter Try.func29, Try.ntmps29
  go_wp2_with (first
    | (go_at_call 80; refine (get_some HT.out H.out).mono ?_; rintro e w' ⟨rfl, rfl⟩)
    | (go_at_call 90; refine (element_yes _ g1 g2 _).mono ?_; rintro e w' ⟨rfl, rfl⟩))
  go_ret
  exact ⟨rfl, own, ptr, HT.out.setTag HN.out tag, (Step.refl HO.out).setCell (fun _ => by show own (ptr i) ≠ none; rw [HOB.out]; simp) _⟩

set_option maxRecDepth 100000 in
set_option maxHeartbeats 1000000 in
theorem SetText_none {w : World} {own : Ow} {ptr : Nat → Nat} {tb : Nat} {T : Tr} (hT : TreeAt w own ptr tb T) (hO : Owned own w) {id : Int} (h : T.get? id = none) (s : ByteArray) (hs : s.size ≤ 100000) :
    Calls Try.prog 23 #[.pointer (some ⟨tb, 0, none⟩), .int .i64 id, .string s] w (RVal (.int .i64 2) w) := by
  have H := Lib.hid h
  have HS := Lib.hid hs
  clear h hs
  go_enter Try.func23, Try.ntmps23
  go_wp2_with (first
    | (go_at_call 80; refine (get_none (hT.keep (hx.keep hO)) H.out).mono ?_; rintro e w' ⟨rfl, rfl⟩)
    | (go_at_call 87; refine (anew_any _ HS.out _).mono ?_; rintro e w' ⟨rfl, hx⟩))
  go_ret
  exact ⟨rfl, hx⟩
set_option maxRecDepth 100000 in
set_option maxHeartbeats 1000000 in
theorem SetText_kind {w : World} {own : Ow} {ptr : Nat → Nat} {tb : Nat} {T : Tr} (hT : TreeAt w own ptr tb T) (hO : Owned own w) {id : Int} {nd : Nd} (h : T.get? id = some nd) (ht : (nd.tag != 0) = true) (s : ByteArray) (hs : s.size ≤ 100000) :
    Calls Try.prog 23 #[.pointer (some ⟨tb, 0, none⟩), .int .i64 id, .string s] w (RVal (.int .i64 6) w) := by
  have H := Lib.hid h
  have HS := Lib.hid hs
  have hn := (Tr.get_lt h).2.2
  obtain ⟨av, kv, hb, _⟩ := hT.node _ _ hn
  have c := cellOf hb (i := 0) (v := .int .i64 nd.tag) rfl
  have HC := Lib.hid c
  clear h hs hb hn c
  go_enter Try.func23, Try.ntmps23
  go_wp2_with (first
    | (go_at_call 80; refine (get_some (hT.keep (hx.keep hO)) H.out).mono ?_; rintro e w' ⟨rfl, rfl⟩; have c := hx.cell HC.out)
    | (go_at_call 87; refine (anew_any _ HS.out _).mono ?_; rintro e w' ⟨rfl, hx⟩))
  go_ret
  exact ⟨rfl, hx⟩
set_option maxRecDepth 100000 in
set_option maxHeartbeats 1000000 in
theorem SetText_long {w : World} {own : Ow} {ptr : Nat → Nat} {tb : Nat} {T : Tr} (hT : TreeAt w own ptr tb T) (hO : Owned own w) {id : Int} {nd : Nd} (h : T.get? id = some nd) (ht : (nd.tag != 0) = false) (s : ByteArray) (hs : s.size ≤ 100000) (hl : 8192 < (anewB s).size) :
    Calls Try.prog 23 #[.pointer (some ⟨tb, 0, none⟩), .int .i64 id, .string s] w (RVal (.int .i64 10) w) := by
  have H := Lib.hid h
  have HS := Lib.hid hs
  have hn := (Tr.get_lt h).2.2
  obtain ⟨av, kv, hb, _⟩ := hT.node _ _ hn
  have c := cellOf hb (i := 0) (v := .int .i64 nd.tag) rfl
  have HC := Lib.hid c
  have hm : (anewB s).size ≤ 400000 := by have := anewB_size s; omega
  clear h hs hb hn c
  go_enter Try.func23, Try.ntmps23
  go_wp2_with (first
    | (go_at_call 80; refine (get_some (hT.keep (hx.keep hO)) H.out).mono ?_; rintro e w' ⟨rfl, rfl⟩; have c := hx.cell HC.out)
    | (go_at_call 87; refine (anew_any _ HS.out _).mono ?_; rintro e w' ⟨rfl, hx⟩))
  go_ret
  exact ⟨rfl, hx⟩
set_option maxRecDepth 100000 in
set_option maxHeartbeats 1000000 in
theorem SetText_ok {w : World} {own : Ow} {ptr : Nat → Nat} {tb : Nat} {T : Tr} (hT : TreeAt w own ptr tb T) (hO : Owned own w) {i : Nat} {nd : Nd} (hn : T.nodes[i]? = some (some nd)) (ht : (nd.tag != 0) = false) (s : ByteArray) (hs : s.size ≤ 100000) (hl : (anewB s).size ≤ 8192) :
    Calls Try.prog 23 #[.pointer (some ⟨tb, 0, none⟩), .int .i64 i, .string s] w (ErrAfter own w tb 0 (T.setAt i { nd with text := anewB s })) := by
  have H := Lib.hid (Tr.get_of hn)
  have HS := Lib.hid hs
  obtain ⟨av, kv, hb, hob, _⟩ := hT.node _ _ hn
  have c := cellOf hb (i := 0) (v := .int .i64 nd.tag) rfl
  have f := freeOf hb 2
  have c2 := cellOf hb (i := 2) (v := .string nd.text) rfl
  have HC := Lib.hid c
  have HC2 := Lib.hid c2
  have HF := Lib.hid f
  have HT := Lib.hid hT
  have HN := Lib.hid hn
  have HO := Lib.hid hO
  have HOB := Lib.hid hob
  clear hb hn hT hO hob hs c f c2
  go_enter Try.func23, Try.ntmps23
  go_wp2_with (first
    | (go_at_call 80; refine (get_some (HT.out.keep (hx.keep HO.out)) H.out).mono ?_; rintro e w' ⟨rfl, rfl⟩; have c := hx.cell HC.out; have c2 := hx.cell HC2.out; have f := hx.free (cell_lt HC.out) HF.out)
    | (go_at_call 87; refine (anew_any _ HS.out _).mono ?_; rintro e w' ⟨rfl, hx⟩))
  go_ret
  exact ⟨rfl, own, ptr, (HT.out.keep (hx.keep HO.out)).setText HN.out _, (hx.step HO.out).setCell (fun _ => by show own (ptr i) ≠ none; rw [HOB.out]; simp) _⟩

set_option maxRecDepth 100000 in
set_option maxHeartbeats 1000000 in
theorem SetAttrs_none {w : World} {own : Ow} {ptr : Nat → Nat} {tb : Nat} {T : Tr} (hT : TreeAt w own ptr tb T) {id : Int} (h : T.get? id = none) (v : Value) :
    Calls Try.prog 24 #[.pointer (some ⟨tb, 0, none⟩), .int .i64 id, v] w (RVal (.int .i64 2) w) := by
  have H := Lib.hid h
  clear h
  go_enter Try.func24, Try.ntmps24
  go_wp2_with (go_at_call 80; refine (get_none hT H.out).mono ?_; rintro e w' ⟨rfl, rfl⟩)
  go_ret
  exact ⟨rfl, Ext.refl _⟩
set_option maxRecDepth 100000 in
set_option maxHeartbeats 1000000 in
theorem SetAttrs_kind {w : World} {own : Ow} {ptr : Nat → Nat} {tb : Nat} {T : Tr} (hT : TreeAt w own ptr tb T) {id : Int} {nd : Nd} (h : T.get? id = some nd) (ht : (nd.tag == 0) = true) (v : Value) :
    Calls Try.prog 24 #[.pointer (some ⟨tb, 0, none⟩), .int .i64 id, v] w (RVal (.int .i64 6) w) := by
  have H := Lib.hid h
  have hn := (Tr.get_lt h).2.2
  obtain ⟨av, kv, hb, _⟩ := hT.node _ _ hn
  have c := cellOf hb (i := 0) (v := .int .i64 nd.tag) rfl
  clear h hb hn
  go_enter Try.func24, Try.ntmps24
  go_wp2_with (go_at_call 80; refine (get_some hT H.out).mono ?_; rintro e w' ⟨rfl, rfl⟩)
  go_ret
  exact ⟨rfl, Ext.refl _⟩
set_option maxRecDepth 100000 in
set_option maxHeartbeats 1000000 in
theorem SetAttrs_ok {w : World} {own : Ow} {ptr : Nat → Nat} {tb : Nat} {T : Tr} (hT : TreeAt w own ptr tb T) (hO : Owned own w) {i : Nat} {nd : Nd} (hn : T.nodes[i]? = some (some nd)) (ht : (nd.tag == 0) = false)
    {av : Value} {attrs : List (ByteArray × ByteArray)} (ha : RowRd w 2 av attrs.length (attrCells attrs)) (hl : attrs.length ≤ 60000) :
    Calls Try.prog 24 #[.pointer (some ⟨tb, 0, none⟩), .int .i64 i, av] w (ErrAfter own w tb 0 (T.setAt i { nd with attrs := attrs })) := by
  obtain ⟨aa, acap, rfl, _⟩ := ha.len_of
  have H := Lib.hid (Tr.get_of hn)
  obtain ⟨av0, kv, hb, hob, _⟩ := hT.node _ _ hn
  have c := cellOf hb (i := 0) (v := .int .i64 nd.tag) rfl
  have f := freeOf hb 1
  have c1 := cellOf hb (i := 1) (v := av0) rfl
  have HC := Lib.hid c1
  have HF := Lib.hid f
  have HT := Lib.hid hT
  have HN := Lib.hid hn
  have HO := Lib.hid hO
  have HA := Lib.hid ha
  have HL := Lib.hid hl
  clear hb hn hT hO hob f c1 ha hl
  go_enter Try.func24, Try.ntmps24
  go_wp2_with (first
    | (go_at_call 80; refine (get_some HT.out H.out).mono ?_; rintro e w' ⟨rfl, rfl⟩)
    | (go_at_call 81; refine (cloneA_any HA.out HL.out (attrCells_one _)).mono ?_; rintro e w' ⟨v, rfl, hr, hx⟩; obtain ⟨a1, cap1, rfl, _⟩ := RowP.len_of' hr; have hr' := Lib.hid hr; clear hr; have c1 := hx.cell HC.out; have f := hx.free (cell_lt HC.out) HF.out))
  go_ret
  exact ⟨rfl, attrs_plain HO.out HT.out hx HN.out hr'.out⟩
end Go.Proofs.Ytiglflmjidikpaa

namespace Go.Proofs.Ytiglflmjidikpaa
open Go Go.RowKit Go.BigFrame
set_option linter.unusedVariables false
set_option linter.unusedSimpArgs false

inductive PN where
  | mk (tag : Int) (attrs : List (ByteArray × ByteArray)) (text : ByteArray) (kids : List PN)
def PN.tag : PN → Int | .mk t _ _ _ => t
def PN.attrs : PN → List (ByteArray × ByteArray) | .mk _ a _ _ => a
def PN.text : PN → ByteArray | .mk _ _ s _ => s
def PN.kids : PN → List PN | .mk _ _ _ k => k
mutual
/-- how many nodes -/
def PN.size : PN → Nat
  | .mk _ _ _ ks => PN.sizes ks + 1
def PN.sizes : List PN → Nat
  | [] => 0
  | k :: r => PN.size k + PN.sizes r
end
theorem PN.size_pos (n : PN) : 0 < n.size := by cases n; simp [PN.size]
theorem PN.sizes_mem {k : PN} {l : List PN} (h : k ∈ l) : k.size ≤ PN.sizes l := by
  induction l with
  | nil => cases h
  | cons x r ih =>
    simp only [PN.sizes]
    rcases List.mem_cons.1 h with rfl | h
    · omega
    · have := ih h; omega
theorem PN.size_kid {n k : PN} (h : k ∈ n.kids) : k.size < n.size := by
  cases n with
  | mk t a s ks => simp only [PN.size]; have := PN.sizes_mem (l := ks) h; omega
/-- induction over the kids -/
theorem PN.induct (P : PN → Prop) (h : ∀ n, (∀ k ∈ n.kids, P k) → P n) : ∀ n, P n := by
  have key : ∀ m n, PN.size n ≤ m → P n := by
    intro m
    induction m with
    | zero => intro n hn; have := n.size_pos; omega
    | succ m ih => exact fun n hn => h n fun k hk => ih k (by have := PN.size_kid hk; omega)
  exact fun n => key n.size n (Nat.le_refl _)

theorem add_later (a : Addr) (i j : Nat) (hj : 0 < j) : a.add (i + j) = ⟨(a.add i).block, (a.add i).off + j, none⟩ := by
  unfold Addr.add
  by_cases hi : i = 0
  · subst hi
    rw [if_neg (by omega), if_pos rfl, Nat.zero_add]
  · rw [if_neg (by omega), if_neg hi, Nat.add_assoc]
/-- four cells that read as a plain tree; with fuel -/
def rdN (w : World) : Nat → PN → Value → Prop
  | 0, _, _ => False
  | f + 1, n, v => ∃ av kv, v = .agg #[.int .i64 n.tag, av, .string n.text, kv] ∧ RowRd w 2 av n.attrs.length (attrCells n.attrs) ∧
      ∃ ao cap, kv = .slice ao n.kids.length cap ∧ n.kids.length ≤ cap ∧ cap ≤ maxLen ∧ (ao = none → n.kids.length = 0 ∧ cap = 0) ∧
        ∀ a, ao = some a → ∀ (j : Nat) k, n.kids[j]? = some k → ∃ c0 c1 c2 c3, w.cell? (a.add (j * 4)) = some c0 ∧ w.cell? (a.add (j * 4 + 1)) = some c1 ∧ w.cell? (a.add (j * 4 + 2)) = some c2 ∧ w.cell? (a.add (j * 4 + 3)) = some c3 ∧
          rdN w f k (.agg #[c0, c1, c2, c3])
/-- a value that reads as a plain tree -/
def RdN (w : World) (n : PN) (v : Value) : Prop := ∃ f, rdN w f n v
/-- what is kept where no cell that is there has turned -/
def Cells (w w' : World) : Prop := ∀ p v, w.cell? p = some v → w'.cell? p = some v
theorem RowRd.cells {w w' : World} {size : Nat} {v : Value} {n : Nat} {xs : List Value} (h : RowRd w size v n xs) (k : Cells w w') : RowRd w' size v n xs := by
  obtain ⟨h1, ao, cap, h2, h3, h4, h5⟩ := h
  exact ⟨h1, ao, cap, h2, h3, h4, fun a ha j x hx => k _ _ (h5 a ha j x hx)⟩
theorem rdN_cells {w w' : World} (k : Cells w w') : ∀ (f : Nat) (n : PN) (v : Value), rdN w f n v → rdN w' f n v := by
  intro f
  induction f with
  | zero => intro n v h; exact h
  | succ f ih =>
    intro n v h
    obtain ⟨av, kv, e, h1, ao, cap, h2, h3, h3', h4, h5⟩ := h
    refine ⟨av, kv, e, h1.cells k, ao, cap, h2, h3, h3', h4, fun a ha j x hx => ?_⟩
    obtain ⟨c0, c1, c2, c3, k0, k1, k2, k3, hr⟩ := h5 a ha j x hx
    exact ⟨c0, c1, c2, c3, k _ _ k0, k _ _ k1, k _ _ k2, k _ _ k3, ih _ _ hr⟩
theorem RdN.cells {w w' : World} {n : PN} {v : Value} (h : RdN w n v) (k : Cells w w') : RdN w' n v := by
  obtain ⟨f, h⟩ := h; exact ⟨f, rdN_cells k f n v h⟩
theorem Ext.cells {w w' : World} (h : Ext w w') : Cells w w' := fun p v hp => (Below.cell h (World.block_lt_of_cell? w p hp)).trans hp
theorem rdN_more {w : World} : ∀ (f : Nat) (n : PN) (v : Value), rdN w f n v → rdN w (f + 1) n v := by
  intro f
  induction f with
  | zero => intro n v h; exact absurd h id
  | succ f ih =>
    intro n v h
    obtain ⟨av, kv, e, h1, ao, cap, h2, h3, h3', h4, h5⟩ := h
    refine ⟨av, kv, e, h1, ao, cap, h2, h3, h3', h4, fun a ha j x hx => ?_⟩
    obtain ⟨c0, c1, c2, c3, k0, k1, k2, k3, hr⟩ := h5 a ha j x hx
    exact ⟨c0, c1, c2, c3, k0, k1, k2, k3, ih _ _ hr⟩
theorem rdN_le {w : World} {f g : Nat} {n : PN} {v : Value} (h : rdN w f n v) (hfg : f ≤ g) : rdN w g n v := by
  induction hfg with
  | refl => exact h
  | step _ ih => exact rdN_more _ _ _ ih
/-- a row of plain trees -/
def KidsRd (w : World) (ks : List PN) (kv : Value) : Prop :=
  ∃ ao cap, kv = .slice ao ks.length cap ∧ ks.length ≤ cap ∧ cap ≤ maxLen ∧ (ao = none → ks.length = 0 ∧ cap = 0) ∧
    ∀ a, ao = some a → ∀ (j : Nat) k, ks[j]? = some k → ∃ c0 c1 c2 c3, w.cell? (a.add (j * 4)) = some c0 ∧ w.cell? (a.add (j * 4 + 1)) = some c1 ∧ w.cell? (a.add (j * 4 + 2)) = some c2 ∧ w.cell? (a.add (j * 4 + 3)) = some c3 ∧ RdN w k (.agg #[c0, c1, c2, c3])
theorem RdN.open {w : World} {n : PN} {v : Value} (h : RdN w n v) : ∃ av kv, v = .agg #[.int .i64 n.tag, av, .string n.text, kv] ∧ RowRd w 2 av n.attrs.length (attrCells n.attrs) ∧ KidsRd w n.kids kv := by
  obtain ⟨f, h⟩ := h
  cases f with
  | zero => exact absurd h id
  | succ f =>
    obtain ⟨av, kv, e, h1, ao, cap, h2, h3, h3', h4, h5⟩ := h
    refine ⟨av, kv, e, h1, ao, cap, h2, h3, h3', h4, fun a ha j x hx => ?_⟩
    obtain ⟨c0, c1, c2, c3, k0, k1, k2, k3, hr⟩ := h5 a ha j x hx
    exact ⟨c0, c1, c2, c3, k0, k1, k2, k3, f, hr⟩
theorem fuel_all {l : List PN} {P : Nat → PN → Prop} (hm : ∀ f g k, P f k → f ≤ g → P g k) (h : ∀ k ∈ l, ∃ f, P f k) : ∃ f, ∀ k ∈ l, P f k := by
  induction l with
  | nil => exact ⟨0, fun k hk => by cases hk⟩
  | cons x r ih =>
    obtain ⟨f, hf⟩ := h x (by simp)
    obtain ⟨g, hg⟩ := ih fun k hk => h k (by simp [hk])
    refine ⟨max f g, fun k hk => ?_⟩
    rcases List.mem_cons.1 hk with rfl | hk
    · exact hm _ _ _ hf (Nat.le_max_left _ _)
    · exact hm _ _ _ (hg k hk) (Nat.le_max_right _ _)
theorem fuel_row {ks : List PN} {Q : Nat → Nat → PN → Prop} (hm : ∀ j f g k, Q j f k → f ≤ g → Q j g k) (h : ∀ (j : Nat) k, ks[j]? = some k → ∃ f, Q j f k) : ∃ f, ∀ (j : Nat) k, ks[j]? = some k → Q j f k := by
  induction ks generalizing Q with
  | nil => exact ⟨0, fun j k hk => by simp at hk⟩
  | cons x r ih =>
    obtain ⟨f, hf⟩ := h 0 x rfl
    obtain ⟨g, hg⟩ := ih (Q := fun j f k => Q (j + 1) f k) (fun j f g k => hm (j + 1) f g k) fun j k hk => h (j + 1) k (by simpa using hk)
    refine ⟨max f g, fun j k hk => ?_⟩
    cases j with
    | zero => simp at hk; subst hk; exact hm _ _ _ _ hf (Nat.le_max_left _ _)
    | succ j => exact hm _ _ _ _ (hg j k (by simpa using hk)) (Nat.le_max_right _ _)
theorem RdN.mk' {w : World} {n : PN} {av kv : Value} (h1 : RowRd w 2 av n.attrs.length (attrCells n.attrs)) (h2 : KidsRd w n.kids kv) : RdN w n (.agg #[.int .i64 n.tag, av, .string n.text, kv]) := by
  obtain ⟨ao, cap, rfl, h3, h3', h4, h5⟩ := h2
  cases ao with
  | none => exact ⟨1, av, _, rfl, h1, none, cap, rfl, h3, h3', h4, fun a ha => by cases ha⟩
  | some a =>
    obtain ⟨f, hf⟩ := fuel_row (ks := n.kids) (Q := fun j f k => ∃ c0 c1 c2 c3, w.cell? (a.add (j * 4)) = some c0 ∧ w.cell? (a.add (j * 4 + 1)) = some c1 ∧ w.cell? (a.add (j * 4 + 2)) = some c2 ∧ w.cell? (a.add (j * 4 + 3)) = some c3 ∧ rdN w f k (.agg #[c0, c1, c2, c3]))
      (fun j f g k ⟨c0, c1, c2, c3, k0, k1, k2, k3, hr⟩ hfg => ⟨c0, c1, c2, c3, k0, k1, k2, k3, rdN_le hr hfg⟩)
      (fun j k hk => by
        obtain ⟨c0, c1, c2, c3, k0, k1, k2, k3, f, hr⟩ := h5 a rfl j k hk
        exact ⟨f, c0, c1, c2, c3, k0, k1, k2, k3, hr⟩)
    exact ⟨f + 1, av, _, rfl, h1, some a, cap, rfl, h3, h3', h4, fun a' ha j k hk => by cases ha; exact hf j k hk⟩
theorem KidsRd.cells {w w' : World} {ks : List PN} {v : Value} (h : KidsRd w ks v) (k : Cells w w') : KidsRd w' ks v := by
  obtain ⟨ao, cap, h2, h3, h3', h4, h5⟩ := h
  refine ⟨ao, cap, h2, h3, h3', h4, fun a ha j x hx => ?_⟩
  obtain ⟨c0, c1, c2, c3, k0, k1, k2, k3, hr⟩ := h5 a ha j x hx
  exact ⟨c0, c1, c2, c3, k _ _ k0, k _ _ k1, k _ _ k2, k _ _ k3, hr.cells k⟩
end Go.Proofs.Ytiglflmjidikpaa

namespace Go.Proofs.Ytiglflmjidikpaa
open Go Go.RowKit Go.BigFrame
set_option linter.unusedVariables false
set_option linter.unusedSimpArgs false

/-- may a node itself not be? -/
def PN.bad (n : PN) : Bool := if n.tag = 0 then !(n.attrs.isEmpty && n.kids.isEmpty) else !(decide (1 ≤ n.tag ∧ n.tag ≤ 16) && n.text.size == 0)
mutual
def PN.high : PN → Nat
  | .mk _ _ _ ks => PN.highs ks
def PN.highs : List PN → Nat
  | [] => 0
  | k :: r => max (PN.high k + 1) (PN.highs r)
end
mutual
def PN.anew : PN → PN
  | .mk t a s ks => .mk t a (anewB s) (PN.anews ks)
def PN.anews : List PN → List PN
  | [] => []
  | k :: r => PN.anew k :: PN.anews r
end
mutual
def PN.ok : PN → Bool
  | .mk t a s ks => !(PN.mk t a s ks).bad && decide ((anewB s).size ≤ 8192) && PN.oks ks
def PN.oks : List PN → Bool
  | [] => true
  | k :: r => PN.ok k && PN.oks r
end
theorem PN.high_eq (n : PN) : n.high = PN.highs n.kids := by cases n; rfl
theorem PN.size_eq (n : PN) : n.size = PN.sizes n.kids + 1 := by cases n; rfl
theorem PN.anew_eq (n : PN) : n.anew = .mk n.tag n.attrs (anewB n.text) (PN.anews n.kids) := by cases n; rfl
theorem PN.anews_eq (l : List PN) : PN.anews l = l.map PN.anew := by
  induction l with
  | nil => rfl
  | cons k r ih => simp only [PN.anews, List.map_cons, ih]
theorem PN.ok_eq (n : PN) : n.ok = (!n.bad && decide ((anewB n.text).size ≤ 8192) && PN.oks n.kids) := by cases n; rfl
theorem PN.oks_mem {l : List PN} (h : PN.oks l = true) {k : PN} (hk : k ∈ l) : k.ok = true := by
  induction l with
  | nil => cases hk
  | cons x r ih =>
    simp only [PN.oks, Bool.and_eq_true] at h
    rcases List.mem_cons.1 hk with rfl | hk
    · exact h.1
    · exact ih h.2 hk
theorem PN.ok_bad {n : PN} (h : n.ok = true) : n.bad = false := by
  rw [PN.ok_eq] at h; simp at h; exact h.1.1
theorem PN.ok_kids {n : PN} (h : n.ok = true) : PN.oks n.kids = true := by
  rw [PN.ok_eq] at h; simp at h; exact h.2
theorem PN.bad_tag {n : PN} (h : n.bad = false) : 0 ≤ n.tag ∧ n.tag ≤ 16 ∧ (n.tag = 0 → n.kids = [] ∧ n.attrs = []) ∧ (n.tag ≠ 0 → n.text.size = 0) := by
  unfold PN.bad at h
  by_cases h0 : n.tag = 0
  · rw [if_pos h0] at h
    simp at h
    exact ⟨by omega, by omega, fun _ => ⟨h.2, h.1⟩, fun e => absurd h0 e⟩
  · rw [if_neg h0] at h
    simp at h
    exact ⟨by omega, by omega, fun e => absurd e h0, fun _ => by rw [h.2]; rfl⟩

/-- a node as a plain tree, with fuel -/
def noPN : PN := .mk 0 [] ByteArray.empty []
def Tr.pln (T : Tr) : Nat → Int → PN
  | 0, _ => noPN
  | f + 1, id => match T.get? id with
    | none => noPN
    | some nd => .mk nd.tag nd.attrs nd.text (nd.kids.map (T.pln f))
def Tr.plain (T : Tr) (id : Int) : PN := T.pln 50 id
theorem pln_step (T : Tr) (f : Nat) {i : Nat} {nd : Nd} (h : T.nodes[i]? = some (some nd)) : T.pln (f + 1) i = .mk nd.tag nd.attrs nd.text (nd.kids.map (T.pln f)) := by
  show (match T.get? i with | none => noPN | some nd => _) = _
  rw [Tr.get_of h]
theorem WF.pln_more {T : Tr} {d : Nat → Nat} (hw : WF T d) : ∀ (f g i : Nat) (nd : Nd), T.nodes[i]? = some (some nd) → 41 ≤ d i + f → 41 ≤ d i + g → T.pln f i = T.pln g i := by
  intro f
  induction f with
  | zero => intro g i nd h h1; have := hw.deep i nd h; have := hw.small.deep1; omega
  | succ f ih =>
    intro g i nd h h1 h2
    cases g with
    | zero => have := hw.deep i nd h; have := hw.small.deep1; omega
    | succ g =>
      rw [pln_step T f h, pln_step T g h]
      congr 1
      refine List.map_congr_left fun k hk => ?_
      obtain ⟨n, hn⟩ := List.getElem?_of_mem hk
      obtain ⟨j, kd, rfl, hj, hjp, hjd⟩ := hw.kid h hn
      exact ih g j kd hj (by omega) (by omega)
theorem WF.plain_eq {T : Tr} {d : Nat → Nat} (hw : WF T d) {i : Nat} {nd : Nd} (h : T.nodes[i]? = some (some nd)) : T.plain i = .mk nd.tag nd.attrs nd.text (nd.kids.map T.plain) := by
  show T.pln 50 i = _
  rw [pln_step T 49 h]
  congr 1
  refine List.map_congr_left fun k hk => ?_
  obtain ⟨n, hn⟩ := List.getElem?_of_mem hk
  obtain ⟨j, kd, rfl, hj, hjp, hjd⟩ := hw.kid h hn
  have := hw.deep j kd hj
  have := hw.small.deep1
  exact hw.pln_more 49 50 j kd hj (by omega) (by omega)
theorem WF.height_eq {T : Tr} {d : Nat → Nat} (hw : WF T d) {i : Nat} {nd : Nd} (h : T.nodes[i]? = some (some nd)) : T.height i = nd.kids.foldl (fun h k => max h (T.height k + 1)) 0 := by
  show T.hgt 50 i = _
  rw [hgt_step T 49 h]
  refine fold_congr _ _ _ _ fun k hk => ?_
  obtain ⟨n, hn⟩ := List.getElem?_of_mem hk
  obtain ⟨j, kd, rfl, hj, hjp, hjd⟩ := hw.kid h hn
  have := hw.deep j kd hj
  have := hw.small.deep1
  show _ = T.hgt 50 j + 1
  rw [hw.hgt_more 49 50 j kd hj (by omega) (by omega)]
/-- two trees that tell the same of all that is within a node -/
theorem pln_same {T T' : Tr} {d : Nat → Nat} (hw : WF T d) {o : Nat} (hs : ∀ (j : Nat) (jd : Nd), T.nodes[j]? = some (some jd) → T.within j o = true → ∃ jd', T'.nodes[j]? = some (some jd') ∧ jd'.tag = jd.tag ∧ jd'.attrs = jd.attrs ∧ jd'.text = jd.text ∧ jd'.kids = jd.kids) {od : Nd} (ho : T.nodes[o]? = some (some od)) :
    ∀ (f i : Nat) (nd : Nd), T.nodes[i]? = some (some nd) → T.within i o = true → T'.pln f i = T.pln f i ∧ T'.hgt f i = T.hgt f i := by
  intro f
  induction f with
  | zero => intro i nd h _; exact ⟨rfl, rfl⟩
  | succ f ih =>
    intro i nd h hin
    obtain ⟨nd', h', e1, e2, e3, e4⟩ := hs i nd h hin
    have hk : ∀ k ∈ nd.kids, T'.pln f k = T.pln f k ∧ T'.hgt f k = T.hgt f k := fun k hk => by
      obtain ⟨j, kd, rfl, hj, hjp⟩ := (hw.kids i nd h).2 k hk
      refine ih j kd hj ?_
      rw [hw.within_step hj, hjp]
      split
      · rfl
      · exact hin
    constructor
    · rw [pln_step T f h, pln_step T' f h', e1, e2, e3, e4]
      congr 1
      exact List.map_congr_left fun k hk' => (hk k hk').1
    · rw [hgt_step T f h, hgt_step T' f h', e4]
      exact fold_congr _ _ _ _ fun k hk' => by rw [(hk k hk').2]
theorem plain_same {T T' : Tr} {d : Nat → Nat} (hw : WF T d) {o : Nat} {od : Nd} (ho : T.nodes[o]? = some (some od))
    (hs : ∀ (j : Nat) (jd : Nd), T.nodes[j]? = some (some jd) → T.within j o = true → ∃ jd', T'.nodes[j]? = some (some jd') ∧ jd'.tag = jd.tag ∧ jd'.attrs = jd.attrs ∧ jd'.text = jd.text ∧ jd'.kids = jd.kids) :
    T'.plain o = T.plain o ∧ T'.height o = T.height o := pln_same hw hs ho 50 o od ho (hw.within_self ho)

/-- a loose node gets one kid more -/
def Tr.attach (T : Tr) (p k : Nat) (pd kd : Nd) : Tr := T.set2 p k { pd with kids := pd.kids ++ [(k : Int)] } { kd with parent := p }
theorem Tr.attach_link (T : Tr) (p k : Nat) (pd kd : Nd) : T.attach p k pd kd = T.link p pd.kids.length k pd kd := by
  rw [Tr.link_eq]; simp [Tr.attach]
theorem WF.attach {T : Tr} {d : Nat → Nat} (hw : WF T d) {p k : Nat} {pd kd : Nd} (hp : T.nodes[p]? = some (some pd)) (hk : T.nodes[k]? = some (some kd))
    (htag : pd.tag ≠ 0) (hk0 : k ≠ 0) (hpar : kd.parent = -1) (hpp : pd.parent = -1) (hpk : p ≠ k) (hh : T.height k + 1 ≤ T.deep) :
    ∃ d', WF (T.attach p k pd kd) d' ∧ (T.attach p k pd kd).height p = max (T.height p) (T.height k + 1) ∧ (T.attach p k pd kd).plain p = .mk pd.tag pd.attrs pd.text (pd.kids.map T.plain ++ [T.plain k]) := by
  have hin : T.within p k = false := by rw [hw.within_root hp hpp]; simp; omega
  have hdp : d p = 0 := by
    rcases hw.up p pd hp with ⟨h3, h4⟩ | ⟨q, qd, h3, h4, h5, h6⟩
    · exact h4
    · omega
  have hl := hw.link (at' := pd.kids.length) hp hk htag hk0 hpar hin (by omega)
  rw [← Tr.attach_link] at hl
  have hg := fun j => Tr.set2_get (pd' := { pd with kids := pd.kids ++ [(k : Int)] }) (kd' := { kd with parent := p }) hp hk j
  have hp' : (T.attach p k pd kd).nodes[p]? = some (some { pd with kids := pd.kids ++ [(k : Int)] }) := by
    show (T.set2 p k _ _).nodes[p]? = _
    rw [hg, if_neg hpk, if_pos rfl]
  -- nodes other than p tell the same
  have hsame : ∀ (j : Nat) (jd : Nd), T.nodes[j]? = some (some jd) → j ≠ p → ∃ jd', (T.attach p k pd kd).nodes[j]? = some (some jd') ∧ jd'.tag = jd.tag ∧ jd'.attrs = jd.attrs ∧ jd'.text = jd.text ∧ jd'.kids = jd.kids := fun j jd h hne => by
    show ∃ jd', (T.set2 p k _ _).nodes[j]? = some (some jd') ∧ _
    rw [hg]
    by_cases e : j = k
    · subst e
      rw [if_pos rfl]
      obtain rfl := some_inj2 hk h
      exact ⟨_, rfl, rfl, rfl, rfl, rfl⟩
    · rw [if_neg e, if_neg hne]
      exact ⟨jd, h, rfl, rfl, rfl, rfl⟩
  have hof : ∀ (o : Nat) (od : Nd), T.nodes[o]? = some (some od) → o ≠ p → (T.attach p k pd kd).plain o = T.plain o ∧ (T.attach p k pd kd).height o = T.height o := fun o od ho hne =>
    plain_same hw ho fun j jd hj hjo => hsame j jd hj fun e => by
      subst e
      obtain rfl := some_inj2 hp hj
      rw [hw.within_root hp hpp] at hjo
      have := of_decide_eq_true hjo
      omega
  have hkids : ∀ x ∈ pd.kids, (T.attach p k pd kd).plain x = T.plain x ∧ (T.attach p k pd kd).height x = T.height x := fun x hx => by
    obtain ⟨j, jd, rfl, hj, hjp⟩ := (hw.kids p pd hp).2 x hx
    refine hof j jd hj fun e => ?_
    subst e
    obtain rfl := some_inj2 hp hj
    omega
  have hkk := hof k kd hk (Ne.symm hpk)
  refine ⟨_, hl, ?_, ?_⟩
  · rw [hl.height_eq hp', hw.height_eq hp]
    show (pd.kids ++ [(k : Int)]).foldl _ 0 = _
    rw [List.foldl_append, List.foldl_cons, List.foldl_nil, hkk.2]
    rw [fold_congr (fun x => (T.attach p k pd kd).height x + 1) (fun x => T.height x + 1) pd.kids 0 fun x hx => by rw [(hkids x hx).2]]
  · rw [hl.plain_eq hp']
    show PN.mk pd.tag pd.attrs pd.text ((pd.kids ++ [(k : Int)]).map _) = _
    rw [List.map_append, List.map_cons, List.map_nil, hkk.1]
    congr 2
    exact List.map_congr_left fun x hx => (hkids x hx).1

/-- the first free number and the tree behind 'put', kids one by one -/
def Tr.look (T : Tr) (i : Int) : Nd := (T.get? i).getD ⟨0, [], ByteArray.empty, [], -1⟩
def Tr.join (T : Tr) (p k : Int) : Tr := T.attach p.toNat k.toNat (T.look p) (T.look k)
mutual
def PN.into (T : Tr) : PN → Tr
  | .mk t a s ks => PN.intos T.newId (T.put ⟨t, a, anewB s, [], -1⟩) ks
def PN.intos (id : Int) (T : Tr) : List PN → Tr
  | [] => T
  | k :: r => PN.intos id ((PN.into T k).join id T.newId) r
end
theorem PN.into_eq (T : Tr) (n : PN) : PN.into T n = PN.intos T.newId (T.put ⟨n.tag, n.attrs, anewB n.text, [], -1⟩) n.kids := by cases n; rfl
theorem look_of {T : Tr} {i : Nat} {nd : Nd} (h : T.nodes[i]? = some (some nd)) : T.look i = nd := by
  unfold Tr.look; rw [Tr.get_of h]; rfl
/-- what holds of a tree into which a plain one was put -/
structure Put (T T' : Tr) (d' : Nat → Nat) (i : Nat) (n : PN) (sz hi : Nat) : Prop where
  wf : WF T' d'
  node : ∃ nd, T'.nodes[i]? = some (some nd) ∧ nd.parent = -1
  high : T'.height i = hi
  plain : T'.plain i = n
  old : ∀ (j : Nat) (x : Nd), j ≠ i → T.nodes[j]? = some (some x) → T'.nodes[j]? = some (some x)
  count : T'.count = T.count + sz
  cap : T'.cap = T.cap
  deep : T'.deep = T.deep
theorem put_fields (T : Tr) (nd : Nd) : (T.put nd).cap = T.cap ∧ (T.put nd).deep = T.deep ∧ (T.put nd).count = T.count + 1 := ⟨rfl, rfl, rfl⟩
/-- one node is put -/
theorem WF.put_one {T : Tr} {d : Nat → Nat} (hw : WF T d) {n : PN} (hb : n.bad = false) (hroom : T.count + 1 ≤ T.cap) :
    ∃ (d' : Nat → Nat) (i : Nat), T.newId = (i : Int) ∧ i ≠ 0 ∧ (∀ x : Nd, T.nodes[i]? ≠ some (some x)) ∧ (T.put ⟨n.tag, n.attrs, anewB n.text, [], -1⟩).nodes[i]? = some (some ⟨n.tag, n.attrs, anewB n.text, [], -1⟩) ∧
      Put T (T.put ⟨n.tag, n.attrs, anewB n.text, [], -1⟩) d' i (.mk n.tag n.attrs (anewB n.text) []) 1 0 := by
  obtain ⟨b0, b1, b2, b3⟩ := PN.bad_tag hb
  obtain ⟨i, h1, h2, h3, h4, h5, h6, h7, h8⟩ := T.put_at ⟨n.tag, n.attrs, anewB n.text, [], -1⟩
  have hne := hw.newId_ne
  have hp := hw.put ⟨n.tag, n.attrs, anewB n.text, [], -1⟩ rfl rfl b0 b1 hroom hne
  refine ⟨_, i, h1, by omega, h3, h2, ⟨hp, ⟨_, h2, rfl⟩, ?_, ?_, fun j x _ hj => h4 j x hj, rfl, rfl, rfl⟩⟩
  · rw [hp.height_eq h2]; rfl
  · rw [hp.plain_eq h2]; rfl

/-- what one plain tree makes, for every tree -/
def PutsOk (n : PN) : Prop := ∀ (T : Tr) (d : Nat → Nat), WF T d → T.count + n.size ≤ T.cap → (n.high : Int) ≤ T.deep → ∃ (d' : Nat → Nat) (i : Nat), T.newId = (i : Int) ∧ i ≠ 0 ∧ (∀ x : Nd, T.nodes[i]? ≠ some (some x)) ∧ Put T (PN.into T n) d' i n.anew n.size n.high
theorem intos_ok : ∀ (ks : List PN) (hks : ∀ k ∈ ks, PutsOk k) (T : Tr) (d : Nat → Nat) (i : Nat) (nd : Nd), WF T d → T.nodes[i]? = some (some nd) → nd.parent = -1 → (nd.tag ≠ 0 ∨ ks = []) → T.count + PN.sizes ks ≤ T.cap → (PN.highs ks : Int) ≤ T.deep → (∀ x ∈ nd.kids, 0 ≤ x) →
    ∃ (d' : Nat → Nat) (nd' : Nd), (PN.intos i T ks).nodes[i]? = some (some nd') ∧ Put T (PN.intos i T ks) d' i (.mk nd.tag nd.attrs nd.text (nd.kids.map T.plain ++ PN.anews ks)) (PN.sizes ks) (max (T.height i).toNat (PN.highs ks)) := by
  intro ks
  induction ks with
  | nil =>
    intro hks T d i nd hw hi hp ht hc hh hx
    refine ⟨d, nd, hi, ⟨hw, ⟨nd, hi, hp⟩, ?_, ?_, fun j x _ hj => hj, ?_, rfl, rfl⟩⟩
    · have := hgt_nn T 50 hi
      show T.height i = ((max (T.height i).toNat 0 : Nat) : Int)
      have h0 : 0 ≤ T.height i := this
      omega
    · show T.plain i = _
      rw [hw.plain_eq hi]; simp [PN.anews]
    · show T.count = T.count + ((0 : Nat) : Int); simp
  | cons k r ih =>
    intro hks T d i nd hw hi hp ht hc hh hx
    simp only [PN.sizes, PN.highs] at hc hh
    have hkpos := k.size_pos
    obtain ⟨d1, m, hm1, hm0, hm2, hP⟩ := hks k (by simp) T d hw (by omega) (by omega)
    have him : i ≠ m := fun e => hm2 nd (e ▸ hi)
    have hi1 : (PN.into T k).nodes[i]? = some (some nd) := hP.old i nd him hi
    obtain ⟨kd, hk1, hk2⟩ := hP.node
    have ht' : nd.tag ≠ 0 := by rcases ht with h | h; exact h; cases h
    obtain ⟨d2, hw2, hh2, hp2⟩ := hP.wf.attach hi1 hk1 ht' hm0 hk2 hp him (by rw [hP.high, hP.deep]; omega)
    have hjoin : (PN.into T k).join i T.newId = (PN.into T k).attach i m nd kd := by
      unfold Tr.join
      rw [hm1, Int.toNat_natCast, Int.toNat_natCast, look_of hi1, look_of hk1]
    have hg := fun j => Tr.set2_get (pd' := { nd with kids := nd.kids ++ [(m : Int)] }) (kd' := { kd with parent := i }) hi1 hk1 j
    have hi2 : ((PN.into T k).attach i m nd kd).nodes[i]? = some (some { nd with kids := nd.kids ++ [(m : Int)] }) := by
      show (Tr.set2 _ i m _ _).nodes[i]? = _
      rw [hg, if_neg him, if_pos rfl]
    -- heights and plains of the kids that were there
    have hold := plain_same (T' := PN.into T k) hw hi fun j jd hj _ => by
      refine ⟨jd, hP.old j jd (fun e => hm2 jd (e ▸ hj)) hj, rfl, rfl, rfl, rfl⟩
    have hcount : ((PN.into T k).attach i m nd kd).count = T.count + k.size := hP.count
    have hcap : ((PN.into T k).attach i m nd kd).cap = T.cap := hP.cap
    have hdeep : ((PN.into T k).attach i m nd kd).deep = T.deep := hP.deep
    obtain ⟨d3, nd3, hn3, hP3⟩ := ih (fun x hx' => hks x (by simp [hx'])) _ d2 i _ hw2 hi2 hp (.inl ht') (by rw [hcount, hcap]; omega) (by rw [hdeep]; omega) (fun x hx' => by
      rcases List.mem_append.1 hx' with h | h
      · exact hx x h
      · simp at h; omega)
    have e0 : PN.intos i T (k :: r) = PN.intos i ((PN.into T k).attach i m nd kd) r := by
      simp only [PN.intos]; rw [hjoin]
    rw [e0]
    refine ⟨d3, nd3, hn3, ⟨hP3.wf, hP3.node, ?_, ?_, fun j x hj hjx => ?_, ?_, hP3.cap.trans hcap, hP3.deep.trans hdeep⟩⟩
    · rw [hP3.high, hh2, hP.high, hold.2]
      simp only [PN.highs]
      have h0 : 0 ≤ T.height i := hgt_nn T 50 hi
      omega
    · rw [hP3.plain]
      have e1 := hw2.plain_eq hi2
      rw [hp2] at e1
      have e2 : (nd.kids ++ [(m : Int)]).map ((PN.into T k).attach i m nd kd).plain = nd.kids.map T.plain ++ [k.anew] := by
        have e3 : nd.kids.map (PN.into T k).plain = nd.kids.map T.plain := by
          have q1 := hP.wf.plain_eq hi1
          rw [hold.1, hw.plain_eq hi] at q1
          exact (PN.mk.inj q1).2.2.2.symm
        have e4 := (PN.mk.inj e1).2.2.2
        show List.map ((PN.into T k).attach i m nd kd).plain (nd.kids ++ [(m : Int)]) = _
        rw [← e3, ← hP.plain]
        exact e4.symm
      show PN.mk nd.tag nd.attrs nd.text ((nd.kids ++ [(m : Int)]).map _ ++ PN.anews r) = _
      rw [e2]
      simp [PN.anews]
    · have hjm : j ≠ m := fun e => hm2 x (e ▸ hjx)
      refine hP3.old j x hj ?_
      show (Tr.set2 _ i m _ _).nodes[j]? = _
      rw [hg, if_neg hjm, if_neg hj]
      exact hP.old j x hjm hjx
    · rw [hP3.count, hcount]
      simp only [PN.sizes]
      push_cast; omega
theorem into_ok : ∀ n : PN, n.ok = true → PutsOk n := by
  refine PN.induct _ fun n ih hok T d hw hc hh => ?_
  have hb := PN.ok_bad hok
  have hkids := PN.ok_kids hok
  obtain ⟨b0, b1, b2, b3⟩ := PN.bad_tag hb
  rw [PN.size_eq] at hc
  obtain ⟨d1, i, h1, h0, h2, h3, hP⟩ := hw.put_one hb (by omega)
  obtain ⟨d2, nd2, hn2, hP2⟩ := intos_ok n.kids (fun k hk => ih k hk (PN.oks_mem hkids hk)) _ d1 i _ hP.wf h3 rfl (by
    by_cases e : n.tag = 0
    · exact .inr (b2 e).1
    · exact .inl e) (by rw [hP.count, hP.cap]; omega) (by rw [hP.deep]; rw [PN.high_eq] at hh; exact hh) (fun x hx => by cases hx)
  rw [PN.into_eq, h1]
  refine ⟨d2, i, rfl, h0, h2, ⟨hP2.wf, hP2.node, ?_, ?_, fun j x hj hjx => hP2.old j x hj (hP.old j x hj hjx), ?_, hP2.cap.trans hP.cap, hP2.deep.trans hP.deep⟩⟩
  · rw [hP2.high, hP.high, PN.high_eq]; simp
  · rw [hP2.plain, PN.anew_eq]; simp
  · rw [hP2.count, hP.count, PN.size_eq]; push_cast; omega
end Go.Proofs.Ytiglflmjidikpaa

namespace Go.Proofs.Ytiglflmjidikpaa
open Go Go.RowKit Go.BigFrame
set_option linter.unusedVariables false
set_option linter.unusedSimpArgs false

set_option maxRecDepth 100000 in
set_option maxHeartbeats 1000000 in
theorem Attrs_none {w : World} {own : Ow} {ptr : Nat → Nat} {tb : Nat} {T : Tr} (hT : TreeAt w own ptr tb T) {id : Int} (h : T.get? id = none) :
    Calls Try.prog 47 #[.pointer (some ⟨tb, 0, none⟩), .int .i64 id] w (RVal (.slice none 0 0) w) := by
  have H := Lib.hid h
  clear h
  go_enter Try.func47, Try.ntmps47
  go_wp2_with (go_at_call 80; refine (get_none hT H.out).mono ?_; rintro e w' ⟨rfl, rfl⟩)
  go_ret
  exact ⟨rfl, Ext.refl _⟩
set_option maxRecDepth 100000 in
set_option maxHeartbeats 1000000 in
theorem Attrs_some {w : World} {own : Ow} {ptr : Nat → Nat} {tb : Nat} {T : Tr} (hT : TreeAt w own ptr tb T) {id : Int} {nd : Nd} (h : T.get? id = some nd) (hl : nd.attrs.length ≤ 60000) :
    Calls Try.prog 47 #[.pointer (some ⟨tb, 0, none⟩), .int .i64 id] w (RRow 44 2 nd.attrs.length (attrCells nd.attrs) w) := by
  have H := Lib.hid h
  have hn := (Tr.get_lt h).2.2
  obtain ⟨av, kv, hb, _, ha, _⟩ := hT.node _ _ hn
  have hr := RowP.rd ha
  obtain ⟨aa, acap, rfl, _⟩ := hr.len_of
  have c := cellOf hb (i := 1) (v := .slice aa nd.attrs.length acap) rfl
  have HR := Lib.hid hr
  have HL := Lib.hid hl
  clear h hb hn hr ha hl
  go_enter Try.func47, Try.ntmps47
  go_wp2_with (first
    | (go_at_call 80; refine (get_some hT H.out).mono ?_; rintro e w' ⟨rfl, rfl⟩)
    | (go_at_call 81; refine (cloneA_any HR.out HL.out (attrCells_one _)).mono ?_; rintro e w' ⟨v, rfl, hr, hx⟩))
  go_ret
  exact ⟨_, rfl, hr, hx⟩
set_option maxRecDepth 100000 in
set_option maxHeartbeats 1000000 in
theorem Kids_none {w : World} {own : Ow} {ptr : Nat → Nat} {tb : Nat} {T : Tr} (hT : TreeAt w own ptr tb T) {id : Int} (h : T.get? id = none) :
    Calls Try.prog 49 #[.pointer (some ⟨tb, 0, none⟩), .int .i64 id] w (RVal (.slice none 0 0) w) := by
  have H := Lib.hid h
  clear h
  go_enter Try.func49, Try.ntmps49
  go_wp2_with (go_at_call 80; refine (get_none hT H.out).mono ?_; rintro e w' ⟨rfl, rfl⟩)
  go_ret
  exact ⟨rfl, Ext.refl _⟩
theorem ints_one (l : List Int) : ∀ u ∈ l.map (Value.int .i64), u.oneCell' = true := by
  intro u hu
  obtain ⟨x, _, rfl⟩ := List.mem_map.1 hu
  rfl
set_option maxRecDepth 100000 in
set_option maxHeartbeats 1000000 in
theorem Kids_some {w : World} {own : Ow} {ptr : Nat → Nat} {tb : Nat} {T : Tr} (hT : TreeAt w own ptr tb T) {id : Int} {nd : Nd} (h : T.get? id = some nd) (hl : nd.kids.length ≤ 60000) :
    Calls Try.prog 49 #[.pointer (some ⟨tb, 0, none⟩), .int .i64 id] w (RRow 3 1 nd.kids.length (nd.kids.map (Value.int .i64)) w) := by
  have H := Lib.hid h
  have hn := (Tr.get_lt h).2.2
  obtain ⟨av, kv, hb, _, _, ha⟩ := hT.node _ _ hn
  have hr := RowP.rd ha
  obtain ⟨aa, acap, rfl, _⟩ := hr.len_of
  have c := cellOf hb (i := 3) (v := .slice aa nd.kids.length acap) rfl
  have HR := Lib.hid hr
  have HL := Lib.hid hl
  clear h hb hn hr ha hl
  go_enter Try.func49, Try.ntmps49
  go_wp2_with (first
    | (go_at_call 80; refine (get_some hT H.out).mono ?_; rintro e w' ⟨rfl, rfl⟩)
    | (go_at_call 82; refine (cloneI_any HR.out HL.out (ints_one _)).mono ?_; rintro e w' ⟨v, rfl, hr, hx⟩))
  go_ret
  exact ⟨_, rfl, hr, hx⟩
set_option maxRecDepth 100000 in
set_option maxHeartbeats 1000000 in
theorem Index_root {w : World} {own : Ow} {ptr : Nat → Nat} {tb : Nat} {T : Tr} (hT : TreeAt w own ptr tb T) {id : Int} (h : T.get? id = none ∨ ∃ nd, T.get? id = some nd ∧ T.get? nd.parent = none) :
    Calls Try.prog 35 #[.pointer (some ⟨tb, 0, none⟩), .int .i64 id] w (RVal (.int .i64 (-1)) w) := by
  rcases h with h | ⟨nd, h, h2⟩
  · have H := Lib.hid h
    have H2 : Hid (T.get? (-1) = none) := Lib.hid (by rfl)
    clear h
    go_enter Try.func35, Try.ntmps35
    go_wp2_with (first
      | (go_at_call 34; refine (Parent_none hT H.out).mono ?_; rintro e w' ⟨rfl, rfl⟩)
      | (go_at_call 80; refine (get_none hT H2.out).mono ?_; rintro e w' ⟨rfl, rfl⟩))
    go_ret
    exact ⟨rfl, Ext.refl _⟩
  · have H := Lib.hid h
    have H2 := Lib.hid h2
    clear h h2
    go_enter Try.func35, Try.ntmps35
    go_wp2_with (first
      | (go_at_call 34; refine (Parent_some hT H.out).mono ?_; rintro e w' ⟨rfl, rfl⟩)
      | (go_at_call 80; refine (get_none hT H2.out).mono ?_; rintro e w' ⟨rfl, rfl⟩))
    go_ret
    exact ⟨rfl, Ext.refl _⟩
set_option maxRecDepth 100000 in
set_option maxHeartbeats 1000000 in
theorem Index_kid {w : World} {own : Ow} {ptr : Nat → Nat} {tb : Nat} {T : Tr} (hT : TreeAt w own ptr tb T) {id : Int} {nd pd : Nd} (h : T.get? id = some nd) (h2 : T.get? nd.parent = some pd) (hl : pd.kids.length ≤ 60000) :
    Calls Try.prog 35 #[.pointer (some ⟨tb, 0, none⟩), .int .i64 id] w (RVal (.int .i64 (posOf pd.kids id)) w) := by
  have hn := (Tr.get_lt h2).2.2
  obtain ⟨av, kv, hb, _, _, ha⟩ := hT.node _ _ hn
  have hr := RowP.rd ha
  obtain ⟨aa, acap, rfl, _⟩ := hr.len_of
  have c := cellOf hb (i := 3) (v := .slice aa pd.kids.length acap) rfl
  have HR := Lib.hid hr
  have HL := Lib.hid hl
  have H := Lib.hid h
  have H2 := Lib.hid h2
  clear h h2 hb hn hr ha hl
  go_enter Try.func35, Try.ntmps35
  go_wp2_with (first
    | (go_at_call 34; refine (Parent_some hT H.out).mono ?_; rintro e w' ⟨rfl, rfl⟩)
    | (go_at_call 80; refine (get_some hT H2.out).mono ?_; rintro e w' ⟨rfl, rfl⟩)
    | (go_at_call 85; refine (index_any HR.out HL.out _).mono ?_; rintro e w' ⟨rfl, rfl⟩))
  go_ret
  exact ⟨rfl, Ext.refl _⟩

set_option maxRecDepth 100000 in
set_option maxHeartbeats 1000000 in
theorem Insert_none {w : World} {own : Ow} {ptr : Nat → Nat} {tb : Nat} {T : Tr} (hT : TreeAt w own ptr tb T) {p at' k : Int} (h : T.get? p = none ∨ T.get? k = none) :
    Calls Try.prog 21 #[.pointer (some ⟨tb, 0, none⟩), .int .i64 p, .int .i64 at', .int .i64 k] w (RVal (.int .i64 2) w) := by
  cases hp : T.get? p with
  | none =>
    have H := Lib.hid hp
    clear h
    cases hk : T.get? k with
    | none =>
      have HK := Lib.hid hk
      clear hp hk
      go_enter Try.func21, Try.ntmps21
      go_wp2_with fail
      refine (get_none hT H.out).mono ?_
      rintro e w' ⟨rfl, rfl⟩
      go_wp2_with fail
      refine (get_none hT HK.out).mono ?_
      rintro e w' ⟨rfl, rfl⟩
      go_wp2_with fail
      go_ret
      exact ⟨rfl, Ext.refl _⟩
    | some kd =>
      have HK := Lib.hid hk
      clear hp hk
      go_enter Try.func21, Try.ntmps21
      go_wp2_with fail
      refine (get_none hT H.out).mono ?_
      rintro e w' ⟨rfl, rfl⟩
      go_wp2_with fail
      refine (get_some hT HK.out).mono ?_
      rintro e w' ⟨rfl, rfl⟩
      go_wp2_with fail
      go_ret
      exact ⟨rfl, Ext.refl _⟩
  | some pd =>
    have H := Lib.hid hp
    have hk : T.get? k = none := by rcases h with h | h; rw [h] at hp; cases hp; exact h
    have HK := Lib.hid hk
    clear h hp hk
    go_enter Try.func21, Try.ntmps21
    go_wp2_with fail
    refine (get_some hT H.out).mono ?_
    rintro e w' ⟨rfl, rfl⟩
    go_wp2_with fail
    refine (get_none hT HK.out).mono ?_
    rintro e w' ⟨rfl, rfl⟩
    go_wp2_with fail
    go_ret
    exact ⟨rfl, Ext.refl _⟩
set_option maxRecDepth 100000 in
set_option maxHeartbeats 1000000 in
theorem Insert_kind {w : World} {own : Ow} {ptr : Nat → Nat} {tb : Nat} {T : Tr} (hT : TreeAt w own ptr tb T) {p at' k : Int} {pd kd : Nd} (hp : T.get? p = some pd) (hk : T.get? k = some kd) (ht : (pd.tag == 0) = true) :
    Calls Try.prog 21 #[.pointer (some ⟨tb, 0, none⟩), .int .i64 p, .int .i64 at', .int .i64 k] w (RVal (.int .i64 6) w) := by
  obtain ⟨avp, kvp, bp, _, _, hkp⟩ := hT.node _ _ (Tr.get_lt hp).2.2
  have cp0 := cellOf bp (i := 0) (v := .int .i64 pd.tag) rfl
  have H := Lib.hid hp
  have HK := Lib.hid hk
  clear hp hk bp hkp
  go_enter Try.func21, Try.ntmps21
  go_wp2_with fail
  refine (get_some hT H.out).mono ?_
  rintro e w' ⟨rfl, rfl⟩
  go_wp2_with fail
  refine (get_some hT HK.out).mono ?_
  rintro e w' ⟨rfl, rfl⟩
  go_wp2_with fail
  go_ret
  exact ⟨rfl, Ext.refl _⟩
set_option maxRecDepth 100000 in
set_option maxHeartbeats 2000000 in
theorem Insert_arg {w : World} {own : Ow} {ptr : Nat → Nat} {tb : Nat} {T : Tr} (hT : TreeAt w own ptr tb T) {p at' k : Int} {pd kd : Nd} (hp : T.get? p = some pd) (hk : T.get? k = some kd) (ht : (pd.tag == 0) = false)
    (h : k = 0 ∨ 0 ≤ kd.parent ∨ at' < 0 ∨ (pd.kids.length : Int) < at') :
    Calls Try.prog 21 #[.pointer (some ⟨tb, 0, none⟩), .int .i64 p, .int .i64 at', .int .i64 k] w (RVal (.int .i64 1) w) := by
  obtain ⟨avp, kvp, bp, _, _, hkp⟩ := hT.node _ _ (Tr.get_lt hp).2.2
  obtain ⟨avk, kvk, bk, _, _, _⟩ := hT.node _ _ (Tr.get_lt hk).2.2
  obtain ⟨ka, kcap, rfl, kc1, kc2⟩ := hkp.len
  have cp0 := cellOf bp (i := 0) (v := .int .i64 pd.tag) rfl
  have cp3 := cellOf bp (i := 3) (v := .slice ka pd.kids.length kcap) rfl
  have ck4 := cellOf bk (i := 4) (v := .int .i64 kd.parent) rfl
  have H := Lib.hid hp
  have HK := Lib.hid hk
  clear hp hk bp bk hkp kc1 kc2
  by_cases h1 : k = 0
  · have b1 : (k == 0) = true := by simp [h1]
    have H1 := Lib.hid h1
    clear h h1
    go_enter Try.func21, Try.ntmps21
    go_wp2_with fail
    refine (get_some hT H.out).mono ?_
    rintro e w' ⟨rfl, rfl⟩
    go_wp2_with fail
    refine (get_some hT HK.out).mono ?_
    rintro e w' ⟨rfl, rfl⟩
    go_wp2_with fail
    go_ret
    exact ⟨rfl, Ext.refl _⟩
  · have b1 : (k == 0) = false := by simpa using h1
    have H1 := Lib.hid h1
    clear h1
    by_cases h2 : 0 ≤ kd.parent
    · clear h
      go_enter Try.func21, Try.ntmps21
      go_wp2_with fail
      refine (get_some hT H.out).mono ?_
      rintro e w' ⟨rfl, rfl⟩
      go_wp2_with fail
      refine (get_some hT HK.out).mono ?_
      rintro e w' ⟨rfl, rfl⟩
      go_wp2_with fail
      go_ret
      exact ⟨rfl, Ext.refl _⟩
    · by_cases h3 : at' < 0
      · clear h
        go_enter Try.func21, Try.ntmps21
        go_wp2_with fail
        refine (get_some hT H.out).mono ?_
        rintro e w' ⟨rfl, rfl⟩
        go_wp2_with fail
        refine (get_some hT HK.out).mono ?_
        rintro e w' ⟨rfl, rfl⟩
        go_wp2_with fail
        go_ret
        exact ⟨rfl, Ext.refl _⟩
      · have h4 : (pd.kids.length : Int) < at' := by
          have := H1.out
          rcases h with h | h | h | h
          · exact absurd h this
          · exact absurd h h2
          · exact absurd h h3
          · exact h
        clear h
        go_enter Try.func21, Try.ntmps21
        go_wp2_with fail
        refine (get_some hT H.out).mono ?_
        rintro e w' ⟨rfl, rfl⟩
        go_wp2_with fail
        refine (get_some hT HK.out).mono ?_
        rintro e w' ⟨rfl, rfl⟩
        go_wp2_with fail
        go_ret
        exact ⟨rfl, Ext.refl _⟩
set_option maxRecDepth 100000 in
set_option maxHeartbeats 2000000 in
theorem Insert_loop {w : World} {own : Ow} {ptr : Nat → Nat} {tb : Nat} {T : Tr} (hT : TreeAt w own ptr tb T) {d : Nat → Nat} (hw : WF T d) {p k at' : Nat} {pd kd : Nd} (hp : T.nodes[p]? = some (some pd)) (hk : T.nodes[k]? = some (some kd))
    (htag : (pd.tag == 0) = false) (hk0 : k ≠ 0) (hpar : kd.parent = -1) (hat : at' ≤ pd.kids.length) (hin : T.within p k = true) :
    Calls Try.prog 21 #[.pointer (some ⟨tb, 0, none⟩), .int .i64 p, .int .i64 at', .int .i64 k] w (RVal (.int .i64 5) w) := by
  obtain ⟨avp, kvp, bp, _, _, hkp⟩ := hT.node p pd hp
  obtain ⟨avk, kvk, bk, _, _, _⟩ := hT.node k kd hk
  obtain ⟨ka, kcap, rfl, kc1, kc2⟩ := hkp.len
  have cp0 := cellOf bp (i := 0) (v := .int .i64 pd.tag) rfl
  have cp3 := cellOf bp (i := 3) (v := .slice ka pd.kids.length kcap) rfl
  have ck4 := cellOf bk (i := 4) (v := .int .i64 (-1)) (by rw [← hpar]; rfl)
  have hkb : ((k : Int) == 0) = false := by simp; omega
  have HP := Lib.hid (Tr.get_of hp)
  have HK := Lib.hid (Tr.get_of hk)
  have HNP := Lib.hid hp
  have HW := Lib.hid hw
  have HT := Lib.hid hT
  have HIN := Lib.hid hin
  clear hp hk hw hT hin bp bk hkp hpar hk0 kc2
  go_enter Try.func21, Try.ntmps21
  go_wp2_with fail
  refine (get_some HT.out HP.out).mono ?_
  rintro e w' ⟨rfl, rfl⟩
  go_wp2_with fail
  refine (get_some HT.out HK.out).mono ?_
  rintro e w' ⟨rfl, rfl⟩
  go_wp2_with fail
  refine (within_any HT.out HW.out HNP.out (by omega)).mono ?_
  rintro e w' ⟨rfl, rfl⟩
  rw [HIN.out]
  go_wp2_with fail
  go_ret
  exact ⟨rfl, Ext.refl _⟩
end Go.Proofs.Ytiglflmjidikpaa

namespace Go.Proofs.Ytiglflmjidikpaa
open Go Go.RowKit Go.BigFrame
def laysIns_ren : Go.Shelf.Ren := ⟨fun | 21 => 84 | 27 => 122 | 28 => 123 | 35 => 136 | 39 => 118 | n => n, fun | 0 => 0 | 3 => 3 | 4 => 4 | 22 => 70 | n => n, fun | n => n⟩
theorem laysIns : Go.Proofs.Lays2.n21 Try.prog laysIns_ren := {
  mixed := by kernel_rfl
  f21 := Try.func84.trans (congrArg some (by kernel_rfl))
  f27 := Try.func122.trans (congrArg some (by kernel_rfl))
  f28 := Try.func123.trans (congrArg some (by kernel_rfl))
  f35 := Try.func136.trans (congrArg some (by kernel_rfl))
  f39 := Try.func118.trans (congrArg some (by kernel_rfl))
  t0 := Try.underlying0
  a0 := Try.isAgg0
  z0 := Try.sizeOf0
  v0 := Try.zeroValue0
  t3 := Try.underlying3
  a3 := Try.isAgg3
  z3 := Try.sizeOf3
  v3 := Try.zeroValue3
  t4 := Try.underlying4
  a4 := Try.isAgg4
  z4 := Try.sizeOf4
  v4 := Try.zeroValue4
  t22 := Try.underlying70
  a22 := Try.isAgg70
  z22 := Try.sizeOf70
  v22 := Try.zeroValue70
  i3 := by kernel_rfl }
def laysDel_ren : Go.Shelf.Ren := ⟨fun | 23 => 86 | n => n, fun | 0 => 0 | 3 => 3 | 4 => 4 | 22 => 70 | n => n, fun | n => n⟩
theorem laysDel : Go.Proofs.Lays2.n23 Try.prog laysDel_ren := {
  mixed := by kernel_rfl
  f23 := Try.func86.trans (congrArg some (by kernel_rfl))
  t0 := Try.underlying0
  a0 := Try.isAgg0
  z0 := Try.sizeOf0
  v0 := Try.zeroValue0
  t3 := Try.underlying3
  a3 := Try.isAgg3
  z3 := Try.sizeOf3
  v3 := Try.zeroValue3
  t4 := Try.underlying4
  a4 := Try.isAgg4
  z4 := Try.sizeOf4
  v4 := Try.zeroValue4
  t22 := Try.underlying70
  a22 := Try.isAgg70
  z22 := Try.sizeOf70
  v22 := Try.zeroValue70
  i3 := by kernel_rfl }
def laysRev_ren : Go.Shelf.Ren := ⟨fun | 112 => 118 | n => n, fun | 0 => 0 | 3 => 3 | 4 => 4 | 28 => 70 | n => n, fun | n => n⟩
theorem laysRev : Go.Proofs.Lays.n112 Try.prog laysRev_ren := {
  mixed := by kernel_rfl
  f112 := Try.func118.trans (congrArg some (by kernel_rfl))
  t0 := Try.underlying0
  a0 := Try.isAgg0
  z0 := Try.sizeOf0
  v0 := Try.zeroValue0
  t3 := Try.underlying3
  a3 := Try.isAgg3
  z3 := Try.sizeOf3
  v3 := Try.zeroValue3
  t4 := Try.underlying4
  a4 := Try.isAgg4
  z4 := Try.sizeOf4
  v4 := Try.zeroValue4
  t28 := Try.underlying70
  a28 := Try.isAgg70
  z28 := Try.sizeOf70
  v28 := Try.zeroValue70 }
end Go.Proofs.Ytiglflmjidikpaa
