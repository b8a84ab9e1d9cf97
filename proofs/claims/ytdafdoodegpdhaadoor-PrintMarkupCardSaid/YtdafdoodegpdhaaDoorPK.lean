/- Package print: String of whatever the printer holds; Outer, Inner: a node's markup, its inner markup. Conditions: at most 10^13 bytes. -/
import Derived.Test.YtdafdoodegpdhaaDoorPH
import Derived.Lib.UnsafeStr
namespace Go.Proofs.YtdafdoodegpdhaaDoor
open Go Go.RowKit Go.BigFrame
set_option linter.unusedVariables false
set_option linter.unusedSimpArgs false

theorem unsafeString_none (w : World) (p : Option Addr) : (Builtin.unsafeString_ #[87, 3] 9 #[.pointer p, .int .i64 0]).run Tryd.prog w = .ok (.string ⟨#[]⟩) w := Lib.run_unsafeString_none _ _ _ _ p
set_option maxHeartbeats 1000000 in
set_option maxRecDepth 100000 in
theorem String_nil (B b : Nat) (p : Value) (w : World) (hbk : w.heap[b]? = some (.cells #[p, .slice none 0 0] 48 (0, 0))) :
    Calls Tryd.prog 28 #[.pointer (some ⟨b, 0, none⟩)] w fun e w' => e = .returned (.string ⟨#[]⟩) ∧ Below B w w' := by
  have hUS := unsafeString_none
  have c1 : w.drew.cell? ⟨b, 1, none⟩ = some (.slice none 0 0) := by
    have : w.drew.heap[b]? = some (.cells #[p, .slice none 0 0] 48 (0, 0)) := hbk
    rw [Lib.cell_of_heap this]; rfl
  have hSD : (Builtin.unsafeSliceData_ #[30] 87 #[.slice none 0 0]).run Tryd.prog w.drew = .ok (.pointer none) w.drew := rfl
  have mixed : Tryd.prog.follows .mixedOrders = true := by kernel_rfl
  go_enter Tryd.func28, Tryd.ntmps28
  go_wp2
  go_region_o
  all_goals (go_wp2; go_ret; exact ⟨rfl, Below.drew (Below.refl B w)⟩)
set_option maxHeartbeats 1000000 in
set_option maxRecDepth 100000 in
theorem String_noroom (B b g : Nat) (p : Value) (cur : Array Value) (w : World) (hBw : B ≤ w.heap.size) (hbk : w.heap[b]? = some (.cells #[p, .slice (some ⟨g, 0, none⟩) 0 0] 48 (0, 0))) (fz : Nat × Nat) (hg : w.heap[g]? = some (.cells cur 5 fz)) :
    Calls Tryd.prog 28 #[.pointer (some ⟨b, 0, none⟩)] w fun e w' => e = .returned (.string ⟨#[]⟩) ∧ Below B w w' := by
  have hUS := unsafeString_none
  have hlt : b < w.heap.size := (Array.getElem?_eq_some_iff.1 hbk).1
  have c1 : w.drew.cell? ⟨b, 1, none⟩ = some (.slice (some ⟨g, 0, none⟩) 0 0) := by
    have : w.drew.heap[b]? = some (.cells #[p, .slice (some ⟨g, 0, none⟩) 0 0] 48 (0, 0)) := hbk
    rw [Lib.cell_of_heap this]; rfl
  have hSD : (Builtin.unsafeSliceData_ #[30] 87 #[.slice (some ⟨g, 0, none⟩) 0 0]).run Tryd.prog w.drew = .ok (.pointer (some ⟨w.drew.heap.size, 0, none⟩)) (w.drew.alloc (.view ⟨g, 0, none⟩ 5)) :=
    Lib.run_unsafeSliceData_zero w.drew _ _ 5 Tryd.underlying87 ⟨g, 0, none⟩ 0 (5, cur.size) (by have hg' : w.drew.heap[g]? = some (.cells cur 5 fz) := hg; simp [World.shape?, hg'])
  have c2 : (w.drew.alloc (.view ⟨g, 0, none⟩ 5)).cell? ⟨b, 1, none⟩ = some (.slice (some ⟨g, 0, none⟩) 0 0) := by
    have : (w.drew.alloc (.view ⟨g, 0, none⟩ 5)).heap[b]? = _ := (Lib.alloc_old w.drew _ b hlt).trans hbk
    rw [Lib.cell_of_heap this]; rfl
  have c3 : (w.alloc (.view ⟨g, 0, none⟩ 5)).drew.cell? ⟨b, 1, none⟩ = some (.slice (some ⟨g, 0, none⟩) 0 0) := c2
  have c0 : w.cell? ⟨b, 1, none⟩ = some (.slice (some ⟨g, 0, none⟩) 0 0) := c1
  have mixed : Tryd.prog.follows .mixedOrders = true := by kernel_rfl
  go_enter Tryd.func28, Tryd.ntmps28
  go_wp2
  go_region_o
  all_goals (go_wp2; go_ret; exact ⟨rfl, (Below.drew (Below.refl B w)).alloc hBw _⟩)
set_option maxHeartbeats 1000000 in
set_option maxRecDepth 100000 in
theorem String_room (B b g cap : Nat) (p : Value) (w : World) (hc0 : cap ≠ 0) (hbk : w.heap[b]? = some (.cells #[p, .slice (some ⟨g, 0, none⟩) 0 cap] 48 (0, 0))) :
    Calls Tryd.prog 28 #[.pointer (some ⟨b, 0, none⟩)] w fun e w' => e = .returned (.string ⟨#[]⟩) ∧ Below B w w' := by
  have hUS := unsafeString_none
  have c1 : w.drew.cell? ⟨b, 1, none⟩ = some (.slice (some ⟨g, 0, none⟩) 0 cap) := by
    have : w.drew.heap[b]? = some (.cells #[p, .slice (some ⟨g, 0, none⟩) 0 cap] 48 (0, 0)) := hbk
    rw [Lib.cell_of_heap this]; rfl
  have hSD : (Builtin.unsafeSliceData_ #[30] 87 #[.slice (some ⟨g, 0, none⟩) 0 cap]).run Tryd.prog w.drew = .ok (.pointer (some ⟨g, 0, none⟩)) w.drew :=
    Lib.run_unsafeSliceData_row _ _ _ _ _ _ hc0
  clear hc0
  have mixed : Tryd.prog.follows .mixedOrders = true := by kernel_rfl
  go_enter Tryd.func28, Tryd.ntmps28
  go_wp2
  go_region_o
  all_goals (go_wp2; go_ret; exact ⟨rfl, Below.drew (Below.refl B w)⟩)
theorem String_any (B b : Nat) (l : List UInt8) (w : World) (h : PrF B b (Lib.byteCells l) w) (hBw : B ≤ w.heap.size) :
    Calls Tryd.prog 28 #[.pointer (some ⟨b, 0, none⟩)] w fun e w' => e = .returned (.string ⟨l.toArray⟩) ∧ Below B w w' := by
  cases l with
  | cons x r => exact String_k B b (x :: r) w h (by simp)
  | nil =>
    obtain ⟨p, hA⟩ : ∃ p, PrA B b p [] w := by
      rcases h with h | h
      · exact ⟨_, h⟩
      · exact ⟨_, h⟩
    obtain ⟨hB, v, hbk, hown, hne⟩ := hA
    rcases hown.2 with ⟨rfl, _⟩ | ⟨g, cap, cur, fz, rfl, hbg, hg, _, _, _, _, _⟩
    · exact String_nil B b p w hbk
    · by_cases hc0 : cap = 0
      · subst hc0
        exact String_noroom B b g p cur w hBw hbk fz hg
      · exact String_room B b g cap p w hc0 hbk
theorem PrF.new (w : World) (B : Nat) (h : B ≤ w.heap.size) : PrF B w.heap.size (Lib.byteCells []) (w.alloc (.cells #[.pointer none, .slice none 0 0] 48)) :=
  .inl ⟨h, .slice none 0 0, heap_alloc_new w _, ⟨rfl, .inl ⟨rfl, rfl⟩⟩, by simp [Value.ownBlock]⟩
set_option maxHeartbeats 1000000 in
set_option maxRecDepth 100000 in
theorem Outer_any (w : World) (n : PN) (v : Value) (hr : RdN w n v) (hc : n.cost ≤ 100000000000000) : Calls Tryd.prog 11 #[v] w (RVal (.string ⟨n.outer.toArray⟩) w) := by
  obtain ⟨y1, y2, y3, y4, rfl⟩ := hr.shape
  have x1 := ((Ext.refl w).alloc (.cells #[.int .i64 n.tag, .slice y1 n.attrs.length y2, .string n.text, .slice y3 n.kids.length y4] 25))
  have bb := heap_alloc_new w (.cells #[.int .i64 n.tag, .slice y1 n.attrs.length y2, .string n.text, .slice y3 n.kids.length y4] 25)
  have HR := Lib.hid hr
  have hce : n.cost ≤ 100000000000000 := by rw [PN.cost_eq] at hc; first | (rw [PN.cost_eq]; omega) | omega
  clear hr hc
  go_enter Tryd.func11, Tryd.ntmps11
  go_upto_region 2 with fail
  obtain ⟨w1, hw1⟩ : ∃ w1 : World, w1 = w.alloc (.cells #[.int .i64 n.tag, .slice y1 n.attrs.length y2, .string n.text, .slice y3 n.kids.length y4] 25) := ⟨_, rfl⟩
  have hsz : w1.heap.size = w.heap.size + 1 := by rw [hw1]; simp
  rw [← hw1] at x1 bb ⊢
  clear hw1
  have p2 := PrF.new w1 w.heap.size x1.size
  have x2 := x1.alloc (.cells #[.pointer none, .slice none 0 0] 48)
  have b2 := ((Ext.refl w1).alloc (.cells #[.pointer none, .slice none 0 0] 48)).block bb
  rw [hsz] at p2
  obtain ⟨w2, hw2⟩ : ∃ w2 : World, w2 = w1.alloc (.cells #[.pointer none, .slice none 0 0] 48) := ⟨_, rfl⟩
  rw [← hw2] at p2 x2 b2 ⊢
  clear hw2 hsz bb x1
  have hcall := node_any w n (w.heap.size + 1) [] w2 _ HR.out x2 p2 (by simpa using hce)
  rw [List.nil_append] at hcall
  have HCALL := Lib.hid hcall
  have n0 := cellOf b2 (i := 0) (v := .int .i64 n.tag) rfl
  have n1 := cellOf b2 (i := 1) (v := .slice y1 n.attrs.length y2) rfl
  have n2 := cellOf b2 (i := 2) (v := .string n.text) rfl
  have n3 := cellOf b2 (i := 3) (v := .slice y3 n.kids.length y4) rfl
  have X2 := Lib.hid x2
  clear hcall p2 b2 x2 hce
  go_wp2_with fail
  refine HCALL.out.mono ?_
  rintro e w3 ⟨rfl, p3, b3, _⟩
  have X3 := Lib.hid (X2.out.trans' b3)
  clear n0 n1 n2 n3
  have HST := Lib.hid (String_any w.heap.size (w.heap.size + 1) n.outer w3 p3 X3.out.size)
  clear p3 b3
  go_wp2_with (go_at_call 28; refine HST.out.mono ?_)
  rintro e w4 ⟨rfl, b4⟩
  have X4 := Lib.hid (X3.out.trans' b4)
  clear b4
  go_wp2_with fail
  go_ret
  exact ⟨rfl, X4.out⟩
set_option maxHeartbeats 1000000 in
set_option maxRecDepth 100000 in
theorem Inner_any (w : World) (n : PN) (v : Value) (hr : RdN w n v) (hc : n.cost ≤ 100000000000000) : Calls Tryd.prog 13 #[v] w (RVal (.string ⟨n.inner.toArray⟩) w) := by
  obtain ⟨y1, y2, y3, y4, rfl⟩ := hr.shape
  have x1 := ((Ext.refl w).alloc (.cells #[.int .i64 n.tag, .slice y1 n.attrs.length y2, .string n.text, .slice y3 n.kids.length y4] 25))
  have bb := heap_alloc_new w (.cells #[.int .i64 n.tag, .slice y1 n.attrs.length y2, .string n.text, .slice y3 n.kids.length y4] 25)
  have HR := Lib.hid hr
  have hce : PN.costs n.kids ≤ 100000000000000 := by rw [PN.cost_eq] at hc; first | (rw [PN.cost_eq]; omega) | omega
  clear hr hc
  go_enter Tryd.func13, Tryd.ntmps13
  go_upto_region 2 with fail
  obtain ⟨w1, hw1⟩ : ∃ w1 : World, w1 = w.alloc (.cells #[.int .i64 n.tag, .slice y1 n.attrs.length y2, .string n.text, .slice y3 n.kids.length y4] 25) := ⟨_, rfl⟩
  have hsz : w1.heap.size = w.heap.size + 1 := by rw [hw1]; simp
  rw [← hw1] at x1 bb ⊢
  clear hw1
  have p2 := PrF.new w1 w.heap.size x1.size
  have x2 := x1.alloc (.cells #[.pointer none, .slice none 0 0] 48)
  have b2 := ((Ext.refl w1).alloc (.cells #[.pointer none, .slice none 0 0] 48)).block bb
  rw [hsz] at p2
  obtain ⟨w2, hw2⟩ : ∃ w2 : World, w2 = w1.alloc (.cells #[.pointer none, .slice none 0 0] 48) := ⟨_, rfl⟩
  rw [← hw2] at p2 x2 b2 ⊢
  clear hw2 hsz bb x1
  have hcall := inner_any w n (w.heap.size + 1) [] w2 _ HR.out x2 p2 (by simpa using hce)
  rw [List.nil_append] at hcall
  have HCALL := Lib.hid hcall
  have n0 := cellOf b2 (i := 0) (v := .int .i64 n.tag) rfl
  have n1 := cellOf b2 (i := 1) (v := .slice y1 n.attrs.length y2) rfl
  have n2 := cellOf b2 (i := 2) (v := .string n.text) rfl
  have n3 := cellOf b2 (i := 3) (v := .slice y3 n.kids.length y4) rfl
  have X2 := Lib.hid x2
  clear hcall p2 b2 x2 hce
  go_wp2_with fail
  refine HCALL.out.mono ?_
  rintro e w3 ⟨rfl, p3, b3, _⟩
  have X3 := Lib.hid (X2.out.trans' b3)
  clear n0 n1 n2 n3
  have HST := Lib.hid (String_any w.heap.size (w.heap.size + 1) n.inner w3 p3 X3.out.size)
  clear p3 b3
  go_wp2_with (go_at_call 28; refine HST.out.mono ?_)
  rintro e w4 ⟨rfl, b4⟩
  have X4 := Lib.hid (X3.out.trans' b4)
  clear b4
  go_wp2_with fail
  go_ret
  exact ⟨rfl, X4.out⟩
end Go.Proofs.YtdafdoodegpdhaaDoor
