/- Package tags: of, Class, Name at any number. No conditions. (Printed by wip/gen_pg.py.) -/
import Derived.Test.YtdafdoodegpdhaaDoorPT
namespace Go.Proofs.YtdafdoodegpdhaaDoor
open Go Go.RowKit Go.BigFrame
set_option linter.unusedVariables false
set_option linter.unusedSimpArgs false

/-- what is told of a tag -/
def OfIs (t : Int) (w : World) (e : Ending) (w' : World) : Prop := ∃ v, e = .returned (.agg #[v, .int .i64 (clsT t)]) ∧ Ext w w' ∧
  ((v = .slice none 0 0 ∧ nameT t = ⟨#[]⟩) ∨ ∃ g n : Nat, v = .slice (some ⟨g, 0, none⟩) n n ∧ 0 < n ∧ w'.cell? ⟨g, 0, none⟩ = some (.string (nameT t)))
theorem Has.cell0 {B : Nat} {l : List (Nat × Array Value)} {w : World} (h : Has B l w) {g : Nat} {cs : Array Value} (hm : (g, cs) ∈ l) {v : Value} (hv : cs[0]? = some v) : w.cell? ⟨g, 0, none⟩ = some v := cellOf (h _ hm).2 hv
theorem box_row {w : World} {b : Nat} {v u : Value} (h : w.heap[b]? = some (.cells #[.slice none 0 0, .int .i64 0] 99 (0, 0))) :
    ((w.setCell ⟨b, 0, none⟩ v).setCell ⟨b, 1, none⟩ u).heap[b]? = some (.cells #[v, u] 99 (0, 0)) := heap_setCell_same (heap_setCell_same h v) u
set_option maxHeartbeats 1000000 in
set_option maxRecDepth 100000 in
theorem of_0 (w : World) : Calls Tryd.prog 67 #[.int .i64 0] w (OfIs 0 w) := by
  have HX0 := (Ext.refl w).alloc (.cells #[.slice none 0 0, .int .i64 0] 99)
  have HB0 := heap_alloc_new w (.cells #[.slice none 0 0, .int .i64 0] 99)
  go_enter Tryd.func67, Tryd.ntmps67
  go_wp2_with fail
  obtain ⟨w1, hw1⟩ : ∃ w1 : World, w1 = w.alloc (.cells #[.slice none 0 0, .int .i64 0] 99) := ⟨_, rfl⟩
  have hsz : w.heap.size < w1.heap.size := by rw [hw1]; simp
  rw [← hw1] at HX0 HB0
  rw [← hw1]
  clear hw1
  refine (table_any _).mono ?_
  rintro e w2 ⟨B, g1, g2, g3, g4, g5, g6, g7, g8, g9, g10, g11, g12, g13, g14, g15, g16, rfl, HH, HX⟩
  have i0 : ∀ w : World, (Instr.index 114 (.agg #[.slice none 0 0, .int .i64 1, .slice (some ⟨g1, 0, none⟩) 1 1, .int .i64 2, .slice (some ⟨g2, 0, none⟩) 1 1, .int .i64 3, .slice (some ⟨g3, 0, none⟩) 1 1, .int .i64 3, .slice (some ⟨g4, 0, none⟩) 1 1, .int .i64 3, .slice (some ⟨g5, 0, none⟩) 1 1, .int .i64 3, .slice (some ⟨g6, 0, none⟩) 1 1, .int .i64 2, .slice (some ⟨g7, 0, none⟩) 1 1, .int .i64 2, .slice (some ⟨g8, 0, none⟩) 1 1, .int .i64 2, .slice (some ⟨g9, 0, none⟩) 1 1, .int .i64 3, .slice (some ⟨g10, 0, none⟩) 1 1, .int .i64 4, .slice (some ⟨g11, 0, none⟩) 2 2, .int .i64 4, .slice (some ⟨g12, 0, none⟩) 2 2, .int .i64 4, .slice (some ⟨g13, 0, none⟩) 2 2, .int .i64 4, .slice (some ⟨g14, 0, none⟩) 3 3, .int .i64 4, .slice (some ⟨g15, 0, none⟩) 1 1, .int .i64 4, .slice (some ⟨g16, 0, none⟩) 1 1, .int .i64 5]) (.int .i64 0)).run Tryd.prog w = .ok (.agg #[.slice none 0 0, .int .i64 1]) w := fun _ => by kernel_rfl
  have HB := HX.block HB0
  have c0 := cellOf HB (i := 0) (v := .slice none 0 0) rfl
  have c1 := cellOf HB (i := 1) (v := .int .i64 0) rfl
  have f0 := freeOf HB 0
  have f1 := freeOf HB 1
  have HSS := Lib.hid HH
  have HXX := Lib.hid (HX0.trans HX)
  have HR := Lib.hid (box_row (v := .slice none 0 0) (u := .int .i64 1) HB)
  have HZ := Lib.hid (show w.heap.size < w2.heap.size from Nat.lt_of_lt_of_le hsz HX.size)
  have C0 := Lib.hid c0
  clear HH HX HX0 HB HB0 hsz
  go_wp2
  have hlv := run_loadVar_row (P := Tryd.prog) _ w.heap.size 99 99 #[.slice none 0 0, .int .i64 1] (0, 0) _ HR.out Tryd.underlying99 rfl (by kernel_rfl)
  refine bodyPost_ret (v := .agg #[.slice none 0 0, .int .i64 1]) (by simp [results, Tryd.results67, asAddr, hlv]) rfl ?_
  have HE : ∀ {g : Nat} {s : ByteArray}, w2.cell? ⟨g, 0, none⟩ = some (.string s) → ((w2.setCell ⟨w.heap.size, 0, none⟩ (.slice none 0 0)).setCell ⟨w.heap.size, 1, none⟩ (.int .i64 1)).cell? ⟨g, 0, none⟩ = some (.string s) := fun {g s} h3 => by
    have hne : w.heap.size ≠ g := fun e => by rw [← e, C0.out] at h3; cases h3
    rw [World.cell?_setCell_far _ _ _ _ hne, World.cell?_setCell_far _ _ _ _ hne]; exact h3
  exact ⟨_, rfl, (HXX.out.setCell (p := ⟨w.heap.size, 0, none⟩) (Nat.le_refl _) _).setCell (p := ⟨w.heap.size, 1, none⟩) (Nat.le_refl _) _, .inl ⟨rfl, rfl⟩⟩
set_option maxHeartbeats 1000000 in
set_option maxRecDepth 100000 in
theorem of_1 (w : World) : Calls Tryd.prog 67 #[.int .i64 1] w (OfIs 1 w) := by
  have HX0 := (Ext.refl w).alloc (.cells #[.slice none 0 0, .int .i64 0] 99)
  have HB0 := heap_alloc_new w (.cells #[.slice none 0 0, .int .i64 0] 99)
  go_enter Tryd.func67, Tryd.ntmps67
  go_wp2_with fail
  obtain ⟨w1, hw1⟩ : ∃ w1 : World, w1 = w.alloc (.cells #[.slice none 0 0, .int .i64 0] 99) := ⟨_, rfl⟩
  have hsz : w.heap.size < w1.heap.size := by rw [hw1]; simp
  rw [← hw1] at HX0 HB0
  rw [← hw1]
  clear hw1
  refine (table_any _).mono ?_
  rintro e w2 ⟨B, g1, g2, g3, g4, g5, g6, g7, g8, g9, g10, g11, g12, g13, g14, g15, g16, rfl, HH, HX⟩
  have i0 : ∀ w : World, (Instr.index 114 (.agg #[.slice none 0 0, .int .i64 1, .slice (some ⟨g1, 0, none⟩) 1 1, .int .i64 2, .slice (some ⟨g2, 0, none⟩) 1 1, .int .i64 3, .slice (some ⟨g3, 0, none⟩) 1 1, .int .i64 3, .slice (some ⟨g4, 0, none⟩) 1 1, .int .i64 3, .slice (some ⟨g5, 0, none⟩) 1 1, .int .i64 3, .slice (some ⟨g6, 0, none⟩) 1 1, .int .i64 2, .slice (some ⟨g7, 0, none⟩) 1 1, .int .i64 2, .slice (some ⟨g8, 0, none⟩) 1 1, .int .i64 2, .slice (some ⟨g9, 0, none⟩) 1 1, .int .i64 3, .slice (some ⟨g10, 0, none⟩) 1 1, .int .i64 4, .slice (some ⟨g11, 0, none⟩) 2 2, .int .i64 4, .slice (some ⟨g12, 0, none⟩) 2 2, .int .i64 4, .slice (some ⟨g13, 0, none⟩) 2 2, .int .i64 4, .slice (some ⟨g14, 0, none⟩) 3 3, .int .i64 4, .slice (some ⟨g15, 0, none⟩) 1 1, .int .i64 4, .slice (some ⟨g16, 0, none⟩) 1 1, .int .i64 5]) (.int .i64 1)).run Tryd.prog w = .ok (.agg #[.slice (some ⟨g1, 0, none⟩) 1 1, .int .i64 2]) w := fun _ => by kernel_rfl
  have HB := HX.block HB0
  have c0 := cellOf HB (i := 0) (v := .slice none 0 0) rfl
  have c1 := cellOf HB (i := 1) (v := .int .i64 0) rfl
  have f0 := freeOf HB 0
  have f1 := freeOf HB 1
  have HSS := Lib.hid HH
  have HXX := Lib.hid (HX0.trans HX)
  have HR := Lib.hid (box_row (v := .slice (some ⟨g1, 0, none⟩) 1 1) (u := .int .i64 2) HB)
  have HZ := Lib.hid (show w.heap.size < w2.heap.size from Nat.lt_of_lt_of_le hsz HX.size)
  have C0 := Lib.hid c0
  clear HH HX HX0 HB HB0 hsz
  go_wp2
  have hlv := run_loadVar_row (P := Tryd.prog) _ w.heap.size 99 99 #[.slice (some ⟨g1, 0, none⟩) 1 1, .int .i64 2] (0, 0) _ HR.out Tryd.underlying99 rfl (by kernel_rfl)
  refine bodyPost_ret (v := .agg #[.slice (some ⟨g1, 0, none⟩) 1 1, .int .i64 2]) (by simp [results, Tryd.results67, asAddr, hlv]) rfl ?_
  have HE : ∀ {g : Nat} {s : ByteArray}, w2.cell? ⟨g, 0, none⟩ = some (.string s) → ((w2.setCell ⟨w.heap.size, 0, none⟩ (.slice (some ⟨g1, 0, none⟩) 1 1)).setCell ⟨w.heap.size, 1, none⟩ (.int .i64 2)).cell? ⟨g, 0, none⟩ = some (.string s) := fun {g s} h3 => by
    have hne : w.heap.size ≠ g := fun e => by rw [← e, C0.out] at h3; cases h3
    rw [World.cell?_setCell_far _ _ _ _ hne, World.cell?_setCell_far _ _ _ _ hne]; exact h3
  exact ⟨_, rfl, (HXX.out.setCell (p := ⟨w.heap.size, 0, none⟩) (Nat.le_refl _) _).setCell (p := ⟨w.heap.size, 1, none⟩) (Nat.le_refl _) _, .inr ⟨g1, 1, rfl, by decide, HE (HSS.out.cell0 (g := g1) (cs := #[.string ⟨#[100, 105, 118]⟩]) (by simp) rfl)⟩⟩
set_option maxHeartbeats 1000000 in
set_option maxRecDepth 100000 in
theorem of_2 (w : World) : Calls Tryd.prog 67 #[.int .i64 2] w (OfIs 2 w) := by
  have HX0 := (Ext.refl w).alloc (.cells #[.slice none 0 0, .int .i64 0] 99)
  have HB0 := heap_alloc_new w (.cells #[.slice none 0 0, .int .i64 0] 99)
  go_enter Tryd.func67, Tryd.ntmps67
  go_wp2_with fail
  obtain ⟨w1, hw1⟩ : ∃ w1 : World, w1 = w.alloc (.cells #[.slice none 0 0, .int .i64 0] 99) := ⟨_, rfl⟩
  have hsz : w.heap.size < w1.heap.size := by rw [hw1]; simp
  rw [← hw1] at HX0 HB0
  rw [← hw1]
  clear hw1
  refine (table_any _).mono ?_
  rintro e w2 ⟨B, g1, g2, g3, g4, g5, g6, g7, g8, g9, g10, g11, g12, g13, g14, g15, g16, rfl, HH, HX⟩
  have i0 : ∀ w : World, (Instr.index 114 (.agg #[.slice none 0 0, .int .i64 1, .slice (some ⟨g1, 0, none⟩) 1 1, .int .i64 2, .slice (some ⟨g2, 0, none⟩) 1 1, .int .i64 3, .slice (some ⟨g3, 0, none⟩) 1 1, .int .i64 3, .slice (some ⟨g4, 0, none⟩) 1 1, .int .i64 3, .slice (some ⟨g5, 0, none⟩) 1 1, .int .i64 3, .slice (some ⟨g6, 0, none⟩) 1 1, .int .i64 2, .slice (some ⟨g7, 0, none⟩) 1 1, .int .i64 2, .slice (some ⟨g8, 0, none⟩) 1 1, .int .i64 2, .slice (some ⟨g9, 0, none⟩) 1 1, .int .i64 3, .slice (some ⟨g10, 0, none⟩) 1 1, .int .i64 4, .slice (some ⟨g11, 0, none⟩) 2 2, .int .i64 4, .slice (some ⟨g12, 0, none⟩) 2 2, .int .i64 4, .slice (some ⟨g13, 0, none⟩) 2 2, .int .i64 4, .slice (some ⟨g14, 0, none⟩) 3 3, .int .i64 4, .slice (some ⟨g15, 0, none⟩) 1 1, .int .i64 4, .slice (some ⟨g16, 0, none⟩) 1 1, .int .i64 5]) (.int .i64 2)).run Tryd.prog w = .ok (.agg #[.slice (some ⟨g2, 0, none⟩) 1 1, .int .i64 3]) w := fun _ => by kernel_rfl
  have HB := HX.block HB0
  have c0 := cellOf HB (i := 0) (v := .slice none 0 0) rfl
  have c1 := cellOf HB (i := 1) (v := .int .i64 0) rfl
  have f0 := freeOf HB 0
  have f1 := freeOf HB 1
  have HSS := Lib.hid HH
  have HXX := Lib.hid (HX0.trans HX)
  have HR := Lib.hid (box_row (v := .slice (some ⟨g2, 0, none⟩) 1 1) (u := .int .i64 3) HB)
  have HZ := Lib.hid (show w.heap.size < w2.heap.size from Nat.lt_of_lt_of_le hsz HX.size)
  have C0 := Lib.hid c0
  clear HH HX HX0 HB HB0 hsz
  go_wp2
  have hlv := run_loadVar_row (P := Tryd.prog) _ w.heap.size 99 99 #[.slice (some ⟨g2, 0, none⟩) 1 1, .int .i64 3] (0, 0) _ HR.out Tryd.underlying99 rfl (by kernel_rfl)
  refine bodyPost_ret (v := .agg #[.slice (some ⟨g2, 0, none⟩) 1 1, .int .i64 3]) (by simp [results, Tryd.results67, asAddr, hlv]) rfl ?_
  have HE : ∀ {g : Nat} {s : ByteArray}, w2.cell? ⟨g, 0, none⟩ = some (.string s) → ((w2.setCell ⟨w.heap.size, 0, none⟩ (.slice (some ⟨g2, 0, none⟩) 1 1)).setCell ⟨w.heap.size, 1, none⟩ (.int .i64 3)).cell? ⟨g, 0, none⟩ = some (.string s) := fun {g s} h3 => by
    have hne : w.heap.size ≠ g := fun e => by rw [← e, C0.out] at h3; cases h3
    rw [World.cell?_setCell_far _ _ _ _ hne, World.cell?_setCell_far _ _ _ _ hne]; exact h3
  exact ⟨_, rfl, (HXX.out.setCell (p := ⟨w.heap.size, 0, none⟩) (Nat.le_refl _) _).setCell (p := ⟨w.heap.size, 1, none⟩) (Nat.le_refl _) _, .inr ⟨g2, 1, rfl, by decide, HE (HSS.out.cell0 (g := g2) (cs := #[.string ⟨#[112]⟩]) (by simp) rfl)⟩⟩
set_option maxHeartbeats 1000000 in
set_option maxRecDepth 100000 in
theorem of_3 (w : World) : Calls Tryd.prog 67 #[.int .i64 3] w (OfIs 3 w) := by
  have HX0 := (Ext.refl w).alloc (.cells #[.slice none 0 0, .int .i64 0] 99)
  have HB0 := heap_alloc_new w (.cells #[.slice none 0 0, .int .i64 0] 99)
  go_enter Tryd.func67, Tryd.ntmps67
  go_wp2_with fail
  obtain ⟨w1, hw1⟩ : ∃ w1 : World, w1 = w.alloc (.cells #[.slice none 0 0, .int .i64 0] 99) := ⟨_, rfl⟩
  have hsz : w.heap.size < w1.heap.size := by rw [hw1]; simp
  rw [← hw1] at HX0 HB0
  rw [← hw1]
  clear hw1
  refine (table_any _).mono ?_
  rintro e w2 ⟨B, g1, g2, g3, g4, g5, g6, g7, g8, g9, g10, g11, g12, g13, g14, g15, g16, rfl, HH, HX⟩
  have i0 : ∀ w : World, (Instr.index 114 (.agg #[.slice none 0 0, .int .i64 1, .slice (some ⟨g1, 0, none⟩) 1 1, .int .i64 2, .slice (some ⟨g2, 0, none⟩) 1 1, .int .i64 3, .slice (some ⟨g3, 0, none⟩) 1 1, .int .i64 3, .slice (some ⟨g4, 0, none⟩) 1 1, .int .i64 3, .slice (some ⟨g5, 0, none⟩) 1 1, .int .i64 3, .slice (some ⟨g6, 0, none⟩) 1 1, .int .i64 2, .slice (some ⟨g7, 0, none⟩) 1 1, .int .i64 2, .slice (some ⟨g8, 0, none⟩) 1 1, .int .i64 2, .slice (some ⟨g9, 0, none⟩) 1 1, .int .i64 3, .slice (some ⟨g10, 0, none⟩) 1 1, .int .i64 4, .slice (some ⟨g11, 0, none⟩) 2 2, .int .i64 4, .slice (some ⟨g12, 0, none⟩) 2 2, .int .i64 4, .slice (some ⟨g13, 0, none⟩) 2 2, .int .i64 4, .slice (some ⟨g14, 0, none⟩) 3 3, .int .i64 4, .slice (some ⟨g15, 0, none⟩) 1 1, .int .i64 4, .slice (some ⟨g16, 0, none⟩) 1 1, .int .i64 5]) (.int .i64 3)).run Tryd.prog w = .ok (.agg #[.slice (some ⟨g3, 0, none⟩) 1 1, .int .i64 3]) w := fun _ => by kernel_rfl
  have HB := HX.block HB0
  have c0 := cellOf HB (i := 0) (v := .slice none 0 0) rfl
  have c1 := cellOf HB (i := 1) (v := .int .i64 0) rfl
  have f0 := freeOf HB 0
  have f1 := freeOf HB 1
  have HSS := Lib.hid HH
  have HXX := Lib.hid (HX0.trans HX)
  have HR := Lib.hid (box_row (v := .slice (some ⟨g3, 0, none⟩) 1 1) (u := .int .i64 3) HB)
  have HZ := Lib.hid (show w.heap.size < w2.heap.size from Nat.lt_of_lt_of_le hsz HX.size)
  have C0 := Lib.hid c0
  clear HH HX HX0 HB HB0 hsz
  go_wp2
  have hlv := run_loadVar_row (P := Tryd.prog) _ w.heap.size 99 99 #[.slice (some ⟨g3, 0, none⟩) 1 1, .int .i64 3] (0, 0) _ HR.out Tryd.underlying99 rfl (by kernel_rfl)
  refine bodyPost_ret (v := .agg #[.slice (some ⟨g3, 0, none⟩) 1 1, .int .i64 3]) (by simp [results, Tryd.results67, asAddr, hlv]) rfl ?_
  have HE : ∀ {g : Nat} {s : ByteArray}, w2.cell? ⟨g, 0, none⟩ = some (.string s) → ((w2.setCell ⟨w.heap.size, 0, none⟩ (.slice (some ⟨g3, 0, none⟩) 1 1)).setCell ⟨w.heap.size, 1, none⟩ (.int .i64 3)).cell? ⟨g, 0, none⟩ = some (.string s) := fun {g s} h3 => by
    have hne : w.heap.size ≠ g := fun e => by rw [← e, C0.out] at h3; cases h3
    rw [World.cell?_setCell_far _ _ _ _ hne, World.cell?_setCell_far _ _ _ _ hne]; exact h3
  exact ⟨_, rfl, (HXX.out.setCell (p := ⟨w.heap.size, 0, none⟩) (Nat.le_refl _) _).setCell (p := ⟨w.heap.size, 1, none⟩) (Nat.le_refl _) _, .inr ⟨g3, 1, rfl, by decide, HE (HSS.out.cell0 (g := g3) (cs := #[.string ⟨#[104, 49]⟩]) (by simp) rfl)⟩⟩
set_option maxHeartbeats 1000000 in
set_option maxRecDepth 100000 in
theorem of_4 (w : World) : Calls Tryd.prog 67 #[.int .i64 4] w (OfIs 4 w) := by
  have HX0 := (Ext.refl w).alloc (.cells #[.slice none 0 0, .int .i64 0] 99)
  have HB0 := heap_alloc_new w (.cells #[.slice none 0 0, .int .i64 0] 99)
  go_enter Tryd.func67, Tryd.ntmps67
  go_wp2_with fail
  obtain ⟨w1, hw1⟩ : ∃ w1 : World, w1 = w.alloc (.cells #[.slice none 0 0, .int .i64 0] 99) := ⟨_, rfl⟩
  have hsz : w.heap.size < w1.heap.size := by rw [hw1]; simp
  rw [← hw1] at HX0 HB0
  rw [← hw1]
  clear hw1
  refine (table_any _).mono ?_
  rintro e w2 ⟨B, g1, g2, g3, g4, g5, g6, g7, g8, g9, g10, g11, g12, g13, g14, g15, g16, rfl, HH, HX⟩
  have i0 : ∀ w : World, (Instr.index 114 (.agg #[.slice none 0 0, .int .i64 1, .slice (some ⟨g1, 0, none⟩) 1 1, .int .i64 2, .slice (some ⟨g2, 0, none⟩) 1 1, .int .i64 3, .slice (some ⟨g3, 0, none⟩) 1 1, .int .i64 3, .slice (some ⟨g4, 0, none⟩) 1 1, .int .i64 3, .slice (some ⟨g5, 0, none⟩) 1 1, .int .i64 3, .slice (some ⟨g6, 0, none⟩) 1 1, .int .i64 2, .slice (some ⟨g7, 0, none⟩) 1 1, .int .i64 2, .slice (some ⟨g8, 0, none⟩) 1 1, .int .i64 2, .slice (some ⟨g9, 0, none⟩) 1 1, .int .i64 3, .slice (some ⟨g10, 0, none⟩) 1 1, .int .i64 4, .slice (some ⟨g11, 0, none⟩) 2 2, .int .i64 4, .slice (some ⟨g12, 0, none⟩) 2 2, .int .i64 4, .slice (some ⟨g13, 0, none⟩) 2 2, .int .i64 4, .slice (some ⟨g14, 0, none⟩) 3 3, .int .i64 4, .slice (some ⟨g15, 0, none⟩) 1 1, .int .i64 4, .slice (some ⟨g16, 0, none⟩) 1 1, .int .i64 5]) (.int .i64 4)).run Tryd.prog w = .ok (.agg #[.slice (some ⟨g4, 0, none⟩) 1 1, .int .i64 3]) w := fun _ => by kernel_rfl
  have HB := HX.block HB0
  have c0 := cellOf HB (i := 0) (v := .slice none 0 0) rfl
  have c1 := cellOf HB (i := 1) (v := .int .i64 0) rfl
  have f0 := freeOf HB 0
  have f1 := freeOf HB 1
  have HSS := Lib.hid HH
  have HXX := Lib.hid (HX0.trans HX)
  have HR := Lib.hid (box_row (v := .slice (some ⟨g4, 0, none⟩) 1 1) (u := .int .i64 3) HB)
  have HZ := Lib.hid (show w.heap.size < w2.heap.size from Nat.lt_of_lt_of_le hsz HX.size)
  have C0 := Lib.hid c0
  clear HH HX HX0 HB HB0 hsz
  go_wp2
  have hlv := run_loadVar_row (P := Tryd.prog) _ w.heap.size 99 99 #[.slice (some ⟨g4, 0, none⟩) 1 1, .int .i64 3] (0, 0) _ HR.out Tryd.underlying99 rfl (by kernel_rfl)
  refine bodyPost_ret (v := .agg #[.slice (some ⟨g4, 0, none⟩) 1 1, .int .i64 3]) (by simp [results, Tryd.results67, asAddr, hlv]) rfl ?_
  have HE : ∀ {g : Nat} {s : ByteArray}, w2.cell? ⟨g, 0, none⟩ = some (.string s) → ((w2.setCell ⟨w.heap.size, 0, none⟩ (.slice (some ⟨g4, 0, none⟩) 1 1)).setCell ⟨w.heap.size, 1, none⟩ (.int .i64 3)).cell? ⟨g, 0, none⟩ = some (.string s) := fun {g s} h3 => by
    have hne : w.heap.size ≠ g := fun e => by rw [← e, C0.out] at h3; cases h3
    rw [World.cell?_setCell_far _ _ _ _ hne, World.cell?_setCell_far _ _ _ _ hne]; exact h3
  exact ⟨_, rfl, (HXX.out.setCell (p := ⟨w.heap.size, 0, none⟩) (Nat.le_refl _) _).setCell (p := ⟨w.heap.size, 1, none⟩) (Nat.le_refl _) _, .inr ⟨g4, 1, rfl, by decide, HE (HSS.out.cell0 (g := g4) (cs := #[.string ⟨#[104, 50]⟩]) (by simp) rfl)⟩⟩
set_option maxHeartbeats 1000000 in
set_option maxRecDepth 100000 in
theorem of_5 (w : World) : Calls Tryd.prog 67 #[.int .i64 5] w (OfIs 5 w) := by
  have HX0 := (Ext.refl w).alloc (.cells #[.slice none 0 0, .int .i64 0] 99)
  have HB0 := heap_alloc_new w (.cells #[.slice none 0 0, .int .i64 0] 99)
  go_enter Tryd.func67, Tryd.ntmps67
  go_wp2_with fail
  obtain ⟨w1, hw1⟩ : ∃ w1 : World, w1 = w.alloc (.cells #[.slice none 0 0, .int .i64 0] 99) := ⟨_, rfl⟩
  have hsz : w.heap.size < w1.heap.size := by rw [hw1]; simp
  rw [← hw1] at HX0 HB0
  rw [← hw1]
  clear hw1
  refine (table_any _).mono ?_
  rintro e w2 ⟨B, g1, g2, g3, g4, g5, g6, g7, g8, g9, g10, g11, g12, g13, g14, g15, g16, rfl, HH, HX⟩
  have i0 : ∀ w : World, (Instr.index 114 (.agg #[.slice none 0 0, .int .i64 1, .slice (some ⟨g1, 0, none⟩) 1 1, .int .i64 2, .slice (some ⟨g2, 0, none⟩) 1 1, .int .i64 3, .slice (some ⟨g3, 0, none⟩) 1 1, .int .i64 3, .slice (some ⟨g4, 0, none⟩) 1 1, .int .i64 3, .slice (some ⟨g5, 0, none⟩) 1 1, .int .i64 3, .slice (some ⟨g6, 0, none⟩) 1 1, .int .i64 2, .slice (some ⟨g7, 0, none⟩) 1 1, .int .i64 2, .slice (some ⟨g8, 0, none⟩) 1 1, .int .i64 2, .slice (some ⟨g9, 0, none⟩) 1 1, .int .i64 3, .slice (some ⟨g10, 0, none⟩) 1 1, .int .i64 4, .slice (some ⟨g11, 0, none⟩) 2 2, .int .i64 4, .slice (some ⟨g12, 0, none⟩) 2 2, .int .i64 4, .slice (some ⟨g13, 0, none⟩) 2 2, .int .i64 4, .slice (some ⟨g14, 0, none⟩) 3 3, .int .i64 4, .slice (some ⟨g15, 0, none⟩) 1 1, .int .i64 4, .slice (some ⟨g16, 0, none⟩) 1 1, .int .i64 5]) (.int .i64 5)).run Tryd.prog w = .ok (.agg #[.slice (some ⟨g5, 0, none⟩) 1 1, .int .i64 3]) w := fun _ => by kernel_rfl
  have HB := HX.block HB0
  have c0 := cellOf HB (i := 0) (v := .slice none 0 0) rfl
  have c1 := cellOf HB (i := 1) (v := .int .i64 0) rfl
  have f0 := freeOf HB 0
  have f1 := freeOf HB 1
  have HSS := Lib.hid HH
  have HXX := Lib.hid (HX0.trans HX)
  have HR := Lib.hid (box_row (v := .slice (some ⟨g5, 0, none⟩) 1 1) (u := .int .i64 3) HB)
  have HZ := Lib.hid (show w.heap.size < w2.heap.size from Nat.lt_of_lt_of_le hsz HX.size)
  have C0 := Lib.hid c0
  clear HH HX HX0 HB HB0 hsz
  go_wp2
  have hlv := run_loadVar_row (P := Tryd.prog) _ w.heap.size 99 99 #[.slice (some ⟨g5, 0, none⟩) 1 1, .int .i64 3] (0, 0) _ HR.out Tryd.underlying99 rfl (by kernel_rfl)
  refine bodyPost_ret (v := .agg #[.slice (some ⟨g5, 0, none⟩) 1 1, .int .i64 3]) (by simp [results, Tryd.results67, asAddr, hlv]) rfl ?_
  have HE : ∀ {g : Nat} {s : ByteArray}, w2.cell? ⟨g, 0, none⟩ = some (.string s) → ((w2.setCell ⟨w.heap.size, 0, none⟩ (.slice (some ⟨g5, 0, none⟩) 1 1)).setCell ⟨w.heap.size, 1, none⟩ (.int .i64 3)).cell? ⟨g, 0, none⟩ = some (.string s) := fun {g s} h3 => by
    have hne : w.heap.size ≠ g := fun e => by rw [← e, C0.out] at h3; cases h3
    rw [World.cell?_setCell_far _ _ _ _ hne, World.cell?_setCell_far _ _ _ _ hne]; exact h3
  exact ⟨_, rfl, (HXX.out.setCell (p := ⟨w.heap.size, 0, none⟩) (Nat.le_refl _) _).setCell (p := ⟨w.heap.size, 1, none⟩) (Nat.le_refl _) _, .inr ⟨g5, 1, rfl, by decide, HE (HSS.out.cell0 (g := g5) (cs := #[.string ⟨#[104, 51]⟩]) (by simp) rfl)⟩⟩
set_option maxHeartbeats 1000000 in
set_option maxRecDepth 100000 in
theorem of_6 (w : World) : Calls Tryd.prog 67 #[.int .i64 6] w (OfIs 6 w) := by
  have HX0 := (Ext.refl w).alloc (.cells #[.slice none 0 0, .int .i64 0] 99)
  have HB0 := heap_alloc_new w (.cells #[.slice none 0 0, .int .i64 0] 99)
  go_enter Tryd.func67, Tryd.ntmps67
  go_wp2_with fail
  obtain ⟨w1, hw1⟩ : ∃ w1 : World, w1 = w.alloc (.cells #[.slice none 0 0, .int .i64 0] 99) := ⟨_, rfl⟩
  have hsz : w.heap.size < w1.heap.size := by rw [hw1]; simp
  rw [← hw1] at HX0 HB0
  rw [← hw1]
  clear hw1
  refine (table_any _).mono ?_
  rintro e w2 ⟨B, g1, g2, g3, g4, g5, g6, g7, g8, g9, g10, g11, g12, g13, g14, g15, g16, rfl, HH, HX⟩
  have i0 : ∀ w : World, (Instr.index 114 (.agg #[.slice none 0 0, .int .i64 1, .slice (some ⟨g1, 0, none⟩) 1 1, .int .i64 2, .slice (some ⟨g2, 0, none⟩) 1 1, .int .i64 3, .slice (some ⟨g3, 0, none⟩) 1 1, .int .i64 3, .slice (some ⟨g4, 0, none⟩) 1 1, .int .i64 3, .slice (some ⟨g5, 0, none⟩) 1 1, .int .i64 3, .slice (some ⟨g6, 0, none⟩) 1 1, .int .i64 2, .slice (some ⟨g7, 0, none⟩) 1 1, .int .i64 2, .slice (some ⟨g8, 0, none⟩) 1 1, .int .i64 2, .slice (some ⟨g9, 0, none⟩) 1 1, .int .i64 3, .slice (some ⟨g10, 0, none⟩) 1 1, .int .i64 4, .slice (some ⟨g11, 0, none⟩) 2 2, .int .i64 4, .slice (some ⟨g12, 0, none⟩) 2 2, .int .i64 4, .slice (some ⟨g13, 0, none⟩) 2 2, .int .i64 4, .slice (some ⟨g14, 0, none⟩) 3 3, .int .i64 4, .slice (some ⟨g15, 0, none⟩) 1 1, .int .i64 4, .slice (some ⟨g16, 0, none⟩) 1 1, .int .i64 5]) (.int .i64 6)).run Tryd.prog w = .ok (.agg #[.slice (some ⟨g6, 0, none⟩) 1 1, .int .i64 2]) w := fun _ => by kernel_rfl
  have HB := HX.block HB0
  have c0 := cellOf HB (i := 0) (v := .slice none 0 0) rfl
  have c1 := cellOf HB (i := 1) (v := .int .i64 0) rfl
  have f0 := freeOf HB 0
  have f1 := freeOf HB 1
  have HSS := Lib.hid HH
  have HXX := Lib.hid (HX0.trans HX)
  have HR := Lib.hid (box_row (v := .slice (some ⟨g6, 0, none⟩) 1 1) (u := .int .i64 2) HB)
  have HZ := Lib.hid (show w.heap.size < w2.heap.size from Nat.lt_of_lt_of_le hsz HX.size)
  have C0 := Lib.hid c0
  clear HH HX HX0 HB HB0 hsz
  go_wp2
  have hlv := run_loadVar_row (P := Tryd.prog) _ w.heap.size 99 99 #[.slice (some ⟨g6, 0, none⟩) 1 1, .int .i64 2] (0, 0) _ HR.out Tryd.underlying99 rfl (by kernel_rfl)
  refine bodyPost_ret (v := .agg #[.slice (some ⟨g6, 0, none⟩) 1 1, .int .i64 2]) (by simp [results, Tryd.results67, asAddr, hlv]) rfl ?_
  have HE : ∀ {g : Nat} {s : ByteArray}, w2.cell? ⟨g, 0, none⟩ = some (.string s) → ((w2.setCell ⟨w.heap.size, 0, none⟩ (.slice (some ⟨g6, 0, none⟩) 1 1)).setCell ⟨w.heap.size, 1, none⟩ (.int .i64 2)).cell? ⟨g, 0, none⟩ = some (.string s) := fun {g s} h3 => by
    have hne : w.heap.size ≠ g := fun e => by rw [← e, C0.out] at h3; cases h3
    rw [World.cell?_setCell_far _ _ _ _ hne, World.cell?_setCell_far _ _ _ _ hne]; exact h3
  exact ⟨_, rfl, (HXX.out.setCell (p := ⟨w.heap.size, 0, none⟩) (Nat.le_refl _) _).setCell (p := ⟨w.heap.size, 1, none⟩) (Nat.le_refl _) _, .inr ⟨g6, 1, rfl, by decide, HE (HSS.out.cell0 (g := g6) (cs := #[.string ⟨#[98, 108, 111, 99, 107, 113, 117, 111, 116, 101]⟩]) (by simp) rfl)⟩⟩
set_option maxHeartbeats 1000000 in
set_option maxRecDepth 100000 in
theorem of_7 (w : World) : Calls Tryd.prog 67 #[.int .i64 7] w (OfIs 7 w) := by
  have HX0 := (Ext.refl w).alloc (.cells #[.slice none 0 0, .int .i64 0] 99)
  have HB0 := heap_alloc_new w (.cells #[.slice none 0 0, .int .i64 0] 99)
  go_enter Tryd.func67, Tryd.ntmps67
  go_wp2_with fail
  obtain ⟨w1, hw1⟩ : ∃ w1 : World, w1 = w.alloc (.cells #[.slice none 0 0, .int .i64 0] 99) := ⟨_, rfl⟩
  have hsz : w.heap.size < w1.heap.size := by rw [hw1]; simp
  rw [← hw1] at HX0 HB0
  rw [← hw1]
  clear hw1
  refine (table_any _).mono ?_
  rintro e w2 ⟨B, g1, g2, g3, g4, g5, g6, g7, g8, g9, g10, g11, g12, g13, g14, g15, g16, rfl, HH, HX⟩
  have i0 : ∀ w : World, (Instr.index 114 (.agg #[.slice none 0 0, .int .i64 1, .slice (some ⟨g1, 0, none⟩) 1 1, .int .i64 2, .slice (some ⟨g2, 0, none⟩) 1 1, .int .i64 3, .slice (some ⟨g3, 0, none⟩) 1 1, .int .i64 3, .slice (some ⟨g4, 0, none⟩) 1 1, .int .i64 3, .slice (some ⟨g5, 0, none⟩) 1 1, .int .i64 3, .slice (some ⟨g6, 0, none⟩) 1 1, .int .i64 2, .slice (some ⟨g7, 0, none⟩) 1 1, .int .i64 2, .slice (some ⟨g8, 0, none⟩) 1 1, .int .i64 2, .slice (some ⟨g9, 0, none⟩) 1 1, .int .i64 3, .slice (some ⟨g10, 0, none⟩) 1 1, .int .i64 4, .slice (some ⟨g11, 0, none⟩) 2 2, .int .i64 4, .slice (some ⟨g12, 0, none⟩) 2 2, .int .i64 4, .slice (some ⟨g13, 0, none⟩) 2 2, .int .i64 4, .slice (some ⟨g14, 0, none⟩) 3 3, .int .i64 4, .slice (some ⟨g15, 0, none⟩) 1 1, .int .i64 4, .slice (some ⟨g16, 0, none⟩) 1 1, .int .i64 5]) (.int .i64 7)).run Tryd.prog w = .ok (.agg #[.slice (some ⟨g7, 0, none⟩) 1 1, .int .i64 2]) w := fun _ => by kernel_rfl
  have HB := HX.block HB0
  have c0 := cellOf HB (i := 0) (v := .slice none 0 0) rfl
  have c1 := cellOf HB (i := 1) (v := .int .i64 0) rfl
  have f0 := freeOf HB 0
  have f1 := freeOf HB 1
  have HSS := Lib.hid HH
  have HXX := Lib.hid (HX0.trans HX)
  have HR := Lib.hid (box_row (v := .slice (some ⟨g7, 0, none⟩) 1 1) (u := .int .i64 2) HB)
  have HZ := Lib.hid (show w.heap.size < w2.heap.size from Nat.lt_of_lt_of_le hsz HX.size)
  have C0 := Lib.hid c0
  clear HH HX HX0 HB HB0 hsz
  go_wp2
  have hlv := run_loadVar_row (P := Tryd.prog) _ w.heap.size 99 99 #[.slice (some ⟨g7, 0, none⟩) 1 1, .int .i64 2] (0, 0) _ HR.out Tryd.underlying99 rfl (by kernel_rfl)
  refine bodyPost_ret (v := .agg #[.slice (some ⟨g7, 0, none⟩) 1 1, .int .i64 2]) (by simp [results, Tryd.results67, asAddr, hlv]) rfl ?_
  have HE : ∀ {g : Nat} {s : ByteArray}, w2.cell? ⟨g, 0, none⟩ = some (.string s) → ((w2.setCell ⟨w.heap.size, 0, none⟩ (.slice (some ⟨g7, 0, none⟩) 1 1)).setCell ⟨w.heap.size, 1, none⟩ (.int .i64 2)).cell? ⟨g, 0, none⟩ = some (.string s) := fun {g s} h3 => by
    have hne : w.heap.size ≠ g := fun e => by rw [← e, C0.out] at h3; cases h3
    rw [World.cell?_setCell_far _ _ _ _ hne, World.cell?_setCell_far _ _ _ _ hne]; exact h3
  exact ⟨_, rfl, (HXX.out.setCell (p := ⟨w.heap.size, 0, none⟩) (Nat.le_refl _) _).setCell (p := ⟨w.heap.size, 1, none⟩) (Nat.le_refl _) _, .inr ⟨g7, 1, rfl, by decide, HE (HSS.out.cell0 (g := g7) (cs := #[.string ⟨#[117, 108]⟩]) (by simp) rfl)⟩⟩
set_option maxHeartbeats 1000000 in
set_option maxRecDepth 100000 in
theorem of_8 (w : World) : Calls Tryd.prog 67 #[.int .i64 8] w (OfIs 8 w) := by
  have HX0 := (Ext.refl w).alloc (.cells #[.slice none 0 0, .int .i64 0] 99)
  have HB0 := heap_alloc_new w (.cells #[.slice none 0 0, .int .i64 0] 99)
  go_enter Tryd.func67, Tryd.ntmps67
  go_wp2_with fail
  obtain ⟨w1, hw1⟩ : ∃ w1 : World, w1 = w.alloc (.cells #[.slice none 0 0, .int .i64 0] 99) := ⟨_, rfl⟩
  have hsz : w.heap.size < w1.heap.size := by rw [hw1]; simp
  rw [← hw1] at HX0 HB0
  rw [← hw1]
  clear hw1
  refine (table_any _).mono ?_
  rintro e w2 ⟨B, g1, g2, g3, g4, g5, g6, g7, g8, g9, g10, g11, g12, g13, g14, g15, g16, rfl, HH, HX⟩
  have i0 : ∀ w : World, (Instr.index 114 (.agg #[.slice none 0 0, .int .i64 1, .slice (some ⟨g1, 0, none⟩) 1 1, .int .i64 2, .slice (some ⟨g2, 0, none⟩) 1 1, .int .i64 3, .slice (some ⟨g3, 0, none⟩) 1 1, .int .i64 3, .slice (some ⟨g4, 0, none⟩) 1 1, .int .i64 3, .slice (some ⟨g5, 0, none⟩) 1 1, .int .i64 3, .slice (some ⟨g6, 0, none⟩) 1 1, .int .i64 2, .slice (some ⟨g7, 0, none⟩) 1 1, .int .i64 2, .slice (some ⟨g8, 0, none⟩) 1 1, .int .i64 2, .slice (some ⟨g9, 0, none⟩) 1 1, .int .i64 3, .slice (some ⟨g10, 0, none⟩) 1 1, .int .i64 4, .slice (some ⟨g11, 0, none⟩) 2 2, .int .i64 4, .slice (some ⟨g12, 0, none⟩) 2 2, .int .i64 4, .slice (some ⟨g13, 0, none⟩) 2 2, .int .i64 4, .slice (some ⟨g14, 0, none⟩) 3 3, .int .i64 4, .slice (some ⟨g15, 0, none⟩) 1 1, .int .i64 4, .slice (some ⟨g16, 0, none⟩) 1 1, .int .i64 5]) (.int .i64 8)).run Tryd.prog w = .ok (.agg #[.slice (some ⟨g8, 0, none⟩) 1 1, .int .i64 2]) w := fun _ => by kernel_rfl
  have HB := HX.block HB0
  have c0 := cellOf HB (i := 0) (v := .slice none 0 0) rfl
  have c1 := cellOf HB (i := 1) (v := .int .i64 0) rfl
  have f0 := freeOf HB 0
  have f1 := freeOf HB 1
  have HSS := Lib.hid HH
  have HXX := Lib.hid (HX0.trans HX)
  have HR := Lib.hid (box_row (v := .slice (some ⟨g8, 0, none⟩) 1 1) (u := .int .i64 2) HB)
  have HZ := Lib.hid (show w.heap.size < w2.heap.size from Nat.lt_of_lt_of_le hsz HX.size)
  have C0 := Lib.hid c0
  clear HH HX HX0 HB HB0 hsz
  go_wp2
  have hlv := run_loadVar_row (P := Tryd.prog) _ w.heap.size 99 99 #[.slice (some ⟨g8, 0, none⟩) 1 1, .int .i64 2] (0, 0) _ HR.out Tryd.underlying99 rfl (by kernel_rfl)
  refine bodyPost_ret (v := .agg #[.slice (some ⟨g8, 0, none⟩) 1 1, .int .i64 2]) (by simp [results, Tryd.results67, asAddr, hlv]) rfl ?_
  have HE : ∀ {g : Nat} {s : ByteArray}, w2.cell? ⟨g, 0, none⟩ = some (.string s) → ((w2.setCell ⟨w.heap.size, 0, none⟩ (.slice (some ⟨g8, 0, none⟩) 1 1)).setCell ⟨w.heap.size, 1, none⟩ (.int .i64 2)).cell? ⟨g, 0, none⟩ = some (.string s) := fun {g s} h3 => by
    have hne : w.heap.size ≠ g := fun e => by rw [← e, C0.out] at h3; cases h3
    rw [World.cell?_setCell_far _ _ _ _ hne, World.cell?_setCell_far _ _ _ _ hne]; exact h3
  exact ⟨_, rfl, (HXX.out.setCell (p := ⟨w.heap.size, 0, none⟩) (Nat.le_refl _) _).setCell (p := ⟨w.heap.size, 1, none⟩) (Nat.le_refl _) _, .inr ⟨g8, 1, rfl, by decide, HE (HSS.out.cell0 (g := g8) (cs := #[.string ⟨#[111, 108]⟩]) (by simp) rfl)⟩⟩
set_option maxHeartbeats 1000000 in
set_option maxRecDepth 100000 in
theorem of_9 (w : World) : Calls Tryd.prog 67 #[.int .i64 9] w (OfIs 9 w) := by
  have HX0 := (Ext.refl w).alloc (.cells #[.slice none 0 0, .int .i64 0] 99)
  have HB0 := heap_alloc_new w (.cells #[.slice none 0 0, .int .i64 0] 99)
  go_enter Tryd.func67, Tryd.ntmps67
  go_wp2_with fail
  obtain ⟨w1, hw1⟩ : ∃ w1 : World, w1 = w.alloc (.cells #[.slice none 0 0, .int .i64 0] 99) := ⟨_, rfl⟩
  have hsz : w.heap.size < w1.heap.size := by rw [hw1]; simp
  rw [← hw1] at HX0 HB0
  rw [← hw1]
  clear hw1
  refine (table_any _).mono ?_
  rintro e w2 ⟨B, g1, g2, g3, g4, g5, g6, g7, g8, g9, g10, g11, g12, g13, g14, g15, g16, rfl, HH, HX⟩
  have i0 : ∀ w : World, (Instr.index 114 (.agg #[.slice none 0 0, .int .i64 1, .slice (some ⟨g1, 0, none⟩) 1 1, .int .i64 2, .slice (some ⟨g2, 0, none⟩) 1 1, .int .i64 3, .slice (some ⟨g3, 0, none⟩) 1 1, .int .i64 3, .slice (some ⟨g4, 0, none⟩) 1 1, .int .i64 3, .slice (some ⟨g5, 0, none⟩) 1 1, .int .i64 3, .slice (some ⟨g6, 0, none⟩) 1 1, .int .i64 2, .slice (some ⟨g7, 0, none⟩) 1 1, .int .i64 2, .slice (some ⟨g8, 0, none⟩) 1 1, .int .i64 2, .slice (some ⟨g9, 0, none⟩) 1 1, .int .i64 3, .slice (some ⟨g10, 0, none⟩) 1 1, .int .i64 4, .slice (some ⟨g11, 0, none⟩) 2 2, .int .i64 4, .slice (some ⟨g12, 0, none⟩) 2 2, .int .i64 4, .slice (some ⟨g13, 0, none⟩) 2 2, .int .i64 4, .slice (some ⟨g14, 0, none⟩) 3 3, .int .i64 4, .slice (some ⟨g15, 0, none⟩) 1 1, .int .i64 4, .slice (some ⟨g16, 0, none⟩) 1 1, .int .i64 5]) (.int .i64 9)).run Tryd.prog w = .ok (.agg #[.slice (some ⟨g9, 0, none⟩) 1 1, .int .i64 3]) w := fun _ => by kernel_rfl
  have HB := HX.block HB0
  have c0 := cellOf HB (i := 0) (v := .slice none 0 0) rfl
  have c1 := cellOf HB (i := 1) (v := .int .i64 0) rfl
  have f0 := freeOf HB 0
  have f1 := freeOf HB 1
  have HSS := Lib.hid HH
  have HXX := Lib.hid (HX0.trans HX)
  have HR := Lib.hid (box_row (v := .slice (some ⟨g9, 0, none⟩) 1 1) (u := .int .i64 3) HB)
  have HZ := Lib.hid (show w.heap.size < w2.heap.size from Nat.lt_of_lt_of_le hsz HX.size)
  have C0 := Lib.hid c0
  clear HH HX HX0 HB HB0 hsz
  go_wp2
  have hlv := run_loadVar_row (P := Tryd.prog) _ w.heap.size 99 99 #[.slice (some ⟨g9, 0, none⟩) 1 1, .int .i64 3] (0, 0) _ HR.out Tryd.underlying99 rfl (by kernel_rfl)
  refine bodyPost_ret (v := .agg #[.slice (some ⟨g9, 0, none⟩) 1 1, .int .i64 3]) (by simp [results, Tryd.results67, asAddr, hlv]) rfl ?_
  have HE : ∀ {g : Nat} {s : ByteArray}, w2.cell? ⟨g, 0, none⟩ = some (.string s) → ((w2.setCell ⟨w.heap.size, 0, none⟩ (.slice (some ⟨g9, 0, none⟩) 1 1)).setCell ⟨w.heap.size, 1, none⟩ (.int .i64 3)).cell? ⟨g, 0, none⟩ = some (.string s) := fun {g s} h3 => by
    have hne : w.heap.size ≠ g := fun e => by rw [← e, C0.out] at h3; cases h3
    rw [World.cell?_setCell_far _ _ _ _ hne, World.cell?_setCell_far _ _ _ _ hne]; exact h3
  exact ⟨_, rfl, (HXX.out.setCell (p := ⟨w.heap.size, 0, none⟩) (Nat.le_refl _) _).setCell (p := ⟨w.heap.size, 1, none⟩) (Nat.le_refl _) _, .inr ⟨g9, 1, rfl, by decide, HE (HSS.out.cell0 (g := g9) (cs := #[.string ⟨#[108, 105]⟩]) (by simp) rfl)⟩⟩
set_option maxHeartbeats 1000000 in
set_option maxRecDepth 100000 in
theorem of_10 (w : World) : Calls Tryd.prog 67 #[.int .i64 10] w (OfIs 10 w) := by
  have HX0 := (Ext.refl w).alloc (.cells #[.slice none 0 0, .int .i64 0] 99)
  have HB0 := heap_alloc_new w (.cells #[.slice none 0 0, .int .i64 0] 99)
  go_enter Tryd.func67, Tryd.ntmps67
  go_wp2_with fail
  obtain ⟨w1, hw1⟩ : ∃ w1 : World, w1 = w.alloc (.cells #[.slice none 0 0, .int .i64 0] 99) := ⟨_, rfl⟩
  have hsz : w.heap.size < w1.heap.size := by rw [hw1]; simp
  rw [← hw1] at HX0 HB0
  rw [← hw1]
  clear hw1
  refine (table_any _).mono ?_
  rintro e w2 ⟨B, g1, g2, g3, g4, g5, g6, g7, g8, g9, g10, g11, g12, g13, g14, g15, g16, rfl, HH, HX⟩
  have i0 : ∀ w : World, (Instr.index 114 (.agg #[.slice none 0 0, .int .i64 1, .slice (some ⟨g1, 0, none⟩) 1 1, .int .i64 2, .slice (some ⟨g2, 0, none⟩) 1 1, .int .i64 3, .slice (some ⟨g3, 0, none⟩) 1 1, .int .i64 3, .slice (some ⟨g4, 0, none⟩) 1 1, .int .i64 3, .slice (some ⟨g5, 0, none⟩) 1 1, .int .i64 3, .slice (some ⟨g6, 0, none⟩) 1 1, .int .i64 2, .slice (some ⟨g7, 0, none⟩) 1 1, .int .i64 2, .slice (some ⟨g8, 0, none⟩) 1 1, .int .i64 2, .slice (some ⟨g9, 0, none⟩) 1 1, .int .i64 3, .slice (some ⟨g10, 0, none⟩) 1 1, .int .i64 4, .slice (some ⟨g11, 0, none⟩) 2 2, .int .i64 4, .slice (some ⟨g12, 0, none⟩) 2 2, .int .i64 4, .slice (some ⟨g13, 0, none⟩) 2 2, .int .i64 4, .slice (some ⟨g14, 0, none⟩) 3 3, .int .i64 4, .slice (some ⟨g15, 0, none⟩) 1 1, .int .i64 4, .slice (some ⟨g16, 0, none⟩) 1 1, .int .i64 5]) (.int .i64 10)).run Tryd.prog w = .ok (.agg #[.slice (some ⟨g10, 0, none⟩) 1 1, .int .i64 4]) w := fun _ => by kernel_rfl
  have HB := HX.block HB0
  have c0 := cellOf HB (i := 0) (v := .slice none 0 0) rfl
  have c1 := cellOf HB (i := 1) (v := .int .i64 0) rfl
  have f0 := freeOf HB 0
  have f1 := freeOf HB 1
  have HSS := Lib.hid HH
  have HXX := Lib.hid (HX0.trans HX)
  have HR := Lib.hid (box_row (v := .slice (some ⟨g10, 0, none⟩) 1 1) (u := .int .i64 4) HB)
  have HZ := Lib.hid (show w.heap.size < w2.heap.size from Nat.lt_of_lt_of_le hsz HX.size)
  have C0 := Lib.hid c0
  clear HH HX HX0 HB HB0 hsz
  go_wp2
  have hlv := run_loadVar_row (P := Tryd.prog) _ w.heap.size 99 99 #[.slice (some ⟨g10, 0, none⟩) 1 1, .int .i64 4] (0, 0) _ HR.out Tryd.underlying99 rfl (by kernel_rfl)
  refine bodyPost_ret (v := .agg #[.slice (some ⟨g10, 0, none⟩) 1 1, .int .i64 4]) (by simp [results, Tryd.results67, asAddr, hlv]) rfl ?_
  have HE : ∀ {g : Nat} {s : ByteArray}, w2.cell? ⟨g, 0, none⟩ = some (.string s) → ((w2.setCell ⟨w.heap.size, 0, none⟩ (.slice (some ⟨g10, 0, none⟩) 1 1)).setCell ⟨w.heap.size, 1, none⟩ (.int .i64 4)).cell? ⟨g, 0, none⟩ = some (.string s) := fun {g s} h3 => by
    have hne : w.heap.size ≠ g := fun e => by rw [← e, C0.out] at h3; cases h3
    rw [World.cell?_setCell_far _ _ _ _ hne, World.cell?_setCell_far _ _ _ _ hne]; exact h3
  exact ⟨_, rfl, (HXX.out.setCell (p := ⟨w.heap.size, 0, none⟩) (Nat.le_refl _) _).setCell (p := ⟨w.heap.size, 1, none⟩) (Nat.le_refl _) _, .inr ⟨g10, 1, rfl, by decide, HE (HSS.out.cell0 (g := g10) (cs := #[.string ⟨#[97]⟩]) (by simp) rfl)⟩⟩
set_option maxHeartbeats 1000000 in
set_option maxRecDepth 100000 in
theorem of_11 (w : World) : Calls Tryd.prog 67 #[.int .i64 11] w (OfIs 11 w) := by
  have HX0 := (Ext.refl w).alloc (.cells #[.slice none 0 0, .int .i64 0] 99)
  have HB0 := heap_alloc_new w (.cells #[.slice none 0 0, .int .i64 0] 99)
  go_enter Tryd.func67, Tryd.ntmps67
  go_wp2_with fail
  obtain ⟨w1, hw1⟩ : ∃ w1 : World, w1 = w.alloc (.cells #[.slice none 0 0, .int .i64 0] 99) := ⟨_, rfl⟩
  have hsz : w.heap.size < w1.heap.size := by rw [hw1]; simp
  rw [← hw1] at HX0 HB0
  rw [← hw1]
  clear hw1
  refine (table_any _).mono ?_
  rintro e w2 ⟨B, g1, g2, g3, g4, g5, g6, g7, g8, g9, g10, g11, g12, g13, g14, g15, g16, rfl, HH, HX⟩
  have i0 : ∀ w : World, (Instr.index 114 (.agg #[.slice none 0 0, .int .i64 1, .slice (some ⟨g1, 0, none⟩) 1 1, .int .i64 2, .slice (some ⟨g2, 0, none⟩) 1 1, .int .i64 3, .slice (some ⟨g3, 0, none⟩) 1 1, .int .i64 3, .slice (some ⟨g4, 0, none⟩) 1 1, .int .i64 3, .slice (some ⟨g5, 0, none⟩) 1 1, .int .i64 3, .slice (some ⟨g6, 0, none⟩) 1 1, .int .i64 2, .slice (some ⟨g7, 0, none⟩) 1 1, .int .i64 2, .slice (some ⟨g8, 0, none⟩) 1 1, .int .i64 2, .slice (some ⟨g9, 0, none⟩) 1 1, .int .i64 3, .slice (some ⟨g10, 0, none⟩) 1 1, .int .i64 4, .slice (some ⟨g11, 0, none⟩) 2 2, .int .i64 4, .slice (some ⟨g12, 0, none⟩) 2 2, .int .i64 4, .slice (some ⟨g13, 0, none⟩) 2 2, .int .i64 4, .slice (some ⟨g14, 0, none⟩) 3 3, .int .i64 4, .slice (some ⟨g15, 0, none⟩) 1 1, .int .i64 4, .slice (some ⟨g16, 0, none⟩) 1 1, .int .i64 5]) (.int .i64 11)).run Tryd.prog w = .ok (.agg #[.slice (some ⟨g11, 0, none⟩) 2 2, .int .i64 4]) w := fun _ => by kernel_rfl
  have HB := HX.block HB0
  have c0 := cellOf HB (i := 0) (v := .slice none 0 0) rfl
  have c1 := cellOf HB (i := 1) (v := .int .i64 0) rfl
  have f0 := freeOf HB 0
  have f1 := freeOf HB 1
  have HSS := Lib.hid HH
  have HXX := Lib.hid (HX0.trans HX)
  have HR := Lib.hid (box_row (v := .slice (some ⟨g11, 0, none⟩) 2 2) (u := .int .i64 4) HB)
  have HZ := Lib.hid (show w.heap.size < w2.heap.size from Nat.lt_of_lt_of_le hsz HX.size)
  have C0 := Lib.hid c0
  clear HH HX HX0 HB HB0 hsz
  go_wp2
  have hlv := run_loadVar_row (P := Tryd.prog) _ w.heap.size 99 99 #[.slice (some ⟨g11, 0, none⟩) 2 2, .int .i64 4] (0, 0) _ HR.out Tryd.underlying99 rfl (by kernel_rfl)
  refine bodyPost_ret (v := .agg #[.slice (some ⟨g11, 0, none⟩) 2 2, .int .i64 4]) (by simp [results, Tryd.results67, asAddr, hlv]) rfl ?_
  have HE : ∀ {g : Nat} {s : ByteArray}, w2.cell? ⟨g, 0, none⟩ = some (.string s) → ((w2.setCell ⟨w.heap.size, 0, none⟩ (.slice (some ⟨g11, 0, none⟩) 2 2)).setCell ⟨w.heap.size, 1, none⟩ (.int .i64 4)).cell? ⟨g, 0, none⟩ = some (.string s) := fun {g s} h3 => by
    have hne : w.heap.size ≠ g := fun e => by rw [← e, C0.out] at h3; cases h3
    rw [World.cell?_setCell_far _ _ _ _ hne, World.cell?_setCell_far _ _ _ _ hne]; exact h3
  exact ⟨_, rfl, (HXX.out.setCell (p := ⟨w.heap.size, 0, none⟩) (Nat.le_refl _) _).setCell (p := ⟨w.heap.size, 1, none⟩) (Nat.le_refl _) _, .inr ⟨g11, 2, rfl, by decide, HE (HSS.out.cell0 (g := g11) (cs := #[.string ⟨#[98]⟩, .string ⟨#[115, 116, 114, 111, 110, 103]⟩]) (by simp) rfl)⟩⟩
set_option maxHeartbeats 1000000 in
set_option maxRecDepth 100000 in
theorem of_12 (w : World) : Calls Tryd.prog 67 #[.int .i64 12] w (OfIs 12 w) := by
  have HX0 := (Ext.refl w).alloc (.cells #[.slice none 0 0, .int .i64 0] 99)
  have HB0 := heap_alloc_new w (.cells #[.slice none 0 0, .int .i64 0] 99)
  go_enter Tryd.func67, Tryd.ntmps67
  go_wp2_with fail
  obtain ⟨w1, hw1⟩ : ∃ w1 : World, w1 = w.alloc (.cells #[.slice none 0 0, .int .i64 0] 99) := ⟨_, rfl⟩
  have hsz : w.heap.size < w1.heap.size := by rw [hw1]; simp
  rw [← hw1] at HX0 HB0
  rw [← hw1]
  clear hw1
  refine (table_any _).mono ?_
  rintro e w2 ⟨B, g1, g2, g3, g4, g5, g6, g7, g8, g9, g10, g11, g12, g13, g14, g15, g16, rfl, HH, HX⟩
  have i0 : ∀ w : World, (Instr.index 114 (.agg #[.slice none 0 0, .int .i64 1, .slice (some ⟨g1, 0, none⟩) 1 1, .int .i64 2, .slice (some ⟨g2, 0, none⟩) 1 1, .int .i64 3, .slice (some ⟨g3, 0, none⟩) 1 1, .int .i64 3, .slice (some ⟨g4, 0, none⟩) 1 1, .int .i64 3, .slice (some ⟨g5, 0, none⟩) 1 1, .int .i64 3, .slice (some ⟨g6, 0, none⟩) 1 1, .int .i64 2, .slice (some ⟨g7, 0, none⟩) 1 1, .int .i64 2, .slice (some ⟨g8, 0, none⟩) 1 1, .int .i64 2, .slice (some ⟨g9, 0, none⟩) 1 1, .int .i64 3, .slice (some ⟨g10, 0, none⟩) 1 1, .int .i64 4, .slice (some ⟨g11, 0, none⟩) 2 2, .int .i64 4, .slice (some ⟨g12, 0, none⟩) 2 2, .int .i64 4, .slice (some ⟨g13, 0, none⟩) 2 2, .int .i64 4, .slice (some ⟨g14, 0, none⟩) 3 3, .int .i64 4, .slice (some ⟨g15, 0, none⟩) 1 1, .int .i64 4, .slice (some ⟨g16, 0, none⟩) 1 1, .int .i64 5]) (.int .i64 12)).run Tryd.prog w = .ok (.agg #[.slice (some ⟨g12, 0, none⟩) 2 2, .int .i64 4]) w := fun _ => by kernel_rfl
  have HB := HX.block HB0
  have c0 := cellOf HB (i := 0) (v := .slice none 0 0) rfl
  have c1 := cellOf HB (i := 1) (v := .int .i64 0) rfl
  have f0 := freeOf HB 0
  have f1 := freeOf HB 1
  have HSS := Lib.hid HH
  have HXX := Lib.hid (HX0.trans HX)
  have HR := Lib.hid (box_row (v := .slice (some ⟨g12, 0, none⟩) 2 2) (u := .int .i64 4) HB)
  have HZ := Lib.hid (show w.heap.size < w2.heap.size from Nat.lt_of_lt_of_le hsz HX.size)
  have C0 := Lib.hid c0
  clear HH HX HX0 HB HB0 hsz
  go_wp2
  have hlv := run_loadVar_row (P := Tryd.prog) _ w.heap.size 99 99 #[.slice (some ⟨g12, 0, none⟩) 2 2, .int .i64 4] (0, 0) _ HR.out Tryd.underlying99 rfl (by kernel_rfl)
  refine bodyPost_ret (v := .agg #[.slice (some ⟨g12, 0, none⟩) 2 2, .int .i64 4]) (by simp [results, Tryd.results67, asAddr, hlv]) rfl ?_
  have HE : ∀ {g : Nat} {s : ByteArray}, w2.cell? ⟨g, 0, none⟩ = some (.string s) → ((w2.setCell ⟨w.heap.size, 0, none⟩ (.slice (some ⟨g12, 0, none⟩) 2 2)).setCell ⟨w.heap.size, 1, none⟩ (.int .i64 4)).cell? ⟨g, 0, none⟩ = some (.string s) := fun {g s} h3 => by
    have hne : w.heap.size ≠ g := fun e => by rw [← e, C0.out] at h3; cases h3
    rw [World.cell?_setCell_far _ _ _ _ hne, World.cell?_setCell_far _ _ _ _ hne]; exact h3
  exact ⟨_, rfl, (HXX.out.setCell (p := ⟨w.heap.size, 0, none⟩) (Nat.le_refl _) _).setCell (p := ⟨w.heap.size, 1, none⟩) (Nat.le_refl _) _, .inr ⟨g12, 2, rfl, by decide, HE (HSS.out.cell0 (g := g12) (cs := #[.string ⟨#[105]⟩, .string ⟨#[101, 109]⟩]) (by simp) rfl)⟩⟩
set_option maxHeartbeats 1000000 in
set_option maxRecDepth 100000 in
theorem of_13 (w : World) : Calls Tryd.prog 67 #[.int .i64 13] w (OfIs 13 w) := by
  have HX0 := (Ext.refl w).alloc (.cells #[.slice none 0 0, .int .i64 0] 99)
  have HB0 := heap_alloc_new w (.cells #[.slice none 0 0, .int .i64 0] 99)
  go_enter Tryd.func67, Tryd.ntmps67
  go_wp2_with fail
  obtain ⟨w1, hw1⟩ : ∃ w1 : World, w1 = w.alloc (.cells #[.slice none 0 0, .int .i64 0] 99) := ⟨_, rfl⟩
  have hsz : w.heap.size < w1.heap.size := by rw [hw1]; simp
  rw [← hw1] at HX0 HB0
  rw [← hw1]
  clear hw1
  refine (table_any _).mono ?_
  rintro e w2 ⟨B, g1, g2, g3, g4, g5, g6, g7, g8, g9, g10, g11, g12, g13, g14, g15, g16, rfl, HH, HX⟩
  have i0 : ∀ w : World, (Instr.index 114 (.agg #[.slice none 0 0, .int .i64 1, .slice (some ⟨g1, 0, none⟩) 1 1, .int .i64 2, .slice (some ⟨g2, 0, none⟩) 1 1, .int .i64 3, .slice (some ⟨g3, 0, none⟩) 1 1, .int .i64 3, .slice (some ⟨g4, 0, none⟩) 1 1, .int .i64 3, .slice (some ⟨g5, 0, none⟩) 1 1, .int .i64 3, .slice (some ⟨g6, 0, none⟩) 1 1, .int .i64 2, .slice (some ⟨g7, 0, none⟩) 1 1, .int .i64 2, .slice (some ⟨g8, 0, none⟩) 1 1, .int .i64 2, .slice (some ⟨g9, 0, none⟩) 1 1, .int .i64 3, .slice (some ⟨g10, 0, none⟩) 1 1, .int .i64 4, .slice (some ⟨g11, 0, none⟩) 2 2, .int .i64 4, .slice (some ⟨g12, 0, none⟩) 2 2, .int .i64 4, .slice (some ⟨g13, 0, none⟩) 2 2, .int .i64 4, .slice (some ⟨g14, 0, none⟩) 3 3, .int .i64 4, .slice (some ⟨g15, 0, none⟩) 1 1, .int .i64 4, .slice (some ⟨g16, 0, none⟩) 1 1, .int .i64 5]) (.int .i64 13)).run Tryd.prog w = .ok (.agg #[.slice (some ⟨g13, 0, none⟩) 2 2, .int .i64 4]) w := fun _ => by kernel_rfl
  have HB := HX.block HB0
  have c0 := cellOf HB (i := 0) (v := .slice none 0 0) rfl
  have c1 := cellOf HB (i := 1) (v := .int .i64 0) rfl
  have f0 := freeOf HB 0
  have f1 := freeOf HB 1
  have HSS := Lib.hid HH
  have HXX := Lib.hid (HX0.trans HX)
  have HR := Lib.hid (box_row (v := .slice (some ⟨g13, 0, none⟩) 2 2) (u := .int .i64 4) HB)
  have HZ := Lib.hid (show w.heap.size < w2.heap.size from Nat.lt_of_lt_of_le hsz HX.size)
  have C0 := Lib.hid c0
  clear HH HX HX0 HB HB0 hsz
  go_wp2
  have hlv := run_loadVar_row (P := Tryd.prog) _ w.heap.size 99 99 #[.slice (some ⟨g13, 0, none⟩) 2 2, .int .i64 4] (0, 0) _ HR.out Tryd.underlying99 rfl (by kernel_rfl)
  refine bodyPost_ret (v := .agg #[.slice (some ⟨g13, 0, none⟩) 2 2, .int .i64 4]) (by simp [results, Tryd.results67, asAddr, hlv]) rfl ?_
  have HE : ∀ {g : Nat} {s : ByteArray}, w2.cell? ⟨g, 0, none⟩ = some (.string s) → ((w2.setCell ⟨w.heap.size, 0, none⟩ (.slice (some ⟨g13, 0, none⟩) 2 2)).setCell ⟨w.heap.size, 1, none⟩ (.int .i64 4)).cell? ⟨g, 0, none⟩ = some (.string s) := fun {g s} h3 => by
    have hne : w.heap.size ≠ g := fun e => by rw [← e, C0.out] at h3; cases h3
    rw [World.cell?_setCell_far _ _ _ _ hne, World.cell?_setCell_far _ _ _ _ hne]; exact h3
  exact ⟨_, rfl, (HXX.out.setCell (p := ⟨w.heap.size, 0, none⟩) (Nat.le_refl _) _).setCell (p := ⟨w.heap.size, 1, none⟩) (Nat.le_refl _) _, .inr ⟨g13, 2, rfl, by decide, HE (HSS.out.cell0 (g := g13) (cs := #[.string ⟨#[117]⟩, .string ⟨#[105, 110, 115]⟩]) (by simp) rfl)⟩⟩
set_option maxHeartbeats 1000000 in
set_option maxRecDepth 100000 in
theorem of_14 (w : World) : Calls Tryd.prog 67 #[.int .i64 14] w (OfIs 14 w) := by
  have HX0 := (Ext.refl w).alloc (.cells #[.slice none 0 0, .int .i64 0] 99)
  have HB0 := heap_alloc_new w (.cells #[.slice none 0 0, .int .i64 0] 99)
  go_enter Tryd.func67, Tryd.ntmps67
  go_wp2_with fail
  obtain ⟨w1, hw1⟩ : ∃ w1 : World, w1 = w.alloc (.cells #[.slice none 0 0, .int .i64 0] 99) := ⟨_, rfl⟩
  have hsz : w.heap.size < w1.heap.size := by rw [hw1]; simp
  rw [← hw1] at HX0 HB0
  rw [← hw1]
  clear hw1
  refine (table_any _).mono ?_
  rintro e w2 ⟨B, g1, g2, g3, g4, g5, g6, g7, g8, g9, g10, g11, g12, g13, g14, g15, g16, rfl, HH, HX⟩
  have i0 : ∀ w : World, (Instr.index 114 (.agg #[.slice none 0 0, .int .i64 1, .slice (some ⟨g1, 0, none⟩) 1 1, .int .i64 2, .slice (some ⟨g2, 0, none⟩) 1 1, .int .i64 3, .slice (some ⟨g3, 0, none⟩) 1 1, .int .i64 3, .slice (some ⟨g4, 0, none⟩) 1 1, .int .i64 3, .slice (some ⟨g5, 0, none⟩) 1 1, .int .i64 3, .slice (some ⟨g6, 0, none⟩) 1 1, .int .i64 2, .slice (some ⟨g7, 0, none⟩) 1 1, .int .i64 2, .slice (some ⟨g8, 0, none⟩) 1 1, .int .i64 2, .slice (some ⟨g9, 0, none⟩) 1 1, .int .i64 3, .slice (some ⟨g10, 0, none⟩) 1 1, .int .i64 4, .slice (some ⟨g11, 0, none⟩) 2 2, .int .i64 4, .slice (some ⟨g12, 0, none⟩) 2 2, .int .i64 4, .slice (some ⟨g13, 0, none⟩) 2 2, .int .i64 4, .slice (some ⟨g14, 0, none⟩) 3 3, .int .i64 4, .slice (some ⟨g15, 0, none⟩) 1 1, .int .i64 4, .slice (some ⟨g16, 0, none⟩) 1 1, .int .i64 5]) (.int .i64 14)).run Tryd.prog w = .ok (.agg #[.slice (some ⟨g14, 0, none⟩) 3 3, .int .i64 4]) w := fun _ => by kernel_rfl
  have HB := HX.block HB0
  have c0 := cellOf HB (i := 0) (v := .slice none 0 0) rfl
  have c1 := cellOf HB (i := 1) (v := .int .i64 0) rfl
  have f0 := freeOf HB 0
  have f1 := freeOf HB 1
  have HSS := Lib.hid HH
  have HXX := Lib.hid (HX0.trans HX)
  have HR := Lib.hid (box_row (v := .slice (some ⟨g14, 0, none⟩) 3 3) (u := .int .i64 4) HB)
  have HZ := Lib.hid (show w.heap.size < w2.heap.size from Nat.lt_of_lt_of_le hsz HX.size)
  have C0 := Lib.hid c0
  clear HH HX HX0 HB HB0 hsz
  go_wp2
  have hlv := run_loadVar_row (P := Tryd.prog) _ w.heap.size 99 99 #[.slice (some ⟨g14, 0, none⟩) 3 3, .int .i64 4] (0, 0) _ HR.out Tryd.underlying99 rfl (by kernel_rfl)
  refine bodyPost_ret (v := .agg #[.slice (some ⟨g14, 0, none⟩) 3 3, .int .i64 4]) (by simp [results, Tryd.results67, asAddr, hlv]) rfl ?_
  have HE : ∀ {g : Nat} {s : ByteArray}, w2.cell? ⟨g, 0, none⟩ = some (.string s) → ((w2.setCell ⟨w.heap.size, 0, none⟩ (.slice (some ⟨g14, 0, none⟩) 3 3)).setCell ⟨w.heap.size, 1, none⟩ (.int .i64 4)).cell? ⟨g, 0, none⟩ = some (.string s) := fun {g s} h3 => by
    have hne : w.heap.size ≠ g := fun e => by rw [← e, C0.out] at h3; cases h3
    rw [World.cell?_setCell_far _ _ _ _ hne, World.cell?_setCell_far _ _ _ _ hne]; exact h3
  exact ⟨_, rfl, (HXX.out.setCell (p := ⟨w.heap.size, 0, none⟩) (Nat.le_refl _) _).setCell (p := ⟨w.heap.size, 1, none⟩) (Nat.le_refl _) _, .inr ⟨g14, 3, rfl, by decide, HE (HSS.out.cell0 (g := g14) (cs := #[.string ⟨#[115]⟩, .string ⟨#[115, 116, 114, 105, 107, 101]⟩, .string ⟨#[100, 101, 108]⟩]) (by simp) rfl)⟩⟩
set_option maxHeartbeats 1000000 in
set_option maxRecDepth 100000 in
theorem of_15 (w : World) : Calls Tryd.prog 67 #[.int .i64 15] w (OfIs 15 w) := by
  have HX0 := (Ext.refl w).alloc (.cells #[.slice none 0 0, .int .i64 0] 99)
  have HB0 := heap_alloc_new w (.cells #[.slice none 0 0, .int .i64 0] 99)
  go_enter Tryd.func67, Tryd.ntmps67
  go_wp2_with fail
  obtain ⟨w1, hw1⟩ : ∃ w1 : World, w1 = w.alloc (.cells #[.slice none 0 0, .int .i64 0] 99) := ⟨_, rfl⟩
  have hsz : w.heap.size < w1.heap.size := by rw [hw1]; simp
  rw [← hw1] at HX0 HB0
  rw [← hw1]
  clear hw1
  refine (table_any _).mono ?_
  rintro e w2 ⟨B, g1, g2, g3, g4, g5, g6, g7, g8, g9, g10, g11, g12, g13, g14, g15, g16, rfl, HH, HX⟩
  have i0 : ∀ w : World, (Instr.index 114 (.agg #[.slice none 0 0, .int .i64 1, .slice (some ⟨g1, 0, none⟩) 1 1, .int .i64 2, .slice (some ⟨g2, 0, none⟩) 1 1, .int .i64 3, .slice (some ⟨g3, 0, none⟩) 1 1, .int .i64 3, .slice (some ⟨g4, 0, none⟩) 1 1, .int .i64 3, .slice (some ⟨g5, 0, none⟩) 1 1, .int .i64 3, .slice (some ⟨g6, 0, none⟩) 1 1, .int .i64 2, .slice (some ⟨g7, 0, none⟩) 1 1, .int .i64 2, .slice (some ⟨g8, 0, none⟩) 1 1, .int .i64 2, .slice (some ⟨g9, 0, none⟩) 1 1, .int .i64 3, .slice (some ⟨g10, 0, none⟩) 1 1, .int .i64 4, .slice (some ⟨g11, 0, none⟩) 2 2, .int .i64 4, .slice (some ⟨g12, 0, none⟩) 2 2, .int .i64 4, .slice (some ⟨g13, 0, none⟩) 2 2, .int .i64 4, .slice (some ⟨g14, 0, none⟩) 3 3, .int .i64 4, .slice (some ⟨g15, 0, none⟩) 1 1, .int .i64 4, .slice (some ⟨g16, 0, none⟩) 1 1, .int .i64 5]) (.int .i64 15)).run Tryd.prog w = .ok (.agg #[.slice (some ⟨g15, 0, none⟩) 1 1, .int .i64 4]) w := fun _ => by kernel_rfl
  have HB := HX.block HB0
  have c0 := cellOf HB (i := 0) (v := .slice none 0 0) rfl
  have c1 := cellOf HB (i := 1) (v := .int .i64 0) rfl
  have f0 := freeOf HB 0
  have f1 := freeOf HB 1
  have HSS := Lib.hid HH
  have HXX := Lib.hid (HX0.trans HX)
  have HR := Lib.hid (box_row (v := .slice (some ⟨g15, 0, none⟩) 1 1) (u := .int .i64 4) HB)
  have HZ := Lib.hid (show w.heap.size < w2.heap.size from Nat.lt_of_lt_of_le hsz HX.size)
  have C0 := Lib.hid c0
  clear HH HX HX0 HB HB0 hsz
  go_wp2
  have hlv := run_loadVar_row (P := Tryd.prog) _ w.heap.size 99 99 #[.slice (some ⟨g15, 0, none⟩) 1 1, .int .i64 4] (0, 0) _ HR.out Tryd.underlying99 rfl (by kernel_rfl)
  refine bodyPost_ret (v := .agg #[.slice (some ⟨g15, 0, none⟩) 1 1, .int .i64 4]) (by simp [results, Tryd.results67, asAddr, hlv]) rfl ?_
  have HE : ∀ {g : Nat} {s : ByteArray}, w2.cell? ⟨g, 0, none⟩ = some (.string s) → ((w2.setCell ⟨w.heap.size, 0, none⟩ (.slice (some ⟨g15, 0, none⟩) 1 1)).setCell ⟨w.heap.size, 1, none⟩ (.int .i64 4)).cell? ⟨g, 0, none⟩ = some (.string s) := fun {g s} h3 => by
    have hne : w.heap.size ≠ g := fun e => by rw [← e, C0.out] at h3; cases h3
    rw [World.cell?_setCell_far _ _ _ _ hne, World.cell?_setCell_far _ _ _ _ hne]; exact h3
  exact ⟨_, rfl, (HXX.out.setCell (p := ⟨w.heap.size, 0, none⟩) (Nat.le_refl _) _).setCell (p := ⟨w.heap.size, 1, none⟩) (Nat.le_refl _) _, .inr ⟨g15, 1, rfl, by decide, HE (HSS.out.cell0 (g := g15) (cs := #[.string ⟨#[115, 112, 97, 110]⟩]) (by simp) rfl)⟩⟩
set_option maxHeartbeats 1000000 in
set_option maxRecDepth 100000 in
theorem of_16 (w : World) : Calls Tryd.prog 67 #[.int .i64 16] w (OfIs 16 w) := by
  have HX0 := (Ext.refl w).alloc (.cells #[.slice none 0 0, .int .i64 0] 99)
  have HB0 := heap_alloc_new w (.cells #[.slice none 0 0, .int .i64 0] 99)
  go_enter Tryd.func67, Tryd.ntmps67
  go_wp2_with fail
  obtain ⟨w1, hw1⟩ : ∃ w1 : World, w1 = w.alloc (.cells #[.slice none 0 0, .int .i64 0] 99) := ⟨_, rfl⟩
  have hsz : w.heap.size < w1.heap.size := by rw [hw1]; simp
  rw [← hw1] at HX0 HB0
  rw [← hw1]
  clear hw1
  refine (table_any _).mono ?_
  rintro e w2 ⟨B, g1, g2, g3, g4, g5, g6, g7, g8, g9, g10, g11, g12, g13, g14, g15, g16, rfl, HH, HX⟩
  have i0 : ∀ w : World, (Instr.index 114 (.agg #[.slice none 0 0, .int .i64 1, .slice (some ⟨g1, 0, none⟩) 1 1, .int .i64 2, .slice (some ⟨g2, 0, none⟩) 1 1, .int .i64 3, .slice (some ⟨g3, 0, none⟩) 1 1, .int .i64 3, .slice (some ⟨g4, 0, none⟩) 1 1, .int .i64 3, .slice (some ⟨g5, 0, none⟩) 1 1, .int .i64 3, .slice (some ⟨g6, 0, none⟩) 1 1, .int .i64 2, .slice (some ⟨g7, 0, none⟩) 1 1, .int .i64 2, .slice (some ⟨g8, 0, none⟩) 1 1, .int .i64 2, .slice (some ⟨g9, 0, none⟩) 1 1, .int .i64 3, .slice (some ⟨g10, 0, none⟩) 1 1, .int .i64 4, .slice (some ⟨g11, 0, none⟩) 2 2, .int .i64 4, .slice (some ⟨g12, 0, none⟩) 2 2, .int .i64 4, .slice (some ⟨g13, 0, none⟩) 2 2, .int .i64 4, .slice (some ⟨g14, 0, none⟩) 3 3, .int .i64 4, .slice (some ⟨g15, 0, none⟩) 1 1, .int .i64 4, .slice (some ⟨g16, 0, none⟩) 1 1, .int .i64 5]) (.int .i64 16)).run Tryd.prog w = .ok (.agg #[.slice (some ⟨g16, 0, none⟩) 1 1, .int .i64 5]) w := fun _ => by kernel_rfl
  have HB := HX.block HB0
  have c0 := cellOf HB (i := 0) (v := .slice none 0 0) rfl
  have c1 := cellOf HB (i := 1) (v := .int .i64 0) rfl
  have f0 := freeOf HB 0
  have f1 := freeOf HB 1
  have HSS := Lib.hid HH
  have HXX := Lib.hid (HX0.trans HX)
  have HR := Lib.hid (box_row (v := .slice (some ⟨g16, 0, none⟩) 1 1) (u := .int .i64 5) HB)
  have HZ := Lib.hid (show w.heap.size < w2.heap.size from Nat.lt_of_lt_of_le hsz HX.size)
  have C0 := Lib.hid c0
  clear HH HX HX0 HB HB0 hsz
  go_wp2
  have hlv := run_loadVar_row (P := Tryd.prog) _ w.heap.size 99 99 #[.slice (some ⟨g16, 0, none⟩) 1 1, .int .i64 5] (0, 0) _ HR.out Tryd.underlying99 rfl (by kernel_rfl)
  refine bodyPost_ret (v := .agg #[.slice (some ⟨g16, 0, none⟩) 1 1, .int .i64 5]) (by simp [results, Tryd.results67, asAddr, hlv]) rfl ?_
  have HE : ∀ {g : Nat} {s : ByteArray}, w2.cell? ⟨g, 0, none⟩ = some (.string s) → ((w2.setCell ⟨w.heap.size, 0, none⟩ (.slice (some ⟨g16, 0, none⟩) 1 1)).setCell ⟨w.heap.size, 1, none⟩ (.int .i64 5)).cell? ⟨g, 0, none⟩ = some (.string s) := fun {g s} h3 => by
    have hne : w.heap.size ≠ g := fun e => by rw [← e, C0.out] at h3; cases h3
    rw [World.cell?_setCell_far _ _ _ _ hne, World.cell?_setCell_far _ _ _ _ hne]; exact h3
  exact ⟨_, rfl, (HXX.out.setCell (p := ⟨w.heap.size, 0, none⟩) (Nat.le_refl _) _).setCell (p := ⟨w.heap.size, 1, none⟩) (Nat.le_refl _) _, .inr ⟨g16, 1, rfl, by decide, HE (HSS.out.cell0 (g := g16) (cs := #[.string ⟨#[98, 114]⟩]) (by simp) rfl)⟩⟩
set_option maxHeartbeats 1000000 in
set_option maxRecDepth 100000 in
theorem of_out (w : World) (t : Int) (h : t < 0 ∨ 16 < t) : Calls Tryd.prog 67 #[.int .i64 t] w (OfIs t w) := by
  have HX0 := (Ext.refl w).alloc (.cells #[.slice none 0 0, .int .i64 0] 99)
  have HB0 := heap_alloc_new w (.cells #[.slice none 0 0, .int .i64 0] 99)
  have e1 : clsT t = 0 := if_pos h
  have e2 : nameT t = ⟨#[]⟩ := by unfold nameT; rw [if_neg (by omega), if_neg (by omega), if_neg (by omega), if_neg (by omega), if_neg (by omega), if_neg (by omega), if_neg (by omega), if_neg (by omega), if_neg (by omega), if_neg (by omega), if_neg (by omega), if_neg (by omega), if_neg (by omega), if_neg (by omega), if_neg (by omega), if_neg (by omega)]
  have HR := Lib.hid HB0
  have fin : OfIs t w (.returned (.agg #[.slice none 0 0, .int .i64 0])) (w.alloc (.cells #[.slice none 0 0, .int .i64 0] 99)) :=
    ⟨.slice none 0 0, by rw [e1], HX0, .inl ⟨rfl, e2⟩⟩
  have FIN := Lib.hid fin
  clear fin HX0 HB0
  by_cases hneg : t < 0
  · have hn : decide (t < 0) = true := by simpa using hneg
    clear h hneg
    go_enter Tryd.func67, Tryd.ntmps67
    go_wp2_with fail
    have hlv := run_loadVar_row (P := Tryd.prog) _ w.heap.size 99 99 #[.slice none 0 0, .int .i64 0] (0, 0) _ HR.out Tryd.underlying99 rfl (by kernel_rfl)
    exact bodyPost_ret (v := .agg #[.slice none 0 0, .int .i64 0]) (by simp [results, Tryd.results67, asAddr, hlv]) rfl FIN.out
  · have hn : decide (t < 0) = false := by simpa using hneg
    have hn2 : decide (16 < t) = true := by simp; omega
    clear h hneg
    go_enter Tryd.func67, Tryd.ntmps67
    go_wp2_with fail
    have hlv := run_loadVar_row (P := Tryd.prog) _ w.heap.size 99 99 #[.slice none 0 0, .int .i64 0] (0, 0) _ HR.out Tryd.underlying99 rfl (by kernel_rfl)
    exact bodyPost_ret (v := .agg #[.slice none 0 0, .int .i64 0]) (by simp [results, Tryd.results67, asAddr, hlv]) rfl FIN.out
theorem of_any (w : World) (t : Int) : Calls Tryd.prog 67 #[.int .i64 t] w (OfIs t w) := by
  have h : t = 0 ∨ t = 1 ∨ t = 2 ∨ t = 3 ∨ t = 4 ∨ t = 5 ∨ t = 6 ∨ t = 7 ∨ t = 8 ∨ t = 9 ∨ t = 10 ∨ t = 11 ∨ t = 12 ∨ t = 13 ∨ t = 14 ∨ t = 15 ∨ t = 16 ∨ t < 0 ∨ 16 < t := by omega
  rcases h with rfl | rfl | rfl | rfl | rfl | rfl | rfl | rfl | rfl | rfl | rfl | rfl | rfl | rfl | rfl | rfl | rfl | h
  · exact of_0 w
  · exact of_1 w
  · exact of_2 w
  · exact of_3 w
  · exact of_4 w
  · exact of_5 w
  · exact of_6 w
  · exact of_7 w
  · exact of_8 w
  · exact of_9 w
  · exact of_10 w
  · exact of_11 w
  · exact of_12 w
  · exact of_13 w
  · exact of_14 w
  · exact of_15 w
  · exact of_16 w
  · exact of_out w t h
set_option maxHeartbeats 1000000 in
set_option maxRecDepth 100000 in
theorem Class_any (w : World) (t : Int) : Calls Tryd.prog 48 #[.int .i64 t] w (RVal (.int .i64 (clsT t)) w) := by
  go_enter Tryd.func48, Tryd.ntmps48
  go_wp2_with fail
  refine (of_any _ t).mono ?_
  rintro e w2 ⟨v, rfl, hx, _⟩
  obtain ⟨c, hc⟩ : ∃ c, clsT t = c := ⟨_, rfl⟩
  rw [hc]
  have HC := Lib.hid hc
  clear hc
  have fl : ∀ w : World, (Instr.field 99 (.agg #[v, .int .i64 c]) 1).run Tryd.prog w = .ok (.int .i64 c) w := fun _ => by kernel_rfl
  go_wp2
  go_ret
  exact ⟨by rw [HC.out]; rfl, hx⟩
set_option maxHeartbeats 1000000 in
set_option maxRecDepth 100000 in
theorem Name_any (w : World) (t : Int) : Calls Tryd.prog 50 #[.int .i64 t] w (RVal (.string (nameT t)) w) := by
  go_enter Tryd.func50, Tryd.ntmps50
  go_wp2_with fail
  refine (of_any _ t).mono ?_
  rintro e w2 ⟨v, rfl, hx, hv⟩
  generalize clsT t = c at *
  generalize nameT t = nm at *
  have fl : ∀ w : World, (Instr.field 99 (.agg #[v, .int .i64 c]) 0).run Tryd.prog w = .ok v w := fun _ => by kernel_rfl
  rcases hv with ⟨rfl, rfl⟩ | ⟨g, n, rfl, hn, hc⟩
  · go_wp2
    go_ret
    exact ⟨rfl, hx⟩
  · have h0 : decide ((0 : Int) < (n : Int)) = true := by simp; omega
    go_wp2
    go_ret
    exact ⟨rfl, hx⟩
end Go.Proofs.YtdafdoodegpdhaaDoor
