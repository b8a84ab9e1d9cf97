/- what of ZP Z1 Z2 Z3 BA BB BC BD BE BF BG BH BI BJ BK BL BM BN BO BP BQ BR BS BT ZY BV BW BY Z4 CA CB CC CD CE is leant on -/
import Derived.Test.YtalaajbajgdglaaGreatDoorLPca
set_option linter.unusedVariables false
set_option linter.unusedSimpArgs false
set_option maxRecDepth 1000000
set_option maxHeartbeats 8000000
namespace Go.Proofs.YtalaajbajgdglaaGreatDoor
open Go Go.RowKit Go.BigFrame
def OfIs (t : Int) (w : World) (e : Ending) (w' : World) : Prop := ∃ v, e = .returned (.agg #[v, .int .i64 (clsT t)]) ∧ Ext w w' ∧
  ((v = .slice none 0 0 ∧ nameT t = ⟨#[]⟩) ∨ ∃ g n : Nat, v = .slice (some ⟨g, 0, none⟩) n n ∧ 0 < n ∧ w'.cell? ⟨g, 0, none⟩ = some (.string (nameT t)))
theorem Has.cell0 {B : Nat} {l : List (Nat × Array Value)} {w : World} (h : Has B l w) {g : Nat} {cs : Array Value} (hm : (g, cs) ∈ l) {v : Value} (hv : cs[0]? = some v) : w.cell? ⟨g, 0, none⟩ = some v := cellOf (h _ hm).2 hv
theorem box_row {w : World} {b : Nat} {v u : Value} (h : w.heap[b]? = some (.cells #[.slice none 0 0, .int .i64 0] 150 (0, 0))) :
    ((w.setCell ⟨b, 0, none⟩ v).setCell ⟨b, 1, none⟩ u).heap[b]? = some (.cells #[v, u] 150 (0, 0)) := heap_setCell_same (heap_setCell_same h v) u
theorem of_0 (w : World) : Calls Tryz.prog 108 #[.int .i64 0] w (OfIs 0 w) := by
  have HX0 := (Ext.refl w).alloc (.cells #[.slice none 0 0, .int .i64 0] 150)
  have HB0 := heap_alloc_new w (.cells #[.slice none 0 0, .int .i64 0] 150)
  go_enter Tryz.func108, Tryz.ntmps108
  go_wp2_with fail
  obtain ⟨w1, hw1⟩ : ∃ w1 : World, w1 = w.alloc (.cells #[.slice none 0 0, .int .i64 0] 150) := ⟨_, rfl⟩
  have hsz : w.heap.size < w1.heap.size := by rw [hw1]; simp
  rw [← hw1] at HX0 HB0
  rw [← hw1]
  clear hw1
  refine (table_any _).mono ?_
  rintro e w2 ⟨B, g1, g2, g3, g4, g5, g6, g7, g8, g9, g10, g11, g12, g13, g14, g15, g16, rfl, HH, HX⟩
  have i0 : ∀ w : World, (Instr.index 172 (.agg #[.slice none 0 0, .int .i64 1, .slice (some ⟨g1, 0, none⟩) 1 1, .int .i64 2, .slice (some ⟨g2, 0, none⟩) 1 1, .int .i64 3, .slice (some ⟨g3, 0, none⟩) 1 1, .int .i64 3, .slice (some ⟨g4, 0, none⟩) 1 1, .int .i64 3, .slice (some ⟨g5, 0, none⟩) 1 1, .int .i64 3, .slice (some ⟨g6, 0, none⟩) 1 1, .int .i64 2, .slice (some ⟨g7, 0, none⟩) 1 1, .int .i64 2, .slice (some ⟨g8, 0, none⟩) 1 1, .int .i64 2, .slice (some ⟨g9, 0, none⟩) 1 1, .int .i64 3, .slice (some ⟨g10, 0, none⟩) 1 1, .int .i64 4, .slice (some ⟨g11, 0, none⟩) 2 2, .int .i64 4, .slice (some ⟨g12, 0, none⟩) 2 2, .int .i64 4, .slice (some ⟨g13, 0, none⟩) 2 2, .int .i64 4, .slice (some ⟨g14, 0, none⟩) 3 3, .int .i64 4, .slice (some ⟨g15, 0, none⟩) 1 1, .int .i64 4, .slice (some ⟨g16, 0, none⟩) 1 1, .int .i64 5]) (.int .i64 0)).run Tryz.prog w = .ok (.agg #[.slice none 0 0, .int .i64 1]) w := fun _ => by kernel_rfl
  have HB := HX.block HB0
  have c0 := cellOf HB (i := 0) (v := .slice none 0 0) rfl
  have c1 := cellOf HB (i := 1) (v := .int .i64 0) rfl
  have f0 := freeOf HB 0
  have f1 := freeOf HB 1
  have HSS := qh HH
  have HXX := qh (HX0.trans HX)
  have HR := qh (box_row (v := .slice none 0 0) (u := .int .i64 1) HB)
  have HZ := qh (show w.heap.size < w2.heap.size from Nat.lt_of_lt_of_le hsz HX.size)
  have C0 := qh c0
  clear HH HX HX0 HB HB0 hsz
  go_wp2
  have hlv := run_loadVar_row (P := Tryz.prog) _ w.heap.size 150 150 #[.slice none 0 0, .int .i64 1] (0, 0) _ HR.out Tryz.underlying150 rfl (by kernel_rfl)
  refine bodyPost_ret (v := .agg #[.slice none 0 0, .int .i64 1]) (by simp [results, Tryz.results108, asAddr, hlv]) rfl ?_
  have HE : ∀ {g : Nat} {s : ByteArray}, w2.cell? ⟨g, 0, none⟩ = some (.string s) → ((w2.setCell ⟨w.heap.size, 0, none⟩ (.slice none 0 0)).setCell ⟨w.heap.size, 1, none⟩ (.int .i64 1)).cell? ⟨g, 0, none⟩ = some (.string s) := fun {g s} h3 => by
    have hne : w.heap.size ≠ g := fun e => by rw [← e, C0.out] at h3; cases h3
    rw [World.cell?_setCell_far _ _ _ _ hne, World.cell?_setCell_far _ _ _ _ hne]; exact h3
  exact ⟨_, rfl, (HXX.out.setCell (p := ⟨w.heap.size, 0, none⟩) (Nat.le_refl _) _).setCell (p := ⟨w.heap.size, 1, none⟩) (Nat.le_refl _) _, .inl ⟨rfl, rfl⟩⟩
theorem of_1 (w : World) : Calls Tryz.prog 108 #[.int .i64 1] w (OfIs 1 w) := by
  have HX0 := (Ext.refl w).alloc (.cells #[.slice none 0 0, .int .i64 0] 150)
  have HB0 := heap_alloc_new w (.cells #[.slice none 0 0, .int .i64 0] 150)
  go_enter Tryz.func108, Tryz.ntmps108
  go_wp2_with fail
  obtain ⟨w1, hw1⟩ : ∃ w1 : World, w1 = w.alloc (.cells #[.slice none 0 0, .int .i64 0] 150) := ⟨_, rfl⟩
  have hsz : w.heap.size < w1.heap.size := by rw [hw1]; simp
  rw [← hw1] at HX0 HB0
  rw [← hw1]
  clear hw1
  refine (table_any _).mono ?_
  rintro e w2 ⟨B, g1, g2, g3, g4, g5, g6, g7, g8, g9, g10, g11, g12, g13, g14, g15, g16, rfl, HH, HX⟩
  have i0 : ∀ w : World, (Instr.index 172 (.agg #[.slice none 0 0, .int .i64 1, .slice (some ⟨g1, 0, none⟩) 1 1, .int .i64 2, .slice (some ⟨g2, 0, none⟩) 1 1, .int .i64 3, .slice (some ⟨g3, 0, none⟩) 1 1, .int .i64 3, .slice (some ⟨g4, 0, none⟩) 1 1, .int .i64 3, .slice (some ⟨g5, 0, none⟩) 1 1, .int .i64 3, .slice (some ⟨g6, 0, none⟩) 1 1, .int .i64 2, .slice (some ⟨g7, 0, none⟩) 1 1, .int .i64 2, .slice (some ⟨g8, 0, none⟩) 1 1, .int .i64 2, .slice (some ⟨g9, 0, none⟩) 1 1, .int .i64 3, .slice (some ⟨g10, 0, none⟩) 1 1, .int .i64 4, .slice (some ⟨g11, 0, none⟩) 2 2, .int .i64 4, .slice (some ⟨g12, 0, none⟩) 2 2, .int .i64 4, .slice (some ⟨g13, 0, none⟩) 2 2, .int .i64 4, .slice (some ⟨g14, 0, none⟩) 3 3, .int .i64 4, .slice (some ⟨g15, 0, none⟩) 1 1, .int .i64 4, .slice (some ⟨g16, 0, none⟩) 1 1, .int .i64 5]) (.int .i64 1)).run Tryz.prog w = .ok (.agg #[.slice (some ⟨g1, 0, none⟩) 1 1, .int .i64 2]) w := fun _ => by kernel_rfl
  have HB := HX.block HB0
  have c0 := cellOf HB (i := 0) (v := .slice none 0 0) rfl
  have c1 := cellOf HB (i := 1) (v := .int .i64 0) rfl
  have f0 := freeOf HB 0
  have f1 := freeOf HB 1
  have HSS := qh HH
  have HXX := qh (HX0.trans HX)
  have HR := qh (box_row (v := .slice (some ⟨g1, 0, none⟩) 1 1) (u := .int .i64 2) HB)
  have HZ := qh (show w.heap.size < w2.heap.size from Nat.lt_of_lt_of_le hsz HX.size)
  have C0 := qh c0
  clear HH HX HX0 HB HB0 hsz
  go_wp2
  have hlv := run_loadVar_row (P := Tryz.prog) _ w.heap.size 150 150 #[.slice (some ⟨g1, 0, none⟩) 1 1, .int .i64 2] (0, 0) _ HR.out Tryz.underlying150 rfl (by kernel_rfl)
  refine bodyPost_ret (v := .agg #[.slice (some ⟨g1, 0, none⟩) 1 1, .int .i64 2]) (by simp [results, Tryz.results108, asAddr, hlv]) rfl ?_
  have HE : ∀ {g : Nat} {s : ByteArray}, w2.cell? ⟨g, 0, none⟩ = some (.string s) → ((w2.setCell ⟨w.heap.size, 0, none⟩ (.slice (some ⟨g1, 0, none⟩) 1 1)).setCell ⟨w.heap.size, 1, none⟩ (.int .i64 2)).cell? ⟨g, 0, none⟩ = some (.string s) := fun {g s} h3 => by
    have hne : w.heap.size ≠ g := fun e => by rw [← e, C0.out] at h3; cases h3
    rw [World.cell?_setCell_far _ _ _ _ hne, World.cell?_setCell_far _ _ _ _ hne]; exact h3
  exact ⟨_, rfl, (HXX.out.setCell (p := ⟨w.heap.size, 0, none⟩) (Nat.le_refl _) _).setCell (p := ⟨w.heap.size, 1, none⟩) (Nat.le_refl _) _, .inr ⟨g1, 1, rfl, by decide, HE (HSS.out.cell0 (g := g1) (cs := #[.string ⟨#[100, 105, 118]⟩]) (by simp) rfl)⟩⟩
theorem of_2 (w : World) : Calls Tryz.prog 108 #[.int .i64 2] w (OfIs 2 w) := by
  have HX0 := (Ext.refl w).alloc (.cells #[.slice none 0 0, .int .i64 0] 150)
  have HB0 := heap_alloc_new w (.cells #[.slice none 0 0, .int .i64 0] 150)
  go_enter Tryz.func108, Tryz.ntmps108
  go_wp2_with fail
  obtain ⟨w1, hw1⟩ : ∃ w1 : World, w1 = w.alloc (.cells #[.slice none 0 0, .int .i64 0] 150) := ⟨_, rfl⟩
  have hsz : w.heap.size < w1.heap.size := by rw [hw1]; simp
  rw [← hw1] at HX0 HB0
  rw [← hw1]
  clear hw1
  refine (table_any _).mono ?_
  rintro e w2 ⟨B, g1, g2, g3, g4, g5, g6, g7, g8, g9, g10, g11, g12, g13, g14, g15, g16, rfl, HH, HX⟩
  have i0 : ∀ w : World, (Instr.index 172 (.agg #[.slice none 0 0, .int .i64 1, .slice (some ⟨g1, 0, none⟩) 1 1, .int .i64 2, .slice (some ⟨g2, 0, none⟩) 1 1, .int .i64 3, .slice (some ⟨g3, 0, none⟩) 1 1, .int .i64 3, .slice (some ⟨g4, 0, none⟩) 1 1, .int .i64 3, .slice (some ⟨g5, 0, none⟩) 1 1, .int .i64 3, .slice (some ⟨g6, 0, none⟩) 1 1, .int .i64 2, .slice (some ⟨g7, 0, none⟩) 1 1, .int .i64 2, .slice (some ⟨g8, 0, none⟩) 1 1, .int .i64 2, .slice (some ⟨g9, 0, none⟩) 1 1, .int .i64 3, .slice (some ⟨g10, 0, none⟩) 1 1, .int .i64 4, .slice (some ⟨g11, 0, none⟩) 2 2, .int .i64 4, .slice (some ⟨g12, 0, none⟩) 2 2, .int .i64 4, .slice (some ⟨g13, 0, none⟩) 2 2, .int .i64 4, .slice (some ⟨g14, 0, none⟩) 3 3, .int .i64 4, .slice (some ⟨g15, 0, none⟩) 1 1, .int .i64 4, .slice (some ⟨g16, 0, none⟩) 1 1, .int .i64 5]) (.int .i64 2)).run Tryz.prog w = .ok (.agg #[.slice (some ⟨g2, 0, none⟩) 1 1, .int .i64 3]) w := fun _ => by kernel_rfl
  have HB := HX.block HB0
  have c0 := cellOf HB (i := 0) (v := .slice none 0 0) rfl
  have c1 := cellOf HB (i := 1) (v := .int .i64 0) rfl
  have f0 := freeOf HB 0
  have f1 := freeOf HB 1
  have HSS := qh HH
  have HXX := qh (HX0.trans HX)
  have HR := qh (box_row (v := .slice (some ⟨g2, 0, none⟩) 1 1) (u := .int .i64 3) HB)
  have HZ := qh (show w.heap.size < w2.heap.size from Nat.lt_of_lt_of_le hsz HX.size)
  have C0 := qh c0
  clear HH HX HX0 HB HB0 hsz
  go_wp2
  have hlv := run_loadVar_row (P := Tryz.prog) _ w.heap.size 150 150 #[.slice (some ⟨g2, 0, none⟩) 1 1, .int .i64 3] (0, 0) _ HR.out Tryz.underlying150 rfl (by kernel_rfl)
  refine bodyPost_ret (v := .agg #[.slice (some ⟨g2, 0, none⟩) 1 1, .int .i64 3]) (by simp [results, Tryz.results108, asAddr, hlv]) rfl ?_
  have HE : ∀ {g : Nat} {s : ByteArray}, w2.cell? ⟨g, 0, none⟩ = some (.string s) → ((w2.setCell ⟨w.heap.size, 0, none⟩ (.slice (some ⟨g2, 0, none⟩) 1 1)).setCell ⟨w.heap.size, 1, none⟩ (.int .i64 3)).cell? ⟨g, 0, none⟩ = some (.string s) := fun {g s} h3 => by
    have hne : w.heap.size ≠ g := fun e => by rw [← e, C0.out] at h3; cases h3
    rw [World.cell?_setCell_far _ _ _ _ hne, World.cell?_setCell_far _ _ _ _ hne]; exact h3
  exact ⟨_, rfl, (HXX.out.setCell (p := ⟨w.heap.size, 0, none⟩) (Nat.le_refl _) _).setCell (p := ⟨w.heap.size, 1, none⟩) (Nat.le_refl _) _, .inr ⟨g2, 1, rfl, by decide, HE (HSS.out.cell0 (g := g2) (cs := #[.string ⟨#[112]⟩]) (by simp) rfl)⟩⟩
theorem of_3 (w : World) : Calls Tryz.prog 108 #[.int .i64 3] w (OfIs 3 w) := by
  have HX0 := (Ext.refl w).alloc (.cells #[.slice none 0 0, .int .i64 0] 150)
  have HB0 := heap_alloc_new w (.cells #[.slice none 0 0, .int .i64 0] 150)
  go_enter Tryz.func108, Tryz.ntmps108
  go_wp2_with fail
  obtain ⟨w1, hw1⟩ : ∃ w1 : World, w1 = w.alloc (.cells #[.slice none 0 0, .int .i64 0] 150) := ⟨_, rfl⟩
  have hsz : w.heap.size < w1.heap.size := by rw [hw1]; simp
  rw [← hw1] at HX0 HB0
  rw [← hw1]
  clear hw1
  refine (table_any _).mono ?_
  rintro e w2 ⟨B, g1, g2, g3, g4, g5, g6, g7, g8, g9, g10, g11, g12, g13, g14, g15, g16, rfl, HH, HX⟩
  have i0 : ∀ w : World, (Instr.index 172 (.agg #[.slice none 0 0, .int .i64 1, .slice (some ⟨g1, 0, none⟩) 1 1, .int .i64 2, .slice (some ⟨g2, 0, none⟩) 1 1, .int .i64 3, .slice (some ⟨g3, 0, none⟩) 1 1, .int .i64 3, .slice (some ⟨g4, 0, none⟩) 1 1, .int .i64 3, .slice (some ⟨g5, 0, none⟩) 1 1, .int .i64 3, .slice (some ⟨g6, 0, none⟩) 1 1, .int .i64 2, .slice (some ⟨g7, 0, none⟩) 1 1, .int .i64 2, .slice (some ⟨g8, 0, none⟩) 1 1, .int .i64 2, .slice (some ⟨g9, 0, none⟩) 1 1, .int .i64 3, .slice (some ⟨g10, 0, none⟩) 1 1, .int .i64 4, .slice (some ⟨g11, 0, none⟩) 2 2, .int .i64 4, .slice (some ⟨g12, 0, none⟩) 2 2, .int .i64 4, .slice (some ⟨g13, 0, none⟩) 2 2, .int .i64 4, .slice (some ⟨g14, 0, none⟩) 3 3, .int .i64 4, .slice (some ⟨g15, 0, none⟩) 1 1, .int .i64 4, .slice (some ⟨g16, 0, none⟩) 1 1, .int .i64 5]) (.int .i64 3)).run Tryz.prog w = .ok (.agg #[.slice (some ⟨g3, 0, none⟩) 1 1, .int .i64 3]) w := fun _ => by kernel_rfl
  have HB := HX.block HB0
  have c0 := cellOf HB (i := 0) (v := .slice none 0 0) rfl
  have c1 := cellOf HB (i := 1) (v := .int .i64 0) rfl
  have f0 := freeOf HB 0
  have f1 := freeOf HB 1
  have HSS := qh HH
  have HXX := qh (HX0.trans HX)
  have HR := qh (box_row (v := .slice (some ⟨g3, 0, none⟩) 1 1) (u := .int .i64 3) HB)
  have HZ := qh (show w.heap.size < w2.heap.size from Nat.lt_of_lt_of_le hsz HX.size)
  have C0 := qh c0
  clear HH HX HX0 HB HB0 hsz
  go_wp2
  have hlv := run_loadVar_row (P := Tryz.prog) _ w.heap.size 150 150 #[.slice (some ⟨g3, 0, none⟩) 1 1, .int .i64 3] (0, 0) _ HR.out Tryz.underlying150 rfl (by kernel_rfl)
  refine bodyPost_ret (v := .agg #[.slice (some ⟨g3, 0, none⟩) 1 1, .int .i64 3]) (by simp [results, Tryz.results108, asAddr, hlv]) rfl ?_
  have HE : ∀ {g : Nat} {s : ByteArray}, w2.cell? ⟨g, 0, none⟩ = some (.string s) → ((w2.setCell ⟨w.heap.size, 0, none⟩ (.slice (some ⟨g3, 0, none⟩) 1 1)).setCell ⟨w.heap.size, 1, none⟩ (.int .i64 3)).cell? ⟨g, 0, none⟩ = some (.string s) := fun {g s} h3 => by
    have hne : w.heap.size ≠ g := fun e => by rw [← e, C0.out] at h3; cases h3
    rw [World.cell?_setCell_far _ _ _ _ hne, World.cell?_setCell_far _ _ _ _ hne]; exact h3
  exact ⟨_, rfl, (HXX.out.setCell (p := ⟨w.heap.size, 0, none⟩) (Nat.le_refl _) _).setCell (p := ⟨w.heap.size, 1, none⟩) (Nat.le_refl _) _, .inr ⟨g3, 1, rfl, by decide, HE (HSS.out.cell0 (g := g3) (cs := #[.string ⟨#[104, 49]⟩]) (by simp) rfl)⟩⟩
theorem of_4 (w : World) : Calls Tryz.prog 108 #[.int .i64 4] w (OfIs 4 w) := by
  have HX0 := (Ext.refl w).alloc (.cells #[.slice none 0 0, .int .i64 0] 150)
  have HB0 := heap_alloc_new w (.cells #[.slice none 0 0, .int .i64 0] 150)
  go_enter Tryz.func108, Tryz.ntmps108
  go_wp2_with fail
  obtain ⟨w1, hw1⟩ : ∃ w1 : World, w1 = w.alloc (.cells #[.slice none 0 0, .int .i64 0] 150) := ⟨_, rfl⟩
  have hsz : w.heap.size < w1.heap.size := by rw [hw1]; simp
  rw [← hw1] at HX0 HB0
  rw [← hw1]
  clear hw1
  refine (table_any _).mono ?_
  rintro e w2 ⟨B, g1, g2, g3, g4, g5, g6, g7, g8, g9, g10, g11, g12, g13, g14, g15, g16, rfl, HH, HX⟩
  have i0 : ∀ w : World, (Instr.index 172 (.agg #[.slice none 0 0, .int .i64 1, .slice (some ⟨g1, 0, none⟩) 1 1, .int .i64 2, .slice (some ⟨g2, 0, none⟩) 1 1, .int .i64 3, .slice (some ⟨g3, 0, none⟩) 1 1, .int .i64 3, .slice (some ⟨g4, 0, none⟩) 1 1, .int .i64 3, .slice (some ⟨g5, 0, none⟩) 1 1, .int .i64 3, .slice (some ⟨g6, 0, none⟩) 1 1, .int .i64 2, .slice (some ⟨g7, 0, none⟩) 1 1, .int .i64 2, .slice (some ⟨g8, 0, none⟩) 1 1, .int .i64 2, .slice (some ⟨g9, 0, none⟩) 1 1, .int .i64 3, .slice (some ⟨g10, 0, none⟩) 1 1, .int .i64 4, .slice (some ⟨g11, 0, none⟩) 2 2, .int .i64 4, .slice (some ⟨g12, 0, none⟩) 2 2, .int .i64 4, .slice (some ⟨g13, 0, none⟩) 2 2, .int .i64 4, .slice (some ⟨g14, 0, none⟩) 3 3, .int .i64 4, .slice (some ⟨g15, 0, none⟩) 1 1, .int .i64 4, .slice (some ⟨g16, 0, none⟩) 1 1, .int .i64 5]) (.int .i64 4)).run Tryz.prog w = .ok (.agg #[.slice (some ⟨g4, 0, none⟩) 1 1, .int .i64 3]) w := fun _ => by kernel_rfl
  have HB := HX.block HB0
  have c0 := cellOf HB (i := 0) (v := .slice none 0 0) rfl
  have c1 := cellOf HB (i := 1) (v := .int .i64 0) rfl
  have f0 := freeOf HB 0
  have f1 := freeOf HB 1
  have HSS := qh HH
  have HXX := qh (HX0.trans HX)
  have HR := qh (box_row (v := .slice (some ⟨g4, 0, none⟩) 1 1) (u := .int .i64 3) HB)
  have HZ := qh (show w.heap.size < w2.heap.size from Nat.lt_of_lt_of_le hsz HX.size)
  have C0 := qh c0
  clear HH HX HX0 HB HB0 hsz
  go_wp2
  have hlv := run_loadVar_row (P := Tryz.prog) _ w.heap.size 150 150 #[.slice (some ⟨g4, 0, none⟩) 1 1, .int .i64 3] (0, 0) _ HR.out Tryz.underlying150 rfl (by kernel_rfl)
  refine bodyPost_ret (v := .agg #[.slice (some ⟨g4, 0, none⟩) 1 1, .int .i64 3]) (by simp [results, Tryz.results108, asAddr, hlv]) rfl ?_
  have HE : ∀ {g : Nat} {s : ByteArray}, w2.cell? ⟨g, 0, none⟩ = some (.string s) → ((w2.setCell ⟨w.heap.size, 0, none⟩ (.slice (some ⟨g4, 0, none⟩) 1 1)).setCell ⟨w.heap.size, 1, none⟩ (.int .i64 3)).cell? ⟨g, 0, none⟩ = some (.string s) := fun {g s} h3 => by
    have hne : w.heap.size ≠ g := fun e => by rw [← e, C0.out] at h3; cases h3
    rw [World.cell?_setCell_far _ _ _ _ hne, World.cell?_setCell_far _ _ _ _ hne]; exact h3
  exact ⟨_, rfl, (HXX.out.setCell (p := ⟨w.heap.size, 0, none⟩) (Nat.le_refl _) _).setCell (p := ⟨w.heap.size, 1, none⟩) (Nat.le_refl _) _, .inr ⟨g4, 1, rfl, by decide, HE (HSS.out.cell0 (g := g4) (cs := #[.string ⟨#[104, 50]⟩]) (by simp) rfl)⟩⟩
theorem of_5 (w : World) : Calls Tryz.prog 108 #[.int .i64 5] w (OfIs 5 w) := by
  have HX0 := (Ext.refl w).alloc (.cells #[.slice none 0 0, .int .i64 0] 150)
  have HB0 := heap_alloc_new w (.cells #[.slice none 0 0, .int .i64 0] 150)
  go_enter Tryz.func108, Tryz.ntmps108
  go_wp2_with fail
  obtain ⟨w1, hw1⟩ : ∃ w1 : World, w1 = w.alloc (.cells #[.slice none 0 0, .int .i64 0] 150) := ⟨_, rfl⟩
  have hsz : w.heap.size < w1.heap.size := by rw [hw1]; simp
  rw [← hw1] at HX0 HB0
  rw [← hw1]
  clear hw1
  refine (table_any _).mono ?_
  rintro e w2 ⟨B, g1, g2, g3, g4, g5, g6, g7, g8, g9, g10, g11, g12, g13, g14, g15, g16, rfl, HH, HX⟩
  have i0 : ∀ w : World, (Instr.index 172 (.agg #[.slice none 0 0, .int .i64 1, .slice (some ⟨g1, 0, none⟩) 1 1, .int .i64 2, .slice (some ⟨g2, 0, none⟩) 1 1, .int .i64 3, .slice (some ⟨g3, 0, none⟩) 1 1, .int .i64 3, .slice (some ⟨g4, 0, none⟩) 1 1, .int .i64 3, .slice (some ⟨g5, 0, none⟩) 1 1, .int .i64 3, .slice (some ⟨g6, 0, none⟩) 1 1, .int .i64 2, .slice (some ⟨g7, 0, none⟩) 1 1, .int .i64 2, .slice (some ⟨g8, 0, none⟩) 1 1, .int .i64 2, .slice (some ⟨g9, 0, none⟩) 1 1, .int .i64 3, .slice (some ⟨g10, 0, none⟩) 1 1, .int .i64 4, .slice (some ⟨g11, 0, none⟩) 2 2, .int .i64 4, .slice (some ⟨g12, 0, none⟩) 2 2, .int .i64 4, .slice (some ⟨g13, 0, none⟩) 2 2, .int .i64 4, .slice (some ⟨g14, 0, none⟩) 3 3, .int .i64 4, .slice (some ⟨g15, 0, none⟩) 1 1, .int .i64 4, .slice (some ⟨g16, 0, none⟩) 1 1, .int .i64 5]) (.int .i64 5)).run Tryz.prog w = .ok (.agg #[.slice (some ⟨g5, 0, none⟩) 1 1, .int .i64 3]) w := fun _ => by kernel_rfl
  have HB := HX.block HB0
  have c0 := cellOf HB (i := 0) (v := .slice none 0 0) rfl
  have c1 := cellOf HB (i := 1) (v := .int .i64 0) rfl
  have f0 := freeOf HB 0
  have f1 := freeOf HB 1
  have HSS := qh HH
  have HXX := qh (HX0.trans HX)
  have HR := qh (box_row (v := .slice (some ⟨g5, 0, none⟩) 1 1) (u := .int .i64 3) HB)
  have HZ := qh (show w.heap.size < w2.heap.size from Nat.lt_of_lt_of_le hsz HX.size)
  have C0 := qh c0
  clear HH HX HX0 HB HB0 hsz
  go_wp2
  have hlv := run_loadVar_row (P := Tryz.prog) _ w.heap.size 150 150 #[.slice (some ⟨g5, 0, none⟩) 1 1, .int .i64 3] (0, 0) _ HR.out Tryz.underlying150 rfl (by kernel_rfl)
  refine bodyPost_ret (v := .agg #[.slice (some ⟨g5, 0, none⟩) 1 1, .int .i64 3]) (by simp [results, Tryz.results108, asAddr, hlv]) rfl ?_
  have HE : ∀ {g : Nat} {s : ByteArray}, w2.cell? ⟨g, 0, none⟩ = some (.string s) → ((w2.setCell ⟨w.heap.size, 0, none⟩ (.slice (some ⟨g5, 0, none⟩) 1 1)).setCell ⟨w.heap.size, 1, none⟩ (.int .i64 3)).cell? ⟨g, 0, none⟩ = some (.string s) := fun {g s} h3 => by
    have hne : w.heap.size ≠ g := fun e => by rw [← e, C0.out] at h3; cases h3
    rw [World.cell?_setCell_far _ _ _ _ hne, World.cell?_setCell_far _ _ _ _ hne]; exact h3
  exact ⟨_, rfl, (HXX.out.setCell (p := ⟨w.heap.size, 0, none⟩) (Nat.le_refl _) _).setCell (p := ⟨w.heap.size, 1, none⟩) (Nat.le_refl _) _, .inr ⟨g5, 1, rfl, by decide, HE (HSS.out.cell0 (g := g5) (cs := #[.string ⟨#[104, 51]⟩]) (by simp) rfl)⟩⟩
theorem of_6 (w : World) : Calls Tryz.prog 108 #[.int .i64 6] w (OfIs 6 w) := by
  have HX0 := (Ext.refl w).alloc (.cells #[.slice none 0 0, .int .i64 0] 150)
  have HB0 := heap_alloc_new w (.cells #[.slice none 0 0, .int .i64 0] 150)
  go_enter Tryz.func108, Tryz.ntmps108
  go_wp2_with fail
  obtain ⟨w1, hw1⟩ : ∃ w1 : World, w1 = w.alloc (.cells #[.slice none 0 0, .int .i64 0] 150) := ⟨_, rfl⟩
  have hsz : w.heap.size < w1.heap.size := by rw [hw1]; simp
  rw [← hw1] at HX0 HB0
  rw [← hw1]
  clear hw1
  refine (table_any _).mono ?_
  rintro e w2 ⟨B, g1, g2, g3, g4, g5, g6, g7, g8, g9, g10, g11, g12, g13, g14, g15, g16, rfl, HH, HX⟩
  have i0 : ∀ w : World, (Instr.index 172 (.agg #[.slice none 0 0, .int .i64 1, .slice (some ⟨g1, 0, none⟩) 1 1, .int .i64 2, .slice (some ⟨g2, 0, none⟩) 1 1, .int .i64 3, .slice (some ⟨g3, 0, none⟩) 1 1, .int .i64 3, .slice (some ⟨g4, 0, none⟩) 1 1, .int .i64 3, .slice (some ⟨g5, 0, none⟩) 1 1, .int .i64 3, .slice (some ⟨g6, 0, none⟩) 1 1, .int .i64 2, .slice (some ⟨g7, 0, none⟩) 1 1, .int .i64 2, .slice (some ⟨g8, 0, none⟩) 1 1, .int .i64 2, .slice (some ⟨g9, 0, none⟩) 1 1, .int .i64 3, .slice (some ⟨g10, 0, none⟩) 1 1, .int .i64 4, .slice (some ⟨g11, 0, none⟩) 2 2, .int .i64 4, .slice (some ⟨g12, 0, none⟩) 2 2, .int .i64 4, .slice (some ⟨g13, 0, none⟩) 2 2, .int .i64 4, .slice (some ⟨g14, 0, none⟩) 3 3, .int .i64 4, .slice (some ⟨g15, 0, none⟩) 1 1, .int .i64 4, .slice (some ⟨g16, 0, none⟩) 1 1, .int .i64 5]) (.int .i64 6)).run Tryz.prog w = .ok (.agg #[.slice (some ⟨g6, 0, none⟩) 1 1, .int .i64 2]) w := fun _ => by kernel_rfl
  have HB := HX.block HB0
  have c0 := cellOf HB (i := 0) (v := .slice none 0 0) rfl
  have c1 := cellOf HB (i := 1) (v := .int .i64 0) rfl
  have f0 := freeOf HB 0
  have f1 := freeOf HB 1
  have HSS := qh HH
  have HXX := qh (HX0.trans HX)
  have HR := qh (box_row (v := .slice (some ⟨g6, 0, none⟩) 1 1) (u := .int .i64 2) HB)
  have HZ := qh (show w.heap.size < w2.heap.size from Nat.lt_of_lt_of_le hsz HX.size)
  have C0 := qh c0
  clear HH HX HX0 HB HB0 hsz
  go_wp2
  have hlv := run_loadVar_row (P := Tryz.prog) _ w.heap.size 150 150 #[.slice (some ⟨g6, 0, none⟩) 1 1, .int .i64 2] (0, 0) _ HR.out Tryz.underlying150 rfl (by kernel_rfl)
  refine bodyPost_ret (v := .agg #[.slice (some ⟨g6, 0, none⟩) 1 1, .int .i64 2]) (by simp [results, Tryz.results108, asAddr, hlv]) rfl ?_
  have HE : ∀ {g : Nat} {s : ByteArray}, w2.cell? ⟨g, 0, none⟩ = some (.string s) → ((w2.setCell ⟨w.heap.size, 0, none⟩ (.slice (some ⟨g6, 0, none⟩) 1 1)).setCell ⟨w.heap.size, 1, none⟩ (.int .i64 2)).cell? ⟨g, 0, none⟩ = some (.string s) := fun {g s} h3 => by
    have hne : w.heap.size ≠ g := fun e => by rw [← e, C0.out] at h3; cases h3
    rw [World.cell?_setCell_far _ _ _ _ hne, World.cell?_setCell_far _ _ _ _ hne]; exact h3
  exact ⟨_, rfl, (HXX.out.setCell (p := ⟨w.heap.size, 0, none⟩) (Nat.le_refl _) _).setCell (p := ⟨w.heap.size, 1, none⟩) (Nat.le_refl _) _, .inr ⟨g6, 1, rfl, by decide, HE (HSS.out.cell0 (g := g6) (cs := #[.string ⟨#[98, 108, 111, 99, 107, 113, 117, 111, 116, 101]⟩]) (by simp) rfl)⟩⟩
theorem of_7 (w : World) : Calls Tryz.prog 108 #[.int .i64 7] w (OfIs 7 w) := by
  have HX0 := (Ext.refl w).alloc (.cells #[.slice none 0 0, .int .i64 0] 150)
  have HB0 := heap_alloc_new w (.cells #[.slice none 0 0, .int .i64 0] 150)
  go_enter Tryz.func108, Tryz.ntmps108
  go_wp2_with fail
  obtain ⟨w1, hw1⟩ : ∃ w1 : World, w1 = w.alloc (.cells #[.slice none 0 0, .int .i64 0] 150) := ⟨_, rfl⟩
  have hsz : w.heap.size < w1.heap.size := by rw [hw1]; simp
  rw [← hw1] at HX0 HB0
  rw [← hw1]
  clear hw1
  refine (table_any _).mono ?_
  rintro e w2 ⟨B, g1, g2, g3, g4, g5, g6, g7, g8, g9, g10, g11, g12, g13, g14, g15, g16, rfl, HH, HX⟩
  have i0 : ∀ w : World, (Instr.index 172 (.agg #[.slice none 0 0, .int .i64 1, .slice (some ⟨g1, 0, none⟩) 1 1, .int .i64 2, .slice (some ⟨g2, 0, none⟩) 1 1, .int .i64 3, .slice (some ⟨g3, 0, none⟩) 1 1, .int .i64 3, .slice (some ⟨g4, 0, none⟩) 1 1, .int .i64 3, .slice (some ⟨g5, 0, none⟩) 1 1, .int .i64 3, .slice (some ⟨g6, 0, none⟩) 1 1, .int .i64 2, .slice (some ⟨g7, 0, none⟩) 1 1, .int .i64 2, .slice (some ⟨g8, 0, none⟩) 1 1, .int .i64 2, .slice (some ⟨g9, 0, none⟩) 1 1, .int .i64 3, .slice (some ⟨g10, 0, none⟩) 1 1, .int .i64 4, .slice (some ⟨g11, 0, none⟩) 2 2, .int .i64 4, .slice (some ⟨g12, 0, none⟩) 2 2, .int .i64 4, .slice (some ⟨g13, 0, none⟩) 2 2, .int .i64 4, .slice (some ⟨g14, 0, none⟩) 3 3, .int .i64 4, .slice (some ⟨g15, 0, none⟩) 1 1, .int .i64 4, .slice (some ⟨g16, 0, none⟩) 1 1, .int .i64 5]) (.int .i64 7)).run Tryz.prog w = .ok (.agg #[.slice (some ⟨g7, 0, none⟩) 1 1, .int .i64 2]) w := fun _ => by kernel_rfl
  have HB := HX.block HB0
  have c0 := cellOf HB (i := 0) (v := .slice none 0 0) rfl
  have c1 := cellOf HB (i := 1) (v := .int .i64 0) rfl
  have f0 := freeOf HB 0
  have f1 := freeOf HB 1
  have HSS := qh HH
  have HXX := qh (HX0.trans HX)
  have HR := qh (box_row (v := .slice (some ⟨g7, 0, none⟩) 1 1) (u := .int .i64 2) HB)
  have HZ := qh (show w.heap.size < w2.heap.size from Nat.lt_of_lt_of_le hsz HX.size)
  have C0 := qh c0
  clear HH HX HX0 HB HB0 hsz
  go_wp2
  have hlv := run_loadVar_row (P := Tryz.prog) _ w.heap.size 150 150 #[.slice (some ⟨g7, 0, none⟩) 1 1, .int .i64 2] (0, 0) _ HR.out Tryz.underlying150 rfl (by kernel_rfl)
  refine bodyPost_ret (v := .agg #[.slice (some ⟨g7, 0, none⟩) 1 1, .int .i64 2]) (by simp [results, Tryz.results108, asAddr, hlv]) rfl ?_
  have HE : ∀ {g : Nat} {s : ByteArray}, w2.cell? ⟨g, 0, none⟩ = some (.string s) → ((w2.setCell ⟨w.heap.size, 0, none⟩ (.slice (some ⟨g7, 0, none⟩) 1 1)).setCell ⟨w.heap.size, 1, none⟩ (.int .i64 2)).cell? ⟨g, 0, none⟩ = some (.string s) := fun {g s} h3 => by
    have hne : w.heap.size ≠ g := fun e => by rw [← e, C0.out] at h3; cases h3
    rw [World.cell?_setCell_far _ _ _ _ hne, World.cell?_setCell_far _ _ _ _ hne]; exact h3
  exact ⟨_, rfl, (HXX.out.setCell (p := ⟨w.heap.size, 0, none⟩) (Nat.le_refl _) _).setCell (p := ⟨w.heap.size, 1, none⟩) (Nat.le_refl _) _, .inr ⟨g7, 1, rfl, by decide, HE (HSS.out.cell0 (g := g7) (cs := #[.string ⟨#[117, 108]⟩]) (by simp) rfl)⟩⟩
theorem of_8 (w : World) : Calls Tryz.prog 108 #[.int .i64 8] w (OfIs 8 w) := by
  have HX0 := (Ext.refl w).alloc (.cells #[.slice none 0 0, .int .i64 0] 150)
  have HB0 := heap_alloc_new w (.cells #[.slice none 0 0, .int .i64 0] 150)
  go_enter Tryz.func108, Tryz.ntmps108
  go_wp2_with fail
  obtain ⟨w1, hw1⟩ : ∃ w1 : World, w1 = w.alloc (.cells #[.slice none 0 0, .int .i64 0] 150) := ⟨_, rfl⟩
  have hsz : w.heap.size < w1.heap.size := by rw [hw1]; simp
  rw [← hw1] at HX0 HB0
  rw [← hw1]
  clear hw1
  refine (table_any _).mono ?_
  rintro e w2 ⟨B, g1, g2, g3, g4, g5, g6, g7, g8, g9, g10, g11, g12, g13, g14, g15, g16, rfl, HH, HX⟩
  have i0 : ∀ w : World, (Instr.index 172 (.agg #[.slice none 0 0, .int .i64 1, .slice (some ⟨g1, 0, none⟩) 1 1, .int .i64 2, .slice (some ⟨g2, 0, none⟩) 1 1, .int .i64 3, .slice (some ⟨g3, 0, none⟩) 1 1, .int .i64 3, .slice (some ⟨g4, 0, none⟩) 1 1, .int .i64 3, .slice (some ⟨g5, 0, none⟩) 1 1, .int .i64 3, .slice (some ⟨g6, 0, none⟩) 1 1, .int .i64 2, .slice (some ⟨g7, 0, none⟩) 1 1, .int .i64 2, .slice (some ⟨g8, 0, none⟩) 1 1, .int .i64 2, .slice (some ⟨g9, 0, none⟩) 1 1, .int .i64 3, .slice (some ⟨g10, 0, none⟩) 1 1, .int .i64 4, .slice (some ⟨g11, 0, none⟩) 2 2, .int .i64 4, .slice (some ⟨g12, 0, none⟩) 2 2, .int .i64 4, .slice (some ⟨g13, 0, none⟩) 2 2, .int .i64 4, .slice (some ⟨g14, 0, none⟩) 3 3, .int .i64 4, .slice (some ⟨g15, 0, none⟩) 1 1, .int .i64 4, .slice (some ⟨g16, 0, none⟩) 1 1, .int .i64 5]) (.int .i64 8)).run Tryz.prog w = .ok (.agg #[.slice (some ⟨g8, 0, none⟩) 1 1, .int .i64 2]) w := fun _ => by kernel_rfl
  have HB := HX.block HB0
  have c0 := cellOf HB (i := 0) (v := .slice none 0 0) rfl
  have c1 := cellOf HB (i := 1) (v := .int .i64 0) rfl
  have f0 := freeOf HB 0
  have f1 := freeOf HB 1
  have HSS := qh HH
  have HXX := qh (HX0.trans HX)
  have HR := qh (box_row (v := .slice (some ⟨g8, 0, none⟩) 1 1) (u := .int .i64 2) HB)
  have HZ := qh (show w.heap.size < w2.heap.size from Nat.lt_of_lt_of_le hsz HX.size)
  have C0 := qh c0
  clear HH HX HX0 HB HB0 hsz
  go_wp2
  have hlv := run_loadVar_row (P := Tryz.prog) _ w.heap.size 150 150 #[.slice (some ⟨g8, 0, none⟩) 1 1, .int .i64 2] (0, 0) _ HR.out Tryz.underlying150 rfl (by kernel_rfl)
  refine bodyPost_ret (v := .agg #[.slice (some ⟨g8, 0, none⟩) 1 1, .int .i64 2]) (by simp [results, Tryz.results108, asAddr, hlv]) rfl ?_
  have HE : ∀ {g : Nat} {s : ByteArray}, w2.cell? ⟨g, 0, none⟩ = some (.string s) → ((w2.setCell ⟨w.heap.size, 0, none⟩ (.slice (some ⟨g8, 0, none⟩) 1 1)).setCell ⟨w.heap.size, 1, none⟩ (.int .i64 2)).cell? ⟨g, 0, none⟩ = some (.string s) := fun {g s} h3 => by
    have hne : w.heap.size ≠ g := fun e => by rw [← e, C0.out] at h3; cases h3
    rw [World.cell?_setCell_far _ _ _ _ hne, World.cell?_setCell_far _ _ _ _ hne]; exact h3
  exact ⟨_, rfl, (HXX.out.setCell (p := ⟨w.heap.size, 0, none⟩) (Nat.le_refl _) _).setCell (p := ⟨w.heap.size, 1, none⟩) (Nat.le_refl _) _, .inr ⟨g8, 1, rfl, by decide, HE (HSS.out.cell0 (g := g8) (cs := #[.string ⟨#[111, 108]⟩]) (by simp) rfl)⟩⟩
theorem of_9 (w : World) : Calls Tryz.prog 108 #[.int .i64 9] w (OfIs 9 w) := by
  have HX0 := (Ext.refl w).alloc (.cells #[.slice none 0 0, .int .i64 0] 150)
  have HB0 := heap_alloc_new w (.cells #[.slice none 0 0, .int .i64 0] 150)
  go_enter Tryz.func108, Tryz.ntmps108
  go_wp2_with fail
  obtain ⟨w1, hw1⟩ : ∃ w1 : World, w1 = w.alloc (.cells #[.slice none 0 0, .int .i64 0] 150) := ⟨_, rfl⟩
  have hsz : w.heap.size < w1.heap.size := by rw [hw1]; simp
  rw [← hw1] at HX0 HB0
  rw [← hw1]
  clear hw1
  refine (table_any _).mono ?_
  rintro e w2 ⟨B, g1, g2, g3, g4, g5, g6, g7, g8, g9, g10, g11, g12, g13, g14, g15, g16, rfl, HH, HX⟩
  have i0 : ∀ w : World, (Instr.index 172 (.agg #[.slice none 0 0, .int .i64 1, .slice (some ⟨g1, 0, none⟩) 1 1, .int .i64 2, .slice (some ⟨g2, 0, none⟩) 1 1, .int .i64 3, .slice (some ⟨g3, 0, none⟩) 1 1, .int .i64 3, .slice (some ⟨g4, 0, none⟩) 1 1, .int .i64 3, .slice (some ⟨g5, 0, none⟩) 1 1, .int .i64 3, .slice (some ⟨g6, 0, none⟩) 1 1, .int .i64 2, .slice (some ⟨g7, 0, none⟩) 1 1, .int .i64 2, .slice (some ⟨g8, 0, none⟩) 1 1, .int .i64 2, .slice (some ⟨g9, 0, none⟩) 1 1, .int .i64 3, .slice (some ⟨g10, 0, none⟩) 1 1, .int .i64 4, .slice (some ⟨g11, 0, none⟩) 2 2, .int .i64 4, .slice (some ⟨g12, 0, none⟩) 2 2, .int .i64 4, .slice (some ⟨g13, 0, none⟩) 2 2, .int .i64 4, .slice (some ⟨g14, 0, none⟩) 3 3, .int .i64 4, .slice (some ⟨g15, 0, none⟩) 1 1, .int .i64 4, .slice (some ⟨g16, 0, none⟩) 1 1, .int .i64 5]) (.int .i64 9)).run Tryz.prog w = .ok (.agg #[.slice (some ⟨g9, 0, none⟩) 1 1, .int .i64 3]) w := fun _ => by kernel_rfl
  have HB := HX.block HB0
  have c0 := cellOf HB (i := 0) (v := .slice none 0 0) rfl
  have c1 := cellOf HB (i := 1) (v := .int .i64 0) rfl
  have f0 := freeOf HB 0
  have f1 := freeOf HB 1
  have HSS := qh HH
  have HXX := qh (HX0.trans HX)
  have HR := qh (box_row (v := .slice (some ⟨g9, 0, none⟩) 1 1) (u := .int .i64 3) HB)
  have HZ := qh (show w.heap.size < w2.heap.size from Nat.lt_of_lt_of_le hsz HX.size)
  have C0 := qh c0
  clear HH HX HX0 HB HB0 hsz
  go_wp2
  have hlv := run_loadVar_row (P := Tryz.prog) _ w.heap.size 150 150 #[.slice (some ⟨g9, 0, none⟩) 1 1, .int .i64 3] (0, 0) _ HR.out Tryz.underlying150 rfl (by kernel_rfl)
  refine bodyPost_ret (v := .agg #[.slice (some ⟨g9, 0, none⟩) 1 1, .int .i64 3]) (by simp [results, Tryz.results108, asAddr, hlv]) rfl ?_
  have HE : ∀ {g : Nat} {s : ByteArray}, w2.cell? ⟨g, 0, none⟩ = some (.string s) → ((w2.setCell ⟨w.heap.size, 0, none⟩ (.slice (some ⟨g9, 0, none⟩) 1 1)).setCell ⟨w.heap.size, 1, none⟩ (.int .i64 3)).cell? ⟨g, 0, none⟩ = some (.string s) := fun {g s} h3 => by
    have hne : w.heap.size ≠ g := fun e => by rw [← e, C0.out] at h3; cases h3
    rw [World.cell?_setCell_far _ _ _ _ hne, World.cell?_setCell_far _ _ _ _ hne]; exact h3
  exact ⟨_, rfl, (HXX.out.setCell (p := ⟨w.heap.size, 0, none⟩) (Nat.le_refl _) _).setCell (p := ⟨w.heap.size, 1, none⟩) (Nat.le_refl _) _, .inr ⟨g9, 1, rfl, by decide, HE (HSS.out.cell0 (g := g9) (cs := #[.string ⟨#[108, 105]⟩]) (by simp) rfl)⟩⟩
theorem of_10 (w : World) : Calls Tryz.prog 108 #[.int .i64 10] w (OfIs 10 w) := by
  have HX0 := (Ext.refl w).alloc (.cells #[.slice none 0 0, .int .i64 0] 150)
  have HB0 := heap_alloc_new w (.cells #[.slice none 0 0, .int .i64 0] 150)
  go_enter Tryz.func108, Tryz.ntmps108
  go_wp2_with fail
  obtain ⟨w1, hw1⟩ : ∃ w1 : World, w1 = w.alloc (.cells #[.slice none 0 0, .int .i64 0] 150) := ⟨_, rfl⟩
  have hsz : w.heap.size < w1.heap.size := by rw [hw1]; simp
  rw [← hw1] at HX0 HB0
  rw [← hw1]
  clear hw1
  refine (table_any _).mono ?_
  rintro e w2 ⟨B, g1, g2, g3, g4, g5, g6, g7, g8, g9, g10, g11, g12, g13, g14, g15, g16, rfl, HH, HX⟩
  have i0 : ∀ w : World, (Instr.index 172 (.agg #[.slice none 0 0, .int .i64 1, .slice (some ⟨g1, 0, none⟩) 1 1, .int .i64 2, .slice (some ⟨g2, 0, none⟩) 1 1, .int .i64 3, .slice (some ⟨g3, 0, none⟩) 1 1, .int .i64 3, .slice (some ⟨g4, 0, none⟩) 1 1, .int .i64 3, .slice (some ⟨g5, 0, none⟩) 1 1, .int .i64 3, .slice (some ⟨g6, 0, none⟩) 1 1, .int .i64 2, .slice (some ⟨g7, 0, none⟩) 1 1, .int .i64 2, .slice (some ⟨g8, 0, none⟩) 1 1, .int .i64 2, .slice (some ⟨g9, 0, none⟩) 1 1, .int .i64 3, .slice (some ⟨g10, 0, none⟩) 1 1, .int .i64 4, .slice (some ⟨g11, 0, none⟩) 2 2, .int .i64 4, .slice (some ⟨g12, 0, none⟩) 2 2, .int .i64 4, .slice (some ⟨g13, 0, none⟩) 2 2, .int .i64 4, .slice (some ⟨g14, 0, none⟩) 3 3, .int .i64 4, .slice (some ⟨g15, 0, none⟩) 1 1, .int .i64 4, .slice (some ⟨g16, 0, none⟩) 1 1, .int .i64 5]) (.int .i64 10)).run Tryz.prog w = .ok (.agg #[.slice (some ⟨g10, 0, none⟩) 1 1, .int .i64 4]) w := fun _ => by kernel_rfl
  have HB := HX.block HB0
  have c0 := cellOf HB (i := 0) (v := .slice none 0 0) rfl
  have c1 := cellOf HB (i := 1) (v := .int .i64 0) rfl
  have f0 := freeOf HB 0
  have f1 := freeOf HB 1
  have HSS := qh HH
  have HXX := qh (HX0.trans HX)
  have HR := qh (box_row (v := .slice (some ⟨g10, 0, none⟩) 1 1) (u := .int .i64 4) HB)
  have HZ := qh (show w.heap.size < w2.heap.size from Nat.lt_of_lt_of_le hsz HX.size)
  have C0 := qh c0
  clear HH HX HX0 HB HB0 hsz
  go_wp2
  have hlv := run_loadVar_row (P := Tryz.prog) _ w.heap.size 150 150 #[.slice (some ⟨g10, 0, none⟩) 1 1, .int .i64 4] (0, 0) _ HR.out Tryz.underlying150 rfl (by kernel_rfl)
  refine bodyPost_ret (v := .agg #[.slice (some ⟨g10, 0, none⟩) 1 1, .int .i64 4]) (by simp [results, Tryz.results108, asAddr, hlv]) rfl ?_
  have HE : ∀ {g : Nat} {s : ByteArray}, w2.cell? ⟨g, 0, none⟩ = some (.string s) → ((w2.setCell ⟨w.heap.size, 0, none⟩ (.slice (some ⟨g10, 0, none⟩) 1 1)).setCell ⟨w.heap.size, 1, none⟩ (.int .i64 4)).cell? ⟨g, 0, none⟩ = some (.string s) := fun {g s} h3 => by
    have hne : w.heap.size ≠ g := fun e => by rw [← e, C0.out] at h3; cases h3
    rw [World.cell?_setCell_far _ _ _ _ hne, World.cell?_setCell_far _ _ _ _ hne]; exact h3
  exact ⟨_, rfl, (HXX.out.setCell (p := ⟨w.heap.size, 0, none⟩) (Nat.le_refl _) _).setCell (p := ⟨w.heap.size, 1, none⟩) (Nat.le_refl _) _, .inr ⟨g10, 1, rfl, by decide, HE (HSS.out.cell0 (g := g10) (cs := #[.string ⟨#[97]⟩]) (by simp) rfl)⟩⟩
theorem of_11 (w : World) : Calls Tryz.prog 108 #[.int .i64 11] w (OfIs 11 w) := by
  have HX0 := (Ext.refl w).alloc (.cells #[.slice none 0 0, .int .i64 0] 150)
  have HB0 := heap_alloc_new w (.cells #[.slice none 0 0, .int .i64 0] 150)
  go_enter Tryz.func108, Tryz.ntmps108
  go_wp2_with fail
  obtain ⟨w1, hw1⟩ : ∃ w1 : World, w1 = w.alloc (.cells #[.slice none 0 0, .int .i64 0] 150) := ⟨_, rfl⟩
  have hsz : w.heap.size < w1.heap.size := by rw [hw1]; simp
  rw [← hw1] at HX0 HB0
  rw [← hw1]
  clear hw1
  refine (table_any _).mono ?_
  rintro e w2 ⟨B, g1, g2, g3, g4, g5, g6, g7, g8, g9, g10, g11, g12, g13, g14, g15, g16, rfl, HH, HX⟩
  have i0 : ∀ w : World, (Instr.index 172 (.agg #[.slice none 0 0, .int .i64 1, .slice (some ⟨g1, 0, none⟩) 1 1, .int .i64 2, .slice (some ⟨g2, 0, none⟩) 1 1, .int .i64 3, .slice (some ⟨g3, 0, none⟩) 1 1, .int .i64 3, .slice (some ⟨g4, 0, none⟩) 1 1, .int .i64 3, .slice (some ⟨g5, 0, none⟩) 1 1, .int .i64 3, .slice (some ⟨g6, 0, none⟩) 1 1, .int .i64 2, .slice (some ⟨g7, 0, none⟩) 1 1, .int .i64 2, .slice (some ⟨g8, 0, none⟩) 1 1, .int .i64 2, .slice (some ⟨g9, 0, none⟩) 1 1, .int .i64 3, .slice (some ⟨g10, 0, none⟩) 1 1, .int .i64 4, .slice (some ⟨g11, 0, none⟩) 2 2, .int .i64 4, .slice (some ⟨g12, 0, none⟩) 2 2, .int .i64 4, .slice (some ⟨g13, 0, none⟩) 2 2, .int .i64 4, .slice (some ⟨g14, 0, none⟩) 3 3, .int .i64 4, .slice (some ⟨g15, 0, none⟩) 1 1, .int .i64 4, .slice (some ⟨g16, 0, none⟩) 1 1, .int .i64 5]) (.int .i64 11)).run Tryz.prog w = .ok (.agg #[.slice (some ⟨g11, 0, none⟩) 2 2, .int .i64 4]) w := fun _ => by kernel_rfl
  have HB := HX.block HB0
  have c0 := cellOf HB (i := 0) (v := .slice none 0 0) rfl
  have c1 := cellOf HB (i := 1) (v := .int .i64 0) rfl
  have f0 := freeOf HB 0
  have f1 := freeOf HB 1
  have HSS := qh HH
  have HXX := qh (HX0.trans HX)
  have HR := qh (box_row (v := .slice (some ⟨g11, 0, none⟩) 2 2) (u := .int .i64 4) HB)
  have HZ := qh (show w.heap.size < w2.heap.size from Nat.lt_of_lt_of_le hsz HX.size)
  have C0 := qh c0
  clear HH HX HX0 HB HB0 hsz
  go_wp2
  have hlv := run_loadVar_row (P := Tryz.prog) _ w.heap.size 150 150 #[.slice (some ⟨g11, 0, none⟩) 2 2, .int .i64 4] (0, 0) _ HR.out Tryz.underlying150 rfl (by kernel_rfl)
  refine bodyPost_ret (v := .agg #[.slice (some ⟨g11, 0, none⟩) 2 2, .int .i64 4]) (by simp [results, Tryz.results108, asAddr, hlv]) rfl ?_
  have HE : ∀ {g : Nat} {s : ByteArray}, w2.cell? ⟨g, 0, none⟩ = some (.string s) → ((w2.setCell ⟨w.heap.size, 0, none⟩ (.slice (some ⟨g11, 0, none⟩) 2 2)).setCell ⟨w.heap.size, 1, none⟩ (.int .i64 4)).cell? ⟨g, 0, none⟩ = some (.string s) := fun {g s} h3 => by
    have hne : w.heap.size ≠ g := fun e => by rw [← e, C0.out] at h3; cases h3
    rw [World.cell?_setCell_far _ _ _ _ hne, World.cell?_setCell_far _ _ _ _ hne]; exact h3
  exact ⟨_, rfl, (HXX.out.setCell (p := ⟨w.heap.size, 0, none⟩) (Nat.le_refl _) _).setCell (p := ⟨w.heap.size, 1, none⟩) (Nat.le_refl _) _, .inr ⟨g11, 2, rfl, by decide, HE (HSS.out.cell0 (g := g11) (cs := #[.string ⟨#[98]⟩, .string ⟨#[115, 116, 114, 111, 110, 103]⟩]) (by simp) rfl)⟩⟩
theorem of_12 (w : World) : Calls Tryz.prog 108 #[.int .i64 12] w (OfIs 12 w) := by
  have HX0 := (Ext.refl w).alloc (.cells #[.slice none 0 0, .int .i64 0] 150)
  have HB0 := heap_alloc_new w (.cells #[.slice none 0 0, .int .i64 0] 150)
  go_enter Tryz.func108, Tryz.ntmps108
  go_wp2_with fail
  obtain ⟨w1, hw1⟩ : ∃ w1 : World, w1 = w.alloc (.cells #[.slice none 0 0, .int .i64 0] 150) := ⟨_, rfl⟩
  have hsz : w.heap.size < w1.heap.size := by rw [hw1]; simp
  rw [← hw1] at HX0 HB0
  rw [← hw1]
  clear hw1
  refine (table_any _).mono ?_
  rintro e w2 ⟨B, g1, g2, g3, g4, g5, g6, g7, g8, g9, g10, g11, g12, g13, g14, g15, g16, rfl, HH, HX⟩
  have i0 : ∀ w : World, (Instr.index 172 (.agg #[.slice none 0 0, .int .i64 1, .slice (some ⟨g1, 0, none⟩) 1 1, .int .i64 2, .slice (some ⟨g2, 0, none⟩) 1 1, .int .i64 3, .slice (some ⟨g3, 0, none⟩) 1 1, .int .i64 3, .slice (some ⟨g4, 0, none⟩) 1 1, .int .i64 3, .slice (some ⟨g5, 0, none⟩) 1 1, .int .i64 3, .slice (some ⟨g6, 0, none⟩) 1 1, .int .i64 2, .slice (some ⟨g7, 0, none⟩) 1 1, .int .i64 2, .slice (some ⟨g8, 0, none⟩) 1 1, .int .i64 2, .slice (some ⟨g9, 0, none⟩) 1 1, .int .i64 3, .slice (some ⟨g10, 0, none⟩) 1 1, .int .i64 4, .slice (some ⟨g11, 0, none⟩) 2 2, .int .i64 4, .slice (some ⟨g12, 0, none⟩) 2 2, .int .i64 4, .slice (some ⟨g13, 0, none⟩) 2 2, .int .i64 4, .slice (some ⟨g14, 0, none⟩) 3 3, .int .i64 4, .slice (some ⟨g15, 0, none⟩) 1 1, .int .i64 4, .slice (some ⟨g16, 0, none⟩) 1 1, .int .i64 5]) (.int .i64 12)).run Tryz.prog w = .ok (.agg #[.slice (some ⟨g12, 0, none⟩) 2 2, .int .i64 4]) w := fun _ => by kernel_rfl
  have HB := HX.block HB0
  have c0 := cellOf HB (i := 0) (v := .slice none 0 0) rfl
  have c1 := cellOf HB (i := 1) (v := .int .i64 0) rfl
  have f0 := freeOf HB 0
  have f1 := freeOf HB 1
  have HSS := qh HH
  have HXX := qh (HX0.trans HX)
  have HR := qh (box_row (v := .slice (some ⟨g12, 0, none⟩) 2 2) (u := .int .i64 4) HB)
  have HZ := qh (show w.heap.size < w2.heap.size from Nat.lt_of_lt_of_le hsz HX.size)
  have C0 := qh c0
  clear HH HX HX0 HB HB0 hsz
  go_wp2
  have hlv := run_loadVar_row (P := Tryz.prog) _ w.heap.size 150 150 #[.slice (some ⟨g12, 0, none⟩) 2 2, .int .i64 4] (0, 0) _ HR.out Tryz.underlying150 rfl (by kernel_rfl)
  refine bodyPost_ret (v := .agg #[.slice (some ⟨g12, 0, none⟩) 2 2, .int .i64 4]) (by simp [results, Tryz.results108, asAddr, hlv]) rfl ?_
  have HE : ∀ {g : Nat} {s : ByteArray}, w2.cell? ⟨g, 0, none⟩ = some (.string s) → ((w2.setCell ⟨w.heap.size, 0, none⟩ (.slice (some ⟨g12, 0, none⟩) 2 2)).setCell ⟨w.heap.size, 1, none⟩ (.int .i64 4)).cell? ⟨g, 0, none⟩ = some (.string s) := fun {g s} h3 => by
    have hne : w.heap.size ≠ g := fun e => by rw [← e, C0.out] at h3; cases h3
    rw [World.cell?_setCell_far _ _ _ _ hne, World.cell?_setCell_far _ _ _ _ hne]; exact h3
  exact ⟨_, rfl, (HXX.out.setCell (p := ⟨w.heap.size, 0, none⟩) (Nat.le_refl _) _).setCell (p := ⟨w.heap.size, 1, none⟩) (Nat.le_refl _) _, .inr ⟨g12, 2, rfl, by decide, HE (HSS.out.cell0 (g := g12) (cs := #[.string ⟨#[105]⟩, .string ⟨#[101, 109]⟩]) (by simp) rfl)⟩⟩
theorem of_13 (w : World) : Calls Tryz.prog 108 #[.int .i64 13] w (OfIs 13 w) := by
  have HX0 := (Ext.refl w).alloc (.cells #[.slice none 0 0, .int .i64 0] 150)
  have HB0 := heap_alloc_new w (.cells #[.slice none 0 0, .int .i64 0] 150)
  go_enter Tryz.func108, Tryz.ntmps108
  go_wp2_with fail
  obtain ⟨w1, hw1⟩ : ∃ w1 : World, w1 = w.alloc (.cells #[.slice none 0 0, .int .i64 0] 150) := ⟨_, rfl⟩
  have hsz : w.heap.size < w1.heap.size := by rw [hw1]; simp
  rw [← hw1] at HX0 HB0
  rw [← hw1]
  clear hw1
  refine (table_any _).mono ?_
  rintro e w2 ⟨B, g1, g2, g3, g4, g5, g6, g7, g8, g9, g10, g11, g12, g13, g14, g15, g16, rfl, HH, HX⟩
  have i0 : ∀ w : World, (Instr.index 172 (.agg #[.slice none 0 0, .int .i64 1, .slice (some ⟨g1, 0, none⟩) 1 1, .int .i64 2, .slice (some ⟨g2, 0, none⟩) 1 1, .int .i64 3, .slice (some ⟨g3, 0, none⟩) 1 1, .int .i64 3, .slice (some ⟨g4, 0, none⟩) 1 1, .int .i64 3, .slice (some ⟨g5, 0, none⟩) 1 1, .int .i64 3, .slice (some ⟨g6, 0, none⟩) 1 1, .int .i64 2, .slice (some ⟨g7, 0, none⟩) 1 1, .int .i64 2, .slice (some ⟨g8, 0, none⟩) 1 1, .int .i64 2, .slice (some ⟨g9, 0, none⟩) 1 1, .int .i64 3, .slice (some ⟨g10, 0, none⟩) 1 1, .int .i64 4, .slice (some ⟨g11, 0, none⟩) 2 2, .int .i64 4, .slice (some ⟨g12, 0, none⟩) 2 2, .int .i64 4, .slice (some ⟨g13, 0, none⟩) 2 2, .int .i64 4, .slice (some ⟨g14, 0, none⟩) 3 3, .int .i64 4, .slice (some ⟨g15, 0, none⟩) 1 1, .int .i64 4, .slice (some ⟨g16, 0, none⟩) 1 1, .int .i64 5]) (.int .i64 13)).run Tryz.prog w = .ok (.agg #[.slice (some ⟨g13, 0, none⟩) 2 2, .int .i64 4]) w := fun _ => by kernel_rfl
  have HB := HX.block HB0
  have c0 := cellOf HB (i := 0) (v := .slice none 0 0) rfl
  have c1 := cellOf HB (i := 1) (v := .int .i64 0) rfl
  have f0 := freeOf HB 0
  have f1 := freeOf HB 1
  have HSS := qh HH
  have HXX := qh (HX0.trans HX)
  have HR := qh (box_row (v := .slice (some ⟨g13, 0, none⟩) 2 2) (u := .int .i64 4) HB)
  have HZ := qh (show w.heap.size < w2.heap.size from Nat.lt_of_lt_of_le hsz HX.size)
  have C0 := qh c0
  clear HH HX HX0 HB HB0 hsz
  go_wp2
  have hlv := run_loadVar_row (P := Tryz.prog) _ w.heap.size 150 150 #[.slice (some ⟨g13, 0, none⟩) 2 2, .int .i64 4] (0, 0) _ HR.out Tryz.underlying150 rfl (by kernel_rfl)
  refine bodyPost_ret (v := .agg #[.slice (some ⟨g13, 0, none⟩) 2 2, .int .i64 4]) (by simp [results, Tryz.results108, asAddr, hlv]) rfl ?_
  have HE : ∀ {g : Nat} {s : ByteArray}, w2.cell? ⟨g, 0, none⟩ = some (.string s) → ((w2.setCell ⟨w.heap.size, 0, none⟩ (.slice (some ⟨g13, 0, none⟩) 2 2)).setCell ⟨w.heap.size, 1, none⟩ (.int .i64 4)).cell? ⟨g, 0, none⟩ = some (.string s) := fun {g s} h3 => by
    have hne : w.heap.size ≠ g := fun e => by rw [← e, C0.out] at h3; cases h3
    rw [World.cell?_setCell_far _ _ _ _ hne, World.cell?_setCell_far _ _ _ _ hne]; exact h3
  exact ⟨_, rfl, (HXX.out.setCell (p := ⟨w.heap.size, 0, none⟩) (Nat.le_refl _) _).setCell (p := ⟨w.heap.size, 1, none⟩) (Nat.le_refl _) _, .inr ⟨g13, 2, rfl, by decide, HE (HSS.out.cell0 (g := g13) (cs := #[.string ⟨#[117]⟩, .string ⟨#[105, 110, 115]⟩]) (by simp) rfl)⟩⟩
theorem of_14 (w : World) : Calls Tryz.prog 108 #[.int .i64 14] w (OfIs 14 w) := by
  have HX0 := (Ext.refl w).alloc (.cells #[.slice none 0 0, .int .i64 0] 150)
  have HB0 := heap_alloc_new w (.cells #[.slice none 0 0, .int .i64 0] 150)
  go_enter Tryz.func108, Tryz.ntmps108
  go_wp2_with fail
  obtain ⟨w1, hw1⟩ : ∃ w1 : World, w1 = w.alloc (.cells #[.slice none 0 0, .int .i64 0] 150) := ⟨_, rfl⟩
  have hsz : w.heap.size < w1.heap.size := by rw [hw1]; simp
  rw [← hw1] at HX0 HB0
  rw [← hw1]
  clear hw1
  refine (table_any _).mono ?_
  rintro e w2 ⟨B, g1, g2, g3, g4, g5, g6, g7, g8, g9, g10, g11, g12, g13, g14, g15, g16, rfl, HH, HX⟩
  have i0 : ∀ w : World, (Instr.index 172 (.agg #[.slice none 0 0, .int .i64 1, .slice (some ⟨g1, 0, none⟩) 1 1, .int .i64 2, .slice (some ⟨g2, 0, none⟩) 1 1, .int .i64 3, .slice (some ⟨g3, 0, none⟩) 1 1, .int .i64 3, .slice (some ⟨g4, 0, none⟩) 1 1, .int .i64 3, .slice (some ⟨g5, 0, none⟩) 1 1, .int .i64 3, .slice (some ⟨g6, 0, none⟩) 1 1, .int .i64 2, .slice (some ⟨g7, 0, none⟩) 1 1, .int .i64 2, .slice (some ⟨g8, 0, none⟩) 1 1, .int .i64 2, .slice (some ⟨g9, 0, none⟩) 1 1, .int .i64 3, .slice (some ⟨g10, 0, none⟩) 1 1, .int .i64 4, .slice (some ⟨g11, 0, none⟩) 2 2, .int .i64 4, .slice (some ⟨g12, 0, none⟩) 2 2, .int .i64 4, .slice (some ⟨g13, 0, none⟩) 2 2, .int .i64 4, .slice (some ⟨g14, 0, none⟩) 3 3, .int .i64 4, .slice (some ⟨g15, 0, none⟩) 1 1, .int .i64 4, .slice (some ⟨g16, 0, none⟩) 1 1, .int .i64 5]) (.int .i64 14)).run Tryz.prog w = .ok (.agg #[.slice (some ⟨g14, 0, none⟩) 3 3, .int .i64 4]) w := fun _ => by kernel_rfl
  have HB := HX.block HB0
  have c0 := cellOf HB (i := 0) (v := .slice none 0 0) rfl
  have c1 := cellOf HB (i := 1) (v := .int .i64 0) rfl
  have f0 := freeOf HB 0
  have f1 := freeOf HB 1
  have HSS := qh HH
  have HXX := qh (HX0.trans HX)
  have HR := qh (box_row (v := .slice (some ⟨g14, 0, none⟩) 3 3) (u := .int .i64 4) HB)
  have HZ := qh (show w.heap.size < w2.heap.size from Nat.lt_of_lt_of_le hsz HX.size)
  have C0 := qh c0
  clear HH HX HX0 HB HB0 hsz
  go_wp2
  have hlv := run_loadVar_row (P := Tryz.prog) _ w.heap.size 150 150 #[.slice (some ⟨g14, 0, none⟩) 3 3, .int .i64 4] (0, 0) _ HR.out Tryz.underlying150 rfl (by kernel_rfl)
  refine bodyPost_ret (v := .agg #[.slice (some ⟨g14, 0, none⟩) 3 3, .int .i64 4]) (by simp [results, Tryz.results108, asAddr, hlv]) rfl ?_
  have HE : ∀ {g : Nat} {s : ByteArray}, w2.cell? ⟨g, 0, none⟩ = some (.string s) → ((w2.setCell ⟨w.heap.size, 0, none⟩ (.slice (some ⟨g14, 0, none⟩) 3 3)).setCell ⟨w.heap.size, 1, none⟩ (.int .i64 4)).cell? ⟨g, 0, none⟩ = some (.string s) := fun {g s} h3 => by
    have hne : w.heap.size ≠ g := fun e => by rw [← e, C0.out] at h3; cases h3
    rw [World.cell?_setCell_far _ _ _ _ hne, World.cell?_setCell_far _ _ _ _ hne]; exact h3
  exact ⟨_, rfl, (HXX.out.setCell (p := ⟨w.heap.size, 0, none⟩) (Nat.le_refl _) _).setCell (p := ⟨w.heap.size, 1, none⟩) (Nat.le_refl _) _, .inr ⟨g14, 3, rfl, by decide, HE (HSS.out.cell0 (g := g14) (cs := #[.string ⟨#[115]⟩, .string ⟨#[115, 116, 114, 105, 107, 101]⟩, .string ⟨#[100, 101, 108]⟩]) (by simp) rfl)⟩⟩
theorem of_15 (w : World) : Calls Tryz.prog 108 #[.int .i64 15] w (OfIs 15 w) := by
  have HX0 := (Ext.refl w).alloc (.cells #[.slice none 0 0, .int .i64 0] 150)
  have HB0 := heap_alloc_new w (.cells #[.slice none 0 0, .int .i64 0] 150)
  go_enter Tryz.func108, Tryz.ntmps108
  go_wp2_with fail
  obtain ⟨w1, hw1⟩ : ∃ w1 : World, w1 = w.alloc (.cells #[.slice none 0 0, .int .i64 0] 150) := ⟨_, rfl⟩
  have hsz : w.heap.size < w1.heap.size := by rw [hw1]; simp
  rw [← hw1] at HX0 HB0
  rw [← hw1]
  clear hw1
  refine (table_any _).mono ?_
  rintro e w2 ⟨B, g1, g2, g3, g4, g5, g6, g7, g8, g9, g10, g11, g12, g13, g14, g15, g16, rfl, HH, HX⟩
  have i0 : ∀ w : World, (Instr.index 172 (.agg #[.slice none 0 0, .int .i64 1, .slice (some ⟨g1, 0, none⟩) 1 1, .int .i64 2, .slice (some ⟨g2, 0, none⟩) 1 1, .int .i64 3, .slice (some ⟨g3, 0, none⟩) 1 1, .int .i64 3, .slice (some ⟨g4, 0, none⟩) 1 1, .int .i64 3, .slice (some ⟨g5, 0, none⟩) 1 1, .int .i64 3, .slice (some ⟨g6, 0, none⟩) 1 1, .int .i64 2, .slice (some ⟨g7, 0, none⟩) 1 1, .int .i64 2, .slice (some ⟨g8, 0, none⟩) 1 1, .int .i64 2, .slice (some ⟨g9, 0, none⟩) 1 1, .int .i64 3, .slice (some ⟨g10, 0, none⟩) 1 1, .int .i64 4, .slice (some ⟨g11, 0, none⟩) 2 2, .int .i64 4, .slice (some ⟨g12, 0, none⟩) 2 2, .int .i64 4, .slice (some ⟨g13, 0, none⟩) 2 2, .int .i64 4, .slice (some ⟨g14, 0, none⟩) 3 3, .int .i64 4, .slice (some ⟨g15, 0, none⟩) 1 1, .int .i64 4, .slice (some ⟨g16, 0, none⟩) 1 1, .int .i64 5]) (.int .i64 15)).run Tryz.prog w = .ok (.agg #[.slice (some ⟨g15, 0, none⟩) 1 1, .int .i64 4]) w := fun _ => by kernel_rfl
  have HB := HX.block HB0
  have c0 := cellOf HB (i := 0) (v := .slice none 0 0) rfl
  have c1 := cellOf HB (i := 1) (v := .int .i64 0) rfl
  have f0 := freeOf HB 0
  have f1 := freeOf HB 1
  have HSS := qh HH
  have HXX := qh (HX0.trans HX)
  have HR := qh (box_row (v := .slice (some ⟨g15, 0, none⟩) 1 1) (u := .int .i64 4) HB)
  have HZ := qh (show w.heap.size < w2.heap.size from Nat.lt_of_lt_of_le hsz HX.size)
  have C0 := qh c0
  clear HH HX HX0 HB HB0 hsz
  go_wp2
  have hlv := run_loadVar_row (P := Tryz.prog) _ w.heap.size 150 150 #[.slice (some ⟨g15, 0, none⟩) 1 1, .int .i64 4] (0, 0) _ HR.out Tryz.underlying150 rfl (by kernel_rfl)
  refine bodyPost_ret (v := .agg #[.slice (some ⟨g15, 0, none⟩) 1 1, .int .i64 4]) (by simp [results, Tryz.results108, asAddr, hlv]) rfl ?_
  have HE : ∀ {g : Nat} {s : ByteArray}, w2.cell? ⟨g, 0, none⟩ = some (.string s) → ((w2.setCell ⟨w.heap.size, 0, none⟩ (.slice (some ⟨g15, 0, none⟩) 1 1)).setCell ⟨w.heap.size, 1, none⟩ (.int .i64 4)).cell? ⟨g, 0, none⟩ = some (.string s) := fun {g s} h3 => by
    have hne : w.heap.size ≠ g := fun e => by rw [← e, C0.out] at h3; cases h3
    rw [World.cell?_setCell_far _ _ _ _ hne, World.cell?_setCell_far _ _ _ _ hne]; exact h3
  exact ⟨_, rfl, (HXX.out.setCell (p := ⟨w.heap.size, 0, none⟩) (Nat.le_refl _) _).setCell (p := ⟨w.heap.size, 1, none⟩) (Nat.le_refl _) _, .inr ⟨g15, 1, rfl, by decide, HE (HSS.out.cell0 (g := g15) (cs := #[.string ⟨#[115, 112, 97, 110]⟩]) (by simp) rfl)⟩⟩
theorem of_16 (w : World) : Calls Tryz.prog 108 #[.int .i64 16] w (OfIs 16 w) := by
  have HX0 := (Ext.refl w).alloc (.cells #[.slice none 0 0, .int .i64 0] 150)
  have HB0 := heap_alloc_new w (.cells #[.slice none 0 0, .int .i64 0] 150)
  go_enter Tryz.func108, Tryz.ntmps108
  go_wp2_with fail
  obtain ⟨w1, hw1⟩ : ∃ w1 : World, w1 = w.alloc (.cells #[.slice none 0 0, .int .i64 0] 150) := ⟨_, rfl⟩
  have hsz : w.heap.size < w1.heap.size := by rw [hw1]; simp
  rw [← hw1] at HX0 HB0
  rw [← hw1]
  clear hw1
  refine (table_any _).mono ?_
  rintro e w2 ⟨B, g1, g2, g3, g4, g5, g6, g7, g8, g9, g10, g11, g12, g13, g14, g15, g16, rfl, HH, HX⟩
  have i0 : ∀ w : World, (Instr.index 172 (.agg #[.slice none 0 0, .int .i64 1, .slice (some ⟨g1, 0, none⟩) 1 1, .int .i64 2, .slice (some ⟨g2, 0, none⟩) 1 1, .int .i64 3, .slice (some ⟨g3, 0, none⟩) 1 1, .int .i64 3, .slice (some ⟨g4, 0, none⟩) 1 1, .int .i64 3, .slice (some ⟨g5, 0, none⟩) 1 1, .int .i64 3, .slice (some ⟨g6, 0, none⟩) 1 1, .int .i64 2, .slice (some ⟨g7, 0, none⟩) 1 1, .int .i64 2, .slice (some ⟨g8, 0, none⟩) 1 1, .int .i64 2, .slice (some ⟨g9, 0, none⟩) 1 1, .int .i64 3, .slice (some ⟨g10, 0, none⟩) 1 1, .int .i64 4, .slice (some ⟨g11, 0, none⟩) 2 2, .int .i64 4, .slice (some ⟨g12, 0, none⟩) 2 2, .int .i64 4, .slice (some ⟨g13, 0, none⟩) 2 2, .int .i64 4, .slice (some ⟨g14, 0, none⟩) 3 3, .int .i64 4, .slice (some ⟨g15, 0, none⟩) 1 1, .int .i64 4, .slice (some ⟨g16, 0, none⟩) 1 1, .int .i64 5]) (.int .i64 16)).run Tryz.prog w = .ok (.agg #[.slice (some ⟨g16, 0, none⟩) 1 1, .int .i64 5]) w := fun _ => by kernel_rfl
  have HB := HX.block HB0
  have c0 := cellOf HB (i := 0) (v := .slice none 0 0) rfl
  have c1 := cellOf HB (i := 1) (v := .int .i64 0) rfl
  have f0 := freeOf HB 0
  have f1 := freeOf HB 1
  have HSS := qh HH
  have HXX := qh (HX0.trans HX)
  have HR := qh (box_row (v := .slice (some ⟨g16, 0, none⟩) 1 1) (u := .int .i64 5) HB)
  have HZ := qh (show w.heap.size < w2.heap.size from Nat.lt_of_lt_of_le hsz HX.size)
  have C0 := qh c0
  clear HH HX HX0 HB HB0 hsz
  go_wp2
  have hlv := run_loadVar_row (P := Tryz.prog) _ w.heap.size 150 150 #[.slice (some ⟨g16, 0, none⟩) 1 1, .int .i64 5] (0, 0) _ HR.out Tryz.underlying150 rfl (by kernel_rfl)
  refine bodyPost_ret (v := .agg #[.slice (some ⟨g16, 0, none⟩) 1 1, .int .i64 5]) (by simp [results, Tryz.results108, asAddr, hlv]) rfl ?_
  have HE : ∀ {g : Nat} {s : ByteArray}, w2.cell? ⟨g, 0, none⟩ = some (.string s) → ((w2.setCell ⟨w.heap.size, 0, none⟩ (.slice (some ⟨g16, 0, none⟩) 1 1)).setCell ⟨w.heap.size, 1, none⟩ (.int .i64 5)).cell? ⟨g, 0, none⟩ = some (.string s) := fun {g s} h3 => by
    have hne : w.heap.size ≠ g := fun e => by rw [← e, C0.out] at h3; cases h3
    rw [World.cell?_setCell_far _ _ _ _ hne, World.cell?_setCell_far _ _ _ _ hne]; exact h3
  exact ⟨_, rfl, (HXX.out.setCell (p := ⟨w.heap.size, 0, none⟩) (Nat.le_refl _) _).setCell (p := ⟨w.heap.size, 1, none⟩) (Nat.le_refl _) _, .inr ⟨g16, 1, rfl, by decide, HE (HSS.out.cell0 (g := g16) (cs := #[.string ⟨#[98, 114]⟩]) (by simp) rfl)⟩⟩
theorem of_out (w : World) (t : Int) (h : t < 0 ∨ 16 < t) : Calls Tryz.prog 108 #[.int .i64 t] w (OfIs t w) := by
  have HX0 := (Ext.refl w).alloc (.cells #[.slice none 0 0, .int .i64 0] 150)
  have HB0 := heap_alloc_new w (.cells #[.slice none 0 0, .int .i64 0] 150)
  have e1 : clsT t = 0 := if_pos h
  have e2 : nameT t = ⟨#[]⟩ := by unfold nameT; rw [if_neg (by omega), if_neg (by omega), if_neg (by omega), if_neg (by omega), if_neg (by omega), if_neg (by omega), if_neg (by omega), if_neg (by omega), if_neg (by omega), if_neg (by omega), if_neg (by omega), if_neg (by omega), if_neg (by omega), if_neg (by omega), if_neg (by omega), if_neg (by omega)]
  have HR := qh HB0
  have fin : OfIs t w (.returned (.agg #[.slice none 0 0, .int .i64 0])) (w.alloc (.cells #[.slice none 0 0, .int .i64 0] 150)) :=
    ⟨.slice none 0 0, by rw [e1], HX0, .inl ⟨rfl, e2⟩⟩
  have FIN := qh fin
  clear fin HX0 HB0
  by_cases hneg : t < 0
  · have hn : decide (t < 0) = true := by simpa using hneg
    clear h hneg
    go_enter Tryz.func108, Tryz.ntmps108
    go_wp2_with fail
    have hlv := run_loadVar_row (P := Tryz.prog) _ w.heap.size 150 150 #[.slice none 0 0, .int .i64 0] (0, 0) _ HR.out Tryz.underlying150 rfl (by kernel_rfl)
    exact bodyPost_ret (v := .agg #[.slice none 0 0, .int .i64 0]) (by simp [results, Tryz.results108, asAddr, hlv]) rfl FIN.out
  · have hn : decide (t < 0) = false := by simpa using hneg
    have hn2 : decide (16 < t) = true := by simp; omega
    clear h hneg
    go_enter Tryz.func108, Tryz.ntmps108
    go_wp2_with fail
    have hlv := run_loadVar_row (P := Tryz.prog) _ w.heap.size 150 150 #[.slice none 0 0, .int .i64 0] (0, 0) _ HR.out Tryz.underlying150 rfl (by kernel_rfl)
    exact bodyPost_ret (v := .agg #[.slice none 0 0, .int .i64 0]) (by simp [results, Tryz.results108, asAddr, hlv]) rfl FIN.out
theorem of_any (w : World) (t : Int) : Calls Tryz.prog 108 #[.int .i64 t] w (OfIs t w) := by
  have h : t = 0 ∨ t = 1 ∨ t = 2 ∨ t = 3 ∨ t = 4 ∨ t = 5 ∨ t = 6 ∨ t = 7 ∨ t = 8 ∨ t = 9 ∨ t = 10 ∨ t = 11 ∨ t = 12 ∨ t = 13 ∨ t = 14 ∨ t = 15 ∨ t = 16 ∨ t < 0 ∨ 16 < t := by omega
  rcases h with rfl | rfl | rfl | rfl | rfl | rfl | rfl | rfl | rfl | rfl | rfl | rfl | rfl | rfl | rfl | rfl | rfl | h
  · exact of_0 w
  · exact of_1 w
  · exact of_2 w
  · exact of_3 w
  · exact of_4 w
  · exact of_5 w
  · exact of_6 w
  · exact of_7 w
  · exact of_8 w
  · exact of_9 w
  · exact of_10 w
  · exact of_11 w
  · exact of_12 w
  · exact of_13 w
  · exact of_14 w
  · exact of_15 w
  · exact of_16 w
  · exact of_out w t h
theorem Class_any (w : World) (t : Int) : Calls Tryz.prog 64 #[.int .i64 t] w (RVal (.int .i64 (clsT t)) w) := by
  go_enter Tryz.func64, Tryz.ntmps64
  go_wp2_with fail
  refine (of_any _ t).mono ?_
  rintro e w2 ⟨v, rfl, hx, _⟩
  obtain ⟨c, hc⟩ : ∃ c, clsT t = c := ⟨_, rfl⟩
  rw [hc]
  have HC := qh hc
  clear hc
  have fl : ∀ w : World, (Instr.field 150 (.agg #[v, .int .i64 c]) 1).run Tryz.prog w = .ok (.int .i64 c) w := fun _ => by kernel_rfl
  go_wp2
  go_ret
  exact ⟨by rw [HC.out]; rfl, hx⟩
theorem Name_any (w : World) (t : Int) : Calls Tryz.prog 121 #[.int .i64 t] w (RVal (.string (nameT t)) w) := by
  go_enter Tryz.func121, Tryz.ntmps121
  go_wp2_with fail
  refine (of_any _ t).mono ?_
  rintro e w2 ⟨v, rfl, hx, hv⟩
  generalize clsT t = c at *
  generalize nameT t = nm at *
  have fl : ∀ w : World, (Instr.field 150 (.agg #[v, .int .i64 c]) 0).run Tryz.prog w = .ok v w := fun _ => by kernel_rfl
  rcases hv with ⟨rfl, rfl⟩ | ⟨g, n, rfl, hn, hc⟩
  · go_wp2
    go_ret
    exact ⟨rfl, hx⟩
  · have h0 : decide ((0 : Int) < (n : Int)) = true := by simp; omega
    go_wp2
    go_ret
    exact ⟨rfl, hx⟩
theorem PrA.ext {B b : Nat} {p : Value} {l : List Value} {w w' : World} (h : PrA B b p l w) (k : Ext w w') : PrA B b p l w' := by
  obtain ⟨hB, v, hb, hown, hne⟩ := h
  refine ⟨hB, v, k.block hb, ⟨hown.1, ?_⟩, hne⟩
  rcases hown.2 with hn | ⟨g, cap, cur, fz, hv, hbg, hg, rest⟩
  · exact .inl hn
  · exact .inr ⟨g, cap, cur, fz, hv, hbg, k.block hg, rest⟩
theorem PrF.ext {B b : Nat} {l : List Value} {w w' : World} (h : PrF B b l w) (k : Ext w w') : PrF B b l w' :=
  h.elim (fun x => .inl (PrA.ext x k)) (fun x => .inr (PrA.ext x k))
theorem Kept.node {b : Nat} {w w' : World} (h : Kept b w w') {k : Nat} {cs : Array Value} {fr : Nat × Nat} (hk : w.heap[k]? = some (.cells cs 26 fr)) (hb : k ≠ b) : w'.heap[k]? = some (.cells cs 26 fr) :=
  h k _ hk (fun e => hb (Option.some.inj e)) (fun _ _ e => by cases e)
theorem RowRd.attr {w : World} {a : Addr} {l : List (ByteArray × ByteArray)} {cap n : Nat} (h : RowRd w 2 (.slice (some a) n cap) n (attrCells l)) {k : Nat} {p : ByteArray × ByteArray} (hk : l[k]? = some p) :
    w.cell? (a.add (k * 2)) = some (.string p.1) ∧ w.cell? (a.add (k * 2 + 1)) = some (.string p.2) := by
  obtain ⟨_, ao, cap', e, _, _, hc⟩ := h
  cases e
  obtain ⟨e1, e2⟩ := attrCells_at l k p hk
  exact ⟨hc _ rfl _ _ e1, hc _ rfl _ _ e2⟩
theorem Kept.attr {b : Nat} {w w' : World} (h : Kept b w w') {k : Nat} {cs : Array Value} {fr : Nat × Nat} (hk : w.heap[k]? = some (.cells cs 104 fr)) (hb : k ≠ b) : w'.heap[k]? = some (.cells cs 104 fr) :=
  h k _ hk (fun e => hb (Option.some.inj e)) (fun _ _ e => by cases e)
def Wrote (B b : Nat) (l : List UInt8) (w : World) (e : Ending) (w' : World) : Prop := ∃ m : Nat, e = .returned (.tuple #[.int .i64 m, .nilIface]) ∧ Printed B b l w (.returned (.tuple #[])) w'
theorem Write_any (B b : Nat) (acc : List UInt8) (s : ByteArray) (l : List UInt8) (hs : acc ++ s.data.toList = l) (w : World) (h : PrF B b (Lib.byteCells acc) w) (hlen : acc.length + s.size ≤ 140737488355328) (hBw : B ≤ w.heap.size) :
    Calls Tryz.prog 93 #[.pointer (some ⟨b, 0, none⟩), .string s] w (Wrote B b l w) :=
  (WriteString_k B b _ s w h (by rw [Lib.byteCells_length]; exact hlen) hBw).mono fun e w' hh => ⟨s.size, hh.1, rfl, by rw [← hs, Lib.byteCells_append]; exact .inr hh.2.1, hh.2.2.1, hh.2.2.2⟩
def tailM (n : PN) (nm : List UInt8) (c : Int) (k : Nat) : List UInt8 := (n.attrs.drop k).flatMap attrM ++ [62] ++ if c = 5 then [] else PN.outers n.kids ++ ([60, 47] ++ nm ++ [62])
structure St (w0 w : World) (b : Nat) (cs : Array Value) (acc : List UInt8) (u : World) : Prop where
  pr : PrF w0.heap.size b (Lib.byteCells acc) u
  below : Below w0.heap.size w u
  kept : Kept b w u
  box : u.heap[w.heap.size]? = some (.cells cs 26 (0, 0))
  ext : Ext w0 u
theorem St.more {w0 w u u' : World} {b : Nat} {cs : Array Value} {acc : List UInt8} (h : St w0 w b cs acc u) (x : Ext u u') : St w0 w b cs acc u' :=
  ⟨h.pr.ext x, h.below.trans (Below.mono x (Below.size h.ext)), h.kept.trans (Kept.ext x), x.block h.box, h.ext.trans x⟩
theorem St.printed {w0 w u u' : World} {b : Nat} {cs : Array Value} {acc acc' : List UInt8} (h : St w0 w b cs acc u) (hb : b < w.heap.size) {e : Ending} (k : Printed w0.heap.size b acc' u e u') : St w0 w b cs acc' u' :=
  ⟨k.2.1, h.below.trans k.2.2.1, h.kept.trans k.2.2.2, k.2.2.2.node h.box (by omega), Below.trans h.ext k.2.2.1⟩
def costA (l : List (ByteArray × ByteArray)) : Nat := (l.map fun p => p.1.size + 6 * p.2.size + 4).sum
theorem costA_len (l : List (ByteArray × ByteArray)) : l.length ≤ costA l := by
  induction l with
  | nil => simp
  | cons x r ih => simp only [costA, List.map_cons, List.sum_cons, List.length_cons] at ih ⊢; omega
theorem costA_drop {l : List (ByteArray × ByteArray)} {k : Nat} {p : ByteArray × ByteArray} (h : l[k]? = some p) : l.drop k = p :: l.drop (k + 1) ∧ costA (l.drop k) = p.1.size + 6 * p.2.size + 4 + costA (l.drop (k + 1)) := by
  obtain ⟨hk, e⟩ := List.getElem?_eq_some_iff.1 h
  have : l.drop k = p :: l.drop (k + 1) := by rw [← e]; exact List.drop_eq_getElem_cons hk
  refine ⟨this, ?_⟩
  rw [this]; simp [costA]
theorem node_of {w0 : World} {n : PN} (hin : InnerOk w0 n) : NodeOk w0 n := by
  intro b acc w v hr hx hp hc
  obtain ⟨av, kv, rfl, ha, hk⟩ := hr.open
  obtain ⟨ao, ac, rfl, hac⟩ := ha.len_of
  obtain ⟨ka, kc, rfl, hk1, hk2, hk3, hk4⟩ := hk
  clear hk1 hk2 hk3 hk4
  have hbl := hp.lt
  have hbB : w0.heap.size ≤ b := hp.elim (fun x => x.1) (fun x => x.1)
  have hws := hx.size
  obtain ⟨out, ho⟩ : ∃ out, acc ++ n.outer = out := ⟨_, rfl⟩
  rw [ho]
  rw [PN.outer_eq] at ho
  rw [PN.cost_eq] at hc
  have HO := qh ho
  have HC := qh hc
  have HR := qh hr
  have HA := qh ha
  have HIN := qh hin
  have HX := qh hx
  have x1 := hx.alloc (.cells #[.int .i64 n.tag, .slice ao n.attrs.length ac, .string n.text, .slice ka n.kids.length kc] 26)
  have hb := heap_alloc_new w (.cells #[.int .i64 n.tag, .slice ao n.attrs.length ac, .string n.text, .slice ka n.kids.length kc] 26)
  have p1 := hp.box (.cells #[.int .i64 n.tag, .slice ao n.attrs.length ac, .string n.text, .slice ka n.kids.length kc] 26)
  have k1 : Kept b w (w.alloc (.cells #[.int .i64 n.tag, .slice ao n.attrs.length ac, .string n.text, .slice ka n.kids.length kc] 26)) := Kept.ext ((Ext.refl w).alloc _)
  have b1 : Below w0.heap.size w (w.alloc (.cells #[.int .i64 n.tag, .slice ao n.attrs.length ac, .string n.text, .slice ka n.kids.length kc] 26)) := (Below.refl _ w).alloc hx.size _
  clear ho hc hr ha hin hx hp
  go_enter Tryz.func75, Tryz.ntmps75
  go_upto_region 1 with fail
  obtain ⟨wb, hwb⟩ : ∃ wb : World, wb = w.alloc (.cells #[.int .i64 n.tag, .slice ao n.attrs.length ac, .string n.text, .slice ka n.kids.length kc] 26) := ⟨_, rfl⟩
  have hwbs : w.heap.size < wb.heap.size := by rw [hwb]; simp
  rw [← hwb] at x1 hb p1 k1 b1
  rw [← hwb]
  clear hwb
  have n0 := cellOf hb (i := 0) (v := .int .i64 n.tag) rfl
  have HBX := qh hb
  have HP := qh p1
  have HK := qh k1
  have HB := qh b1
  have HX1 := qh x1
  have HWS := qh hwbs
  clear hb p1 k1 b1 x1 hwbs
  go_wp2_with fail
  refine (Class_any _ n.tag).mono ?_
  rintro e w1 ⟨rfl, y1⟩
  have hb := y1.block HBX.out
  have P1 := qh (HP.out.ext y1)
  have K1 := qh (HK.out.trans (Kept.ext y1))
  have B1 := qh (HB.out.trans (Below.mono y1 HX1.out.size))
  have X1 := qh (HX1.out.trans' (Below.mono y1 HX1.out.size))
  have S1 := qh (Nat.lt_of_lt_of_le HWS.out y1.size)
  have BX1 := qh hb
  have n0 := cellOf hb (i := 0) (v := .int .i64 n.tag) rfl
  have n1 := cellOf hb (i := 1) (v := .slice ao n.attrs.length ac) rfl
  have n2 := cellOf hb (i := 2) (v := .string n.text) rfl
  have n3 := cellOf hb (i := 3) (v := .slice ka n.kids.length kc) rfl
  clear hb y1
  obtain ⟨c, hcl⟩ : ∃ c, clsT n.tag = c := ⟨_, rfl⟩
  rw [hcl]
  have HO2 := HO.out
  rw [hcl] at HO2
  have HO3 := qh HO2
  clear HO2
  have CL := qh hcl
  clear hcl
  rcases tagB c with hc0 | hc0
  · -- no tag
    have e0 : c = 0 := by simpa using hc0
    have t0 : ¬ n.tag = 0 := fun e => by have := CL.out; rw [e, e0] at this; exact absurd this (by decide)
    have eo : acc ++ PN.outers n.kids = out := by rw [← HO3.out, if_neg t0, if_pos e0]
    have hcall := HIN.out b acc w1 _ HR.out X1.out P1.out (by have := HC.out; omega)
    rw [show n.inner = PN.outers n.kids from if_neg t0, eo] at hcall
    have HCALL := qh hcall
    clear hcall
    go_wp2_with fail
    refine HCALL.out.mono ?_
    rintro e w2 ⟨rfl, h1, b1, k1⟩
    go_wp2
    go_end0
    exact ⟨rfl, h1, B1.out.trans b1, K1.out.trans k1⟩
  have hc1 : (c == 1) = true ∨ (c == 1) = false := by cases h : (c == 1); exact .inr rfl; exact .inl rfl
  rcases hc1 with hc1 | hc1
  · -- a text
    have e1 : c = 1 := by simpa using hc1
    have t0 : n.tag = 0 := by
      have := CL.out
      rw [e1] at this
      unfold clsT at this
      repeat' split at this
      all_goals first | omega | assumption
    have eo : acc ++ esc false n.text = out := by rw [← HO3.out, if_pos t0]
    have hcall := chars_any w0.heap.size b acc n.text false w1 P1.out (by have := HC.out; omega) X1.out.size
    rw [eo] at hcall
    have HCALL := qh hcall
    clear hcall
    go_wp2_with fail
    refine HCALL.out.mono ?_
    rintro e w2 ⟨rfl, h1, b1, k1⟩
    go_wp2
    go_end0
    exact ⟨rfl, h1, B1.out.trans b1, K1.out.trans k1⟩
  -- an element
  have e0 : ¬ c = 0 := by simpa using hc0
  have t0 : ¬ n.tag = 0 := fun e => by
    have := CL.out
    rw [e] at this
    have h1 : ¬ c = 1 := by simpa using hc1
    exact h1 (this.symm.trans (by decide))
  have eo : acc ++ (60 :: (nameT n.tag).data.toList ++ tailM n (nameT n.tag).data.toList c 0) = out := by
    rw [← HO3.out, if_neg t0, if_neg e0]
    simp only [tailM, List.drop_zero, List.append_assoc]
  have nml := nameT_len n.tag
  have HEO := qh eo
  have T0 := qh t0
  clear eo e0 t0
  have s1 : St w0 w b #[.int .i64 n.tag, .slice ao n.attrs.length ac, .string n.text, .slice ka n.kids.length kc] acc w1 := ⟨P1.out, B1.out, K1.out, BX1.out, X1.out⟩
  have SS1 := qh s1
  clear s1 HP HK HB HX1 HWS HBX K1 B1
  go_wp2_with fail
  refine (Name_any _ n.tag).mono ?_
  rintro e w2 ⟨rfl, y2⟩
  have s2 := SS1.out.more y2
  have S2 := qh s2
  have n1 := cellOf s2.box (i := 1) (v := .slice ao n.attrs.length ac) rfl
  clear n0 n1 n2 n3 y2
  obtain ⟨nm, hnm⟩ : ∃ nm, nameT n.tag = nm := ⟨_, rfl⟩
  rw [hnm] at nml ⊢
  have EO := HEO.out
  rw [hnm] at EO
  have HEO2 := qh EO
  clear EO hnm
  have nms : nm.size ≤ 10 := nml
  have hac1 : acc.length + costA n.attrs + 27 + PN.costs n.kids ≤ 100000000000000 := by have := HC.out; unfold costA; omega
  have HAC := qh hac1
  have hl1 : acc.length + (⟨#[60]⟩ ++ nm : ByteArray).size ≤ 140737488355328 := by rw [ByteArray.size_append]; show acc.length + (1 + nm.size) ≤ _; omega
  go_wp2_with fail
  refine (Write_any _ b acc _ (acc ++ 60 :: nm.data.toList) (by simp) _ s2.pr hl1 s2.ext.size).mono ?_
  rintro e w3 ⟨m3, rfl, hw⟩
  have s3 := S2.out.printed hbl hw
  have S3 := qh s3
  have n1 := cellOf s3.box (i := 1) (v := .slice ao n.attrs.length ac) rfl
  clear hw s2 hl1 hac1 s3
  go_wp2_with fail
  have hcar : acc.length + 11 + costA n.attrs + 16 + PN.costs n.kids ≤ 100000000000000 := by have := HAC.out; omega
  have hfit : acc ++ 60 :: nm.data.toList ++ tailM n nm.data.toList c 0 = out := by rw [← HEO2.out]; simp
  have hlen : (acc ++ 60 :: nm.data.toList).length + costA (n.attrs.drop 0) + 16 + PN.costs n.kids ≤ 100000000000000 := by
    rw [List.length_append, List.drop_zero, List.length_cons]
    have : nm.data.toList.length = nm.size := rfl
    have := HAC.out
    omega
  have hatl : n.attrs.length ≤ 100000000000000 := by have := costA_len n.attrs; have := HAC.out; omega
  have HFIT := qh hfit
  have HLEN := qh hlen
  clear hcar hfit hlen
  go_loopw [7, 35] (fun _ i wr => ∃ (k : Nat) (ac' : List UInt8), k ≤ n.attrs.length ∧ i = .int .i64 k ∧ St w0 w b #[.int .i64 n.tag, .slice ao n.attrs.length ac, .string n.text, .slice ka n.kids.length kc] ac' wr ∧ ac' ++ tailM n nm.data.toList c k = out ∧ ac'.length + costA (n.attrs.drop k) + 16 + PN.costs n.kids ≤ 100000000000000) (fun _ i _ => n.attrs.length - (intOf i).toNat)
  case atStart => exact ⟨0, acc ++ 60 :: nm.data.toList, Nat.zero_le _, rfl, S3.out, HFIT.out, HLEN.out⟩
  case round =>
    obtain ⟨k, ac', hk, rfl, sr, hfit, hlen⟩ := hrel
    by_cases hlt : k < n.attrs.length
    · obtain ⟨p, hp⟩ : ∃ p, n.attrs[k]? = some p := ⟨n.attrs[k], by simp [hlt]⟩
      cases ao with
      | none =>
        obtain ⟨_, ao', cap', e, _, h0, _⟩ := HA.out
        cases e
        exact absurd (h0 rfl).1 (by omega)
      | some a =>
        obtain ⟨bk, off, sp⟩ := a
        have hra : RowRd wr 2 (.slice (some ⟨bk, off, sp⟩) n.attrs.length ac) n.attrs.length (attrCells n.attrs) := HA.out.ext sr.ext
        obtain ⟨q0, q1⟩ := hra.attr hp
        rw [add_later _ _ _ (by decide)] at q1
        obtain ⟨hd1, hd2⟩ := costA_drop hp
        have hfit2 : ac' ++ ((32 :: p.1.data.toList ++ [61, 34]) ++ (esc true p.2 ++ ([34] ++ tailM n nm.data.toList c (k + 1)))) = out := by
          rw [← hfit]; unfold tailM; rw [hd1, List.flatMap_cons, attrM]; simp
        have HF2 := qh hfit2
        have hl2 : ac'.length + (p.1.size + 6 * p.2.size + 4) + costA (n.attrs.drop (k + 1)) + 16 + PN.costs n.kids ≤ 100000000000000 := by rw [hd2] at hlen; omega
        have HL2 := qh hl2
        have SR := qh sr
        have xb := (Ext.refl wr).alloc (.cells #[.string p.1, .string p.2] 104)
        have bb := heap_alloc_new wr (.cells #[.string p.1, .string p.2] 104)
        clear hfit hlen hfit2 hl2 sr hd1 hd2 hra hp
        go_upto_region 12 with fail
        obtain ⟨wz, hwz⟩ : ∃ wz : World, wz = wr.alloc (.cells #[.string p.1, .string p.2] 104) := ⟨_, rfl⟩
        rw [← hwz] at xb bb ⊢
        have hne : wr.heap.size ≠ b := by
          have := SR.out.below.size
          have := hbl
          omega
        clear hwz q0 q1
        have c0 := cellOf bb (i := 0) (v := .string p.1) rfl
        have BB := qh bb
        have SZ := qh (SR.out.more (xb.drew))
        clear xb bb
        have hw1 : ac'.length + (⟨#[32]⟩ ++ p.1 ++ ⟨#[61, 34]⟩ : ByteArray).size ≤ 140737488355328 := by rw [ByteArray.size_append, ByteArray.size_append]; show ac'.length + (1 + p.1.size + 2) ≤ _; have := HL2.out; omega
        have HW1 := qh hw1
        clear hw1
        have hz1 : (⟨#[32]⟩ : ByteArray).size + p.1.size ≤ 9223372036854775807 := by show 1 + p.1.size ≤ _; have := HL2.out; omega
        have hz2 : (⟨#[32]⟩ ++ p.1 : ByteArray).size + (⟨#[61, 34]⟩ : ByteArray).size ≤ 9223372036854775807 := by rw [ByteArray.size_append]; show 1 + p.1.size + 2 ≤ _; have := HL2.out; omega
        have e1 : ∀ W : World, (Op.stringOp .add ⟨#[32]⟩ p.1).run Tryz.prog W = .ok (.string (⟨#[32]⟩ ++ p.1)) W := fun W => run_string_add_sum W _ _ hz1
        have e2 : ∀ W : World, (Op.stringOp .add (⟨#[32]⟩ ++ p.1) ⟨#[61, 34]⟩).run Tryz.prog W = .ok (.string (⟨#[32]⟩ ++ p.1 ++ ⟨#[61, 34]⟩)) W := fun W => run_string_add_sum W _ _ hz2
        go_region_held3 (fun w' => w'.cell? ⟨wr.heap.size, 0, none⟩ = some (.string p.1)) (first | exact c0 | exact hkeep | go_keep)
          ((go_at_call 93; refine (Write_any _ b ac' _ (ac' ++ (32 :: p.1.data.toList ++ [61, 34])) (by simp) _ SZ.out.pr HW1.out SZ.out.ext.size).mono ?_; rintro e wA ⟨mA, rfl, hw⟩; have bA := hw.2.2.2.attr (show wz.drew.heap[wr.heap.size]? = _ from BB.out) hne; have SA := qh (SZ.out.printed hbl hw); have hkeep := cellOf bA (i := 0) (v := .string p.1) rfl; have c1 := cellOf bA (i := 1) (v := .string p.2) rfl; clear hw bA))
        have HLA : (ac' ++ (32 :: p.1.data.toList ++ [61, 34])).length = ac'.length + p.1.size + 3 := by
          have : p.1.data.toList.length = p.1.size := rfl
          simp only [List.length_append, List.length_cons, List.length_nil]; omega
        have HCH := qh (chars_any w0.heap.size b (ac' ++ (32 :: p.1.data.toList ++ [61, 34])) p.2 true wA SA.out.pr (by rw [HLA]; have := HL2.out; omega) SA.out.ext.size)
        clear c0 e1 e2 hz1 hz2
        go_wp2_with (go_at_call 120; refine HCH.out.mono ?_)
        rintro e wB ⟨rfl, hw2⟩
        have SB := SA.out.printed hbl (e := .returned (.tuple #[])) ⟨rfl, hw2⟩
        have SBH := qh SB
        have hlB : (ac' ++ (32 :: p.1.data.toList ++ [61, 34]) ++ esc true p.2).length + (⟨#[34]⟩ : ByteArray).size ≤ 140737488355328 := by
          rw [List.length_append, HLA]
          have := esc_len true p.2
          have := HL2.out
          show _ + 1 ≤ _
          omega
        clear hw2 c1 hkeep
        go_wp2_with (go_at_call 93; refine (Write_any _ b _ _ (ac' ++ (32 :: p.1.data.toList ++ [61, 34]) ++ esc true p.2 ++ [34]) rfl _ SB.pr hlB SB.ext.size).mono ?_)
        rintro e wC ⟨mC, rfl, hw3⟩
        have SC := qh (SBH.out.printed hbl hw3)
        clear hw3 SB hlB
        go_wp2_with fail
        go_roundw
        case rel =>
          refine ⟨k + 1, ac' ++ (32 :: p.1.data.toList ++ [61, 34]) ++ esc true p.2 ++ [34], by omega, by go_num, SC.out, by rw [← HF2.out]; simp, ?_⟩
          rw [List.length_append, List.length_append, HLA]
          have := esc_len true p.2
          have := HL2.out
          show _ + _ + 1 + _ + 16 + _ ≤ _
          omega
        case measure => simp [intOf]; omega
    · obtain rfl : k = n.attrs.length := by omega
      have SR := qh sr
      rw [List.drop_length] at hlen
      have ht : tailM n nm.data.toList c n.attrs.length = 62 :: if c = 5 then [] else PN.outers n.kids ++ ([60, 47] ++ nm.data.toList ++ [62]) := by unfold tailM; rw [List.drop_length]; simp
      rw [ht] at hfit
      have HFT := qh hfit
      have HLN := qh (show ac'.length + 16 + PN.costs n.kids ≤ 100000000000000 by simp [costA] at hlen; omega)
      have hlD : ac'.length + (⟨#[62]⟩ : ByteArray).size ≤ 140737488355328 := by show _ + 1 ≤ _; have := HLN.out; omega
      clear hfit hlen ht
      go_wp2_with (go_at_call 93; refine (Write_any _ b _ _ (ac' ++ [62]) rfl _ sr.pr hlD sr.ext.size).mono ?_)
      rintro e wD ⟨mD, rfl, hw4⟩
      have sd := SR.out.printed hbl hw4
      have SD := qh sd
      clear hw4 sr hlD
      have hc5 : (c == 5) = true ∨ (c == 5) = false := by cases h : (c == 5); exact .inr rfl; exact .inl rfl
      rcases hc5 with hc5 | hc5
      · have e5 : c = 5 := by simpa using hc5
        have eo : ac' ++ [62] = out := by rw [← HFT.out, if_pos e5]
        clear sd
        go_wp2_with fail
        go_end0
        rw [← eo]
        exact ⟨rfl, SD.out.pr, SD.out.below, SD.out.kept⟩
      · have e5 : ¬ c = 5 := by simpa using hc5
        have eo : ac' ++ [62] ++ PN.outers n.kids ++ (60 :: 47 :: nm.data.toList ++ [62]) = out := by rw [← HFT.out, if_neg e5]; simp
        have EO5 := qh eo
        have n0 := cellOf sd.box (i := 0) (v := .int .i64 n.tag) rfl
        have n1 := cellOf sd.box (i := 1) (v := .slice ao n.attrs.length ac) rfl
        have n2 := cellOf sd.box (i := 2) (v := .string n.text) rfl
        have n3 := cellOf sd.box (i := 3) (v := .slice ka n.kids.length kc) rfl
        have hcall := HIN.out b (ac' ++ [62]) wD _ HR.out sd.ext sd.pr (by rw [List.length_append]; show _ + 1 + _ ≤ _; have := HLN.out; omega)
        rw [show n.inner = PN.outers n.kids from if_neg T0.out] at hcall
        have HCALL := qh hcall
        clear hcall sd eo e5
        go_wp2_with (go_at_call 37; refine HCALL.out.mono ?_)
        rintro e wE ⟨rfl, hw5⟩
        have se := SD.out.printed hbl (e := .returned (.tuple #[])) ⟨rfl, hw5⟩
        have SE := qh se
        have hle : (ac' ++ [62] ++ PN.outers n.kids).length ≤ ac'.length + 1 + PN.costs n.kids := by
          have := PN.outers_len (l := n.kids) fun z _ => z.outer_len
          rw [List.length_append, List.length_append]; show _ + 1 + _ ≤ _; omega
        have hz1 : (⟨#[60, 47]⟩ : ByteArray).size + nm.size ≤ 9223372036854775807 := by show 2 + nm.size ≤ _; omega
        have hz2 : (⟨#[60, 47]⟩ ++ nm : ByteArray).size + (⟨#[62]⟩ : ByteArray).size ≤ 9223372036854775807 := by rw [ByteArray.size_append]; show 2 + nm.size + 1 ≤ _; omega
        have hlE : (ac' ++ [62] ++ PN.outers n.kids).length + (⟨#[60, 47]⟩ ++ nm ++ ⟨#[62]⟩ : ByteArray).size ≤ 140737488355328 := by
          rw [ByteArray.size_append, ByteArray.size_append]
          show _ + (2 + nm.size + 1) ≤ _
          have := HLN.out
          omega
        have HLE := qh hlE
        have e1 : ∀ W : World, (Op.stringOp .add ⟨#[60, 47]⟩ nm).run Tryz.prog W = .ok (.string (⟨#[60, 47]⟩ ++ nm)) W := fun W => run_string_add_sum W _ _ hz1
        have e2 : ∀ W : World, (Op.stringOp .add (⟨#[60, 47]⟩ ++ nm) ⟨#[62]⟩).run Tryz.prog W = .ok (.string (⟨#[60, 47]⟩ ++ nm ++ ⟨#[62]⟩)) W := fun W => run_string_add_sum W _ _ hz2
        clear hw5 n0 n1 n2 n3 hle hlE se
        go_wp2_with (go_at_call 93; refine (Write_any _ b _ _ out (by rw [← EO5.out]; simp) _ SE.out.pr HLE.out SE.out.ext.size).mono ?_)
        rintro e wF ⟨mF, rfl, hw6⟩
        have SF := qh (SE.out.printed hbl hw6)
        clear hw6
        go_wp2_with fail
        go_end0
        exact ⟨rfl, SF.out.pr, SF.out.below, SF.out.kept⟩
theorem node_any (w0 : World) : ∀ n : PN, NodeOk w0 n := by
  refine PN.induct _ fun n ih => node_of (inner_of ih)
theorem inner_any (w0 : World) (n : PN) : InnerOk w0 n := inner_of fun k _ => node_any w0 k
end Go.Proofs.YtalaajbajgdglaaGreatDoor
namespace Go.Proofs.YtalaajbajgdglaaGreatDoor
open Go
theorem byte_mem {s : ByteArray} {c : UInt8} : c ∈ s.data.toList ↔ ∃ (j : Nat) (h : j < s.size), s[j]'h = c := by
  rw [List.mem_iff_getElem]
  constructor
  · rintro ⟨j, h, e⟩; exact ⟨j, h, e⟩
  · rintro ⟨j, h, e⟩; exact ⟨j, h, e⟩
theorem nameOk_iff (s : ByteArray) : nameOk s = true ↔ (1 ≤ s.size ∧ s.size ≤ 16) ∧ ∀ j (h : j < s.size), nameR (decide (j = 0)) ((s[j]'h).toNat : Int) = true := by
  unfold nameOk
  simp only [Bool.and_eq_true, decide_eq_true_eq, List.all_eq_true]
  have hh : ∀ h : 0 < s.size, s.data.toList.head? = some (s[0]'h) := fun h => by
    rw [List.head?_eq_getElem?, List.getElem?_eq_getElem (by exact h)]; rfl
  constructor
  · rintro ⟨⟨h1, h2⟩, h3⟩
    refine ⟨h1, fun j hj => ?_⟩
    have a := h3 _ (byte_mem.2 ⟨j, hj, rfl⟩)
    rw [hh (by omega)] at h2
    simp only [Option.any_some, decide_eq_true_eq] at h2
    unfold nameR
    by_cases hz : j = 0
    · subst hz
      simp only [decide_true, Bool.or_eq_true, decide_eq_true_eq]
      exact .inl (by omega)
    · simp only [hz, decide_false, Bool.or_eq_true, Bool.not_false, Bool.true_and, decide_eq_true_eq]
      omega
  · rintro ⟨h1, h2⟩
    refine ⟨⟨h1, ?_⟩, fun c hc => ?_⟩
    · rw [hh (by omega)]
      have := h2 0 (by omega)
      unfold nameR at this
      simp only [decide_true, Bool.not_true, Bool.false_and, Bool.or_false, decide_eq_true_eq] at this
      simp only [Option.any_some, decide_eq_true_eq]
      omega
    · obtain ⟨j, hj, rfl⟩ := byte_mem.1 hc
      have := h2 j hj
      unfold nameR at this
      simp only [Bool.or_eq_true, Bool.and_eq_true, decide_eq_true_eq] at this
      omega
theorem name_step {s : ByteArray} (h : nameOk s = true) {pos : Nat} (hp : pos < s.size) : nameR (decide (pos = 0)) (Int.ofNat (Utf8.decode s pos).1) = true := by
  have a := ((nameOk_iff s).1 h).2 pos hp
  have b := nameR_small a
  rw [decode_ascii s pos hp (by omega)]
  exact a
theorem name_next {s : ByteArray} {pos : Nat} (hp : pos < s.size) (h : nameR (decide (pos = 0)) (Int.ofNat (Utf8.decode s pos).1) = true) :
    (Utf8.decode s pos).2 = 1 ∧ nameR (decide (pos = 0)) ((s[pos]'hp).toNat : Int) = true := by
  have b := nameR_small h
  have c := (decode_small s hp (by have := b.2; simp at this; omega)).1
  rw [c] at h ⊢
  exact ⟨rfl, h⟩
theorem attrsMay_iff (l : List (ByteArray × ByteArray)) : attrsMay l = true ↔ ∀ (i : Nat) a, l[i]? = some a → nameOk a.1 = true ∧ valueOk a.2 = true ∧ attrAt l a.1 = i := by
  unfold attrsMay
  rw [List.all_eq_true]
  constructor
  · intro h i a hi
    have := h (a, i) (by rw [List.mk_mem_zipIdx_iff_getElem?]; exact hi)
    simp only [Bool.and_eq_true, decide_eq_true_eq] at this
    exact ⟨this.1.1, this.1.2, this.2⟩
  · rintro h ⟨a, i⟩ hm
    rw [List.mk_mem_zipIdx_iff_getElem?] at hm
    have := h i a hm
    simp only [Bool.and_eq_true, decide_eq_true_eq]
    exact ⟨⟨this.1, this.2.1⟩, this.2.2⟩
theorem attrAt_hit {l : List (ByteArray × ByteArray)} {n : ByteArray} {k : Nat} {a : ByteArray × ByteArray} (h : l[k]? = some a) (e : a.1 = n) (hb : ∀ (j : Nat) x, j < k → l[j]? = some x → x.1 ≠ n) : attrAt l n = k := by
  obtain ⟨hk, ha⟩ := List.getElem?_eq_some_iff.1 h
  have : l.findIdx? (fun a => decide (a.1 = n)) = some k := by
    rw [List.findIdx?_eq_some_iff_getElem]
    refine ⟨hk, by rw [ha]; simpa using e, fun j hj => ?_⟩
    have := hb j _ hj (List.getElem?_eq_getElem (by omega))
    simpa using this
  unfold attrAt; rw [this]
theorem attrAt_none {l : List (ByteArray × ByteArray)} {n : ByteArray} (hb : ∀ (j : Nat) x, l[j]? = some x → x.1 ≠ n) : attrAt l n = -1 := by
  have : l.findIdx? (fun a => decide (a.1 = n)) = none := by
    rw [List.findIdx?_eq_none_iff]
    intro x hx
    obtain ⟨j, hj⟩ := List.mem_iff_getElem?.1 hx
    have := hb j x hj
    simpa using this
  unfold attrAt; rw [this]
end Go.Proofs.YtalaajbajgdglaaGreatDoor
namespace Go.Proofs.YtalaajbajgdglaaGreatDoor
open Go Go.RowKit Go.BigFrame
def Buf (W0 : World) (v : Value) (l : List UInt8) (w : World) : Prop := ∃ (g cap : Nat) (cur : Array Value) (fz : Nat × Nat), v = .slice (some ⟨g, 0, none⟩) l.length cap ∧ W0.heap.size ≤ g ∧ w.heap[g]? = some (.cells cur 5 fz) ∧
  (fz.2 ≤ l.length ∨ cap ≤ fz.1) ∧ l.length ≤ cap ∧ cap ≤ maxLen ∧ cur.size = cap ∧ cur.toList.take l.length = Lib.byteCells l ∧ Below W0.heap.size W0 w ∧ W0.heap.size ≤ w.heap.size
theorem Buf.at {W0 w : World} {v : Value} {l : List UInt8} (h : Buf W0 v l w) : ∃ g cap cur fz, v = .slice (some ⟨g, 0, none⟩) l.length cap ∧ W0.heap.size ≤ g ∧ w.heap[g]? = some (.cells cur 5 fz) ∧ cur.toList.take l.length = Lib.byteCells l := by
  obtain ⟨g, cap, cur, fz, h1, h2, h3, _, _, _, _, h8, _⟩ := h
  exact ⟨g, cap, cur, fz, h1, h2, h3, h8⟩
theorem Buf.cells {W0 w : World} {v : Value} {l : List UInt8} (h : Buf W0 v l w) {g n cap : Nat} (hv : v = .slice (some ⟨g, 0, none⟩) n cap) : ∀ j u, (Lib.byteCells l)[j]? = some u → w.cell? ((⟨g, 0, none⟩ : Addr).add j) = some u := by
  obtain ⟨g', cap', cur, fz, h1, h2, h3, _, _, _, _, h8, _⟩ := h
  rw [hv] at h1
  cases h1
  intro j u hj
  rw [Addr.add_lit, Nat.zero_add]
  refine cellOf h3 ?_
  rw [← h8, List.getElem?_take] at hj
  split at hj
  · rw [← Array.getElem?_toList]; exact hj
  · cases hj
theorem Buf.ex {W0 w : World} {v : Value} {l : List UInt8} (h : Buf W0 v l w) : Ext W0 w := by
  obtain ⟨g, cap, cur, fz, _, _, _, _, _, _, _, _, h9, _⟩ := h; exact h9
theorem Buf.ext {W0 w w' : World} {v : Value} {l : List UInt8} (h : Buf W0 v l w) (k : Ext w w') : Buf W0 v l w' := by
  obtain ⟨g, cap, cur, fz, h1, h2, h3, h4, h5, h6, h7, h8, h9, h10⟩ := h
  exact ⟨g, cap, cur, fz, h1, h2, k.block h3, h4, h5, h6, h7, h8, Below.trans h9 (Below.mono k h10), Nat.le_trans h10 k.size⟩
theorem run_toBytes (w : World) (s : ByteArray) (hs : s.size ≤ 140737488355328) : ∃ v w', (Go.convert 9 71 (.string s)).run Tryz.prog w = .ok v w' ∧ Buf w v s.data.toList w' := by
  have hsz : s.data.toList.length = s.size := rfl
  have hge := grownCap_ge w s.size 0 5
  have hcm := grownCap_le_maxLen w s.size 0 5 (by unfold maxLen; omega)
  have hcs : (Lib.bytesCells w 5 s).size = grownCap w s.size 0 5 := by
    unfold Lib.bytesCells
    simp
    show s.size + _ = _
    omega
  refine ⟨_, _, Lib.run_convert_string_bytes w 9 71 5 s Tryz.underlying9 Tryz.underlying71 Tryz.underlying5, w.heap.size, _, _, _, rfl, Nat.le_refl _, Lib.bytesWorld_at_new w 5 s, .inr ?_, ?_, hcm, hcs, ?_, Joins.below_bytesWorld _ w _ s (Nat.le_refl _), ?_⟩
  · exact Nat.le_of_eq hcs.symm
  · rw [hsz]; exact hge
  · unfold Lib.bytesCells Lib.byteCells
    simp
  · rw [Lib.bytesWorld_size]; omega
theorem run_ofBytes {W0 w : World} {v : Value} {l : List UInt8} (h : Buf W0 v l w) : (Go.convert 71 9 v).run Tryz.prog w = .ok (.string ⟨l.toArray⟩) w := by
  obtain ⟨g, cap, cur, fz, hv, _, _, _⟩ := h.at
  rw [hv]
  refine run_convert_bytes_back w 71 9 5 ⟨g, 0, none⟩ cap l Tryz.underlying71 Tryz.underlying5 Tryz.underlying9 fun j hj => ?_
  refine h.cells hv j _ ?_
  unfold Lib.byteCells
  simp [hj]
theorem Ext.iterAt {w wr : World} (h : Ext w wr) {k : Nat} (hk : w.heap.size ≤ k) (s : ByteArray) (pos : Nat) : Ext w (wr.iterAt k s pos) := Lib.below_iterAt h hk s pos
theorem ValidRune_ok (r : Int) (h : Utf8.valid r = true) (w : World) : Calls Tryz.prog 172 #[.int .i32 r] w (RBool true w) := by
  obtain ⟨n, rfl, hn⟩ := valid_cases h
  have h0 : (0 : Int) ≤ (n : Int) := by omega
  have x := Ext.refl w
  clear h
  by_cases h1 : n < 55296
  · have h2 : (n : Int) < 55296 := by omega
    clear hn h1
    go_enter Tryz.func172, Tryz.ntmps172
    go_wp2
    go_ret
    exact ⟨rfl, x⟩
  · have h2 : ¬ (n : Int) < 55296 := by omega
    have h3 : (57343 : Int) < (n : Int) := by omega
    have h4 : (n : Int) ≤ 1114111 := by omega
    clear hn h1
    go_enter Tryz.func172, Tryz.ntmps172
    go_wp2
    go_ret
    exact ⟨rfl, x⟩
def ClassIs (r : Int) (w : World) (e : Ending) (w' : World) : Prop := ∃ k : Int, e = .returned (.int .i64 k) ∧ decide (1 < k) = mayR r ∧ Ext w w'
theorem CClass_any (r : Int) (h : Utf8.valid r = true) (w : World) : Calls Tryz.prog 187 #[.int .i32 r] w (ClassIs r w) := by
  have hv := ValidRune_ok r h w
  obtain ⟨n, rfl, hn⟩ := valid_cases h
  have HV := qh hv
  have fin : ∀ (k : Int) (w' : World), decide (1 < k) = mayR (n : Int) → Ext w w' → ClassIs (n : Int) w (.returned (.int .i64 k)) w' := fun k w' h1 h2 => ⟨k, rfl, h1, h2⟩
  have FIN := qh fin
  have HN := qh hn
  clear h hv hn fin
  go_enter Tryz.func187, Tryz.ntmps187
  go_wp2_with fail
  refine HV.out.mono ?_
  rintro e w1 ⟨rfl, x1⟩
  have X1 := qh x1
  clear x1
  by_cases a1 : (n : Int) < 32
  · go_wp2_with fail
    go_ret
    exact FIN.out _ _ (by unfold mayR; simp; omega) X1.out
  by_cases a2 : (n : Int) = 127
  · have b2 : ((n : Int) == 127) = true := by simpa using a2
    have A2 := qh a2
    clear a2
    go_wp2_with fail
    go_ret
    exact FIN.out _ _ (by unfold mayR; have := A2.out; simp; omega) X1.out
  have b2 : ((n : Int) == 127) = false := by simpa using a2
  have hm : mayR (n : Int) = true := by unfold mayR; simp; omega
  rw [hm] at FIN
  have A1 := qh a1
  by_cases a3 : (n : Int) = 32
  · have b3 : ((n : Int) == 32) = true := by simpa using a3
    clear a3 a2
    go_wp2_with fail
    go_ret
    exact FIN.out _ _ rfl X1.out
  have b3 : ((n : Int) == 32) = false := by simpa using a3
  by_cases a4 : (n : Int) = 160
  · have b4 : ((n : Int) == 160) = true := by simpa using a4
    clear a4 a3 a2
    go_wp2_with fail
    go_ret
    exact FIN.out _ _ rfl X1.out
  have b4 : ((n : Int) == 160) = false := by simpa using a4
  by_cases a5 : (n : Int) = 65533
  · have b5 : ((n : Int) == 65533) = true := by simpa using a5
    clear a5 a4 a3 a2
    go_wp2_with fail
    go_ret
    exact FIN.out _ _ rfl X1.out
  have b5 : ((n : Int) == 65533) = false := by simpa using a5
  clear a5 a4 a3 a2
  by_cases a6 : (128 : Int) ≤ (n : Int)
  · have c1 : (97 : Int) ≤ (n : Int) := by omega
    have c2 : ¬ (n : Int) ≤ 122 := by omega
    have c3 : (65 : Int) ≤ (n : Int) := by omega
    have c4 : ¬ (n : Int) ≤ 90 := by omega
    go_wp2_with fail
    go_ret
    exact FIN.out _ _ rfl X1.out
  by_cases a7 : (97 : Int) ≤ (n : Int)
  · by_cases a8 : (n : Int) ≤ 122
    · go_wp2_with fail
      go_ret
      exact FIN.out _ _ rfl X1.out
    · have c3 : (65 : Int) ≤ (n : Int) := by omega
      have c4 : ¬ (n : Int) ≤ 90 := by omega
      have c5 : (48 : Int) ≤ (n : Int) := by omega
      have c6 : ¬ (n : Int) ≤ 57 := by omega
      go_wp2_with fail
      go_ret
      exact FIN.out _ _ rfl X1.out
  by_cases a9 : (65 : Int) ≤ (n : Int)
  · by_cases a8 : (n : Int) ≤ 90
    · go_wp2_with fail
      go_ret
      exact FIN.out _ _ rfl X1.out
    · have c5 : (48 : Int) ≤ (n : Int) := by omega
      have c6 : ¬ (n : Int) ≤ 57 := by omega
      go_wp2_with fail
      go_ret
      exact FIN.out _ _ rfl X1.out
  by_cases a8 : (48 : Int) ≤ (n : Int)
  · by_cases a10 : (n : Int) ≤ 57
    · go_wp2_with fail
      go_ret
      exact FIN.out _ _ rfl X1.out
    · go_wp2_with fail
      go_ret
      exact FIN.out _ _ rfl X1.out
  · go_wp2_with fail
    go_ret
    exact FIN.out _ _ rfl X1.out
theorem CMay_any (r : Int) (h : Utf8.valid r = true) (w : World) : Calls Tryz.prog 166 #[.int .i32 r] w (RBool (mayR r) w) := by
  have HC := qh (CClass_any r h w)
  clear h
  obtain ⟨b, hb⟩ : ∃ b, mayR r = b := ⟨_, rfl⟩
  rw [hb]
  have HB := qh hb
  clear hb
  go_enter Tryz.func166, Tryz.ntmps166
  go_wp2_with fail
  refine HC.out.mono ?_
  rintro e w1 ⟨k, rfl, hk, x1⟩
  have HK := qh hk
  clear hk
  go_wp2_with fail
  go_ret
  exact ⟨by rw [← HB.out, ← HK.out]; rfl, x1⟩
theorem AName_any (s : ByteArray) (w : World) : Calls Tryz.prog 137 #[.string s] w (RBool (nameOk s) w) := by
  have x0 := Ext.refl w
  obtain ⟨b, hb⟩ : ∃ b, nameOk s = b := ⟨_, rfl⟩
  rw [hb]
  have HB := qh hb
  clear hb
  by_cases h1 : s.size < 1
  · have e : b = false := by
      cases hb : b
      · rfl
      · have := ((nameOk_iff s).1 (HB.out.trans hb)).1; omega
    subst e
    have h1' : (s.size : Int) < 1 := by omega
    clear h1
    go_enter Tryz.func137, Tryz.ntmps137
    go_wp2
    go_ret
    exact ⟨rfl, x0⟩
  have h1' : ¬ (s.size : Int) < 1 := by omega
  by_cases h2 : 16 < s.size
  · have e : b = false := by
      cases hb : b
      · rfl
      · have := ((nameOk_iff s).1 (HB.out.trans hb)).1; omega
    subst e
    have h2' : (16 : Int) < (s.size : Int) := by omega
    clear h1 h2
    go_enter Tryz.func137, Tryz.ntmps137
    go_wp2
    go_ret
    exact ⟨rfl, x0⟩
  have h2' : ¬ (16 : Int) < (s.size : Int) := by omega
  have HS := qh (show 1 ≤ s.size ∧ s.size ≤ 16 by omega)
  clear h1 h2
  go_enter Tryz.func137, Tryz.ntmps137
  go_wp2_with fail
  clear h1' h2'
  go_loopw [] (fun wr => ∃ pos : Nat, wr.heap[w.heap.size]? = some (.stringIter s pos) ∧ Ext w wr ∧ pos ≤ s.size ∧ ∀ j (h : j < s.size), j < pos → nameR (decide (j = 0)) ((s[j]'h).toNat : Int) = true) (fun wr => s.size - wr.iterPos w.heap.size)
  case atStart => exact ⟨0, by have := World.iter_heap w s 0; simpa using this, (Ext.refl w).alloc _, Nat.zero_le _, fun j _ hj => absurd hj (Nat.not_lt_zero _)⟩
  case round =>
    obtain ⟨pos, hit, xr, hle, hpre⟩ := hrel
    have hsz : w.heap.size < wr.heap.size := (Array.getElem?_eq_some_iff.1 hit).1
    have HPRE := qh hpre
    clear hpre
    by_cases hp : pos < s.size
    · have hnx : ∀ ty, (Instr.next (.pointer (some ⟨w.heap.size, 0, none⟩)) true ty).run Tryz.prog wr = _ := fun ty => Lib.run_next_any_at wr w.heap.size s pos ty hit hp
      have HST := qh (fun h : nameOk s = true => name_step h hp)
      have HNX := qh (fun h => name_next (s := s) (pos := pos) hp h)
      have HDL := qh (decode_le s pos)
      have hit2 := Lib.iterAt_heap wr w.heap.size s pos (pos + (Utf8.decode s pos).2) hit
      have xr2 := xr.iterAt (Nat.le_refl _) s (pos + (Utf8.decode s pos).2)
      have HIT2 := qh hit2
      have XR2 := qh xr2
      have HIT := qh hit
      clear hit hit2 xr xr2
      generalize Utf8.decode s pos = D at *
      obtain ⟨rn, wd⟩ := D
      dsimp only at *
      have good : nameR (decide (pos = 0)) (Int.ofNat rn) = true → ∃ wx : World, wx = wr.iterAt w.heap.size s (pos + wd) ∧ (∃ pos : Nat, wx.heap[w.heap.size]? = some (.stringIter s pos) ∧ Ext w wx ∧ pos ≤ s.size ∧ ∀ j (h : j < s.size), j < pos → nameR (decide (j = 0)) ((s[j]'h).toNat : Int) = true) ∧ s.size - wx.iterPos w.heap.size < s.size - wr.iterPos w.heap.size := by
        intro h
        obtain ⟨e1, e2⟩ := HNX.out h
        refine ⟨_, rfl, ⟨pos + wd, HIT2.out, XR2.out, by omega, fun j hj hlt => ?_⟩, ?_⟩
        · by_cases hjp : j = pos
          · subst hjp; exact e2
          · exact HPRE.out j hj (by omega)
        · simp only [World.iterPos, HIT2.out, HIT.out]; omega
      have bad : nameR (decide (pos = 0)) (Int.ofNat rn) = false → b = false := by
        intro h
        cases hb : b
        · rfl
        · have := HST.out (HB.out.trans hb); rw [h] at this; cases this
      have GOOD := qh good
      have BAD := qh bad
      clear good bad
      by_cases l1 : (97 : Int) ≤ (rn : Int) ∧ (rn : Int) ≤ 122
      · obtain ⟨wx, hwx, r1, r2⟩ := GOOD.out (by unfold nameR; simp; omega)
        obtain ⟨l1, l2⟩ := l1
        go_wp2_with fail
        go_roundw
        case rel => rw [← hwx]; exact r1
        case measure => rw [← hwx]; exact r2
      · by_cases hz : pos = 0
        · have hb : b = false := BAD.out (by unfold nameR; subst hz; simp; omega)
          subst hb
          subst hz
          by_cases l2 : (97 : Int) ≤ (rn : Int)
          · have l3 : ¬ (rn : Int) ≤ 122 := by omega
            clear l1
            go_wp2_with fail
            go_ret
            exact ⟨rfl, by have := XR2.out; rw [Nat.zero_add] at this; exact this⟩
          · clear l1
            go_wp2_with fail
            go_ret
            exact ⟨rfl, by have := XR2.out; rw [Nat.zero_add] at this; exact this⟩
        · have hz1 : ((pos : Int) == 0) = false := by simpa using hz
          have hz2 : ¬ (pos : Int) = 0 := by omega
          by_cases d1 : (48 : Int) ≤ (rn : Int) ∧ (rn : Int) ≤ 57
          · obtain ⟨wx, hwx, r1, r2⟩ := GOOD.out (by unfold nameR; simp [hz]; omega)
            have d2 : ¬ (rn : Int) < 48 := by omega
            have d3 : ¬ (57 : Int) < (rn : Int) := by omega
            have d4 : ¬ (97 : Int) ≤ (rn : Int) := by omega
            clear d1 l1 hz
            go_wp2_with fail
            go_roundw
            case rel => rw [← hwx]; exact r1
            case measure => rw [← hwx]; exact r2
          · by_cases d5 : (rn : Int) = 45
            · obtain ⟨wx, hwx, r1, r2⟩ := GOOD.out (by unfold nameR; simp [hz]; omega)
              have d2 : (rn : Int) < 48 := by omega
              have d4 : ¬ (97 : Int) ≤ (rn : Int) := by omega
              have d6 : ((rn : Int) == 45) = true := by simpa using d5
              clear d1 l1 hz d5
              go_wp2_with fail
              go_roundw
              case rel => rw [← hwx]; exact r1
              case measure => rw [← hwx]; exact r2
            · have hb : b = false := BAD.out (by unfold nameR; simp [hz]; omega)
              subst hb
              have d6 : ((rn : Int) == 45) = false := by simpa using d5
              by_cases l2 : (97 : Int) ≤ (rn : Int)
              · have l3 : ¬ (rn : Int) ≤ 122 := by omega
                have d2 : ¬ (rn : Int) < 48 := by omega
                have d3 : (57 : Int) < (rn : Int) := by omega
                clear l1 d1 d5 hz
                go_wp2_with fail
                go_ret
                exact ⟨rfl, XR2.out⟩
              · by_cases d2 : (rn : Int) < 48
                · clear l1 d1 d5 hz
                  go_wp2_with fail
                  go_ret
                  exact ⟨rfl, XR2.out⟩
                · have d3 : (57 : Int) < (rn : Int) := by omega
                  clear l1 d1 d5 hz
                  go_wp2_with fail
                  go_ret
                  exact ⟨rfl, XR2.out⟩
    · have hnx : ∀ ty, (Instr.next (.pointer (some ⟨w.heap.size, 0, none⟩)) true ty).run Tryz.prog wr = _ := fun ty => Lib.run_next_end_at wr w.heap.size s pos ty hit hp
      have hb : b = true := by
        rw [← HB.out]
        exact (nameOk_iff s).2 ⟨HS.out, fun j hj => HPRE.out j hj (by omega)⟩
      subst hb
      go_wp2
      go_ret
      exact ⟨rfl, xr⟩
def Tabs (w : World) : Prop := Lib.Utf8Tabs 1 2 w
theorem Tabs.ext {w w' : World} (h : Tabs w) (x : Ext w w') : Tabs w' := ⟨fun c hc => x.cell (h.1 c hc), fun i hi => ⟨x.cell (h.2 i hi).1, x.cell (h.2 i hi).2⟩⟩
theorem AValue_any (s : ByteArray) (w : World) (hT : Tabs w) : Calls Tryz.prog 138 #[.string s] w (RBool (valueOk s) w) := by
  obtain ⟨b, hb⟩ : ∃ b, valueOk s = b := ⟨_, rfl⟩
  rw [hb]
  have HB := qh hb
  have HT := qh hT
  clear hb hT
  go_enter Tryz.func138, Tryz.ntmps138
  go_wp2_with fail
  go_loopw [] (fun wr => ∃ pos fuel : Nat, wr.heap[w.heap.size]? = some (.stringIter s pos) ∧ Ext w wr ∧ s.size ≤ pos + fuel ∧ (runeList s s.size 0).all mayR = (runeList s fuel pos).all mayR) (fun wr => s.size - wr.iterPos w.heap.size)
  case atStart => exact ⟨0, s.size, by have := World.iter_heap w s 0; simpa using this, (Ext.refl w).alloc _, by omega, rfl⟩
  case round =>
    obtain ⟨pos, fuel, hit, xr, hfu, hall⟩ := hrel
    have hsz : w.heap.size < wr.heap.size := (Array.getElem?_eq_some_iff.1 hit).1
    by_cases hp : pos < s.size
    · have hnx : ∀ ty, (Instr.next (.pointer (some ⟨w.heap.size, 0, none⟩)) true ty).run Tryz.prog wr = _ := fun ty => Lib.run_next_any_at wr w.heap.size s pos ty hit hp
      have hwd := width_pos s pos hp
      have hva := decode_valid s pos
      have hit2 := Lib.iterAt_heap wr w.heap.size s pos (pos + (Utf8.decode s pos).2) hit
      have xr2 := xr.iterAt (Nat.le_refl _) s (pos + (Utf8.decode s pos).2)
      obtain ⟨f, rfl⟩ : ∃ f, fuel = f + 1 := ⟨fuel - 1, by omega⟩
      have hrl : runeList s (f + 1) pos = Int.ofNat (Utf8.decode s pos).1 :: runeList s f (pos + (Utf8.decode s pos).2) := by rw [runeList, if_pos hp]
      rw [hrl, List.all_cons] at hall
      clear hrl
      generalize Utf8.decode s pos = D at *
      obtain ⟨rn, wd⟩ := D
      dsimp only at *
      have HC := qh (CMay_any (Int.ofNat rn) hva (wr.iterAt w.heap.size s (pos + wd)))
      have HIT2 := qh hit2
      have XR2 := qh xr2
      have HIT := qh hit
      have HALL := qh hall
      clear hit hit2 xr xr2 hva hall
      have hm : mayR (Int.ofNat rn) = true ∨ mayR (Int.ofNat rn) = false := by cases mayR (Int.ofNat rn); exact .inr rfl; exact .inl rfl
      rcases hm with hm | hm
      · rw [hm] at HC
        go_wp2_with fail
        refine HC.out.mono ?_
        rintro e w2 ⟨rfl, x2⟩
        have hi2 := x2.block HIT2.out
        have r1 : ∃ pos fuel : Nat, w2.heap[w.heap.size]? = some (.stringIter s pos) ∧ Ext w w2 ∧ s.size ≤ pos + fuel ∧ (runeList s s.size 0).all mayR = (runeList s fuel pos).all mayR :=
          ⟨pos + wd, f, hi2, XR2.out.trans x2, by omega, by rw [HALL.out, hm, Bool.true_and]⟩
        have r2 : s.size - w2.iterPos w.heap.size < s.size - wr.iterPos w.heap.size := by
          simp only [World.iterPos, hi2, HIT.out]; omega
        have R1 := qh r1
        have R2 := qh r2
        clear r1 r2 hi2 x2
        go_wp2_with fail
        go_roundw
        case rel => exact R1.out
        case measure => exact R2.out
      · rw [hm] at HC
        have hb : b = false := by rw [← HB.out]; unfold valueOk; rw [HALL.out, hm]; simp
        subst hb
        go_wp2_with fail
        refine HC.out.mono ?_
        rintro e w2 ⟨rfl, x2⟩
        have X2 := qh (XR2.out.trans x2)
        clear x2
        go_wp2_with fail
        go_ret
        exact ⟨rfl, X2.out⟩
    · have hnx : ∀ ty, (Instr.next (.pointer (some ⟨w.heap.size, 0, none⟩)) true ty).run Tryz.prog wr = _ := fun ty => Lib.run_next_end_at wr w.heap.size s pos ty hit hp
      have e : runeList s fuel pos = [] := by cases fuel with | zero => rfl | succ f => rw [runeList, if_neg hp]
      rw [e] at hall
      have hb2 : b = (decide (s.size ≤ 200) && Lib.validD s.data.toList) := by rw [← HB.out, valid_anew]; unfold valueOk; rw [hall]; simp
      have XR := qh xr
      have HB2 := qh hb2
      clear hall hb2 xr hit e
      by_cases h2 : s.size ≤ 200
      · have h2' : (s.size : Int) ≤ 200 := by omega
        have HV := qh (ValidString_any s wr (by omega) (HT.out.ext XR.out))
        have hb3 : b = Lib.validD s.data.toList := by rw [HB2.out]; simp [h2]
        rw [← hb3] at HV
        have h2 := qh h2
        clear hb3
        go_wp2_with fail
        refine HV.out.mono ?_
        rintro e w2 ⟨rfl, x2⟩
        have X2 := qh (XR.out.trans x2)
        clear x2
        go_wp2_with fail
        go_ret
        exact ⟨rfl, X2.out⟩
      · have h2' : ¬ (s.size : Int) ≤ 200 := by omega
        have hb3 : b = false := by rw [HB2.out]; simp [h2]
        subst hb3
        clear h2
        go_wp2_with fail
        go_ret
        exact ⟨rfl, XR.out⟩
theorem ret_int {x y : Int} (h : x = y) : Ending.returned (.int .i64 x) = Ending.returned (.int .i64 y) := by rw [h]
theorem str_eq (a b : ByteArray) : (a.toList == b.toList) = decide (a = b) := by
  rw [Bool.eq_iff_iff, beq_iff_eq, decide_eq_true_eq, ByteArray.toList_eq, ByteArray.toList_eq]
  exact ⟨bytes_ext, fun e => by rw [e]⟩
theorem at1_any (p : ByteArray × ByteArray) (nm : ByteArray) (b : Nat) (w : World) (hb : w.cell? ⟨b, 0, none⟩ = some (.string nm)) :
    Calls Tryz.prog 183 #[.agg #[.string p.1, .string p.2], .pointer (some ⟨b, 0, none⟩)] w (RBool (decide (p.1 = nm)) w) := by
  have x := (Ext.refl w).alloc (.cells #[.string p.1, .string p.2] 104)
  have bb := heap_alloc_new w (.cells #[.string p.1, .string p.2] 104)
  go_enter Tryz.func183, Tryz.ntmps183
  go_upto_region 1 with fail
  obtain ⟨w1, hw1⟩ : ∃ w1 : World, w1 = w.alloc (.cells #[.string p.1, .string p.2] 104) := ⟨_, rfl⟩
  rw [← hw1] at x bb ⊢
  clear hw1
  have c0 := cellOf bb (i := 0) (v := .string p.1) rfl
  have c1 := x.cell hb
  clear hb bb
  go_wp2_with fail
  go_ret
  exact ⟨by simp [str_eq], x⟩
theorem indexA_any (l : List (ByteArray × ByteArray)) (v : Value) (nm : ByteArray) (b : Nat) (w : World) (hr : RowRd w 2 v l.length (attrCells l)) (hl : l.length ≤ 100000000000000) (hb : w.cell? ⟨b, 0, none⟩ = some (.string nm)) :
    Calls Tryz.prog 182 #[v, .func (.func 183) #[] #[.pointer (some ⟨b, 0, none⟩)]] w (RVal (.int .i64 (attrAt l nm)) w) := by
  obtain ⟨ao, cap, rfl, hcap⟩ := hr.len_of
  have HR := qh hr
  have HBC := qh hb
  clear hr hb hcap
  go_enter Tryz.func182, Tryz.ntmps182
  go_wp2_with fail
  go_loopw [5, 8] (fun _ n wr => ∃ k : Nat, k ≤ l.length ∧ n = .int .i64 k ∧ Ext w wr ∧ ∀ (j : Nat) x, j < k → l[j]? = some x → x.1 ≠ nm) (fun _ n _ => l.length - (intOf n).toNat)
  case atStart => exact ⟨0, Nat.zero_le _, rfl, Ext.refl _, fun j x hj => by omega⟩
  case round =>
    obtain ⟨k, hk, rfl, xr, hno⟩ := hrel
    have HO := qh hno
    have XR := qh xr
    clear hno
    by_cases hlt : k < l.length
    · obtain ⟨p, hp⟩ : ∃ p, l[k]? = some p := ⟨l[k], by simp [hlt]⟩
      cases ao with
      | none =>
        obtain ⟨_, ao', cap', e, _, h0, _⟩ := HR.out
        cases e
        exact absurd (h0 rfl).1 (by omega)
      | some a =>
        obtain ⟨bk, off, sp⟩ := a
        obtain ⟨q0, q1⟩ := (HR.out.ext xr).attr hp
        rw [add_later _ _ _ (by decide)] at q1
        have HP := qh hp
        have HC := qh (at1_any p nm b wr (xr.cell HBC.out))
        clear hp xr
        by_cases he : p.1 = nm
        · rw [decide_eq_true he] at HC
          have HE := qh he
          clear he
          go_wp2_with (go_at_call 183; refine HC.out.mono ?_; rintro e w' ⟨rfl, x1⟩)
          have X1 := qh (XR.out.trans x1)
          clear x1 q0 q1
          go_ret
          exact ⟨ret_int (by rw [attrAt_hit HP.out HE.out HO.out]), X1.out⟩
        · rw [decide_eq_false he] at HC
          have HE := qh he
          clear he
          go_wp2_with (go_at_call 183; refine HC.out.mono ?_; rintro e w' ⟨rfl, x1⟩)
          have X1 := qh (XR.out.trans x1)
          clear x1 q0 q1
          go_roundw
          case rel =>
            refine ⟨k + 1, by omega, by go_num, X1.out, fun j x hj hx => ?_⟩
            rcases Nat.lt_or_ge j k with h1 | h1
            · exact HO.out j x h1 hx
            · obtain rfl : j = k := by omega
              rw [HP.out] at hx
              cases hx
              exact HE.out
          case measure => simp [intOf]; omega
    · clear xr
      go_wp2_with fail
      go_ret
      refine ⟨ret_int ?_, XR.out⟩
      rw [attrAt_none fun j x hx => HO.out j x (by have := (List.getElem?_eq_some_iff.1 hx).1; omega) hx]
theorem at_any (l : List (ByteArray × ByteArray)) (v : Value) (nm : ByteArray) (w : World) (hr : RowRd w 2 v l.length (attrCells l)) (hl : l.length ≤ 100000000000000) :
    Calls Tryz.prog 156 #[v, .string nm] w (RVal (.int .i64 (attrAt l nm)) w) := by
  obtain ⟨ao, cap, rfl, hcap⟩ := hr.len_of
  have x := (Ext.refl w).alloc (.cells #[.string nm] 9)
  have bb := heap_alloc_new w (.cells #[.string nm] 9)
  have HR := qh hr
  obtain ⟨r, hr9⟩ : ∃ r, attrAt l nm = r := ⟨_, rfl⟩
  rw [hr9]
  have HR9 := qh hr9
  clear hr hcap hr9
  go_enter Tryz.func156, Tryz.ntmps156
  go_upto_region 1 with fail
  obtain ⟨w1, hw1⟩ : ∃ w1 : World, w1 = w.alloc (.cells #[.string nm] 9) := ⟨_, rfl⟩
  rw [← hw1] at x bb ⊢
  clear hw1
  have HC := qh (indexA_any l _ nm w.heap.size w1 (HR.out.ext x) hl (cellOf bb rfl))
  rw [HR9.out] at HC
  have X := qh x
  clear x bb
  go_wp2_with fail
  refine HC.out.mono ?_
  rintro e w2 ⟨rfl, x2⟩
  go_wp2_with fail
  go_ret
  exact ⟨rfl, X.out.trans x2⟩
theorem AMay_any (l : List (ByteArray × ByteArray)) (v : Value) (w : World) (hr : RowRd w 2 v l.length (attrCells l)) (hl : l.length ≤ 100000000000000) (hT : Tabs w) :
    Calls Tryz.prog 119 #[v] w (RBool (attrsMay l) w) := by
  obtain ⟨ao, cap, rfl, hcap⟩ := hr.len_of
  have HR := qh hr
  have HT := qh hT
  obtain ⟨r, hr9⟩ : ∃ r, attrsMay l = r := ⟨_, rfl⟩
  rw [hr9]
  have HR9 := qh hr9
  clear hr hT hr9 hcap
  go_enter Tryz.func119, Tryz.ntmps119
  go_wp2_with fail
  go_loopw [3, 4, 7] (fun _ _ n wr => ∃ k : Nat, k ≤ l.length ∧ n = .int .i64 k ∧ Ext w wr ∧ ∀ (i : Nat) a, i < k → l[i]? = some a → nameOk a.1 = true ∧ valueOk a.2 = true ∧ attrAt l a.1 = i) (fun _ _ n _ => l.length - (intOf n).toNat)
  case atStart => exact ⟨0, Nat.zero_le _, rfl, Ext.refl _, fun j x hj => by omega⟩
  case round =>
    obtain ⟨k, hk, rfl, xr, hpre⟩ := hrel
    have HPRE := qh hpre
    have XR := qh xr
    clear hpre
    by_cases hlt : k < l.length
    · obtain ⟨p, hp⟩ : ∃ p, l[k]? = some p := ⟨l[k], by simp [hlt]⟩
      cases ao with
      | none =>
        obtain ⟨_, ao', cap', e, _, h0, _⟩ := HR.out
        cases e
        exact absurd (h0 rfl).1 (by omega)
      | some a =>
        obtain ⟨bk, off, sp⟩ := a
        obtain ⟨q0, q1⟩ := (HR.out.ext xr).attr hp
        rw [add_later _ _ _ (by decide)] at q1
        have HP := qh hp
        have xb := xr.alloc (.cells #[.string p.1, .string p.2] 104)
        have bb := heap_alloc_new wr (.cells #[.string p.1, .string p.2] 104)
        clear hp xr
        go_upto_region 4 with fail
        obtain ⟨wz, hwz⟩ : ∃ wz : World, wz = wr.alloc (.cells #[.string p.1, .string p.2] 104) := ⟨_, rfl⟩
        rw [← hwz] at xb bb ⊢
        clear hwz q0 q1
        have c0 := cellOf bb (i := 0) (v := .string p.1) rfl
        have BB := qh bb
        have XB := qh xb
        have HN := qh (AName_any p.1 wz)
        clear bb xb
        have hm : nameOk p.1 = true ∨ nameOk p.1 = false := by cases nameOk p.1; exact .inr rfl; exact .inl rfl
        rcases hm with hm | hm
        · rw [hm] at HN
          go_wp2_with (go_at_call 137; refine HN.out.mono ?_)
          rintro e w1 ⟨rfl, x1⟩
          have B1 := qh (x1.block BB.out)
          have X1 := qh (XB.out.trans x1)
          have c1 := cellOf B1.out (i := 1) (v := .string p.2) rfl
          have HV := qh (AValue_any p.2 w1 (HT.out.ext X1.out))
          clear x1 c0
          have hv : valueOk p.2 = true ∨ valueOk p.2 = false := by cases valueOk p.2; exact .inr rfl; exact .inl rfl
          rcases hv with hv | hv
          · rw [hv] at HV
            go_wp2_with (go_at_call 138; refine HV.out.mono ?_)
            rintro e w2 ⟨rfl, x2⟩
            have B2 := qh (x2.block B1.out)
            have X2 := qh (X1.out.trans x2)
            have c0 := cellOf B2.out (i := 0) (v := .string p.1) rfl
            have HA := qh (at_any l _ p.1 w2 (HR.out.ext X2.out) hl)
            clear x2 c1
            by_cases ha : attrAt l p.1 = k
            · have e1 : (attrAt l p.1 == (k : Int)) = true := by simpa using ha
              rw [ha] at HA
              have GO := qh (show nameOk p.1 = true ∧ valueOk p.2 = true ∧ attrAt l p.1 = (k : Int) from ⟨hm, hv, ha⟩)
              clear e1 ha hm hv
              go_wp2_with (go_at_call 156; refine HA.out.mono ?_)
              rintro e w3 ⟨rfl, x3⟩
              have X3 := qh (X2.out.trans x3)
              clear x3 c0
              go_wp2_with fail
              go_roundw
              case rel =>
                refine ⟨k + 1, by omega, by go_num, X3.out, fun j x hj hx => ?_⟩
                rcases Nat.lt_or_ge j k with h1 | h1
                · exact HPRE.out j x h1 hx
                · obtain rfl : j = k := by omega
                  rw [HP.out] at hx
                  cases hx
                  exact GO.out
              case measure => simp [intOf]; omega
            · have hr0 : r = false := by
                cases hrr : r
                · rfl
                · have := ((attrsMay_iff l).1 (HR9.out.trans hrr) k p HP.out).2.2; exact absurd this ha
              subst hr0
              obtain ⟨z, hz⟩ : ∃ z, attrAt l p.1 = z := ⟨_, rfl⟩
              rw [hz] at HA ha
              have e1 : (z == (k : Int)) = false := by simpa using ha
              clear ha hz hm hv
              go_wp2_with (go_at_call 156; refine HA.out.mono ?_)
              rintro e w3 ⟨rfl, x3⟩
              have X3 := qh (X2.out.trans x3)
              clear x3 c0
              go_wp2_with fail
              go_ret
              exact ⟨rfl, X3.out⟩
          · rw [hv] at HV
            have hr0 : r = false := by
              cases hrr : r
              · rfl
              · have := ((attrsMay_iff l).1 (HR9.out.trans hrr) k p HP.out).2.1; rw [hv] at this; cases this
            subst hr0
            clear hm hv
            go_wp2_with (go_at_call 138; refine HV.out.mono ?_)
            rintro e w2 ⟨rfl, x2⟩
            have X2 := qh (X1.out.trans x2)
            clear x2 c1
            go_wp2_with fail
            go_ret
            exact ⟨rfl, X2.out⟩
        · rw [hm] at HN
          have hr0 : r = false := by
            cases hrr : r
            · rfl
            · have := ((attrsMay_iff l).1 (HR9.out.trans hrr) k p HP.out).1; rw [hm] at this; cases this
          subst hr0
          clear hm
          go_wp2_with (go_at_call 137; refine HN.out.mono ?_)
          rintro e w1 ⟨rfl, x1⟩
          have X1 := qh (XB.out.trans x1)
          clear x1 c0
          go_wp2_with fail
          go_ret
          exact ⟨rfl, X1.out⟩
    · have hr1 : r = true := by
        rw [← HR9.out]
        exact (attrsMay_iff l).2 fun i a hi => HPRE.out i a (by have := (List.getElem?_eq_some_iff.1 hi).1; omega) hi
      subst hr1
      clear xr
      go_wp2_with fail
      go_ret
      exact ⟨rfl, XR.out⟩
def RRunes (s : ByteArray) (w : World) (e : Ending) (w' : World) : Prop := ∃ v, e = .returned v ∧ Ext w w' ∧ RowRd w' 1 v (runeList s s.size 0).length ((runeList s s.size 0).map (.int .i32)) ∧ ∀ u, Ext w' u → (Go.convert 125 9 v).run Tryz.prog u = .ok (.string (anewB s)) u
theorem runes_run (s : ByteArray) (hs : s.size ≤ 1000000000000) (w : World) : ∃ (v : Value) (w' : World), (Go.convert 9 125 (.string s)).run Tryz.prog w = .ok v w' ∧ RRunes s w (.returned v) w' := by
  have h1 := run_runes_of_string (P := Tryz.prog) w 9 125 21 s Tryz.underlying9 Tryz.underlying125 Tryz.underlying21 (by have := size_runesFrom s s.size 0 #[]; simp at this; omega)
  have e1 : Conv.runesFrom s s.size 0 #[] = ((runeList s s.size 0).map (Value.int .i32)).toArray := by rw [runesFrom_eq]; simp
  have hz : anewB s = runesBytes (runeList s s.size 0) := rfl
  rw [e1] at h1
  unfold RRunes
  rw [hz]
  clear hz e1 hs
  generalize runeList s s.size 0 = l at *
  generalize hk : grownCap w (List.map (Value.int IntKind.i32) l).toArray.size 0 21 = K at *
  have hge := grownCap_ge w (List.map (Value.int IntKind.i32) l).toArray.size 0 21
  rw [hk] at hge
  clear hk
  generalize hC : (List.map (Value.int IntKind.i32) l).toArray ++ Array.replicate (K - (List.map (Value.int IntKind.i32) l).toArray.size) (Value.int IntKind.i32 0) = C at *
  have hcells : ∀ u, Ext (w.drew.alloc (.cells C 21)) u → ∀ j (hj : j < l.length), u.cell? ((⟨w.heap.size, 0, none⟩ : Addr).add j) = some (.int .i32 l[j]) := by
    intro u hu j hj
    have hb : u.heap[w.heap.size]? = some (.cells C 21 (0, 0)) := hu.block (heap_alloc_new w.drew _)
    rw [Addr.add_lit, Nat.zero_add]
    refine cellOf hb ?_
    rw [← hC, Array.getElem?_append_left (by simpa using hj)]
    simp [hj]
  simp only [List.size_toArray, List.length_map] at h1 hge
  refine ⟨_, _, h1, _, rfl, (Ext.refl w).drew.alloc _, ⟨by simp, _, _, rfl, hge, (fun e => by cases e), fun a e j x hx => ?_⟩, fun u hu => ?_⟩
  · cases e
    obtain ⟨hj, e⟩ := List.getElem?_eq_some_iff.1 hx
    rw [List.getElem_map] at e
    rw [← e]
    exact hcells _ (Ext.refl _) j (by simpa using hj)
  · have h2 := run_convert_runes (P := Tryz.prog) u 125 9 21 ⟨w.heap.size, 0, none⟩ l.length K l (Nat.le_refl _) Tryz.underlying125 Tryz.underlying21 Tryz.underlying9 (fun j hj => by rw [hcells u hu j hj]; simp [List.getD, hj])
    rw [List.take_length] at h2
    exact h2
end Go.Proofs.YtalaajbajgdglaaGreatDoor
namespace Go.Proofs.YtalaajbajgdglaaGreatDoor
open Go
abbrev bs (l : List UInt8) : ByteArray := ⟨l.toArray⟩
theorem bs_list (s : ByteArray) : bs s.data.toList = s := by cases s; simp
theorem bs_data (l : List UInt8) : (bs l).data.toList = l := by simp
theorem bs_size (l : List UInt8) : (bs l).size = l.length := by simp [bs, ByteArray.size]
theorem bs_inj {a b : List UInt8} : bs a = bs b ↔ a = b := by
  constructor
  · intro h; have := congrArg (fun s : ByteArray => s.data.toList) h; simpa using this
  · rintro rfl; rfl
theorem bs_cut (l : List UInt8) (i j : Nat) : (bs l).extract i j = bs ((l.drop i).take (j - i)) := ByteArray.extract_mk l i j
theorem bs_add (a b : List UInt8) : bs a ++ bs b = bs (a ++ b) := by
  have h : (bs a ++ bs b).data.toList = (bs (a ++ b)).data.toList := by rw [ByteArray.data_append, Array.toList_append]
  have h2 := congrArg bs h
  rw [bs_list, bs_list] at h2
  exact h2
def smallC (c : UInt8) : UInt8 := if 65 ≤ c.toNat ∧ c.toNat ≤ 90 then c ||| 32 else c
def letterB (c : UInt8) : Bool := decide (97 ≤ (c ||| 32).toNat ∧ (c ||| 32).toNat ≤ 122)
def digitB (c : UInt8) : Bool := decide (48 ≤ c.toNat ∧ c.toNat ≤ 57)
def alnumB (c : UInt8) : Bool := letterB c || digitB c
theorem all_bytes {p : UInt8 → Prop} (h : ∀ n : Fin 256, p (UInt8.ofNat n.val)) (c : UInt8) : p c := by
  have := h ⟨c.toNat, c.toNat_lt⟩
  have e : UInt8.ofNat c.toNat = c := by simp
  rw [e] at this
  exact this
def namedL (l : List UInt8) : Option (List UInt8) :=
  if l = [97, 109, 112] then some [38] else if l = [108, 116] then some [60] else if l = [103, 116] then some [62] else if l = [113, 117, 111, 116] then some [34]
  else if l = [97, 112, 111, 115] then some [39] else if l = [110, 98, 115, 112] then some [194, 160] else none
def digV (c : UInt8) : Nat := if 48 ≤ c.toNat ∧ c.toNat ≤ 57 then c.toNat - 48 else if 97 ≤ c.toNat ∧ c.toNat ≤ 102 then c.toNat - 87 else if 65 ≤ c.toNat ∧ c.toNat ≤ 70 then c.toNat - 55 else 99
def numL (base : Nat) : Nat → List UInt8 → Option Nat
  | n, [] => some n
  | n, c :: r => if base ≤ digV c then none else numL base (n * base + digV c) r
def runeN (n : Nat) : Bool := decide (n ≠ 0 ∧ n ≤ 1114111 ∧ ¬ (55296 ≤ n ∧ n ≤ 57343))
def codeN (base most : Nat) (l : List UInt8) : Option Nat := if l = [] ∨ most < l.length then none else (numL base 0 l).filter runeN
def codeL (l : List UInt8) : Option Nat := if l.head? = some 120 then codeN 16 6 l.tail else codeN 10 7 l
def codedL (l : List UInt8) : Option (List UInt8) := (codeL l).map fun (n : Nat) => (Utf8.encode (n : Int)).data.toList
def meansL (l : List UInt8) (e : Nat) : Option (List UInt8) := match namedL ((l.drop 1).take (e - 1)) with
  | some x => some x
  | none => if l.take 2 = [38, 35] then codedL ((l.drop 2).take (e - 2)) else none
def entityL (l : List UInt8) : List UInt8 × Nat :=
  let e := Lib.indexByte (l.take 12) 59
  if e < 0 then ([38], 1) else match meansL l e.toNat with
    | some x => (x, e.toNat + 1)
    | none => ([38], 1)
theorem entityL_pos (l : List UInt8) : 1 ≤ (entityL l).2 := by
  unfold entityL
  dsimp only
  split
  · exact Nat.le_refl _
  · split
    · exact Nat.succ_le_succ (Nat.zero_le _)
    · exact Nat.le_refl _
def decF : Nat → List UInt8 → List UInt8
  | 0, _ => []
  | f + 1, [] => []
  | f + 1, c :: r => if c = 38 then (entityL (c :: r)).1 ++ decF f ((c :: r).drop (entityL (c :: r)).2) else c :: decF f r
def decL (l : List UInt8) : List UInt8 := decF l.length l
theorem decF_more : ∀ (f : Nat) (l : List UInt8), l.length ≤ f → decF f l = decL l := by
  intro f
  induction f using Nat.strongRecOn with
  | ind f ih =>
    intro l hl
    unfold decL
    cases l with
    | nil => cases f <;> rfl
    | cons c r =>
      cases f with
      | zero => simp at hl
      | succ f =>
        simp only [List.length_cons] at hl ⊢
        simp only [decF]
        have hp := entityL_pos (c :: r)
        have hd : ((c :: r).drop (entityL (c :: r)).2).length ≤ r.length := by rw [List.length_drop]; simp; omega
        split
        · rw [ih f (by omega) _ (by omega)]
          rcases Nat.lt_or_ge r.length (f + 1) with h | h
          · rw [ih r.length (by omega) _ hd]
          · omega
        · rw [ih f (by omega) _ (by omega), ih r.length (by omega) _ (Nat.le_refl _)]
theorem decL_nil : decL [] = [] := rfl
theorem decL_amp (r : List UInt8) : decL (38 :: r) = (entityL (38 :: r)).1 ++ decL ((38 :: r).drop (entityL (38 :: r)).2) := by
  have h1 : decL (38 :: r) = (entityL (38 :: r)).1 ++ decF r.length ((38 :: r).drop (entityL (38 :: r)).2) := by
    show decF (r.length + 1) (38 :: r) = _
    simp [decF]
  rw [h1, decF_more]
  have hp := entityL_pos (38 :: r)
  rw [List.length_drop, List.length_cons]
  omega
theorem decL_cons {c : UInt8} (h : c ≠ 38) (r : List UInt8) : decL (c :: r) = c :: decL r := by
  show decF (r.length + 1) (c :: r) = _
  simp [decF, h]
  rfl
theorem decL_front {p : List UInt8} (h : ∀ c ∈ p, c ≠ 38) (r : List UInt8) : decL (p ++ r) = p ++ decL r := by
  induction p with
  | nil => rfl
  | cons c p ih =>
    rw [List.cons_append, decL_cons (h c (by simp)), ih fun c hc => h c (by simp [hc])]
    rfl
theorem indexByte_some {l : List UInt8} {c : UInt8} (h : ¬ Lib.indexByte l c < 0) : ∃ k : Nat, Lib.indexByte l c = (k : Int) ∧ l[k]? = some c ∧ ∀ j x, j < k → l[j]? = some x → x ≠ c := by
  induction l with
  | nil => exact absurd (by decide : (-1 : Int) < 0) h
  | cons b r ih =>
    unfold Lib.indexByte at h ⊢
    by_cases hb : (b == c) = true
    · rw [if_pos hb] at h ⊢
      have e : b = c := by simpa using hb
      exact ⟨0, rfl, by simp [e], fun j x hj => absurd hj (Nat.not_lt_zero _)⟩
    · rw [if_neg hb] at h ⊢
      by_cases hm : (Lib.indexByte r c == -1) = true
      · rw [if_pos hm] at h; exact absurd (by decide : (-1 : Int) < 0) h
      · rw [if_neg hm] at h ⊢
        have hge := Lib.indexByte_ge r c
        have hne : Lib.indexByte r c ≠ -1 := by simpa using hm
        obtain ⟨k, e, h1, h2⟩ := ih (by omega)
        refine ⟨k + 1, by rw [e]; rfl, by simpa using h1, fun j x hj hx => ?_⟩
        cases j with
        | zero => simp at hx; subst hx; simpa using hb
        | succ j => exact h2 j x (by omega) (by simpa using hx)
theorem indexByte_none {l : List UInt8} {c : UInt8} (h : Lib.indexByte l c < 0) : ∀ x ∈ l, x ≠ c := by
  induction l with
  | nil => intro x hx; cases hx
  | cons b r ih =>
    unfold Lib.indexByte at h
    by_cases hb : (b == c) = true
    · rw [if_pos hb] at h; exact absurd h (by decide)
    · rw [if_neg hb] at h
      by_cases hm : (Lib.indexByte r c == -1) = true
      · have hne : Lib.indexByte r c = -1 := by simpa using hm
        intro x hx
        rcases List.mem_cons.1 hx with rfl | hx
        · simpa using hb
        · exact ih (by omega) x hx
      · rw [if_neg hm] at h
        have hge := Lib.indexByte_ge r c
        have hne : Lib.indexByte r c ≠ -1 := by simpa using hm
        omega
end Go.Proofs.YtalaajbajgdglaaGreatDoor
namespace Go.Proofs.YtalaajbajgdglaaGreatDoor
open Go Go.RowKit Go.BigFrame
def layPre_ren : Go.Shelf.Ren := ⟨fun | 99 => 84 | 206 => 124 | n => n, fun | 3 => 3 | 4 => 4 | 9 => 9 | n => n, fun | n => n⟩
theorem layPre : Go.Proofs.Lays.n99 Tryz.prog layPre_ren := {
  mixed := by kernel_rfl
  f99 := Tryz.func84.trans (congrArg some (by kernel_rfl))
  f206 := Tryz.func124.trans (congrArg some (by kernel_rfl))
  t3 := Tryz.underlying3
  a3 := Tryz.isAgg3
  z3 := Tryz.sizeOf3
  v3 := Tryz.zeroValue3
  t4 := Tryz.underlying4
  a4 := Tryz.isAgg4
  z4 := Tryz.sizeOf4
  v4 := Tryz.zeroValue4
  t9 := Tryz.underlying9
  a9 := Tryz.isAgg9
  z9 := Tryz.sizeOf9
  v9 := Tryz.zeroValue9 }
def laySuf_ren : Go.Shelf.Ren := ⟨fun | 100 => 132 | 207 => 162 | n => n, fun | 3 => 3 | 4 => 4 | 9 => 9 | n => n, fun | n => n⟩
theorem laySuf : Go.Proofs.Lays.n100 Tryz.prog laySuf_ren := {
  mixed := by kernel_rfl
  f100 := Tryz.func132.trans (congrArg some (by kernel_rfl))
  f207 := Tryz.func162.trans (congrArg some (by kernel_rfl))
  t3 := Tryz.underlying3
  a3 := Tryz.isAgg3
  z3 := Tryz.sizeOf3
  v3 := Tryz.zeroValue3
  t4 := Tryz.underlying4
  a4 := Tryz.isAgg4
  z4 := Tryz.sizeOf4
  v4 := Tryz.zeroValue4
  t9 := Tryz.underlying9
  a9 := Tryz.isAgg9
  z9 := Tryz.sizeOf9
  v9 := Tryz.zeroValue9 }
def layIB_ren : Go.Shelf.Ren := ⟨fun | 137 => 92 | 217 => 139 | 266 => 168 | n => n, fun | 3 => 3 | 5 => 5 | 9 => 9 | n => n, fun | n => n⟩
theorem layIB : Go.Proofs.Lays.n137 Tryz.prog layIB_ren := {
  mixed := by kernel_rfl
  f137 := Tryz.func92.trans (congrArg some (by kernel_rfl))
  f217 := Tryz.func139.trans (congrArg some (by kernel_rfl))
  f266 := Tryz.func168.trans (congrArg some (by kernel_rfl))
  t3 := Tryz.underlying3
  a3 := Tryz.isAgg3
  z3 := Tryz.sizeOf3
  v3 := Tryz.zeroValue3
  t5 := Tryz.underlying5
  a5 := Tryz.isAgg5
  z5 := Tryz.sizeOf5
  v5 := Tryz.zeroValue5
  t9 := Tryz.underlying9
  a9 := Tryz.isAgg9
  z9 := Tryz.sizeOf9
  v9 := Tryz.zeroValue9 }
def layIx_ren : Go.Shelf.Ren := ⟨fun | 143 => 85 | 217 => 139 | 219 => 125 | 224 => 160 | 225 => 159 | 266 => 168 | 267 => 161 | 314 => 186 | n => n, fun | 3 => 3 | 4 => 4 | 5 => 5 | 9 => 9 | 46 => 188 | 51 => 204 | 146 => 205 | n => n, fun | 1 => 0 | n => n⟩
theorem layIx : Go.Proofs.Lays.n143 Tryz.prog layIx_ren := {
  mixed := by kernel_rfl
  f143 := Tryz.func85.trans (congrArg some (by kernel_rfl))
  f217 := Tryz.func139.trans (congrArg some (by kernel_rfl))
  f219 := Tryz.func125.trans (congrArg some (by kernel_rfl))
  f224 := Tryz.func160.trans (congrArg some (by kernel_rfl))
  f225 := Tryz.func159.trans (congrArg some (by kernel_rfl))
  f266 := Tryz.func168.trans (congrArg some (by kernel_rfl))
  f267 := Tryz.func161.trans (congrArg some (by kernel_rfl))
  f314 := Tryz.func186.trans (congrArg some (by kernel_rfl))
  t3 := Tryz.underlying3
  a3 := Tryz.isAgg3
  z3 := Tryz.sizeOf3
  v3 := Tryz.zeroValue3
  t4 := Tryz.underlying4
  a4 := Tryz.isAgg4
  z4 := Tryz.sizeOf4
  v4 := Tryz.zeroValue4
  t5 := Tryz.underlying5
  a5 := Tryz.isAgg5
  z5 := Tryz.sizeOf5
  v5 := Tryz.zeroValue5
  t9 := Tryz.underlying9
  a9 := Tryz.isAgg9
  z9 := Tryz.sizeOf9
  v9 := Tryz.zeroValue9
  t46 := Tryz.underlying188
  a46 := Tryz.isAgg188
  z46 := Tryz.sizeOf188
  v46 := Tryz.zeroValue188
  t51 := Tryz.underlying204
  a51 := Tryz.isAgg204
  z51 := Tryz.sizeOf204
  v51 := Tryz.zeroValue204
  t146 := Tryz.underlying205
  a146 := Tryz.isAgg205
  z146 := Tryz.sizeOf205
  v146 := Tryz.zeroValue205
  g1 := by kernel_rfl }

theorem HasPrefix_any (s p : ByteArray) (w : World) : Calls Tryz.prog 84 #[.string s, .string p] w (RVal (.bool (Lib.hasPrefix s.data.toList p.data.toList)) w) :=
  (Any.strings_HasPrefix layPre s p w).mono fun _ _ ⟨h1, h2⟩ => ⟨h1, h2 ▸ Ext.refl w⟩
theorem HasSuffix_any (s p : ByteArray) (w : World) (hs : s.size ≤ 9223372036854775807) : Calls Tryz.prog 132 #[.string s, .string p] w (RVal (.bool (Lib.hasSuffix s.data.toList p.data.toList)) w) :=
  (Any.strings_HasSuffix laySuf s p w hs).mono fun _ _ ⟨h1, h2⟩ => ⟨h1, h2 ▸ Ext.refl w⟩
theorem IndexByte_any (s : ByteArray) (c : UInt8) (z : Int) (hz : z = (c.toNat : Int)) (w : World) : Calls Tryz.prog 92 #[.string s, .int .u8 z] w (RVal (.int .i64 (Lib.indexByte s.data.toList c)) w) := by
  subst hz
  refine (Any.strings_IndexByte layIB s (c.toNat : Int) w).mono fun _ _ ⟨h1, h2⟩ => ⟨h1.trans ?_, h2 ▸ Ext.refl w⟩
  have e : ((c.toNat : Int)).toNat.toUInt8 = c := by simp
  rw [e]
theorem Index_any (s sub : ByteArray) (m : Int) (w : World) (hs : s.size < 4294967281) (hm : w.cell? ⟨0, 0, none⟩ = some (.int .i64 m)) : Calls Tryz.prog 85 #[.string s, .string sub] w (RVal (.int .i64 (Lib.index s.data.toList sub.data.toList)) w) :=
  (Any.strings_Index layIx s sub m w hs hm).mono fun _ _ ⟨h1, h2⟩ => ⟨h1, h2 ▸ Ext.refl w⟩

theorem xdigit_any (c : UInt8) (w : World) : Calls Tryz.prog 129 #[.int .u8 (c.toNat : Int)] w (RBool (digitB c) w) := by
  have x := Ext.refl w
  obtain ⟨b, hb⟩ : ∃ b, digitB c = b := ⟨_, rfl⟩
  rw [hb]
  unfold digitB at hb
  have HB := qh hb
  clear hb
  by_cases h1 : (48 : Int) ≤ (c.toNat : Int)
  · by_cases h2 : (c.toNat : Int) ≤ 57
    · have e : b = true := by rw [← HB.out]; exact decide_eq_true (by omega)
      subst e
      go_enter Tryz.func129, Tryz.ntmps129
      go_wp2
      go_ret
      exact ⟨rfl, x⟩
    · have e : b = false := by rw [← HB.out]; exact decide_eq_false (by omega)
      subst e
      go_enter Tryz.func129, Tryz.ntmps129
      go_wp2
      go_ret
      exact ⟨rfl, x⟩
  · have e : b = false := by rw [← HB.out]; exact decide_eq_false (by omega)
    subst e
    go_enter Tryz.func129, Tryz.ntmps129
    go_wp2
    go_ret
    exact ⟨rfl, x⟩
theorem xblank_any (c : UInt8) (w : World) : Calls Tryz.prog 131 #[.int .u8 (c.toNat : Int)] w (RBool (blankB c) w) := by
  have x := Ext.refl w
  obtain ⟨b, hb⟩ : ∃ b, blankB c = b := ⟨_, rfl⟩
  rw [hb]
  have hbi : ∀ c : UInt8, blankB c = decide (c.toNat = 32 ∨ 9 ≤ c.toNat ∧ c.toNat ≤ 13 ∧ c.toNat ≠ 11) := by
    exact all_bytes (p := fun c => blankB c = decide (c.toNat = 32 ∨ 9 ≤ c.toNat ∧ c.toNat ≤ 13 ∧ c.toNat ≠ 11)) (by decide +kernel)
  have HB := qh ((hbi c).symm.trans hb)
  clear hb hbi
  by_cases h0 : c.toNat = 32
  · have e : b = true := by rw [← HB.out]; exact decide_eq_true (.inl h0)
    have e0 : ((c.toNat : Int) == 32) = true := by rw [h0]; rfl
    subst e
    clear h0
    go_enter Tryz.func131, Tryz.ntmps131
    go_wp2
    go_ret
    exact ⟨rfl, x⟩
  have e0 : ((c.toNat : Int) == 32) = false := by rw [beq_eq_false_iff_ne]; omega
  by_cases h1 : (9 : Int) ≤ (c.toNat : Int)
  · by_cases h2 : (c.toNat : Int) ≤ 13
    · by_cases h3 : c.toNat = 11
      · have e : b = false := by rw [← HB.out]; exact decide_eq_false (by omega)
        have e1 : ((c.toNat : Int) == 11) = true := by rw [h3]; rfl
        have e2 : ((c.toNat : Int) != 11) = false := by simp [bne, e1]
        subst e
        clear h3 h0
        go_enter Tryz.func131, Tryz.ntmps131
        go_wp2
        go_ret
        exact ⟨by first | rfl | (rw [e2]), x⟩
      · have e : b = true := by rw [← HB.out]; exact decide_eq_true (by omega)
        have e1 : ((c.toNat : Int) == 11) = false := by rw [beq_eq_false_iff_ne]; omega
        have e2 : ((c.toNat : Int) != 11) = true := by simp [bne, e1]
        subst e
        clear h3 h0
        go_enter Tryz.func131, Tryz.ntmps131
        go_wp2
        go_ret
        exact ⟨by first | rfl | (rw [e2]), x⟩
    · have e : b = false := by rw [← HB.out]; exact decide_eq_false (by omega)
      subst e
      go_enter Tryz.func131, Tryz.ntmps131
      go_wp2
      go_ret
      exact ⟨rfl, x⟩
  · have e : b = false := by rw [← HB.out]; exact decide_eq_false (by omega)
    subst e
    go_enter Tryz.func131, Tryz.ntmps131
    go_wp2
    go_ret
    exact ⟨rfl, x⟩
def optV (o : Option (List UInt8)) : Value := .tuple #[.string (bs (o.getD [])), .bool o.isSome]
theorem named_any (s : ByteArray) (w : World) : Calls Tryz.prog 141 #[.string s] w (RVal (optV (namedL s.data.toList)) w) := by
  have x := Ext.refl w
  obtain ⟨r, hr⟩ : ∃ r, namedL s.data.toList = r := ⟨_, rfl⟩
  rw [hr]
  unfold namedL at hr
  have HR := qh hr
  clear hr
  by_cases h0 : s.data.toList = [97, 109, 112]
  · have e : r = some [38] := by rw [← HR.out, if_pos h0]
    have e0 : (s.toList == ([97, 109, 112] : List UInt8)) = true := by rw [ByteArray.toList_eq, h0]; rfl
    subst e
    clear  h0
    go_enter Tryz.func141, Tryz.ntmps141
    go_wp2
    go_ret2
    exact ⟨rfl, x⟩
  have e0 : (s.toList == ([97, 109, 112] : List UInt8)) = false := by rw [ByteArray.toList_eq, beq_eq_false_iff_ne]; exact h0
  by_cases h1 : s.data.toList = [108, 116]
  · have e : r = some [60] := by rw [← HR.out, if_neg h0, if_pos h1]
    have e1 : (s.toList == ([108, 116] : List UInt8)) = true := by rw [ByteArray.toList_eq, h1]; rfl
    subst e
    clear h0 h1
    go_enter Tryz.func141, Tryz.ntmps141
    go_wp2
    go_ret2
    exact ⟨rfl, x⟩
  have e1 : (s.toList == ([108, 116] : List UInt8)) = false := by rw [ByteArray.toList_eq, beq_eq_false_iff_ne]; exact h1
  by_cases h2 : s.data.toList = [103, 116]
  · have e : r = some [62] := by rw [← HR.out, if_neg h0, if_neg h1, if_pos h2]
    have e2 : (s.toList == ([103, 116] : List UInt8)) = true := by rw [ByteArray.toList_eq, h2]; rfl
    subst e
    clear h0 h1 h2
    go_enter Tryz.func141, Tryz.ntmps141
    go_wp2
    go_ret2
    exact ⟨rfl, x⟩
  have e2 : (s.toList == ([103, 116] : List UInt8)) = false := by rw [ByteArray.toList_eq, beq_eq_false_iff_ne]; exact h2
  by_cases h3 : s.data.toList = [113, 117, 111, 116]
  · have e : r = some [34] := by rw [← HR.out, if_neg h0, if_neg h1, if_neg h2, if_pos h3]
    have e3 : (s.toList == ([113, 117, 111, 116] : List UInt8)) = true := by rw [ByteArray.toList_eq, h3]; rfl
    subst e
    clear h0 h1 h2 h3
    go_enter Tryz.func141, Tryz.ntmps141
    go_wp2
    go_ret2
    exact ⟨rfl, x⟩
  have e3 : (s.toList == ([113, 117, 111, 116] : List UInt8)) = false := by rw [ByteArray.toList_eq, beq_eq_false_iff_ne]; exact h3
  by_cases h4 : s.data.toList = [97, 112, 111, 115]
  · have e : r = some [39] := by rw [← HR.out, if_neg h0, if_neg h1, if_neg h2, if_neg h3, if_pos h4]
    have e4 : (s.toList == ([97, 112, 111, 115] : List UInt8)) = true := by rw [ByteArray.toList_eq, h4]; rfl
    subst e
    clear h0 h1 h2 h3 h4
    go_enter Tryz.func141, Tryz.ntmps141
    go_wp2
    go_ret2
    exact ⟨rfl, x⟩
  have e4 : (s.toList == ([97, 112, 111, 115] : List UInt8)) = false := by rw [ByteArray.toList_eq, beq_eq_false_iff_ne]; exact h4
  by_cases h5 : s.data.toList = [110, 98, 115, 112]
  · have e : r = some [194, 160] := by rw [← HR.out, if_neg h0, if_neg h1, if_neg h2, if_neg h3, if_neg h4, if_pos h5]
    have e5 : (s.toList == ([110, 98, 115, 112] : List UInt8)) = true := by rw [ByteArray.toList_eq, h5]; rfl
    subst e
    clear h0 h1 h2 h3 h4 h5
    go_enter Tryz.func141, Tryz.ntmps141
    go_wp2
    go_ret2
    exact ⟨rfl, x⟩
  have e5 : (s.toList == ([110, 98, 115, 112] : List UInt8)) = false := by rw [ByteArray.toList_eq, beq_eq_false_iff_ne]; exact h5
  have e : r = none := by rw [← HR.out, if_neg h0, if_neg h1, if_neg h2, if_neg h3, if_neg h4, if_neg h5]
  subst e
  clear h0 h1 h2 h3 h4 h5
  go_enter Tryz.func141, Tryz.ntmps141
  go_wp2
  go_ret2
  exact ⟨rfl, x⟩
theorem bits_or32 (c : UInt8) : bits BinOp.or IntKind.u8 (c.toNat : Int) 32 = ((c ||| 32).toNat : Int) := by
  revert c
  exact all_bytes (p := fun c => bits BinOp.or IntKind.u8 (c.toNat : Int) 32 = ((c ||| 32).toNat : Int)) (by decide +kernel)
theorem xletter_any (c : UInt8) (w : World) : Calls Tryz.prog 87 #[.int .u8 (c.toNat : Int)] w (RBool (letterB c) w) := by
  have x := Ext.refl w
  obtain ⟨b, hb⟩ : ∃ b, letterB c = b := ⟨_, rfl⟩
  rw [hb]
  unfold letterB at hb
  have hor := bits_or32 c
  generalize c ||| 32 = d at *
  have HB := qh hb
  clear hb
  by_cases h1 : (97 : Int) ≤ (d.toNat : Int)
  · by_cases h2 : (d.toNat : Int) ≤ 122
    · have e : b = true := by rw [← HB.out]; exact decide_eq_true (by omega)
      subst e
      go_enter Tryz.func87, Tryz.ntmps87
      go_wp2
      go_ret
      exact ⟨rfl, x⟩
    · have e : b = false := by rw [← HB.out]; exact decide_eq_false (by omega)
      subst e
      go_enter Tryz.func87, Tryz.ntmps87
      go_wp2
      go_ret
      exact ⟨rfl, x⟩
  · have e : b = false := by rw [← HB.out]; exact decide_eq_false (by omega)
    subst e
    go_enter Tryz.func87, Tryz.ntmps87
    go_wp2
    go_ret
    exact ⟨rfl, x⟩
theorem xanew_any (s : ByteArray) (hs : s.size ≤ 1000000000000) (w : World) : Calls Tryz.prog 49 #[.string s] w (RVal (.string (anewB s)) w) := by
  obtain ⟨v, w', h1, v2, hv, hx, hr, hc⟩ := runes_run s hs w
  cases hv
  have H1 := qh h1
  have H2 := qh (hc w' (Ext.refl w'))
  have HX := qh hx
  clear h1 hr hc hx hs
  go_enter Tryz.func49, Tryz.ntmps49
  go_wp2_with fail
  rw [H1.out]
  go_wp2_with fail
  rw [H2.out]
  go_wp2_with fail
  go_ret
  exact ⟨rfl, HX.out⟩
def Fr (g cap : Nat) (w : World) : Prop := ∃ cur fz, w.heap[g]? = some (.cells cur 5 fz) ∧ cap ≤ fz.1
theorem run_toBytesF (w : World) (s : ByteArray) (hs : s.size ≤ 140737488355328) : ∃ g cap w', (Go.convert 9 71 (.string s)).run Tryz.prog w = .ok (.slice (some ⟨g, 0, none⟩) s.size cap) w' ∧ Buf w (.slice (some ⟨g, 0, none⟩) s.size cap) s.data.toList w' ∧ Fr g cap w' := by
  obtain ⟨v, w', h1, h2⟩ := run_toBytes w s hs
  have h3 := Lib.run_convert_string_bytes (P := Tryz.prog) w 9 71 5 s Tryz.underlying9 Tryz.underlying71 Tryz.underlying5
  rw [h3] at h1
  injection h1 with e1 e2
  subst e1
  subst e2
  refine ⟨_, _, _, h3, h2, _, _, Lib.bytesWorld_at_new w 5 s, ?_⟩
  have hge := grownCap_ge w s.size 0 5
  have : (Lib.bytesCells w 5 s).size = grownCap w s.size 0 5 := by
    unfold Lib.bytesCells
    simp
    show s.size + _ = _
    omega
  exact Nat.le_of_eq this.symm
theorem Buf.set {W0 w : World} {l : List UInt8} {g n cap : Nat} (h : Buf W0 (.slice (some ⟨g, 0, none⟩) n cap) l w) (hf : Fr g cap w) {k : Nat} (hk : k < l.length) (c : UInt8) :
    w.frozen? ⟨g, k, none⟩ = false ∧ Buf W0 (.slice (some ⟨g, 0, none⟩) n cap) (l.set k c) (w.setCell ⟨g, k, none⟩ (.int .u8 (c.toNat : Int))) ∧ Fr g cap (w.setCell ⟨g, k, none⟩ (.int .u8 (c.toNat : Int))) := by
  obtain ⟨g', cap', cur, fz, h1, h2, h3, h4, h5, h6, h7, h8, h9, h10⟩ := h
  cases h1
  obtain ⟨cur2, fz2, h11, h12⟩ := hf
  rw [h3] at h11
  cases h11
  refine ⟨?_, ⟨g, cap, _, fz, by rw [List.length_set], h2, heap_setCell_same (i := k) h3 _, by rw [List.length_set]; exact h4, by rw [List.length_set]; exact h5, h6, by simpa using h7, ?_, h9.setCell (p := ⟨g, k, none⟩) h2 _, by simpa using h10⟩, _, fz, heap_setCell_same (i := k) h3 _, h12⟩
  · unfold World.frozen?
    simp only [h3]
    simp
    omega
  · rw [Array.toList_setIfInBounds, List.length_set, List.take_set, h8]
    unfold Lib.byteCells
    rw [List.map_set]
theorem part_step {l : List UInt8} {k : Nat} {c : UInt8} (h : l[k]? = some c) : (l.take (k + 1)).map smallC ++ l.drop (k + 1) = ((l.take k).map smallC ++ l.drop k).set k (smallC c) := by
  obtain ⟨hk, e⟩ := List.getElem?_eq_some_iff.1 h
  have hm : min k l.length = k := Nat.min_eq_left (Nat.le_of_lt hk)
  rw [List.take_succ_eq_append_getElem hk, List.map_append, List.drop_eq_getElem_cons hk, e, List.set_append_right _ _ (by simp; omega)]
  simp [hm]
theorem part_same {l : List UInt8} {k : Nat} {c : UInt8} (h : l[k]? = some c) (hc : smallC c = c) : (l.take (k + 1)).map smallC ++ l.drop (k + 1) = (l.take k).map smallC ++ l.drop k := by
  obtain ⟨hk, e⟩ := List.getElem?_eq_some_iff.1 h
  rw [List.take_succ_eq_append_getElem hk, List.map_append, List.drop_eq_getElem_cons hk, e]
  simp [hc]
theorem small_any (s : ByteArray) (hs : s.size ≤ 1000000000000) (w : World) : Calls Tryz.prog 127 #[.string s] w (RVal (.string (bs (s.data.toList.map smallC))) w) := by
  obtain ⟨g, cap, w1, h1, hb1, hf1⟩ := run_toBytesF w s (by omega)
  have hsz : s.data.toList.length = s.size := rfl
  obtain ⟨l, hl⟩ : ∃ l, s.data.toList = l := ⟨_, rfl⟩
  obtain ⟨N, hN⟩ : ∃ N, s.size = N := ⟨_, rfl⟩
  rw [hl] at hb1 hsz ⊢
  rw [hN] at hsz hb1 h1 hs
  have H1 := qh h1
  have HB1 := qh hb1
  have HF1 := qh hf1
  clear h1 hb1 hf1 hl hN
  go_enter Tryz.func127, Tryz.ntmps127
  go_wp2_with fail
  rw [H1.out]
  go_wp2_with fail
  go_loopw [4, 5, 10] (fun _ _ i wr => ∃ k : Nat, k ≤ N ∧ i = .int .i64 k ∧ Buf w (.slice (some ⟨g, 0, none⟩) N cap) ((l.take k).map smallC ++ l.drop k) wr ∧ Fr g cap wr) (fun _ _ i _ => N - (intOf i).toNat)
  case atStart => exact ⟨0, Nat.zero_le _, rfl, by simpa using HB1.out, HF1.out⟩
  case round =>
    obtain ⟨k, hk, rfl, hbr, hfr⟩ := hrel
    have HBR := qh hbr
    have HFR := qh hfr
    by_cases hlt : k < N
    · obtain ⟨c, hc⟩ : ∃ c, l[k]? = some c := ⟨l[k]'(by omega), List.getElem?_eq_getElem (by omega)⟩
      have hlen : ((l.take k).map smallC ++ l.drop k).length = N := by simp; omega
      have hcur : ((l.take k).map smallC ++ l.drop k)[k]? = some c := by
        rw [List.getElem?_append_right (by simp; omega)]
        have hm : min k l.length = k := Nat.min_eq_left (by omega)
        simp [hm, hc]
      have q := hbr.cells rfl k (.int .u8 (c.toNat : Int)) (by unfold Lib.byteCells; rw [List.getElem?_map, hcur]; rfl)
      rw [Addr.add_lit, Nat.zero_add] at q
      obtain ⟨fq, hset, hfs⟩ := hbr.set hfr (k := k) (by omega) (smallC c)
      rw [← part_step hc] at hset
      have HSET := qh (And.intro hset hfs)
      have HSAME := qh (fun h : smallC c = c => part_same hc h)
      have hor := bits_or32 c
      clear hset hbr hcur hlen hc hfr hfs
      by_cases b1 : (65 : Int) ≤ (c.toNat : Int)
      · by_cases b2 : (c.toNat : Int) ≤ 90
        · have e : smallC c = c ||| 32 := by unfold smallC; rw [if_pos ⟨by omega, by omega⟩]
          rw [e] at HSET
          clear e
          go_wp2_with fail
          go_roundw
          case rel => exact ⟨k + 1, by omega, by go_num, HSET.out.1, HSET.out.2⟩
          case measure => simp [intOf]; omega
        · have e := HSAME.out (by unfold smallC; rw [if_neg (by omega)])
          have HSM := qh e
          clear e
          go_wp2_with fail
          go_roundw
          case rel => exact ⟨k + 1, by omega, by go_num, by rw [HSM.out]; exact HBR.out, HFR.out⟩
          case measure => simp [intOf]; omega
      · have e := HSAME.out (by unfold smallC; rw [if_neg (by omega)])
        have HSM := qh e
        clear e
        go_wp2_with fail
        go_roundw
        case rel => exact ⟨k + 1, by omega, by go_num, by rw [HSM.out]; exact HBR.out, HFR.out⟩
        case measure => simp [intOf]; omega
    · obtain rfl : k = N := by omega
      have e : (l.take k).map smallC ++ l.drop k = l.map smallC := by rw [List.take_of_length_le (by omega), List.drop_eq_nil_of_le (by omega), List.append_nil]
      rw [e] at hbr HBR
      have hcv := run_ofBytes hbr
      have HCV := qh hcv
      clear hbr hcv e
      go_wp2_with fail
      rw [HCV.out]
      go_wp2_with fail
      go_ret
      exact ⟨rfl, HBR.out.ex⟩
theorem lower_any (c : UInt8) (w : World) : Calls Tryz.prog 204 #[.int .u8 (c.toNat : Int)] w (fun e w' => e = .returned (.int .u8 ((c ||| 32).toNat : Int)) ∧ w' = w) := by
  have hor := bits_or32 c
  go_enter Tryz.func204, Tryz.ntmps204
  go_wp2_with fail
  go_ret
  exact ⟨by first | rw [hor] | (rw [UInt8.toNat_or]; rfl), rfl⟩
def pdig (c : UInt8) : Nat := if 48 ≤ c.toNat ∧ c.toNat ≤ 57 then c.toNat - 48 else if 97 ≤ (c ||| 32).toNat ∧ (c ||| 32).toNat ≤ 122 then (c ||| 32).toNat - 87 else 99
theorem pdig_digV (b : Nat) (hb : b ≤ 16) (c : UInt8) : (pdig c < b ↔ digV c < b) ∧ (digV c < b → pdig c = digV c) := by
  have h : ∀ c : UInt8, (pdig c < 16 ↔ digV c < 16) ∧ (digV c < 16 → pdig c = digV c) := all_bytes (p := fun c => (pdig c < 16 ↔ digV c < 16) ∧ (digV c < 16 → pdig c = digV c)) (by decide +kernel)
  obtain ⟨h1, h2⟩ := h c
  refine ⟨⟨fun h3 => ?_, fun h3 => ?_⟩, fun h3 => h2 (by omega)⟩
  · have := h2 (h1.1 (by omega)); omega
  · have := h2 (by omega); omega
def PUis (r : Option Nat) (w : World) (e : Ending) (w' : World) : Prop := e = .returned (.tuple #[.int .u64 (r.getD 0 : Nat), match r with | some _ => .nilIface | none => .iface 215 (.int .i64 2)]) ∧ Ext w w'
theorem pow_le7 {k : Nat} (h : k ≤ 7) : 16 ^ k ≤ 268435456 := Nat.pow_le_pow_right (by decide) h
theorem pu10_any (s : ByteArray) (h0 : s.size ≠ 0) (h7 : s.size ≤ 7) (w : World) : Calls Tryz.prog 198 #[.string s, .int .i64 10, .int .i64 32] w (PUis (numL 10 0 s.data.toList) w) := by
  obtain ⟨g, cap, w1, h1, hb1, hf1⟩ := run_toBytesF w s (by omega)
  have e0 : (s.toList == ([] : List UInt8)) = false := by rw [ByteArray.toList_eq, beq_eq_false_iff_ne]; intro h; exact h0 (by show s.data.size = 0; have := congrArg List.length h; simpa using this)
  have hsz : s.data.toList.length = s.size := rfl
  obtain ⟨l, hl⟩ : ∃ l, s.data.toList = l := ⟨_, rfl⟩
  obtain ⟨N, hN⟩ : ∃ N, s.size = N := ⟨_, rfl⟩
  rw [hl] at hb1 hsz ⊢
  rw [hN] at hsz hb1 h1 h7
  obtain ⟨r, hr⟩ : ∃ r, numL 10 0 l = r := ⟨_, rfl⟩
  rw [hr]
  have HR := qh hr
  have H1 := qh h1
  have HB1 := qh hb1
  clear h1 hb1 hf1 hl hN hr h0
  go_enter Tryz.func198, Tryz.ntmps198
  go_wp2_with fail
  rw [H1.out]
  go_wp2_with fail
  go_loopw [12, 13, 15, 16, 17, 101] (fun u n _ _ _ i wr => ∃ (k m : Nat), k ≤ N ∧ i = .int .i64 k ∧ u = .bool false ∧ n = .int .u64 m ∧ numL 10 m (l.drop k) = r ∧ m < 16 ^ k ∧ Ext w1 wr) (fun _ _ _ _ _ i _ => N - (intOf i).toNat)
  case atStart => exact ⟨0, 0, Nat.zero_le _, rfl, rfl, rfl, by simpa using HR.out, by decide, Ext.refl _⟩
  case round =>
    obtain ⟨k, m, hk, rfl, rfl, rfl, hnum, hm, xr⟩ := hrel
    have hp7 := pow_le7 (k := k) (by omega)
    have HNUM := qh hnum
    have XR := qh xr
    clear hnum
    by_cases hlt : k < N
    · obtain ⟨c, hc⟩ : ∃ c, l[k]? = some c := ⟨l[k]'(by omega), List.getElem?_eq_getElem (by omega)⟩
      have q := (HB1.out.ext xr).cells rfl k (.int .u8 (c.toNat : Int)) (by unfold Lib.byteCells; rw [List.getElem?_map, hc]; rfl)
      rw [Addr.add_lit, Nat.zero_add] at q
      have hdrop : l.drop k = c :: l.drop (k + 1) := by
        obtain ⟨hk2, e⟩ := List.getElem?_eq_some_iff.1 hc
        rw [List.drop_eq_getElem_cons hk2, e]
      have hn := HNUM.out
      rw [hdrop, numL] at hn
      obtain ⟨p1, p2⟩ := pdig_digV 10 (by decide) c
      have bad : ¬ pdig c < 10 → r = none := fun h => by rw [← hn, if_pos (by omega)]
      have good : pdig c < 10 → numL 10 (m * 10 + pdig c) (l.drop (k + 1)) = r := fun h => by
        rw [p2 (p1.1 h), ← hn, if_neg (by have := p1.1 h; omega)]
      have pw : 16 ^ (k + 1) = 16 ^ k * 16 := Nat.pow_succ 16 k
      have BAD := qh bad
      have GOOD := qh good
      have HLOW := qh (lower_any c)
      have PW := qh pw
      have PD := qh (show pdig c = if 48 ≤ c.toNat ∧ c.toNat ≤ 57 then c.toNat - 48 else if 97 ≤ (c ||| 32).toNat ∧ (c ||| 32).toNat ≤ 122 then (c ||| 32).toNat - 87 else 99 from rfl)
      obtain ⟨P, hP⟩ : ∃ P, 16 ^ k = P := ⟨_, rfl⟩
      rw [hP] at hm hp7 PW
      obtain ⟨d, hd⟩ : ∃ d, pdig c = d := ⟨_, rfl⟩
      rw [hd] at BAD GOOD PD
      obtain ⟨lo, hlo⟩ : ∃ lo, (c ||| 32).toNat = lo := ⟨_, rfl⟩
      rw [hlo] at HLOW PD
      have hl256 : lo < 256 := by rw [← hlo]; exact (c ||| 32).toNat_lt
      have hc256 : c.toNat < 256 := c.toNat_lt
      have b95 : ((c.toNat : Int) == 95) = true ∨ ((c.toNat : Int) == 95) = false := by cases ((c.toNat : Int) == 95); exact .inr rfl; exact .inl rfl
      clear hc hdrop hn p1 p2 bad good pw hP hd hlo xr
      have hcut : ¬ (1844674407370955162 : Int) ≤ (m : Int) := by omega
      have hcuti : decide ((1844674407370955162 : Int) ≤ (m : Int)) = false := decide_eq_false hcut
      have hcutn : decide (1844674407370955162 ≤ m) = false := decide_eq_false (by omega)
      rcases b95 with b95 | b95
      · by_cases c1 : (48 : Int) ≤ (c.toNat : Int)
        · by_cases c2 : (c.toNat : Int) ≤ 57
          · have hd : d = c.toNat - 48 := by rw [PD.out, if_pos ⟨by omega, by omega⟩]
            have hw1 : IntKind.u8.wrap ((c.toNat : Int) - 48) = (d : Int) := by rw [IntWalk.u8_in _ (by omega)]; omega
            by_cases hdb : d < 10
            · have G := qh (GOOD.out hdb)
              have h3 : ¬ (10 : Int) ≤ (d : Int) := by omega
              have h3d : decide (10 ≤ d) = false := decide_eq_false (by omega)
              have h3i : decide ((10 : Int) ≤ (d : Int)) = false := decide_eq_false h3
              have hm1 : IntKind.u64.wrap ((m : Int) * 10) = (m : Int) * 10 := IntWalk.u64_in _ (by omega)
              have hm2 : IntKind.u64.wrap ((m : Int) * 10 + (d : Int)) = (m : Int) * 10 + (d : Int) := IntWalk.u64_in _ (by omega)
              have h4 : ¬ (m : Int) * 10 + (d : Int) < (m : Int) * 10 := by omega
              have h4i : decide ((m : Int) * 10 + (d : Int) < (m : Int) * 10) = false := decide_eq_false h4
              have h5 : ¬ (4294967295 : Int) < (m : Int) * 10 + (d : Int) := by omega
              have h5i : decide ((4294967295 : Int) < (m : Int) * 10 + (d : Int)) = false := decide_eq_false h5
              have hpw : m * 10 + d < 16 ^ (k + 1) := by rw [PW.out]; omega
              have HPW := qh hpw
              clear hpw hdb hd
              go_wp2_with fail
              go_roundw
              case rel => exact ⟨k + 1, m * 10 + d, by omega, by go_num, rfl, by push_cast; rfl, G.out, HPW.out, XR.out⟩
              case measure => simp [intOf]; omega
            · have hr0 : r = none := BAD.out hdb
              have h3 : (10 : Int) ≤ (d : Int) := by omega
              subst hr0
              clear hdb hd
              go_wp2_with fail
              go_ret2
              exact ⟨rfl, HB1.out.ex.trans XR.out⟩
          · skip
            by_cases l1 : (97 : Int) ≤ (lo : Int)
            · have j1 : decide (97 ≤ lo) = true := decide_eq_true (by omega)
              have j1i : decide ((97 : Int) ≤ (lo : Int)) = true := decide_eq_true l1
              by_cases l2 : (lo : Int) ≤ 122
              · have j2 : decide (lo ≤ 122) = true := decide_eq_true (by omega)
                have j2i : decide ((lo : Int) ≤ 122) = true := decide_eq_true l2
                have hd : d = lo - 87 := by rw [PD.out, if_neg (by omega), if_pos ⟨by omega, by omega⟩]
                have hw1 : IntKind.u8.wrap ((lo : Int) - 97) = (lo : Int) - 97 := IntWalk.u8_in _ (by omega)
                have hw2 : IntKind.u8.wrap ((lo : Int) - 97 + 10) = (d : Int) := by rw [IntWalk.u8_in _ (by omega)]; omega
                by_cases hdb : d < 10
                · exact absurd hdb (by omega)
                · have hr0 : r = none := BAD.out hdb
                  have h3 : (10 : Int) ≤ (d : Int) := by omega
                  subst hr0
                  clear hdb hd
                  go_wp2_with (go_at_call 204; refine (HLOW.out _).mono ?_; rintro e wx ⟨rfl, hwx⟩; rw [hwx]; clear hwx)
                  go_ret2
                  exact ⟨rfl, HB1.out.ex.trans XR.out⟩
              · have j2 : decide (lo ≤ 122) = false := decide_eq_false (by omega)
                have j2i : decide ((lo : Int) ≤ 122) = false := decide_eq_false l2
                have hr0 : r = none := BAD.out (by rw [PD.out, if_neg (by omega), if_neg (by omega)]; decide)
                subst hr0
                go_wp2_with (go_at_call 204; refine (HLOW.out _).mono ?_; rintro e wx ⟨rfl, hwx⟩; rw [hwx]; clear hwx)
                go_ret2
                exact ⟨rfl, HB1.out.ex.trans XR.out⟩
            · have j1 : decide (97 ≤ lo) = false := decide_eq_false (by omega)
              have j1i : decide ((97 : Int) ≤ (lo : Int)) = false := decide_eq_false l1
              have hr0 : r = none := BAD.out (by rw [PD.out, if_neg (by omega), if_neg (by omega)]; decide)
              subst hr0
              go_wp2_with (go_at_call 204; refine (HLOW.out _).mono ?_; rintro e wx ⟨rfl, hwx⟩; rw [hwx]; clear hwx)
              go_ret2
              exact ⟨rfl, HB1.out.ex.trans XR.out⟩
        · skip
          by_cases l1 : (97 : Int) ≤ (lo : Int)
          · have j1 : decide (97 ≤ lo) = true := decide_eq_true (by omega)
            have j1i : decide ((97 : Int) ≤ (lo : Int)) = true := decide_eq_true l1
            by_cases l2 : (lo : Int) ≤ 122
            · have j2 : decide (lo ≤ 122) = true := decide_eq_true (by omega)
              have j2i : decide ((lo : Int) ≤ 122) = true := decide_eq_true l2
              have hd : d = lo - 87 := by rw [PD.out, if_neg (by omega), if_pos ⟨by omega, by omega⟩]
              have hw1 : IntKind.u8.wrap ((lo : Int) - 97) = (lo : Int) - 97 := IntWalk.u8_in _ (by omega)
              have hw2 : IntKind.u8.wrap ((lo : Int) - 97 + 10) = (d : Int) := by rw [IntWalk.u8_in _ (by omega)]; omega
              by_cases hdb : d < 10
              · exact absurd hdb (by omega)
              · have hr0 : r = none := BAD.out hdb
                have h3 : (10 : Int) ≤ (d : Int) := by omega
                subst hr0
                clear hdb hd
                go_wp2_with (go_at_call 204; refine (HLOW.out _).mono ?_; rintro e wx ⟨rfl, hwx⟩; rw [hwx]; clear hwx)
                go_ret2
                exact ⟨rfl, HB1.out.ex.trans XR.out⟩
            · have j2 : decide (lo ≤ 122) = false := decide_eq_false (by omega)
              have j2i : decide ((lo : Int) ≤ 122) = false := decide_eq_false l2
              have hr0 : r = none := BAD.out (by rw [PD.out, if_neg (by omega), if_neg (by omega)]; decide)
              subst hr0
              go_wp2_with (go_at_call 204; refine (HLOW.out _).mono ?_; rintro e wx ⟨rfl, hwx⟩; rw [hwx]; clear hwx)
              go_ret2
              exact ⟨rfl, HB1.out.ex.trans XR.out⟩
          · have j1 : decide (97 ≤ lo) = false := decide_eq_false (by omega)
            have j1i : decide ((97 : Int) ≤ (lo : Int)) = false := decide_eq_false l1
            have hr0 : r = none := BAD.out (by rw [PD.out, if_neg (by omega), if_neg (by omega)]; decide)
            subst hr0
            go_wp2_with (go_at_call 204; refine (HLOW.out _).mono ?_; rintro e wx ⟨rfl, hwx⟩; rw [hwx]; clear hwx)
            go_ret2
            exact ⟨rfl, HB1.out.ex.trans XR.out⟩
      · by_cases c1 : (48 : Int) ≤ (c.toNat : Int)
        · by_cases c2 : (c.toNat : Int) ≤ 57
          · have hd : d = c.toNat - 48 := by rw [PD.out, if_pos ⟨by omega, by omega⟩]
            have hw1 : IntKind.u8.wrap ((c.toNat : Int) - 48) = (d : Int) := by rw [IntWalk.u8_in _ (by omega)]; omega
            by_cases hdb : d < 10
            · have G := qh (GOOD.out hdb)
              have h3 : ¬ (10 : Int) ≤ (d : Int) := by omega
              have h3d : decide (10 ≤ d) = false := decide_eq_false (by omega)
              have h3i : decide ((10 : Int) ≤ (d : Int)) = false := decide_eq_false h3
              have hm1 : IntKind.u64.wrap ((m : Int) * 10) = (m : Int) * 10 := IntWalk.u64_in _ (by omega)
              have hm2 : IntKind.u64.wrap ((m : Int) * 10 + (d : Int)) = (m : Int) * 10 + (d : Int) := IntWalk.u64_in _ (by omega)
              have h4 : ¬ (m : Int) * 10 + (d : Int) < (m : Int) * 10 := by omega
              have h4i : decide ((m : Int) * 10 + (d : Int) < (m : Int) * 10) = false := decide_eq_false h4
              have h5 : ¬ (4294967295 : Int) < (m : Int) * 10 + (d : Int) := by omega
              have h5i : decide ((4294967295 : Int) < (m : Int) * 10 + (d : Int)) = false := decide_eq_false h5
              have hpw : m * 10 + d < 16 ^ (k + 1) := by rw [PW.out]; omega
              have HPW := qh hpw
              clear hpw hdb hd
              go_wp2_with fail
              go_roundw
              case rel => exact ⟨k + 1, m * 10 + d, by omega, by go_num, rfl, by push_cast; rfl, G.out, HPW.out, XR.out⟩
              case measure => simp [intOf]; omega
            · have hr0 : r = none := BAD.out hdb
              have h3 : (10 : Int) ≤ (d : Int) := by omega
              subst hr0
              clear hdb hd
              go_wp2_with fail
              go_ret2
              exact ⟨rfl, HB1.out.ex.trans XR.out⟩
          · skip
            by_cases l1 : (97 : Int) ≤ (lo : Int)
            · have j1 : decide (97 ≤ lo) = true := decide_eq_true (by omega)
              have j1i : decide ((97 : Int) ≤ (lo : Int)) = true := decide_eq_true l1
              by_cases l2 : (lo : Int) ≤ 122
              · have j2 : decide (lo ≤ 122) = true := decide_eq_true (by omega)
                have j2i : decide ((lo : Int) ≤ 122) = true := decide_eq_true l2
                have hd : d = lo - 87 := by rw [PD.out, if_neg (by omega), if_pos ⟨by omega, by omega⟩]
                have hw1 : IntKind.u8.wrap ((lo : Int) - 97) = (lo : Int) - 97 := IntWalk.u8_in _ (by omega)
                have hw2 : IntKind.u8.wrap ((lo : Int) - 97 + 10) = (d : Int) := by rw [IntWalk.u8_in _ (by omega)]; omega
                by_cases hdb : d < 10
                · exact absurd hdb (by omega)
                · have hr0 : r = none := BAD.out hdb
                  have h3 : (10 : Int) ≤ (d : Int) := by omega
                  subst hr0
                  clear hdb hd
                  go_wp2_with (go_at_call 204; refine (HLOW.out _).mono ?_; rintro e wx ⟨rfl, hwx⟩; rw [hwx]; clear hwx)
                  go_ret2
                  exact ⟨rfl, HB1.out.ex.trans XR.out⟩
              · have j2 : decide (lo ≤ 122) = false := decide_eq_false (by omega)
                have j2i : decide ((lo : Int) ≤ 122) = false := decide_eq_false l2
                have hr0 : r = none := BAD.out (by rw [PD.out, if_neg (by omega), if_neg (by omega)]; decide)
                subst hr0
                go_wp2_with (go_at_call 204; refine (HLOW.out _).mono ?_; rintro e wx ⟨rfl, hwx⟩; rw [hwx]; clear hwx)
                go_ret2
                exact ⟨rfl, HB1.out.ex.trans XR.out⟩
            · have j1 : decide (97 ≤ lo) = false := decide_eq_false (by omega)
              have j1i : decide ((97 : Int) ≤ (lo : Int)) = false := decide_eq_false l1
              have hr0 : r = none := BAD.out (by rw [PD.out, if_neg (by omega), if_neg (by omega)]; decide)
              subst hr0
              go_wp2_with (go_at_call 204; refine (HLOW.out _).mono ?_; rintro e wx ⟨rfl, hwx⟩; rw [hwx]; clear hwx)
              go_ret2
              exact ⟨rfl, HB1.out.ex.trans XR.out⟩
        · skip
          by_cases l1 : (97 : Int) ≤ (lo : Int)
          · have j1 : decide (97 ≤ lo) = true := decide_eq_true (by omega)
            have j1i : decide ((97 : Int) ≤ (lo : Int)) = true := decide_eq_true l1
            by_cases l2 : (lo : Int) ≤ 122
            · have j2 : decide (lo ≤ 122) = true := decide_eq_true (by omega)
              have j2i : decide ((lo : Int) ≤ 122) = true := decide_eq_true l2
              have hd : d = lo - 87 := by rw [PD.out, if_neg (by omega), if_pos ⟨by omega, by omega⟩]
              have hw1 : IntKind.u8.wrap ((lo : Int) - 97) = (lo : Int) - 97 := IntWalk.u8_in _ (by omega)
              have hw2 : IntKind.u8.wrap ((lo : Int) - 97 + 10) = (d : Int) := by rw [IntWalk.u8_in _ (by omega)]; omega
              by_cases hdb : d < 10
              · exact absurd hdb (by omega)
              · have hr0 : r = none := BAD.out hdb
                have h3 : (10 : Int) ≤ (d : Int) := by omega
                subst hr0
                clear hdb hd
                go_wp2_with (go_at_call 204; refine (HLOW.out _).mono ?_; rintro e wx ⟨rfl, hwx⟩; rw [hwx]; clear hwx)
                go_ret2
                exact ⟨rfl, HB1.out.ex.trans XR.out⟩
            · have j2 : decide (lo ≤ 122) = false := decide_eq_false (by omega)
              have j2i : decide ((lo : Int) ≤ 122) = false := decide_eq_false l2
              have hr0 : r = none := BAD.out (by rw [PD.out, if_neg (by omega), if_neg (by omega)]; decide)
              subst hr0
              go_wp2_with (go_at_call 204; refine (HLOW.out _).mono ?_; rintro e wx ⟨rfl, hwx⟩; rw [hwx]; clear hwx)
              go_ret2
              exact ⟨rfl, HB1.out.ex.trans XR.out⟩
          · have j1 : decide (97 ≤ lo) = false := decide_eq_false (by omega)
            have j1i : decide ((97 : Int) ≤ (lo : Int)) = false := decide_eq_false l1
            have hr0 : r = none := BAD.out (by rw [PD.out, if_neg (by omega), if_neg (by omega)]; decide)
            subst hr0
            go_wp2_with (go_at_call 204; refine (HLOW.out _).mono ?_; rintro e wx ⟨rfl, hwx⟩; rw [hwx]; clear hwx)
            go_ret2
            exact ⟨rfl, HB1.out.ex.trans XR.out⟩
    · obtain rfl : k = N := by omega
      have hr1 : r = some m := by rw [← HNUM.out, List.drop_eq_nil_of_le (by omega)]; rfl
      subst hr1
      clear xr
      go_wp2_with fail
      go_ret2
      exact ⟨rfl, HB1.out.ex.trans XR.out⟩
theorem pu16_any (s : ByteArray) (h0 : s.size ≠ 0) (h7 : s.size ≤ 7) (w : World) : Calls Tryz.prog 198 #[.string s, .int .i64 16, .int .i64 32] w (PUis (numL 16 0 s.data.toList) w) := by
  obtain ⟨g, cap, w1, h1, hb1, hf1⟩ := run_toBytesF w s (by omega)
  have e0 : (s.toList == ([] : List UInt8)) = false := by rw [ByteArray.toList_eq, beq_eq_false_iff_ne]; intro h; exact h0 (by show s.data.size = 0; have := congrArg List.length h; simpa using this)
  have hsz : s.data.toList.length = s.size := rfl
  obtain ⟨l, hl⟩ : ∃ l, s.data.toList = l := ⟨_, rfl⟩
  obtain ⟨N, hN⟩ : ∃ N, s.size = N := ⟨_, rfl⟩
  rw [hl] at hb1 hsz ⊢
  rw [hN] at hsz hb1 h1 h7
  obtain ⟨r, hr⟩ : ∃ r, numL 16 0 l = r := ⟨_, rfl⟩
  rw [hr]
  have HR := qh hr
  have H1 := qh h1
  have HB1 := qh hb1
  clear h1 hb1 hf1 hl hN hr h0
  go_enter Tryz.func198, Tryz.ntmps198
  go_wp2_with fail
  rw [H1.out]
  go_wp2_with fail
  go_loopw [12, 13, 15, 16, 17, 101] (fun u n _ _ _ i wr => ∃ (k m : Nat), k ≤ N ∧ i = .int .i64 k ∧ u = .bool false ∧ n = .int .u64 m ∧ numL 16 m (l.drop k) = r ∧ m < 16 ^ k ∧ Ext w1 wr) (fun _ _ _ _ _ i _ => N - (intOf i).toNat)
  case atStart => exact ⟨0, 0, Nat.zero_le _, rfl, rfl, rfl, by simpa using HR.out, by decide, Ext.refl _⟩
  case round =>
    obtain ⟨k, m, hk, rfl, rfl, rfl, hnum, hm, xr⟩ := hrel
    have hp7 := pow_le7 (k := k) (by omega)
    have HNUM := qh hnum
    have XR := qh xr
    clear hnum
    by_cases hlt : k < N
    · obtain ⟨c, hc⟩ : ∃ c, l[k]? = some c := ⟨l[k]'(by omega), List.getElem?_eq_getElem (by omega)⟩
      have q := (HB1.out.ext xr).cells rfl k (.int .u8 (c.toNat : Int)) (by unfold Lib.byteCells; rw [List.getElem?_map, hc]; rfl)
      rw [Addr.add_lit, Nat.zero_add] at q
      have hdrop : l.drop k = c :: l.drop (k + 1) := by
        obtain ⟨hk2, e⟩ := List.getElem?_eq_some_iff.1 hc
        rw [List.drop_eq_getElem_cons hk2, e]
      have hn := HNUM.out
      rw [hdrop, numL] at hn
      obtain ⟨p1, p2⟩ := pdig_digV 16 (by decide) c
      have bad : ¬ pdig c < 16 → r = none := fun h => by rw [← hn, if_pos (by omega)]
      have good : pdig c < 16 → numL 16 (m * 16 + pdig c) (l.drop (k + 1)) = r := fun h => by
        rw [p2 (p1.1 h), ← hn, if_neg (by have := p1.1 h; omega)]
      have pw : 16 ^ (k + 1) = 16 ^ k * 16 := Nat.pow_succ 16 k
      have BAD := qh bad
      have GOOD := qh good
      have HLOW := qh (lower_any c)
      have PW := qh pw
      have PD := qh (show pdig c = if 48 ≤ c.toNat ∧ c.toNat ≤ 57 then c.toNat - 48 else if 97 ≤ (c ||| 32).toNat ∧ (c ||| 32).toNat ≤ 122 then (c ||| 32).toNat - 87 else 99 from rfl)
      obtain ⟨P, hP⟩ : ∃ P, 16 ^ k = P := ⟨_, rfl⟩
      rw [hP] at hm hp7 PW
      obtain ⟨d, hd⟩ : ∃ d, pdig c = d := ⟨_, rfl⟩
      rw [hd] at BAD GOOD PD
      obtain ⟨lo, hlo⟩ : ∃ lo, (c ||| 32).toNat = lo := ⟨_, rfl⟩
      rw [hlo] at HLOW PD
      have hl256 : lo < 256 := by rw [← hlo]; exact (c ||| 32).toNat_lt
      have hc256 : c.toNat < 256 := c.toNat_lt
      have b95 : ((c.toNat : Int) == 95) = true ∨ ((c.toNat : Int) == 95) = false := by cases ((c.toNat : Int) == 95); exact .inr rfl; exact .inl rfl
      clear hc hdrop hn p1 p2 bad good pw hP hd hlo xr
      have hcut : ¬ (1152921504606846976 : Int) ≤ (m : Int) := by omega
      have hcuti : decide ((1152921504606846976 : Int) ≤ (m : Int)) = false := decide_eq_false hcut
      have hcutn : decide (1152921504606846976 ≤ m) = false := decide_eq_false (by omega)
      rcases b95 with b95 | b95
      · by_cases c1 : (48 : Int) ≤ (c.toNat : Int)
        · by_cases c2 : (c.toNat : Int) ≤ 57
          · have hd : d = c.toNat - 48 := by rw [PD.out, if_pos ⟨by omega, by omega⟩]
            have hw1 : IntKind.u8.wrap ((c.toNat : Int) - 48) = (d : Int) := by rw [IntWalk.u8_in _ (by omega)]; omega
            by_cases hdb : d < 16
            · have G := qh (GOOD.out hdb)
              have h3 : ¬ (16 : Int) ≤ (d : Int) := by omega
              have h3d : decide (16 ≤ d) = false := decide_eq_false (by omega)
              have h3i : decide ((16 : Int) ≤ (d : Int)) = false := decide_eq_false h3
              have hm1 : IntKind.u64.wrap ((m : Int) * 16) = (m : Int) * 16 := IntWalk.u64_in _ (by omega)
              have hm2 : IntKind.u64.wrap ((m : Int) * 16 + (d : Int)) = (m : Int) * 16 + (d : Int) := IntWalk.u64_in _ (by omega)
              have h4 : ¬ (m : Int) * 16 + (d : Int) < (m : Int) * 16 := by omega
              have h4i : decide ((m : Int) * 16 + (d : Int) < (m : Int) * 16) = false := decide_eq_false h4
              have h5 : ¬ (4294967295 : Int) < (m : Int) * 16 + (d : Int) := by omega
              have h5i : decide ((4294967295 : Int) < (m : Int) * 16 + (d : Int)) = false := decide_eq_false h5
              have hpw : m * 16 + d < 16 ^ (k + 1) := by rw [PW.out]; omega
              have HPW := qh hpw
              clear hpw hdb hd
              go_wp2_with fail
              go_roundw
              case rel => exact ⟨k + 1, m * 16 + d, by omega, by go_num, rfl, by push_cast; rfl, G.out, HPW.out, XR.out⟩
              case measure => simp [intOf]; omega
            · have hr0 : r = none := BAD.out hdb
              have h3 : (16 : Int) ≤ (d : Int) := by omega
              subst hr0
              clear hdb hd
              go_wp2_with fail
              go_ret2
              exact ⟨rfl, HB1.out.ex.trans XR.out⟩
          · skip
            by_cases l1 : (97 : Int) ≤ (lo : Int)
            · have j1 : decide (97 ≤ lo) = true := decide_eq_true (by omega)
              have j1i : decide ((97 : Int) ≤ (lo : Int)) = true := decide_eq_true l1
              by_cases l2 : (lo : Int) ≤ 122
              · have j2 : decide (lo ≤ 122) = true := decide_eq_true (by omega)
                have j2i : decide ((lo : Int) ≤ 122) = true := decide_eq_true l2
                have hd : d = lo - 87 := by rw [PD.out, if_neg (by omega), if_pos ⟨by omega, by omega⟩]
                have hw1 : IntKind.u8.wrap ((lo : Int) - 97) = (lo : Int) - 97 := IntWalk.u8_in _ (by omega)
                have hw2 : IntKind.u8.wrap ((lo : Int) - 97 + 10) = (d : Int) := by rw [IntWalk.u8_in _ (by omega)]; omega
                by_cases hdb : d < 16
                · have G := qh (GOOD.out hdb)
                  have h3 : ¬ (16 : Int) ≤ (d : Int) := by omega
                  have h3d : decide (16 ≤ d) = false := decide_eq_false (by omega)
                  have h3i : decide ((16 : Int) ≤ (d : Int)) = false := decide_eq_false h3
                  have hm1 : IntKind.u64.wrap ((m : Int) * 16) = (m : Int) * 16 := IntWalk.u64_in _ (by omega)
                  have hm2 : IntKind.u64.wrap ((m : Int) * 16 + (d : Int)) = (m : Int) * 16 + (d : Int) := IntWalk.u64_in _ (by omega)
                  have h4 : ¬ (m : Int) * 16 + (d : Int) < (m : Int) * 16 := by omega
                  have h4i : decide ((m : Int) * 16 + (d : Int) < (m : Int) * 16) = false := decide_eq_false h4
                  have h5 : ¬ (4294967295 : Int) < (m : Int) * 16 + (d : Int) := by omega
                  have h5i : decide ((4294967295 : Int) < (m : Int) * 16 + (d : Int)) = false := decide_eq_false h5
                  have hpw : m * 16 + d < 16 ^ (k + 1) := by rw [PW.out]; omega
                  have HPW := qh hpw
                  clear hpw hdb hd
                  go_wp2_with (go_at_call 204; refine (HLOW.out _).mono ?_; rintro e wx ⟨rfl, hwx⟩; rw [hwx]; clear hwx)
                  go_roundw
                  case rel => exact ⟨k + 1, m * 16 + d, by omega, by go_num, rfl, by push_cast; rfl, G.out, HPW.out, XR.out⟩
                  case measure => simp [intOf]; omega
                · have hr0 : r = none := BAD.out hdb
                  have h3 : (16 : Int) ≤ (d : Int) := by omega
                  subst hr0
                  clear hdb hd
                  go_wp2_with (go_at_call 204; refine (HLOW.out _).mono ?_; rintro e wx ⟨rfl, hwx⟩; rw [hwx]; clear hwx)
                  go_ret2
                  exact ⟨rfl, HB1.out.ex.trans XR.out⟩
              · have j2 : decide (lo ≤ 122) = false := decide_eq_false (by omega)
                have j2i : decide ((lo : Int) ≤ 122) = false := decide_eq_false l2
                have hr0 : r = none := BAD.out (by rw [PD.out, if_neg (by omega), if_neg (by omega)]; decide)
                subst hr0
                go_wp2_with (go_at_call 204; refine (HLOW.out _).mono ?_; rintro e wx ⟨rfl, hwx⟩; rw [hwx]; clear hwx)
                go_ret2
                exact ⟨rfl, HB1.out.ex.trans XR.out⟩
            · have j1 : decide (97 ≤ lo) = false := decide_eq_false (by omega)
              have j1i : decide ((97 : Int) ≤ (lo : Int)) = false := decide_eq_false l1
              have hr0 : r = none := BAD.out (by rw [PD.out, if_neg (by omega), if_neg (by omega)]; decide)
              subst hr0
              go_wp2_with (go_at_call 204; refine (HLOW.out _).mono ?_; rintro e wx ⟨rfl, hwx⟩; rw [hwx]; clear hwx)
              go_ret2
              exact ⟨rfl, HB1.out.ex.trans XR.out⟩
        · skip
          by_cases l1 : (97 : Int) ≤ (lo : Int)
          · have j1 : decide (97 ≤ lo) = true := decide_eq_true (by omega)
            have j1i : decide ((97 : Int) ≤ (lo : Int)) = true := decide_eq_true l1
            by_cases l2 : (lo : Int) ≤ 122
            · have j2 : decide (lo ≤ 122) = true := decide_eq_true (by omega)
              have j2i : decide ((lo : Int) ≤ 122) = true := decide_eq_true l2
              have hd : d = lo - 87 := by rw [PD.out, if_neg (by omega), if_pos ⟨by omega, by omega⟩]
              have hw1 : IntKind.u8.wrap ((lo : Int) - 97) = (lo : Int) - 97 := IntWalk.u8_in _ (by omega)
              have hw2 : IntKind.u8.wrap ((lo : Int) - 97 + 10) = (d : Int) := by rw [IntWalk.u8_in _ (by omega)]; omega
              by_cases hdb : d < 16
              · have G := qh (GOOD.out hdb)
                have h3 : ¬ (16 : Int) ≤ (d : Int) := by omega
                have h3d : decide (16 ≤ d) = false := decide_eq_false (by omega)
                have h3i : decide ((16 : Int) ≤ (d : Int)) = false := decide_eq_false h3
                have hm1 : IntKind.u64.wrap ((m : Int) * 16) = (m : Int) * 16 := IntWalk.u64_in _ (by omega)
                have hm2 : IntKind.u64.wrap ((m : Int) * 16 + (d : Int)) = (m : Int) * 16 + (d : Int) := IntWalk.u64_in _ (by omega)
                have h4 : ¬ (m : Int) * 16 + (d : Int) < (m : Int) * 16 := by omega
                have h4i : decide ((m : Int) * 16 + (d : Int) < (m : Int) * 16) = false := decide_eq_false h4
                have h5 : ¬ (4294967295 : Int) < (m : Int) * 16 + (d : Int) := by omega
                have h5i : decide ((4294967295 : Int) < (m : Int) * 16 + (d : Int)) = false := decide_eq_false h5
                have hpw : m * 16 + d < 16 ^ (k + 1) := by rw [PW.out]; omega
                have HPW := qh hpw
                clear hpw hdb hd
                go_wp2_with (go_at_call 204; refine (HLOW.out _).mono ?_; rintro e wx ⟨rfl, hwx⟩; rw [hwx]; clear hwx)
                go_roundw
                case rel => exact ⟨k + 1, m * 16 + d, by omega, by go_num, rfl, by push_cast; rfl, G.out, HPW.out, XR.out⟩
                case measure => simp [intOf]; omega
              · have hr0 : r = none := BAD.out hdb
                have h3 : (16 : Int) ≤ (d : Int) := by omega
                subst hr0
                clear hdb hd
                go_wp2_with (go_at_call 204; refine (HLOW.out _).mono ?_; rintro e wx ⟨rfl, hwx⟩; rw [hwx]; clear hwx)
                go_ret2
                exact ⟨rfl, HB1.out.ex.trans XR.out⟩
            · have j2 : decide (lo ≤ 122) = false := decide_eq_false (by omega)
              have j2i : decide ((lo : Int) ≤ 122) = false := decide_eq_false l2
              have hr0 : r = none := BAD.out (by rw [PD.out, if_neg (by omega), if_neg (by omega)]; decide)
              subst hr0
              go_wp2_with (go_at_call 204; refine (HLOW.out _).mono ?_; rintro e wx ⟨rfl, hwx⟩; rw [hwx]; clear hwx)
              go_ret2
              exact ⟨rfl, HB1.out.ex.trans XR.out⟩
          · have j1 : decide (97 ≤ lo) = false := decide_eq_false (by omega)
            have j1i : decide ((97 : Int) ≤ (lo : Int)) = false := decide_eq_false l1
            have hr0 : r = none := BAD.out (by rw [PD.out, if_neg (by omega), if_neg (by omega)]; decide)
            subst hr0
            go_wp2_with (go_at_call 204; refine (HLOW.out _).mono ?_; rintro e wx ⟨rfl, hwx⟩; rw [hwx]; clear hwx)
            go_ret2
            exact ⟨rfl, HB1.out.ex.trans XR.out⟩
      · by_cases c1 : (48 : Int) ≤ (c.toNat : Int)
        · by_cases c2 : (c.toNat : Int) ≤ 57
          · have hd : d = c.toNat - 48 := by rw [PD.out, if_pos ⟨by omega, by omega⟩]
            have hw1 : IntKind.u8.wrap ((c.toNat : Int) - 48) = (d : Int) := by rw [IntWalk.u8_in _ (by omega)]; omega
            by_cases hdb : d < 16
            · have G := qh (GOOD.out hdb)
              have h3 : ¬ (16 : Int) ≤ (d : Int) := by omega
              have h3d : decide (16 ≤ d) = false := decide_eq_false (by omega)
              have h3i : decide ((16 : Int) ≤ (d : Int)) = false := decide_eq_false h3
              have hm1 : IntKind.u64.wrap ((m : Int) * 16) = (m : Int) * 16 := IntWalk.u64_in _ (by omega)
              have hm2 : IntKind.u64.wrap ((m : Int) * 16 + (d : Int)) = (m : Int) * 16 + (d : Int) := IntWalk.u64_in _ (by omega)
              have h4 : ¬ (m : Int) * 16 + (d : Int) < (m : Int) * 16 := by omega
              have h4i : decide ((m : Int) * 16 + (d : Int) < (m : Int) * 16) = false := decide_eq_false h4
              have h5 : ¬ (4294967295 : Int) < (m : Int) * 16 + (d : Int) := by omega
              have h5i : decide ((4294967295 : Int) < (m : Int) * 16 + (d : Int)) = false := decide_eq_false h5
              have hpw : m * 16 + d < 16 ^ (k + 1) := by rw [PW.out]; omega
              have HPW := qh hpw
              clear hpw hdb hd
              go_wp2_with fail
              go_roundw
              case rel => exact ⟨k + 1, m * 16 + d, by omega, by go_num, rfl, by push_cast; rfl, G.out, HPW.out, XR.out⟩
              case measure => simp [intOf]; omega
            · have hr0 : r = none := BAD.out hdb
              have h3 : (16 : Int) ≤ (d : Int) := by omega
              subst hr0
              clear hdb hd
              go_wp2_with fail
              go_ret2
              exact ⟨rfl, HB1.out.ex.trans XR.out⟩
          · skip
            by_cases l1 : (97 : Int) ≤ (lo : Int)
            · have j1 : decide (97 ≤ lo) = true := decide_eq_true (by omega)
              have j1i : decide ((97 : Int) ≤ (lo : Int)) = true := decide_eq_true l1
              by_cases l2 : (lo : Int) ≤ 122
              · have j2 : decide (lo ≤ 122) = true := decide_eq_true (by omega)
                have j2i : decide ((lo : Int) ≤ 122) = true := decide_eq_true l2
                have hd : d = lo - 87 := by rw [PD.out, if_neg (by omega), if_pos ⟨by omega, by omega⟩]
                have hw1 : IntKind.u8.wrap ((lo : Int) - 97) = (lo : Int) - 97 := IntWalk.u8_in _ (by omega)
                have hw2 : IntKind.u8.wrap ((lo : Int) - 97 + 10) = (d : Int) := by rw [IntWalk.u8_in _ (by omega)]; omega
                by_cases hdb : d < 16
                · have G := qh (GOOD.out hdb)
                  have h3 : ¬ (16 : Int) ≤ (d : Int) := by omega
                  have h3d : decide (16 ≤ d) = false := decide_eq_false (by omega)
                  have h3i : decide ((16 : Int) ≤ (d : Int)) = false := decide_eq_false h3
                  have hm1 : IntKind.u64.wrap ((m : Int) * 16) = (m : Int) * 16 := IntWalk.u64_in _ (by omega)
                  have hm2 : IntKind.u64.wrap ((m : Int) * 16 + (d : Int)) = (m : Int) * 16 + (d : Int) := IntWalk.u64_in _ (by omega)
                  have h4 : ¬ (m : Int) * 16 + (d : Int) < (m : Int) * 16 := by omega
                  have h4i : decide ((m : Int) * 16 + (d : Int) < (m : Int) * 16) = false := decide_eq_false h4
                  have h5 : ¬ (4294967295 : Int) < (m : Int) * 16 + (d : Int) := by omega
                  have h5i : decide ((4294967295 : Int) < (m : Int) * 16 + (d : Int)) = false := decide_eq_false h5
                  have hpw : m * 16 + d < 16 ^ (k + 1) := by rw [PW.out]; omega
                  have HPW := qh hpw
                  clear hpw hdb hd
                  go_wp2_with (go_at_call 204; refine (HLOW.out _).mono ?_; rintro e wx ⟨rfl, hwx⟩; rw [hwx]; clear hwx)
                  go_roundw
                  case rel => exact ⟨k + 1, m * 16 + d, by omega, by go_num, rfl, by push_cast; rfl, G.out, HPW.out, XR.out⟩
                  case measure => simp [intOf]; omega
                · have hr0 : r = none := BAD.out hdb
                  have h3 : (16 : Int) ≤ (d : Int) := by omega
                  subst hr0
                  clear hdb hd
                  go_wp2_with (go_at_call 204; refine (HLOW.out _).mono ?_; rintro e wx ⟨rfl, hwx⟩; rw [hwx]; clear hwx)
                  go_ret2
                  exact ⟨rfl, HB1.out.ex.trans XR.out⟩
              · have j2 : decide (lo ≤ 122) = false := decide_eq_false (by omega)
                have j2i : decide ((lo : Int) ≤ 122) = false := decide_eq_false l2
                have hr0 : r = none := BAD.out (by rw [PD.out, if_neg (by omega), if_neg (by omega)]; decide)
                subst hr0
                go_wp2_with (go_at_call 204; refine (HLOW.out _).mono ?_; rintro e wx ⟨rfl, hwx⟩; rw [hwx]; clear hwx)
                go_ret2
                exact ⟨rfl, HB1.out.ex.trans XR.out⟩
            · have j1 : decide (97 ≤ lo) = false := decide_eq_false (by omega)
              have j1i : decide ((97 : Int) ≤ (lo : Int)) = false := decide_eq_false l1
              have hr0 : r = none := BAD.out (by rw [PD.out, if_neg (by omega), if_neg (by omega)]; decide)
              subst hr0
              go_wp2_with (go_at_call 204; refine (HLOW.out _).mono ?_; rintro e wx ⟨rfl, hwx⟩; rw [hwx]; clear hwx)
              go_ret2
              exact ⟨rfl, HB1.out.ex.trans XR.out⟩
        · skip
          by_cases l1 : (97 : Int) ≤ (lo : Int)
          · have j1 : decide (97 ≤ lo) = true := decide_eq_true (by omega)
            have j1i : decide ((97 : Int) ≤ (lo : Int)) = true := decide_eq_true l1
            by_cases l2 : (lo : Int) ≤ 122
            · have j2 : decide (lo ≤ 122) = true := decide_eq_true (by omega)
              have j2i : decide ((lo : Int) ≤ 122) = true := decide_eq_true l2
              have hd : d = lo - 87 := by rw [PD.out, if_neg (by omega), if_pos ⟨by omega, by omega⟩]
              have hw1 : IntKind.u8.wrap ((lo : Int) - 97) = (lo : Int) - 97 := IntWalk.u8_in _ (by omega)
              have hw2 : IntKind.u8.wrap ((lo : Int) - 97 + 10) = (d : Int) := by rw [IntWalk.u8_in _ (by omega)]; omega
              by_cases hdb : d < 16
              · have G := qh (GOOD.out hdb)
                have h3 : ¬ (16 : Int) ≤ (d : Int) := by omega
                have h3d : decide (16 ≤ d) = false := decide_eq_false (by omega)
                have h3i : decide ((16 : Int) ≤ (d : Int)) = false := decide_eq_false h3
                have hm1 : IntKind.u64.wrap ((m : Int) * 16) = (m : Int) * 16 := IntWalk.u64_in _ (by omega)
                have hm2 : IntKind.u64.wrap ((m : Int) * 16 + (d : Int)) = (m : Int) * 16 + (d : Int) := IntWalk.u64_in _ (by omega)
                have h4 : ¬ (m : Int) * 16 + (d : Int) < (m : Int) * 16 := by omega
                have h4i : decide ((m : Int) * 16 + (d : Int) < (m : Int) * 16) = false := decide_eq_false h4
                have h5 : ¬ (4294967295 : Int) < (m : Int) * 16 + (d : Int) := by omega
                have h5i : decide ((4294967295 : Int) < (m : Int) * 16 + (d : Int)) = false := decide_eq_false h5
                have hpw : m * 16 + d < 16 ^ (k + 1) := by rw [PW.out]; omega
                have HPW := qh hpw
                clear hpw hdb hd
                go_wp2_with (go_at_call 204; refine (HLOW.out _).mono ?_; rintro e wx ⟨rfl, hwx⟩; rw [hwx]; clear hwx)
                go_roundw
                case rel => exact ⟨k + 1, m * 16 + d, by omega, by go_num, rfl, by push_cast; rfl, G.out, HPW.out, XR.out⟩
                case measure => simp [intOf]; omega
              · have hr0 : r = none := BAD.out hdb
                have h3 : (16 : Int) ≤ (d : Int) := by omega
                subst hr0
                clear hdb hd
                go_wp2_with (go_at_call 204; refine (HLOW.out _).mono ?_; rintro e wx ⟨rfl, hwx⟩; rw [hwx]; clear hwx)
                go_ret2
                exact ⟨rfl, HB1.out.ex.trans XR.out⟩
            · have j2 : decide (lo ≤ 122) = false := decide_eq_false (by omega)
              have j2i : decide ((lo : Int) ≤ 122) = false := decide_eq_false l2
              have hr0 : r = none := BAD.out (by rw [PD.out, if_neg (by omega), if_neg (by omega)]; decide)
              subst hr0
              go_wp2_with (go_at_call 204; refine (HLOW.out _).mono ?_; rintro e wx ⟨rfl, hwx⟩; rw [hwx]; clear hwx)
              go_ret2
              exact ⟨rfl, HB1.out.ex.trans XR.out⟩
          · have j1 : decide (97 ≤ lo) = false := decide_eq_false (by omega)
            have j1i : decide ((97 : Int) ≤ (lo : Int)) = false := decide_eq_false l1
            have hr0 : r = none := BAD.out (by rw [PD.out, if_neg (by omega), if_neg (by omega)]; decide)
            subst hr0
            go_wp2_with (go_at_call 204; refine (HLOW.out _).mono ?_; rintro e wx ⟨rfl, hwx⟩; rw [hwx]; clear hwx)
            go_ret2
            exact ⟨rfl, HB1.out.ex.trans XR.out⟩
    · obtain rfl : k = N := by omega
      have hr1 : r = some m := by rw [← HNUM.out, List.drop_eq_nil_of_le (by omega)]; rfl
      subst hr1
      clear xr
      go_wp2_with fail
      go_ret2
      exact ⟨rfl, HB1.out.ex.trans XR.out⟩
end Go.Proofs.YtalaajbajgdglaaGreatDoor
