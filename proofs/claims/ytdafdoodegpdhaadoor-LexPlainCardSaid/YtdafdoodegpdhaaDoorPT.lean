/- Package tags: table, of, Class, Name. No conditions. -/
import Derived.Test.YtdafdoodegpdhaaDoorPN
namespace Go.Proofs.YtdafdoodegpdhaaDoor
open Go Go.RowKit Go.BigFrame
set_option linter.unusedVariables false
set_option linter.unusedSimpArgs false

/-- these blocks are there -/
def Has (B : Nat) (l : List (Nat × Array Value)) (w : World) : Prop := ∀ p ∈ l, B ≤ p.1 ∧ w.heap[p.1]? = some (.cells p.2 9 (0, 0))
theorem Has.more {B : Nat} {l : List (Nat × Array Value)} {w w' : World} (h : Has B l w) (x : Ext w w') : Has B l w' := fun p hp => ⟨(h p hp).1, x.block (h p hp).2⟩
def Stop (p : Prop) : Prop := p
section
variable {P : Program} {ops : Array Oper} {rest : List Oper} {o : Oper} {a : Act} {Q : Exit → Act → World → Prop}
theorem wpList_name {w0 w : World} {l : List (Nat × Array Value)} {cs : Array Value} (hx : Ext w0 w) (hl : Has w0.heap.size l w) (h : ∀ w', Ext w0 w' → Has w0.heap.size ((w.heap.size, cs) :: l) w' → wpList P ops Q rest a w') : wpList P ops Q rest a (w.alloc (.cells cs 9)) :=
  h _ (hx.alloc _) fun p hp => by
    rcases List.mem_cons.1 hp with rfl | hp
    · exact ⟨hx.size, heap_alloc_new w _⟩
    · exact (hl.more ((Ext.refl w).alloc _)) p hp
theorem run_storeWhole (w : World) {b : Nat} {t T : TypeId} {cur vs : Array Value} (hg : w.heap[b]? = some (.cells cur T (0, 0))) (hz : ∀ w, (sizeOf t).run P w = .ok vs.size w) (hl : vs.size = cur.size) (h1 : ∀ v ∈ vs.toList, v.oneCell' = true) :
    (Instr.storeAt t (.pointer (some ⟨b, 0, none⟩)) (.agg vs)).run P w = .ok () (w.setRow b vs) := by
  have h := run_storeCells_at (P := P) b 0 T vs.toList 0 cur w hg (by simp [hl]) h1
  simp only [Nat.zero_add, List.take_zero, List.nil_append] at h
  rw [List.drop_eq_nil_of_le (by simp [hl])] at h
  simp only [List.append_nil, Array.toArray_toList] at h
  simp only [Instr.storeAt, Instr.sureAddr, storeVar, Sem.run_bind, Sem.run_pure, Result.andThen_ok, hz, Value.cells, ne_eq, not_true, if_false]
  exact h
theorem wpList_store {w : World} {b : Nat} {t T : TypeId} {x y : Operand} {cur vs : Array Value} (hgd : o.guard = none) (ho : o.op = .store t x y) (hx : a.eval x = .pointer (some ⟨b, 0, none⟩)) (hy : a.eval y = .agg vs)
    (hg : w.heap[b]? = some (.cells cur T (0, 0))) (hz : ∀ w, (sizeOf t).run P w = .ok vs.size w) (hl : vs.size = cur.size) (h1 : ∀ v ∈ vs.toList, v.oneCell' = true) (h : wpList P ops Q rest (a.put o.dst undef) (w.setRow b vs)) : wpList P ops Q (o :: rest) a w := by
  refine wpList_plain hgd fun K hK => ?_
  have hr := run_storeWhole (P := P) w hg hz hl h1
  unfold Oper.wp execOp
  simp only [ho, hx, hy, hr, Sem.run_bind, Sem.run_pure, Result.andThen_ok]
  first | exact hK _ _ h | (rw [Oper.upon_skip]; exact hK _ _ h) | (simp only [Oper.upon]; exact hK _ _ h)
theorem wpList_stop {w : World} {t : TypeId} {x y : Operand} (ho : o.op = .store t x y) (h : Stop (wpList P ops Q [o] a w)) : wpList P ops Q [o] a w := h
end
def zeroTab : Array Value := #[.slice none 0 0, .int .i64 0, .slice none 0 0, .int .i64 0, .slice none 0 0, .int .i64 0, .slice none 0 0, .int .i64 0, .slice none 0 0, .int .i64 0, .slice none 0 0, .int .i64 0, .slice none 0 0, .int .i64 0, .slice none 0 0, .int .i64 0, .slice none 0 0, .int .i64 0, .slice none 0 0, .int .i64 0, .slice none 0 0, .int .i64 0, .slice none 0 0, .int .i64 0, .slice none 0 0, .int .i64 0, .slice none 0 0, .int .i64 0, .slice none 0 0, .int .i64 0, .slice none 0 0, .int .i64 0, .slice none 0 0, .int .i64 0]
/-- the table: each tag's names, and its class -/
def TabIs (w : World) (e : Ending) (w' : World) : Prop := ∃ B g1 g2 g3 g4 g5 g6 g7 g8 g9 g10 g11 g12 g13 g14 g15 g16 : Nat, e = .returned (.agg #[.slice none 0 0, .int .i64 1, .slice (some ⟨g1, 0, none⟩) 1 1, .int .i64 2, .slice (some ⟨g2, 0, none⟩) 1 1, .int .i64 3, .slice (some ⟨g3, 0, none⟩) 1 1, .int .i64 3, .slice (some ⟨g4, 0, none⟩) 1 1, .int .i64 3, .slice (some ⟨g5, 0, none⟩) 1 1, .int .i64 3, .slice (some ⟨g6, 0, none⟩) 1 1, .int .i64 2, .slice (some ⟨g7, 0, none⟩) 1 1, .int .i64 2, .slice (some ⟨g8, 0, none⟩) 1 1, .int .i64 2, .slice (some ⟨g9, 0, none⟩) 1 1, .int .i64 3, .slice (some ⟨g10, 0, none⟩) 1 1, .int .i64 4, .slice (some ⟨g11, 0, none⟩) 2 2, .int .i64 4, .slice (some ⟨g12, 0, none⟩) 2 2, .int .i64 4, .slice (some ⟨g13, 0, none⟩) 2 2, .int .i64 4, .slice (some ⟨g14, 0, none⟩) 3 3, .int .i64 4, .slice (some ⟨g15, 0, none⟩) 1 1, .int .i64 4, .slice (some ⟨g16, 0, none⟩) 1 1, .int .i64 5]) ∧ Has B [(g16, #[.string ⟨#[98, 114]⟩]), (g15, #[.string ⟨#[115, 112, 97, 110]⟩]), (g14, #[.string ⟨#[115]⟩, .string ⟨#[115, 116, 114, 105, 107, 101]⟩, .string ⟨#[100, 101, 108]⟩]), (g13, #[.string ⟨#[117]⟩, .string ⟨#[105, 110, 115]⟩]), (g12, #[.string ⟨#[105]⟩, .string ⟨#[101, 109]⟩]), (g11, #[.string ⟨#[98]⟩, .string ⟨#[115, 116, 114, 111, 110, 103]⟩]), (g10, #[.string ⟨#[97]⟩]), (g9, #[.string ⟨#[108, 105]⟩]), (g8, #[.string ⟨#[111, 108]⟩]), (g7, #[.string ⟨#[117, 108]⟩]), (g6, #[.string ⟨#[98, 108, 111, 99, 107, 113, 117, 111, 116, 101]⟩]), (g5, #[.string ⟨#[104, 51]⟩]), (g4, #[.string ⟨#[104, 50]⟩]), (g3, #[.string ⟨#[104, 49]⟩]), (g2, #[.string ⟨#[112]⟩]), (g1, #[.string ⟨#[100, 105, 118]⟩])] w' ∧ Ext w w'
theorem setRow_other (w : World) (b j : Nat) (vs : Array Value) (h : j ≠ b) : (w.setRow b vs).heap[j]? = w.heap[j]? := by simp [World.setRow, Array.getElem?_modify, Ne.symm h]
set_option maxHeartbeats 4000000 in
set_option maxRecDepth 100000 in
theorem table_any (w : World) : Calls Tryd.prog 93 #[] w (TabIs w) := by
  have HX0 := (Ext.refl w).alloc (.cells #[.slice none 0 0, .int .i64 0, .slice none 0 0, .int .i64 0, .slice none 0 0, .int .i64 0, .slice none 0 0, .int .i64 0, .slice none 0 0, .int .i64 0, .slice none 0 0, .int .i64 0, .slice none 0 0, .int .i64 0, .slice none 0 0, .int .i64 0, .slice none 0 0, .int .i64 0, .slice none 0 0, .int .i64 0, .slice none 0 0, .int .i64 0, .slice none 0 0, .int .i64 0, .slice none 0 0, .int .i64 0, .slice none 0 0, .int .i64 0, .slice none 0 0, .int .i64 0, .slice none 0 0, .int .i64 0, .slice none 0 0, .int .i64 0] 114)
  have HB0 := heap_alloc_new w (.cells #[.slice none 0 0, .int .i64 0, .slice none 0 0, .int .i64 0, .slice none 0 0, .int .i64 0, .slice none 0 0, .int .i64 0, .slice none 0 0, .int .i64 0, .slice none 0 0, .int .i64 0, .slice none 0 0, .int .i64 0, .slice none 0 0, .int .i64 0, .slice none 0 0, .int .i64 0, .slice none 0 0, .int .i64 0, .slice none 0 0, .int .i64 0, .slice none 0 0, .int .i64 0, .slice none 0 0, .int .i64 0, .slice none 0 0, .int .i64 0, .slice none 0 0, .int .i64 0, .slice none 0 0, .int .i64 0, .slice none 0 0, .int .i64 0] 114)
  go_enter Tryd.func93, Tryd.ntmps93
  go_upto_region 1 with fail
  obtain ⟨w1, hw1⟩ : ∃ w1 : World, w1 = w.alloc (.cells #[.slice none 0 0, .int .i64 0, .slice none 0 0, .int .i64 0, .slice none 0 0, .int .i64 0, .slice none 0 0, .int .i64 0, .slice none 0 0, .int .i64 0, .slice none 0 0, .int .i64 0, .slice none 0 0, .int .i64 0, .slice none 0 0, .int .i64 0, .slice none 0 0, .int .i64 0, .slice none 0 0, .int .i64 0, .slice none 0 0, .int .i64 0, .slice none 0 0, .int .i64 0, .slice none 0 0, .int .i64 0, .slice none 0 0, .int .i64 0, .slice none 0 0, .int .i64 0, .slice none 0 0, .int .i64 0, .slice none 0 0, .int .i64 0] 114) := ⟨_, rfl⟩
  rw [← hw1] at HX0 HB0
  rw [← hw1]
  clear hw1
  have HX := Ext.refl w1
  have HS : Has w1.heap.size [] w1 := fun p hp => by cases hp
  go_wp2_with (first | (with_reducible refine wpList_name HX HS ?_; clear HX HS; intro _ HX HS) | (with_reducible refine wpList_stop rfl ?_))
  rename_i W1 W2 W3 W4 W5 W6 W7 W8 W9 W10 W11 W12 W13 W14 W15 W16
  have HB := HX.block HB0
  have hsz : w.heap.size < w1.heap.size := (Array.getElem?_eq_some_iff.1 HB0).1
  have HXX := Lib.hid HX
  have HSS := Lib.hid HS
  have HX00 := Lib.hid HX0
  clear HX HS HX0 HB0
  unfold Stop
  refine wpList_store rfl rfl rfl rfl HB (fun w => Tryd.sizeOf114 w) rfl ?c1 ?_
  case c1 => intro v hv; simp at hv; (repeat (rcases hv with rfl | hv; · rfl))
  have hrow : (W16.setRow w.heap.size #[.slice none 0 0, .int .i64 1, .slice (some ⟨w1.heap.size, 0, none⟩) 1 1, .int .i64 2, .slice (some ⟨W1.heap.size, 0, none⟩) 1 1, .int .i64 3, .slice (some ⟨W2.heap.size, 0, none⟩) 1 1, .int .i64 3, .slice (some ⟨W3.heap.size, 0, none⟩) 1 1, .int .i64 3, .slice (some ⟨W4.heap.size, 0, none⟩) 1 1, .int .i64 3, .slice (some ⟨W5.heap.size, 0, none⟩) 1 1, .int .i64 2, .slice (some ⟨W6.heap.size, 0, none⟩) 1 1, .int .i64 2, .slice (some ⟨W7.heap.size, 0, none⟩) 1 1, .int .i64 2, .slice (some ⟨W8.heap.size, 0, none⟩) 1 1, .int .i64 3, .slice (some ⟨W9.heap.size, 0, none⟩) 1 1, .int .i64 4, .slice (some ⟨W10.heap.size, 0, none⟩) 2 2, .int .i64 4, .slice (some ⟨W11.heap.size, 0, none⟩) 2 2, .int .i64 4, .slice (some ⟨W12.heap.size, 0, none⟩) 2 2, .int .i64 4, .slice (some ⟨W13.heap.size, 0, none⟩) 3 3, .int .i64 4, .slice (some ⟨W14.heap.size, 0, none⟩) 1 1, .int .i64 4, .slice (some ⟨W15.heap.size, 0, none⟩) 1 1, .int .i64 5]).heap[w.heap.size]? = some (.cells #[.slice none 0 0, .int .i64 1, .slice (some ⟨w1.heap.size, 0, none⟩) 1 1, .int .i64 2, .slice (some ⟨W1.heap.size, 0, none⟩) 1 1, .int .i64 3, .slice (some ⟨W2.heap.size, 0, none⟩) 1 1, .int .i64 3, .slice (some ⟨W3.heap.size, 0, none⟩) 1 1, .int .i64 3, .slice (some ⟨W4.heap.size, 0, none⟩) 1 1, .int .i64 3, .slice (some ⟨W5.heap.size, 0, none⟩) 1 1, .int .i64 2, .slice (some ⟨W6.heap.size, 0, none⟩) 1 1, .int .i64 2, .slice (some ⟨W7.heap.size, 0, none⟩) 1 1, .int .i64 2, .slice (some ⟨W8.heap.size, 0, none⟩) 1 1, .int .i64 3, .slice (some ⟨W9.heap.size, 0, none⟩) 1 1, .int .i64 4, .slice (some ⟨W10.heap.size, 0, none⟩) 2 2, .int .i64 4, .slice (some ⟨W11.heap.size, 0, none⟩) 2 2, .int .i64 4, .slice (some ⟨W12.heap.size, 0, none⟩) 2 2, .int .i64 4, .slice (some ⟨W13.heap.size, 0, none⟩) 3 3, .int .i64 4, .slice (some ⟨W14.heap.size, 0, none⟩) 1 1, .int .i64 4, .slice (some ⟨W15.heap.size, 0, none⟩) 1 1, .int .i64 5] 114 (0, 0)) := by simp [World.setRow, Array.getElem?_modify, HB]
  have hlv := run_loadVar_row (P := Tryd.prog) _ w.heap.size 114 114 #[.slice none 0 0, .int .i64 1, .slice (some ⟨w1.heap.size, 0, none⟩) 1 1, .int .i64 2, .slice (some ⟨W1.heap.size, 0, none⟩) 1 1, .int .i64 3, .slice (some ⟨W2.heap.size, 0, none⟩) 1 1, .int .i64 3, .slice (some ⟨W3.heap.size, 0, none⟩) 1 1, .int .i64 3, .slice (some ⟨W4.heap.size, 0, none⟩) 1 1, .int .i64 3, .slice (some ⟨W5.heap.size, 0, none⟩) 1 1, .int .i64 2, .slice (some ⟨W6.heap.size, 0, none⟩) 1 1, .int .i64 2, .slice (some ⟨W7.heap.size, 0, none⟩) 1 1, .int .i64 2, .slice (some ⟨W8.heap.size, 0, none⟩) 1 1, .int .i64 3, .slice (some ⟨W9.heap.size, 0, none⟩) 1 1, .int .i64 4, .slice (some ⟨W10.heap.size, 0, none⟩) 2 2, .int .i64 4, .slice (some ⟨W11.heap.size, 0, none⟩) 2 2, .int .i64 4, .slice (some ⟨W12.heap.size, 0, none⟩) 2 2, .int .i64 4, .slice (some ⟨W13.heap.size, 0, none⟩) 3 3, .int .i64 4, .slice (some ⟨W14.heap.size, 0, none⟩) 1 1, .int .i64 4, .slice (some ⟨W15.heap.size, 0, none⟩) 1 1, .int .i64 5] (0, 0) _ hrow Tryd.underlying114 rfl (by kernel_rfl)
  clear HB
  go_wp2
  refine bodyPost_ret (v := .agg #[.slice none 0 0, .int .i64 1, .slice (some ⟨w1.heap.size, 0, none⟩) 1 1, .int .i64 2, .slice (some ⟨W1.heap.size, 0, none⟩) 1 1, .int .i64 3, .slice (some ⟨W2.heap.size, 0, none⟩) 1 1, .int .i64 3, .slice (some ⟨W3.heap.size, 0, none⟩) 1 1, .int .i64 3, .slice (some ⟨W4.heap.size, 0, none⟩) 1 1, .int .i64 3, .slice (some ⟨W5.heap.size, 0, none⟩) 1 1, .int .i64 2, .slice (some ⟨W6.heap.size, 0, none⟩) 1 1, .int .i64 2, .slice (some ⟨W7.heap.size, 0, none⟩) 1 1, .int .i64 2, .slice (some ⟨W8.heap.size, 0, none⟩) 1 1, .int .i64 3, .slice (some ⟨W9.heap.size, 0, none⟩) 1 1, .int .i64 4, .slice (some ⟨W10.heap.size, 0, none⟩) 2 2, .int .i64 4, .slice (some ⟨W11.heap.size, 0, none⟩) 2 2, .int .i64 4, .slice (some ⟨W12.heap.size, 0, none⟩) 2 2, .int .i64 4, .slice (some ⟨W13.heap.size, 0, none⟩) 3 3, .int .i64 4, .slice (some ⟨W14.heap.size, 0, none⟩) 1 1, .int .i64 4, .slice (some ⟨W15.heap.size, 0, none⟩) 1 1, .int .i64 5]) (by simp [results, Tryd.results93, asAddr, hlv]) rfl ?_
  have hxx := HX00.out.trans HXX.out
  have o1 := Below.os hxx
  have o2 := Below.tape hxx
  have o3 := Below.output hxx
  exact ⟨w1.heap.size, w1.heap.size, W1.heap.size, W2.heap.size, W3.heap.size, W4.heap.size, W5.heap.size, W6.heap.size, W7.heap.size, W8.heap.size, W9.heap.size, W10.heap.size, W11.heap.size, W12.heap.size, W13.heap.size, W14.heap.size, W15.heap.size, rfl, fun p hp => ⟨(HSS.out p hp).1, (setRow_other _ _ _ _ (by have := (HSS.out p hp).1; omega)).trans (HSS.out p hp).2⟩,
    ⟨o1, o2, o3, by simpa [World.setRow] using Below.size hxx, fun i hi => (setRow_other _ _ _ _ (by omega)).trans (Below.block hxx i hi)⟩⟩
end Go.Proofs.YtdafdoodegpdhaaDoor
