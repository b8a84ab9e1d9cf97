/- Package live: is, Held, Hold (a new place) on a tree that New made. Conditions: at most 100000 places are held. -/
import Derived.Test.YthgnbbbdcebjhaaVC
namespace Go.Proofs.Ythgnbbbdcebjhaa
open Go Go.RowKit Go.BigFrame
set_option linter.unusedVariables false
set_option linter.unusedSimpArgs false

section
variable {w : World} {own : Ow} {ptr : Nat → Nat} {lb tb : Nat} {T : Tr} {hv : Value} {hb : Option Nat} {H : List Hd}
set_option maxHeartbeats 1000000 in
theorem lIs_yes (h : LiveAt w own ptr lb tb T hv hb H) {i : Nat} {x : Hd} (hx : H[i]? = some x) (ho : x.off = 0) (hl : H.length ≤ 100000) : Calls Try.prog 21 #[.pointer (some ⟨lb, 0, none⟩), .int .i64 (i : Int)] w (RBool true w) := by
  have hi := (List.getElem?_eq_some_iff.1 hx).1
  have HN := Lib.hid (none_some h.ptr_)
  have p1 := h.row_
  have p0 := h.ptr_
  obtain ⟨a, cap, rfl, hc, hg⟩ := h.at
  obtain ⟨g, cur, rfl, hgb, hgr, htk, _⟩ := hg (by omega)
  have q2 := hold_cell (f := 2) hgr htk hx (v := .int .i64 x.off) rfl
  rw [ho] at q2
  obtain ⟨n, hn⟩ : ∃ n, H.length = n := ⟨_, rfl⟩
  rw [hn] at p1 hl hi
  have e0 : decide ((0 : Int) ≤ (i : Int)) = true := decide_eq_true (by omega)
  have e1 : decide ((i : Int) < (n : Int)) = true := decide_eq_true (by omega)
  have e1n : decide (i < n) = true := decide_eq_true hi
  have i0 : (0 : Int) ≤ (i : Int) := by omega
  have i1 : (i : Int) < (n : Int) := by omega
  have itn : (i : Int).toNat = i := by omega
  clear hc hg hgb hgr htk hx hn
  go_enter Try.func21, Try.ntmps21
  go_wp2_with (go_at_call 17; refine HN.out.mono ?_; rintro e w' ⟨rfl, rfl⟩)
  go_ret
  exact ⟨rfl, Ext.refl _⟩
set_option maxHeartbeats 1000000 in
theorem lHeld_ok (h : LiveAt w own ptr lb tb T hv hb H) {i : Nat} {x : Hd} (hx : H[i]? = some x) (ho : x.off = 0) (hl : H.length ≤ 100000) : Calls Try.prog 5 #[.pointer (some ⟨lb, 0, none⟩), .int .i64 (i : Int)] w (RTwo (pl x.node x.at') (.bool true) w) := by
  have hi := (List.getElem?_eq_some_iff.1 hx).1
  have xa := (Ext.refl w).alloc (.cells #[.int .i64 0, .int .i64 0] 32)
  have hba := heap_alloc_new w (.cells #[.int .i64 0, .int .i64 0] 32)
  have HI := Lib.hid (lIs_yes (h.ext xa) hx ho hl)
  obtain ⟨a, cap, rfl, hc, hg⟩ := h.at
  obtain ⟨g, cur, rfl, hgb, hgr, htk, _⟩ := hg (by omega)
  have p1 := xa.cell h.row_
  have q0 := xa.cell (hold_cell (f := 0) hgr htk hx (v := .int .i64 x.node) rfl)
  have q1 := xa.cell (hold_cell (f := 1) hgr htk hx (v := .int .i64 x.at') rfl)
  rw [Nat.add_zero] at q0
  obtain ⟨n, hn⟩ : ∃ n, H.length = n := ⟨_, rfl⟩
  rw [hn] at p1 hl hi
  have i0 : (0 : Int) ≤ (i : Int) := by omega
  have i1 : (i : Int) < (n : Int) := by omega
  have itn : (i : Int).toNat = i := by omega
  obtain ⟨wa, hwa⟩ : ∃ W : World, W = w.alloc (.cells #[.int .i64 0, .int .i64 0] 32) := ⟨_, rfl⟩
  rw [← hwa] at xa hba HI p1 q0 q1
  have HWA := Lib.hid hwa
  have XA := Lib.hid xa
  have HBA := Lib.hid hba
  clear hc hg hgb hgr htk hx hn hwa xa hba
  go_enter Try.func5, Try.ntmps5
  go_upto_region 1 with fail
  rw [← HWA.out]
  go_wp2_with (go_at_call 21; refine HI.out.mono ?_)
  rintro e w2 ⟨rfl, x2⟩
  have hb2 := x2.block HBA.out
  have q0 := x2.cell q0
  have q1 := x2.cell q1
  have p1 := x2.cell p1
  have c0 := cellOf hb2 (i := 0) rfl
  have c1 := cellOf hb2 (i := 1) rfl
  have f0 := freeOf hb2 0
  have f1 := freeOf hb2 1
  have XF := Lib.hid (((XA.out.trans x2).setCell (p := ⟨w.heap.size, 0, none⟩) (Nat.le_refl _) (.int .i64 x.node)).setCell (p := ⟨w.heap.size, 1, none⟩) (Nat.le_refl _) (.int .i64 x.at'))
  have B3 : ((w2.setCell ⟨w.heap.size, 0, none⟩ (.int .i64 x.node)).setCell ⟨w.heap.size, 1, none⟩ (.int .i64 x.at')).heap[w.heap.size]? = some (.cells #[.int .i64 x.node, .int .i64 x.at'] 32 (0, 0)) := heap_setCell_same (i := 1) (heap_setCell_same (i := 0) hb2 (.int .i64 x.node)) (.int .i64 x.at')
  have HLV := Lib.hid (run_loadVar_row (P := Try.prog) _ w.heap.size 32 32 _ (0, 0) _ B3 Try.underlying32 rfl (by kernel_rfl))
  clear x2 hb2 B3
  go_wp2_with fail
  have hlv := HLV.out
  refine bodyPost_ret (v := .tuple #[pl x.node x.at', .bool true]) (by simp [results, Try.results5, asAddr, hlv]) rfl ?_
  exact ⟨rfl, XF.out⟩
theorem infoHold : (Try.prog.info? 52).map (fun i => (i.zero, i.size, i.bytes)) = some (some (.agg #[.int .i64 0, .int .i64 0, .int .i64 0]), 3, 24) := by kernel_rfl
theorem hdC_one (x : Hd) : ∀ u ∈ hdC x, u.oneCell' = true := by
  intro u hu
  simp only [hdC, List.mem_cons, List.not_mem_nil, or_false] at hu
  rcases hu with rfl | rfl | rfl <;> rfl
/-- one place more -/
theorem LiveAt.push (h : LiveAt w own ptr lb tb T hv hb H) (hlen : H.length ≤ 100000) (x : Hd) {cs : Array Value} (hcs : cs.toList = hdC x) :
    ∃ (a : Option Addr) (cap : Nat) (wB : World) (hb' : Option Nat), (Builtin.append_ #[24, 24] 24 #[hv, .slice (some ⟨w.heap.size, 0, none⟩) 1 1]).run Try.prog (w.alloc (.cells cs 52)) = .ok (.slice a (H.length + 1) cap) wB ∧
      wB.heap[lb]? = some (.cells #[.pointer (some ⟨tb, 0, none⟩), hv] 26 (0, 0)) ∧ Mv (fun b => hb = some b) w wB ∧
      LiveAt (wB.setCell ⟨lb, 1, none⟩ (.slice a (H.length + 1) cap)) own ptr lb tb T (.slice a (H.length + 1) cap) hb' (H ++ [x]) ∧
      LStep own lb hb w own hb' (wB.setCell ⟨lb, 1, none⟩ (.slice a (H.length + 1) cap)) := by
  obtain ⟨i0, hi, hz0, hz1, hz2⟩ := info_parts infoHold
  have hxa := (Ext.refl w).alloc (.cells cs 52)
  have hA := h.ext hxa
  have hna := heap_alloc_new w (.cells cs 52)
  have hszA : (w.alloc (.cells cs 52)).heap.size = w.heap.size + 1 := by simp
  obtain ⟨v', wB, row, hrun, hr, hg, hrow⟩ := run_append_row (P := Try.prog) (w.alloc (.cells cs 52)) 24 24 52 i0 _ 3 24 Try.underlying24 hi hz0 hz1 hz2 (by kernel_rfl) (by decide)
    hA.row ⟨w.heap.size, 0, none⟩ 1 1 (hdC x) rfl (by
      intro j u hj
      rw [Addr.add_lit, Nat.zero_add]
      refine cellOf hna ?_
      rw [← Array.getElem?_toList, hcs]; exact hj) (hdC_one x) (by decide) (by unfold maxLen; omega) (by omega)
  obtain ⟨a, cap, e, _⟩ := hr.rd.len_of
  subst e
  have hmB : Mv (fun b => hb = some b) w wB := (Mv.ofExt hxa).grown hg fun k hk _ => hrow k hk
  have hboxB : wB.heap[lb]? = some (.cells #[.pointer (some ⟨tb, 0, none⟩), hv] 26 (0, 0)) := hmB.block h.box fun e => (h.nrow lb e).2.1 rfl
  have hmL : Mv (fun b => b = lb) wB (wB.setCell ⟨lb, 1, none⟩ (.slice a (H.length + 1) cap)) := (Mv.refl (fun b => b = lb) wB).setCell (p := ⟨lb, 1, none⟩) (fun _ => rfl) _
  have hsw := hmB.size
  have hnew : ∀ g, (Value.slice a (H.length + 1) cap).ownBlock = some g → (hb = some g ∨ (w.alloc (.cells cs 52)).heap.size ≤ g) ∧ g < wB.heap.size := by
    intro g hgo
    rcases hr.2 with ⟨h0, _⟩ | ⟨g', cap', cur, h1, h2, h3, _⟩
    · omega
    · rw [h1] at hgo
      cases hgo
      exact ⟨h2, (Array.getElem?_eq_some_iff.1 h3).1⟩
  have hown : ∀ g, (Value.slice a (H.length + 1) cap).ownBlock = some g → own g = none ∧ g ≠ lb := by
    intro g hgo
    rcases (hnew g hgo).1 with h1 | h1
    · exact ⟨(h.nrow g h1).1, (h.nrow g h1).2.1⟩
    · exact ⟨Decidable.byContradiction fun hn => by have := h.ownd g hn; omega, fun e => by have := h.lt; omega⟩
  have hmv2 : Mv (fun b => own b ≠ none ∨ b = lb ∨ hb = some b) w (wB.setCell ⟨lb, 1, none⟩ (.slice a (H.length + 1) cap)) := (hmB.imp fun _ _ h => .inr (.inr h)).trans (hmL.imp fun _ _ h => .inr (.inl h)) 
  refine ⟨a, cap, wB, (Value.slice a (H.length + 1) cap).ownBlock, hrun, hboxB, hmB, ⟨?_, ?_, heap_setCell_same hboxB _, ?_, h.nbox, fun g hg => ⟨(hown g hg).1, (hown g hg).2, Nat.lt_of_lt_of_le (hnew g hg).2 hmL.size⟩⟩, ⟨hmv2, fun _ _ => rfl, fun g hg => (hnew g hg).1.imp id fun h => by omega⟩⟩
  · refine h.tree.keep fun b hb' => ?_
    have e1 := hmB.rest b (h.ownd b hb') fun e => hb' (h.nrow b e).1
    have e2 := hmL.rest b (Nat.lt_of_lt_of_le (h.ownd b hb') hsw) fun e => hb' (by rw [(show b = lb from e)]; exact h.nbox)
    exact e2.trans e1
  · exact fun b hb' => Nat.lt_of_lt_of_le (h.ownd b hb') (Nat.le_trans hsw hmL.size)
  · rw [List.length_append, hcells_append]
    have e1 : hcells [x] = hdC x := by show hdC x ++ [] = _; rw [List.append_nil]
    rw [e1]
    have hr2 : RowP wB (fun g => (Value.slice a (H.length + 1) cap).ownBlock = some g) 52 3 (.slice a (H.length + 1) cap) (H.length + 1) (hcells H ++ hdC x) := RowP.imp hr fun g hgo _ => hgo
    exact hr2.mv hmL fun g hg e => (hown g hg).2 e
end
end Go.Proofs.Ythgnbbbdcebjhaa
