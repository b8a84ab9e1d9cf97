/- Package live: Remove: a node is loose, and the places that are held moved. Conditions: at most 100000 places are held; the numbers are from -1 to 2^30. -/
import Derived.Test.YthgnbbbdcebjhaaVJ
namespace Go.Proofs.Ythgnbbbdcebjhaa
open Go Go.RowKit Go.BigFrame
set_option linter.unusedVariables false
set_option linter.unusedSimpArgs false

/-- what becomes of a place when a node is loose: those within it stand where it stood -/
def remP (T : Tr) (id p q : Int) : Int → Int → Int × Int := fun n a => if T.win n id then (p, q) else (n, remA n a p q)
section
variable {w : World} {own : Ow} {ptr : Nat → Nat} {lb tb : Nat} {T : Tr} {hv : Value} {hb : Option Nat} {H : List Hd}
theorem removed_both (n a p q : Int) (b : Bool) (w : World) (hn : okI n) (ha : okI a) (hp : okI p) (hq : okI q) :
    Calls Try.prog 32 #[pl n a, .int .i64 p, .int .i64 q, .bool b] w (RPlace (if b then p else n) (if b then q else remA n a p q) w) := by
  cases b with
  | true => exact removed_in n a p q w hn ha hp hq
  | false => exact removed_any n a p q w hn ha hp hq
set_option maxHeartbeats 2000000 in
set_option maxRecDepth 100000 in
theorem byRemove (h : LiveAt w own ptr lb tb T hv hb H) {d : Nat → Nat} (hw : WF T d) {b0 b1 b2 b3 : Nat} (p q id : Int) (o0 : okI p) (o1 : okI q)
    (h0 : w.cell? ⟨b0, 0, none⟩ = some (.int .i64 p)) (g0 : hb ≠ some b0) (h1 : w.cell? ⟨b1, 0, none⟩ = some (.int .i64 q)) (g1 : hb ≠ some b1)
    (h2 : w.heap[b2]? = some (.cells #[.pointer (some ⟨lb, 0, none⟩)] 22 (0, 0))) (g2 : hb ≠ some b2) (h3 : w.heap[b3]? = some (.cells #[.int .i64 id] 3 (0, 0))) (g3 : hb ≠ some b3) :
    ByIs w hb (.func (.func 31) #[] #[.pointer (some ⟨b0, 0, none⟩), .pointer (some ⟨b1, 0, none⟩), .pointer (some ⟨b2, 0, none⟩), .pointer (some ⟨b3, 0, none⟩)]) okP (remP T id p q) := by
  refine ⟨_, _, rfl, enters_of Try.func31 (by kernel_rfl) rfl, fun W n a hm hP => ?_⟩
  show Calls Try.prog 31 #[pl n a, .pointer (some ⟨b0, 0, none⟩), .pointer (some ⟨b1, 0, none⟩), .pointer (some ⟨b2, 0, none⟩), .pointer (some ⟨b3, 0, none⟩)] W _
  have htree : TreeAt W own ptr tb T := h.tree.keep fun b hb' => hm.rest b (h.ownd b hb') (fun e => hb' (h.nrow b e).1)
  have howned : Owned own W := fun b hb' => Nat.lt_of_lt_of_le (h.ownd b hb') hm.size
  have hbox := hm.block h.box (fun e => (h.nrow lb e).2.1 rfl)
  have xa := (Ext.refl W).alloc (.cells #[.int .i64 n, .int .i64 a] 32)
  have hba := heap_alloc_new W (.cells #[.int .i64 n, .int .i64 a] 32)
  obtain ⟨wa, hwa⟩ : ∃ V : World, V = W.alloc (.cells #[.int .i64 n, .int .i64 a] 32) := ⟨_, rfl⟩
  have hsz : wa.heap.size = W.heap.size + 1 := by rw [hwa]; simp
  rw [← hwa] at xa hba
  have xb := (Ext.refl wa).alloc (.cells #[.int .i64 0, .int .i64 0] 32)
  have hbb := heap_alloc_new wa (.cells #[.int .i64 0, .int .i64 0] 32)
  have hab := xb.block hba
  obtain ⟨wb, hwb⟩ : ∃ V : World, V = wa.alloc (.cells #[.int .i64 0, .int .i64 0] 32) := ⟨_, rfl⟩
  rw [← hwb] at xb hbb hab
  have x02 := xa.trans xb
  obtain ⟨ga, hga⟩ : ∃ g, W.heap.size = g := ⟨_, rfl⟩
  rw [hga] at hab
  have HWI := Lib.hid (fun u : ExtOf wb => inExt (u := u) (Within_any (⟨own, ptr, htree.keep ((x02.trans u.ext).keep howned), fun b hb' => Nat.lt_of_lt_of_le (howned b hb') (x02.trans u.ext).size⟩ : TAt u.val tb T) hw n id))
  obtain ⟨bb, hbbe⟩ : ∃ b, T.win n id = b := ⟨_, rfl⟩
  rw [hbbe] at HWI
  have HRM := Lib.hid (fun u : ExtOf wb => inExt (u := u) (removed_both n a p q bb u.val hP.1 hP.2 o0 o1))
  have HFV : Hid (remP T id p q n a = (if bb then p else n, if bb then q else remA n a p q)) := Lib.hid (by unfold remP; rw [hbbe]; cases bb <;> rfl)
  obtain ⟨n', hn'⟩ : ∃ z, (if bb then p else n) = z := ⟨_, rfl⟩
  obtain ⟨a', ha'⟩ : ∃ z, (if bb then q else remA n a p q) = z := ⟨_, rfl⟩
  rw [hn', ha'] at HRM HFV
  have r0 : ∀ u : ExtOf wb, u.val.cell? ⟨ga, 0, none⟩ = some (.int .i64 n) := fun u => u.ext.cell (cellOf hab rfl)
  have r1 : ∀ u : ExtOf wb, u.val.cell? ⟨ga, 1, none⟩ = some (.int .i64 a) := fun u => u.ext.cell (cellOf hab rfl)
  have r2 : ∀ u : ExtOf wb, u.val.cell? ⟨b0, 0, none⟩ = some (.int .i64 p) := fun u => (x02.trans u.ext).cell (hm.cell h0 g0)
  have r3 : ∀ u : ExtOf wb, u.val.cell? ⟨b1, 0, none⟩ = some (.int .i64 q) := fun u => (x02.trans u.ext).cell (hm.cell h1 g1)
  have r4 : ∀ u : ExtOf wb, u.val.cell? ⟨b2, 0, none⟩ = some (.pointer (some ⟨lb, 0, none⟩)) := fun u => (x02.trans u.ext).cell (cellOf (hm.block h2 g2) rfl)
  have r5 : ∀ u : ExtOf wb, u.val.cell? ⟨b3, 0, none⟩ = some (.int .i64 id) := fun u => (x02.trans u.ext).cell (cellOf (hm.block h3 g3) rfl)
  have r6 : ∀ u : ExtOf wb, u.val.cell? ⟨lb, 0, none⟩ = some (.pointer (some ⟨tb, 0, none⟩)) := fun u => (x02.trans u.ext).cell (cellOf hbox rfl)
  have XB := Lib.hid x02
  have HBB := Lib.hid hbb
  have HWA := Lib.hid hwa
  have HWB := Lib.hid hwb
  have HSZ := Lib.hid hsz
  have HGA := Lib.hid hga
  clear h hw h0 g0 h1 g1 h2 g2 h3 g3 hm hP htree howned hbox xa hba hwa hsz xb hbb hab hwb x02 hga hbbe hn' ha'
  go_enter Try.func31, Try.ntmps31
  go_upto_region 1 with fail
  rw [← HWA.out, ← HWB.out]
  obtain ⟨gb, hgb⟩ : ∃ g, wa.heap.size = g := ⟨_, rfl⟩
  have HGB := Lib.hid hgb
  have hg2 : ga + 1 = gb := by rw [← hgb, HSZ.out, HGA.out]
  have hg3 : W.heap.size + 1 = gb := by rw [← hgb, HSZ.out]
  rw [HGA.out]
  first | rw [hgb] | rw [hg2]
  rw [hgb] at HBB
  clear hgb hg2 hg3
  refine wp_region_ext_tail 12 (by kernel_rfl) (by kernel_rfl) ?_
  simp only [List.take_succ_cons, List.take_zero, List.drop_succ_cons, List.drop_zero]
  repeat (go_big_quiet_step ((first | (go_at_call 33; exact HWI.out _) | (go_at_call 32; exact HRM.out _))))
  refine wpQuiet_nil ?_
  rintro _ ⟨u, rfl⟩
  have x2 := u.ext
  obtain ⟨w2, hw2⟩ : ∃ V, u.val = V := ⟨_, rfl⟩
  rw [hw2] at x2 ⊢
  clear r0 r1 r2 r3 r4 r5 r6 hw2
  clear u
  have hb2 := x2.block HBB.out
  have k0 := cellOf hb2 (i := 0) rfl
  have k1 := cellOf hb2 (i := 1) rfl
  have f0 := freeOf hb2 0
  have f1 := freeOf hb2 1
  have B3 : ((w2.setCell ⟨gb, 0, none⟩ (.int .i64 n')).setCell ⟨gb, 1, none⟩ (.int .i64 a')).heap[gb]? = some (.cells #[.int .i64 n', .int .i64 a'] 32 (0, 0)) := heap_setCell_same (i := 1) (heap_setCell_same (i := 0) hb2 (.int .i64 n')) (.int .i64 a')
  have HLV := Lib.hid (run_loadVar_row (P := Try.prog) _ gb 32 32 _ (0, 0) _ B3 Try.underlying32 rfl (by kernel_rfl))
  have hgt : W.heap.size ≤ gb := by have h1 := HGB.out; have h2 := HSZ.out; omega
  have XF := Lib.hid (((XB.out.trans x2).setCell (p := ⟨gb, 0, none⟩) hgt (.int .i64 n')).setCell (p := ⟨gb, 1, none⟩) hgt (.int .i64 a'))
  clear x2 hb2 B3 hgt
  go_wp2_with fail
  have hlv := HLV.out
  refine bodyPost_ret (v := pl n' a') (by simp [results, Try.results31, asAddr, hlv]) rfl ?_
  exact ⟨by rw [HFV.out], XF.out⟩
end
end Go.Proofs.Ythgnbbbdcebjhaa
