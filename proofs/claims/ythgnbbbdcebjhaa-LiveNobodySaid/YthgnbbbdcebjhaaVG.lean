/- Package live: the function values that move places by Insert, Graft, Replace. Conditions: the numbers are from -1 to 2^30. -/
import Derived.Test.YthgnbbbdcebjhaaVF
namespace Go.Proofs.Ythgnbbbdcebjhaa
open Go Go.RowKit Go.BigFrame
set_option linter.unusedVariables false
set_option linter.unusedSimpArgs false

def okP (n a : Int) : Prop := okI n ∧ okI a
set_option maxHeartbeats 1000000 in
set_option maxRecDepth 100000 in
theorem byGraft {w : World} {hb : Option Nat} {b0 b1 : Nat} (p q : Int) (o0 : okI p) (o1 : okI q) (h0 : w.heap[b0]? = some (.cells #[.int .i64 p] 3 (0, 0))) (g0 : hb ≠ some b0) (h1 : w.heap[b1]? = some (.cells #[.int .i64 q] 3 (0, 0))) (g1 : hb ≠ some b1) :
    ByIs w hb (.func (.func 24) #[] #[.pointer (some ⟨b0, 0, none⟩), .pointer (some ⟨b1, 0, none⟩)]) okP (fun n a => (n, insA n a p q 1)) := by
  refine ⟨_, _, rfl, enters_of Try.func24 (by kernel_rfl) rfl, fun W n a hm hP => ?_⟩
  show Calls Try.prog 24 #[pl n a, .pointer (some ⟨b0, 0, none⟩), .pointer (some ⟨b1, 0, none⟩)] W _
  have xa := (Ext.refl W).alloc (.cells #[.int .i64 n, .int .i64 a] 32)
  have hba := heap_alloc_new W (.cells #[.int .i64 n, .int .i64 a] 32)
  obtain ⟨wa, hwa⟩ : ∃ V : World, V = W.alloc (.cells #[.int .i64 n, .int .i64 a] 32) := ⟨_, rfl⟩
  have hsz : wa.heap.size = W.heap.size + 1 := by rw [hwa]; simp
  rw [← hwa] at xa hba
  have xb := (Ext.refl wa).alloc (.cells #[.int .i64 0, .int .i64 0] 32)
  have hbb := heap_alloc_new wa (.cells #[.int .i64 0, .int .i64 0] 32)
  have hab := xb.block hba
  obtain ⟨wb, hwb⟩ : ∃ V : World, V = wa.alloc (.cells #[.int .i64 0, .int .i64 0] 32) := ⟨_, rfl⟩
  rw [← hwb] at xb hbb hab
  have c0 := cellOf hab (i := 0) (v := .int .i64 n) rfl
  have c1 := cellOf hab (i := 1) (v := .int .i64 a) rfl
  have e0 := (xa.trans xb).cell (cellOf (hm.block h0 g0) (i := 0) (v := .int .i64 p) rfl)
  have e1 := (xa.trans xb).cell (cellOf (hm.block h1 g1) (i := 0) (v := .int .i64 q) rfl)
  have HC := Lib.hid (inserted_any n a p q 1 wb hP.1 hP.2 o0 o1 (by unfold okI; omega))
  have XB := Lib.hid (xa.trans xb)
  have HBB := Lib.hid hbb
  have HWA := Lib.hid hwa
  have HWB := Lib.hid hwb
  have HSZ := Lib.hid hsz
  clear xa xb hba hbb hab hwa hwb hm hsz
  go_enter Try.func24, Try.ntmps24
  go_upto_region 1 with fail
  rw [← HWA.out, ← HWB.out]
  obtain ⟨gb, hgb⟩ : ∃ g, wa.heap.size = g := ⟨_, rfl⟩
  have HGB := Lib.hid hgb
  have hg2 : W.heap.size + 1 = gb := by rw [← hgb, HSZ.out]
  first | rw [hgb] | rw [hg2]
  rw [hgb] at HBB
  clear hgb hg2
  go_wp2_with (go_at_call 25; refine HC.out.mono ?_)
  rintro e w2 ⟨rfl, x2⟩
  obtain ⟨a', ha'⟩ : ∃ z, insA n a p q 1 = z := ⟨_, rfl⟩
  rw [ha']
  have HA2 := Lib.hid ha'
  have hb2 := x2.block HBB.out
  have k0 := cellOf hb2 (i := 0) rfl
  have k1 := cellOf hb2 (i := 1) rfl
  have f0 := freeOf hb2 0
  have f1 := freeOf hb2 1
  have B3 : ((w2.setCell ⟨gb, 0, none⟩ (.int .i64 n)).setCell ⟨gb, 1, none⟩ (.int .i64 a')).heap[gb]? = some (.cells #[.int .i64 n, .int .i64 a'] 32 (0, 0)) := heap_setCell_same (i := 1) (heap_setCell_same (i := 0) hb2 (.int .i64 n)) (.int .i64 a')
  have HLV := Lib.hid (run_loadVar_row (P := Try.prog) _ gb 32 32 _ (0, 0) _ B3 Try.underlying32 rfl (by kernel_rfl))
  have hgt : W.heap.size ≤ gb := by have h1 := HGB.out; have h2 := HSZ.out; omega
  have XF := Lib.hid (((XB.out.trans x2).setCell (p := ⟨gb, 0, none⟩) hgt (.int .i64 n)).setCell (p := ⟨gb, 1, none⟩) hgt (.int .i64 a'))
  clear x2 hb2 B3 c0 c1 ha' hgt
  go_wp2_with fail
  have hlv := HLV.out
  refine bodyPost_ret (v := pl n a') (by simp [results, Try.results24, asAddr, hlv]) rfl ?_
  exact ⟨by show Ending.returned (pl n a') = Ending.returned (pl n (insA n a p q 1)); rw [HA2.out], XF.out⟩
set_option maxHeartbeats 1000000 in
set_option maxRecDepth 100000 in
theorem byInsert {w : World} {hb : Option Nat} {b0 b1 : Nat} (p q : Int) (o0 : okI p) (o1 : okI q) (h0 : w.heap[b0]? = some (.cells #[.int .i64 p] 3 (0, 0))) (g0 : hb ≠ some b0) (h1 : w.heap[b1]? = some (.cells #[.int .i64 q] 3 (0, 0))) (g1 : hb ≠ some b1) :
    ByIs w hb (.func (.func 27) #[] #[.pointer (some ⟨b0, 0, none⟩), .pointer (some ⟨b1, 0, none⟩)]) okP (fun n a => (n, insA n a p q 1)) := by
  refine ⟨_, _, rfl, enters_of Try.func27 (by kernel_rfl) rfl, fun W n a hm hP => ?_⟩
  show Calls Try.prog 27 #[pl n a, .pointer (some ⟨b0, 0, none⟩), .pointer (some ⟨b1, 0, none⟩)] W _
  have xa := (Ext.refl W).alloc (.cells #[.int .i64 n, .int .i64 a] 32)
  have hba := heap_alloc_new W (.cells #[.int .i64 n, .int .i64 a] 32)
  obtain ⟨wa, hwa⟩ : ∃ V : World, V = W.alloc (.cells #[.int .i64 n, .int .i64 a] 32) := ⟨_, rfl⟩
  have hsz : wa.heap.size = W.heap.size + 1 := by rw [hwa]; simp
  rw [← hwa] at xa hba
  have xb := (Ext.refl wa).alloc (.cells #[.int .i64 0, .int .i64 0] 32)
  have hbb := heap_alloc_new wa (.cells #[.int .i64 0, .int .i64 0] 32)
  have hab := xb.block hba
  obtain ⟨wb, hwb⟩ : ∃ V : World, V = wa.alloc (.cells #[.int .i64 0, .int .i64 0] 32) := ⟨_, rfl⟩
  rw [← hwb] at xb hbb hab
  have c0 := cellOf hab (i := 0) (v := .int .i64 n) rfl
  have c1 := cellOf hab (i := 1) (v := .int .i64 a) rfl
  have e0 := (xa.trans xb).cell (cellOf (hm.block h0 g0) (i := 0) (v := .int .i64 p) rfl)
  have e1 := (xa.trans xb).cell (cellOf (hm.block h1 g1) (i := 0) (v := .int .i64 q) rfl)
  have HC := Lib.hid (inserted_any n a p q 1 wb hP.1 hP.2 o0 o1 (by unfold okI; omega))
  have XB := Lib.hid (xa.trans xb)
  have HBB := Lib.hid hbb
  have HWA := Lib.hid hwa
  have HWB := Lib.hid hwb
  have HSZ := Lib.hid hsz
  clear xa xb hba hbb hab hwa hwb hm hsz
  go_enter Try.func27, Try.ntmps27
  go_upto_region 1 with fail
  rw [← HWA.out, ← HWB.out]
  obtain ⟨gb, hgb⟩ : ∃ g, wa.heap.size = g := ⟨_, rfl⟩
  have HGB := Lib.hid hgb
  have hg2 : W.heap.size + 1 = gb := by rw [← hgb, HSZ.out]
  first | rw [hgb] | rw [hg2]
  rw [hgb] at HBB
  clear hgb hg2
  go_wp2_with (go_at_call 25; refine HC.out.mono ?_)
  rintro e w2 ⟨rfl, x2⟩
  obtain ⟨a', ha'⟩ : ∃ z, insA n a p q 1 = z := ⟨_, rfl⟩
  rw [ha']
  have HA2 := Lib.hid ha'
  have hb2 := x2.block HBB.out
  have k0 := cellOf hb2 (i := 0) rfl
  have k1 := cellOf hb2 (i := 1) rfl
  have f0 := freeOf hb2 0
  have f1 := freeOf hb2 1
  have B3 : ((w2.setCell ⟨gb, 0, none⟩ (.int .i64 n)).setCell ⟨gb, 1, none⟩ (.int .i64 a')).heap[gb]? = some (.cells #[.int .i64 n, .int .i64 a'] 32 (0, 0)) := heap_setCell_same (i := 1) (heap_setCell_same (i := 0) hb2 (.int .i64 n)) (.int .i64 a')
  have HLV := Lib.hid (run_loadVar_row (P := Try.prog) _ gb 32 32 _ (0, 0) _ B3 Try.underlying32 rfl (by kernel_rfl))
  have hgt : W.heap.size ≤ gb := by have h1 := HGB.out; have h2 := HSZ.out; omega
  have XF := Lib.hid (((XB.out.trans x2).setCell (p := ⟨gb, 0, none⟩) hgt (.int .i64 n)).setCell (p := ⟨gb, 1, none⟩) hgt (.int .i64 a'))
  clear x2 hb2 B3 c0 c1 ha' hgt
  go_wp2_with fail
  have hlv := HLV.out
  refine bodyPost_ret (v := pl n a') (by simp [results, Try.results27, asAddr, hlv]) rfl ?_
  exact ⟨by show Ending.returned (pl n a') = Ending.returned (pl n (insA n a p q 1)); rw [HA2.out], XF.out⟩
set_option maxHeartbeats 1000000 in
set_option maxRecDepth 100000 in
theorem byReplace {w : World} {hb : Option Nat} {b0 b1 b2 b3 : Nat} (p q c m : Int) (o0 : okI p) (o1 : okI q) (o2 : okI c) (o3 : okI m) (h0 : w.heap[b0]? = some (.cells #[.int .i64 p] 3 (0, 0))) (g0 : hb ≠ some b0) (h1 : w.heap[b1]? = some (.cells #[.int .i64 q] 3 (0, 0))) (g1 : hb ≠ some b1) (h2 : w.heap[b2]? = some (.cells #[.int .i64 c] 3 (0, 0))) (g2 : hb ≠ some b2) (h3 : w.heap[b3]? = some (.cells #[.int .i64 m] 3 (0, 0))) (g3 : hb ≠ some b3) :
    ByIs w hb (.func (.func 65) #[] #[.pointer (some ⟨b0, 0, none⟩), .pointer (some ⟨b1, 0, none⟩), .pointer (some ⟨b2, 0, none⟩), .pointer (some ⟨b3, 0, none⟩)]) okP (fun n a => (n, repA n a p q c m)) := by
  refine ⟨_, _, rfl, enters_of Try.func65 (by kernel_rfl) rfl, fun W n a hm hP => ?_⟩
  show Calls Try.prog 65 #[pl n a, .pointer (some ⟨b0, 0, none⟩), .pointer (some ⟨b1, 0, none⟩), .pointer (some ⟨b2, 0, none⟩), .pointer (some ⟨b3, 0, none⟩)] W _
  have xa := (Ext.refl W).alloc (.cells #[.int .i64 n, .int .i64 a] 32)
  have hba := heap_alloc_new W (.cells #[.int .i64 n, .int .i64 a] 32)
  obtain ⟨wa, hwa⟩ : ∃ V : World, V = W.alloc (.cells #[.int .i64 n, .int .i64 a] 32) := ⟨_, rfl⟩
  have hsz : wa.heap.size = W.heap.size + 1 := by rw [hwa]; simp
  rw [← hwa] at xa hba
  have xb := (Ext.refl wa).alloc (.cells #[.int .i64 0, .int .i64 0] 32)
  have hbb := heap_alloc_new wa (.cells #[.int .i64 0, .int .i64 0] 32)
  have hab := xb.block hba
  obtain ⟨wb, hwb⟩ : ∃ V : World, V = wa.alloc (.cells #[.int .i64 0, .int .i64 0] 32) := ⟨_, rfl⟩
  rw [← hwb] at xb hbb hab
  have c0 := cellOf hab (i := 0) (v := .int .i64 n) rfl
  have c1 := cellOf hab (i := 1) (v := .int .i64 a) rfl
  have e0 := (xa.trans xb).cell (cellOf (hm.block h0 g0) (i := 0) (v := .int .i64 p) rfl)
  have e1 := (xa.trans xb).cell (cellOf (hm.block h1 g1) (i := 0) (v := .int .i64 q) rfl)
  have e2 := (xa.trans xb).cell (cellOf (hm.block h2 g2) (i := 0) (v := .int .i64 c) rfl)
  have e3 := (xa.trans xb).cell (cellOf (hm.block h3 g3) (i := 0) (v := .int .i64 m) rfl)
  have HC := Lib.hid (replaced_any n a p q c m wb hP.1 hP.2 o0 o1 o2 o3)
  have XB := Lib.hid (xa.trans xb)
  have HBB := Lib.hid hbb
  have HWA := Lib.hid hwa
  have HWB := Lib.hid hwb
  have HSZ := Lib.hid hsz
  clear xa xb hba hbb hab hwa hwb hm hsz
  go_enter Try.func65, Try.ntmps65
  go_upto_region 1 with fail
  rw [← HWA.out, ← HWB.out]
  obtain ⟨gb, hgb⟩ : ∃ g, wa.heap.size = g := ⟨_, rfl⟩
  have HGB := Lib.hid hgb
  have hg2 : W.heap.size + 1 = gb := by rw [← hgb, HSZ.out]
  first | rw [hgb] | rw [hg2]
  rw [hgb] at HBB
  clear hgb hg2
  go_wp2_with (go_at_call 66; refine HC.out.mono ?_)
  rintro e w2 ⟨rfl, x2⟩
  obtain ⟨a', ha'⟩ : ∃ z, repA n a p q c m = z := ⟨_, rfl⟩
  rw [ha']
  have HA2 := Lib.hid ha'
  have hb2 := x2.block HBB.out
  have k0 := cellOf hb2 (i := 0) rfl
  have k1 := cellOf hb2 (i := 1) rfl
  have f0 := freeOf hb2 0
  have f1 := freeOf hb2 1
  have B3 : ((w2.setCell ⟨gb, 0, none⟩ (.int .i64 n)).setCell ⟨gb, 1, none⟩ (.int .i64 a')).heap[gb]? = some (.cells #[.int .i64 n, .int .i64 a'] 32 (0, 0)) := heap_setCell_same (i := 1) (heap_setCell_same (i := 0) hb2 (.int .i64 n)) (.int .i64 a')
  have HLV := Lib.hid (run_loadVar_row (P := Try.prog) _ gb 32 32 _ (0, 0) _ B3 Try.underlying32 rfl (by kernel_rfl))
  have hgt : W.heap.size ≤ gb := by have h1 := HGB.out; have h2 := HSZ.out; omega
  have XF := Lib.hid (((XB.out.trans x2).setCell (p := ⟨gb, 0, none⟩) hgt (.int .i64 n)).setCell (p := ⟨gb, 1, none⟩) hgt (.int .i64 a'))
  clear x2 hb2 B3 c0 c1 ha' hgt
  go_wp2_with fail
  have hlv := HLV.out
  refine bodyPost_ret (v := pl n a') (by simp [results, Try.results65, asAddr, hlv]) rfl ?_
  exact ⟨by show Ending.returned (pl n a') = Ending.returned (pl n (repA n a p q c m)); rw [HA2.out], XF.out⟩
end Go.Proofs.Ythgnbbbdcebjhaa
