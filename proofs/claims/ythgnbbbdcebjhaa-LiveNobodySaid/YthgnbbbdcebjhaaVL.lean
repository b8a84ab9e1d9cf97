/- Package live: Remove. Conditions: at most 100000 places are held; the numbers are from -1 to 2^30. -/
import Derived.Test.YthgnbbbdcebjhaaVK
import Derived.Deep.RegionHeld3
namespace Go.Proofs.Ythgnbbbdcebjhaa
open Go Go.RowKit Go.BigFrame
set_option linter.unusedVariables false
set_option linter.unusedSimpArgs false

theorem newCell1 (w : World) (v : Value) (t : TypeId) : (w.alloc (.cells #[v] t)).cell? ⟨w.heap.size, 0, none⟩ = some v := cellOf (heap_alloc_new w (.cells #[v] t)) rfl
theorem newCell2 (w : World) (v : Value) (t : TypeId) (o : Obj) : ((w.alloc (.cells #[v] t)).alloc o).cell? ⟨w.heap.size, 0, none⟩ = some v := ((Ext.refl _).alloc o).cell (newCell1 w v t)
theorem newCell3 (w : World) (v : Value) (t : TypeId) (o : Obj) : ((w.alloc o).alloc (.cells #[v] t)).cell? ⟨w.heap.size + 1, 0, none⟩ = some v := by
  have h := newCell1 (w.alloc o) v t
  rw [show (w.alloc o).heap.size = w.heap.size + 1 by simp] at h
  exact h
theorem newFree1 (w : World) (v : Value) (t : TypeId) : (w.alloc (.cells #[v] t)).frozen? ⟨w.heap.size, 0, none⟩ = false := freeOf (heap_alloc_new w (.cells #[v] t)) 0
theorem newFree2 (w : World) (v : Value) (t : TypeId) (o : Obj) : ((w.alloc (.cells #[v] t)).alloc o).frozen? ⟨w.heap.size, 0, none⟩ = false := ((Ext.refl _).alloc o).free (cell_lt (newCell1 w v t)) (newFree1 w v t)
theorem newFree3 (w : World) (v : Value) (t : TypeId) (o : Obj) : ((w.alloc o).alloc (.cells #[v] t)).frozen? ⟨w.heap.size + 1, 0, none⟩ = false := by
  have h := newFree1 (w.alloc o) v t
  rw [show (w.alloc o).heap.size = w.heap.size + 1 by simp] at h
  exact h
section
variable {w : World} {own : Ow} {ptr : Nat → Nat} {lb tb : Nat} {T : Tr} {hv : Value} {hb : Option Nat} {H : List Hd}
set_option maxHeartbeats 2000000 in
set_option maxRecDepth 100000 in
theorem lRemove_any (h : LiveAt w own ptr lb tb T hv hb H) (hl : H.length ≤ 100000) (id p q : Int) {er : Int} {T' : Tr} {d : Nat → Nat} (hw : WF T' d)
    (hp : ∀ W, Ext w W → Calls Try.prog 28 #[.pointer (some ⟨tb, 0, none⟩), .int .i64 id] W (RSame (.int .i64 p) W))
    (hq : ∀ W, Ext w W → Calls Try.prog 29 #[.pointer (some ⟨tb, 0, none⟩), .int .i64 id] W (RVal (.int .i64 q) W))
    (hd : ∀ W, Ext w W → Calls Try.prog 30 #[.pointer (some ⟨tb, 0, none⟩), .int .i64 id] W (ErrAfter own W tb er T'))
    (hP : er = 0 → okI p ∧ okI q ∧ okH H) :
    Calls Try.prog 11 #[.pointer (some ⟨lb, 0, none⟩), .int .i64 id] w (LErr own lb tb hb w er T' (movedIf er (remP T' id p q) H)) := by
  have xa := (Ext.refl w).alloc (.cells #[.pointer (some ⟨lb, 0, none⟩)] 22)
  have ha := heap_alloc_new w (.cells #[.pointer (some ⟨lb, 0, none⟩)] 22)
  obtain ⟨wa, hwa⟩ : ∃ W : World, W = w.alloc (.cells #[.pointer (some ⟨lb, 0, none⟩)] 22) := ⟨_, rfl⟩
  have sa : wa.heap.size = w.heap.size + 1 := by rw [hwa]; simp
  rw [← hwa] at xa ha
  have xb := (Ext.refl wa).alloc (.cells #[.int .i64 id] 3)
  have hbq := heap_alloc_new wa (.cells #[.int .i64 id] 3)
  obtain ⟨wb, hwb⟩ : ∃ W : World, W = wa.alloc (.cells #[.int .i64 id] 3) := ⟨_, rfl⟩
  rw [← hwb] at xb hbq
  have HB2 := Lib.hid (xb.block ha)
  have HB3 := Lib.hid hbq
  obtain ⟨b2, hb2⟩ : ∃ b, w.heap.size = b := ⟨_, rfl⟩
  obtain ⟨b3, hb3⟩ : ∃ b, wa.heap.size = b := ⟨_, rfl⟩
  have hq2 : b2 + 1 = b3 := by omega
  rw [hb2] at HB2
  rw [hb3] at HB3
  have XB := Lib.hid (xa.trans xb)
  have HH := Lib.hid h
  have HD := Lib.hid hd
  have HPP := Lib.hid hP
  have HL := Lib.hid hl
  have HPA := Lib.hid (fun (W : World) (x : Ext wb W) => hp W ((xa.trans xb).trans x))
  have HIX := Lib.hid (fun (W : World) (x : Ext wb W) => hq W ((xa.trans xb).trans x))
  have HW := Lib.hid hw
  have HWA := Lib.hid hwa
  have HWB := Lib.hid hwb
  have HB2E := Lib.hid hb2
  have HB3E := Lib.hid (And.intro hb3 hq2)
  have N2 := Lib.hid (h.new_own (b := b2) (by omega))
  have N3 := Lib.hid (h.new_own (b := b3) (by omega))
  have hmf : ∀ (fn : Fn) (first cap : Array Value) (w : World), (Instr.makeFunc fn first cap).run Try.prog w = .ok (.func fn first cap) w := fun _ _ _ _ => rfl
  have HNN := Lib.hid (none_some (h.ext (xa.trans xb)).ptr_)
  have c2 := cellOf HB2.out (i := 0) rfl
  have c3 := cellOf HB3.out (i := 0) rfl
  clear h hd hP hl hp hq hw xa ha hwa sa xb hbq hwb hb2 hb3 hq2
  go_enter Try.func11, Try.ntmps11
  go_upto_region 1 with fail
  rw [← HWA.out, ← HWB.out, HB2E.out]
  first | rw [HB3E.out.1] | rw [HB3E.out.2]
  go_upto_region 3 with (go_at_call 17; refine HNN.out.mono ?_; rintro e w' ⟨rfl, rfl⟩)
  have m0 := (HH.out.ext XB.out).ptr_
  have m2 := c2
  have m3 := c3
  clear c2 c3
  have n0 := cell_lt m0
  have n2 := cell_lt m2
  have n3 := cell_lt m3
  have q0 : lb ≠ wb.heap.size := by omega
  have q0' : lb ≠ wb.heap.size + 1 := by omega
  have q2 : b2 ≠ wb.heap.size := by omega
  have q2' : b2 ≠ wb.heap.size + 1 := by omega
  have q3 : b3 ≠ wb.heap.size := by omega
  have q3' : b3 ≠ wb.heap.size + 1 := by omega
  go_cut [5, 6] (fun x y wx => ∃ bx bY, x = .pointer (some ⟨bx, 0, none⟩) ∧ y = .pointer (some ⟨bY, 0, none⟩) ∧ wb.heap.size ≤ bx ∧ wb.heap.size ≤ bY ∧ Ext wb wx ∧ wx.cell? ⟨bx, 0, none⟩ = some (.int .i64 p) ∧ wx.cell? ⟨bY, 0, none⟩ = some (.int .i64 q))
  case first =>
    go_region_held3 (fun w' => w'.cell? ⟨lb, 0, none⟩ = some (.pointer (some ⟨tb, 0, none⟩)) ∧ w'.cell? ⟨b2, 0, none⟩ = some (.pointer (some ⟨lb, 0, none⟩)) ∧ w'.cell? ⟨b3, 0, none⟩ = some (.int .i64 id))
      (first | exact ⟨m0, m2, m3⟩ | exact ⟨hyI.cell m0, hyI.cell m2, hyI.cell m3⟩ | (refine ⟨Ext.cell ?_ m0, Ext.cell ?_ m2, Ext.cell ?_ m3⟩ <;> (repeat (first | exact hyI | exact Ext.refl _ | refine Ext.drew ?_ | refine Ext.alloc ?_ _ | refine Ext.setCell ?_ (by first | exact Nat.le_refl _ | exact Nat.le_succ _ | exact hyI.size | (have h9 := hyI.size; simp; omega) | (simp; done)) _))) | go_keep)
      (first
      | (go_at_call 28; refine (HPA.out _ (by first | exact hyI | exact Ext.refl _ | exact (Ext.refl _).drew | exact (Ext.refl _).drew.alloc _ | exact ((Ext.refl _).drew.alloc _).alloc _ | exact ((Ext.refl _).alloc _).drew | exact (((Ext.refl _).alloc _).alloc _).drew)).mono ?_; rintro e w5 ⟨rfl, rfl⟩)
      | (go_at_call 29; refine (HIX.out _ (by first | exact Ext.refl _ | exact (Ext.refl _).drew | exact (Ext.refl _).drew.alloc _ | exact ((Ext.refl _).drew.alloc _).alloc _ | exact ((Ext.refl _).alloc _).drew | exact (((Ext.refl _).alloc _).alloc _).drew)).mono ?_; rintro e w6 ⟨rfl, hxI⟩; have hyI : Ext wb w6 := (by refine Ext.trans ?_ hxI; first | exact (Ext.refl _).drew | exact ((Ext.refl _).alloc _).drew | exact (((Ext.refl _).alloc _).alloc _).drew | exact (Ext.refl _).drew.alloc _ | exact ((Ext.refl _).drew.alloc _).alloc _ | exact Ext.refl _); have hxI := Ext.undrew hxI; first | (have z0 : w6.cell? ⟨wb.heap.size, 0, none⟩ = some (.int .i64 0) := hxI.cell (newCell2 _ _ _ _); have z1 : w6.cell? ⟨wb.heap.size + 1, 0, none⟩ = some (.int .i64 0) := hxI.cell (newCell3 _ _ _ _); have f0 : w6.frozen? ⟨wb.heap.size, 0, none⟩ = false := hxI.free (cell_lt (newCell2 _ _ _ _)) (newFree2 _ _ _ _); have f1 : w6.frozen? ⟨wb.heap.size + 1, 0, none⟩ = false := hxI.free (cell_lt (newCell3 _ _ _ _)) (newFree3 _ _ _ _); have l9 := cell_lt z0; have n9 := Nat.ne_of_lt (cell_lt z0); have n8 := Ne.symm n9; have l7 := cell_lt z1; have n7 := Nat.ne_of_lt (cell_lt z1); have n6 := Ne.symm n7) | (have z0 : w6.cell? ⟨wb.heap.size, 0, none⟩ = some (.int .i64 0) := hxI.cell (newCell1 _ _ _); have f0 : w6.frozen? ⟨wb.heap.size, 0, none⟩ = false := hxI.free (cell_lt (newCell1 _ _ _)) (newFree1 _ _ _); have l9 := cell_lt z0; have n9 := Nat.ne_of_lt (cell_lt z0); have n8 := Ne.symm n9) | skip))
    all_goals go_wp2_with fail
    all_goals go_meet
    all_goals refine ⟨_, _, rfl, rfl, ?_, ?_, ?_, ?_, ?_⟩
    all_goals first
      | (have h9 := hyI.size; omega)
      | (simp [go_sem]; done)
      | (simp [go_sem, *]; done)
      | (simp [go_sem, *, World.cell?_setCell_far]; done)
      | (repeat (first | exact hyI | exact Ext.refl _ | refine Ext.drew ?_ | refine Ext.alloc ?_ _ | refine Ext.setCell ?_ (by first | exact Nat.le_refl _ | exact Nat.le_succ _ | exact hyI.size | (have h9 := hyI.size; simp; omega) | (simp; done)) _))
  case rest =>
    obtain ⟨bx, bY, rfl, rfl, hbx, hbY, xc, k1, k2⟩ := hcut
    have hwz := XB.out.size
    have NX := Lib.hid (HH.out.new_own (b := bx) (by omega))
    have NY := Lib.hid (HH.out.new_own (b := bY) (by omega))
    have XC := Lib.hid (XB.out.trans xc)
    have K1 := Lib.hid k1
    have K2 := Lib.hid k2
    have B2 := Lib.hid (xc.block HB2.out)
    have B3 := Lib.hid (xc.block HB3.out)
    have r0 : ∀ u : ExtOf wc, u.val.cell? ⟨lb, 0, none⟩ = some (.pointer (some ⟨tb, 0, none⟩)) := fun u => (xc.trans u.ext).cell m0
    have r1 : ∀ u : ExtOf wc, u.val.cell? ⟨b2, 0, none⟩ = some (.pointer (some ⟨lb, 0, none⟩)) := fun u => (xc.trans u.ext).cell m2
    have r2 : ∀ u : ExtOf wc, u.val.cell? ⟨b3, 0, none⟩ = some (.int .i64 id) := fun u => (xc.trans u.ext).cell m3
    clear m0 m2 m3 n0 n2 n3 q0 q0' q2 q2' q3 q3' xc k1 k2 hbx hbY hwz
    go_upto_region 4 with fail
    refine wp_region_ext_mid 5 _ rfl (by kernel_rfl) (by kernel_rfl) ?_
    simp only [List.take_succ_cons, List.take_zero, List.drop_succ_cons, List.drop_zero]
    repeat (go_big_quiet_step (fail))
    refine wpQuiet_nil ?_
    rintro _ ⟨u, rfl⟩ K hK
    have HK := Lib.hid hK
    have hx := u.ext
    obtain ⟨w5, hw5⟩ : ∃ W, u.val = W := ⟨_, rfl⟩
    rw [hw5] at hx ⊢
    clear r0 r1 r2 hw5 hK
    clear u
    have X5 := Lib.hid (XC.out.trans hx)
    have K1 := Lib.hid (hx.cell K1.out)
    have K2 := Lib.hid (hx.cell K2.out)
    have B2 := Lib.hid (hx.block B2.out)
    have B3 := Lib.hid (hx.block B3.out)
    clear hx
    go_simp
    go_at_call 30
    refine (HD.out _ X5.out).mono ?_
    rintro e w6 ⟨rfl, ha⟩
    obtain ⟨own', ptr', hT6, hS6, hst⟩ := (HH.out.ext X5.out).after ha
    have K1 := Lib.hid (hst.mv.cell K1.out (fun hn => hn NX.out.1))
    have K2 := Lib.hid (hst.mv.cell K2.out (fun hn => hn NY.out.1))
    have B2 := Lib.hid (hst.mv.block B2.out (fun hn => hn N2.out.1))
    have B3 := Lib.hid (hst.mv.block B3.out (fun hn => hn N3.out.1))
    have HT6 := Lib.hid hT6
    have HS6 := Lib.hid (((LStep.refl own lb hb w).ext X5.out).trans hS6)
    clear ha hT6 hS6 hst
    refine HK.out _ _ ?_
    clear HK K
    repeat (go_big_quiet_step (fail))
    refine wpQuiet_nil ?_
    rintro _ ⟨u, rfl⟩
    obtain ⟨w7, hw7⟩ : ∃ W, u.val = W := ⟨_, rfl⟩
    have hx := u.ext
    rw [hw7] at hx ⊢
    have HT6 := Lib.hid (HT6.out.ext hx)
    have HS6 := Lib.hid (HS6.out.ext hx)
    have K1 := Lib.hid (hx.cell K1.out)
    have K2 := Lib.hid (hx.cell K2.out)
    have B2 := Lib.hid (hx.block B2.out)
    have B3 := Lib.hid (hx.block B3.out)
    clear hx hw7
    clear u
    by_cases her : er = 0
    · subst her
      obtain ⟨op, oq, oh⟩ := HPP.out rfl
      have HMV := Lib.hid (lMove_any HT6.out HL.out oh (byRemove HT6.out HW.out p q id op oq K1.out NX.out.2.2 K2.out NY.out.2.2 B2.out N2.out.2.2 B3.out N3.out.2.2))
      have c2 := cellOf B2.out (i := 0) rfl
      clear op oq oh
      go_wp2_with (go_at_call 23; refine HMV.out.mono ?_)
      rintro e w8 ⟨rfl, hT8, hm8⟩
      have HF : Hid (LAfter own lb tb hb w T' (H.map (moved (remP T' id p q))) w8) := Lib.hid ⟨own', ptr', _, _, hT8, HS6.out.trans (LStep.move hm8)⟩
      clear hT8 hm8 c2
      go_wp2_with fail
      go_ret
      exact ⟨rfl, by unfold movedIf; rw [if_pos rfl]; exact HF.out⟩
    · have e0 : (er == 0) = false := beq_eq_false_iff_ne.2 her
      have HE := Lib.hid her
      clear her
      go_wp2_with fail
      go_ret
      exact ⟨rfl, by unfold movedIf; rw [if_neg HE.out]; exact ⟨own', ptr', _, _, HT6.out, HS6.out⟩⟩
end
end Go.Proofs.Ythgnbbbdcebjhaa
