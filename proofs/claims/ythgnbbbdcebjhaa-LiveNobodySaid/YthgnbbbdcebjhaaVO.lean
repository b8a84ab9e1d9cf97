/- LiveNobody's walk. No conditions. -/
import Derived.Test.YthgnbbbdcebjhaaVN
namespace Go.Proofs.Ythgnbbbdcebjhaa
open Go Go.RowKit Go.BigFrame
set_option linter.unusedVariables false
set_option linter.unusedSimpArgs false

set_option maxHeartbeats 4000000 in
set_option maxRecDepth 100000 in
theorem nobody_walk (w : World) : Calls Try.prog 3 #[] w (RBool true w) := by
  have xa := (Ext.refl w).alloc (.cells #[.pointer none, .slice none 0 0] 26)
  have ha := heap_alloc_new w (.cells #[.pointer none, .slice none 0 0] 26)
  obtain ⟨wa, hwa⟩ : ∃ W : World, W = w.alloc (.cells #[.pointer none, .slice none 0 0] 26) := ⟨_, rfl⟩
  have sa : wa.heap.size = w.heap.size + 1 := by rw [hwa]; simp
  rw [← hwa] at xa ha
  obtain ⟨b0, hb0⟩ : ∃ b, w.heap.size = b := ⟨_, rfl⟩
  rw [hb0] at ha
  have xb := (Ext.refl wa).alloc (.cells #[.pointer none, .pointer (some ⟨b0, 0, none⟩)] 22)
  have hb := heap_alloc_new wa (.cells #[.pointer none, .pointer (some ⟨b0, 0, none⟩)] 22)
  have hab := xb.block ha
  obtain ⟨wb, hwb⟩ : ∃ W : World, W = wa.alloc (.cells #[.pointer none, .pointer (some ⟨b0, 0, none⟩)] 22) := ⟨_, rfl⟩
  rw [← hwb] at xb hb hab
  obtain ⟨b1, hb1⟩ : ∃ b, wa.heap.size = b := ⟨_, rfl⟩
  have hb1' : b0 + 1 = b1 := by omega
  rw [hb1] at hb
  have XB := Lib.hid (xa.trans xb)
  have HA := Lib.hid hab
  have HB := Lib.hid hb
  have HWA := Lib.hid hwa
  have HWB := Lib.hid hwb
  have HB0 := Lib.hid hb0
  have HB1 := Lib.hid (And.intro hb1 hb1')
  clear xa ha hwa sa xb hb hab hwb hb0 hb1 hb1'
  go_enter Try.func3, Try.ntmps3
  go_upto_region 3 with fail
  rw [HB0.out]
  first | rw [← HWA.out, ← HWB.out, HB1.out.1] | rw [← HWA.out, ← HWB.out, HB1.out.2]
  go_wp2_with fail
  go_loopw [3, 4, 5, 6, 7, 8, 9, 10] (fun iv _ _ _ _ _ _ _ wr => ∃ i : Nat, i ≤ 2 ∧ iv = .int .i64 i ∧ Ext wb wr) (fun iv _ _ _ _ _ _ _ _ => 2 - (intOf iv).toNat)
  case atStart => exact ⟨0, by omega, rfl, Ext.refl _⟩
  case round =>
    obtain ⟨i, hi, rfl, xr⟩ := hrel
    have XR := Lib.hid xr
    clear xr
    by_cases hlt : i < 2
    · obtain ⟨pv, hpv, hno⟩ : ∃ pv, wr.cell? ⟨b1, i, none⟩ = some pv ∧ NoneIs pv wr := by
        rcases (show i = 0 ∨ i = 1 by omega) with rfl | rfl
        · exact ⟨_, XR.out.cell (cellOf HB.out (i := 0) rfl), .inl rfl⟩
        · exact ⟨_, XR.out.cell (cellOf HB.out (i := 1) rfl), .inr ⟨b0, rfl, XR.out.cell (cellOf HA.out (i := 0) rfl)⟩⟩
      have HNO := Lib.hid (fun (W : World) (x : Ext wr W) => hno.ext x)
      have e0 : decide ((i : Int) < 2) = true := decide_eq_true (by omega)
      have e0n : decide (i < 2) = true := decide_eq_true hlt
      have i0 : (0 : Int) ≤ (i : Int) := by omega
      have i1 : (i : Int) < 2 := by omega
      have itn : (i : Int).toNat = i := by omega
      have X := Lib.hid (Ext.refl wr)
      obtain ⟨pa, rfl⟩ := hno.ptr
      clear hno
      go_wp2_with (go_at_call 4; refine (vHold_none (HNO.out _ (by first | exact X.out | exact X.out.alloc _ | exact (X.out.alloc _).alloc _)) 0 0).mono ?_)
      rintro e w0 ⟨rfl, x0⟩
      have X := Lib.hid (Ext.trans (by first | exact X.out | exact X.out.alloc _ | exact (X.out.alloc _).alloc _) x0)
      clear x0
      clear hpv
      go_wp2_with (go_at_call 5; refine (vHeld_none (HNO.out _ (by first | exact X.out | exact X.out.alloc _ | exact (X.out.alloc _).alloc _)) 0).mono ?_)
      rintro e w1 ⟨rfl, x1⟩
      have X := Lib.hid (Ext.trans (by first | exact X.out | exact X.out.alloc _ | exact (X.out.alloc _).alloc _) x1)
      clear x1
      go_wp2_with (go_at_call 6; refine (vGraft_none (HNO.out _ (by first | exact X.out | exact X.out.alloc _ | exact (X.out.alloc _).alloc _)) 0 0 _ _ _ _).mono ?_)
      rintro e w2 ⟨rfl, x2⟩
      have X := Lib.hid (Ext.trans (by first | exact X.out | exact X.out.alloc _ | exact (X.out.alloc _).alloc _) x2)
      clear x2
      go_wp2_with (go_at_call 7; refine (vPlace_none (HNO.out _ (by first | exact X.out | exact X.out.alloc _ | exact (X.out.alloc _).alloc _)) 0 0 0).mono ?_)
      rintro e w3 ⟨rfl, x3⟩
      have X := Lib.hid (Ext.trans (by first | exact X.out | exact X.out.alloc _ | exact (X.out.alloc _).alloc _) x3)
      clear x3
      go_wp2_with (go_at_call 8; refine (vFree_none (HNO.out _ (by first | exact X.out | exact X.out.alloc _ | exact (X.out.alloc _).alloc _)) 0).mono ?_)
      rintro e w4 ⟨rfl, x4⟩
      have X := Lib.hid (Ext.trans (by first | exact X.out | exact X.out.alloc _ | exact (X.out.alloc _).alloc _) x4)
      clear x4
      go_wp2_with (go_at_call 9; refine (vHandles_none (HNO.out _ (by first | exact X.out | exact X.out.alloc _ | exact (X.out.alloc _).alloc _))).mono ?_)
      rintro e w5 ⟨rfl, x5⟩
      have X := Lib.hid (Ext.trans (by first | exact X.out | exact X.out.alloc _ | exact (X.out.alloc _).alloc _) x5)
      clear x5
      go_wp2_with (go_at_call 10; refine (vInsert_none (HNO.out _ (by first | exact X.out | exact X.out.alloc _ | exact (X.out.alloc _).alloc _)) 0 0 1).mono ?_)
      rintro e w6 ⟨rfl, x6⟩
      have X := Lib.hid (Ext.trans (by first | exact X.out | exact X.out.alloc _ | exact (X.out.alloc _).alloc _) x6)
      clear x6
      go_wp2_with (go_at_call 11; refine (vRemove_none (HNO.out _ (by first | exact X.out | exact X.out.alloc _ | exact (X.out.alloc _).alloc _)) 0).mono ?_)
      rintro e w7 ⟨rfl, x7⟩
      have X := Lib.hid (Ext.trans (by first | exact X.out | exact X.out.alloc _ | exact (X.out.alloc _).alloc _) x7)
      clear x7
      go_wp2_with (go_at_call 12; refine (vDrop_none (HNO.out _ (by first | exact X.out | exact X.out.alloc _ | exact (X.out.alloc _).alloc _)) 0).mono ?_)
      rintro e w8 ⟨rfl, x8⟩
      have X := Lib.hid (Ext.trans (by first | exact X.out | exact X.out.alloc _ | exact (X.out.alloc _).alloc _) x8)
      clear x8
      go_wp2_with (go_at_call 13; refine (vReplace_none (HNO.out _ (by first | exact X.out | exact X.out.alloc _ | exact (X.out.alloc _).alloc _)) 0 0 0 ⟨#[]⟩).mono ?_)
      rintro e w9 ⟨rfl, x9⟩
      have X := Lib.hid (Ext.trans (by first | exact X.out | exact X.out.alloc _ | exact (X.out.alloc _).alloc _) x9)
      clear x9
      go_wp2_with (go_at_call 14; refine (vSetText_none (HNO.out _ (by first | exact X.out | exact X.out.alloc _ | exact (X.out.alloc _).alloc _)) 0 ⟨#[]⟩).mono ?_)
      rintro e w10 ⟨rfl, x10⟩
      have X := Lib.hid (Ext.trans (by first | exact X.out | exact X.out.alloc _ | exact (X.out.alloc _).alloc _) x10)
      clear x10
      go_wp2_with (go_at_call 15; refine (vCopy_none (HNO.out _ (by first | exact X.out | exact X.out.alloc _ | exact (X.out.alloc _).alloc _))).mono ?_)
      rintro e w11 ⟨rfl, x11⟩
      have X := Lib.hid (Ext.trans (by first | exact X.out | exact X.out.alloc _ | exact (X.out.alloc _).alloc _) x11)
      clear x11
      go_wp2_with fail
      go_roundw
      case rel => exact ⟨i + 1, by omega, by go_num, XR.out.trans X.out⟩
      case measure => simp [intOf]; omega
    · have hi2 : i = 2 := by omega
      subst hi2
      have HW := Lib.hid (awake11_any wr)
      go_wp2_with (go_at_call 16; refine HW.out.mono ?_)
      rintro e w3 ⟨rfl, x3⟩
      go_wp2_with fail
      go_ret
      exact ⟨rfl, (XB.out.trans XR.out).trans x3⟩
end Go.Proofs.Ythgnbbbdcebjhaa
