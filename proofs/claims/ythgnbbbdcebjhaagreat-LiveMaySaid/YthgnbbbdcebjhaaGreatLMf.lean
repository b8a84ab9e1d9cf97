/- what of V1 V2 V2b V3 VQ VA VB VC VD VE VF VG VH VI VJ VK VL VR VS VU VV VT VW VX VY VAA VM VN VTB VTC VTD VTE W1 W2 W3 W4 D0 DB DA DC DD DE DF DG DH DI DJ DK DL DM DN DO DP EA EB EC ED EE EF EFa EFb EFc EFd EFe EFf EFg EG EH EJ EI this seat can say -/
import Derived.Test.YthgnbbbdcebjhaaGreatLMe

namespace Go.Proofs.YthgnbbbdcebjhaaGreat
open Go Go.RowKit Go.BigFrame
set_option linter.unusedVariables false
set_option linter.unusedSimpArgs false

section
variable {w : World} {F : Nat → Prop} {xb rb : Nat} {T : Tr} {I : List Int} {P : List (Int × Int)}
set_option maxHeartbeats 2000000 in
set_option maxRecDepth 100000 in
theorem dHold_at (h : DocOn w F xb rb T I P) (hl : I.length ≤ 100000) (n a : Int) {i : Nat} (hi : I[i]? = some 0) (hno : ∀ j x, j < i → I[j]? = some x → x ≠ 0) (hM : ∀ W, Ext w W → Calls Tryz.prog 102 #[.pointer (some ⟨rb, 0, none⟩), pl n a] W (RVal (.bool true) W)) :
    Calls Tryz.prog 40 #[.pointer (some ⟨xb, 0, none⟩), pl n a] w (DTwoAft F w xb rb i 0 T (I.set i 1) (P.set i (n, a))) := by
  have hil := (List.getElem?_eq_some_iff.1 hi).1
  have xa := (Ext.refl w).alloc (.cells #[.int .i64 n, .int .i64 a] 43)
  have hba := heap_alloc_new w (.cells #[.int .i64 n, .int .i64 a] 43)
  obtain ⟨wa, hwa⟩ : ∃ W : World, W = w.alloc (.cells #[.int .i64 n, .int .i64 a] 43) := ⟨_, rfl⟩
  rw [← hwa] at xa hba
  obtain ⟨pb, hpb⟩ : ∃ b, w.heap.size = b := ⟨_, rfl⟩
  have hd1 := h.lt
  rw [hpb] at hba hd1
  have HD := Lib.hid h
  have HD1 := Lib.hid hd1
  have XA := Lib.hid xa
  have HWA := Lib.hid hwa
  have HPB := Lib.hid hpb
  have HBA := Lib.hid hba
  have HNO := Lib.hid hno
  have HMY := Lib.hid (fun (u : ExtOf wa) => inExt (u := u) (hM u.val (xa.trans u.ext)))
  obtain ⟨m, hm⟩ : ∃ m, I.length = m := ⟨_, rfl⟩
  have hpm : P.length = m := by rw [h.len, hm]
  have HM := Lib.hid hm
  have HPM := Lib.hid hpm
  have HI := Lib.hid hi
  rw [hm] at hl hil
  clear hM xa hwa hpb hba h hd1 hi hno hm hpm
  go_enter Tryz.func40, Tryz.ntmps40
  go_upto_region 1 with fail
  rw [← HWA.out, HPB.out]
  have r0 : ∀ u : ExtOf wa, u.val.cell? ⟨xb, 0, none⟩ = some (.pointer (some ⟨rb, 0, none⟩)) := fun u => (XA.out.trans u.ext).cell HD.out.ptr_
  have r1 : ∀ u : ExtOf wa, u.val.cell? ⟨pb, 0, none⟩ = some (.int .i64 n) := fun u => u.ext.cell (cellOf HBA.out rfl)
  have r2 : ∀ u : ExtOf wa, u.val.cell? ⟨pb, 1, none⟩ = some (.int .i64 a) := fun u => u.ext.cell (cellOf HBA.out rfl)
  refine wp_region_ext (by kernel_rfl) (by kernel_rfl) ?_
  repeat (go_big_quiet_step ((go_at_call 102; exact HMY.out _)))
  refine wpQuiet_nil ?_
  rintro _ ⟨u, rfl⟩
  have hx := u.ext
  obtain ⟨w1, hw1⟩ : ∃ W, u.val = W := ⟨_, rfl⟩
  rw [hw1] at hx ⊢
  clear r0 r1 r2 hw1
  clear u
  have X1 := Lib.hid (XA.out.trans hx)
  have HB1 := Lib.hid (hx.block HBA.out)
  have D1 := Lib.hid (HD1.out.ext (XA.out.trans hx))
  clear hx HMY
  go_wp2_with fail
  go_loopw [6] (fun iv wr => ∃ j : Nat, j ≤ i ∧ iv = .int .i64 j ∧ wr = w1) (fun iv _ => m - (intOf iv).toNat)
  case atStart => exact ⟨0, Nat.zero_le _, rfl, rfl⟩
  case round =>
    obtain ⟨j, hji, rfl, rfl⟩ := hrel
    have hjm : j < m := by omega
    obtain ⟨x, hx⟩ : ∃ x, I[j]? = some x := ⟨_, List.getElem?_eq_getElem (by rw [HM.out]; exact hjm)⟩
    obtain ⟨g1, cap1, p1, q1, f1⟩ := D1.out.isFree hx
    rw [HM.out] at p1
    have e0 : decide ((j : Int) < (m : Int)) = true := decide_eq_true (by omega)
    have e0n : decide (j < m) = true := decide_eq_true hjm
    have j0 : (0 : Int) ≤ (j : Int) := by omega
    have j1 : (j : Int) < (m : Int) := by omega
    have jtn : (j : Int).toNat = j := by omega
    have HJM := Lib.hid hjm
    by_cases hlt : j < i
    · have ex : (x == 0) = false := beq_eq_false_iff_ne.2 (HNO.out j x hlt hx)
      have HLT := Lib.hid hlt
      clear hx hlt hji hjm f1 hil
      go_wp2_with fail
      go_roundw
      case rel => exact ⟨j + 1, by have := HLT.out; omega, by go_num, trivial⟩
      case measure => have := HJM.out; simp [intOf]; omega
    · have hje : j = i := by omega
      have hx0 : x = 0 := by
        rw [hje, HI.out] at hx
        exact (Option.some.inj hx).symm
      have HJE := Lib.hid hje
      subst hx0
      clear hx hlt hji hjm hje hil
      go_upto_region 8 with fail
      obtain ⟨d2, fg⟩ := D1.out.setI (iv := .slice (some ⟨g1, 0, none⟩) m cap1) p1 (g := g1) (k := j) rfl (by rw [HM.out]; exact HJM.out) 1
      have hm2 : Mv (fun b => F b ∧ b < pb) wr (wr.setCell ⟨g1, j, none⟩ (.int .i64 1)) := (Mv.refl _ _).setCell (p := ⟨g1, j, none⟩) (fun _ => fg) _
      obtain ⟨w2, hw2⟩ : ∃ W, wr.setCell ⟨g1, j, none⟩ (.int .i64 1) = W := ⟨_, rfl⟩
      rw [hw2] at d2 hm2 ⊢
      have D2 := Lib.hid d2
      have M2 := Lib.hid hm2
      have HB2 := Lib.hid (hm2.block HB1.out (fun h => absurd h.2 (Nat.lt_irrefl _)))
      clear p1 q1 f1 d2 hm2 hw2 fg
      obtain ⟨p, hp⟩ : ∃ p, P[j]? = some p := ⟨_, List.getElem?_eq_getElem (by rw [HPM.out]; exact HJM.out)⟩
      obtain ⟨g2, cap2, p2, q0, q1, f0, f1⟩ := D2.out.heldFree hp
      rw [HPM.out] at p2
      have P2 := Lib.hid p2
      have Q0 := Lib.hid q0
      have Q1 := Lib.hid q1
      have FF0 := Lib.hid f0
      have FF1 := Lib.hid f1
      have r0 : ∀ u : ExtOf w2, u.val.cell? ⟨xb, 2, none⟩ = some (.slice (some ⟨g2, 0, none⟩) m cap2) := fun u => u.ext.cell p2
      have r1 : ∀ u : ExtOf w2, u.val.cell? ⟨pb, 0, none⟩ = some (.int .i64 n) := fun u => u.ext.cell (cellOf HB2.out rfl)
      have r2 : ∀ u : ExtOf w2, u.val.cell? ⟨pb, 1, none⟩ = some (.int .i64 a) := fun u => u.ext.cell (cellOf HB2.out rfl)
      clear q0 q1 f0 f1 p2 hp
      refine wp_region_ext_tail 7 (by kernel_rfl) (by kernel_rfl) ?_
      simp only [List.take_succ_cons, List.take_zero, List.drop_succ_cons, List.drop_zero]
      repeat (go_big_quiet_step (fail))
      refine wpQuiet_nil ?_
      rintro _ ⟨u, rfl⟩
      have hx := u.ext
      obtain ⟨w5, hw5⟩ : ∃ W, u.val = W := ⟨_, rfl⟩
      rw [hw5] at hx ⊢
      clear r0 r1 r2 hw5
      clear u
      have k0 := hx.cell Q0.out
      have k1 := hx.cell Q1.out
      have f0 := hx.free (cell_lt Q0.out) FF0.out
      have f1 := hx.free (cell_lt Q0.out) FF1.out
      have HF : Hid (DAft F w xb rb T (I.set j 1) (P.set j (n, a)) ((w5.setCell ⟨g2, j * 2, none⟩ (.int .i64 n)).setCell ⟨g2, j * 2 + 1, none⟩ (.int .i64 a))) := Lib.hid (by
        have D5 := D2.out.ext hx
        obtain ⟨d3, fg2⟩ := D5.setP (pv := .slice (some ⟨g2, 0, none⟩) m cap2) (hx.cell P2.out) (g := g2) (k := j) rfl (by rw [HPM.out]; exact HJM.out) n a
        have hmv : Mv (fun b => F b ∧ b < pb) wr ((w5.setCell ⟨g2, j * 2, none⟩ (.int .i64 n)).setCell ⟨g2, j * 2 + 1, none⟩ (.int .i64 a)) := ((M2.out.ext hx).setCell (p := ⟨g2, j * 2, none⟩) (fun _ => fg2) _).setCell (p := ⟨g2, j * 2 + 1, none⟩) (fun _ => fg2) _
        exact HD.out.aft (d3.wide fun b hb => hb.1) ((Mv.ofExt X1.out).trans (hmv.imp fun x _ hx => hx.1)))
      clear hx
      go_wp2_with fail
      go_ret2
      exact ⟨by rw [HJE.out]; rfl, by rw [← HJE.out]; exact HF.out⟩
set_option maxHeartbeats 4000000 in
set_option maxRecDepth 100000 in
theorem dHold_add (h : DocOn w F xb rb T I P) (hl : I.length ≤ 100000) (n a : Int) (hno : ∀ x ∈ I, x ≠ 0) (hM : ∀ W, Ext w W → Calls Tryz.prog 102 #[.pointer (some ⟨rb, 0, none⟩), pl n a] W (RVal (.bool true) W)) :
    Calls Tryz.prog 40 #[.pointer (some ⟨xb, 0, none⟩), pl n a] w (DTwoAft F w xb rb I.length 0 T (I ++ [1]) (P ++ [(n, a)])) := by
  have xa := (Ext.refl w).alloc (.cells #[.int .i64 n, .int .i64 a] 43)
  have hba := heap_alloc_new w (.cells #[.int .i64 n, .int .i64 a] 43)
  obtain ⟨wa, hwa⟩ : ∃ W : World, W = w.alloc (.cells #[.int .i64 n, .int .i64 a] 43) := ⟨_, rfl⟩
  rw [← hwa] at xa hba
  obtain ⟨pb, hpb⟩ : ∃ b, w.heap.size = b := ⟨_, rfl⟩
  have hd1 := h.lt
  rw [hpb] at hba hd1
  have HD := Lib.hid h
  have HD1 := Lib.hid hd1
  have XA := Lib.hid xa
  have HWA := Lib.hid hwa
  have HPB := Lib.hid hpb
  have HBA := Lib.hid hba
  have HNO := Lib.hid hno
  have HMY := Lib.hid (fun (u : ExtOf wa) => inExt (u := u) (hM u.val (xa.trans u.ext)))
  obtain ⟨m, hm⟩ : ∃ m, I.length = m := ⟨_, rfl⟩
  have hpm : P.length = m := by rw [h.len, hm]
  have HM := Lib.hid hm
  have HPM := Lib.hid hpm
  have HL := Lib.hid hl
  rw [hm] at hl ⊢
  clear hM xa hwa hpb hba h hd1 hno hm hpm
  go_enter Tryz.func40, Tryz.ntmps40
  go_upto_region 1 with fail
  rw [← HWA.out, HPB.out]
  have r0 : ∀ u : ExtOf wa, u.val.cell? ⟨xb, 0, none⟩ = some (.pointer (some ⟨rb, 0, none⟩)) := fun u => (XA.out.trans u.ext).cell HD.out.ptr_
  have r1 : ∀ u : ExtOf wa, u.val.cell? ⟨pb, 0, none⟩ = some (.int .i64 n) := fun u => u.ext.cell (cellOf HBA.out rfl)
  have r2 : ∀ u : ExtOf wa, u.val.cell? ⟨pb, 1, none⟩ = some (.int .i64 a) := fun u => u.ext.cell (cellOf HBA.out rfl)
  refine wp_region_ext (by kernel_rfl) (by kernel_rfl) ?_
  repeat (go_big_quiet_step ((go_at_call 102; exact HMY.out _)))
  refine wpQuiet_nil ?_
  rintro _ ⟨u, rfl⟩
  have hx := u.ext
  obtain ⟨w1, hw1⟩ : ∃ W, u.val = W := ⟨_, rfl⟩
  rw [hw1] at hx ⊢
  clear r0 r1 r2 hw1
  clear u
  have X1 := Lib.hid (XA.out.trans hx)
  have HB1 := Lib.hid (hx.block HBA.out)
  have D1 := Lib.hid (HD1.out.ext (XA.out.trans hx))
  clear hx HMY
  go_wp2_with fail
  go_loopw [6] (fun iv wr => ∃ j : Nat, j ≤ m ∧ iv = .int .i64 j ∧ wr = w1) (fun iv _ => m - (intOf iv).toNat)
  case atStart => exact ⟨0, Nat.zero_le _, rfl, rfl⟩
  case round =>
    obtain ⟨j, hji, rfl, rfl⟩ := hrel
    by_cases hjm : j < m
    · obtain ⟨x, hx⟩ : ∃ x, I[j]? = some x := ⟨_, List.getElem?_eq_getElem (by rw [HM.out]; exact hjm)⟩
      obtain ⟨g1, cap1, p1, q1, f1⟩ := D1.out.isFree hx
      rw [HM.out] at p1
      have e0 : decide ((j : Int) < (m : Int)) = true := decide_eq_true (by omega)
      have e0n : decide (j < m) = true := decide_eq_true hjm
      have j0 : (0 : Int) ≤ (j : Int) := by omega
      have j1 : (j : Int) < (m : Int) := by omega
      have jtn : (j : Int).toNat = j := by omega
      have HJM := Lib.hid hjm
      have ex : (x == 0) = false := beq_eq_false_iff_ne.2 (HNO.out x (List.mem_of_getElem? hx))
      clear hx hji hjm f1
      go_wp2_with fail
      go_roundw
      case rel => exact ⟨j + 1, by have := HJM.out; omega, by go_num, trivial⟩
      case measure => have := HJM.out; simp [intOf]; omega
    · have e0 : decide ((j : Int) < (m : Int)) = false := decide_eq_false (by omega)
      have e0n : decide (j < m) = false := decide_eq_false hjm
      obtain ⟨ao1, cap1, p1, -⟩ := D1.out.isAt
      obtain ⟨iv, pv, a1, c1, wA, a2, c2, wD, q1, q2, hrun1, b1, b2, mB, hrun2, b3, mD, hfin⟩ := D1.out.push HL.out n a
      have hb2 := mB.block HB1.out (fun h => absurd h.2 (Nat.lt_irrefl _))
      have hb3 := mD.block HB1.out (fun h => absurd h.2 (Nat.lt_irrefl _))
      have hiv : iv = .slice ao1 I.length cap1 := by
        rw [q1] at p1
        exact Option.some.inj p1
      subst hiv
      rw [HM.out] at p1 hrun1 b1 b2 hb2 hrun2 b3
      rw [HPM.out] at hrun2 hfin
      clear q1 q2 mB mD hji hjm
      have HRUN1 := Lib.hid hrun1
      have HRUN2 := Lib.hid hrun2
      have HF := Lib.hid hfin
      have B2 := Lib.hid b2
      have B3 := Lib.hid b3
      have PB2 := Lib.hid hb2
      have PB3 := Lib.hid hb3
      clear hrun1 hrun2 hfin b2 b3 hb2 hb3
      have cB := cellOf b1 (i := 1) rfl
      have fB := freeOf b1 1
      clear b1
      go_upto_region 11 with (at_builtin; refine wpList_append_runL _ rfl _ _ 40 rfl _ _ rfl rfl _ _ HRUN1.out ?_)
      clear p1 cB fB
      refine wp_region_E (S := fun w' => w'.cell? ⟨xb, 2, none⟩ = some pv ∧ w'.cell? ⟨pb, 0, none⟩ = some (.int .i64 n) ∧ w'.cell? ⟨pb, 1, none⟩ = some (.int .i64 a)) (n := 10) (by kernel_rfl) ?_
      obtain ⟨wB, hwB⟩ : ∃ W, (wA.setCell ⟨xb, 1, none⟩ (.slice a1 (m + 1) c1)).drew = W := ⟨_, rfl⟩
      rw [hwB] at HRUN2 B2 PB2
      rw [hwB]
      clear hwB
      have hS : wB.cell? ⟨xb, 2, none⟩ = some pv ∧ wB.cell? ⟨pb, 0, none⟩ = some (.int .i64 n) ∧ wB.cell? ⟨pb, 1, none⟩ = some (.int .i64 a) := ⟨cellOf B2.out (i := 2) rfl, cellOf PB2.out (i := 0) rfl, cellOf PB2.out (i := 1) rfl⟩
      have hS3 : wD.cell? ⟨xb, 2, none⟩ = some pv ∧ wD.cell? ⟨pb, 0, none⟩ = some (.int .i64 n) ∧ wD.cell? ⟨pb, 1, none⟩ = some (.int .i64 a) := ⟨cellOf B3.out (i := 2) rfl, cellOf PB3.out (i := 0) rfl, cellOf PB3.out (i := 1) rfl⟩
      have HS3 := Lib.hid hS3
      clear hS3
      show wpE _ _ _ _ _ 10 11 (Array.replicate 11 false) _ _
      refine wpE_take (i := 0) (v := .pointer (some ⟨xb, 0, none⟩)) (o := { dst := some 54, op := _, type := _, pos := _, after := _, guard := none }) rfl (by kernel_rfl) (by kernel_rfl) (by kernel_rfl) (by kernel_rfl) (fun _ _ _ h => h) (Or.inl ⟨by rfl, fun w' hSw => ?_⟩) hS ?_
      · (obtain ⟨s1, s2, s3⟩ := hSw; clear hS; go_simp)
      try simp only [Act.put, List.setIfInBounds_toArray, List.set_cons_zero, List.set_cons_succ]
      refine wpE_take (i := 1) (v := .pointer (some ⟨xb, 0, none⟩)) (o := { dst := some 55, op := _, type := _, pos := _, after := _, guard := none }) rfl (by kernel_rfl) (by kernel_rfl) (by kernel_rfl) (by kernel_rfl) (fun _ _ _ h => h) (Or.inl ⟨by rfl, fun w' hSw => ?_⟩) hS ?_
      · (obtain ⟨s1, s2, s3⟩ := hSw; clear hS; go_simp)
      try simp only [Act.put, List.setIfInBounds_toArray, List.set_cons_zero, List.set_cons_succ]
      refine wpE_take (i := 2) (v := .pointer (some ⟨xb, 0, none⟩)) (o := { dst := some 56, op := _, type := _, pos := _, after := _, guard := none }) rfl (by kernel_rfl) (by kernel_rfl) (by kernel_rfl) (by kernel_rfl) (fun _ _ _ h => h) (Or.inl ⟨by rfl, fun w' hSw => ?_⟩) hS ?_
      · (obtain ⟨s1, s2, s3⟩ := hSw; clear hS; go_simp)
      try simp only [Act.put, List.setIfInBounds_toArray, List.set_cons_zero, List.set_cons_succ]
      refine wpE_take (i := 3) (v := .pointer (some ⟨xb, 2, none⟩)) (o := { dst := some 57, op := _, type := _, pos := _, after := _, guard := none }) rfl (by kernel_rfl) (by kernel_rfl) (by kernel_rfl) (by kernel_rfl) (fun _ _ _ h => h) (Or.inl ⟨by rfl, fun w' hSw => ?_⟩) hS ?_
      · (obtain ⟨s1, s2, s3⟩ := hSw; clear hS; go_simp)
      try simp only [Act.put, List.setIfInBounds_toArray, List.set_cons_zero, List.set_cons_succ]
      refine wpE_take (i := 4) (v := pv) (o := { dst := some 58, op := _, type := _, pos := _, after := _, guard := none }) rfl (by kernel_rfl) (by kernel_rfl) (by kernel_rfl) (by kernel_rfl) (fun _ _ _ h => h) (Or.inl ⟨by rfl, fun w' hSw => ?_⟩) hS ?_
      · (obtain ⟨s1, s2, s3⟩ := hSw; clear hS; go_simp)
      try simp only [Act.put, List.setIfInBounds_toArray, List.set_cons_zero, List.set_cons_succ]
      refine wpE_take (i := 5) (v := .agg #[.int .i64 n, .int .i64 a]) (o := { dst := some 59, op := _, type := _, pos := _, after := _, guard := none }) rfl (by kernel_rfl) (by kernel_rfl) (by kernel_rfl) (by kernel_rfl) (fun _ _ _ h => h) (Or.inl ⟨by rfl, fun w' hSw => ?_⟩) hS ?_
      · (obtain ⟨s1, s2, s3⟩ := hSw; clear hS; go_simp)
      try simp only [Act.put, List.setIfInBounds_toArray, List.set_cons_zero, List.set_cons_succ]
      refine wpE_one (i := 6) (o := { dst := some 60, op := _, type := _, pos := _, after := _, guard := none }) (by kernel_rfl) rfl (fun K hK => ?_)
      go_simp
      refine hK.out _ _ (.inr ⟨((Ext.refl wB).alloc (.cells #[.int .i64 n, .int .i64 a] 43)).cell hS.1, ((Ext.refl wB).alloc (.cells #[.int .i64 n, .int .i64 a] 43)).cell hS.2.1, ((Ext.refl wB).alloc (.cells #[.int .i64 n, .int .i64 a] 43)).cell hS.2.2⟩) ?_
      clear hK K
      try simp only [Act.put, List.setIfInBounds_toArray, List.set_cons_zero, List.set_cons_succ]
      refine wpE_one (i := 7) (o := { dst := some 61, op := _, type := _, pos := _, after := _, guard := none }) (by kernel_rfl) rfl (fun K hK => ?_)
      refine step_append_run (by rfl) _ _ 74 (by rfl) pv (.slice (some ⟨wB.heap.size, 0, none⟩) 1 1) (by rfl) (by rfl) (.slice a2 (m + 1) c2) wD HRUN2.out ?_
      refine hK.out _ _ (.inr HS3.out) ?_
      clear hK K
      try simp only [Act.put, List.setIfInBounds_toArray, List.set_cons_zero, List.set_cons_succ]
      refine wpE_one (i := 8) (o := { dst := some 62, op := _, type := _, pos := _, after := _, guard := none }) (by kernel_rfl) rfl (fun K hK => ?_)
      go_simp
      refine hK.out _ _ (.inr HS3.out) ?_
      clear hK K
      try simp only [Act.put, List.setIfInBounds_toArray, List.set_cons_zero, List.set_cons_succ]
      refine wpE_one (i := 9) (o := { dst := some 63, op := _, type := _, pos := _, after := _, guard := none }) (by kernel_rfl) rfl (fun K hK => ?_)
      go_simp
      refine hK.out _ _ (.inr HS3.out) ?_
      clear hK K
      try simp only [Act.put, List.setIfInBounds_toArray, List.set_cons_zero, List.set_cons_succ]
      have cD := HS3.out.1
      have fD := freeOf B3.out 2
      refine wpE_one (i := 10) (o := { dst := none, op := _, type := _, pos := _, after := _, guard := none }) (by kernel_rfl) rfl (fun K hK => ?_)
      go_simp
      refine hK.out _ _ (.inl rfl) ?_
      clear hK K
      refine wpE_done (by kernel_rfl) ?_
      have HF2 : Hid (DAft F w xb rb T (I ++ [1]) (P ++ [(n, a)]) (wD.setCell ⟨xb, 2, none⟩ (.slice a2 (m + 1) c2))) := Lib.hid ((DAft.after X1.out HF.out).imp fun b hb => hb.1)
      clear cD fD hS
      obtain ⟨wE, hwE⟩ : ∃ W, wD.setCell ⟨xb, 2, none⟩ (.slice a2 (m + 1) c2) = W := ⟨_, rfl⟩
      rw [hwE] at HF2 ⊢
      clear hwE
      obtain ⟨ao3, cap3, p3, -⟩ := HF2.out.on.isAt
      rw [List.length_append, HM.out] at p3
      replace p3 : wE.cell? ⟨xb, 1, none⟩ = some (.slice ao3 (m + 1) cap3) := p3
      go_wp2_with fail
      go_ret2
      exact ⟨by first | rfl | (congr; omega), HF2.out⟩
end
end Go.Proofs.YthgnbbbdcebjhaaGreat

namespace Go.Proofs.YthgnbbbdcebjhaaGreat
open Go Go.RowKit Go.BigFrame
set_option linter.unusedVariables false
set_option linter.unusedSimpArgs false

section
variable {P : Program} {ops : Array Oper} {Q : Exit → Act → World → Prop} {md : Region.Mode} {S : World → Prop} {n : Nat}
end
/-- what of a copy is made so far -/
structure CSt (w0 w : World) (T : Tr) (I : List Int) (P : List (Int × Int)) (c : Option Nat) (i p : Option Value) : Prop where
  ext : Ext w0 w
  out : ∃ (F2 : Nat → Prop) (ib pb : Option Nat), (∀ b, F2 b → w0.heap.size ≤ b ∧ b < w.heap.size ∧ ib ≠ some b ∧ pb ≠ some b) ∧ (∀ g, ib = some g → w0.heap.size ≤ g ∧ g < w.heap.size ∧ pb ≠ some g) ∧ (∀ g, pb = some g → w0.heap.size ≤ g ∧ g < w.heap.size) ∧
    (c = none → ∀ b, ¬ F2 b) ∧ (i = none → ib = none) ∧ (p = none → pb = none) ∧
    (∀ rb, c = some rb → RefOn w F2 rb T) ∧ (∀ v, i = some v → RowP w (fun g => ib = some g) 3 1 v I.length (I.map (Value.int .i64))) ∧ (∀ v, p = some v → RowP w (fun g => pb = some g) 43 2 v P.length (plC P))
section
variable {w0 w w2 : World} {T : Tr} {I : List Int} {P : List (Int × Int)} {c : Option Nat} {i p : Option Value}
theorem CSt.start (x : Ext w0 w) : CSt w0 w T I P none none none := ⟨x, fun _ => False, none, none, fun b h => h.elim, (fun g h => by cases h), (fun g h => by cases h), fun _ b h => h, fun _ => rfl, fun _ => rfl, (fun _ h => by cases h), (fun _ h => by cases h), (fun _ h => by cases h)⟩
theorem CSt.grow (h : CSt w0 w T I P c i p) (x : Ext w w2) : CSt w0 w2 T I P c i p := by
  obtain ⟨F2, ib, pb, h1, h2, h3, h4, h5, h6, h7, h8, h9⟩ := h.out
  have hs := x.size
  exact ⟨h.ext.trans x, F2, ib, pb, fun b hb => ⟨(h1 b hb).1, by have := (h1 b hb).2.1; omega, (h1 b hb).2.2⟩, fun g hg => ⟨(h2 g hg).1, by have := (h2 g hg).2.1; omega, (h2 g hg).2.2⟩, fun g hg => ⟨(h3 g hg).1, by have := (h3 g hg).2; omega⟩, h4, h5, h6, fun rb hr => (h7 rb hr).ext x, fun v hv => RowP.ext (h8 v hv) x, fun v hv => RowP.ext (h9 v hv) x⟩
end
section
variable {w : World} {F : Nat → Prop} {xb rb : Nat} {T : Tr} {I : List Int} {P : List (Int × Int)}
theorem DocOn.rows (h : DocOn w F xb rb T I P) : ∃ iv pv, w.cell? ⟨xb, 1, none⟩ = some iv ∧ w.cell? ⟨xb, 2, none⟩ = some pv ∧ RowRd w 1 iv I.length (I.map (Value.int .i64)) ∧ RowRd w 2 pv P.length (plC P) := by
  obtain ⟨F0, iv, pv, ib, pb, h1, h2, h3, h4, h5, h6, h7⟩ := h.out
  exact ⟨iv, pv, cellOf h3 rfl, cellOf h3 rfl, h4.rd, h6.rd⟩
end
end Go.Proofs.YthgnbbbdcebjhaaGreat

namespace Go.Proofs.YthgnbbbdcebjhaaGreat
open Go Go.RowKit Go.BigFrame
set_option linter.unusedVariables false
set_option linter.unusedSimpArgs false

section
variable {w : World} {F : Nat → Prop} {xb rb : Nat} {T : Tr} {I : List Int} {P : List (Int × Int)}
set_option maxHeartbeats 1000000 in
theorem dReplace_none (h : DocOn w F xb rb T I P) (id a c : Int) (s : ByteArray) (hg : T.get? id = none) :
    Calls Tryz.prog 44 #[.pointer (some ⟨xb, 0, none⟩), .int .i64 id, .int .i64 a, .int .i64 c, .string s] w (DErr F w xb rb 2 T I P) := by
  have HHAS := Lib.hid (rHas_no h.ref hg)
  have HF := Lib.hid (DAft.refl h)
  have c0 := h.ptr_
  clear h hg
  go_enter Tryz.func44, Tryz.ntmps44
  go_wp2_with (go_at_call 91; refine HHAS.out.mono ?_; rintro e w' ⟨rfl, rfl⟩)
  go_ret
  exact ⟨rfl, HF.out⟩
set_option maxHeartbeats 1000000 in
theorem dReplace_kind (h : DocOn w F xb rb T I P) (id a c : Int) (s : ByteArray) {nd : Nd} (hg : T.get? id = some nd) (ht : nd.tag ≠ 0) :
    Calls Tryz.prog 44 #[.pointer (some ⟨xb, 0, none⟩), .int .i64 id, .int .i64 a, .int .i64 c, .string s] w (DErr F w xb rb 6 T I P) := by
  have HHAS := Lib.hid (rHas_yes h.ref hg)
  have HF := Lib.hid (DAft.refl h)
  have c0 := h.ptr_
  obtain ⟨i, rfl, hi, hil⟩ := nodes_some hg
  obtain ⟨g, cap, aa, ac, ka, kc, cc, k0, k1, k2, k3, k4, k5, _⟩ := h.ref.one hi
  replace k1 : w.cell? ⟨g, i * 6 + 1, none⟩ = some (.int .i64 nd.tag) := k1
  have i0 : (0 : Int) ≤ (i : Int) := by omega
  have i1 : (i : Int) < (T.nodes.length : Int) := by omega
  have itn : (i : Int).toNat = i := by omega
  obtain ⟨t, hte⟩ : ∃ t, nd.tag = t := ⟨_, rfl⟩
  rw [hte] at ht k1
  have e0 : (t == 0) = false := beq_eq_false_iff_ne.2 ht
  clear h hg ht hte hi k0 k2 k3 k4 k5
  go_enter Tryz.func44, Tryz.ntmps44
  go_wp2_with (go_at_call 91; refine HHAS.out.mono ?_; rintro e w' ⟨rfl, rfl⟩)
  go_ret
  exact ⟨rfl, HF.out⟩
set_option maxHeartbeats 2000000 in
set_option maxRecDepth 100000 in
theorem dReplace_arg (h : DocOn w F xb rb T I P) (hA : AttrsOk T) (id a c : Int) (s : ByteArray) {nd : Nd} (hg : T.get? id = some nd) (ht : nd.tag = 0) (hac : a < 0 ∨ (runes nd.text : Int) < a ∨ c < 0) :
    Calls Tryz.prog 44 #[.pointer (some ⟨xb, 0, none⟩), .int .i64 id, .int .i64 a, .int .i64 c, .string s] w (DErr F w xb rb 1 T I P) := by
  have HHAS := Lib.hid (rHas_yes h.ref hg)
  have c0 := h.ptr_
  obtain ⟨i, rfl, hi, hil⟩ := nodes_some hg
  obtain ⟨g0, cap, aa, ac, ka, kc, cc, k0, k1, k2, k3, k4, k5, _⟩ := h.ref.one hi
  replace k1 : w.cell? ⟨g0, i * 6 + 1, none⟩ = some (.int .i64 nd.tag) := k1
  rw [ht] at k1
  replace k4 : w.cell? ⟨g0, i * 6 + 4, none⟩ = some (.string nd.text) := k4
  have i0 : (0 : Int) ≤ (i : Int) := by omega
  have i1 : (i : Int) < (T.nodes.length : Int) := by omega
  have itn : (i : Int).toNat = i := by omega
  have hL8 : runes nd.text ≤ 8192 := Nat.le_trans (runes_le _) (hA _ nd hi).2
  have htz : nd.text.size ≤ 1000000 := by have := (hA _ nd hi).2; omega
  obtain ⟨tx, htx⟩ : ∃ x, nd.text = x := ⟨_, rfl⟩
  rw [htx] at k4 hL8 htz hac
  have HF := Lib.hid (DAft.refl h)
  have HTZ := Lib.hid htz
  obtain ⟨L, hLn⟩ : ∃ L, runes tx = L := ⟨_, rfl⟩
  rw [hLn] at hL8 hac
  have HLN := Lib.hid hLn
  have HAC := Lib.hid hac
  clear h hA hg ht htx hLn htz hi k0 k2 k3 k5 hac
  go_enter Tryz.func44, Tryz.ntmps44
  go_wp2_with (go_at_call 91; refine HHAS.out.mono ?_; rintro e w' ⟨rfl, rfl⟩)
  go_wp2_with fail
  obtain ⟨K1, C1, hcv, hK1, hC1⟩ := run_toRunes tx HTZ.out w
  have hll : (runeList tx tx.size 0).length = L := HLN.out
  rw [hll] at hcv hK1
  rw [hcv]
  have x2 := Lib.hid (((Ext.refl w).drew.alloc (.cells C1 21)))
  have HF2 : Hid (DAft F w xb rb T I P (w.drew.alloc (.cells C1 21))) := Lib.hid (HF.out.ext x2.out)
  clear hcv hC1 k1 k4 c0
  by_cases h1 : a < 0
  · have e1 : decide (a < 0) = true := decide_eq_true h1
    clear h1
    go_wp2_with fail
    go_ret
    exact ⟨rfl, HF2.out⟩
  · by_cases h2 : (L : Int) < a
    · have e1 : decide (a < 0) = false := decide_eq_false h1
      have e2 : decide ((L : Int) < a) = true := decide_eq_true h2
      clear h1 h2
      go_wp2_with fail
      go_ret
      exact ⟨rfl, HF2.out⟩
    · have h3 : c < 0 := by have := HAC.out; omega
      have e1 : decide (a < 0) = false := decide_eq_false h1
      have e2 : decide ((L : Int) < a) = false := decide_eq_false h2
      have e3 : decide (c < 0) = true := decide_eq_true h3
      clear h1 h2 h3
      go_wp2_with fail
      go_ret
      exact ⟨rfl, HF2.out⟩
set_option maxHeartbeats 4000000 in
set_option maxRecDepth 100000 in
theorem dReplace (h : DocOn w F xb rb T I P) (hl : I.length ≤ 100000) (hA : AttrsOk T) (id : Int) {nd : Nd} (hg : T.get? id = some nd) (ht : nd.tag = 0) (a c : Nat) (ha : a ≤ runes nd.text) (s : ByteArray) (hs : s.size ≤ 100000)
    {c' : Nat} (hcc : min c (runes nd.text - a) = c') {er : Int} {T' : Tr}
    (hd : ∀ F0 W, Ext w W → RefOn W F0 rb T → Calls Tryz.prog 139 #[.pointer (some ⟨rb, 0, none⟩), .int .i64 1, .int .i64 id, .int .i64 0, .string (replT nd.text a c' s), .slice none 0 0] W (RErr F0 W rb er T'))
    (hP : er = 0 → okI id ∧ okPl P) :
    Calls Tryz.prog 44 #[.pointer (some ⟨xb, 0, none⟩), .int .i64 id, .int .i64 (a : Int), .int .i64 (c : Int), .string s] w (DErr F w xb rb er T' I (movedD er (repP id a c' (runes s)) I P)) := by
  have HHAS := Lib.hid (rHas_yes h.ref hg)
  have c0 := h.ptr_
  obtain ⟨i, rfl, hi, hil⟩ := nodes_some hg
  obtain ⟨g0, cap, aa, ac, ka, kc, cc, k0, k1, k2, k3, k4, k5, _⟩ := h.ref.one hi
  replace k1 : w.cell? ⟨g0, i * 6 + 1, none⟩ = some (.int .i64 nd.tag) := k1
  rw [ht] at k1
  replace k4 : w.cell? ⟨g0, i * 6 + 4, none⟩ = some (.string nd.text) := k4
  have i0 : (0 : Int) ≤ (i : Int) := by omega
  have i1 : (i : Int) < (T.nodes.length : Int) := by omega
  have itn : (i : Int).toNat = i := by omega
  have hL8 : runes nd.text ≤ 8192 := Nat.le_trans (runes_le _) (hA _ nd hi).2
  have htz : nd.text.size ≤ 1000000 := by have := (hA _ nd hi).2; omega
  obtain ⟨tx, htx⟩ : ∃ x, nd.text = x := ⟨_, rfl⟩
  rw [htx] at k4 hL8 htz ha hcc hd
  have HTZ := Lib.hid htz
  obtain ⟨L, hLn⟩ : ∃ L, runes tx = L := ⟨_, rfl⟩
  rw [hLn] at hL8 ha hcc
  have HLN := Lib.hid hLn
  have HD := Lib.hid h
  have HG := Lib.hid hd
  have HPP := Lib.hid hP
  have HL := Lib.hid hl
  have HS := Lib.hid hs
  have HCC := Lib.hid hcc
  have HAL := Lib.hid ha
  have hac : a + c' ≤ L := by omega
  have e1 : decide ((a : Int) < 0) = false := decide_eq_false (by omega)
  have e2 : decide ((L : Int) < (a : Int)) = false := decide_eq_false (by omega)
  have e2n : decide (L < a) = false := decide_eq_false (by omega)
  have e3 : decide ((c : Int) < 0) = false := decide_eq_false (by omega)
  have e4 : IntKind.i64.wrap ((L : Int) - (a : Int)) = ((L - a : Nat) : Int) := by rw [IntWalk.i64_in _ (by omega)]; omega
  clear h hA hg ht hd hP hl hs htx hLn htz hi k0 k2 k3 k5 hcc
  go_enter Tryz.func44, Tryz.ntmps44
  go_wp2_with (go_at_call 91; refine HHAS.out.mono ?_; rintro e w' ⟨rfl, rfl⟩)
  go_wp2_with fail
  obtain ⟨K1, C1, hcv, hK1, hC1⟩ := run_toRunes tx HTZ.out w
  have hll : (runeList tx tx.size 0).length = L := HLN.out
  rw [hll] at hcv hK1
  rw [hcv]
  clear hcv
  have x2 : Ext w (w.drew.alloc (.cells C1 21)) := ((Ext.refl w).drew.alloc _)
  have hb2 : (w.drew.alloc (.cells C1 21)).heap[w.heap.size]? = some (.cells C1 21 (0, 0)) := heap_alloc_new w.drew _
  obtain ⟨g, hg⟩ : ∃ g, w.heap.size = g := ⟨_, rfl⟩
  rw [hg] at hb2 ⊢
  obtain ⟨w2, hw2⟩ : ∃ W : World, W = w.drew.alloc (.cells C1 21) := ⟨_, rfl⟩
  rw [← hw2] at x2 hb2
  try rw [← hw2]
  have HW2 := Lib.hid hw2
  have X2 := Lib.hid x2
  have HB2 := Lib.hid hb2
  have HC1 := Lib.hid hC1
  have HLL := Lib.hid hll
  have HK1 := Lib.hid hK1
  clear x2 hb2 hC1 hll hK1 c0 k1 k4 hg hw2
  by_cases hgt : L - a < c
  · have hce : c' = L - a := by have := HCC.out; omega
    have e4' : IntKind.i64.wrap ((L : Int) - (a : Int)) = (c' : Int) := by rw [e4, hce]
    have e5 : decide ((c' : Int) < (c : Int)) = true := decide_eq_true (by omega)
    have e5n : decide (c' < c) = true := decide_eq_true (by omega)
    clear hgt hce e4
    have e4 := e4'
    clear e4'
    go_upto_region 10 with fail
    try rw [← HW2.out]
    clear e1 e2 e2n e3 e4 e5 e5n
    obtain ⟨l, hle⟩ : ∃ l, runeList tx tx.size 0 = l := ⟨_, rfl⟩
    have hll := HLL.out
    rw [hle] at hll
    have HA : Hid (runesBytes (l.take a) ++ s ++ runesBytes (l.drop (a + c')) = replT tx a c' s) := Lib.hid (by unfold replT; rw [hle])
    have hcell : ∀ u : ExtOf w2, ∀ j z, l[j]? = some z → u.val.cell? ⟨g, j, none⟩ = some (.int .i32 z) := fun u j z hj => u.ext.cell (cellOf HB2.out (HC1.out j z (by rw [hle]; exact hj)))
    have v1 : ∀ u : ExtOf w2, (convert 115 9 (.slice (some ⟨g, 0, none⟩) a K1)).run Tryz.prog u.val = .ok (.string (runesBytes (l.take a))) u.val := fun u =>
      run_convert_runes u.val 115 9 21 ⟨g, 0, none⟩ a K1 l (by have := HAL.out; omega) Tryz.underlying115 Tryz.underlying21 Tryz.underlying9 (fun j hj => by
        rw [Addr.add_lit, Nat.zero_add]
        exact hcell u j _ (by rw [List.getD_eq_getElem?_getD, List.getElem?_eq_getElem hj]; rfl))
    have v2 : ∀ u : ExtOf w2, (convert 115 9 (.slice (if K1 = a + c' then some ⟨g, 0, none⟩ else some ⟨g, a + c', none⟩) (L - (a + c')) (K1 - (a + c')))).run Tryz.prog u.val = .ok (.string (runesBytes (l.drop (a + c')))) u.val := fun u => by
      by_cases hk : K1 = a + c'
      · rw [if_pos hk]
        have hk1 := HK1.out
        have hz : L - (a + c') = 0 := by omega
        have hd : l.drop (a + c') = [] := List.drop_eq_nil_of_le (by omega)
        rw [hz, hd]
        have h9 := run_convert_runes (P := Tryz.prog) u.val 115 9 21 ⟨g, 0, none⟩ 0 (K1 - (a + c')) [] (Nat.le_refl _) Tryz.underlying115 Tryz.underlying21 Tryz.underlying9 (fun j hj => by cases hj)
        exact h9
      · rw [if_neg hk]
        have h9 := run_convert_runes (P := Tryz.prog) u.val 115 9 21 ⟨g, a + c', none⟩ (L - (a + c')) (K1 - (a + c')) (l.drop (a + c')) (by rw [List.length_drop]; omega) Tryz.underlying115 Tryz.underlying21 Tryz.underlying9 (fun j hj => by
          rw [Addr.add_lit]
          exact hcell u (a + c' + j) _ (by rw [List.length_drop] at hj; rw [List.getD_eq_getElem?_getD, List.getElem?_drop, List.getElem?_eq_getElem (by omega)]; rfl))
        rw [List.take_of_length_le (by rw [List.length_drop]; omega)] at h9
        exact h9
    obtain ⟨A, hAe⟩ : ∃ A, runesBytes (l.take a) = A := ⟨_, rfl⟩
    obtain ⟨B, hBe⟩ : ∃ B, runesBytes (l.drop (a + c')) = B := ⟨_, rfl⟩
    have hAz : A.size ≤ 4 * L := by have h9 := runesBytes_size_le (l.take a); rw [hAe, List.length_take] at h9; omega
    have hBz : B.size ≤ 4 * L := by have h9 := runesBytes_size_le (l.drop (a + c')); rw [hBe, List.length_drop] at h9; omega
    rw [hAe, hBe] at HA
    simp only [hAe] at v1
    simp only [hBe] at v2
    have hsz := HS.out
    have z1 : A.size + s.size ≤ 9223372036854775807 := by omega
    have z2 : A.size + s.size + B.size ≤ 9223372036854775807 := by omega
    have z3 : (A ++ s).size + B.size ≤ 9223372036854775807 := by rw [ByteArray.size_append]; omega
    clear hAe hBe hAz hBz hsz
    have b0 : (0 : Int) ≤ (a : Int) := by omega
    have hk1 := HK1.out
    have b1 : (a : Int) ≤ (K1 : Int) := by omega
    have b2 : IntKind.i64.wrap ((a : Int) + (c' : Int)) = ((a + c' : Nat) : Int) := by rw [IntWalk.i64_in _ (by omega)]; push_cast; rfl
    have b3 : (0 : Int) ≤ ((a + c' : Nat) : Int) := by omega
    have b4 : ((a + c' : Nat) : Int) ≤ (L : Int) := by omega
    have b5 : (L : Int) ≤ (K1 : Int) := by omega
    have b6 : a ≤ K1 := by omega
    have b7 : a + c' ≤ L := hac
    have b8 : L ≤ K1 := hk1
    clear hle hcell hll
    refine wp_region_ext (by kernel_rfl) (by kernel_rfl) ?_
    repeat (go_big_quiet_step (fail))
    refine wpQuiet_nil ?_
    rintro _ ⟨u, rfl⟩
    have hx := u.ext
    obtain ⟨w5, hw5⟩ : ∃ W, u.val = W := ⟨_, rfl⟩
    rw [hw5] at hx ⊢
    clear v1 v2 hw5
    clear u
    have X5 := Lib.hid (X2.out.trans hx)
    clear hx
    have HRE := Lib.hid (dSet (HD.out.ext X5.out) HL.out i (a : Int) (c' : Int) s (A ++ s ++ B) HS.out (er := er) (T' := T') (fun F0 hR => by rw [HA.out]; exact HG.out F0 _ X5.out hR) (by omega) (fun he => ⟨(HPP.out he).1, by unfold okI; omega, by unfold okI; omega, (HPP.out he).2⟩))
    go_wp2_with (go_at_call 100; refine HRE.out.mono ?_; rintro e w6 ⟨rfl, h6⟩; have HF := Lib.hid (DAft.after X5.out h6); clear h6)
    all_goals go_ret
    all_goals exact ⟨rfl, HF.out⟩
  · have hce : c' = c := by have := HCC.out; omega
    subst hce
    have e5 : decide (((L - a : Nat) : Int) < (c' : Int)) = false := decide_eq_false (by omega)
    have e5n : decide (L - a < c') = false := decide_eq_false hgt
    clear hgt
    go_upto_region 10 with fail
    try rw [← HW2.out]
    clear e1 e2 e2n e3 e4 e5 e5n
    obtain ⟨l, hle⟩ : ∃ l, runeList tx tx.size 0 = l := ⟨_, rfl⟩
    have hll := HLL.out
    rw [hle] at hll
    have HA : Hid (runesBytes (l.take a) ++ s ++ runesBytes (l.drop (a + c')) = replT tx a c' s) := Lib.hid (by unfold replT; rw [hle])
    have hcell : ∀ u : ExtOf w2, ∀ j z, l[j]? = some z → u.val.cell? ⟨g, j, none⟩ = some (.int .i32 z) := fun u j z hj => u.ext.cell (cellOf HB2.out (HC1.out j z (by rw [hle]; exact hj)))
    have v1 : ∀ u : ExtOf w2, (convert 115 9 (.slice (some ⟨g, 0, none⟩) a K1)).run Tryz.prog u.val = .ok (.string (runesBytes (l.take a))) u.val := fun u =>
      run_convert_runes u.val 115 9 21 ⟨g, 0, none⟩ a K1 l (by have := HAL.out; omega) Tryz.underlying115 Tryz.underlying21 Tryz.underlying9 (fun j hj => by
        rw [Addr.add_lit, Nat.zero_add]
        exact hcell u j _ (by rw [List.getD_eq_getElem?_getD, List.getElem?_eq_getElem hj]; rfl))
    have v2 : ∀ u : ExtOf w2, (convert 115 9 (.slice (if K1 = a + c' then some ⟨g, 0, none⟩ else some ⟨g, a + c', none⟩) (L - (a + c')) (K1 - (a + c')))).run Tryz.prog u.val = .ok (.string (runesBytes (l.drop (a + c')))) u.val := fun u => by
      by_cases hk : K1 = a + c'
      · rw [if_pos hk]
        have hk1 := HK1.out
        have hz : L - (a + c') = 0 := by omega
        have hd : l.drop (a + c') = [] := List.drop_eq_nil_of_le (by omega)
        rw [hz, hd]
        have h9 := run_convert_runes (P := Tryz.prog) u.val 115 9 21 ⟨g, 0, none⟩ 0 (K1 - (a + c')) [] (Nat.le_refl _) Tryz.underlying115 Tryz.underlying21 Tryz.underlying9 (fun j hj => by cases hj)
        exact h9
      · rw [if_neg hk]
        have h9 := run_convert_runes (P := Tryz.prog) u.val 115 9 21 ⟨g, a + c', none⟩ (L - (a + c')) (K1 - (a + c')) (l.drop (a + c')) (by rw [List.length_drop]; omega) Tryz.underlying115 Tryz.underlying21 Tryz.underlying9 (fun j hj => by
          rw [Addr.add_lit]
          exact hcell u (a + c' + j) _ (by rw [List.length_drop] at hj; rw [List.getD_eq_getElem?_getD, List.getElem?_drop, List.getElem?_eq_getElem (by omega)]; rfl))
        rw [List.take_of_length_le (by rw [List.length_drop]; omega)] at h9
        exact h9
    obtain ⟨A, hAe⟩ : ∃ A, runesBytes (l.take a) = A := ⟨_, rfl⟩
    obtain ⟨B, hBe⟩ : ∃ B, runesBytes (l.drop (a + c')) = B := ⟨_, rfl⟩
    have hAz : A.size ≤ 4 * L := by have h9 := runesBytes_size_le (l.take a); rw [hAe, List.length_take] at h9; omega
    have hBz : B.size ≤ 4 * L := by have h9 := runesBytes_size_le (l.drop (a + c')); rw [hBe, List.length_drop] at h9; omega
    rw [hAe, hBe] at HA
    simp only [hAe] at v1
    simp only [hBe] at v2
    have hsz := HS.out
    have z1 : A.size + s.size ≤ 9223372036854775807 := by omega
    have z2 : A.size + s.size + B.size ≤ 9223372036854775807 := by omega
    have z3 : (A ++ s).size + B.size ≤ 9223372036854775807 := by rw [ByteArray.size_append]; omega
    clear hAe hBe hAz hBz hsz
    have b0 : (0 : Int) ≤ (a : Int) := by omega
    have hk1 := HK1.out
    have b1 : (a : Int) ≤ (K1 : Int) := by omega
    have b2 : IntKind.i64.wrap ((a : Int) + (c' : Int)) = ((a + c' : Nat) : Int) := by rw [IntWalk.i64_in _ (by omega)]; push_cast; rfl
    have b3 : (0 : Int) ≤ ((a + c' : Nat) : Int) := by omega
    have b4 : ((a + c' : Nat) : Int) ≤ (L : Int) := by omega
    have b5 : (L : Int) ≤ (K1 : Int) := by omega
    have b6 : a ≤ K1 := by omega
    have b7 : a + c' ≤ L := hac
    have b8 : L ≤ K1 := hk1
    clear hle hcell hll
    refine wp_region_ext (by kernel_rfl) (by kernel_rfl) ?_
    repeat (go_big_quiet_step (fail))
    refine wpQuiet_nil ?_
    rintro _ ⟨u, rfl⟩
    have hx := u.ext
    obtain ⟨w5, hw5⟩ : ∃ W, u.val = W := ⟨_, rfl⟩
    rw [hw5] at hx ⊢
    clear v1 v2 hw5
    clear u
    have X5 := Lib.hid (X2.out.trans hx)
    clear hx
    have HRE := Lib.hid (dSet (HD.out.ext X5.out) HL.out i (a : Int) (c' : Int) s (A ++ s ++ B) HS.out (er := er) (T' := T') (fun F0 hR => by rw [HA.out]; exact HG.out F0 _ X5.out hR) (by omega) (fun he => ⟨(HPP.out he).1, by unfold okI; omega, by unfold okI; omega, (HPP.out he).2⟩))
    go_wp2_with (go_at_call 100; refine HRE.out.mono ?_; rintro e w6 ⟨rfl, h6⟩; have HF := Lib.hid (DAft.after X5.out h6); clear h6)
    all_goals go_ret
    all_goals exact ⟨rfl, HF.out⟩
end
end Go.Proofs.YthgnbbbdcebjhaaGreat

namespace Go.Proofs.YthgnbbbdcebjhaaGreat
open Go Go.RowKit Go.BigFrame
set_option linter.unusedVariables false
set_option linter.unusedSimpArgs false

section
variable {T : Tr} {d : Nat → Nat}
theorem WF.pre_self (hw : WF T d) (id : Int) : id ∈ T.pre id := by rw [hw.pre_step]; exact List.mem_cons_self
theorem WF.pre_kid (hw : WF T d) {id k : Int} (hk : k ∈ T.kidsOf id) : ∀ x ∈ T.pre k, x ∈ T.pre id := by
  intro x hx
  rw [hw.pre_step id]
  exact List.mem_cons_of_mem _ (List.mem_flatMap.2 ⟨k, hk, hx⟩)
theorem WF.pre_trans (hw : WF T d) : ∀ o, ∀ y ∈ T.pre o, ∀ x ∈ T.pre y, x ∈ T.pre o := by
  refine hw.rise _ fun o ih y hy x hx => ?_
  rw [hw.pre_step o] at hy
  rcases List.mem_cons.1 hy with rfl | hy
  · exact hx
  · obtain ⟨k, hk, hyk⟩ := List.mem_flatMap.1 hy
    exact hw.pre_kid hk x (ih k hk y hyk x hx)
theorem WF.up_kid (hw : WF T d) {id : Int} (h : 0 ≤ T.up id) : id ∈ T.kidsOf (T.up id) := by
  obtain ⟨j, _, h2, _⟩ := hw.idx_kid h
  exact List.mem_of_getElem? h2
theorem WF.win_pre (hw : WF T d) {o : Int} (ho : ∃ od, T.get? o = some od) : ∀ id, (∃ nd, T.get? id = some nd) → (T.win id o = true ↔ id ∈ T.pre o) := by
  obtain ⟨od, ho⟩ := ho
  intro id hg
  constructor
  · revert hg
    revert id
    refine hw.down _ (fun id h hg hwn => ?_) (fun id h ih hg hwn => ?_)
    · obtain ⟨nd, hg⟩ := hg
      rw [hw.win_step hg, hw.win_none (Tr.get_neg T (show T.up id < 0 by omega)), Bool.or_false, decide_eq_true_eq] at hwn
      rw [hwn]; exact hw.pre_self o
    · obtain ⟨nd, hg⟩ := hg
      rw [hw.win_step hg, Bool.or_eq_true, decide_eq_true_eq] at hwn
      rcases hwn with e | e
      · rw [e]; exact hw.pre_self o
      · exact hw.pre_trans _ _ (ih (hw.up_get h) e) _ (hw.pre_kid (hw.up_kid h) _ (hw.pre_self id))
  · intro hm
    obtain ⟨_, h2, q, h3⟩ := hw.pre_in o ⟨od, ho⟩ id hm
    exact (hw.win_iff ho id hg).2 ⟨q, h3, h2⟩
theorem WF.mem_all (hw : WF T d) {o : Int} {od : Nd} (ho : T.get? o = some od) {n : Int} {nd : Nd} (hn : T.get? n = some nd) : n ∈ T.allOf o ↔ T.win n o = true := by
  unfold Tr.allOf
  rw [ho]
  exact (hw.win_pre ⟨od, ho⟩ n ⟨nd, hn⟩).symm
end
/-- Insert: what is told -/
def InsTold (T T' : Tr) (p at' k er : Int) : Prop := (er ≠ 0 ∧ T' = T) ∨ (er = 0 ∧ ∃ (p' a' k' : Nat) (pd kd : Nd), p = p' ∧ at' = a' ∧ k = k' ∧ T.nodes[p']? = some (some pd) ∧ T.nodes[k']? = some (some kd) ∧ pd.tag ≠ 0 ∧ p' ≠ k' ∧ kd.parent = -1 ∧ a' ≤ pd.kids.length ∧ T' = T.link p' a' k' pd kd)
def RemTold (T T' : Tr) (id er : Int) : Prop := (er ≠ 0 ∧ T' = T) ∨ (er = 0 ∧ ∃ (p' k' : Nat) (pd kd : Nd), id = k' ∧ T.nodes[p']? = some (some pd) ∧ T.nodes[k']? = some (some kd) ∧ kd.parent = (p' : Int) ∧ (k' : Int) ∈ pd.kids ∧ p' ≠ k' ∧ T' = T.unlink p' k' pd kd)
def DropTold (T T' : Tr) (id er : Int) : Prop := (er ≠ 0 ∧ T' = T) ∨ (er = 0 ∧ ∃ (i : Nat) (nd : Nd), id = i ∧ T.nodes[i]? = some (some nd) ∧ nd.parent = -1 ∧ i ≠ 0 ∧ T' = T.rid fun j => T.within j i)
def TextTold (T T' : Tr) (id : Int) (s : ByteArray) (er : Int) : Prop := (er ≠ 0 ∧ T' = T) ∨ (er = 0 ∧ ∃ (i : Nat) (nd : Nd), id = i ∧ T.nodes[i]? = some (some nd) ∧ nd.tag = 0 ∧ T' = T.setAt i { nd with text := anewB s })
def GraftTold (T T' : Tr) (p at' : Int) (n : PN) (er : Int) : Prop := (er ≠ 0 ∧ T' = T) ∨ (er = 0 ∧ ∃ (p' a' m : Nat) (pd kd : Nd), p = p' ∧ at' = a' ∧ T.nodes[p']? = some (some pd) ∧ pd.tag ≠ 0 ∧ a' ≤ pd.kids.length ∧ T.newId = (m : Int) ∧ (PN.into T n).nodes[m]? = some (some kd) ∧ T' = (PN.into T n).link p' a' m pd kd)
variable {T : Tr}
theorem Text_told (hG : GoodT T) (s : ByteArray) (hs : s.size ≤ 100000) : ∃ (x er : Int) (T' : Tr), GoodT T' ∧ Keeps T T' ∧
    (∀ (w : World) (own : Ow) (ptr : Nat → Nat) (tb : Nat), TreeAt w own ptr tb T → Owned own w → Calls Tryz.prog 31 #[.pointer (some ⟨tb, 0, none⟩), .string s] w (DTwo own w tb x er T')) ∧
    (∀ (w : World) (F : Nat → Prop) (rb : Nat), RefOn w F rb T → Calls Tryz.prog 32 #[.pointer (some ⟨rb, 0, none⟩), .string s] w (RTwoAft F w rb x er T')) := by
  obtain ⟨⟨d, hw⟩, ha⟩ := hG
  by_cases h1 : 8192 < (anewB s).size
  · exact ⟨0, 10, T, ⟨⟨d, hw⟩, ha⟩, Keeps.refl T, fun w own ptr tb hT hO => (Text_long tb s hs h1 w).mono fun e w' h => dtwo_same hT hO h, fun w F rb hR => rText_long s hs h1 hR⟩
  · by_cases h2 : 1 ≤ T.cap - T.count
    · refine ⟨T.newId, 0, _, ⟨⟨_, hw.put ⟨0, [], anewB s, [], -1⟩ rfl rfl (by show (0:Int) ≤ 0; decide) (by show (0:Int) ≤ 16; decide) (by omega) hw.newId_ne⟩, ha.put _ ⟨by simp, by show (anewB s).size ≤ 8192; omega⟩⟩, put_keeps T _, fun w own ptr tb hT hO => Text_ok hT hO hw s hs (by omega) h2, fun w F rb hR => rText_ok s hs (by omega) hR hw (by omega)⟩
    · exact ⟨0, 3, T, ⟨⟨d, hw⟩, ha⟩, Keeps.refl T, fun w own ptr tb hT hO => (Text_full hT hO hw.small s hs (by omega) h2).mono fun e w' h => dtwo_same hT hO h, fun w F rb hR => rText_full s hs (by omega) hR hw (by omega)⟩
theorem Element_told (hG : GoodT T) (tag : Int) (attrs : List (ByteArray × ByteArray)) (hl : attrs.length ≤ 60000) : ∃ (x er : Int) (T' : Tr), GoodT T' ∧ Keeps T T' ∧
    (∀ (w : World) (own : Ow) (ptr : Nat → Nat) (tb : Nat) (av : Value), TreeAt w own ptr tb T → Owned own w → RowRd w 2 av attrs.length (attrCells attrs) → Calls Tryz.prog 45 #[.pointer (some ⟨tb, 0, none⟩), .int .i64 tag, av] w (DTwo own w tb x er T')) ∧
    (∀ (w : World) (F : Nat → Prop) (rb : Nat) (av : Value), RefOn w F rb T → RowRd w 2 av attrs.length (attrCells attrs) → Calls Tryz.prog 46 #[.pointer (some ⟨rb, 0, none⟩), .int .i64 tag, av] w (RTwoAft F w rb x er T')) := by
  obtain ⟨⟨d, hw⟩, ha⟩ := hG
  by_cases h1 : 1 ≤ tag ∧ tag ≤ 16
  · by_cases h2 : 1 ≤ T.cap - T.count
    · exact ⟨T.newId, 0, _, ⟨⟨_, hw.put ⟨tag, attrs, ByteArray.empty, [], -1⟩ rfl rfl (by show 0 ≤ tag; omega) h1.2 (by omega) hw.newId_ne⟩, ha.put _ ⟨hl, by simp⟩⟩, put_keeps T _, fun w own ptr tb av hT hO hr => Element_ok hT hO hw tag h1.1 h1.2 h2 hr hl, fun w F rb av hR hr => rElement_ok tag h1.1 h1.2 hr hl hR hw (by omega)⟩
    · exact ⟨0, 3, T, ⟨⟨d, hw⟩, ha⟩, Keeps.refl T, fun w own ptr tb av hT hO hr => (Element_full hT hw.small tag h1.1 h1.2 h2 av).mono fun e w' h => dtwo_same hT hO h, fun w F rb av hR hr => rElement_full tag h1.1 h1.2 av hR hw (by omega)⟩
  · exact ⟨0, 1, T, ⟨⟨d, hw⟩, ha⟩, Keeps.refl T, fun w own ptr tb av hT hO hr => (Element_arg tb tag h1 av w).mono fun e w' h => dtwo_same hT hO h, fun w F rb av hR hr => rElement_arg tag h1 av hR⟩
theorem Insert_told (hG : GoodT T) (p at' k : Int) : ∃ (er : Int) (T' : Tr), GoodT T' ∧ InsTold T T' p at' k er ∧
    (∀ (w : World) (own : Ow) (ptr : Nat → Nat) (tb : Nat), TreeAt w own ptr tb T → Owned own w → Calls Tryz.prog 72 #[.pointer (some ⟨tb, 0, none⟩), .int .i64 p, .int .i64 at', .int .i64 k] w (ErrAfter own w tb er T')) ∧
    (∀ (w : World) (F : Nat → Prop) (rb : Nat), RefOn w F rb T → Calls Tryz.prog 88 #[.pointer (some ⟨rb, 0, none⟩), .int .i64 p, .int .i64 at', .int .i64 k] w (RErr F w rb er T')) := by
  obtain ⟨⟨d, hw⟩, ha⟩ := hG
  have hg : GoodT T := ⟨⟨d, hw⟩, ha⟩
  cases hp : T.get? p with
  | none => exact ⟨2, T, hg, .inl ⟨by decide, rfl⟩, fun w own ptr tb hT hO => (Insert_none hT (.inl hp)).mono fun e w' h => derr_same hT hO h, fun w F rb hR => rInsert_none hR (.inl hp)⟩
  | some pd =>
    cases hk : T.get? k with
    | none => exact ⟨2, T, hg, .inl ⟨by decide, rfl⟩, fun w own ptr tb hT hO => (Insert_none hT (.inr hk)).mono fun e w' h => derr_same hT hO h, fun w F rb hR => rInsert_none hR (.inr hk)⟩
    | some kd =>
      rcases tag_b (x := pd.tag) with ht | ht
      · exact ⟨6, T, hg, .inl ⟨by decide, rfl⟩, fun w own ptr tb hT hO => (Insert_kind hT hp hk ht).mono fun e w' h => derr_same hT hO h, fun w F rb hR => rInsert_kind hR hp hk ht⟩
      · by_cases harg : k = 0 ∨ 0 ≤ kd.parent ∨ at' < 0 ∨ (pd.kids.length : Int) < at'
        · exact ⟨1, T, hg, .inl ⟨by decide, rfl⟩, fun w own ptr tb hT hO => (Insert_arg hT hp hk ht harg).mono fun e w' h => derr_same hT hO h, fun w F rb hR => rInsert_arg hR hp hk ht harg⟩
        · have hp0 := hp
          have hk0' := hk
          obtain ⟨p', rfl, hpn⟩ := nat_of hp
          obtain ⟨k', rfl, hkn⟩ := nat_of hk
          obtain ⟨a', rfl⟩ := Int.eq_ofNat_of_zero_le (show 0 ≤ at' by omega)
          have hpar : kd.parent = -1 := by
            rcases hw.parent_cases hkn with h | ⟨q, qd, h1, _⟩
            · exact h
            · omega
          have hal : a' ≤ pd.kids.length := by omega
          have hk0 : k' ≠ 0 := by omega
          have hkl := hw.kids_len hpn
          have hwin := hw.win_within (o := (k' : Int)) (p' : Int) ⟨pd, Tr.get_of hpn⟩
          have hdd : (T.pathOf (p' : Int)).length = d p' := by
            have h := hw.path_rank p' ⟨pd, Tr.get_of hpn⟩
            unfold Tr.rank at h
            rw [Tr.get_of hpn] at h
            simp at h
            exact h
          cases hin : T.within p' k' with
          | true => exact ⟨5, T, hg, .inl ⟨by decide, rfl⟩, fun w own ptr tb hT hO => (Insert_loop hT hw hpn hkn ht hk0 hpar hal hin).mono fun e w' h => derr_same hT hO h, fun w F rb hR => rInsert_loop hR hw hp0 hk0' ht (by omega) (by omega) (by omega) (by omega) (by rw [hwin]; exact hin)⟩
          | false =>
            by_cases hdp : T.deep < (d p' : Int) + 1 + T.hgt 50 k'
            · exact ⟨4, T, hg, .inl ⟨by decide, rfl⟩, fun w own ptr tb hT hO => (Insert_deep hT hO hw hpn hkn ht hk0 hpar hal (by omega) hin hdp).mono fun e w' h => derr_same hT hO h, fun w F rb hR => rInsert_deep hR hw hp0 hk0' ht (by omega) (by omega) (by omega) (by omega) (by rw [hwin]; exact hin) (by rw [hdd]; exact hdp)⟩
            · refine ⟨0, T.link p' a' k' pd kd, ⟨⟨_, hw.link hpn hkn (by simpa using ht) hk0 hpar hin (by show (d p' : Int) + 1 + T.hgt 50 k' ≤ T.deep; omega)⟩, ?_⟩, .inr ⟨rfl, p', a', k', pd, kd, rfl, rfl, rfl, hpn, hkn, by simpa using ht, (fun e => by subst e; rw [hw.within_self hpn] at hin; cases hin), hpar, hal, rfl⟩, fun w own ptr tb hT hO => Insert_ok hT hO hw hpn hkn ht hk0 hpar hal (by omega) hin (by omega) (insertsAt_any _ _), fun w F rb hR => ?_⟩
              · rw [Tr.link_eq]
                exact ha.set2 (show NdOk pd from ha _ _ hpn) (show NdOk kd from ha _ _ hkn)
              · have hpk : p' ≠ k' := fun e => by
                  subst e
                  have := hw.within_self hpn
                  rw [this] at hin
                  cases hin
                exact rInsert_ok hR hw hpn hkn ht hk0 (by omega) hal hpk (by rw [hwin]; exact hin) (by rw [hdd]; show (d p' : Int) + 1 + T.hgt 50 k' ≤ T.deep; omega)
theorem Remove_told (hG : GoodT T) (id : Int) : ∃ (er : Int) (T' : Tr), GoodT T' ∧ RemTold T T' id er ∧
    (∀ (w : World) (own : Ow) (ptr : Nat → Nat) (tb : Nat), TreeAt w own ptr tb T → Owned own w → Calls Tryz.prog 55 #[.pointer (some ⟨tb, 0, none⟩), .int .i64 id] w (ErrAfter own w tb er T')) ∧
    (∀ (w : World) (F : Nat → Prop) (rb : Nat), RefOn w F rb T → Calls Tryz.prog 93 #[.pointer (some ⟨rb, 0, none⟩), .int .i64 id] w (RErr F w rb er T')) := by
  obtain ⟨⟨d, hw⟩, ha⟩ := hG
  have hg : GoodT T := ⟨⟨d, hw⟩, ha⟩
  cases hi : T.get? id with
  | none => exact ⟨2, T, hg, .inl ⟨by decide, rfl⟩, fun w own ptr tb hT hO => (Remove_none hT hi).mono fun e w' h => derr_same hT hO h, fun w F rb hR => rRemove_none hR hi⟩
  | some nd =>
    obtain ⟨i, rfl, hn⟩ := nat_of hi
    rcases hw.parent_cases hn with h | ⟨p, pd, h1, h2, h3, h4⟩
    · exact ⟨1, T, hg, .inl ⟨by decide, rfl⟩, fun w own ptr tb hT hO => (Remove_root hT hi (by omega)).mono fun e w' h => derr_same hT hO h, fun w F rb hR => rRemove_root hR hi (by omega)⟩
    · have := hw.kids_len h2
      exact ⟨0, _, ⟨⟨_, hw.unlink h2 hn h1⟩, ha.set2 (show NdOk pd from ha _ _ h2) (show NdOk nd from ha _ _ hn)⟩, .inr ⟨rfl, p, i, pd, nd, rfl, h2, hn, h1, h3, h4, rfl⟩, fun w own ptr tb hT hO => Remove_ok hT hO h2 hn h1 h4 (by omega) h3, fun w F rb hR => rRemove_ok hR hw h2 hn h1 h3 h4⟩
theorem Drop_told (hG : GoodT T) (id : Int) : ∃ (er : Int) (T' : Tr), GoodT T' ∧ DropTold T T' id er ∧
    (∀ (w : World) (own : Ow) (ptr : Nat → Nat) (tb : Nat), TreeAt w own ptr tb T → Owned own w → Calls Tryz.prog 95 #[.pointer (some ⟨tb, 0, none⟩), .int .i64 id] w (ErrAfter own w tb er T')) ∧
    (∀ (w : World) (F : Nat → Prop) (rb : Nat), RefOn w F rb T → Calls Tryz.prog 98 #[.pointer (some ⟨rb, 0, none⟩), .int .i64 id] w (RErr F w rb er T')) := by
  obtain ⟨⟨d, hw⟩, ha⟩ := hG
  have hg : GoodT T := ⟨⟨d, hw⟩, ha⟩
  cases hi : T.get? id with
  | none => exact ⟨2, T, hg, .inl ⟨by decide, rfl⟩, fun w own ptr tb hT hO => (Drop_none hT hO hi).mono fun e w' h => derr_same hT hO h, fun w F rb hR => rDrop_none hR hi⟩
  | some nd =>
    by_cases harg : id = 0 ∨ 0 ≤ nd.parent
    · exact ⟨1, T, hg, .inl ⟨by decide, rfl⟩, fun w own ptr tb hT hO => (Drop_arg hT hO hi harg).mono fun e w' h => derr_same hT hO h, fun w F rb hR => rDrop_arg hR hi harg⟩
    · obtain ⟨i, rfl, hn⟩ := nat_of hi
      have hp : nd.parent = -1 := by
        rcases hw.parent_cases hn with h | ⟨p, pd, h1, _⟩
        · exact h
        · omega
      exact ⟨0, _, ⟨⟨_, hw.rid hn hp (by omega)⟩, ha.rid _⟩, .inr ⟨rfl, i, nd, rfl, hn, hp, by omega, rfl⟩, fun w own ptr tb hT hO => Drop_ok hT hO hw hn (by omega) hp, fun w F rb hR => rDrop_ok hR hw hn (by omega) hp⟩
theorem SetText_told (hG : GoodT T) (id : Int) (s : ByteArray) (hs : s.size ≤ 100000) : ∃ (er : Int) (T' : Tr), GoodT T' ∧ TextTold T T' id s er ∧
    (∀ (w : World) (own : Ow) (ptr : Nat → Nat) (tb : Nat), TreeAt w own ptr tb T → Owned own w → Calls Tryz.prog 127 #[.pointer (some ⟨tb, 0, none⟩), .int .i64 id, .string s] w (ErrAfter own w tb er T')) ∧
    (∀ (w : World) (F : Nat → Prop) (rb : Nat) (tag : Int) (av : Value), RefOn w F rb T → Calls Tryz.prog 139 #[.pointer (some ⟨rb, 0, none⟩), .int .i64 1, .int .i64 id, .int .i64 tag, .string s, av] w (RErr F w rb er T')) := by
  obtain ⟨⟨d, hw⟩, ha⟩ := hG
  have hg : GoodT T := ⟨⟨d, hw⟩, ha⟩
  cases hi : T.get? id with
  | none => exact ⟨2, T, hg, .inl ⟨by decide, rfl⟩, fun w own ptr tb hT hO => (SetText_none hT hO hi s hs).mono fun e w' h => derr_same hT hO h, fun w F rb tag av hR => rSet_none hR hi 1 tag s av⟩
  | some nd =>
    by_cases ht : nd.tag = 0
    · have htb : (nd.tag == 0) = true := by simp [ht]
      by_cases hl : 8192 < (anewB s).size
      · exact ⟨10, T, hg, .inl ⟨by decide, rfl⟩, fun w own ptr tb hT hO => (SetText_long hT hO hi (by simp [ht]) s hs hl).mono fun e w' h => derr_same hT hO h, fun w F rb tag av hR => rSet_long hR hi htb tag s av hs hl⟩
      · have hi0 := hi
        obtain ⟨i, rfl, hn⟩ := nat_of hi
        have hx := hw.text i nd hn
        exact ⟨0, T.setAt i { nd with text := anewB s }, ⟨⟨_, hw.setAt (nd' := { nd with text := anewB s }) hn rfl rfl hx.1 hx.2.1 (fun h => h) (fun _ => rfl)⟩, ha.setAt ⟨(ha _ _ hn).1, by show (anewB s).size ≤ 8192; omega⟩⟩, .inr ⟨rfl, i, nd, rfl, hn, ht, rfl⟩, fun w own ptr tb hT hO => SetText_ok hT hO hn (by simp [ht]) s hs (by omega), fun w F rb tag av hR => rSet_text hR hi0 htb tag s av hs (by omega)⟩
    · have htb : (nd.tag == 0) = false := by simpa using ht
      exact ⟨6, T, hg, .inl ⟨by decide, rfl⟩, fun w own ptr tb hT hO => (SetText_kind hT hO hi (by simpa using ht) s hs).mono fun e w' h => derr_same hT hO h, fun w F rb tag av hR => rSet_kind hR hi 1 tag s av (by rw [htb]; rfl)⟩
theorem Graft_told (hG : GoodT T) (p at' : Int) (n : PN) (hsh : n.short = true) (hsz : n.size ≤ 90000) : ∃ (x er : Int) (T' : Tr), GoodT T' ∧ GraftTold T T' p at' n er ∧
    (∀ (g w : World) (own : Ow) (ptr : Nat → Nat) (tb : Nat) (nv : Value), TreeAt w own ptr tb T → Owned own w → RdN g n nv → Apart g own w → Calls Tryz.prog 80 #[.pointer (some ⟨tb, 0, none⟩), .int .i64 p, .int .i64 at', nv] w (DTwo own w tb x er T')) ∧
    (∀ (g w : World) (F : Nat → Prop) (rb : Nat) (nv : Value), RefOn w F rb T → RdN g n nv → RApart g F w → Calls Tryz.prog 101 #[.pointer (some ⟨rb, 0, none⟩), .int .i64 p, .int .i64 at', nv] w (RTwoAft F w rb x er T')) := by
  obtain ⟨⟨d, hw⟩, ha⟩ := hG
  have hg : GoodT T := ⟨⟨d, hw⟩, ha⟩
  cases hp : T.get? p with
  | none =>
    refine ⟨0, 2, T, hg, .inl ⟨by decide, rfl⟩, fun g w own ptr tb nv hT hO hr hap => ?_, fun g w F rb nv hR hr hap => ?_⟩
    · obtain ⟨av, kv, rfl, _, _⟩ := hr.open
      exact (Graft_none hT hO hp _ _ _ _).mono fun e w' h => dtwo_same hT hO h
    · obtain ⟨av, kv, rfl, _, _⟩ := hr.open
      exact rGraft_none hR hp _ _ _ _
  | some pd =>
    rcases tag_b (x := pd.tag) with ht | ht
    · refine ⟨0, 6, T, hg, .inl ⟨by decide, rfl⟩, fun g w own ptr tb nv hT hO hr hap => ?_, fun g w F rb nv hR hr hap => ?_⟩
      · obtain ⟨av, kv, rfl, _, _⟩ := hr.open
        exact (Graft_kind hT hO hp ht _ _ _ _).mono fun e w' h => dtwo_same hT hO h
      · obtain ⟨av, kv, rfl, _, _⟩ := hr.open
        exact rGraft_kind hR hp ht _ _ _ _
    · by_cases harg : at' < 0 ∨ (pd.kids.length : Int) < at'
      · refine ⟨0, 1, T, hg, .inl ⟨by decide, rfl⟩, fun g w own ptr tb nv hT hO hr hap => ?_, fun g w F rb nv hR hr hap => ?_⟩
        · obtain ⟨av, kv, rfl, _, _⟩ := hr.open
          exact (Graft_arg hT hO hp ht harg _ _ _ _).mono fun e w' h => dtwo_same hT hO h
        · obtain ⟨av, kv, rfl, _, _⟩ := hr.open
          exact rGraft_arg hR hp ht harg _ _ _ _
      · obtain ⟨p', rfl, hpn⟩ := nat_of hp
        obtain ⟨a', rfl⟩ := Int.eq_ofNat_of_zero_le (show 0 ≤ at' by omega)
        have hal : a' ≤ pd.kids.length := by omega
        by_cases he : (PN.look 0 ⟨0, 0, 0⟩ n).e = 0
        · have hok : n.ok = true := ((look_spec n 0 ⟨0, 0, 0⟩).2.2.1 he).2
          by_cases hdp : T.deep < (d p' : Int) + 1 + n.high
          · exact ⟨0, 4, T, hg, .inl ⟨by decide, rfl⟩, fun g w own ptr tb nv hT hO hr hap => (Graft_deep hT hO hw hpn ht hal hr hap hsh hsz hok hdp).mono fun e w' h => dtwo_same hT hO h, fun g w F rb nv hR hr hap => rGraft_deep hR hw hpn ht hal hr hap hsh hsz hok hdp⟩
          · by_cases hf : (n.size : Int) ≤ T.cap - T.count
            · obtain ⟨dz, m, hm1, hm0, hm2, hPut⟩ := into_ok n hok T d hw (by omega) (by omega)
              obtain ⟨kd, hk1, hk2⟩ := hPut.node
              have hpm : p' ≠ m := fun e => hm2 pd (e ▸ hpn)
              obtain ⟨hap1, hap2⟩ := hPut.apart hw hm2 p' pd hpn
              have hgr : T.grafted p' a' pd n = (PN.into T n).link p' a' m pd kd := by
                unfold Tr.grafted; rw [hm1, Int.toNat_natCast, look_of hk1]
              have hi := into_attrs n hok hsh T ha
              refine ⟨T.newId, 0, T.grafted p' a' pd n, ⟨⟨_, hgr ▸ hPut.wf.link (hPut.old p' pd hpm hpn) hk1 (by simpa using ht) hm0 hk2 hap1 (by rw [hap2, hPut.deep, hPut.high]; omega)⟩, ?_⟩, .inr ⟨rfl, p', a', m, pd, kd, rfl, rfl, hpn, by simpa using ht, hal, hm1, hk1, hgr⟩, fun g w own ptr tb nv hT hO hr hap => Graft_ok hT hO hw hpn ht hal hr hap hsh hsz hok (by omega) hf, fun g w F rb nv hR hr hap => rGraft_ok hR hw hpn ht hal hr hap hsh hsz hok (by omega) hf⟩
              rw [hgr, Tr.link_eq]
              exact hi.set2 (show NdOk pd from ha _ _ hpn) (show NdOk kd from hi _ _ hk1)
            · exact ⟨0, 3, T, hg, .inl ⟨by decide, rfl⟩, fun g w own ptr tb nv hT hO hr hap => (Graft_full hT hO hw hpn ht hal hr hap hsh hsz hok (by omega) hf).mono fun e w' h => dtwo_same hT hO h, fun g w F rb nv hR hr hap => rGraft_full hR hw hpn ht hal hr hap hsh hsz hok (by omega) hf⟩
        · exact ⟨0, (PN.look 0 ⟨0, 0, 0⟩ n).e, T, hg, .inl ⟨he, rfl⟩, fun g w own ptr tb nv hT hO hr hap => (Graft_bad hT hO hw hpn ht hal hr hap hsh hsz he).mono fun e w' h => dtwo_same hT hO h, fun g w F rb nv hR hr hap => by rw [look_e0] at he ⊢; exact rGraft_bad hR hw hpn ht hal hr hap hsh hsz he⟩
end Go.Proofs.YthgnbbbdcebjhaaGreat

namespace Go.Proofs.YthgnbbbdcebjhaaGreat
open Go Go.RowKit Go.BigFrame
set_option linter.unusedVariables false
set_option linter.unusedSimpArgs false

/-- the document's rows: what is held (1 or 0), and where -/
def iOf (H : List Hd) : List Int := H.map fun x => if x.off = 0 then 1 else 0
def pOf (H : List Hd) : List (Int × Int) := H.map fun x => (x.node, x.at')
/-- a live tree's state: each held place may be -/
structure StOk (T : Tr) (H : List Hd) : Prop where
  good : GoodT T
  may : mayH T H
  offs : ∀ x ∈ H, x.off = 0 ∨ x = ⟨0, 0, 1⟩
theorem iOf_len (H : List Hd) : (iOf H).length = H.length := by simp [iOf]
theorem iOf_01 (H : List Hd) : ∀ i ∈ iOf H, i = 0 ∨ i = 1 := by
  intro i hi
  obtain ⟨x, _, rfl⟩ := List.mem_map.1 hi
  by_cases h : x.off = 0
  · exact .inr (if_pos h)
  · exact .inl (if_neg h)
theorem iOf_moved (f : Int → Int → Int × Int) (H : List Hd) : iOf (H.map (moved f)) = iOf H := by
  unfold iOf
  rw [List.map_map]
  refine List.map_congr_left fun x _ => ?_
  show (if (moved f x).off = 0 then _ else _) = _
  unfold moved
  by_cases h : x.off = 0
  · rw [if_pos h, if_pos rfl, if_pos h]
  · rw [if_neg h]
theorem chAll_moved (f : Int → Int → Int × Int) (H : List Hd) : chAll f (iOf H) (pOf H) = pOf (H.map (moved f)) := by
  unfold chAll iOf pOf
  induction H with
  | nil => rfl
  | cons x H ih =>
    simp only [List.map_cons, List.zipWith_cons_cons, ih]
    congr 1
    unfold chP moved
    by_cases h : x.off = 0
    · rw [if_pos h, if_neg (by decide), if_pos h]
    · rw [if_neg h, if_pos rfl, if_neg h]
theorem movedD_is (er : Int) (f : Int → Int → Int × Int) (H : List Hd) : movedD er f (iOf H) (pOf H) = pOf (movedIf er f H) ∧ iOf (movedIf er f H) = iOf H ∧ (movedIf er f H).length = H.length := by
  unfold movedD movedIf
  by_cases h : er = 0
  · rw [if_pos h, if_pos h]; exact ⟨chAll_moved f H, iOf_moved f H, by simp⟩
  · rw [if_neg h, if_neg h]; exact ⟨rfl, rfl, rfl⟩
theorem offs_moved {H : List Hd} (f : Int → Int → Int × Int) (h : ∀ x ∈ H, x.off = 0 ∨ x = ⟨0, 0, 1⟩) : ∀ x ∈ H.map (moved f), x.off = 0 ∨ x = ⟨0, 0, 1⟩ := by
  intro y hy
  obtain ⟨x, hx, rfl⟩ := List.mem_map.1 hy
  unfold moved
  by_cases h0 : x.off = 0
  · rw [if_pos h0]; exact .inl rfl
  · rw [if_neg h0]; exact h x hx
theorem moved_congr {H : List Hd} {f g : Int → Int → Int × Int} (h : ∀ x ∈ H, x.off = 0 → f x.node x.at' = g x.node x.at') : H.map (moved f) = H.map (moved g) := by
  refine List.map_congr_left fun x hx => ?_
  unfold moved
  by_cases h0 : x.off = 0
  · rw [if_pos h0, if_pos h0, h x hx h0]
  · rw [if_neg h0, if_neg h0]
section
variable {T T' : Tr} {H : List Hd}
theorem len_small (hG : GoodT T) {n : Int} {nd : Nd} (h : T.get? n = some nd) : 0 ≤ n ∧ n ≤ 2000 ∧ 0 ≤ T.lengthOf n ∧ T.lengthOf n ≤ 8192 := by
  obtain ⟨⟨d, hw⟩, ha⟩ := hG
  obtain ⟨h1, h2, h3⟩ := Tr.get_lt h
  have h4 := hw.small.len
  have h5 := hw.text _ nd h3
  have h6 := (ha _ nd h3).2
  have h7 := hw.kids_len h3
  have h8 := runes_le nd.text
  rw [lengthOf_eq, h]
  refine ⟨h1, by omega, ?_, ?_⟩
  · show 0 ≤ (if nd.tag = -1 then _ else if nd.tag = 0 then _ else _)
    split
    · omega
    · split <;> omega
  · show (if nd.tag = -1 then _ else if nd.tag = 0 then _ else _) ≤ (8192 : Int)
    split
    · omega
    · split <;> omega
theorem may_okP (hG : GoodT T) {n a : Int} (h : T.may n a = true) : okI n ∧ okI a := by
  cases hg : T.get? n with
  | none => exact absurd hg (may_got h)
  | some nd =>
    have h1 := len_small hG hg
    have h2 := may_iff.1 h
    unfold okI
    omega
theorem StOk.okH (h : StOk T H) : okH H := fun x hx h0 => may_okP h.good (h.may x hx h0)
theorem StOk.okPl (h : StOk T H) : okPl (pOf H) := by
  intro y hy
  obtain ⟨x, hx, rfl⟩ := List.mem_map.1 hy
  rcases h.offs x hx with h0 | h0
  · exact may_okP h.good (h.may x hx h0)
  · rw [h0]
    show okI 0 ∧ okI 0
    unfold okI
    omega
/-- what a pair of calls says: an error's number, the tree and what is held behind both -/
def PairE (H : List Hd) (T : Tr) (fl fr : FuncId) (la ra : Array Value) (er : Int) (T' : Tr) (H' : List Hd) : Prop :=
  (∀ (w : World) (own : Ow) (ptr : Nat → Nat) (lb tb : Nat) (hv : Value) (hb : Option Nat), LiveAt w own ptr lb tb T hv hb H → Calls Tryz.prog fl (#[.pointer (some ⟨lb, 0, none⟩)] ++ la) w (LErr own lb tb hb w er T' H')) ∧
  (∀ (w : World) (F : Nat → Prop) (xb rb : Nat), DocOn w F xb rb T (iOf H) (pOf H) → Calls Tryz.prog fr (#[.pointer (some ⟨xb, 0, none⟩)] ++ ra) w (DErr F w xb rb er T' (iOf H') (pOf H')))
theorem tag_ne {d : Nat → Nat} (hw : WF T d) {i : Nat} {nd : Nd} (h : T.nodes[i]? = some (some nd)) : nd.tag ≠ -1 := by have := (hw.text i nd h).1; omega
theorem lengthOf_kids {d : Nat → Nat} (hw : WF T d) {p : Nat} {pd : Nd} (hp : T.nodes[p]? = some (some pd)) (ht : pd.tag ≠ 0) : T.lengthOf p = pd.kids.length := by
  rw [lengthOf_eq, Tr.get_of hp]
  show (if pd.tag = -1 then _ else if pd.tag = 0 then _ else _) = _
  rw [if_neg (tag_ne hw hp), if_neg ht]
theorem Insert_both (h : StOk T H) (hl : H.length ≤ 100000) (p q k : Int) : ∃ er T' H', StOk T' H' ∧ H'.length = H.length ∧ InsTold T T' p q k er ∧ H' = movedIf er (insP p q 1) H ∧
    PairE H T 25 33 #[.int .i64 p, .int .i64 q, .int .i64 k] #[.int .i64 p, .int .i64 q, .int .i64 k] er T' H' := by
  obtain ⟨er, T', hG', htold, pd, pr⟩ := Insert_told h.good p q k
  have hok : er = 0 → okI p ∧ okI q ∧ StOk T' (movedIf er (insP p q 1) H) := by
    intro e
    rcases htold with ⟨e2, _⟩ | ⟨_, p', a', k', pd', kd, rfl, rfl, rfl, h1, h2, h3, h4, h5, h6, rfl⟩
    · exact absurd e e2
    · obtain ⟨⟨d, hw⟩, ha⟩ := h.good
      have hs := len_small ⟨⟨d, hw⟩, ha⟩ (Tr.get_of h1)
      have hk := hw.kids_len h1
      obtain ⟨l1, l2⟩ := link_len h1 h2 h4 h3 (tag_ne hw h1) h6
      refine ⟨by unfold okI; omega, by unfold okI; omega, ?_⟩
      subst e
      show StOk _ (if (0 : Int) = 0 then _ else _)
      rw [if_pos rfl]
      exact ⟨hG', h.may.map fun n a hm => may_ins l1 l2 n a hm, offs_moved _ h.offs⟩
  obtain ⟨m1, m2, m3⟩ := movedD_is er (insP p q 1) H
  refine ⟨er, T', _, ?_, m3, htold, rfl, fun w own ptr lb tb hv hb hL => lInsert_any hL hl p q k (fun W x => pd W own ptr tb (hL.ext x).tree (hL.ext x).ownd) fun e => ⟨(hok e).1, (hok e).2.1, h.okH⟩, fun w F xb rb hD => ?_⟩
  · by_cases e : er = 0
    · exact (hok e).2.2
    · rcases htold with ⟨_, rfl⟩ | ⟨e2, _⟩
      · unfold movedIf; rw [if_neg e]; exact h
      · exact absurd e2 e
  · rw [m2, ← m1]
    exact dInsert hD (by rw [iOf_len]; exact hl) p q k (fun F0 hR => pr w F0 rb hR) fun e => ⟨(hok e).1, (hok e).2.1, h.okPl⟩
end
end Go.Proofs.YthgnbbbdcebjhaaGreat

namespace Go.Proofs.YthgnbbbdcebjhaaGreat
open Go Go.RowKit Go.BigFrame
set_option linter.unusedVariables false
set_option linter.unusedSimpArgs false

section
variable {T T' : Tr} {d d' : Nat → Nat} {p k a : Int}
theorem Linked.win_new (h : Linked T T' p a k) (hw : WF T d) (hkd : ∃ kd, T.get? k = some kd) {n : Int} (hn : ∃ nd, T.get? n = some nd) : T.win n k = true ↔ T.rootOf n = k := by
  obtain ⟨kd, hkd⟩ := hkd
  rw [hw.win_iff hkd n hn]
  have pk : T.pathOf k = [] := by rw [hw.path_step, if_neg h.root]
  have rk : T.rootOf k = k := by rw [hw.root_step, if_neg h.root]
  rw [pk, rk]
  exact ⟨fun ⟨q, _, e⟩ => e, fun e => ⟨T.pathOf n, by simp, e⟩⟩
theorem Linked.win_old (h : Linked T T' p a k) (hw : WF T d) (hw' : WF T' d') (hkd : ∃ kd, T'.get? k = some kd) {n : Int} (hn : ∃ nd, T'.get? n = some nd) : T'.win n k = true ↔ T.rootOf n = k := by
  obtain ⟨kd, hkd⟩ := hkd
  rw [hw'.win_iff hkd n hn]
  constructor
  · rintro ⟨q, h1, h2⟩
    refine Decidable.byContradiction fun hne => ?_
    obtain ⟨o1, o2⟩ := h.out_ hw hw' n hne
    rw [(h.path_k hw hw').1, List.append_assoc] at h1
    rw [(h.path_k hw hw').2] at h2
    rcases o2 with ⟨_, j, t, e2, e3⟩ | ⟨e1, e2⟩
    · rw [e3] at h1
      have h3 : (if a ≤ j then j + 1 else j) :: t = a :: q := List.append_cancel_left h1
      injection h3 with ha _
      split at ha <;> omega
    · rw [e2] at h1
      exact e1 (o1 ▸ h2) ⟨a, q, h1⟩
  · intro e
    obtain ⟨i1, i2⟩ := h.in_ hw hw' n e
    exact ⟨T.pathOf n, i1, i2⟩
theorem got_of_len {n : Int} (h : 0 ≤ T.lengthOf n) : ∃ nd, T.get? n = some nd := by
  cases hg : T.get? n with
  | none => rw [lengthOf_eq, hg] at h; exact absurd h (by decide)
  | some nd => exact ⟨nd, rfl⟩
end
section
variable {T T' : Tr} {H : List Hd}
theorem may_got' {n a : Int} (h : T.may n a = true) : ∃ nd, T.get? n = some nd := got_of_len (by have := may_iff.1 h; omega)
theorem Remove_both (h : StOk T H) (hl : H.length ≤ 100000) (id : Int) : ∃ er T' H', StOk T' H' ∧ H'.length = H.length ∧ RemTold T T' id er ∧ H' = movedIf er (remP T' id (T.up id) (T.idx id)) H ∧
    PairE H T 17 34 #[.int .i64 id] #[.int .i64 id] er T' H' := by
  obtain ⟨er, T', hG', htold, pd, pr⟩ := Remove_told h.good id
  obtain ⟨⟨d, hw⟩, ha⟩ := h.good
  obtain ⟨⟨d', hw'⟩, ha'⟩ := hG'
  have hG : GoodT T := ⟨⟨d, hw⟩, ha⟩
  have hok : er = 0 → okI (T.up id) ∧ okI (T.idx id) ∧ StOk T' (movedIf er (remP T' id (T.up id) (T.idx id)) H) ∧ movedIf er (goneL (T.allOf id) (T.up id) (T.idx id)) H = movedIf er (remP T' id (T.up id) (T.idx id)) H := by
    intro e
    rcases htold with ⟨e2, _⟩ | ⟨_, p', k', pd', kd, rfl, h1, h2, h3, h4, h5, rfl⟩
    · exact absurd e e2
    · have hgk := Tr.get_of h2
      have hup : T.up (k' : Int) = (p' : Int) := by rw [Tr.up_some hgk, h3]
      have ht : pd'.tag ≠ 0 := fun e => by
        have h9 := (hw.text _ pd' h1).2.2 e
        rw [h9] at h4
        cases h4
      have hn := (hw.kids p' pd' h1).1
      have hlk := linked_unlink hw hw' h1 h2 h5 h3 hn h4
      have hix : T.idx (k' : Int) = (pd'.kids.idxOf (k' : Int) : Int) := hlk.idxk
      have hil := List.idxOf_lt_length_of_mem h4
      have hs := len_small hG (Tr.get_of h1)
      have hkl := lengthOf_kids hw h1 ht
      obtain ⟨l1, l2⟩ := unlink_len h1 h2 h5 ht (tag_ne hw h1) h4
      have hgot : ∀ n, (∃ nd, T.get? n = some nd) → ∃ nd, (T.unlink p' k' pd' kd).get? n = some nd := by
        intro n hn
        obtain ⟨nd, hn⟩ := hn
        refine got_of_len ?_
        by_cases e : n = (p' : Int)
        · rw [e, l2, hkl]; omega
        · rw [l1 n e]; exact (len_small hG hn).2.2.1
      subst e
      refine ⟨by unfold okI; omega, by rw [hix]; unfold okI; omega, ?_, ?_⟩
      · show StOk _ (if (0 : Int) = 0 then _ else _)
        rw [if_pos rfl]
        exact ⟨⟨⟨d', hw'⟩, ha'⟩, h.may.map fun n a hm => by
          rw [hup, hix]
          exact may_rem l1 l2 (by omega) (by rw [hkl]; omega) n a hm, offs_moved _ h.offs⟩
      · show (if (0 : Int) = 0 then _ else _) = (if (0 : Int) = 0 then _ else _)
        rw [if_pos rfl, if_pos rfl]
        refine moved_congr fun x hx h0 => ?_
        have hg := may_got' (h.may x hx h0)
        obtain ⟨nd, hnd⟩ := hg
        have e1 := hw.mem_all hgk hnd
        have e2 := hlk.win_old hw' hw ⟨kd, hgk⟩ ⟨nd, hnd⟩
        have e3 := hlk.win_new hw' (hgot _ ⟨kd, hgk⟩) (hgot _ ⟨nd, hnd⟩)
        unfold goneL remP
        by_cases hin : x.node ∈ T.allOf (k' : Int)
        · rw [if_pos hin, if_pos (e3.2 (e2.1 (e1.1 hin)))]
        · rw [if_neg hin, if_neg (fun e => hin (e1.2 (e2.2 (e3.1 e))))]
  obtain ⟨m1, m2, m3⟩ := movedD_is er (remP T' id (T.up id) (T.idx id)) H
  refine ⟨er, T', _, ?_, m3, htold, rfl, fun w own ptr lb tb hv hb hL => lRemove_any hL hl id (T.up id) (T.idx id) hw' (fun W x => ?_) (fun W x => at_idx ((hL.ext x).tree.tat (hL.ext x).ownd) hw id) (fun W x => pd W own ptr tb (hL.ext x).tree (hL.ext x).ownd) fun e => ⟨(hok e).1, (hok e).2.1, h.okH⟩, fun w F xb rb hD => ?_⟩
  · by_cases e : er = 0
    · exact (hok e).2.2.1
    · rcases htold with ⟨_, rfl⟩ | ⟨e2, _⟩
      · unfold movedIf; rw [if_neg e]; exact h
      · exact absurd e2 e
  · cases hg : T.get? id with
    | none => rw [Tr.up_none hg]; exact Parent_none (hL.ext x).tree hg
    | some nd => rw [Tr.up_some hg]; exact Parent_some (hL.ext x).tree hg
  · have h9 := dRemove hD (by rw [iOf_len]; exact hl) hw id (by have := allOf_2000 hw id; omega) (fun F0 W x hR => pr W F0 rb hR) fun e => ⟨(hok e).1, (hok e).2.1, h.okPl⟩
    rw [(movedD_is er (goneL (T.allOf id) (T.up id) (T.idx id)) H).1] at h9
    by_cases e : er = 0
    · rw [(hok e).2.2.2] at h9
      rw [m2]
      exact h9
    · have e1 : ∀ f, movedIf er f H = H := fun f => by unfold movedIf; rw [if_neg e]
      rw [e1] at h9 ⊢
      exact h9
theorem Drop_both (h : StOk T H) (hl : H.length ≤ 100000) (id : Int) : ∃ er T' H', StOk T' H' ∧ H'.length = H.length ∧
    PairE H T 35 36 #[.int .i64 id] #[.int .i64 id] er T' H' := by
  obtain ⟨er, T', hG', htold, pd, pr⟩ := Drop_told h.good id
  obtain ⟨⟨d, hw⟩, ha⟩ := h.good
  have hG : GoodT T := ⟨⟨d, hw⟩, ha⟩
  obtain ⟨m1, m2, m3⟩ := movedD_is er (dropP (T.allOf id)) H
  refine ⟨er, T', _, ?_, m3, fun w own ptr lb tb hv hb hL => lDrop_any hL hl id hw (fun W x => pd W own ptr tb (hL.ext x).tree (hL.ext x).ownd), fun w F xb rb hD => ?_⟩
  · rcases htold with ⟨e, rfl⟩ | ⟨rfl, i, nd, rfl, h1, h2, h3, rfl⟩
    · unfold movedIf; rw [if_neg e]; exact h
    · show StOk _ (if (0 : Int) = 0 then _ else _)
      rw [if_pos rfl]
      refine ⟨hG', h.may.rid (fun j hj => ?_) ?_, offs_moved _ h.offs⟩
      · cases hg : T.get? (j : Int) with
        | none => exact absurd hg hj
        | some jd => rw [hw.mem_all (Tr.get_of h1) hg, hw.win_within _ ⟨jd, hg⟩]
      · obtain ⟨⟨d2, hw2⟩, ha2⟩ := hG'
        obtain ⟨rd, hr, _⟩ := hw2.root
        exact (len_small ⟨⟨d2, hw2⟩, ha2⟩ (Tr.get_of hr)).2.2.1
  · rw [m2, ← m1]
    exact dDrop hD (by rw [iOf_len]; exact hl) (iOf_01 H) hw id (by have := allOf_2000 hw id; omega) (fun F0 W x hR => pr W F0 rb hR)
theorem SetText_both (h : StOk T H) (hl : H.length ≤ 100000) (id : Int) (s : ByteArray) (hs : s.size ≤ 30000) : ∃ er T' H', StOk T' H' ∧ H'.length = H.length ∧
    PairE H T 37 38 #[.int .i64 id, .string s] #[.int .i64 id, .string s] er T' H' := by
  obtain ⟨er, T', hG', htold, pd, pr⟩ := SetText_told h.good id s (by omega)
  obtain ⟨⟨d, hw⟩, ha⟩ := h.good
  have hG : GoodT T := ⟨⟨d, hw⟩, ha⟩
  obtain ⟨c, hc⟩ : ∃ c : Nat, max 0 (T.lengthOf id) = (c : Int) := ⟨(max 0 (T.lengthOf id)).toNat, by omega⟩
  have hc2 : c ≤ 1000000 := by
    cases hg : T.get? id with
    | none => rw [lengthOf_eq, hg] at hc; simp at hc; omega
    | some nd => have := len_small hG hg; omega
  have hok : er = 0 → okI id ∧ c = runes (T.txt id) ∧ StOk T' (movedIf er (repP id 0 c (runes s)) H) := by
    intro e
    rcases htold with ⟨e2, _⟩ | ⟨_, i, nd, rfl, h1, h2, rfl⟩
    · exact absurd e e2
    · have hg := Tr.get_of h1
      have hle : T.lengthOf (i : Int) = (runes nd.text : Int) := by
        rw [lengthOf_eq, hg]
        show (if nd.tag = -1 then _ else if nd.tag = 0 then _ else _) = _
        rw [if_neg (by omega), if_pos h2]
      have hce : (c : Int) = runes nd.text := by omega
      have htx : T.txt (i : Int) = nd.text := by unfold Tr.txt; rw [hg]
      have hs9 := len_small hG hg
      subst e
      refine ⟨by unfold okI; omega, by rw [htx]; omega, ?_⟩
      show StOk _ (if (0 : Int) = 0 then _ else _)
      rw [if_pos rfl]
      obtain ⟨l1, l2⟩ := settext_len (T' := T.setAt i { nd with text := anewB s }) (s := anewB s) h1 h2 rfl
      have hra : runes (anewB s) = runes s := by unfold runes; rw [runes_anew]
      exact ⟨hG', h.may.map fun n a hm => may_rep l1 (by rw [l2, hra, hle, hce]; omega) (by omega) (by omega) (by omega) (by rw [hle]; omega) n a hm, offs_moved _ h.offs⟩
  obtain ⟨m1, m2, m3⟩ := movedD_is er (repP id 0 c (runes s)) H
  refine ⟨er, T', _, ?_, m3, fun w own ptr lb tb hv hb hL => lSetText_any hL hl hw ha id s (by omega) hc hc2 (fun W x => pd W own ptr tb (hL.ext x).tree (hL.ext x).ownd) fun e => ⟨(hok e).1, h.okH⟩, fun w F xb rb hD => ?_⟩
  · by_cases e : er = 0
    · exact (hok e).2.2
    · rcases htold with ⟨_, rfl⟩ | ⟨e2, _⟩
      · unfold movedIf; rw [if_neg e]; exact h
      · exact absurd e2 e
  · have h9 := dSetText hD (by rw [iOf_len]; exact hl) ha id s (by omega) (fun F0 W x hR => pr W F0 rb 0 (.slice none 0 0) hR) fun e => ⟨(hok e).1, h.okPl⟩
    rw [m2, ← m1]
    by_cases e : er = 0
    · rw [(hok e).2.1]
      exact h9
    · have e1 : ∀ f, movedD er f (iOf H) (pOf H) = pOf H := fun f => by unfold movedD; rw [if_neg e]
      rw [e1] at h9 ⊢
      exact h9
end
end Go.Proofs.YthgnbbbdcebjhaaGreat

namespace Go.Proofs.YthgnbbbdcebjhaaGreat
open Go Go.RowKit Go.BigFrame
set_option linter.unusedVariables false
set_option linter.unusedSimpArgs false

section
variable {T T' : Tr} {H : List Hd}
theorem replT_size (t s : ByteArray) (a c : Nat) (ht : t.size ≤ 8192) (hs : s.size ≤ 30000) : (replT t a c s).size ≤ 100000 := by
  unfold replT
  rw [ByteArray.size_append, ByteArray.size_append]
  have h1 := runesBytes_size_le ((runeList t t.size 0).take a)
  have h2 := runesBytes_size_le ((runeList t t.size 0).drop (a + c))
  have h3 := runeList_len t t.size 0
  rw [List.length_take] at h1
  rw [List.length_drop] at h2
  omega
theorem Replace_both (h : StOk T H) (hl : H.length ≤ 100000) (id a c : Int) (s : ByteArray) (hs : s.size ≤ 30000) : ∃ er T' H', StOk T' H' ∧ H'.length = H.length ∧
    ((er ≠ 0 ∧ T' = T ∧ H' = H) ∨ (er = 0 ∧ ∃ (i q m : Nat) (nd : Nd) (s' : ByteArray), id = i ∧ T.nodes[i]? = some (some nd) ∧ nd.tag = 0 ∧ T' = T.setAt i { nd with text := s' } ∧ ∃ k : Nat, H' = H.map (moved (repP i q k m)))) ∧
    PairE H T 26 44 #[.int .i64 id, .int .i64 a, .int .i64 c, .string s] #[.int .i64 id, .int .i64 a, .int .i64 c, .string s] er T' H' := by
  have hG := h.good
  obtain ⟨⟨d, hw⟩, ha⟩ := h.good
  cases hg : T.get? id with
  | none => exact ⟨2, T, H, h, rfl, .inl ⟨by decide, rfl, rfl⟩, fun w own ptr lb tb hv hb hL => lReplace_none hL id a c s hg, fun w F xb rb hD => dReplace_none hD id a c s hg⟩
  | some nd =>
    by_cases ht : nd.tag = 0
    · by_cases hac : a < 0 ∨ (runes nd.text : Int) < a ∨ c < 0
      · exact ⟨1, T, H, h, rfl, .inl ⟨by decide, rfl, rfl⟩, fun w own ptr lb tb hv hb hL => lReplace_arg hL hw ha id a c s hg ht hac, fun w F xb rb hD => dReplace_arg hD ha id a c s hg ht hac⟩
      · obtain ⟨a', rfl⟩ := Int.eq_ofNat_of_zero_le (show 0 ≤ a by omega)
        obtain ⟨c0, rfl⟩ := Int.eq_ofNat_of_zero_le (show 0 ≤ c by omega)
        obtain ⟨c', hcc⟩ : ∃ c', min c0 (runes nd.text - a') = c' := ⟨_, rfl⟩
        have hnt := (ha _ nd (Tr.get_lt hg).2.2).2
        obtain ⟨er, T', hG', htold, pd, pr⟩ := SetText_told hG id (replT nd.text a' c' s) (replT_size _ _ _ _ hnt hs)
        have hle : T.lengthOf id = (runes nd.text : Int) := by
          rw [lengthOf_eq, hg]
          show (if nd.tag = -1 then _ else if nd.tag = 0 then _ else _) = _
          rw [if_neg (by omega), if_pos ht]
        have hs9 := len_small hG hg
        have hok : er = 0 → okI id ∧ StOk T' (movedIf er (repP id a' c' (runes s)) H) := by
          intro e
          rcases htold with ⟨e2, _⟩ | ⟨_, i, nd2, rfl, h1, h2, rfl⟩
          · exact absurd e e2
          · have e3 : nd2 = nd := by
              rw [Tr.get_of h1] at hg
              exact Option.some.inj hg
            subst e3
            subst e
            refine ⟨by unfold okI; omega, ?_⟩
            show StOk _ (if (0 : Int) = 0 then _ else _)
            rw [if_pos rfl]
            obtain ⟨l1, l2⟩ := settext_len (T' := T.setAt i { nd2 with text := anewB (replT nd2.text a' c' s) }) (s := anewB (replT nd2.text a' c' s)) h1 h2 rfl
            have hra := runes_repl_len nd2.text s a' c' (by omega)
            have hrs : (runes s : Int) = ((runeList s s.size 0).length : Int) := rfl
            exact ⟨hG', h.may.map fun n x hm => may_rep l1 (by rw [l2, hra, hle, hrs]) (by omega) (by omega) (by omega) (by rw [hle]; omega) n x hm, offs_moved _ h.offs⟩
        obtain ⟨m1, m2, m3⟩ := movedD_is er (repP id a' c' (runes s)) H
        refine ⟨er, T', _, ?_, m3, ?_, fun w own ptr lb tb hv hb hL => lReplace_any hL hl hw ha id hg ht a' c0 (by omega) s (by omega) hcc (fun W x => pd W own ptr tb (hL.ext x).tree (hL.ext x).ownd) fun e => ⟨(hok e).1, h.okH⟩, fun w F xb rb hD => ?_⟩
        · by_cases e : er = 0
          · exact (hok e).2
          · rcases htold with ⟨_, rfl⟩ | ⟨e2, _⟩
            · unfold movedIf; rw [if_neg e]; exact h
            · exact absurd e2 e
        · rcases htold with ⟨e, e2⟩ | ⟨e, i, nd2, rfl, h1, h2, e3⟩
          · exact .inl ⟨e, e2, by unfold movedIf; rw [if_neg e]⟩
          · refine .inr ⟨e, i, a', runes s, nd2, _, rfl, h1, h2, e3, c', ?_⟩
            unfold movedIf
            rw [if_pos e]
        · rw [m2, ← m1]
          exact dReplace hD (by rw [iOf_len]; exact hl) ha id hg ht a' c0 (by omega) s (by omega) hcc (fun F0 W x hR => pr W F0 rb 0 (.slice none 0 0) hR) fun e => ⟨(hok e).1, h.okPl⟩
    · exact ⟨6, T, H, h, rfl, .inl ⟨by decide, rfl, rfl⟩, fun w own ptr lb tb hv hb hL => lReplace_kind hL id a c s hg ht, fun w F xb rb hD => dReplace_kind hD id a c s hg ht⟩
theorem RdN.agg {g : World} {n : PN} {nv : Value} (h : RdN g n nv) : ∃ v0 v1 v2 v3, nv = .agg #[v0, v1, v2, v3] ∧ v0.oneCell' = true ∧ v1.oneCell' = true ∧ v2.oneCell' = true ∧ v3.oneCell' = true := by
  obtain ⟨av, kv, rfl, ha, hk⟩ := h.open
  obtain ⟨naa, nac, en0, _⟩ := ha.len_of
  obtain ⟨nka, nkc, en1, _⟩ := hk
  subst en0 en1
  exact ⟨_, _, _, _, rfl, rfl, rfl, rfl, rfl⟩
theorem Graft_both (h : StOk T H) (hl : H.length ≤ 100000) (p q : Int) (n : PN) (hsh : n.short = true) (hsz : n.size ≤ 90000) : ∃ x er T' H', StOk T' H' ∧ H'.length = H.length ∧
    (∀ (g w : World) (own : Ow) (ptr : Nat → Nat) (lb tb : Nat) (hv : Value) (hb : Option Nat) (nv : Value), LiveAt w own ptr lb tb T hv hb H → RdN g n nv → Apart g own w → Calls Tryz.prog 28 #[.pointer (some ⟨lb, 0, none⟩), .int .i64 p, .int .i64 q, nv] w (LTwo own lb tb hb w x er T' H')) ∧
    (∀ (g w : World) (F : Nat → Prop) (xb rb : Nat) (nv : Value), DocOn w F xb rb T (iOf H) (pOf H) → RdN g n nv → RApart g F w → Calls Tryz.prog 39 #[.pointer (some ⟨xb, 0, none⟩), .int .i64 p, .int .i64 q, nv] w (DTwoAft F w xb rb x er T' (iOf H') (pOf H'))) := by
  obtain ⟨x, er, T', hG', htold, pd, pr⟩ := Graft_told h.good p q n hsh hsz
  have hG := h.good
  obtain ⟨⟨d, hw⟩, ha⟩ := h.good
  have hok : er = 0 → okI p ∧ okI q ∧ StOk T' (movedIf er (insP p q 1) H) := by
    intro e
    rcases htold with ⟨e2, _⟩ | ⟨_, p', a', m, pd', kd, rfl, rfl, h1, h2, h3, h4, h5, rfl⟩
    · exact absurd e e2
    · have hs9 := len_small hG (Tr.get_of h1)
      have hk := hw.kids_len h1
      subst e
      refine ⟨by unfold okI; omega, by unfold okI; omega, ?_⟩
      show StOk _ (if (0 : Int) = 0 then _ else _)
      rw [if_pos rfl]
      exact ⟨hG', h.may.grafted h1 h2 (tag_ne hw h1) h3 h4 h5, offs_moved _ h.offs⟩
  obtain ⟨m1, m2, m3⟩ := movedD_is er (insP p q 1) H
  refine ⟨x, er, T', _, ?_, m3, fun g w own ptr lb tb hv hb nv hL hr hap => ?_, fun g w F xb rb nv hD hr hap => ?_⟩
  · by_cases e : er = 0
    · exact (hok e).2.2
    · rcases htold with ⟨_, rfl⟩ | ⟨e2, _⟩
      · unfold movedIf; rw [if_neg e]; exact h
      · exact absurd e2 e
  · obtain ⟨v0, v1, v2, v3, rfl, o⟩ := hr.agg
    exact lGraft_any hL hl p q v0 v1 v2 v3 (fun W y => pd g W own ptr tb _ (hL.ext y).tree (hL.ext y).ownd hr (hap.ext y)) o fun e => ⟨(hok e).1, (hok e).2.1, h.okH⟩
  · obtain ⟨v0, v1, v2, v3, rfl, o⟩ := hr.agg
    rw [m2, ← m1]
    exact dGraft hD (by rw [iOf_len]; exact hl) p q v0 v1 v2 v3 (fun F0 W y hsub hR => pr g W F0 rb _ hR hr ((hap.ext y).narrow hsub)) o fun e => ⟨(hok e).1, (hok e).2.1, h.okPl⟩
/-- the first free slot, or none -/
theorem first_free (H : List Hd) : (∀ x ∈ H, x.off ≠ 1) ∨ ∃ (i : Nat) (x : Hd), H[i]? = some x ∧ x.off = 1 ∧ ∀ y ∈ H.take i, y.off ≠ 1 := by
  induction H with
  | nil => exact .inl fun x hx => by cases hx
  | cons x H ih =>
    by_cases h : x.off = 1
    · exact .inr ⟨0, x, rfl, h, fun y hy => by cases hy⟩
    · rcases ih with ih | ⟨i, y, h1, h2, h3⟩
      · exact .inl fun y hy => by
          rcases List.mem_cons.1 hy with rfl | hy
          · exact h
          · exact ih y hy
      · exact .inr ⟨i + 1, y, h1, h2, fun z hz => by
          rw [List.take_succ_cons] at hz
          rcases List.mem_cons.1 hz with rfl | hz
          · exact h
          · exact h3 z hz⟩
theorem iOf_set (H : List Hd) (k : Nat) (x : Hd) : iOf (H.set k x) = (iOf H).set k (if x.off = 0 then 1 else 0) := by unfold iOf; rw [List.map_set]
theorem pOf_set (H : List Hd) (k : Nat) (x : Hd) : pOf (H.set k x) = (pOf H).set k (x.node, x.at') := by unfold pOf; rw [List.map_set]
theorem StOk.set (h : StOk T H) (k : Nat) {x : Hd} (hx : x.off = 0 ∧ T.may x.node x.at' = true ∨ x = ⟨0, 0, 1⟩) : StOk T (H.set k x) := by
  have key : ∀ y ∈ H.set k x, y = x ∨ y ∈ H := fun y hy => by
    rcases List.mem_or_eq_of_mem_set hy with h | h
    · exact .inr h
    · exact .inl h
  refine ⟨h.good, fun y hy h0 => ?_, fun y hy => ?_⟩
  · rcases key y hy with rfl | hy
    · rcases hx with hx | hx
      · exact hx.2
      · rw [hx] at h0; cases h0
    · exact h.may y hy h0
  · rcases key y hy with rfl | hy
    · rcases hx with hx | hx
      · exact .inl hx.1
      · exact .inr hx
    · exact h.offs y hy
theorem Hold_both (h : StOk T H) (hl : H.length ≤ 100000) (n a : Int) : ∃ (x er : Int) (H' : List Hd), StOk T H' ∧ H.length ≤ H'.length ∧ H'.length ≤ H.length + 1 ∧
    (T.may n a = true → er = 0 ∧ ∃ k : Nat, x = (k : Int) ∧ H'[k]? = some ⟨n, a, 0⟩ ∧ ∀ j : Nat, heldAt H j ≠ none → H'[j]? = H[j]?) ∧
    (∀ (w : World) (own : Ow) (ptr : Nat → Nat) (lb tb : Nat) (hv : Value) (hb : Option Nat), LiveAt w own ptr lb tb T hv hb H → Calls Tryz.prog 21 #[.pointer (some ⟨lb, 0, none⟩), pl n a] w (LTwo own lb tb hb w x er T H')) ∧
    (∀ (w : World) (F : Nat → Prop) (xb rb : Nat), DocOn w F xb rb T (iOf H) (pOf H) → Calls Tryz.prog 40 #[.pointer (some ⟨xb, 0, none⟩), pl n a] w (DTwoAft F w xb rb x er T (iOf H') (pOf H'))) := by
  obtain ⟨⟨d, hw⟩, ha⟩ := h.good
  have hM : ∀ {W0 W : World} {F : Nat → Prop} {xb rb : Nat}, DocOn W0 F xb rb T (iOf H) (pOf H) → Ext W0 W → Calls Tryz.prog 102 #[.pointer (some ⟨rb, 0, none⟩), pl n a] W (RVal (.bool (T.may n a)) W) := fun hD x => rMay (hD.ref.ext x) hw ha n a
  cases hm : T.may n a with
  | false =>
    rw [hm] at hM
    exact ⟨0, 1, H, h, Nat.le_refl _, Nat.le_succ _, (fun e => by cases e), fun w own ptr lb tb hv hb hL => lHold_no hL hw ha n a hm, fun w F xb rb hD => dHold_no hD n a fun W x => hM hD x⟩
  | true =>
    rw [hm] at hM
    rcases first_free H with hno | ⟨i, x, h1, h2, h3⟩
    · have hno2 : ∀ y ∈ iOf H, y ≠ 0 := by
        intro y hy
        obtain ⟨z, hz, rfl⟩ := List.mem_map.1 hy
        have hz0 : z.off = 0 := by
          rcases h.offs z hz with e | e
          · exact e
          · exact absurd (by rw [e]) (hno z hz)
        rw [if_pos hz0]
        decide
      refine ⟨H.length, 0, H ++ [(⟨n, a, 0⟩ : Hd)], ⟨h.good, fun y hy h0 => ?_, fun y hy => ?_⟩, by simp, by simp, fun _ => ⟨rfl, H.length, rfl, by simp, fun j hj => ?_⟩, fun w own ptr lb tb hv hb hL => (lHold_add hL hw ha n a hm hno hl).mono fun _ _ h => h, fun w F xb rb hD => ?_⟩
      · rcases List.mem_append.1 hy with hy | hy
        · exact h.may y hy h0
        · rw [List.mem_singleton.1 hy]; exact hm
      · rcases List.mem_append.1 hy with hy | hy
        · exact h.offs y hy
        · rw [List.mem_singleton.1 hy]; exact .inl rfl
      · cases hh : heldAt H (j : Int) with
        | none => exact absurd hh hj
        | some y =>
          obtain ⟨i, e, h1, _⟩ := heldAt_some hh
          have : j = i := by omega
          subst this
          exact List.getElem?_append_left (List.getElem?_eq_some_iff.1 h1).1
      · have h9 := dHold_add hD (by rw [iOf_len]; exact hl) n a hno2 fun W x => hM hD x
        rw [iOf_len] at h9
        have e1 : iOf (H ++ [⟨n, a, 0⟩]) = iOf H ++ [1] := by simp [iOf]
        have e2 : pOf (H ++ [⟨n, a, 0⟩]) = pOf H ++ [(n, a)] := by simp [pOf]
        rw [e1, e2]
        exact h9
    · have hil := (List.getElem?_eq_some_iff.1 h1).1
      refine ⟨i, 0, H.set i ⟨n, a, 0⟩, h.set i (.inl ⟨rfl, hm⟩), by simp, by simp, fun _ => ⟨rfl, i, rfl, by simp [hil], fun j hj => ?_⟩, fun w own ptr lb tb hv hb hL => (lHold_at hL hw ha n a hm h1 h2 h3 hl).mono fun _ _ h => h, fun w F xb rb hD => ?_⟩
      · cases hh : heldAt H (j : Int) with
        | none => exact absurd hh hj
        | some y =>
          obtain ⟨i2, e, h4, h5⟩ := heldAt_some hh
          have : j = i2 := by omega
          subst this
          have hne : i ≠ j := fun e => by
            subst e
            rw [h1] at h4
            cases h4
            omega
          rw [List.getElem?_set_ne hne]
      · have h9 := dHold_at hD (by rw [iOf_len]; exact hl) n a (i := i) (by
          unfold iOf
          rw [List.getElem?_map, h1]
          show some (if x.off = 0 then 1 else 0) = some 0
          rw [if_neg (by omega)]) (fun j y hj hy => by
          unfold iOf at hy
          rw [List.getElem?_map] at hy
          cases hz : H[j]? with
          | none => rw [hz] at hy; cases hy
          | some z =>
            rw [hz] at hy
            have hm2 : z ∈ H.take i := List.mem_of_getElem? (by rw [List.getElem?_take_of_lt hj]; exact hz)
            have h5 := h3 z hm2
            have hz0 : z.off = 0 := by
              rcases h.offs z (List.mem_of_getElem? hz) with e | e
              · exact e
              · exact absurd (by rw [e]) h5
            have h6 : (if z.off = 0 then (1 : Int) else 0) = y := Option.some.inj hy
            rw [if_pos hz0] at h6
            omega) fun W x => hM hD x
        rw [iOf_set, pOf_set]
        exact h9
theorem hasI_held (h : ∀ x ∈ H, x.off = 0 ∨ x = ⟨0, 0, 1⟩) (k : Int) : hasI (iOf H) k = (heldAt H k).isSome := by
  unfold hasI heldAt iOf
  by_cases h0 : k < 0
  · rw [if_pos h0, decide_eq_false (by omega)]; rfl
  · rw [if_neg h0, decide_eq_true (by omega), Bool.true_and, List.getElem?_map]
    cases hx : H[k.toNat]? with
    | none => rfl
    | some x =>
      show (some (if x.off = 0 then (1 : Int) else 0) == some 1) = (if x.off = 0 then some x else none).isSome
      by_cases h1 : x.off = 0
      · rw [if_pos h1, if_pos h1]; rfl
      · rw [if_neg h1, if_neg h1]; rfl
theorem Place_both (h : StOk T H) (hl : H.length ≤ 100000) (k n a : Int) : ∃ er H', StOk T H' ∧ H'.length = H.length ∧
    PairE H T 41 42 #[.int .i64 k, pl n a] #[.int .i64 k, pl n a] er T H' := by
  obtain ⟨⟨d, hw⟩, ha⟩ := h.good
  refine ⟨placeErr H T k n a, placed H T k n a, ?_, ?_, fun w own ptr lb tb hv hb hL => lPlace_any hL hw ha k n a hl, fun w F xb rb hD => ?_⟩
  · unfold placed
    split
    · rename_i hc
      rw [Bool.and_eq_true] at hc
      exact h.set _ (.inl ⟨rfl, hc.2⟩)
    · exact h
  · unfold placed
    split
    · simp
    · rfl
  · have h9 := dPlace hD k n a (by rw [iOf_len]; exact hl) (mb := T.may n a) fun W x => rMay (hD.ref.ext x) hw ha n a
    rw [hasI_held h.offs] at h9
    have e1 : iOf (placed H T k n a) = iOf H := by
      unfold placed
      split
      · rename_i hc
        rw [Bool.and_eq_true] at hc
        rw [iOf_set, if_pos rfl]
        cases hh : heldAt H k with
        | none => rw [hh] at hc; cases hc.1
        | some x =>
          obtain ⟨i, rfl, h1, h2⟩ := heldAt_some hh
          rw [Int.toNat_natCast]
          have h3 : (iOf H)[i]? = some 1 := by
            unfold iOf
            rw [List.getElem?_map, h1]
            show some (if x.off = 0 then (1 : Int) else 0) = some 1
            rw [if_pos h2]
          obtain ⟨h4, h5⟩ := List.getElem?_eq_some_iff.1 h3
          rw [← h5]; exact List.set_getElem_self h4
      · rfl
    have e2 : pOf (placed H T k n a) = if ((heldAt H k).isSome && T.may n a) = true then (pOf H).set k.toNat (n, a) else pOf H := by
      unfold placed
      split
      · rw [pOf_set]
      · rfl
    have e3 : placeErr H T k n a = if (heldAt H k).isSome = true then (if T.may n a = true then 0 else 1) else 2 := rfl
    rw [e1, e2, e3]
    exact h9
theorem Free_both (h : StOk T H) (hl : H.length ≤ 100000) (k : Int) : ∃ er H', StOk T H' ∧ H'.length = H.length ∧
    PairE H T 16 43 #[.int .i64 k] #[.int .i64 k] er T H' := by
  refine ⟨freeErr H k, freed H k, ?_, ?_, fun w own ptr lb tb hv hb hL => lFree_any hL k hl, fun w F xb rb hD => ?_⟩
  · unfold freed
    split
    · exact h.set _ (.inr rfl)
    · exact h
  · unfold freed
    split
    · simp
    · rfl
  · have h9 := dFree hD k (by rw [iOf_len]; exact hl)
    rw [hasI_held h.offs] at h9
    have e1 : iOf (freed H k) = if (heldAt H k).isSome = true then (iOf H).set k.toNat 0 else iOf H := by
      unfold freed
      split
      · rw [iOf_set]; rfl
      · rfl
    have e2 : pOf (freed H k) = if (heldAt H k).isSome = true then (pOf H).set k.toNat (0, 0) else pOf H := by
      unfold freed
      split
      · rw [pOf_set]
      · rfl
    have e3 : freeErr H k = if (heldAt H k).isSome = true then 0 else 2 := rfl
    rw [e1, e2, e3]
    exact h9
theorem StOk.keeps (h : StOk T H) (hG : GoodT T') (k : Keeps T T') : StOk T' H := ⟨hG, k.mayH h.may, h.offs⟩
end
end Go.Proofs.YthgnbbbdcebjhaaGreat

namespace Go.Proofs.YthgnbbbdcebjhaaGreat
open Go Go.RowKit Go.BigFrame
set_option linter.unusedVariables false
set_option linter.unusedSimpArgs false

/-- a live tree's own blocks -/
def Lv (own : Ow) (lb : Nat) (hb : Option Nat) (b : Nat) : Prop := own b ≠ none ∨ b = lb ∨ hb = some b
/-- the live tree at lb tells T1 and H1, the document's at xb T2 and H2; g is read apart from both, the blocks of L are others' -/
structure LJ (w0 w : World) (lb xb : Nat) (T1 : Tr) (H1 : List Hd) (T2 : Tr) (H2 : List Hd) (g : World) (L : Nat → Prop) : Prop where
  out : ∃ (own : Ow) (ptr : Nat → Nat) (tb : Nat) (hv : Value) (hb : Option Nat) (F : Nat → Prop) (rb : Nat), LiveAt w own ptr lb tb T1 hv hb H1 ∧ DocOn w F xb rb T2 (iOf H2) (pOf H2) ∧ (∀ b, F b → ¬ Lv own lb hb b ∧ b < w.heap.size ∧ w0.heap.size ≤ b) ∧ (∀ b, Lv own lb hb b → w0.heap.size ≤ b) ∧
    (∀ q y, g.cell? q = some y → w.cell? q = some y ∧ ¬ Lv own lb hb q.block ∧ ¬ F q.block) ∧ (∀ b, L b → ¬ Lv own lb hb b ∧ ¬ F b ∧ b < w.heap.size)
  ext : Ext w0 w
section
variable {w w' : World} {own : Ow} {ptr : Nat → Nat} {lb tb : Nat} {T : Tr} {hv : Value} {hb : Option Nat} {H : List Hd}
theorem LiveAt.lv_lt (h : LiveAt w own ptr lb tb T hv hb H) {b : Nat} (hb' : Lv own lb hb b) : b < w.heap.size := by
  rcases hb' with e | e | e
  · exact h.ownd b e
  · rw [e]; exact h.lt
  · exact (h.nrow b e).2.2
theorem LStep.lv {own' : Ow} {hb' : Option Nat} (h : LStep own lb hb w own' hb' w') {b : Nat} (hl : b < w.heap.size) (k : Lv own' lb hb' b) : Lv own lb hb b := by
  rcases k with e | e | e
  · exact .inl (by rw [← h.same b hl]; exact e)
  · exact .inr (.inl e)
  · rcases h.hold b e with e | e
    · exact .inr (.inr e)
    · omega
end
variable {w0 w w' g : World} {lb xb : Nat} {T1 T2 : Tr} {H1 H2 : List Hd} {L : Nat → Prop}
theorem LJ.live (h : LJ w0 w lb xb T1 H1 T2 H2 g L) : ∃ own ptr tb hv hb, LiveAt w own ptr lb tb T1 hv hb H1 := by
  obtain ⟨own, ptr, tb, hv, hb, F, rb, h1, _⟩ := h.out
  exact ⟨own, ptr, tb, hv, hb, h1⟩
theorem LJ.doc (h : LJ w0 w lb xb T1 H1 T2 H2 g L) : ∃ F rb, DocOn w F xb rb T2 (iOf H2) (pOf H2) := by
  obtain ⟨own, ptr, tb, hv, hb, F, rb, _, h2, _⟩ := h.out
  exact ⟨F, rb, h2⟩
theorem LJ.told (h : LJ w0 w lb xb T1 H1 T2 H2 g L) {q : Addr} {y : Value} (hq : g.cell? q = some y) : w.cell? q = some y := by
  obtain ⟨own, ptr, tb, hv, hb, F, rb, h1, h2, h3, h4, h5, h6⟩ := h.out
  exact (h5 q y hq).1
theorem LJ.cells (h : LJ w0 w lb xb T1 H1 T2 H2 g L) : Cells g w := fun q y hq => h.told hq
theorem LJ.more (h : LJ w0 w lb xb T1 H1 T2 H2 g L) (x : Ext w w') : LJ w0 w' lb xb T1 H1 T2 H2 g L := by
  obtain ⟨own, ptr, tb, hv, hb, F, rb, h1, h2, h3, h4, h5, h6⟩ := h.out
  exact ⟨⟨own, ptr, tb, hv, hb, F, rb, h1.ext x, h2.ext x, fun b hb => ⟨(h3 b hb).1, Nat.lt_of_lt_of_le (h3 b hb).2.1 x.size, (h3 b hb).2.2⟩, h4, fun q y hq => ⟨x.cells _ _ (h5 q y hq).1, (h5 q y hq).2⟩, fun b hb => ⟨(h6 b hb).1, (h6 b hb).2.1, Nat.lt_of_lt_of_le (h6 b hb).2.2 x.size⟩⟩, h.ext.trans x⟩
/-- what was there at first, and what has come since -/
def gap (w0 w w' : World) : World := hide (fun y => if y < w0.heap.size ∨ w.heap.size ≤ y then none else some (0, 0)) w'
theorem gap_cell {q : Addr} {y : Value} (h : w'.cell? q = some y) (k : q.block < w0.heap.size ∨ w.heap.size ≤ q.block) : (gap w0 w w').cell? q = some y := hide_cell h (if_pos k)
theorem gap_old (x : Ext w0 w') : Cells w0 (gap w0 w w') := fun q y hq => gap_cell (x.cells _ _ hq) (.inl (World.block_lt_of_cell? _ _ hq))
theorem gap_new {b : Nat} {cs : Array Value} {t : TypeId} {fr : Nat × Nat} (h : w'.heap[b]? = some (.cells cs t fr)) (hb : w.heap.size ≤ b) {i : Nat} {v : Value} (hi : cs[i]? = some v) : (gap w0 w w').cell? ⟨b, i, none⟩ = some v := gap_cell (q := ⟨b, i, none⟩) (cellOf h hi) (.inr hb)
/-- new memory is read, and is nobody's -/
theorem LJ.grow (h : LJ w0 w lb xb T1 H1 T2 H2 g L) (x : Ext w w') : LJ w0 w' lb xb T1 H1 T2 H2 (gap w0 w w') (fun b => w.heap.size ≤ b ∧ b < w'.heap.size) := by
  obtain ⟨own, ptr, tb, hv, hb, F, rb, h1, h2, h3, h4, h5, h6⟩ := h.out
  have hn : ∀ b, b < w0.heap.size ∨ w.heap.size ≤ b → ¬ Lv own lb hb b ∧ ¬ F b := fun b hb' => by
    refine ⟨fun e => ?_, fun e => ?_⟩
    · have a1 := h1.lv_lt e
      have a2 := h4 b e
      omega
    · have := h3 b e
      omega
  refine ⟨⟨own, ptr, tb, hv, hb, F, rb, h1.ext x, h2.ext x, fun b hb => ⟨(h3 b hb).1, Nat.lt_of_lt_of_le (h3 b hb).2.1 x.size, (h3 b hb).2.2⟩, h4, fun q y hq => ?_, fun b hb => ⟨(hn b (.inr hb.1)).1, (hn b (.inr hb.1)).2, hb.2⟩⟩, h.ext.trans x⟩
  obtain ⟨a1, a2⟩ := hide_apart _ _ q y hq
  dsimp only at a2
  split at a2
  · rename_i a3
    exact ⟨a1, hn _ a3⟩
  · cases a2
theorem LJ.base (h : LJ w0 w lb xb T1 H1 T2 H2 g L) : LJ w0 w lb xb T1 H1 T2 H2 w0 L := by
  obtain ⟨own, ptr, tb, hv, hb, F, rb, h1, h2, h3, h4, h5, h6⟩ := h.out
  refine ⟨⟨own, ptr, tb, hv, hb, F, rb, h1, h2, h3, h4, fun q y hq => ?_, h6⟩, h.ext⟩
  have hl := World.block_lt_of_cell? _ _ hq
  exact ⟨h.ext.cells _ _ hq, fun e => by have := h4 _ e; omega, fun hf => by have := h3 _ hf; omega⟩
theorem LJ.free (h : LJ w0 w lb xb T1 H1 T2 H2 g L) : LJ w0 w lb xb T1 H1 T2 H2 g (fun _ => False) := by
  obtain ⟨own, ptr, tb, hv, hb, F, rb, h1, h2, h3, h4, h5, h6⟩ := h.out
  exact ⟨⟨own, ptr, tb, hv, hb, F, rb, h1, h2, h3, h4, h5, fun b hb => hb.elim⟩, h.ext⟩
/-- a call of the live tree -/
theorem LJ.liveL (h : LJ w0 w lb xb T1 H1 T2 H2 g L) {P : Program} {f : FuncId} {args : Array Value} {v : Value} {T' : Tr} {H' : List Hd}
    (hd : ∀ (own : Ow) (ptr : Nat → Nat) (tb : Nat) (hv : Value) (hb : Option Nat), LiveAt w own ptr lb tb T1 hv hb H1 → Apart g own w → Calls P f args w fun e w' => e = .returned v ∧ LAfter own lb tb hb w T' H' w') :
    Calls P f args w fun e w' => (e = .returned v ∧ LJ w0 w' lb xb T' H' T2 H2 g L) ∧ ∀ b, L b → w'.heap[b]? = w.heap[b]? := by
  obtain ⟨own, ptr, tb, hv, hb, F, rb, h1, h2, h3, h4, h5, h6⟩ := h.out
  refine (hd own ptr tb hv hb h1 fun q y hq => ⟨(h5 q y hq).1, Decidable.byContradiction fun e => (h5 q y hq).2.1 (.inl e)⟩).mono fun e w' hh => ?_
  obtain ⟨own', ptr', hv', hb', k1, k2⟩ := hh.2
  have km : Mv (Lv own lb hb) w w' := k2.mv
  refine ⟨⟨hh.1, ?_⟩, fun b hb => km.rest b (h6 b hb).2.2 (h6 b hb).1⟩
  have hs := km.size
  have hw0 := h.ext.size
  have hext : Ext w0 w' := ⟨km.os.trans (Below.os h.ext), km.tape.trans (Below.tape h.ext), km.output.trans (Below.output h.ext), Nat.le_trans hw0 hs, fun b hb => (km.rest b (by omega) (fun e => by have := h4 b e; omega)).trans (Below.block h.ext b hb)⟩
  refine ⟨⟨own', ptr', tb, hv', hb', F, rb, k1, h2.mv km fun b hb => (h3 b hb).1, fun b hb => ⟨fun e => (h3 b hb).1 (k2.lv (h3 b hb).2.1 e), Nat.lt_of_lt_of_le (h3 b hb).2.1 hs, (h3 b hb).2.2⟩, fun b hb => ?_, fun q y hq => ?_, fun b hb => ⟨fun e => (h6 b hb).1 (k2.lv (h6 b hb).2.2 e), (h6 b hb).2.1, Nat.lt_of_lt_of_le (h6 b hb).2.2 hs⟩⟩, hext⟩
  · rcases Nat.lt_or_ge b w.heap.size with a | a
    · exact h4 b (k2.lv a hb)
    · omega
  · obtain ⟨a1, a2, a3⟩ := h5 q y hq
    have hl := World.block_lt_of_cell? _ _ a1
    exact ⟨(World.cell?_of_block (km.rest _ hl a2)).trans a1, fun e => a2 (k2.lv hl e), a3⟩
/-- a call of the document's tree -/
theorem LJ.docL (h : LJ w0 w lb xb T1 H1 T2 H2 g L) {P : Program} {f : FuncId} {args : Array Value} {v : Value} {T' : Tr} {H' : List Hd}
    (hd : ∀ (F : Nat → Prop) (rb : Nat), DocOn w F xb rb T2 (iOf H2) (pOf H2) → RApart g F w → Calls P f args w fun e w' => e = .returned v ∧ DAft F w xb rb T' (iOf H') (pOf H') w') :
    Calls P f args w fun e w' => (e = .returned v ∧ LJ w0 w' lb xb T1 H1 T' H' g L) ∧ ∀ b, L b → w'.heap[b]? = w.heap[b]? := by
  obtain ⟨own, ptr, tb, hv, hb, F, rb, h1, h2, h3, h4, h5, h6⟩ := h.out
  refine (hd F rb h2 fun q y hq => ⟨(h5 q y hq).1, (h5 q y hq).2.2⟩).mono fun e w' hh => ?_
  obtain ⟨k1, k2⟩ := hh.2
  refine ⟨⟨hh.1, ?_⟩, fun b hb => k2.rest b (h6 b hb).2.2 (h6 b hb).2.1⟩
  have hs := k2.size
  have hw0 := h.ext.size
  have hF0 : ∀ b, b < w0.heap.size → ¬ F b := fun b hb hf => by have := h3 b hf; omega
  have hLv : ∀ b, Lv own lb hb b → ¬ F b := fun b hb hf => (h3 b hf).1 hb
  refine ⟨⟨own, ptr, tb, hv, hb, fun b => (F b ∨ w.heap.size ≤ b) ∧ b < w'.heap.size, rb, h1.mv k2 (fun b hb => hLv b (.inl hb)) (hLv lb (.inr (.inl rfl))) (fun b hb => hLv b (.inr (.inr hb))), k1.lt, fun b hb => ?_, h4, fun q y hq => ?_, fun b hb => ?_⟩, ?_⟩
  · rcases hb with ⟨hb | hb, hl⟩
    · obtain ⟨a1, a2, a3⟩ := h3 b hb
      exact ⟨a1, hl, a3⟩
    · exact ⟨fun e => by have := h1.lv_lt e; omega, hl, by omega⟩
  · obtain ⟨a1, a2, a3⟩ := h5 q y hq
    have hl := World.block_lt_of_cell? _ _ a1
    exact ⟨(World.cell?_of_block (k2.rest _ hl a3)).trans a1, a2, fun hf => by rcases hf.1 with hf | hf; exact a3 hf; omega⟩
  · obtain ⟨a1, a2, a3⟩ := h6 b hb
    exact ⟨a1, fun hf => by rcases hf.1 with hf | hf; exact a2 hf; omega, Nat.lt_of_lt_of_le a3 hs⟩
  · exact ⟨k2.os.trans (Below.os h.ext), k2.tape.trans (Below.tape h.ext), k2.output.trans (Below.output h.ext), Nat.le_trans hw0 hs, fun b hb => (k2.rest b (by omega) (hF0 b hb)).trans (Below.block h.ext b hb)⟩
theorem LJ.live_ (h : LJ w0 w lb xb T1 H1 T2 H2 g L) {P : Program} {f : FuncId} {args : Array Value} {v : Value} {T' : Tr} {H' : List Hd}
    (hd : ∀ (own : Ow) (ptr : Nat → Nat) (tb : Nat) (hv : Value) (hb : Option Nat), LiveAt w own ptr lb tb T1 hv hb H1 → Apart g own w → Calls P f args w fun e w' => e = .returned v ∧ LAfter own lb tb hb w T' H' w') :
    Calls P f args w fun e w' => e = .returned v ∧ LJ w0 w' lb xb T' H' T2 H2 g L := (h.liveL hd).mono fun _ _ k => k.1
theorem LJ.doc_ (h : LJ w0 w lb xb T1 H1 T2 H2 g L) {P : Program} {f : FuncId} {args : Array Value} {v : Value} {T' : Tr} {H' : List Hd}
    (hd : ∀ (F : Nat → Prop) (rb : Nat), DocOn w F xb rb T2 (iOf H2) (pOf H2) → RApart g F w → Calls P f args w fun e w' => e = .returned v ∧ DAft F w xb rb T' (iOf H') (pOf H') w') :
    Calls P f args w fun e w' => e = .returned v ∧ LJ w0 w' lb xb T1 H1 T' H' g L := (h.docL hd).mono fun _ _ k => k.1
/-- a call of the tree within the live one -/
theorem LiveAt.inner {own : Ow} {ptr : Nat → Nat} {tb : Nat} {hv : Value} {hb : Option Nat} {T T' : Tr} {H : List Hd} (h : LiveAt w own ptr lb tb T hv hb H) (k : After own w tb T' w') : LAfter own lb tb hb w T' H w' := by
  obtain ⟨own', ptr', h1, h2, _⟩ := h.after k
  exact ⟨own', ptr', hv, hb, h1, h2⟩
end Go.Proofs.YthgnbbbdcebjhaaGreat

namespace Go.Proofs.YthgnbbbdcebjhaaGreat
open Go Go.RowKit Go.BigFrame
set_option linter.unusedVariables false
set_option linter.unusedSimpArgs false

def DoesIs11 (w0 : World) (lb xb : Nat) (H : List Hd) (e : Ending) (w' : World) : Prop := e = .returned (.bool true) ∧ ∃ T' H', StOk T' H' ∧ H'.length ≤ H.length + 1 ∧ LJ w0 w' lb xb T' H' T' H' w0 (fun _ => False)
theorem tmod14 (x : Int) : -14 < x.tmod 14 ∧ x.tmod 14 < 14 := by
  have h1 := Int.tmod_lt_of_pos x (show (0 : Int) < 14 by decide)
  have h2 := Int.lt_tmod_of_pos x (show (0 : Int) < 14 by decide)
  omega
theorem PN.light_short : ∀ n : PN, n.light = true → n.short = true := by
  refine PN.induct _ fun n ih h => ?_
  rw [PN.light_eq] at h
  simp at h
  rw [PN.short_eq]
  have : ∀ l : List PN, (∀ k ∈ l, k ∈ n.kids) → PN.lights l = true → PN.shorts l = true := by
    intro l
    induction l with
    | nil => intro _ _; rfl
    | cons x r ih2 =>
      intro hm hl
      simp only [PN.lights, Bool.and_eq_true] at hl
      simp only [PN.shorts, Bool.and_eq_true]
      exact ⟨ih x (hm x (by simp)) hl.1, ih2 (fun k hk => hm k (by simp [hk])) hl.2⟩
  simp
  exact ⟨⟨by omega, by omega⟩, this n.kids (fun k hk => hk) h.2⟩
theorem light_short11 {n : PN} (h : n.light = true) : n.short = true := n.light_short h
end Go.Proofs.YthgnbbbdcebjhaaGreat

namespace Go.Proofs.YthgnbbbdcebjhaaGreat
open Go Go.RowKit Go.BigFrame
set_option linter.unusedVariables false
set_option linter.unusedSimpArgs false

set_option maxRecDepth 100000 in
set_option maxHeartbeats 1000000 in
theorem Does11_2 {w0 w : World} {lb xb : Nat} {T : Tr} {H : List Hd} {L : Nat → Prop} (hS : StOk T H) (hl : H.length ≤ 90000) (hJ : LJ w0 w lb xb T H T H w0 L) {c : Cl} (hc : LightCl c) (hm : (c.what.tmod 14 + 14).tmod 14 = 2) {av c6 c7 c8 c9 : Value} (hra : RowRd w0 2 av c.attrs.length (attrCells c.attrs)) (hrn : RdN w0 c.n (.agg #[c6, c7, c8, c9])) :
    Calls Tryz.prog 10 #[.pointer (some ⟨lb, 0, none⟩), .pointer (some ⟨xb, 0, none⟩), .agg #[.int .i64 c.what, .int .i64 c.a, .int .i64 c.b, .int .i64 c.c, .string c.s, av, c6, c7, c8, c9]] w (DoesIs11 w0 lb xb H) := by
  obtain ⟨g1, g2, g3, g4⟩ := hc
  have g5 := light_short11 g3
  obtain ⟨aa, acap, rfl, hac⟩ := hra.len_of
  obtain ⟨n0, n1, en, hna, hnk⟩ := hrn.open
  obtain ⟨naa, nac, en0, _⟩ := hna.len_of
  obtain ⟨nka, nkc, en1, _⟩ := hnk
  subst en0 en1
  cases en
  have xm1 := (Ext.refl w).alloc (.cells #[.int .i64 c.what, .int .i64 c.a, .int .i64 c.b, .int .i64 c.c, .string c.s, .slice aa c.attrs.length acap, .int .i64 c.n.tag, .slice naa c.n.attrs.length nac, .string c.n.text, .slice nka c.n.kids.length nkc] 39)
  have bM1 := heap_alloc_new w (.cells #[.int .i64 c.what, .int .i64 c.a, .int .i64 c.b, .int .i64 c.c, .string c.s, .slice aa c.attrs.length acap, .int .i64 c.n.tag, .slice naa c.n.attrs.length nac, .string c.n.text, .slice nka c.n.kids.length nkc] 39)
  obtain ⟨w1, hw1⟩ : ∃ W : World, W = w.alloc (.cells #[.int .i64 c.what, .int .i64 c.a, .int .i64 c.b, .int .i64 c.c, .string c.s, .slice aa c.attrs.length acap, .int .i64 c.n.tag, .slice naa c.n.attrs.length nac, .string c.n.text, .slice nka c.n.kids.length nkc] 39) := ⟨_, rfl⟩
  have sz1 : w1.heap.size = w.heap.size + 1 := by rw [hw1]; simp
  rw [← hw1] at xm1 bM1
  have xm2 := (Ext.refl w1).alloc (.cells #[.int .i64 c.a, .int .i64 c.b] 43)
  have bP := heap_alloc_new w1 (.cells #[.int .i64 c.a, .int .i64 c.b] 43)
  obtain ⟨wm, hwm⟩ : ∃ W : World, W = w1.alloc (.cells #[.int .i64 c.a, .int .i64 c.b] 43) := ⟨_, rfl⟩
  rw [← hwm] at xm2 bP
  have bM := xm2.block bM1
  have xm := xm1.trans xm2
  obtain ⟨BX, hBX⟩ : ∃ b, w.heap.size = b := ⟨_, rfl⟩
  obtain ⟨BP, hBP⟩ : ∃ b, w1.heap.size = b := ⟨_, rfl⟩
  have hBw : w.heap.size ≤ BX := by omega
  have hPw : w.heap.size ≤ BP := by omega
  have hbp : BP = BX + 1 := by omega
  rw [hBX] at bM
  rw [hBP] at bP
  have J1 := Lib.hid (hJ.grow xm)
  have B1 := Lib.hid (gap_new (w0 := w0) (w := w) bM hBw (i := 1) (v := .int .i64 c.a) rfl)
  have B2 := Lib.hid (gap_new (w0 := w0) (w := w) bM hBw (i := 2) (v := .int .i64 c.b) rfl)
  have B3 := Lib.hid (gap_new (w0 := w0) (w := w) bM hBw (i := 3) (v := .int .i64 c.c) rfl)
  have B4 := Lib.hid (gap_new (w0 := w0) (w := w) bM hBw (i := 4) (v := .string c.s) rfl)
  have B5 := Lib.hid (gap_new (w0 := w0) (w := w) bM hBw (i := 5) (v := .slice aa c.attrs.length acap) rfl)
  have B6 := Lib.hid (gap_new (w0 := w0) (w := w) bM hBw (i := 6) (v := .int .i64 c.n.tag) rfl)
  have B7 := Lib.hid (gap_new (w0 := w0) (w := w) bM hBw (i := 7) (v := .slice naa c.n.attrs.length nac) rfl)
  have B8 := Lib.hid (gap_new (w0 := w0) (w := w) bM hBw (i := 8) (v := .string c.n.text) rfl)
  have B9 := Lib.hid (gap_new (w0 := w0) (w := w) bM hBw (i := 9) (v := .slice nka c.n.kids.length nkc) rfl)
  have P0 := Lib.hid (gap_new (w0 := w0) (w := w) bP hPw (i := 0) (v := .int .i64 c.a) rfl)
  have P1 := Lib.hid (gap_new (w0 := w0) (w := w) bP hPw (i := 1) (v := .int .i64 c.b) rfl)
  have RAO := Lib.hid (hra.cells (gap_old (w := w) (hJ.ext.trans xm)))
  have RNO := Lib.hid (hrn.cells (gap_old (w := w) (hJ.ext.trans xm)))
  have HS := Lib.hid hS
  have G5 := Lib.hid g5
  have XM := Lib.hid xm
  have HWM := Lib.hid hwm
  have HW1 := Lib.hid hw1
  have HBX := Lib.hid hBX
  have HBP := Lib.hid hBP
  have HBB := Lib.hid hbp
  have BM := Lib.hid bM
  have BPL := Lib.hid bP
  have HL := Lib.hid hl
  obtain ⟨m1, m2⟩ := tmod14 c.what
  have e1 : IntKind.i64.wrap (c.what.tmod 14) = c.what.tmod 14 := IntWalk.i64_in _ (by omega)
  have e2 : IntKind.i64.wrap (c.what.tmod 14 + 14) = c.what.tmod 14 + 14 := IntWalk.i64_in _ (by omega)
  have e3 : IntKind.i64.wrap ((c.what.tmod 14 + 14).tmod 14) = 2 := by rw [hm]; rfl
  rw [Int.tmod_eq_emod_of_nonneg (by omega), Int.add_emod_right] at hm
  obtain ⟨x, er, T', hG2, hk, pd, pr⟩ := Text_told hS.good c.s (by omega)
  have HS2 := Lib.hid (hS.keeps hG2 hk)
  have PD := Lib.hid pd
  have PR := Lib.hid pr
  clear hG2 hk pd pr
  clear hJ hra hrn hS hna g3 g5 xm1 bM1 hw1 sz1 xm2 bP hwm bM xm hBX hBP hBw hPw hbp
  go_enter Tryz.func10, Tryz.ntmps10
  go_upto_region 2 with fail
  rw [← HW1.out, HBX.out, ← HBB.out, ← HWM.out]
  have u0 := cellOf BM.out (i := 0) (v := .int .i64 c.what) rfl
  have u1 := cellOf BM.out (i := 1) (v := .int .i64 c.a) rfl
  have u2 := cellOf BM.out (i := 2) (v := .int .i64 c.b) rfl
  have u3 := cellOf BM.out (i := 3) (v := .int .i64 c.c) rfl
  have u4 := cellOf BM.out (i := 4) (v := .string c.s) rfl
  go_upto_region 4 with fail
  clear u0 u1 u2 u3 u4
  obtain ⟨own1, ptr1, tb1, hv1, hb1, hL1⟩ := J1.out.live
  have p1 := hL1.ptr_
  clear hL1
  have r0 : ∀ u : ExtOf wm, u.val.cell? ⟨lb, 0, none⟩ = some (.pointer (some ⟨tb1, 0, none⟩)) := fun u => u.ext.cell p1
  have r1 : ∀ u : ExtOf wm, u.val.cell? ⟨BX, 4, none⟩ = some (.string c.s) := fun u => u.ext.cell (cellOf BM.out rfl)
  refine wp_region_ext_mid 7 _ rfl (by kernel_rfl) (by kernel_rfl) ?_
  simp only [List.take_succ_cons, List.take_zero, List.drop_succ_cons, List.drop_zero]
  repeat (go_big_quiet_step (fail))
  refine wpQuiet_nil ?_
  rintro _ ⟨u, rfl⟩ K hK
  have HK := Lib.hid hK
  have hx := u.ext
  obtain ⟨w5, hw5⟩ : ∃ W, u.val = W := ⟨_, rfl⟩
  rw [hw5] at hx ⊢
  have X5 := Lib.hid hx
  have P5 := Lib.hid (hx.cell p1)
  clear r0 r1 hw5 hK hx p1
  clear u
  go_simp
  go_at_call 31
  refine ((J1.out.more X5.out).live_ (v := .tuple #[.int .i64 x, .int .i64 er]) (T' := T') (H' := H) fun own ptr tb hv hb h1 h2 => ?_).mono ?_
  · have e := h1.ptr_
    rw [P5.out] at e
    cases e
    exact (PD.out _ own ptr tb1 h1.tree h1.ownd).mono fun e w' k => ⟨k.1, h1.inner k.2⟩
  rintro e w6 ⟨rfl, hj⟩
  have J2 := Lib.hid hj
  clear hj
  refine HK.out _ _ ?_
  clear HK K
  repeat (go_big_quiet_step (fail))
  refine wpQuiet_nil ?_
  rintro _ ⟨u, rfl⟩
  have J3 := Lib.hid (J2.out.more u.ext)
  obtain ⟨w7, hw7⟩ : ∃ W, u.val = W := ⟨_, rfl⟩
  rw [hw7] at J3 ⊢
  clear hw7
  clear u
  go_upto_region 5 with fail
  obtain ⟨F1, rb1, hD1⟩ := J3.out.doc
  have p1 := hD1.ptr_
  clear hD1
  have r0 : ∀ u : ExtOf w7, u.val.cell? ⟨xb, 0, none⟩ = some (.pointer (some ⟨rb1, 0, none⟩)) := fun u => u.ext.cell p1
  have r1 : ∀ u : ExtOf w7, u.val.cell? ⟨BX, 4, none⟩ = some (.string c.s) := fun u => u.ext.cell (J3.out.told B4.out)
  refine wp_region_ext_mid 7 _ rfl (by kernel_rfl) (by kernel_rfl) ?_
  simp only [List.take_succ_cons, List.take_zero, List.drop_succ_cons, List.drop_zero]
  repeat (go_big_quiet_step (fail))
  refine wpQuiet_nil ?_
  rintro _ ⟨u, rfl⟩ K hK
  have HK := Lib.hid hK
  have hx := u.ext
  obtain ⟨w8, hw8⟩ : ∃ W, u.val = W := ⟨_, rfl⟩
  rw [hw8] at hx ⊢
  have J3 := Lib.hid (J3.out.more hx)
  have P5 := Lib.hid (hx.cell p1)
  clear r0 r1 hw8 hK hx p1
  clear u
  go_simp
  go_at_call 32
  refine (J3.out.doc_ (v := .tuple #[.int .i64 x, .int .i64 er]) (T' := T') (H' := H) fun F rb h1 h2 => ?_).mono ?_
  · have e := h1.ptr_
    rw [P5.out] at e
    cases e
    obtain ⟨F0, hR, hsub, hA⟩ := h1.tree
    exact (PR.out _ F0 rb1 hR).mono fun e w' k => ⟨k.1, hA _ _ k.2⟩
  rintro e w9 ⟨rfl, hj⟩
  have J4 := Lib.hid hj
  clear hj
  refine HK.out _ _ ?_
  clear HK K
  repeat (go_big_quiet_step (fail))
  refine wpQuiet_nil ?_
  rintro _ ⟨u, rfl⟩
  have J5 := Lib.hid (J4.out.more u.ext)
  obtain ⟨wA, hwA⟩ : ∃ W, u.val = W := ⟨_, rfl⟩
  rw [hwA] at J5 ⊢
  clear hwA
  clear u
  go_wp2_with fail
  go_ret
  exact ⟨rfl, T', H, HS2.out, Nat.le_succ _, J5.out.base.free⟩
set_option maxRecDepth 100000 in
set_option maxHeartbeats 1000000 in
theorem Does11_3 {w0 w : World} {lb xb : Nat} {T : Tr} {H : List Hd} {L : Nat → Prop} (hS : StOk T H) (hl : H.length ≤ 90000) (hJ : LJ w0 w lb xb T H T H w0 L) {c : Cl} (hc : LightCl c) (hm : (c.what.tmod 14 + 14).tmod 14 = 3) {av c6 c7 c8 c9 : Value} (hra : RowRd w0 2 av c.attrs.length (attrCells c.attrs)) (hrn : RdN w0 c.n (.agg #[c6, c7, c8, c9])) :
    Calls Tryz.prog 10 #[.pointer (some ⟨lb, 0, none⟩), .pointer (some ⟨xb, 0, none⟩), .agg #[.int .i64 c.what, .int .i64 c.a, .int .i64 c.b, .int .i64 c.c, .string c.s, av, c6, c7, c8, c9]] w (DoesIs11 w0 lb xb H) := by
  obtain ⟨g1, g2, g3, g4⟩ := hc
  have g5 := light_short11 g3
  obtain ⟨aa, acap, rfl, hac⟩ := hra.len_of
  obtain ⟨n0, n1, en, hna, hnk⟩ := hrn.open
  obtain ⟨naa, nac, en0, _⟩ := hna.len_of
  obtain ⟨nka, nkc, en1, _⟩ := hnk
  subst en0 en1
  cases en
  have xm1 := (Ext.refl w).alloc (.cells #[.int .i64 c.what, .int .i64 c.a, .int .i64 c.b, .int .i64 c.c, .string c.s, .slice aa c.attrs.length acap, .int .i64 c.n.tag, .slice naa c.n.attrs.length nac, .string c.n.text, .slice nka c.n.kids.length nkc] 39)
  have bM1 := heap_alloc_new w (.cells #[.int .i64 c.what, .int .i64 c.a, .int .i64 c.b, .int .i64 c.c, .string c.s, .slice aa c.attrs.length acap, .int .i64 c.n.tag, .slice naa c.n.attrs.length nac, .string c.n.text, .slice nka c.n.kids.length nkc] 39)
  obtain ⟨w1, hw1⟩ : ∃ W : World, W = w.alloc (.cells #[.int .i64 c.what, .int .i64 c.a, .int .i64 c.b, .int .i64 c.c, .string c.s, .slice aa c.attrs.length acap, .int .i64 c.n.tag, .slice naa c.n.attrs.length nac, .string c.n.text, .slice nka c.n.kids.length nkc] 39) := ⟨_, rfl⟩
  have sz1 : w1.heap.size = w.heap.size + 1 := by rw [hw1]; simp
  rw [← hw1] at xm1 bM1
  have xm2 := (Ext.refl w1).alloc (.cells #[.int .i64 c.a, .int .i64 c.b] 43)
  have bP := heap_alloc_new w1 (.cells #[.int .i64 c.a, .int .i64 c.b] 43)
  obtain ⟨wm, hwm⟩ : ∃ W : World, W = w1.alloc (.cells #[.int .i64 c.a, .int .i64 c.b] 43) := ⟨_, rfl⟩
  rw [← hwm] at xm2 bP
  have bM := xm2.block bM1
  have xm := xm1.trans xm2
  obtain ⟨BX, hBX⟩ : ∃ b, w.heap.size = b := ⟨_, rfl⟩
  obtain ⟨BP, hBP⟩ : ∃ b, w1.heap.size = b := ⟨_, rfl⟩
  have hBw : w.heap.size ≤ BX := by omega
  have hPw : w.heap.size ≤ BP := by omega
  have hbp : BP = BX + 1 := by omega
  rw [hBX] at bM
  rw [hBP] at bP
  have J1 := Lib.hid (hJ.grow xm)
  have B1 := Lib.hid (gap_new (w0 := w0) (w := w) bM hBw (i := 1) (v := .int .i64 c.a) rfl)
  have B2 := Lib.hid (gap_new (w0 := w0) (w := w) bM hBw (i := 2) (v := .int .i64 c.b) rfl)
  have B3 := Lib.hid (gap_new (w0 := w0) (w := w) bM hBw (i := 3) (v := .int .i64 c.c) rfl)
  have B4 := Lib.hid (gap_new (w0 := w0) (w := w) bM hBw (i := 4) (v := .string c.s) rfl)
  have B5 := Lib.hid (gap_new (w0 := w0) (w := w) bM hBw (i := 5) (v := .slice aa c.attrs.length acap) rfl)
  have B6 := Lib.hid (gap_new (w0 := w0) (w := w) bM hBw (i := 6) (v := .int .i64 c.n.tag) rfl)
  have B7 := Lib.hid (gap_new (w0 := w0) (w := w) bM hBw (i := 7) (v := .slice naa c.n.attrs.length nac) rfl)
  have B8 := Lib.hid (gap_new (w0 := w0) (w := w) bM hBw (i := 8) (v := .string c.n.text) rfl)
  have B9 := Lib.hid (gap_new (w0 := w0) (w := w) bM hBw (i := 9) (v := .slice nka c.n.kids.length nkc) rfl)
  have P0 := Lib.hid (gap_new (w0 := w0) (w := w) bP hPw (i := 0) (v := .int .i64 c.a) rfl)
  have P1 := Lib.hid (gap_new (w0 := w0) (w := w) bP hPw (i := 1) (v := .int .i64 c.b) rfl)
  have RAO := Lib.hid (hra.cells (gap_old (w := w) (hJ.ext.trans xm)))
  have RNO := Lib.hid (hrn.cells (gap_old (w := w) (hJ.ext.trans xm)))
  have HS := Lib.hid hS
  have G5 := Lib.hid g5
  have XM := Lib.hid xm
  have HWM := Lib.hid hwm
  have HW1 := Lib.hid hw1
  have HBX := Lib.hid hBX
  have HBP := Lib.hid hBP
  have HBB := Lib.hid hbp
  have BM := Lib.hid bM
  have BPL := Lib.hid bP
  have HL := Lib.hid hl
  obtain ⟨m1, m2⟩ := tmod14 c.what
  have e1 : IntKind.i64.wrap (c.what.tmod 14) = c.what.tmod 14 := IntWalk.i64_in _ (by omega)
  have e2 : IntKind.i64.wrap (c.what.tmod 14 + 14) = c.what.tmod 14 + 14 := IntWalk.i64_in _ (by omega)
  have e3 : IntKind.i64.wrap ((c.what.tmod 14 + 14).tmod 14) = 3 := by rw [hm]; rfl
  rw [Int.tmod_eq_emod_of_nonneg (by omega), Int.add_emod_right] at hm
  obtain ⟨er, T', H', hS2, hl2, -, -, pd, pr⟩ := Insert_both hS (by omega) c.a c.b c.c
  have HS2 := Lib.hid hS2
  have HL2 := Lib.hid hl2
  have PD := Lib.hid pd
  have PR := Lib.hid pr
  clear hS2 hl2 pd pr
  clear hJ hra hrn hS hna g3 g5 xm1 bM1 hw1 sz1 xm2 bP hwm bM xm hBX hBP hBw hPw hbp
  go_enter Tryz.func10, Tryz.ntmps10
  go_upto_region 2 with fail
  rw [← HW1.out, HBX.out, ← HBB.out, ← HWM.out]
  have u0 := cellOf BM.out (i := 0) (v := .int .i64 c.what) rfl
  have u1 := cellOf BM.out (i := 1) (v := .int .i64 c.a) rfl
  have u2 := cellOf BM.out (i := 2) (v := .int .i64 c.b) rfl
  have u3 := cellOf BM.out (i := 3) (v := .int .i64 c.c) rfl
  have u4 := cellOf BM.out (i := 4) (v := .string c.s) rfl
  go_upto_region 9 with fail
  go_region_held3 (fun w' => w'.cell? ⟨BX, 1, none⟩ = some (.int .i64 c.a) ∧ w'.cell? ⟨BX, 2, none⟩ = some (.int .i64 c.b) ∧ w'.cell? ⟨BX, 3, none⟩ = some (.int .i64 c.c))
    (first | exact ⟨u1, u2, u3⟩ | exact hkeep | go_keep)
    (first
    | (go_at_call 25; refine ((J1.out.more (Ext.refl wm).drew).live_ (v := .int .i64 er) (T' := T') (H' := H') fun own ptr tb hv hb h1 h2 => PD.out _ own ptr lb tb hv hb h1).mono ?_; rintro e w2 ⟨rfl, hj⟩; have hkeep := (show _ ∧ _ ∧ _ from ⟨hj.told B1.out, hj.told B2.out, hj.told B3.out⟩); have J2 := Lib.hid hj; clear hj)
    | (go_at_call 33; refine (J2.out.doc_ (v := .int .i64 er) (T' := T') (H' := H') fun F rb h1 h2 => PR.out _ F xb rb h1).mono ?_; rintro e w3 ⟨rfl, hj⟩; have hkeep := (show _ ∧ _ ∧ _ from ⟨hj.told B1.out, hj.told B2.out, hj.told B3.out⟩); have J3 := Lib.hid hj; clear hj))
  go_wp2_with fail
  go_ret
  exact ⟨rfl, T', H', HS2.out, by have := HL2.out; omega, J3.out.base.free⟩
set_option maxRecDepth 100000 in
set_option maxHeartbeats 1000000 in
theorem Does11_4 {w0 w : World} {lb xb : Nat} {T : Tr} {H : List Hd} {L : Nat → Prop} (hS : StOk T H) (hl : H.length ≤ 90000) (hJ : LJ w0 w lb xb T H T H w0 L) {c : Cl} (hc : LightCl c) (hm : (c.what.tmod 14 + 14).tmod 14 = 4) {av c6 c7 c8 c9 : Value} (hra : RowRd w0 2 av c.attrs.length (attrCells c.attrs)) (hrn : RdN w0 c.n (.agg #[c6, c7, c8, c9])) :
    Calls Tryz.prog 10 #[.pointer (some ⟨lb, 0, none⟩), .pointer (some ⟨xb, 0, none⟩), .agg #[.int .i64 c.what, .int .i64 c.a, .int .i64 c.b, .int .i64 c.c, .string c.s, av, c6, c7, c8, c9]] w (DoesIs11 w0 lb xb H) := by
  obtain ⟨g1, g2, g3, g4⟩ := hc
  have g5 := light_short11 g3
  obtain ⟨aa, acap, rfl, hac⟩ := hra.len_of
  obtain ⟨n0, n1, en, hna, hnk⟩ := hrn.open
  obtain ⟨naa, nac, en0, _⟩ := hna.len_of
  obtain ⟨nka, nkc, en1, _⟩ := hnk
  subst en0 en1
  cases en
  have xm1 := (Ext.refl w).alloc (.cells #[.int .i64 c.what, .int .i64 c.a, .int .i64 c.b, .int .i64 c.c, .string c.s, .slice aa c.attrs.length acap, .int .i64 c.n.tag, .slice naa c.n.attrs.length nac, .string c.n.text, .slice nka c.n.kids.length nkc] 39)
  have bM1 := heap_alloc_new w (.cells #[.int .i64 c.what, .int .i64 c.a, .int .i64 c.b, .int .i64 c.c, .string c.s, .slice aa c.attrs.length acap, .int .i64 c.n.tag, .slice naa c.n.attrs.length nac, .string c.n.text, .slice nka c.n.kids.length nkc] 39)
  obtain ⟨w1, hw1⟩ : ∃ W : World, W = w.alloc (.cells #[.int .i64 c.what, .int .i64 c.a, .int .i64 c.b, .int .i64 c.c, .string c.s, .slice aa c.attrs.length acap, .int .i64 c.n.tag, .slice naa c.n.attrs.length nac, .string c.n.text, .slice nka c.n.kids.length nkc] 39) := ⟨_, rfl⟩
  have sz1 : w1.heap.size = w.heap.size + 1 := by rw [hw1]; simp
  rw [← hw1] at xm1 bM1
  have xm2 := (Ext.refl w1).alloc (.cells #[.int .i64 c.a, .int .i64 c.b] 43)
  have bP := heap_alloc_new w1 (.cells #[.int .i64 c.a, .int .i64 c.b] 43)
  obtain ⟨wm, hwm⟩ : ∃ W : World, W = w1.alloc (.cells #[.int .i64 c.a, .int .i64 c.b] 43) := ⟨_, rfl⟩
  rw [← hwm] at xm2 bP
  have bM := xm2.block bM1
  have xm := xm1.trans xm2
  obtain ⟨BX, hBX⟩ : ∃ b, w.heap.size = b := ⟨_, rfl⟩
  obtain ⟨BP, hBP⟩ : ∃ b, w1.heap.size = b := ⟨_, rfl⟩
  have hBw : w.heap.size ≤ BX := by omega
  have hPw : w.heap.size ≤ BP := by omega
  have hbp : BP = BX + 1 := by omega
  rw [hBX] at bM
  rw [hBP] at bP
  have J1 := Lib.hid (hJ.grow xm)
  have B1 := Lib.hid (gap_new (w0 := w0) (w := w) bM hBw (i := 1) (v := .int .i64 c.a) rfl)
  have B2 := Lib.hid (gap_new (w0 := w0) (w := w) bM hBw (i := 2) (v := .int .i64 c.b) rfl)
  have B3 := Lib.hid (gap_new (w0 := w0) (w := w) bM hBw (i := 3) (v := .int .i64 c.c) rfl)
  have B4 := Lib.hid (gap_new (w0 := w0) (w := w) bM hBw (i := 4) (v := .string c.s) rfl)
  have B5 := Lib.hid (gap_new (w0 := w0) (w := w) bM hBw (i := 5) (v := .slice aa c.attrs.length acap) rfl)
  have B6 := Lib.hid (gap_new (w0 := w0) (w := w) bM hBw (i := 6) (v := .int .i64 c.n.tag) rfl)
  have B7 := Lib.hid (gap_new (w0 := w0) (w := w) bM hBw (i := 7) (v := .slice naa c.n.attrs.length nac) rfl)
  have B8 := Lib.hid (gap_new (w0 := w0) (w := w) bM hBw (i := 8) (v := .string c.n.text) rfl)
  have B9 := Lib.hid (gap_new (w0 := w0) (w := w) bM hBw (i := 9) (v := .slice nka c.n.kids.length nkc) rfl)
  have P0 := Lib.hid (gap_new (w0 := w0) (w := w) bP hPw (i := 0) (v := .int .i64 c.a) rfl)
  have P1 := Lib.hid (gap_new (w0 := w0) (w := w) bP hPw (i := 1) (v := .int .i64 c.b) rfl)
  have RAO := Lib.hid (hra.cells (gap_old (w := w) (hJ.ext.trans xm)))
  have RNO := Lib.hid (hrn.cells (gap_old (w := w) (hJ.ext.trans xm)))
  have HS := Lib.hid hS
  have G5 := Lib.hid g5
  have XM := Lib.hid xm
  have HWM := Lib.hid hwm
  have HW1 := Lib.hid hw1
  have HBX := Lib.hid hBX
  have HBP := Lib.hid hBP
  have HBB := Lib.hid hbp
  have BM := Lib.hid bM
  have BPL := Lib.hid bP
  have HL := Lib.hid hl
  obtain ⟨m1, m2⟩ := tmod14 c.what
  have e1 : IntKind.i64.wrap (c.what.tmod 14) = c.what.tmod 14 := IntWalk.i64_in _ (by omega)
  have e2 : IntKind.i64.wrap (c.what.tmod 14 + 14) = c.what.tmod 14 + 14 := IntWalk.i64_in _ (by omega)
  have e3 : IntKind.i64.wrap ((c.what.tmod 14 + 14).tmod 14) = 4 := by rw [hm]; rfl
  rw [Int.tmod_eq_emod_of_nonneg (by omega), Int.add_emod_right] at hm
  obtain ⟨er, T', H', hS2, hl2, -, -, pd, pr⟩ := Insert_both hS (by omega) c.a c.b c.c
  have HS2 := Lib.hid hS2
  have HL2 := Lib.hid hl2
  have PD := Lib.hid pd
  have PR := Lib.hid pr
  clear hS2 hl2 pd pr
  clear hJ hra hrn hS hna g3 g5 xm1 bM1 hw1 sz1 xm2 bP hwm bM xm hBX hBP hBw hPw hbp
  go_enter Tryz.func10, Tryz.ntmps10
  go_upto_region 2 with fail
  rw [← HW1.out, HBX.out, ← HBB.out, ← HWM.out]
  have u0 := cellOf BM.out (i := 0) (v := .int .i64 c.what) rfl
  have u1 := cellOf BM.out (i := 1) (v := .int .i64 c.a) rfl
  have u2 := cellOf BM.out (i := 2) (v := .int .i64 c.b) rfl
  have u3 := cellOf BM.out (i := 3) (v := .int .i64 c.c) rfl
  have u4 := cellOf BM.out (i := 4) (v := .string c.s) rfl
  go_upto_region 9 with fail
  go_region_held3 (fun w' => w'.cell? ⟨BX, 1, none⟩ = some (.int .i64 c.a) ∧ w'.cell? ⟨BX, 2, none⟩ = some (.int .i64 c.b) ∧ w'.cell? ⟨BX, 3, none⟩ = some (.int .i64 c.c))
    (first | exact ⟨u1, u2, u3⟩ | exact hkeep | go_keep)
    (first
    | (go_at_call 25; refine ((J1.out.more (Ext.refl wm).drew).live_ (v := .int .i64 er) (T' := T') (H' := H') fun own ptr tb hv hb h1 h2 => PD.out _ own ptr lb tb hv hb h1).mono ?_; rintro e w2 ⟨rfl, hj⟩; have hkeep := (show _ ∧ _ ∧ _ from ⟨hj.told B1.out, hj.told B2.out, hj.told B3.out⟩); have J2 := Lib.hid hj; clear hj)
    | (go_at_call 33; refine (J2.out.doc_ (v := .int .i64 er) (T' := T') (H' := H') fun F rb h1 h2 => PR.out _ F xb rb h1).mono ?_; rintro e w3 ⟨rfl, hj⟩; have hkeep := (show _ ∧ _ ∧ _ from ⟨hj.told B1.out, hj.told B2.out, hj.told B3.out⟩); have J3 := Lib.hid hj; clear hj))
  go_wp2_with fail
  go_ret
  exact ⟨rfl, T', H', HS2.out, by have := HL2.out; omega, J3.out.base.free⟩
end Go.Proofs.YthgnbbbdcebjhaaGreat

namespace Go.Proofs.YthgnbbbdcebjhaaGreat
open Go Go.RowKit Go.BigFrame
set_option linter.unusedVariables false
set_option linter.unusedSimpArgs false

set_option maxRecDepth 100000 in
set_option maxHeartbeats 1000000 in
theorem Does11_5 {w0 w : World} {lb xb : Nat} {T : Tr} {H : List Hd} {L : Nat → Prop} (hS : StOk T H) (hl : H.length ≤ 90000) (hJ : LJ w0 w lb xb T H T H w0 L) {c : Cl} (hc : LightCl c) (hm : (c.what.tmod 14 + 14).tmod 14 = 5) {av c6 c7 c8 c9 : Value} (hra : RowRd w0 2 av c.attrs.length (attrCells c.attrs)) (hrn : RdN w0 c.n (.agg #[c6, c7, c8, c9])) :
    Calls Tryz.prog 10 #[.pointer (some ⟨lb, 0, none⟩), .pointer (some ⟨xb, 0, none⟩), .agg #[.int .i64 c.what, .int .i64 c.a, .int .i64 c.b, .int .i64 c.c, .string c.s, av, c6, c7, c8, c9]] w (DoesIs11 w0 lb xb H) := by
  obtain ⟨g1, g2, g3, g4⟩ := hc
  have g5 := light_short11 g3
  obtain ⟨aa, acap, rfl, hac⟩ := hra.len_of
  obtain ⟨n0, n1, en, hna, hnk⟩ := hrn.open
  obtain ⟨naa, nac, en0, _⟩ := hna.len_of
  obtain ⟨nka, nkc, en1, _⟩ := hnk
  subst en0 en1
  cases en
  have xm1 := (Ext.refl w).alloc (.cells #[.int .i64 c.what, .int .i64 c.a, .int .i64 c.b, .int .i64 c.c, .string c.s, .slice aa c.attrs.length acap, .int .i64 c.n.tag, .slice naa c.n.attrs.length nac, .string c.n.text, .slice nka c.n.kids.length nkc] 39)
  have bM1 := heap_alloc_new w (.cells #[.int .i64 c.what, .int .i64 c.a, .int .i64 c.b, .int .i64 c.c, .string c.s, .slice aa c.attrs.length acap, .int .i64 c.n.tag, .slice naa c.n.attrs.length nac, .string c.n.text, .slice nka c.n.kids.length nkc] 39)
  obtain ⟨w1, hw1⟩ : ∃ W : World, W = w.alloc (.cells #[.int .i64 c.what, .int .i64 c.a, .int .i64 c.b, .int .i64 c.c, .string c.s, .slice aa c.attrs.length acap, .int .i64 c.n.tag, .slice naa c.n.attrs.length nac, .string c.n.text, .slice nka c.n.kids.length nkc] 39) := ⟨_, rfl⟩
  have sz1 : w1.heap.size = w.heap.size + 1 := by rw [hw1]; simp
  rw [← hw1] at xm1 bM1
  have xm2 := (Ext.refl w1).alloc (.cells #[.int .i64 c.a, .int .i64 c.b] 43)
  have bP := heap_alloc_new w1 (.cells #[.int .i64 c.a, .int .i64 c.b] 43)
  obtain ⟨wm, hwm⟩ : ∃ W : World, W = w1.alloc (.cells #[.int .i64 c.a, .int .i64 c.b] 43) := ⟨_, rfl⟩
  rw [← hwm] at xm2 bP
  have bM := xm2.block bM1
  have xm := xm1.trans xm2
  obtain ⟨BX, hBX⟩ : ∃ b, w.heap.size = b := ⟨_, rfl⟩
  obtain ⟨BP, hBP⟩ : ∃ b, w1.heap.size = b := ⟨_, rfl⟩
  have hBw : w.heap.size ≤ BX := by omega
  have hPw : w.heap.size ≤ BP := by omega
  have hbp : BP = BX + 1 := by omega
  rw [hBX] at bM
  rw [hBP] at bP
  have J1 := Lib.hid (hJ.grow xm)
  have B1 := Lib.hid (gap_new (w0 := w0) (w := w) bM hBw (i := 1) (v := .int .i64 c.a) rfl)
  have B2 := Lib.hid (gap_new (w0 := w0) (w := w) bM hBw (i := 2) (v := .int .i64 c.b) rfl)
  have B3 := Lib.hid (gap_new (w0 := w0) (w := w) bM hBw (i := 3) (v := .int .i64 c.c) rfl)
  have B4 := Lib.hid (gap_new (w0 := w0) (w := w) bM hBw (i := 4) (v := .string c.s) rfl)
  have B5 := Lib.hid (gap_new (w0 := w0) (w := w) bM hBw (i := 5) (v := .slice aa c.attrs.length acap) rfl)
  have B6 := Lib.hid (gap_new (w0 := w0) (w := w) bM hBw (i := 6) (v := .int .i64 c.n.tag) rfl)
  have B7 := Lib.hid (gap_new (w0 := w0) (w := w) bM hBw (i := 7) (v := .slice naa c.n.attrs.length nac) rfl)
  have B8 := Lib.hid (gap_new (w0 := w0) (w := w) bM hBw (i := 8) (v := .string c.n.text) rfl)
  have B9 := Lib.hid (gap_new (w0 := w0) (w := w) bM hBw (i := 9) (v := .slice nka c.n.kids.length nkc) rfl)
  have P0 := Lib.hid (gap_new (w0 := w0) (w := w) bP hPw (i := 0) (v := .int .i64 c.a) rfl)
  have P1 := Lib.hid (gap_new (w0 := w0) (w := w) bP hPw (i := 1) (v := .int .i64 c.b) rfl)
  have RAO := Lib.hid (hra.cells (gap_old (w := w) (hJ.ext.trans xm)))
  have RNO := Lib.hid (hrn.cells (gap_old (w := w) (hJ.ext.trans xm)))
  have HS := Lib.hid hS
  have G5 := Lib.hid g5
  have XM := Lib.hid xm
  have HWM := Lib.hid hwm
  have HW1 := Lib.hid hw1
  have HBX := Lib.hid hBX
  have HBP := Lib.hid hBP
  have HBB := Lib.hid hbp
  have BM := Lib.hid bM
  have BPL := Lib.hid bP
  have HL := Lib.hid hl
  obtain ⟨m1, m2⟩ := tmod14 c.what
  have e1 : IntKind.i64.wrap (c.what.tmod 14) = c.what.tmod 14 := IntWalk.i64_in _ (by omega)
  have e2 : IntKind.i64.wrap (c.what.tmod 14 + 14) = c.what.tmod 14 + 14 := IntWalk.i64_in _ (by omega)
  have e3 : IntKind.i64.wrap ((c.what.tmod 14 + 14).tmod 14) = 5 := by rw [hm]; rfl
  rw [Int.tmod_eq_emod_of_nonneg (by omega), Int.add_emod_right] at hm
  obtain ⟨er, T', H', hS2, hl2, -, -, pd, pr⟩ := Remove_both hS (by omega) c.a
  have HS2 := Lib.hid hS2
  have HL2 := Lib.hid hl2
  have PD := Lib.hid pd
  have PR := Lib.hid pr
  clear hS2 hl2 pd pr
  clear hJ hra hrn hS hna g3 g5 xm1 bM1 hw1 sz1 xm2 bP hwm bM xm hBX hBP hBw hPw hbp
  go_enter Tryz.func10, Tryz.ntmps10
  go_upto_region 2 with fail
  rw [← HW1.out, HBX.out, ← HBB.out, ← HWM.out]
  have u0 := cellOf BM.out (i := 0) (v := .int .i64 c.what) rfl
  have u1 := cellOf BM.out (i := 1) (v := .int .i64 c.a) rfl
  have u2 := cellOf BM.out (i := 2) (v := .int .i64 c.b) rfl
  have u3 := cellOf BM.out (i := 3) (v := .int .i64 c.c) rfl
  have u4 := cellOf BM.out (i := 4) (v := .string c.s) rfl
  go_upto_region 11 with fail
  go_region_held3 (fun w' => w'.cell? ⟨BX, 1, none⟩ = some (.int .i64 c.a))
    (first | exact u1 | exact hkeep | go_keep)
    (first
    | (go_at_call 17; refine ((J1.out.more (Ext.refl wm).drew).live_ (v := .int .i64 er) (T' := T') (H' := H') fun own ptr tb hv hb h1 h2 => PD.out _ own ptr lb tb hv hb h1).mono ?_; rintro e w2 ⟨rfl, hj⟩; have hkeep := hj.told B1.out; have J2 := Lib.hid hj; clear hj)
    | (go_at_call 34; refine (J2.out.doc_ (v := .int .i64 er) (T' := T') (H' := H') fun F rb h1 h2 => PR.out _ F xb rb h1).mono ?_; rintro e w3 ⟨rfl, hj⟩; have hkeep := hj.told B1.out; have J3 := Lib.hid hj; clear hj))
  go_wp2_with fail
  go_ret
  exact ⟨rfl, T', H', HS2.out, by have := HL2.out; omega, J3.out.base.free⟩
set_option maxRecDepth 100000 in
set_option maxHeartbeats 1000000 in
theorem Does11_6 {w0 w : World} {lb xb : Nat} {T : Tr} {H : List Hd} {L : Nat → Prop} (hS : StOk T H) (hl : H.length ≤ 90000) (hJ : LJ w0 w lb xb T H T H w0 L) {c : Cl} (hc : LightCl c) (hm : (c.what.tmod 14 + 14).tmod 14 = 6) {av c6 c7 c8 c9 : Value} (hra : RowRd w0 2 av c.attrs.length (attrCells c.attrs)) (hrn : RdN w0 c.n (.agg #[c6, c7, c8, c9])) :
    Calls Tryz.prog 10 #[.pointer (some ⟨lb, 0, none⟩), .pointer (some ⟨xb, 0, none⟩), .agg #[.int .i64 c.what, .int .i64 c.a, .int .i64 c.b, .int .i64 c.c, .string c.s, av, c6, c7, c8, c9]] w (DoesIs11 w0 lb xb H) := by
  obtain ⟨g1, g2, g3, g4⟩ := hc
  have g5 := light_short11 g3
  obtain ⟨aa, acap, rfl, hac⟩ := hra.len_of
  obtain ⟨n0, n1, en, hna, hnk⟩ := hrn.open
  obtain ⟨naa, nac, en0, _⟩ := hna.len_of
  obtain ⟨nka, nkc, en1, _⟩ := hnk
  subst en0 en1
  cases en
  have xm1 := (Ext.refl w).alloc (.cells #[.int .i64 c.what, .int .i64 c.a, .int .i64 c.b, .int .i64 c.c, .string c.s, .slice aa c.attrs.length acap, .int .i64 c.n.tag, .slice naa c.n.attrs.length nac, .string c.n.text, .slice nka c.n.kids.length nkc] 39)
  have bM1 := heap_alloc_new w (.cells #[.int .i64 c.what, .int .i64 c.a, .int .i64 c.b, .int .i64 c.c, .string c.s, .slice aa c.attrs.length acap, .int .i64 c.n.tag, .slice naa c.n.attrs.length nac, .string c.n.text, .slice nka c.n.kids.length nkc] 39)
  obtain ⟨w1, hw1⟩ : ∃ W : World, W = w.alloc (.cells #[.int .i64 c.what, .int .i64 c.a, .int .i64 c.b, .int .i64 c.c, .string c.s, .slice aa c.attrs.length acap, .int .i64 c.n.tag, .slice naa c.n.attrs.length nac, .string c.n.text, .slice nka c.n.kids.length nkc] 39) := ⟨_, rfl⟩
  have sz1 : w1.heap.size = w.heap.size + 1 := by rw [hw1]; simp
  rw [← hw1] at xm1 bM1
  have xm2 := (Ext.refl w1).alloc (.cells #[.int .i64 c.a, .int .i64 c.b] 43)
  have bP := heap_alloc_new w1 (.cells #[.int .i64 c.a, .int .i64 c.b] 43)
  obtain ⟨wm, hwm⟩ : ∃ W : World, W = w1.alloc (.cells #[.int .i64 c.a, .int .i64 c.b] 43) := ⟨_, rfl⟩
  rw [← hwm] at xm2 bP
  have bM := xm2.block bM1
  have xm := xm1.trans xm2
  obtain ⟨BX, hBX⟩ : ∃ b, w.heap.size = b := ⟨_, rfl⟩
  obtain ⟨BP, hBP⟩ : ∃ b, w1.heap.size = b := ⟨_, rfl⟩
  have hBw : w.heap.size ≤ BX := by omega
  have hPw : w.heap.size ≤ BP := by omega
  have hbp : BP = BX + 1 := by omega
  rw [hBX] at bM
  rw [hBP] at bP
  have J1 := Lib.hid (hJ.grow xm)
  have B1 := Lib.hid (gap_new (w0 := w0) (w := w) bM hBw (i := 1) (v := .int .i64 c.a) rfl)
  have B2 := Lib.hid (gap_new (w0 := w0) (w := w) bM hBw (i := 2) (v := .int .i64 c.b) rfl)
  have B3 := Lib.hid (gap_new (w0 := w0) (w := w) bM hBw (i := 3) (v := .int .i64 c.c) rfl)
  have B4 := Lib.hid (gap_new (w0 := w0) (w := w) bM hBw (i := 4) (v := .string c.s) rfl)
  have B5 := Lib.hid (gap_new (w0 := w0) (w := w) bM hBw (i := 5) (v := .slice aa c.attrs.length acap) rfl)
  have B6 := Lib.hid (gap_new (w0 := w0) (w := w) bM hBw (i := 6) (v := .int .i64 c.n.tag) rfl)
  have B7 := Lib.hid (gap_new (w0 := w0) (w := w) bM hBw (i := 7) (v := .slice naa c.n.attrs.length nac) rfl)
  have B8 := Lib.hid (gap_new (w0 := w0) (w := w) bM hBw (i := 8) (v := .string c.n.text) rfl)
  have B9 := Lib.hid (gap_new (w0 := w0) (w := w) bM hBw (i := 9) (v := .slice nka c.n.kids.length nkc) rfl)
  have P0 := Lib.hid (gap_new (w0 := w0) (w := w) bP hPw (i := 0) (v := .int .i64 c.a) rfl)
  have P1 := Lib.hid (gap_new (w0 := w0) (w := w) bP hPw (i := 1) (v := .int .i64 c.b) rfl)
  have RAO := Lib.hid (hra.cells (gap_old (w := w) (hJ.ext.trans xm)))
  have RNO := Lib.hid (hrn.cells (gap_old (w := w) (hJ.ext.trans xm)))
  have HS := Lib.hid hS
  have G5 := Lib.hid g5
  have XM := Lib.hid xm
  have HWM := Lib.hid hwm
  have HW1 := Lib.hid hw1
  have HBX := Lib.hid hBX
  have HBP := Lib.hid hBP
  have HBB := Lib.hid hbp
  have BM := Lib.hid bM
  have BPL := Lib.hid bP
  have HL := Lib.hid hl
  obtain ⟨m1, m2⟩ := tmod14 c.what
  have e1 : IntKind.i64.wrap (c.what.tmod 14) = c.what.tmod 14 := IntWalk.i64_in _ (by omega)
  have e2 : IntKind.i64.wrap (c.what.tmod 14 + 14) = c.what.tmod 14 + 14 := IntWalk.i64_in _ (by omega)
  have e3 : IntKind.i64.wrap ((c.what.tmod 14 + 14).tmod 14) = 6 := by rw [hm]; rfl
  rw [Int.tmod_eq_emod_of_nonneg (by omega), Int.add_emod_right] at hm
  obtain ⟨er, T', H', hS2, hl2, pd, pr⟩ := Drop_both hS (by omega) c.a
  have HS2 := Lib.hid hS2
  have HL2 := Lib.hid hl2
  have PD := Lib.hid pd
  have PR := Lib.hid pr
  clear hS2 hl2 pd pr
  clear hJ hra hrn hS hna g3 g5 xm1 bM1 hw1 sz1 xm2 bP hwm bM xm hBX hBP hBw hPw hbp
  go_enter Tryz.func10, Tryz.ntmps10
  go_upto_region 2 with fail
  rw [← HW1.out, HBX.out, ← HBB.out, ← HWM.out]
  have u0 := cellOf BM.out (i := 0) (v := .int .i64 c.what) rfl
  have u1 := cellOf BM.out (i := 1) (v := .int .i64 c.a) rfl
  have u2 := cellOf BM.out (i := 2) (v := .int .i64 c.b) rfl
  have u3 := cellOf BM.out (i := 3) (v := .int .i64 c.c) rfl
  have u4 := cellOf BM.out (i := 4) (v := .string c.s) rfl
  go_upto_region 13 with fail
  go_region_held3 (fun w' => w'.cell? ⟨BX, 1, none⟩ = some (.int .i64 c.a))
    (first | exact u1 | exact hkeep | go_keep)
    (first
    | (go_at_call 35; refine ((J1.out.more (Ext.refl wm).drew).live_ (v := .int .i64 er) (T' := T') (H' := H') fun own ptr tb hv hb h1 h2 => PD.out _ own ptr lb tb hv hb h1).mono ?_; rintro e w2 ⟨rfl, hj⟩; have hkeep := hj.told B1.out; have J2 := Lib.hid hj; clear hj)
    | (go_at_call 36; refine (J2.out.doc_ (v := .int .i64 er) (T' := T') (H' := H') fun F rb h1 h2 => PR.out _ F xb rb h1).mono ?_; rintro e w3 ⟨rfl, hj⟩; have hkeep := hj.told B1.out; have J3 := Lib.hid hj; clear hj))
  go_wp2_with fail
  go_ret
  exact ⟨rfl, T', H', HS2.out, by have := HL2.out; omega, J3.out.base.free⟩
set_option maxRecDepth 100000 in
set_option maxHeartbeats 1000000 in
theorem Does11_7 {w0 w : World} {lb xb : Nat} {T : Tr} {H : List Hd} {L : Nat → Prop} (hS : StOk T H) (hl : H.length ≤ 90000) (hJ : LJ w0 w lb xb T H T H w0 L) {c : Cl} (hc : LightCl c) (hm : (c.what.tmod 14 + 14).tmod 14 = 7) {av c6 c7 c8 c9 : Value} (hra : RowRd w0 2 av c.attrs.length (attrCells c.attrs)) (hrn : RdN w0 c.n (.agg #[c6, c7, c8, c9])) :
    Calls Tryz.prog 10 #[.pointer (some ⟨lb, 0, none⟩), .pointer (some ⟨xb, 0, none⟩), .agg #[.int .i64 c.what, .int .i64 c.a, .int .i64 c.b, .int .i64 c.c, .string c.s, av, c6, c7, c8, c9]] w (DoesIs11 w0 lb xb H) := by
  obtain ⟨g1, g2, g3, g4⟩ := hc
  have g5 := light_short11 g3
  obtain ⟨aa, acap, rfl, hac⟩ := hra.len_of
  obtain ⟨n0, n1, en, hna, hnk⟩ := hrn.open
  obtain ⟨naa, nac, en0, _⟩ := hna.len_of
  obtain ⟨nka, nkc, en1, _⟩ := hnk
  subst en0 en1
  cases en
  have xm1 := (Ext.refl w).alloc (.cells #[.int .i64 c.what, .int .i64 c.a, .int .i64 c.b, .int .i64 c.c, .string c.s, .slice aa c.attrs.length acap, .int .i64 c.n.tag, .slice naa c.n.attrs.length nac, .string c.n.text, .slice nka c.n.kids.length nkc] 39)
  have bM1 := heap_alloc_new w (.cells #[.int .i64 c.what, .int .i64 c.a, .int .i64 c.b, .int .i64 c.c, .string c.s, .slice aa c.attrs.length acap, .int .i64 c.n.tag, .slice naa c.n.attrs.length nac, .string c.n.text, .slice nka c.n.kids.length nkc] 39)
  obtain ⟨w1, hw1⟩ : ∃ W : World, W = w.alloc (.cells #[.int .i64 c.what, .int .i64 c.a, .int .i64 c.b, .int .i64 c.c, .string c.s, .slice aa c.attrs.length acap, .int .i64 c.n.tag, .slice naa c.n.attrs.length nac, .string c.n.text, .slice nka c.n.kids.length nkc] 39) := ⟨_, rfl⟩
  have sz1 : w1.heap.size = w.heap.size + 1 := by rw [hw1]; simp
  rw [← hw1] at xm1 bM1
  have xm2 := (Ext.refl w1).alloc (.cells #[.int .i64 c.a, .int .i64 c.b] 43)
  have bP := heap_alloc_new w1 (.cells #[.int .i64 c.a, .int .i64 c.b] 43)
  obtain ⟨wm, hwm⟩ : ∃ W : World, W = w1.alloc (.cells #[.int .i64 c.a, .int .i64 c.b] 43) := ⟨_, rfl⟩
  rw [← hwm] at xm2 bP
  have bM := xm2.block bM1
  have xm := xm1.trans xm2
  obtain ⟨BX, hBX⟩ : ∃ b, w.heap.size = b := ⟨_, rfl⟩
  obtain ⟨BP, hBP⟩ : ∃ b, w1.heap.size = b := ⟨_, rfl⟩
  have hBw : w.heap.size ≤ BX := by omega
  have hPw : w.heap.size ≤ BP := by omega
  have hbp : BP = BX + 1 := by omega
  rw [hBX] at bM
  rw [hBP] at bP
  have J1 := Lib.hid (hJ.grow xm)
  have B1 := Lib.hid (gap_new (w0 := w0) (w := w) bM hBw (i := 1) (v := .int .i64 c.a) rfl)
  have B2 := Lib.hid (gap_new (w0 := w0) (w := w) bM hBw (i := 2) (v := .int .i64 c.b) rfl)
  have B3 := Lib.hid (gap_new (w0 := w0) (w := w) bM hBw (i := 3) (v := .int .i64 c.c) rfl)
  have B4 := Lib.hid (gap_new (w0 := w0) (w := w) bM hBw (i := 4) (v := .string c.s) rfl)
  have B5 := Lib.hid (gap_new (w0 := w0) (w := w) bM hBw (i := 5) (v := .slice aa c.attrs.length acap) rfl)
  have B6 := Lib.hid (gap_new (w0 := w0) (w := w) bM hBw (i := 6) (v := .int .i64 c.n.tag) rfl)
  have B7 := Lib.hid (gap_new (w0 := w0) (w := w) bM hBw (i := 7) (v := .slice naa c.n.attrs.length nac) rfl)
  have B8 := Lib.hid (gap_new (w0 := w0) (w := w) bM hBw (i := 8) (v := .string c.n.text) rfl)
  have B9 := Lib.hid (gap_new (w0 := w0) (w := w) bM hBw (i := 9) (v := .slice nka c.n.kids.length nkc) rfl)
  have P0 := Lib.hid (gap_new (w0 := w0) (w := w) bP hPw (i := 0) (v := .int .i64 c.a) rfl)
  have P1 := Lib.hid (gap_new (w0 := w0) (w := w) bP hPw (i := 1) (v := .int .i64 c.b) rfl)
  have RAO := Lib.hid (hra.cells (gap_old (w := w) (hJ.ext.trans xm)))
  have RNO := Lib.hid (hrn.cells (gap_old (w := w) (hJ.ext.trans xm)))
  have HS := Lib.hid hS
  have G5 := Lib.hid g5
  have XM := Lib.hid xm
  have HWM := Lib.hid hwm
  have HW1 := Lib.hid hw1
  have HBX := Lib.hid hBX
  have HBP := Lib.hid hBP
  have HBB := Lib.hid hbp
  have BM := Lib.hid bM
  have BPL := Lib.hid bP
  have HL := Lib.hid hl
  obtain ⟨m1, m2⟩ := tmod14 c.what
  have e1 : IntKind.i64.wrap (c.what.tmod 14) = c.what.tmod 14 := IntWalk.i64_in _ (by omega)
  have e2 : IntKind.i64.wrap (c.what.tmod 14 + 14) = c.what.tmod 14 + 14 := IntWalk.i64_in _ (by omega)
  have e3 : IntKind.i64.wrap ((c.what.tmod 14 + 14).tmod 14) = 7 := by rw [hm]; rfl
  rw [Int.tmod_eq_emod_of_nonneg (by omega), Int.add_emod_right] at hm
  obtain ⟨er, T', H', hS2, hl2, pd, pr⟩ := SetText_both hS (by omega) c.a c.s (by omega)
  have HS2 := Lib.hid hS2
  have HL2 := Lib.hid hl2
  have PD := Lib.hid pd
  have PR := Lib.hid pr
  clear hS2 hl2 pd pr
  clear hJ hra hrn hS hna g3 g5 xm1 bM1 hw1 sz1 xm2 bP hwm bM xm hBX hBP hBw hPw hbp
  go_enter Tryz.func10, Tryz.ntmps10
  go_upto_region 2 with fail
  rw [← HW1.out, HBX.out, ← HBB.out, ← HWM.out]
  have u0 := cellOf BM.out (i := 0) (v := .int .i64 c.what) rfl
  have u1 := cellOf BM.out (i := 1) (v := .int .i64 c.a) rfl
  have u2 := cellOf BM.out (i := 2) (v := .int .i64 c.b) rfl
  have u3 := cellOf BM.out (i := 3) (v := .int .i64 c.c) rfl
  have u4 := cellOf BM.out (i := 4) (v := .string c.s) rfl
  go_upto_region 15 with fail
  go_region_held3 (fun w' => w'.cell? ⟨BX, 1, none⟩ = some (.int .i64 c.a) ∧ w'.cell? ⟨BX, 4, none⟩ = some (.string c.s))
    (first | exact ⟨u1, u4⟩ | exact hkeep | go_keep)
    (first
    | (go_at_call 37; refine ((J1.out.more (Ext.refl wm).drew).live_ (v := .int .i64 er) (T' := T') (H' := H') fun own ptr tb hv hb h1 h2 => PD.out _ own ptr lb tb hv hb h1).mono ?_; rintro e w2 ⟨rfl, hj⟩; have hkeep := (show _ ∧ _ from ⟨hj.told B1.out, hj.told B4.out⟩); have J2 := Lib.hid hj; clear hj)
    | (go_at_call 38; refine (J2.out.doc_ (v := .int .i64 er) (T' := T') (H' := H') fun F rb h1 h2 => PR.out _ F xb rb h1).mono ?_; rintro e w3 ⟨rfl, hj⟩; have hkeep := (show _ ∧ _ from ⟨hj.told B1.out, hj.told B4.out⟩); have J3 := Lib.hid hj; clear hj))
  go_wp2_with fail
  go_ret
  exact ⟨rfl, T', H', HS2.out, by have := HL2.out; omega, J3.out.base.free⟩
end Go.Proofs.YthgnbbbdcebjhaaGreat

namespace Go.Proofs.YthgnbbbdcebjhaaGreat
open Go Go.RowKit Go.BigFrame
set_option linter.unusedVariables false
set_option linter.unusedSimpArgs false

set_option maxRecDepth 100000 in
set_option maxHeartbeats 1000000 in
theorem Does11_8 {w0 w : World} {lb xb : Nat} {T : Tr} {H : List Hd} {L : Nat → Prop} (hS : StOk T H) (hl : H.length ≤ 90000) (hJ : LJ w0 w lb xb T H T H w0 L) {c : Cl} (hc : LightCl c) (hm : (c.what.tmod 14 + 14).tmod 14 = 8) {av c6 c7 c8 c9 : Value} (hra : RowRd w0 2 av c.attrs.length (attrCells c.attrs)) (hrn : RdN w0 c.n (.agg #[c6, c7, c8, c9])) :
    Calls Tryz.prog 10 #[.pointer (some ⟨lb, 0, none⟩), .pointer (some ⟨xb, 0, none⟩), .agg #[.int .i64 c.what, .int .i64 c.a, .int .i64 c.b, .int .i64 c.c, .string c.s, av, c6, c7, c8, c9]] w (DoesIs11 w0 lb xb H) := by
  obtain ⟨g1, g2, g3, g4⟩ := hc
  have g5 := light_short11 g3
  obtain ⟨aa, acap, rfl, hac⟩ := hra.len_of
  obtain ⟨n0, n1, en, hna, hnk⟩ := hrn.open
  obtain ⟨naa, nac, en0, _⟩ := hna.len_of
  obtain ⟨nka, nkc, en1, _⟩ := hnk
  subst en0 en1
  cases en
  have xm1 := (Ext.refl w).alloc (.cells #[.int .i64 c.what, .int .i64 c.a, .int .i64 c.b, .int .i64 c.c, .string c.s, .slice aa c.attrs.length acap, .int .i64 c.n.tag, .slice naa c.n.attrs.length nac, .string c.n.text, .slice nka c.n.kids.length nkc] 39)
  have bM1 := heap_alloc_new w (.cells #[.int .i64 c.what, .int .i64 c.a, .int .i64 c.b, .int .i64 c.c, .string c.s, .slice aa c.attrs.length acap, .int .i64 c.n.tag, .slice naa c.n.attrs.length nac, .string c.n.text, .slice nka c.n.kids.length nkc] 39)
  obtain ⟨w1, hw1⟩ : ∃ W : World, W = w.alloc (.cells #[.int .i64 c.what, .int .i64 c.a, .int .i64 c.b, .int .i64 c.c, .string c.s, .slice aa c.attrs.length acap, .int .i64 c.n.tag, .slice naa c.n.attrs.length nac, .string c.n.text, .slice nka c.n.kids.length nkc] 39) := ⟨_, rfl⟩
  have sz1 : w1.heap.size = w.heap.size + 1 := by rw [hw1]; simp
  rw [← hw1] at xm1 bM1
  have xm2 := (Ext.refl w1).alloc (.cells #[.int .i64 c.a, .int .i64 c.b] 43)
  have bP := heap_alloc_new w1 (.cells #[.int .i64 c.a, .int .i64 c.b] 43)
  obtain ⟨wm, hwm⟩ : ∃ W : World, W = w1.alloc (.cells #[.int .i64 c.a, .int .i64 c.b] 43) := ⟨_, rfl⟩
  rw [← hwm] at xm2 bP
  have bM := xm2.block bM1
  have xm := xm1.trans xm2
  obtain ⟨BX, hBX⟩ : ∃ b, w.heap.size = b := ⟨_, rfl⟩
  obtain ⟨BP, hBP⟩ : ∃ b, w1.heap.size = b := ⟨_, rfl⟩
  have hBw : w.heap.size ≤ BX := by omega
  have hPw : w.heap.size ≤ BP := by omega
  have hbp : BP = BX + 1 := by omega
  rw [hBX] at bM
  rw [hBP] at bP
  have J1 := Lib.hid (hJ.grow xm)
  have B1 := Lib.hid (gap_new (w0 := w0) (w := w) bM hBw (i := 1) (v := .int .i64 c.a) rfl)
  have B2 := Lib.hid (gap_new (w0 := w0) (w := w) bM hBw (i := 2) (v := .int .i64 c.b) rfl)
  have B3 := Lib.hid (gap_new (w0 := w0) (w := w) bM hBw (i := 3) (v := .int .i64 c.c) rfl)
  have B4 := Lib.hid (gap_new (w0 := w0) (w := w) bM hBw (i := 4) (v := .string c.s) rfl)
  have B5 := Lib.hid (gap_new (w0 := w0) (w := w) bM hBw (i := 5) (v := .slice aa c.attrs.length acap) rfl)
  have B6 := Lib.hid (gap_new (w0 := w0) (w := w) bM hBw (i := 6) (v := .int .i64 c.n.tag) rfl)
  have B7 := Lib.hid (gap_new (w0 := w0) (w := w) bM hBw (i := 7) (v := .slice naa c.n.attrs.length nac) rfl)
  have B8 := Lib.hid (gap_new (w0 := w0) (w := w) bM hBw (i := 8) (v := .string c.n.text) rfl)
  have B9 := Lib.hid (gap_new (w0 := w0) (w := w) bM hBw (i := 9) (v := .slice nka c.n.kids.length nkc) rfl)
  have P0 := Lib.hid (gap_new (w0 := w0) (w := w) bP hPw (i := 0) (v := .int .i64 c.a) rfl)
  have P1 := Lib.hid (gap_new (w0 := w0) (w := w) bP hPw (i := 1) (v := .int .i64 c.b) rfl)
  have RAO := Lib.hid (hra.cells (gap_old (w := w) (hJ.ext.trans xm)))
  have RNO := Lib.hid (hrn.cells (gap_old (w := w) (hJ.ext.trans xm)))
  have HS := Lib.hid hS
  have G5 := Lib.hid g5
  have XM := Lib.hid xm
  have HWM := Lib.hid hwm
  have HW1 := Lib.hid hw1
  have HBX := Lib.hid hBX
  have HBP := Lib.hid hBP
  have HBB := Lib.hid hbp
  have BM := Lib.hid bM
  have BPL := Lib.hid bP
  have HL := Lib.hid hl
  obtain ⟨m1, m2⟩ := tmod14 c.what
  have e1 : IntKind.i64.wrap (c.what.tmod 14) = c.what.tmod 14 := IntWalk.i64_in _ (by omega)
  have e2 : IntKind.i64.wrap (c.what.tmod 14 + 14) = c.what.tmod 14 + 14 := IntWalk.i64_in _ (by omega)
  have e3 : IntKind.i64.wrap ((c.what.tmod 14 + 14).tmod 14) = 8 := by rw [hm]; rfl
  rw [Int.tmod_eq_emod_of_nonneg (by omega), Int.add_emod_right] at hm
  obtain ⟨x, er, T', H', hS2, hl2, pd, pr⟩ := Graft_both hS (by omega) c.a c.b c.n g5 (by omega)
  have HS2 := Lib.hid hS2
  have HL2 := Lib.hid hl2
  have PD := Lib.hid pd
  have PR := Lib.hid pr
  clear hS2 hl2 pd pr
  clear hJ hra hrn hS hna g3 g5 xm1 bM1 hw1 sz1 xm2 bP hwm bM xm hBX hBP hBw hPw hbp
  go_enter Tryz.func10, Tryz.ntmps10
  go_upto_region 2 with fail
  rw [← HW1.out, HBX.out, ← HBB.out, ← HWM.out]
  have u0 := cellOf BM.out (i := 0) (v := .int .i64 c.what) rfl
  have u1 := cellOf BM.out (i := 1) (v := .int .i64 c.a) rfl
  have u2 := cellOf BM.out (i := 2) (v := .int .i64 c.b) rfl
  have u3 := cellOf BM.out (i := 3) (v := .int .i64 c.c) rfl
  have u4 := cellOf BM.out (i := 4) (v := .string c.s) rfl
  have u6 := cellOf BM.out (i := 6) (v := .int .i64 c.n.tag) rfl
  have u7 := cellOf BM.out (i := 7) (v := .slice naa c.n.attrs.length nac) rfl
  have u8 := cellOf BM.out (i := 8) (v := .string c.n.text) rfl
  have u9 := cellOf BM.out (i := 9) (v := .slice nka c.n.kids.length nkc) rfl
  go_wp2_with (first
    | (go_at_call 28; refine (J1.out.live_ (v := .tuple #[.int .i64 x, .int .i64 er]) (T' := T') (H' := H') fun own ptr tb hv hb h1 h2 => PD.out _ _ own ptr lb tb hv hb _ h1 RNO.out h2).mono ?_; rintro e w2 ⟨rfl, hj⟩; have v1 := hj.told B1.out; have v2 := hj.told B2.out; have v6 := hj.told B6.out; have v7 := hj.told B7.out; have v8 := hj.told B8.out; have v9 := hj.told B9.out; have J2 := Lib.hid hj; clear hj)
    | (go_at_call 39; refine (J2.out.doc_ (v := .tuple #[.int .i64 x, .int .i64 er]) (T' := T') (H' := H') fun F rb h1 h2 => PR.out _ _ F xb rb _ h1 RNO.out h2).mono ?_; rintro e w3 ⟨rfl, hj⟩; have J3 := Lib.hid hj; clear hj))
  go_ret
  exact ⟨rfl, T', H', HS2.out, by have := HL2.out; omega, J3.out.base.free⟩
set_option maxRecDepth 100000 in
set_option maxHeartbeats 1000000 in
theorem Does11_10 {w0 w : World} {lb xb : Nat} {T : Tr} {H : List Hd} {L : Nat → Prop} (hS : StOk T H) (hl : H.length ≤ 90000) (hJ : LJ w0 w lb xb T H T H w0 L) {c : Cl} (hc : LightCl c) (hm : (c.what.tmod 14 + 14).tmod 14 = 10) {av c6 c7 c8 c9 : Value} (hra : RowRd w0 2 av c.attrs.length (attrCells c.attrs)) (hrn : RdN w0 c.n (.agg #[c6, c7, c8, c9])) :
    Calls Tryz.prog 10 #[.pointer (some ⟨lb, 0, none⟩), .pointer (some ⟨xb, 0, none⟩), .agg #[.int .i64 c.what, .int .i64 c.a, .int .i64 c.b, .int .i64 c.c, .string c.s, av, c6, c7, c8, c9]] w (DoesIs11 w0 lb xb H) := by
  obtain ⟨g1, g2, g3, g4⟩ := hc
  have g5 := light_short11 g3
  obtain ⟨aa, acap, rfl, hac⟩ := hra.len_of
  obtain ⟨n0, n1, en, hna, hnk⟩ := hrn.open
  obtain ⟨naa, nac, en0, _⟩ := hna.len_of
  obtain ⟨nka, nkc, en1, _⟩ := hnk
  subst en0 en1
  cases en
  have xm1 := (Ext.refl w).alloc (.cells #[.int .i64 c.what, .int .i64 c.a, .int .i64 c.b, .int .i64 c.c, .string c.s, .slice aa c.attrs.length acap, .int .i64 c.n.tag, .slice naa c.n.attrs.length nac, .string c.n.text, .slice nka c.n.kids.length nkc] 39)
  have bM1 := heap_alloc_new w (.cells #[.int .i64 c.what, .int .i64 c.a, .int .i64 c.b, .int .i64 c.c, .string c.s, .slice aa c.attrs.length acap, .int .i64 c.n.tag, .slice naa c.n.attrs.length nac, .string c.n.text, .slice nka c.n.kids.length nkc] 39)
  obtain ⟨w1, hw1⟩ : ∃ W : World, W = w.alloc (.cells #[.int .i64 c.what, .int .i64 c.a, .int .i64 c.b, .int .i64 c.c, .string c.s, .slice aa c.attrs.length acap, .int .i64 c.n.tag, .slice naa c.n.attrs.length nac, .string c.n.text, .slice nka c.n.kids.length nkc] 39) := ⟨_, rfl⟩
  have sz1 : w1.heap.size = w.heap.size + 1 := by rw [hw1]; simp
  rw [← hw1] at xm1 bM1
  have xm2 := (Ext.refl w1).alloc (.cells #[.int .i64 c.a, .int .i64 c.b] 43)
  have bP := heap_alloc_new w1 (.cells #[.int .i64 c.a, .int .i64 c.b] 43)
  obtain ⟨wm, hwm⟩ : ∃ W : World, W = w1.alloc (.cells #[.int .i64 c.a, .int .i64 c.b] 43) := ⟨_, rfl⟩
  rw [← hwm] at xm2 bP
  have bM := xm2.block bM1
  have xm := xm1.trans xm2
  obtain ⟨BX, hBX⟩ : ∃ b, w.heap.size = b := ⟨_, rfl⟩
  obtain ⟨BP, hBP⟩ : ∃ b, w1.heap.size = b := ⟨_, rfl⟩
  have hBw : w.heap.size ≤ BX := by omega
  have hPw : w.heap.size ≤ BP := by omega
  have hbp : BP = BX + 1 := by omega
  rw [hBX] at bM
  rw [hBP] at bP
  have J1 := Lib.hid (hJ.grow xm)
  have B1 := Lib.hid (gap_new (w0 := w0) (w := w) bM hBw (i := 1) (v := .int .i64 c.a) rfl)
  have B2 := Lib.hid (gap_new (w0 := w0) (w := w) bM hBw (i := 2) (v := .int .i64 c.b) rfl)
  have B3 := Lib.hid (gap_new (w0 := w0) (w := w) bM hBw (i := 3) (v := .int .i64 c.c) rfl)
  have B4 := Lib.hid (gap_new (w0 := w0) (w := w) bM hBw (i := 4) (v := .string c.s) rfl)
  have B5 := Lib.hid (gap_new (w0 := w0) (w := w) bM hBw (i := 5) (v := .slice aa c.attrs.length acap) rfl)
  have B6 := Lib.hid (gap_new (w0 := w0) (w := w) bM hBw (i := 6) (v := .int .i64 c.n.tag) rfl)
  have B7 := Lib.hid (gap_new (w0 := w0) (w := w) bM hBw (i := 7) (v := .slice naa c.n.attrs.length nac) rfl)
  have B8 := Lib.hid (gap_new (w0 := w0) (w := w) bM hBw (i := 8) (v := .string c.n.text) rfl)
  have B9 := Lib.hid (gap_new (w0 := w0) (w := w) bM hBw (i := 9) (v := .slice nka c.n.kids.length nkc) rfl)
  have P0 := Lib.hid (gap_new (w0 := w0) (w := w) bP hPw (i := 0) (v := .int .i64 c.a) rfl)
  have P1 := Lib.hid (gap_new (w0 := w0) (w := w) bP hPw (i := 1) (v := .int .i64 c.b) rfl)
  have RAO := Lib.hid (hra.cells (gap_old (w := w) (hJ.ext.trans xm)))
  have RNO := Lib.hid (hrn.cells (gap_old (w := w) (hJ.ext.trans xm)))
  have HS := Lib.hid hS
  have G5 := Lib.hid g5
  have XM := Lib.hid xm
  have HWM := Lib.hid hwm
  have HW1 := Lib.hid hw1
  have HBX := Lib.hid hBX
  have HBP := Lib.hid hBP
  have HBB := Lib.hid hbp
  have BM := Lib.hid bM
  have BPL := Lib.hid bP
  have HL := Lib.hid hl
  obtain ⟨m1, m2⟩ := tmod14 c.what
  have e1 : IntKind.i64.wrap (c.what.tmod 14) = c.what.tmod 14 := IntWalk.i64_in _ (by omega)
  have e2 : IntKind.i64.wrap (c.what.tmod 14 + 14) = c.what.tmod 14 + 14 := IntWalk.i64_in _ (by omega)
  have e3 : IntKind.i64.wrap ((c.what.tmod 14 + 14).tmod 14) = 10 := by rw [hm]; rfl
  rw [Int.tmod_eq_emod_of_nonneg (by omega), Int.add_emod_right] at hm
  obtain ⟨x, er, H', hS2, -, hl2, -, pd, pr⟩ := Hold_both hS (by omega) c.a c.b
  have HS2 := Lib.hid hS2
  have HL2 := Lib.hid hl2
  have PD := Lib.hid pd
  have PR := Lib.hid pr
  clear hS2 hl2 pd pr
  clear hJ hra hrn hS hna g3 g5 xm1 bM1 hw1 sz1 xm2 bP hwm bM xm hBX hBP hBw hPw hbp
  go_enter Tryz.func10, Tryz.ntmps10
  go_upto_region 2 with fail
  rw [← HW1.out, HBX.out, ← HBB.out, ← HWM.out]
  have u0 := cellOf BM.out (i := 0) (v := .int .i64 c.what) rfl
  have u1 := cellOf BM.out (i := 1) (v := .int .i64 c.a) rfl
  have u2 := cellOf BM.out (i := 2) (v := .int .i64 c.b) rfl
  have u3 := cellOf BM.out (i := 3) (v := .int .i64 c.c) rfl
  have u4 := cellOf BM.out (i := 4) (v := .string c.s) rfl
  have w0p := cellOf BPL.out (i := 0) (v := .int .i64 c.a) rfl
  have w1p := cellOf BPL.out (i := 1) (v := .int .i64 c.b) rfl
  go_wp2_with (first
    | (go_at_call 21; refine (J1.out.live_ (v := .tuple #[.int .i64 x, .int .i64 er]) (T' := T) (H' := H') fun own ptr tb hv hb h1 h2 => PD.out _ own ptr lb tb hv hb h1).mono ?_; rintro e w2 ⟨rfl, hj⟩; have v1 := hj.told P0.out; have v2 := hj.told P1.out; have J2 := Lib.hid hj; clear hj)
    | (go_at_call 40; refine (J2.out.doc_ (v := .tuple #[.int .i64 x, .int .i64 er]) (T' := T) (H' := H') fun F rb h1 h2 => PR.out _ F xb rb h1).mono ?_; rintro e w3 ⟨rfl, hj⟩; have J3 := Lib.hid hj; clear hj))
  go_ret
  exact ⟨rfl, T, H', HS2.out, HL2.out, J3.out.base.free⟩
end Go.Proofs.YthgnbbbdcebjhaaGreat

namespace Go.Proofs.YthgnbbbdcebjhaaGreat
open Go Go.RowKit Go.BigFrame
set_option linter.unusedVariables false
set_option linter.unusedSimpArgs false

set_option maxRecDepth 100000 in
set_option maxHeartbeats 1000000 in
theorem Does11_11 {w0 w : World} {lb xb : Nat} {T : Tr} {H : List Hd} {L : Nat → Prop} (hS : StOk T H) (hl : H.length ≤ 90000) (hJ : LJ w0 w lb xb T H T H w0 L) {c : Cl} (hc : LightCl c) (hm : (c.what.tmod 14 + 14).tmod 14 = 11) {av c6 c7 c8 c9 : Value} (hra : RowRd w0 2 av c.attrs.length (attrCells c.attrs)) (hrn : RdN w0 c.n (.agg #[c6, c7, c8, c9])) :
    Calls Tryz.prog 10 #[.pointer (some ⟨lb, 0, none⟩), .pointer (some ⟨xb, 0, none⟩), .agg #[.int .i64 c.what, .int .i64 c.a, .int .i64 c.b, .int .i64 c.c, .string c.s, av, c6, c7, c8, c9]] w (DoesIs11 w0 lb xb H) := by
  obtain ⟨g1, g2, g3, g4⟩ := hc
  have g5 := light_short11 g3
  obtain ⟨aa, acap, rfl, hac⟩ := hra.len_of
  obtain ⟨n0, n1, en, hna, hnk⟩ := hrn.open
  obtain ⟨naa, nac, en0, _⟩ := hna.len_of
  obtain ⟨nka, nkc, en1, _⟩ := hnk
  subst en0 en1
  cases en
  have xm1 := (Ext.refl w).alloc (.cells #[.int .i64 c.what, .int .i64 c.a, .int .i64 c.b, .int .i64 c.c, .string c.s, .slice aa c.attrs.length acap, .int .i64 c.n.tag, .slice naa c.n.attrs.length nac, .string c.n.text, .slice nka c.n.kids.length nkc] 39)
  have bM1 := heap_alloc_new w (.cells #[.int .i64 c.what, .int .i64 c.a, .int .i64 c.b, .int .i64 c.c, .string c.s, .slice aa c.attrs.length acap, .int .i64 c.n.tag, .slice naa c.n.attrs.length nac, .string c.n.text, .slice nka c.n.kids.length nkc] 39)
  obtain ⟨w1, hw1⟩ : ∃ W : World, W = w.alloc (.cells #[.int .i64 c.what, .int .i64 c.a, .int .i64 c.b, .int .i64 c.c, .string c.s, .slice aa c.attrs.length acap, .int .i64 c.n.tag, .slice naa c.n.attrs.length nac, .string c.n.text, .slice nka c.n.kids.length nkc] 39) := ⟨_, rfl⟩
  have sz1 : w1.heap.size = w.heap.size + 1 := by rw [hw1]; simp
  rw [← hw1] at xm1 bM1
  have xm2 := (Ext.refl w1).alloc (.cells #[.int .i64 c.a, .int .i64 c.b] 43)
  have bP := heap_alloc_new w1 (.cells #[.int .i64 c.a, .int .i64 c.b] 43)
  obtain ⟨wm, hwm⟩ : ∃ W : World, W = w1.alloc (.cells #[.int .i64 c.a, .int .i64 c.b] 43) := ⟨_, rfl⟩
  rw [← hwm] at xm2 bP
  have bM := xm2.block bM1
  have xm := xm1.trans xm2
  obtain ⟨BX, hBX⟩ : ∃ b, w.heap.size = b := ⟨_, rfl⟩
  obtain ⟨BP, hBP⟩ : ∃ b, w1.heap.size = b := ⟨_, rfl⟩
  have hBw : w.heap.size ≤ BX := by omega
  have hPw : w.heap.size ≤ BP := by omega
  have hbp : BP = BX + 1 := by omega
  rw [hBX] at bM
  rw [hBP] at bP
  have J1 := Lib.hid (hJ.grow xm)
  have B1 := Lib.hid (gap_new (w0 := w0) (w := w) bM hBw (i := 1) (v := .int .i64 c.a) rfl)
  have B2 := Lib.hid (gap_new (w0 := w0) (w := w) bM hBw (i := 2) (v := .int .i64 c.b) rfl)
  have B3 := Lib.hid (gap_new (w0 := w0) (w := w) bM hBw (i := 3) (v := .int .i64 c.c) rfl)
  have B4 := Lib.hid (gap_new (w0 := w0) (w := w) bM hBw (i := 4) (v := .string c.s) rfl)
  have B5 := Lib.hid (gap_new (w0 := w0) (w := w) bM hBw (i := 5) (v := .slice aa c.attrs.length acap) rfl)
  have B6 := Lib.hid (gap_new (w0 := w0) (w := w) bM hBw (i := 6) (v := .int .i64 c.n.tag) rfl)
  have B7 := Lib.hid (gap_new (w0 := w0) (w := w) bM hBw (i := 7) (v := .slice naa c.n.attrs.length nac) rfl)
  have B8 := Lib.hid (gap_new (w0 := w0) (w := w) bM hBw (i := 8) (v := .string c.n.text) rfl)
  have B9 := Lib.hid (gap_new (w0 := w0) (w := w) bM hBw (i := 9) (v := .slice nka c.n.kids.length nkc) rfl)
  have P0 := Lib.hid (gap_new (w0 := w0) (w := w) bP hPw (i := 0) (v := .int .i64 c.a) rfl)
  have P1 := Lib.hid (gap_new (w0 := w0) (w := w) bP hPw (i := 1) (v := .int .i64 c.b) rfl)
  have RAO := Lib.hid (hra.cells (gap_old (w := w) (hJ.ext.trans xm)))
  have RNO := Lib.hid (hrn.cells (gap_old (w := w) (hJ.ext.trans xm)))
  have HS := Lib.hid hS
  have G5 := Lib.hid g5
  have XM := Lib.hid xm
  have HWM := Lib.hid hwm
  have HW1 := Lib.hid hw1
  have HBX := Lib.hid hBX
  have HBP := Lib.hid hBP
  have HBB := Lib.hid hbp
  have BM := Lib.hid bM
  have BPL := Lib.hid bP
  have HL := Lib.hid hl
  obtain ⟨m1, m2⟩ := tmod14 c.what
  have e1 : IntKind.i64.wrap (c.what.tmod 14) = c.what.tmod 14 := IntWalk.i64_in _ (by omega)
  have e2 : IntKind.i64.wrap (c.what.tmod 14 + 14) = c.what.tmod 14 + 14 := IntWalk.i64_in _ (by omega)
  have e3 : IntKind.i64.wrap ((c.what.tmod 14 + 14).tmod 14) = 11 := by rw [hm]; rfl
  rw [Int.tmod_eq_emod_of_nonneg (by omega), Int.add_emod_right] at hm
  obtain ⟨er, H', hS2, hl2, pd, pr⟩ := Place_both hS (by omega) c.c c.a c.b
  have HS2 := Lib.hid hS2
  have HL2 := Lib.hid hl2
  have PD := Lib.hid pd
  have PR := Lib.hid pr
  clear hS2 hl2 pd pr
  clear hJ hra hrn hS hna g3 g5 xm1 bM1 hw1 sz1 xm2 bP hwm bM xm hBX hBP hBw hPw hbp
  go_enter Tryz.func10, Tryz.ntmps10
  go_upto_region 2 with fail
  rw [← HW1.out, HBX.out, ← HBB.out, ← HWM.out]
  have u0 := cellOf BM.out (i := 0) (v := .int .i64 c.what) rfl
  have u1 := cellOf BM.out (i := 1) (v := .int .i64 c.a) rfl
  have u2 := cellOf BM.out (i := 2) (v := .int .i64 c.b) rfl
  have u3 := cellOf BM.out (i := 3) (v := .int .i64 c.c) rfl
  have u4 := cellOf BM.out (i := 4) (v := .string c.s) rfl
  have w0p := cellOf BPL.out (i := 0) (v := .int .i64 c.a) rfl
  have w1p := cellOf BPL.out (i := 1) (v := .int .i64 c.b) rfl
  go_upto_region 25 with fail
  go_region_held3 (fun w' => w'.cell? ⟨BX, 3, none⟩ = some (.int .i64 c.c) ∧ w'.cell? ⟨BP, 0, none⟩ = some (.int .i64 c.a) ∧ w'.cell? ⟨BP, 1, none⟩ = some (.int .i64 c.b))
    (first | exact ⟨u3, w0p, w1p⟩ | exact hkeep | go_keep)
    (first
    | (go_at_call 41; refine ((J1.out.more (Ext.refl wm).drew).live_ (v := .int .i64 er) (T' := T) (H' := H') fun own ptr tb hv hb h1 h2 => PD.out _ own ptr lb tb hv hb h1).mono ?_; rintro e w2 ⟨rfl, hj⟩; have hkeep := (show _ ∧ _ ∧ _ from ⟨hj.told B3.out, hj.told P0.out, hj.told P1.out⟩); have J2 := Lib.hid hj; clear hj)
    | (go_at_call 42; refine (J2.out.doc_ (v := .int .i64 er) (T' := T) (H' := H') fun F rb h1 h2 => PR.out _ F xb rb h1).mono ?_; rintro e w3 ⟨rfl, hj⟩; have hkeep := (show _ ∧ _ ∧ _ from ⟨hj.told B3.out, hj.told P0.out, hj.told P1.out⟩); have J3 := Lib.hid hj; clear hj))
  go_wp2_with fail
  go_ret
  exact ⟨rfl, T, H', HS2.out, by have := HL2.out; omega, J3.out.base.free⟩
set_option maxRecDepth 100000 in
set_option maxHeartbeats 1000000 in
theorem Does11_12 {w0 w : World} {lb xb : Nat} {T : Tr} {H : List Hd} {L : Nat → Prop} (hS : StOk T H) (hl : H.length ≤ 90000) (hJ : LJ w0 w lb xb T H T H w0 L) {c : Cl} (hc : LightCl c) (hm : (c.what.tmod 14 + 14).tmod 14 = 12) {av c6 c7 c8 c9 : Value} (hra : RowRd w0 2 av c.attrs.length (attrCells c.attrs)) (hrn : RdN w0 c.n (.agg #[c6, c7, c8, c9])) :
    Calls Tryz.prog 10 #[.pointer (some ⟨lb, 0, none⟩), .pointer (some ⟨xb, 0, none⟩), .agg #[.int .i64 c.what, .int .i64 c.a, .int .i64 c.b, .int .i64 c.c, .string c.s, av, c6, c7, c8, c9]] w (DoesIs11 w0 lb xb H) := by
  obtain ⟨g1, g2, g3, g4⟩ := hc
  have g5 := light_short11 g3
  obtain ⟨aa, acap, rfl, hac⟩ := hra.len_of
  obtain ⟨n0, n1, en, hna, hnk⟩ := hrn.open
  obtain ⟨naa, nac, en0, _⟩ := hna.len_of
  obtain ⟨nka, nkc, en1, _⟩ := hnk
  subst en0 en1
  cases en
  have xm1 := (Ext.refl w).alloc (.cells #[.int .i64 c.what, .int .i64 c.a, .int .i64 c.b, .int .i64 c.c, .string c.s, .slice aa c.attrs.length acap, .int .i64 c.n.tag, .slice naa c.n.attrs.length nac, .string c.n.text, .slice nka c.n.kids.length nkc] 39)
  have bM1 := heap_alloc_new w (.cells #[.int .i64 c.what, .int .i64 c.a, .int .i64 c.b, .int .i64 c.c, .string c.s, .slice aa c.attrs.length acap, .int .i64 c.n.tag, .slice naa c.n.attrs.length nac, .string c.n.text, .slice nka c.n.kids.length nkc] 39)
  obtain ⟨w1, hw1⟩ : ∃ W : World, W = w.alloc (.cells #[.int .i64 c.what, .int .i64 c.a, .int .i64 c.b, .int .i64 c.c, .string c.s, .slice aa c.attrs.length acap, .int .i64 c.n.tag, .slice naa c.n.attrs.length nac, .string c.n.text, .slice nka c.n.kids.length nkc] 39) := ⟨_, rfl⟩
  have sz1 : w1.heap.size = w.heap.size + 1 := by rw [hw1]; simp
  rw [← hw1] at xm1 bM1
  have xm2 := (Ext.refl w1).alloc (.cells #[.int .i64 c.a, .int .i64 c.b] 43)
  have bP := heap_alloc_new w1 (.cells #[.int .i64 c.a, .int .i64 c.b] 43)
  obtain ⟨wm, hwm⟩ : ∃ W : World, W = w1.alloc (.cells #[.int .i64 c.a, .int .i64 c.b] 43) := ⟨_, rfl⟩
  rw [← hwm] at xm2 bP
  have bM := xm2.block bM1
  have xm := xm1.trans xm2
  obtain ⟨BX, hBX⟩ : ∃ b, w.heap.size = b := ⟨_, rfl⟩
  obtain ⟨BP, hBP⟩ : ∃ b, w1.heap.size = b := ⟨_, rfl⟩
  have hBw : w.heap.size ≤ BX := by omega
  have hPw : w.heap.size ≤ BP := by omega
  have hbp : BP = BX + 1 := by omega
  rw [hBX] at bM
  rw [hBP] at bP
  have J1 := Lib.hid (hJ.grow xm)
  have B1 := Lib.hid (gap_new (w0 := w0) (w := w) bM hBw (i := 1) (v := .int .i64 c.a) rfl)
  have B2 := Lib.hid (gap_new (w0 := w0) (w := w) bM hBw (i := 2) (v := .int .i64 c.b) rfl)
  have B3 := Lib.hid (gap_new (w0 := w0) (w := w) bM hBw (i := 3) (v := .int .i64 c.c) rfl)
  have B4 := Lib.hid (gap_new (w0 := w0) (w := w) bM hBw (i := 4) (v := .string c.s) rfl)
  have B5 := Lib.hid (gap_new (w0 := w0) (w := w) bM hBw (i := 5) (v := .slice aa c.attrs.length acap) rfl)
  have B6 := Lib.hid (gap_new (w0 := w0) (w := w) bM hBw (i := 6) (v := .int .i64 c.n.tag) rfl)
  have B7 := Lib.hid (gap_new (w0 := w0) (w := w) bM hBw (i := 7) (v := .slice naa c.n.attrs.length nac) rfl)
  have B8 := Lib.hid (gap_new (w0 := w0) (w := w) bM hBw (i := 8) (v := .string c.n.text) rfl)
  have B9 := Lib.hid (gap_new (w0 := w0) (w := w) bM hBw (i := 9) (v := .slice nka c.n.kids.length nkc) rfl)
  have P0 := Lib.hid (gap_new (w0 := w0) (w := w) bP hPw (i := 0) (v := .int .i64 c.a) rfl)
  have P1 := Lib.hid (gap_new (w0 := w0) (w := w) bP hPw (i := 1) (v := .int .i64 c.b) rfl)
  have RAO := Lib.hid (hra.cells (gap_old (w := w) (hJ.ext.trans xm)))
  have RNO := Lib.hid (hrn.cells (gap_old (w := w) (hJ.ext.trans xm)))
  have HS := Lib.hid hS
  have G5 := Lib.hid g5
  have XM := Lib.hid xm
  have HWM := Lib.hid hwm
  have HW1 := Lib.hid hw1
  have HBX := Lib.hid hBX
  have HBP := Lib.hid hBP
  have HBB := Lib.hid hbp
  have BM := Lib.hid bM
  have BPL := Lib.hid bP
  have HL := Lib.hid hl
  obtain ⟨m1, m2⟩ := tmod14 c.what
  have e1 : IntKind.i64.wrap (c.what.tmod 14) = c.what.tmod 14 := IntWalk.i64_in _ (by omega)
  have e2 : IntKind.i64.wrap (c.what.tmod 14 + 14) = c.what.tmod 14 + 14 := IntWalk.i64_in _ (by omega)
  have e3 : IntKind.i64.wrap ((c.what.tmod 14 + 14).tmod 14) = 12 := by rw [hm]; rfl
  rw [Int.tmod_eq_emod_of_nonneg (by omega), Int.add_emod_right] at hm
  obtain ⟨er, H', hS2, hl2, pd, pr⟩ := Free_both hS (by omega) c.c
  have HS2 := Lib.hid hS2
  have HL2 := Lib.hid hl2
  have PD := Lib.hid pd
  have PR := Lib.hid pr
  clear hS2 hl2 pd pr
  clear hJ hra hrn hS hna g3 g5 xm1 bM1 hw1 sz1 xm2 bP hwm bM xm hBX hBP hBw hPw hbp
  go_enter Tryz.func10, Tryz.ntmps10
  go_upto_region 2 with fail
  rw [← HW1.out, HBX.out, ← HBB.out, ← HWM.out]
  have u0 := cellOf BM.out (i := 0) (v := .int .i64 c.what) rfl
  have u1 := cellOf BM.out (i := 1) (v := .int .i64 c.a) rfl
  have u2 := cellOf BM.out (i := 2) (v := .int .i64 c.b) rfl
  have u3 := cellOf BM.out (i := 3) (v := .int .i64 c.c) rfl
  have u4 := cellOf BM.out (i := 4) (v := .string c.s) rfl
  go_upto_region 27 with fail
  go_region_held3 (fun w' => w'.cell? ⟨BX, 3, none⟩ = some (.int .i64 c.c))
    (first | exact u3 | exact hkeep | go_keep)
    (first
    | (go_at_call 16; refine ((J1.out.more (Ext.refl wm).drew).live_ (v := .int .i64 er) (T' := T) (H' := H') fun own ptr tb hv hb h1 h2 => PD.out _ own ptr lb tb hv hb h1).mono ?_; rintro e w2 ⟨rfl, hj⟩; have hkeep := hj.told B3.out; have J2 := Lib.hid hj; clear hj)
    | (go_at_call 43; refine (J2.out.doc_ (v := .int .i64 er) (T' := T) (H' := H') fun F rb h1 h2 => PR.out _ F xb rb h1).mono ?_; rintro e w3 ⟨rfl, hj⟩; have hkeep := hj.told B3.out; have J3 := Lib.hid hj; clear hj))
  go_wp2_with fail
  go_ret
  exact ⟨rfl, T, H', HS2.out, by have := HL2.out; omega, J3.out.base.free⟩
set_option maxRecDepth 100000 in
set_option maxHeartbeats 1000000 in
theorem Does11_13 {w0 w : World} {lb xb : Nat} {T : Tr} {H : List Hd} {L : Nat → Prop} (hS : StOk T H) (hl : H.length ≤ 90000) (hJ : LJ w0 w lb xb T H T H w0 L) {c : Cl} (hc : LightCl c) (hm : (c.what.tmod 14 + 14).tmod 14 = 13) {av c6 c7 c8 c9 : Value} (hra : RowRd w0 2 av c.attrs.length (attrCells c.attrs)) (hrn : RdN w0 c.n (.agg #[c6, c7, c8, c9])) :
    Calls Tryz.prog 10 #[.pointer (some ⟨lb, 0, none⟩), .pointer (some ⟨xb, 0, none⟩), .agg #[.int .i64 c.what, .int .i64 c.a, .int .i64 c.b, .int .i64 c.c, .string c.s, av, c6, c7, c8, c9]] w (DoesIs11 w0 lb xb H) := by
  obtain ⟨g1, g2, g3, g4⟩ := hc
  have g5 := light_short11 g3
  obtain ⟨aa, acap, rfl, hac⟩ := hra.len_of
  obtain ⟨n0, n1, en, hna, hnk⟩ := hrn.open
  obtain ⟨naa, nac, en0, _⟩ := hna.len_of
  obtain ⟨nka, nkc, en1, _⟩ := hnk
  subst en0 en1
  cases en
  have xm1 := (Ext.refl w).alloc (.cells #[.int .i64 c.what, .int .i64 c.a, .int .i64 c.b, .int .i64 c.c, .string c.s, .slice aa c.attrs.length acap, .int .i64 c.n.tag, .slice naa c.n.attrs.length nac, .string c.n.text, .slice nka c.n.kids.length nkc] 39)
  have bM1 := heap_alloc_new w (.cells #[.int .i64 c.what, .int .i64 c.a, .int .i64 c.b, .int .i64 c.c, .string c.s, .slice aa c.attrs.length acap, .int .i64 c.n.tag, .slice naa c.n.attrs.length nac, .string c.n.text, .slice nka c.n.kids.length nkc] 39)
  obtain ⟨w1, hw1⟩ : ∃ W : World, W = w.alloc (.cells #[.int .i64 c.what, .int .i64 c.a, .int .i64 c.b, .int .i64 c.c, .string c.s, .slice aa c.attrs.length acap, .int .i64 c.n.tag, .slice naa c.n.attrs.length nac, .string c.n.text, .slice nka c.n.kids.length nkc] 39) := ⟨_, rfl⟩
  have sz1 : w1.heap.size = w.heap.size + 1 := by rw [hw1]; simp
  rw [← hw1] at xm1 bM1
  have xm2 := (Ext.refl w1).alloc (.cells #[.int .i64 c.a, .int .i64 c.b] 43)
  have bP := heap_alloc_new w1 (.cells #[.int .i64 c.a, .int .i64 c.b] 43)
  obtain ⟨wm, hwm⟩ : ∃ W : World, W = w1.alloc (.cells #[.int .i64 c.a, .int .i64 c.b] 43) := ⟨_, rfl⟩
  rw [← hwm] at xm2 bP
  have bM := xm2.block bM1
  have xm := xm1.trans xm2
  obtain ⟨BX, hBX⟩ : ∃ b, w.heap.size = b := ⟨_, rfl⟩
  obtain ⟨BP, hBP⟩ : ∃ b, w1.heap.size = b := ⟨_, rfl⟩
  have hBw : w.heap.size ≤ BX := by omega
  have hPw : w.heap.size ≤ BP := by omega
  have hbp : BP = BX + 1 := by omega
  rw [hBX] at bM
  rw [hBP] at bP
  have J1 := Lib.hid (hJ.grow xm)
  have B1 := Lib.hid (gap_new (w0 := w0) (w := w) bM hBw (i := 1) (v := .int .i64 c.a) rfl)
  have B2 := Lib.hid (gap_new (w0 := w0) (w := w) bM hBw (i := 2) (v := .int .i64 c.b) rfl)
  have B3 := Lib.hid (gap_new (w0 := w0) (w := w) bM hBw (i := 3) (v := .int .i64 c.c) rfl)
  have B4 := Lib.hid (gap_new (w0 := w0) (w := w) bM hBw (i := 4) (v := .string c.s) rfl)
  have B5 := Lib.hid (gap_new (w0 := w0) (w := w) bM hBw (i := 5) (v := .slice aa c.attrs.length acap) rfl)
  have B6 := Lib.hid (gap_new (w0 := w0) (w := w) bM hBw (i := 6) (v := .int .i64 c.n.tag) rfl)
  have B7 := Lib.hid (gap_new (w0 := w0) (w := w) bM hBw (i := 7) (v := .slice naa c.n.attrs.length nac) rfl)
  have B8 := Lib.hid (gap_new (w0 := w0) (w := w) bM hBw (i := 8) (v := .string c.n.text) rfl)
  have B9 := Lib.hid (gap_new (w0 := w0) (w := w) bM hBw (i := 9) (v := .slice nka c.n.kids.length nkc) rfl)
  have P0 := Lib.hid (gap_new (w0 := w0) (w := w) bP hPw (i := 0) (v := .int .i64 c.a) rfl)
  have P1 := Lib.hid (gap_new (w0 := w0) (w := w) bP hPw (i := 1) (v := .int .i64 c.b) rfl)
  have RAO := Lib.hid (hra.cells (gap_old (w := w) (hJ.ext.trans xm)))
  have RNO := Lib.hid (hrn.cells (gap_old (w := w) (hJ.ext.trans xm)))
  have HS := Lib.hid hS
  have G5 := Lib.hid g5
  have XM := Lib.hid xm
  have HWM := Lib.hid hwm
  have HW1 := Lib.hid hw1
  have HBX := Lib.hid hBX
  have HBP := Lib.hid hBP
  have HBB := Lib.hid hbp
  have BM := Lib.hid bM
  have BPL := Lib.hid bP
  have HL := Lib.hid hl
  obtain ⟨m1, m2⟩ := tmod14 c.what
  have e1 : IntKind.i64.wrap (c.what.tmod 14) = c.what.tmod 14 := IntWalk.i64_in _ (by omega)
  have e2 : IntKind.i64.wrap (c.what.tmod 14 + 14) = c.what.tmod 14 + 14 := IntWalk.i64_in _ (by omega)
  have e3 : IntKind.i64.wrap ((c.what.tmod 14 + 14).tmod 14) = 13 := by rw [hm]; rfl
  rw [Int.tmod_eq_emod_of_nonneg (by omega), Int.add_emod_right] at hm
  obtain ⟨er, T', H', hS2, hl2, -, pd, pr⟩ := Replace_both hS (by omega) c.a c.b c.c c.s (by omega)
  have HS2 := Lib.hid hS2
  have HL2 := Lib.hid hl2
  have PD := Lib.hid pd
  have PR := Lib.hid pr
  clear hS2 hl2 pd pr
  clear hJ hra hrn hS hna g3 g5 xm1 bM1 hw1 sz1 xm2 bP hwm bM xm hBX hBP hBw hPw hbp
  go_enter Tryz.func10, Tryz.ntmps10
  go_upto_region 2 with fail
  rw [← HW1.out, HBX.out, ← HBB.out, ← HWM.out]
  have u0 := cellOf BM.out (i := 0) (v := .int .i64 c.what) rfl
  have u1 := cellOf BM.out (i := 1) (v := .int .i64 c.a) rfl
  have u2 := cellOf BM.out (i := 2) (v := .int .i64 c.b) rfl
  have u3 := cellOf BM.out (i := 3) (v := .int .i64 c.c) rfl
  have u4 := cellOf BM.out (i := 4) (v := .string c.s) rfl
  go_upto_region 29 with fail
  go_region_held3 (fun w' => w'.cell? ⟨BX, 1, none⟩ = some (.int .i64 c.a) ∧ w'.cell? ⟨BX, 2, none⟩ = some (.int .i64 c.b) ∧ w'.cell? ⟨BX, 3, none⟩ = some (.int .i64 c.c) ∧ w'.cell? ⟨BX, 4, none⟩ = some (.string c.s))
    (first | exact ⟨u1, u2, u3, u4⟩ | exact hkeep | go_keep)
    (first
    | (go_at_call 26; refine ((J1.out.more (Ext.refl wm).drew).live_ (v := .int .i64 er) (T' := T') (H' := H') fun own ptr tb hv hb h1 h2 => PD.out _ own ptr lb tb hv hb h1).mono ?_; rintro e w2 ⟨rfl, hj⟩; have hkeep := (show _ ∧ _ ∧ _ ∧ _ from ⟨hj.told B1.out, hj.told B2.out, hj.told B3.out, hj.told B4.out⟩); have J2 := Lib.hid hj; clear hj)
    | (go_at_call 44; refine (J2.out.doc_ (v := .int .i64 er) (T' := T') (H' := H') fun F rb h1 h2 => PR.out _ F xb rb h1).mono ?_; rintro e w3 ⟨rfl, hj⟩; have hkeep := (show _ ∧ _ ∧ _ ∧ _ from ⟨hj.told B1.out, hj.told B2.out, hj.told B3.out, hj.told B4.out⟩); have J3 := Lib.hid hj; clear hj))
  go_wp2_with fail
  go_ret
  exact ⟨rfl, T', H', HS2.out, by have := HL2.out; omega, J3.out.base.free⟩
end Go.Proofs.YthgnbbbdcebjhaaGreat

namespace Go.Proofs.YthgnbbbdcebjhaaGreat
open Go Go.RowKit Go.BigFrame
set_option linter.unusedVariables false
set_option linter.unusedSimpArgs false

set_option maxRecDepth 100000 in
set_option maxHeartbeats 1000000 in
theorem Does11_0 {w0 w : World} {lb xb : Nat} {T : Tr} {H : List Hd} {L : Nat → Prop} (hS : StOk T H) (hl : H.length ≤ 90000) (hJ : LJ w0 w lb xb T H T H w0 L) {c : Cl} (hc : LightCl c) (hm : (c.what.tmod 14 + 14).tmod 14 = 0) {av c6 c7 c8 c9 : Value} (hra : RowRd w0 2 av c.attrs.length (attrCells c.attrs)) (hrn : RdN w0 c.n (.agg #[c6, c7, c8, c9])) :
    Calls Tryz.prog 10 #[.pointer (some ⟨lb, 0, none⟩), .pointer (some ⟨xb, 0, none⟩), .agg #[.int .i64 c.what, .int .i64 c.a, .int .i64 c.b, .int .i64 c.c, .string c.s, av, c6, c7, c8, c9]] w (DoesIs11 w0 lb xb H) := by
  obtain ⟨g1, g2, g3, g4⟩ := hc
  have g5 := light_short11 g3
  obtain ⟨aa, acap, rfl, hac⟩ := hra.len_of
  obtain ⟨n0, n1, en, hna, hnk⟩ := hrn.open
  obtain ⟨naa, nac, en0, _⟩ := hna.len_of
  obtain ⟨nka, nkc, en1, _⟩ := hnk
  subst en0 en1
  cases en
  have xm1 := (Ext.refl w).alloc (.cells #[.int .i64 c.what, .int .i64 c.a, .int .i64 c.b, .int .i64 c.c, .string c.s, .slice aa c.attrs.length acap, .int .i64 c.n.tag, .slice naa c.n.attrs.length nac, .string c.n.text, .slice nka c.n.kids.length nkc] 39)
  have bM1 := heap_alloc_new w (.cells #[.int .i64 c.what, .int .i64 c.a, .int .i64 c.b, .int .i64 c.c, .string c.s, .slice aa c.attrs.length acap, .int .i64 c.n.tag, .slice naa c.n.attrs.length nac, .string c.n.text, .slice nka c.n.kids.length nkc] 39)
  obtain ⟨w1, hw1⟩ : ∃ W : World, W = w.alloc (.cells #[.int .i64 c.what, .int .i64 c.a, .int .i64 c.b, .int .i64 c.c, .string c.s, .slice aa c.attrs.length acap, .int .i64 c.n.tag, .slice naa c.n.attrs.length nac, .string c.n.text, .slice nka c.n.kids.length nkc] 39) := ⟨_, rfl⟩
  have sz1 : w1.heap.size = w.heap.size + 1 := by rw [hw1]; simp
  rw [← hw1] at xm1 bM1
  have xm2 := (Ext.refl w1).alloc (.cells #[.int .i64 c.a, .int .i64 c.b] 43)
  have bP := heap_alloc_new w1 (.cells #[.int .i64 c.a, .int .i64 c.b] 43)
  obtain ⟨wm, hwm⟩ : ∃ W : World, W = w1.alloc (.cells #[.int .i64 c.a, .int .i64 c.b] 43) := ⟨_, rfl⟩
  rw [← hwm] at xm2 bP
  have bM := xm2.block bM1
  have xm := xm1.trans xm2
  obtain ⟨BX, hBX⟩ : ∃ b, w.heap.size = b := ⟨_, rfl⟩
  obtain ⟨BP, hBP⟩ : ∃ b, w1.heap.size = b := ⟨_, rfl⟩
  have hBw : w.heap.size ≤ BX := by omega
  have hPw : w.heap.size ≤ BP := by omega
  have hbp : BP = BX + 1 := by omega
  rw [hBX] at bM
  rw [hBP] at bP
  have J1 := Lib.hid (hJ.grow xm)
  have B1 := Lib.hid (gap_new (w0 := w0) (w := w) bM hBw (i := 1) (v := .int .i64 c.a) rfl)
  have B2 := Lib.hid (gap_new (w0 := w0) (w := w) bM hBw (i := 2) (v := .int .i64 c.b) rfl)
  have B3 := Lib.hid (gap_new (w0 := w0) (w := w) bM hBw (i := 3) (v := .int .i64 c.c) rfl)
  have B4 := Lib.hid (gap_new (w0 := w0) (w := w) bM hBw (i := 4) (v := .string c.s) rfl)
  have B5 := Lib.hid (gap_new (w0 := w0) (w := w) bM hBw (i := 5) (v := .slice aa c.attrs.length acap) rfl)
  have B6 := Lib.hid (gap_new (w0 := w0) (w := w) bM hBw (i := 6) (v := .int .i64 c.n.tag) rfl)
  have B7 := Lib.hid (gap_new (w0 := w0) (w := w) bM hBw (i := 7) (v := .slice naa c.n.attrs.length nac) rfl)
  have B8 := Lib.hid (gap_new (w0 := w0) (w := w) bM hBw (i := 8) (v := .string c.n.text) rfl)
  have B9 := Lib.hid (gap_new (w0 := w0) (w := w) bM hBw (i := 9) (v := .slice nka c.n.kids.length nkc) rfl)
  have P0 := Lib.hid (gap_new (w0 := w0) (w := w) bP hPw (i := 0) (v := .int .i64 c.a) rfl)
  have P1 := Lib.hid (gap_new (w0 := w0) (w := w) bP hPw (i := 1) (v := .int .i64 c.b) rfl)
  have RAO := Lib.hid (hra.cells (gap_old (w := w) (hJ.ext.trans xm)))
  have RNO := Lib.hid (hrn.cells (gap_old (w := w) (hJ.ext.trans xm)))
  have HS := Lib.hid hS
  have G5 := Lib.hid g5
  have XM := Lib.hid xm
  have HWM := Lib.hid hwm
  have HW1 := Lib.hid hw1
  have HBX := Lib.hid hBX
  have HBP := Lib.hid hBP
  have HBB := Lib.hid hbp
  have BM := Lib.hid bM
  have BPL := Lib.hid bP
  have HL := Lib.hid hl
  obtain ⟨m1, m2⟩ := tmod14 c.what
  have e1 : IntKind.i64.wrap (c.what.tmod 14) = c.what.tmod 14 := IntWalk.i64_in _ (by omega)
  have e2 : IntKind.i64.wrap (c.what.tmod 14 + 14) = c.what.tmod 14 + 14 := IntWalk.i64_in _ (by omega)
  have e3 : IntKind.i64.wrap ((c.what.tmod 14 + 14).tmod 14) = 0 := by rw [hm]; rfl
  rw [Int.tmod_eq_emod_of_nonneg (by omega), Int.add_emod_right] at hm
  obtain ⟨x, er, T', hG2, hk, pd, pr⟩ := Element_told hS.good c.a c.attrs (by omega)
  have HS2 := Lib.hid (hS.keeps hG2 hk)
  have PD := Lib.hid pd
  have PR := Lib.hid pr
  clear hG2 hk pd pr
  clear hJ hra hrn hS hna g3 g5 xm1 bM1 hw1 sz1 xm2 bP hwm bM xm hBX hBP hBw hPw hbp
  go_enter Tryz.func10, Tryz.ntmps10
  go_upto_region 2 with fail
  rw [← HW1.out, HBX.out, ← HBB.out, ← HWM.out]
  have u0 := cellOf BM.out (i := 0) (v := .int .i64 c.what) rfl
  have u1 := cellOf BM.out (i := 1) (v := .int .i64 c.a) rfl
  have u2 := cellOf BM.out (i := 2) (v := .int .i64 c.b) rfl
  have u3 := cellOf BM.out (i := 3) (v := .int .i64 c.c) rfl
  have u4 := cellOf BM.out (i := 4) (v := .string c.s) rfl
  go_upto_region 30 with fail
  clear u0 u1 u2 u3 u4
  obtain ⟨own1, ptr1, tb1, hv1, hb1, hL1⟩ := J1.out.live
  have p1 := hL1.ptr_
  clear hL1
  have r0 : ∀ u : ExtOf wm, u.val.cell? ⟨lb, 0, none⟩ = some (.pointer (some ⟨tb1, 0, none⟩)) := fun u => u.ext.cell p1
  have r1 : ∀ u : ExtOf wm, u.val.cell? ⟨BX, 1, none⟩ = some (.int .i64 c.a) := fun u => u.ext.cell (cellOf BM.out rfl)
  have r2 : ∀ u : ExtOf wm, u.val.cell? ⟨BX, 5, none⟩ = some (.slice aa c.attrs.length acap) := fun u => u.ext.cell (cellOf BM.out rfl)
  refine wp_region_ext_mid 10 _ rfl (by kernel_rfl) (by kernel_rfl) ?_
  simp only [List.take_succ_cons, List.take_zero, List.drop_succ_cons, List.drop_zero]
  repeat (go_big_quiet_step (fail))
  refine wpQuiet_nil ?_
  rintro _ ⟨u, rfl⟩ K hK
  have HK := Lib.hid hK
  have hx := u.ext
  obtain ⟨w5, hw5⟩ : ∃ W, u.val = W := ⟨_, rfl⟩
  rw [hw5] at hx ⊢
  have X5 := Lib.hid hx
  have P5 := Lib.hid (hx.cell p1)
  clear r0 r1 r2 hw5 hK hx p1
  clear u
  go_simp
  go_at_call 45
  refine ((J1.out.more X5.out).live_ (v := .tuple #[.int .i64 x, .int .i64 er]) (T' := T') (H' := H) fun own ptr tb hv hb h1 h2 => ?_).mono ?_
  · have e := h1.ptr_
    rw [P5.out] at e
    cases e
    exact (PD.out _ own ptr tb1 _ h1.tree h1.ownd (RAO.out.cells ((J1.out.more X5.out).cells))).mono fun e w' k => ⟨k.1, h1.inner k.2⟩
  rintro e w6 ⟨rfl, hj⟩
  have J2 := Lib.hid hj
  clear hj
  refine HK.out _ _ ?_
  clear HK K
  repeat (go_big_quiet_step (fail))
  refine wpQuiet_nil ?_
  rintro _ ⟨u, rfl⟩
  have J3 := Lib.hid (J2.out.more u.ext)
  obtain ⟨w7, hw7⟩ : ∃ W, u.val = W := ⟨_, rfl⟩
  rw [hw7] at J3 ⊢
  clear hw7
  clear u
  go_upto_region 31 with fail
  obtain ⟨F1, rb1, hD1⟩ := J3.out.doc
  have p1 := hD1.ptr_
  clear hD1
  have r0 : ∀ u : ExtOf w7, u.val.cell? ⟨xb, 0, none⟩ = some (.pointer (some ⟨rb1, 0, none⟩)) := fun u => u.ext.cell p1
  have r1 : ∀ u : ExtOf w7, u.val.cell? ⟨BX, 1, none⟩ = some (.int .i64 c.a) := fun u => u.ext.cell (J3.out.told B1.out)
  have r2 : ∀ u : ExtOf w7, u.val.cell? ⟨BX, 5, none⟩ = some (.slice aa c.attrs.length acap) := fun u => u.ext.cell (J3.out.told B5.out)
  refine wp_region_ext_mid 10 _ rfl (by kernel_rfl) (by kernel_rfl) ?_
  simp only [List.take_succ_cons, List.take_zero, List.drop_succ_cons, List.drop_zero]
  repeat (go_big_quiet_step (fail))
  refine wpQuiet_nil ?_
  rintro _ ⟨u, rfl⟩ K hK
  have HK := Lib.hid hK
  have hx := u.ext
  obtain ⟨w8, hw8⟩ : ∃ W, u.val = W := ⟨_, rfl⟩
  rw [hw8] at hx ⊢
  have J3 := Lib.hid (J3.out.more hx)
  have P5 := Lib.hid (hx.cell p1)
  clear r0 r1 r2 hw8 hK hx p1
  clear u
  go_simp
  go_at_call 46
  refine (J3.out.doc_ (v := .tuple #[.int .i64 x, .int .i64 er]) (T' := T') (H' := H) fun F rb h1 h2 => ?_).mono ?_
  · have e := h1.ptr_
    rw [P5.out] at e
    cases e
    obtain ⟨F0, hR, hsub, hA⟩ := h1.tree
    exact (PR.out _ F0 rb1 _ hR (RAO.out.cells (J3.out.cells))).mono fun e w' k => ⟨k.1, hA _ _ k.2⟩
  rintro e w9 ⟨rfl, hj⟩
  have J4 := Lib.hid hj
  clear hj
  refine HK.out _ _ ?_
  clear HK K
  repeat (go_big_quiet_step (fail))
  refine wpQuiet_nil ?_
  rintro _ ⟨u, rfl⟩
  have J5 := Lib.hid (J4.out.more u.ext)
  obtain ⟨wA, hwA⟩ : ∃ W, u.val = W := ⟨_, rfl⟩
  rw [hwA] at J5 ⊢
  clear hwA
  clear u
  go_wp2_with fail
  go_ret
  exact ⟨rfl, T', H, HS2.out, Nat.le_succ _, J5.out.base.free⟩
end Go.Proofs.YthgnbbbdcebjhaaGreat

namespace Go.Proofs.YthgnbbbdcebjhaaGreat
open Go Go.RowKit Go.BigFrame
set_option linter.unusedVariables false
set_option linter.unusedSimpArgs false

set_option maxRecDepth 100000 in
set_option maxHeartbeats 1000000 in
theorem Does11_1 {w0 w : World} {lb xb : Nat} {T : Tr} {H : List Hd} {L : Nat → Prop} (hS : StOk T H) (hl : H.length ≤ 90000) (hJ : LJ w0 w lb xb T H T H w0 L) {c : Cl} (hc : LightCl c) (hm : (c.what.tmod 14 + 14).tmod 14 = 1) {av c6 c7 c8 c9 : Value} (hra : RowRd w0 2 av c.attrs.length (attrCells c.attrs)) (hrn : RdN w0 c.n (.agg #[c6, c7, c8, c9])) :
    Calls Tryz.prog 10 #[.pointer (some ⟨lb, 0, none⟩), .pointer (some ⟨xb, 0, none⟩), .agg #[.int .i64 c.what, .int .i64 c.a, .int .i64 c.b, .int .i64 c.c, .string c.s, av, c6, c7, c8, c9]] w (DoesIs11 w0 lb xb H) := by
  obtain ⟨g1, g2, g3, g4⟩ := hc
  have g5 := light_short11 g3
  obtain ⟨aa, acap, rfl, hac⟩ := hra.len_of
  obtain ⟨n0, n1, en, hna, hnk⟩ := hrn.open
  obtain ⟨naa, nac, en0, _⟩ := hna.len_of
  obtain ⟨nka, nkc, en1, _⟩ := hnk
  subst en0 en1
  cases en
  have xm1 := (Ext.refl w).alloc (.cells #[.int .i64 c.what, .int .i64 c.a, .int .i64 c.b, .int .i64 c.c, .string c.s, .slice aa c.attrs.length acap, .int .i64 c.n.tag, .slice naa c.n.attrs.length nac, .string c.n.text, .slice nka c.n.kids.length nkc] 39)
  have bM1 := heap_alloc_new w (.cells #[.int .i64 c.what, .int .i64 c.a, .int .i64 c.b, .int .i64 c.c, .string c.s, .slice aa c.attrs.length acap, .int .i64 c.n.tag, .slice naa c.n.attrs.length nac, .string c.n.text, .slice nka c.n.kids.length nkc] 39)
  obtain ⟨w1, hw1⟩ : ∃ W : World, W = w.alloc (.cells #[.int .i64 c.what, .int .i64 c.a, .int .i64 c.b, .int .i64 c.c, .string c.s, .slice aa c.attrs.length acap, .int .i64 c.n.tag, .slice naa c.n.attrs.length nac, .string c.n.text, .slice nka c.n.kids.length nkc] 39) := ⟨_, rfl⟩
  have sz1 : w1.heap.size = w.heap.size + 1 := by rw [hw1]; simp
  rw [← hw1] at xm1 bM1
  have xm2 := (Ext.refl w1).alloc (.cells #[.int .i64 c.a, .int .i64 c.b] 43)
  have bP := heap_alloc_new w1 (.cells #[.int .i64 c.a, .int .i64 c.b] 43)
  obtain ⟨wm, hwm⟩ : ∃ W : World, W = w1.alloc (.cells #[.int .i64 c.a, .int .i64 c.b] 43) := ⟨_, rfl⟩
  rw [← hwm] at xm2 bP
  have bM := xm2.block bM1
  have xm := xm1.trans xm2
  obtain ⟨BX, hBX⟩ : ∃ b, w.heap.size = b := ⟨_, rfl⟩
  obtain ⟨BP, hBP⟩ : ∃ b, w1.heap.size = b := ⟨_, rfl⟩
  have hBw : w.heap.size ≤ BX := by omega
  have hPw : w.heap.size ≤ BP := by omega
  have hbp : BP = BX + 1 := by omega
  rw [hBX] at bM
  rw [hBP] at bP
  have J1 := Lib.hid (hJ.grow xm)
  have B1 := Lib.hid (gap_new (w0 := w0) (w := w) bM hBw (i := 1) (v := .int .i64 c.a) rfl)
  have B2 := Lib.hid (gap_new (w0 := w0) (w := w) bM hBw (i := 2) (v := .int .i64 c.b) rfl)
  have B3 := Lib.hid (gap_new (w0 := w0) (w := w) bM hBw (i := 3) (v := .int .i64 c.c) rfl)
  have B4 := Lib.hid (gap_new (w0 := w0) (w := w) bM hBw (i := 4) (v := .string c.s) rfl)
  have B5 := Lib.hid (gap_new (w0 := w0) (w := w) bM hBw (i := 5) (v := .slice aa c.attrs.length acap) rfl)
  have B6 := Lib.hid (gap_new (w0 := w0) (w := w) bM hBw (i := 6) (v := .int .i64 c.n.tag) rfl)
  have B7 := Lib.hid (gap_new (w0 := w0) (w := w) bM hBw (i := 7) (v := .slice naa c.n.attrs.length nac) rfl)
  have B8 := Lib.hid (gap_new (w0 := w0) (w := w) bM hBw (i := 8) (v := .string c.n.text) rfl)
  have B9 := Lib.hid (gap_new (w0 := w0) (w := w) bM hBw (i := 9) (v := .slice nka c.n.kids.length nkc) rfl)
  have P0 := Lib.hid (gap_new (w0 := w0) (w := w) bP hPw (i := 0) (v := .int .i64 c.a) rfl)
  have P1 := Lib.hid (gap_new (w0 := w0) (w := w) bP hPw (i := 1) (v := .int .i64 c.b) rfl)
  have RAO := Lib.hid (hra.cells (gap_old (w := w) (hJ.ext.trans xm)))
  have RNO := Lib.hid (hrn.cells (gap_old (w := w) (hJ.ext.trans xm)))
  have HS := Lib.hid hS
  have G5 := Lib.hid g5
  have XM := Lib.hid xm
  have HWM := Lib.hid hwm
  have HW1 := Lib.hid hw1
  have HBX := Lib.hid hBX
  have HBP := Lib.hid hBP
  have HBB := Lib.hid hbp
  have BM := Lib.hid bM
  have BPL := Lib.hid bP
  have HL := Lib.hid hl
  obtain ⟨m1, m2⟩ := tmod14 c.what
  have e1 : IntKind.i64.wrap (c.what.tmod 14) = c.what.tmod 14 := IntWalk.i64_in _ (by omega)
  have e2 : IntKind.i64.wrap (c.what.tmod 14 + 14) = c.what.tmod 14 + 14 := IntWalk.i64_in _ (by omega)
  have e3 : IntKind.i64.wrap ((c.what.tmod 14 + 14).tmod 14) = 1 := by rw [hm]; rfl
  rw [Int.tmod_eq_emod_of_nonneg (by omega), Int.add_emod_right] at hm
  obtain ⟨x, er, T', hG2, hk, pd, pr⟩ := Element_told hS.good c.a c.attrs (by omega)
  have HS2 := Lib.hid (hS.keeps hG2 hk)
  have PD := Lib.hid pd
  have PR := Lib.hid pr
  clear hG2 hk pd pr
  clear hJ hra hrn hS hna g3 g5 xm1 bM1 hw1 sz1 xm2 bP hwm bM xm hBX hBP hBw hPw hbp
  go_enter Tryz.func10, Tryz.ntmps10
  go_upto_region 2 with fail
  rw [← HW1.out, HBX.out, ← HBB.out, ← HWM.out]
  have u0 := cellOf BM.out (i := 0) (v := .int .i64 c.what) rfl
  have u1 := cellOf BM.out (i := 1) (v := .int .i64 c.a) rfl
  have u2 := cellOf BM.out (i := 2) (v := .int .i64 c.b) rfl
  have u3 := cellOf BM.out (i := 3) (v := .int .i64 c.c) rfl
  have u4 := cellOf BM.out (i := 4) (v := .string c.s) rfl
  go_upto_region 30 with fail
  clear u0 u1 u2 u3 u4
  obtain ⟨own1, ptr1, tb1, hv1, hb1, hL1⟩ := J1.out.live
  have p1 := hL1.ptr_
  clear hL1
  have r0 : ∀ u : ExtOf wm, u.val.cell? ⟨lb, 0, none⟩ = some (.pointer (some ⟨tb1, 0, none⟩)) := fun u => u.ext.cell p1
  have r1 : ∀ u : ExtOf wm, u.val.cell? ⟨BX, 1, none⟩ = some (.int .i64 c.a) := fun u => u.ext.cell (cellOf BM.out rfl)
  have r2 : ∀ u : ExtOf wm, u.val.cell? ⟨BX, 5, none⟩ = some (.slice aa c.attrs.length acap) := fun u => u.ext.cell (cellOf BM.out rfl)
  refine wp_region_ext_mid 10 _ rfl (by kernel_rfl) (by kernel_rfl) ?_
  simp only [List.take_succ_cons, List.take_zero, List.drop_succ_cons, List.drop_zero]
  repeat (go_big_quiet_step (fail))
  refine wpQuiet_nil ?_
  rintro _ ⟨u, rfl⟩ K hK
  have HK := Lib.hid hK
  have hx := u.ext
  obtain ⟨w5, hw5⟩ : ∃ W, u.val = W := ⟨_, rfl⟩
  rw [hw5] at hx ⊢
  have X5 := Lib.hid hx
  have P5 := Lib.hid (hx.cell p1)
  clear r0 r1 r2 hw5 hK hx p1
  clear u
  go_simp
  go_at_call 45
  refine ((J1.out.more X5.out).live_ (v := .tuple #[.int .i64 x, .int .i64 er]) (T' := T') (H' := H) fun own ptr tb hv hb h1 h2 => ?_).mono ?_
  · have e := h1.ptr_
    rw [P5.out] at e
    cases e
    exact (PD.out _ own ptr tb1 _ h1.tree h1.ownd (RAO.out.cells ((J1.out.more X5.out).cells))).mono fun e w' k => ⟨k.1, h1.inner k.2⟩
  rintro e w6 ⟨rfl, hj⟩
  have J2 := Lib.hid hj
  clear hj
  refine HK.out _ _ ?_
  clear HK K
  repeat (go_big_quiet_step (fail))
  refine wpQuiet_nil ?_
  rintro _ ⟨u, rfl⟩
  have J3 := Lib.hid (J2.out.more u.ext)
  obtain ⟨w7, hw7⟩ : ∃ W, u.val = W := ⟨_, rfl⟩
  rw [hw7] at J3 ⊢
  clear hw7
  clear u
  go_upto_region 31 with fail
  obtain ⟨F1, rb1, hD1⟩ := J3.out.doc
  have p1 := hD1.ptr_
  clear hD1
  have r0 : ∀ u : ExtOf w7, u.val.cell? ⟨xb, 0, none⟩ = some (.pointer (some ⟨rb1, 0, none⟩)) := fun u => u.ext.cell p1
  have r1 : ∀ u : ExtOf w7, u.val.cell? ⟨BX, 1, none⟩ = some (.int .i64 c.a) := fun u => u.ext.cell (J3.out.told B1.out)
  have r2 : ∀ u : ExtOf w7, u.val.cell? ⟨BX, 5, none⟩ = some (.slice aa c.attrs.length acap) := fun u => u.ext.cell (J3.out.told B5.out)
  refine wp_region_ext_mid 10 _ rfl (by kernel_rfl) (by kernel_rfl) ?_
  simp only [List.take_succ_cons, List.take_zero, List.drop_succ_cons, List.drop_zero]
  repeat (go_big_quiet_step (fail))
  refine wpQuiet_nil ?_
  rintro _ ⟨u, rfl⟩ K hK
  have HK := Lib.hid hK
  have hx := u.ext
  obtain ⟨w8, hw8⟩ : ∃ W, u.val = W := ⟨_, rfl⟩
  rw [hw8] at hx ⊢
  have J3 := Lib.hid (J3.out.more hx)
  have P5 := Lib.hid (hx.cell p1)
  clear r0 r1 r2 hw8 hK hx p1
  clear u
  go_simp
  go_at_call 46
  refine (J3.out.doc_ (v := .tuple #[.int .i64 x, .int .i64 er]) (T' := T') (H' := H) fun F rb h1 h2 => ?_).mono ?_
  · have e := h1.ptr_
    rw [P5.out] at e
    cases e
    obtain ⟨F0, hR, hsub, hA⟩ := h1.tree
    exact (PR.out _ F0 rb1 _ hR (RAO.out.cells (J3.out.cells))).mono fun e w' k => ⟨k.1, hA _ _ k.2⟩
  rintro e w9 ⟨rfl, hj⟩
  have J4 := Lib.hid hj
  clear hj
  refine HK.out _ _ ?_
  clear HK K
  repeat (go_big_quiet_step (fail))
  refine wpQuiet_nil ?_
  rintro _ ⟨u, rfl⟩
  have J5 := Lib.hid (J4.out.more u.ext)
  obtain ⟨wA, hwA⟩ : ∃ W, u.val = W := ⟨_, rfl⟩
  rw [hwA] at J5 ⊢
  clear hwA
  clear u
  go_wp2_with fail
  go_ret
  exact ⟨rfl, T', H, HS2.out, Nat.le_succ _, J5.out.base.free⟩
end Go.Proofs.YthgnbbbdcebjhaaGreat

namespace Go.Proofs.YthgnbbbdcebjhaaGreat
open Go Go.RowKit Go.BigFrame
set_option linter.unusedVariables false
set_option linter.unusedSimpArgs false

set_option maxRecDepth 100000 in
set_option maxHeartbeats 1000000 in
theorem Does11_9 {w0 w : World} {lb xb : Nat} {T : Tr} {H : List Hd} {L : Nat → Prop} (hS : StOk T H) (hl : H.length ≤ 90000) (hJ : LJ w0 w lb xb T H T H w0 L) {c : Cl} (hc : LightCl c) (hm : (c.what.tmod 14 + 14).tmod 14 = 9) {av c6 c7 c8 c9 : Value} (hra : RowRd w0 2 av c.attrs.length (attrCells c.attrs)) (hrn : RdN w0 c.n (.agg #[c6, c7, c8, c9])) :
    Calls Tryz.prog 10 #[.pointer (some ⟨lb, 0, none⟩), .pointer (some ⟨xb, 0, none⟩), .agg #[.int .i64 c.what, .int .i64 c.a, .int .i64 c.b, .int .i64 c.c, .string c.s, av, c6, c7, c8, c9]] w (DoesIs11 w0 lb xb H) := by
  obtain ⟨g1, g2, g3, g4⟩ := hc
  have g5 := light_short11 g3
  obtain ⟨aa, acap, rfl, hac⟩ := hra.len_of
  obtain ⟨n0, n1, en, hna, hnk⟩ := hrn.open
  obtain ⟨naa, nac, en0, _⟩ := hna.len_of
  obtain ⟨nka, nkc, en1, _⟩ := hnk
  subst en0 en1
  cases en
  have xm1 := (Ext.refl w).alloc (.cells #[.int .i64 c.what, .int .i64 c.a, .int .i64 c.b, .int .i64 c.c, .string c.s, .slice aa c.attrs.length acap, .int .i64 c.n.tag, .slice naa c.n.attrs.length nac, .string c.n.text, .slice nka c.n.kids.length nkc] 39)
  have bM1 := heap_alloc_new w (.cells #[.int .i64 c.what, .int .i64 c.a, .int .i64 c.b, .int .i64 c.c, .string c.s, .slice aa c.attrs.length acap, .int .i64 c.n.tag, .slice naa c.n.attrs.length nac, .string c.n.text, .slice nka c.n.kids.length nkc] 39)
  obtain ⟨w1, hw1⟩ : ∃ W : World, W = w.alloc (.cells #[.int .i64 c.what, .int .i64 c.a, .int .i64 c.b, .int .i64 c.c, .string c.s, .slice aa c.attrs.length acap, .int .i64 c.n.tag, .slice naa c.n.attrs.length nac, .string c.n.text, .slice nka c.n.kids.length nkc] 39) := ⟨_, rfl⟩
  have sz1 : w1.heap.size = w.heap.size + 1 := by rw [hw1]; simp
  rw [← hw1] at xm1 bM1
  have xm2 := (Ext.refl w1).alloc (.cells #[.int .i64 c.a, .int .i64 c.b] 43)
  have bP := heap_alloc_new w1 (.cells #[.int .i64 c.a, .int .i64 c.b] 43)
  obtain ⟨wm, hwm⟩ : ∃ W : World, W = w1.alloc (.cells #[.int .i64 c.a, .int .i64 c.b] 43) := ⟨_, rfl⟩
  rw [← hwm] at xm2 bP
  have bM := xm2.block bM1
  have xm := xm1.trans xm2
  obtain ⟨BX, hBX⟩ : ∃ b, w.heap.size = b := ⟨_, rfl⟩
  obtain ⟨BP, hBP⟩ : ∃ b, w1.heap.size = b := ⟨_, rfl⟩
  have hBw : w.heap.size ≤ BX := by omega
  have hPw : w.heap.size ≤ BP := by omega
  have hbp : BP = BX + 1 := by omega
  rw [hBX] at bM
  rw [hBP] at bP
  have J1 := Lib.hid (hJ.grow xm)
  have B1 := Lib.hid (gap_new (w0 := w0) (w := w) bM hBw (i := 1) (v := .int .i64 c.a) rfl)
  have B2 := Lib.hid (gap_new (w0 := w0) (w := w) bM hBw (i := 2) (v := .int .i64 c.b) rfl)
  have B3 := Lib.hid (gap_new (w0 := w0) (w := w) bM hBw (i := 3) (v := .int .i64 c.c) rfl)
  have B4 := Lib.hid (gap_new (w0 := w0) (w := w) bM hBw (i := 4) (v := .string c.s) rfl)
  have B5 := Lib.hid (gap_new (w0 := w0) (w := w) bM hBw (i := 5) (v := .slice aa c.attrs.length acap) rfl)
  have B6 := Lib.hid (gap_new (w0 := w0) (w := w) bM hBw (i := 6) (v := .int .i64 c.n.tag) rfl)
  have B7 := Lib.hid (gap_new (w0 := w0) (w := w) bM hBw (i := 7) (v := .slice naa c.n.attrs.length nac) rfl)
  have B8 := Lib.hid (gap_new (w0 := w0) (w := w) bM hBw (i := 8) (v := .string c.n.text) rfl)
  have B9 := Lib.hid (gap_new (w0 := w0) (w := w) bM hBw (i := 9) (v := .slice nka c.n.kids.length nkc) rfl)
  have P0 := Lib.hid (gap_new (w0 := w0) (w := w) bP hPw (i := 0) (v := .int .i64 c.a) rfl)
  have P1 := Lib.hid (gap_new (w0 := w0) (w := w) bP hPw (i := 1) (v := .int .i64 c.b) rfl)
  have RAO := Lib.hid (hra.cells (gap_old (w := w) (hJ.ext.trans xm)))
  have RNO := Lib.hid (hrn.cells (gap_old (w := w) (hJ.ext.trans xm)))
  have HS := Lib.hid hS
  have G5 := Lib.hid g5
  have XM := Lib.hid xm
  have HWM := Lib.hid hwm
  have HW1 := Lib.hid hw1
  have HBX := Lib.hid hBX
  have HBP := Lib.hid hBP
  have HBB := Lib.hid hbp
  have BM := Lib.hid bM
  have BPL := Lib.hid bP
  have HL := Lib.hid hl
  obtain ⟨m1, m2⟩ := tmod14 c.what
  have e1 : IntKind.i64.wrap (c.what.tmod 14) = c.what.tmod 14 := IntWalk.i64_in _ (by omega)
  have e2 : IntKind.i64.wrap (c.what.tmod 14 + 14) = c.what.tmod 14 + 14 := IntWalk.i64_in _ (by omega)
  have e3 : IntKind.i64.wrap ((c.what.tmod 14 + 14).tmod 14) = 9 := by rw [hm]; rfl
  rw [Int.tmod_eq_emod_of_nonneg (by omega), Int.add_emod_right] at hm
  obtain ⟨x, er, T', hG2, hk, pd, pr⟩ := Element_told hS.good c.a c.attrs (by omega)
  have HS2 := Lib.hid (hS.keeps hG2 hk)
  have PD := Lib.hid pd
  have PR := Lib.hid pr
  clear hG2 hk pd pr
  clear hJ hra hrn hS hna g3 g5 xm1 bM1 hw1 sz1 xm2 bP hwm bM xm hBX hBP hBw hPw hbp
  go_enter Tryz.func10, Tryz.ntmps10
  go_upto_region 2 with fail
  rw [← HW1.out, HBX.out, ← HBB.out, ← HWM.out]
  have u0 := cellOf BM.out (i := 0) (v := .int .i64 c.what) rfl
  have u1 := cellOf BM.out (i := 1) (v := .int .i64 c.a) rfl
  have u2 := cellOf BM.out (i := 2) (v := .int .i64 c.b) rfl
  have u3 := cellOf BM.out (i := 3) (v := .int .i64 c.c) rfl
  have u4 := cellOf BM.out (i := 4) (v := .string c.s) rfl
  go_upto_region 30 with fail
  clear u0 u1 u2 u3 u4
  obtain ⟨own1, ptr1, tb1, hv1, hb1, hL1⟩ := J1.out.live
  have p1 := hL1.ptr_
  clear hL1
  have r0 : ∀ u : ExtOf wm, u.val.cell? ⟨lb, 0, none⟩ = some (.pointer (some ⟨tb1, 0, none⟩)) := fun u => u.ext.cell p1
  have r1 : ∀ u : ExtOf wm, u.val.cell? ⟨BX, 1, none⟩ = some (.int .i64 c.a) := fun u => u.ext.cell (cellOf BM.out rfl)
  have r2 : ∀ u : ExtOf wm, u.val.cell? ⟨BX, 5, none⟩ = some (.slice aa c.attrs.length acap) := fun u => u.ext.cell (cellOf BM.out rfl)
  refine wp_region_ext_mid 10 _ rfl (by kernel_rfl) (by kernel_rfl) ?_
  simp only [List.take_succ_cons, List.take_zero, List.drop_succ_cons, List.drop_zero]
  repeat (go_big_quiet_step (fail))
  refine wpQuiet_nil ?_
  rintro _ ⟨u, rfl⟩ K hK
  have HK := Lib.hid hK
  have hx := u.ext
  obtain ⟨w5, hw5⟩ : ∃ W, u.val = W := ⟨_, rfl⟩
  rw [hw5] at hx ⊢
  have X5 := Lib.hid hx
  have P5 := Lib.hid (hx.cell p1)
  clear r0 r1 r2 hw5 hK hx p1
  clear u
  go_simp
  go_at_call 45
  refine ((J1.out.more X5.out).live_ (v := .tuple #[.int .i64 x, .int .i64 er]) (T' := T') (H' := H) fun own ptr tb hv hb h1 h2 => ?_).mono ?_
  · have e := h1.ptr_
    rw [P5.out] at e
    cases e
    exact (PD.out _ own ptr tb1 _ h1.tree h1.ownd (RAO.out.cells ((J1.out.more X5.out).cells))).mono fun e w' k => ⟨k.1, h1.inner k.2⟩
  rintro e w6 ⟨rfl, hj⟩
  have J2 := Lib.hid hj
  clear hj
  refine HK.out _ _ ?_
  clear HK K
  repeat (go_big_quiet_step (fail))
  refine wpQuiet_nil ?_
  rintro _ ⟨u, rfl⟩
  have J3 := Lib.hid (J2.out.more u.ext)
  obtain ⟨w7, hw7⟩ : ∃ W, u.val = W := ⟨_, rfl⟩
  rw [hw7] at J3 ⊢
  clear hw7
  clear u
  go_upto_region 31 with fail
  obtain ⟨F1, rb1, hD1⟩ := J3.out.doc
  have p1 := hD1.ptr_
  clear hD1
  have r0 : ∀ u : ExtOf w7, u.val.cell? ⟨xb, 0, none⟩ = some (.pointer (some ⟨rb1, 0, none⟩)) := fun u => u.ext.cell p1
  have r1 : ∀ u : ExtOf w7, u.val.cell? ⟨BX, 1, none⟩ = some (.int .i64 c.a) := fun u => u.ext.cell (J3.out.told B1.out)
  have r2 : ∀ u : ExtOf w7, u.val.cell? ⟨BX, 5, none⟩ = some (.slice aa c.attrs.length acap) := fun u => u.ext.cell (J3.out.told B5.out)
  refine wp_region_ext_mid 10 _ rfl (by kernel_rfl) (by kernel_rfl) ?_
  simp only [List.take_succ_cons, List.take_zero, List.drop_succ_cons, List.drop_zero]
  repeat (go_big_quiet_step (fail))
  refine wpQuiet_nil ?_
  rintro _ ⟨u, rfl⟩ K hK
  have HK := Lib.hid hK
  have hx := u.ext
  obtain ⟨w8, hw8⟩ : ∃ W, u.val = W := ⟨_, rfl⟩
  rw [hw8] at hx ⊢
  have J3 := Lib.hid (J3.out.more hx)
  have P5 := Lib.hid (hx.cell p1)
  clear r0 r1 r2 hw8 hK hx p1
  clear u
  go_simp
  go_at_call 46
  refine (J3.out.doc_ (v := .tuple #[.int .i64 x, .int .i64 er]) (T' := T') (H' := H) fun F rb h1 h2 => ?_).mono ?_
  · have e := h1.ptr_
    rw [P5.out] at e
    cases e
    obtain ⟨F0, hR, hsub, hA⟩ := h1.tree
    exact (PR.out _ F0 rb1 _ hR (RAO.out.cells (J3.out.cells))).mono fun e w' k => ⟨k.1, hA _ _ k.2⟩
  rintro e w9 ⟨rfl, hj⟩
  have J4 := Lib.hid hj
  clear hj
  refine HK.out _ _ ?_
  clear HK K
  repeat (go_big_quiet_step (fail))
  refine wpQuiet_nil ?_
  rintro _ ⟨u, rfl⟩
  have J5 := Lib.hid (J4.out.more u.ext)
  obtain ⟨wA, hwA⟩ : ∃ W, u.val = W := ⟨_, rfl⟩
  rw [hwA] at J5 ⊢
  clear hwA
  clear u
  go_wp2_with fail
  go_ret
  exact ⟨rfl, T', H, HS2.out, Nat.le_succ _, J5.out.base.free⟩
end Go.Proofs.YthgnbbbdcebjhaaGreat

namespace Go.Proofs.YthgnbbbdcebjhaaGreat
open Go Go.RowKit Go.BigFrame
set_option linter.unusedVariables false
set_option linter.unusedSimpArgs false

theorem Does11_ok {w0 w : World} {lb xb : Nat} {T : Tr} {H : List Hd} {L : Nat → Prop} (hS : StOk T H) (hl : H.length ≤ 90000) (hJ : LJ w0 w lb xb T H T H w0 L) {c : Cl} (hc : LightCl c) {av c6 c7 c8 c9 : Value} (hra : RowRd w0 2 av c.attrs.length (attrCells c.attrs)) (hrn : RdN w0 c.n (.agg #[c6, c7, c8, c9])) :
    Calls Tryz.prog 10 #[.pointer (some ⟨lb, 0, none⟩), .pointer (some ⟨xb, 0, none⟩), .agg #[.int .i64 c.what, .int .i64 c.a, .int .i64 c.b, .int .i64 c.c, .string c.s, av, c6, c7, c8, c9]] w (DoesIs11 w0 lb xb H) := by
  obtain ⟨m1, m2⟩ := tmod14 c.what
  obtain ⟨m, hm⟩ : ∃ m, (c.what.tmod 14 + 14).tmod 14 = m := ⟨_, rfl⟩
  have h0 : 0 ≤ m ∧ m < 14 := by rw [← hm, Int.tmod_eq_emod_of_nonneg (by omega)]; omega
  have h1 : m = 0 ∨ m = 1 ∨ m = 2 ∨ m = 3 ∨ m = 4 ∨ m = 5 ∨ m = 6 ∨ m = 7 ∨ m = 8 ∨ m = 9 ∨ m = 10 ∨ m = 11 ∨ m = 12 ∨ m = 13 := by omega
  rcases h1 with rfl | rfl | rfl | rfl | rfl | rfl | rfl | rfl | rfl | rfl | rfl | rfl | rfl | rfl
  · exact Does11_0 hS hl hJ hc hm hra hrn
  · exact Does11_1 hS hl hJ hc hm hra hrn
  · exact Does11_2 hS hl hJ hc hm hra hrn
  · exact Does11_3 hS hl hJ hc hm hra hrn
  · exact Does11_4 hS hl hJ hc hm hra hrn
  · exact Does11_5 hS hl hJ hc hm hra hrn
  · exact Does11_6 hS hl hJ hc hm hra hrn
  · exact Does11_7 hS hl hJ hc hm hra hrn
  · exact Does11_8 hS hl hJ hc hm hra hrn
  · exact Does11_9 hS hl hJ hc hm hra hrn
  · exact Does11_10 hS hl hJ hc hm hra hrn
  · exact Does11_11 hS hl hJ hc hm hra hrn
  · exact Does11_12 hS hl hJ hc hm hra hrn
  · exact Does11_13 hS hl hJ hc hm hra hrn
end Go.Proofs.YthgnbbbdcebjhaaGreat

namespace Go.Proofs.YthgnbbbdcebjhaaGreat
open Go Go.RowKit Go.BigFrame
set_option linter.unusedVariables false
set_option linter.unusedSimpArgs false

/-- ten values of a call, read in a world -/
def ClVals (w : World) (c : Cl) (cs : List Value) : Prop := ∃ av c6 c7 c8 c9, cs = [.int .i64 c.what, .int .i64 c.a, .int .i64 c.b, .int .i64 c.c, .string c.s, av, c6, c7, c8, c9] ∧ RowRd w 2 av c.attrs.length (attrCells c.attrs) ∧ RdN w c.n (.agg #[c6, c7, c8, c9])
def clX (cell : Nat → List Value) : Nat → List Value
  | 0 => []
  | k + 1 => clX cell k ++ cell k
theorem clX_len {cell : Nat → List Value} {n : Nat} (h : ∀ j, j < n → (cell j).length = 10) : ∀ k, k ≤ n → (clX cell k).length = k * 10 := by
  intro k
  induction k with
  | zero => intro _; rfl
  | succ k ih =>
    intro hk
    show (clX cell k ++ cell k).length = _
    rw [List.length_append, ih (by omega), h k (by omega)]
    omega
theorem clX_get {cell : Nat → List Value} {n : Nat} (h : ∀ j, j < n → (cell j).length = 10) : ∀ k, k ≤ n → ∀ j i, j < k → i < 10 → (clX cell k)[j * 10 + i]? = (cell j)[i]? := by
  intro k
  induction k with
  | zero => intro _ j i hj; omega
  | succ k ih =>
    intro hk j i hj hi
    show (clX cell k ++ cell k)[j * 10 + i]? = _
    have hl := clX_len h k (by omega)
    by_cases e : j < k
    · rw [List.getElem?_append_left (by omega)]
      exact ih (by omega) j i e hi
    · have : j = k := by omega
      subst this
      rw [List.getElem?_append_right (by omega), hl]
      congr 1
      omega
theorem ClVals.at {w0 w : World} {g : Nat} {cur : Array Value} {t : TypeId} {o : Nat} {c : Cl} {cs : List Value} (h : ClVals w0 c cs) (x : Ext w0 w) (hg : w.heap[g]? = some (.cells cur t (0, 0))) (hc : ∀ i, i < 10 → cur[o + i]? = cs[i]?) : ClAt w ((⟨g, 0, none⟩ : Addr).add o) c := by
  obtain ⟨av, c6, c7, c8, c9, rfl, h1, h2⟩ := h
  have ad : ∀ i : Nat, ((⟨g, 0, none⟩ : Addr).add o).add i = ⟨g, o + i, none⟩ := fun i => by
    rw [Addr.add_lit, Addr.add_lit, Nat.zero_add]
  have ad0 : (⟨g, 0, none⟩ : Addr).add o = ⟨g, o + 0, none⟩ := by rw [Addr.add_lit, Nat.zero_add]; rfl
  refine ⟨av, c6, c7, c8, c9, ?_, ?_, ?_, ?_, ?_, ?_, ?_, ?_, ?_, ?_, h1.ext x, h2.cells fun q y h => x.cells q y h⟩
  · rw [ad0]; exact cellOf hg (hc 0 (by decide))
  · rw [ad]; exact cellOf hg (hc 1 (by decide))
  · rw [ad]; exact cellOf hg (hc 2 (by decide))
  · rw [ad]; exact cellOf hg (hc 3 (by decide))
  · rw [ad]; exact cellOf hg (hc 4 (by decide))
  · rw [ad]; exact cellOf hg (hc 5 (by decide))
  · rw [ad]; exact cellOf hg (hc 6 (by decide))
  · rw [ad]; exact cellOf hg (hc 7 (by decide))
  · rw [ad]; exact cellOf hg (hc 8 (by decide))
  · rw [ad]; exact cellOf hg (hc 9 (by decide))
/-- the row of the first k calls reads as these -/
theorem callsRd_of_row {w0 w : World} {l : List Cl} {cell : Nat → List Value} (hcell : ∀ j c, l[j]? = some c → ClVals w0 c (cell j)) (x : Ext w0 w) {k : Nat} (hk : k ≤ l.length) {p : Nat → Prop} {v : Value} (hr : RowP w p 37 10 v k (clX cell k)) : CallsRd w (l.take k) v := by
  have h10 : ∀ j, j < l.length → (cell j).length = 10 := fun j hj => by
    obtain ⟨c, hc⟩ : ∃ c, l[j]? = some c := ⟨_, List.getElem?_eq_getElem hj⟩
    obtain ⟨av, c6, c7, c8, c9, e, _⟩ := hcell j c hc
    rw [e]; rfl
  have hl : (l.take k).length = k := by rw [List.length_take]; omega
  rcases hr.2 with ⟨rfl, a, rfl⟩ | ⟨g, cap, cur, rfl, q2, q3, q4, q5, q6, q7⟩
  · exact ⟨a, 0, by rw [hl], by omega, by unfold maxLen; omega, fun _ => hl, fun ad _ j c hj => by simp at hj⟩
  · refine ⟨_, cap, by rw [hl], by omega, q5, (fun e => by cases e), fun ad e j c hj => ?_⟩
    cases e
    have hjk : j < k := by have := (List.getElem?_eq_some_iff.1 hj).1; omega
    rw [List.getElem?_take_of_lt hjk] at hj
    refine (hcell j c hj).at x q3 fun i hi => ?_
    rw [← clX_get h10 k hk j i hjk hi, ← q7, List.getElem?_take_of_lt (by omega)]
    simp
theorem addr_add0 (A : Addr) : A.add 0 = A := by simp [Addr.add]
theorem infoCall : (Tryz.prog.info? 37).map (fun i => (i.zero, i.size, i.bytes)) = some (some (.agg #[.int .i64 0, .int .i64 0, .int .i64 0, .int .i64 0, .string ⟨#[]⟩, .slice none 0 0, .int .i64 0, .slice none 0 0, .string ⟨#[]⟩, .slice none 0 0]), 10, 144) := by kernel_rfl
set_option maxRecDepth 100000 in
set_option maxHeartbeats 2000000 in
theorem Heavy11 {w : World} {l : List Cl} {v : Value} (hl : CallsRd w l v) : Calls Tryz.prog 6 #[v] w (HeavyIs l w) := by
  obtain ⟨ao, cap, rfl, hc1, hc2, hno, hcl⟩ := hl
  have hsk : ∀ j, ∃ cs, ∀ c, l[j]? = some c → ClVals w c cs ∧ ∀ a, ao = some a → ∀ i v, cs[i]? = some v → w.cell? ((a.add (j * 10)).add i) = some v := by
    intro j
    cases hj : l[j]? with
    | none => exact ⟨[], fun c hc => by cases hc⟩
    | some c =>
      cases ao with
      | none => have := hno rfl; have := (List.getElem?_eq_some_iff.1 hj).1; omega
      | some a =>
        obtain ⟨av, c6, c7, c8, c9, q0, q1, q2, q3, q4, q5, q6, q7, q8, q9, hra, hrn⟩ := hcl a rfl j c hj
        refine ⟨[.int .i64 c.what, .int .i64 c.a, .int .i64 c.b, .int .i64 c.c, .string c.s, av, c6, c7, c8, c9], fun c' hc' => ?_⟩
        cases hc'
        refine ⟨⟨av, c6, c7, c8, c9, rfl, hra, hrn⟩, fun a' ha' i v hv => ?_⟩
        cases ha'
        have hi : i < 10 := (List.getElem?_eq_some_iff.1 hv).1
        rcases i with _ | _ | _ | _ | _ | _ | _ | _ | _ | _ | i
        · cases hv; rw [addr_add0]; exact q0
        · cases hv; exact q1
        · cases hv; exact q2
        · cases hv; exact q3
        · cases hv; exact q4
        · cases hv; exact q5
        · cases hv; exact q6
        · cases hv; exact q7
        · cases hv; exact q8
        · cases hv; exact q9
        · omega
  obtain ⟨cell, hcell⟩ := Classical.skolem.1 hsk
  have hcv : ∀ j c, l[j]? = some c → ClVals w c (cell j) := fun j c hc => (hcell j c hc).1
  have HCV := Lib.hid hcv
  have HCELL := Lib.hid hcell
  have HNO := Lib.hid hno
  have HC := Lib.hid (show CallsRd w l (.slice ao l.length cap) from ⟨ao, cap, rfl, hc1, hc2, hno, hcl⟩)
  obtain ⟨m, hm⟩ : ∃ m, l.length = m := ⟨_, rfl⟩
  have HM := Lib.hid hm
  rw [hm] at hc1
  unfold maxLen at hc2
  rw [hm]
  obtain ⟨i0, hi, hz0, hz1, hz2⟩ := info_parts infoCall
  have Hi := Lib.hid hi
  have Hz0 := Lib.hid hz0
  have Hz1 := Lib.hid hz1
  have Hz2 := Lib.hid hz2
  clear hsk hcell hcv hno hcl hm hi hz0 hz1 hz2
  go_enter Tryz.func6, Tryz.ntmps6
  go_wp2_with fail
  go_loopw [3, 4] (fun v iv wr => ∃ k : Nat, k ≤ m ∧ k ≤ 201 ∧ iv = .int .i64 k ∧ Ext w wr ∧ RowP wr (fun g => w.heap.size ≤ g) 37 10 v k (clX cell k)) (fun _ iv _ => m - (intOf iv).toNat)
  case atStart => exact ⟨0, Nat.zero_le _, by omega, rfl, Ext.refl _, rfl, .inl ⟨rfl, none, rfl⟩⟩
  case round =>
    obtain ⟨k, hkm, hk2, rfl, hx, hrow⟩ := hrel
    obtain ⟨va, vc, rfl, hvc⟩ := hrow.rd.len_of
    have HX := Lib.hid hx
    have HROW := Lib.hid hrow
    clear hx hrow
    by_cases hlt : k < m ∧ k ≤ 200
    · obtain ⟨hlt1, hlt2⟩ := hlt
      obtain ⟨c, hc⟩ : ∃ c, l[k]? = some c := ⟨_, List.getElem?_eq_getElem (by rw [HM.out]; exact hlt1)⟩
      cases ao with
      | none => have := HNO.out rfl; have := HM.out; omega
      | some a =>
        obtain ⟨b, off, sp⟩ := a
        obtain ⟨av, c6, c7, c8, c9, ecs, hra, hrn⟩ := HCV.out k c hc
        have hcs := (HCELL.out k c hc).2 _ rfl
        rw [ecs] at hcs
        have X := HX.out.cells
        have q0 := X _ _ (hcs 0 _ rfl)
        have q1 := X _ _ (hcs 1 _ rfl)
        have q2 := X _ _ (hcs 2 _ rfl)
        have q3 := X _ _ (hcs 3 _ rfl)
        have q4 := X _ _ (hcs 4 _ rfl)
        have q5 := X _ _ (hcs 5 _ rfl)
        have q6 := X _ _ (hcs 6 _ rfl)
        have q7 := X _ _ (hcs 7 _ rfl)
        have q8 := X _ _ (hcs 8 _ rfl)
        have q9 := X _ _ (hcs 9 _ rfl)
        rw [addr_add0] at q0
        rw [add_pos _ _ (by decide)] at q1 q2 q3 q4 q5 q6 q7 q8 q9
        obtain ⟨aa, acap, eav, _⟩ := hra.len_of
        subst eav
        obtain ⟨n0, n1, en, hna, hnk⟩ := hrn.open
        obtain ⟨naa, nac, en0, _⟩ := hna.len_of
        obtain ⟨nka, nkc, en1, _⟩ := hnk
        subst en0 en1
        cases en
        have hna2 := heap_alloc_new wr (.cells #[.int .i64 c.what, .int .i64 c.a, .int .i64 c.b, .int .i64 c.c, .string c.s, .slice aa c.attrs.length acap, .int .i64 c.n.tag, .slice naa c.n.attrs.length nac, .string c.n.text, .slice nka c.n.kids.length nkc] 37)
        have xa2 := (Ext.refl wr).alloc (.cells #[.int .i64 c.what, .int .i64 c.a, .int .i64 c.b, .int .i64 c.c, .string c.s, .slice aa c.attrs.length acap, .int .i64 c.n.tag, .slice naa c.n.attrs.length nac, .string c.n.text, .slice nka c.n.kids.length nkc] 37)
        obtain ⟨v', wB, row, hrun, hr2, hg2, hrow2⟩ := run_append_row (P := Tryz.prog) (wr.alloc (.cells #[.int .i64 c.what, .int .i64 c.a, .int .i64 c.b, .int .i64 c.c, .string c.s, .slice aa c.attrs.length acap, .int .i64 c.n.tag, .slice naa c.n.attrs.length nac, .string c.n.text, .slice nka c.n.kids.length nkc] 37)) 67 67 37 i0 _ 10 144 Tryz.underlying67 Hi.out Hz0.out Hz1.out Hz2.out (by kernel_rfl) (by decide)
          (RowP.ext HROW.out xa2) ⟨wr.heap.size, 0, none⟩ 1 1 (cell k) (by rw [ecs]; rfl) (by
            intro j u hj
            rw [Addr.add_lit, Nat.zero_add]
            refine cellOf hna2 ?_
            rw [← Array.getElem?_toList, ← hj, ecs]) (by
            intro u hu
            rw [ecs] at hu
            simp only [List.mem_cons, List.not_mem_nil, or_false] at hu
            rcases hu with rfl | rfl | rfl | rfl | rfl | rfl | rfl | rfl | rfl | rfl <;> rfl) (by decide) (by unfold maxLen; omega) (by omega)
        obtain ⟨va2, vc2, rfl, hvc2⟩ := hr2.rd.len_of
        have hsz := HX.out.size
        have HX2 : Hid (Ext w wB) := Lib.hid ((HX.out.trans xa2).grown hg2 fun g hg => hrow2 g hg)
        have HROW2 : Hid (RowP wB (fun g => w.heap.size ≤ g) 37 10 (.slice va2 (k + 1) vc2) (k + 1) (clX cell (k + 1))) := Lib.hid (hr2.imp fun g _ hg => by
          rcases hg with hg | hg
          · exact hg
          · have := xa2.size; omega)
        have HRUN := Lib.hid hrun
        have e0 : decide ((k : Int) < (m : Int)) = true := decide_eq_true (by omega)
        have e0n : decide (k < m) = true := decide_eq_true hlt1
        have e1 : decide ((k : Int) ≤ 200) = true := decide_eq_true (by omega)
        have e1n : decide (k ≤ 200) = true := decide_eq_true hlt2
        have k0 : (0 : Int) ≤ (k : Int) := by omega
        have k1 : (k : Int) < (m : Int) := by omega
        have ktn : (k : Int).toNat = k := by omega
        have HLT1 := Lib.hid hlt1
        have HLT2 := Lib.hid hlt2
        clear X hcs hra hrn hna hna2 xa2 hrun hr2 hg2 hrow2 hsz hc hlt1 hlt2 hvc2 hvc ecs
        go_wp2_with (at_builtin; refine wpList_append_runL _ rfl _ _ 67 rfl _ _ rfl rfl _ _ HRUN.out ?_)
        go_roundw
        case rel => exact ⟨k + 1, by have := HLT1.out; omega, by have := HLT2.out; omega, by go_num, HX2.out, HROW2.out⟩
        case measure => have := HLT1.out; simp [intOf]; omega
    · have hxk : Ext w wr := HX.out
      have HCR := Lib.hid (callsRd_of_row (fun j c hc => HCV.out j c hc) HX.out (by rw [HM.out]; exact hkm) HROW.out)
      by_cases hkk : k < m
      · have h201 : k = 201 := by omega
        have e0 : decide ((k : Int) < (m : Int)) = true := decide_eq_true (by omega)
        have e0n : decide (k < m) = true := decide_eq_true hkk
        have e1 : decide ((k : Int) ≤ 200) = false := decide_eq_false (by omega)
        have e1n : decide (k ≤ 200) = false := decide_eq_false (by omega)
        have e2 : decide ((200 : Int) < (m : Int)) = true := decide_eq_true (by omega)
        have e2n : decide (200 < m) = true := decide_eq_true (by omega)
        clear hkk hlt h201 hxk
        go_wp2_with fail
        refine (Heavy_any HCR.out).mono ?_
        rintro e w2 ⟨hb, rfl, hx2, -⟩
        have HX3 := Lib.hid (HX.out.trans hx2)
        clear hx2
        cases hb with
        | true =>
          go_wp2_with fail
          go_ret
          exact ⟨true, rfl, HX3.out, fun e => by cases e⟩
        | false =>
          go_wp2_with fail
          go_ret
          exact ⟨true, rfl, HX3.out, fun e => by cases e⟩
      · have hke : k = m := by omega
        have HKE := Lib.hid hke
        have e0 : decide ((k : Int) < (m : Int)) = false := decide_eq_false (by omega)
        have e0n : decide (k < m) = false := decide_eq_false hkk
        have htk : l.take k = l := by rw [hke, ← HM.out, List.take_length]
        rw [htk] at HCR
        clear hkk hlt hxk hke htk
        go_wp2_with fail
        refine (Heavy_any HCR.out).mono ?_
        rintro e w2 ⟨hb, rfl, hx2, hli⟩
        have HX3 := Lib.hid (HX.out.trans hx2)
        have HLI := Lib.hid hli
        clear hx2 hli
        cases hb with
        | true =>
          go_wp2_with fail
          go_ret
          exact ⟨true, rfl, HX3.out, fun e => by cases e⟩
        | false =>
          have hlg := HLI.out rfl
          have e2 : decide ((200 : Int) < (m : Int)) = false := decide_eq_false (by have := hlg.1; have := HM.out; omega)
          have e2n : decide (200 < m) = false := decide_eq_false (by have := hlg.1; have := HM.out; omega)
          have HLG := Lib.hid hlg
          clear hlg
          go_wp2_with fail
          go_ret
          exact ⟨false, rfl, HX3.out, fun _ => HLG.out⟩
end Go.Proofs.YthgnbbbdcebjhaaGreat

namespace Go.Proofs.YthgnbbbdcebjhaaGreat
open Go Go.RowKit Go.BigFrame Go.ChangeShapes Go.WideShapes Go.Deep
set_option linter.unusedVariables false
set_option linter.unusedSimpArgs false

theorem attrCells_len (l : List (ByteArray × ByteArray)) : (attrCells l).length = l.length * 2 := by
  induction l with
  | nil => rfl
  | cons p r ih => obtain ⟨a, b⟩ := p; simp only [attrCells, List.length_cons, ih]; omega

/-- where the new node is, the others as they were -/
theorem exists_row {α : Type} (n : Nat) (P : Nat → α → Prop) (h : ∀ i, i < n → ∃ x, P i x) : ∃ l : List α, l.length = n ∧ ∀ (i : Nat) x, l[i]? = some x → P i x := by
  induction n with
  | zero => exact ⟨[], rfl, fun i x hx => by simp at hx⟩
  | succ n ih =>
    obtain ⟨l, h1, h2⟩ := ih fun i hi => h i (by omega)
    obtain ⟨x, hx⟩ := h n (by omega)
    refine ⟨l ++ [x], by simp [h1], fun i y hy => ?_⟩
    rw [List.getElem?_append] at hy
    split at hy
    · exact h2 i y hy
    · rcases Nat.eq_zero_or_pos (i - l.length) with h0 | h0
      · rw [h0] at hy; simp at hy
        obtain rfl : i = n := by omega
        exact hy ▸ hx
      · rw [List.getElem?_eq_none (by simp; omega)] at hy; cases hy
theorem attrCells_get (l : List (ByteArray × ByteArray)) : ∀ (j : Nat) (x : Value), (attrCells l)[j]? = some x → ∃ p, l[j / 2]? = some p ∧ x = if j % 2 = 0 then .string p.1 else .string p.2 := by
  induction l with
  | nil => intro j x h; simp [attrCells] at h
  | cons q r ih =>
    obtain ⟨a, b⟩ := q
    intro j x h
    match j, h with
    | 0, h => simp [attrCells] at h; exact ⟨(a, b), by simp, by simp [h]⟩
    | 1, h => simp [attrCells] at h; exact ⟨(a, b), by simp, by simp [h]⟩
    | j + 2, h =>
      simp only [attrCells, List.getElem?_cons_succ] at h
      obtain ⟨p, h1, h2⟩ := ih j x h
      exact ⟨p, by rw [show (j + 2) / 2 = j / 2 + 1 by omega]; simpa using h1, by rw [show (j + 2) % 2 = j % 2 by omega]; exact h2⟩
section
variable {H : Type} {enc : TypeId × Value → H} {w : World} {base : Nat} {spare : Nat → Bool} {held : Bool}
theorem cells_at {a : Addr} {n : Nat} {cs : List Value} (h : w.cells? base a n = some cs) {i : Nat} {v : Value} (hi : cs[i]? = some v) : w.cell? (a.add i) = some v := by
  obtain ⟨_, hl, hg⟩ := World.cells?_some h
  have := (List.getElem?_eq_some_iff.1 hi).1
  rw [hg i (by omega)]; exact hi
theorem slice_elems {t e : TypeId} {fuel : Nat} {cs : List Value} {x : DataW H × List MemPlace} (ht : Tryz.prog.underlying t = some (.slice e)) (h : DataW.trod enc Tryz.prog w base spare held fuel t cs = some x) :
    cs = [.slice none 0 0] ∨ ∃ (a : Addr) (len cap n : Nat), fuel = n + 1 ∧ cs = [.slice (some a) len cap] ∧ len ≤ cap ∧ cap ≤ maxLen ∧
      ∀ i, i < len → ∃ cs' y, w.cells? base (a.add (i * Tryz.prog.cellsOf e)) (Tryz.prog.cellsOf e) = some cs' ∧ DataW.trod enc Tryz.prog w base spare held n e cs' = some y := by
  rcases DataW.trod_slice ht h with ⟨h0, _⟩ | ⟨a, len, cap, elems, rest, n, hn, hc, _, hb, hl, hm, hlen, hel, _⟩
  · exact .inl h0
  · refine .inr ⟨a, len, cap, n, hn, hc, hl, hm, fun i hi => ?_⟩
    have key := hel i hi
    rw [List.getElem?_eq_getElem (by omega)] at key
    obtain ⟨cs', h1, h2⟩ := Option.bind_eq_some_iff.1 key
    exact ⟨cs', _, h1, h2⟩
set_option maxRecDepth 20000 in
theorem read_attrs {fuel : Nat} {cs : List Value} {x : DataW H × List MemPlace} (h : DataW.trod enc Tryz.prog w base spare held fuel 32 cs = some x) :
    ∃ (v : Value) (l : List (ByteArray × ByteArray)), cs = [v] ∧ RowRd w 2 v l.length (attrCells l) := by
  rcases slice_elems Tryz.underlying32 h with rfl | ⟨a, len, cap, n, _, rfl, hl, hm, hi⟩
  · exact ⟨_, [], rfl, ⟨rfl, none, 0, rfl, Nat.le_refl _, fun _ => ⟨rfl, rfl⟩, fun a h => by cases h⟩⟩
  · have hC : Tryz.prog.cellsOf 110 = 2 := by kernel_rfl
    obtain ⟨l, h1, h2⟩ := exists_row len (fun i (p : ByteArray × ByteArray) => w.cell? (a.add (i * 2)) = some (.string p.1) ∧ w.cell? (a.add (i * 2 + 1)) = some (.string p.2)) fun i hil => by
      obtain ⟨cs', y, hc, ht⟩ := hi i (by omega)
      rw [hC] at hc
      obtain ⟨ys, n', rfl, _, hcl, hyl, hf⟩ := DataW.trod_struct Tryz.underlying110 ht
      rw [hC] at hcl
      have hS : Tryz.prog.cellsOf 9 = 1 := by kernel_rfl
      match cs', hcl with
      | [u0, u1], _ =>
        have g0 := hf 0 { name := _, type := 9, offset := 0, embedded := _, tag := _, pkgPath := _, byteOffset := _ } rfl
        have g1 := hf 1 { name := _, type := 9, offset := 1, embedded := _, tag := _, pkgPath := _, byteOffset := _ } rfl
        simp only [hS] at g0 g1
        match ys, hyl with
        | [y0, y1], _ =>
          obtain ⟨s0, e0, _⟩ := DataW.trod_string Tryz.underlying9 (x := y0) g0
          obtain ⟨s1, e1, _⟩ := DataW.trod_string Tryz.underlying9 (x := y1) g1
          simp at e0 e1
          subst e0 e1
          refine ⟨(s0, s1), cells_at hc (i := 0) rfl, ?_⟩
          have := cells_at hc (i := 1) (v := .string s1) rfl
          rw [Go.Deep.add_add] at this
          exact this
    refine ⟨_, l, rfl, ⟨by rw [attrCells_len], some a, cap, by rw [h1], by omega, (fun h => by cases h), fun a' ha j x hx => ?_⟩⟩
    cases ha
    obtain ⟨p, q1, q2⟩ := attrCells_get l j x hx
    have := h2 _ p q1
    rcases Nat.mod_two_eq_zero_or_one j with h0 | h0
    · rw [q2, if_pos h0, ← this.1, show j / 2 * 2 = j by omega]
    · rw [q2, if_neg (by omega), ← this.2, show j / 2 * 2 + 1 = j by omega]
set_option maxRecDepth 20000 in
theorem read_node : ∀ (fuel : Nat) (cs : List Value) (x : DataW H × List MemPlace), DataW.trod enc Tryz.prog w base spare held fuel 35 cs = some x →
    ∃ (c0 c1 c2 c3 : Value) (n : PN), cs = [c0, c1, c2, c3] ∧ RdN w n (.agg #[c0, c1, c2, c3]) := by
  intro fuel
  induction fuel using Nat.strongRecOn with
  | _ fuel ih =>
  intro cs x h
  have hC : Tryz.prog.cellsOf 35 = 4 := by kernel_rfl
  have hS : Tryz.prog.cellsOf 9 = 1 := by kernel_rfl
  have hI : Tryz.prog.cellsOf 3 = 1 := by kernel_rfl
  have hA : Tryz.prog.cellsOf 32 = 1 := by kernel_rfl
  have hK : Tryz.prog.cellsOf 33 = 1 := by kernel_rfl
  obtain ⟨ys, n, hfu, _, hcl, hyl, hf⟩ := DataW.trod_struct Tryz.underlying35 h
  rw [hC] at hcl
  match cs, hcl with
  | [c0, c1, c2, c3], _ =>
    have g0 := hf 0 { name := _, type := 3, offset := 0, embedded := _, tag := _, pkgPath := _, byteOffset := _ } rfl
    have g1 := hf 1 { name := _, type := 32, offset := 1, embedded := _, tag := _, pkgPath := _, byteOffset := _ } rfl
    have g2 := hf 2 { name := _, type := 9, offset := 2, embedded := _, tag := _, pkgPath := _, byteOffset := _ } rfl
    have g3 := hf 3 { name := _, type := 33, offset := 3, embedded := _, tag := _, pkgPath := _, byteOffset := _ } rfl
    simp only [hS, hI, hA, hK] at g0 g1 g2 g3
    match ys, hyl with
    | [y0, y1, y2, y3], _ =>
      obtain ⟨tag, e0, _⟩ := DataW.trod_int Tryz.underlying3 (x := y0) g0
      obtain ⟨av, attrs, e1, hattrs⟩ := read_attrs (x := y1) g1
      obtain ⟨s, e2, _⟩ := DataW.trod_string Tryz.underlying9 (x := y2) g2
      simp at e0 e1 e2
      subst e0 e1 e2
      have g3' : DataW.trod enc Tryz.prog w base spare held n 33 [c3] = some y3 := g3
      rcases slice_elems Tryz.underlying33 g3' with e3 | ⟨a, len, cap, n', hn', e3, hl, hm, hi⟩
      · simp at e3
        subst e3
        exact ⟨_, _, _, _, .mk tag attrs s [], rfl, RdN.mk' (n := .mk tag attrs s []) hattrs ⟨none, 0, rfl, Nat.le_refl _, Nat.zero_le _, fun _ => ⟨rfl, rfl⟩, fun a h => by cases h⟩⟩
      · simp at e3
        subst e3
        obtain ⟨l, h1, h2⟩ := exists_row len (fun i (k : PN) => ∃ c0 c1 c2 c3, w.cell? (a.add (i * 4)) = some c0 ∧ w.cell? (a.add (i * 4 + 1)) = some c1 ∧ w.cell? (a.add (i * 4 + 2)) = some c2 ∧ w.cell? (a.add (i * 4 + 3)) = some c3 ∧ RdN w k (.agg #[c0, c1, c2, c3])) fun i hil => by
          obtain ⟨cs', y, hc, ht⟩ := hi i (by omega)
          rw [hC] at hc
          obtain ⟨d0, d1, d2, d3, k, rfl, hk⟩ := ih n' (by omega) cs' _ ht
          refine ⟨k, d0, d1, d2, d3, cells_at hc (i := 0) rfl, ?_, ?_, ?_, hk⟩
          · have := cells_at hc (i := 1) (v := d1) rfl; rw [Go.Deep.add_add] at this; exact this
          · have := cells_at hc (i := 2) (v := d2) rfl; rw [Go.Deep.add_add] at this; exact this
          · have := cells_at hc (i := 3) (v := d3) rfl; rw [Go.Deep.add_add] at this; exact this
        exact ⟨_, _, _, _, .mk tag attrs s l, rfl, RdN.mk' (n := .mk tag attrs s l) hattrs ⟨some a, cap, by rw [show (PN.mk tag attrs s l).kids.length = len from h1], by rw [show (PN.mk tag attrs s l).kids.length = len from h1]; exact hl, hm, (fun h => by cases h), fun a' ha j k hk => (by cases ha; exact h2 j k hk)⟩⟩
end
section
variable {H : Type} {enc : TypeId × Value → H} {w : World} {base : Nat} {spare : Nat → Bool} {held : Bool}
set_option maxRecDepth 20000 in
/-- ten values that are read as a call -/
theorem read_call {fuel : Nat} {cs : List Value} {x : DataW H × List MemPlace} (ht : DataW.trod enc Tryz.prog w base spare held fuel 37 cs = some x) :
    ∃ (c : Cl) (av c6 c7 c8 c9 : Value), cs = [.int .i64 c.what, .int .i64 c.a, .int .i64 c.b, .int .i64 c.c, .string c.s, av, c6, c7, c8, c9] ∧ RowRd w 2 av c.attrs.length (attrCells c.attrs) ∧ RdN w c.n (.agg #[c6, c7, c8, c9]) := by
  have hC : Tryz.prog.cellsOf 37 = 10 := by kernel_rfl
  have hS : Tryz.prog.cellsOf 9 = 1 := by kernel_rfl
  have hI : Tryz.prog.cellsOf 3 = 1 := by kernel_rfl
  have hA : Tryz.prog.cellsOf 32 = 1 := by kernel_rfl
  have hN : Tryz.prog.cellsOf 35 = 4 := by kernel_rfl
  obtain ⟨ys, n', rfl, _, hcl, hyl, hf⟩ := DataW.trod_struct Tryz.underlying37 ht
  rw [hC] at hcl
  match cs, hcl with
  | [u0, u1, u2, u3, u4, u5, u6, u7, u8, u9], _ =>
    have g0 := hf 0 { name := _, type := 3, offset := 0, embedded := _, tag := _, pkgPath := _, byteOffset := _ } rfl
    have g1 := hf 1 { name := _, type := 3, offset := 1, embedded := _, tag := _, pkgPath := _, byteOffset := _ } rfl
    have g2 := hf 2 { name := _, type := 3, offset := 2, embedded := _, tag := _, pkgPath := _, byteOffset := _ } rfl
    have g3 := hf 3 { name := _, type := 3, offset := 3, embedded := _, tag := _, pkgPath := _, byteOffset := _ } rfl
    have g4 := hf 4 { name := _, type := 9, offset := 4, embedded := _, tag := _, pkgPath := _, byteOffset := _ } rfl
    have g5 := hf 5 { name := _, type := 32, offset := 5, embedded := _, tag := _, pkgPath := _, byteOffset := _ } rfl
    have g6 := hf 6 { name := _, type := 35, offset := 6, embedded := _, tag := _, pkgPath := _, byteOffset := _ } rfl
    simp only [hS, hI, hA, hN] at g0 g1 g2 g3 g4 g5 g6
    match ys, hyl with
    | [y0, y1, y2, y3, y4, y5, y6], _ =>
      obtain ⟨z0, e0, _⟩ := DataW.trod_int Tryz.underlying3 (x := y0) g0
      obtain ⟨z1, e1, _⟩ := DataW.trod_int Tryz.underlying3 (x := y1) g1
      obtain ⟨z2, e2, _⟩ := DataW.trod_int Tryz.underlying3 (x := y2) g2
      obtain ⟨z3, e3, _⟩ := DataW.trod_int Tryz.underlying3 (x := y3) g3
      obtain ⟨s4, e4, _⟩ := DataW.trod_string Tryz.underlying9 (x := y4) g4
      obtain ⟨v5, attrs, e5, hattrs⟩ := read_attrs (x := y5) g5
      obtain ⟨d0, d1, d2, d3, pn, e6, hpn⟩ := read_node n' _ y6 g6
      simp at e0 e1 e2 e3 e4 e5 e6
      obtain ⟨e6, e7, e8, e9⟩ := e6
      subst e0 e1 e2 e3 e4 e5 e6 e7 e8 e9
      exact ⟨⟨z0, z1, z2, z3, s4, attrs, pn⟩, _, _, _, _, _, rfl, hattrs, hpn⟩
set_option maxRecDepth 20000 in
theorem read_call11 {fuel : Nat} {cs : List Value} {x : DataW H × List MemPlace} (ht : DataW.trod enc Tryz.prog w base spare held fuel 39 cs = some x) :
    ∃ (c : Cl) (av c6 c7 c8 c9 : Value), cs = [.int .i64 c.what, .int .i64 c.a, .int .i64 c.b, .int .i64 c.c, .string c.s, av, c6, c7, c8, c9] ∧ RowRd w 2 av c.attrs.length (attrCells c.attrs) ∧ RdN w c.n (.agg #[c6, c7, c8, c9]) := by
  have hC : Tryz.prog.cellsOf 39 = 10 := by kernel_rfl
  have hC8 : Tryz.prog.cellsOf 37 = 10 := by kernel_rfl
  obtain ⟨ys, n', rfl, _, hcl, hyl, hf⟩ := DataW.trod_struct Tryz.underlying39 ht
  rw [hC] at hcl
  have g0 := hf 0 { name := _, type := 37, offset := 0, embedded := _, tag := _, pkgPath := _, byteOffset := _ } rfl
  simp only [hC8] at g0
  rw [List.drop_zero, List.take_of_length_le (by omega)] at g0
  obtain ⟨y, hy⟩ : ∃ y, ys[0]? = some y := ⟨_, List.getElem?_eq_getElem (by rw [hyl]; decide)⟩
  exact read_call (x := y) (by rw [← hy]; exact g0)
theorem read_calls11 {v : Value} {d : DataW H} {p : List MemPlace} (h : DataW.Trod enc Tryz.prog w base spare held 22 v d p) (hv : v.cells.toList = [v]) : ∃ l, CallsRd w l v := by
  obtain ⟨fuel, h⟩ := h
  rw [hv] at h
  have hC : Tryz.prog.cellsOf 39 = 10 := by kernel_rfl
  rcases slice_elems Tryz.underlying22 h with e | ⟨a, len, cap, n, _, e, hl, hm, hi⟩
  · simp at e; subst e
    exact ⟨[], none, 0, rfl, Nat.le_refl _, Nat.zero_le _, fun _ => rfl, fun a h => by cases h⟩
  · simp at e; subst e
    obtain ⟨l, h1, h2⟩ := exists_row len (fun i (c : Cl) => ClAt w (a.add (i * 10)) c) fun i hil => by
      obtain ⟨cs', y, hc, ht⟩ := hi i hil
      rw [hC] at hc
      obtain ⟨c, av, c6, c7, c8, c9, rfl, hattrs, hpn⟩ := read_call11 ht
      exact ⟨c, _, _, _, _, _, cells_at hc (i := 0) rfl, cells_at hc (i := 1) rfl, cells_at hc (i := 2) rfl, cells_at hc (i := 3) rfl, cells_at hc (i := 4) rfl, cells_at hc (i := 5) rfl, cells_at hc (i := 6) rfl, cells_at hc (i := 7) rfl, cells_at hc (i := 8) rfl, cells_at hc (i := 9) rfl, hattrs, hpn⟩
    exact ⟨l, some a, cap, by rw [h1], by omega, hm, (fun h => by cases h), fun a' ha k c hk => (by cases ha; exact h2 k c hk)⟩
end
set_option maxRecDepth 20000 in
theorem keep_calls11 {H : Type} {enc : TypeId × Value → H} {w : World} {b0 base : Nat} {spare : Nat → Bool} {held : Bool} {v : Value} {d : DataW H} {p : List MemPlace}
    (hv : Value.okWide Tryz.prog w .any b0 22 v) (h : DataW.Trod enc Tryz.prog w base spare held 22 v d p) : ∃ l, CallsRd w l v := by
  obtain ⟨a, len, cap, rfl⟩ := okWide_slice Tryz.underlying22 hv
  exact read_calls11 h rfl
end Go.Proofs.YthgnbbbdcebjhaaGreat

namespace Go.Proofs.YthgnbbbdcebjhaaGreat
open Go Go.RowKit Go.BigFrame Go.ChangeShapes Go.WideShapes
set_option linter.unusedVariables false
set_option linter.unusedSimpArgs false

theorem lNew_no (cap deep : Int) (h : ¬ (1 ≤ cap ∧ cap ≤ 2000 ∧ 0 ≤ deep ∧ deep ≤ 40)) (w : World) :
    Calls Tryz.prog 8 #[.int .i64 cap, .int .i64 deep] w (RTwo (.pointer none) (.int .i64 1) w) := by
  have HN := Lib.hid (New_no cap deep h w)
  clear h
  go_enter Tryz.func8, Tryz.ntmps8
  go_wp2_with (go_at_call 29; refine HN.out.mono ?_; rintro e w1 ⟨rfl, hx1⟩; have HX := Lib.hid hx1; clear hx1)
  go_ret2
  exact ⟨rfl, HX.out⟩
/-- two new trees side by side -/
theorem LJ.start {w0 w2 w3 : World} {own : Ow} {ptr : Nat → Nat} {lb tb xb rb : Nat} {T : Tr} {hv : Value} {hb : Option Nat} {H : List Hd} (hL : LiveAt w2 own ptr lb tb T hv hb H) (h5 : ∀ b, Lv own lb hb b → w0.heap.size ≤ b) (hD : DocOn w3 (fun b => w2.heap.size ≤ b) xb rb T (iOf H) (pOf H)) (x0 : Ext w0 w2) (x : Ext w2 w3) :
    LJ w0 w3 lb xb T H T H w0 (fun _ => False) := by
  have hs := x0.size
  refine ⟨⟨own, ptr, tb, hv, hb, _, rb, hL.ext x, hD.lt, fun b hb' => ⟨fun e => ?_, hb'.2, ?_⟩, h5, fun q y hq => ?_, fun b h => h.elim⟩, x0.trans x⟩
  · have h1 := hL.lv_lt e
    have h2 := hb'.1
    omega
  · have h2 := hb'.1
    omega
  · have hl := World.block_lt_of_cell? _ _ hq
    refine ⟨(x0.trans x).cells _ _ hq, fun e => ?_, fun hf => ?_⟩
    · have := h5 _ e; omega
    · have := hf.1; omega
theorem handles_held {H : List Hd} {n : Nat} {k : Int} (h : k ∈ handles H n) : ∃ x, heldAt H k = some x := by
  unfold handles at h
  obtain ⟨j, hj, rfl⟩ := List.mem_map.1 h
  have h1 := (List.mem_filter.1 hj).2
  cases hh : heldAt H (j : Int) with
  | none => rw [hh] at h1; cases h1
  | some x => exact ⟨x, rfl⟩
theorem hostGood (cap deep : Int) (h1 : 1 ≤ cap) (h2 : cap ≤ 2000) (h3 : 0 ≤ deep) (h4 : deep ≤ 40) : StOk (hostOf cap deep) [] :=
  ⟨⟨⟨_, hostOf_wf cap deep h1 h2 h3 h4⟩, fun i nd hi => by
    cases i with
    | zero => cases hi; simp [NdOk]
    | succ i => cases hi⟩, (fun x hx => by cases hx), (fun x hx => by cases hx)⟩
set_option maxRecDepth 100000 in
set_option maxHeartbeats 4000000 in
theorem liveMay_walk (cap : Int) (hc : (Lit.int .i64 cap).wf = true) (deep : Int) (hd : (Lit.int .i64 deep).wf = true) {w : World} (v : Value) (l : List Cl) (hl : CallsRd w l v) :
    Calls Tryz.prog 3 #[.int .i64 cap, .int .i64 deep, v] w (RBool true w) := by
  have HL := Lib.hid hl
  obtain ⟨ao, vcap, rfl, hc1, hc2, hno, hcl⟩ := hl
  have HNO := Lib.hid hno
  have HCL := Lib.hid hcl
  unfold maxLen at hc2
  clear hc hd hno hcl
  go_enter Tryz.func3, Tryz.ntmps3
  go_wp2_with fail
  refine (Heavy11 HL.out).mono ?_
  rintro e w1 ⟨b, rfl, hx1, hb⟩
  cases b with
  | true =>
    go_wp2_with (go_at_call 7; refine (awake11_any _).mono ?_; rintro e w2 ⟨rfl, hx2⟩)
    go_ret
    exact ⟨rfl, hx1.trans hx2⟩
  | false =>
    have HG := Lib.hid (hb rfl).2
    have hl2 := (hb rfl).1
    have HX1 := Lib.hid hx1
    clear hb hx1
    by_cases hroom : 1 ≤ cap ∧ cap ≤ 2000 ∧ 0 ≤ deep ∧ deep ≤ 40
    · obtain ⟨h1, h2, h3, h4⟩ := hroom
      have HGOOD := Lib.hid (hostGood cap deep h1 h2 h3 h4)
      go_wp2_with fail
      refine (lNew_ok cap deep h1 h2 h3 h4 _).mono ?_
      rintro e w2 ⟨lb, tb1, own1, ptr1, rfl, hT1, hx2, hlb, hf1⟩
      have HT1 := Lib.hid hT1
      have HX2 := Lib.hid hx2
      have HF1 := Lib.hid (And.intro hlb hf1)
      clear hT1 hx2 hlb hf1
      go_wp2_with fail
      refine (dNew_ok cap deep h1 h2 h3 h4 _).mono ?_
      rintro e w3 ⟨xb, rb1, rfl, hx3, hD3⟩
      have HJ0 : Hid (LJ w w3 lb xb (hostOf cap deep) [] (hostOf cap deep) [] w (fun _ => False)) := Lib.hid (LJ.start HT1.out (fun b hb => by
        have h1 := HX1.out.size
        rcases hb with e | e | e
        · have := HF1.out.2 b e; omega
        · have := HF1.out.1; omega
        · cases e) hD3 (HX1.out.trans HX2.out) hx3)
      clear hx3 hD3 h1 h2 h3 h4
      go_wp2_with fail
      go_loopw [10, 11, 12, 13, 14] (fun i _ _ _ _ wr => ∃ (k : Nat) (T : Tr) (H : List Hd), k ≤ l.length ∧ i = .int .i64 k ∧ StOk T H ∧ H.length ≤ k ∧ LJ w wr lb xb T H T H w (fun _ => False)) (fun i _ _ _ _ _ => l.length - (intOf i).toNat)
      case atStart => exact ⟨0, _, [], Nat.zero_le _, rfl, HGOOD.out, Nat.le_refl _, HJ0.out⟩
      case round =>
        rename World => wo
        obtain ⟨k, T, H, hk, rfl, hst, hlen, hj⟩ := hrel
        clear HJ0
        have HST := Lib.hid hst
        have HLEN := Lib.hid hlen
        have HJ := Lib.hid hj
        clear hst hj hlen
        by_cases hkk : k < l.length
        · obtain ⟨c, hc⟩ : ∃ c, l[k]? = some c := ⟨l[k], by simp [hkk]⟩
          have HLC := Lib.hid (HG.out c (List.mem_of_getElem? hc))
          cases ao with
          | none => exact absurd (HNO.out rfl) (by omega)
          | some a =>
            obtain ⟨b, off, sp⟩ := a
            obtain ⟨av, c6, c7, c8, c9, q0, q1, q2, q3, q4, q5, q6, q7, q8, q9, hra, hrn⟩ := HCL.out _ rfl k c hc
            have X := HJ.out.ext.cells
            replace q0 := X _ _ q0
            replace q1 := X _ _ q1
            replace q2 := X _ _ q2
            replace q3 := X _ _ q3
            replace q4 := X _ _ q4
            replace q5 := X _ _ q5
            replace q6 := X _ _ q6
            replace q7 := X _ _ q7
            replace q8 := X _ _ q8
            replace q9 := X _ _ q9
            rw [add_pos _ _ (by decide)] at q1 q2 q3 q4 q5 q6 q7 q8 q9
            obtain ⟨aa, acap, eav, _⟩ := hra.len_of
            subst eav
            obtain ⟨n0, n1, en, hna, hnk⟩ := hrn.open
            obtain ⟨naa, nac, en0, _⟩ := hna.len_of
            obtain ⟨nka, nkc, en1, _⟩ := hnk
            subst en0 en1
            cases en
            have HRA := Lib.hid hra
            have HRN := Lib.hid hrn
            have HK := Lib.hid hkk
            clear X hra hrn hc hna
            go_wp2_with fail
            refine (Does11_ok HST.out (by have := HLEN.out; omega) HJ.out HLC.out HRA.out HRN.out).mono ?_
            rintro e u1 ⟨rfl, T', H', hst', hlen', hj'⟩
            have HST' := Lib.hid hst'
            have HLEN' := Lib.hid hlen'
            have HJ' := Lib.hid hj'
            obtain ⟨own, ptr, tb, hv, hb, hLV⟩ := hj'.live
            have HLV := Lib.hid hLV
            have hH9 : H'.length ≤ 100000 := by have := HLEN.out; omega
            have HH9 := Lib.hid hH9
            clear hst' hlen' hj' hLV hH9 q0 q1 q2 q3 q4 q5 q6 q7 q8 q9
            go_wp2_with fail
            refine (lHandles_any HLV.out HH9.out).mono ?_
            rintro e u2 ⟨vh, rfl, hrh, hxh, -⟩
            obtain ⟨hs, hhs⟩ : ∃ hs, handles H' H'.length = hs := ⟨_, rfl⟩
            have HHS : Hid (∀ k ∈ hs, ∃ x, heldAt H' k = some x) := Lib.hid (fun k hk => by rw [← hhs] at hk; exact handles_held hk)
            have hsl : hs.length ≤ 100000 := by have := handles_len H' H'.length; rw [hhs] at this; have := HH9.out; omega
            rw [hhs] at hrh
            obtain ⟨ha, hcap, rfl, hcells⟩ := hrh.ints
            have HCE := Lib.hid hcells
            have HXH := Lib.hid hxh
            clear hhs hrh hxh hcells
            go_wp2_with fail
            go_loopw [12, 13, 14] (fun jv _ _ w' => ∃ j : Nat, j ≤ hs.length ∧ jv = .int .i64 j ∧ Ext u2 w') (fun jv _ _ _ => hs.length - (intOf jv).toNat)
            case atStart => exact ⟨0, Nat.zero_le _, rfl, Ext.refl _⟩
            case round =>
              rename World => w'
              obtain ⟨j, hjm, rfl, hxw⟩ := hrel
              have HXW := Lib.hid hxw
              clear hxw
              by_cases hjl : j < hs.length
              · obtain ⟨y, hy⟩ : ∃ y, hs[j]? = some y := ⟨_, List.getElem?_eq_getElem hjl⟩
                obtain ⟨hav, rfl, qy⟩ := HCE.out j y hy
                replace qy := HXW.out.cells _ _ qy
                obtain ⟨x, hx⟩ := HHS.out y (List.mem_of_getElem? hy)
                have hxm : T'.may x.node x.at' = true := by
                  obtain ⟨i, _, h1, h2⟩ := heldAt_some hx
                  exact HST'.out.may x (List.mem_of_getElem? h1) h2
                have hLw := HLV.out.ext (HXH.out.trans HXW.out)
                have hheld := lHeld_any hLw y HH9.out
                unfold heldV at hheld
                rw [hx] at hheld
                have HHELD := Lib.hid hheld
                have HLW := Lib.hid hLw
                have HXM := Lib.hid hxm
                have HJL := Lib.hid hjl
                have j0 : (0 : Int) ≤ (j : Int) := by omega
                have j1 : (j : Int) < (hs.length : Int) := by omega
                have jtn : (j : Int).toNat = j := by omega
                have e5 : decide ((j : Int) < (hs.length : Int)) = true := decide_eq_true (by omega)
                have e5n : decide (j < hs.length) = true := decide_eq_true hjl
                clear hx hxm hLw hheld hy hjl hjm
                go_wp2_with fail
                refine HHELD.out.mono ?_
                rintro e w5 ⟨rfl, hx5⟩
                have xb5 := hx5.alloc (.cells #[.int .i64 x.node, .int .i64 x.at'] 43)
                have b5 := heap_alloc_new w5 (.cells #[.int .i64 x.node, .int .i64 x.at'] 43)
                obtain ⟨wb, hwb⟩ : ∃ W : World, W = w5.alloc (.cells #[.int .i64 x.node, .int .i64 x.at'] 43) := ⟨_, rfl⟩
                obtain ⟨pb, hpb⟩ : ∃ b, w5.heap.size = b := ⟨_, rfl⟩
                rw [← hwb] at xb5 b5
                rw [hpb] at b5
                have XB := Lib.hid xb5
                have B5 := Lib.hid b5
                have HWB := Lib.hid hwb
                have HPB := Lib.hid hpb
                obtain ⟨⟨d', hw'⟩, ha'⟩ := HST'.out.good
                have HMY := Lib.hid (fun (u : ExtOf wb) => inExt (u := u) (by
                  have hLu := HLW.out.ext (xb5.trans u.ext)
                  have h9 := May_any (hLu.tree.tat hLu.ownd) hw' ha' x.node x.at'
                  rw [HXM.out] at h9
                  exact h9))
                clear hx5 xb5 b5 hwb hpb hw' ha'
                go_upto_region 17 with fail
                rw [← HWB.out, HPB.out]
                have r0 : ∀ u : ExtOf wb, u.val.cell? ⟨lb, 0, none⟩ = some (.pointer (some ⟨tb, 0, none⟩)) := fun u => (HLW.out.ext (XB.out.trans u.ext)).ptr_
                have r1 : ∀ u : ExtOf wb, u.val.cell? ⟨pb, 0, none⟩ = some (.int .i64 x.node) := fun u => u.ext.cell (cellOf B5.out rfl)
                have r2 : ∀ u : ExtOf wb, u.val.cell? ⟨pb, 1, none⟩ = some (.int .i64 x.at') := fun u => u.ext.cell (cellOf B5.out rfl)
                refine wp_region_ext (by kernel_rfl) (by kernel_rfl) ?_
                repeat (go_big_quiet_step ((go_at_call 13; exact HMY.out _)))
                refine wpQuiet_nil ?_
                rintro _ ⟨u, rfl⟩
                have hx9 := HXW.out.trans (XB.out.trans u.ext)
                obtain ⟨w9, hw9⟩ : ∃ W, u.val = W := ⟨_, rfl⟩
                rw [hw9] at hx9 ⊢
                clear r0 r1 r2 hw9 HMY
                clear u
                have HX9 := Lib.hid hx9
                clear hx9 qy
                go_wp2_with fail
                go_roundw
                case rel => exact ⟨j + 1, by have := HJL.out; omega, by go_num, HX9.out⟩
                case measure => have := HJL.out; simp [intOf]; omega
              · have e5 : decide ((j : Int) < (hs.length : Int)) = false := decide_eq_false (by omega)
                have e5n : decide (j < hs.length) = false := decide_eq_false hjl
                have HF := Lib.hid (HJ'.out.more (HXH.out.trans HXW.out))
                clear hjl hjm
                go_wp2_with fail
                go_roundw
                case rel => exact ⟨k + 1, T', H', by have := HK.out; omega, by go_num, HST'.out, by have := HLEN.out; have := HLEN'.out; omega, HF.out⟩
                case measure => have := HK.out; simp [intOf]; omega
        · have HXX := Lib.hid HJ.out.ext
          go_wp2_with (go_at_call 7; refine (awake11_any _).mono ?_; rintro e w4 ⟨rfl, hx4⟩)
          go_ret
          exact ⟨rfl, HXX.out.trans hx4⟩
    · go_wp2_with fail
      refine (lNew_no cap deep hroom _).mono ?_
      rintro e w2 ⟨rfl, hx2⟩
      go_wp2_with fail
      refine (dNew_no cap deep hroom _).mono ?_
      rintro e w3 ⟨rfl, rfl⟩
      go_wp2_with (go_at_call 7; refine (awake11_any _).mono ?_; rintro e w4 ⟨rfl, hx4⟩)
      go_ret
      exact ⟨rfl, (HX1.out.trans hx2).trans hx4⟩
end Go.Proofs.YthgnbbbdcebjhaaGreat
