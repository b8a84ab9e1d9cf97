/- quillworklaw08: Does: the same call of both trees. Conditions: a call that is not heavy. Printed by wip/gen_does.py. -/
import Derived.Test.YtiglflmjidikpaaJn
namespace Go.Proofs.Ytiglflmjidikpaa
open Go Go.RowKit Go.BigFrame
set_option linter.unusedVariables false
set_option linter.unusedSimpArgs false

def DoesIs (w0 : World) (tb rb : Nat) (e : Ending) (w' : World) : Prop := e = .returned (.bool true) ∧ ∃ T', GoodT T' ∧ Jn w0 w' tb rb T' T' w0 (fun _ => False)
theorem tmod3 (x : Int) : -3 < x.tmod 3 ∧ x.tmod 3 < 3 := by
  have h1 := Int.tmod_lt_of_pos x (show (0 : Int) < 3 by decide)
  have h2 := Int.lt_tmod_of_pos x (show (0 : Int) < 3 by decide)
  omega
theorem part3 (x : Int) : (x.tmod 3 + 3).tmod 3 = 0 ∨ (x.tmod 3 + 3).tmod 3 = 1 ∨ (x.tmod 3 + 3).tmod 3 = 2 := by
  obtain ⟨h1, h2⟩ := tmod3 x
  rw [Int.tmod_eq_emod_of_nonneg (by omega)]
  omega
set_option maxRecDepth 100000 in
set_option maxHeartbeats 8000000 in
theorem Does_ok {w0 w : World} {tb rb : Nat} {T : Tr} {L : Nat → Prop} (hG : GoodT T) (hJ : Jn w0 w tb rb T T w0 L) {c : Cl} (hc : LightCl c) {av c6 c7 c8 c9 : Value} (hra : RowRd w0 2 av c.attrs.length (attrCells c.attrs)) (hrn : RdN w0 c.n (.agg #[c6, c7, c8, c9])) :
    Calls Try.prog 42 #[.pointer (some ⟨tb, 0, none⟩), .pointer (some ⟨rb, 0, none⟩), .agg #[.int .i64 c.what, .int .i64 c.a, .int .i64 c.b, .int .i64 c.c, .string c.s, av, c6, c7, c8, c9]] w (DoesIs w0 tb rb) := by
  obtain ⟨g1, g2, g3, g4⟩ := hc
  have g5 := c.n.light_short g3
  have g6 := PN.light_fair c.n g3
  obtain ⟨aa, acap, rfl, hac⟩ := hra.len_of
  obtain ⟨n0, n1, en, hna, hnk⟩ := hrn.open
  obtain ⟨naa, nac, en0, _⟩ := hna.len_of
  obtain ⟨nka, nkc, en1, _⟩ := hnk
  subst en0 en1
  cases en
  have xm := (Ext.refl w).alloc (.cells #[.int .i64 c.what, .int .i64 c.a, .int .i64 c.b, .int .i64 c.c, .string c.s, .slice aa c.attrs.length acap, .int .i64 c.n.tag, .slice naa c.n.attrs.length nac, .string c.n.text, .slice nka c.n.kids.length nkc] 35)
  have bM := heap_alloc_new w (.cells #[.int .i64 c.what, .int .i64 c.a, .int .i64 c.b, .int .i64 c.c, .string c.s, .slice aa c.attrs.length acap, .int .i64 c.n.tag, .slice naa c.n.attrs.length nac, .string c.n.text, .slice nka c.n.kids.length nkc] 35)
  have HJ := Lib.hid hJ
  have HRA := Lib.hid hra
  have HRN := Lib.hid hrn
  have HG := Lib.hid hG
  have G5 := Lib.hid g5
  have G6 := Lib.hid g6
  clear hJ hra hrn hG hna g3 g5 g6
  go_enter Try.func42, Try.ntmps42
  go_upto_region 1 with fail
  obtain ⟨BX, hBX⟩ : ∃ BX, BX = w.heap.size := ⟨_, rfl⟩
  obtain ⟨wm, hwm⟩ : ∃ wm : World, wm = w.alloc (.cells #[.int .i64 c.what, .int .i64 c.a, .int .i64 c.b, .int .i64 c.c, .string c.s, .slice aa c.attrs.length acap, .int .i64 c.n.tag, .slice naa c.n.attrs.length nac, .string c.n.text, .slice nka c.n.kids.length nkc] 35) := ⟨_, rfl⟩
  rw [← hBX] at bM ⊢
  rw [← hwm] at bM xm
  rw [← hwm]
  clear hwm
  have hBw : w.heap.size ≤ BX := by omega
  have J1 := Lib.hid (HJ.out.grow xm)
  have XM := Lib.hid xm
  have B1 := Lib.hid (gap_new (w0 := w0) (w := w) bM hBw (i := 1) (v := .int .i64 c.a) rfl)
  have B2 := Lib.hid (gap_new (w0 := w0) (w := w) bM hBw (i := 2) (v := .int .i64 c.b) rfl)
  have B3 := Lib.hid (gap_new (w0 := w0) (w := w) bM hBw (i := 3) (v := .int .i64 c.c) rfl)
  have B4 := Lib.hid (gap_new (w0 := w0) (w := w) bM hBw (i := 4) (v := .string c.s) rfl)
  have B5 := Lib.hid (gap_new (w0 := w0) (w := w) bM hBw (i := 5) (v := .slice aa c.attrs.length acap) rfl)
  have HBX := Lib.hid hBX
  have HBW := Lib.hid hBw
  clear hBX hBw
  have u0 := cellOf bM (i := 0) (v := .int .i64 c.what) rfl
  have u1 := cellOf bM (i := 1) (v := .int .i64 c.a) rfl
  have u2 := cellOf bM (i := 2) (v := .int .i64 c.b) rfl
  have u3 := cellOf bM (i := 3) (v := .int .i64 c.c) rfl
  have u4 := cellOf bM (i := 4) (v := .string c.s) rfl
  have u5 := cellOf bM (i := 5) (v := .slice aa c.attrs.length acap) rfl
  have u6 := cellOf bM (i := 6) (v := .int .i64 c.n.tag) rfl
  have u7 := cellOf bM (i := 7) (v := .slice naa c.n.attrs.length nac) rfl
  have u8 := cellOf bM (i := 8) (v := .string c.n.text) rfl
  have u9 := cellOf bM (i := 9) (v := .slice nka c.n.kids.length nkc) rfl
  have BM := Lib.hid bM
  have RAO := Lib.hid (HRA.out.cells (gap_old (w := w) (HJ.out.ext.trans XM.out)))
  clear bM xm
  obtain ⟨m1, m2⟩ := tmod10 c.what
  have e1 : IntKind.i64.wrap (c.what.tmod 10) = c.what.tmod 10 := IntWalk.i64_in _ (by omega)
  have e2 : IntKind.i64.wrap (c.what.tmod 10 + 10) = c.what.tmod 10 + 10 := IntWalk.i64_in _ (by omega)
  rcases part_cases c.what with hm | hm | hm | hm | hm | hm | hm | hm | hm
  · have e3 : IntKind.i64.wrap ((c.what.tmod 10 + 10).tmod 10) = 2 := by rw [hm]; rfl
    rw [Int.tmod_eq_emod_of_nonneg (by omega), Int.add_emod_right] at hm
    obtain ⟨x, er, T', hG2, pd, pr⟩ := Text_pair HG.out c.s (by omega)
    have HG2 := Lib.hid hG2
    have PD := Lib.hid pd
    have PR := Lib.hid pr
    clear hG2 pd pr
    go_wp2_with (first
      | (go_at_call 41; refine (J1.out.dom (v := .tuple #[.int .i64 x, .int .i64 er]) (T' := T') fun own ptr h1 h2 h3 => PD.out _ own ptr tb h1 h2).mono ?_; rintro e w2 ⟨rfl, hj⟩; have v4 := hj.told B4.out; have J2 := Lib.hid hj; clear hj)
      | (go_at_call 97; refine (J2.out.ref (v := .tuple #[.int .i64 x, .int .i64 er]) (T' := T') fun F h1 h2 => PR.out _ F rb h1).mono ?_; rintro e w3 ⟨rfl, hj⟩; have J3 := Lib.hid hj; clear hj))
    go_ret
    exact ⟨rfl, T', HG2.out, J3.out.base.free⟩
  · have e3 : IntKind.i64.wrap ((c.what.tmod 10 + 10).tmod 10) = 3 := by rw [hm]; rfl
    rw [Int.tmod_eq_emod_of_nonneg (by omega), Int.add_emod_right] at hm
    obtain ⟨er, T', hG2, pd, pr⟩ := Insert_pair HG.out c.a c.b c.c
    have HG2 := Lib.hid hG2
    have PD := Lib.hid pd
    have PR := Lib.hid pr
    clear hG2 pd pr
    go_upto_region 8 with fail
    go_region_held3 (fun w' => w'.cell? ⟨BX, 1, none⟩ = some (.int .i64 c.a) ∧ w'.cell? ⟨BX, 2, none⟩ = some (.int .i64 c.b) ∧ w'.cell? ⟨BX, 3, none⟩ = some (.int .i64 c.c))
      (first | exact ⟨u1, u2, u3⟩ | exact hkeep | go_keep)
      (first
      | (go_at_call 21; refine ((J1.out.more (Ext.refl wm).drew).dom (v := .int .i64 er) (T' := T') fun own ptr h1 h2 h3 => PD.out _ own ptr tb h1 h2).mono ?_; rintro e w2 ⟨rfl, hj⟩; have hkeep := (show _ ∧ _ ∧ _ from ⟨hj.told B1.out, hj.told B2.out, hj.told B3.out⟩); have J2 := Lib.hid hj; clear hj)
      | (go_at_call 98; refine (J2.out.ref (v := .int .i64 er) (T' := T') fun F h1 h2 => PR.out _ F rb h1).mono ?_; rintro e w3 ⟨rfl, hj⟩; have hkeep := (show _ ∧ _ ∧ _ from ⟨hj.told B1.out, hj.told B2.out, hj.told B3.out⟩); have J3 := Lib.hid hj; clear hj))
    go_wp2_with fail
    go_ret
    exact ⟨rfl, T', HG2.out, J3.out.base.free⟩
  · have e3 : IntKind.i64.wrap ((c.what.tmod 10 + 10).tmod 10) = 4 := by rw [hm]; rfl
    rw [Int.tmod_eq_emod_of_nonneg (by omega), Int.add_emod_right] at hm
    obtain ⟨er, T', hG2, pd, pr⟩ := Insert_pair HG.out c.a c.b c.c
    have HG2 := Lib.hid hG2
    have PD := Lib.hid pd
    have PR := Lib.hid pr
    clear hG2 pd pr
    go_upto_region 8 with fail
    go_region_held3 (fun w' => w'.cell? ⟨BX, 1, none⟩ = some (.int .i64 c.a) ∧ w'.cell? ⟨BX, 2, none⟩ = some (.int .i64 c.b) ∧ w'.cell? ⟨BX, 3, none⟩ = some (.int .i64 c.c))
      (first | exact ⟨u1, u2, u3⟩ | exact hkeep | go_keep)
      (first
      | (go_at_call 21; refine ((J1.out.more (Ext.refl wm).drew).dom (v := .int .i64 er) (T' := T') fun own ptr h1 h2 h3 => PD.out _ own ptr tb h1 h2).mono ?_; rintro e w2 ⟨rfl, hj⟩; have hkeep := (show _ ∧ _ ∧ _ from ⟨hj.told B1.out, hj.told B2.out, hj.told B3.out⟩); have J2 := Lib.hid hj; clear hj)
      | (go_at_call 98; refine (J2.out.ref (v := .int .i64 er) (T' := T') fun F h1 h2 => PR.out _ F rb h1).mono ?_; rintro e w3 ⟨rfl, hj⟩; have hkeep := (show _ ∧ _ ∧ _ from ⟨hj.told B1.out, hj.told B2.out, hj.told B3.out⟩); have J3 := Lib.hid hj; clear hj))
    go_wp2_with fail
    go_ret
    exact ⟨rfl, T', HG2.out, J3.out.base.free⟩
  · have e3 : IntKind.i64.wrap ((c.what.tmod 10 + 10).tmod 10) = 5 := by rw [hm]; rfl
    rw [Int.tmod_eq_emod_of_nonneg (by omega), Int.add_emod_right] at hm
    obtain ⟨er, T', hG2, pd, pr⟩ := Remove_pair HG.out c.a
    have HG2 := Lib.hid hG2
    have PD := Lib.hid pd
    have PR := Lib.hid pr
    clear hG2 pd pr
    go_upto_region 10 with fail
    go_region_held3 (fun w' => w'.cell? ⟨BX, 1, none⟩ = some (.int .i64 c.a))
      (first | exact u1 | exact hkeep | go_keep)
      (first
      | (go_at_call 22; refine ((J1.out.more (Ext.refl wm).drew).dom (v := .int .i64 er) (T' := T') fun own ptr h1 h2 h3 => PD.out _ own ptr tb h1 h2).mono ?_; rintro e w2 ⟨rfl, hj⟩; have hkeep := hj.told B1.out; have J2 := Lib.hid hj; clear hj)
      | (go_at_call 99; refine (J2.out.ref (v := .int .i64 er) (T' := T') fun F h1 h2 => PR.out _ F rb h1).mono ?_; rintro e w3 ⟨rfl, hj⟩; have hkeep := hj.told B1.out; have J3 := Lib.hid hj; clear hj))
    go_wp2_with fail
    go_ret
    exact ⟨rfl, T', HG2.out, J3.out.base.free⟩
  · have e3 : IntKind.i64.wrap ((c.what.tmod 10 + 10).tmod 10) = 6 := by rw [hm]; rfl
    rw [Int.tmod_eq_emod_of_nonneg (by omega), Int.add_emod_right] at hm
    obtain ⟨er, T', hG2, pd, pr⟩ := Drop_pair HG.out c.a
    have HG2 := Lib.hid hG2
    have PD := Lib.hid pd
    have PR := Lib.hid pr
    clear hG2 pd pr
    go_upto_region 12 with fail
    go_region_held3 (fun w' => w'.cell? ⟨BX, 1, none⟩ = some (.int .i64 c.a))
      (first | exact u1 | exact hkeep | go_keep)
      (first
      | (go_at_call 25; refine ((J1.out.more (Ext.refl wm).drew).dom (v := .int .i64 er) (T' := T') fun own ptr h1 h2 h3 => PD.out _ own ptr tb h1 h2).mono ?_; rintro e w2 ⟨rfl, hj⟩; have hkeep := hj.told B1.out; have J2 := Lib.hid hj; clear hj)
      | (go_at_call 100; refine (J2.out.ref (v := .int .i64 er) (T' := T') fun F h1 h2 => PR.out _ F rb h1).mono ?_; rintro e w3 ⟨rfl, hj⟩; have hkeep := hj.told B1.out; have J3 := Lib.hid hj; clear hj))
    go_wp2_with fail
    go_ret
    exact ⟨rfl, T', HG2.out, J3.out.base.free⟩
  · have e3 : IntKind.i64.wrap ((c.what.tmod 10 + 10).tmod 10) = 7 := by rw [hm]; rfl
    rw [Int.tmod_eq_emod_of_nonneg (by omega), Int.add_emod_right] at hm
    obtain ⟨k1, k2⟩ := tmod3 c.c
    have f1 : IntKind.i64.wrap (c.c.tmod 3) = c.c.tmod 3 := IntWalk.i64_in _ (by omega)
    have f2 : IntKind.i64.wrap (c.c.tmod 3 + 3) = c.c.tmod 3 + 3 := IntWalk.i64_in _ (by omega)
    rcases part3 c.c with h3 | h3 | h3
    · have f3 : IntKind.i64.wrap ((c.c.tmod 3 + 3).tmod 3) = 0 := by rw [h3]; rfl
      rw [Int.tmod_eq_emod_of_nonneg (by omega), Int.add_emod_right] at h3
      obtain ⟨er, T', hG2, pd, pr⟩ := SetAttrs_pair HG.out c.a c.attrs (by omega)
      have HG2 := Lib.hid hG2
      have PD := Lib.hid pd
      have PR := Lib.hid pr
      clear hG2 pd pr
      go_upto_region 18 with (go_at_call 101; refine (J1.out.ref (v := .int .i64 er) (T' := T') fun F h1 h2 => PR.out _ F rb c.b c.s _ h1 (RAO.out.cells J1.out.cells)).mono ?_; rintro e w2 ⟨rfl, hj⟩; have v1 := hj.told B1.out; have v2 := hj.told B2.out; have v4 := hj.told B4.out; have v5 := hj.told B5.out; have J2 := Lib.hid hj; clear hj)
      refine wp_region_E (S := fun w' => w'.cell? ⟨BX, 1, none⟩ = some (.int .i64 c.a) ∧ w'.cell? ⟨BX, 5, none⟩ = some (.slice aa c.attrs.length acap)) (n := 10) (by kernel_rfl) ?_
      have hS : w2.drew.cell? ⟨BX, 1, none⟩ = some (.int .i64 c.a) ∧ w2.drew.cell? ⟨BX, 5, none⟩ = some (.slice aa c.attrs.length acap) := ⟨v1, v5⟩
      show wpE _ _ _ _ _ 10 11 (Array.replicate 11 false) _ _
      refine wpE_take (i := 0) (v := .pointer (some ⟨tb, 0, none⟩)) (o := { dst := some 116, op := _, type := _, pos := _, after := _, guard := none }) rfl (by kernel_rfl) (by kernel_rfl) (by kernel_rfl) (by kernel_rfl) (fun _ _ _ h => h) (Or.inl ⟨by rfl, fun w' hSw => ?_⟩) hS ?_
      · (obtain ⟨s1, s2⟩ := hSw; clear hS; go_simp)
      try simp only [Act.put, List.setIfInBounds_toArray, List.set_cons_zero, List.set_cons_succ]
      refine wpE_take (i := 1) (v := .pointer (some ⟨BX, 1, none⟩)) (o := { dst := some 117, op := _, type := _, pos := _, after := _, guard := none }) rfl (by kernel_rfl) (by kernel_rfl) (by kernel_rfl) (by kernel_rfl) (fun _ _ _ h => h) (Or.inl ⟨by rfl, fun w' hSw => ?_⟩) hS ?_
      · (obtain ⟨s1, s2⟩ := hSw; clear hS; go_simp)
      try simp only [Act.put, List.setIfInBounds_toArray, List.set_cons_zero, List.set_cons_succ]
      refine wpE_take (i := 2) (v := .int .i64 c.a) (o := { dst := some 118, op := _, type := _, pos := _, after := _, guard := none }) rfl (by kernel_rfl) (by kernel_rfl) (by kernel_rfl) (by kernel_rfl) (fun _ _ _ h => h) (Or.inl ⟨by rfl, fun w' hSw => ?_⟩) hS ?_
      · (obtain ⟨s1, s2⟩ := hSw; clear hS; go_simp)
      try simp only [Act.put, List.setIfInBounds_toArray, List.set_cons_zero, List.set_cons_succ]
      refine wpE_take (i := 4) (v := .pointer (some ⟨BX, 5, none⟩)) (o := { dst := some 120, op := _, type := _, pos := _, after := _, guard := none }) rfl (by kernel_rfl) (by kernel_rfl) (by kernel_rfl) (by kernel_rfl) (fun _ _ _ h => h) (Or.inl ⟨by rfl, fun w' hSw => ?_⟩) hS ?_
      · (obtain ⟨s1, s2⟩ := hSw; clear hS; go_simp)
      try simp only [Act.put, List.setIfInBounds_toArray, List.set_cons_zero, List.set_cons_succ]
      refine wpE_take (i := 5) (v := .slice aa c.attrs.length acap) (o := { dst := some 121, op := _, type := _, pos := _, after := _, guard := none }) rfl (by kernel_rfl) (by kernel_rfl) (by kernel_rfl) (by kernel_rfl) (fun _ _ _ h => h) (Or.inl ⟨by rfl, fun w' hSw => ?_⟩) hS ?_
      · (obtain ⟨s1, s2⟩ := hSw; clear hS; go_simp)
      try simp only [Act.put, List.setIfInBounds_toArray, List.set_cons_zero, List.set_cons_succ]
      refine wpE_take (i := 8) (v := .int .i64 er) (o := { dst := some 124, op := _, type := _, pos := _, after := _, guard := none }) rfl (by kernel_rfl) (by kernel_rfl) (by kernel_rfl) (by kernel_rfl) (fun _ _ _ h => h) (Or.inl ⟨by rfl, fun w' hSw => ?_⟩) hS ?_
      · (obtain ⟨s1, s2⟩ := hSw; clear hS; go_simp)
      try simp only [Act.put, List.setIfInBounds_toArray, List.set_cons_zero, List.set_cons_succ]
      obtain ⟨wd, hwd⟩ : ∃ wd : World, wd = w2.drew := ⟨_, rfl⟩
      have J2d := J2.out.more (Ext.refl w2).drew
      rw [← hwd] at J2d hS ⊢
      clear hwd
      have xe := (Ext.refl wd).alloc (.cells #[] 44) 
      have J2E := J2d.more xe
      obtain ⟨va, wA, hrun, hrA, hxA⟩ := append_empty (w := wd.alloc (.cells #[] 44)) (b := wd.heap.size) (RAO.out.cells J2E.cells) (by omega) (attrCells_one _)
      obtain ⟨a1, c1, rfl, _⟩ := hrA.rd.len_of
      have J3A := Lib.hid (J2E.more hxA)
      have RDA := Lib.hid hrA.rd
      have HRUN := Lib.hid hrun
      have t1 := J2E.told B1.out
      have t5 := J2E.told B5.out
      have s1 := J3A.out.told B1.out
      have s5 := J3A.out.told B5.out
      clear xe J2E hrun hrA hxA J2d
      refine wpE_one (i := 3) (o := { dst := some 119, op := _, type := _, pos := _, after := _, guard := none }) (by kernel_rfl) rfl (fun K hK => ?_)
      go_simp
      refine hK.out _ _ (.inr ⟨t1, t5⟩) ?_
      clear hK K
      try simp only [Act.put, List.setIfInBounds_toArray, List.set_cons_zero, List.set_cons_succ]
      refine wpE_one (i := 6) (o := { dst := some 122, op := _, type := _, pos := _, after := _, guard := none }) (by kernel_rfl) rfl (fun K hK => ?_)
      refine step_append_run (by rfl) _ _ 27 (by rfl) (.slice (some ⟨wd.heap.size, 0, none⟩) 0 0) (.slice aa c.attrs.length acap) (by rfl) (by rfl) (.slice a1 c.attrs.length c1) wA HRUN.out ?_
      refine hK.out _ _ (.inr ⟨s1, s5⟩) ?_
      clear hK K
      try simp only [Act.put, List.setIfInBounds_toArray, List.set_cons_zero, List.set_cons_succ]
      refine wpE_one (i := 7) (o := { dst := some 123, op := _, type := _, pos := _, after := _, guard := none }) (by kernel_rfl) rfl (fun K hK => ?_)
      go_simp
      go_at_call 24
      refine (J3A.out.dom (v := .int .i64 er) (T' := T') fun own ptr h1 h2 h3 => PD.out _ own ptr tb _ h1 h2 RDA.out).mono ?_
      rintro e w3 ⟨rfl, hj⟩
      have r1 := hj.told B1.out
      have r5 := hj.told B5.out
      have J3 := Lib.hid hj
      clear hj
      refine hK.out _ _ (.inr ⟨r1, r5⟩) ?_
      clear hK K
      try simp only [Act.put, List.setIfInBounds_toArray, List.set_cons_zero, List.set_cons_succ]
      refine wpE_one (i := 9) (o := { dst := some 125, op := _, type := _, pos := _, after := _, guard := none }) (by kernel_rfl) rfl (fun K hK => ?_)
      go_simp
      refine hK.out _ _ (.inr ⟨r1, r5⟩) ?_
      clear hK K
      try simp only [Act.put, List.setIfInBounds_toArray, List.set_cons_zero, List.set_cons_succ]
      refine wpE_one (i := 10) (o := { dst := some 6, op := _, type := _, pos := _, after := _, guard := none }) (by kernel_rfl) rfl (fun K hK => ?_)
      go_simp
      refine hK.out _ _ (.inl rfl) ?_
      clear hK K
      try simp only [Act.put, List.setIfInBounds_toArray, List.set_cons_zero, List.set_cons_succ]
      refine wpE_done (by kernel_rfl) ?_
      go_wp2_with fail
      go_ret
      exact ⟨rfl, T', HG2.out, J3.out.base.free⟩
    · have f3 : IntKind.i64.wrap ((c.c.tmod 3 + 3).tmod 3) = 1 := by rw [h3]; rfl
      rw [Int.tmod_eq_emod_of_nonneg (by omega), Int.add_emod_right] at h3
      obtain ⟨er, T', hG2, pd, pr⟩ := SetText_pair HG.out c.a c.s (by omega)
      have HG2 := Lib.hid hG2
      have PD := Lib.hid pd
      have PR := Lib.hid pr
      clear hG2 pd pr
      go_wp2_with (first | (go_at_call 101; refine (J1.out.ref (v := .int .i64 er) (T' := T') fun F h1 h2 => PR.out _ F rb c.b _ h1).mono ?_; rintro e w2 ⟨rfl, hj⟩; have v1 := hj.told B1.out; have v2 := hj.told B2.out; have v4 := hj.told B4.out; have v5 := hj.told B5.out; have J2 := Lib.hid hj; clear hj) | (go_at_call 23; refine (J2.out.dom (v := .int .i64 er) (T' := T') fun own ptr h1 h2 h3 => PD.out _ own ptr tb h1 h2).mono ?_; rintro e w3 ⟨rfl, hj⟩; have J3 := Lib.hid hj; clear hj))
      go_ret
      exact ⟨rfl, T', HG2.out, J3.out.base.free⟩
    · have f3 : IntKind.i64.wrap ((c.c.tmod 3 + 3).tmod 3) = 2 := by rw [h3]; rfl
      rw [Int.tmod_eq_emod_of_nonneg (by omega), Int.add_emod_right] at h3
      obtain ⟨er, T', hG2, pd, pr⟩ := SetTag_pair HG.out c.a c.b
      have HG2 := Lib.hid hG2
      have PD := Lib.hid pd
      have PR := Lib.hid pr
      clear hG2 pd pr
      go_wp2_with (first | (go_at_call 101; refine (J1.out.ref (v := .int .i64 er) (T' := T') fun F h1 h2 => PR.out _ F rb c.s _ h1).mono ?_; rintro e w2 ⟨rfl, hj⟩; have v1 := hj.told B1.out; have v2 := hj.told B2.out; have v4 := hj.told B4.out; have v5 := hj.told B5.out; have J2 := Lib.hid hj; clear hj) | (go_at_call 29; refine (J2.out.dom (v := .int .i64 er) (T' := T') fun own ptr h1 h2 h3 => PD.out _ own ptr tb h1 h2).mono ?_; rintro e w3 ⟨rfl, hj⟩; have J3 := Lib.hid hj; clear hj))
      go_ret
      exact ⟨rfl, T', HG2.out, J3.out.base.free⟩
  · have e3 : IntKind.i64.wrap ((c.what.tmod 10 + 10).tmod 10) = 8 := by rw [hm]; rfl
    rw [Int.tmod_eq_emod_of_nonneg (by omega), Int.add_emod_right] at hm
    obtain ⟨x, er, T', hG2, pd, pr⟩ := Graft_pair HG.out c.a c.b c.n G5.out (by omega)
    have HG2 := Lib.hid hG2
    have PD := Lib.hid pd
    have PR := Lib.hid pr
    clear hG2 pd pr
    go_upto_region 24 with (go_at_call 95; refine (CopyNode_any c.n G6.out (by omega) _ _ HRN.out (HJ.out.ext.trans XM.out)).mono ?_; rintro e w2 hcp; obtain ⟨nv, gq, rfl, hrq, hxq, hgq⟩ := hcp.plain; obtain ⟨q1, q3, eq, hq1, hq3⟩ := hrq.open; obtain ⟨qa, qc, eq1, _⟩ := hq1.len_of; obtain ⟨ra, rc, eq3, _⟩ := hq3; subst eq1 eq3 eq)
    have xn := (Ext.refl w2).alloc (.cells #[.int .i64 c.n.tag, .slice qa c.n.attrs.length qc, .string c.n.text, .slice ra c.n.kids.length rc] 30)
    have bn := heap_alloc_new w2 (.cells #[.int .i64 c.n.tag, .slice qa c.n.attrs.length qc, .string c.n.text, .slice ra c.n.kids.length rc] 30)
    obtain ⟨NX, hNX⟩ : ∃ NX, NX = w2.heap.size := ⟨_, rfl⟩
    obtain ⟨w3, hw3⟩ : ∃ w3 : World, w3 = w2.alloc (.cells #[.int .i64 c.n.tag, .slice qa c.n.attrs.length qc, .string c.n.text, .slice ra c.n.kids.length rc] 30) := ⟨_, rfl⟩
    rw [← hNX] at bn ⊢
    rw [← hw3] at bn xn
    rw [← hw3]
    clear hw3
    have x3 : Ext w w3 := XM.out.trans (hxq.trans xn)
    have hNw : w.heap.size ≤ NX := by have h1 := XM.out.size; have h2 := hxq.size; omega
    have J3 := Lib.hid (HJ.out.grow x3)
    have hbm := (hxq.trans xn).block BM.out
    have C1 := Lib.hid (gap_new (w0 := w0) (w := w) hbm HBW.out (i := 1) (v := .int .i64 c.a) rfl)
    have C2 := Lib.hid (gap_new (w0 := w0) (w := w) hbm HBW.out (i := 2) (v := .int .i64 c.b) rfl)
    have C6 := Lib.hid (gap_new (w0 := w0) (w := w) hbm HBW.out (i := 6) (v := .int .i64 c.n.tag) rfl)
    have C7 := Lib.hid (gap_new (w0 := w0) (w := w) hbm HBW.out (i := 7) (v := .slice naa c.n.attrs.length nac) rfl)
    have C8 := Lib.hid (gap_new (w0 := w0) (w := w) hbm HBW.out (i := 8) (v := .string c.n.text) rfl)
    have C9 := Lib.hid (gap_new (w0 := w0) (w := w) hbm HBW.out (i := 9) (v := .slice nka c.n.kids.length nkc) rfl)
    have N0 := Lib.hid (gap_new (w0 := w0) (w := w) bn hNw (i := 0) (v := .int .i64 c.n.tag) rfl)
    have N1 := Lib.hid (gap_new (w0 := w0) (w := w) bn hNw (i := 1) (v := .slice qa c.n.attrs.length qc) rfl)
    have N2 := Lib.hid (gap_new (w0 := w0) (w := w) bn hNw (i := 2) (v := .string c.n.text) rfl)
    have N3 := Lib.hid (gap_new (w0 := w0) (w := w) bn hNw (i := 3) (v := .slice ra c.n.kids.length rc) rfl)
    have RQ := Lib.hid (show RdN (gap w0 w w3) c.n (.agg #[.int .i64 c.n.tag, .slice qa c.n.attrs.length qc, .string c.n.text, .slice ra c.n.kids.length rc]) from hrq.cells fun q y hq => gap_cell (xn.cells _ _ (hgq q y hq).1) (.inr (by have h1 := XM.out.size; have h2 := (hgq q y hq).2; omega)))
    have RN := Lib.hid (HRN.out.cells (gap_old (w := w) (HJ.out.ext.trans x3)))
    clear xn bn hrq hxq hgq hq1 hcp x3 hbm u0 u1 u2 u3 u4 u5 u6 u7 u8 u9 hNw hNX
    have v1 := J3.out.told C1.out
    have v2 := J3.out.told C2.out
    have n0 := J3.out.told N0.out
    have n1 := J3.out.told N1.out
    have n2 := J3.out.told N2.out
    have n3 := J3.out.told N3.out
    go_wp2_with (first
      | (go_at_call 31; refine (J3.out.dom (v := .tuple #[.int .i64 x, .int .i64 er]) (T' := T') fun own ptr h1 h2 h3 => PD.out _ _ own ptr tb _ h1 h2 RQ.out h3).mono ?_; rintro e w4 ⟨rfl, hj⟩; have o1 := hj.told C1.out; have o2 := hj.told C2.out; have o6 := hj.told C6.out; have o7 := hj.told C7.out; have o8 := hj.told C8.out; have o9 := hj.told C9.out; have J4 := Lib.hid hj; clear hj)
      | (go_at_call 102; refine (J4.out.ref (v := .tuple #[.int .i64 x, .int .i64 er]) (T' := T') fun F h1 h2 => PR.out _ _ F rb _ h1 RN.out h2).mono ?_; rintro e w5 ⟨rfl, hj⟩; have p6 := hj.told C6.out; have p7 := hj.told C7.out; have p8 := hj.told C8.out; have p9 := hj.told C9.out; have s0 := hj.told N0.out; have s1 := hj.told N1.out; have s2 := hj.told N2.out; have s3 := hj.told N3.out; have J5 := Lib.hid hj; clear hj)
      | (go_at_call 26; refine (SameNode_eq c.n G6.out _ _ _ (RQ.out.cells J5.out.cells) (RN.out.cells J5.out.cells)).mono ?_; rintro e w6 ⟨rfl, hx6⟩; have J6 := Lib.hid (J5.out.more hx6); clear hx6))
    go_ret
    exact ⟨rfl, T', HG2.out, J6.out.base.free⟩
  · have e3 : IntKind.i64.wrap ((c.what.tmod 10 + 10).tmod 10) = 9 := by rw [hm]; rfl
    rw [Int.tmod_eq_emod_of_nonneg (by omega), Int.add_emod_right] at hm
    obtain ⟨x, er, T', hG2, pd, pr⟩ := Element_pair HG.out c.a c.attrs (by omega)
    have HG2 := Lib.hid hG2
    have PD := Lib.hid pd
    have PR := Lib.hid pr
    clear hG2 pd pr
    have xe := (Ext.refl wm).alloc (.cells #[] 44) 
    obtain ⟨va, wA, hrun, hrA, hxA⟩ := append_empty (w := wm.alloc (.cells #[] 44)) (b := wm.heap.size) ((HRA.out.ext (HJ.out.ext.trans XM.out)).ext xe) (by omega) (attrCells_one _)
    obtain ⟨a1, c1, rfl, _⟩ := hrA.rd.len_of
    have xA : Ext wm wA := xe.trans hxA
    have HRUN := Lib.hid hrun
    have w5 := xe.cell u5
    have z1 := xA.cell u1
    have z5 := xA.cell u5
    have RA1 := Lib.hid hrA.rd
    have hrow : c.attrs.length = 0 ∨ ∃ (gl : Nat) (cur : Array Value), a1 = some ⟨gl, 0, none⟩ ∧ wA.heap[gl]? = some (.cells cur 44 (0, 0)) ∧ c.attrs.length * 2 ≤ cur.size ∧ w.heap.size ≤ gl ∧ gl < wA.heap.size := by
      rcases hrA.2 with ⟨h0, _⟩ | ⟨gl, cap, cur, h1, h2, h3, h4, h5, h6, h7⟩
      · exact .inl h0
      · refine .inr ⟨gl, cur, ?_, h3, by omega, ?_, (Array.getElem?_eq_some_iff.1 h3).1⟩
        · injection h1
        · have h8 : (wm.alloc (.cells #[] 44)).heap.size ≤ gl := h2
          have := XM.out.size
          simp at h8
          omega
    have J2 := Lib.hid (HJ.out.grow (XM.out.trans xA))
    have hbm := xA.block BM.out
    have C1 := Lib.hid (gap_new (w0 := w0) (w := w) hbm HBW.out (i := 1) (v := .int .i64 c.a) rfl)
    have C5 := Lib.hid (gap_new (w0 := w0) (w := w) hbm HBW.out (i := 5) (v := .slice aa c.attrs.length acap) rfl)
    have ROA := Lib.hid (HRA.out.cells (gap_old (w := w) (HJ.out.ext.trans (XM.out.trans xA))))
    have HROW := Lib.hid hrow
    clear xe hrun hrA hxA xA hbm hrow
    go_wp2_with (first
      | (at_builtin; refine wpList_append_run _ rfl _ _ 27 rfl _ _ rfl rfl _ _ HRUN.out ?_)
      | (go_at_call 44; refine (J2.out.domL (v := .tuple #[.int .i64 x, .int .i64 er]) (T' := T') fun own ptr h1 h2 h3 => PD.out _ own ptr tb _ h1 h2 RA1.out).mono ?_; rintro e w3 ⟨⟨rfl, hj⟩, hk3⟩; have y1 := hj.told C1.out; have y5 := hj.told C5.out; have J3 := Lib.hid hj; have K3 := Lib.hid hk3; clear hj hk3)
      | (go_at_call 103; refine (J3.out.refL (v := .tuple #[.int .i64 x, .int .i64 er]) (T' := T') fun F h1 h2 => PR.out _ F rb _ h1 (ROA.out.cells J3.out.cells)).mono ?_; rintro e w4 ⟨⟨rfl, hj⟩, hk4⟩; have J4 := Lib.hid hj; have K4 := Lib.hid hk4; clear hj hk4))
    rcases HROW.out with h0 | ⟨gl, cur, rfl, hgl, hcs, hglw, hglA⟩
    · go_loopw [23] (fun i wr => wr = w4 ∧ i = .int .i64 0) (fun i _ => 0)
      case atStart => exact ⟨rfl, rfl⟩
      case round =>
        obtain ⟨rfl, rfl⟩ := hrel
        go_wp2_with fail
        go_ret
        exact ⟨rfl, T', HG2.out, J4.out.base.free⟩
    · have hgl4 : w4.heap[gl]? = some (.cells cur 44 (0, 0)) := (K4.out gl ⟨hglw, hglA⟩).trans ((K3.out gl ⟨hglw, hglA⟩).trans hgl)
      have HGL4 := Lib.hid hgl4
      have hJl := Lib.hid J4.out.base
      clear hgl4 hgl y1 y5 z1 z5 w5 u0 u1 u2 u3 u4 u5 u6 u7 u8 u9
      go_loopw [23] (fun i wr => ∃ k : Nat, k ≤ c.attrs.length ∧ i = .int .i64 k ∧ Jn w0 wr tb rb T' T' w0 (fun b => w.heap.size ≤ b ∧ b < wA.heap.size) ∧ ∃ cur : Array Value, wr.heap[gl]? = some (.cells cur 44 (0, 0)) ∧ c.attrs.length * 2 ≤ cur.size) (fun i _ => c.attrs.length - (intOf i).toNat)
      case atStart => exact ⟨0, Nat.zero_le _, rfl, hJl.out, cur, HGL4.out, hcs⟩
      case round =>
        obtain ⟨k, hk, rfl, hj, cur', hb, hcs'⟩ := hrel
        by_cases hlt : k < c.attrs.length
        · obtain ⟨y, hy⟩ : ∃ y, cur'[k * 2]? = some y := ⟨cur'[k * 2]'(by omega), by simp [show k * 2 < cur'.size by omega]⟩
          have cy : wr.cell? ⟨gl, k * 2, none⟩ = some y := cellOf hb hy
          have fy := freeOf hb (k * 2)
          have hJ5 := Lib.hid (hj.poke (b := gl) ⟨hglw, hglA⟩ (by have := HJ.out.ext.size; omega) (k * 2) (.string ⟨#[116, 117, 114, 110, 101, 100]⟩))
          have hB5 := Lib.hid (heap_setCell_same (i := k * 2) hb (.string ⟨#[116, 117, 114, 110, 101, 100]⟩))
          have HCS := Lib.hid hcs'
          clear hj hb hy
          go_wp2_with fail
          go_roundw
          case rel => exact ⟨k + 1, by omega, by go_num, hJ5.out, _, hB5.out, by have := HCS.out; simpa using this⟩
          case measure => simp [intOf]; omega
        · obtain rfl : k = c.attrs.length := by omega
          have hJ5 := Lib.hid hj.free
          clear hj hb
          go_wp2_with fail
          go_ret
          exact ⟨rfl, T', HG2.out, hJ5.out⟩
  · rcases hm with hm | hm
    · have e3 : IntKind.i64.wrap ((c.what.tmod 10 + 10).tmod 10) = 0 := by rw [hm]; rfl
      rw [Int.tmod_eq_emod_of_nonneg (by omega), Int.add_emod_right] at hm
      obtain ⟨x, er, T', hG2, pd, pr⟩ := Element_pair HG.out c.a c.attrs (by omega)
      have HG2 := Lib.hid hG2
      have PD := Lib.hid pd
      have PR := Lib.hid pr
      clear hG2 pd pr
      have xe := (Ext.refl wm).alloc (.cells #[] 44) 
      obtain ⟨va, wA, hrun, hrA, hxA⟩ := append_empty (w := wm.alloc (.cells #[] 44)) (b := wm.heap.size) ((HRA.out.ext (HJ.out.ext.trans XM.out)).ext xe) (by omega) (attrCells_one _)
      obtain ⟨a1, c1, rfl, _⟩ := hrA.rd.len_of
      have xA : Ext wm wA := xe.trans hxA
      have HRUN := Lib.hid hrun
      have w5 := xe.cell u5
      have z1 := xA.cell u1
      have z5 := xA.cell u5
      have RA1 := Lib.hid hrA.rd
      have hrow : c.attrs.length = 0 ∨ ∃ (gl : Nat) (cur : Array Value), a1 = some ⟨gl, 0, none⟩ ∧ wA.heap[gl]? = some (.cells cur 44 (0, 0)) ∧ c.attrs.length * 2 ≤ cur.size ∧ w.heap.size ≤ gl ∧ gl < wA.heap.size := by
        rcases hrA.2 with ⟨h0, _⟩ | ⟨gl, cap, cur, h1, h2, h3, h4, h5, h6, h7⟩
        · exact .inl h0
        · refine .inr ⟨gl, cur, ?_, h3, by omega, ?_, (Array.getElem?_eq_some_iff.1 h3).1⟩
          · injection h1
          · have h8 : (wm.alloc (.cells #[] 44)).heap.size ≤ gl := h2
            have := XM.out.size
            simp at h8
            omega
      have J2 := Lib.hid (HJ.out.grow (XM.out.trans xA))
      have hbm := xA.block BM.out
      have C1 := Lib.hid (gap_new (w0 := w0) (w := w) hbm HBW.out (i := 1) (v := .int .i64 c.a) rfl)
      have C5 := Lib.hid (gap_new (w0 := w0) (w := w) hbm HBW.out (i := 5) (v := .slice aa c.attrs.length acap) rfl)
      have ROA := Lib.hid (HRA.out.cells (gap_old (w := w) (HJ.out.ext.trans (XM.out.trans xA))))
      have HROW := Lib.hid hrow
      clear xe hrun hrA hxA xA hbm hrow
      go_wp2_with (first
        | (at_builtin; refine wpList_append_run _ rfl _ _ 27 rfl _ _ rfl rfl _ _ HRUN.out ?_)
        | (go_at_call 44; refine (J2.out.domL (v := .tuple #[.int .i64 x, .int .i64 er]) (T' := T') fun own ptr h1 h2 h3 => PD.out _ own ptr tb _ h1 h2 RA1.out).mono ?_; rintro e w3 ⟨⟨rfl, hj⟩, hk3⟩; have y1 := hj.told C1.out; have y5 := hj.told C5.out; have J3 := Lib.hid hj; have K3 := Lib.hid hk3; clear hj hk3)
        | (go_at_call 103; refine (J3.out.refL (v := .tuple #[.int .i64 x, .int .i64 er]) (T' := T') fun F h1 h2 => PR.out _ F rb _ h1 (ROA.out.cells J3.out.cells)).mono ?_; rintro e w4 ⟨⟨rfl, hj⟩, hk4⟩; have J4 := Lib.hid hj; have K4 := Lib.hid hk4; clear hj hk4))
      rcases HROW.out with h0 | ⟨gl, cur, rfl, hgl, hcs, hglw, hglA⟩
      · go_loopw [23] (fun i wr => wr = w4 ∧ i = .int .i64 0) (fun i _ => 0)
        case atStart => exact ⟨rfl, rfl⟩
        case round =>
          obtain ⟨rfl, rfl⟩ := hrel
          go_wp2_with fail
          go_ret
          exact ⟨rfl, T', HG2.out, J4.out.base.free⟩
      · have hgl4 : w4.heap[gl]? = some (.cells cur 44 (0, 0)) := (K4.out gl ⟨hglw, hglA⟩).trans ((K3.out gl ⟨hglw, hglA⟩).trans hgl)
        have HGL4 := Lib.hid hgl4
        have hJl := Lib.hid J4.out.base
        clear hgl4 hgl y1 y5 z1 z5 w5 u0 u1 u2 u3 u4 u5 u6 u7 u8 u9
        go_loopw [23] (fun i wr => ∃ k : Nat, k ≤ c.attrs.length ∧ i = .int .i64 k ∧ Jn w0 wr tb rb T' T' w0 (fun b => w.heap.size ≤ b ∧ b < wA.heap.size) ∧ ∃ cur : Array Value, wr.heap[gl]? = some (.cells cur 44 (0, 0)) ∧ c.attrs.length * 2 ≤ cur.size) (fun i _ => c.attrs.length - (intOf i).toNat)
        case atStart => exact ⟨0, Nat.zero_le _, rfl, hJl.out, cur, HGL4.out, hcs⟩
        case round =>
          obtain ⟨k, hk, rfl, hj, cur', hb, hcs'⟩ := hrel
          by_cases hlt : k < c.attrs.length
          · obtain ⟨y, hy⟩ : ∃ y, cur'[k * 2]? = some y := ⟨cur'[k * 2]'(by omega), by simp [show k * 2 < cur'.size by omega]⟩
            have cy : wr.cell? ⟨gl, k * 2, none⟩ = some y := cellOf hb hy
            have fy := freeOf hb (k * 2)
            have hJ5 := Lib.hid (hj.poke (b := gl) ⟨hglw, hglA⟩ (by have := HJ.out.ext.size; omega) (k * 2) (.string ⟨#[116, 117, 114, 110, 101, 100]⟩))
            have hB5 := Lib.hid (heap_setCell_same (i := k * 2) hb (.string ⟨#[116, 117, 114, 110, 101, 100]⟩))
            have HCS := Lib.hid hcs'
            clear hj hb hy
            go_wp2_with fail
            go_roundw
            case rel => exact ⟨k + 1, by omega, by go_num, hJ5.out, _, hB5.out, by have := HCS.out; simpa using this⟩
            case measure => simp [intOf]; omega
          · obtain rfl : k = c.attrs.length := by omega
            have hJ5 := Lib.hid hj.free
            clear hj hb
            go_wp2_with fail
            go_ret
            exact ⟨rfl, T', HG2.out, hJ5.out⟩
    · have e3 : IntKind.i64.wrap ((c.what.tmod 10 + 10).tmod 10) = 1 := by rw [hm]; rfl
      rw [Int.tmod_eq_emod_of_nonneg (by omega), Int.add_emod_right] at hm
      obtain ⟨x, er, T', hG2, pd, pr⟩ := Element_pair HG.out c.a c.attrs (by omega)
      have HG2 := Lib.hid hG2
      have PD := Lib.hid pd
      have PR := Lib.hid pr
      clear hG2 pd pr
      have xe := (Ext.refl wm).alloc (.cells #[] 44) 
      obtain ⟨va, wA, hrun, hrA, hxA⟩ := append_empty (w := wm.alloc (.cells #[] 44)) (b := wm.heap.size) ((HRA.out.ext (HJ.out.ext.trans XM.out)).ext xe) (by omega) (attrCells_one _)
      obtain ⟨a1, c1, rfl, _⟩ := hrA.rd.len_of
      have xA : Ext wm wA := xe.trans hxA
      have HRUN := Lib.hid hrun
      have w5 := xe.cell u5
      have z1 := xA.cell u1
      have z5 := xA.cell u5
      have RA1 := Lib.hid hrA.rd
      have hrow : c.attrs.length = 0 ∨ ∃ (gl : Nat) (cur : Array Value), a1 = some ⟨gl, 0, none⟩ ∧ wA.heap[gl]? = some (.cells cur 44 (0, 0)) ∧ c.attrs.length * 2 ≤ cur.size ∧ w.heap.size ≤ gl ∧ gl < wA.heap.size := by
        rcases hrA.2 with ⟨h0, _⟩ | ⟨gl, cap, cur, h1, h2, h3, h4, h5, h6, h7⟩
        · exact .inl h0
        · refine .inr ⟨gl, cur, ?_, h3, by omega, ?_, (Array.getElem?_eq_some_iff.1 h3).1⟩
          · injection h1
          · have h8 : (wm.alloc (.cells #[] 44)).heap.size ≤ gl := h2
            have := XM.out.size
            simp at h8
            omega
      have J2 := Lib.hid (HJ.out.grow (XM.out.trans xA))
      have hbm := xA.block BM.out
      have C1 := Lib.hid (gap_new (w0 := w0) (w := w) hbm HBW.out (i := 1) (v := .int .i64 c.a) rfl)
      have C5 := Lib.hid (gap_new (w0 := w0) (w := w) hbm HBW.out (i := 5) (v := .slice aa c.attrs.length acap) rfl)
      have ROA := Lib.hid (HRA.out.cells (gap_old (w := w) (HJ.out.ext.trans (XM.out.trans xA))))
      have HROW := Lib.hid hrow
      clear xe hrun hrA hxA xA hbm hrow
      go_wp2_with (first
        | (at_builtin; refine wpList_append_run _ rfl _ _ 27 rfl _ _ rfl rfl _ _ HRUN.out ?_)
        | (go_at_call 44; refine (J2.out.domL (v := .tuple #[.int .i64 x, .int .i64 er]) (T' := T') fun own ptr h1 h2 h3 => PD.out _ own ptr tb _ h1 h2 RA1.out).mono ?_; rintro e w3 ⟨⟨rfl, hj⟩, hk3⟩; have y1 := hj.told C1.out; have y5 := hj.told C5.out; have J3 := Lib.hid hj; have K3 := Lib.hid hk3; clear hj hk3)
        | (go_at_call 103; refine (J3.out.refL (v := .tuple #[.int .i64 x, .int .i64 er]) (T' := T') fun F h1 h2 => PR.out _ F rb _ h1 (ROA.out.cells J3.out.cells)).mono ?_; rintro e w4 ⟨⟨rfl, hj⟩, hk4⟩; have J4 := Lib.hid hj; have K4 := Lib.hid hk4; clear hj hk4))
      rcases HROW.out with h0 | ⟨gl, cur, rfl, hgl, hcs, hglw, hglA⟩
      · go_loopw [23] (fun i wr => wr = w4 ∧ i = .int .i64 0) (fun i _ => 0)
        case atStart => exact ⟨rfl, rfl⟩
        case round =>
          obtain ⟨rfl, rfl⟩ := hrel
          go_wp2_with fail
          go_ret
          exact ⟨rfl, T', HG2.out, J4.out.base.free⟩
      · have hgl4 : w4.heap[gl]? = some (.cells cur 44 (0, 0)) := (K4.out gl ⟨hglw, hglA⟩).trans ((K3.out gl ⟨hglw, hglA⟩).trans hgl)
        have HGL4 := Lib.hid hgl4
        have hJl := Lib.hid J4.out.base
        clear hgl4 hgl y1 y5 z1 z5 w5 u0 u1 u2 u3 u4 u5 u6 u7 u8 u9
        go_loopw [23] (fun i wr => ∃ k : Nat, k ≤ c.attrs.length ∧ i = .int .i64 k ∧ Jn w0 wr tb rb T' T' w0 (fun b => w.heap.size ≤ b ∧ b < wA.heap.size) ∧ ∃ cur : Array Value, wr.heap[gl]? = some (.cells cur 44 (0, 0)) ∧ c.attrs.length * 2 ≤ cur.size) (fun i _ => c.attrs.length - (intOf i).toNat)
        case atStart => exact ⟨0, Nat.zero_le _, rfl, hJl.out, cur, HGL4.out, hcs⟩
        case round =>
          obtain ⟨k, hk, rfl, hj, cur', hb, hcs'⟩ := hrel
          by_cases hlt : k < c.attrs.length
          · obtain ⟨y, hy⟩ : ∃ y, cur'[k * 2]? = some y := ⟨cur'[k * 2]'(by omega), by simp [show k * 2 < cur'.size by omega]⟩
            have cy : wr.cell? ⟨gl, k * 2, none⟩ = some y := cellOf hb hy
            have fy := freeOf hb (k * 2)
            have hJ5 := Lib.hid (hj.poke (b := gl) ⟨hglw, hglA⟩ (by have := HJ.out.ext.size; omega) (k * 2) (.string ⟨#[116, 117, 114, 110, 101, 100]⟩))
            have hB5 := Lib.hid (heap_setCell_same (i := k * 2) hb (.string ⟨#[116, 117, 114, 110, 101, 100]⟩))
            have HCS := Lib.hid hcs'
            clear hj hb hy
            go_wp2_with fail
            go_roundw
            case rel => exact ⟨k + 1, by omega, by go_num, hJ5.out, _, hB5.out, by have := HCS.out; simpa using this⟩
            case measure => simp [intOf]; omega
          · obtain rfl : k = c.attrs.length := by omega
            have hJ5 := Lib.hid hj.free
            clear hj hb
            go_wp2_with fail
            go_ret
            exact ⟨rfl, T', HG2.out, hJ5.out⟩
end Go.Proofs.Ytiglflmjidikpaa
