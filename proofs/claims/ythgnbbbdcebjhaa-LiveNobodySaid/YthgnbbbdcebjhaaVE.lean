/- Package live: Hold (a new place), move. Conditions: at most 100000 places are held. -/
import Derived.Test.YthgnbbbdcebjhaaVD
namespace Go.Proofs.Ythgnbbbdcebjhaa
open Go Go.RowKit Go.BigFrame
set_option linter.unusedVariables false
set_option linter.unusedSimpArgs false

theorem wpList_append_run {P : Program} (w : World) {ops : Array Oper} {rest : List Oper} {o : Oper} {a : Act} {Q : Exit → Act → World → Prop}
    (hg : o.guard = none) (s x : Operand) (t : TypeId) (hop : o.op = Op.call { callee := Callee.builtin Builtin.append, args := #[s, x], argTypes := #[t, t] })
    (v u : Value) (hs : a.eval s = v) (hx : a.eval x = u) (v' : Value) (w' : World) (hr : (Builtin.append_ #[t, t] o.type #[v, u]).run P w = .ok v' w') (hK : wpList P ops Q rest (a.put o.dst v') w') :
    wpList P ops Q (o :: rest) a w := by
  refine wpList_plain hg fun K hK' => ?_
  unfold Oper.wp
  simp [execOp, hop, resolve, invoke, builtin, hs, hx, hr, Result.andThen]
  exact hK' _ _ hK
section
variable {w : World} {own : Ow} {ptr : Nat → Nat} {lb tb : Nat} {T : Tr} {hv : Value} {hb : Option Nat} {H : List Hd}
def LHoldIs (own : Ow) (lb tb : Nat) (hb : Option Nat) (w : World) (T : Tr) (k : Nat) (H' : List Hd) (e : Ending) (w' : World) : Prop := e = .returned (.tuple #[.int .i64 (k : Int), .int .i64 0]) ∧ LAfter own lb tb hb w T H' w'
theorem set_snoc (H : List Hd) (x y : Hd) : (H ++ [x]).set H.length y = H ++ [y] := by simp
set_option maxHeartbeats 2000000 in
set_option maxRecDepth 100000 in
theorem lHold_add (h : LiveAt w own ptr lb tb T hv hb H) {d : Nat → Nat} (hw : WF T d) (hA : AttrsOk T) (n a : Int) (hm : T.may n a = true) (hno : ∀ x ∈ H, x.off ≠ 1) (hl : H.length ≤ 100000) :
    Calls Try.prog 4 #[.pointer (some ⟨lb, 0, none⟩), pl n a] w (LHoldIs own lb tb hb w T H.length (H ++ [⟨n, a, 0⟩])) := by
  have xa := (Ext.refl w).alloc (.cells #[.int .i64 n, .int .i64 a] 32)
  have hba := heap_alloc_new w (.cells #[.int .i64 n, .int .i64 a] 32)
  obtain ⟨wa, hwa⟩ : ∃ W : World, W = w.alloc (.cells #[.int .i64 n, .int .i64 a] 32) := ⟨_, rfl⟩
  rw [← hwa] at xa hba
  obtain ⟨pb, hpb⟩ : ∃ b, w.heap.size = b := ⟨_, rfl⟩
  rw [hpb] at hba
  have hA2 := h.ext xa
  have HT := Lib.hid hA2
  have HNN := Lib.hid (fun u : ExtOf wa => inExt (u := u) (RSame.val (none_some (hA2.ext u.ext).ptr_)))
  have HMM : Hid (∀ u : ExtOf wa, Calls Try.prog 18 #[.pointer (some ⟨tb, 0, none⟩), .agg #[.int .i64 n, .int .i64 a]] u.val (fun e w' => e = .returned (.bool true) ∧ ∃ u' : ExtOf wa, w' = u'.val)) :=
    Lib.hid (fun u => inExt (u := u) (by have h9 := May_any ((hA2.ext u.ext).tree.tat (hA2.ext u.ext).ownd) hw hA n a; rw [hm] at h9; exact h9))
  have c0 : ∀ u : ExtOf wa, u.val.cell? ⟨lb, 0, none⟩ = some (.pointer (some ⟨tb, 0, none⟩)) := fun u => u.ext.cell hA2.ptr_
  have d0 : ∀ u : ExtOf wa, u.val.cell? ⟨pb, 0, none⟩ = some (.int .i64 n) := fun u => u.ext.cell (cellOf hba rfl)
  have d1 : ∀ u : ExtOf wa, u.val.cell? ⟨pb, 1, none⟩ = some (.int .i64 a) := fun u => u.ext.cell (cellOf hba rfl)
  have HNO := Lib.hid hno
  have XA := Lib.hid xa
  have HWA := Lib.hid hwa
  have HPB := Lib.hid hpb
  have HBA := Lib.hid hba
  have HL := Lib.hid hl
  have HH := Lib.hid h
  clear h hw hA hm hno hl xa hwa hpb hba hA2
  go_enter Try.func4, Try.ntmps4
  go_upto_region 1 with fail
  rw [← HWA.out, HPB.out]
  refine wp_region_ext (by kernel_rfl) (by kernel_rfl) ?_
  repeat (go_big_quiet_step ((first | (go_at_call 17; exact HNN.out _) | (go_at_call 18; exact HMM.out _))))
  refine wpQuiet_nil ?_
  rintro _ ⟨u, rfl⟩
  have hx := u.ext
  obtain ⟨w1, hw1⟩ : ∃ W, u.val = W := ⟨_, rfl⟩
  rw [hw1] at hx ⊢
  have HT1 := Lib.hid (HT.out.ext hx)
  have X1 := Lib.hid (XA.out.trans hx)
  have HB1 := Lib.hid (hx.block HBA.out)
  clear c0 d0 d1 hx hw1
  clear u
  have p1 := HT1.out.row_
  have HIX := Lib.hid (idxOff_any HL.out HT1.out.row)
  go_wp2_with (go_at_call 19; refine HIX.out.mono ?_)
  rintro e w2 ⟨k, rfl, hk, x2⟩
  obtain rfl : k = -1 := by
    rcases hk with ⟨h, _⟩ | ⟨i, x, _, hx, ho, _⟩
    · exact h
    · exact absurd ho (HNO.out x (List.mem_of_getElem? hx))
  have HT2 := Lib.hid (HT1.out.ext x2)
  have X2 := Lib.hid (X1.out.trans x2)
  have HB2 := Lib.hid (x2.block HB1.out)
  clear p1 hk x2 HIX
  obtain ⟨m, hm⟩ : ∃ m, H.length = m := ⟨_, rfl⟩
  have p1 := HT2.out.row_
  have P1 := Lib.hid p1
  obtain ⟨a1, cap1, hse, -⟩ := HT2.out.at
  rw [hse, hm] at p1
  clear hse
  go_upto_region 6 with fail
  clear p1
  have p1 := P1.out
  have HM := Lib.hid hm
  obtain ⟨a3, cap3, wB, hb3, hrun, hboxB, hmB, hT3, hS3⟩ := HT2.out.push HL.out ⟨0, 0, 0⟩ (cs := #[.int .i64 0, .int .i64 0, .int .i64 0]) rfl
  have cB := cellOf hboxB (i := 1) rfl
  have fB := freeOf hboxB 1
  have HRUN := Lib.hid hrun
  have HBB : Hid ((wB.setCell ⟨lb, 1, none⟩ (.slice a3 (H.length + 1) cap3)).heap[pb]? = some (.cells #[.int .i64 n, .int .i64 a] 32 (0, 0))) := Lib.hid (by
    have h1 := (Array.getElem?_eq_some_iff.1 HB2.out).1
    have h2 := HPB.out
    have h3 := HH.out.lt
    rw [heap_setCell_other _ (by show pb ≠ lb; omega)]
    exact hmB.block HB2.out (fun e => by have := (HH.out.nrow pb e).2.2; omega))
  obtain ⟨w4, hw4⟩ : ∃ W, W = wB.setCell ⟨lb, 1, none⟩ (.slice a3 (H.length + 1) cap3) := ⟨_, rfl⟩
  rw [← hw4] at hT3 hS3 HBB
  have HW4 := Lib.hid hw4
  have HT4 := Lib.hid hT3
  have HS4 : Hid (LStep own lb hb w own hb3 w4) := Lib.hid (((LStep.refl own lb hb w).ext X2.out).trans hS3)
  rw [hm] at HRUN HW4 HT4
  clear hm hrun hboxB hmB hT3 hS3 hw4
  go_upto_region 7 with (at_builtin; refine wpList_append_run _ rfl _ _ 24 rfl _ _ rfl rfl _ _ HRUN.out ?_)
  rw [← HW4.out]
  clear cB fB p1
  have hlen3 : (H ++ [(⟨0, 0, 0⟩ : Hd)]).length = m + 1 := by rw [List.length_append, HM.out]; rfl
  obtain ⟨a4, cap4, e4, -, hg4⟩ := HT4.out.at
  obtain ⟨g, cur, ea, hbg, hgr, htk, -⟩ := hg4 (by rw [hlen3]; omega)
  rw [hlen3] at e4
  obtain ⟨rfl, -, rfl⟩ : a3 = a4 ∧ True ∧ cap3 = cap4 := by cases e4; exact ⟨rfl, trivial, rfl⟩
  subst ea
  have hxm : (H ++ [(⟨0, 0, 0⟩ : Hd)])[m]? = some ⟨0, 0, 0⟩ := by rw [← HM.out]; simp
  have r0 : ∀ u : ExtOf w4, u.val.cell? ⟨lb, 1, none⟩ = some (.slice (some ⟨g, 0, none⟩) (m + 1) cap3) := fun u => u.ext.cell HT4.out.row_
  have r1 : ∀ u : ExtOf w4, u.val.cell? ⟨pb, 0, none⟩ = some (.int .i64 n) := fun u => u.ext.cell (cellOf HBB.out rfl)
  have r2 : ∀ u : ExtOf w4, u.val.cell? ⟨pb, 1, none⟩ = some (.int .i64 a) := fun u => u.ext.cell (cellOf HBB.out rfl)
  have i0 : (0 : Int) ≤ (m : Int) := by omega
  have i1 : (m : Int) < ((m + 1 : Nat) : Int) := by omega
  have i1' : (m : Int) < (m : Int) + 1 := by omega
  have itn : (m : Int).toNat = m := by omega
  have HGR := Lib.hid hgr
  have HTK := Lib.hid htk
  have HXM := Lib.hid hxm
  have HBG := Lib.hid hbg
  have HM3 := Lib.hid hlen3
  clear e4 hg4 hbg hgr htk hxm hlen3
  refine wp_region_ext_tail 8 (by kernel_rfl) (by kernel_rfl) ?_
  simp only [List.take_succ_cons, List.take_zero, List.drop_succ_cons, List.drop_zero]
  repeat (go_big_quiet_step (fail))
  refine wpQuiet_nil ?_
  rintro _ ⟨u, rfl⟩
  have hx := u.ext
  obtain ⟨w5, hw5⟩ : ∃ W, u.val = W := ⟨_, rfl⟩
  rw [hw5] at hx ⊢
  clear r0 r1 r2 hw5
  clear u
  have HT5 := HT4.out.ext hx
  have hgr5 := hx.block HGR.out
  have k0 := hold_cell (f := 0) hgr5 HTK.out HXM.out (v := .int .i64 0) rfl
  have k1 := hold_cell (f := 1) hgr5 HTK.out HXM.out (v := .int .i64 0) rfl
  have k2 := hold_cell (f := 2) hgr5 HTK.out HXM.out (v := .int .i64 0) rfl
  rw [Nat.add_zero] at k0
  have f0 := freeOf hgr5 (m * 3)
  have f1 := freeOf hgr5 (m * 3 + 1)
  have f2 := freeOf hgr5 (m * 3 + 2)
  have HF : Hid (LiveAt (((w5.setCell ⟨g, m * 3, none⟩ (.int .i64 n)).setCell ⟨g, m * 3 + 1, none⟩ (.int .i64 a)).setCell ⟨g, m * 3 + 2, none⟩ (.int .i64 0)) own ptr lb tb T (.slice (some ⟨g, 0, none⟩) (m + 1) cap3) hb3 (H ++ [⟨n, a, 0⟩]) ∧
      LStep own lb hb w own hb3 (((w5.setCell ⟨g, m * 3, none⟩ (.int .i64 n)).setCell ⟨g, m * 3 + 1, none⟩ (.int .i64 a)).setCell ⟨g, m * 3 + 2, none⟩ (.int .i64 0))) := Lib.hid (by
    have s1 := HT5.set (f := 0) (v := .int .i64 n) (p' := ⟨n, 0, 0⟩) HXM.out (by decide) rfl HBG.out
    rw [← HM.out, set_snoc, HM.out, Nat.add_zero] at s1
    have x1 : (H ++ [(⟨n, 0, 0⟩ : Hd)])[m]? = some ⟨n, 0, 0⟩ := by rw [← HM.out]; simp
    have s2 := s1.set (f := 1) (v := .int .i64 a) (p' := ⟨n, a, 0⟩) x1 (by decide) rfl HBG.out
    rw [← HM.out, set_snoc, HM.out] at s2
    have x2 : (H ++ [(⟨n, a, 0⟩ : Hd)])[m]? = some ⟨n, a, 0⟩ := by rw [← HM.out]; simp
    have s3 := s2.set (f := 2) (v := .int .i64 0) (p' := ⟨n, a, 0⟩) x2 (by decide) rfl HBG.out
    rw [← HM.out, set_snoc, HM.out] at s3
    refine ⟨s3, HS4.out.trans (LStep.ext ⟨?_, fun _ _ => rfl, fun _ h => .inl h⟩ (Ext.refl _))⟩
    have hm0 : Mv (fun b => own b ≠ none ∨ b = lb ∨ hb3 = some b) w4 w5 := Mv.ofExt hx
    exact ((hm0.setCell (p := ⟨g, m * 3, none⟩) (fun _ => .inr (.inr HBG.out)) (.int .i64 n)).setCell (p := ⟨g, m * 3 + 1, none⟩) (fun _ => .inr (.inr HBG.out)) (.int .i64 a)).setCell (p := ⟨g, m * 3 + 2, none⟩) (fun _ => .inr (.inr HBG.out)) (.int .i64 0))
  clear HT5 hx hgr5
  go_wp2_with fail
  go_ret2
  rw [HM.out]
  exact ⟨rfl, own, ptr, _, _, HF.out⟩
end
end Go.Proofs.Ythgnbbbdcebjhaa
