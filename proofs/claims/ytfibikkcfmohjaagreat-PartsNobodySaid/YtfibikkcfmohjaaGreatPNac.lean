/- what of V1 V2 V2b V3 W1 W2 W3 W4 VQ VA VB VC VD VE VF VG VH VI VJ VK VL VR VS VU VV VT VW VX VY VAA VTB VTC VTD VTE D0 DB DA DC DD DE DF DG DH DI DJ DK DL DM DN DOa DP EY EA EB EC ED EE EF EFa EFb EFc EFd EFe EG EH EJ GA GP GN GB GC GD GE GF GG GH GI GJ GK GL GM GO GQ GR GS is leant on -/
import Derived.Test.YtfibikkcfmohjaaGreatPNab
set_option linter.unusedVariables false
set_option linter.unusedSimpArgs false
set_option maxRecDepth 100000
set_option maxHeartbeats 4000000
namespace Go.Proofs.YtfibikkcfmohjaaGreat
open Go Go.RowKit Go.BigFrame
def ByIs (w : World) (hb : Option Nat) (fv : Value) (P : Int → Int → Prop) (f : Int → Int → Int × Int) : Prop :=
  ∃ (g : Nat) (lbs : Array Value), fv = .func (.func g) #[] lbs ∧ (∀ args w, (callFunc g args).run Tryz.prog w = .ok (.enter g args) w) ∧
    ∀ (W : World) (n a : Int), Mv (fun b => hb = some b) w W → P n a → Calls Tryz.prog g (#[pl n a] ++ lbs) W (RPlace (f n a).1 (f n a).2 W)
def moved (f : Int → Int → Int × Int) (x : Hd) : Hd := if x.off = 0 then ⟨(f x.node x.at').1, (f x.node x.at').2, 0⟩ else x
def movedTo (f : Int → Int → Int × Int) (H : List Hd) (i : Nat) : List Hd := (H.take i).map (moved f) ++ H.drop i
theorem movedTo_zero (f : Int → Int → Int × Int) (H : List Hd) : movedTo f H 0 = H := by simp [movedTo]
theorem movedTo_len (f : Int → Int → Int × Int) (H : List Hd) (i : Nat) : (movedTo f H i).length = H.length := by
  unfold movedTo
  rw [List.length_append, List.length_map, ← List.length_append, List.take_append_drop]
theorem movedTo_all (f : Int → Int → Int × Int) (H : List Hd) : movedTo f H H.length = H.map (moved f) := by simp [movedTo]
theorem movedTo_at (f : Int → Int → Int × Int) {H : List Hd} {i : Nat} {x : Hd} (h : H[i]? = some x) : (movedTo f H i)[i]? = some x := by
  have hi := (List.getElem?_eq_some_iff.1 h).1
  unfold movedTo
  rw [List.getElem?_append_right (by simp; omega)]
  simp only [List.length_map, List.length_take]
  rw [show min i H.length = i by omega, Nat.sub_self, List.getElem?_drop, Nat.add_zero]
  exact h
theorem movedTo_next (f : Int → Int → Int × Int) {H : List Hd} {i : Nat} {x : Hd} (h : H[i]? = some x) : (movedTo f H i).set i (moved f x) = movedTo f H (i + 1) := by
  obtain ⟨hi, e⟩ := List.getElem?_eq_some_iff.1 h
  unfold movedTo
  have hl : ((H.take i).map (moved f)).length = i := by simp; omega
  rw [List.set_append_right _ _ (by omega), hl, Nat.sub_self, List.drop_eq_getElem_cons hi, List.set_cons_zero, List.take_add_one, h, List.map_append]
  simp
section
variable {w : World} {own : Ow} {ptr : Nat → Nat} {lb tb : Nat} {T : Tr} {hv : Value} {hb : Option Nat} {H : List Hd}
def LMoveIs (own : Ow) (ptr : Nat → Nat) (lb tb : Nat) (hv : Value) (hb : Option Nat) (w : World) (T : Tr) (H' : List Hd) (e : Ending) (w' : World) : Prop := e = .returned (.tuple #[]) ∧ LiveAt w' own ptr lb tb T hv hb H' ∧ Mv (fun b => hb = some b) w w'
theorem lMove_any (h : LiveAt w own ptr lb tb T hv hb H) (hl : H.length ≤ 100000) {fv : Value} {P : Int → Int → Prop} {f : Int → Int → Int × Int} (hP : ∀ x ∈ H, x.off = 0 → P x.node x.at') (hby : ByIs w hb fv P f) :
    Calls Tryz.prog 123 #[.pointer (some ⟨lb, 0, none⟩), fv] w (LMoveIs own ptr lb tb hv hb w T (H.map (moved f))) := by
  obtain ⟨fn, lbs, rfl, hen, hcall⟩ := hby
  have HC := qh hcall
  have HP := qh hP
  have HL := qh hl
  have HH := qh h
  obtain ⟨a1, cap1, rfl, hca, hg1⟩ := h.at
  have HG1 := qh hg1
  obtain ⟨m, hm⟩ : ∃ m, H.length = m := ⟨_, rfl⟩
  have HM := qh hm
  have p1 := h.row_
  rw [hm] at p1 hl
  clear hcall hP h hg1 hm hca
  go_enter Tryz.func123, Tryz.ntmps123
  go_wp2_with fail
  clear p1
  go_loopw [4, 10] (fun _ iv wr => ∃ i : Nat, i ≤ m ∧ iv = .int .i64 i ∧ LiveAt wr own ptr lb tb T (.slice a1 H.length cap1) hb (movedTo f H i) ∧ Mv (fun b => hb = some b) w wr) (fun _ iv _ => m - (intOf iv).toNat)
  case atStart => exact ⟨0, Nat.zero_le _, rfl, by rw [movedTo_zero]; exact HH.out, Mv.refl _ _⟩
  case round =>
    obtain ⟨i, him, rfl, hlv, hmv⟩ := hrel
    have HLV := qh hlv
    have HMV := qh hmv
    by_cases hlt : i < m
    · obtain ⟨x, hx⟩ : ∃ x, H[i]? = some x := ⟨_, List.getElem?_eq_getElem (by rw [HM.out]; exact hlt)⟩
      have hxi := movedTo_at f hx
      obtain ⟨a4, cap4, e4, -, hg4⟩ := hlv.at
      rw [movedTo_len] at e4 hg4
      obtain ⟨g, cur, ea, hbg, hgr, htk, -⟩ := hg4 (by rw [HM.out]; omega)
      obtain ⟨rfl, rfl⟩ : a1 = a4 ∧ cap1 = cap4 := by cases e4; exact ⟨rfl, rfl⟩
      subst ea
      rw [← movedTo_len f H i] at htk
      have k0 := hold_cell (f := 0) hgr htk hxi (v := .int .i64 x.node) rfl
      have k1 := hold_cell (f := 1) hgr htk hxi (v := .int .i64 x.at') rfl
      have k2 := hold_cell (f := 2) hgr htk hxi (v := .int .i64 x.off) rfl
      rw [Nat.add_zero] at k0
      have p1 := hlv.row_
      rw [HM.out] at p1
      have HX := qh hx
      have HXI := qh hxi
      have HGR := qh hgr
      have HBG := qh hbg
      have e0 : decide ((i : Int) < (m : Int)) = true := decide_eq_true (by omega)
      have e0n : decide (i < m) = true := decide_eq_true hlt
      have i0 : (0 : Int) ≤ (i : Int) := by omega
      have i1 : (i : Int) < (m : Int) := by omega
      have itn : (i : Int).toNat = i := by omega
      clear hx hxi e4 hg4 hbg hgr htk hlv hmv
      by_cases hoff : x.off = 0
      · rw [hoff] at k2
        have HBY := qh (fun u : ExtOf wr => inExt (u := u) (HC.out u.val x.node x.at' (HMV.out.ext u.ext) (HP.out x (List.mem_of_getElem? HX.out) hoff)))
        have HMX : Hid (moved f x = ⟨(f x.node x.at').1, (f x.node x.at').2, 0⟩) := qh (if_pos hoff)
        obtain ⟨n', hn'⟩ : ∃ n', (f x.node x.at').1 = n' := ⟨_, rfl⟩
        obtain ⟨a', ha'⟩ : ∃ a', (f x.node x.at').2 = a' := ⟨_, rfl⟩
        rw [hn', ha'] at HBY HMX
        have HOF := qh hoff
        clear hoff hn' ha'
        go_upto_region 4 with fail
        clear k2
        have r0 : ∀ u : ExtOf wr, u.val.cell? ⟨lb, 1, none⟩ = some (.slice (some ⟨g, 0, none⟩) m cap1) := fun u => u.ext.cell p1
        have r1 : ∀ u : ExtOf wr, u.val.cell? ⟨g, i * 3, none⟩ = some (.int .i64 x.node) := fun u => u.ext.cell k0
        have r2 : ∀ u : ExtOf wr, u.val.cell? ⟨g, i * 3 + 1, none⟩ = some (.int .i64 x.at') := fun u => u.ext.cell k1
        clear p1 k0 k1
        refine wp_region_ext_tail 17 (by kernel_rfl) (by kernel_rfl) ?_
        simp only [List.take_succ_cons, List.take_zero, List.drop_succ_cons, List.drop_zero]
        repeat (go_big_quiet_step ((go_at_fn fn; exact HBY.out _)))
        refine wpQuiet_nil ?_
        rintro _ ⟨u, rfl⟩
        have hx := u.ext
        obtain ⟨w5, hw5⟩ : ∃ W, u.val = W := ⟨_, rfl⟩
        rw [hw5] at hx ⊢
        clear r0 r1 r2 hw5
        clear u
        have hgr5 := hx.block HGR.out
        have HLV5 := HLV.out.ext hx
        have HMV5 := HMV.out.ext hx
        obtain ⟨cur5, hgr6, htk6⟩ : ∃ cur5, w5.heap[g]? = some (.cells cur5 123 (0, 0)) ∧ cur5.toList.take ((movedTo f H i).length * 3) = hcells (movedTo f H i) := by
          obtain ⟨a6, cap6, e6, -, hg6⟩ := HLV5.at
          obtain ⟨g6, cur6, ea6, hb6, hgr6, htk6, -⟩ := hg6 (by rw [movedTo_len, HM.out]; omega)
          rw [HBG.out] at hb6
          cases hb6
          exact ⟨cur6, hgr6, htk6⟩
        have k0 := hold_cell (f := 0) hgr6 htk6 HXI.out (v := .int .i64 x.node) rfl
        have k1 := hold_cell (f := 1) hgr6 htk6 HXI.out (v := .int .i64 x.at') rfl
        rw [Nat.add_zero] at k0
        have f0 := freeOf hgr6 (i * 3)
        have f1 := freeOf hgr6 (i * 3 + 1)
        have HF : Hid (LiveAt ((w5.setCell ⟨g, i * 3, none⟩ (.int .i64 n')).setCell ⟨g, i * 3 + 1, none⟩ (.int .i64 a')) own ptr lb tb T (.slice (some ⟨g, 0, none⟩) H.length cap1) hb (movedTo f H (i + 1)) ∧
            Mv (fun b => hb = some b) w ((w5.setCell ⟨g, i * 3, none⟩ (.int .i64 n')).setCell ⟨g, i * 3 + 1, none⟩ (.int .i64 a'))) := qh (by
          have s1 := HLV5.set (f := 0) (v := .int .i64 n') (p' := ⟨n', x.at', x.off⟩) HXI.out (by decide) rfl HBG.out
          have hi2 : ((movedTo f H i).set i ⟨n', x.at', x.off⟩)[i]? = some ⟨n', x.at', x.off⟩ := by
            rw [List.getElem?_set_self (by rw [movedTo_len, HM.out]; omega)]
          have s2 := s1.set (f := 1) (v := .int .i64 a') (p' := ⟨n', a', x.off⟩) hi2 (by decide) rfl HBG.out
          rw [List.set_set, HOF.out, ← HMX.out, movedTo_next f HX.out, Nat.add_zero] at s2
          exact ⟨s2, (HMV5.setCell (p := ⟨g, i * 3, none⟩) (fun _ => HBG.out) (.int .i64 n')).setCell (p := ⟨g, i * 3 + 1, none⟩) (fun _ => HBG.out) (.int .i64 a')⟩)
        clear hgr5 HLV5 HMV5 hgr6 htk6 hx
        go_wp2_with fail
        go_roundw
        case rel => exact ⟨i + 1, by omega, by go_num, HF.out⟩
        case measure => simp [intOf]; omega
      · have hof : (x.off == 0) = false := beq_eq_false_iff_ne.2 hoff
        have HMX : Hid (moved f x = x) := qh (if_neg hoff)
        clear hoff
        go_wp2_with fail
        go_roundw
        case rel =>
          refine ⟨i + 1, by omega, by go_num, ?_, HMV.out⟩
          rw [← movedTo_next f HX.out, HMX.out]
          have e : (movedTo f H i).set i x = movedTo f H i := by
            obtain ⟨h1, h2⟩ := List.getElem?_eq_some_iff.1 HXI.out
            rw [← h2]; exact List.set_getElem_self h1
          rw [e]
          exact HLV.out
        case measure => simp [intOf]; omega
    · have hie : i = m := by omega
      have e0 : decide ((i : Int) < (m : Int)) = false := decide_eq_false (by omega)
      have e0n : decide (i < m) = false := decide_eq_false hlt
      have HF : Hid (LiveAt wr own ptr lb tb T (.slice a1 H.length cap1) hb (H.map (moved f))) := qh (by have h9 := HLV.out; rw [hie, ← HM.out, movedTo_all] at h9; exact h9)
      clear hie hlt hlv hmv
      go_wp2_with fail
      go_end0
      exact ⟨rfl, HF.out, HMV.out⟩
end
def okP (n a : Int) : Prop := okI n ∧ okI a
theorem byGraft {w : World} {hb : Option Nat} {b0 b1 : Nat} (p q : Int) (o0 : okI p) (o1 : okI q) (h0 : w.heap[b0]? = some (.cells #[.int .i64 p] 3 (0, 0))) (g0 : hb ≠ some b0) (h1 : w.heap[b1]? = some (.cells #[.int .i64 q] 3 (0, 0))) (g1 : hb ≠ some b1) :
    ByIs w hb (.func (.func 142) #[] #[.pointer (some ⟨b0, 0, none⟩), .pointer (some ⟨b1, 0, none⟩)]) okP (fun n a => (n, insA n a p q 1)) := by
  refine ⟨_, _, rfl, enters_of Tryz.func142 (by kernel_rfl) rfl, fun W n a hm hP => ?_⟩
  show Calls Tryz.prog 142 #[pl n a, .pointer (some ⟨b0, 0, none⟩), .pointer (some ⟨b1, 0, none⟩)] W _
  have xa := (Ext.refl W).alloc (.cells #[.int .i64 n, .int .i64 a] 53)
  have hba := heap_alloc_new W (.cells #[.int .i64 n, .int .i64 a] 53)
  obtain ⟨wa, hwa⟩ : ∃ V : World, V = W.alloc (.cells #[.int .i64 n, .int .i64 a] 53) := ⟨_, rfl⟩
  have hsz : wa.heap.size = W.heap.size + 1 := by rw [hwa]; simp
  rw [← hwa] at xa hba
  have xb := (Ext.refl wa).alloc (.cells #[.int .i64 0, .int .i64 0] 53)
  have hbb := heap_alloc_new wa (.cells #[.int .i64 0, .int .i64 0] 53)
  have hab := xb.block hba
  obtain ⟨wb, hwb⟩ : ∃ V : World, V = wa.alloc (.cells #[.int .i64 0, .int .i64 0] 53) := ⟨_, rfl⟩
  rw [← hwb] at xb hbb hab
  have c0 := cellOf hab (i := 0) (v := .int .i64 n) rfl
  have c1 := cellOf hab (i := 1) (v := .int .i64 a) rfl
  have e0 := (xa.trans xb).cell (cellOf (hm.block h0 g0) (i := 0) (v := .int .i64 p) rfl)
  have e1 := (xa.trans xb).cell (cellOf (hm.block h1 g1) (i := 0) (v := .int .i64 q) rfl)
  have HC := qh (inserted_any n a p q 1 wb hP.1 hP.2 o0 o1 (by unfold okI; omega))
  have XB := qh (xa.trans xb)
  have HBB := qh hbb
  have HWA := qh hwa
  have HWB := qh hwb
  have HSZ := qh hsz
  clear xa xb hba hbb hab hwa hwb hm hsz
  go_enter Tryz.func142, Tryz.ntmps142
  go_upto_region 1 with fail
  rw [← HWA.out, ← HWB.out]
  obtain ⟨gb, hgb⟩ : ∃ g, wa.heap.size = g := ⟨_, rfl⟩
  have HGB := qh hgb
  have hg2 : W.heap.size + 1 = gb := by rw [← hgb, HSZ.out]
  first | rw [hgb] | rw [hg2]
  rw [hgb] at HBB
  clear hgb hg2
  go_wp2_with (go_at_call 125; refine HC.out.mono ?_)
  rintro e w2 ⟨rfl, x2⟩
  obtain ⟨a', ha'⟩ : ∃ z, insA n a p q 1 = z := ⟨_, rfl⟩
  rw [ha']
  have HA2 := qh ha'
  have hb2 := x2.block HBB.out
  have k0 := cellOf hb2 (i := 0) rfl
  have k1 := cellOf hb2 (i := 1) rfl
  have f0 := freeOf hb2 0
  have f1 := freeOf hb2 1
  have B3 : ((w2.setCell ⟨gb, 0, none⟩ (.int .i64 n)).setCell ⟨gb, 1, none⟩ (.int .i64 a')).heap[gb]? = some (.cells #[.int .i64 n, .int .i64 a'] 53 (0, 0)) := heap_setCell_same (i := 1) (heap_setCell_same (i := 0) hb2 (.int .i64 n)) (.int .i64 a')
  have HLV := qh (run_loadVar_row (P := Tryz.prog) _ gb 53 53 _ (0, 0) _ B3 Tryz.underlying53 rfl (by kernel_rfl))
  have hgt : W.heap.size ≤ gb := by have h1 := HGB.out; have h2 := HSZ.out; omega
  have XF := qh (((XB.out.trans x2).setCell (p := ⟨gb, 0, none⟩) hgt (.int .i64 n)).setCell (p := ⟨gb, 1, none⟩) hgt (.int .i64 a'))
  clear x2 hb2 B3 c0 c1 ha' hgt
  go_wp2_with fail
  have hlv := HLV.out
  refine bodyPost_ret (v := pl n a') (by simp [results, Tryz.results142, asAddr, hlv]) rfl ?_
  exact ⟨by show Ending.returned (pl n a') = Ending.returned (pl n (insA n a p q 1)); rw [HA2.out], XF.out⟩
theorem byInsert {w : World} {hb : Option Nat} {b0 b1 : Nat} (p q : Int) (o0 : okI p) (o1 : okI q) (h0 : w.heap[b0]? = some (.cells #[.int .i64 p] 3 (0, 0))) (g0 : hb ≠ some b0) (h1 : w.heap[b1]? = some (.cells #[.int .i64 q] 3 (0, 0))) (g1 : hb ≠ some b1) :
    ByIs w hb (.func (.func 124) #[] #[.pointer (some ⟨b0, 0, none⟩), .pointer (some ⟨b1, 0, none⟩)]) okP (fun n a => (n, insA n a p q 1)) := by
  refine ⟨_, _, rfl, enters_of Tryz.func124 (by kernel_rfl) rfl, fun W n a hm hP => ?_⟩
  show Calls Tryz.prog 124 #[pl n a, .pointer (some ⟨b0, 0, none⟩), .pointer (some ⟨b1, 0, none⟩)] W _
  have xa := (Ext.refl W).alloc (.cells #[.int .i64 n, .int .i64 a] 53)
  have hba := heap_alloc_new W (.cells #[.int .i64 n, .int .i64 a] 53)
  obtain ⟨wa, hwa⟩ : ∃ V : World, V = W.alloc (.cells #[.int .i64 n, .int .i64 a] 53) := ⟨_, rfl⟩
  have hsz : wa.heap.size = W.heap.size + 1 := by rw [hwa]; simp
  rw [← hwa] at xa hba
  have xb := (Ext.refl wa).alloc (.cells #[.int .i64 0, .int .i64 0] 53)
  have hbb := heap_alloc_new wa (.cells #[.int .i64 0, .int .i64 0] 53)
  have hab := xb.block hba
  obtain ⟨wb, hwb⟩ : ∃ V : World, V = wa.alloc (.cells #[.int .i64 0, .int .i64 0] 53) := ⟨_, rfl⟩
  rw [← hwb] at xb hbb hab
  have c0 := cellOf hab (i := 0) (v := .int .i64 n) rfl
  have c1 := cellOf hab (i := 1) (v := .int .i64 a) rfl
  have e0 := (xa.trans xb).cell (cellOf (hm.block h0 g0) (i := 0) (v := .int .i64 p) rfl)
  have e1 := (xa.trans xb).cell (cellOf (hm.block h1 g1) (i := 0) (v := .int .i64 q) rfl)
  have HC := qh (inserted_any n a p q 1 wb hP.1 hP.2 o0 o1 (by unfold okI; omega))
  have XB := qh (xa.trans xb)
  have HBB := qh hbb
  have HWA := qh hwa
  have HWB := qh hwb
  have HSZ := qh hsz
  clear xa xb hba hbb hab hwa hwb hm hsz
  go_enter Tryz.func124, Tryz.ntmps124
  go_upto_region 1 with fail
  rw [← HWA.out, ← HWB.out]
  obtain ⟨gb, hgb⟩ : ∃ g, wa.heap.size = g := ⟨_, rfl⟩
  have HGB := qh hgb
  have hg2 : W.heap.size + 1 = gb := by rw [← hgb, HSZ.out]
  first | rw [hgb] | rw [hg2]
  rw [hgb] at HBB
  clear hgb hg2
  go_wp2_with (go_at_call 125; refine HC.out.mono ?_)
  rintro e w2 ⟨rfl, x2⟩
  obtain ⟨a', ha'⟩ : ∃ z, insA n a p q 1 = z := ⟨_, rfl⟩
  rw [ha']
  have HA2 := qh ha'
  have hb2 := x2.block HBB.out
  have k0 := cellOf hb2 (i := 0) rfl
  have k1 := cellOf hb2 (i := 1) rfl
  have f0 := freeOf hb2 0
  have f1 := freeOf hb2 1
  have B3 : ((w2.setCell ⟨gb, 0, none⟩ (.int .i64 n)).setCell ⟨gb, 1, none⟩ (.int .i64 a')).heap[gb]? = some (.cells #[.int .i64 n, .int .i64 a'] 53 (0, 0)) := heap_setCell_same (i := 1) (heap_setCell_same (i := 0) hb2 (.int .i64 n)) (.int .i64 a')
  have HLV := qh (run_loadVar_row (P := Tryz.prog) _ gb 53 53 _ (0, 0) _ B3 Tryz.underlying53 rfl (by kernel_rfl))
  have hgt : W.heap.size ≤ gb := by have h1 := HGB.out; have h2 := HSZ.out; omega
  have XF := qh (((XB.out.trans x2).setCell (p := ⟨gb, 0, none⟩) hgt (.int .i64 n)).setCell (p := ⟨gb, 1, none⟩) hgt (.int .i64 a'))
  clear x2 hb2 B3 c0 c1 ha' hgt
  go_wp2_with fail
  have hlv := HLV.out
  refine bodyPost_ret (v := pl n a') (by simp [results, Tryz.results124, asAddr, hlv]) rfl ?_
  exact ⟨by show Ending.returned (pl n a') = Ending.returned (pl n (insA n a p q 1)); rw [HA2.out], XF.out⟩
theorem byReplace {w : World} {hb : Option Nat} {b0 b1 b2 b3 : Nat} (p q c m : Int) (o0 : okI p) (o1 : okI q) (o2 : okI c) (o3 : okI m) (h0 : w.heap[b0]? = some (.cells #[.int .i64 p] 3 (0, 0))) (g0 : hb ≠ some b0) (h1 : w.heap[b1]? = some (.cells #[.int .i64 q] 3 (0, 0))) (g1 : hb ≠ some b1) (h2 : w.heap[b2]? = some (.cells #[.int .i64 c] 3 (0, 0))) (g2 : hb ≠ some b2) (h3 : w.heap[b3]? = some (.cells #[.int .i64 m] 3 (0, 0))) (g3 : hb ≠ some b3) :
    ByIs w hb (.func (.func 160) #[] #[.pointer (some ⟨b0, 0, none⟩), .pointer (some ⟨b1, 0, none⟩), .pointer (some ⟨b2, 0, none⟩), .pointer (some ⟨b3, 0, none⟩)]) okP (fun n a => (n, repA n a p q c m)) := by
  refine ⟨_, _, rfl, enters_of Tryz.func160 (by kernel_rfl) rfl, fun W n a hm hP => ?_⟩
  show Calls Tryz.prog 160 #[pl n a, .pointer (some ⟨b0, 0, none⟩), .pointer (some ⟨b1, 0, none⟩), .pointer (some ⟨b2, 0, none⟩), .pointer (some ⟨b3, 0, none⟩)] W _
  have xa := (Ext.refl W).alloc (.cells #[.int .i64 n, .int .i64 a] 53)
  have hba := heap_alloc_new W (.cells #[.int .i64 n, .int .i64 a] 53)
  obtain ⟨wa, hwa⟩ : ∃ V : World, V = W.alloc (.cells #[.int .i64 n, .int .i64 a] 53) := ⟨_, rfl⟩
  have hsz : wa.heap.size = W.heap.size + 1 := by rw [hwa]; simp
  rw [← hwa] at xa hba
  have xb := (Ext.refl wa).alloc (.cells #[.int .i64 0, .int .i64 0] 53)
  have hbb := heap_alloc_new wa (.cells #[.int .i64 0, .int .i64 0] 53)
  have hab := xb.block hba
  obtain ⟨wb, hwb⟩ : ∃ V : World, V = wa.alloc (.cells #[.int .i64 0, .int .i64 0] 53) := ⟨_, rfl⟩
  rw [← hwb] at xb hbb hab
  have c0 := cellOf hab (i := 0) (v := .int .i64 n) rfl
  have c1 := cellOf hab (i := 1) (v := .int .i64 a) rfl
  have e0 := (xa.trans xb).cell (cellOf (hm.block h0 g0) (i := 0) (v := .int .i64 p) rfl)
  have e1 := (xa.trans xb).cell (cellOf (hm.block h1 g1) (i := 0) (v := .int .i64 q) rfl)
  have e2 := (xa.trans xb).cell (cellOf (hm.block h2 g2) (i := 0) (v := .int .i64 c) rfl)
  have e3 := (xa.trans xb).cell (cellOf (hm.block h3 g3) (i := 0) (v := .int .i64 m) rfl)
  have HC := qh (replaced_any n a p q c m wb hP.1 hP.2 o0 o1 o2 o3)
  have XB := qh (xa.trans xb)
  have HBB := qh hbb
  have HWA := qh hwa
  have HWB := qh hwb
  have HSZ := qh hsz
  clear xa xb hba hbb hab hwa hwb hm hsz
  go_enter Tryz.func160, Tryz.ntmps160
  go_upto_region 1 with fail
  rw [← HWA.out, ← HWB.out]
  obtain ⟨gb, hgb⟩ : ∃ g, wa.heap.size = g := ⟨_, rfl⟩
  have HGB := qh hgb
  have hg2 : W.heap.size + 1 = gb := by rw [← hgb, HSZ.out]
  first | rw [hgb] | rw [hg2]
  rw [hgb] at HBB
  clear hgb hg2
  go_wp2_with (go_at_call 161; refine HC.out.mono ?_)
  rintro e w2 ⟨rfl, x2⟩
  obtain ⟨a', ha'⟩ : ∃ z, repA n a p q c m = z := ⟨_, rfl⟩
  rw [ha']
  have HA2 := qh ha'
  have hb2 := x2.block HBB.out
  have k0 := cellOf hb2 (i := 0) rfl
  have k1 := cellOf hb2 (i := 1) rfl
  have f0 := freeOf hb2 0
  have f1 := freeOf hb2 1
  have B3 : ((w2.setCell ⟨gb, 0, none⟩ (.int .i64 n)).setCell ⟨gb, 1, none⟩ (.int .i64 a')).heap[gb]? = some (.cells #[.int .i64 n, .int .i64 a'] 53 (0, 0)) := heap_setCell_same (i := 1) (heap_setCell_same (i := 0) hb2 (.int .i64 n)) (.int .i64 a')
  have HLV := qh (run_loadVar_row (P := Tryz.prog) _ gb 53 53 _ (0, 0) _ B3 Tryz.underlying53 rfl (by kernel_rfl))
  have hgt : W.heap.size ≤ gb := by have h1 := HGB.out; have h2 := HSZ.out; omega
  have XF := qh (((XB.out.trans x2).setCell (p := ⟨gb, 0, none⟩) hgt (.int .i64 n)).setCell (p := ⟨gb, 1, none⟩) hgt (.int .i64 a'))
  clear x2 hb2 B3 c0 c1 ha' hgt
  go_wp2_with fail
  have hlv := HLV.out
  refine bodyPost_ret (v := pl n a') (by simp [results, Tryz.results160, asAddr, hlv]) rfl ?_
  exact ⟨by show Ending.returned (pl n a') = Ending.returned (pl n (repA n a p q c m)); rw [HA2.out], XF.out⟩
theorem LStep.move {own : Ow} {lb : Nat} {hb : Option Nat} {w w' : World} (h : Mv (fun b => hb = some b) w w') : LStep own lb hb w own hb w' := ⟨h.imp fun _ _ h => .inr (.inr h), fun _ _ => rfl, fun _ h => .inl h⟩
def insP (p q m : Int) : Int → Int → Int × Int := fun n a => (n, insA n a p q m)
def repP (p q c m : Int) : Int → Int → Int × Int := fun n a => (n, repA n a p q c m)
def movedIf (er : Int) (f : Int → Int → Int × Int) (H : List Hd) : List Hd := if er = 0 then H.map (moved f) else H
def okH (H : List Hd) : Prop := ∀ x ∈ H, x.off = 0 → okP x.node x.at'
section
variable {w : World} {own : Ow} {ptr : Nat → Nat} {lb tb : Nat} {T : Tr} {hv : Value} {hb : Option Nat} {H : List Hd}
def LTwo (own : Ow) (lb tb : Nat) (hb : Option Nat) (w : World) (i er : Int) (T' : Tr) (H' : List Hd) (e : Ending) (w' : World) : Prop := e = .returned (.tuple #[.int .i64 i, .int .i64 er]) ∧ LAfter own lb tb hb w T' H' w'
def LErr (own : Ow) (lb tb : Nat) (hb : Option Nat) (w : World) (er : Int) (T' : Tr) (H' : List Hd) (e : Ending) (w' : World) : Prop := e = .returned (.int .i64 er) ∧ LAfter own lb tb hb w T' H' w'
theorem LiveAt.new_own (h : LiveAt w own ptr lb tb T hv hb H) {b : Nat} (hbz : w.heap.size ≤ b) : own b = none ∧ b ≠ lb ∧ hb ≠ some b :=
  ⟨Decidable.byContradiction fun hn => by have := h.ownd b hn; omega, fun e => by have := h.lt; omega, fun e => by have := (h.nrow b e).2.2; omega⟩
theorem lGraft_any (h : LiveAt w own ptr lb tb T hv hb H) (hl : H.length ≤ 100000) (p q : Int) (v0 v1 v2 v3 : Value) {i er : Int} {T' : Tr}
    (hd : ∀ W, Ext w W → Calls Tryz.prog 141 #[.pointer (some ⟨tb, 0, none⟩), .int .i64 p, .int .i64 q, .agg #[v0, v1, v2, v3]] W (fun e w' => e = .returned (.tuple #[.int .i64 i, .int .i64 er]) ∧ After own W tb T' w'))
    (h1 : v0.oneCell' = true ∧ v1.oneCell' = true ∧ v2.oneCell' = true ∧ v3.oneCell' = true) (hP : er = 0 → okI p ∧ okI q ∧ okH H) :
    Calls Tryz.prog 83 #[.pointer (some ⟨lb, 0, none⟩), .int .i64 p, .int .i64 q, .agg #[v0, v1, v2, v3]] w (LTwo own lb tb hb w i er T' (movedIf er (insP p q 1) H)) := by
  have xa := (Ext.refl w).alloc (.cells #[.int .i64 p] 3)
  have ha := heap_alloc_new w (.cells #[.int .i64 p] 3)
  obtain ⟨wa, hwa⟩ : ∃ W : World, W = w.alloc (.cells #[.int .i64 p] 3) := ⟨_, rfl⟩
  have sa : wa.heap.size = w.heap.size + 1 := by rw [hwa]; simp
  rw [← hwa] at xa ha
  have xb := (Ext.refl wa).alloc (.cells #[.int .i64 q] 3)
  have hbq := heap_alloc_new wa (.cells #[.int .i64 q] 3)
  obtain ⟨wb, hwb⟩ : ∃ W : World, W = wa.alloc (.cells #[.int .i64 q] 3) := ⟨_, rfl⟩
  have sb : wb.heap.size = wa.heap.size + 1 := by rw [hwb]; simp
  rw [← hwb] at xb hbq
  have xc := (Ext.refl wb).alloc (.cells #[v0, v1, v2, v3] 34)
  have hc := heap_alloc_new wb (.cells #[v0, v1, v2, v3] 34)
  obtain ⟨wc, hwc⟩ : ∃ W : World, W = wb.alloc (.cells #[v0, v1, v2, v3] 34) := ⟨_, rfl⟩
  rw [← hwc] at xc hc
  have HP := qh (xc.block (xb.block ha))
  have HQ := qh (xc.block hbq)
  have HCN := qh hc
  obtain ⟨bp, hbp⟩ : ∃ b, w.heap.size = b := ⟨_, rfl⟩
  obtain ⟨bq, hbq2⟩ : ∃ b, wa.heap.size = b := ⟨_, rfl⟩
  obtain ⟨bn, hbn⟩ : ∃ b, wb.heap.size = b := ⟨_, rfl⟩
  have hq2 : bp + 1 = bq := by omega
  have hn2 : bp + 1 + 1 = bn := by omega
  rw [hbp] at HP
  rw [hbq2] at HQ
  rw [hbn] at HCN
  have XC := qh ((xa.trans xb).trans xc)
  have HH := qh h
  have HD := qh hd
  have HPP := qh hP
  have HL := qh hl
  have HWA := qh hwa
  have HWB := qh hwb
  have HWC := qh hwc
  have HBP := qh hbp
  have HBQ := qh (And.intro hbq2 hq2)
  have HBN := qh (And.intro hbn hn2)
  have NP := qh (h.new_own (b := bp) (by omega))
  have NQ := qh (h.new_own (b := bq) (by omega))
  have hmf : ∀ (fn : Fn) (first cap : Array Value) (w : World), (Instr.makeFunc fn first cap).run Tryz.prog w = .ok (.func fn first cap) w := fun _ _ _ _ => rfl
  obtain ⟨o0, o1, o2, o3⟩ := h1
  have HNN := qh (fun W (x : Ext w W) => none_some (h.ext x).ptr_)
  clear h hd hP hl xa ha hwa sa xb hbq hwb sb xc hc hwc hbp hbq2 hbn hq2 hn2
  go_enter Tryz.func83, Tryz.ntmps83
  go_upto_region 1 with fail
  rw [← HWA.out, ← HWB.out, ← HWC.out, HBP.out]
  first | rw [HBQ.out.1, HBN.out.1] | rw [HBN.out.2, HBQ.out.2]
  go_upto_region 3 with (go_at_call 89; refine (HNN.out _ XC.out).mono ?_; rintro e w' ⟨rfl, rfl⟩)
  have r0 : ∀ u : ExtOf wc, u.val.cell? ⟨lb, 0, none⟩ = some (.pointer (some ⟨tb, 0, none⟩)) := fun u => u.ext.cell (HH.out.ext XC.out).ptr_
  have r1 : ∀ u : ExtOf wc, u.val.cell? ⟨bp, 0, none⟩ = some (.int .i64 p) := fun u => u.ext.cell (cellOf HP.out rfl)
  have r2 : ∀ u : ExtOf wc, u.val.cell? ⟨bq, 0, none⟩ = some (.int .i64 q) := fun u => u.ext.cell (cellOf HQ.out rfl)
  have r3 : ∀ u : ExtOf wc, u.val.cell? ⟨bn, 0, none⟩ = some v0 := fun u => u.ext.cell (cellOf HCN.out rfl)
  have r4 : ∀ u : ExtOf wc, u.val.cell? ⟨bn, 1, none⟩ = some v1 := fun u => u.ext.cell (cellOf HCN.out rfl)
  have r5 : ∀ u : ExtOf wc, u.val.cell? ⟨bn, 2, none⟩ = some v2 := fun u => u.ext.cell (cellOf HCN.out rfl)
  have r6 : ∀ u : ExtOf wc, u.val.cell? ⟨bn, 3, none⟩ = some v3 := fun u => u.ext.cell (cellOf HCN.out rfl)
  refine wp_region_ext_mid 7 _ rfl (by kernel_rfl) (by kernel_rfl) ?_
  simp only [List.take_succ_cons, List.take_zero, List.drop_succ_cons, List.drop_zero]
  repeat (go_big_quiet_step (fail))
  refine wpQuiet_nil ?_
  rintro _ ⟨u, rfl⟩ K hK
  have HK := qh hK
  have hx := u.ext
  obtain ⟨w5, hw5⟩ : ∃ W, u.val = W := ⟨_, rfl⟩
  rw [hw5] at hx ⊢
  clear r0 r1 r2 r3 r4 r5 r6 hw5 hK
  clear u
  have X5 := qh (XC.out.trans hx)
  have HP5 := qh (hx.block HP.out)
  have HQ5 := qh (hx.block HQ.out)
  clear hx
  go_simp
  go_at_call 141
  refine (HD.out _ X5.out).mono ?_
  rintro e w6 ⟨rfl, ha⟩
  obtain ⟨own', ptr', hT6, hS6, hst⟩ := (HH.out.ext X5.out).after ha
  have HP6 := qh (hst.mv.block HP5.out (fun hn => hn NP.out.1))
  have HQ6 := qh (hst.mv.block HQ5.out (fun hn => hn NQ.out.1))
  have HT6 := qh hT6
  have HS6 := qh (((LStep.refl own lb hb w).ext X5.out).trans hS6)
  clear ha hT6 hS6 hst
  refine HK.out _ _ ?_
  clear HK K
  repeat (go_big_quiet_step (fail))
  refine wpQuiet_nil ?_
  rintro _ ⟨u, rfl⟩
  have HT6 := qh (HT6.out.ext u.ext)
  have HS6 := qh (HS6.out.ext u.ext)
  have HP6 := qh (u.ext.block HP6.out)
  have HQ6 := qh (u.ext.block HQ6.out)
  by_cases her : er = 0
  · subst her
    obtain ⟨op, oq, oh⟩ := HPP.out rfl
    have HMV := qh (lMove_any HT6.out HL.out oh (byGraft p q op oq HP6.out NP.out.2.2 HQ6.out NQ.out.2.2))
    clear op oq oh
    go_wp2_with (go_at_call 123; refine HMV.out.mono ?_)
    rintro e w7 ⟨rfl, hT7, hm7⟩
    have HF : Hid (LAfter own lb tb hb w T' (H.map (moved (insP p q 1))) w7) := qh ⟨own', ptr', _, _, hT7, HS6.out.trans (LStep.move hm7)⟩
    clear hT7 hm7
    go_wp2_with fail
    go_ret2
    exact ⟨rfl, by unfold movedIf; rw [if_pos rfl]; exact HF.out⟩
  · have e0 : (er == 0) = false := beq_eq_false_iff_ne.2 her
    have HE := qh her
    clear her
    go_wp2_with fail
    go_ret2
    exact ⟨rfl, by unfold movedIf; rw [if_neg HE.out]; exact ⟨own', ptr', _, _, HT6.out, HS6.out⟩⟩
end
theorem run_toRunes (s : ByteArray) (hs : s.size ≤ 1000000) (w : World) : ∃ (K : Nat) (C : Array Value), (convert 9 84 (.string s)).run Tryz.prog w = .ok (.slice (some ⟨w.heap.size, 0, none⟩) (runeList s s.size 0).length K) (w.drew.alloc (.cells C 21)) ∧
    (runeList s s.size 0).length ≤ K ∧ ∀ (j : Nat) (z : Int), (runeList s s.size 0)[j]? = some z → C[j]? = some (Value.int .i32 z) := by
  have h1 := run_runes_of_string (P := Tryz.prog) w 9 84 21 s Tryz.underlying9 Tryz.underlying84 Tryz.underlying21 (by have := size_runesFrom s s.size 0 #[]; simp at this; omega)
  have e1 : Conv.runesFrom s s.size 0 #[] = ((runeList s s.size 0).map (Value.int .i32)).toArray := by rw [runesFrom_eq]; simp
  rw [e1] at h1
  simp only [List.size_toArray, List.length_map] at h1
  refine ⟨_, _, h1, grownCap_ge w _ 0 21, fun j z hj => ?_⟩
  have hjl := (List.getElem?_eq_some_iff.1 hj).1
  rw [Array.getElem?_append_left (by simpa using hjl)]
  simp [hj]
section
variable {w : World} {own : Ow} {ptr : Nat → Nat} {lb tb : Nat} {T : Tr} {hv : Value} {hb : Option Nat} {H : List Hd}
theorem lreplace_any (h : LiveAt w own ptr lb tb T hv hb H) (hl : H.length ≤ 100000) (p q c : Int) (s all : ByteArray) (hs : s.size ≤ 1000000) {er : Int} {T' : Tr}
    (hd : ∀ W, Ext w W → Calls Tryz.prog 159 #[.pointer (some ⟨tb, 0, none⟩), .int .i64 p, .string all] W (ErrAfter own W tb er T'))
    (hP : er = 0 → okI p ∧ okI q ∧ okI c ∧ okH H) :
    Calls Tryz.prog 121 #[.pointer (some ⟨lb, 0, none⟩), .int .i64 p, .int .i64 q, .int .i64 c, .string s, .string all] w (LErr own lb tb hb w er T' (movedIf er (repP p q c (runeList s s.size 0).length) H)) := by
  have xa := (Ext.refl w).alloc (.cells #[.int .i64 p] 3)
  have ha := heap_alloc_new w (.cells #[.int .i64 p] 3)
  obtain ⟨wa, hwa⟩ : ∃ W : World, W = w.alloc (.cells #[.int .i64 p] 3) := ⟨_, rfl⟩
  have sa : wa.heap.size = w.heap.size + 1 := by rw [hwa]; simp
  rw [← hwa] at xa ha
  have xb := (Ext.refl wa).alloc (.cells #[.int .i64 q] 3)
  have hbq := heap_alloc_new wa (.cells #[.int .i64 q] 3)
  obtain ⟨wb, hwb⟩ : ∃ W : World, W = wa.alloc (.cells #[.int .i64 q] 3) := ⟨_, rfl⟩
  have sb : wb.heap.size = wa.heap.size + 1 := by rw [hwb]; simp
  rw [← hwb] at xb hbq
  have xc := (Ext.refl wb).alloc (.cells #[.int .i64 c] 3)
  have hc := heap_alloc_new wb (.cells #[.int .i64 c] 3)
  obtain ⟨wc, hwc⟩ : ∃ W : World, W = wb.alloc (.cells #[.int .i64 c] 3) := ⟨_, rfl⟩
  rw [← hwc] at xc hc
  have HP := qh (xc.block (xb.block ha))
  have HQ := qh (xc.block hbq)
  have HCN := qh hc
  obtain ⟨bp, hbp⟩ : ∃ b, w.heap.size = b := ⟨_, rfl⟩
  obtain ⟨bq, hbq2⟩ : ∃ b, wa.heap.size = b := ⟨_, rfl⟩
  obtain ⟨bn, hbn⟩ : ∃ b, wb.heap.size = b := ⟨_, rfl⟩
  have hq2 : bp + 1 = bq := by omega
  have hn2 : bp + 1 + 1 = bn := by omega
  rw [hbp] at HP
  rw [hbq2] at HQ
  rw [hbn] at HCN
  have XC := qh ((xa.trans xb).trans xc)
  have HH := qh h
  have HD := qh hd
  have HPP := qh hP
  have HL := qh hl
  have HS := qh hs
  have HWA := qh hwa
  have HWB := qh hwb
  have HWC := qh hwc
  have HBP := qh hbp
  have HBQ := qh (And.intro hbq2 hq2)
  have HBN := qh (And.intro hbn hn2)
  have NP := qh (h.new_own (b := bp) (by omega))
  have NQ := qh (h.new_own (b := bq) (by omega))
  have NN := qh (h.new_own (b := bn) (by omega))
  have hmf : ∀ (fn : Fn) (first cap : Array Value) (w : World), (Instr.makeFunc fn first cap).run Tryz.prog w = .ok (.func fn first cap) w := fun _ _ _ _ => rfl
  obtain ⟨m, hm⟩ : ∃ m, (runeList s s.size 0).length = m := ⟨_, rfl⟩
  rw [hm]
  have HM := qh hm
  have hm2 : m ≤ 1000000 := by have := runeList_len s s.size 0; omega
  have HM2 := qh hm2
  clear h hd hP hl xa ha hwa sa xb hbq hwb sb xc hc hwc hbp hbq2 hbn hq2 hn2 hs hm hm2
  go_enter Tryz.func121, Tryz.ntmps121
  go_upto_region 1 with fail
  rw [← HWA.out, ← HWB.out, ← HWC.out, HBP.out]
  first | rw [HBQ.out.1, HBN.out.1] | rw [HBN.out.2, HBQ.out.2]
  have r0 : ∀ u : ExtOf wc, u.val.cell? ⟨lb, 0, none⟩ = some (.pointer (some ⟨tb, 0, none⟩)) := fun u => u.ext.cell (HH.out.ext XC.out).ptr_
  have r1 : ∀ u : ExtOf wc, u.val.cell? ⟨bp, 0, none⟩ = some (.int .i64 p) := fun u => u.ext.cell (cellOf HP.out rfl)
  refine wp_region_ext_mid 6 _ rfl (by kernel_rfl) (by kernel_rfl) ?_
  simp only [List.take_succ_cons, List.take_zero, List.drop_succ_cons, List.drop_zero]
  repeat (go_big_quiet_step (fail))
  refine wpQuiet_nil ?_
  rintro _ ⟨u, rfl⟩ K hK
  have HK := qh hK
  have hx := u.ext
  obtain ⟨w5, hw5⟩ : ∃ W, u.val = W := ⟨_, rfl⟩
  rw [hw5] at hx ⊢
  clear r0 r1 hw5 hK
  clear u
  have X5 := qh (XC.out.trans hx)
  have HP5 := qh (hx.block HP.out)
  have HQ5 := qh (hx.block HQ.out)
  have HN5 := qh (hx.block HCN.out)
  clear hx
  go_simp
  go_at_call 159
  refine (HD.out _ X5.out).mono ?_
  rintro e w6 ⟨rfl, ha⟩
  obtain ⟨own', ptr', hT6, hS6, hst⟩ := (HH.out.ext X5.out).after ha
  have HP6 := qh (hst.mv.block HP5.out (fun hn => hn NP.out.1))
  have HQ6 := qh (hst.mv.block HQ5.out (fun hn => hn NQ.out.1))
  have HN6 := qh (hst.mv.block HN5.out (fun hn => hn NN.out.1))
  have HT6 := qh hT6
  have HS6 := qh (((LStep.refl own lb hb w).ext X5.out).trans hS6)
  clear ha hT6 hS6 hst
  refine HK.out _ _ ?_
  clear HK K
  repeat (go_big_quiet_step (fail))
  refine wpQuiet_nil ?_
  rintro _ ⟨u, rfl⟩
  obtain ⟨w7, hw7⟩ : ∃ W, u.val = W := ⟨_, rfl⟩
  have hx := u.ext
  rw [hw7] at hx ⊢
  have HT6 := qh (HT6.out.ext hx)
  have HS6 := qh (HS6.out.ext hx)
  have HP6 := qh (hx.block HP6.out)
  have HQ6 := qh (hx.block HQ6.out)
  have HN6 := qh (hx.block HN6.out)
  clear hx hw7
  clear u
  by_cases her : er = 0
  · subst her
    obtain ⟨op, oq, oc, oh⟩ := HPP.out rfl
    have OP := qh (And.intro op (And.intro oq (And.intro oc oh)))
    obtain ⟨K1, C1, hcv, -, -⟩ := run_toRunes s HS.out w7
    rw [HM.out] at hcv
    have HCV := qh hcv
    clear op oq oc oh hcv
    go_wp2_with fail
    rw [HCV.out]
    have xd := ((Ext.refl w7).drew.alloc (.cells C1 21)).alloc (.cells #[.int .i64 (m : Int)] 3)
    have hd := heap_alloc_new (w7.drew.alloc (.cells C1 21)) (.cells #[.int .i64 (m : Int)] 3)
    have hdz : (w7.drew.alloc (.cells C1 21)).heap.size = w7.heap.size + 1 := by simp
    rw [hdz] at hd
    go_upto_region 4 with fail
    have xz : Ext w7 ((w7.alloc (.cells C1 21)).alloc (.cells #[.int .i64 (m : Int)] 3)).drew := (((Ext.refl w7).alloc _).alloc _).drew
    have hz : ((w7.alloc (.cells C1 21)).alloc (.cells #[.int .i64 (m : Int)] 3)).drew.heap[w7.heap.size + 1]? = some (.cells #[.int .i64 (m : Int)] 3 (0, 0)) := hd
    obtain ⟨wz, hwz⟩ : ∃ W : World, W = ((w7.alloc (.cells C1 21)).alloc (.cells #[.int .i64 (m : Int)] 3)).drew := ⟨_, rfl⟩
    rw [← hwz] at xz hz ⊢
    clear hwz xd hd hdz
    have hnz : hb ≠ some (w7.heap.size + 1) := fun e => by have := (HT6.out.nrow _ e).2.2; omega
    obtain ⟨bm, hbm⟩ : ∃ b, w7.heap.size + 1 = b := ⟨_, rfl⟩
    rw [hbm] at hz hnz ⊢
    have HMV := qh (lMove_any (HT6.out.ext xz) HL.out OP.out.2.2.2 (byReplace p q c (m : Int) OP.out.1 OP.out.2.1 OP.out.2.2.1 (by have := HM2.out; unfold okI; omega) (xz.block HP6.out) NP.out.2.2 (xz.block HQ6.out) NQ.out.2.2 (xz.block HN6.out) NN.out.2.2 hz hnz))
    have HSZ := qh (HS6.out.ext xz)
    clear xz hz hnz hbm
    go_wp2_with (go_at_call 123; refine HMV.out.mono ?_)
    rintro e w8 ⟨rfl, hT8, hm8⟩
    have HF : Hid (LAfter own lb tb hb w T' (H.map (moved (repP p q c (m : Int)))) w8) := qh ⟨own', ptr', _, _, hT8, HSZ.out.trans (LStep.move hm8)⟩
    clear hT8 hm8
    go_wp2_with fail
    go_ret
    exact ⟨rfl, by unfold movedIf; rw [if_pos rfl]; exact HF.out⟩
  · have e0 : (er == 0) = false := beq_eq_false_iff_ne.2 her
    have HE := qh her
    clear her
    go_wp2_with fail
    go_ret
    exact ⟨rfl, by unfold movedIf; rw [if_neg HE.out]; exact ⟨own', ptr', _, _, HT6.out, HS6.out⟩⟩
end
def remP (T : Tr) (id p q : Int) : Int → Int → Int × Int := fun n a => if T.win n id then (p, q) else (n, remA n a p q)
section
variable {w : World} {own : Ow} {ptr : Nat → Nat} {lb tb : Nat} {T : Tr} {hv : Value} {hb : Option Nat} {H : List Hd}
theorem removed_both (n a p q : Int) (b : Bool) (w : World) (hn : okI n) (ha : okI a) (hp : okI p) (hq : okI q) :
    Calls Tryz.prog 133 #[pl n a, .int .i64 p, .int .i64 q, .bool b] w (RPlace (if b then p else n) (if b then q else remA n a p q) w) := by
  cases b with
  | true => exact removed_in n a p q w hn ha hp hq
  | false => exact removed_any n a p q w hn ha hp hq
theorem byRemove (h : LiveAt w own ptr lb tb T hv hb H) {d : Nat → Nat} (hw : WF T d) {b0 b1 b2 b3 : Nat} (p q id : Int) (o0 : okI p) (o1 : okI q)
    (h0 : w.cell? ⟨b0, 0, none⟩ = some (.int .i64 p)) (g0 : hb ≠ some b0) (h1 : w.cell? ⟨b1, 0, none⟩ = some (.int .i64 q)) (g1 : hb ≠ some b1)
    (h2 : w.heap[b2]? = some (.cells #[.pointer (some ⟨lb, 0, none⟩)] 42 (0, 0))) (g2 : hb ≠ some b2) (h3 : w.heap[b3]? = some (.cells #[.int .i64 id] 3 (0, 0))) (g3 : hb ≠ some b3) :
    ByIs w hb (.func (.func 132) #[] #[.pointer (some ⟨b0, 0, none⟩), .pointer (some ⟨b1, 0, none⟩), .pointer (some ⟨b2, 0, none⟩), .pointer (some ⟨b3, 0, none⟩)]) okP (remP T id p q) := by
  refine ⟨_, _, rfl, enters_of Tryz.func132 (by kernel_rfl) rfl, fun W n a hm hP => ?_⟩
  show Calls Tryz.prog 132 #[pl n a, .pointer (some ⟨b0, 0, none⟩), .pointer (some ⟨b1, 0, none⟩), .pointer (some ⟨b2, 0, none⟩), .pointer (some ⟨b3, 0, none⟩)] W _
  have htree : TreeAt W own ptr tb T := h.tree.keep fun b hb' => hm.rest b (h.ownd b hb') (fun e => hb' (h.nrow b e).1)
  have howned : Owned own W := fun b hb' => Nat.lt_of_lt_of_le (h.ownd b hb') hm.size
  have hbox := hm.block h.box (fun e => (h.nrow lb e).2.1 rfl)
  have xa := (Ext.refl W).alloc (.cells #[.int .i64 n, .int .i64 a] 53)
  have hba := heap_alloc_new W (.cells #[.int .i64 n, .int .i64 a] 53)
  obtain ⟨wa, hwa⟩ : ∃ V : World, V = W.alloc (.cells #[.int .i64 n, .int .i64 a] 53) := ⟨_, rfl⟩
  have hsz : wa.heap.size = W.heap.size + 1 := by rw [hwa]; simp
  rw [← hwa] at xa hba
  have xb := (Ext.refl wa).alloc (.cells #[.int .i64 0, .int .i64 0] 53)
  have hbb := heap_alloc_new wa (.cells #[.int .i64 0, .int .i64 0] 53)
  have hab := xb.block hba
  obtain ⟨wb, hwb⟩ : ∃ V : World, V = wa.alloc (.cells #[.int .i64 0, .int .i64 0] 53) := ⟨_, rfl⟩
  rw [← hwb] at xb hbb hab
  have x02 := xa.trans xb
  obtain ⟨ga, hga⟩ : ∃ g, W.heap.size = g := ⟨_, rfl⟩
  rw [hga] at hab
  have HWI := qh (fun u : ExtOf wb => inExt (u := u) (Within_any (⟨own, ptr, htree.keep ((x02.trans u.ext).keep howned), fun b hb' => Nat.lt_of_lt_of_le (howned b hb') (x02.trans u.ext).size⟩ : TAt u.val tb T) hw n id))
  obtain ⟨bb, hbbe⟩ : ∃ b, T.win n id = b := ⟨_, rfl⟩
  rw [hbbe] at HWI
  have HRM := qh (fun u : ExtOf wb => inExt (u := u) (removed_both n a p q bb u.val hP.1 hP.2 o0 o1))
  have HFV : Hid (remP T id p q n a = (if bb then p else n, if bb then q else remA n a p q)) := qh (by unfold remP; rw [hbbe]; cases bb <;> rfl)
  obtain ⟨n', hn'⟩ : ∃ z, (if bb then p else n) = z := ⟨_, rfl⟩
  obtain ⟨a', ha'⟩ : ∃ z, (if bb then q else remA n a p q) = z := ⟨_, rfl⟩
  rw [hn', ha'] at HRM HFV
  have r0 : ∀ u : ExtOf wb, u.val.cell? ⟨ga, 0, none⟩ = some (.int .i64 n) := fun u => u.ext.cell (cellOf hab rfl)
  have r1 : ∀ u : ExtOf wb, u.val.cell? ⟨ga, 1, none⟩ = some (.int .i64 a) := fun u => u.ext.cell (cellOf hab rfl)
  have r2 : ∀ u : ExtOf wb, u.val.cell? ⟨b0, 0, none⟩ = some (.int .i64 p) := fun u => (x02.trans u.ext).cell (hm.cell h0 g0)
  have r3 : ∀ u : ExtOf wb, u.val.cell? ⟨b1, 0, none⟩ = some (.int .i64 q) := fun u => (x02.trans u.ext).cell (hm.cell h1 g1)
  have r4 : ∀ u : ExtOf wb, u.val.cell? ⟨b2, 0, none⟩ = some (.pointer (some ⟨lb, 0, none⟩)) := fun u => (x02.trans u.ext).cell (cellOf (hm.block h2 g2) rfl)
  have r5 : ∀ u : ExtOf wb, u.val.cell? ⟨b3, 0, none⟩ = some (.int .i64 id) := fun u => (x02.trans u.ext).cell (cellOf (hm.block h3 g3) rfl)
  have r6 : ∀ u : ExtOf wb, u.val.cell? ⟨lb, 0, none⟩ = some (.pointer (some ⟨tb, 0, none⟩)) := fun u => (x02.trans u.ext).cell (cellOf hbox rfl)
  have XB := qh x02
  have HBB := qh hbb
  have HWA := qh hwa
  have HWB := qh hwb
  have HSZ := qh hsz
  have HGA := qh hga
  clear h hw h0 g0 h1 g1 h2 g2 h3 g3 hm hP htree howned hbox xa hba hwa hsz xb hbb hab hwb x02 hga hbbe hn' ha'
  go_enter Tryz.func132, Tryz.ntmps132
  go_upto_region 1 with fail
  rw [← HWA.out, ← HWB.out]
  obtain ⟨gb, hgb⟩ : ∃ g, wa.heap.size = g := ⟨_, rfl⟩
  have HGB := qh hgb
  have hg2 : ga + 1 = gb := by rw [← hgb, HSZ.out, HGA.out]
  have hg3 : W.heap.size + 1 = gb := by rw [← hgb, HSZ.out]
  rw [HGA.out]
  first | rw [hgb] | rw [hg2]
  rw [hgb] at HBB
  clear hgb hg2 hg3
  refine wp_region_ext_tail 12 (by kernel_rfl) (by kernel_rfl) ?_
  simp only [List.take_succ_cons, List.take_zero, List.drop_succ_cons, List.drop_zero]
  repeat (go_big_quiet_step ((first | (go_at_call 74; exact HWI.out _) | (go_at_call 133; exact HRM.out _))))
  refine wpQuiet_nil ?_
  rintro _ ⟨u, rfl⟩
  have x2 := u.ext
  obtain ⟨w2, hw2⟩ : ∃ V, u.val = V := ⟨_, rfl⟩
  rw [hw2] at x2 ⊢
  clear r0 r1 r2 r3 r4 r5 r6 hw2
  clear u
  have hb2 := x2.block HBB.out
  have k0 := cellOf hb2 (i := 0) rfl
  have k1 := cellOf hb2 (i := 1) rfl
  have f0 := freeOf hb2 0
  have f1 := freeOf hb2 1
  have B3 : ((w2.setCell ⟨gb, 0, none⟩ (.int .i64 n')).setCell ⟨gb, 1, none⟩ (.int .i64 a')).heap[gb]? = some (.cells #[.int .i64 n', .int .i64 a'] 53 (0, 0)) := heap_setCell_same (i := 1) (heap_setCell_same (i := 0) hb2 (.int .i64 n')) (.int .i64 a')
  have HLV := qh (run_loadVar_row (P := Tryz.prog) _ gb 53 53 _ (0, 0) _ B3 Tryz.underlying53 rfl (by kernel_rfl))
  have hgt : W.heap.size ≤ gb := by have h1 := HGB.out; have h2 := HSZ.out; omega
  have XF := qh (((XB.out.trans x2).setCell (p := ⟨gb, 0, none⟩) hgt (.int .i64 n')).setCell (p := ⟨gb, 1, none⟩) hgt (.int .i64 a'))
  clear x2 hb2 B3 hgt
  go_wp2_with fail
  have hlv := HLV.out
  refine bodyPost_ret (v := pl n' a') (by simp [results, Tryz.results132, asAddr, hlv]) rfl ?_
  exact ⟨by rw [HFV.out], XF.out⟩
end
theorem newCell1 (w : World) (v : Value) (t : TypeId) : (w.alloc (.cells #[v] t)).cell? ⟨w.heap.size, 0, none⟩ = some v := cellOf (heap_alloc_new w (.cells #[v] t)) rfl
theorem newCell2 (w : World) (v : Value) (t : TypeId) (o : Obj) : ((w.alloc (.cells #[v] t)).alloc o).cell? ⟨w.heap.size, 0, none⟩ = some v := ((Ext.refl _).alloc o).cell (newCell1 w v t)
theorem newCell3 (w : World) (v : Value) (t : TypeId) (o : Obj) : ((w.alloc o).alloc (.cells #[v] t)).cell? ⟨w.heap.size + 1, 0, none⟩ = some v := by
  have h := newCell1 (w.alloc o) v t
  rw [show (w.alloc o).heap.size = w.heap.size + 1 by simp] at h
  exact h
theorem newFree1 (w : World) (v : Value) (t : TypeId) : (w.alloc (.cells #[v] t)).frozen? ⟨w.heap.size, 0, none⟩ = false := freeOf (heap_alloc_new w (.cells #[v] t)) 0
theorem newFree2 (w : World) (v : Value) (t : TypeId) (o : Obj) : ((w.alloc (.cells #[v] t)).alloc o).frozen? ⟨w.heap.size, 0, none⟩ = false := ((Ext.refl _).alloc o).free (cell_lt (newCell1 w v t)) (newFree1 w v t)
theorem newFree3 (w : World) (v : Value) (t : TypeId) (o : Obj) : ((w.alloc o).alloc (.cells #[v] t)).frozen? ⟨w.heap.size + 1, 0, none⟩ = false := by
  have h := newFree1 (w.alloc o) v t
  rw [show (w.alloc o).heap.size = w.heap.size + 1 by simp] at h
  exact h
section
variable {w : World} {own : Ow} {ptr : Nat → Nat} {lb tb : Nat} {T : Tr} {hv : Value} {hb : Option Nat} {H : List Hd}
theorem lRemove_any (h : LiveAt w own ptr lb tb T hv hb H) (hl : H.length ≤ 100000) (id p q : Int) {er : Int} {T' : Tr} {d : Nat → Nat} (hw : WF T' d)
    (hp : ∀ W, Ext w W → Calls Tryz.prog 27 #[.pointer (some ⟨tb, 0, none⟩), .int .i64 id] W (RSame (.int .i64 p) W))
    (hq : ∀ W, Ext w W → Calls Tryz.prog 29 #[.pointer (some ⟨tb, 0, none⟩), .int .i64 id] W (RVal (.int .i64 q) W))
    (hd : ∀ W, Ext w W → Calls Tryz.prog 131 #[.pointer (some ⟨tb, 0, none⟩), .int .i64 id] W (ErrAfter own W tb er T'))
    (hP : er = 0 → okI p ∧ okI q ∧ okH H) :
    Calls Tryz.prog 70 #[.pointer (some ⟨lb, 0, none⟩), .int .i64 id] w (LErr own lb tb hb w er T' (movedIf er (remP T' id p q) H)) := by
  have xa := (Ext.refl w).alloc (.cells #[.pointer (some ⟨lb, 0, none⟩)] 42)
  have ha := heap_alloc_new w (.cells #[.pointer (some ⟨lb, 0, none⟩)] 42)
  obtain ⟨wa, hwa⟩ : ∃ W : World, W = w.alloc (.cells #[.pointer (some ⟨lb, 0, none⟩)] 42) := ⟨_, rfl⟩
  have sa : wa.heap.size = w.heap.size + 1 := by rw [hwa]; simp
  rw [← hwa] at xa ha
  have xb := (Ext.refl wa).alloc (.cells #[.int .i64 id] 3)
  have hbq := heap_alloc_new wa (.cells #[.int .i64 id] 3)
  obtain ⟨wb, hwb⟩ : ∃ W : World, W = wa.alloc (.cells #[.int .i64 id] 3) := ⟨_, rfl⟩
  rw [← hwb] at xb hbq
  have HB2 := qh (xb.block ha)
  have HB3 := qh hbq
  obtain ⟨b2, hb2⟩ : ∃ b, w.heap.size = b := ⟨_, rfl⟩
  obtain ⟨b3, hb3⟩ : ∃ b, wa.heap.size = b := ⟨_, rfl⟩
  have hq2 : b2 + 1 = b3 := by omega
  rw [hb2] at HB2
  rw [hb3] at HB3
  have XB := qh (xa.trans xb)
  have HH := qh h
  have HD := qh hd
  have HPP := qh hP
  have HL := qh hl
  have HPA := qh (fun (W : World) (x : Ext wb W) => hp W ((xa.trans xb).trans x))
  have HIX := qh (fun (W : World) (x : Ext wb W) => hq W ((xa.trans xb).trans x))
  have HW := qh hw
  have HWA := qh hwa
  have HWB := qh hwb
  have HB2E := qh hb2
  have HB3E := qh (And.intro hb3 hq2)
  have N2 := qh (h.new_own (b := b2) (by omega))
  have N3 := qh (h.new_own (b := b3) (by omega))
  have hmf : ∀ (fn : Fn) (first cap : Array Value) (w : World), (Instr.makeFunc fn first cap).run Tryz.prog w = .ok (.func fn first cap) w := fun _ _ _ _ => rfl
  have HNN := qh (none_some (h.ext (xa.trans xb)).ptr_)
  have c2 := cellOf HB2.out (i := 0) rfl
  have c3 := cellOf HB3.out (i := 0) rfl
  clear h hd hP hl hp hq hw xa ha hwa sa xb hbq hwb hb2 hb3 hq2
  go_enter Tryz.func70, Tryz.ntmps70
  go_upto_region 1 with fail
  rw [← HWA.out, ← HWB.out, HB2E.out]
  first | rw [HB3E.out.1] | rw [HB3E.out.2]
  go_upto_region 3 with (go_at_call 89; refine HNN.out.mono ?_; rintro e w' ⟨rfl, rfl⟩)
  have m0 := (HH.out.ext XB.out).ptr_
  have m2 := c2
  have m3 := c3
  clear c2 c3
  have n0 := cell_lt m0
  have n2 := cell_lt m2
  have n3 := cell_lt m3
  have q0 : lb ≠ wb.heap.size := by omega
  have q0' : lb ≠ wb.heap.size + 1 := by omega
  have q2 : b2 ≠ wb.heap.size := by omega
  have q2' : b2 ≠ wb.heap.size + 1 := by omega
  have q3 : b3 ≠ wb.heap.size := by omega
  have q3' : b3 ≠ wb.heap.size + 1 := by omega
  go_cut [5, 6] (fun x y wx => ∃ bx bY, x = .pointer (some ⟨bx, 0, none⟩) ∧ y = .pointer (some ⟨bY, 0, none⟩) ∧ wb.heap.size ≤ bx ∧ wb.heap.size ≤ bY ∧ Ext wb wx ∧ wx.cell? ⟨bx, 0, none⟩ = some (.int .i64 p) ∧ wx.cell? ⟨bY, 0, none⟩ = some (.int .i64 q))
  case first =>
    go_region_held3 (fun w' => w'.cell? ⟨lb, 0, none⟩ = some (.pointer (some ⟨tb, 0, none⟩)) ∧ w'.cell? ⟨b2, 0, none⟩ = some (.pointer (some ⟨lb, 0, none⟩)) ∧ w'.cell? ⟨b3, 0, none⟩ = some (.int .i64 id))
      (first | exact ⟨m0, m2, m3⟩ | exact ⟨hyI.cell m0, hyI.cell m2, hyI.cell m3⟩ | (refine ⟨Ext.cell ?_ m0, Ext.cell ?_ m2, Ext.cell ?_ m3⟩ <;> (repeat (first | exact hyI | exact Ext.refl _ | refine Ext.drew ?_ | refine Ext.alloc ?_ _ | refine Ext.setCell ?_ (by first | exact Nat.le_refl _ | exact Nat.le_succ _ | exact hyI.size | (have h9 := hyI.size; simp; omega) | (simp; done)) _))) | go_keep)
      (first
      | (go_at_call 27; refine (HPA.out _ (by first | exact hyI | exact Ext.refl _ | exact (Ext.refl _).drew | exact (Ext.refl _).drew.alloc _ | exact ((Ext.refl _).drew.alloc _).alloc _ | exact ((Ext.refl _).alloc _).drew | exact (((Ext.refl _).alloc _).alloc _).drew)).mono ?_; rintro e w5 ⟨rfl, rfl⟩)
      | (go_at_call 29; refine (HIX.out _ (by first | exact Ext.refl _ | exact (Ext.refl _).drew | exact (Ext.refl _).drew.alloc _ | exact ((Ext.refl _).drew.alloc _).alloc _ | exact ((Ext.refl _).alloc _).drew | exact (((Ext.refl _).alloc _).alloc _).drew)).mono ?_; rintro e w6 ⟨rfl, hxI⟩; have hyI : Ext wb w6 := (by refine Ext.trans ?_ hxI; first | exact (Ext.refl _).drew | exact ((Ext.refl _).alloc _).drew | exact (((Ext.refl _).alloc _).alloc _).drew | exact (Ext.refl _).drew.alloc _ | exact ((Ext.refl _).drew.alloc _).alloc _ | exact Ext.refl _); have hxI := Ext.undrew hxI; first | (have z0 : w6.cell? ⟨wb.heap.size, 0, none⟩ = some (.int .i64 0) := hxI.cell (newCell2 _ _ _ _); have z1 : w6.cell? ⟨wb.heap.size + 1, 0, none⟩ = some (.int .i64 0) := hxI.cell (newCell3 _ _ _ _); have f0 : w6.frozen? ⟨wb.heap.size, 0, none⟩ = false := hxI.free (cell_lt (newCell2 _ _ _ _)) (newFree2 _ _ _ _); have f1 : w6.frozen? ⟨wb.heap.size + 1, 0, none⟩ = false := hxI.free (cell_lt (newCell3 _ _ _ _)) (newFree3 _ _ _ _); have l9 := cell_lt z0; have n9 := Nat.ne_of_lt (cell_lt z0); have n8 := Ne.symm n9; have l7 := cell_lt z1; have n7 := Nat.ne_of_lt (cell_lt z1); have n6 := Ne.symm n7) | (have z0 : w6.cell? ⟨wb.heap.size, 0, none⟩ = some (.int .i64 0) := hxI.cell (newCell1 _ _ _); have f0 : w6.frozen? ⟨wb.heap.size, 0, none⟩ = false := hxI.free (cell_lt (newCell1 _ _ _)) (newFree1 _ _ _); have l9 := cell_lt z0; have n9 := Nat.ne_of_lt (cell_lt z0); have n8 := Ne.symm n9) | skip))
    all_goals go_wp2_with fail
    all_goals go_meet
    all_goals refine ⟨_, _, rfl, rfl, ?_, ?_, ?_, ?_, ?_⟩
    all_goals first
      | (have h9 := hyI.size; omega)
      | (simp [go_sem]; done)
      | (simp [go_sem, *]; done)
      | (simp [go_sem, *, World.cell?_setCell_far]; done)
      | (repeat (first | exact hyI | exact Ext.refl _ | refine Ext.drew ?_ | refine Ext.alloc ?_ _ | refine Ext.setCell ?_ (by first | exact Nat.le_refl _ | exact Nat.le_succ _ | exact hyI.size | (have h9 := hyI.size; simp; omega) | (simp; done)) _))
  case rest =>
    obtain ⟨bx, bY, rfl, rfl, hbx, hbY, xc, k1, k2⟩ := hcut
    have hwz := XB.out.size
    have NX := qh (HH.out.new_own (b := bx) (by omega))
    have NY := qh (HH.out.new_own (b := bY) (by omega))
    have XC := qh (XB.out.trans xc)
    have K1 := qh k1
    have K2 := qh k2
    have B2 := qh (xc.block HB2.out)
    have B3 := qh (xc.block HB3.out)
    have r0 : ∀ u : ExtOf wc, u.val.cell? ⟨lb, 0, none⟩ = some (.pointer (some ⟨tb, 0, none⟩)) := fun u => (xc.trans u.ext).cell m0
    have r1 : ∀ u : ExtOf wc, u.val.cell? ⟨b2, 0, none⟩ = some (.pointer (some ⟨lb, 0, none⟩)) := fun u => (xc.trans u.ext).cell m2
    have r2 : ∀ u : ExtOf wc, u.val.cell? ⟨b3, 0, none⟩ = some (.int .i64 id) := fun u => (xc.trans u.ext).cell m3
    clear m0 m2 m3 n0 n2 n3 q0 q0' q2 q2' q3 q3' xc k1 k2 hbx hbY hwz
    go_upto_region 4 with fail
    refine wp_region_ext_mid 5 _ rfl (by kernel_rfl) (by kernel_rfl) ?_
    simp only [List.take_succ_cons, List.take_zero, List.drop_succ_cons, List.drop_zero]
    repeat (go_big_quiet_step (fail))
    refine wpQuiet_nil ?_
    rintro _ ⟨u, rfl⟩ K hK
    have HK := qh hK
    have hx := u.ext
    obtain ⟨w5, hw5⟩ : ∃ W, u.val = W := ⟨_, rfl⟩
    rw [hw5] at hx ⊢
    clear r0 r1 r2 hw5 hK
    clear u
    have X5 := qh (XC.out.trans hx)
    have K1 := qh (hx.cell K1.out)
    have K2 := qh (hx.cell K2.out)
    have B2 := qh (hx.block B2.out)
    have B3 := qh (hx.block B3.out)
    clear hx
    go_simp
    go_at_call 131
    refine (HD.out _ X5.out).mono ?_
    rintro e w6 ⟨rfl, ha⟩
    obtain ⟨own', ptr', hT6, hS6, hst⟩ := (HH.out.ext X5.out).after ha
    have K1 := qh (hst.mv.cell K1.out (fun hn => hn NX.out.1))
    have K2 := qh (hst.mv.cell K2.out (fun hn => hn NY.out.1))
    have B2 := qh (hst.mv.block B2.out (fun hn => hn N2.out.1))
    have B3 := qh (hst.mv.block B3.out (fun hn => hn N3.out.1))
    have HT6 := qh hT6
    have HS6 := qh (((LStep.refl own lb hb w).ext X5.out).trans hS6)
    clear ha hT6 hS6 hst
    refine HK.out _ _ ?_
    clear HK K
    repeat (go_big_quiet_step (fail))
    refine wpQuiet_nil ?_
    rintro _ ⟨u, rfl⟩
    obtain ⟨w7, hw7⟩ : ∃ W, u.val = W := ⟨_, rfl⟩
    have hx := u.ext
    rw [hw7] at hx ⊢
    have HT6 := qh (HT6.out.ext hx)
    have HS6 := qh (HS6.out.ext hx)
    have K1 := qh (hx.cell K1.out)
    have K2 := qh (hx.cell K2.out)
    have B2 := qh (hx.block B2.out)
    have B3 := qh (hx.block B3.out)
    clear hx hw7
    clear u
    by_cases her : er = 0
    · subst her
      obtain ⟨op, oq, oh⟩ := HPP.out rfl
      have HMV := qh (lMove_any HT6.out HL.out oh (byRemove HT6.out HW.out p q id op oq K1.out NX.out.2.2 K2.out NY.out.2.2 B2.out N2.out.2.2 B3.out N3.out.2.2))
      have c2 := cellOf B2.out (i := 0) rfl
      clear op oq oh
      go_wp2_with (go_at_call 123; refine HMV.out.mono ?_)
      rintro e w8 ⟨rfl, hT8, hm8⟩
      have HF : Hid (LAfter own lb tb hb w T' (H.map (moved (remP T' id p q))) w8) := qh ⟨own', ptr', _, _, hT8, HS6.out.trans (LStep.move hm8)⟩
      clear hT8 hm8 c2
      go_wp2_with fail
      go_ret
      exact ⟨rfl, by unfold movedIf; rw [if_pos rfl]; exact HF.out⟩
    · have e0 : (er == 0) = false := beq_eq_false_iff_ne.2 her
      have HE := qh her
      clear her
      go_wp2_with fail
      go_ret
      exact ⟨rfl, by unfold movedIf; rw [if_neg HE.out]; exact ⟨own', ptr', _, _, HT6.out, HS6.out⟩⟩
end
section
variable {w : World} {own : Ow} {ptr : Nat → Nat} {lb tb : Nat} {T : Tr} {hv : Value} {hb : Option Nat} {H : List Hd}
theorem lInsert_any (h : LiveAt w own ptr lb tb T hv hb H) (hl : H.length ≤ 100000) (p q k : Int) {er : Int} {T' : Tr}
    (hd : ∀ W, Ext w W → Calls Tryz.prog 122 #[.pointer (some ⟨tb, 0, none⟩), .int .i64 p, .int .i64 q, .int .i64 k] W (ErrAfter own W tb er T'))
    (hP : er = 0 → okI p ∧ okI q ∧ okH H) :
    Calls Tryz.prog 54 #[.pointer (some ⟨lb, 0, none⟩), .int .i64 p, .int .i64 q, .int .i64 k] w (LErr own lb tb hb w er T' (movedIf er (insP p q 1) H)) := by
  have xa := (Ext.refl w).alloc (.cells #[.int .i64 p] 3)
  have ha := heap_alloc_new w (.cells #[.int .i64 p] 3)
  obtain ⟨wa, hwa⟩ : ∃ W : World, W = w.alloc (.cells #[.int .i64 p] 3) := ⟨_, rfl⟩
  have sa : wa.heap.size = w.heap.size + 1 := by rw [hwa]; simp
  rw [← hwa] at xa ha
  have xb := (Ext.refl wa).alloc (.cells #[.int .i64 q] 3)
  have hbq := heap_alloc_new wa (.cells #[.int .i64 q] 3)
  obtain ⟨wb, hwb⟩ : ∃ W : World, W = wa.alloc (.cells #[.int .i64 q] 3) := ⟨_, rfl⟩
  have sb : wb.heap.size = wa.heap.size + 1 := by rw [hwb]; simp
  rw [← hwb] at xb hbq
  have HP := qh (xb.block ha)
  have HQ := qh hbq
  obtain ⟨bp, hbp⟩ : ∃ b, w.heap.size = b := ⟨_, rfl⟩
  obtain ⟨bq, hbq2⟩ : ∃ b, wa.heap.size = b := ⟨_, rfl⟩
  have hq2 : bp + 1 = bq := by omega
  rw [hbp] at HP
  rw [hbq2] at HQ
  have XC := qh (xa.trans xb)
  have HH := qh h
  have HD := qh hd
  have HPP := qh hP
  have HL := qh hl
  have HWA := qh hwa
  have HWB := qh hwb
  have HBP := qh hbp
  have HBQ := qh (And.intro hbq2 hq2)
  have NP := qh (h.new_own (b := bp) (by omega))
  have NQ := qh (h.new_own (b := bq) (by omega))
  have hmf : ∀ (fn : Fn) (first cap : Array Value) (w : World), (Instr.makeFunc fn first cap).run Tryz.prog w = .ok (.func fn first cap) w := fun _ _ _ _ => rfl
  have HNN := qh (fun W (x : Ext w W) => none_some (h.ext x).ptr_)
  clear h hd hP hl xa ha hwa sa xb hbq hwb sb hbp hbq2 hq2
  go_enter Tryz.func54, Tryz.ntmps54
  go_upto_region 1 with fail
  rw [← HWA.out, ← HWB.out, HBP.out]
  first | rw [HBQ.out.1] | rw [HBQ.out.2]
  go_upto_region 3 with (go_at_call 89; refine (HNN.out _ XC.out).mono ?_; rintro e w' ⟨rfl, rfl⟩)
  have r0 : ∀ u : ExtOf wb, u.val.cell? ⟨lb, 0, none⟩ = some (.pointer (some ⟨tb, 0, none⟩)) := fun u => u.ext.cell (HH.out.ext XC.out).ptr_
  have r1 : ∀ u : ExtOf wb, u.val.cell? ⟨bp, 0, none⟩ = some (.int .i64 p) := fun u => u.ext.cell (cellOf HP.out rfl)
  have r2 : ∀ u : ExtOf wb, u.val.cell? ⟨bq, 0, none⟩ = some (.int .i64 q) := fun u => u.ext.cell (cellOf HQ.out rfl)
  refine wp_region_ext_mid 7 _ rfl (by kernel_rfl) (by kernel_rfl) ?_
  simp only [List.take_succ_cons, List.take_zero, List.drop_succ_cons, List.drop_zero]
  repeat (go_big_quiet_step (fail))
  refine wpQuiet_nil ?_
  rintro _ ⟨u, rfl⟩ K hK
  have HK := qh hK
  have hx := u.ext
  obtain ⟨w5, hw5⟩ : ∃ W, u.val = W := ⟨_, rfl⟩
  rw [hw5] at hx ⊢
  clear r0 r1 r2 hw5 hK
  clear u
  have X5 := qh (XC.out.trans hx)
  have HP5 := qh (hx.block HP.out)
  have HQ5 := qh (hx.block HQ.out)
  clear hx
  go_simp
  go_at_call 122
  refine (HD.out _ X5.out).mono ?_
  rintro e w6 ⟨rfl, ha⟩
  obtain ⟨own', ptr', hT6, hS6, hst⟩ := (HH.out.ext X5.out).after ha
  have HP6 := qh (hst.mv.block HP5.out (fun hn => hn NP.out.1))
  have HQ6 := qh (hst.mv.block HQ5.out (fun hn => hn NQ.out.1))
  have HT6 := qh hT6
  have HS6 := qh (((LStep.refl own lb hb w).ext X5.out).trans hS6)
  clear ha hT6 hS6 hst
  refine HK.out _ _ ?_
  clear HK K
  repeat (go_big_quiet_step (fail))
  refine wpQuiet_nil ?_
  rintro _ ⟨u, rfl⟩
  have HT6 := qh (HT6.out.ext u.ext)
  have HS6 := qh (HS6.out.ext u.ext)
  have HP6 := qh (u.ext.block HP6.out)
  have HQ6 := qh (u.ext.block HQ6.out)
  by_cases her : er = 0
  · subst her
    obtain ⟨op, oq, oh⟩ := HPP.out rfl
    have HMV := qh (lMove_any HT6.out HL.out oh (byInsert p q op oq HP6.out NP.out.2.2 HQ6.out NQ.out.2.2))
    clear op oq oh
    go_wp2_with (go_at_call 123; refine HMV.out.mono ?_)
    rintro e w7 ⟨rfl, hT7, hm7⟩
    have HF : Hid (LAfter own lb tb hb w T' (H.map (moved (insP p q 1))) w7) := qh ⟨own', ptr', _, _, hT7, HS6.out.trans (LStep.move hm7)⟩
    clear hT7 hm7
    go_wp2_with fail
    go_ret
    exact ⟨rfl, by unfold movedIf; rw [if_pos rfl]; exact HF.out⟩
  · have e0 : (er == 0) = false := beq_eq_false_iff_ne.2 her
    have HE := qh her
    clear her
    go_wp2_with fail
    go_ret
    exact ⟨rfl, by unfold movedIf; rw [if_neg HE.out]; exact ⟨own', ptr', _, _, HT6.out, HS6.out⟩⟩
def heldAt (H : List Hd) (k : Int) : Option Hd := if k < 0 then none else match H[k.toNat]? with | some x => if x.off = 0 then some x else none | none => none
theorem heldAt_some {H : List Hd} {k : Int} {x : Hd} (h : heldAt H k = some x) : ∃ i : Nat, k = (i : Int) ∧ H[i]? = some x ∧ x.off = 0 := by
  unfold heldAt at h
  split at h
  · cases h
  · split at h
    · rename_i y hy
      split at h
      · cases h; exact ⟨k.toNat, by omega, hy, by assumption⟩
      · cases h
    · cases h
theorem lIs_no (h : LiveAt w own ptr lb tb T hv hb H) {k : Int} (hn : heldAt H k = none) (hl : H.length ≤ 100000) : Calls Tryz.prog 90 #[.pointer (some ⟨lb, 0, none⟩), .int .i64 k] w (RBool false w) := by
  have HN := qh (none_some h.ptr_)
  have p1 := h.row_
  have p0 := h.ptr_
  obtain ⟨a, cap, rfl, hc, hg⟩ := h.at
  have HG := qh hg
  obtain ⟨n, hnl⟩ : ∃ n, H.length = n := ⟨_, rfl⟩
  rw [hnl] at p1 hl
  have HNL := qh hnl
  have HNO := qh hn
  clear hg hc hn hnl
  by_cases h0 : 0 ≤ k
  · obtain ⟨i, rfl⟩ := Int.eq_ofNat_of_zero_le h0
    have e0 : decide ((0 : Int) ≤ (i : Int)) = true := decide_eq_true (by omega)
    by_cases h1 : i < n
    · obtain ⟨x, hx⟩ : ∃ x, H[i]? = some x := ⟨_, List.getElem?_eq_getElem (by rw [HNL.out]; exact h1)⟩
      have ho : x.off ≠ 0 := by
        intro e
        have h9 := HNO.out
        unfold heldAt at h9
        rw [if_neg (by omega), show (i : Int).toNat = i by omega, hx] at h9
        simp [e] at h9
      obtain ⟨g, cur, rfl, hgb, hgr, htk, _⟩ := HG.out (by rw [HNL.out]; omega)
      have q2 := hold_cell (f := 2) hgr htk hx (v := .int .i64 x.off) rfl
      have e3 : (x.off == 0) = false := beq_eq_false_iff_ne.2 ho
      have e1 : decide ((i : Int) < (n : Int)) = true := decide_eq_true (by omega)
      have e1n : decide (i < n) = true := decide_eq_true h1
      have i0 : (0 : Int) ≤ (i : Int) := by omega
      have i1 : (i : Int) < (n : Int) := by omega
      have itn : (i : Int).toNat = i := by omega
      clear hgb hgr htk hx ho h0
      go_enter Tryz.func90, Tryz.ntmps90
      go_wp2_with (go_at_call 89; refine HN.out.mono ?_; rintro e w' ⟨rfl, rfl⟩)
      go_ret
      exact ⟨rfl, Ext.refl _⟩
    · have e1 : decide ((i : Int) < (n : Int)) = false := decide_eq_false (by omega)
      have e1n : decide (i < n) = false := decide_eq_false h1
      clear h0
      go_enter Tryz.func90, Tryz.ntmps90
      go_wp2_with (go_at_call 89; refine HN.out.mono ?_; rintro e w' ⟨rfl, rfl⟩)
      go_ret
      exact ⟨rfl, Ext.refl _⟩
  · have e0 : decide ((0 : Int) ≤ k) = false := decide_eq_false h0
    clear h0
    go_enter Tryz.func90, Tryz.ntmps90
    go_wp2_with (go_at_call 89; refine HN.out.mono ?_; rintro e w' ⟨rfl, rfl⟩)
    go_ret
    exact ⟨rfl, Ext.refl _⟩
theorem lIs_any (h : LiveAt w own ptr lb tb T hv hb H) (k : Int) (hl : H.length ≤ 100000) : Calls Tryz.prog 90 #[.pointer (some ⟨lb, 0, none⟩), .int .i64 k] w (RBool (heldAt H k).isSome w) := by
  cases hh : heldAt H k with
  | none => exact lIs_no h hh hl
  | some x =>
    obtain ⟨i, rfl, hx, ho⟩ := heldAt_some hh
    exact lIs_yes h hx ho hl
end
section
variable {w : World} {own : Ow} {ptr : Nat → Nat} {lb tb : Nat} {T : Tr} {hv : Value} {hb : Option Nat} {H : List Hd}
theorem lHeld_no (h : LiveAt w own ptr lb tb T hv hb H) {k : Int} (hn : heldAt H k = none) (hl : H.length ≤ 100000) : Calls Tryz.prog 23 #[.pointer (some ⟨lb, 0, none⟩), .int .i64 k] w (RTwo (pl 0 0) (.bool false) w) := by
  have xa := (Ext.refl w).alloc (.cells #[.int .i64 0, .int .i64 0] 53)
  have hba := heap_alloc_new w (.cells #[.int .i64 0, .int .i64 0] 53)
  have HI := qh (lIs_no (h.ext xa) hn hl)
  obtain ⟨wa, hwa⟩ : ∃ W : World, W = w.alloc (.cells #[.int .i64 0, .int .i64 0] 53) := ⟨_, rfl⟩
  rw [← hwa] at xa hba HI
  have HWA := qh hwa
  have XA := qh xa
  have HBA := qh hba
  clear h hn hl hwa xa hba
  go_enter Tryz.func23, Tryz.ntmps23
  go_upto_region 1 with fail
  rw [← HWA.out]
  go_wp2_with (go_at_call 90; refine HI.out.mono ?_)
  rintro e w2 ⟨rfl, x2⟩
  have hb2 := x2.block HBA.out
  have c0 := cellOf hb2 (i := 0) rfl
  have c1 := cellOf hb2 (i := 1) rfl
  have f0 := freeOf hb2 0
  have f1 := freeOf hb2 1
  have XF := qh (((XA.out.trans x2).setCell (p := ⟨w.heap.size, 0, none⟩) (Nat.le_refl _) (.int .i64 0)).setCell (p := ⟨w.heap.size, 1, none⟩) (Nat.le_refl _) (.int .i64 0))
  have B3 : ((w2.setCell ⟨w.heap.size, 0, none⟩ (.int .i64 0)).setCell ⟨w.heap.size, 1, none⟩ (.int .i64 0)).heap[w.heap.size]? = some (.cells #[.int .i64 0, .int .i64 0] 53 (0, 0)) := heap_setCell_same (i := 1) (heap_setCell_same (i := 0) hb2 (.int .i64 0)) (.int .i64 0)
  have HLV := qh (run_loadVar_row (P := Tryz.prog) _ w.heap.size 53 53 _ (0, 0) _ B3 Tryz.underlying53 rfl (by kernel_rfl))
  clear x2 hb2 B3
  go_wp2_with fail
  have hlv := HLV.out
  refine bodyPost_ret (v := .tuple #[pl 0 0, .bool false]) (by simp [results, Tryz.results23, asAddr, hlv]) rfl ?_
  exact ⟨rfl, XF.out⟩
def heldV (H : List Hd) (k : Int) : Value := match heldAt H k with | some x => pl x.node x.at' | none => pl 0 0
theorem lHeld_any (h : LiveAt w own ptr lb tb T hv hb H) (k : Int) (hl : H.length ≤ 100000) : Calls Tryz.prog 23 #[.pointer (some ⟨lb, 0, none⟩), .int .i64 k] w (RTwo (heldV H k) (.bool (heldAt H k).isSome) w) := by
  unfold heldV
  cases hh : heldAt H k with
  | none => exact lHeld_no h hh hl
  | some x =>
    obtain ⟨i, rfl, hx, ho⟩ := heldAt_some hh
    exact lHeld_ok h hx ho hl
end
def placed (H : List Hd) (T : Tr) (k n a : Int) : List Hd := if (heldAt H k).isSome && T.may n a then H.set k.toNat ⟨n, a, 0⟩ else H
def placeErr (H : List Hd) (T : Tr) (k n a : Int) : Int := if (heldAt H k).isSome then (if T.may n a then 0 else 1) else 2
section
variable {w : World} {own : Ow} {ptr : Nat → Nat} {lb tb : Nat} {T : Tr} {hv : Value} {hb : Option Nat} {H : List Hd}
theorem lPlace_any (h : LiveAt w own ptr lb tb T hv hb H) {d : Nat → Nat} (hw : WF T d) (hA : AttrsOk T) (k n a : Int) (hl : H.length ≤ 100000) :
    Calls Tryz.prog 117 #[.pointer (some ⟨lb, 0, none⟩), .int .i64 k, pl n a] w (LErr own lb tb hb w (placeErr H T k n a) T (placed H T k n a)) := by
  have xa := (Ext.refl w).alloc (.cells #[.int .i64 n, .int .i64 a] 53)
  have hba := heap_alloc_new w (.cells #[.int .i64 n, .int .i64 a] 53)
  obtain ⟨wa, hwa⟩ : ∃ W : World, W = w.alloc (.cells #[.int .i64 n, .int .i64 a] 53) := ⟨_, rfl⟩
  rw [← hwa] at xa hba
  obtain ⟨pb, hpb⟩ : ∃ b, w.heap.size = b := ⟨_, rfl⟩
  rw [hpb] at hba
  have hA2 := h.ext xa
  have HT := qh hA2
  have HN := qh (none_some hA2.ptr_)
  have HI := qh (lIs_any hA2 k hl)
  have HMM := qh (fun (W : World) (x : Ext wa W) => May_any ((hA2.ext x).tree.tat (hA2.ext x).ownd) hw hA n a)
  have XA := qh xa
  have HWA := qh hwa
  have HPB := qh hpb
  have HBA := qh hba
  have HL := qh hl
  obtain ⟨pe, hpe⟩ : ∃ e, placeErr H T k n a = e := ⟨_, rfl⟩
  obtain ⟨ph, hph⟩ : ∃ e, placed H T k n a = e := ⟨_, rfl⟩
  rw [hpe, hph]
  unfold placeErr at hpe
  unfold placed at hph
  clear h hw hA hl xa hwa hpb hba hA2
  cases hh : heldAt H k with
  | none =>
    rw [hh] at HI hpe hph
    clear hh
    simp only [Option.isSome_none, Bool.false_eq_true, if_false, Bool.false_and] at hpe hph
    subst pe
    subst ph
    go_enter Tryz.func117, Tryz.ntmps117
    go_upto_region 1 with fail
    rw [← HWA.out, HPB.out]
    go_wp2_with (go_at_call 89; refine HN.out.mono ?_; rintro e w' ⟨rfl, rfl⟩)
    go_wp2_with (go_at_call 90; refine HI.out.mono ?_)
    rintro e w2 ⟨rfl, x2⟩
    have HF : Hid (LAfter own lb tb hb w T H w2) := qh ⟨own, ptr, hv, hb, HT.out.ext x2, (LStep.refl own lb hb w).ext (XA.out.trans x2)⟩
    clear x2
    go_wp2_with fail
    go_ret
    exact ⟨rfl, HF.out⟩
  | some x =>
    rw [hh] at HI hpe hph
    obtain ⟨i, rfl, hx, ho⟩ := heldAt_some hh
    simp only [Option.isSome_some, if_true, Bool.true_and, Int.toNat_natCast] at hpe hph
    have HPE := qh hpe
    have HPH := qh hph
    clear hpe hph
    have HX := qh (And.intro hx ho)
    clear hh hx ho
    go_enter Tryz.func117, Tryz.ntmps117
    go_upto_region 1 with fail
    rw [← HWA.out, HPB.out]
    go_wp2_with (go_at_call 89; refine HN.out.mono ?_; rintro e w' ⟨rfl, rfl⟩)
    go_upto_region 5 with (go_at_call 90; refine HI.out.mono ?_; rintro e w2 ⟨rfl, x2⟩; have X2 := qh x2; clear x2)
    have r0 : ∀ u : ExtOf w2, u.val.cell? ⟨lb, 0, none⟩ = some (.pointer (some ⟨tb, 0, none⟩)) := fun u => (X2.out.trans u.ext).cell HT.out.ptr_
    have r1 : ∀ u : ExtOf w2, u.val.cell? ⟨pb, 0, none⟩ = some (.int .i64 n) := fun u => (X2.out.trans u.ext).cell (cellOf HBA.out rfl)
    have r2 : ∀ u : ExtOf w2, u.val.cell? ⟨pb, 1, none⟩ = some (.int .i64 a) := fun u => (X2.out.trans u.ext).cell (cellOf HBA.out rfl)
    have HM2 := qh (fun u : ExtOf w2 => inExt (u := u) (HMM.out u.val (X2.out.trans u.ext)))
    refine wp_region_ext (by kernel_rfl) (by kernel_rfl) ?_
    cases hm : T.may n a with
    | false =>
      rw [hm] at HM2
      have hpe := HPE.out
      have hph := HPH.out
      clear HPE HPH
      rw [hm] at hpe hph
      simp only [Bool.false_eq_true, if_false] at hpe hph
      subst pe
      subst ph
      clear hm
      repeat (go_big_quiet_step ((go_at_call 24; exact HM2.out _)))
      refine wpQuiet_nil ?_
      rintro _ ⟨u, rfl⟩
      have HF : Hid (LAfter own lb tb hb w T H u.val) := qh ⟨own, ptr, hv, hb, HT.out.ext (X2.out.trans u.ext), (LStep.refl own lb hb w).ext (XA.out.trans (X2.out.trans u.ext))⟩
      clear r0 r1 r2
      go_wp2_with fail
      go_ret
      exact ⟨rfl, HF.out⟩
    | true =>
      rw [hm] at HM2
      have hpe := HPE.out
      have hph := HPH.out
      clear HPE HPH
      rw [hm] at hpe hph
      simp only [if_true] at hpe hph
      subst pe
      subst ph
      clear hm
      repeat (go_big_quiet_step ((go_at_call 24; exact HM2.out _)))
      refine wpQuiet_nil ?_
      rintro _ ⟨u, rfl⟩
      have hx := X2.out.trans u.ext
      obtain ⟨w3, hw3⟩ : ∃ W, u.val = W := ⟨_, rfl⟩
      rw [hw3] at hx ⊢
      clear r0 r1 r2 HM2 hw3
      clear u
      obtain ⟨m, hm⟩ : ∃ m, H.length = m := ⟨_, rfl⟩
      have hilt : i < m := by rw [← hm]; exact (List.getElem?_eq_some_iff.1 HX.out.1).1
      have HT3 := qh (HT.out.ext hx)
      have X3 := qh (XA.out.trans hx)
      have HB3 := qh (hx.block HBA.out)
      obtain ⟨a1, cap1, hse, -, hg4⟩ := HT3.out.at
      obtain ⟨g, cur, ea, hbg, hgr, htk, -⟩ := hg4 (by omega)
      subst ea
      subst hse
      have hml : m ≤ 100000 := by rw [← hm]; exact HL.out
      clear hx
      go_upto_region 7 with fail
      have r0 : ∀ u : ExtOf w3, u.val.cell? ⟨lb, 1, none⟩ = some (.slice (some ⟨g, 0, none⟩) m cap1) := fun u => u.ext.cell (by rw [← hm]; exact HT3.out.row_)
      have r1 : ∀ u : ExtOf w3, u.val.cell? ⟨pb, 0, none⟩ = some (.int .i64 n) := fun u => u.ext.cell (cellOf HB3.out rfl)
      have r2 : ∀ u : ExtOf w3, u.val.cell? ⟨pb, 1, none⟩ = some (.int .i64 a) := fun u => u.ext.cell (cellOf HB3.out rfl)
      have i0 : (0 : Int) ≤ (i : Int) := by omega
      have i1 : (i : Int) < (m : Int) := by omega
      have itn : (i : Int).toNat = i := by omega
      have HGR := qh hgr
      have HTK := qh htk
      have HBG := qh hbg
      have HM := qh hm
      clear hg4 hbg hgr htk hm
      refine wp_region_ext_tail 8 (by kernel_rfl) (by kernel_rfl) ?_
      simp only [List.take_succ_cons, List.take_zero, List.drop_succ_cons, List.drop_zero]
      repeat (go_big_quiet_step (fail))
      refine wpQuiet_nil ?_
      rintro _ ⟨u, rfl⟩
      have hx := u.ext
      obtain ⟨w5, hw5⟩ : ∃ W, u.val = W := ⟨_, rfl⟩
      rw [hw5] at hx ⊢
      clear r0 r1 r2 hw5
      clear u
      have HT5 := HT3.out.ext hx
      have hgr5 := hx.block HGR.out
      have k0 := hold_cell (f := 0) hgr5 HTK.out HX.out.1 (v := .int .i64 x.node) rfl
      have k1 := hold_cell (f := 1) hgr5 HTK.out HX.out.1 (v := .int .i64 x.at') rfl
      rw [Nat.add_zero] at k0
      have f0 := freeOf hgr5 (i * 3)
      have f1 := freeOf hgr5 (i * 3 + 1)
      have HF : Hid (LAfter own lb tb hb w T (H.set i ⟨n, a, 0⟩) ((w5.setCell ⟨g, i * 3, none⟩ (.int .i64 n)).setCell ⟨g, i * 3 + 1, none⟩ (.int .i64 a))) := qh (by
        have hlt : i < H.length := (List.getElem?_eq_some_iff.1 HX.out.1).1
        have s1 := HT5.set (f := 0) (v := .int .i64 n) (p' := ⟨n, x.at', x.off⟩) HX.out.1 (by decide) rfl HBG.out
        have s2 := s1.set (i := i) (f := 1) (v := .int .i64 a) (p := ⟨n, x.at', x.off⟩) (p' := ⟨n, a, x.off⟩) (List.getElem?_set_self hlt) (by decide) rfl HBG.out
        rw [List.set_set, HX.out.2, Nat.add_zero] at s2
        have hm0 : Mv (fun b => hb = some b) w w5 := (Mv.ofExt X3.out).ext hx
        exact ⟨own, ptr, _, hb, s2, LStep.move ((hm0.setCell (p := ⟨g, i * 3, none⟩) (fun _ => HBG.out) (.int .i64 n)).setCell (p := ⟨g, i * 3 + 1, none⟩) (fun _ => HBG.out) (.int .i64 a))⟩)
      clear HT5 hx hgr5
      go_wp2_with fail
      go_ret
      exact ⟨rfl, HF.out⟩
theorem lSetText_any (h : LiveAt w own ptr lb tb T hv hb H) (hl : H.length ≤ 100000) {d : Nat → Nat} (hw : WF T d) (hA : AttrsOk T) (id : Int) (s : ByteArray) (hs : s.size ≤ 1000000) {c : Nat} (hc : max 0 (T.lengthOf id) = (c : Int)) (hc2 : c ≤ 1000000) {er : Int} {T' : Tr}
    (hd : ∀ W, Ext w W → Calls Tryz.prog 159 #[.pointer (some ⟨tb, 0, none⟩), .int .i64 id, .string s] W (ErrAfter own W tb er T'))
    (hP : er = 0 → okI id ∧ okH H) :
    Calls Tryz.prog 53 #[.pointer (some ⟨lb, 0, none⟩), .int .i64 id, .string s] w (LErr own lb tb hb w er T' (movedIf er (repP id 0 c (runeList s s.size 0).length) H)) := by
  have HN := qh (none_some h.ptr_)
  have HLE := qh (Length_any (h.tree.tat h.ownd) hw hA id)
  obtain ⟨L, hL⟩ : ∃ L, T.lengthOf id = L := ⟨_, rfl⟩
  rw [hL] at HLE hc
  have HH := qh h
  have HC := qh hc
  have HRE := qh (fun (W : World) (x : Ext w W) => lreplace_any (h.ext x) hl id 0 (c : Int) s s hs (er := er) (T' := T') (fun V hV => hd V (x.trans hV)) (fun he => ⟨(hP he).1, by unfold okI; omega, by unfold okI; omega, (hP he).2⟩))
  have p0 := h.ptr_
  clear h hl hw hA hs hL hd hP hc hc2
  go_enter Tryz.func53, Tryz.ntmps53
  go_wp2_with (go_at_call 89; refine HN.out.mono ?_; rintro e w' ⟨rfl, rfl⟩)
  go_wp2_with (go_at_call 44; refine HLE.out.mono ?_)
  rintro e w1 ⟨rfl, x1⟩
  have X1 := qh x1
  clear x1 p0
  go_wp2_with (first | rw [HC.out]; go_at_call 121; refine (HRE.out _ X1.out).mono ?_)
  rintro e w6 ⟨rfl, ha6⟩
  have HF : Hid (LAfter own lb tb hb w T' (movedIf er (repP id 0 c (runeList s s.size 0).length) H) w6) := qh (by
    obtain ⟨o9, p9, v9, b9, k1, k2⟩ := ha6
    exact ⟨o9, p9, v9, b9, k1, ((LStep.refl own lb hb w).ext X1.out).trans k2⟩)
  clear ha6
  go_wp2_with fail
  go_ret
  exact ⟨rfl, HF.out⟩
end
end Go.Proofs.YtfibikkcfmohjaaGreat
namespace Go.Proofs.YtfibikkcfmohjaaGreat
open Go
def dropP (L : List Int) : Int → Int → Int × Int := fun n a => if n ∈ L then (0, 0) else (n, a)
def mayH (T : Tr) (H : List Hd) : Prop := ∀ x ∈ H, x.off = 0 → T.may x.node x.at' = true
theorem may_iff {T : Tr} {n a : Int} : T.may n a = true ↔ 0 ≤ a ∧ a ≤ T.lengthOf n := by
  unfold Tr.may
  rw [Bool.and_eq_true, decide_eq_true_eq, decide_eq_true_eq]
theorem mayH.map {T T' : Tr} {H : List Hd} {f : Int → Int → Int × Int} (h : mayH T H) (hf : ∀ n a, T.may n a = true → T'.may (f n a).1 (f n a).2 = true) : mayH T' (H.map (moved f)) := by
  intro y hy ho
  obtain ⟨x, hx, rfl⟩ := List.mem_map.1 hy
  unfold moved at ho ⊢
  by_cases hx0 : x.off = 0
  · rw [if_pos hx0]
    exact hf _ _ (h x hx hx0)
  · rw [if_neg hx0] at ho
    exact absurd ho hx0
theorem may_ins {T T' : Tr} {p q : Int} (h1 : ∀ n, n ≠ p → T'.lengthOf n = T.lengthOf n) (h2 : T'.lengthOf p = T.lengthOf p + 1) (n a : Int) (h : T.may n a = true) : T'.may (insP p q 1 n a).1 (insP p q 1 n a).2 = true := by
  rw [may_iff] at h ⊢
  show 0 ≤ insA n a p q 1 ∧ insA n a p q 1 ≤ T'.lengthOf n
  unfold insA
  by_cases hn : n = p
  · subst hn
    rw [h2]
    split <;> omega
  · rw [if_neg (fun e => hn e.1), h1 n hn]
    exact h
theorem may_rem {T T' : Tr} {id p q : Int} (h1 : ∀ n, n ≠ p → T'.lengthOf n = T.lengthOf n) (h2 : T'.lengthOf p = T.lengthOf p - 1) (hq : 0 ≤ q) (hq2 : q < T.lengthOf p) (n a : Int) (h : T.may n a = true) : T'.may (remP T' id p q n a).1 (remP T' id p q n a).2 = true := by
  unfold remP
  split
  · rw [may_iff, h2]
    exact ⟨hq, by show q ≤ _; omega⟩
  · rw [may_iff] at h ⊢
    show 0 ≤ remA n a p q ∧ remA n a p q ≤ T'.lengthOf n
    unfold remA
    by_cases hn : n = p
    · subst hn
      rw [h2]
      split
      · omega
      · rename_i hc
        have : ¬ q < a := fun e => hc ⟨rfl, e⟩
        omega
    · rw [if_neg (fun e => hn e.1), h1 n hn]
      exact h
theorem may_rep {T T' : Tr} {p q c m : Int} (h1 : ∀ n, n ≠ p → T'.lengthOf n = T.lengthOf n) (h2 : T'.lengthOf p = T.lengthOf p - c + m) (hq : 0 ≤ q) (hc : 0 ≤ c) (hm : 0 ≤ m) (hqc : q + c ≤ T.lengthOf p) (n a : Int) (h : T.may n a = true) : T'.may (repP p q c m n a).1 (repP p q c m n a).2 = true := by
  rw [may_iff] at h ⊢
  show 0 ≤ repA n a p q c m ∧ repA n a p q c m ≤ T'.lengthOf n
  unfold repA
  by_cases hn : n = p
  · subst hn
    rw [h2]
    split
    · split <;> omega
    · rename_i hx
      have : ¬ q < a := fun e => hx ⟨rfl, e⟩
      omega
  · rw [if_neg (fun e => hn e.1), h1 n hn]
    exact h
theorem lengthOf_eq (T : Tr) (id : Int) : T.lengthOf id = match T.get? id with | none => -1 | some nd => if nd.tag = -1 then -1 else if nd.tag = 0 then (runes nd.text : Int) else (nd.kids.length : Int) := by
  unfold Tr.lengthOf Tr.tagOf Tr.txt Tr.kidsOf
  cases T.get? id <;> simp
theorem get_nat (T : Tr) (i : Nat) : T.get? (i : Int) = (T.nodes[i]?).join := by
  unfold Tr.get?
  rw [if_neg (by omega), Int.toNat_natCast]
theorem get_neg (T : Tr) {id : Int} (h : id < 0) : T.get? id = none := by
  unfold Tr.get?
  rw [if_pos h]
theorem set2_len {T : Tr} {p k : Nat} {pd kd pd' kd' : Nd} (hp : T.nodes[p]? = some (some pd)) (hk : T.nodes[k]? = some (some kd)) (hpk : p ≠ k) (h1 : kd'.tag = kd.tag ∧ kd'.text = kd.text ∧ kd'.kids = kd.kids) :
    (∀ n, n ≠ (p : Int) → (T.set2 p k pd' kd').lengthOf n = T.lengthOf n) ∧ (T.set2 p k pd' kd').get? p = some pd' := by
  have hpl := (List.getElem?_eq_some_iff.1 hp).1
  have hkl := (List.getElem?_eq_some_iff.1 hk).1
  refine ⟨fun n hn => ?_, ?_⟩
  · by_cases h0 : n < 0
    · rw [lengthOf_eq, lengthOf_eq, get_neg _ h0, get_neg _ h0]
    · obtain ⟨i, rfl⟩ := Int.eq_ofNat_of_zero_le (show 0 ≤ n by omega)
      have hip : i ≠ p := fun e => hn (by rw [e])
      rw [lengthOf_eq, lengthOf_eq, get_nat, get_nat, Tr.set2_get hp hk]
      by_cases hik : i = k
      · subst hik
        rw [if_pos rfl, hk]
        show (if kd'.tag = -1 then _ else _) = (if kd.tag = -1 then _ else _)
        rw [h1.1, h1.2.1, h1.2.2]
      · rw [if_neg hik, if_neg hip]
  · rw [get_nat, Tr.set2_get hp hk, if_neg hpk, if_pos rfl]
    rfl
theorem link_len {T : Tr} {p a k : Nat} {pd kd : Nd} (hp : T.nodes[p]? = some (some pd)) (hk : T.nodes[k]? = some (some kd)) (hpk : p ≠ k) (ht : pd.tag ≠ 0) (ht2 : pd.tag ≠ -1) (ha : a ≤ pd.kids.length) :
    (∀ n, n ≠ (p : Int) → (T.link p a k pd kd).lengthOf n = T.lengthOf n) ∧ (T.link p a k pd kd).lengthOf p = T.lengthOf p + 1 := by
  rw [Tr.link_eq]
  obtain ⟨h1, h2⟩ := set2_len (pd' := { pd with kids := pd.kids.take a ++ [(k : Int)] ++ pd.kids.drop a }) (kd' := { kd with parent := p }) hp hk hpk ⟨rfl, rfl, rfl⟩
  refine ⟨h1, ?_⟩
  rw [lengthOf_eq, h2, lengthOf_eq, Tr.get_of hp]
  show (if pd.tag = -1 then _ else if pd.tag = 0 then _ else _) = (if pd.tag = -1 then _ else if pd.tag = 0 then _ else _) + 1
  rw [if_neg ht2, if_neg ht, if_neg ht2, if_neg ht]
  simp
  omega
theorem unlink_len {T : Tr} {p k : Nat} {pd kd : Nd} (hp : T.nodes[p]? = some (some pd)) (hk : T.nodes[k]? = some (some kd)) (hpk : p ≠ k) (ht : pd.tag ≠ 0) (ht2 : pd.tag ≠ -1) (hin : (k : Int) ∈ pd.kids) :
    (∀ n, n ≠ (p : Int) → (T.unlink p k pd kd).lengthOf n = T.lengthOf n) ∧ (T.unlink p k pd kd).lengthOf p = T.lengthOf p - 1 := by
  obtain ⟨h1, h2⟩ := set2_len (pd' := { pd with kids := pd.kids.erase (k : Int) }) (kd' := { kd with parent := -1 }) hp hk hpk ⟨rfl, rfl, rfl⟩
  refine ⟨h1, ?_⟩
  rw [lengthOf_eq, show (T.unlink p k pd kd).get? p = _ from h2, lengthOf_eq, Tr.get_of hp]
  show (if pd.tag = -1 then _ else if pd.tag = 0 then _ else (((pd.kids.erase (k : Int)).length : Nat) : Int)) = (if pd.tag = -1 then _ else if pd.tag = 0 then _ else _) - 1
  rw [if_neg ht2, if_neg ht, if_neg ht2, if_neg ht, List.length_erase_of_mem hin]
  have := List.length_pos_of_mem hin
  omega
end Go.Proofs.YtfibikkcfmohjaaGreat
namespace Go.Proofs.YtfibikkcfmohjaaGreat
open Go Go.RowKit Go.BigFrame
def handles (H : List Hd) (i : Nat) : List Int := ((List.range i).filter fun (k : Nat) => (heldAt H (k : Int)).isSome).map fun (k : Nat) => (k : Int)
theorem handles_yes {H : List Hd} {i : Nat} {x : Hd} (h : heldAt H (i : Int) = some x) : handles H (i + 1) = handles H i ++ [(i : Int)] := by
  unfold handles
  rw [List.range_succ, List.filter_append, List.map_append]
  simp [h]
theorem handles_no {H : List Hd} {i : Nat} (h : heldAt H (i : Int) = none) : handles H (i + 1) = handles H i := by
  unfold handles
  rw [List.range_succ, List.filter_append, List.map_append]
  simp [h]
theorem heldAt_of {H : List Hd} {i : Nat} {x : Hd} (h : H[i]? = some x) (ho : x.off = 0) : heldAt H (i : Int) = some x := by
  unfold heldAt
  rw [if_neg (by omega), Int.toNat_natCast, h]
  simp [ho]
theorem heldAt_off {H : List Hd} {i : Nat} {x : Hd} (h : H[i]? = some x) (ho : ¬ x.off = 0) : heldAt H (i : Int) = none := by
  unfold heldAt
  rw [if_neg (by omega), Int.toNat_natCast, h]
  simp [ho]
theorem handles_len (H : List Hd) (i : Nat) : (handles H i).length ≤ i := by
  unfold handles
  rw [List.length_map]
  exact Nat.le_trans (List.length_filter_le _ _) (by simp)
section
variable {w : World} {own : Ow} {ptr : Nat → Nat} {lb tb : Nat} {T : Tr} {hv : Value} {hb : Option Nat} {H : List Hd}
theorem lHandles_any (h : LiveAt w own ptr lb tb T hv hb H) (hl : H.length ≤ 100000) :
    Calls Tryz.prog 22 #[.pointer (some ⟨lb, 0, none⟩)] w (PathIs (handles H H.length) w) := by
  have HN := qh (none_some h.ptr_)
  have HL := qh hl
  have HH := qh h
  obtain ⟨a1, cap1, rfl, hca, hg1⟩ := h.at
  have HG1 := qh hg1
  obtain ⟨m, hm⟩ : ∃ m, H.length = m := ⟨_, rfl⟩
  have HM := qh hm
  have p1 := h.row_
  rw [hm] at p1 hl
  rw [hm]
  clear h hg1 hm hca
  go_enter Tryz.func22, Tryz.ntmps22
  go_wp2_with (go_at_call 89; refine HN.out.mono ?_; rintro e w' ⟨rfl, rfl⟩)
  go_loopw [3, 13] (fun v iv wr => ∃ i : Nat, i ≤ m ∧ iv = .int .i64 i ∧ Ext w wr ∧ RowP wr (fun g => w.heap.size ≤ g) 3 1 v (handles H i).length ((handles H i).map (Value.int .i64))) (fun _ iv _ => m - (intOf iv).toNat)
  case atStart => exact ⟨0, Nat.zero_le _, rfl, Ext.refl _, ⟨rfl, .inl ⟨rfl, none, rfl⟩⟩⟩
  case round =>
    obtain ⟨i, him, rfl, xr, hrow⟩ := hrel
    have hlen := handles_len H i
    obtain ⟨L, hL⟩ : ∃ L, handles H i = L := ⟨_, rfl⟩
    have HLI := qh hL
    rw [hL] at hrow hlen
    have XR := qh xr
    have HROW := qh hrow
    obtain ⟨al, cl, rfl, hcl⟩ := hrow.len_of'
    by_cases hlt : i < m
    · obtain ⟨x, hx⟩ : ∃ x, H[i]? = some x := ⟨_, List.getElem?_eq_getElem (by rw [HM.out]; exact hlt)⟩
      obtain ⟨g, cur, rfl, -, hgb, htk, -⟩ := HG1.out (by rw [HM.out]; omega)
      have q0 := XR.out.cell (hold_cell (f := 0) hgb htk hx (v := .int .i64 x.node) rfl)
      have q1 := XR.out.cell (hold_cell (f := 1) hgb htk hx (v := .int .i64 x.at') rfl)
      have q2 := XR.out.cell (hold_cell (f := 2) hgb htk hx (v := .int .i64 x.off) rfl)
      rw [Nat.add_zero] at q0
      have HX := qh hx
      have e0 : decide ((i : Int) < (m : Int)) = true := decide_eq_true (by omega)
      have e0n : decide (i < m) = true := decide_eq_true hlt
      have i0 : (0 : Int) ≤ (i : Int) := by omega
      have i1 : (i : Int) < (m : Int) := by omega
      have itn : (i : Int).toNat = i := by omega
      have HLT := qh hlt
      clear hgb htk hx hrow xr hL hlt
      go_upto_region 7 with fail
      have hba := heap_alloc_new wr (.cells #[.int .i64 x.node, .int .i64 x.at', .int .i64 x.off] 123)
      have xa := (Ext.refl wr).alloc (.cells #[.int .i64 x.node, .int .i64 x.at', .int .i64 x.off] 123)
      obtain ⟨wa, hwa⟩ : ∃ W : World, W = wr.alloc (.cells #[.int .i64 x.node, .int .i64 x.at', .int .i64 x.off] 123) := ⟨_, rfl⟩
      rw [← hwa] at hba xa ⊢
      obtain ⟨pb, hpb⟩ : ∃ b, wr.heap.size = b := ⟨_, rfl⟩
      rw [hpb] at hba ⊢
      have c2 := cellOf hba (i := 2) rfl
      clear hba hwa hpb q0 q1 q2
      by_cases hoff : x.off = 0
      · rw [hoff] at c2
        have HH1 := qh (handles_yes (heldAt_of HX.out hoff))
        have xc := xa.alloc (.cells #[.int .i64 i] 3)
        obtain ⟨i0', hii, hz0, hz1, hz2⟩ := info_parts infoI
        obtain ⟨v', wA, row, hrunA, hrA, hgA, hrowA⟩ := run_append_row (P := Tryz.prog) (wa.alloc (.cells #[.int .i64 i] 3)) 50 50 3 i0' (.int .i64 0) 1 8 Tryz.underlying50 hii hz0 hz1 hz2 rfl (by decide)
          (p := fun g => w.heap.size ≤ g) (RowP.ext HROW.out xc) ⟨wa.heap.size, 0, none⟩ 1 1 [.int .i64 i] rfl (cell_one_new' (cellOf (heap_alloc_new wa (.cells #[.int .i64 i] 3)) (i := 0) rfl)) (by simp [Value.oneCell']) (by decide) (by unfold maxLen; omega) (by omega)
        have hxA : Ext w wA := (XR.out.trans xc).grown hgA hrowA
        have hrA' : RowP wA (fun g => w.heap.size ≤ g) 3 1 v' (L ++ [(i : Int)]).length ((L ++ [(i : Int)]).map (Value.int .i64)) := by
          have h1 := RowP.imp hrA (q := fun g => w.heap.size ≤ g) fun g _ hg => by
            rcases hg with h | h
            · exact h
            · exact Nat.le_trans (XR.out.trans xc).size h
          rw [List.length_append, List.map_append]
          exact h1
        have HA := qh hrA'
        have HXA := qh hxA
        have HRUN := qh hrunA
        obtain ⟨a2, c2', ev, hc2⟩ := hrA.len_of'
        subst ev
        clear hrA hgA hrowA hrunA hii hz0 hz1 hz2 xc hxA hrA' xa hoff
        go_wp2_with (at_builtin; refine wpList_append_run _ rfl _ _ 50 rfl _ _ rfl rfl _ _ HRUN.out ?_)
        go_roundw
        case rel =>
          refine ⟨i + 1, by have := HLT.out; omega, by go_num, HXA.out, ?_⟩
          rw [HH1.out, HLI.out]
          exact HA.out
        case measure => have := HLT.out; simp [intOf]; omega
      · have HH1 := qh (handles_no (heldAt_off HX.out hoff))
        have HO := qh (show (x.off == 0) = false by simpa using hoff)
        have XA := qh xa
        have ho := HO.out
        clear hoff xa
        go_wp2_with fail
        go_roundw
        case rel =>
          refine ⟨i + 1, by have := HLT.out; omega, by go_num, XR.out.trans XA.out, ?_⟩
          rw [HH1.out, HLI.out]
          exact HROW.out.ext XA.out
        case measure => have := HLT.out; simp [intOf]; omega
    · have e0 : decide ((i : Int) < (m : Int)) = false := decide_eq_false (by omega)
      have e0n : decide (i < m) = false := decide_eq_false hlt
      have hi : i = m := by omega
      clear hrow
      go_wp2_with fail
      go_ret
      subst hi
      rw [HLI.out]
      refine ⟨_, rfl, RowP.rd HROW.out, XR.out, fun y hy => ?_⟩
      rcases HROW.out.2 with ⟨h0, -⟩ | ⟨g2, cap2, cur2, h1, h2, -⟩
      · exact .inl (List.eq_nil_of_length_eq_zero h0)
      · rw [h1] at hy
        cases hy
        exact .inr h2
end
theorem containsI_any {w : World} {v : Value} {l : List Int} (h : RowRd w 1 v l.length (l.map (Value.int .i64))) (hl : l.length ≤ 60000) (x : Int) :
    Calls Tryz.prog 136 #[v, .int .i64 x] w (RSame (.bool (decide (x ∈ l))) w) := by
  have HI := qh (index_any h (by omega) x)
  have HB : Hid (decide (0 ≤ posOf l x) = decide (x ∈ l)) := qh (by
    unfold posOf
    by_cases hx : x ∈ l
    · rw [if_pos hx, decide_eq_true hx]; exact decide_eq_true (by omega)
    · rw [if_neg hx, decide_eq_false hx]; rfl)
  obtain ⟨k, hk⟩ : ∃ k, posOf l x = k := ⟨_, rfl⟩
  rw [hk] at HI HB
  rw [← HB.out]
  clear h hl hk
  go_enter Tryz.func136, Tryz.ntmps136
  go_wp2_with (go_at_call 93; refine HI.out.mono ?_; rintro e w' ⟨rfl, rfl⟩)
  go_ret
  exact ⟨rfl, rfl⟩
section
variable {w : World} {own : Ow} {ptr : Nat → Nat} {lb tb : Nat} {T : Tr} {hv : Value} {hb : Option Nat} {H : List Hd}
theorem byDrop {w : World} {hb : Option Nat} {b0 : Nat} {v : Value} (L : List Int) (hl : L.length ≤ 60000) (h0 : w.cell? ⟨b0, 0, none⟩ = some v) (g0 : hb ≠ some b0) (hr : RowP w (fun g => hb ≠ some g) 3 1 v L.length (L.map (Value.int .i64))) :
    ByIs w hb (.func (.func 135) #[] #[.pointer (some ⟨b0, 0, none⟩)]) (fun _ _ => True) (dropP L) := by
  refine ⟨_, _, rfl, enters_of Tryz.func135 (by kernel_rfl) rfl, fun W n a hm _ => ?_⟩
  show Calls Tryz.prog 135 #[pl n a, .pointer (some ⟨b0, 0, none⟩)] W _
  have xa := (Ext.refl W).alloc (.cells #[.int .i64 n, .int .i64 a] 53)
  have hba := heap_alloc_new W (.cells #[.int .i64 n, .int .i64 a] 53)
  obtain ⟨wa, hwa⟩ : ∃ V : World, V = W.alloc (.cells #[.int .i64 n, .int .i64 a] 53) := ⟨_, rfl⟩
  have hsz : wa.heap.size = W.heap.size + 1 := by rw [hwa]; simp
  rw [← hwa] at xa hba
  have xb := (Ext.refl wa).alloc (.cells #[.int .i64 0, .int .i64 0] 53)
  have hbb := heap_alloc_new wa (.cells #[.int .i64 0, .int .i64 0] 53)
  have hab := xb.block hba
  obtain ⟨wb, hwb⟩ : ∃ V : World, V = wa.alloc (.cells #[.int .i64 0, .int .i64 0] 53) := ⟨_, rfl⟩
  rw [← hwb] at xb hbb hab
  have c0 := cellOf hab (i := 0) (v := .int .i64 n) rfl
  have c1 := cellOf hab (i := 1) (v := .int .i64 a) rfl
  have e0 := (xa.trans xb).cell (hm.cell h0 g0)
  have HC := qh (containsI_any (RowP.rd (RowP.ext (RowP.mv hr hm fun g hg e => hg e) (xa.trans xb))) hl n)
  have XB := qh (xa.trans xb)
  have HBB := qh hbb
  have HWA := qh hwa
  have HWB := qh hwb
  have HSZ := qh hsz
  have HFV : Hid (dropP L n a = if decide (n ∈ L) = true then (0, 0) else (n, a)) := qh (by unfold dropP; simp)
  obtain ⟨bb, hbe⟩ : ∃ b, decide (n ∈ L) = b := ⟨_, rfl⟩
  rw [hbe] at HC HFV
  clear xa xb hba hbb hab hwa hwb hm hsz hr hl hbe h0
  go_enter Tryz.func135, Tryz.ntmps135
  go_upto_region 1 with fail
  rw [← HWA.out, ← HWB.out]
  obtain ⟨gb, hgb⟩ : ∃ g, wa.heap.size = g := ⟨_, rfl⟩
  have HGB := qh hgb
  have hg2 : W.heap.size + 1 = gb := by rw [← hgb, HSZ.out]
  have hgt : W.heap.size ≤ gb := by omega
  rw [hg2]
  rw [hgb] at HBB
  obtain ⟨ga, hga⟩ : ∃ g, W.heap.size = g := ⟨_, rfl⟩
  rw [hga] at c0 c1 ⊢
  have k0 := cellOf HBB.out (i := 0) rfl
  have k1 := cellOf HBB.out (i := 1) rfl
  have f0 := freeOf HBB.out 0
  have f1 := freeOf HBB.out 1
  have HGT := qh hgt
  clear hgb hg2 hga hgt
  obtain ⟨n', hn'⟩ : ∃ z, (dropP L n a).1 = z := ⟨_, rfl⟩
  obtain ⟨a', ha'⟩ : ∃ z, (dropP L n a).2 = z := ⟨_, rfl⟩
  rw [hn', ha']
  have XF := qh ((XB.out.setCell (p := ⟨gb, 0, none⟩) HGT.out (.int .i64 n')).setCell (p := ⟨gb, 1, none⟩) HGT.out (.int .i64 a'))
  have B3 : ((wb.setCell ⟨gb, 0, none⟩ (.int .i64 n')).setCell ⟨gb, 1, none⟩ (.int .i64 a')).heap[gb]? = some (.cells #[.int .i64 n', .int .i64 a'] 53 (0, 0)) := heap_setCell_same (i := 1) (heap_setCell_same (i := 0) HBB.out (.int .i64 n')) (.int .i64 a')
  have HLV := qh (run_loadVar_row (P := Tryz.prog) _ gb 53 53 _ (0, 0) _ B3 Tryz.underlying53 rfl (by kernel_rfl))
  clear B3
  cases bb with
  | true =>
    have h1 := HFV.out
    rw [if_pos rfl] at h1
    rw [h1] at hn' ha'
    have en : n' = 0 := hn'.symm
    have ea : a' = 0 := ha'.symm
    subst en
    subst ea
    clear hn' ha' h1
    go_wp2_with (go_at_call 136; refine HC.out.mono ?_; rintro e w' ⟨rfl, rfl⟩)
    have hlv := HLV.out
    refine bodyPost_ret (v := pl 0 0) (by simp [results, Tryz.results135, asAddr, hlv]) rfl ?_
    exact ⟨by have h9 := HFV.out; simp only [if_true] at h9; rw [h9], XF.out⟩
  | false =>
    have h1 := HFV.out
    rw [if_neg Bool.false_ne_true] at h1
    rw [h1] at hn' ha'
    have en : n' = n := hn'.symm
    have ea : a' = a := ha'.symm
    subst en
    subst ea
    clear hn' ha' h1
    go_wp2_with (go_at_call 136; refine HC.out.mono ?_; rintro e w' ⟨rfl, rfl⟩)
    have hlv := HLV.out
    refine bodyPost_ret (v := pl n' a') (by simp [results, Tryz.results135, asAddr, hlv]) rfl ?_
    exact ⟨by have h9 := HFV.out; simp only [Bool.false_eq_true, if_false] at h9; rw [h9], XF.out⟩
theorem lDrop_any (h : LiveAt w own ptr lb tb T hv hb H) (hl : H.length ≤ 100000) (id : Int) {er : Int} {T' : Tr} {d : Nat → Nat} (hw : WF T d)
    (hd : ∀ W, Ext w W → Calls Tryz.prog 134 #[.pointer (some ⟨tb, 0, none⟩), .int .i64 id] W (ErrAfter own W tb er T')) :
    Calls Tryz.prog 71 #[.pointer (some ⟨lb, 0, none⟩), .int .i64 id] w (LErr own lb tb hb w er T' (movedIf er (dropP (T.allOf id)) H)) := by
  have HNN := qh (none_some h.ptr_)
  have HH := qh h
  have HD := qh hd
  have HL := qh hl
  have HAL := qh (fun (W : World) (x : Ext w W) => All_any ((h.ext x).tree.tat (h.ext x).ownd) hw id)
  have hll := allOf_2000 hw id
  obtain ⟨L, hL⟩ : ∃ L, T.allOf id = L := ⟨_, rfl⟩
  rw [hL] at hll HAL ⊢
  have m0 := h.ptr_
  clear h hd hl hw hL
  go_enter Tryz.func71, Tryz.ntmps71
  go_upto_region 4 with (first | (go_at_call 89; refine HNN.out.mono ?_; rintro e w' ⟨rfl, rfl⟩) | (go_at_call 78; refine (HAL.out _ (Ext.refl _)).mono ?_; rintro e w1 ⟨v, rfl, hr, hx⟩; obtain ⟨al, cl, rfl, hcl⟩ := RowP.len_of' hr; have HR := qh hr; have X1 := qh hx; have m0 := hx.cell m0; clear hr hx))
  have hba := heap_alloc_new w1 (.cells #[.slice al L.length cl] 50)
  have xa := (Ext.refl w1).alloc (.cells #[.slice al L.length cl] 50)
  obtain ⟨wa, hwa⟩ : ∃ W : World, W = w1.alloc (.cells #[.slice al L.length cl] 50) := ⟨_, rfl⟩
  have hs1 := X1.out.size
  obtain ⟨b0, hb0⟩ : ∃ b, w1.heap.size = b := ⟨_, rfl⟩
  rw [← hwa] at hba xa ⊢
  rw [hb0] at hba hs1 ⊢
  have m0 := xa.cell m0
  have N0 := qh (HH.out.new_own (b := b0) hs1)
  have HB0 := qh hba
  have XA := qh (X1.out.trans xa)
  have HR0 := qh (RowP.ext HR.out xa)
  clear hba xa hwa hb0 hs1
  go_wp2_with (go_at_call 134; refine (HD.out _ XA.out).mono ?_)
  rintro e w6 ⟨rfl, ha⟩
  obtain ⟨own', ptr', hT6, hS6, hst⟩ := (HH.out.ext XA.out).after ha
  have B0 := qh (hst.mv.block HB0.out (fun hn => hn N0.out.1))
  have HR6 := qh (RowP.mv HR0.out hst.mv (fun g hg hn => hn (HH.out.new_own (b := g) hg).1))
  have HT6 := qh hT6
  have HS6 := qh (((LStep.refl own lb hb w).ext XA.out).trans hS6)
  clear ha hT6 hS6 hst
  by_cases her : er = 0
  · subst her
    have HMV := qh (lMove_any HT6.out HL.out (P := fun _ _ => True) (fun _ _ _ => trivial) (byDrop L (by omega) (cellOf B0.out (i := 0) rfl) N0.out.2.2 (RowP.imp HR6.out fun g _ hg => (HH.out.new_own (b := g) hg).2.2)))
    have c0 := cellOf B0.out (i := 0) rfl
    clear m0
    go_wp2_with (go_at_call 123; refine HMV.out.mono ?_)
    rintro e w8 ⟨rfl, hT8, hm8⟩
    have HF : Hid (LAfter own lb tb hb w T' (H.map (moved (dropP L))) w8) := qh ⟨own', ptr', _, _, hT8, HS6.out.trans (LStep.move hm8)⟩
    clear hT8 hm8 c0
    go_wp2_with fail
    go_ret
    exact ⟨rfl, by unfold movedIf; rw [if_pos rfl]; exact HF.out⟩
  · have e0 : (er == 0) = false := beq_eq_false_iff_ne.2 her
    have HE := qh her
    clear her m0
    go_wp2_with fail
    go_ret
    exact ⟨rfl, by unfold movedIf; rw [if_neg HE.out]; exact ⟨own', ptr', _, _, HT6.out, HS6.out⟩⟩
end
def Keeps (T T' : Tr) : Prop := ∀ n nd, T.get? n = some nd → T'.get? n = some nd
theorem Keeps.len {T T' : Tr} (h : Keeps T T') {n : Int} (hn : T.get? n ≠ none) : T'.lengthOf n = T.lengthOf n := by
  rw [lengthOf_eq, lengthOf_eq]
  cases e : T.get? n with
  | none => exact absurd e hn
  | some nd => rw [h n nd e]
theorem may_got {T : Tr} {n a : Int} (h : T.may n a = true) : T.get? n ≠ none := by
  intro e
  rw [may_iff, lengthOf_eq, e] at h
  have h1 : a ≤ -1 := h.2
  omega
theorem Keeps.may {T T' : Tr} (h : Keeps T T') {n a : Int} (hm : T.may n a = true) : T'.may n a = true := by
  rw [may_iff, h.len (may_got hm)]
  exact may_iff.1 hm
theorem Keeps.mayH {T T' : Tr} (h : Keeps T T') {H : List Hd} (hm : mayH T H) : mayH T' H := fun x hx ho => h.may (hm x hx ho)
theorem newId_none (T : Tr) : T.get? T.newId = none := by
  unfold Tr.newId
  rcases freeOf_cases T.nodes with ⟨i, h1, h2⟩ | ⟨h1, _⟩
  · rw [h1, if_pos (by omega), get_nat, h2]; rfl
  · rw [h1, if_neg (by decide), get_nat, List.getElem?_eq_none (Nat.le_refl _)]; rfl
theorem put_keeps (T : Tr) (nd : Nd) : Keeps T (T.put nd) := by
  intro n x hn
  have h0 : ¬ n < 0 := fun h => by rw [get_neg _ h] at hn; cases hn
  obtain ⟨i, rfl⟩ := Int.eq_ofNat_of_zero_le (show 0 ≤ n by omega)
  rw [get_nat] at hn
  have hi : T.nodes[i]? = some (some x) := by
    cases e : T.nodes[i]? with
    | none => rw [e] at hn; cases hn
    | some y => rw [e] at hn; exact congrArg some hn
  rw [get_nat]
  show ((if 0 ≤ freeOf' T.nodes then T.nodes.set (freeOf' T.nodes).toNat (some nd) else T.nodes ++ [some nd])[i]?).join = _
  rcases freeOf_cases T.nodes with ⟨j, h1, h2⟩ | ⟨h1, _⟩
  · rw [h1, if_pos (by omega), Int.toNat_natCast, List.getElem?_set_ne (fun e => by subst e; rw [h2] at hi; cases hi), hi]; rfl
  · rw [h1, if_neg (by decide), List.getElem?_append_left (List.getElem?_eq_some_iff.1 hi).1, hi]; rfl
theorem rid_get? (T : Tr) (q : Nat → Bool) (i : Nat) : (T.rid q).get? (i : Int) = if q i then none else T.get? (i : Int) := by
  rw [get_nat, get_nat, Tr.rid_get]
  cases T.nodes[i]? with
  | none => simp
  | some x => cases q i <;> simp
theorem mayH.rid {T : Tr} {H : List Hd} (h : mayH T H) {q : Nat → Bool} {L : List Int} (hL : ∀ i : Nat, T.get? (i : Int) ≠ none → ((i : Int) ∈ L ↔ q i = true)) (h0 : 0 ≤ (T.rid q).lengthOf 0) : mayH (T.rid q) (H.map (moved (dropP L))) := by
  refine mayH.map h fun n a hm => ?_
  unfold dropP
  have hg := may_got hm
  by_cases hn : n ∈ L
  · rw [if_pos hn]
    exact may_iff.2 ⟨Int.le_refl _, h0⟩
  · rw [if_neg hn]
    have hneg : ¬ n < 0 := fun h => hg (get_neg _ h)
    obtain ⟨i, rfl⟩ := Int.eq_ofNat_of_zero_le (show 0 ≤ n by omega)
    have hq : q i = false := by
      cases e : q i with
      | false => rfl
      | true => exact absurd ((hL i hg).2 e) hn
    have e : (T.rid q).lengthOf (i : Int) = T.lengthOf (i : Int) := by
      rw [lengthOf_eq, lengthOf_eq, rid_get?, hq]
      rfl
    rw [may_iff, e]
    exact may_iff.1 hm
theorem settext_len {T T' : Tr} {i : Nat} {nd : Nd} {s : ByteArray} (hi : T.nodes[i]? = some (some nd)) (ht : nd.tag = 0) (hT : T'.nodes = T.nodes.set i (some { nd with text := s })) :
    (∀ n, n ≠ (i : Int) → T'.lengthOf n = T.lengthOf n) ∧ T'.lengthOf i = (runes s : Int) := by
  have hil := (List.getElem?_eq_some_iff.1 hi).1
  refine ⟨fun n hn => ?_, ?_⟩
  · by_cases h0 : n < 0
    · rw [lengthOf_eq, lengthOf_eq, get_neg _ h0, get_neg _ h0]
    · obtain ⟨j, rfl⟩ := Int.eq_ofNat_of_zero_le (show 0 ≤ n by omega)
      have hij : i ≠ j := fun e => hn (by rw [e])
      rw [lengthOf_eq, lengthOf_eq, get_nat, get_nat, hT, List.getElem?_set_ne hij]
  · rw [lengthOf_eq, get_nat, hT, List.getElem?_set_self hil]
    show (if nd.tag = -1 then _ else if nd.tag = 0 then _ else _) = _
    rw [if_neg (by omega), if_pos ht]
end Go.Proofs.YtfibikkcfmohjaaGreat
namespace Go.Proofs.YtfibikkcfmohjaaGreat
open Go
theorem ofNat_nat {n : Nat} (h : n < 256) : (UInt8.ofNat n).toNat = n := by simp; omega
theorem valid_cases {r : Int} (h : Utf8.valid r = true) : ∃ n : Nat, r = n ∧ (n < 55296 ∨ 57344 ≤ n ∧ n ≤ 1114111) := by
  unfold Utf8.valid at h
  simp at h
  refine ⟨r.toNat, by omega, by omega⟩
theorem encode_nat {n : Nat} (h : n < 55296 ∨ 57344 ≤ n ∧ n ≤ 1114111) : (Utf8.encode (n : Int)).data.toList =
    if n < 128 then [UInt8.ofNat n] else if n < 2048 then [UInt8.ofNat (192 + n / 64), UInt8.ofNat (128 + n % 64)]
    else if n < 65536 then [UInt8.ofNat (224 + n / 4096), UInt8.ofNat (128 + n / 64 % 64), UInt8.ofNat (128 + n % 64)]
    else [UInt8.ofNat (240 + n / 262144), UInt8.ofNat (128 + n / 4096 % 64), UInt8.ofNat (128 + n / 64 % 64), UInt8.ofNat (128 + n % 64)] := by
  have hv : Utf8.valid (n : Int) = true := by unfold Utf8.valid; simp; omega
  unfold Utf8.encode
  simp only [hv, if_true, Int.toNat_natCast]
  split
  · rfl
  · split
    · rfl
    · split <;> rfl
theorem decode_valid (s : ByteArray) (i : Nat) : Utf8.valid (Int.ofNat (Utf8.decode s i).1) = true := by
  have hb : ∀ k, (s.get! (i + k)).toNat < 256 := fun k => (s.get! (i + k)).toNat_lt
  have h0 := hb 0; have h1 := hb 1; have h2 := hb 2; have h3 := hb 3
  have ok : ∀ c : Nat, c < 55296 → Utf8.valid (Int.ofNat c) = true := fun c hc => by unfold Utf8.valid; simp; omega
  have er : Utf8.valid (Int.ofNat Utf8.runeError) = true := by decide
  simp only [Utf8.decode]
  split
  · exact ok _ (by omega)
  · split
    · split
      · exact ok _ (by omega)
      · exact er
    · split
      · split
        · rename_i h; simp at h; exact h.2
        · exact er
      · split
        · split
          · rename_i h; simp at h; exact h.2
          · exact er
        · exact er
theorem runeList_valid (s : ByteArray) : ∀ (b i : Nat), ∀ r ∈ runeList s b i, Utf8.valid r = true := by
  intro b
  induction b with
  | zero => intro i r h; cases h
  | succ b ih =>
    intro i r h
    unfold runeList at h
    split at h
    · rcases List.mem_cons.1 h with rfl | h
      · exact decode_valid s i
      · exact ih _ r h
    · cases h
theorem runesBytes_list (l : List Int) : (runesBytes l).data.toList = l.flatMap fun r => (Utf8.encode r).data.toList := by
  have h : ∀ (l : List Int) (acc : ByteArray), (l.foldl (fun r n => r ++ Utf8.encode n) acc).data.toList = acc.data.toList ++ l.flatMap fun r => (Utf8.encode r).data.toList := by
    intro l
    induction l with
    | nil => intro acc; simp
    | cons x r ih => intro acc; rw [List.foldl_cons, ih]; simp
  have := h l ByteArray.empty
  simpa [runesBytes] using this
theorem encode_len (r : Int) : 1 ≤ (Utf8.encode r).data.toList.length ∧ (Utf8.encode r).data.toList.length ≤ 4 := by
  unfold Utf8.encode
  dsimp only
  generalize (if Utf8.valid r = true then r.toNat else Utf8.runeError) = c
  split
  · exact ⟨by simp, by simp⟩
  · split
    · exact ⟨by simp, by simp⟩
    · split
      · exact ⟨by simp, by simp⟩
      · exact ⟨by simp, by simp⟩
end Go.Proofs.YtfibikkcfmohjaaGreat
namespace Go.Proofs.YtfibikkcfmohjaaGreat
open Go Go.RowKit Go.BigFrame
end Go.Proofs.YtfibikkcfmohjaaGreat
namespace Go.Proofs.YtfibikkcfmohjaaGreat
open Go
theorem decodeL_encode {n : Nat} (h : n < 55296 ∨ 57344 ≤ n ∧ n ≤ 1114111) (X : List UInt8) : Lib.decodeL ((Utf8.encode (n : Int)).data.toList ++ X) = (n, (Utf8.encode (n : Int)).data.toList.length) := by
  rw [encode_nat h]
  by_cases h1 : n < 128
  · rw [if_pos h1]
    have e : (UInt8.ofNat n).toNat = n := ofNat_nat (by omega)
    exact (Lib.decodeL_ascii (UInt8.ofNat n) X (by omega)).trans (by rw [e]; rfl)
  · rw [if_neg h1]
    by_cases h2 : n < 2048
    · rw [if_pos h2, Lib.decodeL_N]
      have e0 : (UInt8.ofNat (192 + n / 64)).toNat = 192 + n / 64 := ofNat_nat (by omega)
      have e1 : (UInt8.ofNat (128 + n % 64)).toNat = 128 + n % 64 := ofNat_nat (by omega)
      simp only [List.cons_append, List.nil_append, List.getD_cons_zero, List.getD_cons_succ, List.length_cons, List.length_nil, e0, e1]
      unfold Lib.decodeN
      rw [if_neg (by omega), if_pos ⟨by omega, by omega, by omega⟩, if_pos (by omega)]
      exact Prod.ext (by dsimp only; omega) rfl
    · rw [if_neg h2]
      by_cases h3 : n < 65536
      · rw [if_pos h3, Lib.decodeL_N]
        have e0 : (UInt8.ofNat (224 + n / 4096)).toNat = 224 + n / 4096 := ofNat_nat (by omega)
        have e1 : (UInt8.ofNat (128 + n / 64 % 64)).toNat = 128 + n / 64 % 64 := ofNat_nat (by omega)
        have e2 : (UInt8.ofNat (128 + n % 64)).toNat = 128 + n % 64 := ofNat_nat (by omega)
        simp only [List.cons_append, List.nil_append, List.getD_cons_zero, List.getD_cons_succ, List.length_cons, List.length_nil, e0, e1, e2]
        have ev : (224 + n / 4096) % 16 * 4096 + (128 + n / 64 % 64) % 64 * 64 + (128 + n % 64) % 64 = n := by omega
        unfold Lib.decodeN
        rw [if_neg (by omega), if_neg (by omega), if_pos ⟨by omega, ⟨by omega, by omega⟩, by omega, by omega⟩, ev, if_pos (by omega)]
      · rw [if_neg h3, Lib.decodeL_N]
        have e0 : (UInt8.ofNat (240 + n / 262144)).toNat = 240 + n / 262144 := ofNat_nat (by omega)
        have e1 : (UInt8.ofNat (128 + n / 4096 % 64)).toNat = 128 + n / 4096 % 64 := ofNat_nat (by omega)
        have e2 : (UInt8.ofNat (128 + n / 64 % 64)).toNat = 128 + n / 64 % 64 := ofNat_nat (by omega)
        have e3 : (UInt8.ofNat (128 + n % 64)).toNat = 128 + n % 64 := ofNat_nat (by omega)
        simp only [List.cons_append, List.nil_append, List.getD_cons_zero, List.getD_cons_succ, List.length_cons, List.length_nil, e0, e1, e2, e3]
        have ev : (240 + n / 262144) % 8 * 262144 + (128 + n / 4096 % 64) % 64 * 4096 + (128 + n / 64 % 64) % 64 * 64 + (128 + n % 64) % 64 = n := by omega
        unfold Lib.decodeN
        rw [if_neg (by omega), if_neg (by omega), if_neg (by omega), if_pos ⟨by omega, ⟨by omega, by omega⟩, ⟨by omega, by omega⟩, by omega, by omega⟩, ev, if_pos (by omega)]
def rl : Nat → List UInt8 → List Int
  | 0, _ => []
  | b + 1, l => if l = [] then [] else ((Lib.decodeL l).1 : Int) :: rl b (l.drop (Lib.decodeL l).2)
theorem bsz (s : ByteArray) : s.size = s.data.toList.length := (Array.length_toList).symm
theorem runeList_rl (s : ByteArray) : ∀ (b i : Nat), runeList s b i = rl b (s.data.toList.drop i) := by
  intro b
  induction b with
  | zero => intro i; rfl
  | succ b ih =>
    intro i
    unfold runeList rl
    have hsz := bsz s
    by_cases h : i < s.size
    · rw [if_pos h, if_neg (fun e => by have := congrArg List.length e; rw [List.length_drop, List.length_nil] at this; omega), Lib.decodeL_drop, ih, List.drop_drop]
      rfl
    · rw [if_neg h, if_pos (List.drop_eq_nil_of_le (by omega))]
theorem rl_fuel : ∀ (b b' : Nat) (l : List UInt8), l.length ≤ b → l.length ≤ b' → rl b l = rl b' l := by
  intro b
  induction b with
  | zero =>
    intro b' l h _
    obtain rfl : l = [] := List.eq_nil_of_length_eq_zero (by omega)
    cases b' <;> rfl
  | succ b ih =>
    intro b' l h h'
    cases b' with
    | zero =>
      obtain rfl : l = [] := List.eq_nil_of_length_eq_zero (by omega)
      rfl
    | succ b' =>
      unfold rl
      by_cases hl : l = []
      · rw [if_pos hl, if_pos hl]
      · rw [if_neg hl, if_neg hl]
        have h1 := Lib.decodeL_width l
        rw [ih b' _ (by rw [List.length_drop]; omega) (by rw [List.length_drop]; omega)]
def rlL (l : List UInt8) : List Int := rl l.length l
theorem rlL_nil : rlL [] = [] := rfl
theorem rlL_step {l : List UInt8} (h : l ≠ []) : rlL l = ((Lib.decodeL l).1 : Int) :: rlL (l.drop (Lib.decodeL l).2) := by
  have h1 := Lib.decodeL_width l
  have hl : 0 < l.length := List.length_pos_iff.2 h
  unfold rlL
  obtain ⟨n, hn⟩ : ∃ n, l.length = n + 1 := ⟨l.length - 1, by omega⟩
  rw [hn, rl, if_neg h, rl_fuel n _ _ (by rw [List.length_drop]; omega) (Nat.le_refl _)]
theorem runeList_rlL (s : ByteArray) : runeList s s.size 0 = rlL s.data.toList := by
  rw [runeList_rl, List.drop_zero]
  exact rl_fuel _ _ _ (Nat.le_of_eq (bsz s).symm) (Nat.le_refl _)
def encs (l : List Int) : List UInt8 := l.flatMap fun r => (Utf8.encode r).data.toList
theorem rlL_enc : ∀ (l : List Int), (∀ r ∈ l, Utf8.valid r = true) → ∀ X, rlL (encs l ++ X) = l ++ rlL X := by
  intro l
  induction l with
  | nil => intro _ X; rfl
  | cons r l ih =>
    intro h X
    obtain ⟨n, rfl, hn⟩ := valid_cases (h r (by simp))
    have hl := (encode_len (n : Int)).1
    have hd := decodeL_encode hn (encs l ++ X)
    have he : encs ((n : Int) :: l) ++ X = (Utf8.encode (n : Int)).data.toList ++ (encs l ++ X) := by
      unfold encs
      rw [List.flatMap_cons, List.append_assoc]
    rw [he, rlL_step (fun e => by have := congrArg List.length e; rw [List.length_append, List.length_nil] at this; omega), hd, List.drop_left' rfl, ih (fun x hx => h x (by simp [hx]))]
    rfl
theorem runes_anew (s : ByteArray) : runeList (anewB s) (anewB s).size 0 = runeList s s.size 0 := by
  rw [runeList_rlL (anewB s)]
  unfold anewB
  rw [runesBytes_list]
  have h := rlL_enc (runeList s s.size 0) (runeList_valid s _ _) []
  rw [List.append_nil, rlL_nil, List.append_nil] at h
  exact h
section
variable {T T' : Tr} {d d' : Nat → Nat} {p k a : Int}
structure Linked (T T' : Tr) (p a k : Int) : Prop where
  root : ¬ 0 ≤ T.up k
  p0 : 0 ≤ p
  upk : T'.up k = p
  idxk : T'.idx k = a
  up : ∀ x, x ≠ k → T'.up x = T.up x
  idx : ∀ x, x ≠ k → 0 ≤ T.up x → T'.idx x = if T.up x = p ∧ a ≤ T.idx x then T.idx x + 1 else T.idx x
theorem Linked.apart (h : Linked T T' p a k) (hw : WF T d) (hw' : WF T' d') : T.rootOf p ≠ k := by
  intro e
  have key : ∀ x, T.rootOf x = k → T'.rank d' k ≤ T'.rank d' x := by
    refine hw.down _ (fun x hx => ?_) (fun x hx ih => ?_)
    · rw [hw.root_step, if_neg hx]
      rintro rfl; exact Nat.le_refl _
    · rw [hw.root_step, if_pos hx]
      intro e
      have hxk : x ≠ k := fun e => h.root (e ▸ hx)
      have h1 := ih e
      have h2 := hw'.rank_up (id := x) (by rw [h.up x hxk]; exact hx)
      rw [h.up x hxk] at h2
      omega
  have h1 := key p e
  have h2 := hw'.rank_up (id := k) (by rw [h.upk]; exact h.p0)
  rw [h.upk] at h2
  omega
theorem Linked.in_ (h : Linked T T' p a k) (hw : WF T d) (hw' : WF T' d') : ∀ x, T.rootOf x = k → T'.pathOf x = T'.pathOf k ++ T.pathOf x ∧ T'.rootOf x = T'.rootOf k := by
  have hap := h.apart hw hw'
  refine hw.down _ (fun x hx => ?_) (fun x hx ih => ?_)
  · rw [hw.root_step, if_neg hx]
    rintro rfl
    rw [hw.path_step x, if_neg hx, List.append_nil]
    exact ⟨rfl, rfl⟩
  · rw [hw.root_step, if_pos hx]
    intro e
    have hxk : x ≠ k := fun e => h.root (e ▸ hx)
    obtain ⟨h1, h2⟩ := ih e
    have hu : 0 ≤ T'.up x := by rw [h.up x hxk]; exact hx
    rw [hw'.path_step x, hw'.root_step x, if_pos hu, if_pos hu, h.up x hxk, h.idx x hxk hx, if_neg (fun c => hap (by rw [← c.1]; exact e)), h1, h2, hw.path_step x, if_pos hx, List.append_assoc]
    exact ⟨rfl, rfl⟩
theorem no_longer {p t : List Int} {j : Int} (h : p = p ++ j :: t) : False := by
  have := congrArg List.length h
  simp at this
theorem Linked.out_ (h : Linked T T' p a k) (hw : WF T d) (hw' : WF T' d') : ∀ x, T.rootOf x ≠ k → T'.rootOf x = T.rootOf x ∧
    ((T.rootOf x = T.rootOf p ∧ ∃ j t, T.pathOf x = T.pathOf p ++ j :: t ∧ T'.pathOf x = T.pathOf p ++ (if a ≤ j then j + 1 else j) :: t) ∨ ((T.rootOf x = T.rootOf p → ¬ ∃ j t, T.pathOf x = T.pathOf p ++ j :: t) ∧ T'.pathOf x = T.pathOf x)) := by
  refine hw.down _ (fun x hx => ?_) (fun x hx ih => ?_)
  · rw [hw.root_step x, if_neg hx]
    intro e
    have hu : ¬ 0 ≤ T'.up x := by rw [h.up x e]; exact hx
    rw [hw'.path_step x, hw'.root_step x, if_neg hu, if_neg hu, hw.path_step x, if_neg hx]
    exact ⟨rfl, .inr ⟨fun _ ⟨j, t, e⟩ => by simp at e, rfl⟩⟩
  · rw [hw.root_step x, if_pos hx]
    intro e
    have hxk : x ≠ k := fun e => h.root (e ▸ hx)
    obtain ⟨h1, h2⟩ := ih e
    have hu : 0 ≤ T'.up x := by rw [h.up x hxk]; exact hx
    rw [hw'.path_step x, hw'.root_step x, if_pos hu, if_pos hu, h.up x hxk, h.idx x hxk hx, h1, hw.path_step x, if_pos hx]
    refine ⟨rfl, ?_⟩
    by_cases hp : T.up x = p
    · rw [hp] at h2 ⊢
      rcases h2 with ⟨_, j, t, e2, _⟩ | ⟨_, e2⟩
      · exact (no_longer e2).elim
      · refine .inl ⟨rfl, T.idx x, [], rfl, ?_⟩
        rw [e2]
        by_cases c : a ≤ T.idx x
        · rw [if_pos ⟨rfl, c⟩, if_pos c]
        · rw [if_neg (fun e => c e.2), if_neg c]
    · rw [if_neg (fun e => hp e.1)]
      rcases h2 with ⟨e1, j, t, e2, e3⟩ | ⟨e1, e2⟩
      · exact .inl ⟨e1, j, t ++ [T.idx x], by rw [e2]; simp, by rw [e3]; simp⟩
      · refine .inr ⟨fun er ⟨j, t, e3⟩ => ?_, by rw [e2]⟩
        rcases List.eq_nil_or_concat t with rfl | ⟨t', z, rfl⟩
        · exact hp (hw.path_inj (List.append_inj' e3 rfl).1 er)
        · have e4 : T.pathOf (T.up x) ++ [T.idx x] = (T.pathOf p ++ j :: t') ++ [z] := by rw [e3]; simp
          exact e1 er ⟨j, t', (List.append_inj' e4 rfl).1⟩
theorem Linked.path_p (h : Linked T T' p a k) (hw : WF T d) (hw' : WF T' d') : T'.pathOf p = T.pathOf p ∧ T'.rootOf p = T.rootOf p := by
  obtain ⟨h1, h2⟩ := h.out_ hw hw' p (h.apart hw hw')
  rcases h2 with ⟨_, j, t, e2, _⟩ | ⟨_, e2⟩
  · exact (no_longer e2).elim
  · exact ⟨e2, h1⟩
theorem Linked.path_k (h : Linked T T' p a k) (hw : WF T d) (hw' : WF T' d') : T'.pathOf k = T.pathOf p ++ [a] ∧ T'.rootOf k = T.rootOf p := by
  have hu : 0 ≤ T'.up k := by rw [h.upk]; exact h.p0
  rw [hw'.path_step, hw'.root_step, if_pos hu, if_pos hu, h.upk, h.idxk, (h.path_p hw hw').1, (h.path_p hw hw').2]
  exact ⟨rfl, rfl⟩
end
theorem mid_get (l : List Int) (a j : Nat) (k x : Int) (ha : a ≤ l.length) (h : l[j]? = some x) : (l.take a ++ [k] ++ l.drop a)[if a ≤ j then j + 1 else j]? = some x := by
  have hl : (l.take a).length = a := by simp; omega
  have hj := (List.getElem?_eq_some_iff.1 h).1
  by_cases c : a ≤ j
  · rw [if_pos c, List.append_assoc, List.getElem?_append_right (by omega), hl, List.getElem?_append_right (by simp; omega)]
    simp only [List.length_singleton, List.getElem?_drop]
    rw [show a + (j + 1 - a - 1) = j by omega]; exact h
  · rw [if_neg c, List.append_assoc, List.getElem?_append_left (by omega), List.getElem?_take_of_lt (by omega)]; exact h
theorem mid_at (l : List Int) (a : Nat) (k : Int) (ha : a ≤ l.length) : (l.take a ++ [k] ++ l.drop a)[a]? = some k := by
  have hl : (l.take a).length = a := by simp; omega
  rw [List.append_assoc, List.getElem?_append_right (by omega), hl, Nat.sub_self]; rfl
theorem linked_link {T : Tr} {d d' : Nat → Nat} {p k a : Nat} {pd kd : Nd} (hw : WF T d) (hw' : WF (T.link p a k pd kd) d') (hp : T.nodes[p]? = some (some pd)) (hk : T.nodes[k]? = some (some kd)) (hpk : p ≠ k) (hpar : kd.parent = -1) (ha : a ≤ pd.kids.length) : Linked T (T.link p a k pd kd) p a k := by
  have hgp := Tr.get_of hp
  have hgk := Tr.get_of hk
  have hget : ∀ j : Nat, (T.link p a k pd kd).get? (j : Int) = if j = k then some { kd with parent := p } else if j = p then some { pd with kids := pd.kids.take a ++ [(k : Int)] ++ pd.kids.drop a } else T.get? (j : Int) := by
    intro j
    rw [get_nat, get_nat, Tr.link_eq, Tr.set2_get hp hk]
    by_cases h1 : j = k
    · rw [if_pos h1, if_pos h1]; rfl
    · rw [if_neg h1, if_neg h1]
      by_cases h2 : j = p
      · rw [if_pos h2, if_pos h2]; rfl
      · rw [if_neg h2, if_neg h2]
  have hneg : ∀ x : Int, x < 0 → (T.link p a k pd kd).get? x = T.get? x := fun x hx => by rw [get_neg _ hx, get_neg _ hx]
  have hgx : ∀ x : Int, x ≠ k → x ≠ p → (T.link p a k pd kd).get? x = T.get? x := by
    intro x h1 h2
    by_cases h0 : x < 0
    · exact hneg x h0
    · obtain ⟨j, rfl⟩ := Int.eq_ofNat_of_zero_le (show 0 ≤ x by omega)
      rw [hget, if_neg (fun e => h1 (by rw [e])), if_neg (fun e => h2 (by rw [e]))]
  have hgk' := hget k
  rw [if_pos rfl] at hgk'
  have hgp' := hget p
  rw [if_neg hpk, if_pos rfl] at hgp'
  have hkp : (T.link p a k pd kd).kidsOf (p : Int) = pd.kids.take a ++ [(k : Int)] ++ pd.kids.drop a := by unfold Tr.kidsOf; rw [hgp']
  have hkx : ∀ x : Int, x ≠ p → (T.link p a k pd kd).kidsOf x = T.kidsOf x := by
    intro x h2
    unfold Tr.kidsOf
    by_cases h1 : x = k
    · subst h1; rw [hgk', hgk]
    · rw [hgx x h1 h2]
  have hup : ∀ x : Int, x ≠ k → (T.link p a k pd kd).up x = T.up x := by
    intro x h1
    unfold Tr.up
    by_cases h2 : x = p
    · subst h2; rw [hgp', hgp]
    · rw [hgx x h1 h2]
  refine ⟨?_, by omega, by rw [Tr.up_some hgk'], ?_, hup, ?_⟩
  · rw [Tr.up_some hgk, hpar]; omega
  · exact (hw'.kid_idx (by rw [hkp]; exact mid_at _ _ _ ha)).2.1
  · intro x hx hu
    obtain ⟨j, j1, j2, _⟩ := hw.idx_kid hu
    by_cases e : T.up x = p
    · rw [e] at j2
      have hkk : T.kidsOf (p : Int) = pd.kids := by unfold Tr.kidsOf; rw [hgp]
      rw [hkk] at j2
      have h3 := mid_get pd.kids a j (k : Int) x ha j2
      rw [← hkp] at h3
      rw [(hw'.kid_idx h3).2.1, j1]
      by_cases c : a ≤ j
      · rw [if_pos c, if_pos ⟨e, by omega⟩]; omega
      · rw [if_neg c, if_neg (fun c2 => c (by have := c2.2; omega))]
    · rw [if_neg (fun c => e c.1), j1]
      rw [← hkx _ e] at j2
      exact (hw'.kid_idx j2).2.1
theorem linked_unlink {T : Tr} {d d' : Nat → Nat} {p k : Nat} {pd kd : Nd} (hw : WF T d) (hw' : WF (T.unlink p k pd kd) d') (hp : T.nodes[p]? = some (some pd)) (hk : T.nodes[k]? = some (some kd)) (hpk : p ≠ k) (hpar : kd.parent = (p : Int)) (hn : pd.kids.Nodup) (hin : (k : Int) ∈ pd.kids) : Linked (T.unlink p k pd kd) T p (pd.kids.idxOf (k : Int)) k := by
  have e := Tr.link_unlink hp hk hpk hpar hn hin
  have hg := fun j => Tr.set2_get (pd' := { pd with kids := pd.kids.erase (k : Int) }) (kd' := { kd with parent := -1 }) hp hk j
  have h := linked_link (d' := d) (p := p) (k := k) (a := pd.kids.idxOf (k : Int)) (pd := { pd with kids := pd.kids.erase (k : Int) }) (kd := { kd with parent := -1 }) hw' (by rw [e]; exact hw) (by
    show (T.set2 p k _ _).nodes[p]? = _
    rw [hg, if_neg hpk, if_pos rfl]) (by
    show (T.set2 p k _ _).nodes[k]? = _
    rw [hg, if_pos rfl]) hpk rfl (by
    show _ ≤ (pd.kids.erase (k : Int)).length
    rw [List.length_erase_of_mem hin]
    have := List.idxOf_lt_length_of_mem hin
    omega)
  rw [e] at h
  exact h
end Go.Proofs.YtfibikkcfmohjaaGreat
namespace Go.Proofs.YtfibikkcfmohjaaGreat
open Go Go.RowKit Go.BigFrame
theorem RowP.at_ {w : World} {p : Nat → Prop} {e size n : Nat} {v : Value} {xs : List Value} (h : RowP w p e size v n xs) {k : Nat} {x : Value} (hk : xs[k]? = some x) :
    ∃ g cap cur, v = .slice (some ⟨g, 0, none⟩) n cap ∧ p g ∧ n ≤ cap ∧ w.heap[g]? = some (.cells cur e (0, 0)) ∧ cur[k]? = some x := by
  have hl := (List.getElem?_eq_some_iff.1 hk).1
  rcases h.2 with ⟨h0, _⟩ | ⟨g, cap, cur, h1, h2, h3, h4, h5, h6, h7⟩
  · have := h.1
    rw [h0, Nat.zero_mul] at this
    omega
  · refine ⟨g, cap, cur, h1, h2, h4, h3, ?_⟩
    rw [← h7, List.getElem?_take] at hk
    split at hk
    · rw [← Array.getElem?_toList]; exact hk
    · cases hk
theorem RowP.lt_ {w : World} {p : Nat → Prop} {e size n : Nat} {v : Value} {xs : List Value} (h : RowP w p e size v n xs) : RowP w (fun g => p g ∧ g < w.heap.size) e size v n xs := by
  refine ⟨h.1, ?_⟩
  rcases h.2 with h0 | ⟨g, cap, cur, h1, h2, h3, h4⟩
  · exact .inl h0
  · exact .inr ⟨g, cap, cur, h1, ⟨h2, (Array.getElem?_eq_some_iff.1 h3).1⟩, h3, h4⟩
def plC (P : List (Int × Int)) : List Value := P.flatMap fun p => [.int .i64 p.1, .int .i64 p.2]
theorem plC_get {P : List (Int × Int)} {i : Nat} {p : Int × Int} (h : P[i]? = some p) : (plC P)[i * 2]? = some (.int .i64 p.1) ∧ (plC P)[i * 2 + 1]? = some (.int .i64 p.2) := by
  induction P generalizing i with
  | nil => cases h
  | cons q L ih =>
    cases i with
    | zero =>
      have : q = p := by simpa using h
      subst this
      exact ⟨rfl, rfl⟩
    | succ i =>
      have h2 := ih (i := i) (by simpa using h)
      show ([_, _] ++ plC L)[(i + 1) * 2]? = _ ∧ ([_, _] ++ plC L)[(i + 1) * 2 + 1]? = _
      rw [List.getElem?_append_right (by simp; omega), List.getElem?_append_right (by simp; omega)]
      rw [show (i + 1) * 2 - [Value.int IntKind.i64 q.1, Value.int IntKind.i64 q.2].length = i * 2 by simp; omega, show (i + 1) * 2 + 1 - [Value.int IntKind.i64 q.1, Value.int IntKind.i64 q.2].length = i * 2 + 1 by simp; omega]
      exact h2
theorem plC_append (a b : List (Int × Int)) : plC (a ++ b) = plC a ++ plC b := List.flatMap_append
def chP (f : Int → Int → Int × Int) (i : Int) (p : Int × Int) : Int × Int := if i = 0 then p else f p.1 p.2
def chAll (f : Int → Int → Int × Int) (I : List Int) (P : List (Int × Int)) : List (Int × Int) := List.zipWith (chP f) I P
section
variable {w : World} {F : Nat → Prop} {xb rb : Nat} {T : Tr} {I : List Int} {P : List (Int × Int)}
theorem RowRd.ints {w : World} {v : Value} {L : List Int} (h : RowRd w 1 v L.length (L.map (Value.int .i64))) : ∃ ao cap, v = .slice ao L.length cap ∧ ∀ (k : Nat) x, L[k]? = some x → ∃ a, ao = some a ∧ w.cell? (a.add k) = some (.int .i64 x) := by
  obtain ⟨hl, ao, cap, rfl, hcap, hnone, hc⟩ := h
  refine ⟨ao, cap, rfl, fun k x hk => ?_⟩
  have hkl := (List.getElem?_eq_some_iff.1 hk).1
  cases ao with
  | none => have := (hnone rfl).1; omega
  | some a => exact ⟨a, rfl, hc a rfl k (.int .i64 x) (by rw [List.getElem?_map, hk]; rfl)⟩
end
def movedD (er : Int) (f : Int → Int → Int × Int) (I : List Int) (P : List (Int × Int)) : List (Int × Int) := if er = 0 then chAll f I P else P
section
variable {w : World} {F : Nat → Prop} {xb rb : Nat} {T : Tr} {I : List Int} {P : List (Int × Int)}
def goneL (L : List Int) (p q : Int) : Int → Int → Int × Int := fun n a => if n ∈ L then (p, q) else (n, remA n a p q)
end
theorem infoPlace : (Tryz.prog.info? 53).map (fun i => (i.zero, i.size, i.bytes)) = some (some (.agg #[.int .i64 0, .int .i64 0]), 2, 16) := by kernel_rfl
theorem anewB_idem (s : ByteArray) : anewB (anewB s) = anewB s := by
  have h := runes_anew s
  show runesBytes (runeList (anewB s) (anewB s).size 0) = _
  rw [h]; rfl
def Utf (T : Tr) : Prop := ∀ (i : Nat) (nd : Nd), T.nodes[i]? = some (some nd) → anewB nd.text = nd.text
theorem Utf.put {T : Tr} (h : Utf T) {nd : Nd} (hn : anewB nd.text = nd.text) : Utf (T.put nd) := by
  intro i x hx
  have hx' : (if 0 ≤ freeOf' T.nodes then T.nodes.set (freeOf' T.nodes).toNat (some nd) else T.nodes ++ [some nd])[i]? = some (some x) := hx
  split at hx'
  · rw [List.getElem?_set] at hx'
    split at hx'
    · split at hx'
      · cases hx'; exact hn
      · cases hx'
    · exact h i x hx'
  · rw [List.getElem?_append] at hx'
    split at hx'
    · exact h i x hx'
    · have : some x = some nd := by
        cases e : i - T.nodes.length with
        | zero => rw [e] at hx'; exact (Option.some.inj hx').symm
        | succ m => rw [e] at hx'; cases hx'
      cases this; exact hn
theorem Utf.setAt {T : Tr} (h : Utf T) {i : Nat} {nd : Nd} (hn : anewB nd.text = nd.text) : Utf (T.setAt i nd) := by
  intro j x hx
  have hx' : (T.nodes.set i (some nd))[j]? = some (some x) := hx
  rw [List.getElem?_set] at hx'
  split at hx'
  · split at hx'
    · cases hx'; exact hn
    · cases hx'
  · exact h j x hx'
theorem Utf.set2 {T : Tr} (h : Utf T) {p k : Nat} {pd kd : Nd} (hp : anewB pd.text = pd.text) (hk : anewB kd.text = kd.text) : Utf (T.set2 p k pd kd) :=
  Utf.setAt (T := T.setAt p pd) (h.setAt hp) hk
theorem Utf.rid {T : Tr} (h : Utf T) (q : Nat → Bool) : Utf (T.rid q) := fun i nd hi => h i nd (Tr.rid_some.1 hi).2
section
section
variable {T : Tr} {d : Nat → Nat}
theorem WF.pre_self (hw : WF T d) (id : Int) : id ∈ T.pre id := by rw [hw.pre_step]; exact List.mem_cons_self
theorem WF.pre_kid (hw : WF T d) {id k : Int} (hk : k ∈ T.kidsOf id) : ∀ x ∈ T.pre k, x ∈ T.pre id := by
  intro x hx
  rw [hw.pre_step id]
  exact List.mem_cons_of_mem _ (List.mem_flatMap.2 ⟨k, hk, hx⟩)
theorem WF.pre_trans (hw : WF T d) : ∀ o, ∀ y ∈ T.pre o, ∀ x ∈ T.pre y, x ∈ T.pre o := by
  refine hw.rise _ fun o ih y hy x hx => ?_
  rw [hw.pre_step o] at hy
  rcases List.mem_cons.1 hy with rfl | hy
  · exact hx
  · obtain ⟨k, hk, hyk⟩ := List.mem_flatMap.1 hy
    exact hw.pre_kid hk x (ih k hk y hyk x hx)
theorem WF.up_kid (hw : WF T d) {id : Int} (h : 0 ≤ T.up id) : id ∈ T.kidsOf (T.up id) := by
  obtain ⟨j, _, h2, _⟩ := hw.idx_kid h
  exact List.mem_of_getElem? h2
theorem WF.win_pre (hw : WF T d) {o : Int} (ho : ∃ od, T.get? o = some od) : ∀ id, (∃ nd, T.get? id = some nd) → (T.win id o = true ↔ id ∈ T.pre o) := by
  obtain ⟨od, ho⟩ := ho
  intro id hg
  constructor
  · revert hg
    revert id
    refine hw.down _ (fun id h hg hwn => ?_) (fun id h ih hg hwn => ?_)
    · obtain ⟨nd, hg⟩ := hg
      rw [hw.win_step hg, hw.win_none (Tr.get_neg T (show T.up id < 0 by omega)), Bool.or_false, decide_eq_true_eq] at hwn
      rw [hwn]; exact hw.pre_self o
    · obtain ⟨nd, hg⟩ := hg
      rw [hw.win_step hg, Bool.or_eq_true, decide_eq_true_eq] at hwn
      rcases hwn with e | e
      · rw [e]; exact hw.pre_self o
      · exact hw.pre_trans _ _ (ih (hw.up_get h) e) _ (hw.pre_kid (hw.up_kid h) _ (hw.pre_self id))
  · intro hm
    obtain ⟨_, h2, q, h3⟩ := hw.pre_in o ⟨od, ho⟩ id hm
    exact (hw.win_iff ho id hg).2 ⟨q, h3, h2⟩
theorem WF.mem_all (hw : WF T d) {o : Int} {od : Nd} (ho : T.get? o = some od) {n : Int} {nd : Nd} (hn : T.get? n = some nd) : n ∈ T.allOf o ↔ T.win n o = true := by
  unfold Tr.allOf
  rw [ho]
  exact (hw.win_pre ⟨od, ho⟩ n ⟨nd, hn⟩).symm
end
def InsTold (T T' : Tr) (p at' k er : Int) : Prop := (er ≠ 0 ∧ T' = T) ∨ (er = 0 ∧ ∃ (p' a' k' : Nat) (pd kd : Nd), p = p' ∧ at' = a' ∧ k = k' ∧ T.nodes[p']? = some (some pd) ∧ T.nodes[k']? = some (some kd) ∧ pd.tag ≠ 0 ∧ p' ≠ k' ∧ kd.parent = -1 ∧ a' ≤ pd.kids.length ∧ T' = T.link p' a' k' pd kd)
def RemTold (T T' : Tr) (id er : Int) : Prop := (er ≠ 0 ∧ T' = T) ∨ (er = 0 ∧ ∃ (p' k' : Nat) (pd kd : Nd), id = k' ∧ T.nodes[p']? = some (some pd) ∧ T.nodes[k']? = some (some kd) ∧ kd.parent = (p' : Int) ∧ (k' : Int) ∈ pd.kids ∧ p' ≠ k' ∧ T' = T.unlink p' k' pd kd)
def DropTold (T T' : Tr) (id er : Int) : Prop := (er ≠ 0 ∧ T' = T) ∨ (er = 0 ∧ ∃ (i : Nat) (nd : Nd), id = i ∧ T.nodes[i]? = some (some nd) ∧ nd.parent = -1 ∧ i ≠ 0 ∧ T' = T.rid fun j => T.within j i)
def TextTold (T T' : Tr) (id : Int) (s : ByteArray) (er : Int) : Prop := (er ≠ 0 ∧ T' = T) ∨ (er = 0 ∧ ∃ (i : Nat) (nd : Nd), id = i ∧ T.nodes[i]? = some (some nd) ∧ nd.tag = 0 ∧ T' = T.setAt i { nd with text := anewB s })
variable {T : Tr}
end
section
variable {T T' : Tr}
theorem Utf.ins (h : Utf T) {p q k er : Int} (ht : InsTold T T' p q k er) : Utf T' := by
  rcases ht with ⟨_, rfl⟩ | ⟨_, p', a', k', pd, kd, _, _, _, h1, h2, _, _, _, _, rfl⟩
  · exact h
  · have a1 := h p' pd h1
    have a2 := h k' kd h2
    exact Utf.set2 h a1 a2
theorem Utf.rem (h : Utf T) {id er : Int} (ht : RemTold T T' id er) : Utf T' := by
  rcases ht with ⟨_, rfl⟩ | ⟨_, p', k', pd, kd, _, h1, h2, _, _, _, rfl⟩
  · exact h
  · have a1 := h p' pd h1
    have a2 := h k' kd h2
    exact Utf.set2 h a1 a2
theorem Utf.drop (h : Utf T) {id er : Int} (ht : DropTold T T' id er) : Utf T' := by
  rcases ht with ⟨_, rfl⟩ | ⟨_, i, nd, _, _, _, _, rfl⟩
  · exact h
  · exact h.rid _
theorem Utf.text (h : Utf T) {id er : Int} {s : ByteArray} (ht : TextTold T T' id s er) : Utf T' := by
  rcases ht with ⟨_, rfl⟩ | ⟨_, i, nd, _, _, _, rfl⟩
  · exact h
  · exact h.setAt (anewB_idem s)
end
def iOf (H : List Hd) : List Int := H.map fun x => if x.off = 0 then 1 else 0
def pOf (H : List Hd) : List (Int × Int) := H.map fun x => (x.node, x.at')
structure StOk (T : Tr) (H : List Hd) : Prop where
  good : GoodT T
  may : mayH T H
  offs : ∀ x ∈ H, x.off = 0 ∨ x = ⟨0, 0, 1⟩
  utf : Utf T
theorem iOf_moved (f : Int → Int → Int × Int) (H : List Hd) : iOf (H.map (moved f)) = iOf H := by
  unfold iOf
  rw [List.map_map]
  refine List.map_congr_left fun x _ => ?_
  show (if (moved f x).off = 0 then _ else _) = _
  unfold moved
  by_cases h : x.off = 0
  · rw [if_pos h, if_pos rfl, if_pos h]
  · rw [if_neg h]
theorem chAll_moved (f : Int → Int → Int × Int) (H : List Hd) : chAll f (iOf H) (pOf H) = pOf (H.map (moved f)) := by
  unfold chAll iOf pOf
  induction H with
  | nil => rfl
  | cons x H ih =>
    simp only [List.map_cons, List.zipWith_cons_cons, ih]
    congr 1
    unfold chP moved
    by_cases h : x.off = 0
    · rw [if_pos h, if_neg (by decide), if_pos h]
    · rw [if_neg h, if_pos rfl, if_neg h]
theorem movedD_is (er : Int) (f : Int → Int → Int × Int) (H : List Hd) : movedD er f (iOf H) (pOf H) = pOf (movedIf er f H) ∧ iOf (movedIf er f H) = iOf H ∧ (movedIf er f H).length = H.length := by
  unfold movedD movedIf
  by_cases h : er = 0
  · rw [if_pos h, if_pos h]; exact ⟨chAll_moved f H, iOf_moved f H, by simp⟩
  · rw [if_neg h, if_neg h]; exact ⟨rfl, rfl, rfl⟩
theorem offs_moved {H : List Hd} (f : Int → Int → Int × Int) (h : ∀ x ∈ H, x.off = 0 ∨ x = ⟨0, 0, 1⟩) : ∀ x ∈ H.map (moved f), x.off = 0 ∨ x = ⟨0, 0, 1⟩ := by
  intro y hy
  obtain ⟨x, hx, rfl⟩ := List.mem_map.1 hy
  unfold moved
  by_cases h0 : x.off = 0
  · rw [if_pos h0]; exact .inl rfl
  · rw [if_neg h0]; exact h x hx
theorem moved_congr {H : List Hd} {f g : Int → Int → Int × Int} (h : ∀ x ∈ H, x.off = 0 → f x.node x.at' = g x.node x.at') : H.map (moved f) = H.map (moved g) := by
  refine List.map_congr_left fun x hx => ?_
  unfold moved
  by_cases h0 : x.off = 0
  · rw [if_pos h0, if_pos h0, h x hx h0]
  · rw [if_neg h0, if_neg h0]
section
variable {T T' : Tr} {H : List Hd}
theorem len_small (hG : GoodT T) {n : Int} {nd : Nd} (h : T.get? n = some nd) : 0 ≤ n ∧ n ≤ 2000 ∧ 0 ≤ T.lengthOf n ∧ T.lengthOf n ≤ 8192 := by
  obtain ⟨⟨d, hw⟩, ha⟩ := hG
  obtain ⟨h1, h2, h3⟩ := Tr.get_lt h
  have h4 := hw.small.len
  have h5 := hw.text _ nd h3
  have h6 := (ha _ nd h3).2
  have h7 := hw.kids_len h3
  have h8 := runes_le nd.text
  rw [lengthOf_eq, h]
  refine ⟨h1, by omega, ?_, ?_⟩
  · show 0 ≤ (if nd.tag = -1 then _ else if nd.tag = 0 then _ else _)
    split
    · omega
    · split <;> omega
  · show (if nd.tag = -1 then _ else if nd.tag = 0 then _ else _) ≤ (8192 : Int)
    split
    · omega
    · split <;> omega
theorem may_okP (hG : GoodT T) {n a : Int} (h : T.may n a = true) : okI n ∧ okI a := by
  cases hg : T.get? n with
  | none => exact absurd hg (may_got h)
  | some nd =>
    have h1 := len_small hG hg
    have h2 := may_iff.1 h
    unfold okI
    omega
theorem StOk.okH (h : StOk T H) : okH H := fun x hx h0 => may_okP h.good (h.may x hx h0)
theorem tag_ne {d : Nat → Nat} (hw : WF T d) {i : Nat} {nd : Nd} (h : T.nodes[i]? = some (some nd)) : nd.tag ≠ -1 := by have := (hw.text i nd h).1; omega
theorem lengthOf_kids {d : Nat → Nat} (hw : WF T d) {p : Nat} {pd : Nd} (hp : T.nodes[p]? = some (some pd)) (ht : pd.tag ≠ 0) : T.lengthOf p = pd.kids.length := by
  rw [lengthOf_eq, Tr.get_of hp]
  show (if pd.tag = -1 then _ else if pd.tag = 0 then _ else _) = _
  rw [if_neg (tag_ne hw hp), if_neg ht]
end
section
variable {T T' : Tr} {d d' : Nat → Nat} {p k a : Int}
theorem Linked.win_new (h : Linked T T' p a k) (hw : WF T d) (hkd : ∃ kd, T.get? k = some kd) {n : Int} (hn : ∃ nd, T.get? n = some nd) : T.win n k = true ↔ T.rootOf n = k := by
  obtain ⟨kd, hkd⟩ := hkd
  rw [hw.win_iff hkd n hn]
  have pk : T.pathOf k = [] := by rw [hw.path_step, if_neg h.root]
  have rk : T.rootOf k = k := by rw [hw.root_step, if_neg h.root]
  rw [pk, rk]
  exact ⟨fun ⟨q, _, e⟩ => e, fun e => ⟨T.pathOf n, by simp, e⟩⟩
theorem Linked.win_old (h : Linked T T' p a k) (hw : WF T d) (hw' : WF T' d') (hkd : ∃ kd, T'.get? k = some kd) {n : Int} (hn : ∃ nd, T'.get? n = some nd) : T'.win n k = true ↔ T.rootOf n = k := by
  obtain ⟨kd, hkd⟩ := hkd
  rw [hw'.win_iff hkd n hn]
  constructor
  · rintro ⟨q, h1, h2⟩
    refine Decidable.byContradiction fun hne => ?_
    obtain ⟨o1, o2⟩ := h.out_ hw hw' n hne
    rw [(h.path_k hw hw').1, List.append_assoc] at h1
    rw [(h.path_k hw hw').2] at h2
    rcases o2 with ⟨_, j, t, e2, e3⟩ | ⟨e1, e2⟩
    · rw [e3] at h1
      have h3 : (if a ≤ j then j + 1 else j) :: t = a :: q := List.append_cancel_left h1
      injection h3 with ha _
      split at ha <;> omega
    · rw [e2] at h1
      exact e1 (o1 ▸ h2) ⟨a, q, h1⟩
  · intro e
    obtain ⟨i1, i2⟩ := h.in_ hw hw' n e
    exact ⟨T.pathOf n, i1, i2⟩
theorem got_of_len {n : Int} (h : 0 ≤ T.lengthOf n) : ∃ nd, T.get? n = some nd := by
  cases hg : T.get? n with
  | none => rw [lengthOf_eq, hg] at h; exact absurd h (by decide)
  | some nd => exact ⟨nd, rfl⟩
end
section
variable {T T' : Tr} {H : List Hd}
theorem may_got' {n a : Int} (h : T.may n a = true) : ∃ nd, T.get? n = some nd := got_of_len (by have := may_iff.1 h; omega)
end
section
def Lv (own : Ow) (lb : Nat) (hb : Option Nat) (b : Nat) : Prop := own b ≠ none ∨ b = lb ∨ hb = some b
section
variable {w w' : World} {own : Ow} {ptr : Nat → Nat} {lb tb : Nat} {T : Tr} {hv : Value} {hb : Option Nat} {H : List Hd}
theorem LiveAt.lv_lt (h : LiveAt w own ptr lb tb T hv hb H) {b : Nat} (hb' : Lv own lb hb b) : b < w.heap.size := by
  rcases hb' with e | e | e
  · exact h.ownd b e
  · rw [e]; exact h.lt
  · exact (h.nrow b e).2.2
theorem LStep.lv {own' : Ow} {hb' : Option Nat} (h : LStep own lb hb w own' hb' w') {b : Nat} (hl : b < w.heap.size) (k : Lv own' lb hb' b) : Lv own lb hb b := by
  rcases k with e | e | e
  · exact .inl (by rw [← h.same b hl]; exact e)
  · exact .inr (.inl e)
  · rcases h.hold b e with e | e
    · exact .inr (.inr e)
    · omega
end
variable {w0 w w' g : World} {lb xb : Nat} {T1 T2 : Tr} {H1 H2 : List Hd} {L : Nat → Prop}
theorem LiveAt.inner {own : Ow} {ptr : Nat → Nat} {tb : Nat} {hv : Value} {hb : Option Nat} {T T' : Tr} {H : List Hd} (h : LiveAt w own ptr lb tb T hv hb H) (k : After own w tb T' w') : LAfter own lb tb hb w T' H w' := by
  obtain ⟨own', ptr', h1, h2, _⟩ := h.after k
  exact ⟨own', ptr', hv, hb, h1, h2⟩
end
set_option maxRecDepth 100000
set_option maxHeartbeats 1000000
set_option maxRecDepth 100000
set_option maxHeartbeats 1000000
set_option maxRecDepth 100000
set_option maxHeartbeats 1000000
set_option maxRecDepth 100000
set_option maxHeartbeats 1000000
set_option maxRecDepth 100000
set_option maxHeartbeats 1000000
set_option maxRecDepth 100000
set_option maxHeartbeats 1000000
end Go.Proofs.YtfibikkcfmohjaaGreat
namespace Go.Proofs.YtfibikkcfmohjaaGreat
open Go Go.RowKit Go.BigFrame Go.ChangeShapes Go.WideShapes Go.Deep
end Go.Proofs.YtfibikkcfmohjaaGreat
namespace Go.Proofs.YtfibikkcfmohjaaGreat
open Go Go.RowKit Go.BigFrame
structure LK (own : Ow) (lb tb : Nat) (hb : Option Nat) (w : World) (L : Nat → Prop) (T : Tr) (H : List Hd) (w' : World) : Prop where
  out : ∃ (own' : Ow) (ptr' : Nat → Nat) (hv' : Value) (hb' : Option Nat), LiveAt w' own' ptr' lb tb T hv' hb' H ∧ LStep own lb hb w own' hb' w' ∧ ∀ b, L b → ¬ Lv own' lb hb' b ∧ w.heap.size ≤ b ∧ b < w'.heap.size
section
variable {own : Ow} {ptr : Nat → Nat} {lb tb : Nat} {hb : Option Nat} {hv : Value} {w w1 w2 : World} {L L' : Nat → Prop} {T T' : Tr} {H H' : List Hd}
theorem LK.start (h : LiveAt w own ptr lb tb T hv hb H) (x : Ext w w1) : LK own lb tb hb w (fun b => w.heap.size ≤ b ∧ b < w1.heap.size) T H w1 :=
  ⟨own, ptr, hv, hb, h.ext x, (LStep.refl own lb hb w).ext x, fun b hb' => ⟨fun e => by have := h.lv_lt e; omega, hb'.1, hb'.2⟩⟩
theorem LK.start0 (h : LiveAt w own ptr lb tb T hv hb H) : LK own lb tb hb w (fun _ => False) T H w :=
  ⟨own, ptr, hv, hb, h, LStep.refl own lb hb w, fun b hb' => hb'.elim⟩
theorem LK.live (h : LK own lb tb hb w L T H w1) : ∃ own' ptr' hv' hb', LiveAt w1 own' ptr' lb tb T hv' hb' H := by
  obtain ⟨o, p, v, b, h1, _⟩ := h.out
  exact ⟨o, p, v, b, h1⟩
theorem LK.after (h : LK own lb tb hb w L T H w1) : LAfter own lb tb hb w T H w1 := by
  obtain ⟨o, p, v, b, h1, h2, _⟩ := h.out
  exact ⟨o, p, v, b, h1, h2⟩
theorem LK.ptr_ (h : LK own lb tb hb w L T H w1) : w1.cell? ⟨lb, 0, none⟩ = some (.pointer (some ⟨tb, 0, none⟩)) := by
  obtain ⟨o, p, v, b, h1, _⟩ := h.out
  exact h1.ptr_
theorem LK.mono (h : LK own lb tb hb w L T H w1) (k : ∀ b, L' b → L b) : LK own lb tb hb w L' T H w1 := by
  obtain ⟨o, p, v, b, h1, h2, h3⟩ := h.out
  exact ⟨o, p, v, b, h1, h2, fun x hx => h3 x (k x hx)⟩
theorem LK.more (h : LK own lb tb hb w L T H w1) (x : Ext w1 w2) : LK own lb tb hb w L T H w2 := by
  obtain ⟨o, p, v, b, h1, h2, h3⟩ := h.out
  exact ⟨o, p, v, b, h1.ext x, h2.ext x, fun y hy => ⟨(h3 y hy).1, (h3 y hy).2.1, Nat.lt_of_lt_of_le (h3 y hy).2.2 x.size⟩⟩
theorem LK.grow (h : LK own lb tb hb w L T H w1) (x : Ext w1 w2) : LK own lb tb hb w (fun b => L b ∨ (w1.heap.size ≤ b ∧ b < w2.heap.size)) T H w2 := by
  obtain ⟨o, p, v, b, h1, h2, h3⟩ := h.out
  refine ⟨o, p, v, b, h1.ext x, h2.ext x, fun y hy => ?_⟩
  rcases hy with hy | hy
  · exact ⟨(h3 y hy).1, (h3 y hy).2.1, Nat.lt_of_lt_of_le (h3 y hy).2.2 x.size⟩
  · exact ⟨fun e => by have := h1.lv_lt e; omega, Nat.le_trans h2.mv.size hy.1, hy.2⟩
theorem LK.poke (h : LK own lb tb hb w L T H w1) (k : Mv L w1 w2) : LK own lb tb hb w L T H w2 := by
  obtain ⟨o, p, v, b, h1, h2, h3⟩ := h.out
  have hlv : ∀ y, Lv o lb b y → ¬ L y := fun y hy hl => (h3 y hl).1 hy
  have hw := h2.mv
  refine ⟨o, p, v, b, h1.mv k (fun y hy => hlv y (.inl hy)) (hlv lb (.inr (.inl rfl))) (fun g hg => hlv g (.inr (.inr hg))), ⟨⟨k.os.trans hw.os, k.tape.trans hw.tape, k.output.trans hw.output, Nat.le_trans hw.size k.size, fun y hy hn => (k.rest y (Nat.lt_of_lt_of_le hy hw.size) fun hl => by have := (h3 y hl).2.1; omega).trans (hw.rest y hy hn)⟩, h2.same, h2.hold⟩,
    fun y hy => ⟨(h3 y hy).1, (h3 y hy).2.1, Nat.lt_of_lt_of_le (h3 y hy).2.2 k.size⟩⟩
theorem LK.call (h : LK own lb tb hb w L T H w1) {P : Program} {f : FuncId} {args : Array Value} {v : Value}
    (hd : ∀ (o : Ow) (p : Nat → Nat) (hv : Value) (b : Option Nat), LiveAt w1 o p lb tb T hv b H → Calls P f args w1 fun e w' => e = .returned v ∧ LAfter o lb tb b w1 T' H' w') :
    Calls P f args w1 fun e w' => e = .returned v ∧ LK own lb tb hb w L T' H' w' ∧ ∀ b, L b → w'.heap[b]? = w1.heap[b]? := by
  obtain ⟨o, p, v1, b, h1, h2, h3⟩ := h.out
  refine (hd o p v1 b h1).mono fun e w' hh => ?_
  obtain ⟨o', p', v', b', k1, k2⟩ := hh.2
  exact ⟨hh.1, ⟨o', p', v', b', k1, h2.trans k2, fun y hy => ⟨fun e => (h3 y hy).1 (k2.lv (h3 y hy).2.2 e), (h3 y hy).2.1, Nat.lt_of_lt_of_le (h3 y hy).2.2 k2.mv.size⟩⟩, fun y hy => k2.mv.rest y (h3 y hy).2.2 (h3 y hy).1⟩
theorem LK.inner (h : LK own lb tb hb w L T H w1) {P : Program} {f : FuncId} {args : Array Value} {v : Value}
    (hd : ∀ (o : Ow) (p : Nat → Nat), TreeAt w1 o p tb T → Owned o w1 → Calls P f args w1 fun e w' => e = .returned v ∧ After o w1 tb T' w') :
    Calls P f args w1 fun e w' => e = .returned v ∧ LK own lb tb hb w L T' H w' ∧ ∀ b, L b → w'.heap[b]? = w1.heap[b]? :=
  h.call fun o p hv b hL => (hd o p hL.tree hL.ownd).mono fun e w' hh => ⟨hh.1, hL.inner hh.2⟩
end
def cutP (id at' f u i n a : Int) : Int × Int := if n = id ∧ at' < a then (f, a - at') else if 0 ≤ u ∧ n = u ∧ i < a then (n, a + 1) else (n, a)
def joinP (x o l u i n a : Int) : Int × Int := if n = o then (x, a + l) else if n = u ∧ a = i then (x, l) else if n = u ∧ i < a then (n, a - 1) else (n, a)
section
variable {T T' : Tr}
theorem may_cut {id at' f u i : Int} (h1 : T'.lengthOf id = at') (h2 : T'.lengthOf f = T.lengthOf id - at') (h3 : 0 ≤ u → T'.lengthOf u = T.lengthOf u + 1) (h4 : ∀ n, n ≠ id → n ≠ f → n ≠ u → T'.lengthOf n = T.lengthOf n) (hf : T.lengthOf f = -1)
    (hu : u ≠ id) (hun : u < 0 → T.lengthOf u = -1) (h0 : 0 ≤ at') {n a : Int} (hm : T.may n a = true) : T'.may (cutP id at' f u i n a).1 (cutP id at' f u i n a).2 = true := by
  have hh := may_iff.1 hm
  unfold cutP
  by_cases c1 : n = id ∧ at' < a
  · rw [if_pos c1]
    obtain ⟨rfl, c2⟩ := c1
    refine may_iff.2 ⟨by show 0 ≤ a - at'; omega, ?_⟩
    show a - at' ≤ T'.lengthOf f
    rw [h2]; omega
  · rw [if_neg c1]
    by_cases c2 : 0 ≤ u ∧ n = u ∧ i < a
    · rw [if_pos c2]
      obtain ⟨c3, rfl, c4⟩ := c2
      refine may_iff.2 ⟨by show 0 ≤ a + 1; omega, ?_⟩
      show a + 1 ≤ T'.lengthOf n
      rw [h3 c3]; omega
    · rw [if_neg c2]
      refine may_iff.2 ⟨hh.1, ?_⟩
      show a ≤ T'.lengthOf n
      by_cases e1 : n = id
      · subst e1; rw [h1]; omega
      · by_cases e2 : n = f
        · subst e2; rw [hf] at hh; omega
        · by_cases e3 : n = u
          · subst e3
            by_cases e4 : 0 ≤ n
            · rw [h3 e4]; omega
            · rw [hun (by omega)] at hh; omega
          · rw [h4 n e1 e2 e3]; exact hh.2
theorem may_join {x o l u i : Int} (h1 : T'.lengthOf x = l + T.lengthOf o) (h2 : T'.lengthOf u = T.lengthOf u - 1) (h3 : ∀ n, n ≠ x → n ≠ o → n ≠ u → T'.lengthOf n = T.lengthOf n) (hx : T.lengthOf x = l) (ho : 0 ≤ T.lengthOf o) (hux : u ≠ x) (hi : 0 ≤ i ∧ i + 1 ≤ T.lengthOf u) (h0 : 0 ≤ l) {n a : Int} (hm : T.may n a = true) :
    T'.may (joinP x o l u i n a).1 (joinP x o l u i n a).2 = true := by
  have hh := may_iff.1 hm
  unfold joinP
  by_cases c1 : n = o
  · rw [if_pos c1]
    subst c1
    refine may_iff.2 ⟨by show 0 ≤ a + l; omega, ?_⟩
    show a + l ≤ T'.lengthOf x
    rw [h1]; omega
  · rw [if_neg c1]
    by_cases c2 : n = u ∧ a = i
    · rw [if_pos c2]
      refine may_iff.2 ⟨h0, ?_⟩
      show l ≤ T'.lengthOf x
      rw [h1]; omega
    · rw [if_neg c2]
      by_cases c3 : n = u ∧ i < a
      · rw [if_pos c3]
        obtain ⟨rfl, c4⟩ := c3
        refine may_iff.2 ⟨by show 0 ≤ a - 1; omega, ?_⟩
        show a - 1 ≤ T'.lengthOf n
        rw [h2]; omega
      · rw [if_neg c3]
        refine may_iff.2 ⟨hh.1, ?_⟩
        show a ≤ T'.lengthOf n
        by_cases e3 : n = u
        · subst e3; rw [h2]; omega
        · by_cases e4 : n = x
          · subst e4; rw [h1]; omega
          · rw [h3 n e4 c1 e3]; exact hh.2
end
section
variable {P : Program} {ops : Array Oper} {Q : Exit → Act → World → Prop} {md : Region.Mode} {S : World → Prop} {n : Nat}
def wpN (P : Program) (md : Region.Mode) (ops : Array Oper) (Q : Exit → Act → World → Prop) (S : World → Prop) (n : Nat) : Nat → Array Bool → Act → World → Prop
  | 0, l, a, w => Region.ready md ops l = [] ∧ Q .normal a w
  | f + 1, l, a, w => (Region.ready md ops l = [] → Q .normal a w) ∧ ∀ i ∈ Region.ready md ops l, wpOp P ops Q i (fun a' w' => ((l.setIfInBounds i true).getD n false = true ∨ S w') ∧ wpN P md ops Q S n f (l.setIfInBounds i true) a' w') a w
theorem wpN_any : ∀ (f : Nat) (l : Array Bool) (a : Act) (w : World), wpN P md ops Q S n f l a w → wpAny P md ops Q f l a w := by
  intro f
  induction f with
  | zero => exact fun l a w h => h
  | succ f ih => exact fun l a w h => ⟨h.1, fun i hi => wpOp_mono (fun a' w' k => ih _ a' w' k.2) (h.2 i hi)⟩
theorem getD_undone {l : Array Bool} {j n : Nat} (h : l.getD n false = false) (hj : j ≠ n) : (l.setIfInBounds j true).getD n false = false := by
  rw [Array.getD_eq_getD_getElem?, Array.getElem?_setIfInBounds_ne hj, ← Array.getD_eq_getD_getElem?]
  exact h
theorem wpN_first {i : Nat} {o : Oper} {v : Value} (ho : ops[i]? = some o) (hs : Region.noSelect ops = true) (hw : waits md ops n i = true) (hQ : ∀ c a w, Q (.panic c) (a.put o.dst v) w → Q (.panic c) a w) :
    ∀ (f : Nat) (l : Array Bool) (a : Act) (w : World), l.getD n false = false → (∀ (j : Nat) (oj : Oper), ops[j]? = some oj → j ≠ i → l.getD j true = false → (∀ e ∈ oj.after, Region.binds md e = true → e.on ≠ i) → o.apart ops oj = true) →
      i ∈ Region.ready md ops l → YieldsIf P ops S o v a → S w → wpN P md ops Q S n f (l.setIfInBounds i true) (a.put o.dst v) w → wpN P md ops Q S n (f + 1) l a w := by
  have hsel := Region.noSelect_spec hs
  intro f
  induction f with
  | zero =>
    intro l a w _ _ hr hy hS H
    refine ⟨fun h => (by rw [h] at hr; cases hr), fun j hj => ?_⟩
    rcases Classical.em (j = i) with rfl | hji
    · exact hy.wpOp ho hS ⟨.inr hS, H⟩
    · have h0 := ready_mono hj hji
      rw [H.1] at h0; cases h0
  | succ f ih =>
    intro l a w hun0 hfree hr hy hS H
    refine ⟨fun h => (by rw [h] at hr; cases hr), fun j hj => ?_⟩
    rcases Classical.em (j = i) with rfl | hji
    · exact hy.wpOp ho hS ⟨.inr hS, H⟩
    · obtain ⟨hun, oj, hoj, hall⟩ := mem_ready.1 hj
      have hno : ∀ e ∈ oj.after, Region.binds md e = true → e.on ≠ i := fun e he hb e2 => unlisted (mem_ready.1 hr).1 (e2 ▸ hall e he hb)
      have hjn := ready_waits hr hj hw
      have step := wpOp_putIf hoj (hfree j oj hoj hji hun hno) (fun cs b => hsel i o cs b ho) (fun cs b => hsel j oj cs b hoj) hQ hy (H.2 j (ready_mono hj hji))
      refine wpOp_mono (fun a' w' k => ?_) step
      have hin : i ≠ n := by
        rintro rfl
        exact ready_waits hr hr hw rfl
      have hu2 := getD_undone hun0 hjn
      have hS' : S w' := k.2.1.resolve_left (by rw [getD_undone (getD_undone hun0 hin) hjn]; decide)
      refine ⟨.inr hS', ih (l.setIfInBounds j true) a' w' hu2 (fun m om hm hmi hmu hmn => hfree m om hm hmi ?_ hmn) (ready_mono hr (Ne.symm hji)) k.1 hS' ?_⟩
      · rcases Classical.em (j = m) with rfl | hjm
        · exact hun
        · rw [getD_set_ne true hjm] at hmu; exact hmu
      · rw [Array.setIfInBounds_comm _ _ hji]; exact k.2.2
theorem wpN_take {i : Nat} {o : Oper} {v : Value} {f : Nat} {l : Array Bool} {a : Act} {w : World} (ho : ops[i]? = some o) (hs : Region.noSelect ops = true) (hf : Region.free md ops l i = true) (hr : (Region.ready md ops l).contains i = true) (hw : waits md ops n i = true) (hn : l.getD n false = false)
    (hQ : ∀ c a w, Q (.panic c) (a.put o.dst v) w → Q (.panic c) a w) (hy : YieldsIf P ops S o v a) (hS : S w) (h : wpN P md ops Q S n f (l.setIfInBounds i true) (a.put o.dst v) w) : wpN P md ops Q S n (f + 1) l a w :=
  wpN_first ho hs hw hQ f l a w hn (Region.free_spec ho hf) (by simpa using hr) hy hS h
def chainN (md : Region.Mode) (ops : Array Oper) (l : Array Bool) (i n : Nat) : List Nat → Bool
  | [] => i == n
  | k :: ks => waits md ops k i && l.getD k true == false && chainN md ops l k n ks
theorem ready_waits' {l : Array Bool} {p j k : Nat} (hp : l.getD p true = false) (hj : j ∈ Region.ready md ops l) (hw : waits md ops k p = true) : j ≠ k := by
  rintro rfl
  obtain ⟨_, o, ho, hall⟩ := mem_ready.1 hj
  unfold waits at hw
  rw [ho] at hw
  obtain ⟨e, he, hb⟩ := List.any_eq_true.1 hw
  simp only [Bool.and_eq_true, beq_iff_eq] at hb
  have h1 := hall e (Array.mem_toList_iff.1 he) hb.1
  rw [hb.2] at h1
  exact unlisted hp h1
theorem chainN_step {l : Array Bool} {j n : Nat} (hj : j ∈ Region.ready md ops l) : ∀ (ks : List Nat) (i : Nat), l.getD i true = false → j ≠ i → chainN md ops l i n ks = true → chainN md ops (l.setIfInBounds j true) i n ks = true ∧ j ≠ n ∧ l.getD n true = false := by
  intro ks
  induction ks with
  | nil =>
    intro i h0 hji hc
    have e : i = n := by simpa [chainN] using hc
    subst e
    exact ⟨hc, hji, h0⟩
  | cons k ks ih =>
    intro i h0 hji hc
    simp only [chainN, Bool.and_eq_true, beq_iff_eq] at hc
    obtain ⟨⟨h1, h2⟩, h3⟩ := hc
    have hjk := ready_waits' h0 hj h1
    obtain ⟨h4, h5, h6⟩ := ih k h2 hjk h3
    refine ⟨?_, h5, h6⟩
    simp only [chainN, Bool.and_eq_true, beq_iff_eq]
    exact ⟨⟨h1, by rw [getD_set_ne true hjk]; exact h2⟩, h4⟩
theorem getD_false {l : Array Bool} {n : Nat} (h : l.getD n true = false) : l.getD n false = false := by
  cases e : l.getD n false with
  | false => rfl
  | true => exact (unlisted h e).elim
theorem wpN_firstC {i : Nat} {o : Oper} {v : Value} (ho : ops[i]? = some o) (hs : Region.noSelect ops = true) (ks : List Nat) (hin : i ≠ n) (hQ : ∀ c a w, Q (.panic c) (a.put o.dst v) w → Q (.panic c) a w) :
    ∀ (f : Nat) (l : Array Bool) (a : Act) (w : World), chainN md ops l i n ks = true → (∀ (j : Nat) (oj : Oper), ops[j]? = some oj → j ≠ i → l.getD j true = false → (∀ e ∈ oj.after, Region.binds md e = true → e.on ≠ i) → o.apart ops oj = true) →
      i ∈ Region.ready md ops l → YieldsIf P ops S o v a → S w → wpN P md ops Q S n f (l.setIfInBounds i true) (a.put o.dst v) w → wpN P md ops Q S n (f + 1) l a w := by
  have hsel := Region.noSelect_spec hs
  intro f
  induction f with
  | zero =>
    intro l a w _ _ hr hy hS H
    refine ⟨fun h => (by rw [h] at hr; cases hr), fun j hj => ?_⟩
    rcases Classical.em (j = i) with rfl | hji
    · exact hy.wpOp ho hS ⟨.inr hS, H⟩
    · have h0 := ready_mono hj hji
      rw [H.1] at h0; cases h0
  | succ f ih =>
    intro l a w hc hfree hr hy hS H
    refine ⟨fun h => (by rw [h] at hr; cases hr), fun j hj => ?_⟩
    rcases Classical.em (j = i) with rfl | hji
    · exact hy.wpOp ho hS ⟨.inr hS, H⟩
    · obtain ⟨hun, oj, hoj, hall⟩ := mem_ready.1 hj
      have hno : ∀ e ∈ oj.after, Region.binds md e = true → e.on ≠ i := fun e he hb e2 => unlisted (mem_ready.1 hr).1 (e2 ▸ hall e he hb)
      obtain ⟨hc2, hjn, hund⟩ := chainN_step hj ks i (mem_ready.1 hr).1 hji hc
      have step := wpOp_putIf hoj (hfree j oj hoj hji hun hno) (fun cs b => hsel i o cs b ho) (fun cs b => hsel j oj cs b hoj) hQ hy (H.2 j (ready_mono hj hji))
      refine wpOp_mono (fun a' w' k => ?_) step
      have hS' : S w' := k.2.1.resolve_left (by rw [getD_undone (getD_undone (getD_false hund) hin) hjn]; decide)
      refine ⟨.inr hS', ih (l.setIfInBounds j true) a' w' hc2 (fun m om hm hmi hmu hmn => hfree m om hm hmi ?_ hmn) (ready_mono hr (Ne.symm hji)) k.1 hS' ?_⟩
      · rcases Classical.em (j = m) with rfl | hjm
        · exact hun
        · rw [getD_set_ne true hjm] at hmu; exact hmu
      · rw [Array.setIfInBounds_comm _ _ hji]; exact k.2.2
theorem wpN_takeC {i : Nat} {o : Oper} {v : Value} {f : Nat} {l : Array Bool} {a : Act} {w : World} (ks : List Nat) (ho : ops[i]? = some o) (hs : Region.noSelect ops = true) (hf : Region.free md ops l i = true) (hr : (Region.ready md ops l).contains i = true) (hc : chainN md ops l i n ks = true) (hin : i ≠ n)
    (hQ : ∀ c a w, Q (.panic c) (a.put o.dst v) w → Q (.panic c) a w) (hy : YieldsIf P ops S o v a) (hS : S w) (h : wpN P md ops Q S n f (l.setIfInBounds i true) (a.put o.dst v) w) : wpN P md ops Q S n (f + 1) l a w :=
  wpN_firstC ho hs ks hin hQ f l a w hc (Region.free_spec ho hf) (by simpa using hr) hy hS h
theorem wpN_one {i : Nat} {o : Oper} {f : Nat} {l : Array Bool} {a : Act} {w : World} (hr : Region.ready md ops l = [i]) (ho : ops[i]? = some o)
    (h : ∀ K : Act → World → Prop, Shut (∀ a w, ((l.setIfInBounds i true).getD n false = true ∨ S w) → wpN P md ops Q S n f (l.setIfInBounds i true) a w → K a w) → if Region.wanted o (yielded ops a.tmps) = true then Oper.wp P o a w K Q else K (a.put o.dst undef) w) : wpN P md ops Q S n (f + 1) l a w := by
  refine ⟨fun h => (by rw [hr] at h; cases h), fun j hj => ?_⟩
  rw [hr] at hj
  obtain rfl : j = i := by simpa using hj
  exact wpOp_step ho fun K hK => h K fun a w h1 h2 => hK a w ⟨h1, h2⟩
theorem wpN_two {i j : Nat} {oi oj : Oper} {f : Nat} {l : Array Bool} {a : Act} {w : World} (hr : Region.ready md ops l = [i, j]) (hi : ops[i]? = some oi) (hj : ops[j]? = some oj)
    (h1 : ∀ K : Act → World → Prop, Shut (∀ a w, ((l.setIfInBounds i true).getD n false = true ∨ S w) → wpN P md ops Q S n f (l.setIfInBounds i true) a w → K a w) → if Region.wanted oi (yielded ops a.tmps) = true then Oper.wp P oi a w K Q else K (a.put oi.dst undef) w)
    (h2 : ∀ K : Act → World → Prop, Shut (∀ a w, ((l.setIfInBounds j true).getD n false = true ∨ S w) → wpN P md ops Q S n f (l.setIfInBounds j true) a w → K a w) → if Region.wanted oj (yielded ops a.tmps) = true then Oper.wp P oj a w K Q else K (a.put oj.dst undef) w) : wpN P md ops Q S n (f + 1) l a w := by
  refine ⟨fun h => (by rw [hr] at h; cases h), fun m hm => ?_⟩
  rw [hr] at hm
  have hm' : m = i ∨ m = j := by simpa using hm
  rcases hm' with rfl | rfl
  · exact wpOp_step hi fun K hK => h1 K fun a w h1 h2 => hK a w ⟨h1, h2⟩
  · exact wpOp_step hj fun K hK => h2 K fun a w h1 h2 => hK a w ⟨h1, h2⟩
theorem wpN_three {i j k : Nat} {oi oj ok : Oper} {f : Nat} {l : Array Bool} {a : Act} {w : World} (hr : Region.ready md ops l = [i, j, k]) (hi : ops[i]? = some oi) (hj : ops[j]? = some oj) (hk : ops[k]? = some ok)
    (h1 : ∀ K : Act → World → Prop, Shut (∀ a w, ((l.setIfInBounds i true).getD n false = true ∨ S w) → wpN P md ops Q S n f (l.setIfInBounds i true) a w → K a w) → if Region.wanted oi (yielded ops a.tmps) = true then Oper.wp P oi a w K Q else K (a.put oi.dst undef) w)
    (h2 : ∀ K : Act → World → Prop, Shut (∀ a w, ((l.setIfInBounds j true).getD n false = true ∨ S w) → wpN P md ops Q S n f (l.setIfInBounds j true) a w → K a w) → if Region.wanted oj (yielded ops a.tmps) = true then Oper.wp P oj a w K Q else K (a.put oj.dst undef) w)
    (h3 : ∀ K : Act → World → Prop, Shut (∀ a w, ((l.setIfInBounds k true).getD n false = true ∨ S w) → wpN P md ops Q S n f (l.setIfInBounds k true) a w → K a w) → if Region.wanted ok (yielded ops a.tmps) = true then Oper.wp P ok a w K Q else K (a.put ok.dst undef) w) : wpN P md ops Q S n (f + 1) l a w := by
  refine ⟨fun h => (by rw [hr] at h; cases h), fun m hm => ?_⟩
  rw [hr] at hm
  have hm' : m = i ∨ m = j ∨ m = k := by simpa using hm
  rcases hm' with rfl | rfl | rfl
  · exact wpOp_step hi fun K hK => h1 K fun a w h1 h2 => hK a w ⟨h1, h2⟩
  · exact wpOp_step hj fun K hK => h2 K fun a w h1 h2 => hK a w ⟨h1, h2⟩
  · exact wpOp_step hk fun K hK => h3 K fun a w h1 h2 => hK a w ⟨h1, h2⟩
theorem wpN_four {i j k m : Nat} {oi oj ok om : Oper} {f : Nat} {l : Array Bool} {a : Act} {w : World} (hr : Region.ready md ops l = [i, j, k, m]) (hi : ops[i]? = some oi) (hj : ops[j]? = some oj) (hk : ops[k]? = some ok) (hm : ops[m]? = some om)
    (h1 : ∀ K : Act → World → Prop, Shut (∀ a w, ((l.setIfInBounds i true).getD n false = true ∨ S w) → wpN P md ops Q S n f (l.setIfInBounds i true) a w → K a w) → if Region.wanted oi (yielded ops a.tmps) = true then Oper.wp P oi a w K Q else K (a.put oi.dst undef) w)
    (h2 : ∀ K : Act → World → Prop, Shut (∀ a w, ((l.setIfInBounds j true).getD n false = true ∨ S w) → wpN P md ops Q S n f (l.setIfInBounds j true) a w → K a w) → if Region.wanted oj (yielded ops a.tmps) = true then Oper.wp P oj a w K Q else K (a.put oj.dst undef) w)
    (h3 : ∀ K : Act → World → Prop, Shut (∀ a w, ((l.setIfInBounds k true).getD n false = true ∨ S w) → wpN P md ops Q S n f (l.setIfInBounds k true) a w → K a w) → if Region.wanted ok (yielded ops a.tmps) = true then Oper.wp P ok a w K Q else K (a.put ok.dst undef) w)
    (h4 : ∀ K : Act → World → Prop, Shut (∀ a w, ((l.setIfInBounds m true).getD n false = true ∨ S w) → wpN P md ops Q S n f (l.setIfInBounds m true) a w → K a w) → if Region.wanted om (yielded ops a.tmps) = true then Oper.wp P om a w K Q else K (a.put om.dst undef) w) : wpN P md ops Q S n (f + 1) l a w := by
  refine ⟨fun h => (by rw [hr] at h; cases h), fun z hz => ?_⟩
  rw [hr] at hz
  have hz' : z = i ∨ z = j ∨ z = k ∨ z = m := by simpa using hz
  rcases hz' with rfl | rfl | rfl | rfl
  · exact wpOp_step hi fun K hK => h1 K fun a w h1 h2 => hK a w ⟨h1, h2⟩
  · exact wpOp_step hj fun K hK => h2 K fun a w h1 h2 => hK a w ⟨h1, h2⟩
  · exact wpOp_step hk fun K hK => h3 K fun a w h1 h2 => hK a w ⟨h1, h2⟩
  · exact wpOp_step hm fun K hK => h4 K fun a w h1 h2 => hK a w ⟨h1, h2⟩
theorem name_act' {A0 : Act} {f : Nat} {L : Array Bool} {w : World} (h : ∀ A, A = A0 → wpN P md ops Q S n f L A w) : wpN P md ops Q S n f L A0 w := h A0 rfl
theorem wpN_done {f : Nat} {l : Array Bool} {a : Act} {w : World} (hr : Region.ready md ops l = []) (h : Q .normal a w) : wpN P md ops Q S n f l a w := by
  cases f with
  | zero => exact ⟨hr, h⟩
  | succ f => exact ⟨fun _ => h, fun i hi => by rw [hr] at hi; cases hi⟩
theorem wp_region_N {id : Nat} {a : Act} {w : World} (hm : P.follows .mixedOrders = true) (h : wpN P .any ops Q S n ops.size (Array.replicate ops.size false) a w.drew) : (Code.region id ops true).wp P Q a w :=
  wp_region_any hm (wpN_any _ _ _ _ h)
theorem with_wpN {f : Nat} {L : Array Bool} {a : Act} {w : World} (h : ∀ W : Nat → Array Bool → Act → World → Prop, (∀ f L a w, wpN P md ops Q S n f L a w → W f L a w) → (∀ f L a w, W f L a w → wpN P md ops Q S n f L a w) → W f L a w) : wpN P md ops Q S n f L a w :=
  h (wpN P md ops Q S n) (fun _ _ _ _ h => h) (fun _ _ _ _ h => h)
end
theorem pNone_nil (w : World) : Calls Tryz.prog 46 #[.pointer none] w (RSame (.bool true) w) := by
  go_enter Tryz.func46, Tryz.ntmps46
  go_wp2_with fail
  go_ret
  exact ⟨rfl, rfl⟩
theorem pNone_some {w : World} {b : Nat} {a : Addr} (h : w.cell? ⟨b, 0, none⟩ = some (.pointer (some a))) : Calls Tryz.prog 46 #[.pointer (some ⟨b, 0, none⟩)] w (RSame (.bool false) w) := by
  go_enter Tryz.func46, Tryz.ntmps46
  go_wp2_with fail
  go_ret
  exact ⟨rfl, rfl⟩
section
variable {w : World} {own : Ow} {ptr : Nat → Nat} {lb tb : Nat} {T : Tr} {hv : Value} {hb : Option Nat} {H : List Hd}
theorem pFull_any (h : LiveAt w own ptr lb tb T hv hb H) : Calls Tryz.prog 48 #[.pointer (some ⟨lb, 0, none⟩)] w (RBool (decide (T.cap ≤ T.count)) w) := by
  have HR := qh (Room_any h.tree)
  have HH := qh h
  have c0 := h.ptr_
  clear h
  go_enter Tryz.func48, Tryz.ntmps48
  go_wp2_with (go_at_call 64; refine HR.out.mono ?_)
  rintro e w1 ⟨rfl, hx1⟩
  have HC := qh (Count_any (HH.out.ext hx1).tree)
  have c1 := hx1.cell c0
  have X1 := qh hx1
  clear hx1 c0
  go_wp2_with (go_at_call 91; refine HC.out.mono ?_; rintro e w2 ⟨rfl, rfl⟩)
  go_ret
  exact ⟨rfl, X1.out⟩
end
theorem pSplitText_nil (x y : Int) (w : World) : Calls Tryz.prog 10 #[.pointer none, .int .i64 x, .int .i64 y] w (RTwo (.int .i64 0) (.int .i64 1) w) := by
  have HN := qh pNone_nil
  go_enter Tryz.func10, Tryz.ntmps10
  go_wp2_with (go_at_call 46; refine (HN.out _).mono ?_; rintro e w' ⟨rfl, rfl⟩)
  go_ret2
  exact ⟨rfl, by repeat (first | exact Ext.refl _ | refine Ext.alloc ?_ _)⟩
theorem pSplit_nil (x y : Int) (w : World) : Calls Tryz.prog 11 #[.pointer none, .int .i64 x, .int .i64 y] w (RTwo (.int .i64 0) (.int .i64 1) w) := by
  have HN := qh pNone_nil
  go_enter Tryz.func11, Tryz.ntmps11
  go_wp2_with (go_at_call 46; refine (HN.out _).mono ?_; rintro e w' ⟨rfl, rfl⟩)
  go_ret2
  exact ⟨rfl, by repeat (first | exact Ext.refl _ | refine Ext.alloc ?_ _)⟩
theorem pWrap_nil (x y z t : Int) (a : Option Addr) (n c : Nat) (w : World) : Calls Tryz.prog 12 #[.pointer none, .int .i64 x, .int .i64 y, .int .i64 z, .int .i64 t, .slice a n c] w (RTwo (.int .i64 0) (.int .i64 1) w) := by
  have HN := qh pNone_nil
  go_enter Tryz.func12, Tryz.ntmps12
  go_wp2_with (go_at_call 46; refine (HN.out _).mono ?_; rintro e w' ⟨rfl, rfl⟩)
  go_ret2
  exact ⟨rfl, by repeat (first | exact Ext.refl _ | refine Ext.alloc ?_ _)⟩
theorem pUnwrap_nil (x : Int) (w : World) : Calls Tryz.prog 13 #[.pointer none, .int .i64 x] w (RVal (.int .i64 1) w) := by
  have HN := qh pNone_nil
  go_enter Tryz.func13, Tryz.ntmps13
  go_wp2_with (go_at_call 46; refine (HN.out _).mono ?_; rintro e w' ⟨rfl, rfl⟩)
  go_ret
  exact ⟨rfl, by repeat (first | exact Ext.refl _ | refine Ext.alloc ?_ _)⟩
theorem pMove_nil (x y z : Int) (w : World) : Calls Tryz.prog 14 #[.pointer none, .int .i64 x, .int .i64 y, .int .i64 z] w (RVal (.int .i64 1) w) := by
  have HN := qh pNone_nil
  go_enter Tryz.func14, Tryz.ntmps14
  go_wp2_with (go_at_call 46; refine (HN.out _).mono ?_; rintro e w' ⟨rfl, rfl⟩)
  go_ret
  exact ⟨rfl, by repeat (first | exact Ext.refl _ | refine Ext.alloc ?_ _)⟩
theorem pNormalise_nil (x : Int) (w : World) : Calls Tryz.prog 15 #[.pointer none, .int .i64 x] w (RVal (.int .i64 1) w) := by
  have HN := qh pNone_nil
  go_enter Tryz.func15, Tryz.ntmps15
  go_wp2_with (go_at_call 46; refine (HN.out _).mono ?_; rintro e w' ⟨rfl, rfl⟩)
  go_ret
  exact ⟨rfl, by repeat (first | exact Ext.refl _ | refine Ext.alloc ?_ _)⟩
theorem pFlat_nil (x : Int) (w : World) : Calls Tryz.prog 16 #[.pointer none, .int .i64 x] w (RVal (.string ByteArray.empty) w) := by
  have HN := qh pNone_nil
  go_enter Tryz.func16, Tryz.ntmps16
  go_wp2_with (go_at_call 46; refine (HN.out _).mono ?_; rintro e w' ⟨rfl, rfl⟩)
  go_ret
  exact ⟨rfl, by repeat (first | exact Ext.refl _ | refine Ext.alloc ?_ _)⟩
theorem push_place {w0 w : World} {v : Value} {P : List (Int × Int)} {c : Nat} (hr : RowP w (fun g => w0.heap.size ≤ g) 53 2 v c (plC P)) (hs : w0.heap.size ≤ w.heap.size) (hl : c ≤ 100000) (n a : Int) :
    ∃ v' w', (Builtin.append_ #[155, 155] 155 #[v, .slice (some ⟨w.heap.size, 0, none⟩) 1 1]).run Tryz.prog (w.alloc (.cells #[.int .i64 n, .int .i64 a] 53)) = .ok v' w' ∧ RowP w' (fun g => w0.heap.size ≤ g) 53 2 v' (c + 1) (plC (P ++ [(n, a)])) ∧ ∀ wb : World, Ext wb w → wb.heap.size ≤ w0.heap.size → Ext wb w' := by
  obtain ⟨j0, hj, hy0, hy1, hy2⟩ := info_parts infoPlace
  have x3 := (Ext.refl w).alloc (.cells #[.int .i64 n, .int .i64 a] 53)
  have n3 := heap_alloc_new w (.cells #[.int .i64 n, .int .i64 a] 53)
  obtain ⟨v2, wD, row2, hrun2, hr2, hg2, hrow2⟩ := run_append_row (P := Tryz.prog) (w.alloc (.cells #[.int .i64 n, .int .i64 a] 53)) 155 155 53 j0 _ 2 16 Tryz.underlying155 hj hy0 hy1 hy2 (by kernel_rfl) (by decide)
    (RowP.ext hr x3) ⟨w.heap.size, 0, none⟩ 1 1 [.int .i64 n, .int .i64 a] rfl (by
      intro j u hj
      rw [Addr.add_lit, Nat.zero_add]
      refine cellOf n3 ?_
      rw [← Array.getElem?_toList]; exact hj) (by intro u hu; simp at hu; rcases hu with rfl | rfl <;> rfl) (by decide) (by unfold maxLen; omega) (by omega)
  refine ⟨v2, wD, hrun2, ?_, fun wb xb hb => (xb.trans x3).grown hg2 fun k hk => Nat.le_trans hb (hrow2 k hk)⟩
  rw [plC_append]
  exact RowP.imp hr2 (q := fun g => w0.heap.size ≤ g) fun g _ hg => by
    rcases hg with h | h
    · exact h
    · exact Nat.le_trans hs (Nat.le_trans x3.size h)
def keptTo (H H1 : List Hd) (f : Int → Int → Int × Int) (S : List Int) : List Hd := H1.mapIdx fun j y => if (j : Int) ∈ S then (match H[j]? with | some x => moved f x | none => y) else y
theorem keptTo_get (H H1 : List Hd) (f : Int → Int → Int × Int) (S : List Int) (j : Nat) : (keptTo H H1 f S)[j]? = (H1[j]?).map fun y => if (j : Int) ∈ S then (match H[j]? with | some x => moved f x | none => y) else y := by
  unfold keptTo
  rw [List.getElem?_mapIdx]
theorem keptTo_nil (H H1 : List Hd) (f : Int → Int → Int × Int) : keptTo H H1 f [] = H1 := by
  refine List.ext_getElem? fun j => ?_
  rw [keptTo_get]
  cases H1[j]? with
  | none => rfl
  | some y => simp
theorem keptTo_len (H H1 : List Hd) (f : Int → Int → Int × Int) (S : List Int) : (keptTo H H1 f S).length = H1.length := by simp [keptTo]
theorem keptTo_set {H H1 : List Hd} {f : Int → Int → Int × Int} {S : List Int} {k : Nat} {x : Hd} (hx : H[k]? = some x) : (keptTo H H1 f S).set k (moved f x) = keptTo H H1 f (S ++ [(k : Int)]) := by
  refine List.ext_getElem? fun j => ?_
  rw [List.getElem?_set, keptTo_get, keptTo_get, keptTo_len]
  by_cases e : k = j
  · subst e
    rw [if_pos rfl]
    cases h : H1[k]? with
    | none =>
      have := List.getElem?_eq_none_iff.1 h
      rw [if_neg (by omega)]; rfl
    | some y =>
      have := (List.getElem?_eq_some_iff.1 h).1
      rw [if_pos this, hx]
      simp
  · rw [if_neg e]
    cases H1[j]? with
    | none => rfl
    | some y =>
      have e2 : ((j : Int) ∈ S ++ [(k : Int)]) ↔ (j : Int) ∈ S := by
        rw [List.mem_append, List.mem_singleton]
        constructor
        · rintro (h | h)
          · exact h
          · omega
        · exact .inl
      simp only [Option.map_some, e2]
theorem mem_handles {H : List Hd} {n : Nat} {j : Nat} : (j : Int) ∈ handles H n ↔ j < n ∧ (heldAt H (j : Int)).isSome = true := by
  unfold handles
  rw [List.mem_map]
  constructor
  · rintro ⟨k, hk, e⟩
    have e2 : k = j := by omega
    subst e2
    have := List.mem_filter.1 hk
    exact ⟨List.mem_range.1 this.1, this.2⟩
  · rintro ⟨h1, h2⟩
    exact ⟨j, List.mem_filter.2 ⟨List.mem_range.2 h1, h2⟩, rfl⟩
def SameOff (H H1 : List Hd) : Prop := H1.length = H.length ∧ ∀ (j : Nat) (x y : Hd), H[j]? = some x → H1[j]? = some y → (x.off = 0 ↔ y.off = 0) ∧ (x.off ≠ 0 → y = x)
theorem keptTo_all {H H1 : List Hd} {f : Int → Int → Int × Int} (h : SameOff H H1) : keptTo H H1 f (handles H H.length) = H.map (moved f) := by
  refine List.ext_getElem? fun j => ?_
  rw [keptTo_get, List.getElem?_map]
  cases hx : H[j]? with
  | none =>
    have := List.getElem?_eq_none_iff.1 hx
    rw [List.getElem?_eq_none (by rw [h.1]; exact this)]
    rfl
  | some x =>
    have hj := (List.getElem?_eq_some_iff.1 hx).1
    obtain ⟨y, hy⟩ : ∃ y, H1[j]? = some y := ⟨_, List.getElem?_eq_getElem (by rw [h.1]; exact hj)⟩
    rw [hy]
    simp only [Option.map_some]
    by_cases h0 : x.off = 0
    · rw [if_pos (mem_handles.2 ⟨hj, by rw [heldAt_of hx h0]; rfl⟩)]
    · rw [if_neg (fun hm => by
        have h2 := (mem_handles.1 hm).2
        rw [heldAt_off hx h0] at h2
        cases h2)]
      rw [(h.2 j x y hx hy).2 h0]
      unfold moved
      rw [if_neg h0]
theorem handles_held {H : List Hd} {n : Nat} {k : Int} (h : k ∈ handles H n) : ∃ x, heldAt H k = some x := by
  unfold handles at h
  obtain ⟨j, hj, rfl⟩ := List.mem_map.1 h
  have h1 := (List.mem_filter.1 hj).2
  cases hh : heldAt H (j : Int) with
  | none => rw [hh] at h1; cases h1
  | some x => exact ⟨x, rfl⟩
theorem addr_block (a : Addr) (j : Nat) : (a.add j).block = a.block := by unfold Addr.add; split <;> rfl
theorem RowP.sameB {w w' : World} {p : Nat → Prop} {e size n : Nat} {v : Value} {xs : List Value} (h : RowP w p e size v n xs) (k : ∀ g, p g → w'.heap[g]? = w.heap[g]?) : RowP w' p e size v n xs := by
  refine ⟨h.1, ?_⟩
  rcases h.2 with h0 | ⟨g, cap, cur, h1, h2, h3, h4⟩
  · exact .inl h0
  · exact .inr ⟨g, cap, cur, h1, h2, (k g h2).trans h3, h4⟩
def DoesK (own : Ow) (lb tb : Nat) (hb : Option Nat) (w : World) (L : Nat → Prop) (T : Tr) (H : List Hd) (T' : Tr) (H1 : List Hd) (wk : World) (K : World → Prop) (fv : Value) : Prop :=
  ∃ (g : Nat) (lbs : Array Value), fv = .func (.func g) #[] lbs ∧ (∀ args w, (callFunc g args).run Tryz.prog w = .ok (.enter g args) w) ∧
    ∀ (L' : Nat → Prop) (W : World), (∀ b, L b → L' b) → LK own lb tb hb w L' T H W → (∀ b, L b → W.heap[b]? = wk.heap[b]?) →
      Calls Tryz.prog g lbs W fun e W' => e = .returned (.tuple #[]) ∧ LK own lb tb hb w L' T' H1 W' ∧ (∀ b, L' b → ¬ L b → W'.heap[b]? = W.heap[b]?) ∧ K W'
def ByK (own : Ow) (lb tb : Nat) (hb : Option Nat) (w : World) (L : Nat → Prop) (T' : Tr) (K : World → Prop) (f : Int → Int → Int × Int) (fv : Value) : Prop :=
  ∃ (g : Nat) (lbs : Array Value), fv = .func (.func g) #[] lbs ∧ (∀ args w, (callFunc g args).run Tryz.prog w = .ok (.enter g args) w) ∧
    ∀ (W : World) (H2 : List Hd) (n a : Int), LK own lb tb hb w L T' H2 W → K W → okP n a → Calls Tryz.prog g (#[pl n a] ++ lbs) W (RPlace (f n a).1 (f n a).2 W)
def placeOf (H : List Hd) (k : Int) : Int × Int := match heldAt H k with | some x => (x.node, x.at') | none => (0, 0)
section
variable {own : Ow} {lb tb : Nat} {hb : Option Nat} {w wk : World} {L : Nat → Prop} {T T' : Tr} {H H1 : List Hd}
def KeptIs (own : Ow) (lb tb : Nat) (hb : Option Nat) (w : World) (L : Nat → Prop) (T' : Tr) (H' : List Hd) (K : World → Prop) (e : Ending) (W' : World) : Prop := e = .returned (.tuple #[]) ∧ LK own lb tb hb w L T' H' W' ∧ K W'
theorem kept_any (hk : LK own lb tb hb w L T H wk) (hl : H.length ≤ 50000) (hok : okH H) {K : World → Prop} {f : Int → Int → Int × Int} {fd fb : Value} (hdo : DoesK own lb tb hb w L T H T' H1 wk K fd) (hby : ByK own lb tb hb w L T' K f fb)
    (hK : ∀ W W' : World, K W → (∀ b, L b → W'.heap[b]? = W.heap[b]?) → K W') (hso : SameOff H H1) (hG : GoodT T') (hm : ∀ x ∈ H, x.off = 0 → T'.may (f x.node x.at').1 (f x.node x.at').2 = true) :
    Calls Tryz.prog 50 #[.pointer (some ⟨lb, 0, none⟩), fd, fb] wk (KeptIs own lb tb hb w L T' (H.map (moved f)) K) := by
  obtain ⟨gd, ld, rfl, hen1, hdo⟩ := hdo
  obtain ⟨gb, lbb, rfl, hen2, hby⟩ := hby
  obtain ⟨o, p, hv, b, hLV⟩ := hk.live
  have HLV := qh hLV
  have HDO := qh hdo
  have HBY := qh hby
  have HKK := qh hK
  have HSO := qh hso
  have HG := qh hG
  have HM := qh hm
  have HOK := qh hok
  have HK0 := qh hk
  have HL := qh hl
  have hLl : ∀ b, L b → b < wk.heap.size := by
    obtain ⟨_, _, _, _, _, _, h3⟩ := hk.out
    exact fun b hb => (h3 b hb).2.2
  have HLL := qh hLl
  obtain ⟨hs, hhs⟩ : ∃ hs, handles H H.length = hs := ⟨_, rfl⟩
  have HHS := qh hhs
  have hsl : hs.length ≤ 50000 := by have := handles_len H H.length; rw [hhs] at this; omega
  clear hLV hdo hby hK hso hG hm hok hk hLl hl hhs
  go_enter Tryz.func50, Tryz.ntmps50
  go_wp2_with fail
  refine (lHandles_any HLV.out (by have := HL.out; omega)).mono ?_
  rintro e u2 ⟨vh, rfl, hrh, hxh, hown⟩
  rw [HHS.out] at hrh hown
  obtain ⟨ha, hcap, rfl, hcells⟩ := hrh.ints
  have HCE := qh hcells
  have HXH := qh hxh
  have HOWN := qh hown
  clear hrh hxh hcells hown
  go_wp2_with fail
  go_loopw [6, 9, 10, 11, 18] (fun v _ _ _ iv wr => ∃ j : Nat, j ≤ hs.length ∧ iv = .int .i64 j ∧ Ext u2 wr ∧ RowP wr (fun g => u2.heap.size ≤ g) 53 2 v j (plC ((hs.take j).map (placeOf H)))) (fun _ _ _ _ iv _ => hs.length - (intOf iv).toNat)
  case atStart => exact ⟨0, Nat.zero_le _, rfl, Ext.refl _, rfl, .inl ⟨rfl, none, rfl⟩⟩
  case round =>
    rename World => wr
    obtain ⟨j, hjm, rfl, hxw, hrow⟩ := hrel
    obtain ⟨av, cv, rfl, hcv⟩ := hrow.len_of'
    have HXW := qh hxw
    have HROW := qh hrow
    clear hxw hrow
    by_cases hjl : j < hs.length
    · obtain ⟨y, hy⟩ : ∃ y, hs[j]? = some y := ⟨_, List.getElem?_eq_getElem hjl⟩
      obtain ⟨hav, rfl, qy⟩ := HCE.out j y hy
      replace qy := HXW.out.cells _ _ qy
      obtain ⟨x, hx⟩ := handles_held (by rw [HHS.out]; exact List.mem_of_getElem? hy : y ∈ handles H H.length)
      have hLw := HLV.out.ext (HXH.out.trans HXW.out)
      have hheld := lHeld_any hLw y (by have := HL.out; omega)
      unfold heldV at hheld
      rw [hx] at hheld
      have HHELD := qh hheld
      have HJL := qh hjl
      have hpl : placeOf H y = (x.node, x.at') := by unfold placeOf; rw [hx]
      have hnx : (hs.take (j + 1)).map (placeOf H) = (hs.take j).map (placeOf H) ++ [(x.node, x.at')] := by
        rw [List.take_add_one, hy, List.map_append]
        show _ ++ [placeOf H y] = _
        rw [hpl]
      have HNX := qh hnx
      have j0 : (0 : Int) ≤ (j : Int) := by omega
      have j1 : (j : Int) < (hs.length : Int) := by omega
      have jtn : (j : Int).toNat = j := by omega
      have e5 : decide ((j : Int) < (hs.length : Int)) = true := decide_eq_true (by omega)
      have e5n : decide (j < hs.length) = true := decide_eq_true hjl
      clear hx hLw hheld hy hjl hjm hpl hnx
      go_wp2_with fail
      refine HHELD.out.mono ?_
      rintro e w5 ⟨rfl, hx5⟩
      have xb5 := hx5.alloc (.cells #[.int .i64 x.node, .int .i64 x.at'] 53)
      have b5 := heap_alloc_new w5 (.cells #[.int .i64 x.node, .int .i64 x.at'] 53)
      obtain ⟨wb, hwb⟩ : ∃ W : World, W = w5.alloc (.cells #[.int .i64 x.node, .int .i64 x.at'] 53) := ⟨_, rfl⟩
      obtain ⟨pb, hpb⟩ : ∃ b, w5.heap.size = b := ⟨_, rfl⟩
      rw [← hwb] at xb5 b5
      rw [hpb] at b5
      have XB := qh (HXW.out.trans xb5)
      have B5 := qh b5
      have HWB := qh hwb
      have HPB := qh hpb
      obtain ⟨v', wA, hrun, hrA, hxA⟩ := push_place (w0 := u2) (w := wb) (P := (hs.take j).map (placeOf H)) (HROW.out.ext xb5) (HXW.out.trans xb5).size (by omega) x.node x.at'
      have HRUN := qh hrun
      have HRA := qh hrA
      have HXA := qh (hxA u2 (HXW.out.trans xb5) (Nat.le_refl _))
      obtain ⟨a2, c2', ev, hc2⟩ := hrA.len_of'
      subst ev
      clear hx5 xb5 b5 hwb hpb hrun hrA hxA
      go_upto_region 6 with fail
      rw [← HWB.out, HPB.out]
      have p0 := cellOf B5.out (i := 0) (v := .int .i64 x.node) rfl
      have p1 := cellOf B5.out (i := 1) (v := .int .i64 x.at') rfl
      go_wp2_with (at_builtin; refine wpList_append_run _ rfl _ _ 155 rfl _ _ rfl rfl _ _ HRUN.out ?_)
      go_roundw
      case rel =>
        refine ⟨j + 1, by have := HJL.out; omega, by go_num, HXA.out, ?_⟩
        rw [HNX.out]
        exact HRA.out
      case measure => have := HJL.out; simp [intOf]; omega
    · have hje : j = hs.length := by omega
      subst hje
      have e5 : decide ((hs.length : Int) < (hs.length : Int)) = false := decide_eq_false (by omega)
      have e5n : decide (hs.length < hs.length) = false := decide_eq_false (by omega)
      have hrow := HROW.out
      rw [List.take_length] at hrow
      have HW0 := qh (HXH.out.trans HXW.out)
      have HR0 := qh (RowP.lt_ hrow)
      have hgrow := HK0.out.grow HW0.out
      have HDO2 := qh (HDO.out _ wr (fun b hb => .inl hb) hgrow (fun b hb => Below.block HW0.out b (HLL.out b hb)))
      clear hrow hgrow hjl hjm
      go_wp2_with (go_at_fn gd; refine HDO2.out.mono ?_)
      rintro e W5 ⟨rfl, hLK5, hfr5, hK5⟩
      have HLK5 := qh hLK5
      have HK5 := qh hK5
      have HFR5 := qh (fun b (h : wk.heap.size ≤ b ∧ b < wr.heap.size) => hfr5 b (.inr h) (fun e => by have := HLL.out b e; omega))
      clear hLK5 hfr5 hK5 e5 e5n
      go_wp2_with fail
      go_loopw [12, 13, 37] (fun _ _ iv W => ∃ i : Nat, i ≤ hs.length ∧ iv = .int .i64 i ∧ LK own lb tb hb w (fun b => L b ∨ (wk.heap.size ≤ b ∧ b < wr.heap.size)) T' (keptTo H H1 f (hs.take i)) W ∧ (∀ b, wk.heap.size ≤ b ∧ b < wr.heap.size → W.heap[b]? = wr.heap[b]?) ∧ K W) (fun _ _ iv _ => hs.length - (intOf iv).toNat)
      case atStart => exact ⟨0, Nat.zero_le _, rfl, by rw [List.take_zero, keptTo_nil]; exact HLK5.out, fun b h => HFR5.out b h, HK5.out⟩
      case round =>
        rename World => wi
        obtain ⟨i, him, rfl, hlk, hsm, hKi⟩ := hrel
        have HLK := qh hlk
        have HSM := qh hsm
        have HKI := qh hKi
        clear hlk hsm hKi
        by_cases hlt : i < hs.length
        · obtain ⟨y, hy⟩ : ∃ y, hs[i]? = some y := ⟨_, List.getElem?_eq_getElem hlt⟩
          obtain ⟨hav, rfl, qy⟩ := HCE.out i y hy
          have hbl := World.block_lt_of_cell? _ _ qy
          rw [addr_block] at hbl
          have hge : wk.heap.size ≤ hav.block := by
            rcases HOWN.out hav.block rfl with h | h
            · rw [h] at hlt; simp at hlt
            · exact h
          have hb9 : wi.heap[(hav.add i).block]? = wr.heap[(hav.add i).block]? := by rw [addr_block]; exact HSM.out _ ⟨hge, Nat.lt_of_lt_of_le hbl HXW.out.size⟩
          replace qy := (World.cell?_of_block hb9).trans (HXW.out.cells _ _ qy)
          obtain ⟨x, hx⟩ := handles_held (by rw [HHS.out]; exact List.mem_of_getElem? hy : y ∈ handles H H.length)
          have hpl : placeOf H y = (x.node, x.at') := by unfold placeOf; rw [hx]
          obtain ⟨k, rfl, hxk, hxo⟩ := heldAt_some hx
          have hrow := RowP.sameB HR0.out (w' := wi) (fun g hg => HSM.out g ⟨Nat.le_trans HXH.out.size hg.1, hg.2⟩)
          have hpg := plC_get (P := hs.map (placeOf H)) (i := i) (p := (x.node, x.at')) (by rw [List.getElem?_map, hy]; exact congrArg some hpl)
          obtain ⟨g, cap, cur, ev, -, -, hgr, hc0⟩ := hrow.at_ hpg.1
          obtain ⟨g', cap', cur', ev', -, -, hgr', hc1⟩ := hrow.at_ hpg.2
          obtain ⟨rfl, rfl⟩ : g' = g ∧ cap' = cap := by
            rw [ev] at ev'
            cases ev'
            exact ⟨rfl, rfl⟩
          obtain rfl : cur' = cur := by
            rw [hgr] at hgr'
            cases hgr'
            rfl
          obtain ⟨rfl, rfl⟩ : av = some ⟨g', 0, none⟩ ∧ cv = cap' := by cases ev; exact ⟨rfl, rfl⟩
          have p0 := cellOf hgr hc0
          have p1 := cellOf hgr hc1
          obtain ⟨⟨d', hw'⟩, ha'⟩ := HG.out
          have HBYI := qh (HBY.out wi _ x.node x.at' (HLK.out.mono fun b hb => .inl hb) HKI.out (HOK.out x (List.mem_of_getElem? hxk) hxo))
          obtain ⟨n', hn'⟩ : ∃ z, (f x.node x.at').1 = z := ⟨_, rfl⟩
          obtain ⟨a', ha''⟩ : ∃ z, (f x.node x.at').2 = z := ⟨_, rfl⟩
          have hmv : moved f x = ⟨n', a', 0⟩ := by
            unfold moved
            rw [if_pos hxo, hn', ha'']
          have hmy : T'.may n' a' = true := by
            have h9 := HM.out x (List.mem_of_getElem? hxk) hxo
            rw [hn', ha''] at h9
            exact h9
          have hkl := (List.getElem?_eq_some_iff.1 hxk).1
          obtain ⟨y1, hy1⟩ : ∃ y1, H1[k]? = some y1 := ⟨_, List.getElem?_eq_getElem (by rw [HSO.out.1]; exact hkl)⟩
          have hheld : (heldAt (keptTo H H1 f (hs.take i)) (k : Int)).isSome = true := by
            have h1 := keptTo_get H H1 f (hs.take i) k
            rw [hy1, hxk] at h1
            by_cases hmem : (k : Int) ∈ hs.take i
            · simp only [Option.map_some, if_pos hmem] at h1
              rw [heldAt_of h1 (by rw [hmv])]
              rfl
            · simp only [Option.map_some, if_neg hmem] at h1
              rw [heldAt_of h1 ((HSO.out.2 k x y1 hxk hy1).1.1 hxo)]
              rfl
          have hnext : placed (keptTo H H1 f (hs.take i)) T' (k : Int) n' a' = keptTo H H1 f (hs.take (i + 1)) := by
            unfold placed
            rw [hheld, hmy]
            show (keptTo H H1 f (hs.take i)).set ((k : Int)).toNat ⟨n', a', 0⟩ = _
            rw [Int.toNat_natCast, ← hmv, keptTo_set hxk, List.take_add_one, hy]
            rfl
          obtain ⟨er, her⟩ : ∃ er, placeErr (keptTo H H1 f (hs.take i)) T' (k : Int) n' a' = er := ⟨_, rfl⟩
          have HPC := qh (fun (W2 : World) (x2 : Ext wi W2) => (HLK.out.more x2).call (v := .int .i64 er) (T' := T') (H' := keptTo H H1 f (hs.take (i + 1))) (P := Tryz.prog) (f := 117) (args := #[.pointer (some ⟨lb, 0, none⟩), .int .i64 (k : Int), pl n' a']) fun o p hv b hL => by
            have h9 := lPlace_any hL hw' ha' (k : Int) n' a' (by rw [keptTo_len, HSO.out.1]; have := HL.out; omega)
            rw [hnext, her] at h9
            exact h9)
          rw [hn', ha''] at HBYI
          have HLT := qh hlt
          have j0 : (0 : Int) ≤ (i : Int) := by omega
          have j1 : (i : Int) < (hs.length : Int) := by omega
          have jtn : (i : Int).toNat = i := by omega
          have e5 : decide ((i : Int) < (hs.length : Int)) = true := decide_eq_true (by omega)
          have e5n : decide (i < hs.length) = true := decide_eq_true hlt
          clear hb9 hy hbl hge hx hpl hxk hxo hrow hpg ev ev' hgr hgr' hc0 hc1 hw' ha' hn' ha'' hmv hmy hkl hy1 hheld hnext her hlt him
          go_wp2_with (go_at_fn gb; refine HBYI.out.mono ?_)
          rintro e w7 ⟨rfl, hx7⟩
          have X7 := qh hx7
          clear hx7 p0 p1 qy
          go_wp2_with (go_at_call 117; refine (HPC.out _ X7.out).mono ?_)
          rintro e w8 ⟨rfl, hk8, hf8⟩
          have hsz : ∀ b, wk.heap.size ≤ b ∧ b < wr.heap.size → b < wi.heap.size := by
            obtain ⟨_, _, _, _, _, _, h3⟩ := HLK.out.out
            exact fun b hb => (h3 b (.inr hb)).2.2
          have hszL : ∀ b, L b → b < wi.heap.size := by
            obtain ⟨_, _, _, _, _, _, h3⟩ := HLK.out.out
            exact fun b hb => (h3 b (.inl hb)).2.2
          have HF := qh (And.intro hk8 (And.intro (fun b (hb : wk.heap.size ≤ b ∧ b < wr.heap.size) => (hf8 b (.inr hb)).trans ((Below.block X7.out b (hsz b hb)).trans (HSM.out b hb))) (HKK.out wi w8 HKI.out fun b hb => (hf8 b (.inl hb)).trans (Below.block X7.out b (hszL b hb)))))
          clear hk8 hf8 hsz hszL
          go_wp2_with fail
          go_roundw
          case rel => exact ⟨i + 1, by have := HLT.out; omega, by go_num, HF.out⟩
          case measure => have := HLT.out; simp [intOf]; omega
        · have hie : i = hs.length := by omega
          subst hie
          have e5 : decide ((hs.length : Int) < (hs.length : Int)) = false := decide_eq_false (by omega)
          have e5n : decide (hs.length < hs.length) = false := decide_eq_false (by omega)
          have hfin := HLK.out
          rw [List.take_length, ← HHS.out, keptTo_all HSO.out] at hfin
          have HF := qh (And.intro (hfin.mono (L' := L) fun b hb => .inl hb) HKI.out)
          clear hfin hlt him
          go_wp2_with fail
          go_end0
          exact ⟨rfl, HF.out⟩
end
section
variable {T T' : Tr} {H : List Hd}
theorem Insert_live (h : StOk T H) (hl : H.length ≤ 100000) {p q k er : Int} (hG' : GoodT T') (htold : InsTold T T' p q k er)
    (pd : ∀ (w : World) (own : Ow) (ptr : Nat → Nat) (tb : Nat), TreeAt w own ptr tb T → Owned own w → Calls Tryz.prog 122 #[.pointer (some ⟨tb, 0, none⟩), .int .i64 p, .int .i64 q, .int .i64 k] w (ErrAfter own w tb er T')) :
    StOk T' (movedIf er (insP p q 1) H) ∧ (∀ (w : World) (own : Ow) (ptr : Nat → Nat) (lb tb : Nat) (hv : Value) (hb : Option Nat), LiveAt w own ptr lb tb T hv hb H → Calls Tryz.prog 54 (#[.pointer (some ⟨lb, 0, none⟩)] ++ #[.int .i64 p, .int .i64 q, .int .i64 k]) w (LErr own lb tb hb w er T' (movedIf er (insP p q 1) H))) := by
  have hu := h.utf.ins htold
  have hok : er = 0 → okI p ∧ okI q ∧ StOk T' (movedIf er (insP p q 1) H) := by
    intro e
    rcases htold with ⟨e2, _⟩ | ⟨_, p', a', k', pd', kd, rfl, rfl, rfl, h1, h2, h3, h4, h5, h6, rfl⟩
    · exact absurd e e2
    · obtain ⟨⟨d, hw⟩, ha⟩ := h.good
      have hs := len_small ⟨⟨d, hw⟩, ha⟩ (Tr.get_of h1)
      have hk := hw.kids_len h1
      obtain ⟨l1, l2⟩ := link_len h1 h2 h4 h3 (tag_ne hw h1) h6
      refine ⟨by unfold okI; omega, by unfold okI; omega, ?_⟩
      subst e
      show StOk _ (if (0 : Int) = 0 then _ else _)
      rw [if_pos rfl]
      exact ⟨hG', h.may.map fun n a hm => may_ins l1 l2 n a hm, offs_moved _ h.offs, hu⟩
  refine ⟨?_, fun w own ptr lb tb hv hb hL => lInsert_any hL hl p q k (fun W x => pd W own ptr tb (hL.ext x).tree (hL.ext x).ownd) fun e => ⟨(hok e).1, (hok e).2.1, h.okH⟩⟩
  by_cases e : er = 0
  · exact (hok e).2.2
  · rcases htold with ⟨_, rfl⟩ | ⟨e2, _⟩
    · unfold movedIf; rw [if_neg e]; exact h
    · exact absurd e2 e
theorem Remove_live (h : StOk T H) (hl : H.length ≤ 100000) {id er : Int} (hG' : GoodT T') (htold : RemTold T T' id er)
    (pd : ∀ (w : World) (own : Ow) (ptr : Nat → Nat) (tb : Nat), TreeAt w own ptr tb T → Owned own w → Calls Tryz.prog 131 #[.pointer (some ⟨tb, 0, none⟩), .int .i64 id] w (ErrAfter own w tb er T')) :
    StOk T' (movedIf er (remP T' id (T.up id) (T.idx id)) H) ∧ (∀ (w : World) (own : Ow) (ptr : Nat → Nat) (lb tb : Nat) (hv : Value) (hb : Option Nat), LiveAt w own ptr lb tb T hv hb H → Calls Tryz.prog 70 (#[.pointer (some ⟨lb, 0, none⟩)] ++ #[.int .i64 id]) w (LErr own lb tb hb w er T' (movedIf er (remP T' id (T.up id) (T.idx id)) H))) := by
  have hu := h.utf.rem htold
  obtain ⟨⟨d, hw⟩, ha⟩ := h.good
  obtain ⟨⟨d', hw'⟩, ha'⟩ := hG'
  have hG : GoodT T := ⟨⟨d, hw⟩, ha⟩
  have hok : er = 0 → okI (T.up id) ∧ okI (T.idx id) ∧ StOk T' (movedIf er (remP T' id (T.up id) (T.idx id)) H) ∧ movedIf er (goneL (T.allOf id) (T.up id) (T.idx id)) H = movedIf er (remP T' id (T.up id) (T.idx id)) H := by
    intro e
    rcases htold with ⟨e2, _⟩ | ⟨_, p', k', pd', kd, rfl, h1, h2, h3, h4, h5, rfl⟩
    · exact absurd e e2
    · have hgk := Tr.get_of h2
      have hup : T.up (k' : Int) = (p' : Int) := by rw [Tr.up_some hgk, h3]
      have ht : pd'.tag ≠ 0 := fun e => by
        have h9 := (hw.text _ pd' h1).2.2 e
        rw [h9] at h4
        cases h4
      have hn := (hw.kids p' pd' h1).1
      have hlk := linked_unlink hw hw' h1 h2 h5 h3 hn h4
      have hix : T.idx (k' : Int) = (pd'.kids.idxOf (k' : Int) : Int) := hlk.idxk
      have hil := List.idxOf_lt_length_of_mem h4
      have hs := len_small hG (Tr.get_of h1)
      have hkl := lengthOf_kids hw h1 ht
      obtain ⟨l1, l2⟩ := unlink_len h1 h2 h5 ht (tag_ne hw h1) h4
      have hgot : ∀ n, (∃ nd, T.get? n = some nd) → ∃ nd, (T.unlink p' k' pd' kd).get? n = some nd := by
        intro n hn
        obtain ⟨nd, hn⟩ := hn
        refine got_of_len ?_
        by_cases e : n = (p' : Int)
        · rw [e, l2, hkl]; omega
        · rw [l1 n e]; exact (len_small hG hn).2.2.1
      subst e
      refine ⟨by unfold okI; omega, by rw [hix]; unfold okI; omega, ?_, ?_⟩
      · show StOk _ (if (0 : Int) = 0 then _ else _)
        rw [if_pos rfl]
        exact ⟨⟨⟨d', hw'⟩, ha'⟩, h.may.map fun n a hm => by
          rw [hup, hix]
          exact may_rem l1 l2 (by omega) (by rw [hkl]; omega) n a hm, offs_moved _ h.offs, hu⟩
      · show (if (0 : Int) = 0 then _ else _) = (if (0 : Int) = 0 then _ else _)
        rw [if_pos rfl, if_pos rfl]
        refine moved_congr fun x hx h0 => ?_
        have hg := may_got' (h.may x hx h0)
        obtain ⟨nd, hnd⟩ := hg
        have e1 := hw.mem_all hgk hnd
        have e2 := hlk.win_old hw' hw ⟨kd, hgk⟩ ⟨nd, hnd⟩
        have e3 := hlk.win_new hw' (hgot _ ⟨kd, hgk⟩) (hgot _ ⟨nd, hnd⟩)
        unfold goneL remP
        by_cases hin : x.node ∈ T.allOf (k' : Int)
        · rw [if_pos hin, if_pos (e3.2 (e2.1 (e1.1 hin)))]
        · rw [if_neg hin, if_neg (fun e => hin (e1.2 (e2.2 (e3.1 e))))]
  refine ⟨?_, fun w own ptr lb tb hv hb hL => lRemove_any hL hl id (T.up id) (T.idx id) hw' (fun W x => ?_) (fun W x => at_idx ((hL.ext x).tree.tat (hL.ext x).ownd) hw id) (fun W x => pd W own ptr tb (hL.ext x).tree (hL.ext x).ownd) fun e => ⟨(hok e).1, (hok e).2.1, h.okH⟩⟩
  · by_cases e : er = 0
    · exact (hok e).2.2.1
    · rcases htold with ⟨_, rfl⟩ | ⟨e2, _⟩
      · unfold movedIf; rw [if_neg e]; exact h
      · exact absurd e2 e
  · cases hg : T.get? id with
    | none => rw [Tr.up_none hg]; exact Parent_none (hL.ext x).tree hg
    | some nd => rw [Tr.up_some hg]; exact Parent_some (hL.ext x).tree hg
theorem Drop_live (h : StOk T H) (hl : H.length ≤ 100000) {id er : Int} (hG' : GoodT T') (htold : DropTold T T' id er)
    (pd : ∀ (w : World) (own : Ow) (ptr : Nat → Nat) (tb : Nat), TreeAt w own ptr tb T → Owned own w → Calls Tryz.prog 134 #[.pointer (some ⟨tb, 0, none⟩), .int .i64 id] w (ErrAfter own w tb er T')) :
    StOk T' (movedIf er (dropP (T.allOf id)) H) ∧ (∀ (w : World) (own : Ow) (ptr : Nat → Nat) (lb tb : Nat) (hv : Value) (hb : Option Nat), LiveAt w own ptr lb tb T hv hb H → Calls Tryz.prog 71 (#[.pointer (some ⟨lb, 0, none⟩)] ++ #[.int .i64 id]) w (LErr own lb tb hb w er T' (movedIf er (dropP (T.allOf id)) H))) := by
  have hu := h.utf.drop htold
  obtain ⟨⟨d, hw⟩, ha⟩ := h.good
  have hG : GoodT T := ⟨⟨d, hw⟩, ha⟩
  refine ⟨?_, fun w own ptr lb tb hv hb hL => lDrop_any hL hl id hw (fun W x => pd W own ptr tb (hL.ext x).tree (hL.ext x).ownd)⟩
  · rcases htold with ⟨e, rfl⟩ | ⟨rfl, i, nd, rfl, h1, h2, h3, rfl⟩
    · unfold movedIf; rw [if_neg e]; exact h
    · show StOk _ (if (0 : Int) = 0 then _ else _)
      rw [if_pos rfl]
      refine ⟨hG', h.may.rid (fun j hj => ?_) ?_, offs_moved _ h.offs, hu⟩
      · cases hg : T.get? (j : Int) with
        | none => exact absurd hg hj
        | some jd => rw [hw.mem_all (Tr.get_of h1) hg, hw.win_within _ ⟨jd, hg⟩]
      · obtain ⟨⟨d2, hw2⟩, ha2⟩ := hG'
        obtain ⟨rd, hr, _⟩ := hw2.root
        exact (len_small ⟨⟨d2, hw2⟩, ha2⟩ (Tr.get_of hr)).2.2.1
theorem SetText_live (h : StOk T H) (hl : H.length ≤ 100000) {id er : Int} {s : ByteArray} (hs : s.size ≤ 30000) (hG' : GoodT T') (htold : TextTold T T' id s er)
    (pd : ∀ (w : World) (own : Ow) (ptr : Nat → Nat) (tb : Nat), TreeAt w own ptr tb T → Owned own w → Calls Tryz.prog 159 #[.pointer (some ⟨tb, 0, none⟩), .int .i64 id, .string s] w (ErrAfter own w tb er T')) :
    ∃ c : Nat, StOk T' (movedIf er (repP id 0 c (runes s)) H) ∧ (∀ (w : World) (own : Ow) (ptr : Nat → Nat) (lb tb : Nat) (hv : Value) (hb : Option Nat), LiveAt w own ptr lb tb T hv hb H → Calls Tryz.prog 53 (#[.pointer (some ⟨lb, 0, none⟩)] ++ #[.int .i64 id, .string s]) w (LErr own lb tb hb w er T' (movedIf er (repP id 0 c (runes s)) H))) := by
  have hu := h.utf.text htold
  obtain ⟨⟨d, hw⟩, ha⟩ := h.good
  have hG : GoodT T := ⟨⟨d, hw⟩, ha⟩
  obtain ⟨c, hc⟩ : ∃ c : Nat, max 0 (T.lengthOf id) = (c : Int) := ⟨(max 0 (T.lengthOf id)).toNat, by omega⟩
  have hc2 : c ≤ 1000000 := by
    cases hg : T.get? id with
    | none => rw [lengthOf_eq, hg] at hc; simp at hc; omega
    | some nd => have := len_small hG hg; omega
  have hok : er = 0 → okI id ∧ c = runes (T.txt id) ∧ StOk T' (movedIf er (repP id 0 c (runes s)) H) := by
    intro e
    rcases htold with ⟨e2, _⟩ | ⟨_, i, nd, rfl, h1, h2, rfl⟩
    · exact absurd e e2
    · have hg := Tr.get_of h1
      have hle : T.lengthOf (i : Int) = (runes nd.text : Int) := by
        rw [lengthOf_eq, hg]
        show (if nd.tag = -1 then _ else if nd.tag = 0 then _ else _) = _
        rw [if_neg (by omega), if_pos h2]
      have hce : (c : Int) = runes nd.text := by omega
      have htx : T.txt (i : Int) = nd.text := by unfold Tr.txt; rw [hg]
      have hs9 := len_small hG hg
      subst e
      refine ⟨by unfold okI; omega, by rw [htx]; omega, ?_⟩
      show StOk _ (if (0 : Int) = 0 then _ else _)
      rw [if_pos rfl]
      obtain ⟨l1, l2⟩ := settext_len (T' := T.setAt i { nd with text := anewB s }) (s := anewB s) h1 h2 rfl
      have hra : runes (anewB s) = runes s := by unfold runes; rw [runes_anew]
      exact ⟨hG', h.may.map fun n a hm => may_rep l1 (by rw [l2, hra, hle, hce]; omega) (by omega) (by omega) (by omega) (by rw [hle]; omega) n a hm, offs_moved _ h.offs, hu⟩
  refine ⟨c, ?_, fun w own ptr lb tb hv hb hL => lSetText_any hL hl hw ha id s (by omega) hc hc2 (fun W x => pd W own ptr tb (hL.ext x).tree (hL.ext x).ownd) fun e => ⟨(hok e).1, h.okH⟩⟩
  by_cases e : er = 0
  · exact (hok e).2.2
  · rcases htold with ⟨_, rfl⟩ | ⟨e2, _⟩
    · unfold movedIf; rw [if_neg e]; exact h
    · exact absurd e2 e
theorem SameOff.refl (H : List Hd) : SameOff H H := ⟨rfl, fun j x y hx hy => by
  rw [hx] at hy
  cases hy
  exact ⟨Iff.rfl, fun _ => rfl⟩⟩
theorem SameOff.trans {A B C : List Hd} (h : SameOff A B) (k : SameOff B C) : SameOff A C := ⟨k.1.trans h.1, fun j x z hx hz => by
  have hj := (List.getElem?_eq_some_iff.1 hx).1
  obtain ⟨y, hy⟩ : ∃ y, B[j]? = some y := ⟨_, List.getElem?_eq_getElem (by rw [h.1]; exact hj)⟩
  obtain ⟨a1, a2⟩ := h.2 j x y hx hy
  obtain ⟨b1, b2⟩ := k.2 j y z hy hz
  refine ⟨a1.trans b1, fun h0 => ?_⟩
  have e := a2 h0
  rw [b2 (fun e2 => h0 (a1.2 e2)), e]⟩
theorem SameOff.map (H : List Hd) (f : Int → Int → Int × Int) : SameOff H (H.map (moved f)) := ⟨by simp, fun j x y hx hy => by
  rw [List.getElem?_map, hx] at hy
  cases hy
  unfold moved
  by_cases h0 : x.off = 0
  · rw [if_pos h0]; exact ⟨⟨fun _ => rfl, fun _ => h0⟩, fun h => absurd h0 h⟩
  · rw [if_neg h0]; exact ⟨Iff.rfl, fun _ => rfl⟩⟩
theorem SameOff.movedIf (H : List Hd) (er : Int) (f : Int → Int → Int × Int) : SameOff H (Go.Proofs.YtfibikkcfmohjaaGreat.movedIf er f H) := by
  unfold Go.Proofs.YtfibikkcfmohjaaGreat.movedIf
  split
  · exact SameOff.map H f
  · exact SameOff.refl H
end
theorem runes_of {l : List Int} (hv : ∀ r ∈ l, Utf8.valid r = true) : runeList (runesBytes l) (runesBytes l).size 0 = l := by
  rw [runeList_rlL, runesBytes_list]
  have h := rlL_enc l hv []
  rw [List.append_nil, rlL_nil, List.append_nil] at h
  exact h
theorem anewB_of {l : List Int} (hv : ∀ r ∈ l, Utf8.valid r = true) : anewB (runesBytes l) = runesBytes l := by
  unfold anewB
  rw [runes_of hv]
theorem bytes_ext {a b : ByteArray} (h : a.data.toList = b.data.toList) : a = b := by
  cases a; cases b
  simp only [ByteArray.mk.injEq]
  exact Array.toList_inj.1 h
theorem runesBytes_app (a b : List Int) : runesBytes (a ++ b) = runesBytes a ++ runesBytes b := by
  refine bytes_ext ?_
  rw [ByteArray.data_append, Array.toList_append, runesBytes_list, runesBytes_list, runesBytes_list, List.flatMap_append]
def headB (t : ByteArray) (a : Nat) : ByteArray := runesBytes ((runeList t t.size 0).take a)
def tailB (t : ByteArray) (a : Nat) : ByteArray := runesBytes ((runeList t t.size 0).drop a)
section
variable (t : ByteArray) (a : Nat)
theorem headB_valid : ∀ r ∈ (runeList t t.size 0).take a, Utf8.valid r = true := fun r hr => runeList_valid t _ _ r (List.mem_of_mem_take hr)
theorem tailB_valid : ∀ r ∈ (runeList t t.size 0).drop a, Utf8.valid r = true := fun r hr => runeList_valid t _ _ r (List.mem_of_mem_drop hr)
theorem headB_anew : anewB (headB t a) = headB t a := anewB_of (headB_valid t a)
theorem tailB_anew : anewB (tailB t a) = tailB t a := anewB_of (tailB_valid t a)
theorem headB_tailB : headB t a ++ tailB t a = anewB t := by
  unfold headB tailB anewB
  rw [← runesBytes_app, List.take_append_drop]
theorem headB_size (h : anewB t = t) : (headB t a).size ≤ t.size ∧ (tailB t a).size ≤ t.size := by
  have h1 := congrArg ByteArray.size (headB_tailB t a)
  rw [ByteArray.size_append, h] at h1
  omega
theorem runes_headB (h : a ≤ runes t) : runes (headB t a) = a := by
  unfold runes headB at *
  rw [runes_of (headB_valid t a), List.length_take]
  omega
theorem runes_tailB : runes (tailB t a) = runes t - a := by
  unfold runes tailB
  rw [runes_of (tailB_valid t a), List.length_drop]
end
def Tr.cut1 (T : Tr) (nd : Nd) (a : Nat) : Tr := T.put ⟨0, [], tailB nd.text a, [], -1⟩
def Tr.cut2 (T : Tr) (i : Nat) (nd : Nd) (a : Nat) : Tr := (T.cut1 nd a).setAt i { nd with text := headB nd.text a }
def Tr.cut3 (T : Tr) (i m : Nat) (nd : Nd) (a p x : Nat) (pd : Nd) : Tr := (T.cut2 i nd a).link p x m pd ⟨0, [], tailB nd.text a, [], -1⟩
structure CutOk (T : Tr) (d : Nat → Nat) (i m : Nat) (nd : Nd) (a : Nat) : Prop where
  id : T.newId = (m : Int)
  ne : m ≠ i
  ne0 : m ≠ 0
  none : T.get? (m : Int) = none
  good1 : GoodT (T.cut1 nd a)
  keeps : Keeps T (T.cut1 nd a)
  at1 : (T.cut1 nd a).nodes[i]? = some (some nd)
  wf2 : WF (T.cut2 i nd a) (fun j => if (j : Int) = T.newId then 0 else d j)
  attrs2 : AttrsOk (T.cut2 i nd a)
  new2 : (T.cut2 i nd a).nodes[m]? = some (some ⟨0, [], tailB nd.text a, [], -1⟩)
  at2 : (T.cut2 i nd a).nodes[i]? = some (some { nd with text := headB nd.text a })
  old2 : ∀ (j : Nat) (x : Nd), j ≠ i → T.nodes[j]? = some (some x) → (T.cut2 i nd a).nodes[j]? = some (some x)
  back2 : ∀ (j : Nat) (x : Nd), j ≠ i → j ≠ m → (T.cut2 i nd a).nodes[j]? = some (some x) → T.nodes[j]? = some (some x)
section
variable {T : Tr} {d : Nat → Nat} {i m : Nat} {nd : Nd} {a : Nat}
theorem cut_ok (hw : WF T d) (ha : AttrsOk T) (hu : Utf T) (hn : T.nodes[i]? = some (some nd)) (ht : nd.tag = 0) (a : Nat) (hroom : 1 ≤ T.cap - T.count) : ∃ m, CutOk T d i m nd a := by
  obtain ⟨m, h1, h2, h3, h4, h5, _⟩ := T.put_at ⟨0, [], tailB nd.text a, [], -1⟩
  have hne : m ≠ i := fun e => h3 nd (e ▸ hn)
  have hut := hu i nd hn
  have hts := (ha i nd hn).2
  have hsz := headB_size nd.text a hut
  have hw1 : WF (T.cut1 nd a) _ := hw.put ⟨0, [], tailB nd.text a, [], -1⟩ rfl rfl (by show (0 : Int) ≤ 0; decide) (by show (0 : Int) ≤ 16; decide) (by omega) hw.newId_ne
  have ha1 : AttrsOk (T.cut1 nd a) := ha.put _ ⟨by simp, by show (tailB nd.text a).size ≤ 8192; omega⟩
  have hn1 : (T.cut1 nd a).nodes[i]? = some (some nd) := h4 i nd hn
  have hx := hw.text i nd hn
  have hil := (List.getElem?_eq_some_iff.1 hn1).1
  have hset : ∀ j, (T.cut2 i nd a).nodes[j]? = if i = j then some (some { nd with text := headB nd.text a }) else (T.cut1 nd a).nodes[j]? := by
    intro j
    show ((T.cut1 nd a).nodes.set i _)[j]? = _
    rw [List.getElem?_set]
    by_cases e : i = j
    · rw [if_pos e, if_pos e, if_pos (e ▸ hil)]
    · rw [if_neg e, if_neg e]
  refine ⟨m, h1, hne, fun e => hw.newId_ne (by rw [h1, e]; rfl), h1 ▸ newId_none T, ⟨⟨_, hw1⟩, ha1⟩, put_keeps T _, hn1, hw1.setAt (nd' := { nd with text := headB nd.text a }) hn1 rfl rfl hx.1 hx.2.1 (fun h => h) (fun _ => rfl), ?_, ?_, ?_, fun j x hj hx => ?_, fun j x hj hjm hx => ?_⟩
  · exact ha1.setAt ⟨(ha i nd hn).1, by show (headB nd.text a).size ≤ 8192; omega⟩
  · rw [hset, if_neg (Ne.symm hne)]; exact h2
  · rw [hset, if_pos rfl]
  · rw [hset, if_neg (Ne.symm hj)]; exact h4 j x hx
  · rw [hset, if_neg (Ne.symm hj)] at hx; exact h5 j x hjm hx
theorem CutOk.good2 (h : CutOk T d i m nd a) : GoodT (T.cut2 i nd a) := ⟨⟨_, h.wf2⟩, h.attrs2⟩
theorem CutOk.up (h : CutOk T d i m nd a) (hw : WF T d) (hn : T.nodes[i]? = some (some nd)) {p : Nat} {pd : Nd} (hp : nd.parent = (p : Int)) (hpd : T.nodes[p]? = some (some pd)) (hk : (i : Int) ∈ pd.kids) (hd : d i = d p + 1) :
    p ≠ i ∧ p ≠ m ∧ pd.tag ≠ 0 ∧ (T.cut2 i nd a).nodes[p]? = some (some pd) ∧ (T.cut2 i nd a).within p m = false ∧ (if (p : Int) = T.newId then (0 : Nat) else d p) + (1 : Int) + (T.cut2 i nd a).hgt 50 m ≤ (T.cut2 i nd a).deep := by
  have hpm : p ≠ m := fun e => by
    have h1 := h.none
    rw [← e, Tr.get_of hpd] at h1
    cases h1
  have hpi : p ≠ i := fun e => by subst e; omega
  have htag : pd.tag ≠ 0 := fun e => by
    have h9 := (hw.text p pd hpd).2.2 e
    rw [h9] at hk
    cases hk
  have hp2 := h.old2 p pd hpi hpd
  refine ⟨hpi, hpm, htag, hp2, ?_, ?_⟩
  · cases e : (T.cut2 i nd a).within p m with
    | false => rfl
    | true =>
      rcases h.wf2.within_kid h.new2 p pd hp2 e with e2 | ⟨k, hk, _⟩
      · exact absurd e2 hpm
      · cases hk
  · have hh : (T.cut2 i nd a).hgt 50 m = 0 := by
      rw [hgt_step _ 49 h.new2]; rfl
    have hdi := hw.deep i nd hn
    have hdeep : (T.cut2 i nd a).deep = T.deep := rfl
    rw [hh, hdeep, if_neg (by rw [h.id]; omega)]
    omega
end
theorem splitText_cut (n a p q f u i : Int) (w : World) (hn : okI n) (ha : okI a) (hp : okI p) (hq : okI q) (hf : okI f) (hu : okI u) (hi : okI i) :
    Calls Tryz.prog 56 #[pl n a, .int .i64 p, .int .i64 q, .int .i64 f, .int .i64 u, .int .i64 i] w (RPlace (cutP p q f u i n a).1 (cutP p q f u i n a).2 w) := by
  unfold cutP
  by_cases c1 : n = p ∧ q < a
  · rw [if_pos c1]; exact splitText_here n a p q f u i w hn ha hp hq hf hu hi c1.1 c1.2
  · rw [if_neg c1]
    by_cases c0 : 0 ≤ u
    · by_cases c2 : n = u ∧ i < a
      · rw [if_pos ⟨c0, c2⟩]; exact splitText_up n a p q f u i w hn ha hp hq hf hu hi c1 c0 c2.1 c2.2
      · rw [if_neg (fun h => c2 h.2)]; exact splitText_no n a p q f u i w hn ha hp hq hf hu hi c1 c0 c2
    · rw [if_neg (fun h => c0 h.1)]; exact splitText_root n a p q f u i w hn ha hp hq hf hu hi c1 (by omega)
theorem joinText_is (n a p o m u i : Int) (w : World) (hn : okI n) (ha : okI a) (hp : okI p) (ho : okI o) (hm : okI m) (hu : okI u) (hi : okI i) :
    Calls Tryz.prog 172 #[pl n a, .int .i64 p, .int .i64 o, .int .i64 m, .int .i64 u, .int .i64 i] w (RPlace (joinP p o m u i n a).1 (joinP p o m u i n a).2 w) := by
  unfold joinP
  by_cases c1 : n = o
  · rw [if_pos c1]; exact joinText_in n a p o m u i w hn ha hp ho hm hu hi (beq_iff_eq.2 c1)
  · rw [if_neg c1]
    have b1 : (n == o) = false := beq_eq_false_iff_ne.2 c1
    by_cases c2 : n = u
    · by_cases c3 : a = i
      · rw [if_pos ⟨c2, c3⟩]
        exact joinText_at n a p o m u i w hn ha hp ho hm hu hi b1 (by rw [beq_iff_eq.2 c2, beq_iff_eq.2 c3]; rfl)
      · rw [if_neg (fun h => c3 h.2)]
        have b3 : (a == i) = false := beq_eq_false_iff_ne.2 c3
        by_cases c4 : i < a
        · rw [if_pos ⟨c2, c4⟩]; exact joinText_yes n a p o m u i w hn ha hp ho hm hu hi b1 b3 c2 c4
        · rw [if_neg (fun h => c4 h.2)]; exact joinText_no n a p o m u i w hn ha hp ho hm hu hi b1 b3 c2 c4
    · rw [if_neg (fun h => c2 h.1), if_neg (fun h => c2 h.1)]
      exact joinText_far n a p o m u i w hn ha hp ho hm hu hi b1 (beq_eq_false_iff_ne.2 c2)
theorem bySplitText {W : World} {b0 b1 b2 b3 b4 : Nat} (p q f u i : Int) (o0 : okI p) (o1 : okI q) (o2 : okI f) (o3 : okI u) (o4 : okI i) (h0 : W.heap[b0]? = some (.cells #[.int .i64 p] 3 (0, 0))) (h1 : W.heap[b1]? = some (.cells #[.int .i64 q] 3 (0, 0))) (h2 : W.heap[b2]? = some (.cells #[.int .i64 f] 3 (0, 0))) (h3 : W.heap[b3]? = some (.cells #[.int .i64 u] 3 (0, 0))) (h4 : W.heap[b4]? = some (.cells #[.int .i64 i] 3 (0, 0))) (n a : Int) (hP : okP n a) :
    Calls Tryz.prog 55 #[pl n a, .pointer (some ⟨b0, 0, none⟩), .pointer (some ⟨b1, 0, none⟩), .pointer (some ⟨b2, 0, none⟩), .pointer (some ⟨b3, 0, none⟩), .pointer (some ⟨b4, 0, none⟩)] W (RPlace (cutP p q f u i n a).1 (cutP p q f u i n a).2 W) := by
  have xa := (Ext.refl W).alloc (.cells #[.int .i64 n, .int .i64 a] 53)
  have hba := heap_alloc_new W (.cells #[.int .i64 n, .int .i64 a] 53)
  obtain ⟨wa, hwa⟩ : ∃ V : World, V = W.alloc (.cells #[.int .i64 n, .int .i64 a] 53) := ⟨_, rfl⟩
  have hsz : wa.heap.size = W.heap.size + 1 := by rw [hwa]; simp
  rw [← hwa] at xa hba
  have xb := (Ext.refl wa).alloc (.cells #[.int .i64 0, .int .i64 0] 53)
  have hbb := heap_alloc_new wa (.cells #[.int .i64 0, .int .i64 0] 53)
  have hab := xb.block hba
  obtain ⟨wb, hwb⟩ : ∃ V : World, V = wa.alloc (.cells #[.int .i64 0, .int .i64 0] 53) := ⟨_, rfl⟩
  rw [← hwb] at xb hbb hab
  have c0 := cellOf hab (i := 0) (v := .int .i64 n) rfl
  have c1 := cellOf hab (i := 1) (v := .int .i64 a) rfl
  have e0 := (xa.trans xb).cell (cellOf h0 (i := 0) (v := .int .i64 p) rfl)
  have e1 := (xa.trans xb).cell (cellOf h1 (i := 0) (v := .int .i64 q) rfl)
  have e2 := (xa.trans xb).cell (cellOf h2 (i := 0) (v := .int .i64 f) rfl)
  have e3 := (xa.trans xb).cell (cellOf h3 (i := 0) (v := .int .i64 u) rfl)
  have e4 := (xa.trans xb).cell (cellOf h4 (i := 0) (v := .int .i64 i) rfl)
  have HC := qh (splitText_cut n a p q f u i wb hP.1 hP.2 o0 o1 o2 o3 o4)
  have XB := qh (xa.trans xb)
  have HBB := qh hbb
  have HWA := qh hwa
  have HWB := qh hwb
  have HSZ := qh hsz
  clear xa xb hba hbb hab hwa hwb hsz h0 h1 h2 h3 h4
  go_enter Tryz.func55, Tryz.ntmps55
  go_upto_region 1 with fail
  rw [← HWA.out, ← HWB.out]
  obtain ⟨gb, hgb⟩ : ∃ g, wa.heap.size = g := ⟨_, rfl⟩
  have HGB := qh hgb
  have hg2 : W.heap.size + 1 = gb := by rw [← hgb, HSZ.out]
  first | rw [hgb] | rw [hg2]
  rw [hgb] at HBB
  clear hgb hg2
  go_wp2_with (go_at_call 56; refine HC.out.mono ?_)
  rintro e w2 ⟨rfl, x2⟩
  obtain ⟨n', hn'⟩ : ∃ z, (cutP p q f u i n a).1 = z := ⟨_, rfl⟩
  obtain ⟨a', ha'⟩ : ∃ z, (cutP p q f u i n a).2 = z := ⟨_, rfl⟩
  rw [hn', ha']
  have HN2 := qh hn'
  have HA2 := qh ha'
  have hb2 := x2.block HBB.out
  have k0 := cellOf hb2 (i := 0) rfl
  have k1 := cellOf hb2 (i := 1) rfl
  have f0 := freeOf hb2 0
  have f1 := freeOf hb2 1
  have B3 : ((w2.setCell ⟨gb, 0, none⟩ (.int .i64 n')).setCell ⟨gb, 1, none⟩ (.int .i64 a')).heap[gb]? = some (.cells #[.int .i64 n', .int .i64 a'] 53 (0, 0)) := heap_setCell_same (i := 1) (heap_setCell_same (i := 0) hb2 (.int .i64 n')) (.int .i64 a')
  have HLV := qh (run_loadVar_row (P := Tryz.prog) _ gb 53 53 _ (0, 0) _ B3 Tryz.underlying53 rfl (by kernel_rfl))
  have hgt : W.heap.size ≤ gb := by have h1 := HGB.out; have h2 := HSZ.out; omega
  have XF := qh (((XB.out.trans x2).setCell (p := ⟨gb, 0, none⟩) hgt (.int .i64 n')).setCell (p := ⟨gb, 1, none⟩) hgt (.int .i64 a'))
  clear x2 hb2 B3 c0 c1 hn' ha' hgt
  go_wp2_with fail
  have hlv := HLV.out
  refine bodyPost_ret (v := pl n' a') (by simp [results, Tryz.results55, asAddr, hlv]) rfl ?_
  exact ⟨by show Ending.returned (pl n' a') = Ending.returned (pl (cutP p q f u i n a).1 (cutP p q f u i n a).2); rw [HN2.out, HA2.out], XF.out⟩
theorem byJoin {W : World} {b0 b1 b2 b3 b4 : Nat} (x y l u i : Int) (o0 : okI x) (o1 : okI y) (o2 : okI l) (o3 : okI u) (o4 : okI i) (h0 : W.heap[b0]? = some (.cells #[.int .i64 x] 3 (0, 0))) (h1 : W.heap[b1]? = some (.cells #[.int .i64 y] 3 (0, 0))) (h2 : W.heap[b2]? = some (.cells #[.int .i64 l] 3 (0, 0))) (h3 : W.heap[b3]? = some (.cells #[.int .i64 u] 3 (0, 0))) (h4 : W.heap[b4]? = some (.cells #[.int .i64 i] 3 (0, 0))) (n a : Int) (hP : okP n a) :
    Calls Tryz.prog 171 #[pl n a, .pointer (some ⟨b0, 0, none⟩), .pointer (some ⟨b1, 0, none⟩), .pointer (some ⟨b2, 0, none⟩), .pointer (some ⟨b3, 0, none⟩), .pointer (some ⟨b4, 0, none⟩)] W (RPlace (joinP x y l u i n a).1 (joinP x y l u i n a).2 W) := by
  have xa := (Ext.refl W).alloc (.cells #[.int .i64 n, .int .i64 a] 53)
  have hba := heap_alloc_new W (.cells #[.int .i64 n, .int .i64 a] 53)
  obtain ⟨wa, hwa⟩ : ∃ V : World, V = W.alloc (.cells #[.int .i64 n, .int .i64 a] 53) := ⟨_, rfl⟩
  have hsz : wa.heap.size = W.heap.size + 1 := by rw [hwa]; simp
  rw [← hwa] at xa hba
  have xb := (Ext.refl wa).alloc (.cells #[.int .i64 0, .int .i64 0] 53)
  have hbb := heap_alloc_new wa (.cells #[.int .i64 0, .int .i64 0] 53)
  have hab := xb.block hba
  obtain ⟨wb, hwb⟩ : ∃ V : World, V = wa.alloc (.cells #[.int .i64 0, .int .i64 0] 53) := ⟨_, rfl⟩
  rw [← hwb] at xb hbb hab
  have c0 := cellOf hab (i := 0) (v := .int .i64 n) rfl
  have c1 := cellOf hab (i := 1) (v := .int .i64 a) rfl
  have e0 := (xa.trans xb).cell (cellOf h0 (i := 0) (v := .int .i64 x) rfl)
  have e1 := (xa.trans xb).cell (cellOf h1 (i := 0) (v := .int .i64 y) rfl)
  have e2 := (xa.trans xb).cell (cellOf h2 (i := 0) (v := .int .i64 l) rfl)
  have e3 := (xa.trans xb).cell (cellOf h3 (i := 0) (v := .int .i64 u) rfl)
  have e4 := (xa.trans xb).cell (cellOf h4 (i := 0) (v := .int .i64 i) rfl)
  have HC := qh (joinText_is n a x y l u i wb hP.1 hP.2 o0 o1 o2 o3 o4)
  have XB := qh (xa.trans xb)
  have HBB := qh hbb
  have HWA := qh hwa
  have HWB := qh hwb
  have HSZ := qh hsz
  clear xa xb hba hbb hab hwa hwb hsz h0 h1 h2 h3 h4
  go_enter Tryz.func171, Tryz.ntmps171
  go_upto_region 1 with fail
  rw [← HWA.out, ← HWB.out]
  obtain ⟨gb, hgb⟩ : ∃ g, wa.heap.size = g := ⟨_, rfl⟩
  have HGB := qh hgb
  have hg2 : W.heap.size + 1 = gb := by rw [← hgb, HSZ.out]
  first | rw [hgb] | rw [hg2]
  rw [hgb] at HBB
  clear hgb hg2
  go_wp2_with (go_at_call 172; refine HC.out.mono ?_)
  rintro e w2 ⟨rfl, x2⟩
  obtain ⟨n', hn'⟩ : ∃ z, (joinP x y l u i n a).1 = z := ⟨_, rfl⟩
  obtain ⟨a', ha'⟩ : ∃ z, (joinP x y l u i n a).2 = z := ⟨_, rfl⟩
  rw [hn', ha']
  have HN2 := qh hn'
  have HA2 := qh ha'
  have hb2 := x2.block HBB.out
  have k0 := cellOf hb2 (i := 0) rfl
  have k1 := cellOf hb2 (i := 1) rfl
  have f0 := freeOf hb2 0
  have f1 := freeOf hb2 1
  have B3 : ((w2.setCell ⟨gb, 0, none⟩ (.int .i64 n')).setCell ⟨gb, 1, none⟩ (.int .i64 a')).heap[gb]? = some (.cells #[.int .i64 n', .int .i64 a'] 53 (0, 0)) := heap_setCell_same (i := 1) (heap_setCell_same (i := 0) hb2 (.int .i64 n')) (.int .i64 a')
  have HLV := qh (run_loadVar_row (P := Tryz.prog) _ gb 53 53 _ (0, 0) _ B3 Tryz.underlying53 rfl (by kernel_rfl))
  have hgt : W.heap.size ≤ gb := by have h1 := HGB.out; have h2 := HSZ.out; omega
  have XF := qh (((XB.out.trans x2).setCell (p := ⟨gb, 0, none⟩) hgt (.int .i64 n')).setCell (p := ⟨gb, 1, none⟩) hgt (.int .i64 a'))
  clear x2 hb2 B3 c0 c1 hn' ha' hgt
  go_wp2_with fail
  have hlv := HLV.out
  refine bodyPost_ret (v := pl n' a') (by simp [results, Tryz.results171, asAddr, hlv]) rfl ?_
  exact ⟨by show Ending.returned (pl n' a') = Ending.returned (pl (joinP x y l u i n a).1 (joinP x y l u i n a).2); rw [HN2.out, HA2.out], XF.out⟩
structure CutBox (lb : Nat) (t : ByteArray) (i a u x : Int) (b3 b8 b5 b4 b9 b10 g K : Nat) (C : Array Value) (w : World) : Prop where
  c3 : w.heap[b3]? = some (.cells #[.pointer (some ⟨lb, 0, none⟩)] 42 (0, 0))
  c8 : w.heap[b8]? = some (.cells #[.slice (some ⟨g, 0, none⟩) (runes t) K] 84 (0, 0))
  c5 : w.heap[b5]? = some (.cells #[.int .i64 a] 3 (0, 0))
  c4 : w.heap[b4]? = some (.cells #[.int .i64 i] 3 (0, 0))
  c9 : w.heap[b9]? = some (.cells #[.int .i64 u] 3 (0, 0))
  c10 : w.heap[b10]? = some (.cells #[.int .i64 x] 3 (0, 0))
  row : w.heap[g]? = some (.cells C 21 (0, 0))
  cap : runes t ≤ K
  runes : ∀ (j : Nat) (z : Int), (runeList t t.size 0)[j]? = some z → C[j]? = some (Value.int .i32 z)
section
variable {lb : Nat} {t : ByteArray} {i u x : Int} {a b3 b8 b5 b4 b9 b10 g K : Nat} {C : Array Value} {w w' : World}
theorem CutBox.move (h : CutBox lb t i a u x b3 b8 b5 b4 b9 b10 g K C w) (k : ∀ b, b = b3 ∨ b = b8 ∨ b = b5 ∨ b = b4 ∨ b = b9 ∨ b = b10 ∨ b = g → w'.heap[b]? = w.heap[b]?) : CutBox lb t i a u x b3 b8 b5 b4 b9 b10 g K C w' :=
  ⟨(k _ (by simp)).trans h.c3, (k _ (by simp)).trans h.c8, (k _ (by simp)).trans h.c5, (k _ (by simp)).trans h.c4, (k _ (by simp)).trans h.c9, (k _ (by simp)).trans h.c10, (k _ (by simp)).trans h.row, h.cap, h.runes⟩
theorem CutBox.ext (h : CutBox lb t i a u x b3 b8 b5 b4 b9 b10 g K C w) (k : Ext w w') : CutBox lb t i a u x b3 b8 b5 b4 b9 b10 g K C w' :=
  ⟨k.block h.c3, k.block h.c8, k.block h.c5, k.block h.c4, k.block h.c9, k.block h.c10, k.block h.row, h.cap, h.runes⟩
theorem CutBox.head (h : CutBox lb t i a u x b3 b8 b5 b4 b9 b10 g K C w) (ha : a ≤ Go.Proofs.YtfibikkcfmohjaaGreat.runes t) : (convert 84 9 (.slice (some ⟨g, 0, none⟩) a K)).run Tryz.prog w = .ok (.string (headB t a)) w :=
  run_convert_runes w 84 9 21 ⟨g, 0, none⟩ a K (runeList t t.size 0) ha Tryz.underlying84 Tryz.underlying21 Tryz.underlying9 (fun j hj => by
    rw [Addr.add_lit, Nat.zero_add]
    exact cellOf h.row (h.runes j _ (by rw [List.getD_eq_getElem?_getD, List.getElem?_eq_getElem hj]; rfl)))
theorem CutBox.tail (h : CutBox lb t i a u x b3 b8 b5 b4 b9 b10 g K C w) (ha : a ≤ Go.Proofs.YtfibikkcfmohjaaGreat.runes t) : (convert 84 9 (.slice (if K = a then some ⟨g, 0, none⟩ else some ⟨g, a, none⟩) (Go.Proofs.YtfibikkcfmohjaaGreat.runes t - a) (K - a))).run Tryz.prog w = .ok (.string (tailB t a)) w := by
  have hl : (runeList t t.size 0).length = Go.Proofs.YtfibikkcfmohjaaGreat.runes t := rfl
  have hcap := h.cap
  by_cases hk : K = a
  · rw [if_pos hk]
    have hz : Go.Proofs.YtfibikkcfmohjaaGreat.runes t - a = 0 := by omega
    have hd : (runeList t t.size 0).drop a = [] := List.drop_eq_nil_of_le (by omega)
    unfold tailB
    rw [hz, hd]
    exact run_convert_runes (P := Tryz.prog) w 84 9 21 ⟨g, 0, none⟩ 0 (K - a) [] (Nat.le_refl _) Tryz.underlying84 Tryz.underlying21 Tryz.underlying9 (fun j hj => by cases hj)
  · rw [if_neg hk]
    have h9 := run_convert_runes (P := Tryz.prog) w 84 9 21 ⟨g, a, none⟩ (Go.Proofs.YtfibikkcfmohjaaGreat.runes t - a) (K - a) ((runeList t t.size 0).drop a) (by rw [List.length_drop]; omega) Tryz.underlying84 Tryz.underlying21 Tryz.underlying9 (fun j hj => by
      rw [Addr.add_lit]
      exact cellOf h.row (h.runes (a + j) _ (by rw [List.length_drop] at hj; rw [List.getD_eq_getElem?_getD, List.getElem?_drop, List.getElem?_eq_getElem (by omega)]; rfl)))
    rw [List.take_of_length_le (by rw [List.length_drop]; omega)] at h9
    exact h9
end
section
variable {own : Ow} {lb tb : Nat} {hb : Option Nat} {w wk : World} {L : Nat → Prop} {T T1 T2 T3 : Tr} {H H2 H3 : List Hd} {t : ByteArray} {i a m b3 b8 b5 b11 b4 b9 b10 g K : Nat} {u x : Int} {C : Array Value}
theorem does_SplitText (hbx : CutBox lb t i a u x b3 b8 b5 b4 b9 b10 g K C wk) (h11 : wk.heap[b11]? = some (.cells #[.int .i64 0] 3 (0, 0)))
    (hL : ∀ b, b = b3 ∨ b = b8 ∨ b = b5 ∨ b = b4 ∨ b = b9 ∨ b = b10 ∨ b = g → L b ∧ b ≠ b11) (hL11 : L b11) (ha : a ≤ runes t) (hx : -1 ≤ x ∧ x ≤ 100000)
    (s1 : ∀ (W : World) (o : Ow) (p : Nat → Nat), TreeAt W o p tb T → Owned o W → Calls Tryz.prog 52 #[.pointer (some ⟨tb, 0, none⟩), .string (tailB t a)] W (TwoAfter o W tb m T1))
    (s2 : ∀ (W : World) (o : Ow) (p : Nat → Nat) (hv : Value) (b : Option Nat), LiveAt W o p lb tb T1 hv b H → Calls Tryz.prog 53 #[.pointer (some ⟨lb, 0, none⟩), .int .i64 i, .string (headB t a)] W (LErr o lb tb b W 0 T2 H2))
    (s3 : 0 ≤ u → ∀ (W : World) (o : Ow) (p : Nat → Nat) (hv : Value) (b : Option Nat), LiveAt W o p lb tb T2 hv b H2 → Calls Tryz.prog 54 #[.pointer (some ⟨lb, 0, none⟩), .int .i64 u, .int .i64 (x + 1), .int .i64 m] W (LErr o lb tb b W 0 T3 H3))
    (s4 : ¬ 0 ≤ u → T3 = T2 ∧ H3 = H2) :
    DoesK own lb tb hb w L T H T3 H3 wk (fun W => CutBox lb t i a u x b3 b8 b5 b4 b9 b10 g K C W ∧ W.heap[b11]? = some (.cells #[.int .i64 m] 3 (0, 0)))
      (.func (.func 51) #[] #[.pointer (some ⟨b3, 0, none⟩), .pointer (some ⟨b8, 0, none⟩), .pointer (some ⟨b5, 0, none⟩), .pointer (some ⟨b11, 0, none⟩), .pointer (some ⟨b4, 0, none⟩), .pointer (some ⟨b9, 0, none⟩), .pointer (some ⟨b10, 0, none⟩)]) := by
  refine ⟨_, _, rfl, enters_of Tryz.func51 (by kernel_rfl) rfl, fun L' W hsub hk hfr => ?_⟩
  have hbW := hbx.move (w' := W) fun b hb => hfr b (hL b hb).1
  have h11W := (hfr b11 hL11).trans h11
  have BW := qh hbW
  have HA := qh ha
  have HX := qh hx
  have HL := qh (fun b hb => (⟨hsub b (hL b hb).1, (hL b hb).2⟩ : L' b ∧ b ≠ b11))
  have HL11 := qh (hsub b11 hL11)
  have HLN := qh (fun (b : Nat) (hb : ¬ L b) => (fun e => hb (e ▸ hL11) : b ≠ b11))
  have HK := qh hk
  have S1 := qh s1
  have S2 := qh s2
  have S3 := qh s3
  have S4 := qh s4
  have H11 := qh h11W
  have hcap := hbW.cap
  clear hbx h11 hL hL11 ha hx s1 s2 s3 s4 hsub hk hfr hbW h11W
  show Calls Tryz.prog 51 #[.pointer (some ⟨b3, 0, none⟩), .pointer (some ⟨b8, 0, none⟩), .pointer (some ⟨b5, 0, none⟩), .pointer (some ⟨b11, 0, none⟩), .pointer (some ⟨b4, 0, none⟩), .pointer (some ⟨b9, 0, none⟩), .pointer (some ⟨b10, 0, none⟩)] W _
  go_enter Tryz.func51, Tryz.ntmps51
  go_upto_region 0 with fail
  go_cut [] (fun wx => LK own lb tb hb w L' T1 H wx ∧ (∀ b, L' b → b ≠ b11 → wx.heap[b]? = W.heap[b]?) ∧ wx.heap[b11]? = some (.cells #[.int .i64 m] 3 (0, 0)))
  case first =>
    refine wp_region_N (S := fun w' => Ext W w') (n := 8) (by kernel_rfl) ?_
    have hS : Ext W W.drew := (Ext.refl W).drew
    obtain ⟨wz, hwz⟩ : ∃ V : World, V = W.drew := ⟨_, rfl⟩
    rw [← hwz] at hS ⊢
    clear hwz
    show wpN _ _ _ _ _ 8 13 (Array.replicate 13 false) _ _
    have y3 := cellOf BW.out.c3 (i := 0) rfl
    have y8 := cellOf BW.out.c8 (i := 0) rfl
    have y5 := cellOf BW.out.c5 (i := 0) rfl
    have yt := HK.out.ptr_
    obtain ⟨n, hn⟩ : ∃ n, runes t = n := ⟨_, rfl⟩
    rw [hn] at y8 hcap
    have HN := qh hn
    have han : a ≤ n := by have := HA.out; omega
    have d0 : (0 : Int) ≤ (a : Int) := by omega
    have d1 : (a : Int) ≤ (n : Int) := by omega
    have dn : (a : Int).toNat = a := by omega
    clear hn
    obtain ⟨ga, hga⟩ : ∃ z : Option Addr, (if K = a then some ⟨g, 0, none⟩ else some ⟨g, a, none⟩) = z := ⟨_, rfl⟩
    have HGA := qh hga
    clear hga
    refine wpN_takeC (i := 0) (v := .pointer (some ⟨lb, 0, none⟩)) (o := { dst := some 8, op := _, type := _, pos := _, after := _, guard := none }) [1, 2, 3, 8] rfl (by kernel_rfl) (by kernel_rfl) (by kernel_rfl) (by kernel_rfl) (by decide) (fun _ _ _ h => h) (Or.inl ⟨by rfl, fun w' hSw => ?_⟩) hS ?_
    · (have z3 := hSw.cell y3; have z8 := hSw.cell y8; have z5 := hSw.cell y5; have zt := hSw.cell yt; have BX := BW.out.ext hSw; have TL := BX.tail HA.out; rw [HN.out, HGA.out] at TL; clear hS y3 y8 y5 yt BX; go_simp)
    try simp only [Act.put, zA, zB, zC]
    refine wpN_takeC (i := 1) (v := .pointer (some ⟨lb, 0, none⟩)) (o := { dst := some 9, op := _, type := _, pos := _, after := _, guard := none }) [2, 3, 8] rfl (by kernel_rfl) (by kernel_rfl) (by kernel_rfl) (by kernel_rfl) (by decide) (fun _ _ _ h => h) (Or.inl ⟨by rfl, fun w' hSw => ?_⟩) hS ?_
    · (have z3 := hSw.cell y3; have z8 := hSw.cell y8; have z5 := hSw.cell y5; have zt := hSw.cell yt; have BX := BW.out.ext hSw; have TL := BX.tail HA.out; rw [HN.out, HGA.out] at TL; clear hS y3 y8 y5 yt BX; go_simp)
    try simp only [Act.put, zA, zB, zC]
    refine wpN_takeC (i := 2) (v := .pointer (some ⟨lb, 0, none⟩)) (o := { dst := some 10, op := _, type := _, pos := _, after := _, guard := none }) [3, 8] rfl (by kernel_rfl) (by kernel_rfl) (by kernel_rfl) (by kernel_rfl) (by decide) (fun _ _ _ h => h) (Or.inl ⟨by rfl, fun w' hSw => ?_⟩) hS ?_
    · (have z3 := hSw.cell y3; have z8 := hSw.cell y8; have z5 := hSw.cell y5; have zt := hSw.cell yt; have BX := BW.out.ext hSw; have TL := BX.tail HA.out; rw [HN.out, HGA.out] at TL; clear hS y3 y8 y5 yt BX; go_simp)
    try simp only [Act.put, zA, zB, zC]
    refine wpN_takeC (i := 3) (v := .pointer (some ⟨tb, 0, none⟩)) (o := { dst := some 11, op := _, type := _, pos := _, after := _, guard := none }) [8] rfl (by kernel_rfl) (by kernel_rfl) (by kernel_rfl) (by kernel_rfl) (by decide) (fun _ _ _ h => h) (Or.inl ⟨by rfl, fun w' hSw => ?_⟩) hS ?_
    · (have z3 := hSw.cell y3; have z8 := hSw.cell y8; have z5 := hSw.cell y5; have zt := hSw.cell yt; have BX := BW.out.ext hSw; have TL := BX.tail HA.out; rw [HN.out, HGA.out] at TL; clear hS y3 y8 y5 yt BX; go_simp)
    try simp only [Act.put, zA, zB, zC]
    refine wpN_takeC (i := 4) (v := .slice (some ⟨g, 0, none⟩) n K) (o := { dst := some 12, op := _, type := _, pos := _, after := _, guard := none }) [6, 7, 8] rfl (by kernel_rfl) (by kernel_rfl) (by kernel_rfl) (by kernel_rfl) (by decide) (fun _ _ _ h => h) (Or.inl ⟨by rfl, fun w' hSw => ?_⟩) hS ?_
    · (have z3 := hSw.cell y3; have z8 := hSw.cell y8; have z5 := hSw.cell y5; have zt := hSw.cell yt; have BX := BW.out.ext hSw; have TL := BX.tail HA.out; rw [HN.out, HGA.out] at TL; clear hS y3 y8 y5 yt BX; go_simp)
    try simp only [Act.put, zA, zB, zC]
    refine wpN_takeC (i := 5) (v := .int .i64 a) (o := { dst := some 13, op := _, type := _, pos := _, after := _, guard := none }) [6, 7, 8] rfl (by kernel_rfl) (by kernel_rfl) (by kernel_rfl) (by kernel_rfl) (by decide) (fun _ _ _ h => h) (Or.inl ⟨by rfl, fun w' hSw => ?_⟩) hS ?_
    · (have z3 := hSw.cell y3; have z8 := hSw.cell y8; have z5 := hSw.cell y5; have zt := hSw.cell yt; have BX := BW.out.ext hSw; have TL := BX.tail HA.out; rw [HN.out, HGA.out] at TL; clear hS y3 y8 y5 yt BX; go_simp)
    try simp only [Act.put, zA, zB, zC]
    refine wpN_takeC (i := 6) (v := .slice ga (n - a) (K - a)) (o := { dst := some 14, op := _, type := _, pos := _, after := _, guard := none }) [7, 8] rfl (by kernel_rfl) (by kernel_rfl) (by kernel_rfl) (by kernel_rfl) (by decide) (fun _ _ _ h => h) (Or.inl ⟨by rfl, fun w' hSw => ?_⟩) hS ?_
    · (have z3 := hSw.cell y3; have z8 := hSw.cell y8; have z5 := hSw.cell y5; have zt := hSw.cell yt; have BX := BW.out.ext hSw; have TL := BX.tail HA.out; rw [HN.out, HGA.out] at TL; clear hS y3 y8 y5 yt BX; rw [← HGA.out]; go_simp)
    try simp only [Act.put, zA, zB, zC]
    refine wpN_takeC (i := 7) (v := .string (tailB t a)) (o := { dst := some 15, op := _, type := _, pos := _, after := _, guard := none }) [8] rfl (by kernel_rfl) (by kernel_rfl) (by kernel_rfl) (by kernel_rfl) (by decide) (fun _ _ _ h => h) (Or.inl ⟨by rfl, fun w' hSw => ?_⟩) hS ?_
    · (have z3 := hSw.cell y3; have z8 := hSw.cell y8; have z5 := hSw.cell y5; have zt := hSw.cell yt; have BX := BW.out.ext hSw; have TL := BX.tail HA.out; rw [HN.out, HGA.out] at TL; clear hS y3 y8 y5 yt BX; go_simp)
    try simp only [Act.put, zA, zB, zC]
    clear y3 y8 y5 yt d0 d1 dn
    have HZ := qh hS
    clear hS
    refine wpN_one (i := 8) (o := { dst := some 16, op := _, type := _, pos := _, after := _, guard := none }) (by kernel_rfl) rfl (fun K hK => ?_)
    go_simp
    go_at_call 52
    refine ((HK.out.more HZ.out).inner (v := .tuple #[.int .i64 m, .int .i64 0]) fun o p h1 h2 => S1.out _ o p h1 h2).mono ?_
    rintro e w1 ⟨rfl, hk1, hf1⟩
    have HK1 := qh hk1
    have HF1 := qh (fun b hb => (hf1 b hb).trans (Below.block HZ.out b (by obtain ⟨_, _, _, _, _, _, h3⟩ := HK.out.out; exact (h3 b hb).2.2)))
    have hb11 := (HF1.out b11 HL11.out).trans H11.out
    have k0 := cellOf hb11 (i := 0) rfl
    have f0 := freeOf hb11 0
    have HP := qh (And.intro (HK1.out.poke ((Mv.refl L' w1).setCell (p := ⟨b11, 0, none⟩) (fun _ => HL11.out) (.int .i64 m))) (And.intro (fun b (hb : L' b) (hne : b ≠ b11) => (heap_setCell_other (p := ⟨b11, 0, none⟩) (.int .i64 m) hne).trans (HF1.out b hb)) (heap_setCell_same hb11 (.int .i64 m) : (w1.setCell ⟨b11, 0, none⟩ (.int .i64 m)).heap[b11]? = some (.cells #[.int .i64 m] 3 (0, 0)))))
    clear hk1 hf1 hb11
    refine hK.out _ _ (.inl (by kernel_rfl)) ?_
    clear hK K
    try simp only [Act.put, zA, zB, zC]
    refine wpN_one (i := 9) (o := { dst := some 7, op := _, type := _, pos := _, after := _, guard := none }) (by kernel_rfl) rfl (fun K hK => ?_)
    go_simp
    refine hK.out _ _ (.inl (by kernel_rfl)) ?_
    clear hK K
    try simp only [Act.put, zA, zB, zC]
    refine wpN_two (i := 10) (j := 11) (oi := { dst := some 17, op := _, type := _, pos := _, after := _, guard := none }) (oj := { dst := some 18, op := _, type := _, pos := _, after := _, guard := none }) (by kernel_rfl) rfl rfl (fun K hK => ?_) (fun K hK => ?_)
    · go_simp
      refine hK.out _ _ (.inl (by kernel_rfl)) ?_
      clear hK K
      try simp only [Act.put, zA, zB, zC]
      refine wpN_two (i := 11) (j := 12) (oi := { dst := some 18, op := _, type := _, pos := _, after := _, guard := none }) (oj := { dst := none, op := _, type := _, pos := _, after := _, guard := none }) (by kernel_rfl) rfl rfl (fun K hK => ?_) (fun K hK => ?_)
      · go_simp
        refine hK.out _ _ (.inl (by kernel_rfl)) ?_
        clear hK K
        try simp only [Act.put, zA, zB, zC]
        refine wpN_one (i := 12) (o := { dst := none, op := _, type := _, pos := _, after := _, guard := none }) (by kernel_rfl) rfl (fun K hK => ?_)
        go_simp
        refine hK.out _ _ (.inl (by kernel_rfl)) ?_
        clear hK K
        try simp only [Act.put, zA, zB, zC]
        refine wpN_done (by kernel_rfl) ?_
        go_wp2_with fail
        go_meet
        exact HP.out
      · go_simp
        refine hK.out _ _ (.inl (by kernel_rfl)) ?_
        clear hK K
        try simp only [Act.put, zA, zB, zC]
        refine wpN_one (i := 11) (o := { dst := some 18, op := _, type := _, pos := _, after := _, guard := none }) (by kernel_rfl) rfl (fun K hK => ?_)
        go_simp
        refine hK.out _ _ (.inl (by kernel_rfl)) ?_
        clear hK K
        try simp only [Act.put, zA, zB, zC]
        refine wpN_done (by kernel_rfl) ?_
        go_wp2_with fail
        go_meet
        exact HP.out
    · go_simp
      refine hK.out _ _ (.inl (by kernel_rfl)) ?_
      clear hK K
      try simp only [Act.put, zA, zB, zC]
      refine wpN_one (i := 10) (o := { dst := some 17, op := _, type := _, pos := _, after := _, guard := none }) (by kernel_rfl) rfl (fun K hK => ?_)
      go_simp
      refine hK.out _ _ (.inl (by kernel_rfl)) ?_
      clear hK K
      try simp only [Act.put, zA, zB, zC]
      refine wpN_one (i := 12) (o := { dst := none, op := _, type := _, pos := _, after := _, guard := none }) (by kernel_rfl) rfl (fun K hK => ?_)
      go_simp
      refine hK.out _ _ (.inl (by kernel_rfl)) ?_
      clear hK K
      try simp only [Act.put, zA, zB, zC]
      refine wpN_done (by kernel_rfl) ?_
      go_wp2_with fail
      go_meet
      exact HP.out
  case rest =>
    obtain ⟨hk1, hf1, hb1⟩ := hcut
    rename World => wx
    have HK1 := qh hk1
    have HF1 := qh hf1
    have HB1 := qh hb1
    have BX := qh (BW.out.move (w' := wx) fun b hb => hf1 b (HL.out b hb).1 (HL.out b hb).2)
    clear hk1 hf1 hb1 hcap
    obtain ⟨n, hn⟩ : ∃ n, runes t = n := ⟨_, rfl⟩
    have HN := qh hn
    have han : a ≤ n := by have := HA.out; omega
    have hcap := BX.out.cap
    rw [hn] at hcap
    have d0 : (0 : Int) ≤ (a : Int) := by omega
    have d1 : (a : Int) ≤ (K : Int) := by omega
    have dn : (a : Int).toNat = a := by omega
    go_upto_region 1 with fail
    have r3 : ∀ v : ExtOf wx, v.val.cell? ⟨b3, 0, none⟩ = some (.pointer (some ⟨lb, 0, none⟩)) := fun v => v.ext.cell (cellOf BX.out.c3 rfl)
    have r4 : ∀ v : ExtOf wx, v.val.cell? ⟨b4, 0, none⟩ = some (.int .i64 i) := fun v => v.ext.cell (cellOf BX.out.c4 rfl)
    have r8 : ∀ v : ExtOf wx, v.val.cell? ⟨b8, 0, none⟩ = some (.slice (some ⟨g, 0, none⟩) n K) := fun v => by rw [← hn]; exact v.ext.cell (cellOf BX.out.c8 rfl)
    have r5 : ∀ v : ExtOf wx, v.val.cell? ⟨b5, 0, none⟩ = some (.int .i64 a) := fun v => v.ext.cell (cellOf BX.out.c5 rfl)
    have v1 : ∀ v : ExtOf wx, (convert 84 9 (.slice (some ⟨g, 0, none⟩) a K)).run Tryz.prog v.val = .ok (.string (headB t a)) v.val := fun v => (BX.out.ext v.ext).head HA.out
    clear hn
    refine wp_region_ext_mid 6 _ rfl (by kernel_rfl) (by kernel_rfl) ?_
    simp only [List.take_succ_cons, List.take_zero, List.drop_succ_cons, List.drop_zero]
    repeat (go_big_quiet_step (fail))
    refine wpQuiet_nil ?_
    rintro _ ⟨v, rfl⟩ KK hKK
    have HKK := qh hKK
    have hx := v.ext
    obtain ⟨w5, hw5⟩ : ∃ V, v.val = V := ⟨_, rfl⟩
    rw [hw5] at hx ⊢
    clear r3 r4 r8 r5 v1 hw5 hKK d0 d1 dn hcap han
    clear v
    have HK5 := qh (HK1.out.more hx)
    have HF5 := qh (fun b (hb : L' b) => Below.block hx b (by obtain ⟨_, _, _, _, _, _, h3⟩ := HK1.out.out; exact (h3 b hb).2.2))
    clear hx
    go_simp
    go_at_call 53
    refine (HK5.out.call (v := .int .i64 0) fun o p hv b h => S2.out _ o p hv b h).mono ?_
    rintro e w6 ⟨rfl, hk6, hf6⟩
    have HK6 := qh hk6
    have HF6 := qh (fun b (hb : L' b) => (hf6 b hb).trans (HF5.out b hb))
    clear hk6 hf6
    refine HKK.out _ _ ?_
    clear HKK KK
    repeat (go_big_quiet_step (fail))
    refine wpQuiet_nil ?_
    rintro _ ⟨v, rfl⟩
    obtain ⟨w7, hw7⟩ : ∃ V, v.val = V := ⟨_, rfl⟩
    have hx := v.ext
    rw [hw7] at hx ⊢
    clear hw7
    clear v
    have HK7 := qh (HK6.out.more hx)
    have HF7 := qh (fun b (hb : L' b) => (Below.block hx b (by obtain ⟨_, _, _, _, _, _, h3⟩ := HK6.out.out; exact (h3 b hb).2.2)).trans (HF6.out b hb))
    have BX7 := qh (BX.out.move (w' := w7) fun b hb => HF7.out b (HL.out b hb).1)
    have HB7 := qh ((HF7.out b11 HL11.out).trans HB1.out)
    clear hx
    have y9 := cellOf BX7.out.c9 (i := 0) rfl
    by_cases hu : 0 ≤ u
    · have e0 : decide (0 ≤ u) = true := decide_eq_true hu
      have HU := qh hu
      have y3 := cellOf BX7.out.c3 (i := 0) rfl
      have y10 := cellOf BX7.out.c10 (i := 0) rfl
      have y11 := cellOf HB7.out (i := 0) rfl
      have ew : IntKind.i64.wrap (x + 1) = x + 1 := IntWalk.i64_in _ (by have := HX.out; omega)
      clear hu
      go_wp2_with (go_at_call 54; refine (HK7.out.call (v := .int .i64 0) fun o p hv b h => S3.out HU.out _ o p hv b h).mono ?_; rintro e w8 ⟨rfl, hk8, hf8⟩)
      have HF := qh (And.intro hk8 (And.intro (fun b (hb : L' b) (hn : ¬ L b) => (hf8 b hb).trans ((HF7.out b hb).trans (HF1.out b hb (HLN.out b hn)))) (And.intro (BX7.out.move (w' := w8) fun b hb => hf8 b (HL.out b hb).1) ((hf8 b11 HL11.out).trans HB7.out))))
      clear hk8 hf8 y3 y9 y10 y11
      go_wp2_with fail
      go_end0
      exact ⟨rfl, HF.out⟩
    · have e0 : decide (0 ≤ u) = false := decide_eq_false hu
      obtain ⟨t3, h3⟩ := S4.out hu
      subst t3
      subst h3
      have HF := qh (And.intro HK7.out (And.intro (fun b (hb : L' b) (hn : ¬ L b) => (HF7.out b hb).trans (HF1.out b hb (HLN.out b hn))) (And.intro BX7.out HB7.out)))
      clear hu
      go_wp2_with fail
      go_end0
      exact ⟨rfl, HF.out⟩
end
theorem RSame.ext {v : Value} {w : World} {P : Program} {f : FuncId} {args : Array Value} (h : Calls P f args w (RSame v w)) : Calls P f args w (RVal v w) := h.mono fun e w' hh => ⟨hh.1, hh.2 ▸ Ext.refl _⟩
theorem ne_new {w : World} {b : Nat} {x : Obj} (h : w.heap[b]? = some x) : b ≠ w.heap.size := Nat.ne_of_lt (Array.getElem?_eq_some_iff.1 h).1
section
variable {w : World} {own : Ow} {ptr : Nat → Nat} {lb tb : Nat} {T T1 T2 T3 : Tr} {hv : Value} {hb : Option Nat} {H H2 H3 : List Hd} {d : Nat → Nat}
theorem pSplitText_does (hL : LiveAt w own ptr lb tb T hv hb H) (hw : WF T d) (hat : AttrsOk T) (hl : H.length ≤ 50000) (hok : okH H) {i a m : Nat} {nd : Nd} (hn : T.nodes[i]? = some (some nd)) (ht : nd.tag = 0) (hal : a ≤ runes nd.text) (hroom : T.count < T.cap)
    {x : Int} (hx : T.idx i = x) (hxr : -1 ≤ x ∧ x ≤ 100000) (hoi : okI i) (hoa : okI a) (hom : okI m) (hou : okI nd.parent)
    (hG : GoodT T3) (hso : SameOff H H3) (hmay : ∀ y ∈ H, y.off = 0 → T3.may (cutP i a m nd.parent x y.node y.at').1 (cutP i a m nd.parent x y.node y.at').2 = true)
    (s1 : ∀ (W : World) (o : Ow) (p : Nat → Nat), TreeAt W o p tb T → Owned o W → Calls Tryz.prog 52 #[.pointer (some ⟨tb, 0, none⟩), .string (tailB nd.text a)] W (TwoAfter o W tb m T1))
    (s2 : ∀ (W : World) (o : Ow) (p : Nat → Nat) (hv : Value) (b : Option Nat), LiveAt W o p lb tb T1 hv b H → Calls Tryz.prog 53 #[.pointer (some ⟨lb, 0, none⟩), .int .i64 i, .string (headB nd.text a)] W (LErr o lb tb b W 0 T2 H2))
    (s3 : 0 ≤ nd.parent → ∀ (W : World) (o : Ow) (p : Nat → Nat) (hv : Value) (b : Option Nat), LiveAt W o p lb tb T2 hv b H2 → Calls Tryz.prog 54 #[.pointer (some ⟨lb, 0, none⟩), .int .i64 nd.parent, .int .i64 (x + 1), .int .i64 m] W (LErr o lb tb b W 0 T3 H3))
    (s4 : ¬ 0 ≤ nd.parent → T3 = T2 ∧ H3 = H2) :
    Calls Tryz.prog 10 #[.pointer (some ⟨lb, 0, none⟩), .int .i64 i, .int .i64 a] w (LTwo own lb tb hb w m 0 T3 (H.map (moved (cutP i a m nd.parent x)))) := by
  have hg := Tr.get_of hn
  have xa := (Ext.refl w).alloc (.cells #[.pointer (some ⟨lb, 0, none⟩)] 42)
  have ba := heap_alloc_new w (.cells #[.pointer (some ⟨lb, 0, none⟩)] 42)
  obtain ⟨wa, hwa⟩ : ∃ W : World, W = w.alloc (.cells #[.pointer (some ⟨lb, 0, none⟩)] 42) := ⟨_, rfl⟩
  have sa : wa.heap.size = w.heap.size + 1 := by rw [hwa]; simp
  rw [← hwa] at xa ba
  have xb := (Ext.refl wa).alloc (.cells #[.int .i64 i] 3)
  have bb := heap_alloc_new wa (.cells #[.int .i64 i] 3)
  obtain ⟨wb, hwb⟩ : ∃ W : World, W = wa.alloc (.cells #[.int .i64 i] 3) := ⟨_, rfl⟩
  have sb : wb.heap.size = wa.heap.size + 1 := by rw [hwb]; simp
  rw [← hwb] at xb bb
  have xc := (Ext.refl wb).alloc (.cells #[.int .i64 a] 3)
  have bc := heap_alloc_new wb (.cells #[.int .i64 a] 3)
  obtain ⟨wc, hwc⟩ : ∃ W : World, W = wb.alloc (.cells #[.int .i64 a] 3) := ⟨_, rfl⟩
  rw [← hwc] at xc bc
  obtain ⟨b3, hb3⟩ : ∃ b, w.heap.size = b := ⟨_, rfl⟩
  have hb4 : wa.heap.size = b3 + 1 := by omega
  have hb5 : wb.heap.size = b3 + 1 + 1 := by omega
  rw [hb3] at ba
  rw [hb4] at bb
  rw [hb5] at bc
  have B3 := qh ((xb.trans xc).block ba)
  have B4 := qh (xc.block bb)
  have B5 := qh bc
  have XC := qh ((xa.trans xb).trans xc)
  have HWA := qh hwa
  have HWB := qh hwb
  have HWC := qh hwc
  have HSA := qh hb3
  have HH := qh hL
  have HNO := qh (pNone_some ((hL.ext ((xa.trans xb).trans xc)).ptr_))
  have HHAS := qh (fun (W : World) (y : Ext w W) => RSame.ext (Has_some (hL.ext y).tree hg))
  have HTAG := qh (fun (W : World) (y : Ext w W) => by
    have h9 := RSame.ext (Tag_some (hL.ext y).tree hg)
    rw [ht] at h9
    exact h9)
  have HLEN := qh (fun (W : World) (y : Ext w W) => by
    have h9 := Length_any ((hL.ext y).tree.tat (hL.ext y).ownd) hw hat (i : Int)
    have e : T.lengthOf (i : Int) = (runes nd.text : Int) := by
      rw [lengthOf_eq, hg]
      show (if nd.tag = -1 then (-1 : Int) else if nd.tag = 0 then (runes nd.text : Int) else (nd.kids.length : Int)) = _
      rw [if_neg (by omega), if_pos ht]
    rw [e] at h9
    exact h9)
  have HFUL := qh (fun (W : World) (y : Ext w W) => by
    have h9 := pFull_any (hL.ext y)
    rw [show decide (T.cap ≤ T.count) = false from decide_eq_false (by omega)] at h9
    exact h9)
  have HTO := qh (fun (W : World) (y : Ext w W) => Told_some (hL.ext y).tree hg)
  have HPA := qh (fun (W : World) (y : Ext w W) => Parent_some (hL.ext y).tree hg)
  have HIX := qh (fun (W : World) (y : Ext w W) => by
    have h9 := at_idx ((hL.ext y).tree.tat (hL.ext y).ownd) hw (i : Int)
    rw [hx] at h9
    exact h9)
  have hts := (hat i nd hn).2
  have hrl := runes_le nd.text
  obtain ⟨u, hu⟩ : ∃ u, nd.parent = u := ⟨_, rfl⟩
  rw [hu] at HPA s3 s4 hmay hou ⊢
  have HAL := qh hal
  have HXR := qh hxr
  have HO := qh (And.intro hoi (And.intro hoa (And.intro hom hou)))
  have HTS := qh (show nd.text.size ≤ 8192 from hts)
  have HG := qh hG
  have HSO := qh hso
  have HMAY := qh hmay
  have HOK := qh hok
  have HL := qh hl
  have S1 := qh s1
  have S2 := qh s2
  have S3 := qh s3
  have S4 := qh s4
  obtain ⟨n, hnn⟩ : ∃ n, runes nd.text = n := ⟨_, rfl⟩
  have HNN := qh hnn
  rw [hnn] at HLEN hal hrl
  obtain ⟨tx, htx⟩ : ∃ t, nd.text = t := ⟨_, rfl⟩
  rw [htx] at HTO HNN HAL HTS S1 S2 hrl hts
  have e1 : decide ((a : Int) < 0) = false := decide_eq_false (by omega)
  have e2 : decide ((n : Int) < (a : Int)) = false := decide_eq_false (by omega)
  have e2n : decide (n < a) = false := decide_eq_false (by omega)
  clear hL hw hat hl hok hn ht hroom hx hxr hoi hoa hom hou hG hso hmay s1 s2 s3 s4 hg xa ba hwa sa xb bb hwb sb xc bc hwc hb3 hb4 hb5 hnn hu htx
  go_enter Tryz.func10, Tryz.ntmps10
  go_upto_region 1 with fail
  rw [HSA.out, ← HWA.out, ← HWB.out, ← HWC.out]
  have y3 := cellOf B3.out (i := 0) rfl
  go_upto_region 3 with (go_at_call 46; refine HNO.out.mono ?_; rintro e w' ⟨rfl, rfl⟩)
  clear y3
  have r0 : ∀ v : ExtOf wc, v.val.cell? ⟨lb, 0, none⟩ = some (.pointer (some ⟨tb, 0, none⟩)) := fun v => (HH.out.ext (XC.out.trans v.ext)).ptr_
  have r3 : ∀ v : ExtOf wc, v.val.cell? ⟨b3, 0, none⟩ = some (.pointer (some ⟨lb, 0, none⟩)) := fun v => v.ext.cell (cellOf B3.out rfl)
  have r4 : ∀ v : ExtOf wc, v.val.cell? ⟨b3 + 1, 0, none⟩ = some (.int .i64 i) := fun v => v.ext.cell (cellOf B4.out rfl)
  have r5 : ∀ v : ExtOf wc, v.val.cell? ⟨b3 + 1 + 1, 0, none⟩ = some (.int .i64 a) := fun v => v.ext.cell (cellOf B5.out rfl)
  refine wp_region_ext (by kernel_rfl) (by kernel_rfl) ?_
  repeat (go_big_quiet_step ((go_at_call 26; exact inExt (HHAS.out _ (XC.out.trans (ExtOf.ext _))))))
  refine wpQuiet_nil ?_
  rintro _ ⟨v, rfl⟩
  have hx1 := v.ext
  obtain ⟨v1, hw1⟩ : ∃ W, v.val = W := ⟨_, rfl⟩
  rw [hw1] at hx1 ⊢
  clear r0 r3 r4 r5 hw1
  clear v
  replace B3 := qh (hx1.block B3.out)
  replace B4 := qh (hx1.block B4.out)
  replace B5 := qh (hx1.block B5.out)
  replace XC := qh (XC.out.trans hx1)
  clear hx1
  go_upto_region 5 with fail
  have r0 : ∀ v : ExtOf v1, v.val.cell? ⟨lb, 0, none⟩ = some (.pointer (some ⟨tb, 0, none⟩)) := fun v => (HH.out.ext (XC.out.trans v.ext)).ptr_
  have r3 : ∀ v : ExtOf v1, v.val.cell? ⟨b3, 0, none⟩ = some (.pointer (some ⟨lb, 0, none⟩)) := fun v => v.ext.cell (cellOf B3.out rfl)
  have r4 : ∀ v : ExtOf v1, v.val.cell? ⟨b3 + 1, 0, none⟩ = some (.int .i64 i) := fun v => v.ext.cell (cellOf B4.out rfl)
  have r5 : ∀ v : ExtOf v1, v.val.cell? ⟨b3 + 1 + 1, 0, none⟩ = some (.int .i64 a) := fun v => v.ext.cell (cellOf B5.out rfl)
  refine wp_region_ext (by kernel_rfl) (by kernel_rfl) ?_
  repeat (go_big_quiet_step ((go_at_call 47; exact inExt (HTAG.out _ (XC.out.trans (ExtOf.ext _))))))
  refine wpQuiet_nil ?_
  rintro _ ⟨v, rfl⟩
  have hx1 := v.ext
  obtain ⟨v2, hw1⟩ : ∃ W, v.val = W := ⟨_, rfl⟩
  rw [hw1] at hx1 ⊢
  clear r0 r3 r4 r5 hw1
  clear v
  replace B3 := qh (hx1.block B3.out)
  replace B4 := qh (hx1.block B4.out)
  replace B5 := qh (hx1.block B5.out)
  replace XC := qh (XC.out.trans hx1)
  clear hx1
  go_upto_region 7 with fail
  have r0 : ∀ v : ExtOf v2, v.val.cell? ⟨lb, 0, none⟩ = some (.pointer (some ⟨tb, 0, none⟩)) := fun v => (HH.out.ext (XC.out.trans v.ext)).ptr_
  have r3 : ∀ v : ExtOf v2, v.val.cell? ⟨b3, 0, none⟩ = some (.pointer (some ⟨lb, 0, none⟩)) := fun v => v.ext.cell (cellOf B3.out rfl)
  have r4 : ∀ v : ExtOf v2, v.val.cell? ⟨b3 + 1, 0, none⟩ = some (.int .i64 i) := fun v => v.ext.cell (cellOf B4.out rfl)
  have r5 : ∀ v : ExtOf v2, v.val.cell? ⟨b3 + 1 + 1, 0, none⟩ = some (.int .i64 a) := fun v => v.ext.cell (cellOf B5.out rfl)
  refine wp_region_ext (by kernel_rfl) (by kernel_rfl) ?_
  repeat (go_big_quiet_step ((go_at_call 44; exact inExt (HLEN.out _ (XC.out.trans (ExtOf.ext _))))))
  refine wpQuiet_nil ?_
  rintro _ ⟨v, rfl⟩
  have hx1 := v.ext
  obtain ⟨v3, hw1⟩ : ∃ W, v.val = W := ⟨_, rfl⟩
  rw [hw1] at hx1 ⊢
  clear r0 r3 r4 r5 hw1
  clear v
  replace B3 := qh (hx1.block B3.out)
  replace B4 := qh (hx1.block B4.out)
  replace B5 := qh (hx1.block B5.out)
  replace XC := qh (XC.out.trans hx1)
  clear hx1
  have y3 := cellOf B3.out (i := 0) rfl
  go_upto_region 11 with (go_at_call 48; refine (HFUL.out _ XC.out).mono ?_; rintro e v4 ⟨rfl, x4⟩; have X4 := qh x4; clear x4)
  clear y3 e1 e2 e2n
  replace B3 := qh (X4.out.block B3.out)
  replace B4 := qh (X4.out.block B4.out)
  replace B5 := qh (X4.out.block B5.out)
  replace XC := qh (XC.out.trans X4.out)
  clear X4
  go_cut [8] (fun c wx => ∃ (bc br KK : Nat) (CC : Array Value), c = .pointer (some ⟨bc, 0, none⟩) ∧ Ext v4 wx ∧ wx.heap[bc]? = some (.cells #[.slice (some ⟨br, 0, none⟩) n KK] 84 (0, 0)) ∧ wx.heap[br]? = some (.cells CC 21 (0, 0)) ∧ n ≤ KK ∧ (∀ (j : Nat) (z : Int), (runeList tx tx.size 0)[j]? = some z → CC[j]? = some (Value.int .i32 z)) ∧ v4.heap.size ≤ bc ∧ v4.heap.size ≤ br)
  case first =>
    refine wp_region_N (S := fun w' => Ext v4 w') (n := 9) (by kernel_rfl) ?_
    have hS : Ext v4 v4.drew := (Ext.refl v4).drew
    obtain ⟨wz, hwz⟩ : ∃ V : World, V = v4.drew := ⟨_, rfl⟩
    rw [← hwz] at hS ⊢
    clear hwz
    show wpN _ _ _ _ _ 9 9 (Array.replicate 9 false) _ _
    have y3 := cellOf B3.out (i := 0) rfl
    have y4 := cellOf B4.out (i := 0) rfl
    have yt := (HH.out.ext XC.out).ptr_
    refine wpN_take (i := 0) (v := .pointer (some ⟨lb, 0, none⟩)) (o := { dst := some 47, op := _, type := _, pos := _, after := _, guard := none }) rfl (by kernel_rfl) (by kernel_rfl) (by kernel_rfl) (by kernel_rfl) (by kernel_rfl) (fun _ _ _ h => h) (Or.inl ⟨by rfl, fun w' hSw => ?_⟩) hS ?_
    · (have z3 := hSw.cell y3; have z4 := hSw.cell y4; have zt := hSw.cell yt; clear hS y3 y4 yt; go_simp)
    try simp only [Act.put, zA, zB, zC]
    refine wpN_take (i := 1) (v := .pointer (some ⟨lb, 0, none⟩)) (o := { dst := some 48, op := _, type := _, pos := _, after := _, guard := none }) rfl (by kernel_rfl) (by kernel_rfl) (by kernel_rfl) (by kernel_rfl) (by kernel_rfl) (fun _ _ _ h => h) (Or.inl ⟨by rfl, fun w' hSw => ?_⟩) hS ?_
    · (have z3 := hSw.cell y3; have z4 := hSw.cell y4; have zt := hSw.cell yt; clear hS y3 y4 yt; go_simp)
    try simp only [Act.put, zA, zB, zC]
    refine wpN_take (i := 2) (v := .pointer (some ⟨lb, 0, none⟩)) (o := { dst := some 49, op := _, type := _, pos := _, after := _, guard := none }) rfl (by kernel_rfl) (by kernel_rfl) (by kernel_rfl) (by kernel_rfl) (by kernel_rfl) (fun _ _ _ h => h) (Or.inl ⟨by rfl, fun w' hSw => ?_⟩) hS ?_
    · (have z3 := hSw.cell y3; have z4 := hSw.cell y4; have zt := hSw.cell yt; clear hS y3 y4 yt; go_simp)
    try simp only [Act.put, zA, zB, zC]
    refine wpN_take (i := 3) (v := .pointer (some ⟨tb, 0, none⟩)) (o := { dst := some 50, op := _, type := _, pos := _, after := _, guard := none }) rfl (by kernel_rfl) (by kernel_rfl) (by kernel_rfl) (by kernel_rfl) (by kernel_rfl) (fun _ _ _ h => h) (Or.inl ⟨by rfl, fun w' hSw => ?_⟩) hS ?_
    · (have z3 := hSw.cell y3; have z4 := hSw.cell y4; have zt := hSw.cell yt; clear hS y3 y4 yt; go_simp)
    try simp only [Act.put, zA, zB, zC]
    refine wpN_take (i := 4) (v := .int .i64 i) (o := { dst := some 51, op := _, type := _, pos := _, after := _, guard := none }) rfl (by kernel_rfl) (by kernel_rfl) (by kernel_rfl) (by kernel_rfl) (by kernel_rfl) (fun _ _ _ h => h) (Or.inl ⟨by rfl, fun w' hSw => ?_⟩) hS ?_
    · (have z3 := hSw.cell y3; have z4 := hSw.cell y4; have zt := hSw.cell yt; clear hS y3 y4 yt; go_simp)
    try simp only [Act.put, zA, zB, zC]
    clear y3 y4 yt
    have HS0 := qh hS
    clear hS
    refine name_act' fun A hA => with_wpN fun W hto hof => ?_
    have st_5_6_7 : ∀ (W1 : World) (br KK : Nat) (CC : Array Value) (bc : Nat), Ext v4 W1 → W1.heap[br]? = some (.cells CC 21 (0, 0)) → n ≤ KK → (∀ (j : Nat) (z : Int), (runeList tx tx.size 0)[j]? = some z → CC[j]? = some (Value.int .i32 z)) → v4.heap.size ≤ br → W1.heap[bc]? = some (.cells #[.slice none 0 0] 84 (0, 0)) → v4.heap.size ≤ bc → W 1 #[true, true, true, true, true, true, true, true, false] (((A.put (some 52) (.string tx)).put (some 53) (.slice (some ⟨br, 0, none⟩) n KK)).put (some 8) (.pointer (some ⟨bc, 0, none⟩))) W1 := by
      intro W1 br KK CC bc hX hrow hcap hrn hrg hbx hbxg
      have X := qh hX
      have F_row := qh hrow
      have F_cap := qh hcap
      have F_rn := qh hrn
      have F_rg := qh hrg
      have F_bx := qh hbx
      have F_bxg := qh hbxg
      clear hX hrow hcap hrn hrg hbx hbxg
      rw [hA]
      try simp only [Act.put, zA, zB, zC]
      refine hto _ _ _ _ ?_
      have hne : br ≠ bc := fun e => by
        have h1 := F_row.out
        have h2 := F_bx.out
        rw [e, h2] at h1
        cases h1
      have k0 := cellOf F_bx.out (i := 0) rfl
      have f0 := freeOf F_bx.out 0
      have HF := qh (And.intro (X.out.setCell (p := ⟨bc, 0, none⟩) F_bxg.out (.slice (some ⟨br, 0, none⟩) n KK)) (And.intro (heap_setCell_same F_bx.out (.slice (some ⟨br, 0, none⟩) n KK) : (W1.setCell ⟨bc, 0, none⟩ (.slice (some ⟨br, 0, none⟩) n KK)).heap[bc]? = some (.cells #[.slice (some ⟨br, 0, none⟩) n KK] 84 (0, 0))) ((heap_setCell_other (p := ⟨bc, 0, none⟩) (.slice (some ⟨br, 0, none⟩) n KK) hne).trans F_row.out)))
      clear hne
      refine wpN_one (i := 8) (o := { dst := none, op := _, type := _, pos := _, after := _, guard := none }) (by kernel_rfl) rfl (fun K hK => ?_)
      go_simp
      refine hK.out _ _ (.inr HF.out.1) ?_
      clear hK K
      refine wpN_done (by kernel_rfl) ?_
      go_wp2_with fail
      go_meet
      exact ⟨bc, br, KK, CC, rfl, HF.out.1, HF.out.2.1, HF.out.2.2, F_cap.out, F_rn.out, F_bxg.out, F_rg.out⟩
    rw [hA] at st_5_6_7
    try simp only [Act.put, zA, zB, zC] at st_5_6_7
    have ST_5_6_7 := qh st_5_6_7
    clear st_5_6_7
    have st_5_6 : ∀ (W1 : World) (br KK : Nat) (CC : Array Value), Ext v4 W1 → W1.heap[br]? = some (.cells CC 21 (0, 0)) → n ≤ KK → (∀ (j : Nat) (z : Int), (runeList tx tx.size 0)[j]? = some z → CC[j]? = some (Value.int .i32 z)) → v4.heap.size ≤ br → W 2 #[true, true, true, true, true, true, true, false, false] ((A.put (some 52) (.string tx)).put (some 53) (.slice (some ⟨br, 0, none⟩) n KK)) W1 := by
      intro W1 br KK CC hX hrow hcap hrn hrg
      have X := qh hX
      have F_row := qh hrow
      have F_cap := qh hcap
      have F_rn := qh hrn
      have F_rg := qh hrg
      clear hX hrow hcap hrn hrg
      rw [hA]
      try simp only [Act.put, zA, zB, zC]
      refine hto _ _ _ _ ?_
      refine wpN_one (i := 7) (o := { dst := some 8, op := _, type := _, pos := _, after := _, guard := none }) (by kernel_rfl) rfl (fun K hK => ?_)
      go_simp
      have xx := (Ext.refl W1).alloc (.cells #[.slice none 0 0] 84)
      have bb := heap_alloc_new W1 (.cells #[.slice none 0 0] 84)
      obtain ⟨W2, hW2⟩ : ∃ V : World, V = W1.alloc (.cells #[.slice none 0 0] 84) := ⟨_, rfl⟩
      obtain ⟨bc, hbc⟩ : ∃ b, W1.heap.size = b := ⟨_, rfl⟩
      rw [← hW2] at xx bb
      rw [hbc] at bb
      have XX := qh xx
      have BB := qh bb
      have HX2 := qh (X.out.trans xx)
      have HBN := qh hbc
      have HJJ := qh (hbc ▸ X.out.size)
      rw [← hW2, hbc]
      clear xx bb hW2 hbc
      refine hK.out _ _ (.inr HX2.out) ?_
      clear hK K
      try simp only [Act.put, zA, zB, zC]
      exact hof _ _ _ _ (ST_5_6_7.out W2 br KK CC bc HX2.out (XX.out.block F_row.out) F_cap.out F_rn.out F_rg.out (BB.out) (HJJ.out))
    rw [hA] at st_5_6
    try simp only [Act.put, zA, zB, zC] at st_5_6
    have ST_5_6 := qh st_5_6
    clear st_5_6
    have st_5_7 : ∀ (W1 : World) (bc : Nat), Ext v4 W1 → W1.heap[bc]? = some (.cells #[.slice none 0 0] 84 (0, 0)) → v4.heap.size ≤ bc → W 2 #[true, true, true, true, true, true, false, true, false] ((A.put (some 52) (.string tx)).put (some 8) (.pointer (some ⟨bc, 0, none⟩))) W1 := by
      intro W1 bc hX hbx hbxg
      have X := qh hX
      have F_bx := qh hbx
      have F_bxg := qh hbxg
      clear hX hbx hbxg
      rw [hA]
      try simp only [Act.put, zA, zB, zC]
      refine hto _ _ _ _ ?_
      refine wpN_one (i := 6) (o := { dst := some 53, op := _, type := _, pos := _, after := _, guard := none }) (by kernel_rfl) rfl (fun K hK => ?_)
      go_simp
      obtain ⟨KK, CC, hcv, hK1, hC1⟩ := run_toRunes tx (by have := HTS.out; omega) W1
      rw [show (runeList tx tx.size 0).length = n from HNN.out] at hcv hK1
      rw [hcv]
      clear hcv
      have xx : Ext W1 (W1.alloc (.cells CC 21)).drew := ((Ext.refl W1).alloc _).drew
      have bb : (W1.alloc (.cells CC 21)).drew.heap[W1.heap.size]? = some (.cells CC 21 (0, 0)) := heap_alloc_new W1 _
      obtain ⟨W2, hW2⟩ : ∃ V : World, V = (W1.alloc (.cells CC 21)).drew := ⟨_, rfl⟩
      obtain ⟨br, hbr⟩ : ∃ b, W1.heap.size = b := ⟨_, rfl⟩
      rw [← hW2] at xx bb
      rw [hbr] at bb
      have XX := qh xx
      have BB := qh bb
      have HX2 := qh (X.out.trans xx)
      have HJJ := qh (hbr ▸ X.out.size)
      have HK1 := qh hK1
      have HC1 := qh hC1
      go_simp
      rw [← hW2]
      try rw [hbr]
      clear xx bb hW2 hbr hK1 hC1
      refine hK.out _ _ (.inr HX2.out) ?_
      clear hK K
      try simp only [Act.put, zA, zB, zC]
      exact hof _ _ _ _ (ST_5_6_7.out W2 br KK CC bc HX2.out (BB.out) (HK1.out) (HC1.out) (HJJ.out) (XX.out.block F_bx.out) F_bxg.out)
    rw [hA] at st_5_7
    try simp only [Act.put, zA, zB, zC] at st_5_7
    have ST_5_7 := qh st_5_7
    clear st_5_7
    have st_5 : ∀ (W1 : World) , Ext v4 W1 → W 3 #[true, true, true, true, true, true, false, false, false] (A.put (some 52) (.string tx)) W1 := by
      intro W1  hX 
      have X := qh hX

      clear hX
      rw [hA]
      try simp only [Act.put, zA, zB, zC]
      refine hto _ _ _ _ ?_
      refine wpN_two (i := 6) (j := 7) (oi := { dst := some 53, op := _, type := _, pos := _, after := _, guard := none }) (oj := { dst := some 8, op := _, type := _, pos := _, after := _, guard := none }) (by kernel_rfl) rfl rfl (fun K hK => ?_) (fun K hK => ?_)
      · go_simp
        obtain ⟨KK, CC, hcv, hK1, hC1⟩ := run_toRunes tx (by have := HTS.out; omega) W1
        rw [show (runeList tx tx.size 0).length = n from HNN.out] at hcv hK1
        rw [hcv]
        clear hcv
        have xx : Ext W1 (W1.alloc (.cells CC 21)).drew := ((Ext.refl W1).alloc _).drew
        have bb : (W1.alloc (.cells CC 21)).drew.heap[W1.heap.size]? = some (.cells CC 21 (0, 0)) := heap_alloc_new W1 _
        obtain ⟨W2, hW2⟩ : ∃ V : World, V = (W1.alloc (.cells CC 21)).drew := ⟨_, rfl⟩
        obtain ⟨br, hbr⟩ : ∃ b, W1.heap.size = b := ⟨_, rfl⟩
        rw [← hW2] at xx bb
        rw [hbr] at bb
        have XX := qh xx
        have BB := qh bb
        have HX2 := qh (X.out.trans xx)
        have HJJ := qh (hbr ▸ X.out.size)
        have HK1 := qh hK1
        have HC1 := qh hC1
        go_simp
        rw [← hW2]
        try rw [hbr]
        clear xx bb hW2 hbr hK1 hC1
        refine hK.out _ _ (.inr HX2.out) ?_
        clear hK K
        try simp only [Act.put, zA, zB, zC]
        exact hof _ _ _ _ (ST_5_6.out W2 br KK CC HX2.out (BB.out) (HK1.out) (HC1.out) (HJJ.out))
      · go_simp
        have xx := (Ext.refl W1).alloc (.cells #[.slice none 0 0] 84)
        have bb := heap_alloc_new W1 (.cells #[.slice none 0 0] 84)
        obtain ⟨W2, hW2⟩ : ∃ V : World, V = W1.alloc (.cells #[.slice none 0 0] 84) := ⟨_, rfl⟩
        obtain ⟨bc, hbc⟩ : ∃ b, W1.heap.size = b := ⟨_, rfl⟩
        rw [← hW2] at xx bb
        rw [hbc] at bb
        have XX := qh xx
        have BB := qh bb
        have HX2 := qh (X.out.trans xx)
        have HBN := qh hbc
        have HJJ := qh (hbc ▸ X.out.size)
        rw [← hW2, hbc]
        clear xx bb hW2 hbc
        refine hK.out _ _ (.inr HX2.out) ?_
        clear hK K
        try simp only [Act.put, zA, zB, zC]
        exact hof _ _ _ _ (ST_5_7.out W2 bc HX2.out (BB.out) (HJJ.out))
    rw [hA] at st_5
    try simp only [Act.put, zA, zB, zC] at st_5
    have ST_5 := qh st_5
    clear st_5
    have st_7 : ∀ (W1 : World) (bc : Nat), Ext v4 W1 → W1.heap[bc]? = some (.cells #[.slice none 0 0] 84 (0, 0)) → v4.heap.size ≤ bc → W 3 #[true, true, true, true, true, false, false, true, false] (A.put (some 8) (.pointer (some ⟨bc, 0, none⟩))) W1 := by
      intro W1 bc hX hbx hbxg
      have X := qh hX
      have F_bx := qh hbx
      have F_bxg := qh hbxg
      clear hX hbx hbxg
      rw [hA]
      try simp only [Act.put, zA, zB, zC]
      refine hto _ _ _ _ ?_
      refine wpN_one (i := 5) (o := { dst := some 52, op := _, type := _, pos := _, after := _, guard := none }) (by kernel_rfl) rfl (fun K hK => ?_)
      go_simp
      go_at_call 49
      refine (HTO.out _ (XC.out.trans X.out)).mono ?_
      rintro e w9 ⟨rfl, rfl⟩
      have HX2 := X
      refine hK.out _ _ (.inr HX2.out) ?_
      clear hK K
      try simp only [Act.put, zA, zB, zC]
      exact hof _ _ _ _ (ST_5_7.out W1 bc HX2.out (F_bx.out) F_bxg.out)
    rw [hA] at st_7
    try simp only [Act.put, zA, zB, zC] at st_7
    have ST_7 := qh st_7
    clear st_7
    have st : ∀ (W1 : World) , Ext v4 W1 → W 4 #[true, true, true, true, true, false, false, false, false] A W1 := by
      intro W1  hX 
      have X := qh hX

      clear hX
      rw [hA]
      try simp only [Act.put, zA, zB, zC]
      refine hto _ _ _ _ ?_
      refine wpN_two (i := 5) (j := 7) (oi := { dst := some 52, op := _, type := _, pos := _, after := _, guard := none }) (oj := { dst := some 8, op := _, type := _, pos := _, after := _, guard := none }) (by kernel_rfl) rfl rfl (fun K hK => ?_) (fun K hK => ?_)
      · go_simp
        go_at_call 49
        refine (HTO.out _ (XC.out.trans X.out)).mono ?_
        rintro e w9 ⟨rfl, rfl⟩
        have HX2 := X
        refine hK.out _ _ (.inr HX2.out) ?_
        clear hK K
        try simp only [Act.put, zA, zB, zC]
        exact hof _ _ _ _ (ST_5.out W1 HX2.out )
      · go_simp
        have xx := (Ext.refl W1).alloc (.cells #[.slice none 0 0] 84)
        have bb := heap_alloc_new W1 (.cells #[.slice none 0 0] 84)
        obtain ⟨W2, hW2⟩ : ∃ V : World, V = W1.alloc (.cells #[.slice none 0 0] 84) := ⟨_, rfl⟩
        obtain ⟨bc, hbc⟩ : ∃ b, W1.heap.size = b := ⟨_, rfl⟩
        rw [← hW2] at xx bb
        rw [hbc] at bb
        have XX := qh xx
        have BB := qh bb
        have HX2 := qh (X.out.trans xx)
        have HBN := qh hbc
        have HJJ := qh (hbc ▸ X.out.size)
        rw [← hW2, hbc]
        clear xx bb hW2 hbc
        refine hK.out _ _ (.inr HX2.out) ?_
        clear hK K
        try simp only [Act.put, zA, zB, zC]
        exact hof _ _ _ _ (ST_7.out W2 bc HX2.out (BB.out) (HJJ.out))
    rw [hA] at st
    try simp only [Act.put, zA, zB, zC] at st
    have ST := qh st
    clear st
    subst hA
    exact ST.out _ HS0.out
  case rest =>
    obtain ⟨bc, br, KK, CC, rfl, x5, hbc, hbr, hKK, hrn, hg1, hg2⟩ := hcut
    rename World => v5
    have BC := qh hbc
    have BR := qh hbr
    have HKK := qh (And.intro hKK hrn)
    have HGE := qh (And.intro (Nat.le_trans XC.out.size hg1) (Nat.le_trans XC.out.size hg2))
    replace B3 := qh (x5.block B3.out)
    replace B4 := qh (x5.block B4.out)
    replace B5 := qh (x5.block B5.out)
    replace XC := qh (XC.out.trans x5)
    clear x5 hbc hbr hKK hrn hg1 hg2
    go_upto_region 12 with fail
    go_cut [9, 10] (fun p q wx => ∃ bp bq : Nat, p = .pointer (some ⟨bp, 0, none⟩) ∧ q = .pointer (some ⟨bq, 0, none⟩) ∧ Ext v5 wx ∧ wx.heap[bp]? = some (.cells #[.int .i64 u] 3 (0, 0)) ∧ wx.heap[bq]? = some (.cells #[.int .i64 x] 3 (0, 0)) ∧ v5.heap.size ≤ bp ∧ v5.heap.size ≤ bq)
    case first =>
      refine wp_region_N (S := fun w' => Ext v5 w') (n := 16) (by kernel_rfl) ?_
      have hS : Ext v5 v5.drew := (Ext.refl v5).drew
      obtain ⟨wz, hwz⟩ : ∃ V : World, V = v5.drew := ⟨_, rfl⟩
      rw [← hwz] at hS ⊢
      clear hwz
      show wpN _ _ _ _ _ 16 16 (Array.replicate 16 false) _ _
      have y3 := cellOf B3.out (i := 0) rfl
      have y4 := cellOf B4.out (i := 0) rfl
      have yt := (HH.out.ext XC.out).ptr_
      refine wpN_take (i := 0) (v := .pointer (some ⟨lb, 0, none⟩)) (o := { dst := some 54, op := _, type := _, pos := _, after := _, guard := none }) rfl (by kernel_rfl) (by kernel_rfl) (by kernel_rfl) (by kernel_rfl) (by kernel_rfl) (fun _ _ _ h => h) (Or.inl ⟨by rfl, fun w' hSw => ?_⟩) hS ?_
      · (have z3 := hSw.cell y3; have z4 := hSw.cell y4; have zt := hSw.cell yt; clear hS y3 y4 yt; go_simp)
      try simp only [Act.put, zA, zB, zC]
      refine wpN_take (i := 1) (v := .pointer (some ⟨lb, 0, none⟩)) (o := { dst := some 55, op := _, type := _, pos := _, after := _, guard := none }) rfl (by kernel_rfl) (by kernel_rfl) (by kernel_rfl) (by kernel_rfl) (by kernel_rfl) (fun _ _ _ h => h) (Or.inl ⟨by rfl, fun w' hSw => ?_⟩) hS ?_
      · (have z3 := hSw.cell y3; have z4 := hSw.cell y4; have zt := hSw.cell yt; clear hS y3 y4 yt; go_simp)
      try simp only [Act.put, zA, zB, zC]
      refine wpN_take (i := 2) (v := .pointer (some ⟨lb, 0, none⟩)) (o := { dst := some 56, op := _, type := _, pos := _, after := _, guard := none }) rfl (by kernel_rfl) (by kernel_rfl) (by kernel_rfl) (by kernel_rfl) (by kernel_rfl) (fun _ _ _ h => h) (Or.inl ⟨by rfl, fun w' hSw => ?_⟩) hS ?_
      · (have z3 := hSw.cell y3; have z4 := hSw.cell y4; have zt := hSw.cell yt; clear hS y3 y4 yt; go_simp)
      try simp only [Act.put, zA, zB, zC]
      refine wpN_take (i := 3) (v := .pointer (some ⟨tb, 0, none⟩)) (o := { dst := some 57, op := _, type := _, pos := _, after := _, guard := none }) rfl (by kernel_rfl) (by kernel_rfl) (by kernel_rfl) (by kernel_rfl) (by kernel_rfl) (fun _ _ _ h => h) (Or.inl ⟨by rfl, fun w' hSw => ?_⟩) hS ?_
      · (have z3 := hSw.cell y3; have z4 := hSw.cell y4; have zt := hSw.cell yt; clear hS y3 y4 yt; go_simp)
      try simp only [Act.put, zA, zB, zC]
      refine wpN_take (i := 4) (v := .int .i64 i) (o := { dst := some 58, op := _, type := _, pos := _, after := _, guard := none }) rfl (by kernel_rfl) (by kernel_rfl) (by kernel_rfl) (by kernel_rfl) (by kernel_rfl) (fun _ _ _ h => h) (Or.inl ⟨by rfl, fun w' hSw => ?_⟩) hS ?_
      · (have z3 := hSw.cell y3; have z4 := hSw.cell y4; have zt := hSw.cell yt; clear hS y3 y4 yt; go_simp)
      try simp only [Act.put, zA, zB, zC]
      refine wpN_take (i := 6) (v := .pointer (some ⟨lb, 0, none⟩)) (o := { dst := some 60, op := _, type := _, pos := _, after := _, guard := none }) rfl (by kernel_rfl) (by kernel_rfl) (by kernel_rfl) (by kernel_rfl) (by kernel_rfl) (fun _ _ _ h => h) (Or.inl ⟨by rfl, fun w' hSw => ?_⟩) hS ?_
      · (have z3 := hSw.cell y3; have z4 := hSw.cell y4; have zt := hSw.cell yt; clear hS y3 y4 yt; go_simp)
      try simp only [Act.put, zA, zB, zC]
      refine wpN_take (i := 7) (v := .pointer (some ⟨lb, 0, none⟩)) (o := { dst := some 61, op := _, type := _, pos := _, after := _, guard := none }) rfl (by kernel_rfl) (by kernel_rfl) (by kernel_rfl) (by kernel_rfl) (by kernel_rfl) (fun _ _ _ h => h) (Or.inl ⟨by rfl, fun w' hSw => ?_⟩) hS ?_
      · (have z3 := hSw.cell y3; have z4 := hSw.cell y4; have zt := hSw.cell yt; clear hS y3 y4 yt; go_simp)
      try simp only [Act.put, zA, zB, zC]
      refine wpN_take (i := 8) (v := .pointer (some ⟨lb, 0, none⟩)) (o := { dst := some 62, op := _, type := _, pos := _, after := _, guard := none }) rfl (by kernel_rfl) (by kernel_rfl) (by kernel_rfl) (by kernel_rfl) (by kernel_rfl) (fun _ _ _ h => h) (Or.inl ⟨by rfl, fun w' hSw => ?_⟩) hS ?_
      · (have z3 := hSw.cell y3; have z4 := hSw.cell y4; have zt := hSw.cell yt; clear hS y3 y4 yt; go_simp)
      try simp only [Act.put, zA, zB, zC]
      refine wpN_take (i := 9) (v := .pointer (some ⟨tb, 0, none⟩)) (o := { dst := some 63, op := _, type := _, pos := _, after := _, guard := none }) rfl (by kernel_rfl) (by kernel_rfl) (by kernel_rfl) (by kernel_rfl) (by kernel_rfl) (fun _ _ _ h => h) (Or.inl ⟨by rfl, fun w' hSw => ?_⟩) hS ?_
      · (have z3 := hSw.cell y3; have z4 := hSw.cell y4; have zt := hSw.cell yt; clear hS y3 y4 yt; go_simp)
      try simp only [Act.put, zA, zB, zC]
      refine wpN_take (i := 10) (v := .int .i64 i) (o := { dst := some 64, op := _, type := _, pos := _, after := _, guard := none }) rfl (by kernel_rfl) (by kernel_rfl) (by kernel_rfl) (by kernel_rfl) (by kernel_rfl) (fun _ _ _ h => h) (Or.inl ⟨by rfl, fun w' hSw => ?_⟩) hS ?_
      · (have z3 := hSw.cell y3; have z4 := hSw.cell y4; have zt := hSw.cell yt; clear hS y3 y4 yt; go_simp)
      try simp only [Act.put, zA, zB, zC]
      clear y3 y4 yt
      have HS0 := qh hS
      clear hS
      refine name_act' fun A hA => with_wpN fun W hto hof => ?_
      have st_5_11_12_13 : ∀ (W1 : World) (bp : Nat) (bq : Nat), Ext v5 W1 → W1.heap[bp]? = some (.cells #[.int .i64 0] 3 (0, 0)) → v5.heap.size ≤ bp → W1.heap[bq]? = some (.cells #[.int .i64 0] 3 (0, 0)) → v5.heap.size ≤ bq → bp ≠ bq → W 2 #[true, true, true, true, true, true, true, true, true, true, true, true, true, true, false, false] ((((A.put (some 59) (.int .i64 u)).put (some 65) (.int .i64 x)).put (some 9) (.pointer (some ⟨bp, 0, none⟩))).put (some 10) (.pointer (some ⟨bq, 0, none⟩))) W1 := by
        intro W1 bp bq hX hbp hbpg hbq hbqg hne
        have X := qh hX
        have F_bp := qh hbp
        have F_bpg := qh hbpg
        have F_bq := qh hbq
        have F_bqg := qh hbqg
        have F_ne := qh hne
        clear hX hbp hbpg hbq hbqg hne
        rw [hA]
        try simp only [Act.put, zA, zB, zC]
        refine hto _ _ _ _ ?_
        have k0 := cellOf F_bp.out (i := 0) rfl
        have f0 := freeOf F_bp.out 0
        have hq1 := (heap_setCell_other (p := ⟨bp, 0, none⟩) (.int .i64 u) (Ne.symm F_ne.out)).trans F_bq.out
        have k1 := cellOf hq1 (i := 0) rfl
        have f1 := freeOf hq1 0
        have hp1 : (W1.setCell ⟨bp, 0, none⟩ (.int .i64 u)).heap[bp]? = some (.cells #[.int .i64 u] 3 (0, 0)) := heap_setCell_same F_bp.out (.int .i64 u)
        have hx1 := X.out.setCell (p := ⟨bp, 0, none⟩) F_bpg.out (.int .i64 u)
        have HF1 := qh hx1
        have HF := qh (And.intro (hx1.setCell (p := ⟨bq, 0, none⟩) F_bqg.out (.int .i64 x)) (And.intro ((heap_setCell_other (p := ⟨bq, 0, none⟩) (.int .i64 x) F_ne.out).trans hp1) (heap_setCell_same hq1 (.int .i64 x) : ((W1.setCell ⟨bp, 0, none⟩ (.int .i64 u)).setCell ⟨bq, 0, none⟩ (.int .i64 x)).heap[bq]? = some (.cells #[.int .i64 x] 3 (0, 0)))))
        clear hq1 hp1 hx1
        refine wpN_one (i := 14) (o := { dst := none, op := _, type := _, pos := _, after := _, guard := none }) (by kernel_rfl) rfl (fun K hK => ?_)
        go_simp
        refine hK.out _ _ (.inr HF1.out) ?_
        clear hK K
        refine wpN_one (i := 15) (o := { dst := none, op := _, type := _, pos := _, after := _, guard := none }) (by kernel_rfl) rfl (fun K hK => ?_)
        go_simp
        refine hK.out _ _ (.inr HF.out.1) ?_
        clear hK K
        refine wpN_done (by kernel_rfl) ?_
        go_wp2_with fail
        go_meet
        exact ⟨bp, bq, rfl, rfl, HF.out.1, HF.out.2.1, HF.out.2.2, F_bpg.out, F_bqg.out⟩
      rw [hA] at st_5_11_12_13
      try simp only [Act.put, zA, zB, zC] at st_5_11_12_13
      have ST_5_11_12_13 := qh st_5_11_12_13
      clear st_5_11_12_13
      have st_5_11_12 : ∀ (W1 : World) (bp : Nat), Ext v5 W1 → W1.heap[bp]? = some (.cells #[.int .i64 0] 3 (0, 0)) → v5.heap.size ≤ bp → W 3 #[true, true, true, true, true, true, true, true, true, true, true, true, true, false, false, false] (((A.put (some 59) (.int .i64 u)).put (some 65) (.int .i64 x)).put (some 9) (.pointer (some ⟨bp, 0, none⟩))) W1 := by
        intro W1 bp hX hbp hbpg
        have X := qh hX
        have F_bp := qh hbp
        have F_bpg := qh hbpg
        clear hX hbp hbpg
        rw [hA]
        try simp only [Act.put, zA, zB, zC]
        refine hto _ _ _ _ ?_
        refine wpN_one (i := 13) (o := { dst := some 10, op := _, type := _, pos := _, after := _, guard := none }) (by kernel_rfl) rfl (fun K hK => ?_)
        go_simp
        have xx := (Ext.refl W1).alloc (.cells #[.int .i64 0] 3)
        have bb := heap_alloc_new W1 (.cells #[.int .i64 0] 3)
        obtain ⟨W2, hW2⟩ : ∃ V : World, V = W1.alloc (.cells #[.int .i64 0] 3) := ⟨_, rfl⟩
        obtain ⟨bq, hbq⟩ : ∃ b, W1.heap.size = b := ⟨_, rfl⟩
        rw [← hW2] at xx bb
        rw [hbq] at bb
        have XX := qh xx
        have BB := qh bb
        have HX2 := qh (X.out.trans xx)
        have HBN := qh hbq
        have HJJ := qh (hbq ▸ X.out.size)
        rw [← hW2, hbq]
        clear xx bb hW2 hbq
        refine hK.out _ _ (.inr HX2.out) ?_
        clear hK K
        try simp only [Act.put, zA, zB, zC]
        exact hof _ _ _ _ (ST_5_11_12_13.out W2 bp bq HX2.out (XX.out.block F_bp.out) F_bpg.out (BB.out) (HJJ.out) (HBN.out ▸ ne_new F_bp.out))
      rw [hA] at st_5_11_12
      try simp only [Act.put, zA, zB, zC] at st_5_11_12
      have ST_5_11_12 := qh st_5_11_12
      clear st_5_11_12
      have st_5_11_13 : ∀ (W1 : World) (bq : Nat), Ext v5 W1 → W1.heap[bq]? = some (.cells #[.int .i64 0] 3 (0, 0)) → v5.heap.size ≤ bq → W 3 #[true, true, true, true, true, true, true, true, true, true, true, true, false, true, false, false] (((A.put (some 59) (.int .i64 u)).put (some 65) (.int .i64 x)).put (some 10) (.pointer (some ⟨bq, 0, none⟩))) W1 := by
        intro W1 bq hX hbq hbqg
        have X := qh hX
        have F_bq := qh hbq
        have F_bqg := qh hbqg
        clear hX hbq hbqg
        rw [hA]
        try simp only [Act.put, zA, zB, zC]
        refine hto _ _ _ _ ?_
        refine wpN_one (i := 12) (o := { dst := some 9, op := _, type := _, pos := _, after := _, guard := none }) (by kernel_rfl) rfl (fun K hK => ?_)
        go_simp
        have xx := (Ext.refl W1).alloc (.cells #[.int .i64 0] 3)
        have bb := heap_alloc_new W1 (.cells #[.int .i64 0] 3)
        obtain ⟨W2, hW2⟩ : ∃ V : World, V = W1.alloc (.cells #[.int .i64 0] 3) := ⟨_, rfl⟩
        obtain ⟨bp, hbp⟩ : ∃ b, W1.heap.size = b := ⟨_, rfl⟩
        rw [← hW2] at xx bb
        rw [hbp] at bb
        have XX := qh xx
        have BB := qh bb
        have HX2 := qh (X.out.trans xx)
        have HBN := qh hbp
        have HJJ := qh (hbp ▸ X.out.size)
        rw [← hW2, hbp]
        clear xx bb hW2 hbp
        refine hK.out _ _ (.inr HX2.out) ?_
        clear hK K
        try simp only [Act.put, zA, zB, zC]
        exact hof _ _ _ _ (ST_5_11_12_13.out W2 bp bq HX2.out (BB.out) (HJJ.out) (XX.out.block F_bq.out) F_bqg.out (Ne.symm (HBN.out ▸ ne_new F_bq.out)))
      rw [hA] at st_5_11_13
      try simp only [Act.put, zA, zB, zC] at st_5_11_13
      have ST_5_11_13 := qh st_5_11_13
      clear st_5_11_13
      have st_5_12_13 : ∀ (W1 : World) (bp : Nat) (bq : Nat), Ext v5 W1 → W1.heap[bp]? = some (.cells #[.int .i64 0] 3 (0, 0)) → v5.heap.size ≤ bp → W1.heap[bq]? = some (.cells #[.int .i64 0] 3 (0, 0)) → v5.heap.size ≤ bq → bp ≠ bq → W 3 #[true, true, true, true, true, true, true, true, true, true, true, false, true, true, false, false] (((A.put (some 59) (.int .i64 u)).put (some 9) (.pointer (some ⟨bp, 0, none⟩))).put (some 10) (.pointer (some ⟨bq, 0, none⟩))) W1 := by
        intro W1 bp bq hX hbp hbpg hbq hbqg hne
        have X := qh hX
        have F_bp := qh hbp
        have F_bpg := qh hbpg
        have F_bq := qh hbq
        have F_bqg := qh hbqg
        have F_ne := qh hne
        clear hX hbp hbpg hbq hbqg hne
        rw [hA]
        try simp only [Act.put, zA, zB, zC]
        refine hto _ _ _ _ ?_
        refine wpN_one (i := 11) (o := { dst := some 65, op := _, type := _, pos := _, after := _, guard := none }) (by kernel_rfl) rfl (fun K hK => ?_)
        go_simp
        go_at_call 29
        refine (HIX.out _ (XC.out.trans X.out)).mono ?_
        rintro e W2 ⟨rfl, xx⟩
        have XX := qh xx
        have HX2 := qh (X.out.trans xx)
        clear xx
        refine hK.out _ _ (.inr HX2.out) ?_
        clear hK K
        try simp only [Act.put, zA, zB, zC]
        exact hof _ _ _ _ (ST_5_11_12_13.out W2 bp bq HX2.out (XX.out.block F_bp.out) F_bpg.out (XX.out.block F_bq.out) F_bqg.out F_ne.out)
      rw [hA] at st_5_12_13
      try simp only [Act.put, zA, zB, zC] at st_5_12_13
      have ST_5_12_13 := qh st_5_12_13
      clear st_5_12_13
      have st_5_11 : ∀ (W1 : World) , Ext v5 W1 → W 4 #[true, true, true, true, true, true, true, true, true, true, true, true, false, false, false, false] ((A.put (some 59) (.int .i64 u)).put (some 65) (.int .i64 x)) W1 := by
        intro W1  hX 
        have X := qh hX

        clear hX
        rw [hA]
        try simp only [Act.put, zA, zB, zC]
        refine hto _ _ _ _ ?_
        refine wpN_two (i := 12) (j := 13) (oi := { dst := some 9, op := _, type := _, pos := _, after := _, guard := none }) (oj := { dst := some 10, op := _, type := _, pos := _, after := _, guard := none }) (by kernel_rfl) rfl rfl (fun K hK => ?_) (fun K hK => ?_)
        · go_simp
          have xx := (Ext.refl W1).alloc (.cells #[.int .i64 0] 3)
          have bb := heap_alloc_new W1 (.cells #[.int .i64 0] 3)
          obtain ⟨W2, hW2⟩ : ∃ V : World, V = W1.alloc (.cells #[.int .i64 0] 3) := ⟨_, rfl⟩
          obtain ⟨bp, hbp⟩ : ∃ b, W1.heap.size = b := ⟨_, rfl⟩
          rw [← hW2] at xx bb
          rw [hbp] at bb
          have XX := qh xx
          have BB := qh bb
          have HX2 := qh (X.out.trans xx)
          have HBN := qh hbp
          have HJJ := qh (hbp ▸ X.out.size)
          rw [← hW2, hbp]
          clear xx bb hW2 hbp
          refine hK.out _ _ (.inr HX2.out) ?_
          clear hK K
          try simp only [Act.put, zA, zB, zC]
          exact hof _ _ _ _ (ST_5_11_12.out W2 bp HX2.out (BB.out) (HJJ.out))
        · go_simp
          have xx := (Ext.refl W1).alloc (.cells #[.int .i64 0] 3)
          have bb := heap_alloc_new W1 (.cells #[.int .i64 0] 3)
          obtain ⟨W2, hW2⟩ : ∃ V : World, V = W1.alloc (.cells #[.int .i64 0] 3) := ⟨_, rfl⟩
          obtain ⟨bq, hbq⟩ : ∃ b, W1.heap.size = b := ⟨_, rfl⟩
          rw [← hW2] at xx bb
          rw [hbq] at bb
          have XX := qh xx
          have BB := qh bb
          have HX2 := qh (X.out.trans xx)
          have HBN := qh hbq
          have HJJ := qh (hbq ▸ X.out.size)
          rw [← hW2, hbq]
          clear xx bb hW2 hbq
          refine hK.out _ _ (.inr HX2.out) ?_
          clear hK K
          try simp only [Act.put, zA, zB, zC]
          exact hof _ _ _ _ (ST_5_11_13.out W2 bq HX2.out (BB.out) (HJJ.out))
      rw [hA] at st_5_11
      try simp only [Act.put, zA, zB, zC] at st_5_11
      have ST_5_11 := qh st_5_11
      clear st_5_11
      have st_5_12 : ∀ (W1 : World) (bp : Nat), Ext v5 W1 → W1.heap[bp]? = some (.cells #[.int .i64 0] 3 (0, 0)) → v5.heap.size ≤ bp → W 4 #[true, true, true, true, true, true, true, true, true, true, true, false, true, false, false, false] ((A.put (some 59) (.int .i64 u)).put (some 9) (.pointer (some ⟨bp, 0, none⟩))) W1 := by
        intro W1 bp hX hbp hbpg
        have X := qh hX
        have F_bp := qh hbp
        have F_bpg := qh hbpg
        clear hX hbp hbpg
        rw [hA]
        try simp only [Act.put, zA, zB, zC]
        refine hto _ _ _ _ ?_
        refine wpN_two (i := 11) (j := 13) (oi := { dst := some 65, op := _, type := _, pos := _, after := _, guard := none }) (oj := { dst := some 10, op := _, type := _, pos := _, after := _, guard := none }) (by kernel_rfl) rfl rfl (fun K hK => ?_) (fun K hK => ?_)
        · go_simp
          go_at_call 29
          refine (HIX.out _ (XC.out.trans X.out)).mono ?_
          rintro e W2 ⟨rfl, xx⟩
          have XX := qh xx
          have HX2 := qh (X.out.trans xx)
          clear xx
          refine hK.out _ _ (.inr HX2.out) ?_
          clear hK K
          try simp only [Act.put, zA, zB, zC]
          exact hof _ _ _ _ (ST_5_11_12.out W2 bp HX2.out (XX.out.block F_bp.out) F_bpg.out)
        · go_simp
          have xx := (Ext.refl W1).alloc (.cells #[.int .i64 0] 3)
          have bb := heap_alloc_new W1 (.cells #[.int .i64 0] 3)
          obtain ⟨W2, hW2⟩ : ∃ V : World, V = W1.alloc (.cells #[.int .i64 0] 3) := ⟨_, rfl⟩
          obtain ⟨bq, hbq⟩ : ∃ b, W1.heap.size = b := ⟨_, rfl⟩
          rw [← hW2] at xx bb
          rw [hbq] at bb
          have XX := qh xx
          have BB := qh bb
          have HX2 := qh (X.out.trans xx)
          have HBN := qh hbq
          have HJJ := qh (hbq ▸ X.out.size)
          rw [← hW2, hbq]
          clear xx bb hW2 hbq
          refine hK.out _ _ (.inr HX2.out) ?_
          clear hK K
          try simp only [Act.put, zA, zB, zC]
          exact hof _ _ _ _ (ST_5_12_13.out W2 bp bq HX2.out (XX.out.block F_bp.out) F_bpg.out (BB.out) (HJJ.out) (HBN.out ▸ ne_new F_bp.out))
      rw [hA] at st_5_12
      try simp only [Act.put, zA, zB, zC] at st_5_12
      have ST_5_12 := qh st_5_12
      clear st_5_12
      have st_5_13 : ∀ (W1 : World) (bq : Nat), Ext v5 W1 → W1.heap[bq]? = some (.cells #[.int .i64 0] 3 (0, 0)) → v5.heap.size ≤ bq → W 4 #[true, true, true, true, true, true, true, true, true, true, true, false, false, true, false, false] ((A.put (some 59) (.int .i64 u)).put (some 10) (.pointer (some ⟨bq, 0, none⟩))) W1 := by
        intro W1 bq hX hbq hbqg
        have X := qh hX
        have F_bq := qh hbq
        have F_bqg := qh hbqg
        clear hX hbq hbqg
        rw [hA]
        try simp only [Act.put, zA, zB, zC]
        refine hto _ _ _ _ ?_
        refine wpN_two (i := 11) (j := 12) (oi := { dst := some 65, op := _, type := _, pos := _, after := _, guard := none }) (oj := { dst := some 9, op := _, type := _, pos := _, after := _, guard := none }) (by kernel_rfl) rfl rfl (fun K hK => ?_) (fun K hK => ?_)
        · go_simp
          go_at_call 29
          refine (HIX.out _ (XC.out.trans X.out)).mono ?_
          rintro e W2 ⟨rfl, xx⟩
          have XX := qh xx
          have HX2 := qh (X.out.trans xx)
          clear xx
          refine hK.out _ _ (.inr HX2.out) ?_
          clear hK K
          try simp only [Act.put, zA, zB, zC]
          exact hof _ _ _ _ (ST_5_11_13.out W2 bq HX2.out (XX.out.block F_bq.out) F_bqg.out)
        · go_simp
          have xx := (Ext.refl W1).alloc (.cells #[.int .i64 0] 3)
          have bb := heap_alloc_new W1 (.cells #[.int .i64 0] 3)
          obtain ⟨W2, hW2⟩ : ∃ V : World, V = W1.alloc (.cells #[.int .i64 0] 3) := ⟨_, rfl⟩
          obtain ⟨bp, hbp⟩ : ∃ b, W1.heap.size = b := ⟨_, rfl⟩
          rw [← hW2] at xx bb
          rw [hbp] at bb
          have XX := qh xx
          have BB := qh bb
          have HX2 := qh (X.out.trans xx)
          have HBN := qh hbp
          have HJJ := qh (hbp ▸ X.out.size)
          rw [← hW2, hbp]
          clear xx bb hW2 hbp
          refine hK.out _ _ (.inr HX2.out) ?_
          clear hK K
          try simp only [Act.put, zA, zB, zC]
          exact hof _ _ _ _ (ST_5_12_13.out W2 bp bq HX2.out (BB.out) (HJJ.out) (XX.out.block F_bq.out) F_bqg.out (Ne.symm (HBN.out ▸ ne_new F_bq.out)))
      rw [hA] at st_5_13
      try simp only [Act.put, zA, zB, zC] at st_5_13
      have ST_5_13 := qh st_5_13
      clear st_5_13
      have st_12_13 : ∀ (W1 : World) (bp : Nat) (bq : Nat), Ext v5 W1 → W1.heap[bp]? = some (.cells #[.int .i64 0] 3 (0, 0)) → v5.heap.size ≤ bp → W1.heap[bq]? = some (.cells #[.int .i64 0] 3 (0, 0)) → v5.heap.size ≤ bq → bp ≠ bq → W 4 #[true, true, true, true, true, false, true, true, true, true, true, false, true, true, false, false] ((A.put (some 9) (.pointer (some ⟨bp, 0, none⟩))).put (some 10) (.pointer (some ⟨bq, 0, none⟩))) W1 := by
        intro W1 bp bq hX hbp hbpg hbq hbqg hne
        have X := qh hX
        have F_bp := qh hbp
        have F_bpg := qh hbpg
        have F_bq := qh hbq
        have F_bqg := qh hbqg
        have F_ne := qh hne
        clear hX hbp hbpg hbq hbqg hne
        rw [hA]
        try simp only [Act.put, zA, zB, zC]
        refine hto _ _ _ _ ?_
        refine wpN_one (i := 5) (o := { dst := some 59, op := _, type := _, pos := _, after := _, guard := none }) (by kernel_rfl) rfl (fun K hK => ?_)
        go_simp
        go_at_call 27
        refine (HPA.out _ (XC.out.trans X.out)).mono ?_
        rintro e w9 ⟨rfl, rfl⟩
        have HX2 := X
        refine hK.out _ _ (.inr HX2.out) ?_
        clear hK K
        try simp only [Act.put, zA, zB, zC]
        exact hof _ _ _ _ (ST_5_12_13.out W1 bp bq HX2.out (F_bp.out) F_bpg.out (F_bq.out) F_bqg.out F_ne.out)
      rw [hA] at st_12_13
      try simp only [Act.put, zA, zB, zC] at st_12_13
      have ST_12_13 := qh st_12_13
      clear st_12_13
      have st_5 : ∀ (W1 : World) , Ext v5 W1 → W 5 #[true, true, true, true, true, true, true, true, true, true, true, false, false, false, false, false] (A.put (some 59) (.int .i64 u)) W1 := by
        intro W1  hX 
        have X := qh hX

        clear hX
        rw [hA]
        try simp only [Act.put, zA, zB, zC]
        refine hto _ _ _ _ ?_
        refine wpN_three (i := 11) (j := 12) (k := 13) (oi := { dst := some 65, op := _, type := _, pos := _, after := _, guard := none }) (oj := { dst := some 9, op := _, type := _, pos := _, after := _, guard := none }) (ok := { dst := some 10, op := _, type := _, pos := _, after := _, guard := none }) (by kernel_rfl) rfl rfl rfl (fun K hK => ?_) (fun K hK => ?_) (fun K hK => ?_)
        · go_simp
          go_at_call 29
          refine (HIX.out _ (XC.out.trans X.out)).mono ?_
          rintro e W2 ⟨rfl, xx⟩
          have XX := qh xx
          have HX2 := qh (X.out.trans xx)
          clear xx
          refine hK.out _ _ (.inr HX2.out) ?_
          clear hK K
          try simp only [Act.put, zA, zB, zC]
          exact hof _ _ _ _ (ST_5_11.out W2 HX2.out )
        · go_simp
          have xx := (Ext.refl W1).alloc (.cells #[.int .i64 0] 3)
          have bb := heap_alloc_new W1 (.cells #[.int .i64 0] 3)
          obtain ⟨W2, hW2⟩ : ∃ V : World, V = W1.alloc (.cells #[.int .i64 0] 3) := ⟨_, rfl⟩
          obtain ⟨bp, hbp⟩ : ∃ b, W1.heap.size = b := ⟨_, rfl⟩
          rw [← hW2] at xx bb
          rw [hbp] at bb
          have XX := qh xx
          have BB := qh bb
          have HX2 := qh (X.out.trans xx)
          have HBN := qh hbp
          have HJJ := qh (hbp ▸ X.out.size)
          rw [← hW2, hbp]
          clear xx bb hW2 hbp
          refine hK.out _ _ (.inr HX2.out) ?_
          clear hK K
          try simp only [Act.put, zA, zB, zC]
          exact hof _ _ _ _ (ST_5_12.out W2 bp HX2.out (BB.out) (HJJ.out))
        · go_simp
          have xx := (Ext.refl W1).alloc (.cells #[.int .i64 0] 3)
          have bb := heap_alloc_new W1 (.cells #[.int .i64 0] 3)
          obtain ⟨W2, hW2⟩ : ∃ V : World, V = W1.alloc (.cells #[.int .i64 0] 3) := ⟨_, rfl⟩
          obtain ⟨bq, hbq⟩ : ∃ b, W1.heap.size = b := ⟨_, rfl⟩
          rw [← hW2] at xx bb
          rw [hbq] at bb
          have XX := qh xx
          have BB := qh bb
          have HX2 := qh (X.out.trans xx)
          have HBN := qh hbq
          have HJJ := qh (hbq ▸ X.out.size)
          rw [← hW2, hbq]
          clear xx bb hW2 hbq
          refine hK.out _ _ (.inr HX2.out) ?_
          clear hK K
          try simp only [Act.put, zA, zB, zC]
          exact hof _ _ _ _ (ST_5_13.out W2 bq HX2.out (BB.out) (HJJ.out))
      rw [hA] at st_5
      try simp only [Act.put, zA, zB, zC] at st_5
      have ST_5 := qh st_5
      clear st_5
      have st_12 : ∀ (W1 : World) (bp : Nat), Ext v5 W1 → W1.heap[bp]? = some (.cells #[.int .i64 0] 3 (0, 0)) → v5.heap.size ≤ bp → W 5 #[true, true, true, true, true, false, true, true, true, true, true, false, true, false, false, false] (A.put (some 9) (.pointer (some ⟨bp, 0, none⟩))) W1 := by
        intro W1 bp hX hbp hbpg
        have X := qh hX
        have F_bp := qh hbp
        have F_bpg := qh hbpg
        clear hX hbp hbpg
        rw [hA]
        try simp only [Act.put, zA, zB, zC]
        refine hto _ _ _ _ ?_
        refine wpN_two (i := 5) (j := 13) (oi := { dst := some 59, op := _, type := _, pos := _, after := _, guard := none }) (oj := { dst := some 10, op := _, type := _, pos := _, after := _, guard := none }) (by kernel_rfl) rfl rfl (fun K hK => ?_) (fun K hK => ?_)
        · go_simp
          go_at_call 27
          refine (HPA.out _ (XC.out.trans X.out)).mono ?_
          rintro e w9 ⟨rfl, rfl⟩
          have HX2 := X
          refine hK.out _ _ (.inr HX2.out) ?_
          clear hK K
          try simp only [Act.put, zA, zB, zC]
          exact hof _ _ _ _ (ST_5_12.out W1 bp HX2.out (F_bp.out) F_bpg.out)
        · go_simp
          have xx := (Ext.refl W1).alloc (.cells #[.int .i64 0] 3)
          have bb := heap_alloc_new W1 (.cells #[.int .i64 0] 3)
          obtain ⟨W2, hW2⟩ : ∃ V : World, V = W1.alloc (.cells #[.int .i64 0] 3) := ⟨_, rfl⟩
          obtain ⟨bq, hbq⟩ : ∃ b, W1.heap.size = b := ⟨_, rfl⟩
          rw [← hW2] at xx bb
          rw [hbq] at bb
          have XX := qh xx
          have BB := qh bb
          have HX2 := qh (X.out.trans xx)
          have HBN := qh hbq
          have HJJ := qh (hbq ▸ X.out.size)
          rw [← hW2, hbq]
          clear xx bb hW2 hbq
          refine hK.out _ _ (.inr HX2.out) ?_
          clear hK K
          try simp only [Act.put, zA, zB, zC]
          exact hof _ _ _ _ (ST_12_13.out W2 bp bq HX2.out (XX.out.block F_bp.out) F_bpg.out (BB.out) (HJJ.out) (HBN.out ▸ ne_new F_bp.out))
      rw [hA] at st_12
      try simp only [Act.put, zA, zB, zC] at st_12
      have ST_12 := qh st_12
      clear st_12
      have st_13 : ∀ (W1 : World) (bq : Nat), Ext v5 W1 → W1.heap[bq]? = some (.cells #[.int .i64 0] 3 (0, 0)) → v5.heap.size ≤ bq → W 5 #[true, true, true, true, true, false, true, true, true, true, true, false, false, true, false, false] (A.put (some 10) (.pointer (some ⟨bq, 0, none⟩))) W1 := by
        intro W1 bq hX hbq hbqg
        have X := qh hX
        have F_bq := qh hbq
        have F_bqg := qh hbqg
        clear hX hbq hbqg
        rw [hA]
        try simp only [Act.put, zA, zB, zC]
        refine hto _ _ _ _ ?_
        refine wpN_two (i := 5) (j := 12) (oi := { dst := some 59, op := _, type := _, pos := _, after := _, guard := none }) (oj := { dst := some 9, op := _, type := _, pos := _, after := _, guard := none }) (by kernel_rfl) rfl rfl (fun K hK => ?_) (fun K hK => ?_)
        · go_simp
          go_at_call 27
          refine (HPA.out _ (XC.out.trans X.out)).mono ?_
          rintro e w9 ⟨rfl, rfl⟩
          have HX2 := X
          refine hK.out _ _ (.inr HX2.out) ?_
          clear hK K
          try simp only [Act.put, zA, zB, zC]
          exact hof _ _ _ _ (ST_5_13.out W1 bq HX2.out (F_bq.out) F_bqg.out)
        · go_simp
          have xx := (Ext.refl W1).alloc (.cells #[.int .i64 0] 3)
          have bb := heap_alloc_new W1 (.cells #[.int .i64 0] 3)
          obtain ⟨W2, hW2⟩ : ∃ V : World, V = W1.alloc (.cells #[.int .i64 0] 3) := ⟨_, rfl⟩
          obtain ⟨bp, hbp⟩ : ∃ b, W1.heap.size = b := ⟨_, rfl⟩
          rw [← hW2] at xx bb
          rw [hbp] at bb
          have XX := qh xx
          have BB := qh bb
          have HX2 := qh (X.out.trans xx)
          have HBN := qh hbp
          have HJJ := qh (hbp ▸ X.out.size)
          rw [← hW2, hbp]
          clear xx bb hW2 hbp
          refine hK.out _ _ (.inr HX2.out) ?_
          clear hK K
          try simp only [Act.put, zA, zB, zC]
          exact hof _ _ _ _ (ST_12_13.out W2 bp bq HX2.out (BB.out) (HJJ.out) (XX.out.block F_bq.out) F_bqg.out (Ne.symm (HBN.out ▸ ne_new F_bq.out)))
      rw [hA] at st_13
      try simp only [Act.put, zA, zB, zC] at st_13
      have ST_13 := qh st_13
      clear st_13
      have st : ∀ (W1 : World) , Ext v5 W1 → W 6 #[true, true, true, true, true, false, true, true, true, true, true, false, false, false, false, false] A W1 := by
        intro W1  hX 
        have X := qh hX

        clear hX
        rw [hA]
        try simp only [Act.put, zA, zB, zC]
        refine hto _ _ _ _ ?_
        refine wpN_three (i := 5) (j := 12) (k := 13) (oi := { dst := some 59, op := _, type := _, pos := _, after := _, guard := none }) (oj := { dst := some 9, op := _, type := _, pos := _, after := _, guard := none }) (ok := { dst := some 10, op := _, type := _, pos := _, after := _, guard := none }) (by kernel_rfl) rfl rfl rfl (fun K hK => ?_) (fun K hK => ?_) (fun K hK => ?_)
        · go_simp
          go_at_call 27
          refine (HPA.out _ (XC.out.trans X.out)).mono ?_
          rintro e w9 ⟨rfl, rfl⟩
          have HX2 := X
          refine hK.out _ _ (.inr HX2.out) ?_
          clear hK K
          try simp only [Act.put, zA, zB, zC]
          exact hof _ _ _ _ (ST_5.out W1 HX2.out )
        · go_simp
          have xx := (Ext.refl W1).alloc (.cells #[.int .i64 0] 3)
          have bb := heap_alloc_new W1 (.cells #[.int .i64 0] 3)
          obtain ⟨W2, hW2⟩ : ∃ V : World, V = W1.alloc (.cells #[.int .i64 0] 3) := ⟨_, rfl⟩
          obtain ⟨bp, hbp⟩ : ∃ b, W1.heap.size = b := ⟨_, rfl⟩
          rw [← hW2] at xx bb
          rw [hbp] at bb
          have XX := qh xx
          have BB := qh bb
          have HX2 := qh (X.out.trans xx)
          have HBN := qh hbp
          have HJJ := qh (hbp ▸ X.out.size)
          rw [← hW2, hbp]
          clear xx bb hW2 hbp
          refine hK.out _ _ (.inr HX2.out) ?_
          clear hK K
          try simp only [Act.put, zA, zB, zC]
          exact hof _ _ _ _ (ST_12.out W2 bp HX2.out (BB.out) (HJJ.out))
        · go_simp
          have xx := (Ext.refl W1).alloc (.cells #[.int .i64 0] 3)
          have bb := heap_alloc_new W1 (.cells #[.int .i64 0] 3)
          obtain ⟨W2, hW2⟩ : ∃ V : World, V = W1.alloc (.cells #[.int .i64 0] 3) := ⟨_, rfl⟩
          obtain ⟨bq, hbq⟩ : ∃ b, W1.heap.size = b := ⟨_, rfl⟩
          rw [← hW2] at xx bb
          rw [hbq] at bb
          have XX := qh xx
          have BB := qh bb
          have HX2 := qh (X.out.trans xx)
          have HBN := qh hbq
          have HJJ := qh (hbq ▸ X.out.size)
          rw [← hW2, hbq]
          clear xx bb hW2 hbq
          refine hK.out _ _ (.inr HX2.out) ?_
          clear hK K
          try simp only [Act.put, zA, zB, zC]
          exact hof _ _ _ _ (ST_13.out W2 bq HX2.out (BB.out) (HJJ.out))
      rw [hA] at st
      try simp only [Act.put, zA, zB, zC] at st
      have ST := qh st
      clear st
      subst hA
      exact ST.out _ HS0.out
    case rest =>
      obtain ⟨bp, bq, rfl, rfl, x6, hbp, hbq, hg3, hg4⟩ := hcut
      rename World => v6
      have xw5 := XC.out.size
      have G3 := qh (Nat.le_trans xw5 hg3)
      have G4 := qh (Nat.le_trans xw5 hg4)
      replace B3 := qh (x6.block B3.out)
      replace B4 := qh (x6.block B4.out)
      replace B5 := qh (x6.block B5.out)
      replace BC := qh (x6.block BC.out)
      replace BR := qh (x6.block BR.out)
      replace XC := qh (XC.out.trans x6)
      have xn := (Ext.refl v6).alloc (.cells #[.int .i64 0] 3)
      have bn := heap_alloc_new v6 (.cells #[.int .i64 0] 3)
      obtain ⟨v7, hv7⟩ : ∃ V : World, V = v6.alloc (.cells #[.int .i64 0] 3) := ⟨_, rfl⟩
      obtain ⟨bf, hbf⟩ : ∃ b, v6.heap.size = b := ⟨_, rfl⟩
      rw [← hv7] at xn bn
      rw [hbf] at bn
      have n3 := hbf ▸ ne_new B3.out
      have n4 := hbf ▸ ne_new B4.out
      have n5 := hbf ▸ ne_new B5.out
      have nc := hbf ▸ ne_new BC.out
      have nr := hbf ▸ ne_new BR.out
      have np := hbf ▸ ne_new hbp
      have nq := hbf ▸ ne_new hbq
      have BX : CutBox lb tx i a u x b3 bc (b3 + 1 + 1) (b3 + 1) bp bq br KK CC v7 := ⟨xn.block B3.out, by rw [HNN.out]; exact xn.block BC.out, xn.block B5.out, xn.block B4.out, xn.block hbp, xn.block hbq, xn.block BR.out, by rw [HNN.out]; exact HKK.out.1, HKK.out.2⟩
      have hlt : ∀ {b : Nat} {y : Obj}, v7.heap[b]? = some y → b < v7.heap.size := fun h => (Array.getElem?_eq_some_iff.1 h).1
      have hsa := HSA.out
      have hLL : ∀ b, b = b3 ∨ b = bc ∨ b = b3 + 1 + 1 ∨ b = b3 + 1 ∨ b = bp ∨ b = bq ∨ b = br → (w.heap.size ≤ b ∧ b < v7.heap.size) ∧ b ≠ bf := by
        rintro b (rfl | rfl | rfl | rfl | rfl | rfl | rfl)
        · exact ⟨⟨by omega, hlt BX.c3⟩, n3⟩
        · exact ⟨⟨HGE.out.1, hlt BX.c8⟩, nc⟩
        · exact ⟨⟨by omega, hlt BX.c5⟩, n5⟩
        · exact ⟨⟨by omega, hlt BX.c4⟩, n4⟩
        · exact ⟨⟨G3.out, hlt BX.c9⟩, np⟩
        · exact ⟨⟨G4.out, hlt BX.c10⟩, nq⟩
        · exact ⟨⟨HGE.out.2, hlt BX.row⟩, nr⟩
      have hLf : w.heap.size ≤ bf ∧ bf < v7.heap.size := ⟨by rw [← hbf]; exact XC.out.size, hlt bn⟩
      have hD := does_SplitText (own := own) (tb := tb) (hb := hb) (w := w) (T := T) (H := H) (L := fun b => w.heap.size ≤ b ∧ b < v7.heap.size) BX bn hLL hLf HAL.out HXR.out S1.out S2.out S3.out (fun h => S4.out (by omega))
      obtain ⟨oi, oa, om, ou⟩ := HO.out
      have hB : ByK own lb tb hb w (fun b => w.heap.size ≤ b ∧ b < v7.heap.size) T3 (fun W => CutBox lb tx i a u x b3 bc (b3 + 1 + 1) (b3 + 1) bp bq br KK CC W ∧ W.heap[bf]? = some (.cells #[.int .i64 m] 3 (0, 0))) (cutP i a m u x)
          (.func (.func 55) #[] #[.pointer (some ⟨b3 + 1, 0, none⟩), .pointer (some ⟨b3 + 1 + 1, 0, none⟩), .pointer (some ⟨bf, 0, none⟩), .pointer (some ⟨bp, 0, none⟩), .pointer (some ⟨bq, 0, none⟩)]) :=
        ⟨_, _, rfl, enters_of Tryz.func55 (by kernel_rfl) rfl, fun W H2 n' a' _ hK hP => bySplitText i a m u x oi oa om ou (by have := HXR.out; unfold okI; omega) hK.1.c4 hK.1.c5 hK.2 hK.1.c9 hK.1.c10 n' a' hP⟩
      have HKEPT := qh (kept_any (LK.start HH.out (XC.out.trans xn)) HL.out HOK.out hD hB (fun W W' hK k => ⟨hK.1.move fun b hb => k b (hLL b hb).1, (k bf hLf).trans hK.2⟩) HSO.out HG.out HMAY.out)
      have HV7 := qh hv7
      have HBF := qh hbf
      have y3 := cellOf BX.c3 (i := 0) rfl
      have hmf : ∀ (fn : Fn) (first cap : Array Value) (w : World), (Instr.makeFunc fn first cap).run Tryz.prog w = .ok (.func fn first cap) w := fun _ _ _ _ => rfl
      clear xw5 hg3 hg4 x6 hbp hbq xn bn hv7 hbf n3 n4 n5 nc nr np nq BX hlt hsa hLL hLf hD hB oi oa om ou
      go_upto_region 14 with fail
      rw [← HV7.out, HBF.out]
      go_wp2_with (go_at_call 50; refine HKEPT.out.mono ?_)
      rintro e v8 ⟨rfl, hk8, hK8⟩
      have HK8 := qh hk8.after
      have y11 := cellOf hK8.2 (i := 0) rfl
      clear hk8 hK8 y3
      go_wp2_with fail
      go_ret2
      exact ⟨rfl, HK8.out⟩
end
end Go.Proofs.YtfibikkcfmohjaaGreat
