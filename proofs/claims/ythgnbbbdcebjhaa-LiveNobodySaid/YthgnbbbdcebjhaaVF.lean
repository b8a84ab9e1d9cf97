/- Package live: move: all places that are held, by a function value. Conditions: at most 100000 places are held. -/
import Derived.Test.YthgnbbbdcebjhaaVE
namespace Go.Proofs.Ythgnbbbdcebjhaa
open Go Go.RowKit Go.BigFrame
set_option linter.unusedVariables false
set_option linter.unusedSimpArgs false

/-- a function value that moves places, whatever becomes of the row of holds -/
def ByIs (w : World) (hb : Option Nat) (fv : Value) (P : Int → Int → Prop) (f : Int → Int → Int × Int) : Prop :=
  ∃ (g : Nat) (lbs : Array Value), fv = .func (.func g) #[] lbs ∧ (∀ args w, (callFunc g args).run Try.prog w = .ok (.enter g args) w) ∧
    ∀ (W : World) (n a : Int), Mv (fun b => hb = some b) w W → P n a → Calls Try.prog g (#[pl n a] ++ lbs) W (RPlace (f n a).1 (f n a).2 W)
def moved (f : Int → Int → Int × Int) (x : Hd) : Hd := if x.off = 0 then ⟨(f x.node x.at').1, (f x.node x.at').2, 0⟩ else x
def movedTo (f : Int → Int → Int × Int) (H : List Hd) (i : Nat) : List Hd := (H.take i).map (moved f) ++ H.drop i
theorem movedTo_zero (f : Int → Int → Int × Int) (H : List Hd) : movedTo f H 0 = H := by simp [movedTo]
theorem movedTo_len (f : Int → Int → Int × Int) (H : List Hd) (i : Nat) : (movedTo f H i).length = H.length := by
  unfold movedTo
  rw [List.length_append, List.length_map, ← List.length_append, List.take_append_drop]
theorem movedTo_all (f : Int → Int → Int × Int) (H : List Hd) : movedTo f H H.length = H.map (moved f) := by simp [movedTo]
theorem movedTo_at (f : Int → Int → Int × Int) {H : List Hd} {i : Nat} {x : Hd} (h : H[i]? = some x) : (movedTo f H i)[i]? = some x := by
  have hi := (List.getElem?_eq_some_iff.1 h).1
  unfold movedTo
  rw [List.getElem?_append_right (by simp; omega)]
  simp only [List.length_map, List.length_take]
  rw [show min i H.length = i by omega, Nat.sub_self, List.getElem?_drop, Nat.add_zero]
  exact h
theorem movedTo_next (f : Int → Int → Int × Int) {H : List Hd} {i : Nat} {x : Hd} (h : H[i]? = some x) : (movedTo f H i).set i (moved f x) = movedTo f H (i + 1) := by
  obtain ⟨hi, e⟩ := List.getElem?_eq_some_iff.1 h
  unfold movedTo
  have hl : ((H.take i).map (moved f)).length = i := by simp; omega
  rw [List.set_append_right _ _ (by omega), hl, Nat.sub_self, List.drop_eq_getElem_cons hi, List.set_cons_zero, List.take_add_one, h, List.map_append]
  simp
section
variable {w : World} {own : Ow} {ptr : Nat → Nat} {lb tb : Nat} {T : Tr} {hv : Value} {hb : Option Nat} {H : List Hd}
def LMoveIs (own : Ow) (ptr : Nat → Nat) (lb tb : Nat) (hv : Value) (hb : Option Nat) (w : World) (T : Tr) (H' : List Hd) (e : Ending) (w' : World) : Prop := e = .returned (.tuple #[]) ∧ LiveAt w' own ptr lb tb T hv hb H' ∧ Mv (fun b => hb = some b) w w'
set_option maxHeartbeats 2000000 in
set_option maxRecDepth 100000 in
theorem lMove_any (h : LiveAt w own ptr lb tb T hv hb H) (hl : H.length ≤ 100000) {fv : Value} {P : Int → Int → Prop} {f : Int → Int → Int × Int} (hP : ∀ x ∈ H, x.off = 0 → P x.node x.at') (hby : ByIs w hb fv P f) :
    Calls Try.prog 23 #[.pointer (some ⟨lb, 0, none⟩), fv] w (LMoveIs own ptr lb tb hv hb w T (H.map (moved f))) := by
  obtain ⟨fn, lbs, rfl, hen, hcall⟩ := hby
  have HC := Lib.hid hcall
  have HP := Lib.hid hP
  have HL := Lib.hid hl
  have HH := Lib.hid h
  obtain ⟨a1, cap1, rfl, hca, hg1⟩ := h.at
  have HG1 := Lib.hid hg1
  obtain ⟨m, hm⟩ : ∃ m, H.length = m := ⟨_, rfl⟩
  have HM := Lib.hid hm
  have p1 := h.row_
  rw [hm] at p1 hl
  clear hcall hP h hg1 hm hca
  go_enter Try.func23, Try.ntmps23
  go_wp2_with fail
  clear p1
  go_loopw [4, 10] (fun _ iv wr => ∃ i : Nat, i ≤ m ∧ iv = .int .i64 i ∧ LiveAt wr own ptr lb tb T (.slice a1 H.length cap1) hb (movedTo f H i) ∧ Mv (fun b => hb = some b) w wr) (fun _ iv _ => m - (intOf iv).toNat)
  case atStart => exact ⟨0, Nat.zero_le _, rfl, by rw [movedTo_zero]; exact HH.out, Mv.refl _ _⟩
  case round =>
    obtain ⟨i, him, rfl, hlv, hmv⟩ := hrel
    have HLV := Lib.hid hlv
    have HMV := Lib.hid hmv
    by_cases hlt : i < m
    · obtain ⟨x, hx⟩ : ∃ x, H[i]? = some x := ⟨_, List.getElem?_eq_getElem (by rw [HM.out]; exact hlt)⟩
      have hxi := movedTo_at f hx
      obtain ⟨a4, cap4, e4, -, hg4⟩ := hlv.at
      rw [movedTo_len] at e4 hg4
      obtain ⟨g, cur, ea, hbg, hgr, htk, -⟩ := hg4 (by rw [HM.out]; omega)
      obtain ⟨rfl, rfl⟩ : a1 = a4 ∧ cap1 = cap4 := by cases e4; exact ⟨rfl, rfl⟩
      subst ea
      rw [← movedTo_len f H i] at htk
      have k0 := hold_cell (f := 0) hgr htk hxi (v := .int .i64 x.node) rfl
      have k1 := hold_cell (f := 1) hgr htk hxi (v := .int .i64 x.at') rfl
      have k2 := hold_cell (f := 2) hgr htk hxi (v := .int .i64 x.off) rfl
      rw [Nat.add_zero] at k0
      have p1 := hlv.row_
      rw [HM.out] at p1
      have HX := Lib.hid hx
      have HXI := Lib.hid hxi
      have HGR := Lib.hid hgr
      have HBG := Lib.hid hbg
      have e0 : decide ((i : Int) < (m : Int)) = true := decide_eq_true (by omega)
      have e0n : decide (i < m) = true := decide_eq_true hlt
      have i0 : (0 : Int) ≤ (i : Int) := by omega
      have i1 : (i : Int) < (m : Int) := by omega
      have itn : (i : Int).toNat = i := by omega
      clear hx hxi e4 hg4 hbg hgr htk hlv hmv
      by_cases hoff : x.off = 0
      · rw [hoff] at k2
        have HBY := Lib.hid (fun u : ExtOf wr => inExt (u := u) (HC.out u.val x.node x.at' (HMV.out.ext u.ext) (HP.out x (List.mem_of_getElem? HX.out) hoff)))
        have HMX : Hid (moved f x = ⟨(f x.node x.at').1, (f x.node x.at').2, 0⟩) := Lib.hid (if_pos hoff)
        obtain ⟨n', hn'⟩ : ∃ n', (f x.node x.at').1 = n' := ⟨_, rfl⟩
        obtain ⟨a', ha'⟩ : ∃ a', (f x.node x.at').2 = a' := ⟨_, rfl⟩
        rw [hn', ha'] at HBY HMX
        have HOF := Lib.hid hoff
        clear hoff hn' ha'
        go_upto_region 4 with fail
        clear k2
        have r0 : ∀ u : ExtOf wr, u.val.cell? ⟨lb, 1, none⟩ = some (.slice (some ⟨g, 0, none⟩) m cap1) := fun u => u.ext.cell p1
        have r1 : ∀ u : ExtOf wr, u.val.cell? ⟨g, i * 3, none⟩ = some (.int .i64 x.node) := fun u => u.ext.cell k0
        have r2 : ∀ u : ExtOf wr, u.val.cell? ⟨g, i * 3 + 1, none⟩ = some (.int .i64 x.at') := fun u => u.ext.cell k1
        clear p1 k0 k1
        refine wp_region_ext_tail 17 (by kernel_rfl) (by kernel_rfl) ?_
        simp only [List.take_succ_cons, List.take_zero, List.drop_succ_cons, List.drop_zero]
        repeat (go_big_quiet_step ((go_at_fn fn; exact HBY.out _)))
        refine wpQuiet_nil ?_
        rintro _ ⟨u, rfl⟩
        have hx := u.ext
        obtain ⟨w5, hw5⟩ : ∃ W, u.val = W := ⟨_, rfl⟩
        rw [hw5] at hx ⊢
        clear r0 r1 r2 hw5
        clear u
        have hgr5 := hx.block HGR.out
        have HLV5 := HLV.out.ext hx
        have HMV5 := HMV.out.ext hx
        obtain ⟨cur5, hgr6, htk6⟩ : ∃ cur5, w5.heap[g]? = some (.cells cur5 52 (0, 0)) ∧ cur5.toList.take ((movedTo f H i).length * 3) = hcells (movedTo f H i) := by
          obtain ⟨a6, cap6, e6, -, hg6⟩ := HLV5.at
          obtain ⟨g6, cur6, ea6, hb6, hgr6, htk6, -⟩ := hg6 (by rw [movedTo_len, HM.out]; omega)
          rw [HBG.out] at hb6
          cases hb6
          exact ⟨cur6, hgr6, htk6⟩
        have k0 := hold_cell (f := 0) hgr6 htk6 HXI.out (v := .int .i64 x.node) rfl
        have k1 := hold_cell (f := 1) hgr6 htk6 HXI.out (v := .int .i64 x.at') rfl
        rw [Nat.add_zero] at k0
        have f0 := freeOf hgr6 (i * 3)
        have f1 := freeOf hgr6 (i * 3 + 1)
        have HF : Hid (LiveAt ((w5.setCell ⟨g, i * 3, none⟩ (.int .i64 n')).setCell ⟨g, i * 3 + 1, none⟩ (.int .i64 a')) own ptr lb tb T (.slice (some ⟨g, 0, none⟩) H.length cap1) hb (movedTo f H (i + 1)) ∧
            Mv (fun b => hb = some b) w ((w5.setCell ⟨g, i * 3, none⟩ (.int .i64 n')).setCell ⟨g, i * 3 + 1, none⟩ (.int .i64 a'))) := Lib.hid (by
          have s1 := HLV5.set (f := 0) (v := .int .i64 n') (p' := ⟨n', x.at', x.off⟩) HXI.out (by decide) rfl HBG.out
          have hi2 : ((movedTo f H i).set i ⟨n', x.at', x.off⟩)[i]? = some ⟨n', x.at', x.off⟩ := by
            rw [List.getElem?_set_self (by rw [movedTo_len, HM.out]; omega)]
          have s2 := s1.set (f := 1) (v := .int .i64 a') (p' := ⟨n', a', x.off⟩) hi2 (by decide) rfl HBG.out
          rw [List.set_set, HOF.out, ← HMX.out, movedTo_next f HX.out, Nat.add_zero] at s2
          exact ⟨s2, (HMV5.setCell (p := ⟨g, i * 3, none⟩) (fun _ => HBG.out) (.int .i64 n')).setCell (p := ⟨g, i * 3 + 1, none⟩) (fun _ => HBG.out) (.int .i64 a')⟩)
        clear hgr5 HLV5 HMV5 hgr6 htk6 hx
        go_wp2_with fail
        go_roundw
        case rel => exact ⟨i + 1, by omega, by go_num, HF.out⟩
        case measure => simp [intOf]; omega
      · have hof : (x.off == 0) = false := beq_eq_false_iff_ne.2 hoff
        have HMX : Hid (moved f x = x) := Lib.hid (if_neg hoff)
        clear hoff
        go_wp2_with fail
        go_roundw
        case rel =>
          refine ⟨i + 1, by omega, by go_num, ?_, HMV.out⟩
          rw [← movedTo_next f HX.out, HMX.out]
          have e : (movedTo f H i).set i x = movedTo f H i := by
            obtain ⟨h1, h2⟩ := List.getElem?_eq_some_iff.1 HXI.out
            rw [← h2]; exact List.set_getElem_self h1
          rw [e]
          exact HLV.out
        case measure => simp [intOf]; omega
    · have hie : i = m := by omega
      have e0 : decide ((i : Int) < (m : Int)) = false := decide_eq_false (by omega)
      have e0n : decide (i < m) = false := decide_eq_false hlt
      have HF : Hid (LiveAt wr own ptr lb tb T (.slice a1 H.length cap1) hb (H.map (moved f))) := Lib.hid (by have h9 := HLV.out; rw [hie, ← HM.out, movedTo_all] at h9; exact h9)
      clear hie hlt hlv hmv
      go_wp2_with fail
      go_end0
      exact ⟨rfl, HF.out, HMV.out⟩
end
end Go.Proofs.Ythgnbbbdcebjhaa
