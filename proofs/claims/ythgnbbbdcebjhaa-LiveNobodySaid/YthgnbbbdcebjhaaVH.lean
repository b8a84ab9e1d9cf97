/- Package live: Graft, replace: dom's call, and the places that are held moved. Conditions: at most 100000 places are held; the numbers are from -1 to 2^30. -/
import Derived.Test.YthgnbbbdcebjhaaVG
namespace Go.Proofs.Ythgnbbbdcebjhaa
open Go Go.RowKit Go.BigFrame
set_option linter.unusedVariables false
set_option linter.unusedSimpArgs false

theorem LStep.move {own : Ow} {lb : Nat} {hb : Option Nat} {w w' : World} (h : Mv (fun b => hb = some b) w w') : LStep own lb hb w own hb w' := ⟨h.imp fun _ _ h => .inr (.inr h), fun _ _ => rfl, fun _ h => .inl h⟩
def insP (p q m : Int) : Int → Int → Int × Int := fun n a => (n, insA n a p q m)
def repP (p q c m : Int) : Int → Int → Int × Int := fun n a => (n, repA n a p q c m)
def movedIf (er : Int) (f : Int → Int → Int × Int) (H : List Hd) : List Hd := if er = 0 then H.map (moved f) else H
def okH (H : List Hd) : Prop := ∀ x ∈ H, x.off = 0 → okP x.node x.at'
section
variable {w : World} {own : Ow} {ptr : Nat → Nat} {lb tb : Nat} {T : Tr} {hv : Value} {hb : Option Nat} {H : List Hd}
def LTwo (own : Ow) (lb tb : Nat) (hb : Option Nat) (w : World) (i er : Int) (T' : Tr) (H' : List Hd) (e : Ending) (w' : World) : Prop := e = .returned (.tuple #[.int .i64 i, .int .i64 er]) ∧ LAfter own lb tb hb w T' H' w'
def LErr (own : Ow) (lb tb : Nat) (hb : Option Nat) (w : World) (er : Int) (T' : Tr) (H' : List Hd) (e : Ending) (w' : World) : Prop := e = .returned (.int .i64 er) ∧ LAfter own lb tb hb w T' H' w'
theorem LiveAt.new_own (h : LiveAt w own ptr lb tb T hv hb H) {b : Nat} (hbz : w.heap.size ≤ b) : own b = none ∧ b ≠ lb ∧ hb ≠ some b :=
  ⟨Decidable.byContradiction fun hn => by have := h.ownd b hn; omega, fun e => by have := h.lt; omega, fun e => by have := (h.nrow b e).2.2; omega⟩
set_option maxHeartbeats 2000000 in
set_option maxRecDepth 100000 in
theorem lGraft_any (h : LiveAt w own ptr lb tb T hv hb H) (hl : H.length ≤ 100000) (p q : Int) (v0 v1 v2 v3 : Value) {i er : Int} {T' : Tr}
    (hd : ∀ W, Ext w W → Calls Try.prog 22 #[.pointer (some ⟨tb, 0, none⟩), .int .i64 p, .int .i64 q, .agg #[v0, v1, v2, v3]] W (fun e w' => e = .returned (.tuple #[.int .i64 i, .int .i64 er]) ∧ After own W tb T' w'))
    (h1 : v0.oneCell' = true ∧ v1.oneCell' = true ∧ v2.oneCell' = true ∧ v3.oneCell' = true) (hP : er = 0 → okI p ∧ okI q ∧ okH H) :
    Calls Try.prog 6 #[.pointer (some ⟨lb, 0, none⟩), .int .i64 p, .int .i64 q, .agg #[v0, v1, v2, v3]] w (LTwo own lb tb hb w i er T' (movedIf er (insP p q 1) H)) := by
  have xa := (Ext.refl w).alloc (.cells #[.int .i64 p] 3)
  have ha := heap_alloc_new w (.cells #[.int .i64 p] 3)
  obtain ⟨wa, hwa⟩ : ∃ W : World, W = w.alloc (.cells #[.int .i64 p] 3) := ⟨_, rfl⟩
  have sa : wa.heap.size = w.heap.size + 1 := by rw [hwa]; simp
  rw [← hwa] at xa ha
  have xb := (Ext.refl wa).alloc (.cells #[.int .i64 q] 3)
  have hbq := heap_alloc_new wa (.cells #[.int .i64 q] 3)
  obtain ⟨wb, hwb⟩ : ∃ W : World, W = wa.alloc (.cells #[.int .i64 q] 3) := ⟨_, rfl⟩
  have sb : wb.heap.size = wa.heap.size + 1 := by rw [hwb]; simp
  rw [← hwb] at xb hbq
  have xc := (Ext.refl wb).alloc (.cells #[v0, v1, v2, v3] 39)
  have hc := heap_alloc_new wb (.cells #[v0, v1, v2, v3] 39)
  obtain ⟨wc, hwc⟩ : ∃ W : World, W = wb.alloc (.cells #[v0, v1, v2, v3] 39) := ⟨_, rfl⟩
  rw [← hwc] at xc hc
  have HP := Lib.hid (xc.block (xb.block ha))
  have HQ := Lib.hid (xc.block hbq)
  have HCN := Lib.hid hc
  obtain ⟨bp, hbp⟩ : ∃ b, w.heap.size = b := ⟨_, rfl⟩
  obtain ⟨bq, hbq2⟩ : ∃ b, wa.heap.size = b := ⟨_, rfl⟩
  obtain ⟨bn, hbn⟩ : ∃ b, wb.heap.size = b := ⟨_, rfl⟩
  have hq2 : bp + 1 = bq := by omega
  have hn2 : bp + 1 + 1 = bn := by omega
  rw [hbp] at HP
  rw [hbq2] at HQ
  rw [hbn] at HCN
  have XC := Lib.hid ((xa.trans xb).trans xc)
  have HH := Lib.hid h
  have HD := Lib.hid hd
  have HPP := Lib.hid hP
  have HL := Lib.hid hl
  have HWA := Lib.hid hwa
  have HWB := Lib.hid hwb
  have HWC := Lib.hid hwc
  have HBP := Lib.hid hbp
  have HBQ := Lib.hid (And.intro hbq2 hq2)
  have HBN := Lib.hid (And.intro hbn hn2)
  have NP := Lib.hid (h.new_own (b := bp) (by omega))
  have NQ := Lib.hid (h.new_own (b := bq) (by omega))
  have hmf : ∀ (fn : Fn) (first cap : Array Value) (w : World), (Instr.makeFunc fn first cap).run Try.prog w = .ok (.func fn first cap) w := fun _ _ _ _ => rfl
  obtain ⟨o0, o1, o2, o3⟩ := h1
  have HNN := Lib.hid (fun W (x : Ext w W) => none_some (h.ext x).ptr_)
  clear h hd hP hl xa ha hwa sa xb hbq hwb sb xc hc hwc hbp hbq2 hbn hq2 hn2
  go_enter Try.func6, Try.ntmps6
  go_upto_region 1 with fail
  rw [← HWA.out, ← HWB.out, ← HWC.out, HBP.out]
  first | rw [HBQ.out.1, HBN.out.1] | rw [HBN.out.2, HBQ.out.2]
  go_upto_region 3 with (go_at_call 17; refine (HNN.out _ XC.out).mono ?_; rintro e w' ⟨rfl, rfl⟩)
  have r0 : ∀ u : ExtOf wc, u.val.cell? ⟨lb, 0, none⟩ = some (.pointer (some ⟨tb, 0, none⟩)) := fun u => u.ext.cell (HH.out.ext XC.out).ptr_
  have r1 : ∀ u : ExtOf wc, u.val.cell? ⟨bp, 0, none⟩ = some (.int .i64 p) := fun u => u.ext.cell (cellOf HP.out rfl)
  have r2 : ∀ u : ExtOf wc, u.val.cell? ⟨bq, 0, none⟩ = some (.int .i64 q) := fun u => u.ext.cell (cellOf HQ.out rfl)
  have r3 : ∀ u : ExtOf wc, u.val.cell? ⟨bn, 0, none⟩ = some v0 := fun u => u.ext.cell (cellOf HCN.out rfl)
  have r4 : ∀ u : ExtOf wc, u.val.cell? ⟨bn, 1, none⟩ = some v1 := fun u => u.ext.cell (cellOf HCN.out rfl)
  have r5 : ∀ u : ExtOf wc, u.val.cell? ⟨bn, 2, none⟩ = some v2 := fun u => u.ext.cell (cellOf HCN.out rfl)
  have r6 : ∀ u : ExtOf wc, u.val.cell? ⟨bn, 3, none⟩ = some v3 := fun u => u.ext.cell (cellOf HCN.out rfl)
  refine wp_region_ext_mid 7 _ rfl (by kernel_rfl) (by kernel_rfl) ?_
  simp only [List.take_succ_cons, List.take_zero, List.drop_succ_cons, List.drop_zero]
  repeat (go_big_quiet_step (fail))
  refine wpQuiet_nil ?_
  rintro _ ⟨u, rfl⟩ K hK
  have HK := Lib.hid hK
  have hx := u.ext
  obtain ⟨w5, hw5⟩ : ∃ W, u.val = W := ⟨_, rfl⟩
  rw [hw5] at hx ⊢
  clear r0 r1 r2 r3 r4 r5 r6 hw5 hK
  clear u
  have X5 := Lib.hid (XC.out.trans hx)
  have HP5 := Lib.hid (hx.block HP.out)
  have HQ5 := Lib.hid (hx.block HQ.out)
  clear hx
  go_simp
  go_at_call 22
  refine (HD.out _ X5.out).mono ?_
  rintro e w6 ⟨rfl, ha⟩
  obtain ⟨own', ptr', hT6, hS6, hst⟩ := (HH.out.ext X5.out).after ha
  have HP6 := Lib.hid (hst.mv.block HP5.out (fun hn => hn NP.out.1))
  have HQ6 := Lib.hid (hst.mv.block HQ5.out (fun hn => hn NQ.out.1))
  have HT6 := Lib.hid hT6
  have HS6 := Lib.hid (((LStep.refl own lb hb w).ext X5.out).trans hS6)
  clear ha hT6 hS6 hst
  refine HK.out _ _ ?_
  clear HK K
  repeat (go_big_quiet_step (fail))
  refine wpQuiet_nil ?_
  rintro _ ⟨u, rfl⟩
  have HT6 := Lib.hid (HT6.out.ext u.ext)
  have HS6 := Lib.hid (HS6.out.ext u.ext)
  have HP6 := Lib.hid (u.ext.block HP6.out)
  have HQ6 := Lib.hid (u.ext.block HQ6.out)
  by_cases her : er = 0
  · subst her
    obtain ⟨op, oq, oh⟩ := HPP.out rfl
    have HMV := Lib.hid (lMove_any HT6.out HL.out oh (byGraft p q op oq HP6.out NP.out.2.2 HQ6.out NQ.out.2.2))
    clear op oq oh
    go_wp2_with (go_at_call 23; refine HMV.out.mono ?_)
    rintro e w7 ⟨rfl, hT7, hm7⟩
    have HF : Hid (LAfter own lb tb hb w T' (H.map (moved (insP p q 1))) w7) := Lib.hid ⟨own', ptr', _, _, hT7, HS6.out.trans (LStep.move hm7)⟩
    clear hT7 hm7
    go_wp2_with fail
    go_ret2
    exact ⟨rfl, by unfold movedIf; rw [if_pos rfl]; exact HF.out⟩
  · have e0 : (er == 0) = false := beq_eq_false_iff_ne.2 her
    have HE := Lib.hid her
    clear her
    go_wp2_with fail
    go_ret2
    exact ⟨rfl, by unfold movedIf; rw [if_neg HE.out]; exact ⟨own', ptr', _, _, HT6.out, HS6.out⟩⟩
end
end Go.Proofs.Ythgnbbbdcebjhaa
