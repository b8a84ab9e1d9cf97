/- Package live: replace: dom's SetText, and the places that are held moved. Conditions: at most 100000 places are held; the numbers are from -1 to 2^30; texts of at most 100000 bytes. -/
import Derived.Test.YthgnbbbdcebjhaaVH
namespace Go.Proofs.Ythgnbbbdcebjhaa
open Go Go.RowKit Go.BigFrame
set_option linter.unusedVariables false
set_option linter.unusedSimpArgs false

/-- '[]rune(s)' -/
theorem run_toRunes (s : ByteArray) (hs : s.size ≤ 1000000) (w : World) : ∃ (K : Nat) (C : Array Value), (convert 9 64 (.string s)).run Try.prog w = .ok (.slice (some ⟨w.heap.size, 0, none⟩) (runeList s s.size 0).length K) (w.drew.alloc (.cells C 21)) ∧
    (runeList s s.size 0).length ≤ K ∧ ∀ (j : Nat) (z : Int), (runeList s s.size 0)[j]? = some z → C[j]? = some (Value.int .i32 z) := by
  have h1 := run_runes_of_string (P := Try.prog) w 9 64 21 s Try.underlying9 Try.underlying64 Try.underlying21 (by have := size_runesFrom s s.size 0 #[]; simp at this; omega)
  have e1 : Conv.runesFrom s s.size 0 #[] = ((runeList s s.size 0).map (Value.int .i32)).toArray := by rw [runesFrom_eq]; simp
  rw [e1] at h1
  simp only [List.size_toArray, List.length_map] at h1
  refine ⟨_, _, h1, grownCap_ge w _ 0 21, fun j z hj => ?_⟩
  have hjl := (List.getElem?_eq_some_iff.1 hj).1
  rw [Array.getElem?_append_left (by simpa using hjl)]
  simp [hj]
section
variable {w : World} {own : Ow} {ptr : Nat → Nat} {lb tb : Nat} {T : Tr} {hv : Value} {hb : Option Nat} {H : List Hd}
set_option maxHeartbeats 2000000 in
set_option maxRecDepth 100000 in
theorem lreplace_any (h : LiveAt w own ptr lb tb T hv hb H) (hl : H.length ≤ 100000) (p q c : Int) (s all : ByteArray) (hs : s.size ≤ 1000000) {er : Int} {T' : Tr}
    (hd : ∀ W, Ext w W → Calls Try.prog 64 #[.pointer (some ⟨tb, 0, none⟩), .int .i64 p, .string all] W (ErrAfter own W tb er T'))
    (hP : er = 0 → okI p ∧ okI q ∧ okI c ∧ okH H) :
    Calls Try.prog 42 #[.pointer (some ⟨lb, 0, none⟩), .int .i64 p, .int .i64 q, .int .i64 c, .string s, .string all] w (LErr own lb tb hb w er T' (movedIf er (repP p q c (runeList s s.size 0).length) H)) := by
  have xa := (Ext.refl w).alloc (.cells #[.int .i64 p] 3)
  have ha := heap_alloc_new w (.cells #[.int .i64 p] 3)
  obtain ⟨wa, hwa⟩ : ∃ W : World, W = w.alloc (.cells #[.int .i64 p] 3) := ⟨_, rfl⟩
  have sa : wa.heap.size = w.heap.size + 1 := by rw [hwa]; simp
  rw [← hwa] at xa ha
  have xb := (Ext.refl wa).alloc (.cells #[.int .i64 q] 3)
  have hbq := heap_alloc_new wa (.cells #[.int .i64 q] 3)
  obtain ⟨wb, hwb⟩ : ∃ W : World, W = wa.alloc (.cells #[.int .i64 q] 3) := ⟨_, rfl⟩
  have sb : wb.heap.size = wa.heap.size + 1 := by rw [hwb]; simp
  rw [← hwb] at xb hbq
  have xc := (Ext.refl wb).alloc (.cells #[.int .i64 c] 3)
  have hc := heap_alloc_new wb (.cells #[.int .i64 c] 3)
  obtain ⟨wc, hwc⟩ : ∃ W : World, W = wb.alloc (.cells #[.int .i64 c] 3) := ⟨_, rfl⟩
  rw [← hwc] at xc hc
  have HP := Lib.hid (xc.block (xb.block ha))
  have HQ := Lib.hid (xc.block hbq)
  have HCN := Lib.hid hc
  obtain ⟨bp, hbp⟩ : ∃ b, w.heap.size = b := ⟨_, rfl⟩
  obtain ⟨bq, hbq2⟩ : ∃ b, wa.heap.size = b := ⟨_, rfl⟩
  obtain ⟨bn, hbn⟩ : ∃ b, wb.heap.size = b := ⟨_, rfl⟩
  have hq2 : bp + 1 = bq := by omega
  have hn2 : bp + 1 + 1 = bn := by omega
  rw [hbp] at HP
  rw [hbq2] at HQ
  rw [hbn] at HCN
  have XC := Lib.hid ((xa.trans xb).trans xc)
  have HH := Lib.hid h
  have HD := Lib.hid hd
  have HPP := Lib.hid hP
  have HL := Lib.hid hl
  have HS := Lib.hid hs
  have HWA := Lib.hid hwa
  have HWB := Lib.hid hwb
  have HWC := Lib.hid hwc
  have HBP := Lib.hid hbp
  have HBQ := Lib.hid (And.intro hbq2 hq2)
  have HBN := Lib.hid (And.intro hbn hn2)
  have NP := Lib.hid (h.new_own (b := bp) (by omega))
  have NQ := Lib.hid (h.new_own (b := bq) (by omega))
  have NN := Lib.hid (h.new_own (b := bn) (by omega))
  have hmf : ∀ (fn : Fn) (first cap : Array Value) (w : World), (Instr.makeFunc fn first cap).run Try.prog w = .ok (.func fn first cap) w := fun _ _ _ _ => rfl
  obtain ⟨m, hm⟩ : ∃ m, (runeList s s.size 0).length = m := ⟨_, rfl⟩
  rw [hm]
  have HM := Lib.hid hm
  have hm2 : m ≤ 1000000 := by have := runeList_len s s.size 0; omega
  have HM2 := Lib.hid hm2
  clear h hd hP hl xa ha hwa sa xb hbq hwb sb xc hc hwc hbp hbq2 hbn hq2 hn2 hs hm hm2
  go_enter Try.func42, Try.ntmps42
  go_upto_region 1 with fail
  rw [← HWA.out, ← HWB.out, ← HWC.out, HBP.out]
  first | rw [HBQ.out.1, HBN.out.1] | rw [HBN.out.2, HBQ.out.2]
  have r0 : ∀ u : ExtOf wc, u.val.cell? ⟨lb, 0, none⟩ = some (.pointer (some ⟨tb, 0, none⟩)) := fun u => u.ext.cell (HH.out.ext XC.out).ptr_
  have r1 : ∀ u : ExtOf wc, u.val.cell? ⟨bp, 0, none⟩ = some (.int .i64 p) := fun u => u.ext.cell (cellOf HP.out rfl)
  refine wp_region_ext_mid 6 _ rfl (by kernel_rfl) (by kernel_rfl) ?_
  simp only [List.take_succ_cons, List.take_zero, List.drop_succ_cons, List.drop_zero]
  repeat (go_big_quiet_step (fail))
  refine wpQuiet_nil ?_
  rintro _ ⟨u, rfl⟩ K hK
  have HK := Lib.hid hK
  have hx := u.ext
  obtain ⟨w5, hw5⟩ : ∃ W, u.val = W := ⟨_, rfl⟩
  rw [hw5] at hx ⊢
  clear r0 r1 hw5 hK
  clear u
  have X5 := Lib.hid (XC.out.trans hx)
  have HP5 := Lib.hid (hx.block HP.out)
  have HQ5 := Lib.hid (hx.block HQ.out)
  have HN5 := Lib.hid (hx.block HCN.out)
  clear hx
  go_simp
  go_at_call 64
  refine (HD.out _ X5.out).mono ?_
  rintro e w6 ⟨rfl, ha⟩
  obtain ⟨own', ptr', hT6, hS6, hst⟩ := (HH.out.ext X5.out).after ha
  have HP6 := Lib.hid (hst.mv.block HP5.out (fun hn => hn NP.out.1))
  have HQ6 := Lib.hid (hst.mv.block HQ5.out (fun hn => hn NQ.out.1))
  have HN6 := Lib.hid (hst.mv.block HN5.out (fun hn => hn NN.out.1))
  have HT6 := Lib.hid hT6
  have HS6 := Lib.hid (((LStep.refl own lb hb w).ext X5.out).trans hS6)
  clear ha hT6 hS6 hst
  refine HK.out _ _ ?_
  clear HK K
  repeat (go_big_quiet_step (fail))
  refine wpQuiet_nil ?_
  rintro _ ⟨u, rfl⟩
  obtain ⟨w7, hw7⟩ : ∃ W, u.val = W := ⟨_, rfl⟩
  have hx := u.ext
  rw [hw7] at hx ⊢
  have HT6 := Lib.hid (HT6.out.ext hx)
  have HS6 := Lib.hid (HS6.out.ext hx)
  have HP6 := Lib.hid (hx.block HP6.out)
  have HQ6 := Lib.hid (hx.block HQ6.out)
  have HN6 := Lib.hid (hx.block HN6.out)
  clear hx hw7
  clear u
  by_cases her : er = 0
  · subst her
    obtain ⟨op, oq, oc, oh⟩ := HPP.out rfl
    have OP := Lib.hid (And.intro op (And.intro oq (And.intro oc oh)))
    obtain ⟨K1, C1, hcv, -, -⟩ := run_toRunes s HS.out w7
    rw [HM.out] at hcv
    have HCV := Lib.hid hcv
    clear op oq oc oh hcv
    go_wp2_with fail
    rw [HCV.out]
    have xd := ((Ext.refl w7).drew.alloc (.cells C1 21)).alloc (.cells #[.int .i64 (m : Int)] 3)
    have hd := heap_alloc_new (w7.drew.alloc (.cells C1 21)) (.cells #[.int .i64 (m : Int)] 3)
    have hdz : (w7.drew.alloc (.cells C1 21)).heap.size = w7.heap.size + 1 := by simp
    rw [hdz] at hd
    go_upto_region 4 with fail
    have xz : Ext w7 ((w7.alloc (.cells C1 21)).alloc (.cells #[.int .i64 (m : Int)] 3)).drew := (((Ext.refl w7).alloc _).alloc _).drew
    have hz : ((w7.alloc (.cells C1 21)).alloc (.cells #[.int .i64 (m : Int)] 3)).drew.heap[w7.heap.size + 1]? = some (.cells #[.int .i64 (m : Int)] 3 (0, 0)) := hd
    obtain ⟨wz, hwz⟩ : ∃ W : World, W = ((w7.alloc (.cells C1 21)).alloc (.cells #[.int .i64 (m : Int)] 3)).drew := ⟨_, rfl⟩
    rw [← hwz] at xz hz ⊢
    clear hwz xd hd hdz
    have hnz : hb ≠ some (w7.heap.size + 1) := fun e => by have := (HT6.out.nrow _ e).2.2; omega
    obtain ⟨bm, hbm⟩ : ∃ b, w7.heap.size + 1 = b := ⟨_, rfl⟩
    rw [hbm] at hz hnz ⊢
    have HMV := Lib.hid (lMove_any (HT6.out.ext xz) HL.out OP.out.2.2.2 (byReplace p q c (m : Int) OP.out.1 OP.out.2.1 OP.out.2.2.1 (by have := HM2.out; unfold okI; omega) (xz.block HP6.out) NP.out.2.2 (xz.block HQ6.out) NQ.out.2.2 (xz.block HN6.out) NN.out.2.2 hz hnz))
    have HSZ := Lib.hid (HS6.out.ext xz)
    clear xz hz hnz hbm
    go_wp2_with (go_at_call 23; refine HMV.out.mono ?_)
    rintro e w8 ⟨rfl, hT8, hm8⟩
    have HF : Hid (LAfter own lb tb hb w T' (H.map (moved (repP p q c (m : Int)))) w8) := Lib.hid ⟨own', ptr', _, _, hT8, HSZ.out.trans (LStep.move hm8)⟩
    clear hT8 hm8
    go_wp2_with fail
    go_ret
    exact ⟨rfl, by unfold movedIf; rw [if_pos rfl]; exact HF.out⟩
  · have e0 : (er == 0) = false := beq_eq_false_iff_ne.2 her
    have HE := Lib.hid her
    clear her
    go_wp2_with fail
    go_ret
    exact ⟨rfl, by unfold movedIf; rw [if_neg HE.out]; exact ⟨own', ptr', _, _, HT6.out, HS6.out⟩⟩
end
end Go.Proofs.Ythgnbbbdcebjhaa
