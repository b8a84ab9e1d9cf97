/- quillworkref08: CopyNode: a plain tree in memory of its own. Conditions: at most 60000 attributes in each node. -/
import Derived.Test.YtiglflmjidikpaaOwnN
import Derived.Test.YtiglflmjidikpaaSit
import Derived.ArgAppend
namespace Go.Proofs.Ytiglflmjidikpaa
open Go Go.RowKit Go.BigFrame
set_option linter.unusedVariables false
set_option linter.unusedSimpArgs false

/-- an append whose run is known, in the order of the text -/
theorem wpList_append_run {P : Program} (w : World) {ops : Array Oper} {rest : List Oper} {o : Oper} {a : Act} {Q : Exit → Act → World → Prop}
    (hg : o.guard = none) (s x : Operand) (t : TypeId) (hop : o.op = Op.call { callee := Callee.builtin Builtin.append, args := #[s, x], argTypes := #[t, t] })
    (v u : Value) (hs : a.eval s = v) (hx : a.eval x = u) (v' : Value) (w' : World) (hr : (Builtin.append_ #[t, t] o.type #[v, u]).run P w = .ok v' w') (hK : wpList P ops Q rest (a.put o.dst v') w') :
    wpList P ops Q (o :: rest) a w := by
  refine wpList_plain hg fun K hK' => ?_
  unfold Oper.wp
  simp [execOp, hop, resolve, invoke, builtin, hs, hx, hr, Result.andThen]
  exact hK' _ _ hK
/-- 'append([]T{}, xs..)' -/
theorem append_empty {w : World} {b : Nat} {v : Value} {n : Nat} {xs : List Value} (h : RowRd w 2 v n xs) (hn : n ≤ 60000) (h1 : ∀ u ∈ xs, u.oneCell' = true) :
    ∃ v' w', (Builtin.append_ #[27, 27] 27 #[.slice (some ⟨b, 0, none⟩) 0 0, v]).run Try.prog w = .ok v' w' ∧ RowP w' (fun g => w.heap.size ≤ g) 44 2 v' n xs ∧ Ext w w' := by
  obtain ⟨hl, ao, cap, rfl, hcap, hnone, hc⟩ := h
  rcases Nat.eq_zero_or_pos n with rfl | hpos
  · obtain rfl : xs = [] := List.eq_nil_of_length_eq_zero (by simpa using hl)
    refine ⟨.slice (some ⟨b, 0, none⟩) 0 0, w, ?_, ⟨rfl, .inl ⟨rfl, _, rfl⟩⟩, Ext.refl _⟩
    cases ao with
    | none => obtain ⟨_, rfl⟩ := hnone rfl; go_simp
    | some a => go_simp
  · cases ao with
    | none => exact absurd (hnone rfl).1 (by omega)
    | some a =>
      obtain ⟨i0, hi, hz0, hz1, hz2⟩ := info_parts infoA
      obtain ⟨v', w', h2, h3, h4⟩ := run_append_arg_grows (P := Try.prog) w 27 27 44 i0 _ 2 _ Try.underlying27 hi hz0 hz1 hz2 (by kernel_rfl) (by decide) ⟨b, 0, none⟩ 0 0 [] (by simp) (by simp) a n cap xs hl (hc a rfl) (by omega) (by unfold maxLen; omega) (by omega)
      refine ⟨v', w', h2, (by have := RowP.of_owns h3; simpa using this : RowIn w' w.heap.size 44 2 v' n xs), (Ext.refl w).grown h4 (fun k hk => by cases hk)⟩
theorem Ext.heapSame {w w3 wr : World} (h : Ext w wr) (hos : w3.os = wr.os) (ht : w3.tape = wr.tape) (ho : w3.output = wr.output) (hs : w3.heap.size = wr.heap.size) (hk : ∀ x, x < w.heap.size → w3.heap[x]? = wr.heap[x]?) : Ext w w3 :=
  ⟨hos.trans h.os, ht.trans h.tape, ho.trans h.output, hs ▸ h.size, fun k hk' => (hk k hk').trans (Below.block h k hk')⟩
theorem Ext.setBoth {a b : World} (h : Ext a b) (p : Addr) (u : Value) : Ext (a.setCell p u) (b.setCell p u) := by
  refine ⟨h.os, h.tape, h.output, by simpa [World.setCell] using h.size, fun k hk => ?_⟩
  have hk' : k < a.heap.size := by simpa [World.setCell] using hk
  have e := Below.block h k hk'
  simp only [World.setCell, Array.getElem?_modify]
  rw [e]
theorem PN.len_sizes (l : List PN) : l.length ≤ PN.sizes l := by
  induction l with
  | nil => exact Nat.le_refl _
  | cons k r ih => simp only [PN.sizes, List.length_cons]; have := k.size_pos; omega
theorem PN.len_size (n : PN) : n.kids.length < n.size := by
  rw [PN.size_eq]; have := PN.len_sizes n.kids; omega
set_option maxRecDepth 100000 in
set_option maxHeartbeats 4000000 in
theorem CopyNode_any {w0 : World} : ∀ n : PN, n.fair = true → n.size ≤ 100000 → ∀ (w : World) (v : Value), RdN w0 n v → Ext w0 w → Calls Try.prog 95 #[v] w (CopyNIs n w) := by
  refine PN.induct _ fun n ih hfair hsz w v h hx0 => ?_
  have hnl := n.len_size
  have HSZN := Lib.hid hsz
  rw [PN.fair_eq] at hfair
  simp only [Bool.and_eq_true, decide_eq_true_eq] at hfair
  have hal := hfair.1
  have HF := Lib.hid hfair.2
  clear hfair
  obtain ⟨av, kv, rfl, hA, hK⟩ := h.open
  obtain ⟨aa, acap, rfl, _⟩ := hA.len_of
  obtain ⟨ka, kcap, rfl, hkc, hkm, hkn, hk⟩ := hK
  have IH := Lib.hid ih
  have HN := Lib.hid hkn
  have HK := Lib.hid hk
  unfold maxLen at hkm
  have xm := ((Ext.refl w).alloc (.cells #[.int .i64 n.tag, .slice aa n.attrs.length acap, .string n.text, .slice ka n.kids.length kcap] 30)).alloc (.cells #[.int .i64 0, .slice none 0 0, .string ⟨#[]⟩, .slice none 0 0] 30)
  have b1 := ((Ext.refl (w.alloc (.cells #[.int .i64 n.tag, .slice aa n.attrs.length acap, .string n.text, .slice ka n.kids.length kcap] 30))).alloc (.cells #[.int .i64 0, .slice none 0 0, .string ⟨#[]⟩, .slice none 0 0] 30)).block (heap_alloc_new w (.cells #[.int .i64 n.tag, .slice aa n.attrs.length acap, .string n.text, .slice ka n.kids.length kcap] 30))
  have b2 := heap_alloc_new (w.alloc (.cells #[.int .i64 n.tag, .slice aa n.attrs.length acap, .string n.text, .slice ka n.kids.length kcap] 30)) (.cells #[.int .i64 0, .slice none 0 0, .string ⟨#[]⟩, .slice none 0 0] 30)
  clear hsz
  replace hnl : n.kids.length ≤ 100000 := by have := HSZN.out; omega
  have hsz : ((w.alloc (.cells #[.int .i64 n.tag, .slice aa n.attrs.length acap, .string n.text, .slice ka n.kids.length kcap] 30)).alloc (.cells #[.int .i64 0, .slice none 0 0, .string ⟨#[]⟩, .slice none 0 0] 30)).heap.size = w.heap.size + 2 := by simp
  rw [show (w.alloc (.cells #[.int .i64 n.tag, .slice aa n.attrs.length acap, .string n.text, .slice ka n.kids.length kcap] 30)).heap.size = w.heap.size + 1 by simp] at b2
  have HA := Lib.hid (hA.ext (hx0.trans xm))
  have HX0 := Lib.hid hx0
  clear ih hkn hk h hA hx0
  go_enter Try.func95, Try.ntmps95
  go_upto_region 1 with fail
  obtain ⟨w1, hw1⟩ : ∃ w1 : World, w1 = (w.alloc (.cells #[.int .i64 n.tag, .slice aa n.attrs.length acap, .string n.text, .slice ka n.kids.length kcap] 30)).alloc (.cells #[.int .i64 0, .slice none 0 0, .string ⟨#[]⟩, .slice none 0 0] 30) := ⟨_, rfl⟩
  rw [← hw1] at xm b1 b2 hsz HA ⊢
  clear hw1
  have c0 := cellOf b1 (i := 0) (v := .int .i64 n.tag) rfl
  have c1 := cellOf b1 (i := 1) (v := .slice aa n.attrs.length acap) rfl
  have c2 := cellOf b1 (i := 2) (v := .string n.text) rfl
  have c3 := cellOf b1 (i := 3) (v := .slice ka n.kids.length kcap) rfl
  have f1 := freeOf b1 1
  have B1 := Lib.hid b1
  have B2 := Lib.hid b2
  have HXM := Lib.hid xm
  have HSZ := Lib.hid hsz
  have np : w.heap.size ≠ w1.heap.size := by omega
  have np' := Ne.symm np
  have np2 : w.heap.size + 1 ≠ w1.heap.size := by omega
  have xe := (Ext.refl w1).alloc (.cells #[] 44)
  obtain ⟨va, wA, hrun, hra, hxa⟩ := append_empty (w := w1.alloc (.cells #[] 44)) (b := w1.heap.size) (HA.out.ext xe) hal (attrCells_one _)
  obtain ⟨aa', acap', rfl, _⟩ := hra.rd.len_of
  have hra' := RowP.imp hra (q := fun g => w1.heap.size ≤ g) fun g _ hg => by have h : (w1.alloc (.cells #[] 44)).heap.size ≤ g := hg; simp at h; show w1.heap.size ≤ g; omega
  have hxa1 := xe.trans hxa
  have ce1 := xe.cell c1
  have cA1 := hxa1.cell c1
  have fA1 := hxa1.free (cell_lt c1) f1
  have HRA := Lib.hid hra'
  have HXA := Lib.hid hxa1
  have HRUN := Lib.hid hrun
  clear b1 b2 xm hsz hra hra' hxa xe hrun hxa1
  go_wp2_with (at_builtin; refine wpList_append_run _ rfl _ _ 27 rfl _ _ rfl rfl _ _ HRUN.out ?_)
  have hsw := HXA.out.setBoth ⟨w.heap.size, 1, none⟩ (.slice aa' n.attrs.length acap')
  have e1 := heap_setCell_same (i := 1) B1.out (.slice aa' n.attrs.length acap')
  have e2 : (w1.setCell ⟨w.heap.size, 1, none⟩ (.slice aa' n.attrs.length acap')).heap[w.heap.size + 1]? = _ := (heap_setCell_other (p := ⟨w.heap.size, 1, none⟩) (.slice aa' n.attrs.length acap') (show w.heap.size + 1 ≠ w.heap.size by omega)).trans B2.out
  have ez : (w1.setCell ⟨w.heap.size, 1, none⟩ (.slice aa' n.attrs.length acap')).heap.size = w.heap.size + 2 := by have := HSZ.out; simpa [World.setCell] using this
  have ew : Ext w (w1.setCell ⟨w.heap.size, 1, none⟩ (.slice aa' n.attrs.length acap')) := HXM.out.setCell (Nat.le_refl _) _
  have hro : RowP (wA.setCell ⟨w.heap.size, 1, none⟩ (.slice aa' n.attrs.length acap')) (fun g => w.heap.size + 2 ≤ g) 44 2 (.slice aa' n.attrs.length acap') n.attrs.length (attrCells n.attrs) :=
    RowP.move HRA.out fun g hg => ⟨heap_setCell_other (p := ⟨w.heap.size, 1, none⟩) _ (by have := HSZ.out; have h : w1.heap.size ≤ g := hg; show g ≠ w.heap.size; omega), by have := HSZ.out; have h : w1.heap.size ≤ g := hg; omega⟩
  obtain ⟨ws, hws⟩ : ∃ ws : World, ws = wA.setCell ⟨w.heap.size, 1, none⟩ (.slice aa' n.attrs.length acap') := ⟨_, rfl⟩
  obtain ⟨wb, hwb⟩ : ∃ wb : World, wb = w1.setCell ⟨w.heap.size, 1, none⟩ (.slice aa' n.attrs.length acap') := ⟨_, rfl⟩
  rw [← hws, ← hwb] at hsw
  rw [← hwb] at e1 e2 ez ew
  rw [← hws] at hro ⊢
  clear hws hwb
  have HIN := Lib.hid (CopNAt.init (n := n) hsw (ez ▸ hro))
  have E1 := Lib.hid (show wb.heap[w.heap.size]? = some (.cells #[.int .i64 n.tag, .slice aa' n.attrs.length acap', .string n.text, .slice ka n.kids.length kcap] 30 (0, 0)) from e1)
  have E2 := Lib.hid e2
  have EZ := Lib.hid ez
  have EW := Lib.hid ew
  clear hsw e1 e2 ez ew hro c0 c1 c2 c3 f1 ce1 cA1 fA1 np np' np2
  go_loopw [3, 4] (fun lv i wr => ∃ k : Nat, k ≤ n.kids.length ∧ i = .int .i64 k ∧ CopNAt wb wr n (.slice aa' n.attrs.length acap') lv k) (fun _ i _ => n.kids.length - (intOf i).toNat)
  case atStart => exact ⟨0, Nat.zero_le _, rfl, HIN.out⟩
  case round =>
    obtain ⟨k, hk, rfl, hat⟩ := hrel
    clear HIN
    have HAT := Lib.hid hat
    obtain ⟨hxr, xs, ga, G, hr, hlb, ha, hkx, hG, hd, hg⟩ := hat
    obtain ⟨al, cl, rfl, hcl⟩ := hr.rd.len_of
    have hb := hxr.block E1.out
    have c3 := cellOf hb (i := 3) (v := .slice ka n.kids.length kcap) rfl
    by_cases hlt : k < n.kids.length
    · obtain ⟨x, hxi⟩ : ∃ x, n.kids[k]? = some x := ⟨n.kids[k], by simp [hlt]⟩
      cases ka with
      | none => exact absurd (HN.out rfl).1 (by omega)
      | some a =>
        obtain ⟨b, off, sp⟩ := a
        obtain ⟨d0, d1, d2, d3, q0, q1, q2, q3, hrd⟩ := HK.out _ rfl k x hxi
        obtain ⟨y1, y2, y3, y4, en⟩ := hrd.shape
        cases en
        have hext := HX0.out.trans (EW.out.trans hxr)
        replace q0 := hext.cells _ _ q0
        replace q1 := hext.cells _ _ q1
        replace q2 := hext.cells _ _ q2
        replace q3 := hext.cells _ _ q3
        rw [add_later _ _ _ (by decide)] at q1 q2 q3
        have REC := Lib.hid (IH.out x (List.mem_of_getElem? hxi) (PN.fairs_mem HF.out (List.mem_of_getElem? hxi)) (by have := PN.size_kid (List.mem_of_getElem? hxi); have := HSZN.out; omega) wr _ hrd hext)
        have HXR := Lib.hid hxr
        have HR := Lib.hid hr
        have HLB := Lib.hid hlb
        have HGA := Lib.hid ha
        have HKX := Lib.hid hkx
        have HG := Lib.hid hG
        have HD := Lib.hid hd
        have HGG := Lib.hid hg
        have HXX := Lib.hid hxi
        clear hxr hr hlb ha hkx hG hd hg hxi hrd hext hb
        go_wp2_with fail
        refine REC.out.mono ?_
        rintro e wk ⟨v', F', ga', rfl, ho, hxk, hF, hg'⟩
        obtain ⟨a2, ac2, k2, kc2, rfl⟩ := ho.shape
        have xc := (Ext.refl wk).alloc (.cells #[.int .i64 x.tag, .slice a2 x.attrs.length ac2, .string x.text, .slice k2 x.kids.length kc2] 30)
        have hnew := cells_four (heap_alloc_new wk (.cells #[.int .i64 x.tag, .slice a2 x.attrs.length ac2, .string x.text, .slice k2 x.kids.length kc2] 30))
        obtain ⟨i0, hii, hz0, hz1, hz2⟩ := info_parts infoN
        obtain ⟨v', wA2, row, hrunA, hrA, hgA, hrowA⟩ := run_append_row (P := Try.prog) (wk.alloc (.cells #[.int .i64 x.tag, .slice a2 x.attrs.length ac2, .string x.text, .slice k2 x.kids.length kc2] 30)) 28 28 30 i0 noNode0 4 72 Try.underlying28 hii hz0 hz1 hz2 (by kernel_rfl) (by decide)
          (p := fun y => wb.heap.size ≤ y ∧ (Value.slice al k cl).ownBlock = some y) (RowP.imp (RowP.ext HR.out (hxk.trans xc)) (fun y hy hp => ⟨hp, hy⟩)) ⟨wk.heap.size, 0, none⟩ 1 1 _ rfl hnew (by simp [Value.oneCell']) (by decide) (by unfold maxLen; omega) (by omega)
        have FIN := Lib.hid (CopNAt.step HXR.out HR.out HLB.out HGA.out HKX.out HG.out HD.out HGG.out HXX.out hxk ho hF hg' xc hrA hgA hrowA)
        have HRA := Lib.hid hrunA
        clear hrA hgA hrowA hrunA hii hz0 hz1 hz2 hnew xc hxk ho hF hg' q0 q1 q2 q3 c3
        go_wp2_with (at_builtin; refine wpList_append_run _ rfl _ _ 28 rfl _ _ rfl rfl _ _ HRA.out ?_)
        go_roundw
        case rel => exact ⟨k + 1, by omega, by go_num, FIN.out⟩
        case measure => simp [intOf]; omega
    · obtain rfl : k = n.kids.length := by omega
      have hb2 := hxr.block E2.out
      have c0 := cellOf hb (i := 0) (v := .int .i64 n.tag) rfl
      have c1 := cellOf hb (i := 1) (v := .slice aa' n.attrs.length acap') rfl
      have c2 := cellOf hb (i := 2) (v := .string n.text) rfl
      have f3 := freeOf hb 3
      have r0 := cellOf hb2 (i := 0) (v := .int .i64 0) rfl
      have r1 := cellOf hb2 (i := 1) (v := .slice none 0 0) rfl
      have r2 := cellOf hb2 (i := 2) (v := .string ⟨#[]⟩) rfl
      have r3 := cellOf hb2 (i := 3) (v := .slice none 0 0) rfl
      have g0 := freeOf hb2 0
      have g1 := freeOf hb2 1
      have g2 := freeOf hb2 2
      have g3 := freeOf hb2 3
      have hs1 : wb.heap.size = w.heap.size + 2 := EZ.out
      have FIN := Lib.hid (fun (u0 u1 u2 u3 u4 : Value) => CopNAt.fin (w := w) (w3 := ((((wr.setCell ⟨w.heap.size, 3, none⟩ u0).setCell ⟨w.heap.size + 1, 0, none⟩ u1).setCell ⟨w.heap.size + 1, 1, none⟩ u2).setCell ⟨w.heap.size + 1, 2, none⟩ u3).setCell ⟨w.heap.size + 1, 3, none⟩ u4) HAT.out (by omega)
        ((((((EW.out.trans hxr).setCell (Nat.le_refl _) _).setCell (Nat.le_succ _) _).setCell (Nat.le_succ _) _).setCell (Nat.le_succ _) _).setCell (Nat.le_succ _) _) (by simp [World.setCell])
        (fun y hy => by
          have n1 : y ≠ w.heap.size := by omega
          have n2 : y ≠ w.heap.size + 1 := by omega
          rw [heap_setCell_other (p := ⟨w.heap.size + 1, 3, none⟩) _ n2, heap_setCell_other (p := ⟨w.heap.size + 1, 2, none⟩) _ n2, heap_setCell_other (p := ⟨w.heap.size + 1, 1, none⟩) _ n2, heap_setCell_other (p := ⟨w.heap.size + 1, 0, none⟩) _ n2, heap_setCell_other (p := ⟨w.heap.size, 3, none⟩) _ n1]))
      have HB1 := Lib.hid hb
      have HB2 := Lib.hid hb2
      clear hxr hr hlb ha hkx hG hd hg hb hb2 hs1
      go_wp2_with fail
      exact bodyPost_ret (v := .agg #[.int .i64 n.tag, .slice aa' n.attrs.length acap', .string n.text, .slice al n.kids.length cl]) (by simp [results, Try.results95, go_sem, r0, r1, r2, r3]) rfl (FIN.out _ _ _ _ _)
end Go.Proofs.Ytiglflmjidikpaa
