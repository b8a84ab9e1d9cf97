/- quillworkref09: Chars, Length, May, Within, Path. No conditions beside a tree's own. -/
import Derived.Test.YtiglflmjidikpaaOB
namespace Go.Proofs.Ytiglflmjidikpaa
open Go Go.RowKit Go.BigFrame
set_option linter.unusedVariables false
set_option linter.unusedSimpArgs false

set_option maxRecDepth 20000 in
set_option maxHeartbeats 400000 in
theorem rChars (s : ByteArray) (hs : s.size ≤ 100000) (w : World) : Calls Try.prog 120 #[.string s] w (RVal (.int .i64 (runes s)) w) := by
  have h1 := run_runes_of_string (P := Try.prog) w 9 145 21 s Try.underlying9 Try.underlying145 Try.underlying21 (by have := size_runesFrom s s.size 0 #[]; simp at this; omega)
  have e1 : Conv.runesFrom s s.size 0 #[] = ((runeList s s.size 0).map (Value.int .i32)).toArray := by rw [runesFrom_eq]; simp
  have hz : runes s = (runeList s s.size 0).length := rfl
  have HZ := Lib.hid hz
  rw [e1] at h1
  clear hz e1 hs
  generalize runeList s s.size 0 = l at *
  generalize hk : grownCap w (List.map (Value.int IntKind.i32) l).toArray.size 0 21 = K at *
  clear hk
  generalize hC : (List.map (Value.int IntKind.i32) l).toArray ++ Array.replicate (K - (List.map (Value.int IntKind.i32) l).toArray.size) (Value.int IntKind.i32 0) = C at *
  simp only [List.size_toArray, List.length_map] at h1
  clear hC
  have HH1 := Lib.hid h1
  clear h1
  go_enter Try.func120, Try.ntmps120
  go_wp2_with fail
  rw [HH1.out]
  go_wp2_with fail
  go_ret
  exact ⟨by rw [HZ.out]; rfl, ((Ext.refl _).alloc _).drew⟩
section
variable {w : World} {rb : Nat} {T : Tr}
set_option maxHeartbeats 1000000 in
theorem rLength (h : RAt w rb T) {d : Nat → Nat} (hw : WF T d) (hA : AttrsOk T) (id : Int) : Calls Try.prog 69 #[.pointer (some ⟨rb, 0, none⟩), .int .i64 id] w (RVal (.int .i64 (T.lengthOf id)) w) := by
  cases hg : T.get? id with
  | none =>
    have HAS := Lib.hid (rHas_no h hg)
    have e : T.lengthOf id = -1 := by unfold Tr.lengthOf Tr.tagOf; rw [hg]; rfl
    rw [e]
    clear h hg e
    go_enter Try.func69, Try.ntmps69
    go_wp2_with (go_at_call 105; refine HAS.out.mono ?_; rintro e w' ⟨rfl, rfl⟩)
    go_ret
    exact ⟨rfl, Ext.refl _⟩
  | some nd =>
    have HAS := Lib.hid (rHas_yes h hg)
    have e : T.lengthOf id = if nd.tag = 0 then (runes nd.text : Int) else (nd.kids.length : Int) := by
      have ht := (hw.text _ _ (Tr.get_lt hg).2.2).1
      unfold Tr.lengthOf Tr.tagOf Tr.txt Tr.kidsOf
      rw [hg]
      show (if nd.tag = -1 then _ else _) = _
      rw [if_neg (by omega)]
    rw [e]
    obtain ⟨i, rfl, hi, hl⟩ := nodes_some hg
    have hts : nd.text.size ≤ 100000 := by have := (hA i nd hi).2; omega
    have HCH := Lib.hid (rChars nd.text hts w)
    obtain ⟨g, cap, aa, ac, ka, kc, c, c0, c1, c2, c3, c4, c5, _⟩ := h.one hi
    replace c1 : w.cell? ⟨g, i * 6 + 1, none⟩ = some (.int .i64 nd.tag) := c1
    replace c4 : w.cell? ⟨g, i * 6 + 4, none⟩ = some (.string nd.text) := c4
    replace c5 : w.cell? ⟨g, i * 6 + 5, none⟩ = some (.slice ka nd.kids.length kc) := c5
    clear h hw hA hg e hi c0 c2 c3
    by_cases ht : nd.tag = 0
    · rw [if_pos ht]
      have tb : (nd.tag == 0) = true := by simp [ht]
      clear ht
      go_enter Try.func69, Try.ntmps69
      go_wp2_with (first | (go_at_call 105; refine HAS.out.mono ?_; rintro e w' ⟨rfl, rfl⟩) | (go_at_call 120; refine HCH.out.mono ?_; rintro e w2 ⟨rfl, hx⟩))
      go_ret
      exact ⟨rfl, hx⟩
    · rw [if_neg ht]
      have tb : (nd.tag == 0) = false := by simpa using ht
      clear ht
      go_enter Try.func69, Try.ntmps69
      go_wp2_with (go_at_call 105; refine HAS.out.mono ?_; rintro e w' ⟨rfl, rfl⟩)
      go_ret
      exact ⟨rfl, Ext.refl _⟩
set_option maxRecDepth 100000 in
set_option maxHeartbeats 1000000 in
theorem rMay (h : RAt w rb T) {d : Nat → Nat} (hw : WF T d) (hA : AttrsOk T) (id at' : Int) : Calls Try.prog 76 #[.pointer (some ⟨rb, 0, none⟩), .agg #[.int .i64 id, .int .i64 at']] w (RVal (.bool (T.may id at')) w) := by
  have hlb := lengthOf_bound hw hA id
  have HLN := Lib.hid (fun (u : World) (x : Ext w u) => rLength (h.ext x) hw hA id)
  have HHS := Lib.hid (fun (u : World) (x : Ext w u) => RSame.val (rHas (h.ext x) id))
  obtain ⟨z, hz⟩ : ∃ z, T.may id at' = z := ⟨_, rfl⟩
  rw [hz]
  have hnone : T.get? id = none → T.lengthOf id = -1 := fun hg => by unfold Tr.lengthOf Tr.tagOf; rw [hg]; rfl
  obtain ⟨L, hL⟩ : ∃ L, T.lengthOf id = L := ⟨_, rfl⟩
  obtain ⟨hs, hhs⟩ : ∃ hs, (T.get? id).isSome = hs := ⟨_, rfl⟩
  rw [hL] at hlb HLN hnone
  rw [hhs] at HHS
  unfold Tr.may at hz
  rw [hL] at hz
  have hzz : (hs && (decide (0 ≤ at') && decide (at' ≤ L))) = z := by
    cases hg : T.get? id with
    | some nd => rw [← hhs, hg]; exact hz
    | none =>
      rw [← hhs, hg, ← hz, hnone hg]
      show false = _
      by_cases h0 : 0 ≤ at'
      · rw [decide_eq_false (show ¬ at' ≤ -1 by omega), Bool.and_false]
      · rw [decide_eq_false h0]; rfl
  have HZ := Lib.hid hzz
  have xm := (Ext.refl w).alloc (.cells #[.int .i64 id, .int .i64 at'] 73)
  have bm := heap_alloc_new w (.cells #[.int .i64 id, .int .i64 at'] 73)
  clear h hw hA hz hnone hL hhs hzz
  go_enter Try.func76, Try.ntmps76
  go_upto_region 1 with fail
  obtain ⟨B, hB⟩ : ∃ B, B = w.heap.size := ⟨_, rfl⟩
  obtain ⟨wm, hwm⟩ : ∃ wm : World, wm = w.alloc (.cells #[.int .i64 id, .int .i64 at'] 73) := ⟨_, rfl⟩
  rw [← hB] at bm ⊢
  rw [← hwm] at bm xm
  rw [← hwm]
  clear hwm hB
  have e0 := fun u : ExtOf wm => u.ext.cell (cellOf bm (i := 0) (v := .int .i64 id) rfl)
  have e1 := fun u : ExtOf wm => u.ext.cell (cellOf bm (i := 1) (v := .int .i64 at') rfl)
  have XM := Lib.hid xm
  clear bm xm
  have fin : ∀ u : World, Ext wm u → Ext w u := fun u x => XM.out.trans x
  have FIN := Lib.hid fin
  clear fin
  cases hs with
  | false =>
    have hz : z = false := by rw [← HZ.out]; rfl
    subst hz
    refine wp_region_ext (by kernel_rfl) (by kernel_rfl) ?_
    repeat (go_big_quiet_step (first | (go_at_call 105; exact inExt (HHS.out _ (XM.out.trans (ExtOf.ext _)))) | (go_at_call 69; exact inExt (HLN.out _ (XM.out.trans (ExtOf.ext _))))))
    refine wpQuiet_nil ?_
    rintro _ ⟨u, rfl⟩
    go_wp2_with fail
    go_ret
    exact ⟨rfl, FIN.out _ u.ext⟩
  | true =>
    by_cases h0 : 0 ≤ at'
    · by_cases h1 : at' ≤ L
      · have hz : z = true := by rw [← HZ.out, decide_eq_true h0, decide_eq_true h1]; rfl
        subst hz
        refine wp_region_ext (by kernel_rfl) (by kernel_rfl) ?_
        repeat (go_big_quiet_step (first | (go_at_call 105; exact inExt (HHS.out _ (XM.out.trans (ExtOf.ext _)))) | (go_at_call 69; exact inExt (HLN.out _ (XM.out.trans (ExtOf.ext _))))))
        refine wpQuiet_nil ?_
        rintro _ ⟨u, rfl⟩
        go_wp2_with fail
        go_ret
        exact ⟨rfl, FIN.out _ u.ext⟩
      · have hz : z = false := by rw [← HZ.out, decide_eq_false h1, Bool.and_false]; rfl
        subst hz
        refine wp_region_ext (by kernel_rfl) (by kernel_rfl) ?_
        repeat (go_big_quiet_step (first | (go_at_call 105; exact inExt (HHS.out _ (XM.out.trans (ExtOf.ext _)))) | (go_at_call 69; exact inExt (HLN.out _ (XM.out.trans (ExtOf.ext _))))))
        refine wpQuiet_nil ?_
        rintro _ ⟨u, rfl⟩
        go_wp2_with fail
        go_ret
        exact ⟨rfl, FIN.out _ u.ext⟩
    · have hz : z = false := by rw [← HZ.out, decide_eq_false h0]; rfl
      subst hz
      refine wp_region_ext (by kernel_rfl) (by kernel_rfl) ?_
      repeat (go_big_quiet_step (first | (go_at_call 105; exact inExt (HHS.out _ (XM.out.trans (ExtOf.ext _)))) | (go_at_call 69; exact inExt (HLN.out _ (XM.out.trans (ExtOf.ext _))))))
      refine wpQuiet_nil ?_
      rintro _ ⟨u, rfl⟩
      go_wp2_with fail
      go_ret
      exact ⟨rfl, FIN.out _ u.ext⟩
set_option maxRecDepth 100000 in
set_option maxHeartbeats 1000000 in
theorem rWithin9 (h : RAt w rb T) {d : Nat → Nat} (hw : WF T d) (id o : Int) : Calls Try.prog 73 #[.pointer (some ⟨rb, 0, none⟩), .int .i64 id, .int .i64 o] w (RVal (.bool (T.win id o)) w) := by
  rw [hw.win_says id o]
  have H1 := Lib.hid (rHas h id)
  have H2 := Lib.hid (rHas h o)
  have hal := rAll h hw o
  have hl2 := allOf_2000 hw o
  obtain ⟨b1, hb1⟩ : ∃ b1, (T.get? id).isSome = b1 := ⟨_, rfl⟩
  obtain ⟨b2, hb2⟩ : ∃ b2, (T.get? o).isSome = b2 := ⟨_, rfl⟩
  obtain ⟨l, hl⟩ : ∃ l, T.allOf o = l := ⟨_, rfl⟩
  rw [hl] at hal hl2
  rw [hb1] at H1
  rw [hb2] at H2
  rw [hb1, hb2, hl]
  have HAL := Lib.hid hal
  clear h hw hal hb1 hb2 hl
  obtain ⟨p, hp⟩ : ∃ p, posOf l id = p := ⟨_, rfl⟩
  rw [hp]
  have HP := Lib.hid hp
  clear hp
  cases b1 with
  | false =>
    go_enter Try.func73, Try.ntmps73
    go_wp2_with fail
    refine H1.out.mono ?_
    rintro e w' ⟨rfl, rfl⟩
    go_wp2_with fail
    go_ret
    exact ⟨rfl, Ext.refl _⟩
  | true =>
    cases b2 with
    | false =>
      go_enter Try.func73, Try.ntmps73
      go_wp2_with fail
      refine H1.out.mono ?_
      rintro e w' ⟨rfl, rfl⟩
      go_wp2_with fail
      refine H2.out.mono ?_
      rintro e w' ⟨rfl, rfl⟩
      go_wp2_with fail
      go_ret
      exact ⟨rfl, Ext.refl _⟩
    | true =>
      go_enter Try.func73, Try.ntmps73
      go_wp2_with fail
      refine H1.out.mono ?_
      rintro e w' ⟨rfl, rfl⟩
      go_wp2_with fail
      refine H2.out.mono ?_
      rintro e w' ⟨rfl, rfl⟩
      go_wp2_with fail
      refine HAL.out.mono ?_
      rintro e w2 ⟨v2, rfl, hr2, hx2⟩
      obtain ⟨a2, c2, e2, _⟩ := RowP.len_of' hr2
      subst e2
      have HIX := Lib.hid (rIdx (RowP.rd hr2) (by omega) id)
      rw [HP.out] at HIX
      have HX2 := Lib.hid hx2
      clear hr2 hx2
      go_wp2_with (go_at_call 119; refine HIX.out.mono ?_; rintro e w' ⟨rfl, rfl⟩)
      go_ret
      exact ⟨rfl, HX2.out⟩
set_option maxRecDepth 100000 in
set_option maxHeartbeats 2000000 in
theorem rPath {d : Nat → Nat} (hw : WF T d) : ∀ (id : Int) (w0 u : World), RAt w0 rb T → Ext w0 u → Calls Try.prog 70 #[.pointer (some ⟨rb, 0, none⟩), .int .i64 id] u (RRow 3 1 (T.pathOf id).length ((T.pathOf id).map (Value.int .i64)) u) := by
  refine hw.down _ (fun id h w0 u hR0 hxu => ?_) (fun id h ih w0 u hR0 hxu => ?_)
  · have hR := hR0.ext hxu
    have e : T.pathOf id = [] := by rw [hw.path_step, if_neg h]
    rw [e]
    have hfin : RowIn u u.heap.size 3 1 (.slice none 0 0) ([] : List Int).length (([] : List Int).map (Value.int .i64)) := ⟨rfl, .inl ⟨rfl, none, rfl⟩⟩
    have HF := Lib.hid hfin
    clear hfin
    cases hg : T.get? id with
    | none =>
      have HAS := Lib.hid (rHas_no hR hg)
      clear hR hR0 hxu hg e h
      go_enter Try.func70, Try.ntmps70
      go_wp2_with (go_at_call 105; refine HAS.out.mono ?_; rintro e w' ⟨rfl, rfl⟩)
      go_ret
      exact ⟨_, rfl, HF.out, Ext.refl _⟩
    | some nd =>
      have HAS := Lib.hid (rHas_yes hR hg)
      rw [Tr.up_some hg] at h
      obtain ⟨i, rfl, hi, hl⟩ := nodes_some hg
      obtain ⟨g, cap, aa, ac, ka, kc, c, c0, c1, c2, _⟩ := hR.one hi
      replace c2 : u.cell? ⟨g, i * 6 + 2, none⟩ = some (.int .i64 nd.parent) := c2
      have h2 : nd.parent < 0 := by omega
      clear hR hR0 hxu hg e h hi c0 c1
      go_enter Try.func70, Try.ntmps70
      go_wp2_with (go_at_call 105; refine HAS.out.mono ?_; rintro e w' ⟨rfl, rfl⟩)
      go_ret
      exact ⟨_, rfl, HF.out, Ext.refl _⟩
  · have hR := hR0.ext hxu
    obtain ⟨nd, hg⟩ : ∃ nd, T.get? id = some nd := by
      cases hg : T.get? id with
      | some nd => exact ⟨nd, rfl⟩
      | none => rw [Tr.up_none hg] at h; omega
    have hst : T.pathOf id = T.pathOf (T.up id) ++ [T.idx id] := by rw [hw.path_step, if_pos h]
    have h41 := hw.path_41 (T.up id)
    have HAS := Lib.hid (rHas_yes hR hg)
    have hrec := ih u u hR (Ext.refl u)
    have hup := Tr.up_some hg
    rw [hup] at hrec hst h41 h
    have HIX := Lib.hid (fun (u' : World) (x : Ext u u') => rIndex (hR.ext x) hw id)
    obtain ⟨i, rfl, hi, hl⟩ := nodes_some hg
    obtain ⟨g, cap, aa, ac, ka, kc, c, c0, c1, c2, _⟩ := hR.one hi
    replace c2 : u.cell? ⟨g, i * 6 + 2, none⟩ = some (.int .i64 nd.parent) := c2
    obtain ⟨z, hz⟩ : ∃ z, T.idx (i : Int) = z := ⟨_, rfl⟩
    rw [hz] at hst HIX
    obtain ⟨l, hll⟩ : ∃ l, T.pathOf nd.parent = l := ⟨_, rfl⟩
    rw [hll] at hst hrec h41
    rw [hst]
    have HREC := Lib.hid hrec
    clear hR hR0 hxu hg hi c0 c1 hst hrec ih hup hz hll
    go_enter Try.func70, Try.ntmps70
    go_wp2_with fail
    refine HAS.out.mono ?_
    rintro e w' ⟨rfl, rfl⟩
    go_wp2_with fail
    refine HREC.out.mono ?_
    rintro e w2 ⟨v2, rfl, hr2, hx2⟩
    obtain ⟨a2, c3, e2, _⟩ := RowP.len_of' hr2
    subst e2
    have HR2 := Lib.hid hr2
    have HX2 := Lib.hid hx2
    replace c := hx2.cell c
    clear hr2 hx2
    go_wp2_with fail
    refine (HIX.out _ HX2.out).mono ?_
    rintro e w3 ⟨rfl, hx3⟩
    have x4 := hx3.alloc (.cells #[.int .i64 z] 3)
    obtain ⟨v5, w5, row, hrun, hra, hga, hrow⟩ := append_ints (w := w3.alloc (.cells #[.int .i64 z] 3)) (B := u.heap.size) (v := .slice a2 l.length c3) (n := l.length) (RowP.ext HR2.out x4) (u := .slice (some ⟨w3.heap.size, 0, none⟩) 1 1) (m := 1) (ys := [.int .i64 z]) ⟨rfl, _, _, rfl, Nat.le_refl _, (fun h => by cases h), fun a ha => by cases ha; exact cell_one_new' (cellOf (heap_alloc_new w3 _) rfl)⟩ (by omega) (by simp [Value.oneCell'])
    obtain ⟨a5, c5, e5, _⟩ := hra.rd.len_of
    subst e5
    have HRUN := Lib.hid (AppI.mk hrun)
    have X5 := Lib.hid ((HX2.out.trans x4).grown hga hrow)
    have hs4 := (HX2.out.trans x4).size
    have HR5 := Lib.hid (RowP.imp hra (q := fun b => u.heap.size ≤ b) fun b _ hb => by rcases hb with h | h; exact h; exact Nat.le_trans hs4 h)
    clear hra hrun hga hrow x4 hx3 hs4
    go_wp2_with (at_builtin; refine wpList_app rfl _ _ rfl rfl _ _ rfl rfl _ _ HRUN.out ?_)
    go_ret
    exact ⟨_, rfl, by unfold RowIn; simpa using HR5.out, X5.out⟩
end
end Go.Proofs.Ytiglflmjidikpaa
