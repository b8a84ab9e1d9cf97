/- quillworkref09, plain laws: the nodes beside each in the order of its root; what lies within; no program in sight.
quillworkref09: All, index, Beside, Behind. No conditions beside a tree's own.
quillworkref09: Chars, Length, May, Within, Path. No conditions beside a tree's own.
quillworkref09: Find. No conditions beside a tree's own, and at most 60000 numbers. -/
import Derived.Test.YtiglflmjidikpaaLawE
import Derived.Test.YtiglflmjidikpaaOrdI
namespace Go.Proofs.Ytiglflmjidikpaa
open Go Go.RowKit Go.BigFrame
set_option linter.unusedVariables false
set_option linter.unusedSimpArgs false

section
variable {T : Tr} {d : Nat → Nat}
theorem WF.pre_self (hw : WF T d) (id : Int) : id ∈ T.pre id := by rw [hw.pre_step]; exact List.mem_cons_self
theorem WF.pre_kid (hw : WF T d) {id k : Int} (hk : k ∈ T.kidsOf id) : ∀ x ∈ T.pre k, x ∈ T.pre id := by
  intro x hx
  rw [hw.pre_step id]
  exact List.mem_cons_of_mem _ (List.mem_flatMap.2 ⟨k, hk, hx⟩)
theorem WF.pre_trans (hw : WF T d) : ∀ o, ∀ y ∈ T.pre o, ∀ x ∈ T.pre y, x ∈ T.pre o := by
  refine hw.rise _ fun o ih y hy x hx => ?_
  rw [hw.pre_step o] at hy
  rcases List.mem_cons.1 hy with rfl | hy
  · exact hx
  · obtain ⟨k, hk, hyk⟩ := List.mem_flatMap.1 hy
    exact hw.pre_kid hk x (ih k hk y hyk x hx)
theorem WF.up_kid (hw : WF T d) {id : Int} (h : 0 ≤ T.up id) : id ∈ T.kidsOf (T.up id) := by
  obtain ⟨j, _, h2, _⟩ := hw.idx_kid h
  exact List.mem_of_getElem? h2
theorem WF.root_is (hw : WF T d) : ∀ id, (∃ nd, T.get? id = some nd) → (∃ rd, T.get? (T.rootOf id) = some rd) ∧ ¬ 0 ≤ T.up (T.rootOf id) ∧ id ∈ T.pre (T.rootOf id) := by
  refine hw.down _ (fun id h hg => ?_) (fun id h ih hg => ?_)
  · rw [hw.root_step, if_neg h]
    exact ⟨hg, h, hw.pre_self id⟩
  · rw [hw.root_step, if_pos h]
    obtain ⟨h1, h2, h3⟩ := ih (hw.up_get h)
    exact ⟨h1, h2, hw.pre_trans _ _ h3 _ (hw.pre_kid (hw.up_kid h) _ (hw.pre_self id))⟩
theorem idx_at' {l : List Int} {x : Int} (h : x ∈ l) : l[l.idxOf x]? = some x := by
  have hlt := List.idxOf_lt_length_iff.2 h
  rw [List.getElem?_eq_getElem hlt]
  simp
theorem WF.behind_root (hw : WF T d) {r : Int} (h : ¬ 0 ≤ T.up r) : T.behind r = -1 := by rw [hw.behind_step, if_neg h]
/-- the next one in the order of the root -/
theorem WF.next_row (hw : WF T d) {id : Int} (hg : ∃ nd, T.get? id = some nd) : T.next id = ((T.pre (T.rootOf id))[(T.pre (T.rootOf id)).idxOf id + 1]?).getD (-1) := by
  obtain ⟨h1, h2, h3⟩ := hw.root_is id hg
  rw [hw.chain (T.rootOf id) _ id (idx_at' h3), hw.behind_root h2]
theorem WF.prev_row (hw : WF T d) {id : Int} (hg : ∃ nd, T.get? id = some nd) : T.prev id = if (T.pre (T.rootOf id)).idxOf id = 0 then -1 else ((T.pre (T.rootOf id))[(T.pre (T.rootOf id)).idxOf id - 1]?).getD (-1) := by
  obtain ⟨h1, h2, h3⟩ := hw.root_is id hg
  have hx := idx_at' h3
  split
  · rename_i h0
    rw [h0] at hx
    have hh := hw.pre_head (T.rootOf id)
    rw [List.head?_eq_getElem?, hx] at hh
    injection hh with hh
    rw [← hh] at h2
    have hi : T.idx id ≤ 0 := by
      have hup := hw.up_neg h2
      unfold Tr.idx
      unfold Tr.up at hup
      obtain ⟨nd, hnd⟩ := hg
      rw [hnd] at hup ⊢
      simp only at hup ⊢
      rw [hup, Tr.get_neg T (show (-1 : Int) < 0 by omega)]
      show (-1 : Int) ≤ 0
      omega
    unfold Tr.prev
    rw [if_pos hi]
    exact hw.up_neg h2
  · rename_i h0
    obtain ⟨i, hi⟩ : ∃ i, (T.pre (T.rootOf id)).idxOf id = i + 1 := ⟨_, (Nat.succ_pred_eq_of_pos (Nat.pos_of_ne_zero h0)).symm⟩
    rw [hi] at hx ⊢
    have hlt := (List.getElem?_eq_some_iff.1 hx).1
    obtain ⟨y, hy⟩ : ∃ y, (T.pre (T.rootOf id))[i]? = some y := ⟨_, List.getElem?_eq_getElem (by omega)⟩
    have hn := hw.chain (T.rootOf id) i y hy
    rw [hx] at hn
    have hn2 : T.next y = id := hn
    have := hw.prev_next (x := y) (by rw [hn2]; exact get_nonneg hg)
    rw [hn2] at this
    rw [this, Nat.add_sub_cancel, hy]
    rfl
theorem WF.seg_row (hw : WF T d) {id : Int} (hg : ∃ nd, T.get? id = some nd) : ∀ j, j < (T.pre id).length → (T.pre (T.rootOf id))[(T.pre (T.rootOf id)).idxOf id + j]? = (T.pre id)[j]? := by
  obtain ⟨h1, h2, h3⟩ := hw.root_is id hg
  intro j
  induction j with
  | zero =>
    intro hj
    rw [Nat.add_zero, idx_at' h3, ← List.head?_eq_getElem?, hw.pre_head]
  | succ j ih =>
    intro hj
    have e := ih (by omega)
    obtain ⟨y, hy⟩ : ∃ y, (T.pre id)[j]? = some y := ⟨_, List.getElem?_eq_getElem (by omega)⟩
    obtain ⟨z, hz⟩ : ∃ z, (T.pre id)[j + 1]? = some z := ⟨_, List.getElem?_eq_getElem hj⟩
    rw [hy] at e
    have n1 := hw.chain id j y hy
    have n2 := hw.chain (T.rootOf id) _ y e
    rw [hz] at n1
    rw [n1, hw.behind_root h2] at n2
    have hz0 := get_nonneg (hw.pre_in id hg z (List.mem_of_getElem? hz)).1
    rw [hz, ← Nat.add_assoc]
    cases hc : (T.pre (T.rootOf id))[(T.pre (T.rootOf id)).idxOf id + j + 1]? with
    | none =>
      rw [hc] at n2
      have : z = -1 := n2
      omega
    | some u =>
      rw [hc] at n2
      have : z = u := n2
      rw [this]
theorem WF.behind_row (hw : WF T d) {id : Int} (hg : ∃ nd, T.get? id = some nd) : T.behind id = ((T.pre (T.rootOf id))[(T.pre (T.rootOf id)).idxOf id + (T.pre id).length]?).getD (-1) := by
  obtain ⟨h1, h2, h3⟩ := hw.root_is id hg
  have hpos : 0 < (T.pre id).length := List.length_pos_of_mem (hw.pre_self id)
  obtain ⟨m, hm⟩ : ∃ m, (T.pre id).length = m + 1 := ⟨_, (Nat.succ_pred_eq_of_pos hpos).symm⟩
  obtain ⟨y, hy⟩ : ∃ y, (T.pre id)[m]? = some y := ⟨_, List.getElem?_eq_getElem (by omega)⟩
  have e := hw.seg_row hg m (by omega)
  rw [hy] at e
  have n1 := hw.chain id m y hy
  have n2 := hw.chain (T.rootOf id) _ y e
  have hno : (T.pre id)[m + 1]? = none := List.getElem?_eq_none (by omega)
  rw [hno] at n1
  rw [n1, hw.behind_root h2] at n2
  rw [hm, ← Nat.add_assoc]
  exact n2
/-- a place in a row, or none -/
def besideZ (l : List Int) (k : Int) : Int := if k < 0 then -1 else (l[k.toNat]?).getD (-1)
def Tr.beside (T : Tr) (id by' : Int) : Int := match T.get? id with
  | none => -1
  | some _ => besideZ (T.pre (T.rootOf id)) (((T.pre (T.rootOf id)).idxOf id : Int) + by')
theorem WF.next_beside (hw : WF T d) (id : Int) : T.beside id 1 = T.next id := by
  unfold Tr.beside
  cases hg : T.get? id with
  | none =>
    show (-1 : Int) = _
    unfold Tr.next Tr.kidsOf
    rw [hg]
    show (-1 : Int) = T.behind id
    rw [hw.behind_root (by rw [Tr.up_none hg]; omega)]
  | some nd =>
    show besideZ _ _ = _
    unfold besideZ
    rw [if_neg (by omega), hw.next_row ⟨nd, hg⟩]
    congr 2
theorem WF.prev_beside (hw : WF T d) (id : Int) : T.beside id (-1) = T.prev id := by
  unfold Tr.beside
  cases hg : T.get? id with
  | none =>
    show (-1 : Int) = _
    have hi : T.idx id ≤ 0 := by
      unfold Tr.idx
      rw [hg]
      show (-1 : Int) ≤ 0
      omega
    unfold Tr.prev
    rw [if_pos hi, Tr.up_none hg]
  | some nd =>
    show besideZ _ _ = _
    unfold besideZ
    rw [hw.prev_row ⟨nd, hg⟩]
    by_cases h0 : (T.pre (T.rootOf id)).idxOf id = 0
    · rw [if_pos (by omega), if_pos h0]
    · rw [if_neg (by omega), if_neg h0]
      congr 2
      omega
theorem WF.behind_beside (hw : WF T d) (id : Int) : T.beside id (T.allOf id).length = T.behind id := by
  unfold Tr.beside Tr.allOf
  cases hg : T.get? id with
  | none => show (-1 : Int) = _; rw [hw.behind_root (by rw [Tr.up_none hg]; omega)]
  | some nd =>
    show besideZ _ (_ + ((T.pre id).length : Int)) = _
    unfold besideZ
    rw [if_neg (by omega), hw.behind_row ⟨nd, hg⟩]
    congr 2
theorem WF.win_other (hw : WF T d) {o : Int} (ho : T.get? o = none) : ∀ id, T.win id o = false := by
  have hne : ∀ id nd, T.get? id = some nd → decide (id = o) = false := fun id nd hg => by
    rw [decide_eq_false_iff_not]
    intro e
    rw [e, ho] at hg
    cases hg
  refine hw.down _ (fun id h => ?_) (fun id h ih => ?_)
  · cases hg : T.get? id with
    | none => exact hw.win_none hg
    | some nd => rw [hw.win_step hg, hne id nd hg, hw.win_none (Tr.get_neg T (by omega))]; rfl
  · cases hg : T.get? id with
    | none => exact hw.win_none hg
    | some nd => rw [hw.win_step hg, hne id nd hg, ih]; rfl
theorem WF.win_pre (hw : WF T d) {o : Int} (ho : ∃ od, T.get? o = some od) : ∀ id, (∃ nd, T.get? id = some nd) → (T.win id o = true ↔ id ∈ T.pre o) := by
  obtain ⟨od, ho⟩ := ho
  intro id hg
  constructor
  · revert hg
    revert id
    refine hw.down _ (fun id h hg hwn => ?_) (fun id h ih hg hwn => ?_)
    · obtain ⟨nd, hg⟩ := hg
      rw [hw.win_step hg, hw.win_none (Tr.get_neg T (show T.up id < 0 by omega)), Bool.or_false, decide_eq_true_eq] at hwn
      rw [hwn]; exact hw.pre_self o
    · obtain ⟨nd, hg⟩ := hg
      rw [hw.win_step hg, Bool.or_eq_true, decide_eq_true_eq] at hwn
      rcases hwn with e | e
      · rw [e]; exact hw.pre_self o
      · exact hw.pre_trans _ _ (ih (hw.up_get h) e) _ (hw.pre_kid (hw.up_kid h) _ (hw.pre_self id))
  · intro hm
    obtain ⟨_, h2, q, h3⟩ := hw.pre_in o ⟨od, ho⟩ id hm
    exact (hw.win_iff ho id hg).2 ⟨q, h3, h2⟩
/-- within, as the document says it -/
theorem WF.win_says (hw : WF T d) (id o : Int) : T.win id o = ((T.get? id).isSome && ((T.get? o).isSome && decide (0 ≤ posOf (T.allOf o) id))) := by
  cases hg : T.get? id with
  | none => rw [hw.win_none hg]; rfl
  | some nd =>
    cases ho : T.get? o with
    | none => rw [hw.win_other ho]; rfl
    | some od =>
      show T.win id o = decide _
      have hall : T.allOf o = T.pre o := by unfold Tr.allOf; rw [ho]
      rw [hall]
      have h := hw.win_pre ⟨od, ho⟩ id ⟨nd, hg⟩
      cases hwn : T.win id o with
      | true =>
        have hm := h.1 hwn
        unfold posOf
        rw [if_pos hm]
        symm
        exact decide_eq_true (Int.natCast_nonneg _)
      | false =>
        have hm : id ∉ T.pre o := fun hm => by rw [h.2 hm] at hwn; cases hwn
        unfold posOf
        rw [if_neg hm]
        rfl
end
end Go.Proofs.Ytiglflmjidikpaa

namespace Go.Proofs.Ytiglflmjidikpaa
open Go Go.RowKit Go.BigFrame
set_option linter.unusedVariables false
set_option linter.unusedSimpArgs false

theorem flat_take {α β : Type} (f : α → List β) (l : List α) (k : Nat) : ((l.take k).flatMap f).length ≤ (l.flatMap f).length := by
  have h : l.flatMap f = (l.take k).flatMap f ++ (l.drop k).flatMap f := by rw [← List.flatMap_append, List.take_append_drop]
  rw [h, List.length_append]
  omega
theorem flat_snoc {α β : Type} (f : α → List β) {l : List α} {k : Nat} {x : α} (h : l[k]? = some x) : (l.take (k + 1)).flatMap f = (l.take k).flatMap f ++ f x := by
  obtain ⟨hlt, rfl⟩ := List.getElem?_eq_some_iff.1 h
  rw [List.take_succ_eq_append_getElem hlt, List.flatMap_append]
  simp
section
variable {w : World} {rb : Nat} {T : Tr}
theorem rAll_no (h : RAt w rb T) {id : Int} (hg : T.get? id = none) : Calls Try.prog 72 #[.pointer (some ⟨rb, 0, none⟩), .int .i64 id] w (RVal (.slice none 0 0) w) := by
  have HAS := Lib.hid (rHas_no h hg)
  clear h hg
  go_enter Try.func72, Try.ntmps72
  go_wp2_with (go_at_call 105; refine HAS.out.mono ?_; rintro e w' ⟨rfl, rfl⟩)
  go_ret
  exact ⟨rfl, Ext.refl _⟩
set_option maxRecDepth 100000 in
set_option maxHeartbeats 2000000 in
theorem rAll_some {d : Nat → Nat} (hw : WF T d) : ∀ id : Int, ∀ nd, T.get? id = some nd → ∀ (w0 u : World), RAt w0 rb T → Ext w0 u → Calls Try.prog 72 #[.pointer (some ⟨rb, 0, none⟩), .int .i64 id] u (RRow 3 1 (T.pre id).length ((T.pre id).map (Value.int .i64)) u) := by
  refine hw.rise _ fun id ih nd hg w0 u hR0 hxu => ?_
  have hR := hR0.ext hxu
  have HAS := Lib.hid (rHas_yes hR hg)
  have hp := hw.pre_step id
  have h2000 := hw.pre_2000 ⟨nd, hg⟩
  have hk : T.kidsOf id = nd.kids := by unfold Tr.kidsOf; rw [hg]
  rw [hk] at ih hp
  obtain ⟨i, rfl, hi, hl⟩ := nodes_some hg
  obtain ⟨g, cap, aa, ac, ka, kc, c, c0, c1, c2, c3, c4, c5, _, hrk⟩ := hR.one hi
  replace c5 : u.cell? ⟨g, i * 6 + 5, none⟩ = some (.slice ka nd.kids.length kc) := c5
  replace hrk : RowRd u 1 (.slice ka nd.kids.length kc) nd.kids.length (nd.kids.map (Value.int .i64)) := hrk
  obtain ⟨_, _, _, e, hkc, hkn, hkr⟩ := hrk
  cases e
  have hkl := hw.kids_len hi
  have HKN := Lib.hid hkn
  have HKR := Lib.hid hkr
  have IH := Lib.hid ih
  have HW := Lib.hid hw
  have HI := Lib.hid hi
  have HP := Lib.hid hp
  have H2 := Lib.hid h2000
  have HR := Lib.hid hR
  clear hkn hkr ih hw hi hg hk hR hR0 c0 c1 c2 c3 c4 hp h2000
  go_enter Try.func72, Try.ntmps72
  go_wp2_with (go_at_call 105; refine HAS.out.mono ?_; rintro e w' ⟨rfl, rfl⟩)
  have x1 := (Ext.refl u).alloc (.cells #[.int .i64 i] 3)
  have b1 := heap_alloc_new u (.cells #[.int .i64 i] 3)
  obtain ⟨u1, hu1⟩ : ∃ u1 : World, u1 = u.alloc (.cells #[.int .i64 i] 3) := ⟨_, rfl⟩
  rw [← hu1] at x1 b1
  rw [← hu1]
  clear hu1
  have hr1 : RowP u1 (fun b => u.heap.size ≤ b) 3 1 (.slice (some ⟨u.heap.size, 0, none⟩) 1 1) 1 [Value.int .i64 i] := ⟨rfl, .inr ⟨u.heap.size, 1, _, rfl, Nat.le_refl _, b1, Nat.le_refl _, by unfold maxLen; omega, rfl, rfl⟩⟩
  have HR1 := Lib.hid hr1
  have X1 := Lib.hid x1
  clear hr1 b1 x1
  go_loopw [5, 6] (fun v n wr => ∃ (k z : Nat) (xs : List Value), k ≤ nd.kids.length ∧ n = .int .i64 k ∧ Ext u wr ∧ RowP wr (fun b => u.heap.size ≤ b) 3 1 v z xs ∧ Hid (z = 1 + ((nd.kids.take k).flatMap T.pre).length ∧ xs = ((i : Int) :: (nd.kids.take k).flatMap T.pre).map (Value.int .i64))) (fun _ n _ => nd.kids.length - (intOf n).toNat)
  case atStart => exact ⟨0, 1, _, Nat.zero_le _, rfl, X1.out, HR1.out, Lib.hid ⟨by simp, by simp⟩⟩
  case round =>
    obtain ⟨k, z, xs, hk, rfl, hxr, hrow, hzx⟩ := hrel
    obtain ⟨va, vc, hve, _⟩ := hrow.rd.len_of
    subst hve
    have HROW := Lib.hid hrow
    have HXR := Lib.hid hxr
    replace c := hxr.cell c
    replace c5 := hxr.cell c5
    clear hrow HR1
    by_cases hlt : k < nd.kids.length
    · obtain ⟨x, hx⟩ : ∃ x, nd.kids[k]? = some x := ⟨nd.kids[k], by simp [hlt]⟩
      cases ka with
      | none => exact absurd (HKN.out rfl).1 (by omega)
      | some a =>
        obtain ⟨b, off, sp⟩ := a
        have cx := hxr.cells _ _ (HKR.out _ rfl k (.int .i64 x) (by rw [List.getElem?_map, hx]; rfl))
        obtain ⟨j, kd, h3, h4, h5, h6⟩ := HW.out.kid HI.out hx
        have hrec := IH.out x (List.mem_of_getElem? hx) kd (by rw [h3]; exact Tr.get_of h4) u wr HR.out hxr
        have hfs := flat_snoc T.pre hx
        have hft := flat_take T.pre nd.kids (k + 1)
        obtain ⟨m, hm⟩ : ∃ m, (T.pre x).length = m := ⟨_, rfl⟩
        have hlen : z + m ≤ 2000 := by
          have h1 := HP.out
          have h0 := hzx.out.1
          have h2 := H2.out
          rw [h1, List.length_cons] at h2
          rw [hfs, List.length_append] at hft
          omega
        rw [hm] at hrec
        have HM := Lib.hid hm
        clear hm
        have HFS := Lib.hid hfs
        have HREC := Lib.hid hrec
        clear hx h3 h4 h5 h6 hrec hfs hft hxr
        go_wp2_with fail
        refine HREC.out.mono ?_
        rintro e w2 ⟨v2, rfl, hr2, hx2⟩
        obtain ⟨a2, c2, e2, _⟩ := RowP.len_of' hr2
        subst e2
        obtain ⟨v3, w3, row, hrun, hra, hga, hrow3⟩ := append_ints (w := w2) (B := u.heap.size) (RowP.ext HROW.out hx2) (RowP.rd hr2) (by omega) (fun z hz => ints_one _ z hz)
        obtain ⟨a3, c3, e3, _⟩ := hra.rd.len_of
        subst e3
        have HRUN := Lib.hid (AppI.mk hrun)
        have X3 := Lib.hid ((HXR.out.trans hx2).grown hga hrow3)
        have hx2s := (HXR.out.trans hx2).size
        have HR3 := Lib.hid (RowP.imp hra (q := fun b => u.heap.size ≤ b) fun b _ hb => by rcases hb with h | h; exact h; exact Nat.le_trans hx2s h)
        clear hra hrun hga hrow3 hr2 hx2 hx2s
        go_wp2_with (at_builtin; refine wpList_app rfl _ _ rfl rfl _ _ rfl rfl _ _ HRUN.out ?_)
        go_roundw
        case rel => exact ⟨k + 1, z + m, _, by omega, by go_num, X3.out, HR3.out, Lib.hid ⟨by rw [HFS.out, List.length_append, ← Nat.add_assoc, HM.out, hzx.out.1], by rw [HFS.out, ← List.cons_append, List.map_append, hzx.out.2]⟩⟩
        case measure => simp [intOf]; omega
    · obtain rfl : k = nd.kids.length := by omega
      go_wp2_with fail
      go_ret
      have h := HROW.out
      obtain ⟨h1, h2⟩ := hzx.out
      rw [List.take_length] at h1 h2
      have e : (T.pre (i : Int)).length = z := by rw [HP.out, List.length_cons, h1]; omega
      rw [h2, ← HP.out, ← e] at h
      refine ⟨_, rfl, ?_, HXR.out⟩
      rw [← e]
      exact h
theorem rAll (h : RAt w rb T) {d : Nat → Nat} (hw : WF T d) (id : Int) : Calls Try.prog 72 #[.pointer (some ⟨rb, 0, none⟩), .int .i64 id] w (RRow 3 1 (T.allOf id).length ((T.allOf id).map (Value.int .i64)) w) := by
  unfold Tr.allOf
  cases hg : T.get? id with
  | none => exact (rAll_no h hg).mono fun e w' k => ⟨_, k.1, ⟨rfl, .inl ⟨rfl, none, rfl⟩⟩, k.2⟩
  | some nd => exact rAll_some hw id nd hg w w h (Ext.refl w)
set_option maxRecDepth 100000 in
set_option maxHeartbeats 1000000 in
theorem rIdx {v : Value} {l : List Int} (h : RowRd w 1 v l.length (l.map (Value.int .i64))) (hl : l.length ≤ 60000) (x : Int) : Calls Try.prog 119 #[v, .int .i64 x] w (RSame (.int .i64 (posOf l x)) w) := by
  obtain ⟨_, ao, cap, rfl, hc, hn, hr⟩ := h
  have HN := Lib.hid hn
  have HR := Lib.hid hr
  clear hn hr
  go_enter Try.func119, Try.ntmps119
  go_wp2_with fail
  go_loopw [5] (fun n wr => ∃ k : Nat, wr = w ∧ k ≤ l.length ∧ n = .int .i64 k ∧ Hid (x ∉ l.take k)) (fun n _ => l.length - (intOf n).toNat)
  case atStart => exact ⟨0, rfl, Nat.zero_le _, rfl, Lib.hid (by simp)⟩
  case round =>
    obtain ⟨k, rfl, hk, rfl, hno⟩ := hrel
    by_cases hlt : k < l.length
    · obtain ⟨y, hy⟩ : ∃ y, l[k]? = some y := ⟨l[k], by simp [hlt]⟩
      cases ao with
      | none => exact absurd (HN.out rfl).1 (by omega)
      | some a =>
        obtain ⟨b, off, sp⟩ := a
        have cy := HR.out _ rfl k (.int .i64 y) (by rw [List.getElem?_map, hy]; rfl)
        have HY := Lib.hid hy
        clear hy
        cases hxy : (y == x) with
        | true =>
          have hp : posOf l x = k := by
            have : y = x := by simpa using hxy
            subst this
            exact posOf_at HY.out hno.out
          go_wp2_with fail
          go_ret
          exact ⟨by rw [hp]; rfl, rfl⟩
        | false =>
          have HNX := Lib.hid (show x ∉ l.take (k + 1) from fun hm => by
            obtain ⟨hlt', he⟩ := List.getElem?_eq_some_iff.1 HY.out
            rw [List.take_succ_eq_append_getElem hlt', he, List.mem_append, List.mem_singleton] at hm
            rcases hm with hm | hm
            · exact hno.out hm
            · rw [hm] at hxy; simp at hxy)
          go_wp2_with fail
          go_roundw
          case rel => exact ⟨k + 1, trivial, by omega, by go_num, HNX⟩
          case measure => simp [intOf]; omega
    · obtain rfl : k = l.length := by omega
      have hp : posOf l x = -1 := by
        have := hno.out
        rw [List.take_length] at this
        unfold posOf
        rw [if_neg this]
      go_wp2_with fail
      go_ret
      exact ⟨by rw [hp]; rfl, rfl⟩
theorem posOf_idx {l : List Int} {x : Int} (h : x ∈ l) : posOf l x = (l.idxOf x : Int) := by unfold posOf; rw [if_pos h]
set_option maxRecDepth 100000 in
set_option maxHeartbeats 1000000 in
theorem rBeside (h : RAt w rb T) {d : Nat → Nat} (hw : WF T d) (id by' : Int) (hb0 : -60000 ≤ by') (hb1 : by' ≤ 60000) : Calls Try.prog 67 #[.pointer (some ⟨rb, 0, none⟩), .int .i64 id, .int .i64 by'] w (RVal (.int .i64 (T.beside id by')) w) := by
  unfold Tr.beside
  cases hg : T.get? id with
  | none =>
    have HAS := Lib.hid (rHas_no h hg)
    clear h hg
    show Calls _ _ _ _ (RVal (.int .i64 (-1)) w)
    go_enter Try.func67, Try.ntmps67
    go_wp2_with (go_at_call 105; refine HAS.out.mono ?_; rintro e w' ⟨rfl, rfl⟩)
    go_ret
    exact ⟨rfl, Ext.refl _⟩
  | some nd =>
    show Calls _ _ _ _ (RVal (.int .i64 (besideZ (T.pre (T.rootOf id)) (((T.pre (T.rootOf id)).idxOf id : Int) + by'))) w)
    obtain ⟨⟨rd, hrd⟩, _, hm⟩ := hw.root_is id ⟨nd, hg⟩
    have HAS := Lib.hid (rHas_yes h hg)
    have HRT := Lib.hid (rRoot h hw hg)
    have hal := rAll_some hw (T.rootOf id) rd hrd w w h (Ext.refl w)
    have hl2 := hw.pre_2000 ⟨rd, hrd⟩
    have hix := List.idxOf_lt_length_iff.2 hm
    have hpx := posOf_idx hm
    obtain ⟨r, hr⟩ : ∃ r, T.rootOf id = r := ⟨_, rfl⟩
    rw [hr] at hal hl2 hix hpx HRT ⊢
    obtain ⟨l, hl⟩ : ∃ l, T.pre r = l := ⟨_, rfl⟩
    rw [hl] at hal hl2 hix hpx ⊢
    obtain ⟨p, hp⟩ : ∃ p, l.idxOf id = p := ⟨_, rfl⟩
    rw [hp] at hix hpx ⊢
    have HAL := Lib.hid hal
    have HPX := Lib.hid hpx
    clear h hw hg hrd hm hal hr hl hp hpx
    obtain ⟨z, hz⟩ : ∃ z, besideZ l ((p : Int) + by') = z := ⟨_, rfl⟩
    rw [hz]
    unfold besideZ at hz
    have HZ := Lib.hid hz
    clear hz
    go_enter Try.func67, Try.ntmps67
    go_wp2_with fail
    refine HAS.out.mono ?_
    rintro e w' ⟨rfl, rfl⟩
    go_wp2_with fail
    refine HRT.out.mono ?_
    rintro e w' ⟨rfl, rfl⟩
    go_wp2_with fail
    refine HAL.out.mono ?_
    rintro e w2 ⟨v2, rfl, hr2, hx2⟩
    obtain ⟨a2, c2, e2, _⟩ := RowP.len_of' hr2
    subst e2
    have hrd2 := RowP.rd hr2
    have HIX := Lib.hid (rIdx hrd2 (by omega) id)
    rw [HPX.out] at HIX
    obtain ⟨_, _, _, e3, hcc, hnn, hcell⟩ := hrd2
    cases e3
    have HX2 := Lib.hid hx2
    have HCELL := Lib.hid hcell
    have HNN := Lib.hid hnn
    clear hr2 hx2 hcell hnn
    by_cases k0 : (p : Int) + by' < 0
    · have hz1 := HZ.out
      rw [if_pos k0] at hz1
      subst hz1
      go_wp2_with (go_at_call 119; refine HIX.out.mono ?_; rintro e w' ⟨rfl, rfl⟩)
      go_ret
      exact ⟨rfl, HX2.out⟩
    · have hz1 := HZ.out
      rw [if_neg k0] at hz1
      by_cases k1 : (l.length : Int) ≤ (p : Int) + by'
      · rw [List.getElem?_eq_none (by omega)] at hz1
        have hz2 : z = -1 := hz1.symm
        subst hz2
        clear hz1
        go_wp2_with (go_at_call 119; refine HIX.out.mono ?_; rintro e w' ⟨rfl, rfl⟩)
        go_ret
        exact ⟨rfl, HX2.out⟩
      · obtain ⟨q, hq⟩ := Int.eq_ofNat_of_zero_le (show 0 ≤ (p : Int) + by' by omega)
        have hql : q < l.length := by omega
        rw [hq, Int.toNat_natCast, List.getElem?_eq_getElem hql] at hz1
        have hz2 : l[q] = z := hz1
        cases a2 with
        | none => exact absurd (HNN.out rfl).1 (by omega)
        | some ad =>
          obtain ⟨gb, go, gs⟩ := ad
          have cz := HCELL.out _ rfl q (.int .i64 z) (by rw [List.getElem?_map, List.getElem?_eq_getElem hql, hz2]; rfl)
          have hby : by' = (q : Int) - p := by omega
          subst hby
          have hw1 : IntKind.i64.wrap ((p : Int) + ((q : Int) - p)) = q := by rw [IntWalk.i64_in _ (by omega)]; omega
          clear hz1 hz2 hq
          go_wp2_with (go_at_call 119; refine HIX.out.mono ?_; rintro e w' ⟨rfl, rfl⟩)
          go_ret
          exact ⟨rfl, HX2.out⟩
set_option maxRecDepth 100000 in
set_option maxHeartbeats 1000000 in
theorem rBehind (h : RAt w rb T) {d : Nat → Nat} (hw : WF T d) (id : Int) : Calls Try.prog 68 #[.pointer (some ⟨rb, 0, none⟩), .int .i64 id] w (RVal (.int .i64 (T.behind id)) w) := by
  rw [← hw.behind_beside id]
  cases hg : T.get? id with
  | none =>
    have HAS := Lib.hid (rHas_no h hg)
    have e : T.beside id (T.allOf id).length = -1 := by unfold Tr.beside; rw [hg]
    rw [e]
    clear h hg e
    go_enter Try.func68, Try.ntmps68
    go_wp2_with (go_at_call 105; refine HAS.out.mono ?_; rintro e w' ⟨rfl, rfl⟩)
    go_ret
    exact ⟨rfl, Ext.refl _⟩
  | some nd =>
    have HAS := Lib.hid (rHas_yes h hg)
    have HAL := Lib.hid (rAll h hw id)
    have hl2 := allOf_2000 hw id
    have HBE := Lib.hid (fun (u : World) (x : Ext w u) => rBeside (h.ext x) hw id (T.allOf id).length (by omega) (by omega))
    clear h hw hg
    go_enter Try.func68, Try.ntmps68
    go_wp2_with fail
    refine HAS.out.mono ?_
    rintro e w' ⟨rfl, rfl⟩
    go_wp2_with fail
    refine HAL.out.mono ?_
    rintro e w2 ⟨v2, rfl, hr2, hx2⟩
    obtain ⟨a2, c2, e2, _⟩ := RowP.len_of' hr2
    subst e2
    have HX2 := Lib.hid hx2
    clear hr2 hx2
    go_wp2_with (go_at_call 67; refine (HBE.out _ HX2.out).mono ?_; rintro e w3 ⟨rfl, hx3⟩)
    go_ret
    exact ⟨rfl, HX2.out.trans hx3⟩
end
end Go.Proofs.Ytiglflmjidikpaa

namespace Go.Proofs.Ytiglflmjidikpaa
open Go Go.RowKit Go.BigFrame
set_option linter.unusedVariables false
set_option linter.unusedSimpArgs false

set_option maxRecDepth 20000 in
set_option maxHeartbeats 400000 in
theorem rChars (s : ByteArray) (hs : s.size ≤ 100000) (w : World) : Calls Try.prog 120 #[.string s] w (RVal (.int .i64 (runes s)) w) := by
  have h1 := run_runes_of_string (P := Try.prog) w 9 145 21 s Try.underlying9 Try.underlying145 Try.underlying21 (by have := size_runesFrom s s.size 0 #[]; simp at this; omega)
  have e1 : Conv.runesFrom s s.size 0 #[] = ((runeList s s.size 0).map (Value.int .i32)).toArray := by rw [runesFrom_eq]; simp
  have hz : runes s = (runeList s s.size 0).length := rfl
  have HZ := Lib.hid hz
  rw [e1] at h1
  clear hz e1 hs
  generalize runeList s s.size 0 = l at *
  generalize hk : grownCap w (List.map (Value.int IntKind.i32) l).toArray.size 0 21 = K at *
  clear hk
  generalize hC : (List.map (Value.int IntKind.i32) l).toArray ++ Array.replicate (K - (List.map (Value.int IntKind.i32) l).toArray.size) (Value.int IntKind.i32 0) = C at *
  simp only [List.size_toArray, List.length_map] at h1
  clear hC
  have HH1 := Lib.hid h1
  clear h1
  go_enter Try.func120, Try.ntmps120
  go_wp2_with fail
  rw [HH1.out]
  go_wp2_with fail
  go_ret
  exact ⟨by rw [HZ.out]; rfl, ((Ext.refl _).alloc _).drew⟩
section
variable {w : World} {rb : Nat} {T : Tr}
set_option maxHeartbeats 1000000 in
theorem rLength (h : RAt w rb T) {d : Nat → Nat} (hw : WF T d) (hA : AttrsOk T) (id : Int) : Calls Try.prog 69 #[.pointer (some ⟨rb, 0, none⟩), .int .i64 id] w (RVal (.int .i64 (T.lengthOf id)) w) := by
  cases hg : T.get? id with
  | none =>
    have HAS := Lib.hid (rHas_no h hg)
    have e : T.lengthOf id = -1 := by unfold Tr.lengthOf Tr.tagOf; rw [hg]; rfl
    rw [e]
    clear h hg e
    go_enter Try.func69, Try.ntmps69
    go_wp2_with (go_at_call 105; refine HAS.out.mono ?_; rintro e w' ⟨rfl, rfl⟩)
    go_ret
    exact ⟨rfl, Ext.refl _⟩
  | some nd =>
    have HAS := Lib.hid (rHas_yes h hg)
    have e : T.lengthOf id = if nd.tag = 0 then (runes nd.text : Int) else (nd.kids.length : Int) := by
      have ht := (hw.text _ _ (Tr.get_lt hg).2.2).1
      unfold Tr.lengthOf Tr.tagOf Tr.txt Tr.kidsOf
      rw [hg]
      show (if nd.tag = -1 then _ else _) = _
      rw [if_neg (by omega)]
    rw [e]
    obtain ⟨i, rfl, hi, hl⟩ := nodes_some hg
    have hts : nd.text.size ≤ 100000 := by have := (hA i nd hi).2; omega
    have HCH := Lib.hid (rChars nd.text hts w)
    obtain ⟨g, cap, aa, ac, ka, kc, c, c0, c1, c2, c3, c4, c5, _⟩ := h.one hi
    replace c1 : w.cell? ⟨g, i * 6 + 1, none⟩ = some (.int .i64 nd.tag) := c1
    replace c4 : w.cell? ⟨g, i * 6 + 4, none⟩ = some (.string nd.text) := c4
    replace c5 : w.cell? ⟨g, i * 6 + 5, none⟩ = some (.slice ka nd.kids.length kc) := c5
    clear h hw hA hg e hi c0 c2 c3
    by_cases ht : nd.tag = 0
    · rw [if_pos ht]
      have tb : (nd.tag == 0) = true := by simp [ht]
      clear ht
      go_enter Try.func69, Try.ntmps69
      go_wp2_with (first | (go_at_call 105; refine HAS.out.mono ?_; rintro e w' ⟨rfl, rfl⟩) | (go_at_call 120; refine HCH.out.mono ?_; rintro e w2 ⟨rfl, hx⟩))
      go_ret
      exact ⟨rfl, hx⟩
    · rw [if_neg ht]
      have tb : (nd.tag == 0) = false := by simpa using ht
      clear ht
      go_enter Try.func69, Try.ntmps69
      go_wp2_with (go_at_call 105; refine HAS.out.mono ?_; rintro e w' ⟨rfl, rfl⟩)
      go_ret
      exact ⟨rfl, Ext.refl _⟩
set_option maxRecDepth 100000 in
set_option maxHeartbeats 1000000 in
theorem rMay (h : RAt w rb T) {d : Nat → Nat} (hw : WF T d) (hA : AttrsOk T) (id at' : Int) : Calls Try.prog 76 #[.pointer (some ⟨rb, 0, none⟩), .agg #[.int .i64 id, .int .i64 at']] w (RVal (.bool (T.may id at')) w) := by
  have hlb := lengthOf_bound hw hA id
  have HLN := Lib.hid (fun (u : World) (x : Ext w u) => rLength (h.ext x) hw hA id)
  have HHS := Lib.hid (fun (u : World) (x : Ext w u) => RSame.val (rHas (h.ext x) id))
  obtain ⟨z, hz⟩ : ∃ z, T.may id at' = z := ⟨_, rfl⟩
  rw [hz]
  have hnone : T.get? id = none → T.lengthOf id = -1 := fun hg => by unfold Tr.lengthOf Tr.tagOf; rw [hg]; rfl
  obtain ⟨L, hL⟩ : ∃ L, T.lengthOf id = L := ⟨_, rfl⟩
  obtain ⟨hs, hhs⟩ : ∃ hs, (T.get? id).isSome = hs := ⟨_, rfl⟩
  rw [hL] at hlb HLN hnone
  rw [hhs] at HHS
  unfold Tr.may at hz
  rw [hL] at hz
  have hzz : (hs && (decide (0 ≤ at') && decide (at' ≤ L))) = z := by
    cases hg : T.get? id with
    | some nd => rw [← hhs, hg]; exact hz
    | none =>
      rw [← hhs, hg, ← hz, hnone hg]
      show false = _
      by_cases h0 : 0 ≤ at'
      · rw [decide_eq_false (show ¬ at' ≤ -1 by omega), Bool.and_false]
      · rw [decide_eq_false h0]; rfl
  have HZ := Lib.hid hzz
  have xm := (Ext.refl w).alloc (.cells #[.int .i64 id, .int .i64 at'] 73)
  have bm := heap_alloc_new w (.cells #[.int .i64 id, .int .i64 at'] 73)
  clear h hw hA hz hnone hL hhs hzz
  go_enter Try.func76, Try.ntmps76
  go_upto_region 1 with fail
  obtain ⟨B, hB⟩ : ∃ B, B = w.heap.size := ⟨_, rfl⟩
  obtain ⟨wm, hwm⟩ : ∃ wm : World, wm = w.alloc (.cells #[.int .i64 id, .int .i64 at'] 73) := ⟨_, rfl⟩
  rw [← hB] at bm ⊢
  rw [← hwm] at bm xm
  rw [← hwm]
  clear hwm hB
  have e0 := fun u : ExtOf wm => u.ext.cell (cellOf bm (i := 0) (v := .int .i64 id) rfl)
  have e1 := fun u : ExtOf wm => u.ext.cell (cellOf bm (i := 1) (v := .int .i64 at') rfl)
  have XM := Lib.hid xm
  clear bm xm
  have fin : ∀ u : World, Ext wm u → Ext w u := fun u x => XM.out.trans x
  have FIN := Lib.hid fin
  clear fin
  cases hs with
  | false =>
    have hz : z = false := by rw [← HZ.out]; rfl
    subst hz
    refine wp_region_ext (by kernel_rfl) (by kernel_rfl) ?_
    repeat (go_big_quiet_step (first | (go_at_call 105; exact inExt (HHS.out _ (XM.out.trans (ExtOf.ext _)))) | (go_at_call 69; exact inExt (HLN.out _ (XM.out.trans (ExtOf.ext _))))))
    refine wpQuiet_nil ?_
    rintro _ ⟨u, rfl⟩
    go_wp2_with fail
    go_ret
    exact ⟨rfl, FIN.out _ u.ext⟩
  | true =>
    by_cases h0 : 0 ≤ at'
    · by_cases h1 : at' ≤ L
      · have hz : z = true := by rw [← HZ.out, decide_eq_true h0, decide_eq_true h1]; rfl
        subst hz
        refine wp_region_ext (by kernel_rfl) (by kernel_rfl) ?_
        repeat (go_big_quiet_step (first | (go_at_call 105; exact inExt (HHS.out _ (XM.out.trans (ExtOf.ext _)))) | (go_at_call 69; exact inExt (HLN.out _ (XM.out.trans (ExtOf.ext _))))))
        refine wpQuiet_nil ?_
        rintro _ ⟨u, rfl⟩
        go_wp2_with fail
        go_ret
        exact ⟨rfl, FIN.out _ u.ext⟩
      · have hz : z = false := by rw [← HZ.out, decide_eq_false h1, Bool.and_false]; rfl
        subst hz
        refine wp_region_ext (by kernel_rfl) (by kernel_rfl) ?_
        repeat (go_big_quiet_step (first | (go_at_call 105; exact inExt (HHS.out _ (XM.out.trans (ExtOf.ext _)))) | (go_at_call 69; exact inExt (HLN.out _ (XM.out.trans (ExtOf.ext _))))))
        refine wpQuiet_nil ?_
        rintro _ ⟨u, rfl⟩
        go_wp2_with fail
        go_ret
        exact ⟨rfl, FIN.out _ u.ext⟩
    · have hz : z = false := by rw [← HZ.out, decide_eq_false h0]; rfl
      subst hz
      refine wp_region_ext (by kernel_rfl) (by kernel_rfl) ?_
      repeat (go_big_quiet_step (first | (go_at_call 105; exact inExt (HHS.out _ (XM.out.trans (ExtOf.ext _)))) | (go_at_call 69; exact inExt (HLN.out _ (XM.out.trans (ExtOf.ext _))))))
      refine wpQuiet_nil ?_
      rintro _ ⟨u, rfl⟩
      go_wp2_with fail
      go_ret
      exact ⟨rfl, FIN.out _ u.ext⟩
set_option maxRecDepth 100000 in
set_option maxHeartbeats 1000000 in
theorem rWithin9 (h : RAt w rb T) {d : Nat → Nat} (hw : WF T d) (id o : Int) : Calls Try.prog 73 #[.pointer (some ⟨rb, 0, none⟩), .int .i64 id, .int .i64 o] w (RVal (.bool (T.win id o)) w) := by
  rw [hw.win_says id o]
  have H1 := Lib.hid (rHas h id)
  have H2 := Lib.hid (rHas h o)
  have hal := rAll h hw o
  have hl2 := allOf_2000 hw o
  obtain ⟨b1, hb1⟩ : ∃ b1, (T.get? id).isSome = b1 := ⟨_, rfl⟩
  obtain ⟨b2, hb2⟩ : ∃ b2, (T.get? o).isSome = b2 := ⟨_, rfl⟩
  obtain ⟨l, hl⟩ : ∃ l, T.allOf o = l := ⟨_, rfl⟩
  rw [hl] at hal hl2
  rw [hb1] at H1
  rw [hb2] at H2
  rw [hb1, hb2, hl]
  have HAL := Lib.hid hal
  clear h hw hal hb1 hb2 hl
  obtain ⟨p, hp⟩ : ∃ p, posOf l id = p := ⟨_, rfl⟩
  rw [hp]
  have HP := Lib.hid hp
  clear hp
  cases b1 with
  | false =>
    go_enter Try.func73, Try.ntmps73
    go_wp2_with fail
    refine H1.out.mono ?_
    rintro e w' ⟨rfl, rfl⟩
    go_wp2_with fail
    go_ret
    exact ⟨rfl, Ext.refl _⟩
  | true =>
    cases b2 with
    | false =>
      go_enter Try.func73, Try.ntmps73
      go_wp2_with fail
      refine H1.out.mono ?_
      rintro e w' ⟨rfl, rfl⟩
      go_wp2_with fail
      refine H2.out.mono ?_
      rintro e w' ⟨rfl, rfl⟩
      go_wp2_with fail
      go_ret
      exact ⟨rfl, Ext.refl _⟩
    | true =>
      go_enter Try.func73, Try.ntmps73
      go_wp2_with fail
      refine H1.out.mono ?_
      rintro e w' ⟨rfl, rfl⟩
      go_wp2_with fail
      refine H2.out.mono ?_
      rintro e w' ⟨rfl, rfl⟩
      go_wp2_with fail
      refine HAL.out.mono ?_
      rintro e w2 ⟨v2, rfl, hr2, hx2⟩
      obtain ⟨a2, c2, e2, _⟩ := RowP.len_of' hr2
      subst e2
      have HIX := Lib.hid (rIdx (RowP.rd hr2) (by omega) id)
      rw [HP.out] at HIX
      have HX2 := Lib.hid hx2
      clear hr2 hx2
      go_wp2_with (go_at_call 119; refine HIX.out.mono ?_; rintro e w' ⟨rfl, rfl⟩)
      go_ret
      exact ⟨rfl, HX2.out⟩
set_option maxRecDepth 100000 in
set_option maxHeartbeats 2000000 in
theorem rPath {d : Nat → Nat} (hw : WF T d) : ∀ (id : Int) (w0 u : World), RAt w0 rb T → Ext w0 u → Calls Try.prog 70 #[.pointer (some ⟨rb, 0, none⟩), .int .i64 id] u (RRow 3 1 (T.pathOf id).length ((T.pathOf id).map (Value.int .i64)) u) := by
  refine hw.down _ (fun id h w0 u hR0 hxu => ?_) (fun id h ih w0 u hR0 hxu => ?_)
  · have hR := hR0.ext hxu
    have e : T.pathOf id = [] := by rw [hw.path_step, if_neg h]
    rw [e]
    have hfin : RowIn u u.heap.size 3 1 (.slice none 0 0) ([] : List Int).length (([] : List Int).map (Value.int .i64)) := ⟨rfl, .inl ⟨rfl, none, rfl⟩⟩
    have HF := Lib.hid hfin
    clear hfin
    cases hg : T.get? id with
    | none =>
      have HAS := Lib.hid (rHas_no hR hg)
      clear hR hR0 hxu hg e h
      go_enter Try.func70, Try.ntmps70
      go_wp2_with (go_at_call 105; refine HAS.out.mono ?_; rintro e w' ⟨rfl, rfl⟩)
      go_ret
      exact ⟨_, rfl, HF.out, Ext.refl _⟩
    | some nd =>
      have HAS := Lib.hid (rHas_yes hR hg)
      rw [Tr.up_some hg] at h
      obtain ⟨i, rfl, hi, hl⟩ := nodes_some hg
      obtain ⟨g, cap, aa, ac, ka, kc, c, c0, c1, c2, _⟩ := hR.one hi
      replace c2 : u.cell? ⟨g, i * 6 + 2, none⟩ = some (.int .i64 nd.parent) := c2
      have h2 : nd.parent < 0 := by omega
      clear hR hR0 hxu hg e h hi c0 c1
      go_enter Try.func70, Try.ntmps70
      go_wp2_with (go_at_call 105; refine HAS.out.mono ?_; rintro e w' ⟨rfl, rfl⟩)
      go_ret
      exact ⟨_, rfl, HF.out, Ext.refl _⟩
  · have hR := hR0.ext hxu
    obtain ⟨nd, hg⟩ : ∃ nd, T.get? id = some nd := by
      cases hg : T.get? id with
      | some nd => exact ⟨nd, rfl⟩
      | none => rw [Tr.up_none hg] at h; omega
    have hst : T.pathOf id = T.pathOf (T.up id) ++ [T.idx id] := by rw [hw.path_step, if_pos h]
    have h41 := hw.path_41 (T.up id)
    have HAS := Lib.hid (rHas_yes hR hg)
    have hrec := ih u u hR (Ext.refl u)
    have hup := Tr.up_some hg
    rw [hup] at hrec hst h41 h
    have HIX := Lib.hid (fun (u' : World) (x : Ext u u') => rIndex (hR.ext x) hw id)
    obtain ⟨i, rfl, hi, hl⟩ := nodes_some hg
    obtain ⟨g, cap, aa, ac, ka, kc, c, c0, c1, c2, _⟩ := hR.one hi
    replace c2 : u.cell? ⟨g, i * 6 + 2, none⟩ = some (.int .i64 nd.parent) := c2
    obtain ⟨z, hz⟩ : ∃ z, T.idx (i : Int) = z := ⟨_, rfl⟩
    rw [hz] at hst HIX
    obtain ⟨l, hll⟩ : ∃ l, T.pathOf nd.parent = l := ⟨_, rfl⟩
    rw [hll] at hst hrec h41
    rw [hst]
    have HREC := Lib.hid hrec
    clear hR hR0 hxu hg hi c0 c1 hst hrec ih hup hz hll
    go_enter Try.func70, Try.ntmps70
    go_wp2_with fail
    refine HAS.out.mono ?_
    rintro e w' ⟨rfl, rfl⟩
    go_wp2_with fail
    refine HREC.out.mono ?_
    rintro e w2 ⟨v2, rfl, hr2, hx2⟩
    obtain ⟨a2, c3, e2, _⟩ := RowP.len_of' hr2
    subst e2
    have HR2 := Lib.hid hr2
    have HX2 := Lib.hid hx2
    replace c := hx2.cell c
    clear hr2 hx2
    go_wp2_with fail
    refine (HIX.out _ HX2.out).mono ?_
    rintro e w3 ⟨rfl, hx3⟩
    have x4 := hx3.alloc (.cells #[.int .i64 z] 3)
    obtain ⟨v5, w5, row, hrun, hra, hga, hrow⟩ := append_ints (w := w3.alloc (.cells #[.int .i64 z] 3)) (B := u.heap.size) (v := .slice a2 l.length c3) (n := l.length) (RowP.ext HR2.out x4) (u := .slice (some ⟨w3.heap.size, 0, none⟩) 1 1) (m := 1) (ys := [.int .i64 z]) ⟨rfl, _, _, rfl, Nat.le_refl _, (fun h => by cases h), fun a ha => by cases ha; exact cell_one_new' (cellOf (heap_alloc_new w3 _) rfl)⟩ (by omega) (by simp [Value.oneCell'])
    obtain ⟨a5, c5, e5, _⟩ := hra.rd.len_of
    subst e5
    have HRUN := Lib.hid (AppI.mk hrun)
    have X5 := Lib.hid ((HX2.out.trans x4).grown hga hrow)
    have hs4 := (HX2.out.trans x4).size
    have HR5 := Lib.hid (RowP.imp hra (q := fun b => u.heap.size ≤ b) fun b _ hb => by rcases hb with h | h; exact h; exact Nat.le_trans hs4 h)
    clear hra hrun hga hrow x4 hx3 hs4
    go_wp2_with (at_builtin; refine wpList_app rfl _ _ rfl rfl _ _ rfl rfl _ _ HRUN.out ?_)
    go_ret
    exact ⟨_, rfl, by unfold RowIn; simpa using HR5.out, X5.out⟩
end
end Go.Proofs.Ytiglflmjidikpaa

namespace Go.Proofs.Ytiglflmjidikpaa
open Go Go.RowKit Go.BigFrame
set_option linter.unusedVariables false
set_option linter.unusedSimpArgs false

theorem find_none {T : Tr} {r : Int} (h : T.get? r = none) (p : List Int) : T.find r p = none := by unfold Tr.find; rw [h]
theorem find_nil {T : Tr} {r : Int} {nd : Nd} (h : T.get? r = some nd) : T.find r [] = some r := by unfold Tr.find; rw [h]; rfl
theorem find_out {T : Tr} {r i : Int} {nd : Nd} (h : T.get? r = some nd) (hi : i < 0 ∨ (nd.kids.length : Int) ≤ i) (q : List Int) : T.find r (i :: q) = none := by
  have hk : T.kidsOf r = nd.kids := by unfold Tr.kidsOf; rw [h]
  unfold Tr.find
  rw [h]
  show T.walk r (i :: q) = none
  unfold Tr.walk
  rw [hk]
  by_cases h0 : i < 0
  · rw [if_pos h0]
  · rw [if_neg h0, List.getElem?_eq_none (by omega)]
theorem find_in {T : Tr} {d : Nat → Nat} (hw : WF T d) {r : Int} {nd : Nd} (h : T.get? r = some nd) {i : Nat} {k : Int} (hi : nd.kids[i]? = some k) (q : List Int) : T.find r ((i : Int) :: q) = T.find k q := by
  have hk : T.kidsOf r = nd.kids := by unfold Tr.kidsOf; rw [h]
  obtain ⟨_, _, _, kd, hkd⟩ := hw.kid_rank (id := r) (k := k) (by rw [hk]; exact List.mem_of_getElem? hi)
  unfold Tr.find
  rw [h, hkd]
  show T.walk r ((i : Int) :: q) = T.walk k q
  conv => lhs; unfold Tr.walk
  rw [hk, if_neg (by omega), Int.toNat_natCast, hi]
section
variable {rb : Nat} {T : Tr}
set_option maxRecDepth 100000 in
set_option maxHeartbeats 2000000 in
theorem rFind {d : Nat → Nat} (hw : WF T d) : ∀ (p : List Int) (r : Int) (v : Value) (u : World), RAt u rb T → RowRd u 1 v p.length (p.map (Value.int .i64)) → p.length ≤ 60000 → (∀ i ∈ p, -9223372036854775808 ≤ i ∧ i ≤ 9223372036854775807) →
    Calls Try.prog 74 #[.pointer (some ⟨rb, 0, none⟩), .int .i64 r, v] u (RTwo (.int .i64 ((T.find r p).getD 0)) (.bool (T.find r p).isSome) u) := by
  intro p
  induction p with
  | nil =>
    intro r v u hR hp hl hin
    obtain ⟨va, vc, rfl, _⟩ := hp.len_of
    cases hg : T.get? r with
    | none =>
      rw [find_none hg]
      have HAS := Lib.hid (rHas_no hR hg)
      clear hR hp hg hin
      go_enter Try.func74, Try.ntmps74
      go_wp2_with (go_at_call 105; refine HAS.out.mono ?_; rintro e w' ⟨rfl, rfl⟩)
      go_ret2
      exact ⟨rfl, Ext.refl _⟩
    | some nd =>
      rw [find_nil hg]
      have HAS := Lib.hid (rHas_yes hR hg)
      clear hR hp hg hin
      go_enter Try.func74, Try.ntmps74
      go_wp2_with (go_at_call 105; refine HAS.out.mono ?_; rintro e w' ⟨rfl, rfl⟩)
      go_ret2
      exact ⟨rfl, Ext.refl _⟩
  | cons i q ih =>
    intro r v u hR hp hl hin
    obtain ⟨va, vc, rfl, hvc⟩ := hp.len_of
    cases hg : T.get? r with
    | none =>
      rw [find_none hg]
      have HAS := Lib.hid (rHas_no hR hg)
      clear hR hp hg hin
      go_enter Try.func74, Try.ntmps74
      go_wp2_with (go_at_call 105; refine HAS.out.mono ?_; rintro e w' ⟨rfl, rfl⟩)
      go_ret2
      exact ⟨rfl, Ext.refl _⟩
    | some nd =>
      have HAS := Lib.hid (rHas_yes hR hg)
      have hwi := hin i List.mem_cons_self
      obtain ⟨m, hm⟩ : ∃ m, (i :: q).length = m := ⟨_, rfl⟩
      have hmq : m = q.length + 1 := by rw [← hm]; rfl
      cases va with
      | none =>
        obtain ⟨_, _, _, e, _, hn, _⟩ := hp
        cases e
        have := (hn rfl).1
        simp at this
      | some a =>
        obtain ⟨pb, po, ps⟩ := a
        have cp : u.cell? ⟨pb, po, ps⟩ = some (.int .i64 i) := by
          obtain ⟨_, _, _, e, _, _, hc⟩ := hp
          cases e
          have := hc _ rfl 0 (.int .i64 i) rfl
          rwa [Addr.add_zero'] at this
        have hback := RowRd.backIf hp (j := 1) (by simp)
        rw [hm] at hp hvc ⊢
        obtain ⟨j, rfl, hi, hl2⟩ := nodes_some hg
        obtain ⟨g, cap, aa, ac, ka, kc, c, c0, c1, c2, c3, c4, c5, _, hrk⟩ := hR.one hi
        replace c5 : u.cell? ⟨g, j * 6 + 5, none⟩ = some (.slice ka nd.kids.length kc) := c5
        replace hrk : RowRd u 1 (.slice ka nd.kids.length kc) nd.kids.length (nd.kids.map (Value.int .i64)) := hrk
        have hkl := hw.kids_len hi
        by_cases h0 : i < 0
        · rw [find_out hg (.inl h0)]
          clear hR hp hg hin ih hback hrk c0 c1 c2 c3 c4 hi hm
          go_enter Try.func74, Try.ntmps74
          go_wp2_with (go_at_call 105; refine HAS.out.mono ?_; rintro e w' ⟨rfl, rfl⟩)
          go_ret2
          exact ⟨rfl, Ext.refl _⟩
        · by_cases h1 : (nd.kids.length : Int) ≤ i
          · rw [find_out hg (.inr h1)]
            clear hR hp hg hin ih hback hrk c0 c1 c2 c3 c4 hi hm
            go_enter Try.func74, Try.ntmps74
            go_wp2_with (go_at_call 105; refine HAS.out.mono ?_; rintro e w' ⟨rfl, rfl⟩)
            go_ret2
            exact ⟨rfl, Ext.refl _⟩
          · obtain ⟨n, rfl⟩ := Int.eq_ofNat_of_zero_le (show 0 ≤ i by omega)
            have hnl : n < nd.kids.length := by omega
            obtain ⟨k, hk⟩ : ∃ k, nd.kids[n]? = some k := ⟨nd.kids[n], by simp [hnl]⟩
            rw [find_in hw hg hk]
            cases ka with
            | none =>
              obtain ⟨_, _, _, e, _, hn, _⟩ := hrk
              cases e
              have := (hn rfl).1
              omega
            | some ad =>
              obtain ⟨kb, ko, ks⟩ := ad
              have ck : u.cell? (Addr.add ⟨kb, ko, ks⟩ n) = some (.int .i64 k) := by
                obtain ⟨_, _, _, e, _, _, hc⟩ := hrk
                cases e
                exact hc _ rfl n (.int .i64 k) (by rw [List.getElem?_map, hk]; rfl)
              obtain ⟨o, ho⟩ : ∃ o, T.find k q = o := ⟨_, rfl⟩
              have REC := Lib.hid (fun (v' : Value) (u' : World) (x : Ext u u') (hv : RowRd u' 1 v' q.length (q.map (Value.int .i64))) => (ho ▸ ih k v' u' (hR.ext x) hv (by simp at hl; omega) (fun z hz => hin z (List.mem_cons_of_mem _ hz)) : Calls Try.prog 74 #[.pointer (some ⟨rb, 0, none⟩), .int .i64 k, v'] u' (RTwo (.int .i64 (o.getD 0)) (.bool o.isSome) u')))
              rw [ho]
              have HB := Lib.hid (show RowRd u 1 (.slice (if vc = 1 then some ⟨pb, po, ps⟩ else some ⟨pb, po + 1, none⟩) q.length (vc - 1)) q.length (q.map (Value.int .i64)) by rw [add_pos _ _ (by decide)] at hback; exact hback)
              clear hR hp hg hin ih hback hrk c0 c1 c2 c3 c4 hi hm hk ho
              have e1 := fun y : ExtOf u => y.ext.cell c
              have e5 := fun y : ExtOf u => y.ext.cell c5
              have ep := fun y : ExtOf u => y.ext.cells _ _ cp
              have ek := fun y : ExtOf u => y.ext.cells _ _ ck
              go_enter Try.func74, Try.ntmps74
              go_upto_region 7 with (go_at_call 105; refine HAS.out.mono ?_; rintro e w' ⟨rfl, rfl⟩)
              refine wp_region_ext (by kernel_rfl) (by kernel_rfl) ?_
              repeat (go_big_quiet_step ((go_at_call 74; exact inExt (REC.out _ _ (ExtOf.ext _) (HB.out.ext (ExtOf.ext _))))))
              refine wpQuiet_nil ?_
              rintro _ ⟨y, rfl⟩
              go_wp2_with fail
              all_goals
                go_ret2
                exact ⟨rfl, y.ext⟩
end
end Go.Proofs.Ytiglflmjidikpaa
