/- quillworkref09, plain laws: the nodes beside each in the order of its root; what lies within; no program in sight. -/
import Derived.Test.YtiglflmjidikpaaLawE
import Derived.Test.YtiglflmjidikpaaOrdI
namespace Go.Proofs.Ytiglflmjidikpaa
open Go Go.RowKit Go.BigFrame
set_option linter.unusedVariables false
set_option linter.unusedSimpArgs false

section
variable {T : Tr} {d : Nat → Nat}
theorem WF.pre_self (hw : WF T d) (id : Int) : id ∈ T.pre id := by rw [hw.pre_step]; exact List.mem_cons_self
theorem WF.pre_kid (hw : WF T d) {id k : Int} (hk : k ∈ T.kidsOf id) : ∀ x ∈ T.pre k, x ∈ T.pre id := by
  intro x hx
  rw [hw.pre_step id]
  exact List.mem_cons_of_mem _ (List.mem_flatMap.2 ⟨k, hk, hx⟩)
theorem WF.pre_trans (hw : WF T d) : ∀ o, ∀ y ∈ T.pre o, ∀ x ∈ T.pre y, x ∈ T.pre o := by
  refine hw.rise _ fun o ih y hy x hx => ?_
  rw [hw.pre_step o] at hy
  rcases List.mem_cons.1 hy with rfl | hy
  · exact hx
  · obtain ⟨k, hk, hyk⟩ := List.mem_flatMap.1 hy
    exact hw.pre_kid hk x (ih k hk y hyk x hx)
theorem WF.up_kid (hw : WF T d) {id : Int} (h : 0 ≤ T.up id) : id ∈ T.kidsOf (T.up id) := by
  obtain ⟨j, _, h2, _⟩ := hw.idx_kid h
  exact List.mem_of_getElem? h2
theorem WF.root_is (hw : WF T d) : ∀ id, (∃ nd, T.get? id = some nd) → (∃ rd, T.get? (T.rootOf id) = some rd) ∧ ¬ 0 ≤ T.up (T.rootOf id) ∧ id ∈ T.pre (T.rootOf id) := by
  refine hw.down _ (fun id h hg => ?_) (fun id h ih hg => ?_)
  · rw [hw.root_step, if_neg h]
    exact ⟨hg, h, hw.pre_self id⟩
  · rw [hw.root_step, if_pos h]
    obtain ⟨h1, h2, h3⟩ := ih (hw.up_get h)
    exact ⟨h1, h2, hw.pre_trans _ _ h3 _ (hw.pre_kid (hw.up_kid h) _ (hw.pre_self id))⟩
theorem idx_at' {l : List Int} {x : Int} (h : x ∈ l) : l[l.idxOf x]? = some x := by
  have hlt := List.idxOf_lt_length_iff.2 h
  rw [List.getElem?_eq_getElem hlt]
  simp
theorem WF.behind_root (hw : WF T d) {r : Int} (h : ¬ 0 ≤ T.up r) : T.behind r = -1 := by rw [hw.behind_step, if_neg h]
/-- the next one in the order of the root -/
theorem WF.next_row (hw : WF T d) {id : Int} (hg : ∃ nd, T.get? id = some nd) : T.next id = ((T.pre (T.rootOf id))[(T.pre (T.rootOf id)).idxOf id + 1]?).getD (-1) := by
  obtain ⟨h1, h2, h3⟩ := hw.root_is id hg
  rw [hw.chain (T.rootOf id) _ id (idx_at' h3), hw.behind_root h2]
theorem WF.prev_row (hw : WF T d) {id : Int} (hg : ∃ nd, T.get? id = some nd) : T.prev id = if (T.pre (T.rootOf id)).idxOf id = 0 then -1 else ((T.pre (T.rootOf id))[(T.pre (T.rootOf id)).idxOf id - 1]?).getD (-1) := by
  obtain ⟨h1, h2, h3⟩ := hw.root_is id hg
  have hx := idx_at' h3
  split
  · rename_i h0
    rw [h0] at hx
    have hh := hw.pre_head (T.rootOf id)
    rw [List.head?_eq_getElem?, hx] at hh
    injection hh with hh
    rw [← hh] at h2
    have hi : T.idx id ≤ 0 := by
      have hup := hw.up_neg h2
      unfold Tr.idx
      unfold Tr.up at hup
      obtain ⟨nd, hnd⟩ := hg
      rw [hnd] at hup ⊢
      simp only at hup ⊢
      rw [hup, Tr.get_neg T (show (-1 : Int) < 0 by omega)]
      show (-1 : Int) ≤ 0
      omega
    unfold Tr.prev
    rw [if_pos hi]
    exact hw.up_neg h2
  · rename_i h0
    obtain ⟨i, hi⟩ : ∃ i, (T.pre (T.rootOf id)).idxOf id = i + 1 := ⟨_, (Nat.succ_pred_eq_of_pos (Nat.pos_of_ne_zero h0)).symm⟩
    rw [hi] at hx ⊢
    have hlt := (List.getElem?_eq_some_iff.1 hx).1
    obtain ⟨y, hy⟩ : ∃ y, (T.pre (T.rootOf id))[i]? = some y := ⟨_, List.getElem?_eq_getElem (by omega)⟩
    have hn := hw.chain (T.rootOf id) i y hy
    rw [hx] at hn
    have hn2 : T.next y = id := hn
    have := hw.prev_next (x := y) (by rw [hn2]; exact get_nonneg hg)
    rw [hn2] at this
    rw [this, Nat.add_sub_cancel, hy]
    rfl
theorem WF.seg_row (hw : WF T d) {id : Int} (hg : ∃ nd, T.get? id = some nd) : ∀ j, j < (T.pre id).length → (T.pre (T.rootOf id))[(T.pre (T.rootOf id)).idxOf id + j]? = (T.pre id)[j]? := by
  obtain ⟨h1, h2, h3⟩ := hw.root_is id hg
  intro j
  induction j with
  | zero =>
    intro hj
    rw [Nat.add_zero, idx_at' h3, ← List.head?_eq_getElem?, hw.pre_head]
  | succ j ih =>
    intro hj
    have e := ih (by omega)
    obtain ⟨y, hy⟩ : ∃ y, (T.pre id)[j]? = some y := ⟨_, List.getElem?_eq_getElem (by omega)⟩
    obtain ⟨z, hz⟩ : ∃ z, (T.pre id)[j + 1]? = some z := ⟨_, List.getElem?_eq_getElem hj⟩
    rw [hy] at e
    have n1 := hw.chain id j y hy
    have n2 := hw.chain (T.rootOf id) _ y e
    rw [hz] at n1
    rw [n1, hw.behind_root h2] at n2
    have hz0 := get_nonneg (hw.pre_in id hg z (List.mem_of_getElem? hz)).1
    rw [hz, ← Nat.add_assoc]
    cases hc : (T.pre (T.rootOf id))[(T.pre (T.rootOf id)).idxOf id + j + 1]? with
    | none =>
      rw [hc] at n2
      have : z = -1 := n2
      omega
    | some u =>
      rw [hc] at n2
      have : z = u := n2
      rw [this]
theorem WF.behind_row (hw : WF T d) {id : Int} (hg : ∃ nd, T.get? id = some nd) : T.behind id = ((T.pre (T.rootOf id))[(T.pre (T.rootOf id)).idxOf id + (T.pre id).length]?).getD (-1) := by
  obtain ⟨h1, h2, h3⟩ := hw.root_is id hg
  have hpos : 0 < (T.pre id).length := List.length_pos_of_mem (hw.pre_self id)
  obtain ⟨m, hm⟩ : ∃ m, (T.pre id).length = m + 1 := ⟨_, (Nat.succ_pred_eq_of_pos hpos).symm⟩
  obtain ⟨y, hy⟩ : ∃ y, (T.pre id)[m]? = some y := ⟨_, List.getElem?_eq_getElem (by omega)⟩
  have e := hw.seg_row hg m (by omega)
  rw [hy] at e
  have n1 := hw.chain id m y hy
  have n2 := hw.chain (T.rootOf id) _ y e
  have hno : (T.pre id)[m + 1]? = none := List.getElem?_eq_none (by omega)
  rw [hno] at n1
  rw [n1, hw.behind_root h2] at n2
  rw [hm, ← Nat.add_assoc]
  exact n2
/-- a place in a row, or none -/
def besideZ (l : List Int) (k : Int) : Int := if k < 0 then -1 else (l[k.toNat]?).getD (-1)
def Tr.beside (T : Tr) (id by' : Int) : Int := match T.get? id with
  | none => -1
  | some _ => besideZ (T.pre (T.rootOf id)) (((T.pre (T.rootOf id)).idxOf id : Int) + by')
theorem WF.next_beside (hw : WF T d) (id : Int) : T.beside id 1 = T.next id := by
  unfold Tr.beside
  cases hg : T.get? id with
  | none =>
    show (-1 : Int) = _
    unfold Tr.next Tr.kidsOf
    rw [hg]
    show (-1 : Int) = T.behind id
    rw [hw.behind_root (by rw [Tr.up_none hg]; omega)]
  | some nd =>
    show besideZ _ _ = _
    unfold besideZ
    rw [if_neg (by omega), hw.next_row ⟨nd, hg⟩]
    congr 2
theorem WF.prev_beside (hw : WF T d) (id : Int) : T.beside id (-1) = T.prev id := by
  unfold Tr.beside
  cases hg : T.get? id with
  | none =>
    show (-1 : Int) = _
    have hi : T.idx id ≤ 0 := by
      unfold Tr.idx
      rw [hg]
      show (-1 : Int) ≤ 0
      omega
    unfold Tr.prev
    rw [if_pos hi, Tr.up_none hg]
  | some nd =>
    show besideZ _ _ = _
    unfold besideZ
    rw [hw.prev_row ⟨nd, hg⟩]
    by_cases h0 : (T.pre (T.rootOf id)).idxOf id = 0
    · rw [if_pos (by omega), if_pos h0]
    · rw [if_neg (by omega), if_neg h0]
      congr 2
      omega
theorem WF.behind_beside (hw : WF T d) (id : Int) : T.beside id (T.allOf id).length = T.behind id := by
  unfold Tr.beside Tr.allOf
  cases hg : T.get? id with
  | none => show (-1 : Int) = _; rw [hw.behind_root (by rw [Tr.up_none hg]; omega)]
  | some nd =>
    show besideZ _ (_ + ((T.pre id).length : Int)) = _
    unfold besideZ
    rw [if_neg (by omega), hw.behind_row ⟨nd, hg⟩]
    congr 2
theorem WF.win_other (hw : WF T d) {o : Int} (ho : T.get? o = none) : ∀ id, T.win id o = false := by
  have hne : ∀ id nd, T.get? id = some nd → decide (id = o) = false := fun id nd hg => by
    rw [decide_eq_false_iff_not]
    intro e
    rw [e, ho] at hg
    cases hg
  refine hw.down _ (fun id h => ?_) (fun id h ih => ?_)
  · cases hg : T.get? id with
    | none => exact hw.win_none hg
    | some nd => rw [hw.win_step hg, hne id nd hg, hw.win_none (Tr.get_neg T (by omega))]; rfl
  · cases hg : T.get? id with
    | none => exact hw.win_none hg
    | some nd => rw [hw.win_step hg, hne id nd hg, ih]; rfl
theorem WF.win_pre (hw : WF T d) {o : Int} (ho : ∃ od, T.get? o = some od) : ∀ id, (∃ nd, T.get? id = some nd) → (T.win id o = true ↔ id ∈ T.pre o) := by
  obtain ⟨od, ho⟩ := ho
  intro id hg
  constructor
  · revert hg
    revert id
    refine hw.down _ (fun id h hg hwn => ?_) (fun id h ih hg hwn => ?_)
    · obtain ⟨nd, hg⟩ := hg
      rw [hw.win_step hg, hw.win_none (Tr.get_neg T (show T.up id < 0 by omega)), Bool.or_false, decide_eq_true_eq] at hwn
      rw [hwn]; exact hw.pre_self o
    · obtain ⟨nd, hg⟩ := hg
      rw [hw.win_step hg, Bool.or_eq_true, decide_eq_true_eq] at hwn
      rcases hwn with e | e
      · rw [e]; exact hw.pre_self o
      · exact hw.pre_trans _ _ (ih (hw.up_get h) e) _ (hw.pre_kid (hw.up_kid h) _ (hw.pre_self id))
  · intro hm
    obtain ⟨_, h2, q, h3⟩ := hw.pre_in o ⟨od, ho⟩ id hm
    exact (hw.win_iff ho id hg).2 ⟨q, h3, h2⟩
/-- within, as the document says it -/
theorem WF.win_says (hw : WF T d) (id o : Int) : T.win id o = ((T.get? id).isSome && ((T.get? o).isSome && decide (0 ≤ posOf (T.allOf o) id))) := by
  cases hg : T.get? id with
  | none => rw [hw.win_none hg]; rfl
  | some nd =>
    cases ho : T.get? o with
    | none => rw [hw.win_other ho]; rfl
    | some od =>
      show T.win id o = decide _
      have hall : T.allOf o = T.pre o := by unfold Tr.allOf; rw [ho]
      rw [hall]
      have h := hw.win_pre ⟨od, ho⟩ id ⟨nd, hg⟩
      cases hwn : T.win id o with
      | true =>
        have hm := h.1 hwn
        unfold posOf
        rw [if_pos hm]
        symm
        exact decide_eq_true (Int.natCast_nonneg _)
      | false =>
        have hm : id ∉ T.pre o := fun hm => by rw [h.2 hm] at hwn; cases hwn
        unfold posOf
        rw [if_neg hm]
        rfl
end
end Go.Proofs.Ytiglflmjidikpaa
