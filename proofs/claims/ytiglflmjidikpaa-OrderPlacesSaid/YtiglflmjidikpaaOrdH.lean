/- The order of nodes, without a program: all within a node, one by one, by Next; Prev comes back. -/
import Derived.Test.YtiglflmjidikpaaOrdG
namespace Go.Proofs.Ytiglflmjidikpaa
open Go Go.RowKit Go.BigFrame
set_option linter.unusedVariables false
set_option linter.unusedSimpArgs false

def Tr.preF (T : Tr) : Nat → Int → List Int
  | 0, id => [id]
  | f + 1, id => id :: (T.kidsOf id).flatMap (T.preF f)
def Tr.pre (T : Tr) (id : Int) : List Int := T.preF 50 id
def Tr.allOf (T : Tr) (id : Int) : List Int := match T.get? id with | none => [] | some _ => T.pre id
theorem flatMap_congr' {α β : Type} {l : List α} {f g : α → List β} (h : ∀ x ∈ l, f x = g x) : l.flatMap f = l.flatMap g := by
  induction l with
  | nil => rfl
  | cons a l ih => rw [List.flatMap_cons, List.flatMap_cons, h a (by simp), ih fun x hx => h x (by simp [hx])]
section
variable {T : Tr} {d : Nat → Nat}
theorem WF.pre_more (hw : WF T d) : ∀ (f g : Nat) (id : Int), 42 ≤ T.rank d id + f → 42 ≤ T.rank d id + g → T.preF f id = T.preF g id := by
  intro f
  induction f with
  | zero => intro g id h; have := hw.rank_le id; omega
  | succ f ih =>
    intro g id h1 h2
    cases g with
    | zero => have := hw.rank_le id; omega
    | succ g =>
      simp only [Tr.preF]
      congr 1
      refine flatMap_congr' fun k hk => ?_
      obtain ⟨_, _, h3, _⟩ := hw.kid_rank hk
      exact ih g k (by omega) (by omega)
theorem WF.pre_step (hw : WF T d) (id : Int) : T.pre id = id :: (T.kidsOf id).flatMap T.pre := by
  show id :: (T.kidsOf id).flatMap (T.preF 49) = _
  congr 1
  exact flatMap_congr' fun k hk => hw.pre_more 49 50 k (by obtain ⟨_, _, h3, _⟩ := hw.kid_rank hk; omega) (by omega)
/-- from the kids up -/
theorem WF.rise (hw : WF T d) (P : Int → Prop) (h : ∀ id, (∀ k ∈ T.kidsOf id, P k) → P id) : ∀ id, P id := by
  have key : ∀ (n : Nat) (id : Int), 42 ≤ T.rank d id + n → P id := by
    intro n
    induction n with
    | zero => intro id h1; have := hw.rank_le id; omega
    | succ n ih =>
      intro id h1
      refine h id fun k hk => ?_
      obtain ⟨_, _, h3, _⟩ := hw.kid_rank hk
      exact ih k (by omega)
  exact fun id => key 42 id (by omega)
/-- each is followed by the next one, the last by z -/
def IsChain (T : Tr) (l : List Int) (z : Int) : Prop := ∀ (i : Nat) (x : Int), l[i]? = some x → T.next x = (l[i + 1]?).getD z
theorem IsChain.append {l1 l2 : List Int} {y z : Int} (h1 : IsChain T l1 y) (h2 : IsChain T l2 z) (hy : l2.head? = some y) : IsChain T (l1 ++ l2) z := by
  intro i x hx
  by_cases hi : i < l1.length
  · rw [List.getElem?_append_left hi] at hx
    rw [h1 i x hx]
    by_cases hi2 : i + 1 < l1.length
    · rw [List.getElem?_append_left hi2]
      rw [List.getElem?_eq_getElem hi2]; rfl
    · rw [List.getElem?_append_right (by omega), show i + 1 - l1.length = 0 by omega, ← List.head?_eq_getElem?, hy, List.getElem?_eq_none (by omega)]; rfl
  · rw [List.getElem?_append_right (by omega)] at hx
    rw [h2 _ x hx, List.getElem?_append_right (by omega), show i - l1.length + 1 = i + 1 - l1.length by omega]
theorem WF.behind_step (hw : WF T d) (id : Int) : T.behind id = if 0 ≤ T.up id then (T.sib id).getD (T.behind (T.up id)) else -1 := hw.goUp_step (fun x r => (T.sib x).getD r) (fun _ => -1) id
theorem WF.behind_kid (hw : WF T d) {id k : Int} {j : Nat} (h : (T.kidsOf id)[j]? = some k) : T.behind k = ((T.kidsOf id)[j + 1]?).getD (T.behind id) := by
  obtain ⟨h1, h2, h3⟩ := hw.kid_idx h
  rw [hw.behind_step k, h1, if_pos h3]
  have : T.sib k = (T.kidsOf id)[j + 1]? := by unfold Tr.sib; rw [h1, h2, Int.toNat_natCast]
  rw [this]
theorem WF.pre_head (hw : WF T d) (id : Int) : (T.pre id).head? = some id := by rw [hw.pre_step]; rfl
theorem WF.chain (hw : WF T d) : ∀ id, IsChain T (T.pre id) (T.behind id) := by
  refine hw.rise _ fun id ih => ?_
  have key : ∀ (ks : List Int) (j : Nat), T.kidsOf id = (T.kidsOf id).take j ++ ks → j + ks.length = (T.kidsOf id).length → IsChain T (ks.flatMap T.pre) (T.behind id) := by
    intro ks
    induction ks with
    | nil => intro j _ _ i x hx; simp at hx
    | cons k r ihr =>
      intro j he hl
      have hjk : (T.kidsOf id)[j]? = some k := by
        rw [he, List.getElem?_append_right (by rw [List.length_take]; omega), List.length_take, show j - min j (T.kidsOf id).length = 0 by simp at hl; omega]; rfl
      have hb := hw.behind_kid hjk
      have hk := ih k (List.mem_of_getElem? hjk)
      have hr := ihr (j + 1) (by
        have hlt := (List.getElem?_eq_some_iff.1 hjk).1
        have e2 := (List.getElem?_eq_some_iff.1 hjk).2
        rw [List.take_succ_eq_append_getElem hlt, e2, List.append_assoc]; exact he) (by simp at hl; omega)
      rw [List.flatMap_cons]
      cases r with
      | nil =>
        rw [List.getElem?_eq_none (by simp at hl; omega)] at hb
        rw [List.flatMap_nil, List.append_nil]
        have hb' : T.behind k = T.behind id := hb
        rw [← hb']; exact hk
      | cons k' r' =>
        have hjk' : (T.kidsOf id)[j + 1]? = some k' := by
          rw [he, List.getElem?_append_right (by rw [List.length_take]; omega), List.length_take, show j + 1 - min j (T.kidsOf id).length = 1 by simp at hl; omega]; rfl
        rw [hjk'] at hb
        have hb' : T.behind k = k' := hb
        rw [hb'] at hk
        refine hk.append hr ?_
        rw [List.flatMap_cons, List.head?_append, hw.pre_head k']; rfl
  have hrest := key (T.kidsOf id) 0 (by simp) (by simp)
  rw [hw.pre_step]
  intro i x hx
  cases i with
  | zero =>
    simp at hx
    subst hx
    unfold Tr.next
    cases hk : T.kidsOf id with
    | nil => rfl
    | cons k r =>
      show k = _
      simp only [List.getElem?_cons_succ, List.flatMap_cons]
      have := hw.pre_head k
      rw [hw.pre_step k]; rfl
  | succ i =>
    simp only [List.getElem?_cons_succ] at hx ⊢
    exact hrest i x hx
/-- all of them are there, and within -/
theorem WF.pre_in (hw : WF T d) : ∀ id, (∃ nd, T.get? id = some nd) → ∀ x ∈ T.pre id, (∃ xd, T.get? x = some xd) ∧ T.rootOf x = T.rootOf id ∧ ∃ q, T.pathOf x = T.pathOf id ++ q := by
  refine hw.rise _ fun id ih hg x hx => ?_
  rw [hw.pre_step] at hx
  rcases List.mem_cons.1 hx with rfl | hx
  · exact ⟨hg, rfl, [], by simp⟩
  · obtain ⟨k, hk, hxk⟩ := List.mem_flatMap.1 hx
    obtain ⟨h1, h2, _, hkg⟩ := hw.kid_rank hk
    obtain ⟨i1, i2, q, i3⟩ := ih k hk hkg x hxk
    refine ⟨i1, ?_, T.idx k :: q, ?_⟩
    · rw [i2, hw.root_step k, h1, if_pos h2]
    · rw [i3, hw.path_step k, h1, if_pos h2]; simp
/-- where the one behind stands -/
theorem WF.behind_path (hw : WF T d) : ∀ id, T.behind id = -1 ∨ ∃ (p : List Int) (j : Int) (q : List Int), T.pathOf id = p ++ j :: q ∧ T.pathOf (T.behind id) = p ++ [j + 1] ∧ T.rootOf (T.behind id) = T.rootOf id ∧ ∃ nd, T.get? (T.behind id) = some nd := by
  refine hw.down _ (fun id h => ?_) (fun id h ih => ?_)
  · rw [hw.behind_step, if_neg h]; exact .inl rfl
  · obtain ⟨j, j1, j2, j3, j4⟩ := hw.idx_kid h
    have hb := hw.behind_kid j2
    cases hs : (T.kidsOf (T.up id))[j + 1]? with
    | some y =>
      rw [hs] at hb
      have hb' : T.behind id = y := hb
      obtain ⟨k1, k2, k3⟩ := hw.kid_idx hs
      obtain ⟨_, _, _, kg⟩ := hw.kid_rank (List.mem_of_getElem? hs)
      rw [hb']
      refine .inr ⟨T.pathOf (T.up id), j, [], ?_, ?_, ?_, kg⟩
      · rw [hw.path_step id, if_pos h, j1]
      · rw [hw.path_step y, k1, if_pos k3, k2]; simp
      · rw [hw.root_step y, k1, if_pos k3, hw.root_step id, if_pos h]
    | none =>
      rw [hs] at hb
      have hb' : T.behind id = T.behind (T.up id) := hb
      rw [hb']
      rcases ih with h1 | ⟨p, i, q, h1, h2, h3, h4⟩
      · exact .inl h1
      · refine .inr ⟨p, i, q ++ [T.idx id], ?_, h2, ?_, h4⟩
        · rw [hw.path_step id, if_pos h, h1]; simp
        · rw [h3, hw.root_step id, if_pos h]
theorem get_nonneg {T : Tr} {x : Int} (h : ∃ nd, T.get? x = some nd) : 0 ≤ x := by obtain ⟨nd, h⟩ := h; exact (Tr.get_lt h).1
theorem WF.pre_not (hw : WF T d) {id x : Int} (hg : ∃ nd, T.get? id = some nd) (hx : x ∈ T.pre id) : x ≠ T.behind id := by
  obtain ⟨h1, h2, r, h3⟩ := hw.pre_in id hg x hx
  rcases hw.behind_path id with h | ⟨p, j, q, h4, h5, _⟩
  · have := get_nonneg h1; omega
  · intro e
    rw [← e, h3, h4, List.append_assoc] at h5
    have h6 := List.append_cancel_left h5
    simp at h6
    omega
theorem WF.pre_nodup (hw : WF T d) {id : Int} (hg : ∃ nd, T.get? id = some nd) : (T.pre id).Nodup := by
  have hc := hw.chain id
  have step : ∀ (m i j : Nat) (x : Int), (T.pre id)[i]? = some x → (T.pre id)[j]? = some x → ((T.pre id)[i + m]?).getD (T.behind id) = ((T.pre id)[j + m]?).getD (T.behind id) := by
    intro m
    induction m with
    | zero => intro i j x h1 h2; rw [Nat.add_zero, Nat.add_zero, h1, h2]
    | succ m ih =>
      intro i j x h1 h2
      have e1 := hc i x h1
      have e2 := hc j x h2
      rw [e1] at e2
      cases hi : (T.pre id)[i + 1]? with
      | some y =>
        rw [hi] at e2
        have e3 : y = ((T.pre id)[j + 1]?).getD (T.behind id) := e2
        cases hj : (T.pre id)[j + 1]? with
        | some y' =>
          rw [hj] at e3
          have e4 : y = y' := e3
          subst e4
          have := ih (i + 1) (j + 1) y hi hj
          rw [show i + 1 + m = i + (m + 1) by omega, show j + 1 + m = j + (m + 1) by omega] at this
          exact this
        | none =>
          rw [hj] at e3
          exact absurd e3 (hw.pre_not hg (List.mem_of_getElem? hi))
      | none =>
        rw [hi] at e2
        have e3 : T.behind id = ((T.pre id)[j + 1]?).getD (T.behind id) := e2
        have hi' := List.getElem?_eq_none_iff.1 hi
        cases hj : (T.pre id)[j + 1]? with
        | some y' =>
          rw [hj] at e3
          have e4 : T.behind id = y' := e3
          exact absurd e4.symm (hw.pre_not hg (List.mem_of_getElem? hj))
        | none =>
          have hj' := List.getElem?_eq_none_iff.1 hj
          rw [List.getElem?_eq_none (by omega), List.getElem?_eq_none (by omega)]
  refine List.pairwise_iff_getElem.2 fun i j hi hj hij he => ?_
  obtain ⟨x, hx⟩ : ∃ x, (T.pre id)[j]? = some x := ⟨(T.pre id)[j], by simp [hj]⟩
  have hxi : (T.pre id)[i]? = some x := by
    rw [List.getElem?_eq_getElem hi, he, ← List.getElem?_eq_getElem hj]; exact hx
  have h1 := step ((T.pre id).length - j) i j x hxi hx
  rw [show j + ((T.pre id).length - j) = (T.pre id).length by omega, List.getElem?_eq_none (Nat.le_refl _)] at h1
  have hlt : i + ((T.pre id).length - j) < (T.pre id).length := by omega
  rw [List.getElem?_eq_getElem hlt] at h1
  exact absurd h1 (hw.pre_not hg (List.getElem_mem hlt))
theorem WF.pre_len (hw : WF T d) : ∀ id, (∃ nd, T.get? id = some nd) → (T.pre id).length = (T.plain id).size := by
  refine hw.rise _ fun id ih hg => ?_
  obtain ⟨nd, hg⟩ := hg
  obtain ⟨i, rfl, hi⟩ := nat_of hg
  have hk : T.kidsOf (i : Int) = nd.kids := by unfold Tr.kidsOf; rw [hg]
  rw [hw.pre_step, hw.plain_eq hi, PN.size_eq, hk, List.length_cons]
  congr 1
  have : ∀ l : List Int, (∀ k ∈ l, k ∈ nd.kids) → (l.flatMap T.pre).length = PN.sizes (l.map T.plain) := by
    intro l
    induction l with
    | nil => intro _; rfl
    | cons k r ihr =>
      intro h
      rw [List.flatMap_cons, List.length_append, List.map_cons, PN.sizes, ihr fun x hx => h x (by simp [hx])]
      have hkk : k ∈ T.kidsOf (i : Int) := by rw [hk]; exact h k (by simp)
      rw [ih k hkk (hw.kid_rank hkk).2.2.2]
  exact this nd.kids fun k hk => hk
theorem WF.pre_2000 (hw : WF T d) {id : Int} (hg : ∃ nd, T.get? id = some nd) : (T.pre id).length ≤ 2000 := by
  rw [hw.pre_len id hg]
  obtain ⟨nd, hg⟩ := hg
  obtain ⟨i, rfl, hi⟩ := nat_of hg
  have h1 := hw.rid_size hi
  have h2 : 0 ≤ (T.rid fun j => T.within j i).count := Int.natCast_nonneg _
  have h3 := hw.small.count1
  have h4 := hw.small.cap1
  omega
/-- Prev comes back -/
theorem WF.prev_behind (hw : WF T d) : ∀ id, ∀ z, T.lastIn id = z → 0 ≤ T.behind id → T.prev (T.behind id) = z := by
  refine hw.down _ (fun id h => ?_) (fun id h ih => ?_)
  · intro z _ h1; rw [hw.behind_step, if_neg h] at h1; omega
  · intro z hz h1
    obtain ⟨j, j1, j2, j3, j4⟩ := hw.idx_kid h
    have hb := hw.behind_kid j2
    cases hs : (T.kidsOf (T.up id))[j + 1]? with
    | some y =>
      rw [hs] at hb
      have hb' : T.behind id = y := hb
      obtain ⟨k1, k2, k3⟩ := hw.kid_idx hs
      rw [hb']
      unfold Tr.prev
      rw [k2, if_neg (by omega), k1]
      have : (((j + 1 : Nat) : Int)).toNat - 1 = j := by omega
      rw [this, j2]
      exact hz
    | none =>
      rw [hs] at hb
      have hb' : T.behind id = T.behind (T.up id) := hb
      rw [hb'] at h1 ⊢
      refine ih z ?_ h1
      rw [hw.last_step (T.up id)]
      have hl := List.getElem?_eq_none_iff.1 hs
      have : (T.kidsOf (T.up id)).getLast? = some id := by
        rw [List.getLast?_eq_getElem?, show (T.kidsOf (T.up id)).length - 1 = j by omega]; exact j2
      rw [this]
      exact hz
theorem WF.prev_next (hw : WF T d) {x : Int} (h : 0 ≤ T.next x) : T.prev (T.next x) = x := by
  unfold Tr.next at h ⊢
  cases hk : T.kidsOf x with
  | nil =>
    rw [hk] at h
    refine hw.prev_behind x x ?_ h
    rw [hw.last_step, hk]; rfl
  | cons k r =>
    have hk0 : (T.kidsOf x)[0]? = some k := by rw [hk]; rfl
    obtain ⟨k1, k2, k3⟩ := hw.kid_idx hk0
    show T.prev k = x
    unfold Tr.prev
    rw [k2, if_pos (by omega)]
    exact k1
/-- the next one is behind -/
theorem WF.cmp_next (hw : WF T d) {x y : Int} (hg : ∃ nd, T.get? x = some nd) (h : T.next x = y) (h0 : 0 ≤ y) : T.cmpOk x 0 y 0 = true ∧ T.cmp x 0 y 0 = -1 := by
  have may0 : ∀ u : Int, (∃ nd, T.get? u = some nd) → T.may u 0 = true := fun u ⟨nd, hu⟩ => by
    have ht : T.tagOf u = nd.tag := by unfold Tr.tagOf; rw [hu]
    have h1 := (hw.text _ nd (Tr.get_lt hu).2.2).1
    have h2 : 0 ≤ T.lengthOf u := by
      unfold Tr.lengthOf
      rw [ht, if_neg (by omega)]
      split <;> omega
    unfold Tr.may
    simp [h2]
  have ok : ∀ (hy : ∃ nd, T.get? y = some nd), T.rootOf x = T.rootOf y → T.cmpOk x 0 y 0 = true := fun hy hr => by
    unfold Tr.cmpOk; rw [may0 x hg, may0 y hy]; simp [hr]
  unfold Tr.next at h
  cases hk : T.kidsOf x with
  | cons k r =>
    rw [hk] at h
    have h' : k = y := h
    subst h'
    have hk0 : (T.kidsOf x)[0]? = some k := by rw [hk]; rfl
    obtain ⟨k1, k2, k3⟩ := hw.kid_idx hk0
    obtain ⟨_, _, _, kg⟩ := hw.kid_rank (List.mem_of_getElem? hk0)
    have hr : T.rootOf x = T.rootOf k := by rw [hw.root_step k, k1, if_pos k3]
    refine ⟨ok kg hr, ?_⟩
    unfold Tr.cmp
    rw [if_pos (ok kg hr), hw.path_step k, k1, if_pos k3, k2, cmp_in, if_pos (by omega)]
  | nil =>
    rw [hk] at h
    have h' : T.behind x = y := h
    rcases hw.behind_path x with h1 | ⟨p, j, q, h1, h2, h3, h4⟩
    · omega
    · rw [h'] at h2 h3 h4
      refine ⟨ok h4 h3.symm, ?_⟩
      unfold Tr.cmp
      rw [if_pos (ok h4 h3.symm), h1, h2]
      have e1 : rowL (p ++ j :: q) 0 = p.map (fun i => 2 * i + 1) ++ ((2 * j + 1) :: rowL q 0) := by simp [rowL]
      have e2 : rowL (p ++ [j + 1]) 0 = p.map (fun i => 2 * i + 1) ++ ((2 * (j + 1) + 1) :: rowL [] 0) := by simp [rowL]
      rw [e1, e2, cmpL_pre]
      simp only [cmpL]
      rw [if_pos (by omega)]
end
end Go.Proofs.Ytiglflmjidikpaa
