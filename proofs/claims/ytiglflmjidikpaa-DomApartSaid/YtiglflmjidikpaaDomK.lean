/- Package dom: add in one contract; what holds of the tree then; New, Element, Text. -/
import Derived.Test.YtiglflmjidikpaaDomJ
namespace Go.Proofs.Ytiglflmjidikpaa
open Go Go.RowKit Go.BigFrame
set_option linter.unusedVariables false
set_option linter.unusedSimpArgs false

theorem freeOf_cases (l : List (Option Nd)) : (∃ i : Nat, freeOf' l = (i : Int) ∧ l[i]? = some none) ∨ (freeOf' l = -1 ∧ ∀ x ∈ l, x ≠ none) := by
  by_cases h : l.any Option.isNone = true
  · left
    have hlt : l.findIdx Option.isNone < l.length := List.findIdx_lt_length.2 (by
      rw [List.any_eq_true] at h; exact h)
    refine ⟨l.findIdx Option.isNone, by unfold freeOf'; rw [if_pos h], ?_⟩
    have := List.findIdx_getElem (w := hlt)
    rw [List.getElem?_eq_getElem hlt]
    cases hx : l[l.findIdx Option.isNone] with
    | none => rfl
    | some y => rw [hx] at this; cases this
  · right
    refine ⟨by unfold freeOf'; rw [if_neg h], fun x hx hn => h (List.any_eq_true.2 ⟨x, hx, by rw [hn]; rfl⟩)⟩
def Tr.newId (T : Tr) : Int := if 0 ≤ freeOf' T.nodes then freeOf' T.nodes else T.nodes.length
def Tr.put (T : Tr) (nd : Nd) : Tr := { T with count := T.count + 1, nodes := if 0 ≤ freeOf' T.nodes then T.nodes.set (freeOf' T.nodes).toNat (some nd) else T.nodes ++ [some nd] }
theorem count_all {l : List (Option Nd)} (h : ∀ x ∈ l, x ≠ none) : l.countP Option.isSome = l.length := by
  rw [List.countP_eq_length]
  intro x hx
  cases x with
  | none => exact absurd rfl (h none hx)
  | some y => rfl
theorem WF.len_full {T : Tr} {d : Nat → Nat} (hw : WF T d) (h : ∀ x ∈ T.nodes, x ≠ none) : (T.nodes.length : Int) = T.count := by
  rw [hw.count, count_all h]
theorem add_any {w : World} {own : Ow} {ptr : Nat → Nat} {tb : Nat} {T : Tr} (hT : TreeAt w own ptr tb T) (hO : Owned own w) (hs : Small T) (hr : (∀ x ∈ T.nodes, x ≠ none) → T.nodes.length ≤ 1999)
    (tag : Int) (text : ByteArray) (av : Value) (attrs : List (ByteArray × ByteArray)) (ha : RowRd w 2 av attrs.length (attrCells attrs)) (hn : attrs.length ≤ 60000) (h1c : ∀ u ∈ attrCells attrs, u.oneCell' = true) :
    Calls Try.prog 94 #[.pointer (some ⟨tb, 0, none⟩), .agg #[.int .i64 tag, av, .string text]] w (AddIs own w tb T.newId (T.put ⟨tag, attrs, text, [], -1⟩)) := by
  unfold Tr.newId Tr.put
  rcases freeOf_cases T.nodes with ⟨i, h1, h2⟩ | ⟨h1, h2⟩
  · have := add_free hT hO hs h1 h2 tag text av attrs ha hn h1c
    rw [h1, if_pos (by omega), if_pos (by omega), Int.toNat_natCast]
    exact this
  · have := add_full hT hO hs (hr h2) h1 tag text av attrs ha hn h1c
    rw [h1, if_neg (by omega), if_neg (by omega)]
    exact this
theorem attrCells_one (l : List (ByteArray × ByteArray)) : ∀ u ∈ attrCells l, u.oneCell' = true := by
  induction l with
  | nil => intro u hu; simp [attrCells] at hu
  | cons p r ih =>
    intro u hu
    obtain ⟨a, b⟩ := p
    simp only [attrCells, List.mem_cons] at hu
    rcases hu with rfl | rfl | hu
    · rfl
    · rfl
    · exact ih u hu
theorem attrCells_len (l : List (ByteArray × ByteArray)) : (attrCells l).length = l.length * 2 := by
  induction l with
  | nil => rfl
  | cons p r ih => obtain ⟨a, b⟩ := p; simp only [attrCells, List.length_cons, ih]; omega

/-- where the new node is, the others as they were -/
theorem Tr.put_at (T : Tr) (nd : Nd) : ∃ n : Nat, T.newId = (n : Int) ∧ (T.put nd).nodes[n]? = some (some nd) ∧ (∀ (x : Nd), T.nodes[n]? ≠ some (some x)) ∧
    (∀ (j : Nat) (x : Nd), T.nodes[j]? = some (some x) → (T.put nd).nodes[j]? = some (some x)) ∧ (∀ (j : Nat) (x : Nd), j ≠ n → (T.put nd).nodes[j]? = some (some x) → T.nodes[j]? = some (some x)) ∧
    (T.put nd).nodes.countP Option.isSome = T.nodes.countP Option.isSome + 1 ∧ (T.put nd).nodes.length ≤ T.nodes.length + 1 ∧ ((∃ x ∈ T.nodes, x = none) → (T.put nd).nodes.length = T.nodes.length) := by
  unfold Tr.newId Tr.put
  rcases freeOf_cases T.nodes with ⟨i, h1, h2⟩ | ⟨h1, h2⟩
  · rw [h1, if_pos (by omega), if_pos (by omega), Int.toNat_natCast]
    have hlt := (List.getElem?_eq_some_iff.1 h2).1
    refine ⟨i, rfl, by simp [hlt], fun x h => (by rw [h2] at h; cases h), fun j x hj => ?_, fun j x hji hj => ?_, ?_, by simp, fun _ => by simp⟩
    · show (T.nodes.set i (some nd))[j]? = _
      rw [List.getElem?_set]
      split
      · rename_i e; subst e; rw [h2] at hj; cases hj
      · exact hj
    · have hj' : (T.nodes.set i (some nd))[j]? = some (some x) := hj
      rw [List.getElem?_set, if_neg (Ne.symm hji)] at hj'
      exact hj'
    · show (T.nodes.set i (some nd)).countP Option.isSome = _
      rw [List.countP_set hlt]
      have : T.nodes[i] = none := by
        have := List.getElem?_eq_getElem hlt
        rw [h2] at this
        exact (Option.some.inj this).symm
      simp [this]
  · rw [h1, if_neg (by omega), if_neg (by omega)]
    refine ⟨T.nodes.length, rfl, by simp, fun x h => ?_, fun j x hj => ?_, fun j x hji hj => ?_, by simp, by simp, fun ⟨x, hx, he⟩ => absurd he (h2 x hx)⟩
    · rw [List.getElem?_eq_none (Nat.le_refl _)] at h; cases h
    · show (T.nodes ++ [some nd])[j]? = _
      rw [List.getElem?_append_left (List.getElem?_eq_some_iff.1 hj).1]; exact hj
    · have hj' : (T.nodes ++ [some nd])[j]? = some (some x) := hj
      rw [List.getElem?_append] at hj'
      split at hj'
      · exact hj'
      · rename_i hge
        rw [List.getElem?_eq_none (by simp; omega)] at hj'
        cases hj'
theorem WF.put {T : Tr} {d : Nat → Nat} (hw : WF T d) (nd : Nd) (hk : nd.kids = []) (hp : nd.parent = -1) (ht0 : 0 ≤ nd.tag) (ht1 : nd.tag ≤ 16) (hroom : T.count + 1 ≤ T.cap) (hroot : T.newId ≠ 0) :
    WF (T.put nd) (fun j => if (j : Int) = T.newId then 0 else d j) := by
  obtain ⟨n, h1, h2, h3, h4, h5, h6, h7, h8⟩ := T.put_at nd
  have hs := hw.small
  have hcap : (T.put nd).cap = T.cap := rfl
  have hdeep : (T.put nd).deep = T.deep := rfl
  have hcount : (T.put nd).count = T.count + 1 := rfl
  refine ⟨⟨hs.cap0, hs.cap1, hs.deep0, hs.deep1, ?_, hroom, ?_⟩, ?_, ?_, ?_, ?_, ?_, ?_⟩
  · have := hs.count0; show 0 ≤ T.count + 1; omega
  · by_cases hx : ∃ x ∈ T.nodes, x = none
    · rw [h8 hx]; exact hs.len
    · have hl := hw.len_full (fun x hx' he => hx ⟨x, hx', he⟩)
      have := hs.cap1
      omega
  · obtain ⟨r, r1, r2, r3⟩ := hw.root
    exact ⟨r, h4 0 r r1, r2, r3⟩
  · intro i x hi
    by_cases hin : i = n
    · rw [if_pos (by rw [h1, hin])]; exact hs.deep0
    · rw [if_neg (by rw [h1]; omega)]; exact hw.deep i x (h5 i x hin hi)
  · intro i x hi
    by_cases hin : i = n
    · left
      rw [hin, h2] at hi
      cases hi
      exact ⟨hp, if_pos (by rw [h1, hin])⟩
    · rcases hw.up i x (h5 i x hin hi) with ⟨q1, q2⟩ | ⟨p, pd, q1, q2, q3, q4⟩
      · left
        exact ⟨q1, by rw [if_neg (by rw [h1]; omega)]; exact q2⟩
      · right
        have hpn : p ≠ n := fun e => h3 pd (e ▸ q2)
        exact ⟨p, pd, q1, h4 p pd q2, by rw [if_neg (by rw [h1]; omega), if_neg (by rw [h1]; omega)]; exact q3, q4⟩
  · intro i x hi
    by_cases hin : i = n
    · rw [hin, h2] at hi
      cases hi
      rw [hk]
      exact ⟨List.nodup_nil, fun k hk => by simp at hk⟩
    · obtain ⟨q1, q2⟩ := hw.kids i x (h5 i x hin hi)
      exact ⟨q1, fun k hk => by obtain ⟨j, kd, r1, r2, r3⟩ := q2 k hk; exact ⟨j, kd, r1, h4 j kd r2, r3⟩⟩
  · intro i x hi
    by_cases hin : i = n
    · rw [hin, h2] at hi
      cases hi
      exact ⟨ht0, ht1, fun _ => hk⟩
    · exact hw.text i x (h5 i x hin hi)
  · rw [hcount, h6, hw.count]; push_cast; rfl
theorem WF.newId_ne {T : Tr} {d : Nat → Nat} (hw : WF T d) : T.newId ≠ 0 := by
  obtain ⟨n, h1, _, h3, _⟩ := T.put_at ⟨0, [], ByteArray.empty, [], -1⟩
  obtain ⟨r, r1, _⟩ := hw.root
  intro h0
  have : n = 0 := by omega
  exact h3 r (this ▸ r1)
end Go.Proofs.Ytiglflmjidikpaa
