/- Trees in plain words: what an insert, a removal, a drop make of a tree that holds what holds of every tree (WF). No program in sight. -/
import Derived.Test.YtiglflmjidikpaaDomK
namespace Go.Proofs.Ytiglflmjidikpaa
open Go Go.RowKit Go.BigFrame
set_option linter.unusedVariables false
set_option linter.unusedSimpArgs false

/-- within, once for all fuel -/
theorem WF.d50 {T : Tr} {d : Nat → Nat} (hw : WF T d) {i : Nat} {nd : Nd} (h : T.nodes[i]? = some (some nd)) : d i < 50 := by
  have := hw.deep i nd h; have := hw.small.deep1; omega
theorem WF.within_step {T : Tr} {d : Nat → Nat} (hw : WF T d) {i : Nat} {nd : Nd} (h : T.nodes[i]? = some (some nd)) (o : Int) :
    T.within i o = if (i : Int) = o then true else T.within nd.parent o := by
  show isIn T o 50 i = _
  rw [isIn_step o 49 h]
  split
  · rfl
  · rcases hw.up i nd h with ⟨h3, h4⟩ | ⟨p, pd, h3, h4, h5, h6⟩
    · rw [h3, isIn_neg]; exact (isIn_neg T o 50).symm
    · rw [h3]; have := hw.d50 h; exact isIn_more hw o 49 50 p pd h4 (by omega) (by omega)
theorem within_neg (T : Tr) (o : Int) : T.within (-1) o = false := isIn_neg T o 50
/-- induction on the depth of a node -/
theorem WF.induct {T : Tr} {d : Nat → Nat} (hw : WF T d) (P : Nat → Nd → Prop)
    (h0 : ∀ (i : Nat) (nd : Nd), T.nodes[i]? = some (some nd) → nd.parent = -1 → d i = 0 → P i nd)
    (h1 : ∀ (i : Nat) (nd : Nd) (p : Nat) (pd : Nd), T.nodes[i]? = some (some nd) → nd.parent = (p : Int) → T.nodes[p]? = some (some pd) → d i = d p + 1 → P p pd → P i nd) :
    ∀ (i : Nat) (nd : Nd), T.nodes[i]? = some (some nd) → P i nd := by
  have key : ∀ (n i : Nat) (nd : Nd), d i = n → T.nodes[i]? = some (some nd) → P i nd := by
    intro n
    induction n with
    | zero =>
      intro i nd hd h
      rcases hw.up i nd h with ⟨h3, h4⟩ | ⟨p, pd, h3, h4, h5, h6⟩
      · exact h0 i nd h h3 h4
      · omega
    | succ n ih =>
      intro i nd hd h
      rcases hw.up i nd h with ⟨h3, h4⟩ | ⟨p, pd, h3, h4, h5, h6⟩
      · omega
      · exact h1 i nd p pd h h3 h4 h5 (ih p pd (by omega) h4)
  exact fun i nd h => key (d i) i nd rfl h
theorem WF.within_self {T : Tr} {d : Nat → Nat} (hw : WF T d) {i : Nat} {nd : Nd} (h : T.nodes[i]? = some (some nd)) : T.within i i = true := by
  rw [hw.within_step h, if_pos rfl]
theorem WF.within_depth {T : Tr} {d : Nat → Nat} (hw : WF T d) {o : Nat} : ∀ (i : Nat) (nd : Nd), T.nodes[i]? = some (some nd) → T.within i o = true → d o ≤ d i ∧ (d o = d i → i = o) := by
  refine hw.induct _ (fun i nd h hp hd hi => ?_) (fun i nd p pd h hp hpd hd ih hi => ?_)
  · rw [hw.within_step h, hp, within_neg] at hi
    split at hi
    · rename_i e; have : i = o := by omega
      subst this; exact ⟨Nat.le_refl _, fun _ => rfl⟩
    · cases hi
  · rw [hw.within_step h, hp] at hi
    split at hi
    · rename_i e; have : i = o := by omega
      subst this; exact ⟨Nat.le_refl _, fun _ => rfl⟩
    · have := (ih hi).1; omega
theorem WF.within_trans {T : Tr} {d : Nat → Nat} (hw : WF T d) {o q : Nat} {od : Nd} (ho : T.nodes[o]? = some (some od)) (hq : T.within o q = true) :
    ∀ (i : Nat) (nd : Nd), T.nodes[i]? = some (some nd) → T.within i o = true → T.within i q = true := by
  refine hw.induct _ (fun i nd h hp hd hi => ?_) (fun i nd p pd h hp hpd hd ih hi => ?_)
  · rw [hw.within_step h, hp, within_neg] at hi
    split at hi
    · rename_i e; have : i = o := by omega
      subst this; exact hq
    · cases hi
  · rw [hw.within_step h, hp] at hi
    split at hi
    · rename_i e; have : i = o := by omega
      subst this; exact hq
    · rw [hw.within_step h, hp]
      split
      · rfl
      · exact ih hi
/-- a root is within nothing else -/
theorem WF.within_root {T : Tr} {d : Nat → Nat} (hw : WF T d) {i : Nat} {nd : Nd} (h : T.nodes[i]? = some (some nd)) (hp : nd.parent = -1) (o : Int) : T.within i o = decide ((i : Int) = o) := by
  rw [hw.within_step h, hp, within_neg]
  by_cases e : (i : Int) = o
  · rw [if_pos e, decide_eq_true e]
  · rw [if_neg e, decide_eq_false e]
/-- who is within a node is it, or within one of its kids -/
theorem WF.within_kid {T : Tr} {d : Nat → Nat} (hw : WF T d) {o : Nat} {od : Nd} (ho : T.nodes[o]? = some (some od)) :
    ∀ (i : Nat) (nd : Nd), T.nodes[i]? = some (some nd) → T.within i o = true → i = o ∨ ∃ k ∈ od.kids, T.within i k = true := by
  refine hw.induct _ (fun i nd h hp hd hi => ?_) (fun i nd p pd h hp hpd hd ih hi => ?_)
  · rw [hw.within_root h hp] at hi
    left; have := of_decide_eq_true hi; omega
  · rw [hw.within_step h, hp] at hi
    split at hi
    · rename_i e; left; omega
    · right
      rcases ih hi with rfl | ⟨k, hk, hk2⟩
      · rw [ho] at hpd
        obtain rfl : od = pd := by injection hpd with e; injection e
        rcases hw.up i nd h with ⟨h3, h4⟩ | ⟨p', pd', h3, h4, h5, h6⟩
        · omega
        · have hpp : p' = p := by omega
          subst hpp
          rw [ho] at h4
          obtain rfl : od = pd' := by injection h4 with e; injection e
          exact ⟨i, h6, hw.within_self h⟩
      · refine ⟨k, hk, ?_⟩
        rw [hw.within_step h, hp, hk2]
        split <;> rfl
theorem WF.kid_within {T : Tr} {d : Nat → Nat} (hw : WF T d) {o : Nat} {od : Nd} (ho : T.nodes[o]? = some (some od)) {k : Int} (hk : k ∈ od.kids) :
    ∀ (i : Nat) (nd : Nd), T.nodes[i]? = some (some nd) → T.within i k = true → T.within i o = true := by
  obtain ⟨j, kd, rfl, hj, hjp⟩ := (hw.kids o od ho).2 k hk
  refine fun i nd h hi => hw.within_trans hj ?_ i nd h hi
  rw [hw.within_step hj, hjp]
  split
  · rfl
  · exact hw.within_self ho

theorem fold_ge (F : Int → Int) : ∀ (l : List Int) (z : Int), z ≤ l.foldl (fun h k => max h (F k)) z := by
  intro l
  induction l with
  | nil => intro z; exact Int.le_refl _
  | cons k r ih => intro z; exact Int.le_trans (show z ≤ max z (F k) by omega) (ih _)
theorem fold_mem (F : Int → Int) : ∀ (l : List Int) (z : Int) (x : Int), x ∈ l → F x ≤ l.foldl (fun h k => max h (F k)) z := by
  intro l
  induction l with
  | nil => intro z x hx; cases hx
  | cons k r ih =>
    intro z x hx
    rcases List.mem_cons.1 hx with rfl | hx
    · exact Int.le_trans (show F x ≤ max z (F x) by omega) (fold_ge F r _)
    · exact ih _ x hx
theorem hgt_step (T : Tr) (f : Nat) {i : Nat} {nd : Nd} (h : T.nodes[i]? = some (some nd)) : T.hgt (f + 1) i = nd.kids.foldl (fun h k => max h (T.hgt f k + 1)) 0 := by
  show (match T.get? i with | none => -1 | some nd => nd.kids.foldl (fun h k => max h (T.hgt f k + 1)) 0) = _
  rw [Tr.get_of h]
theorem hgt_nn (T : Tr) (f : Nat) {i : Nat} {nd : Nd} (h : T.nodes[i]? = some (some nd)) : 0 ≤ T.hgt f i := by
  cases f with
  | zero => exact Int.le_refl 0
  | succ f => rw [hgt_step T f h]; exact fold_ge _ _ _
theorem fold_congr (F G : Int → Int) : ∀ (l : List Int) (z : Int), (∀ k ∈ l, F k = G k) → l.foldl (fun h k => max h (F k)) z = l.foldl (fun h k => max h (G k)) z := by
  intro l
  induction l with
  | nil => intro z _; rfl
  | cons k r ih =>
    intro z h
    simp only [List.foldl_cons]
    rw [h k (by simp)]
    exact ih _ fun x hx => h x (by simp [hx])
/-- enough fuel: the height is one -/
theorem WF.hgt_more {T : Tr} {d : Nat → Nat} (hw : WF T d) : ∀ (f g i : Nat) (nd : Nd), T.nodes[i]? = some (some nd) → 41 ≤ d i + f → 41 ≤ d i + g → T.hgt f i = T.hgt g i := by
  intro f
  induction f with
  | zero => intro g i nd h h1; have := hw.deep i nd h; have := hw.small.deep1; omega
  | succ f ih =>
    intro g i nd h h1 h2
    cases g with
    | zero => have := hw.deep i nd h; have := hw.small.deep1; omega
    | succ g =>
      rw [hgt_step T f h, hgt_step T g h]
      refine fold_congr _ _ _ _ fun k hk => ?_
      obtain ⟨n, hn⟩ := List.getElem?_of_mem hk
      obtain ⟨j, kd, rfl, hj, hjp, hjd⟩ := hw.kid h hn
      rw [ih g j kd hj (by omega) (by omega)]
/-- how high a node stands -/
def Tr.height (T : Tr) (i : Int) : Int := T.hgt 50 i
theorem WF.hgt_kid {T : Tr} {d : Nat → Nat} (hw : WF T d) {i : Nat} {nd : Nd} (h : T.nodes[i]? = some (some nd)) {j : Nat} (hk : (j : Int) ∈ nd.kids) : T.height j + 1 ≤ T.height i := by
  show T.hgt 50 j + 1 ≤ T.hgt 50 i
  obtain ⟨n, hn⟩ := List.getElem?_of_mem hk
  obtain ⟨j', kd, e, hj, hjp, hjd⟩ := hw.kid h hn
  obtain rfl : j' = j := by omega
  have h2 := hw.deep j' kd hj
  have h3 := hw.small.deep1
  rw [hw.hgt_more 50 49 j' kd hj (by omega) (by omega), hgt_step T 49 h]
  exact fold_mem (fun k => T.hgt 49 k + 1) nd.kids 0 j' hk
theorem WF.depth_le {T : Tr} {d : Nat → Nat} (hw : WF T d) {o : Nat} {od : Nd} (ho : T.nodes[o]? = some (some od)) :
    ∀ (i : Nat) (nd : Nd), T.nodes[i]? = some (some nd) → T.within i o = true → (d i : Int) + T.height i ≤ d o + T.height o := by
  refine hw.induct _ (fun i nd h hp hd hi => ?_) (fun i nd p pd h hp hpd hd ih hi => ?_)
  · rw [hw.within_root h hp] at hi
    have : i = o := by have := of_decide_eq_true hi; omega
    subst this; exact Int.le_refl _
  · rw [hw.within_step h, hp] at hi
    split at hi
    · rename_i e; have : i = o := by omega
      subst this; exact Int.le_refl _
    · have h1 := ih hi
      rcases hw.up i nd h with ⟨h3, h4⟩ | ⟨p', pd', h3, h4, h5, h6⟩
      · omega
      · obtain rfl : p' = p := by omega
        have := hw.hgt_kid h4 h6
        omega
/-- a kid stands in one row alone, once -/
theorem WF.kid_parent {T : Tr} {d : Nat → Nat} (hw : WF T d) {i j : Nat} {nd kd : Nd} (h : T.nodes[i]? = some (some nd)) (hk : (j : Int) ∈ nd.kids) (hj : T.nodes[j]? = some (some kd)) : kd.parent = i := by
  obtain ⟨j', kd', e, h1, h2⟩ := (hw.kids i nd h).2 _ hk
  obtain rfl : j' = j := by omega
  rw [hj] at h1
  injection h1 with e; injection e with e
  rw [e]; exact h2
end Go.Proofs.Ytiglflmjidikpaa
