/- Pure laws: a node taken off and hung up again; what lies within it stays as it was. No program in sight. -/
import Derived.Test.YtiglflmjidikpaaTrD
namespace Go.Proofs.Ytiglflmjidikpaa
open Go Go.RowKit Go.BigFrame
set_option linter.unusedVariables false
set_option linter.unusedSimpArgs false

theorem set_same {α : Type} {l : List α} {i : Nat} {x : α} (h : l[i]? = some x) : l.set i x = l := by
  obtain ⟨hlt, rfl⟩ := List.getElem?_eq_some_iff.1 h
  exact List.set_getElem_self hlt
/-- two nodes turned twice -/
theorem Tr.set2_set2 (T : Tr) {p k : Nat} (hpk : p ≠ k) (pd kd pd' kd' : Nd) : (T.set2 p k pd' kd').set2 p k pd kd = T.set2 p k pd kd := by
  unfold Tr.set2
  simp only [Tr.mk.injEq, true_and]
  rw [List.set_comm _ _ (Ne.symm hpk), List.set_set, List.set_set]
theorem Tr.set2_self {T : Tr} {p k : Nat} (hpk : p ≠ k) {pd kd : Nd} (hp : T.nodes[p]? = some (some pd)) (hk : T.nodes[k]? = some (some kd)) : T.set2 p k pd kd = T := by
  show { T with nodes := (T.nodes.set p (some pd)).set k (some kd) } = T
  rw [set_same hp, set_same hk]
theorem erase_mid {l : List Int} {x : Int} (hx : x ∉ l) (i : Nat) : (l.take i ++ [x] ++ l.drop i).erase x = l := by
  rw [List.append_assoc, List.erase_append_right _ (fun h => hx (List.mem_of_mem_take h))]
  simp
theorem mid_erase {l : List Int} (hn : l.Nodup) {x : Int} (hx : x ∈ l) : (l.erase x).take (l.idxOf x) ++ [x] ++ (l.erase x).drop (l.idxOf x) = l := by
  have hlt : l.idxOf x < l.length := List.idxOf_lt_length_of_mem hx
  rw [List.erase_eq_eraseIdx_of_idxOf rfl, List.eraseIdx_eq_take_drop_succ]
  generalize hi : l.idxOf x = i at *
  have hx : l[i] = x := by subst hi; exact List.getElem_idxOf hlt
  have ht : (l.take i).length = i := by rw [List.length_take]; omega
  rw [List.take_append_of_le_length (by omega), List.take_of_length_le (by omega), List.drop_append_of_le_length (by omega), List.drop_of_length_le (by omega), List.nil_append, ← hx, List.append_assoc]
  simp
/-- hung up and taken off again -/
theorem Tr.unlink_link {T : Tr} {p k at' : Nat} {pd kd : Nd} (hp : T.nodes[p]? = some (some pd)) (hk : T.nodes[k]? = some (some kd)) (hpk : p ≠ k) (hpar : kd.parent = -1) (hno : (k : Int) ∉ pd.kids) :
    (T.link p at' k pd kd).unlink p k { pd with kids := pd.kids.take at' ++ [(k : Int)] ++ pd.kids.drop at' } { kd with parent := p } = T := by
  rw [Tr.link_eq]
  unfold Tr.unlink
  rw [Tr.set2_set2 _ hpk]
  have e1 : ({ pd with kids := (pd.kids.take at' ++ [(k : Int)] ++ pd.kids.drop at').erase (k : Int) } : Nd) = pd := by rw [erase_mid hno]
  have e2 : ({ kd with parent := -1 } : Nd) = kd := by rw [← hpar]
  show T.set2 p k { pd with kids := (pd.kids.take at' ++ [(k : Int)] ++ pd.kids.drop at').erase (k : Int) } { kd with parent := -1 } = T
  rw [e1, e2]
  exact Tr.set2_self hpk hp hk
/-- taken off and hung up again -/
theorem Tr.link_unlink {T : Tr} {p k : Nat} {pd kd : Nd} (hp : T.nodes[p]? = some (some pd)) (hk : T.nodes[k]? = some (some kd)) (hpk : p ≠ k) (hpar : kd.parent = (p : Int)) (hn : pd.kids.Nodup) (hin : (k : Int) ∈ pd.kids) :
    (T.unlink p k pd kd).link p (pd.kids.idxOf (k : Int)) k { pd with kids := pd.kids.erase (k : Int) } { kd with parent := -1 } = T := by
  rw [Tr.link_eq]
  unfold Tr.unlink
  rw [Tr.set2_set2 _ hpk]
  have e1 : ({ pd with kids := (pd.kids.erase (k : Int)).take (pd.kids.idxOf (k : Int)) ++ [(k : Int)] ++ (pd.kids.erase (k : Int)).drop (pd.kids.idxOf (k : Int)) } : Nd) = pd := by rw [mid_erase hn hin]
  have e2 : ({ kd with parent := (p : Int) } : Nd) = kd := by rw [← hpar]
  show T.set2 p k { pd with kids := (pd.kids.erase (k : Int)).take (pd.kids.idxOf (k : Int)) ++ [(k : Int)] ++ (pd.kids.erase (k : Int)).drop (pd.kids.idxOf (k : Int)) } { kd with parent := (p : Int) } = T
  rw [e1, e2]
  exact Tr.set2_self hpk hp hk
/-- what lies within a node stays, whoever else is turned -/
theorem WF.plain_set2 {T : Tr} {d : Nat → Nat} (hw : WF T d) {p k : Nat} {pd kd pd' : Nd} {q : Int} (hp : T.nodes[p]? = some (some pd)) (hk : T.nodes[k]? = some (some kd)) (hin : T.within p k = false) :
    (T.set2 p k pd' { kd with parent := q }).plain k = T.plain k ∧ (T.set2 p k pd' { kd with parent := q }).height k = T.height k := by
  refine pln_same hw (o := k) (fun j jd hj hjk => ?_) hk 50 k kd hk (hw.within_self hk)
  rw [Tr.set2_get hp hk]
  by_cases h1 : j = k
  · subst h1
    obtain rfl := some_inj2 hk hj
    exact ⟨_, if_pos rfl, rfl, rfl, rfl, rfl⟩
  · rw [if_neg h1]
    by_cases h2 : j = p
    · subst h2; rw [hjk] at hin; cases hin
    · rw [if_neg h2]; exact ⟨jd, hj, rfl, rfl, rfl, rfl⟩
theorem fold_top (F : Int → Int) (b : Int) : ∀ (l : List Int) (z : Int), z ≤ b → (∀ k ∈ l, F k ≤ b) → l.foldl (fun h k => max h (F k)) z ≤ b := by
  intro l
  induction l with
  | nil => intro z hz _; exact hz
  | cons k r ih =>
    intro z hz hk
    have := hk k (by simp)
    exact ih _ (show max z (F k) ≤ b by omega) fun x hx => hk x (by simp [hx])
/-- the deepest within a node is not too deep -/
theorem WF.high_deep {T : Tr} {d : Nat → Nat} (hw : WF T d) : ∀ (f i : Nat) (nd : Nd), T.nodes[i]? = some (some nd) → (d i : Int) + T.hgt f i ≤ T.deep := by
  intro f
  induction f with
  | zero => intro i nd h; have := hw.deep i nd h; show (d i : Int) + 0 ≤ T.deep; omega
  | succ f ih =>
    intro i nd h
    rw [hgt_step T f h]
    have := hw.deep i nd h
    have := fold_top (fun k => T.hgt f k + 1) (T.deep - d i) nd.kids 0 (by omega) fun k hk => by
      obtain ⟨n, hn⟩ := List.getElem?_of_mem hk
      obtain ⟨j, kd, rfl, hj, hjp, hjd⟩ := hw.kid h hn
      have := ih j kd hj
      show T.hgt f j + 1 ≤ T.deep - d i
      omega
    omega
/-- a parent is not within its kid -/
theorem WF.up_out {T : Tr} {d : Nat → Nat} (hw : WF T d) {p k : Nat} {pd kd : Nd} (hp : T.nodes[p]? = some (some pd)) (hk : T.nodes[k]? = some (some kd)) (hpar : kd.parent = (p : Int)) : T.within p k = false ∧ d k = d p + 1 ∧ (k : Int) ∈ pd.kids ∧ p ≠ k := by
  have hd : d k = d p + 1 ∧ (k : Int) ∈ pd.kids := by
    rcases hw.up k kd hk with ⟨h3, h4⟩ | ⟨q, qd, h3, h4, h5, h6⟩
    · omega
    · obtain rfl : q = p := by omega
      obtain rfl := some_inj2 hp h4
      exact ⟨h5, h6⟩
  refine ⟨?_, hd.1, hd.2, fun e => by subst e; omega⟩
  cases hin : T.within p k with
  | false => rfl
  | true => have := (hw.within_depth p pd hp hin).1; omega
end Go.Proofs.Ytiglflmjidikpaa
