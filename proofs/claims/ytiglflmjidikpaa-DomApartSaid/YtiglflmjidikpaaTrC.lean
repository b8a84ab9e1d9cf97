/- Trees in plain words: a drop (cut) keeps what holds of every tree; what is left when the kids of a node are dropped one by one. No program in sight. -/
import Derived.Test.YtiglflmjidikpaaTrB
namespace Go.Proofs.Ytiglflmjidikpaa
open Go Go.RowKit Go.BigFrame
set_option linter.unusedVariables false
set_option linter.unusedSimpArgs false

/-- who is within one of these, in the tree T -/
def Tr.inAny (T : Tr) (ks : List Int) (j : Nat) : Bool := ks.any fun k => T.within j k
/-- the nodes of T without those that q says -/
def Tr.rid (T : Tr) (q : Nat → Bool) : Tr :=
  let l := T.nodes.mapIdx fun j x => if q j then none else x
  { T with nodes := l, count := ((l.countP Option.isSome : Nat) : Int) }
theorem Tr.rid_get (T : Tr) (q : Nat → Bool) (j : Nat) : (T.rid q).nodes[j]? = (T.nodes[j]?).map fun x => if q j then none else x := by
  show (T.nodes.mapIdx _)[j]? = _
  rw [List.getElem?_mapIdx]
theorem Tr.rid_some {T : Tr} {q : Nat → Bool} {j : Nat} {nd : Nd} : (T.rid q).nodes[j]? = some (some nd) ↔ q j = false ∧ T.nodes[j]? = some (some nd) := by
  rw [Tr.rid_get]
  cases h : T.nodes[j]? with
  | none => simp
  | some x =>
    cases hq : q j with
    | true => simp
    | false => simp
theorem Tr.rid_none {T : Tr} (hc : T.count = ((T.nodes.countP Option.isSome : Nat) : Int)) : T.rid (fun _ => false) = T := by
  unfold Tr.rid
  have e : (T.nodes.mapIdx fun j x => if (fun _ : Nat => false) j then none else x) = T.nodes := by
    apply List.ext_getElem?
    intro j
    rw [List.getElem?_mapIdx]
    cases T.nodes[j]? <;> simp
  simp only [e]
  rw [← hc]
theorem Tr.rid_congr {T : Tr} {q q' : Nat → Bool} (h : ∀ (j : Nat) (nd : Nd), T.nodes[j]? = some (some nd) → q j = q' j) : T.rid q = T.rid q' := by
  unfold Tr.rid
  have e : (T.nodes.mapIdx fun j x => if q j then none else x) = (T.nodes.mapIdx fun j x => if q' j then none else x) := by
    apply List.ext_getElem?
    intro j
    rw [List.getElem?_mapIdx, List.getElem?_mapIdx]
    cases hx : T.nodes[j]? with
    | none => rfl
    | some x =>
      cases x with
      | none => simp
      | some nd => rw [h j nd hx]
  simp only [e]
theorem Tr.rid_len (T : Tr) (q : Nat → Bool) : (T.rid q).nodes.length = T.nodes.length := by
  show (T.nodes.mapIdx _).length = _
  exact List.length_mapIdx
theorem countP_set_none {l : List (Option Nd)} {p : Nat} {pd : Nd} (hp : l[p]? = some (some pd)) : (l.set p none).countP Option.isSome + 1 = l.countP Option.isSome := by
  obtain ⟨hlt, he⟩ := List.getElem?_eq_some_iff.1 hp
  have hpos : 0 < l.countP Option.isSome := List.countP_pos_iff.2 ⟨some pd, by rw [← he]; exact List.getElem_mem hlt, rfl⟩
  rw [List.countP_set hlt, he]
  simp
  omega
/-- one node more is none -/
theorem Tr.rid_set {T : Tr} {q : Nat → Bool} {i : Nat} {nd : Nd} (hi : T.nodes[i]? = some (some nd)) (hq : q i = false) :
    { T.rid q with nodes := (T.rid q).nodes.set i none, count := (T.rid q).count - 1 } = T.rid fun j => decide (j = i) || q j := by
  have hg : (T.rid q).nodes[i]? = some (some nd) := Tr.rid_some.2 ⟨hq, hi⟩
  have hil := (List.getElem?_eq_some_iff.1 hg).1
  have e : (T.rid q).nodes.set i none = (T.rid fun j => decide (j = i) || q j).nodes := by
    apply List.ext_getElem?
    intro j
    rw [List.getElem?_set, Tr.rid_get, Tr.rid_get]
    by_cases h : i = j
    · subst h
      rw [if_pos rfl, if_pos hil, hi]
      simp
    · rw [if_neg h]
      have : decide (j = i) = false := by simp; omega
      rw [this, Bool.false_or]
  have hc := countP_set_none hg
  show Tr.mk T.cap T.deep ((T.rid q).count - 1) ((T.rid q).nodes.set i none) = Tr.mk T.cap T.deep (T.rid _).count (T.rid fun j => decide (j = i) || q j).nodes
  rw [e] at hc ⊢
  have e2 : (T.rid q).count - 1 = (T.rid fun j => decide (j = i) || q j).count := by
    show (((T.rid q).nodes.countP Option.isSome : Nat) : Int) - 1 = (((T.rid fun j => decide (j = i) || q j).nodes.countP Option.isSome : Nat) : Int)
    omega
  rw [e2]
/-- a root's tree is dropped: the others stand as they stood -/
theorem WF.rid {T : Tr} {d : Nat → Nat} (hw : WF T d) {i : Nat} {nd : Nd} (hi : T.nodes[i]? = some (some nd)) (hp : nd.parent = -1) (h0 : i ≠ 0) : WF (T.rid fun j => T.within j i) d := by
  have hs := hw.small
  have hcle : (T.rid fun j => T.within j i).count ≤ T.count := by
    show (((T.rid fun j => T.within j i).nodes.countP Option.isSome : Nat) : Int) ≤ T.count
    rw [hw.count]
    have : (T.rid fun j => T.within j i).nodes.countP Option.isSome ≤ T.nodes.countP Option.isSome := by
      show (T.nodes.mapIdx fun j x => if T.within j i then none else x).countP Option.isSome ≤ _
      generalize T.nodes = l
      suffices h : ∀ (l : List (Option Nd)) (q : Nat → Bool), (l.mapIdx fun j x => if q j then none else x).countP Option.isSome ≤ l.countP Option.isSome from h l _
      intro l
      induction l with
      | nil => intro q; simp
      | cons x r ih =>
        intro q
        rw [List.mapIdx_cons, List.countP_cons, List.countP_cons]
        have := ih fun j => q (j + 1)
        have h2 : (if (if q 0 then none else x).isSome = true then 1 else 0) ≤ (if x.isSome = true then 1 else 0) := by
          cases q 0 <;> cases x <;> simp
        omega
    omega
  have hroot : T.within (0 : Nat) i = false := by
    obtain ⟨r, r1, r2, r3⟩ := hw.root
    rw [hw.within_root r1 r2]
    simp; omega
  refine ⟨⟨hs.cap0, hs.cap1, hs.deep0, hs.deep1, by show (0 : Int) ≤ ((_ : Nat) : Int); omega, by have := hs.count1; show (T.rid _).count ≤ T.cap; omega, by rw [Tr.rid_len]; exact hs.len⟩, ?_, ?_, ?_, ?_, ?_, rfl⟩
  · obtain ⟨r, r1, r2, r3⟩ := hw.root
    exact ⟨r, Tr.rid_some.2 ⟨hroot, r1⟩, r2, r3⟩
  · intro j jd h; exact hw.deep j jd (Tr.rid_some.1 h).2
  · intro j jd h
    obtain ⟨hq, hj⟩ := Tr.rid_some.1 h
    rcases hw.up j jd hj with h3 | ⟨p, pd, h3, h4, h5, h6⟩
    · exact .inl h3
    · right
      refine ⟨p, pd, h3, Tr.rid_some.2 ⟨?_, h4⟩, h5, h6⟩
      rw [hw.within_step hj, h3] at hq
      split at hq
      · cases hq
      · exact hq
  · intro j jd h
    obtain ⟨hq, hj⟩ := Tr.rid_some.1 h
    refine ⟨(hw.kids j jd hj).1, fun k hk => ?_⟩
    obtain ⟨m, kd, rfl, hm, hmp⟩ := (hw.kids j jd hj).2 k hk
    refine ⟨m, kd, rfl, Tr.rid_some.2 ⟨?_, hm⟩, hmp⟩
    show T.within m i = false
    rw [hw.within_step hm, hmp]
    split
    · rename_i e
      obtain rfl : m = i := by omega
      obtain rfl := some_inj2 hi hm
      omega
    · exact hq
  · intro j jd h; exact hw.text j jd (Tr.rid_some.1 h).2
/-- the kids of a node, one by one, and the node: all within it -/
theorem WF.inAny_kids {T : Tr} {d : Nat → Nat} (hw : WF T d) {i : Nat} {nd : Nd} (hi : T.nodes[i]? = some (some nd)) {j : Nat} {jd : Nd} (hj : T.nodes[j]? = some (some jd)) :
    (decide (j = i) || T.inAny nd.kids j) = T.within j i := by
  rw [Bool.eq_iff_iff]
  unfold Tr.inAny
  simp only [Bool.or_eq_true, decide_eq_true_eq, List.any_eq_true]
  constructor
  · rintro (rfl | ⟨k, hk, h⟩)
    · exact hw.within_self hi
    · exact hw.kid_within hi hk j jd hj h
  · intro h
    rcases hw.within_kid hi j jd hj h with h | ⟨k, hk, h⟩
    · exact .inl h
    · exact .inr ⟨k, hk, h⟩
/-- a later kid's tree is apart from those of earlier ones -/
theorem WF.kids_apart {T : Tr} {d : Nat → Nat} (hw : WF T d) {i : Nat} {nd : Nd} (hi : T.nodes[i]? = some (some nd)) {a b : Nat} (ha : (a : Int) ∈ nd.kids) (hb : (b : Int) ∈ nd.kids) (hab : a ≠ b) :
    ∀ (j : Nat) (jd : Nd), T.nodes[j]? = some (some jd) → T.within j a = true → T.within j b = true → False := by
  obtain ⟨_, ad, ea, had, hap⟩ := (hw.kids i nd hi).2 _ ha
  obtain ⟨_, bd, eb, hbd, hbp⟩ := (hw.kids i nd hi).2 _ hb
  have ea' := Int.ofNat.inj ea
  have eb' := Int.ofNat.inj eb
  subst ea' eb'
  have hda : d a = d i + 1 := by
    rcases hw.up a ad had with ⟨h3, h4⟩ | ⟨p, pd, h3, h4, h5, h6⟩
    · omega
    · obtain rfl : p = i := by omega
      exact h5
  have hdb : d b = d i + 1 := by
    rcases hw.up b bd hbd with ⟨h3, h4⟩ | ⟨p, pd, h3, h4, h5, h6⟩
    · omega
    · obtain rfl : p = i := by omega
      exact h5
  refine hw.induct _ (fun j jd h hp hd h1 h2 => ?_) (fun j jd p pd h hp hpd hd ih h1 h2 => ?_)
  · rw [hw.within_root h hp] at h1 h2
    have := of_decide_eq_true h1; have := of_decide_eq_true h2; omega
  · rw [hw.within_step h, hp] at h1 h2
    by_cases e1 : (j : Int) = a
    · have e1' : j = a := by omega
      subst e1'
      rw [if_neg (by omega)] at h2
      have := hw.within_depth p pd hpd h2
      omega
    · rw [if_neg e1] at h1
      by_cases e2 : (j : Int) = b
      · have e2' : j = b := by omega
        subst e2'
        have := hw.within_depth p pd hpd h1
        omega
      · rw [if_neg e2] at h2
        exact ih h1 h2
end Go.Proofs.Ytiglflmjidikpaa
