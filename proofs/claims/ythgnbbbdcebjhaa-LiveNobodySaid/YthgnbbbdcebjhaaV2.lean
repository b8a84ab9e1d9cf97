/- what of Base D1 D2 D3 D4 D5 D6 D7 D8 D9 D11 OwnN Plain D10 Sit Apart GraftP OrdA OrdB OrdP OrdC PtsA PtsB PtsD this seat can say -/
import Derived.Test.YthgnbbbdcebjhaaV1

namespace Go.Proofs.Ythgnbbbdcebjhaa
open Go Go.RowKit Go.BigFrame
set_option linter.unusedVariables false
set_option linter.unusedSimpArgs false

def Tr.set2 (T : Tr) (p k : Nat) (pd kd : Nd) : Tr := { T with nodes := (T.nodes.set p (some pd)).set k (some kd) }
theorem Tr.set2_get {T : Tr} {p k : Nat} {pd kd pd' kd' : Nd} (hp : T.nodes[p]? = some (some pd)) (hk : T.nodes[k]? = some (some kd)) (j : Nat) :
    (T.set2 p k pd' kd').nodes[j]? = if j = k then some (some kd') else if j = p then some (some pd') else T.nodes[j]? := by
  have hpl := (List.getElem?_eq_some_iff.1 hp).1
  have hkl := (List.getElem?_eq_some_iff.1 hk).1
  show ((T.nodes.set p (some pd')).set k (some kd'))[j]? = _
  rw [List.getElem?_set]
  by_cases h1 : k = j
  · rw [if_pos h1, if_pos h1.symm, if_pos (by rw [List.length_set]; exact hkl)]
  · rw [if_neg h1, if_neg (Ne.symm h1), List.getElem?_set]
    by_cases h2 : p = j
    · rw [if_pos h2, if_pos h2.symm, if_pos hpl]
    · rw [if_neg h2, if_neg (Ne.symm h2)]
theorem countP_set_some {l : List (Option Nd)} {p : Nat} {pd pd' : Nd} (hp : l[p]? = some (some pd)) : (l.set p (some pd')).countP Option.isSome = l.countP Option.isSome := by
  obtain ⟨hlt, he⟩ := List.getElem?_eq_some_iff.1 hp
  have hpos : 0 < l.countP Option.isSome := List.countP_pos_iff.2 ⟨some pd, by rw [← he]; exact List.getElem_mem hlt, rfl⟩
  rw [List.countP_set hlt, he]
  simp
  omega
theorem Tr.set2_count {T : Tr} {p k : Nat} {pd kd pd' kd' : Nd} (hp : T.nodes[p]? = some (some pd)) (hk : T.nodes[k]? = some (some kd)) (hpk : p ≠ k) :
    (T.set2 p k pd' kd').nodes.countP Option.isSome = T.nodes.countP Option.isSome := by
  have h2 : (T.nodes.set p (some pd'))[k]? = some (some kd) := by rw [List.getElem?_set, if_neg hpk]; exact hk
  show ((T.nodes.set p (some pd')).set k (some kd')).countP Option.isSome = _
  rw [countP_set_some h2, countP_set_some hp]
theorem some_inj2 {x : Option (Option Nd)} {a b : Nd} (h : x = some (some a)) (k : x = some (some b)) : a = b := by
  rw [h] at k; injection k with k; injection k

theorem Tr.link_eq (T : Tr) (p at' k : Nat) (pd kd : Nd) : T.link p at' k pd kd = T.set2 p k { pd with kids := pd.kids.take at' ++ [(k : Int)] ++ pd.kids.drop at' } { kd with parent := p } := rfl
theorem WF.link {T : Tr} {d : Nat → Nat} (hw : WF T d) {p k at' : Nat} {pd kd : Nd} (hp : T.nodes[p]? = some (some pd)) (hk : T.nodes[k]? = some (some kd))
    (htag : pd.tag ≠ 0) (hk0 : k ≠ 0) (hpar : kd.parent = -1) (hin : T.within p k = false) (hdp : (d p : Int) + 1 + T.height k ≤ T.deep) :
    WF (T.link p at' k pd kd) (fun j => if T.within j k then d j + d p + 1 else d j) := by
  have hpk : p ≠ k := fun e => by subst e; rw [hw.within_self hp] at hin; cases hin
  have hg := fun j => Tr.set2_get (pd' := { pd with kids := pd.kids.take at' ++ [(k : Int)] ++ pd.kids.drop at' }) (kd' := { kd with parent := p }) hp hk j
  have hck := Tr.set2_count (pd' := { pd with kids := pd.kids.take at' ++ [(k : Int)] ++ pd.kids.drop at' }) (kd' := { kd with parent := p }) hp hk hpk
  rw [← Tr.link_eq] at hg hck
  have hmem : ∀ x : Int, x ∈ pd.kids.take at' ++ [(k : Int)] ++ pd.kids.drop at' ↔ x = k ∨ x ∈ pd.kids := fun x => by
    conv => rhs; rw [← List.take_append_drop at' pd.kids]
    simp only [List.mem_append, List.mem_singleton]
    constructor
    · rintro ((h | h) | h)
      · exact .inr (.inl h)
      · exact .inl h
      · exact .inr (.inr h)
    · rintro (h | h | h)
      · exact .inl (.inr h)
      · exact .inl (.inl h)
      · exact .inr h
  have hdk : d k = 0 := by
    rcases hw.up k kd hk with ⟨h3, h4⟩ | ⟨q, qd, h3, h4, h5, h6⟩
    · exact h4
    · omega
  have hkk := hw.within_self hk
  have hknot : (k : Int) ∉ pd.kids := fun h => by
    have := hw.kid_parent hp h hk; omega
  have wst : ∀ (j : Nat) (nd : Nd), T.nodes[j]? = some (some nd) → j ≠ k → T.within j k = T.within nd.parent k := fun j nd h hne => by
    rw [hw.within_step h, if_neg (by omega)]
  -- old nodes stand where they stood
  have hkeep : ∀ (j : Nat) (jd : Nd), T.nodes[j]? = some (some jd) → ∃ jd', (T.link p at' k pd kd).nodes[j]? = some (some jd') ∧ (j ≠ k → jd'.parent = jd.parent) ∧ (∀ x ∈ jd.kids, x ∈ jd'.kids) := fun j jd h => by
    rw [hg]
    by_cases h1 : j = k
    · subst h1
      rw [if_pos rfl]
      obtain rfl := some_inj2 hk h
      exact ⟨_, rfl, fun h => absurd rfl h, fun x hx => hx⟩
    · rw [if_neg h1]
      by_cases h2 : j = p
      · subst h2
        rw [if_pos rfl]
        obtain rfl := some_inj2 hp h
        exact ⟨_, rfl, fun _ => rfl, fun x hx => (hmem x).2 (.inr hx)⟩
      · rw [if_neg h2]
        exact ⟨jd, h, fun _ => rfl, fun x hx => hx⟩
  have hcap : (T.link p at' k pd kd).cap = T.cap := rfl
  have hdeep : (T.link p at' k pd kd).deep = T.deep := rfl
  have hcount : (T.link p at' k pd kd).count = T.count := rfl
  have hs := hw.small
  refine ⟨⟨hs.cap0, hs.cap1, hs.deep0, hs.deep1, hs.count0, hs.count1, by show ((T.nodes.set p _).set k _).length ≤ 2000; rw [List.length_set, List.length_set]; exact hs.len⟩, ?_, ?_, ?_, ?_, ?_, ?_⟩
  · obtain ⟨r, r1, r2, r3⟩ := hw.root
    rw [hg, if_neg (Ne.symm hk0)]
    by_cases h0 : 0 = p
    · rw [if_pos h0]
      rw [h0] at r1
      obtain rfl := some_inj2 hp r1
      exact ⟨_, rfl, r2, r3⟩
    · rw [if_neg h0]; exact ⟨r, r1, r2, r3⟩
  · intro j nd h
    rw [hg] at h
    have hj : ∃ jd, T.nodes[j]? = some (some jd) := by
      by_cases h1 : j = k
      · exact ⟨kd, h1 ▸ hk⟩
      · rw [if_neg h1] at h
        by_cases h2 : j = p
        · exact ⟨pd, h2 ▸ hp⟩
        · rw [if_neg h2] at h; exact ⟨nd, h⟩
    obtain ⟨jd, hj⟩ := hj
    show (((if T.within j k then d j + d p + 1 else d j : Nat)) : Int) ≤ T.deep
    by_cases hwk : T.within j k = true
    · rw [if_pos hwk]
      have h1 := hw.depth_le hk j jd hj hwk
      have h2 : 0 ≤ T.height j := hgt_nn T 50 hj
      push_cast
      omega
    · rw [if_neg hwk]; exact hw.deep j jd hj
  · intro j nd h
    rw [hg] at h
    by_cases h1 : j = k
    · rw [if_pos h1] at h
      subst h1
      obtain rfl := some_inj2 rfl h
      right
      refine ⟨p, _, rfl, by rw [hg, if_neg hpk, if_pos rfl], ?_, (hmem _).2 (.inl rfl)⟩
      rw [if_pos hkk, if_neg (by rw [hin]; decide)]
      omega
    · rw [if_neg h1] at h
      -- an old node: j
      have hold : ∃ jd, T.nodes[j]? = some (some jd) ∧ nd.parent = jd.parent := by
        by_cases h2 : j = p
        · rw [if_pos h2] at h
          obtain rfl := some_inj2 rfl h
          exact ⟨pd, h2 ▸ hp, rfl⟩
        · rw [if_neg h2] at h; exact ⟨nd, h, rfl⟩
      obtain ⟨jd, hj, hpe⟩ := hold
      have hst := wst j jd hj h1
      rcases hw.up j jd hj with ⟨h3, h4⟩ | ⟨q, qd, h3, h4, h5, h6⟩
      · left
        rw [h3, within_neg] at hst
        exact ⟨by rw [hpe, h3], by rw [if_neg (by rw [hst]; decide)]; exact h4⟩
      · right
        obtain ⟨qd', k1, k2, k3⟩ := hkeep q qd h4
        refine ⟨q, qd', by rw [hpe, h3], k1, ?_, k3 _ h6⟩
        rw [h3] at hst
        rw [hst]
        split <;> omega
  · intro i nd h
    have hkid : ∀ (x : Int) (i : Nat) (id' : Nd), T.nodes[i]? = some (some id') → x ∈ id'.kids → ∃ (j : Nat) (jd : Nd), x = (j : Int) ∧ (T.link p at' k pd kd).nodes[j]? = some (some jd) ∧ jd.parent = (i : Int) := fun x i id' hi hx => by
      obtain ⟨j, jd, rfl, hj, hjp⟩ := (hw.kids i id' hi).2 x hx
      obtain ⟨jd', k1, k2, k3⟩ := hkeep j jd hj
      refine ⟨j, jd', rfl, k1, (k2 fun e => ?_).trans hjp⟩
      subst e
      obtain rfl := some_inj2 hk hj
      omega
    rw [hg] at h
    by_cases h1 : i = k
    · rw [if_pos h1] at h
      subst h1
      obtain rfl := some_inj2 rfl h
      exact ⟨(hw.kids i kd hk).1, fun x hx => hkid x i kd hk hx⟩
    · rw [if_neg h1] at h
      by_cases h2 : i = p
      · rw [if_pos h2] at h
        subst h2
        obtain rfl := some_inj2 rfl h
        refine ⟨?_, fun x hx => ?_⟩
        · have hn := (hw.kids i pd hp).1
          rw [← List.take_append_drop at' pd.kids, List.nodup_append] at hn
          have e : pd.kids.take at' ++ [(k : Int)] ++ pd.kids.drop at' = pd.kids.take at' ++ ((k : Int) :: pd.kids.drop at') := by simp
          show (pd.kids.take at' ++ [(k : Int)] ++ pd.kids.drop at').Nodup
          rw [e, List.nodup_append]
          refine ⟨hn.1, List.nodup_cons.2 ⟨fun h => hknot (List.mem_of_mem_drop h), hn.2.1⟩, fun a ha b hb => ?_⟩
          rcases List.mem_cons.1 hb with rfl | hb
          · exact fun e => hknot (e ▸ List.mem_of_mem_take ha)
          · exact hn.2.2 a ha b hb
        · rcases (hmem x).1 hx with rfl | hx
          · exact ⟨k, _, rfl, by rw [hg, if_pos rfl], rfl⟩
          · exact hkid x i pd hp hx
      · rw [if_neg h2] at h
        exact ⟨(hw.kids i nd h).1, fun x hx => hkid x i nd h hx⟩
  · intro i nd h
    rw [hg] at h
    by_cases h1 : i = k
    · rw [if_pos h1] at h
      obtain rfl := some_inj2 rfl h
      exact hw.text k kd hk
    · rw [if_neg h1] at h
      by_cases h2 : i = p
      · rw [if_pos h2] at h
        obtain rfl := some_inj2 rfl h
        have := hw.text p pd hp
        exact ⟨this.1, this.2.1, fun h => absurd h htag⟩
      · rw [if_neg h2] at h; exact hw.text i nd h
  · rw [hcount, hck]; exact hw.count

/-- the tree behind a removal -/
def Tr.unlink (T : Tr) (p k : Nat) (pd kd : Nd) : Tr := T.set2 p k { pd with kids := pd.kids.erase (k : Int) } { kd with parent := -1 }
theorem WF.unlink {T : Tr} {d : Nat → Nat} (hw : WF T d) {p k : Nat} {pd kd : Nd} (hp : T.nodes[p]? = some (some pd)) (hk : T.nodes[k]? = some (some kd)) (hpar : kd.parent = (p : Int)) :
    WF (T.unlink p k pd kd) (fun j => if T.within j k then d j - d k else d j) := by
  have hdk : d k = d p + 1 ∧ (k : Int) ∈ pd.kids := by
    rcases hw.up k kd hk with ⟨h3, h4⟩ | ⟨q, qd, h3, h4, h5, h6⟩
    · omega
    · obtain rfl : q = p := by omega
      obtain rfl := some_inj2 hp h4
      exact ⟨h5, h6⟩
  have hpk : p ≠ k := fun e => by subst e; omega
  have hk0 : k ≠ 0 := fun e => by
    subst e
    obtain ⟨r, r1, r2, r3⟩ := hw.root
    obtain rfl := some_inj2 hk r1
    omega
  have hin : T.within p k = false := by
    cases hh : T.within p k with
    | false => rfl
    | true => have := (hw.within_depth p pd hp hh).1; omega
  have hg := fun j => Tr.set2_get (pd' := { pd with kids := pd.kids.erase (k : Int) }) (kd' := { kd with parent := -1 }) hp hk j
  have hck := Tr.set2_count (pd' := { pd with kids := pd.kids.erase (k : Int) }) (kd' := { kd with parent := -1 }) hp hk hpk
  have hnd := (hw.kids p pd hp).1
  have hmem : ∀ x : Int, x ∈ pd.kids.erase (k : Int) ↔ x ≠ k ∧ x ∈ pd.kids := fun x => hnd.mem_erase_iff
  have hkk := hw.within_self hk
  have wst : ∀ (j : Nat) (nd : Nd), T.nodes[j]? = some (some nd) → j ≠ k → T.within j k = T.within nd.parent k := fun j nd h hne => by
    rw [hw.within_step h, if_neg (by omega)]
  have hkeep : ∀ (j : Nat) (jd : Nd), T.nodes[j]? = some (some jd) → ∃ jd', (T.unlink p k pd kd).nodes[j]? = some (some jd') ∧ (j ≠ k → jd'.parent = jd.parent) ∧ (∀ x ∈ jd.kids, x ≠ k → x ∈ jd'.kids) := fun j jd h => by
    show ∃ jd', (T.set2 p k _ _).nodes[j]? = _ ∧ _
    rw [hg]
    by_cases h1 : j = k
    · subst h1
      rw [if_pos rfl]
      obtain rfl := some_inj2 hk h
      exact ⟨_, rfl, fun h => absurd rfl h, fun x hx _ => hx⟩
    · rw [if_neg h1]
      by_cases h2 : j = p
      · subst h2
        rw [if_pos rfl]
        obtain rfl := some_inj2 hp h
        exact ⟨_, rfl, fun _ => rfl, fun x hx hne => (hmem x).2 ⟨hne, hx⟩⟩
      · rw [if_neg h2]
        exact ⟨jd, h, fun _ => rfl, fun x hx _ => hx⟩
  have hs := hw.small
  have hg' : ∀ j, (T.unlink p k pd kd).nodes[j]? = if j = k then some (some { kd with parent := -1 }) else if j = p then some (some { pd with kids := pd.kids.erase (k : Int) }) else T.nodes[j]? := hg
  refine ⟨⟨hs.cap0, hs.cap1, hs.deep0, hs.deep1, hs.count0, hs.count1, by show ((T.nodes.set p _).set k _).length ≤ 2000; rw [List.length_set, List.length_set]; exact hs.len⟩, ?_, ?_, ?_, ?_, ?_, ?_⟩
  · obtain ⟨r, r1, r2, r3⟩ := hw.root
    rw [hg', if_neg (Ne.symm hk0)]
    by_cases h0 : 0 = p
    · rw [if_pos h0]
      rw [h0] at r1
      obtain rfl := some_inj2 hp r1
      exact ⟨_, rfl, r2, r3⟩
    · rw [if_neg h0]; exact ⟨r, r1, r2, r3⟩
  · intro j nd h
    rw [hg'] at h
    have hj : ∃ jd, T.nodes[j]? = some (some jd) := by
      by_cases h1 : j = k
      · exact ⟨kd, h1 ▸ hk⟩
      · rw [if_neg h1] at h
        by_cases h2 : j = p
        · exact ⟨pd, h2 ▸ hp⟩
        · rw [if_neg h2] at h; exact ⟨nd, h⟩
    obtain ⟨jd, hj⟩ := hj
    have h1 := hw.deep j jd hj
    show (((if T.within j k then d j - d k else d j : Nat)) : Int) ≤ T.deep
    split <;> omega
  · intro j nd h
    rw [hg'] at h
    by_cases h1 : j = k
    · rw [if_pos h1] at h
      subst h1
      obtain rfl := some_inj2 rfl h
      left
      exact ⟨rfl, by rw [if_pos hkk]; omega⟩
    · rw [if_neg h1] at h
      have hold : ∃ jd, T.nodes[j]? = some (some jd) ∧ nd.parent = jd.parent := by
        by_cases h2 : j = p
        · rw [if_pos h2] at h
          obtain rfl := some_inj2 rfl h
          exact ⟨pd, h2 ▸ hp, rfl⟩
        · rw [if_neg h2] at h; exact ⟨nd, h, rfl⟩
      obtain ⟨jd, hj, hpe⟩ := hold
      have hst := wst j jd hj h1
      rcases hw.up j jd hj with ⟨h3, h4⟩ | ⟨q, qd, h3, h4, h5, h6⟩
      · left
        rw [h3, within_neg] at hst
        exact ⟨by rw [hpe, h3], by rw [if_neg (by rw [hst]; decide)]; exact h4⟩
      · right
        obtain ⟨qd', k1, k2, k3⟩ := hkeep q qd h4
        refine ⟨q, qd', by rw [hpe, h3], k1, ?_, k3 _ h6 (by omega)⟩
        rw [h3] at hst
        rw [hst]
        by_cases hq : T.within q k = true
        · have := (hw.within_depth q qd h4 hq).1
          rw [if_pos hq, if_pos hq]; omega
        · rw [if_neg hq, if_neg hq]; exact h5
  · intro i nd h
    have hkid : ∀ (x : Int) (i : Nat) (id' : Nd), T.nodes[i]? = some (some id') → x ∈ id'.kids → x ≠ k → ∃ (j : Nat) (jd : Nd), x = (j : Int) ∧ (T.unlink p k pd kd).nodes[j]? = some (some jd) ∧ jd.parent = (i : Int) := fun x i id' hi hx hxk => by
      obtain ⟨j, jd, rfl, hj, hjp⟩ := (hw.kids i id' hi).2 x hx
      obtain ⟨jd', k1, k2, k3⟩ := hkeep j jd hj
      exact ⟨j, jd', rfl, k1, (k2 fun e => hxk (by rw [e])).trans hjp⟩
    rw [hg'] at h
    by_cases h1 : i = k
    · rw [if_pos h1] at h
      subst h1
      obtain rfl := some_inj2 rfl h
      refine ⟨(hw.kids i kd hk).1, fun x hx => hkid x i kd hk hx fun e => ?_⟩
      have := hw.kid_parent hk (e ▸ hx) hk
      omega
    · rw [if_neg h1] at h
      by_cases h2 : i = p
      · rw [if_pos h2] at h
        subst h2
        obtain rfl := some_inj2 rfl h
        exact ⟨hnd.erase _, fun x hx => hkid x i pd hp ((hmem x).1 hx).2 ((hmem x).1 hx).1⟩
      · rw [if_neg h2] at h
        refine ⟨(hw.kids i nd h).1, fun x hx => hkid x i nd h hx fun e => ?_⟩
        have := hw.kid_parent h (e ▸ hx) hk
        omega
  · intro i nd h
    rw [hg'] at h
    by_cases h1 : i = k
    · rw [if_pos h1] at h
      obtain rfl := some_inj2 rfl h
      exact hw.text k kd hk
    · rw [if_neg h1] at h
      by_cases h2 : i = p
      · rw [if_pos h2] at h
        obtain rfl := some_inj2 rfl h
        have := hw.text p pd hp
        exact ⟨this.1, this.2.1, fun h => by rw [this.2.2 h]; rfl⟩
      · rw [if_neg h2] at h; exact hw.text i nd h
  · show T.count = _
    rw [hw.count]
    show _ = (((T.set2 p k _ _).nodes.countP Option.isSome : Nat) : Int)
    rw [hck]

/-- a node's own fields are others -/
theorem WF.setAt {T : Tr} {d : Nat → Nat} (hw : WF T d) {i : Nat} {nd nd' : Nd} (hi : T.nodes[i]? = some (some nd)) (hk : nd'.kids = nd.kids) (hp : nd'.parent = nd.parent) (h0 : 0 ≤ nd'.tag) (h1 : nd'.tag ≤ 16) (h2 : nd'.tag = 0 → nd.tag = 0) (h3 : i = 0 → nd'.tag = nd.tag) :
    WF { T with nodes := T.nodes.set i (some nd') } d := by
  have hil := (List.getElem?_eq_some_iff.1 hi).1
  have hg : ∀ j, (T.nodes.set i (some nd'))[j]? = if j = i then some (some nd') else T.nodes[j]? := fun j => by
    rw [List.getElem?_set]
    by_cases h : i = j
    · rw [if_pos h, if_pos h.symm, if_pos hil]
    · rw [if_neg h, if_neg (Ne.symm h)]
  have hkeep : ∀ (j : Nat) (jd : Nd), T.nodes[j]? = some (some jd) → ∃ jd', (T.nodes.set i (some nd'))[j]? = some (some jd') ∧ jd'.parent = jd.parent ∧ jd'.kids = jd.kids := fun j jd h => by
    rw [hg]
    by_cases e : j = i
    · subst e
      rw [if_pos rfl]
      obtain rfl := some_inj2 hi h
      exact ⟨_, rfl, hp, hk⟩
    · rw [if_neg e]; exact ⟨jd, h, rfl, rfl⟩
  have hback : ∀ (j : Nat) (jd' : Nd), (T.nodes.set i (some nd'))[j]? = some (some jd') → ∃ jd, T.nodes[j]? = some (some jd) ∧ jd'.parent = jd.parent ∧ jd'.kids = jd.kids := fun j jd' h => by
    rw [hg] at h
    by_cases e : j = i
    · subst e
      rw [if_pos rfl] at h
      obtain rfl := some_inj2 rfl h
      exact ⟨nd, hi, hp, hk⟩
    · rw [if_neg e] at h; exact ⟨jd', h, rfl, rfl⟩
  have hs := hw.small
  refine ⟨⟨hs.cap0, hs.cap1, hs.deep0, hs.deep1, hs.count0, hs.count1, by show (T.nodes.set i _).length ≤ 2000; rw [List.length_set]; exact hs.len⟩, ?_, ?_, ?_, ?_, ?_, ?_⟩
  · obtain ⟨r, r1, r2, r3⟩ := hw.root
    show ∃ nd, (T.nodes.set i (some nd'))[0]? = some (some nd) ∧ _
    rw [hg]
    by_cases e : 0 = i
    · rw [if_pos e]
      rw [e] at r1
      obtain rfl := some_inj2 hi r1
      exact ⟨_, rfl, hp.trans r2, (h3 e.symm).trans r3⟩
    · rw [if_neg e]; exact ⟨r, r1, r2, r3⟩
  · intro j jd' h
    obtain ⟨jd, hj, _⟩ := hback j jd' h
    exact hw.deep j jd hj
  · intro j jd' h
    obtain ⟨jd, hj, e1, e2⟩ := hback j jd' h
    rcases hw.up j jd hj with ⟨h3, h4⟩ | ⟨q, qd, h3, h4, h5, h6⟩
    · exact .inl ⟨e1.trans h3, h4⟩
    · obtain ⟨qd', k1, k2, k3⟩ := hkeep q qd h4
      exact .inr ⟨q, qd', e1.trans h3, k1, h5, k3 ▸ h6⟩
  · intro j jd' h
    obtain ⟨jd, hj, e1, e2⟩ := hback j jd' h
    rw [e2]
    refine ⟨(hw.kids j jd hj).1, fun x hx => ?_⟩
    obtain ⟨q, qd, rfl, q1, q2⟩ := (hw.kids j jd hj).2 x hx
    obtain ⟨qd', k1, k2, k3⟩ := hkeep q qd q1
    exact ⟨q, qd', rfl, k1, k2.trans q2⟩
  · intro j jd' h
    have h' : (T.nodes.set i (some nd'))[j]? = some (some jd') := h
    rw [hg] at h'
    by_cases e : j = i
    · rw [if_pos e] at h'
      obtain rfl := some_inj2 rfl h'
      have := hw.text i nd hi
      exact ⟨h0, h1, fun h => by rw [hk]; exact this.2.2 (h2 h)⟩
    · rw [if_neg e] at h'; exact hw.text j jd' h'
  · show T.count = (((T.nodes.set i (some nd')).countP Option.isSome : Nat) : Int)
    rw [countP_set_some hi]; exact hw.count
end Go.Proofs.Ythgnbbbdcebjhaa

namespace Go.Proofs.Ythgnbbbdcebjhaa
open Go Go.RowKit Go.BigFrame
set_option linter.unusedVariables false
set_option linter.unusedSimpArgs false

/-- who is within one of these, in the tree T -/
def Tr.inAny (T : Tr) (ks : List Int) (j : Nat) : Bool := ks.any fun k => T.within j k
/-- the nodes of T without those that q says -/
def Tr.rid (T : Tr) (q : Nat → Bool) : Tr :=
  let l := T.nodes.mapIdx fun j x => if q j then none else x
  { T with nodes := l, count := ((l.countP Option.isSome : Nat) : Int) }
theorem Tr.rid_get (T : Tr) (q : Nat → Bool) (j : Nat) : (T.rid q).nodes[j]? = (T.nodes[j]?).map fun x => if q j then none else x := by
  show (T.nodes.mapIdx _)[j]? = _
  rw [List.getElem?_mapIdx]
theorem Tr.rid_some {T : Tr} {q : Nat → Bool} {j : Nat} {nd : Nd} : (T.rid q).nodes[j]? = some (some nd) ↔ q j = false ∧ T.nodes[j]? = some (some nd) := by
  rw [Tr.rid_get]
  cases h : T.nodes[j]? with
  | none => simp
  | some x =>
    cases hq : q j with
    | true => simp
    | false => simp
theorem Tr.rid_none {T : Tr} (hc : T.count = ((T.nodes.countP Option.isSome : Nat) : Int)) : T.rid (fun _ => false) = T := by
  unfold Tr.rid
  have e : (T.nodes.mapIdx fun j x => if (fun _ : Nat => false) j then none else x) = T.nodes := by
    apply List.ext_getElem?
    intro j
    rw [List.getElem?_mapIdx]
    cases T.nodes[j]? <;> simp
  simp only [e]
  rw [← hc]
theorem Tr.rid_congr {T : Tr} {q q' : Nat → Bool} (h : ∀ (j : Nat) (nd : Nd), T.nodes[j]? = some (some nd) → q j = q' j) : T.rid q = T.rid q' := by
  unfold Tr.rid
  have e : (T.nodes.mapIdx fun j x => if q j then none else x) = (T.nodes.mapIdx fun j x => if q' j then none else x) := by
    apply List.ext_getElem?
    intro j
    rw [List.getElem?_mapIdx, List.getElem?_mapIdx]
    cases hx : T.nodes[j]? with
    | none => rfl
    | some x =>
      cases x with
      | none => simp
      | some nd => rw [h j nd hx]
  simp only [e]
theorem Tr.rid_len (T : Tr) (q : Nat → Bool) : (T.rid q).nodes.length = T.nodes.length := by
  show (T.nodes.mapIdx _).length = _
  exact List.length_mapIdx
theorem countP_set_none {l : List (Option Nd)} {p : Nat} {pd : Nd} (hp : l[p]? = some (some pd)) : (l.set p none).countP Option.isSome + 1 = l.countP Option.isSome := by
  obtain ⟨hlt, he⟩ := List.getElem?_eq_some_iff.1 hp
  have hpos : 0 < l.countP Option.isSome := List.countP_pos_iff.2 ⟨some pd, by rw [← he]; exact List.getElem_mem hlt, rfl⟩
  rw [List.countP_set hlt, he]
  simp
  omega
/-- one node more is none -/
theorem Tr.rid_set {T : Tr} {q : Nat → Bool} {i : Nat} {nd : Nd} (hi : T.nodes[i]? = some (some nd)) (hq : q i = false) :
    { T.rid q with nodes := (T.rid q).nodes.set i none, count := (T.rid q).count - 1 } = T.rid fun j => decide (j = i) || q j := by
  have hg : (T.rid q).nodes[i]? = some (some nd) := Tr.rid_some.2 ⟨hq, hi⟩
  have hil := (List.getElem?_eq_some_iff.1 hg).1
  have e : (T.rid q).nodes.set i none = (T.rid fun j => decide (j = i) || q j).nodes := by
    apply List.ext_getElem?
    intro j
    rw [List.getElem?_set, Tr.rid_get, Tr.rid_get]
    by_cases h : i = j
    · subst h
      rw [if_pos rfl, if_pos hil, hi]
      simp
    · rw [if_neg h]
      have : decide (j = i) = false := by simp; omega
      rw [this, Bool.false_or]
  have hc := countP_set_none hg
  show Tr.mk T.cap T.deep ((T.rid q).count - 1) ((T.rid q).nodes.set i none) = Tr.mk T.cap T.deep (T.rid _).count (T.rid fun j => decide (j = i) || q j).nodes
  rw [e] at hc ⊢
  have e2 : (T.rid q).count - 1 = (T.rid fun j => decide (j = i) || q j).count := by
    show (((T.rid q).nodes.countP Option.isSome : Nat) : Int) - 1 = (((T.rid fun j => decide (j = i) || q j).nodes.countP Option.isSome : Nat) : Int)
    omega
  rw [e2]
/-- a root's tree is dropped: the others stand as they stood -/
theorem WF.rid {T : Tr} {d : Nat → Nat} (hw : WF T d) {i : Nat} {nd : Nd} (hi : T.nodes[i]? = some (some nd)) (hp : nd.parent = -1) (h0 : i ≠ 0) : WF (T.rid fun j => T.within j i) d := by
  have hs := hw.small
  have hcle : (T.rid fun j => T.within j i).count ≤ T.count := by
    show (((T.rid fun j => T.within j i).nodes.countP Option.isSome : Nat) : Int) ≤ T.count
    rw [hw.count]
    have : (T.rid fun j => T.within j i).nodes.countP Option.isSome ≤ T.nodes.countP Option.isSome := by
      show (T.nodes.mapIdx fun j x => if T.within j i then none else x).countP Option.isSome ≤ _
      generalize T.nodes = l
      suffices h : ∀ (l : List (Option Nd)) (q : Nat → Bool), (l.mapIdx fun j x => if q j then none else x).countP Option.isSome ≤ l.countP Option.isSome from h l _
      intro l
      induction l with
      | nil => intro q; simp
      | cons x r ih =>
        intro q
        rw [List.mapIdx_cons, List.countP_cons, List.countP_cons]
        have := ih fun j => q (j + 1)
        have h2 : (if (if q 0 then none else x).isSome = true then 1 else 0) ≤ (if x.isSome = true then 1 else 0) := by
          cases q 0 <;> cases x <;> simp
        omega
    omega
  have hroot : T.within (0 : Nat) i = false := by
    obtain ⟨r, r1, r2, r3⟩ := hw.root
    rw [hw.within_root r1 r2]
    simp; omega
  refine ⟨⟨hs.cap0, hs.cap1, hs.deep0, hs.deep1, by show (0 : Int) ≤ ((_ : Nat) : Int); omega, by have := hs.count1; show (T.rid _).count ≤ T.cap; omega, by rw [Tr.rid_len]; exact hs.len⟩, ?_, ?_, ?_, ?_, ?_, rfl⟩
  · obtain ⟨r, r1, r2, r3⟩ := hw.root
    exact ⟨r, Tr.rid_some.2 ⟨hroot, r1⟩, r2, r3⟩
  · intro j jd h; exact hw.deep j jd (Tr.rid_some.1 h).2
  · intro j jd h
    obtain ⟨hq, hj⟩ := Tr.rid_some.1 h
    rcases hw.up j jd hj with h3 | ⟨p, pd, h3, h4, h5, h6⟩
    · exact .inl h3
    · right
      refine ⟨p, pd, h3, Tr.rid_some.2 ⟨?_, h4⟩, h5, h6⟩
      rw [hw.within_step hj, h3] at hq
      split at hq
      · cases hq
      · exact hq
  · intro j jd h
    obtain ⟨hq, hj⟩ := Tr.rid_some.1 h
    refine ⟨(hw.kids j jd hj).1, fun k hk => ?_⟩
    obtain ⟨m, kd, rfl, hm, hmp⟩ := (hw.kids j jd hj).2 k hk
    refine ⟨m, kd, rfl, Tr.rid_some.2 ⟨?_, hm⟩, hmp⟩
    show T.within m i = false
    rw [hw.within_step hm, hmp]
    split
    · rename_i e
      obtain rfl : m = i := by omega
      obtain rfl := some_inj2 hi hm
      omega
    · exact hq
  · intro j jd h; exact hw.text j jd (Tr.rid_some.1 h).2
/-- the kids of a node, one by one, and the node: all within it -/
theorem WF.inAny_kids {T : Tr} {d : Nat → Nat} (hw : WF T d) {i : Nat} {nd : Nd} (hi : T.nodes[i]? = some (some nd)) {j : Nat} {jd : Nd} (hj : T.nodes[j]? = some (some jd)) :
    (decide (j = i) || T.inAny nd.kids j) = T.within j i := by
  rw [Bool.eq_iff_iff]
  unfold Tr.inAny
  simp only [Bool.or_eq_true, decide_eq_true_eq, List.any_eq_true]
  constructor
  · rintro (rfl | ⟨k, hk, h⟩)
    · exact hw.within_self hi
    · exact hw.kid_within hi hk j jd hj h
  · intro h
    rcases hw.within_kid hi j jd hj h with h | ⟨k, hk, h⟩
    · exact .inl h
    · exact .inr ⟨k, hk, h⟩
/-- a later kid's tree is apart from those of earlier ones -/
theorem WF.kids_apart {T : Tr} {d : Nat → Nat} (hw : WF T d) {i : Nat} {nd : Nd} (hi : T.nodes[i]? = some (some nd)) {a b : Nat} (ha : (a : Int) ∈ nd.kids) (hb : (b : Int) ∈ nd.kids) (hab : a ≠ b) :
    ∀ (j : Nat) (jd : Nd), T.nodes[j]? = some (some jd) → T.within j a = true → T.within j b = true → False := by
  obtain ⟨_, ad, ea, had, hap⟩ := (hw.kids i nd hi).2 _ ha
  obtain ⟨_, bd, eb, hbd, hbp⟩ := (hw.kids i nd hi).2 _ hb
  have ea' := Int.ofNat.inj ea
  have eb' := Int.ofNat.inj eb
  subst ea' eb'
  have hda : d a = d i + 1 := by
    rcases hw.up a ad had with ⟨h3, h4⟩ | ⟨p, pd, h3, h4, h5, h6⟩
    · omega
    · obtain rfl : p = i := by omega
      exact h5
  have hdb : d b = d i + 1 := by
    rcases hw.up b bd hbd with ⟨h3, h4⟩ | ⟨p, pd, h3, h4, h5, h6⟩
    · omega
    · obtain rfl : p = i := by omega
      exact h5
  refine hw.induct _ (fun j jd h hp hd h1 h2 => ?_) (fun j jd p pd h hp hpd hd ih h1 h2 => ?_)
  · rw [hw.within_root h hp] at h1 h2
    have := of_decide_eq_true h1; have := of_decide_eq_true h2; omega
  · rw [hw.within_step h, hp] at h1 h2
    by_cases e1 : (j : Int) = a
    · have e1' : j = a := by omega
      subst e1'
      rw [if_neg (by omega)] at h2
      have := hw.within_depth p pd hpd h2
      omega
    · rw [if_neg e1] at h1
      by_cases e2 : (j : Int) = b
      · have e2' : j = b := by omega
        subst e2'
        have := hw.within_depth p pd hpd h1
        omega
      · rw [if_neg e2] at h2
        exact ih h1 h2
end Go.Proofs.Ythgnbbbdcebjhaa

namespace Go.Proofs.Ythgnbbbdcebjhaa
open Go Go.RowKit Go.BigFrame
set_option linter.unusedVariables false
set_option linter.unusedSimpArgs false

set_option maxRecDepth 100000 in
set_option maxHeartbeats 4000000 in
theorem Insert_ok {w : World} {own : Ow} {ptr : Nat → Nat} {tb : Nat} {T : Tr} (hT : TreeAt w own ptr tb T) (hO : Owned own w) {d : Nat → Nat} (hw : WF T d) {p k at' : Nat} {pd kd : Nd} (hp : T.nodes[p]? = some (some pd)) (hk : T.nodes[k]? = some (some kd))
    (htag : (pd.tag == 0) = false) (hk0 : k ≠ 0) (hpar : kd.parent = -1) (hat : at' ≤ pd.kids.length) (hkl : pd.kids.length ≤ 60000) (hin : T.within p k = false) (hdp : (d p : Int) + 1 + T.hgt 50 k ≤ T.deep) (hsl : InsertsAt at' pd.kids) :
    Calls Try.prog 26 #[.pointer (some ⟨tb, 0, none⟩), .int .i64 p, .int .i64 at', .int .i64 k] w (ErrAfter own w tb 0 (T.link p at' k pd kd)) := by
  obtain ⟨avp, kvp, bp, op, _, hkp⟩ := hT.node p pd hp
  obtain ⟨avk, kvk, bk, ok, _, _⟩ := hT.node k kd hk
  obtain ⟨nv, hb, hob, _⟩ := hT.head
  obtain ⟨ka, kcap, rfl, kc1, kc2⟩ := hkp.len
  have hpk : p ≠ k := fun e => by
    subst e
    have : T.within p p = true := by
      show isIn T p 50 p = true
      rw [isIn_step _ _ hp, if_pos rfl]
    rw [this] at hin; cases hin
  have cp0 := cellOf bp (i := 0) (v := .int .i64 pd.tag) rfl
  have cp3 := cellOf bp (i := 3) (v := .slice ka pd.kids.length kcap) rfl
  have ck4 := cellOf bk (i := 4) (v := .int .i64 (-1)) (by rw [← hpar]; rfl)
  have ct1 := cellOf hb (i := 1) (v := .int .i64 T.deep) rfl
  have hkb : ((k : Int) == 0) = false := by simp; omega
  have hpb : (p : Int) ≤ 2000 := by have := (List.getElem?_eq_some_iff.1 hp).1; have := hw.small.len; omega
  obtain ⟨hh1, hh2⟩ := T.hgt_le 50 k
  have hd1 := hw.deep p pd hp
  have hd2 := hw.small.deep1
  have hpkb : ptr p ≠ ptr k := fun e => by rw [e, ok] at op; simp at op; omega
  have HP := Lib.hid (Tr.get_of hp)
  have HK := Lib.hid (Tr.get_of hk)
  have HNP := Lib.hid hp
  have HNK := Lib.hid hk
  have HW := Lib.hid hw
  have HT := Lib.hid hT
  have HO := Lib.hid hO
  have HIN := Lib.hid hin
  have HSL := Lib.hid hsl
  have HBP := Lib.hid bp
  have HBK := Lib.hid bk
  have HOP := Lib.hid op
  have HOK := Lib.hid ok
  have HKP := Lib.hid hkp
  have HPK := Lib.hid hpk
  have HPKB := Lib.hid hpkb
  have ct1' := fun u : ExtOf w => u.ext.cell ct1
  clear hp hk hw hT hO hin bp bk hb hkp hpar hk0 kc2 hsl op ok hob hpk hpkb
  go_enter Try.func26, Try.ntmps26
  go_wp2_with fail
  refine (get_some HT.out HP.out).mono ?_
  rintro e w' ⟨rfl, rfl⟩
  go_wp2_with fail
  refine (get_some HT.out HK.out).mono ?_
  rintro e w' ⟨rfl, rfl⟩
  go_wp2_with fail
  refine (within_any HT.out HW.out HNP.out (by omega)).mono ?_
  rintro e w' ⟨rfl, rfl⟩
  rw [HIN.out]
  go_wp2_with fail
  refine wp_region_ext (by kernel_rfl) (by kernel_rfl) ?_
  repeat (go_big_quiet_step (first
    | (go_at_call 48; exact inExt (RSame.val (Depth_some (HT.out.keep (ExtOf.ext _ |>.keep HO.out)) HW.out HNP.out)))
    | (go_at_call 56; exact inExt (RSame.val (Height_fuel (HT.out.keep (ExtOf.ext _ |>.keep HO.out)) HW.out 50 k kd HNK.out (by omega) (by omega))))))
  refine wpQuiet_nil ?_
  rintro _ ⟨u, rfl⟩
  obtain ⟨wu, xu⟩ := u
  show Exit.then _ _ Exit.normal _ wu
  clear ct1'
  replace cp3 := xu.cell cp3
  have XU := Lib.hid xu
  clear xu cp0 ck4 ct1
  go_wp2_with fail
  have hOu : Owned own wu := fun b hb => Nat.lt_of_lt_of_le (HO.out b hb) XU.out.size
  have hTu := HT.out.keep (XU.out.keep HO.out)
  have hins := HSL.out (wu.alloc (.cells #[.int .i64 k] 3)) (fun g => own g = some (4, p)) (.slice ka pd.kids.length kcap) wu.heap.size k
    (RowP.ext (RowP.move HKP.out fun g hg => ⟨XU.out.keep HO.out g (by simp [hg]), hg⟩) ((Ext.refl _).alloc _)) hkl hat (heap_alloc_new _ _) (fun h => by have := hOu wu.heap.size (by simp [h]); omega)
  refine hins.mono ?_
  clear hins
  rintro e w3 ⟨v', row, rfl, hr, hg, hrow⟩
  replace hrow : ∀ b, row = some b → own b = some (4, p) := hrow
  have hW : Step own w own (wu.alloc (.cells #[.int .i64 k] 3)) := (XU.out.step HO.out).ext ((Ext.refl _).alloc _)
  have hTW := hTu.keep (((Ext.refl wu).alloc (.cells #[.int .i64 k] 3)).keep hOu)
  obtain ⟨own1, hs1, hT1, hsame⟩ := kids_plain hW hTW HNP.out (pd.kids.take at' ++ [(k : Int)] ++ pd.kids.drop at') (fun _ => by rw [HOP.out]; simp) (fun b _ hb => by rw [hb]; simp) (by
      have hlen : (pd.kids.take at' ++ [(k : Int)] ++ pd.kids.drop at').length = pd.kids.length + 1 := by simp; omega
      rw [hlen]; simpa using hr) hg hrow
  have hkd : (T.nodes.set p (some { pd with kids := pd.kids.take at' ++ [(k : Int)] ++ pd.kids.drop at' }))[k]? = some (some kd) := by
    rw [List.getElem?_set, if_neg HPK.out]; exact HNK.out
  have hT2 := hT1.setParent hkd (p : Int)
  have hs2 := hs1.setCell (p := ⟨ptr k, 4, none⟩) (fun _ => by show own (ptr k) ≠ none; rw [HOK.out]; simp) (.int .i64 p)
  have hpl := HO.out (ptr p) (by rw [HOP.out]; simp)
  have hkl' := HO.out (ptr k) (by rw [HOK.out]; simp)
  have hsz := XU.out.size
  have hsame3 : ∀ b x, own b = some x → x ≠ (4, p) → w3.heap[b]? = w.heap[b]? := fun b x hb hx => by
    have hbl := HO.out b (by simp [hb])
    rw [hg.block b (by simp; omega) (fun h => by have := hrow b h.symm; rw [hb] at this; exact hx (Option.some.inj this)), Below.heap_alloc _ _ _ (by omega)]
    exact Below.block XU.out b hbl
  have bp3 := (hsame3 _ _ HOP.out (by simp)).trans HBP.out
  have bk3 := (hsame3 _ _ HOK.out (by simp)).trans HBK.out
  have cp3' := cellOf bp3 (i := 3) (v := .slice ka pd.kids.length kcap) rfl
  have fp3 := freeOf bp3 3
  have ck4' := cellOf bk3 (i := 4) (v := .int .i64 kd.parent) rfl
  have fk4 := freeOf bk3 4
  have n1 := HPKB.out
  have n2 := Ne.symm HPKB.out
  obtain ⟨va, vcap, hv, _⟩ := hr.rd.len_of
  have HS2 := Lib.hid hs2
  have HT2 := Lib.hid hT2
  clear hs1 hT1 hsame hkd hT2 hs2 hsame3 bp3 bk3 hr hg hrow hW hTW hTu hOu cp3
  rw [hv] at HS2 HT2 ⊢
  clear hv
  go_wp2
  go_ret
  exact ⟨rfl, own1, ptr, HT2.out, HS2.out⟩

theorem insertsAt_end (l : List Int) : InsertsAt l.length l := by
  intro W p v b x hr hl _ hx0 _
  have hx := cellOf hx0 (i := 0) (v := .int .i64 x) rfl
  have h := insert_end hr hl hx
  have e : (l.take l.length ++ [x] ++ l.drop l.length).map (Value.int .i64) = l.map (Value.int .i64) ++ [.int .i64 x] := by simp
  rw [e]; exact h
end Go.Proofs.Ythgnbbbdcebjhaa

namespace Go.Proofs.Ythgnbbbdcebjhaa
open Go Go.RowKit Go.BigFrame
set_option linter.unusedVariables false
set_option linter.unusedSimpArgs false

def Tr.setAt (T : Tr) (i : Nat) (nd : Nd) : Tr := { T with nodes := T.nodes.set i (some nd) }
theorem TreeAt.setText {w : World} {own : Ow} {ptr : Nat → Nat} {tb : Nat} {T : Tr} (hT : TreeAt w own ptr tb T) {k : Nat} {kd : Nd} (hk : T.nodes[k]? = some (some kd)) (s : ByteArray) :
    TreeAt (w.setCell ⟨ptr k, 2, none⟩ (.string s)) own ptr tb (T.setAt k { kd with text := s }) := by
  obtain ⟨av, kv, b1, b2, b3, b4⟩ := hT.node k kd hk
  have other : ∀ b x, own b = some x → b ≠ ptr k → (w.setCell ⟨ptr k, 2, none⟩ (.string s)).heap[b]? = w.heap[b]? := fun b x hb hn => heap_setCell_other _ hn
  refine hT.setNode (nd' := { kd with text := s }) hk ⟨av, kv, by rw [heap_setCell_same b1]; rfl, b2, RowP.move b3 fun g hg => ⟨other g _ hg (fun e => by rw [e, b2] at hg; cases hg), hg⟩, RowP.move b4 fun g hg => ⟨other g _ hg (fun e => by rw [e, b2] at hg; cases hg), hg⟩⟩ ?_
  intro b x hb hx
  exact ⟨other b x hb (fun e => by rw [e, b2] at hb; cases hb; exact hx (by simp) rfl), rfl⟩
set_option maxRecDepth 100000 in
set_option maxHeartbeats 1000000 in
theorem SetText_ok {w : World} {own : Ow} {ptr : Nat → Nat} {tb : Nat} {T : Tr} (hT : TreeAt w own ptr tb T) (hO : Owned own w) {i : Nat} {nd : Nd} (hn : T.nodes[i]? = some (some nd)) (ht : (nd.tag != 0) = false) (s : ByteArray) (hs : s.size ≤ 100000) (hl : (anewB s).size ≤ 8192) :
    Calls Try.prog 64 #[.pointer (some ⟨tb, 0, none⟩), .int .i64 i, .string s] w (ErrAfter own w tb 0 (T.setAt i { nd with text := anewB s })) := by
  have H := Lib.hid (Tr.get_of hn)
  have HS := Lib.hid hs
  obtain ⟨av, kv, hb, hob, _⟩ := hT.node _ _ hn
  have c := cellOf hb (i := 0) (v := .int .i64 nd.tag) rfl
  have f := freeOf hb 2
  have c2 := cellOf hb (i := 2) (v := .string nd.text) rfl
  have HC := Lib.hid c
  have HC2 := Lib.hid c2
  have HF := Lib.hid f
  have HT := Lib.hid hT
  have HN := Lib.hid hn
  have HO := Lib.hid hO
  have HOB := Lib.hid hob
  clear hb hn hT hO hob hs c f c2
  go_enter Try.func64, Try.ntmps64
  go_wp2_with (first
    | (go_at_call 46; refine (get_some (HT.out.keep (hx.keep HO.out)) H.out).mono ?_; rintro e w' ⟨rfl, rfl⟩; have c := hx.cell HC.out; have c2 := hx.cell HC2.out; have f := hx.free (cell_lt HC.out) HF.out)
    | (go_at_call 52; refine (anew_any _ HS.out _).mono ?_; rintro e w' ⟨rfl, hx⟩))
  go_ret
  exact ⟨rfl, own, ptr, (HT.out.keep (hx.keep HO.out)).setText HN.out _, (hx.step HO.out).setCell (fun _ => by show own (ptr i) ≠ none; rw [HOB.out]; simp) _⟩

end Go.Proofs.Ythgnbbbdcebjhaa

namespace Go.Proofs.Ythgnbbbdcebjhaa
open Go Go.RowKit Go.BigFrame
set_option linter.unusedVariables false
set_option linter.unusedSimpArgs false

inductive PN where
  | mk (tag : Int) (attrs : List (ByteArray × ByteArray)) (text : ByteArray) (kids : List PN)
def PN.tag : PN → Int | .mk t _ _ _ => t
def PN.attrs : PN → List (ByteArray × ByteArray) | .mk _ a _ _ => a
def PN.text : PN → ByteArray | .mk _ _ s _ => s
def PN.kids : PN → List PN | .mk _ _ _ k => k
mutual
/-- how many nodes -/
def PN.size : PN → Nat
  | .mk _ _ _ ks => PN.sizes ks + 1
def PN.sizes : List PN → Nat
  | [] => 0
  | k :: r => PN.size k + PN.sizes r
end
theorem PN.size_pos (n : PN) : 0 < n.size := by cases n; simp [PN.size]
theorem PN.sizes_mem {k : PN} {l : List PN} (h : k ∈ l) : k.size ≤ PN.sizes l := by
  induction l with
  | nil => cases h
  | cons x r ih =>
    simp only [PN.sizes]
    rcases List.mem_cons.1 h with rfl | h
    · omega
    · have := ih h; omega
theorem PN.size_kid {n k : PN} (h : k ∈ n.kids) : k.size < n.size := by
  cases n with
  | mk t a s ks => simp only [PN.size]; have := PN.sizes_mem (l := ks) h; omega
/-- induction over the kids -/
theorem PN.induct (P : PN → Prop) (h : ∀ n, (∀ k ∈ n.kids, P k) → P n) : ∀ n, P n := by
  have key : ∀ m n, PN.size n ≤ m → P n := by
    intro m
    induction m with
    | zero => intro n hn; have := n.size_pos; omega
    | succ m ih => exact fun n hn => h n fun k hk => ih k (by have := PN.size_kid hk; omega)
  exact fun n => key n.size n (Nat.le_refl _)

theorem add_later (a : Addr) (i j : Nat) (hj : 0 < j) : a.add (i + j) = ⟨(a.add i).block, (a.add i).off + j, none⟩ := by
  unfold Addr.add
  by_cases hi : i = 0
  · subst hi
    rw [if_neg (by omega), if_pos rfl, Nat.zero_add]
  · rw [if_neg (by omega), if_neg hi, Nat.add_assoc]
/-- four cells that read as a plain tree; with fuel -/
def rdN (w : World) : Nat → PN → Value → Prop
  | 0, _, _ => False
  | f + 1, n, v => ∃ av kv, v = .agg #[.int .i64 n.tag, av, .string n.text, kv] ∧ RowRd w 2 av n.attrs.length (attrCells n.attrs) ∧
      ∃ ao cap, kv = .slice ao n.kids.length cap ∧ n.kids.length ≤ cap ∧ cap ≤ maxLen ∧ (ao = none → n.kids.length = 0 ∧ cap = 0) ∧
        ∀ a, ao = some a → ∀ (j : Nat) k, n.kids[j]? = some k → ∃ c0 c1 c2 c3, w.cell? (a.add (j * 4)) = some c0 ∧ w.cell? (a.add (j * 4 + 1)) = some c1 ∧ w.cell? (a.add (j * 4 + 2)) = some c2 ∧ w.cell? (a.add (j * 4 + 3)) = some c3 ∧
          rdN w f k (.agg #[c0, c1, c2, c3])
/-- a value that reads as a plain tree -/
def RdN (w : World) (n : PN) (v : Value) : Prop := ∃ f, rdN w f n v
/-- what is kept where no cell that is there has turned -/
def Cells (w w' : World) : Prop := ∀ p v, w.cell? p = some v → w'.cell? p = some v
theorem RowRd.cells {w w' : World} {size : Nat} {v : Value} {n : Nat} {xs : List Value} (h : RowRd w size v n xs) (k : Cells w w') : RowRd w' size v n xs := by
  obtain ⟨h1, ao, cap, h2, h3, h4, h5⟩ := h
  exact ⟨h1, ao, cap, h2, h3, h4, fun a ha j x hx => k _ _ (h5 a ha j x hx)⟩
theorem rdN_cells {w w' : World} (k : Cells w w') : ∀ (f : Nat) (n : PN) (v : Value), rdN w f n v → rdN w' f n v := by
  intro f
  induction f with
  | zero => intro n v h; exact h
  | succ f ih =>
    intro n v h
    obtain ⟨av, kv, e, h1, ao, cap, h2, h3, h3', h4, h5⟩ := h
    refine ⟨av, kv, e, h1.cells k, ao, cap, h2, h3, h3', h4, fun a ha j x hx => ?_⟩
    obtain ⟨c0, c1, c2, c3, k0, k1, k2, k3, hr⟩ := h5 a ha j x hx
    exact ⟨c0, c1, c2, c3, k _ _ k0, k _ _ k1, k _ _ k2, k _ _ k3, ih _ _ hr⟩
theorem RdN.cells {w w' : World} {n : PN} {v : Value} (h : RdN w n v) (k : Cells w w') : RdN w' n v := by
  obtain ⟨f, h⟩ := h; exact ⟨f, rdN_cells k f n v h⟩
theorem Ext.cells {w w' : World} (h : Ext w w') : Cells w w' := fun p v hp => (Below.cell h (World.block_lt_of_cell? w p hp)).trans hp
theorem rdN_more {w : World} : ∀ (f : Nat) (n : PN) (v : Value), rdN w f n v → rdN w (f + 1) n v := by
  intro f
  induction f with
  | zero => intro n v h; exact absurd h id
  | succ f ih =>
    intro n v h
    obtain ⟨av, kv, e, h1, ao, cap, h2, h3, h3', h4, h5⟩ := h
    refine ⟨av, kv, e, h1, ao, cap, h2, h3, h3', h4, fun a ha j x hx => ?_⟩
    obtain ⟨c0, c1, c2, c3, k0, k1, k2, k3, hr⟩ := h5 a ha j x hx
    exact ⟨c0, c1, c2, c3, k0, k1, k2, k3, ih _ _ hr⟩
theorem rdN_le {w : World} {f g : Nat} {n : PN} {v : Value} (h : rdN w f n v) (hfg : f ≤ g) : rdN w g n v := by
  induction hfg with
  | refl => exact h
  | step _ ih => exact rdN_more _ _ _ ih
/-- a row of plain trees -/
def KidsRd (w : World) (ks : List PN) (kv : Value) : Prop :=
  ∃ ao cap, kv = .slice ao ks.length cap ∧ ks.length ≤ cap ∧ cap ≤ maxLen ∧ (ao = none → ks.length = 0 ∧ cap = 0) ∧
    ∀ a, ao = some a → ∀ (j : Nat) k, ks[j]? = some k → ∃ c0 c1 c2 c3, w.cell? (a.add (j * 4)) = some c0 ∧ w.cell? (a.add (j * 4 + 1)) = some c1 ∧ w.cell? (a.add (j * 4 + 2)) = some c2 ∧ w.cell? (a.add (j * 4 + 3)) = some c3 ∧ RdN w k (.agg #[c0, c1, c2, c3])
theorem RdN.open {w : World} {n : PN} {v : Value} (h : RdN w n v) : ∃ av kv, v = .agg #[.int .i64 n.tag, av, .string n.text, kv] ∧ RowRd w 2 av n.attrs.length (attrCells n.attrs) ∧ KidsRd w n.kids kv := by
  obtain ⟨f, h⟩ := h
  cases f with
  | zero => exact absurd h id
  | succ f =>
    obtain ⟨av, kv, e, h1, ao, cap, h2, h3, h3', h4, h5⟩ := h
    refine ⟨av, kv, e, h1, ao, cap, h2, h3, h3', h4, fun a ha j x hx => ?_⟩
    obtain ⟨c0, c1, c2, c3, k0, k1, k2, k3, hr⟩ := h5 a ha j x hx
    exact ⟨c0, c1, c2, c3, k0, k1, k2, k3, f, hr⟩
theorem fuel_row {ks : List PN} {Q : Nat → Nat → PN → Prop} (hm : ∀ j f g k, Q j f k → f ≤ g → Q j g k) (h : ∀ (j : Nat) k, ks[j]? = some k → ∃ f, Q j f k) : ∃ f, ∀ (j : Nat) k, ks[j]? = some k → Q j f k := by
  induction ks generalizing Q with
  | nil => exact ⟨0, fun j k hk => by simp at hk⟩
  | cons x r ih =>
    obtain ⟨f, hf⟩ := h 0 x rfl
    obtain ⟨g, hg⟩ := ih (Q := fun j f k => Q (j + 1) f k) (fun j f g k => hm (j + 1) f g k) fun j k hk => h (j + 1) k (by simpa using hk)
    refine ⟨max f g, fun j k hk => ?_⟩
    cases j with
    | zero => simp at hk; subst hk; exact hm _ _ _ _ hf (Nat.le_max_left _ _)
    | succ j => exact hm _ _ _ _ (hg j k (by simpa using hk)) (Nat.le_max_right _ _)
theorem RdN.mk' {w : World} {n : PN} {av kv : Value} (h1 : RowRd w 2 av n.attrs.length (attrCells n.attrs)) (h2 : KidsRd w n.kids kv) : RdN w n (.agg #[.int .i64 n.tag, av, .string n.text, kv]) := by
  obtain ⟨ao, cap, rfl, h3, h3', h4, h5⟩ := h2
  cases ao with
  | none => exact ⟨1, av, _, rfl, h1, none, cap, rfl, h3, h3', h4, fun a ha => by cases ha⟩
  | some a =>
    obtain ⟨f, hf⟩ := fuel_row (ks := n.kids) (Q := fun j f k => ∃ c0 c1 c2 c3, w.cell? (a.add (j * 4)) = some c0 ∧ w.cell? (a.add (j * 4 + 1)) = some c1 ∧ w.cell? (a.add (j * 4 + 2)) = some c2 ∧ w.cell? (a.add (j * 4 + 3)) = some c3 ∧ rdN w f k (.agg #[c0, c1, c2, c3]))
      (fun j f g k ⟨c0, c1, c2, c3, k0, k1, k2, k3, hr⟩ hfg => ⟨c0, c1, c2, c3, k0, k1, k2, k3, rdN_le hr hfg⟩)
      (fun j k hk => by
        obtain ⟨c0, c1, c2, c3, k0, k1, k2, k3, f, hr⟩ := h5 a rfl j k hk
        exact ⟨f, c0, c1, c2, c3, k0, k1, k2, k3, hr⟩)
    exact ⟨f + 1, av, _, rfl, h1, some a, cap, rfl, h3, h3', h4, fun a' ha j k hk => by cases ha; exact hf j k hk⟩
theorem KidsRd.cells {w w' : World} {ks : List PN} {v : Value} (h : KidsRd w ks v) (k : Cells w w') : KidsRd w' ks v := by
  obtain ⟨ao, cap, h2, h3, h3', h4, h5⟩ := h
  refine ⟨ao, cap, h2, h3, h3', h4, fun a ha j x hx => ?_⟩
  obtain ⟨c0, c1, c2, c3, k0, k1, k2, k3, hr⟩ := h5 a ha j x hx
  exact ⟨c0, c1, c2, c3, k _ _ k0, k _ _ k1, k _ _ k2, k _ _ k3, hr.cells k⟩
end Go.Proofs.Ythgnbbbdcebjhaa

namespace Go.Proofs.Ythgnbbbdcebjhaa
open Go Go.RowKit Go.BigFrame
set_option linter.unusedVariables false
set_option linter.unusedSimpArgs false

/-- may a node itself not be? -/
def PN.bad (n : PN) : Bool := if n.tag = 0 then !(n.attrs.isEmpty && n.kids.isEmpty) else !(decide (1 ≤ n.tag ∧ n.tag ≤ 16) && n.text.size == 0)
mutual
def PN.high : PN → Nat
  | .mk _ _ _ ks => PN.highs ks
def PN.highs : List PN → Nat
  | [] => 0
  | k :: r => max (PN.high k + 1) (PN.highs r)
end
mutual
def PN.anew : PN → PN
  | .mk t a s ks => .mk t a (anewB s) (PN.anews ks)
def PN.anews : List PN → List PN
  | [] => []
  | k :: r => PN.anew k :: PN.anews r
end
mutual
def PN.ok : PN → Bool
  | .mk t a s ks => !(PN.mk t a s ks).bad && decide ((anewB s).size ≤ 8192) && PN.oks ks
def PN.oks : List PN → Bool
  | [] => true
  | k :: r => PN.ok k && PN.oks r
end
theorem PN.high_eq (n : PN) : n.high = PN.highs n.kids := by cases n; rfl
theorem PN.size_eq (n : PN) : n.size = PN.sizes n.kids + 1 := by cases n; rfl
theorem PN.anew_eq (n : PN) : n.anew = .mk n.tag n.attrs (anewB n.text) (PN.anews n.kids) := by cases n; rfl
theorem PN.anews_eq (l : List PN) : PN.anews l = l.map PN.anew := by
  induction l with
  | nil => rfl
  | cons k r ih => simp only [PN.anews, List.map_cons, ih]
theorem PN.ok_eq (n : PN) : n.ok = (!n.bad && decide ((anewB n.text).size ≤ 8192) && PN.oks n.kids) := by cases n; rfl
theorem PN.oks_mem {l : List PN} (h : PN.oks l = true) {k : PN} (hk : k ∈ l) : k.ok = true := by
  induction l with
  | nil => cases hk
  | cons x r ih =>
    simp only [PN.oks, Bool.and_eq_true] at h
    rcases List.mem_cons.1 hk with rfl | hk
    · exact h.1
    · exact ih h.2 hk
theorem PN.ok_bad {n : PN} (h : n.ok = true) : n.bad = false := by
  rw [PN.ok_eq] at h; simp at h; exact h.1.1
theorem PN.ok_kids {n : PN} (h : n.ok = true) : PN.oks n.kids = true := by
  rw [PN.ok_eq] at h; simp at h; exact h.2
theorem PN.bad_tag {n : PN} (h : n.bad = false) : 0 ≤ n.tag ∧ n.tag ≤ 16 ∧ (n.tag = 0 → n.kids = [] ∧ n.attrs = []) ∧ (n.tag ≠ 0 → n.text.size = 0) := by
  unfold PN.bad at h
  by_cases h0 : n.tag = 0
  · rw [if_pos h0] at h
    simp at h
    exact ⟨by omega, by omega, fun _ => ⟨h.2, h.1⟩, fun e => absurd h0 e⟩
  · rw [if_neg h0] at h
    simp at h
    exact ⟨by omega, by omega, fun e => absurd e h0, fun _ => by rw [h.2]; rfl⟩

/-- a node as a plain tree, with fuel -/
def noPN : PN := .mk 0 [] ByteArray.empty []
def Tr.pln (T : Tr) : Nat → Int → PN
  | 0, _ => noPN
  | f + 1, id => match T.get? id with
    | none => noPN
    | some nd => .mk nd.tag nd.attrs nd.text (nd.kids.map (T.pln f))
def Tr.plain (T : Tr) (id : Int) : PN := T.pln 50 id
theorem pln_step (T : Tr) (f : Nat) {i : Nat} {nd : Nd} (h : T.nodes[i]? = some (some nd)) : T.pln (f + 1) i = .mk nd.tag nd.attrs nd.text (nd.kids.map (T.pln f)) := by
  show (match T.get? i with | none => noPN | some nd => _) = _
  rw [Tr.get_of h]
theorem WF.pln_more {T : Tr} {d : Nat → Nat} (hw : WF T d) : ∀ (f g i : Nat) (nd : Nd), T.nodes[i]? = some (some nd) → 41 ≤ d i + f → 41 ≤ d i + g → T.pln f i = T.pln g i := by
  intro f
  induction f with
  | zero => intro g i nd h h1; have := hw.deep i nd h; have := hw.small.deep1; omega
  | succ f ih =>
    intro g i nd h h1 h2
    cases g with
    | zero => have := hw.deep i nd h; have := hw.small.deep1; omega
    | succ g =>
      rw [pln_step T f h, pln_step T g h]
      congr 1
      refine List.map_congr_left fun k hk => ?_
      obtain ⟨n, hn⟩ := List.getElem?_of_mem hk
      obtain ⟨j, kd, rfl, hj, hjp, hjd⟩ := hw.kid h hn
      exact ih g j kd hj (by omega) (by omega)
theorem WF.plain_eq {T : Tr} {d : Nat → Nat} (hw : WF T d) {i : Nat} {nd : Nd} (h : T.nodes[i]? = some (some nd)) : T.plain i = .mk nd.tag nd.attrs nd.text (nd.kids.map T.plain) := by
  show T.pln 50 i = _
  rw [pln_step T 49 h]
  congr 1
  refine List.map_congr_left fun k hk => ?_
  obtain ⟨n, hn⟩ := List.getElem?_of_mem hk
  obtain ⟨j, kd, rfl, hj, hjp, hjd⟩ := hw.kid h hn
  have := hw.deep j kd hj
  have := hw.small.deep1
  exact hw.pln_more 49 50 j kd hj (by omega) (by omega)
theorem WF.height_eq {T : Tr} {d : Nat → Nat} (hw : WF T d) {i : Nat} {nd : Nd} (h : T.nodes[i]? = some (some nd)) : T.height i = nd.kids.foldl (fun h k => max h (T.height k + 1)) 0 := by
  show T.hgt 50 i = _
  rw [hgt_step T 49 h]
  refine fold_congr _ _ _ _ fun k hk => ?_
  obtain ⟨n, hn⟩ := List.getElem?_of_mem hk
  obtain ⟨j, kd, rfl, hj, hjp, hjd⟩ := hw.kid h hn
  have := hw.deep j kd hj
  have := hw.small.deep1
  show _ = T.hgt 50 j + 1
  rw [hw.hgt_more 49 50 j kd hj (by omega) (by omega)]
/-- two trees that tell the same of all that is within a node -/
theorem pln_same {T T' : Tr} {d : Nat → Nat} (hw : WF T d) {o : Nat} (hs : ∀ (j : Nat) (jd : Nd), T.nodes[j]? = some (some jd) → T.within j o = true → ∃ jd', T'.nodes[j]? = some (some jd') ∧ jd'.tag = jd.tag ∧ jd'.attrs = jd.attrs ∧ jd'.text = jd.text ∧ jd'.kids = jd.kids) {od : Nd} (ho : T.nodes[o]? = some (some od)) :
    ∀ (f i : Nat) (nd : Nd), T.nodes[i]? = some (some nd) → T.within i o = true → T'.pln f i = T.pln f i ∧ T'.hgt f i = T.hgt f i := by
  intro f
  induction f with
  | zero => intro i nd h _; exact ⟨rfl, rfl⟩
  | succ f ih =>
    intro i nd h hin
    obtain ⟨nd', h', e1, e2, e3, e4⟩ := hs i nd h hin
    have hk : ∀ k ∈ nd.kids, T'.pln f k = T.pln f k ∧ T'.hgt f k = T.hgt f k := fun k hk => by
      obtain ⟨j, kd, rfl, hj, hjp⟩ := (hw.kids i nd h).2 k hk
      refine ih j kd hj ?_
      rw [hw.within_step hj, hjp]
      split
      · rfl
      · exact hin
    constructor
    · rw [pln_step T f h, pln_step T' f h', e1, e2, e3, e4]
      congr 1
      exact List.map_congr_left fun k hk' => (hk k hk').1
    · rw [hgt_step T f h, hgt_step T' f h', e4]
      exact fold_congr _ _ _ _ fun k hk' => by rw [(hk k hk').2]
theorem plain_same {T T' : Tr} {d : Nat → Nat} (hw : WF T d) {o : Nat} {od : Nd} (ho : T.nodes[o]? = some (some od))
    (hs : ∀ (j : Nat) (jd : Nd), T.nodes[j]? = some (some jd) → T.within j o = true → ∃ jd', T'.nodes[j]? = some (some jd') ∧ jd'.tag = jd.tag ∧ jd'.attrs = jd.attrs ∧ jd'.text = jd.text ∧ jd'.kids = jd.kids) :
    T'.plain o = T.plain o ∧ T'.height o = T.height o := pln_same hw hs ho 50 o od ho (hw.within_self ho)

/-- a loose node gets one kid more -/
def Tr.attach (T : Tr) (p k : Nat) (pd kd : Nd) : Tr := T.set2 p k { pd with kids := pd.kids ++ [(k : Int)] } { kd with parent := p }
theorem Tr.attach_link (T : Tr) (p k : Nat) (pd kd : Nd) : T.attach p k pd kd = T.link p pd.kids.length k pd kd := by
  rw [Tr.link_eq]; simp [Tr.attach]
theorem WF.attach {T : Tr} {d : Nat → Nat} (hw : WF T d) {p k : Nat} {pd kd : Nd} (hp : T.nodes[p]? = some (some pd)) (hk : T.nodes[k]? = some (some kd))
    (htag : pd.tag ≠ 0) (hk0 : k ≠ 0) (hpar : kd.parent = -1) (hpp : pd.parent = -1) (hpk : p ≠ k) (hh : T.height k + 1 ≤ T.deep) :
    ∃ d', WF (T.attach p k pd kd) d' ∧ (T.attach p k pd kd).height p = max (T.height p) (T.height k + 1) ∧ (T.attach p k pd kd).plain p = .mk pd.tag pd.attrs pd.text (pd.kids.map T.plain ++ [T.plain k]) := by
  have hin : T.within p k = false := by rw [hw.within_root hp hpp]; simp; omega
  have hdp : d p = 0 := by
    rcases hw.up p pd hp with ⟨h3, h4⟩ | ⟨q, qd, h3, h4, h5, h6⟩
    · exact h4
    · omega
  have hl := hw.link (at' := pd.kids.length) hp hk htag hk0 hpar hin (by omega)
  rw [← Tr.attach_link] at hl
  have hg := fun j => Tr.set2_get (pd' := { pd with kids := pd.kids ++ [(k : Int)] }) (kd' := { kd with parent := p }) hp hk j
  have hp' : (T.attach p k pd kd).nodes[p]? = some (some { pd with kids := pd.kids ++ [(k : Int)] }) := by
    show (T.set2 p k _ _).nodes[p]? = _
    rw [hg, if_neg hpk, if_pos rfl]
  -- nodes other than p tell the same
  have hsame : ∀ (j : Nat) (jd : Nd), T.nodes[j]? = some (some jd) → j ≠ p → ∃ jd', (T.attach p k pd kd).nodes[j]? = some (some jd') ∧ jd'.tag = jd.tag ∧ jd'.attrs = jd.attrs ∧ jd'.text = jd.text ∧ jd'.kids = jd.kids := fun j jd h hne => by
    show ∃ jd', (T.set2 p k _ _).nodes[j]? = some (some jd') ∧ _
    rw [hg]
    by_cases e : j = k
    · subst e
      rw [if_pos rfl]
      obtain rfl := some_inj2 hk h
      exact ⟨_, rfl, rfl, rfl, rfl, rfl⟩
    · rw [if_neg e, if_neg hne]
      exact ⟨jd, h, rfl, rfl, rfl, rfl⟩
  have hof : ∀ (o : Nat) (od : Nd), T.nodes[o]? = some (some od) → o ≠ p → (T.attach p k pd kd).plain o = T.plain o ∧ (T.attach p k pd kd).height o = T.height o := fun o od ho hne =>
    plain_same hw ho fun j jd hj hjo => hsame j jd hj fun e => by
      subst e
      obtain rfl := some_inj2 hp hj
      rw [hw.within_root hp hpp] at hjo
      have := of_decide_eq_true hjo
      omega
  have hkids : ∀ x ∈ pd.kids, (T.attach p k pd kd).plain x = T.plain x ∧ (T.attach p k pd kd).height x = T.height x := fun x hx => by
    obtain ⟨j, jd, rfl, hj, hjp⟩ := (hw.kids p pd hp).2 x hx
    refine hof j jd hj fun e => ?_
    subst e
    obtain rfl := some_inj2 hp hj
    omega
  have hkk := hof k kd hk (Ne.symm hpk)
  refine ⟨_, hl, ?_, ?_⟩
  · rw [hl.height_eq hp', hw.height_eq hp]
    show (pd.kids ++ [(k : Int)]).foldl _ 0 = _
    rw [List.foldl_append, List.foldl_cons, List.foldl_nil, hkk.2]
    rw [fold_congr (fun x => (T.attach p k pd kd).height x + 1) (fun x => T.height x + 1) pd.kids 0 fun x hx => by rw [(hkids x hx).2]]
  · rw [hl.plain_eq hp']
    show PN.mk pd.tag pd.attrs pd.text ((pd.kids ++ [(k : Int)]).map _) = _
    rw [List.map_append, List.map_cons, List.map_nil, hkk.1]
    congr 2
    exact List.map_congr_left fun x hx => (hkids x hx).1

/-- the first free number and the tree behind 'put', kids one by one -/
def Tr.look (T : Tr) (i : Int) : Nd := (T.get? i).getD ⟨0, [], ByteArray.empty, [], -1⟩
def Tr.join (T : Tr) (p k : Int) : Tr := T.attach p.toNat k.toNat (T.look p) (T.look k)
mutual
def PN.into (T : Tr) : PN → Tr
  | .mk t a s ks => PN.intos T.newId (T.put ⟨t, a, anewB s, [], -1⟩) ks
def PN.intos (id : Int) (T : Tr) : List PN → Tr
  | [] => T
  | k :: r => PN.intos id ((PN.into T k).join id T.newId) r
end
theorem PN.into_eq (T : Tr) (n : PN) : PN.into T n = PN.intos T.newId (T.put ⟨n.tag, n.attrs, anewB n.text, [], -1⟩) n.kids := by cases n; rfl
theorem look_of {T : Tr} {i : Nat} {nd : Nd} (h : T.nodes[i]? = some (some nd)) : T.look i = nd := by
  unfold Tr.look; rw [Tr.get_of h]; rfl
/-- what holds of a tree into which a plain one was put -/
structure Put (T T' : Tr) (d' : Nat → Nat) (i : Nat) (n : PN) (sz hi : Nat) : Prop where
  wf : WF T' d'
  node : ∃ nd, T'.nodes[i]? = some (some nd) ∧ nd.parent = -1
  high : T'.height i = hi
  plain : T'.plain i = n
  old : ∀ (j : Nat) (x : Nd), j ≠ i → T.nodes[j]? = some (some x) → T'.nodes[j]? = some (some x)
  count : T'.count = T.count + sz
  cap : T'.cap = T.cap
  deep : T'.deep = T.deep
/-- one node is put -/
theorem WF.put_one {T : Tr} {d : Nat → Nat} (hw : WF T d) {n : PN} (hb : n.bad = false) (hroom : T.count + 1 ≤ T.cap) :
    ∃ (d' : Nat → Nat) (i : Nat), T.newId = (i : Int) ∧ i ≠ 0 ∧ (∀ x : Nd, T.nodes[i]? ≠ some (some x)) ∧ (T.put ⟨n.tag, n.attrs, anewB n.text, [], -1⟩).nodes[i]? = some (some ⟨n.tag, n.attrs, anewB n.text, [], -1⟩) ∧
      Put T (T.put ⟨n.tag, n.attrs, anewB n.text, [], -1⟩) d' i (.mk n.tag n.attrs (anewB n.text) []) 1 0 := by
  obtain ⟨b0, b1, b2, b3⟩ := PN.bad_tag hb
  obtain ⟨i, h1, h2, h3, h4, h5, h6, h7, h8⟩ := T.put_at ⟨n.tag, n.attrs, anewB n.text, [], -1⟩
  have hne := hw.newId_ne
  have hp := hw.put ⟨n.tag, n.attrs, anewB n.text, [], -1⟩ rfl rfl b0 b1 hroom hne
  refine ⟨_, i, h1, by omega, h3, h2, ⟨hp, ⟨_, h2, rfl⟩, ?_, ?_, fun j x _ hj => h4 j x hj, rfl, rfl, rfl⟩⟩
  · rw [hp.height_eq h2]; rfl
  · rw [hp.plain_eq h2]; rfl

/-- what one plain tree makes, for every tree -/
def PutsOk (n : PN) : Prop := ∀ (T : Tr) (d : Nat → Nat), WF T d → T.count + n.size ≤ T.cap → (n.high : Int) ≤ T.deep → ∃ (d' : Nat → Nat) (i : Nat), T.newId = (i : Int) ∧ i ≠ 0 ∧ (∀ x : Nd, T.nodes[i]? ≠ some (some x)) ∧ Put T (PN.into T n) d' i n.anew n.size n.high
theorem intos_ok : ∀ (ks : List PN) (hks : ∀ k ∈ ks, PutsOk k) (T : Tr) (d : Nat → Nat) (i : Nat) (nd : Nd), WF T d → T.nodes[i]? = some (some nd) → nd.parent = -1 → (nd.tag ≠ 0 ∨ ks = []) → T.count + PN.sizes ks ≤ T.cap → (PN.highs ks : Int) ≤ T.deep → (∀ x ∈ nd.kids, 0 ≤ x) →
    ∃ (d' : Nat → Nat) (nd' : Nd), (PN.intos i T ks).nodes[i]? = some (some nd') ∧ Put T (PN.intos i T ks) d' i (.mk nd.tag nd.attrs nd.text (nd.kids.map T.plain ++ PN.anews ks)) (PN.sizes ks) (max (T.height i).toNat (PN.highs ks)) := by
  intro ks
  induction ks with
  | nil =>
    intro hks T d i nd hw hi hp ht hc hh hx
    refine ⟨d, nd, hi, ⟨hw, ⟨nd, hi, hp⟩, ?_, ?_, fun j x _ hj => hj, ?_, rfl, rfl⟩⟩
    · have := hgt_nn T 50 hi
      show T.height i = ((max (T.height i).toNat 0 : Nat) : Int)
      have h0 : 0 ≤ T.height i := this
      omega
    · show T.plain i = _
      rw [hw.plain_eq hi]; simp [PN.anews]
    · show T.count = T.count + ((0 : Nat) : Int); simp
  | cons k r ih =>
    intro hks T d i nd hw hi hp ht hc hh hx
    simp only [PN.sizes, PN.highs] at hc hh
    have hkpos := k.size_pos
    obtain ⟨d1, m, hm1, hm0, hm2, hP⟩ := hks k (by simp) T d hw (by omega) (by omega)
    have him : i ≠ m := fun e => hm2 nd (e ▸ hi)
    have hi1 : (PN.into T k).nodes[i]? = some (some nd) := hP.old i nd him hi
    obtain ⟨kd, hk1, hk2⟩ := hP.node
    have ht' : nd.tag ≠ 0 := by rcases ht with h | h; exact h; cases h
    obtain ⟨d2, hw2, hh2, hp2⟩ := hP.wf.attach hi1 hk1 ht' hm0 hk2 hp him (by rw [hP.high, hP.deep]; omega)
    have hjoin : (PN.into T k).join i T.newId = (PN.into T k).attach i m nd kd := by
      unfold Tr.join
      rw [hm1, Int.toNat_natCast, Int.toNat_natCast, look_of hi1, look_of hk1]
    have hg := fun j => Tr.set2_get (pd' := { nd with kids := nd.kids ++ [(m : Int)] }) (kd' := { kd with parent := i }) hi1 hk1 j
    have hi2 : ((PN.into T k).attach i m nd kd).nodes[i]? = some (some { nd with kids := nd.kids ++ [(m : Int)] }) := by
      show (Tr.set2 _ i m _ _).nodes[i]? = _
      rw [hg, if_neg him, if_pos rfl]
    -- heights and plains of the kids that were there
    have hold := plain_same (T' := PN.into T k) hw hi fun j jd hj _ => by
      refine ⟨jd, hP.old j jd (fun e => hm2 jd (e ▸ hj)) hj, rfl, rfl, rfl, rfl⟩
    have hcount : ((PN.into T k).attach i m nd kd).count = T.count + k.size := hP.count
    have hcap : ((PN.into T k).attach i m nd kd).cap = T.cap := hP.cap
    have hdeep : ((PN.into T k).attach i m nd kd).deep = T.deep := hP.deep
    obtain ⟨d3, nd3, hn3, hP3⟩ := ih (fun x hx' => hks x (by simp [hx'])) _ d2 i _ hw2 hi2 hp (.inl ht') (by rw [hcount, hcap]; omega) (by rw [hdeep]; omega) (fun x hx' => by
      rcases List.mem_append.1 hx' with h | h
      · exact hx x h
      · simp at h; omega)
    have e0 : PN.intos i T (k :: r) = PN.intos i ((PN.into T k).attach i m nd kd) r := by
      simp only [PN.intos]; rw [hjoin]
    rw [e0]
    refine ⟨d3, nd3, hn3, ⟨hP3.wf, hP3.node, ?_, ?_, fun j x hj hjx => ?_, ?_, hP3.cap.trans hcap, hP3.deep.trans hdeep⟩⟩
    · rw [hP3.high, hh2, hP.high, hold.2]
      simp only [PN.highs]
      have h0 : 0 ≤ T.height i := hgt_nn T 50 hi
      omega
    · rw [hP3.plain]
      have e1 := hw2.plain_eq hi2
      rw [hp2] at e1
      have e2 : (nd.kids ++ [(m : Int)]).map ((PN.into T k).attach i m nd kd).plain = nd.kids.map T.plain ++ [k.anew] := by
        have e3 : nd.kids.map (PN.into T k).plain = nd.kids.map T.plain := by
          have q1 := hP.wf.plain_eq hi1
          rw [hold.1, hw.plain_eq hi] at q1
          exact (PN.mk.inj q1).2.2.2.symm
        have e4 := (PN.mk.inj e1).2.2.2
        show List.map ((PN.into T k).attach i m nd kd).plain (nd.kids ++ [(m : Int)]) = _
        rw [← e3, ← hP.plain]
        exact e4.symm
      show PN.mk nd.tag nd.attrs nd.text ((nd.kids ++ [(m : Int)]).map _ ++ PN.anews r) = _
      rw [e2]
      simp [PN.anews]
    · have hjm : j ≠ m := fun e => hm2 x (e ▸ hjx)
      refine hP3.old j x hj ?_
      show (Tr.set2 _ i m _ _).nodes[j]? = _
      rw [hg, if_neg hjm, if_neg hj]
      exact hP.old j x hjm hjx
    · rw [hP3.count, hcount]
      simp only [PN.sizes]
      push_cast; omega
theorem into_ok : ∀ n : PN, n.ok = true → PutsOk n := by
  refine PN.induct _ fun n ih hok T d hw hc hh => ?_
  have hb := PN.ok_bad hok
  have hkids := PN.ok_kids hok
  obtain ⟨b0, b1, b2, b3⟩ := PN.bad_tag hb
  rw [PN.size_eq] at hc
  obtain ⟨d1, i, h1, h0, h2, h3, hP⟩ := hw.put_one hb (by omega)
  obtain ⟨d2, nd2, hn2, hP2⟩ := intos_ok n.kids (fun k hk => ih k hk (PN.oks_mem hkids hk)) _ d1 i _ hP.wf h3 rfl (by
    by_cases e : n.tag = 0
    · exact .inr (b2 e).1
    · exact .inl e) (by rw [hP.count, hP.cap]; omega) (by rw [hP.deep]; rw [PN.high_eq] at hh; exact hh) (fun x hx => by cases hx)
  rw [PN.into_eq, h1]
  refine ⟨d2, i, rfl, h0, h2, ⟨hP2.wf, hP2.node, ?_, ?_, fun j x hj hjx => hP2.old j x hj (hP.old j x hj hjx), ?_, hP2.cap.trans hP.cap, hP2.deep.trans hP.deep⟩⟩
  · rw [hP2.high, hP.high, PN.high_eq]; simp
  · rw [hP2.plain, PN.anew_eq]; simp
  · rw [hP2.count, hP.count, PN.size_eq]; push_cast; omega
end Go.Proofs.Ythgnbbbdcebjhaa

namespace Go.Proofs.Ythgnbbbdcebjhaa
open Go Go.RowKit Go.BigFrame
set_option linter.unusedVariables false
set_option linter.unusedSimpArgs false

set_option maxRecDepth 100000 in
set_option maxHeartbeats 1000000 in
theorem Kids_none {w : World} {own : Ow} {ptr : Nat → Nat} {tb : Nat} {T : Tr} (hT : TreeAt w own ptr tb T) {id : Int} (h : T.get? id = none) :
    Calls Try.prog 63 #[.pointer (some ⟨tb, 0, none⟩), .int .i64 id] w (RVal (.slice none 0 0) w) := by
  have H := Lib.hid h
  clear h
  go_enter Try.func63, Try.ntmps63
  go_wp2_with (go_at_call 46; refine (get_none hT H.out).mono ?_; rintro e w' ⟨rfl, rfl⟩)
  go_ret
  exact ⟨rfl, Ext.refl _⟩
theorem ints_one (l : List Int) : ∀ u ∈ l.map (Value.int .i64), u.oneCell' = true := by
  intro u hu
  obtain ⟨x, _, rfl⟩ := List.mem_map.1 hu
  rfl
set_option maxRecDepth 100000 in
set_option maxHeartbeats 1000000 in
theorem Kids_some {w : World} {own : Ow} {ptr : Nat → Nat} {tb : Nat} {T : Tr} (hT : TreeAt w own ptr tb T) {id : Int} {nd : Nd} (h : T.get? id = some nd) (hl : nd.kids.length ≤ 60000) :
    Calls Try.prog 63 #[.pointer (some ⟨tb, 0, none⟩), .int .i64 id] w (RRow 3 1 nd.kids.length (nd.kids.map (Value.int .i64)) w) := by
  have H := Lib.hid h
  have hn := (Tr.get_lt h).2.2
  obtain ⟨av, kv, hb, _, _, ha⟩ := hT.node _ _ hn
  have hr := RowP.rd ha
  obtain ⟨aa, acap, rfl, _⟩ := hr.len_of
  have c := cellOf hb (i := 3) (v := .slice aa nd.kids.length acap) rfl
  have HR := Lib.hid hr
  have HL := Lib.hid hl
  clear h hb hn hr ha hl
  go_enter Try.func63, Try.ntmps63
  go_wp2_with (first
    | (go_at_call 46; refine (get_some hT H.out).mono ?_; rintro e w' ⟨rfl, rfl⟩)
    | (go_at_call 68; refine (cloneI_any HR.out HL.out (ints_one _)).mono ?_; rintro e w' ⟨v, rfl, hr, hx⟩))
  go_ret
  exact ⟨_, rfl, hr, hx⟩
set_option maxRecDepth 100000 in
set_option maxHeartbeats 1000000 in
theorem Index_kid {w : World} {own : Ow} {ptr : Nat → Nat} {tb : Nat} {T : Tr} (hT : TreeAt w own ptr tb T) {id : Int} {nd pd : Nd} (h : T.get? id = some nd) (h2 : T.get? nd.parent = some pd) (hl : pd.kids.length ≤ 60000) :
    Calls Try.prog 29 #[.pointer (some ⟨tb, 0, none⟩), .int .i64 id] w (RVal (.int .i64 (posOf pd.kids id)) w) := by
  have hn := (Tr.get_lt h2).2.2
  obtain ⟨av, kv, hb, _, _, ha⟩ := hT.node _ _ hn
  have hr := RowP.rd ha
  obtain ⟨aa, acap, rfl, _⟩ := hr.len_of
  have c := cellOf hb (i := 3) (v := .slice aa pd.kids.length acap) rfl
  have HR := Lib.hid hr
  have HL := Lib.hid hl
  have H := Lib.hid h
  have H2 := Lib.hid h2
  clear h h2 hb hn hr ha hl
  go_enter Try.func29, Try.ntmps29
  go_wp2_with (first
    | (go_at_call 28; refine (Parent_some hT H.out).mono ?_; rintro e w' ⟨rfl, rfl⟩)
    | (go_at_call 46; refine (get_some hT H2.out).mono ?_; rintro e w' ⟨rfl, rfl⟩)
    | (go_at_call 58; refine (index_any HR.out HL.out _).mono ?_; rintro e w' ⟨rfl, rfl⟩))
  go_ret
  exact ⟨rfl, Ext.refl _⟩

end Go.Proofs.Ythgnbbbdcebjhaa

namespace Go.Proofs.Ythgnbbbdcebjhaa
open Go Go.RowKit Go.BigFrame
def laysIns_ren : Go.Shelf.Ren := ⟨fun | 21 => 57 | 27 => 76 | 28 => 77 | 35 => 82 | 39 => 83 | n => n, fun | 0 => 0 | 3 => 3 | 4 => 4 | 22 => 42 | n => n, fun | n => n⟩
theorem laysIns : Go.Proofs.Lays2.n21 Try.prog laysIns_ren := {
  mixed := by kernel_rfl
  f21 := Try.func57.trans (congrArg some (by kernel_rfl))
  f27 := Try.func76.trans (congrArg some (by kernel_rfl))
  f28 := Try.func77.trans (congrArg some (by kernel_rfl))
  f35 := Try.func82.trans (congrArg some (by kernel_rfl))
  f39 := Try.func83.trans (congrArg some (by kernel_rfl))
  t0 := Try.underlying0
  a0 := Try.isAgg0
  z0 := Try.sizeOf0
  v0 := Try.zeroValue0
  t3 := Try.underlying3
  a3 := Try.isAgg3
  z3 := Try.sizeOf3
  v3 := Try.zeroValue3
  t4 := Try.underlying4
  a4 := Try.isAgg4
  z4 := Try.sizeOf4
  v4 := Try.zeroValue4
  t22 := Try.underlying42
  a22 := Try.isAgg42
  z22 := Try.sizeOf42
  v22 := Try.zeroValue42
  i3 := by kernel_rfl }
def laysDel_ren : Go.Shelf.Ren := ⟨fun | 23 => 59 | n => n, fun | 0 => 0 | 3 => 3 | 4 => 4 | 22 => 42 | n => n, fun | n => n⟩
theorem laysDel : Go.Proofs.Lays2.n23 Try.prog laysDel_ren := {
  mixed := by kernel_rfl
  f23 := Try.func59.trans (congrArg some (by kernel_rfl))
  t0 := Try.underlying0
  a0 := Try.isAgg0
  z0 := Try.sizeOf0
  v0 := Try.zeroValue0
  t3 := Try.underlying3
  a3 := Try.isAgg3
  z3 := Try.sizeOf3
  v3 := Try.zeroValue3
  t4 := Try.underlying4
  a4 := Try.isAgg4
  z4 := Try.sizeOf4
  v4 := Try.zeroValue4
  t22 := Try.underlying42
  a22 := Try.isAgg42
  z22 := Try.sizeOf42
  v22 := Try.zeroValue42
  i3 := by kernel_rfl }
end Go.Proofs.Ythgnbbbdcebjhaa

namespace Go.Proofs.Ythgnbbbdcebjhaa
open Go Go.RowKit Go.BigFrame
set_option linter.unusedVariables false
set_option linter.unusedSimpArgs false

/-- cells of a row, set one by one -/
def putMany (cur : Array Value) : Nat → List Value → Array Value
  | _, [] => cur
  | o, v :: r => putMany (cur.setIfInBounds o v) (o + 1) r
theorem putMany_size : ∀ (vs : List Value) (o : Nat) (cur : Array Value), (putMany cur o vs).size = cur.size
  | [], _, _ => rfl
  | v :: r, o, cur => by rw [putMany, putMany_size r]; simp
theorem putMany_get : ∀ (vs : List Value) (o : Nat) (cur : Array Value) (j : Nat), j < cur.size → (putMany cur o vs)[j]? = if o ≤ j ∧ j < o + vs.length then vs[j - o]? else cur[j]?
  | [], o, cur, j, hj => by rw [putMany, if_neg (by simp <;> omega)]
  | v :: r, o, cur, j, hj => by
    rw [putMany, putMany_get r (o + 1) _ j (by simpa using hj)]
    by_cases h1 : o + 1 ≤ j ∧ j < o + 1 + r.length
    · rw [if_pos h1, if_pos ⟨by omega, by simp; omega⟩]
      obtain ⟨k, rfl⟩ : ∃ k, j = o + 1 + k := ⟨j - (o + 1), by omega⟩
      rw [show o + 1 + k - (o + 1) = k by omega, show o + 1 + k - o = k + 1 by omega, List.getElem?_cons_succ]
    · rw [if_neg h1, Array.getElem?_setIfInBounds]
      by_cases h2 : o = j
      · subst h2
        rw [if_pos rfl, if_pos hj, if_pos ⟨Nat.le_refl _, by simp⟩, Nat.sub_self]; rfl
      · rw [if_neg h2, if_neg (by simp; omega)]
theorem heap_setCells_same {b : Nat} {t : TypeId} {fr : Nat × Nat} : ∀ (vs : List Value) (o : Nat) (w : World) (cur : Array Value), w.heap[b]? = some (.cells cur t fr) → (w.setCells b o vs).heap[b]? = some (.cells (putMany cur o vs) t fr)
  | [], _, _, _, h => h
  | v :: r, o, w, cur, h => heap_setCells_same r (o + 1) _ _ (heap_setCell_same h v)
theorem heap_setCells_far {b k : Nat} (hk : k ≠ b) : ∀ (vs : List Value) (o : Nat) (w : World), (w.setCells b o vs).heap[k]? = w.heap[k]?
  | [], _, _ => rfl
  | v :: r, o, w => (heap_setCells_far hk r (o + 1) _).trans (heap_setCell_other (p := ⟨b, o, none⟩) v hk)
theorem setCells_parts (b : Nat) : ∀ (vs : List Value) (o : Nat) (w : World), (w.setCells b o vs).os = w.os ∧ (w.setCells b o vs).tape = w.tape ∧ (w.setCells b o vs).output = w.output ∧ (w.setCells b o vs).heap.size = w.heap.size
  | [], _, _ => ⟨rfl, rfl, rfl, rfl⟩
  | v :: r, o, w => by
    have h := setCells_parts b r (o + 1) (w.setCell ⟨b, o, none⟩ v)
    refine ⟨h.1, h.2.1, h.2.2.1, h.2.2.2.trans ?_⟩
    simp [World.setCell]
theorem grown_setCells (b o : Nat) (vs : List Value) (w : World) : w.grownBy (w.setCells b o vs) (some b) := by
  obtain ⟨h1, h2, h3, h4⟩ := setCells_parts b vs o w
  exact ⟨h1, h2, h3, Nat.le_of_eq h4.symm, fun k _ hk => heap_setCells_far (fun e => hk (by rw [e])) vs o w⟩
theorem grown_trans {a b c : World} {row : Option Nat} (h : a.grownBy b row) (k : b.grownBy c row) : a.grownBy c row :=
  ⟨k.os.trans h.os, k.tape.trans h.tape, k.output.trans h.output, Nat.le_trans h.size k.size, fun x hx hr => (k.block x (Nat.lt_of_lt_of_le hx h.size) hr).trans (h.block x hx hr)⟩
theorem grown_drewN (w : World) (n : Nat) (row : Option Nat) : w.grownBy (w.drewN n) row := ⟨rfl, rfl, rfl, Nat.le_refl _, fun _ _ _ => rfl⟩
/-- a row of some numbers is a block of its own -/
theorem RowP.some_ {w : World} {p : Nat → Prop} {e : TypeId} {v : Value} {n : Nat} {xs : List Value} (h : RowP w p e 1 v n xs) (hn : 0 < n) :
    ∃ g cap cur, v = .slice (some ⟨g, 0, none⟩) n cap ∧ p g ∧ w.heap[g]? = some (.cells cur e (0, 0)) ∧ n ≤ cap ∧ cap ≤ maxLen ∧ cur.size = cap ∧ xs.length = n ∧ ∀ j, j < n → cur[j]? = xs[j]? := by
  rcases h.2 with ⟨h0, _⟩ | ⟨g, cap, cur, h1, h2, h3, h4, h5, h6, h7⟩
  · omega
  · have hl := h.1
    rw [Nat.mul_one] at h6 h7 hl
    refine ⟨g, cap, cur, h1, h2, h3, h4, h5, h6, hl, fun j hj => ?_⟩
    rw [← h7, List.getElem?_take, if_pos hj]
    simp
theorem RowP.of_some {w : World} {p : Nat → Prop} {e g n cap : Nat} {cur : Array Value} {xs : List Value} (h2 : p g) (h3 : w.heap[g]? = some (.cells cur e (0, 0))) (h4 : n ≤ cap) (h5 : cap ≤ maxLen) (h6 : cur.size = cap) (hl : xs.length = n)
    (h7 : ∀ j, j < n → cur[j]? = xs[j]?) : RowP w p e 1 (.slice (some ⟨g, 0, none⟩) n cap) n xs := by
  refine ⟨by rw [Nat.mul_one]; exact hl, .inr ⟨g, cap, cur, rfl, h2, h3, h4, h5, by rw [Nat.mul_one]; exact h6, ?_⟩⟩
  rw [Nat.mul_one]
  apply List.ext_getElem?
  intro j
  rw [List.getElem?_take]
  by_cases hj : j < n
  · rw [if_pos hj, ← h7 j hj]; simp
  · rw [if_neg hj, List.getElem?_eq_none (by omega)]
/-- a row is answered, written in place or made anew -/
def RRowP (p : Nat → Prop) (w : World) (n : Nat) (ys : List Value) (e : Ending) (w' : World) : Prop :=
  ∃ v' row, e = .returned v' ∧ RowP w' p 3 1 v' n ys ∧ w.grownBy w' row ∧ ∀ k, row = some k → p k

theorem delete_any {w : World} {p : Nat → Prop} {v : Value} {l : List Int} (hr : RowP w p 3 1 v l.length (l.map (Value.int .i64))) (hn : l.length ≤ 60000) {i : Nat} (hi : i < l.length) (j : Int) (hj : j = (i : Int) + 1) :
    Calls Try.prog 59 #[v, .int .i64 i, .int .i64 j] w (RRowP p w (l.length - 1) ((l.eraseIdx i).map (Value.int .i64))) := by
  obtain ⟨g, cap, cur, rfl, h2, h3, h4, h5, h6, h7, h8⟩ := hr.some_ (by omega)
  obtain rfl : j = ((i + 1 : Nat) : Int) := by omega
  unfold maxLen at h5
  have hc := Any.slices_Delete_int_cells laysDel g 0 l.length cap i (i + 1) l w (Nat.le_refl _) h4 (by omega) (by omega) (by omega)
    (fun j hj => by
      rw [Nat.zero_add]
      refine cellOf h3 ?_
      rw [h8 j hj, List.getElem?_map, List.getElem?_eq_getElem hj]
      simp [List.getD_eq_getElem?_getD, List.getElem?_eq_getElem hj])
    (fun j _ => freeOf h3 _)
  refine Calls.mono (P := Try.prog) (f := 59) hc ?_
  rintro e w' ⟨rfl, q, rfl⟩
  have hh : (w.drewN q).heap[g]? = some (.cells cur 3 (0, 0)) := h3
  refine ⟨_, some g, rfl, ?_, grown_trans (grown_drewN w q _) (grown_setCells _ _ _ _), fun k hk => by cases hk; exact h2⟩
  rw [show l.length - (i + 1 - i) = l.length - 1 by omega]
  refine RowP.of_some h2 (heap_setCells_same _ _ _ _ hh) (by omega) (by unfold maxLen; omega) (by rw [putMany_size]; exact h6) (by simp [List.length_eraseIdx, hi]) fun j hj => ?_
  rw [putMany_get _ _ _ _ (by omega), if_pos ⟨Nat.zero_le _, by simp; omega⟩, Nat.sub_zero, List.getElem?_map, List.getElem?_map, List.take_of_length_le (Nat.le_refl _), List.eraseIdx_eq_take_drop_succ, List.getElem?_append_left (by simp; omega)]

/-- what becomes of the cells when one is put in between -/
theorem put_two (l : List Int) (cur : Array Value) (i : Nat) (x : Int) (hi : i < l.length) (hs : l.length + 1 ≤ cur.size) (h8 : ∀ j, j < i → cur[j]? = (l.map (Value.int .i64))[j]?) :
    ∀ j, j < l.length + 1 → (putMany (putMany cur (i + 1) ((l.map (Value.int .i64)).drop i)) i [.int .i64 x])[j]? = ((l.take i ++ [x] ++ l.drop i).map (Value.int .i64))[j]? := by
  intro j hj
  rw [putMany_get _ _ _ _ (by rw [putMany_size]; omega)]
  have e : (l.take i ++ [x] ++ l.drop i).map (Value.int .i64) = (l.map (Value.int .i64)).take i ++ (.int .i64 x :: (l.map (Value.int .i64)).drop i) := by simp
  rw [e]
  rcases Nat.lt_trichotomy j i with h | h | h
  · rw [if_neg (by simp; omega), putMany_get _ _ _ _ (by omega), if_neg (by omega), List.getElem?_append_left (by simp; omega), List.getElem?_take, if_pos h, h8 j h]
  · subst h
    rw [if_pos ⟨Nat.le_refl _, by simp⟩, Nat.sub_self, List.getElem?_append_right (by simp; omega)]
    have : j - ((l.map (Value.int .i64)).take j).length = 0 := by simp; omega
    rw [this]; rfl
  · rw [if_neg (by simp; omega), putMany_get _ _ _ _ (by omega), if_pos ⟨by omega, by simp; omega⟩, List.getElem?_append_right (by simp; omega)]
    have : j - ((l.map (Value.int .i64)).take i).length = j - (i + 1) + 1 := by simp; omega
    rw [this, List.getElem?_cons_succ]
theorem put_three (l : List Int) (i : Nat) (x : Int) (Z : Array Value) (hi : i < l.length) (hz : ((l.map (Value.int .i64)).take i).length + (l.length + 1 - i) ≤ (((l.map (Value.int .i64)).take i).toArray ++ Z).size) :
    ∀ j, j < l.length + 1 → (putMany (putMany (((l.map (Value.int .i64)).take i).toArray ++ Z) i [.int .i64 x]) (i + 1) ((l.map (Value.int .i64)).drop i))[j]? = ((l.take i ++ [x] ++ l.drop i).map (Value.int .i64))[j]? := by
  intro j hj
  have hz' : l.length + 1 ≤ (((l.map (Value.int .i64)).take i).toArray ++ Z).size := by
    have : ((l.map (Value.int .i64)).take i).length = i := by simp; omega
    omega
  rw [putMany_get _ _ _ _ (by rw [putMany_size]; omega)]
  have e : (l.take i ++ [x] ++ l.drop i).map (Value.int .i64) = (l.map (Value.int .i64)).take i ++ (.int .i64 x :: (l.map (Value.int .i64)).drop i) := by simp
  rw [e]
  rcases Nat.lt_trichotomy j i with h | h | h
  · rw [if_neg (by omega), putMany_get _ _ _ _ (by omega), if_neg (by simp; omega), List.getElem?_append_left (by simp; omega), Array.getElem?_append_left (by simp; omega)]
    simp
  · subst h
    rw [if_neg (by omega), putMany_get _ _ _ _ (by omega), if_pos ⟨Nat.le_refl _, by simp⟩, Nat.sub_self, List.getElem?_append_right (by simp; omega)]
    have : j - ((l.map (Value.int .i64)).take j).length = 0 := by simp; omega
    rw [this]; rfl
  · rw [if_pos ⟨by omega, by simp; omega⟩, List.getElem?_append_right (by simp; omega)]
    have : j - ((l.map (Value.int .i64)).take i).length = j - (i + 1) + 1 := by simp; omega
    rw [this, List.getElem?_cons_succ]
theorem insertsAt_mid (l : List Int) (i : Nat) (hi : i < l.length) : InsertsAt i l := by
  intro W p v b x hr hl _ hx hpb
  obtain ⟨g, cap, cur, rfl, h2, h3, h4, h5, h6, h7, h8⟩ := hr.some_ (by omega)
  unfold maxLen at h5
  have hbg : b ≠ g := fun e => hpb (e ▸ h2)
  have hgl := (Array.getElem?_eq_some_iff.1 h3).1
  have hcell : ∀ (j : Nat) (v : Value), (l.map (Value.int .i64))[j]? = some v → W.cell? ⟨g, 0 + j, none⟩ = some v := fun j v hv => by
    rw [Nat.zero_add]
    refine cellOf h3 ?_
    have hjl := (List.getElem?_eq_some_iff.1 hv).1
    rw [h8 j (by simpa using hjl)]; exact hv
  have hvx : ∀ (j : Nat) (v : Value), [Value.int .i64 x][j]? = some v → W.cell? ⟨b, 0 + j, none⟩ = some v := fun j v hv => by
    match j, hv with
    | 0, hv => cases hv; exact cellOf hx rfl
  by_cases hroom : l.length + 1 ≤ cap
  · have hc := Any2.slices_Insert_int_shift laysIns g 0 l.length cap i b 0 1 1 (l.map (Value.int .i64)) [.int .i64 x] W hi (by omega) hroom (by omega) hbg (by simp) rfl hcell
      (fun j hj => by rw [Nat.zero_add, cellOf h3 (Array.getElem?_eq_getElem (by omega))]; rfl) (fun j _ => freeOf h3 _) hvx (ints_one l) (by simp [Value.oneCell'])
      3 3 1 cur.size (by simp [World.shape?, hx]) (by simp [World.shape?, h3]) (by omega) (freeOf hx _) (freeOf hx _)
    refine Calls.mono (P := Try.prog) (f := 57) hc ?_
    rintro e w' ⟨rfl, rfl⟩
    have hh : W.drew.heap[g]? = some (.cells cur 3 (0, 0)) := h3
    refine ⟨_, some g, rfl, ?_, grown_trans (grown_drewN W 1 _) (grown_trans (grown_setCells _ _ _ _) (grown_setCells _ _ _ _)), fun k hk => by cases hk; exact h2⟩
    rw [Nat.zero_add, Nat.zero_add]
    exact RowP.of_some (.inl h2) (heap_setCells_same _ _ _ _ (heap_setCells_same _ _ _ _ hh)) hroom (by unfold maxLen; omega) (by rw [putMany_size, putMany_size]; exact h6) (by simp; omega)
      (put_two l cur i x hi (by omega) fun j hj => h8 j (by omega))
  · have hc := Any2.slices_Insert_int_grow laysIns g 0 l.length cap i b 0 1 1 (l.map (Value.int .i64)) [.int .i64 x] W hi (by omega) h4 (by omega) (by omega) (by simp) rfl hcell hvx (ints_one l) (by simp [Value.oneCell'])
    refine Calls.mono (P := Try.prog) (f := 57) hc ?_
    rintro e w' ⟨rfl, rfl⟩
    have hG := grownCap_ge W (l.length + 1) cap (laysIns_ren.t 3)
    have hGm := grownCap_le_maxLen W (l.length + 1) cap (laysIns_ren.t 3) (by unfold maxLen; omega)
    generalize grownCap W (l.length + 1) cap (laysIns_ren.t 3) = G at hG hGm ⊢
    refine ⟨_, none, rfl, ?_, ?_, fun k hk => by cases hk⟩
    · have hsz : ∀ k, (Builtin.zeroCells (Value.int .i64 0).cells k).size = k := fun k => by simp [Builtin.zeroCells, Value.cells]
      have e : ((l.map (Value.int .i64)).take i).toArray ++ Builtin.zeroCells (Value.int .i64 0).cells (l.length + 1 - i) ++ Builtin.zeroCells (Value.int .i64 0).cells (G - (l.length + 1)) = ((l.map (Value.int .i64)).take i).toArray ++ (Builtin.zeroCells (Value.int .i64 0).cells (l.length + 1 - i) ++ Builtin.zeroCells (Value.int .i64 0).cells (G - (l.length + 1))) := by simp
      rw [e]
      have hh := heap_alloc_new W (.cells (((l.map (Value.int .i64)).take i).toArray ++ (Builtin.zeroCells (Value.int .i64 0).cells (l.length + 1 - i) ++ Builtin.zeroCells (Value.int .i64 0).cells (G - (l.length + 1)))) 3)
      have hs : (((l.map (Value.int .i64)).take i).toArray ++ (Builtin.zeroCells (Value.int .i64 0).cells (l.length + 1 - i) ++ Builtin.zeroCells (Value.int .i64 0).cells (G - (l.length + 1)))).size = G := by
        simp only [Array.size_append, hsz, List.size_toArray, List.length_take, List.length_map]; omega
      refine RowP.of_some (.inr (Nat.le_refl _)) (heap_setCells_same _ _ _ _ (show _ = _ from heap_setCells_same _ _ _ _ (show _ = _ from hh))) hG hGm (by rw [putMany_size, putMany_size]; exact hs) (by simp; omega) ?_
      exact put_three l i x _ hi (by rw [hs]; simp; omega)
    · have hA := fun (k : Nat) (hk : k < W.heap.size) => Below.heap_alloc W (.cells (((l.map (Value.int .i64)).take i).toArray ++ Builtin.zeroCells (Value.int .i64 0).cells (l.length + 1 - i) ++ Builtin.zeroCells (Value.int .i64 0).cells (G - (l.length + 1))) (laysIns_ren.t 3)) k hk
      have hne : ∀ k, k < W.heap.size → k ≠ W.heap.size := fun k hk => by omega
      refine ⟨?_, ?_, ?_, ?_, fun k hk _ => ?_⟩
      · exact (setCells_parts _ _ _ _).1.trans (show _ = _ from (setCells_parts _ _ _ _).1)
      · exact (setCells_parts _ _ _ _).2.1.trans (show _ = _ from (setCells_parts _ _ _ _).2.1)
      · exact (setCells_parts _ _ _ _).2.2.1.trans (show _ = _ from (setCells_parts _ _ _ _).2.2.1)
      · rw [(setCells_parts _ _ _ _).2.2.2]
        show _ ≤ ((World.setCells _ _ _ _)).heap.size
        rw [(setCells_parts _ _ _ _).2.2.2]
        show _ ≤ (World.alloc _ _).heap.size
        simp
      · exact (heap_setCells_far (hne k hk) _ _ _).trans (show _ = _ from (heap_setCells_far (hne k hk) _ _ _).trans (hA k hk))
theorem insertsAt_any (l : List Int) (i : Nat) : InsertsAt i l := by
  intro W p v b x hr hl hi hx hpb
  rcases Nat.lt_or_ge i l.length with h | h
  · exact insertsAt_mid l i h W p v b x hr hl hi hx hpb
  · obtain rfl : i = l.length := by omega
    exact insertsAt_end l W p v b x hr hl hi hx hpb
end Go.Proofs.Ythgnbbbdcebjhaa

namespace Go.Proofs.Ythgnbbbdcebjhaa
open Go Go.RowKit Go.BigFrame
set_option linter.unusedVariables false
set_option linter.unusedSimpArgs false

theorem posOf_mem {l : List Int} {x : Int} (h : x ∈ l) : posOf l x = ((l.idxOf x : Nat) : Int) ∧ l.idxOf x < l.length ∧ l.eraseIdx (l.idxOf x) = l.erase x := by
  refine ⟨if_pos h, List.idxOf_lt_length_iff.2 h, ?_⟩
  induction l with
  | nil => cases h
  | cons y r ih =>
    by_cases e : y = x
    · subst e; simp
    · have hr : x ∈ r := by rcases List.mem_cons.1 h with h | h; exact absurd h.symm e; exact h
      have h2 : (y :: r).idxOf x = r.idxOf x + 1 := by
        rw [List.idxOf_cons]
        have : (y == x) = false := by simpa using e
        rw [this]; rfl
      rw [h2, List.eraseIdx_cons_succ, ih hr, List.erase_cons_tail (by simpa using e)]

set_option maxRecDepth 100000 in
set_option maxHeartbeats 4000000 in
theorem Remove_ok {w : World} {own : Ow} {ptr : Nat → Nat} {tb : Nat} {T : Tr} (hT : TreeAt w own ptr tb T) (hO : Owned own w) {p k : Nat} {pd kd : Nd} (hp : T.nodes[p]? = some (some pd)) (hk : T.nodes[k]? = some (some kd))
    (hpar : kd.parent = (p : Int)) (hpk : p ≠ k) (hkl : pd.kids.length ≤ 60000) (hin : (k : Int) ∈ pd.kids) :
    Calls Try.prog 30 #[.pointer (some ⟨tb, 0, none⟩), .int .i64 k] w (ErrAfter own w tb 0 (T.unlink p k pd kd)) := by
  obtain ⟨hps, hil, her⟩ := posOf_mem hin
  obtain ⟨avp, kvp, bp, op, _, hkp⟩ := hT.node p pd hp
  obtain ⟨avk, kvk, bk, ok, _, _⟩ := hT.node k kd hk
  obtain ⟨g, gcap, _, _, c3, cg, _⟩ := hT.at hp
  obtain ⟨ka, kcap, rfl, kc1, kc2⟩ := hkp.len
  have cp3 := cellOf bp (i := 3) (v := .slice ka pd.kids.length kcap) rfl
  have ck4 := cellOf bk (i := 4) (v := .int .i64 (p : Int)) (by rw [← hpar]; rfl)
  have hpb : (p : Int) < T.nodes.length := by have := (List.getElem?_eq_some_iff.1 hp).1; omega
  have hpkb : ptr p ≠ ptr k := fun e => by rw [e, ok] at op; simp at op; omega
  have HK := Lib.hid (Tr.get_of hk)
  have HNP := Lib.hid hp
  have HNK := Lib.hid hk
  have HT := Lib.hid hT
  have HO := Lib.hid hO
  have HBP := Lib.hid bp
  have HBK := Lib.hid bk
  have HOP := Lib.hid op
  have HOK := Lib.hid ok
  have HKP := Lib.hid hkp
  have HPK := Lib.hid hpk
  have HPKB := Lib.hid hpkb
  have HPS := Lib.hid hps
  have HER := Lib.hid her
  have HPAR := Lib.hid hpar
  have c3' := fun u : ExtOf w => u.ext.cell c3
  have cg' := fun u : ExtOf w => u.ext.cell cg
  have ck' := fun u : ExtOf w => u.ext.cell ck4
  have hil' : ((pd.kids.idxOf (k : Int) : Nat) : Int) ≤ 60000 := by omega
  clear hp hk hT hO bp bk hkp hpar kc2 op ok hpk hpkb hps her hin
  go_enter Try.func30, Try.ntmps30
  go_wp2_with fail
  refine (get_some HT.out HK.out).mono ?_
  rintro e w' ⟨rfl, rfl⟩
  go_wp2_with fail
  refine wp_region_ext (by kernel_rfl) (by kernel_rfl) ?_
  repeat (go_big_quiet_step (fail))
  refine wpQuiet_nil ?_
  rintro _ ⟨u, rfl⟩
  obtain ⟨wu, xu⟩ := u
  show Exit.then _ _ Exit.normal _ wu
  clear c3' cg' ck'
  replace cp3 := xu.cell cp3
  have XU := Lib.hid xu
  clear xu c3 cg ck4
  go_wp2_with fail
  have hOu : Owned own wu := fun b hb => Nat.lt_of_lt_of_le (HO.out b hb) XU.out.size
  have hTu := HT.out.keep (XU.out.keep HO.out)
  have hrow : RowP wu (fun g => own g = some (4, p)) 3 1 (.slice ka pd.kids.length kcap) pd.kids.length (pd.kids.map (Value.int .i64)) :=
    RowP.move HKP.out fun g hg => ⟨XU.out.keep HO.out g (by simp [hg]), hg⟩
  have HROW := Lib.hid hrow
  clear hrow
  refine (index_any HROW.out.rd hkl _).mono ?_
  rintro e w' ⟨rfl, rfl⟩
  rw [HPS.out]
  go_wp2_with fail
  have hdel := delete_any HROW.out hkl hil (((pd.kids.idxOf (k : Int) : Nat) : Int) + 1) rfl
  refine hdel.mono ?_
  clear hdel
  rintro e w3 ⟨v', row, rfl, hr, hg, hrow⟩
  replace hrow : ∀ b, row = some b → own b = some (4, p) := hrow
  rw [HER.out] at hr
  have hlen : (pd.kids.erase (k : Int)).length = pd.kids.length - 1 := by rw [← HER.out, List.length_eraseIdx, if_pos hil]
  rw [← hlen] at hr
  obtain ⟨own1, hs1, hT1, hsame⟩ := kids_plain (XU.out.step HO.out) hTu HNP.out (pd.kids.erase (k : Int)) (fun _ => by rw [HOP.out]; simp) (fun b _ hb => by rw [hb]; simp) (hr.imp fun _ _ h => .inl h) hg hrow
  have hkd : (T.nodes.set p (some { pd with kids := pd.kids.erase (k : Int) }))[k]? = some (some kd) := by
    rw [List.getElem?_set, if_neg HPK.out]; exact HNK.out
  have hT2 := hT1.setParent hkd (-1)
  have hs2 := hs1.setCell (p := ⟨ptr k, 4, none⟩) (fun _ => by show own (ptr k) ≠ none; rw [HOK.out]; simp) (.int .i64 (-1))
  have hsame3 : ∀ b x, own b = some x → x ≠ (4, p) → w3.heap[b]? = w.heap[b]? := fun b x hb hx => by
    have hbl := HO.out b (by simp [hb])
    have hsz := XU.out.size
    rw [hg.block b (by omega) (fun h => by have := hrow b h.symm; rw [hb] at this; exact hx (Option.some.inj this))]
    exact Below.block XU.out b hbl
  have bp3 := (hsame3 _ _ HOP.out (by simp)).trans HBP.out
  have bk3 := (hsame3 _ _ HOK.out (by simp)).trans HBK.out
  have cp3' := cellOf bp3 (i := 3) (v := .slice ka pd.kids.length kcap) rfl
  have fp3 := freeOf bp3 3
  have ck4' := cellOf bk3 (i := 4) (v := .int .i64 kd.parent) rfl
  have fk4 := freeOf bk3 4
  have n1 := HPKB.out
  have n2 := Ne.symm HPKB.out
  obtain ⟨va, vcap, hv, _⟩ := hr.rd.len_of
  have HS2 := Lib.hid hs2
  have HT2 := Lib.hid hT2
  clear hs1 hT1 hsame hkd hT2 hs2 hsame3 bp3 bk3 hr hg hrow hTu hOu cp3 hlen
  rw [hv] at HS2 HT2 ⊢
  clear hv
  go_wp2
  go_ret
  exact ⟨rfl, own1, ptr, HT2.out, HS2.out⟩
end Go.Proofs.Ythgnbbbdcebjhaa

namespace Go.Proofs.Ythgnbbbdcebjhaa
open Go Go.RowKit Go.BigFrame
set_option linter.unusedVariables false
set_option linter.unusedSimpArgs false

/-- nothing but the tree's head and its row of nodes has turned -/
structure Top (own : Ow) (w w' : World) : Prop where
  os : w'.os = w.os
  tape : w'.tape = w.tape
  output : w'.output = w.output
  size : w'.heap.size = w.heap.size
  rest : ∀ b, own b ≠ some (0, 0) → own b ≠ some (1, 0) → w'.heap[b]? = w.heap[b]?
theorem Top.refl (own : Ow) (w : World) : Top own w w := ⟨rfl, rfl, rfl, rfl, fun _ _ _ => rfl⟩
theorem Top.trans {own : Ow} {a b c : World} (h : Top own a b) (k : Top own b c) : Top own a c :=
  ⟨k.os.trans h.os, k.tape.trans h.tape, k.output.trans h.output, k.size.trans h.size, fun x h0 h1 => (k.rest x h0 h1).trans (h.rest x h0 h1)⟩
theorem Top.setCell {own : Ow} {a b : World} (h : Top own a b) {p : Addr} (hp : own p.block = some (0, 0) ∨ own p.block = some (1, 0)) (u : Value) : Top own a (b.setCell p u) :=
  ⟨h.os, h.tape, h.output, by have := h.size; simpa [World.setCell] using this, fun x h0 h1 => (heap_setCell_other _ (fun e => by subst e; rcases hp with hp | hp; exact h0 hp; exact h1 hp)).trans (h.rest x h0 h1)⟩
theorem Top.cell {own : Ow} {w w' : World} (h : Top own w w') {b o : Nat} {v : Value} (hb : own b = none) (hc : w.cell? ⟨b, o, none⟩ = some v) : w'.cell? ⟨b, o, none⟩ = some v :=
  (World.cell?_of_block (a := ⟨b, o, none⟩) (h.rest b (by rw [hb]; simp) (by rw [hb]; simp))).trans hc
theorem Top.step {own : Ow} {w w' : World} (h : Top own w w') (hO : Owned own w) : Step own w own w' :=
  ⟨h.os, h.tape, h.output, Nat.le_of_eq h.size.symm, fun b _ hn => h.rest b (by rw [hn]; simp) (by rw [hn]; simp), fun _ _ => rfl, fun b hb => by rw [h.size]; exact hO b hb⟩
end Go.Proofs.Ythgnbbbdcebjhaa

namespace Go.Proofs.Ythgnbbbdcebjhaa
open Go Go.RowKit Go.BigFrame
set_option linter.unusedVariables false
set_option linter.unusedSimpArgs false

end Go.Proofs.Ythgnbbbdcebjhaa

namespace Go.Proofs.Ythgnbbbdcebjhaa
open Go Go.RowKit Go.BigFrame
set_option linter.unusedVariables false
set_option linter.unusedSimpArgs false

/-- what measure has in hand -/
structure Ms where
  count : Int
  height : Int
  e : Int
def Ms.one (n : PN) (deep : Int) (m : Ms) : Ms := ⟨m.count + 1, max m.height deep, if n.bad then 1 else if 8192 < (anewB n.text).size ∧ m.e = 0 then 10 else m.e⟩
mutual
def PN.look (deep : Int) (m : Ms) : PN → Ms
  | .mk t a s ks => PN.looks (deep + 1) (Ms.one (.mk t a s ks) deep m) ks
def PN.looks (deep : Int) (m : Ms) : List PN → Ms
  | [] => m
  | k :: r => PN.looks deep (PN.look deep m k) r
end
theorem PN.look_eq (deep : Int) (m : Ms) (n : PN) : PN.look deep m n = PN.looks (deep + 1) (Ms.one n deep m) n.kids := by cases n; rfl
mutual
/-- all texts are short -/
def PN.short : PN → Bool
  | .mk _ a s ks => decide (s.size ≤ 100000) && decide (a.length ≤ 60000) && PN.shorts ks
def PN.shorts : List PN → Bool
  | [] => true
  | k :: r => PN.short k && PN.shorts r
end
theorem PN.short_eq (n : PN) : n.short = (decide (n.text.size ≤ 100000) && decide (n.attrs.length ≤ 60000) && PN.shorts n.kids) := by cases n; rfl
theorem PN.shorts_mem {l : List PN} (h : PN.shorts l = true) {k : PN} (hk : k ∈ l) : k.short = true := by
  induction l with
  | nil => cases hk
  | cons x r ih =>
    simp only [PN.shorts, Bool.and_eq_true] at h
    rcases List.mem_cons.1 hk with rfl | hk
    · exact h.1
    · exact ih h.2 hk
theorem looks_snoc (deep : Int) : ∀ (l : List PN) (m : Ms) (k : PN), PN.looks deep m (l ++ [k]) = PN.look deep (PN.looks deep m l) k := by
  intro l
  induction l with
  | nil => intro m k; rfl
  | cons x r ih => intro m k; simp only [List.cons_append, PN.looks]; exact ih _ _
theorem looks_take (deep : Int) (m : Ms) (l : List PN) (i : Nat) (k : PN) (h : l[i]? = some k) : PN.looks deep m (l.take (i + 1)) = PN.look deep (PN.looks deep m (l.take i)) k := by
  obtain ⟨hlt, rfl⟩ := List.getElem?_eq_some_iff.1 h
  rw [List.take_succ_eq_append_getElem hlt, looks_snoc]
/-- what comes of it -/
theorem looks_spec : ∀ (l : List PN), (∀ k ∈ l, ∀ (deep : Int) (m : Ms), (PN.look deep m k).count = m.count + k.size ∧ (PN.look deep m k).height = max m.height (deep + k.high) ∧ ((PN.look deep m k).e = 0 ↔ m.e = 0 ∧ k.ok = true)) →
    ∀ (deep : Int) (m : Ms), (PN.looks deep m l).count = m.count + PN.sizes l ∧ (max (PN.looks deep m l).height (deep - 1)) = max m.height (deep - 1 + PN.highs l) ∧ m.height ≤ (PN.looks deep m l).height ∧ ((PN.looks deep m l).e = 0 ↔ m.e = 0 ∧ PN.oks l = true) := by
  intro l
  induction l with
  | nil => intro _ deep m; simp [PN.looks, PN.sizes, PN.highs, PN.oks]
  | cons k r ih =>
    intro h deep m
    obtain ⟨h1, h2, h3⟩ := h k (by simp) deep m
    obtain ⟨g1, g2, g3, g4⟩ := ih (fun x hx => h x (by simp [hx])) deep (PN.look deep m k)
    simp only [PN.looks, PN.sizes, PN.highs, PN.oks]
    refine ⟨by rw [g1, h1]; push_cast; omega, by omega, by omega, ?_⟩
    rw [g4, h3, Bool.and_eq_true, and_assoc]
theorem look_spec : ∀ (n : PN) (deep : Int) (m : Ms), (PN.look deep m n).count = m.count + n.size ∧ (PN.look deep m n).height = max m.height (deep + n.high) ∧ ((PN.look deep m n).e = 0 ↔ m.e = 0 ∧ n.ok = true) := by
  refine PN.induct _ fun n ih deep m => ?_
  obtain ⟨g1, g2, g3, g4⟩ := looks_spec n.kids ih (deep + 1) (Ms.one n deep m)
  rw [PN.look_eq, PN.size_eq, PN.high_eq, PN.ok_eq]
  have e1 : (Ms.one n deep m).count = m.count + 1 := rfl
  have e2 : (Ms.one n deep m).height = max m.height deep := rfl
  rw [e1] at g1
  rw [e2] at g2 g3
  refine ⟨by rw [g1]; push_cast; omega, by omega, ?_⟩
  rw [g4]
  show (if n.bad then (1 : Int) else if 8192 < (anewB n.text).size ∧ m.e = 0 then 10 else m.e) = 0 ∧ _ ↔ _
  cases hb : n.bad with
  | true => simp
  | false =>
    simp only [Bool.false_eq_true, if_false, Bool.not_false, Bool.true_and, Bool.and_eq_true, decide_eq_true_eq]
    by_cases hl : 8192 < (anewB n.text).size
    · by_cases he : m.e = 0
      · rw [if_pos ⟨hl, he⟩]
        constructor
        · intro h; exact absurd h.1 (by decide)
        · intro h; omega
      · rw [if_neg (fun h => he h.2)]
        constructor
        · intro h; exact absurd h.1 he
        · intro h; exact absurd h.1 he
    · rw [if_neg (fun h => hl h.1)]
      constructor
      · intro h; exact ⟨h.1, by omega, h.2⟩
      · intro h; exact ⟨h.1, h.2.2⟩
theorem sizes_append : ∀ (l r : List PN), PN.sizes (l ++ r) = PN.sizes l + PN.sizes r := by
  intro l
  induction l with
  | nil => intro r; simp [PN.sizes]
  | cons x l ih => intro r; simp only [List.cons_append, PN.sizes, ih]; omega
theorem sizes_take (l : List PN) (k : Nat) : PN.sizes (l.take k) ≤ PN.sizes l := by
  have := sizes_append (l.take k) (l.drop k)
  rw [List.take_append_drop] at this; omega
theorem sizes_take_succ {l : List PN} {i : Nat} {k : PN} (h : l[i]? = some k) : PN.sizes (l.take i) + k.size ≤ PN.sizes l := by
  obtain ⟨hlt, rfl⟩ := List.getElem?_eq_some_iff.1 h
  have h1 := sizes_take l (i + 1)
  rw [List.take_succ_eq_append_getElem hlt, sizes_append] at h1
  simp only [PN.sizes] at h1; omega
theorem high_lt : ∀ n : PN, n.high < n.size := by
  refine PN.induct _ fun n ih => ?_
  rw [PN.high_eq, PN.size_eq]
  have : ∀ l : List PN, (∀ k ∈ l, k.high < k.size) → PN.highs l ≤ PN.sizes l := by
    intro l
    induction l with
    | nil => intro _; simp [PN.highs]
    | cons x r ih2 => intro h; simp only [PN.highs, PN.sizes]; have := h x (by simp); have := ih2 fun k hk => h k (by simp [hk]); omega
  have := this n.kids ih; omega
theorem highs_le (l : List PN) : PN.highs l ≤ PN.sizes l := by
  induction l with
  | nil => simp [PN.highs]
  | cons x r ih => simp only [PN.highs, PN.sizes]; have := high_lt x; omega
theorem one_e (n : PN) (deep : Int) (m : Ms) (h0 : 0 ≤ m.e) (h1 : m.e ≤ 100) : 0 ≤ (Ms.one n deep m).e ∧ (Ms.one n deep m).e ≤ 100 := by
  unfold Ms.one
  simp only
  split
  · omega
  · split <;> omega
theorem looks_e : ∀ (l : List PN), (∀ k ∈ l, ∀ (deep : Int) (m : Ms), 0 ≤ m.e → m.e ≤ 100 → 0 ≤ (PN.look deep m k).e ∧ (PN.look deep m k).e ≤ 100) → ∀ (deep : Int) (m : Ms), 0 ≤ m.e → m.e ≤ 100 → 0 ≤ (PN.looks deep m l).e ∧ (PN.looks deep m l).e ≤ 100 := by
  intro l
  induction l with
  | nil => intro _ deep m h0 h1; exact ⟨h0, h1⟩
  | cons k r ih =>
    intro h deep m h0 h1
    have := h k (by simp) deep m h0 h1
    exact ih (fun x hx => h x (by simp [hx])) deep _ this.1 this.2
theorem look_e : ∀ (n : PN) (deep : Int) (m : Ms), 0 ≤ m.e → m.e ≤ 100 → 0 ≤ (PN.look deep m n).e ∧ (PN.look deep m n).e ≤ 100 := by
  refine PN.induct _ fun n ih deep m h0 h1 => ?_
  rw [PN.look_eq]
  have := one_e n deep m h0 h1
  exact looks_e n.kids ih (deep + 1) _ this.1 this.2
/-- the bounds of a round -/
theorem looks_bounds (n : PN) (deep : Int) (m : Ms) (d0 : 0 ≤ deep) (d1 : deep + n.size ≤ 100000) (c0 : 0 ≤ m.count) (c1 : m.count + n.size ≤ 100000) (h0 : 0 ≤ m.height) (h1 : m.height ≤ 100000) (e0 : 0 ≤ m.e) (e1 : m.e ≤ 100) {i : Nat} {k : PN} (hk : n.kids[i]? = some k) :
    deep + 1 + k.size ≤ 100000 ∧ 0 ≤ (PN.looks (deep + 1) (Ms.one n deep m) (n.kids.take i)).count ∧ (PN.looks (deep + 1) (Ms.one n deep m) (n.kids.take i)).count + k.size ≤ 100000 ∧
      0 ≤ (PN.looks (deep + 1) (Ms.one n deep m) (n.kids.take i)).height ∧ (PN.looks (deep + 1) (Ms.one n deep m) (n.kids.take i)).height ≤ 100000 ∧ 0 ≤ (PN.looks (deep + 1) (Ms.one n deep m) (n.kids.take i)).e ∧ (PN.looks (deep + 1) (Ms.one n deep m) (n.kids.take i)).e ≤ 100 := by
  have hs := PN.size_eq n
  have ht := sizes_take_succ hk
  have hh := highs_le (n.kids.take i)
  obtain ⟨g1, g2, g3, g4⟩ := looks_spec (n.kids.take i) (fun k _ => look_spec k) (deep + 1) (Ms.one n deep m)
  have o := one_e n deep m e0 e1
  have oe := looks_e (n.kids.take i) (fun k _ => look_e k) (deep + 1) (Ms.one n deep m) o.1 o.2
  have q1 : (Ms.one n deep m).count = m.count + 1 := rfl
  have q2 : (Ms.one n deep m).height = max m.height deep := rfl
  rw [q1] at g1
  rw [q2] at g2 g3
  refine ⟨by omega, by omega, by omega, by omega, by omega, oe.1, oe.2⟩
theorem bad_attrs {n : PN} (ht : n.tag = 0) (h : 0 < n.attrs.length) : n.bad = true := by
  unfold PN.bad
  rw [if_pos ht]
  cases ha : n.attrs with
  | nil => rw [ha] at h; simp at h
  | cons a b => rfl
theorem bad_kids {n : PN} (ht : n.tag = 0) (h : 0 < n.kids.length) : n.bad = true := by
  unfold PN.bad
  rw [if_pos ht]
  cases ha : n.kids with
  | nil => rw [ha] at h; simp at h
  | cons a b => cases n.attrs <;> rfl
theorem bad_text {n : PN} (ht : n.tag = 0) (h : ¬ 0 < n.attrs.length) (k : ¬ 0 < n.kids.length) : n.bad = false := by
  unfold PN.bad
  rw [if_pos ht, List.eq_nil_of_length_eq_zero (by omega : n.attrs.length = 0), List.eq_nil_of_length_eq_zero (by omega : n.kids.length = 0)]; rfl
theorem bad_tag' {n : PN} (ht : n.tag ≠ 0) (h : ¬ (1 ≤ n.tag ∧ n.tag ≤ 16)) : n.bad = true := by
  unfold PN.bad
  rw [if_neg ht, decide_eq_false h]; rfl
theorem bad_said {n : PN} (ht : n.tag ≠ 0) (h : n.text.size ≠ 0) : n.bad = true := by
  unfold PN.bad
  rw [if_neg ht]
  have : (n.text.size == 0) = false := by simpa using h
  rw [this]; simp
theorem bad_fine {n : PN} (ht : n.tag ≠ 0) (h : 1 ≤ n.tag ∧ n.tag ≤ 16) (k : n.text.size = 0) : n.bad = false := by
  unfold PN.bad
  rw [if_neg ht, decide_eq_true h, k]; rfl
theorem text_none {s : ByteArray} (h : s.size = 0) : s = ByteArray.empty := by
  cases s with
  | mk d =>
    have : d.size = 0 := h
    simp at this; subst this; rfl
theorem text_some {s : ByteArray} (h : s.size ≠ 0) : s.toList.isEmpty = false := by
  rw [ByteArray.toList_eq]
  cases hd : s.data.toList with
  | nil =>
    exfalso; apply h
    show s.data.size = 0
    rw [← Array.length_toList, hd]; rfl
  | cons a b => rfl
/-- a block of one cell -/
def One (w : World) (b : Nat) (v : Value) (t : TypeId) : Prop := w.heap[b]? = some (.cells #[v] t (0, 0))
theorem One.cell {w : World} {b : Nat} {v : Value} {t : TypeId} (h : One w b v t) : w.cell? ⟨b, 0, none⟩ = some v := cellOf h rfl
theorem One.free {w : World} {b : Nat} {v : Value} {t : TypeId} (h : One w b v t) : w.frozen? ⟨b, 0, none⟩ = false := freeOf h 0
theorem One.lt {w : World} {b : Nat} {v : Value} {t : TypeId} (h : One w b v t) : b < w.heap.size := (Array.getElem?_eq_some_iff.1 h).1
theorem One.alloc {w : World} {b : Nat} {v : Value} {t : TypeId} (h : One w b v t) (o : Obj) : One (w.alloc o) b v t := (Below.heap_alloc _ _ _ h.lt).trans h
theorem One.set {w : World} {b : Nat} {v : Value} {t : TypeId} (h : One w b v t) (u : Value) : One (w.setCell ⟨b, 0, none⟩ u) b u t := heap_setCell_same h u
theorem One.far {w : World} {b : Nat} {v : Value} {t : TypeId} (h : One w b v t) {p : Addr} (hp : b ≠ p.block) (u : Value) : One (w.setCell p u) b v t := (heap_setCell_other u hp).trans h
theorem One.ext {w w' : World} {b : Nat} {v : Value} {t : TypeId} (h : One w b v t) (k : Ext w w') : One w' b v t := (Below.block k b h.lt).trans h
theorem One.new (w : World) (v : Value) (t : TypeId) : One (w.alloc (.cells #[v] t)) w.heap.size v t := heap_alloc_new w _
/-- the four variables that look has captured -/
structure Held4 (w : World) (bc bh be bl : Nat) (m : Ms) : Prop where
  c : One w bc (.int .i64 m.count) 3
  h : One w bh (.int .i64 m.height) 3
  e : One w be (.int .i64 m.e) 28
  l : One w bl (.func (.func 70) #[] #[.pointer (some ⟨bc, 0, none⟩), .pointer (some ⟨bh, 0, none⟩), .pointer (some ⟨be, 0, none⟩), .pointer (some ⟨bl, 0, none⟩)]) 105
end Go.Proofs.Ythgnbbbdcebjhaa

namespace Go.Proofs.Ythgnbbbdcebjhaa
open Go Go.RowKit Go.BigFrame
set_option linter.unusedVariables false
set_option linter.unusedSimpArgs false

def LookIs (w0 : World) (bc bh be bl : Nat) (m : Ms) (e : Ending) (w' : World) : Prop := e = .returned (.tuple #[]) ∧ Ext w0 w' ∧ Held4 w' bc bh be bl m
set_option maxRecDepth 100000 in
set_option maxHeartbeats 4000000 in
theorem look_any {w0 : World} {bc bh be bl : Nat} (n1 : bc ≠ bh) (n2 : bc ≠ be) (n3 : bc ≠ bl) (n4 : bh ≠ be) (n5 : bh ≠ bl) (n6 : be ≠ bl) (b1 : w0.heap.size ≤ bc) (b2 : w0.heap.size ≤ bh) (b3 : w0.heap.size ≤ be) (b4 : w0.heap.size ≤ bl) :
    ∀ (n : PN), n.short = true → ∀ (nv : Value) (deep : Int) (m : Ms) (w : World), RdN w0 n nv → 0 ≤ deep → deep + n.size ≤ 100000 → 0 ≤ m.count → m.count + n.size ≤ 100000 → 0 ≤ m.height → m.height ≤ 100000 → 0 ≤ m.e → m.e ≤ 100 → Ext w0 w → Held4 w bc bh be bl m →
      Calls Try.prog 70 #[nv, .int .i64 deep, .pointer (some ⟨bc, 0, none⟩), .pointer (some ⟨bh, 0, none⟩), .pointer (some ⟨be, 0, none⟩), .pointer (some ⟨bl, 0, none⟩)] w (LookIs w0 bc bh be bl (PN.look deep m n)) := by
  refine PN.induct _ fun n ih hsh nv deep m w hr d0 d1 c0 c1 h0 h1 e0 e1 hx hh => ?_
  obtain ⟨av, kv, rfl, ha, hk⟩ := hr.open
  obtain ⟨aa, acap, rfl, hac⟩ := ha.len_of
  obtain ⟨ka, kcap, rfl, hkc, hkm, hkn, hkr⟩ := hk
  have n1' := Ne.symm n1
  have n2' := Ne.symm n2
  have n3' := Ne.symm n3
  have n4' := Ne.symm n4
  have n5' := Ne.symm n5
  have n6' := Ne.symm n6
  have hbox := heap_alloc_new w (.cells #[.int .i64 n.tag, .slice aa n.attrs.length acap, .string n.text, .slice ka n.kids.length kcap] 39)
  have hh1 : Held4 (w.alloc (.cells #[.int .i64 n.tag, .slice aa n.attrs.length acap, .string n.text, .slice ka n.kids.length kcap] 39)) bc bh be bl m := ⟨hh.c.alloc _, hh.h.alloc _, hh.e.alloc _, hh.l.alloc _⟩
  have x1 := hx.alloc (.cells #[.int .i64 n.tag, .slice aa n.attrs.length acap, .string n.text, .slice ka n.kids.length kcap] 39)
  have sz : (w.alloc (.cells #[.int .i64 n.tag, .slice aa n.attrs.length acap, .string n.text, .slice ka n.kids.length kcap] 39)).heap.size = w.heap.size + 1 := by simp
  have lc : bc ≠ w.heap.size := Nat.ne_of_lt hh.c.lt
  have lh : bh ≠ w.heap.size := Nat.ne_of_lt hh.h.lt
  have le : be ≠ w.heap.size := Nat.ne_of_lt hh.e.lt
  have lc' := Ne.symm lc
  have lh' := Ne.symm lh
  have le' := Ne.symm le
  have HA := Lib.hid ha
  have HKR := Lib.hid hkr
  have HKN := Lib.hid hkn
  have HX := Lib.hid hx
  have HH := Lib.hid hh
  have HSH := Lib.hid hsh
  have IH := Lib.hid ih
  unfold maxLen at hkm
  clear ha hkr hkn hx hh hsh ih hr
  go_enter Try.func70, Try.ntmps70
  go_upto_region 1 with fail
  obtain ⟨wb, hwb⟩ : ∃ wb : World, wb = w.alloc (.cells #[.int .i64 n.tag, .slice aa n.attrs.length acap, .string n.text, .slice ka n.kids.length kcap] 39) := ⟨_, rfl⟩
  rw [← hwb] at hbox hh1 x1 sz ⊢
  clear hwb
  have cc := hh1.c.cell
  have ch := hh1.h.cell
  have ce := hh1.e.cell
  have fc := hh1.c.free
  have fh := hh1.h.free
  have fe := hh1.e.free
  have k0 := cellOf hbox (i := 0) (v := .int .i64 n.tag) rfl
  have k1 := cellOf hbox (i := 1) (v := .slice aa n.attrs.length acap) rfl
  have k2 := cellOf hbox (i := 2) (v := .string n.text) rfl
  have k3 := cellOf hbox (i := 3) (v := .slice ka n.kids.length kcap) rfl
  have HB := Lib.hid hbox
  have HH1 := Lib.hid hh1
  have HX1 := Lib.hid x1
  have SZ := Lib.hid sz
  clear hbox hh1 x1 sz
  have hz1 : Held4 ((wb.setCell ⟨bc, 0, none⟩ (.int .i64 (m.count + 1))).setCell ⟨bh, 0, none⟩ (.int .i64 (max m.height deep))) bc bh be bl ⟨m.count + 1, max m.height deep, m.e⟩ :=
    ⟨(HH1.out.c.set _).far n1 _, (HH1.out.h.far n1' _).set _, (HH1.out.e.far n2' _).far n4' _, (HH1.out.l.far n3' _).far n5' _⟩
  have hz2 : Ext w0 ((wb.setCell ⟨bc, 0, none⟩ (.int .i64 (m.count + 1))).setCell ⟨bh, 0, none⟩ (.int .i64 (max m.height deep))) := (HX1.out.setCell b1 _).setCell b2 _
  have hz3 : ((wb.setCell ⟨bc, 0, none⟩ (.int .i64 (m.count + 1))).setCell ⟨bh, 0, none⟩ (.int .i64 (max m.height deep))).heap[w.heap.size]? = some (.cells #[.int .i64 n.tag, .slice aa n.attrs.length acap, .string n.text, .slice ka n.kids.length kcap] 39 (0, 0)) :=
    (heap_setCell_other _ lh').trans ((heap_setCell_other _ lc').trans HB.out)
  have HZ1 := Lib.hid hz1
  have HZ2 := Lib.hid hz2
  have HZ3 := Lib.hid hz3
  clear hz1 hz2 hz3
  go_upto_block 0 with fail
  obtain ⟨wz, hwz⟩ : ∃ wz : World, wz = (wb.setCell ⟨bc, 0, none⟩ (.int .i64 (m.count + 1))).setCell ⟨bh, 0, none⟩ (.int .i64 (max m.height deep)) := ⟨_, rfl⟩
  rw [← hwz] at HZ1 HZ2 HZ3 ⊢
  clear hwz cc ch ce fc fh fe k0 k1 k2 k3
  go_cut [8] (fun _ wx => Ext w0 wx ∧ Held4 wx bc bh be bl (Ms.one n deep m) ∧ wx.cell? ⟨w.heap.size, 3, none⟩ = some (.slice ka n.kids.length kcap))
  case first =>
    have ce : wz.cell? ⟨be, 0, none⟩ = some (.int .i64 m.e) := HZ1.out.e.cell
    have fe := HZ1.out.e.free
    have k0 := cellOf HZ3.out (i := 0) (v := .int .i64 n.tag) rfl
    have k1 := cellOf HZ3.out (i := 1) (v := .slice aa n.attrs.length acap) rfl
    have k2 := cellOf HZ3.out (i := 2) (v := .string n.text) rfl
    have k3 := cellOf HZ3.out (i := 3) (v := .slice ka n.kids.length kcap) rfl
    have hbad1 : n.bad = true → Ext w0 (wz.setCell ⟨be, 0, none⟩ (.int .i64 1)) ∧ Held4 (wz.setCell ⟨be, 0, none⟩ (.int .i64 1)) bc bh be bl (Ms.one n deep m) ∧ (wz.setCell ⟨be, 0, none⟩ (.int .i64 1)).cell? ⟨w.heap.size, 3, none⟩ = some (.slice ka n.kids.length kcap) := fun hb => by
      refine ⟨HZ2.out.setCell b3 _, ?_, cellOf ((heap_setCell_other _ le').trans HZ3.out) rfl⟩
      have e : Ms.one n deep m = ⟨m.count + 1, max m.height deep, 1⟩ := by unfold Ms.one; rw [if_pos hb]
      rw [e]
      exact ⟨HZ1.out.c.far n2 _, HZ1.out.h.far n4 _, HZ1.out.e.set _, HZ1.out.l.far n6' _⟩
    have hlong1 : ∀ wy, n.bad = false → 8192 < (anewB n.text).size → m.e = 0 → Ext wz wy → Ext w0 (wy.setCell ⟨be, 0, none⟩ (.int .i64 10)) ∧ Held4 (wy.setCell ⟨be, 0, none⟩ (.int .i64 10)) bc bh be bl (Ms.one n deep m) ∧ (wy.setCell ⟨be, 0, none⟩ (.int .i64 10)).cell? ⟨w.heap.size, 3, none⟩ = some (.slice ka n.kids.length kcap) := fun wy hb hl he hy => by
      refine ⟨(HZ2.out.trans hy).setCell b3 _, ?_, cellOf ((heap_setCell_other _ le').trans (hy.block HZ3.out)) rfl⟩
      have e : Ms.one n deep m = ⟨m.count + 1, max m.height deep, 10⟩ := by unfold Ms.one; rw [if_neg (by rw [hb]; decide), if_pos ⟨hl, he⟩]
      rw [e]
      exact ⟨(HZ1.out.c.ext hy).far n2 _, (HZ1.out.h.ext hy).far n4 _, (HZ1.out.e.ext hy).set _, (HZ1.out.l.ext hy).far n6' _⟩
    have hfine1 : ∀ wy, n.bad = false → ¬ (8192 < (anewB n.text).size ∧ m.e = 0) → Ext wz wy → Ext w0 wy ∧ Held4 wy bc bh be bl (Ms.one n deep m) ∧ wy.cell? ⟨w.heap.size, 3, none⟩ = some (.slice ka n.kids.length kcap) := fun wy hb hl hy => by
      refine ⟨HZ2.out.trans hy, ?_, cellOf (hy.block HZ3.out) rfl⟩
      have e : Ms.one n deep m = ⟨m.count + 1, max m.height deep, m.e⟩ := by unfold Ms.one; rw [if_neg (by rw [hb]; decide), if_neg hl]
      rw [e]
      exact ⟨HZ1.out.c.ext hy, HZ1.out.h.ext hy, HZ1.out.e.ext hy, HZ1.out.l.ext hy⟩
    have HB1 := Lib.hid hbad1
    have HL1 := Lib.hid hlong1
    have HF1 := Lib.hid hfine1
    have hts : n.text.size ≤ 100000 := by have := HSH.out; rw [PN.short_eq] at this; simp at this; exact this.1.1
    have has : n.attrs.length ≤ 60000 := by have := HSH.out; rw [PN.short_eq] at this; simp at this; exact this.1.2
    have hbs : (anewB n.text).size ≤ 400000 := by have := anewB_size n.text; omega
    have HTS := Lib.hid hts
    have hbb : n.bad = (if n.tag = 0 then !(n.attrs.isEmpty && n.kids.isEmpty) else !(decide (1 ≤ n.tag ∧ n.tag ≤ 16) && n.text.size == 0)) := rfl
    have HBB := Lib.hid hbb
    clear hbad1 hlong1 hfine1 hbb hts
    -- what is left of the ways where the node itself may be
    have hfine : n.bad = false → ∀ wy, Ext wz wy → (if 8192 < (anewB n.text).size ∧ m.e = 0 then True else True) := fun _ _ _ => by split <;> trivial
    clear hfine
    by_cases ht : n.tag = 0
    · have tb : (n.tag == 0) = true := by simp [ht]
      have HT := Lib.hid ht
      by_cases hA : 0 < n.attrs.length
      · have HBAD : Hid (n.bad = true) := Lib.hid (bad_attrs ht hA)
        clear ht
        go_wp2_with (fail)
        go_meet
        exact HB1.out HBAD.out
      · have hA0 : n.attrs.length = 0 := by omega
        by_cases hK : 0 < n.kids.length
        · have HBAD : Hid (n.bad = true) := Lib.hid (bad_kids ht hK)
          clear ht hA0
          go_wp2_with (fail)
          go_meet
          exact HB1.out HBAD.out
        · have HBAD : Hid (n.bad = false) := Lib.hid (bad_text ht hA hK)
          clear ht hA0
          by_cases hl : 8192 < (anewB n.text).size
          · by_cases he : m.e = 0
            · have eb : (m.e == 0) = true := by simp [he]
              have HE := Lib.hid he
              clear he
              go_wp2_with (go_at_call 52; refine (anew_any _ HTS.out _).mono ?_; rintro e w' ⟨rfl, hy⟩; have ce : _ = some (Value.int IntKind.i64 m.e) := (HZ1.out.e.ext hy).cell; have fe := (HZ1.out.e.ext hy).free)
              go_meet
              exact HL1.out _ HBAD.out hl HE.out hy
            · have eb : (m.e == 0) = false := by simpa using he
              have HE := Lib.hid he
              clear he
              go_wp2_with (go_at_call 52; refine (anew_any _ HTS.out _).mono ?_; rintro e w' ⟨rfl, hy⟩; have ce : _ = some (Value.int IntKind.i64 m.e) := (HZ1.out.e.ext hy).cell; have fe := (HZ1.out.e.ext hy).free)
              go_meet
              exact HF1.out _ HBAD.out (fun h => HE.out h.2) hy
          · go_wp2_with (go_at_call 52; refine (anew_any _ HTS.out _).mono ?_; rintro e w' ⟨rfl, hy⟩; have ce : _ = some (Value.int IntKind.i64 m.e) := (HZ1.out.e.ext hy).cell; have fe := (HZ1.out.e.ext hy).free)
            go_meet
            exact HF1.out _ HBAD.out (fun h => hl h.1) hy
    · have tb : (n.tag == 0) = false := by simpa using ht
      have HT := Lib.hid ht
      by_cases hE : 1 ≤ n.tag ∧ n.tag ≤ 16
      · by_cases hS : n.text.size = 0
        · have HBAD : Hid (n.bad = false) := Lib.hid (bad_fine ht hE hS)
          have hemp := text_none hS
          have hanew : (anewB n.text).size = 0 := by rw [hemp]; rfl
          have hsb : n.text.toList.isEmpty = true := by rw [hemp, ByteArray.toList_eq]; rfl
          have hl : ¬ 8192 < (anewB n.text).size := by omega
          obtain ⟨E1, E2⟩ := hE
          have hst : n.text.toList = [] := by rw [hemp, ByteArray.toList_eq]; rfl
          clear ht hS hemp hanew
          go_wp2_with (first
            | (go_at_call 71; refine (element_yes _ E1 E2 _).mono ?_; rintro e w' ⟨rfl, rfl⟩)
            | (go_at_call 52; refine (anew_any _ HTS.out _).mono ?_; rintro e w' ⟨rfl, hy⟩; have ce : _ = some (Value.int IntKind.i64 m.e) := (HZ1.out.e.ext hy).cell; have fe := (HZ1.out.e.ext hy).free))
          go_meet
          exact HF1.out _ HBAD.out (fun h => hl h.1) hy
        · have HBAD : Hid (n.bad = true) := Lib.hid (bad_said ht hS)
          have hsb := text_some hS
          have hst : !n.text.toList.isEmpty := by rw [hsb]; rfl
          obtain ⟨E1, E2⟩ := hE
          clear ht hS
          go_wp2_with (go_at_call 71; refine (element_yes _ E1 E2 _).mono ?_; rintro e w' ⟨rfl, rfl⟩)
          go_meet
          exact HB1.out HBAD.out
      · have HBAD : Hid (n.bad = true) := Lib.hid (bad_tag' ht hE)
        have HEE := Lib.hid hE
        clear ht hE
        go_wp2_with (go_at_call 71; refine (element_no _ HEE.out _).mono ?_; rintro e w' ⟨rfl, rfl⟩)
        go_meet
        exact HB1.out HBAD.out
  case rest =>
    obtain ⟨x2, h2, k3⟩ := hcut
    have hkl : (n.kids.length : Int) ≤ 9223372036854775807 := by omega
    have HX2 := Lib.hid x2
    have HH2 := Lib.hid h2
    clear x2 h2
    go_wp2_with fail
    go_loopw [10, 61] (fun _ i wr => ∃ k : Nat, k ≤ n.kids.length ∧ i = .int .i64 k ∧ Ext w0 wr ∧ Held4 wr bc bh be bl (PN.looks (deep + 1) (Ms.one n deep m) (n.kids.take k))) (fun _ i _ => n.kids.length - (intOf i).toNat)
    case atStart => exact ⟨0, Nat.zero_le _, rfl, HX2.out, by simpa [PN.looks] using HH2.out⟩
    case round =>
      obtain ⟨k, hk, rfl, xr, hr⟩ := hrel
      have HXR := Lib.hid xr
      have HHR := Lib.hid hr
      have cl := hr.l.cell
      clear xr hr
      by_cases hlt : k < n.kids.length
      · obtain ⟨x, hx⟩ : ∃ x, n.kids[k]? = some x := ⟨n.kids[k], by simp [hlt]⟩
        cases ka with
        | none => exact absurd (HKN.out rfl).1 (by omega)
        | some a =>
          obtain ⟨b, off, sp⟩ := a
          obtain ⟨c0', c1', c2', c3', q0, q1, q2, q3, hrd⟩ := HKR.out _ rfl k x hx
          obtain ⟨av', kv', e, ha', hk'⟩ := hrd.open
          obtain ⟨aa', acap', e2, _⟩ := ha'.len_of
          obtain ⟨ka', kcap', e3, _⟩ := hk'
          subst e2 e3
          cases e
          clear ha'
          replace q0 := HXR.out.cells _ _ q0
          replace q1 := HXR.out.cells _ _ q1
          replace q2 := HXR.out.cells _ _ q2
          replace q3 := HXR.out.cells _ _ q3
          rw [add_later _ _ _ (by decide)] at q1 q2 q3
          obtain ⟨g1, g2, g3, g4, g5, g6, g7⟩ := looks_bounds n deep m d0 d1 c0 c1 h0 h1 e0 e1 hx
          have hmem : x ∈ n.kids := List.mem_of_getElem? hx
          have hshx : x.short = true := by
            have := HSH.out; rw [PN.short_eq] at this; simp at this
            exact PN.shorts_mem this.2 hmem
          have cl' := (HHR.out.l.alloc (.cells #[.int .i64 x.tag, .slice aa' x.attrs.length acap', .string x.text, .slice ka' x.kids.length kcap'] 39)).cell
          have hrec := (fun w' hw' hh' => IH.out x hmem hshx _ (deep + 1) _ w' hrd (by omega) g1 g2 g3 g4 g5 g6 g7 hw' hh') (wr.alloc (.cells #[.int .i64 x.tag, .slice aa' x.attrs.length acap', .string x.text, .slice ka' x.kids.length kcap'] 39)) (HXR.out.alloc _) ⟨HHR.out.c.alloc _, HHR.out.h.alloc _, HHR.out.e.alloc _, HHR.out.l.alloc _⟩
          have HREC := Lib.hid hrec
          have HXX := Lib.hid hx
          have ndl : deep + 1 ≤ 9223372036854775807 := by omega
          clear hx hrec hrd hmem hshx g1 g2 g3 g4 g5 g6 g7
          go_wp2_with fail
          refine HREC.out.mono ?_
          rintro e w' ⟨rfl, hx', hh'⟩
          go_wp2_with fail
          go_roundw
          case rel =>
            refine ⟨k + 1, by omega, by go_num, hx', ?_⟩
            rw [looks_take _ _ _ _ _ HXX.out]
            exact hh'
          case measure => simp [intOf]; omega
      · go_wp2_with fail
        go_end0
        refine ⟨rfl, HXR.out, ?_⟩
        have e : n.kids.take k = n.kids := List.take_of_length_le (by omega)
        have h := HHR.out
        rw [e, ← PN.look_eq] at h
        exact h
end Go.Proofs.Ythgnbbbdcebjhaa

namespace Go.Proofs.Ythgnbbbdcebjhaa
open Go Go.RowKit Go.BigFrame
set_option linter.unusedVariables false
set_option linter.unusedSimpArgs false

theorem One.at (w : World) (b : Nat) (v : Value) (t : TypeId) (hb : b = w.heap.size) : One (w.alloc (.cells #[v] t)) b v t := by subst hb; exact One.new w v t
def RThree (a b c : Value) (w : World) (e : Ending) (w' : World) : Prop := e = .returned (.tuple #[a, b, c]) ∧ Ext w w'
abbrev lookF (b : Nat) : Value := .func (.func 70) #[] #[.pointer (some ⟨b + 1, 0, none⟩), .pointer (some ⟨b + 2, 0, none⟩), .pointer (some ⟨b + 3, 0, none⟩), .pointer (some ⟨b + 4, 0, none⟩)]
set_option maxRecDepth 100000 in
set_option maxHeartbeats 4000000 in
theorem measure_any {w : World} {n : PN} {nv : Value} (hr : RdN w n nv) (hsh : n.short = true) (hs : n.size ≤ 90000) :
    Calls Try.prog 47 #[nv] w (RThree (.int .i64 n.size) (.int .i64 n.high) (.int .i64 (PN.look 0 ⟨0, 0, 0⟩ n).e) w) := by
  obtain ⟨av, kv, rfl, ha, hk⟩ := hr.open
  obtain ⟨aa, acap, rfl, hac⟩ := ha.len_of
  obtain ⟨ka, kcap, rfl, hkc, hkm, hkn, hkr⟩ := hk
  have hz := fun x : World => (show Ext w x → Held4 x (w.heap.size + 1) (w.heap.size + 2) (w.heap.size + 3) (w.heap.size + 4) ⟨0, 0, 0⟩ → Calls Try.prog 70 #[.agg #[.int .i64 n.tag, .slice aa n.attrs.length acap, .string n.text, .slice ka n.kids.length kcap], .int .i64 0, .pointer (some ⟨w.heap.size + 1, 0, none⟩), .pointer (some ⟨w.heap.size + 2, 0, none⟩), .pointer (some ⟨w.heap.size + 3, 0, none⟩), .pointer (some ⟨w.heap.size + 4, 0, none⟩)] x (LookIs w (w.heap.size + 1) (w.heap.size + 2) (w.heap.size + 3) (w.heap.size + 4) (PN.look 0 ⟨0, 0, 0⟩ n)) from
    look_any (by omega) (by omega) (by omega) (by omega) (by omega) (by omega) (by omega) (by omega) (by omega) (by omega) n hsh _ 0 ⟨0, 0, 0⟩ x hr (Int.le_refl 0) (by omega) (Int.le_refl 0) (by show (0 : Int) + n.size ≤ 100000; omega) (Int.le_refl 0) (by decide) (Int.le_refl 0) (by decide))
  have hl := look_spec n 0 ⟨0, 0, 0⟩
  have HZ := Lib.hid hz
  have HL := Lib.hid hl
  clear hz hl hkr hkn ha hr
  go_enter Try.func47, Try.ntmps47
  go_wp2_with fail
  refine (HZ.out _ ?_ ?_).mono ?_
  · exact ((((((Ext.refl w).alloc _).alloc _).alloc _).alloc _).alloc _)
  · exact ⟨(((One.at (w.alloc _) _ (.int .i64 0) 3 (by simp)).alloc _).alloc _).alloc _, ((One.at ((w.alloc _).alloc _) _ (.int .i64 0) 3 (by simp)).alloc _).alloc _, (One.at (((w.alloc _).alloc _).alloc _) _ (.int .i64 0) 28 (by simp)).alloc _,
      One.at ((((w.alloc _).alloc _).alloc _).alloc _) _ (lookF w.heap.size) 105 (by simp)⟩
  rintro e w1 ⟨rfl, hx, hh⟩
  obtain ⟨l1, l2, l3⟩ := HL.out
  have q1 : (PN.look 0 ⟨0, 0, 0⟩ n).count = (n.size : Int) := by rw [l1]; simp
  have q2 : (PN.look 0 ⟨0, 0, 0⟩ n).height = (n.high : Int) := by rw [l2]; show max (0 : Int) (0 + (n.high : Int)) = _; omega
  obtain ⟨hc, hh', he, hf⟩ := hh
  rw [q1] at hc
  rw [q2] at hh'
  have cc := hc.cell
  have ch := hh'.cell
  have ce := he.cell
  have fc := hc.free
  have fh := hh'.free
  have fe := he.free
  clear l1 l2 l3 q1 q2 HL hc hh' he hf HZ
  generalize (PN.look 0 ⟨0, 0, 0⟩ n).e = E at *
  go_wp2_with fail
  go_region
  go_wp2
  refine bodyPost_ret (v := .tuple #[.int .i64 n.size, .int .i64 n.high, .int .i64 E]) (by simp [results, Try.results47, go_sem, cc, ch, ce]) rfl ⟨rfl, ?_⟩
  exact (((hx.setCell (by show w.heap.size ≤ _; simp <;> omega) _).setCell (by show w.heap.size ≤ _; simp <;> omega) _).setCell (by show w.heap.size ≤ _; simp <;> omega) _).drew
end Go.Proofs.Ythgnbbbdcebjhaa

namespace Go.Proofs.Ythgnbbbdcebjhaa
open Go Go.RowKit Go.BigFrame
set_option linter.unusedVariables false
set_option linter.unusedSimpArgs false

/-- an append whose run is known, as one step of a region that draws -/
theorem step_append_run {P : Program} {ops : Array Oper} {o : Oper} {a : Act} {w : World} {K : Act → World → Prop} {Q : Exit → Act → World → Prop} {E : Prop}
    (hg : o.guard = none) (s x : Operand) (t : TypeId) (hop : o.op = Op.call { callee := Callee.builtin Builtin.append, args := #[s, x], argTypes := #[t, t] })
    (v u : Value) (hs : a.eval s = v) (hx : a.eval x = u) (v' : Value) (w' : World) (hr : (Builtin.append_ #[t, t] o.type #[v, u]).run P w = .ok v' w') (hK : K (a.put o.dst v') w') :
    if Region.wanted o (yielded ops a.tmps) = true then Oper.wp P o a w K Q else E := by
  have hw : Region.wanted o (yielded ops a.tmps) = true := by simp [Region.wanted, hg]
  rw [if_pos hw]
  unfold Oper.wp
  simp [execOp, hop, resolve, invoke, builtin, hs, hx, hr, Result.andThen]
  exact hK
/-- what a reading world tells lies apart from the tree -/
def Apart (g : World) (own : Ow) (w : World) : Prop := ∀ p v, g.cell? p = some v → w.cell? p = some v ∧ own p.block = none
theorem Apart.step {g : World} {own own' : Ow} {w w' : World} (h : Apart g own w) (k : Step own w own' w') : Apart g own' w' := fun p v hp => by
  obtain ⟨h1, h2⟩ := h p v hp
  have hl := World.block_lt_of_cell? w _ h1
  exact ⟨(World.cell?_of_block (k.rest _ hl h2)).trans h1, (k.same _ hl).trans h2⟩
theorem Apart.cells {g : World} {own : Ow} {w : World} (h : Apart g own w) : Cells g w := fun p v hp => (h p v hp).1
theorem Apart.ext {g : World} {own : Ow} {w w' : World} (h : Apart g own w) (k : Ext w w') : Apart g own w' := fun p v hp => ⟨k.cells _ _ (h p v hp).1, (h p v hp).2⟩
theorem After.trans {own : Ow} {w w1 w2 : World} {tb : Nat} {T1 T2 : Tr} {own1 : Ow} (h : Step own w own1 w1) (k : After own1 w1 tb T2 w2) : After own w tb T2 w2 := by
  obtain ⟨own', ptr', h1, h2⟩ := k
  exact ⟨own', ptr', h1, h.trans h2⟩
theorem intos_take (i : Int) (T : Tr) : ∀ (l : List PN) (k : Nat) (x : PN), l[k]? = some x → PN.intos i T (l.take (k + 1)) = (PN.into (PN.intos i T (l.take k)) x).join i (PN.intos i T (l.take k)).newId := by
  intro l
  induction l generalizing T with
  | nil => intro k x h; simp at h
  | cons y r ih =>
    intro k x h
    cases k with
    | zero => simp at h; subst h; simp [PN.intos]
    | succ k => simp at h; simp only [List.take_succ_cons, PN.intos]; exact ih _ k x h
abbrev putF (tc pc : Nat) : Value := .func (.func 50) #[] #[.pointer (some ⟨tc, 0, none⟩), .pointer (some ⟨pc, 0, none⟩)]
/-- what is known of the tree before kid number k is put -/
theorem put_round {n : PN} (hok : n.ok = true) {T : Tr} {d : Nat → Nat} (hw : WF T d) (hc : T.count + n.size ≤ T.cap) (hh : (n.high : Int) ≤ T.deep) :
    ∃ i : Nat, T.newId = (i : Int) ∧ i ≠ 0 ∧ (∀ x : Nd, T.nodes[i]? ≠ some (some x)) ∧ ∀ k, ∃ (d' : Nat → Nat) (nd : Nd), WF (PN.intos i (T.put ⟨n.tag, n.attrs, anewB n.text, [], -1⟩) (n.kids.take k)) d' ∧
      (PN.intos i (T.put ⟨n.tag, n.attrs, anewB n.text, [], -1⟩) (n.kids.take k)).nodes[i]? = some (some nd) ∧ nd.parent = -1 ∧ nd.kids.length ≤ n.size ∧
      ∀ x, n.kids[k]? = some x → (PN.intos i (T.put ⟨n.tag, n.attrs, anewB n.text, [], -1⟩) (n.kids.take k)).count + x.size ≤ (PN.intos i (T.put ⟨n.tag, n.attrs, anewB n.text, [], -1⟩) (n.kids.take k)).cap ∧
        (x.high : Int) ≤ (PN.intos i (T.put ⟨n.tag, n.attrs, anewB n.text, [], -1⟩) (n.kids.take k)).deep := by
  have hb := PN.ok_bad hok
  have hkids := PN.ok_kids hok
  obtain ⟨b0, b1, b2, b3⟩ := PN.bad_tag hb
  have hs := PN.size_eq n
  have hi := PN.high_eq n
  obtain ⟨d1, i, h1, h0, h2, h3, hP⟩ := hw.put_one hb (by omega)
  refine ⟨i, h1, h0, h2, fun k => ?_⟩
  have hst := sizes_take n.kids k
  have hht : PN.highs (n.kids.take k) ≤ PN.highs n.kids := by
    have : ∀ (l : List PN) (k : Nat), PN.highs (l.take k) ≤ PN.highs l := by
      intro l
      induction l with
      | nil => intro k; simp
      | cons y r ih => intro k; cases k with
        | zero => simp [PN.highs]
        | succ k => simp only [List.take_succ_cons, PN.highs]; have := ih k; omega
    exact this _ _
  obtain ⟨d2, nd2, hn2, hP2⟩ := intos_ok (n.kids.take k) (fun x hx => into_ok x (PN.oks_mem hkids (List.mem_of_mem_take hx))) _ d1 i _ hP.wf h3 rfl (by
    by_cases e : n.tag = 0
    · right; rw [(b2 e).1]; simp
    · exact .inl e) (by rw [hP.count, hP.cap]; omega) (by rw [hP.deep]; omega) (fun x hx => by cases hx)
  obtain ⟨nd', q1, q2⟩ := hP2.node
  obtain rfl := some_inj2 hn2 q1
  refine ⟨d2, nd2, hP2.wf, hn2, q2, ?_, fun x hx => ?_⟩
  · have hp := hP2.plain
    rw [hP2.wf.plain_eq hn2] at hp
    have hlen := congrArg List.length (PN.mk.inj hp).2.2.2
    rw [List.length_map, List.length_append, PN.anews_eq, List.length_map, List.length_map, List.length_take] at hlen
    have hkl : n.kids.length ≤ PN.sizes n.kids := by
      have : ∀ l : List PN, l.length ≤ PN.sizes l := by
        intro l
        induction l with
        | nil => simp
        | cons y r ih => simp only [List.length_cons, PN.sizes]; have := y.size_pos; omega
      exact this _
    simp at hlen
    omega
  · have hsx := sizes_take_succ hx
    have hxx : x.high + 1 ≤ PN.highs n.kids := by
      have : ∀ (l : List PN), x ∈ l → x.high + 1 ≤ PN.highs l := by
        intro l
        induction l with
        | nil => intro h; cases h
        | cons y r ih => intro h; simp only [PN.highs]; rcases List.mem_cons.1 h with rfl | h; omega; have := ih h; omega
      exact this _ (List.mem_of_getElem? hx)
    rw [hP2.count, hP2.cap, hP2.deep, hP.count, hP.cap, hP.deep]
    exact ⟨by omega, by omega⟩
end Go.Proofs.Ythgnbbbdcebjhaa

namespace Go.Proofs.Ythgnbbbdcebjhaa
open Go Go.RowKit
set_option linter.unusedVariables false

section
variable {P : Program} {ops : Array Oper} {Q : Exit → Act → World → Prop} {md : Region.Mode} {S : World → Prop} {n : Nat}
/-- whatever order: behind every operation but number n the world meets S -/
def wpE (P : Program) (md : Region.Mode) (ops : Array Oper) (Q : Exit → Act → World → Prop) (S : World → Prop) (n : Nat) : Nat → Array Bool → Act → World → Prop
  | 0, l, a, w => Region.ready md ops l = [] ∧ Q .normal a w
  | f + 1, l, a, w => (Region.ready md ops l = [] → Q .normal a w) ∧ ∀ i ∈ Region.ready md ops l, wpOp P ops Q i (fun a' w' => (i = n ∨ S w') ∧ wpE P md ops Q S n f (l.setIfInBounds i true) a' w') a w
theorem wpE_any : ∀ (f : Nat) (l : Array Bool) (a : Act) (w : World), wpE P md ops Q S n f l a w → wpAny P md ops Q f l a w := by
  intro f
  induction f with
  | zero => exact fun l a w h => h
  | succ f ih => exact fun l a w h => ⟨h.1, fun i hi => wpOp_mono (fun a' w' k => ih _ a' w' k.2) (h.2 i hi)⟩
/-- operation n waits for number i -/
def waits (md : Region.Mode) (ops : Array Oper) (n i : Nat) : Bool := match ops[n]? with
  | some o => o.after.toList.any fun e => Region.binds md e && e.on == i
  | none => true
theorem unlisted {l : Array Bool} {i : Nat} (h : l.getD i true = false) (k : l.getD i false = true) : False := by
  rcases Nat.lt_or_ge i l.size with hi | hi
  · simp [hi] at h k; rw [h] at k; cases k
  · simp [Array.getElem?_eq_none hi] at h
theorem ready_waits {l : Array Bool} {i j : Nat} (hi : i ∈ Region.ready md ops l) (hj : j ∈ Region.ready md ops l) (hw : waits md ops n i = true) : j ≠ n := by
  rintro rfl
  obtain ⟨_, o, ho, hall⟩ := mem_ready.1 hj
  unfold waits at hw
  rw [ho] at hw
  obtain ⟨e, he, hb⟩ := List.any_eq_true.1 hw
  simp only [Bool.and_eq_true, beq_iff_eq] at hb
  have h1 := hall e (Array.mem_toList_iff.1 he) hb.1
  rw [hb.2] at h1
  exact unlisted (mem_ready.1 hi).1 h1
/-- what yields its value in every world that meets S is taken first -/
theorem wpE_first {i : Nat} {o : Oper} {v : Value} (ho : ops[i]? = some o) (hs : Region.noSelect ops = true) (hw : waits md ops n i = true) (hQ : ∀ c a w, Q (.panic c) (a.put o.dst v) w → Q (.panic c) a w) :
    ∀ (f : Nat) (l : Array Bool) (a : Act) (w : World), (∀ (j : Nat) (oj : Oper), ops[j]? = some oj → j ≠ i → l.getD j true = false → (∀ e ∈ oj.after, Region.binds md e = true → e.on ≠ i) → o.apart ops oj = true) →
      i ∈ Region.ready md ops l → YieldsIf P ops S o v a → S w → wpE P md ops Q S n f (l.setIfInBounds i true) (a.put o.dst v) w → wpE P md ops Q S n (f + 1) l a w := by
  have hsel := Region.noSelect_spec hs
  intro f
  induction f with
  | zero =>
    intro l a w _ hr hy hS H
    refine ⟨fun h => (by rw [h] at hr; cases hr), fun j hj => ?_⟩
    rcases Classical.em (j = i) with rfl | hji
    · exact hy.wpOp ho hS ⟨.inr hS, H⟩
    · have h0 := ready_mono hj hji
      rw [H.1] at h0; cases h0
  | succ f ih =>
    intro l a w hfree hr hy hS H
    refine ⟨fun h => (by rw [h] at hr; cases hr), fun j hj => ?_⟩
    rcases Classical.em (j = i) with rfl | hji
    · exact hy.wpOp ho hS ⟨.inr hS, H⟩
    · obtain ⟨hun, oj, hoj, hall⟩ := mem_ready.1 hj
      have hno : ∀ e ∈ oj.after, Region.binds md e = true → e.on ≠ i := fun e he hb e2 => unlisted (mem_ready.1 hr).1 (e2 ▸ hall e he hb)
      have hjn := ready_waits hr hj hw
      have step := wpOp_putIf hoj (hfree j oj hoj hji hun hno) (fun cs b => hsel i o cs b ho) (fun cs b => hsel j oj cs b hoj) hQ hy (H.2 j (ready_mono hj hji))
      refine wpOp_mono (fun a' w' k => ?_) step
      have hS' : S w' := k.2.1.resolve_left hjn
      refine ⟨.inr hS', ih (l.setIfInBounds j true) a' w' (fun m om hm hmi hmu hmn => hfree m om hm hmi ?_ hmn) (ready_mono hr (Ne.symm hji)) k.1 hS' ?_⟩
      · rcases Classical.em (j = m) with rfl | hjm
        · exact hun
        · rw [getD_set_ne true hjm] at hmu; exact hmu
      · rw [Array.setIfInBounds_comm _ _ hji]; exact k.2.2
theorem wpE_take {i : Nat} {o : Oper} {v : Value} {f : Nat} {l : Array Bool} {a : Act} {w : World} (ho : ops[i]? = some o) (hs : Region.noSelect ops = true) (hf : Region.free md ops l i = true) (hr : (Region.ready md ops l).contains i = true) (hw : waits md ops n i = true)
    (hQ : ∀ c a w, Q (.panic c) (a.put o.dst v) w → Q (.panic c) a w) (hy : YieldsIf P ops S o v a) (hS : S w) (h : wpE P md ops Q S n f (l.setIfInBounds i true) (a.put o.dst v) w) : wpE P md ops Q S n (f + 1) l a w :=
  wpE_first ho hs hw hQ f l a w (Region.free_spec ho hf) (by simpa using hr) hy hS h
/-- one alone may come up -/
theorem wpE_one {i : Nat} {o : Oper} {f : Nat} {l : Array Bool} {a : Act} {w : World} (hr : Region.ready md ops l = [i]) (ho : ops[i]? = some o)
    (h : ∀ K : Act → World → Prop, Shut (∀ a w, (i = n ∨ S w) → wpE P md ops Q S n f (l.setIfInBounds i true) a w → K a w) → if Region.wanted o (yielded ops a.tmps) = true then Oper.wp P o a w K Q else K (a.put o.dst undef) w) : wpE P md ops Q S n (f + 1) l a w := by
  refine ⟨fun h => (by rw [hr] at h; cases h), fun j hj => ?_⟩
  rw [hr] at hj
  obtain rfl : j = i := by simpa using hj
  exact wpOp_step ho fun K hK => h K fun a w h1 h2 => hK a w ⟨h1, h2⟩
theorem wpE_done {f : Nat} {l : Array Bool} {a : Act} {w : World} (hr : Region.ready md ops l = []) (h : Q .normal a w) : wpE P md ops Q S n f l a w := by
  cases f with
  | zero => exact ⟨hr, h⟩
  | succ f => exact ⟨fun _ => h, fun i hi => by rw [hr] at hi; cases hi⟩
theorem wp_region_E {id : Nat} {a : Act} {w : World} (hm : P.follows .mixedOrders = true) (h : wpE P .any ops Q S n ops.size (Array.replicate ops.size false) a w.drew) : (Code.region id ops true).wp P Q a w :=
  wp_region_any hm (wpE_any _ _ _ _ h)
end
end Go.Proofs.Ythgnbbbdcebjhaa
