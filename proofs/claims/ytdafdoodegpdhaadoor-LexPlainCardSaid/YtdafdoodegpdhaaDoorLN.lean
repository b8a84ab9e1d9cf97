/- One step of the document's Decode: names and numbers behind an ampersand, as lex.entity has them. No program in sight. -/
import Derived.Test.YtdafdoodegpdhaaDoorLM
namespace Go.Proofs.YtdafdoodegpdhaaDoor
open Go
set_option linter.unusedVariables false
set_option linter.unusedSimpArgs false

def nm0 : List UInt8 := [38, 97, 109, 112, 59]
def nm1 : List UInt8 := [38, 108, 116, 59]
def nm2 : List UInt8 := [38, 103, 116, 59]
def nm3 : List UInt8 := [38, 113, 117, 111, 116, 59]
def nm4 : List UInt8 := [38, 97, 112, 111, 115, 59]
def nm5 : List UInt8 := [38, 110, 98, 115, 112, 59]
def namesR : List (List UInt8 × List UInt8) := [(nm0, [38]), (nm1, [60]), (nm2, [62]), (nm3, [34]), (nm4, [39]), (nm5, [194, 160])]
def nameStep (r : List UInt8) (xk : List UInt8 × Nat) (nm : List UInt8 × List UInt8) : List UInt8 × Nat := if r.take nm.1.length = nm.1 then (nm.2, nm.1.length) else xk
/-- how many bytes stand ahead of a semicolon, or as many as are gone through -/
def scanE : Nat → List UInt8 → Nat
  | 0, _ => 0
  | f + 1, [] => 0
  | f + 1, c :: r => if c = 59 then 0 else scanE f r + 1
def numR (p : List UInt8) (m : Nat) : Int := if p.head? = some 120 then refN 16 6 ((p.drop 1).take (m - 1)) else refN 10 7 (p.take m)
def namedR (r : List UInt8) : List UInt8 × Nat := namesR.foldl (nameStep r) (r.take 1, 1)
/-- what the document's loop writes at a place, and how many bytes it goes on -/
def stepR (r : List UInt8) : List UInt8 × Nat :=
  if r.take 2 = [38, 35] ∧ (r.drop 2)[scanE 10 (r.drop 2)]? = some 59 ∧ 0 < numR (r.drop 2) (scanE 10 (r.drop 2)) then
    ((Utf8.encode (numR (r.drop 2) (scanE 10 (r.drop 2)))).data.toList, scanE 10 (r.drop 2) + 3)
  else namedR r
theorem scanE_le : ∀ (f : Nat) (p : List UInt8), scanE f p ≤ f ∧ scanE f p ≤ p.length := by
  intro f
  induction f with
  | zero => intro p; exact ⟨Nat.le_refl _, Nat.zero_le _⟩
  | succ f ih =>
    intro p
    cases p with
    | nil => exact ⟨Nat.zero_le _, Nat.le_refl _⟩
    | cons c r =>
      unfold scanE
      split
      · exact ⟨Nat.zero_le _, Nat.zero_le _⟩
      · have := ih r
        simp only [List.length_cons]
        omega
/-- the scan, by the first semicolon among as many bytes -/
theorem scanE_index : ∀ (f : Nat) (p : List UInt8), (Lib.indexByte (p.take f) 59 < 0 ∧ scanE f p = min f p.length) ∨ (Lib.indexByte (p.take f) 59 = (scanE f p : Int) ∧ scanE f p < f ∧ p[scanE f p]? = some 59) := by
  intro f
  induction f with
  | zero => intro p; left; exact ⟨by rw [List.take_zero]; decide, by simp [scanE]⟩
  | succ f ih =>
    intro p
    cases p with
    | nil => left; exact ⟨by rw [List.take_nil]; decide, by simp [scanE]⟩
    | cons c r =>
      rw [List.take_succ_cons, Lib.indexByte]
      by_cases hc : c = 59
      · right
        subst hc
        exact ⟨by simp [scanE], by simp [scanE], by simp [scanE]⟩
      · have e1 : (c == 59) = false := by simp [hc]
        have e2 : scanE (f + 1) (c :: r) = scanE f r + 1 := by simp [scanE, hc]
        rw [e1, if_neg (by decide), e2]
        have hge := Lib.indexByte_ge (r.take f) 59
        rcases ih r with ⟨h1, h2⟩ | ⟨h1, h2, h3⟩
        · left
          have h : Lib.indexByte (r.take f) 59 = -1 := by omega
          rw [h]
          exact ⟨by decide, by rw [h2, List.length_cons]; omega⟩
        · right
          rw [h1]
          have : ((scanE f r : Int) == -1) = false := by rw [beq_eq_false_iff_ne]; omega
          rw [this, if_neg (by decide)]
          exact ⟨by push_cast; rfl, by omega, by simpa using h3⟩
theorem take_eq_iff {l t : List UInt8} : l.take t.length = t ↔ ∃ q, l = t ++ q := by
  constructor
  · intro h
    exact ⟨l.drop t.length, by conv => lhs; rw [← List.take_append_drop t.length l, h]⟩
  · rintro ⟨q, rfl⟩
    exact List.take_left' rfl
/-- a name that stands there -/
theorem entityL_name {l : List UInt8} {e : Nat} {x : List UInt8} (h1 : Lib.indexByte (l.take 12) 59 = (e : Int)) (h2 : namedL ((l.drop 1).take (e - 1)) = some x) : entityL l = (x, e + 1) := by
  unfold entityL
  dsimp only
  rw [h1, if_neg (by omega)]
  unfold meansL
  rw [Int.toNat_natCast, h2]
theorem named_hit (nm x q : List UInt8) (h : (nm, x) ∈ namesR) : entityL (nm ++ q) = (x, nm.length) ∧ stepR (nm ++ q) = (x, nm.length) := by
  simp only [namesR, List.mem_cons, Prod.mk.injEq, List.not_mem_nil, or_false] at h
  rcases h with ⟨rfl, rfl⟩ | ⟨rfl, rfl⟩ | ⟨rfl, rfl⟩ | ⟨rfl, rfl⟩ | ⟨rfl, rfl⟩ | ⟨rfl, rfl⟩
  · exact ⟨entityL_name (e := 4) (by simp [nm0, Lib.indexByte]) (by simp [nm0, namedL]), by simp [stepR, namedR, namesR, nameStep, nm0, nm1, nm2, nm3, nm4, nm5]⟩
  · exact ⟨entityL_name (e := 3) (by simp [nm1, Lib.indexByte]) (by simp [nm1, namedL]), by simp [stepR, namedR, namesR, nameStep, nm0, nm1, nm2, nm3, nm4, nm5]⟩
  · exact ⟨entityL_name (e := 3) (by simp [nm2, Lib.indexByte]) (by simp [nm2, namedL]), by simp [stepR, namedR, namesR, nameStep, nm0, nm1, nm2, nm3, nm4, nm5]⟩
  · exact ⟨entityL_name (e := 5) (by simp [nm3, Lib.indexByte]) (by simp [nm3, namedL]), by simp [stepR, namedR, namesR, nameStep, nm0, nm1, nm2, nm3, nm4, nm5]⟩
  · exact ⟨entityL_name (e := 5) (by simp [nm4, Lib.indexByte]) (by simp [nm4, namedL]), by simp [stepR, namedR, namesR, nameStep, nm0, nm1, nm2, nm3, nm4, nm5]⟩
  · exact ⟨entityL_name (e := 5) (by simp [nm5, Lib.indexByte]) (by simp [nm5, namedL]), by simp [stepR, namedR, namesR, nameStep, nm0, nm1, nm2, nm3, nm4, nm5]⟩
theorem namedR_none {r : List UInt8} (h : ∀ nm x, (nm, x) ∈ namesR → r.take nm.length ≠ nm) : namedR r = (r.take 1, 1) := by
  have H : ∀ (l : List (List UInt8 × List UInt8)) (xk : List UInt8 × Nat), (∀ p ∈ l, p ∈ namesR) → l.foldl (nameStep r) xk = xk := by
    intro l
    induction l with
    | nil => intro xk _; rfl
    | cons p l ih =>
      intro xk hp
      rw [List.foldl_cons]
      have : nameStep r xk p = xk := by unfold nameStep; rw [if_neg (h p.1 p.2 (hp p (by simp)))]
      rw [this]
      exact ih xk fun q hq => hp q (by simp [hq])
  exact H namesR _ fun p hp => hp
theorem namedL_mem {m x : List UInt8} (h : namedL m = some x) : (38 :: m ++ [59], x) ∈ namesR := by
  unfold namedL at h
  repeat' split at h
  all_goals (first | (cases h; rename_i e; rw [e]; decide) | cases h)
theorem refN_pos {base most : Nat} {l : List UInt8} : 0 < refN base most l ↔ ∃ n, codeN base most l = some n ∧ 0 < n := by
  unfold refN
  cases h : codeN base most l with
  | none => simp
  | some n => simp
theorem codeN_pos {base most : Nat} {l : List UInt8} {n : Nat} (h : codeN base most l = some n) : 0 < n := by
  unfold codeN at h
  split at h
  · cases h
  · rw [Option.filter_eq_some_iff] at h
    have := h.2
    unfold runeN at this
    have := of_decide_eq_true this
    omega
/-- what a number says, both ways -/
theorem codedL_num (p : List UInt8) (m : Nat) (h : p[m]? = some 59) : codedL (p.take m) = if 0 < numR p m then some (Utf8.encode (numR p m)).data.toList else none := by
  have key : ∀ (base most : Nat) (l : List UInt8), (codeN base most l).map (fun (n : Nat) => (Utf8.encode (n : Int)).data.toList) = if 0 < refN base most l then some (Utf8.encode (refN base most l)).data.toList else none := by
    intro base most l
    cases hc : codeN base most l with
    | none => rw [if_neg (by unfold refN; rw [hc]; decide)]; rfl
    | some n =>
      have hn := codeN_pos hc
      have e : refN base most l = (n : Int) := by unfold refN; rw [hc]
      rw [e, if_pos (by omega)]
      rfl
  unfold codedL codeL numR
  cases p with
  | nil => simp at h
  | cons c q =>
    cases m with
    | zero =>
      have : c = 59 := by simpa using h
      subst this
      simpa using key 10 7 []
    | succ m =>
      rw [List.take_succ_cons]
      by_cases hx : (c :: q).head? = some 120
      · rw [if_pos (show (c :: List.take m q).head? = some 120 from hx), if_pos hx]; exact key 16 6 _
      · rw [if_neg (show ¬ (c :: List.take m q).head? = some 120 from hx), if_neg hx]; exact key 10 7 _
theorem numR_long (p : List UInt8) (h : 10 ≤ p.length) : ¬ 0 < numR p 10 := by
  have key : ∀ (base most : Nat) (l : List UInt8), most < l.length → ¬ 0 < refN base most l := by
    intro base most l hl
    unfold refN codeN
    rw [if_pos (.inr hl)]
    decide
  unfold numR
  split
  · exact key _ _ _ (by rw [List.length_take, List.length_drop]; omega)
  · exact key _ _ _ (by rw [List.length_take]; omega)
theorem stepR_other {c : UInt8} (hc : c ≠ 38) (q : List UInt8) : stepR (c :: q) = ([c], 1) := by
  have h2 : (c :: q).take 2 ≠ [38, 35] := by
    intro h
    rw [List.take_succ_cons] at h
    exact hc (List.cons.inj h).1
  unfold stepR
  rw [if_neg fun h => h2 h.1]
  refine namedR_none fun nm x hm h => ?_
  simp only [namesR, List.mem_cons, Prod.mk.injEq, List.not_mem_nil, or_false] at hm
  rcases hm with ⟨rfl, rfl⟩ | ⟨rfl, rfl⟩ | ⟨rfl, rfl⟩ | ⟨rfl, rfl⟩ | ⟨rfl, rfl⟩ | ⟨rfl, rfl⟩ <;> exact hc (List.cons.inj h).1
/-- at an ampersand the document does what lex.entity does -/
theorem stepR_amp (q : List UInt8) : stepR (38 :: q) = entityL (38 :: q) := by
  by_cases hn : ∃ nm x, (nm, x) ∈ namesR ∧ (38 :: q).take nm.length = nm
  · obtain ⟨nm, x, hm, ht⟩ := hn
    obtain ⟨q', e⟩ := take_eq_iff.1 ht
    rw [e, (named_hit nm x q' hm).1, (named_hit nm x q' hm).2]
  have hnr := namedR_none (r := 38 :: q) fun nm x hm h => hn ⟨nm, x, hm, h⟩
  have hnl : ∀ e : Nat, Lib.indexByte ((38 :: q).take 12) 59 = (e : Int) → namedL (((38 :: q).drop 1).take (e - 1)) = none := by
    intro e he
    cases h : namedL (((38 :: q).drop 1).take (e - 1)) with
    | none => rfl
    | some x =>
      exfalso
      have hm := namedL_mem h
      refine hn ⟨_, x, hm, ?_⟩
      obtain ⟨k, hk, hk1, _⟩ := indexByte_some (l := (38 :: q).take 12) (c := 59) (by omega)
      have hke : k = e := by omega
      subst hke
      have hk12 := (List.getElem?_eq_some_iff.1 hk1).1
      rw [List.length_take] at hk12
      rw [List.getElem?_take, if_pos (by omega)] at hk1
      obtain ⟨hkl, hk59⟩ := List.getElem?_eq_some_iff.1 hk1
      have hk0 : k ≠ 0 := by rintro rfl; simp at hk59
      obtain ⟨j, rfl⟩ : ∃ j, k = j + 1 := ⟨k - 1, by omega⟩
      simp only [List.drop_succ_cons, List.drop_zero, Nat.add_sub_cancel, List.length_cons] at *
      have e1 : (38 :: q).take (j + 2) = 38 :: q.take j ++ [59] := by
        rw [List.take_succ_cons, List.take_succ_eq_append_getElem (by omega)]
        simp only [List.getElem_cons_succ] at hk59
        rw [hk59]
        rfl
      have e2 : (38 :: q.take j ++ [59]).length = j + 2 := by simp; omega
      simp only [List.length_append, List.length_cons, List.length_nil] at e2 ⊢
      rw [show (List.take j q).length + 1 + (0 + 1) = j + 2 by omega]
      exact e1
  have one : (38 :: q).take 1 = [38] := rfl
  rw [one] at hnr
  unfold stepR
  by_cases h2 : (38 :: q).take 2 = [38, 35]
  · obtain ⟨p, rfl⟩ : ∃ p, q = 35 :: p := by
      cases q with
      | nil => cases h2
      | cons d p =>
        have : d = 35 := by
          have := (List.cons.inj (List.cons.inj h2).2).1
          exact this
        exact ⟨p, by rw [this]⟩
    have ed : (38 :: 35 :: p).drop 2 = p := rfl
    have et : (38 :: 35 :: p).take 12 = 38 :: 35 :: p.take 10 := rfl
    rw [ed]
    have hi := scanE_index 10 p
    have hle := scanE_le 10 p
    rcases hi with ⟨h1, hs⟩ | ⟨h1, hlt, h59⟩
    · have hid : Lib.indexByte (38 :: 35 :: p.take 10) 59 < 0 := by
        have hge := Lib.indexByte_ge (p.take 10) 59
        have e : Lib.indexByte (p.take 10) 59 = -1 := by omega
        simp [Lib.indexByte, e]
      rw [if_neg, hnr]
      · unfold entityL
        dsimp only
        rw [et, if_pos hid]
      · rintro ⟨_, ha, hb⟩
        rcases Nat.lt_or_ge p.length 10 with hl | hl
        · rw [hs, Nat.min_eq_right (by omega)] at ha
          simp at ha
        · rw [hs, Nat.min_eq_left hl] at hb
          exact numR_long p hl hb
    · obtain ⟨m, hm⟩ : ∃ m, scanE 10 p = m := ⟨_, rfl⟩
      rw [hm] at h1 hlt h59 hle ⊢
      have hid : Lib.indexByte ((38 :: 35 :: p).take 12) 59 = ((m + 2 : Nat) : Int) := by
        rw [et]
        have e1 : ((m : Int) == -1) = false := by rw [beq_eq_false_iff_ne]; omega
        have e2 : ((m : Int) + 1 == -1) = false := by rw [beq_eq_false_iff_ne]; omega
        simp [Lib.indexByte, h1, e1, e2]
        omega
      have hent : entityL (38 :: 35 :: p) = match codedL (p.take m) with | some x => (x, m + 3) | none => ([38], 1) := by
        unfold entityL
        dsimp only
        rw [hid, if_neg (by omega), Int.toNat_natCast]
        unfold meansL
        rw [hnl _ hid]
        dsimp only
        rw [if_pos h2, ed, Nat.add_sub_cancel]
        first | done | rfl
      rw [hent, codedL_num p m h59]
      by_cases hp : 0 < numR p m
      · rw [if_pos ⟨h2, h59, hp⟩, if_pos hp]
      · rw [if_neg (fun h => hp h.2.2), if_neg hp, hnr]
  · rw [if_neg (fun h => h2 h.1), hnr]
    unfold entityL
    dsimp only
    split
    · rfl
    · rename_i hge
      obtain ⟨k, hk, _⟩ := indexByte_some hge
      unfold meansL
      rw [hk, Int.toNat_natCast, hnl k hk]
      dsimp only
      rw [if_neg h2]
theorem stepR_pos {c : UInt8} (q : List UInt8) : 1 ≤ (stepR (c :: q)).2 := by
  by_cases hc : c = 38
  · subst hc; rw [stepR_amp]; exact entityL_pos _
  · rw [stepR_other hc]; exact Nat.le_refl _
theorem stepR_le (c : UInt8) (q : List UInt8) : (stepR (c :: q)).2 ≤ (c :: q).length := by
  by_cases hc : c = 38
  · subst hc; rw [stepR_amp]; exact entityL_le _ _
  · rw [stepR_other hc]; simp
theorem stepR_len (c : UInt8) (q : List UInt8) : (stepR (c :: q)).1.length ≤ 4 := by
  by_cases hc : c = 38
  · subst hc; rw [stepR_amp]; exact entityL_len _
  · rw [stepR_other hc]; simp
/-- what is decoded, a step of the document's -/
theorem decL_step (c : UInt8) (q : List UInt8) : decL (c :: q) = (stepR (c :: q)).1 ++ decL ((c :: q).drop (stepR (c :: q)).2) := by
  by_cases hc : c = 38
  · subst hc; rw [stepR_amp]; exact decL_amp q
  · rw [stepR_other hc, decL_cons hc]; rfl
end Go.Proofs.YtdafdoodegpdhaaDoor
