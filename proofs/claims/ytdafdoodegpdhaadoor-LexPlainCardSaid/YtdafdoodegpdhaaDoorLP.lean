/- The lexer's plain model: notes, tags, texts. No program in sight. -/
import Derived.Test.YtdafdoodegpdhaaDoorLN
import Derived.Lib.IndexMore
namespace Go.Proofs.YtdafdoodegpdhaaDoor
open Go
set_option linter.unusedVariables false
set_option linter.unusedSimpArgs false

theorem suf_drop (p : UInt8 → Bool) (l : List UInt8) : l.dropWhile p <:+ l := List.dropWhile_suffix p
theorem take_drop_while (p : UInt8 → Bool) (l : List UInt8) : l.takeWhile p ++ l.dropWhile p = l := List.takeWhile_append_dropWhile
/-- what is behind a text's first place -/
def findEnd (t : List UInt8) : List UInt8 → List UInt8
  | [] => []
  | c :: q => if t.isPrefixOf (c :: q) then (c :: q).drop t.length else findEnd t q
theorem findEnd_suf (t : List UInt8) : ∀ l, findEnd t l <:+ l := by
  intro l
  induction l with
  | nil => exact List.suffix_refl _
  | cons c q ih =>
    unfold findEnd
    split
    · exact List.drop_suffix _ _
    · exact ih.trans (List.suffix_cons _ _)
theorem findEnd_index {t : List UInt8} (ht : t ≠ []) : ∀ l, findEnd t l = if Lib.index l t < 0 then [] else l.drop ((Lib.index l t).toNat + t.length) := by
  intro l
  induction l with
  | nil =>
    have : t.isEmpty = false := by cases t; exact absurd rfl ht; rfl
    simp [findEnd]
  | cons c q ih =>
    unfold findEnd Lib.index
    by_cases hp : t.isPrefixOf (c :: q) = true
    · rw [if_pos hp, if_pos hp]; simp
    · rw [if_neg hp, if_neg hp, ih]
      have hge := Lib.index_ge q t
      by_cases h1 : Lib.index q t < 0
      · have e : Lib.index q t = -1 := by omega
        rw [e]
        rfl
      · have e : (Lib.index q t == -1) = false := by rw [beq_eq_false_iff_ne]; omega
        rw [if_neg h1, e, if_neg (by decide : ¬ (false = true)), if_neg (by omega)]
        obtain ⟨k, hk⟩ : ∃ k : Nat, Lib.index q t = (k : Int) := ⟨(Lib.index q t).toNat, by omega⟩
        rw [hk, show ((k : Int) + 1).toNat + t.length = ((k : Int).toNat + t.length) + 1 by omega, List.drop_succ_cons]
/-- a note that begins here: what is behind it -/
def noteL (r : List UInt8) : Option (List UInt8) :=
  if [60, 33, 45, 45].isPrefixOf r then some (findEnd [45, 45, 62] (r.drop 4))
  else if [60, 33].isPrefixOf r || [60, 63].isPrefixOf r then some (findEnd [62] (r.drop 2)) else none
theorem noteL_suf {r e : List UInt8} (h : noteL r = some e) : e <:+ r ∧ e.length < r.length := by
  unfold noteL at h
  split at h
  · rename_i hp
    cases h
    have h1 := findEnd_suf [45, 45, 62] (r.drop 4)
    have h2 := List.drop_suffix 4 r
    have h3 := (List.isPrefixOf_iff_prefix.1 hp).length_le
    refine ⟨h1.trans h2, ?_⟩
    have h4 := h1.length_le
    rw [List.length_drop] at h4
    simp only [List.length_cons, List.length_nil] at h3
    omega
  · split at h
    · rename_i hp
      cases h
      have h1 := findEnd_suf [62] (r.drop 2)
      have h2 := List.drop_suffix 2 r
      have h3 : 2 ≤ r.length := by
        rw [Bool.or_eq_true] at hp
        rcases hp with hp | hp
        · exact (List.isPrefixOf_iff_prefix.1 hp).length_le
        · exact (List.isPrefixOf_iff_prefix.1 hp).length_le
      refine ⟨h1.trans h2, ?_⟩
      have h4 := h1.length_le
      rw [List.length_drop] at h4
      omega
    · cases h
def gapB (c : UInt8) : Bool := blankB c || c == 47
def nmB (c : UInt8) : Bool := !blankB c && c != 47 && c != 62 && c != 61
def valB (c : UInt8) : Bool := !blankB c && c != 62
def neB (q c : UInt8) : Bool := c != q
/-- a part's value, from behind its sign on, and what is behind it -/
def valueL (r : List UInt8) : Option (List UInt8 × List UInt8) :=
  match r.dropWhile blankB with
  | [] => some ([], [])
  | q :: r2 => if q = 34 ∨ q = 39 then (match r2.dropWhile (neB q) with
      | [] => none
      | _ :: r3 => some (r2.takeWhile (neB q), r3))
    else some ((q :: r2).takeWhile valB, (q :: r2).dropWhile valB)
theorem valueL_suf {r v e : List UInt8} (h : valueL r = some (v, e)) : e <:+ r := by
  unfold valueL at h
  have h0 := suf_drop blankB r
  split at h
  · cases h; exact List.nil_suffix
  · rename_i q r2 hr
    rw [hr] at h0
    split at h
    · split at h
      · cases h
      · rename_i c r3 h3
        cases h
        have h1 := suf_drop (neB q) r2
        rw [h3] at h1
        exact (List.suffix_cons c _).trans (h1.trans ((List.suffix_cons q r2).trans h0))
    · cases h
      exact (suf_drop valB (q :: r2)).trans h0
abbrev Part := List UInt8 × List UInt8
/-- a part's name, what is behind it, its value, and what is behind the part -/
def partL (c : UInt8) (r2 : List UInt8) : Option (Part × List UInt8) :=
  let r3 := r2.dropWhile nmB
  match r3.dropWhile blankB with
  | 61 :: r5 => (valueL r5).map fun ve => ((c :: r2.takeWhile nmB, ve.1), ve.2)
  | _ => some ((c :: r2.takeWhile nmB, []), r3)
theorem partL_suf {c : UInt8} {r2 e : List UInt8} {p : Part} (h : partL c r2 = some (p, e)) : e <:+ r2 := by
  unfold partL at h
  dsimp only at h
  have h0 := suf_drop nmB r2
  have h1 := suf_drop blankB (r2.dropWhile nmB)
  split at h
  · rename_i r5 h5
    rw [h5] at h1
    cases hv : valueL r5 with
    | none => rw [hv] at h; cases h
    | some ve =>
      rw [hv] at h
      have := valueL_suf (v := ve.1) (e := ve.2) hv
      cases h
      exact this.trans ((List.suffix_cons 61 r5).trans (h1.trans h0))
  · cases h
    exact h0
/-- a tag's parts, whether it ends at once, and what is behind it -/
def partsF : Nat → List UInt8 → Option (List Part × Bool × List UInt8)
  | 0, _ => none
  | f + 1, r => match r.dropWhile gapB with
    | [] => none
    | c :: r2 => if c = 62 then some ([], (r.takeWhile gapB).getLast? == some 47, r2) else match partL c r2 with
      | none => none
      | some (p, e) => (partsF f e).map fun x => (p :: x.1, x.2)
def partsL (r : List UInt8) : Option (List Part × Bool × List UInt8) := partsF (r.length + 1) r
theorem partsF_more : ∀ (f : Nat) (r : List UInt8), r.length < f → partsF f r = partsL r := by
  intro f
  induction f using Nat.strongRecOn with
  | ind f ih =>
    intro r hl
    obtain ⟨g, rfl⟩ : ∃ g, f = g + 1 := ⟨f - 1, by omega⟩
    unfold partsL partsF
    have h0 := (suf_drop gapB r).length_le
    split
    · rfl
    · rename_i c r2 hr
      split
      · rfl
      · split
        · rfl
        · rename_i p e hp
          have h1 := (partL_suf hp).length_le
          rw [hr] at h0
          simp only [List.length_cons] at h0
          rw [ih g (by omega) e (by omega)]
          rcases Nat.lt_or_ge r.length g with h | h
          · rw [ih r.length (by omega) e (by omega)]
          · rw [ih r.length (by omega) e (by omega)]
/-- a row of parts, one step -/
theorem partsL_eq (r : List UInt8) : partsL r = match r.dropWhile gapB with
    | [] => none
    | c :: r2 => if c = 62 then some ([], (r.takeWhile gapB).getLast? == some 47, r2) else match partL c r2 with
      | none => none
      | some (p, e) => (partsL e).map fun x => (p :: x.1, x.2) := by
  conv => lhs; unfold partsL partsF
  have h0 := (suf_drop gapB r).length_le
  split
  · rfl
  · rename_i c r2 hr
    split
    · rfl
    · split
      · rfl
      · rename_i p e hp
        have h1 := (partL_suf hp).length_le
        rw [hr] at h0
        simp only [List.length_cons] at h0
        rw [partsF_more _ e (by omega)]
theorem partsL_suf : ∀ (n : Nat) (r : List UInt8) (x : List Part × Bool × List UInt8), r.length ≤ n → partsL r = some x → (62 :: x.2.2) <:+ r := by
  intro n
  induction n with
  | zero =>
    intro r x hl h
    obtain rfl : r = [] := List.eq_nil_of_length_eq_zero (by omega)
    cases h
  | succ n ih =>
    intro r x hl h
    rw [partsL_eq] at h
    have h0 := suf_drop gapB r
    split at h
    · cases h
    · rename_i c r2 hr
      rw [hr] at h0
      split at h
      · rename_i hc
        cases h
        rw [← hc]
        exact h0
      · split at h
        · cases h
        · rename_i p e hp
          cases hx : partsL e with
          | none => rw [hx] at h; cases h
          | some y =>
            rw [hx] at h
            have h1 := partL_suf hp
            have h2 := h1.length_le
            have h3 := h0.length_le
            simp only [List.length_cons] at h3
            have h4 := ih e y (by omega) hx
            cases h
            exact h4.trans (h1.trans ((List.suffix_cons c r2).trans h0))
/-- the document's: from inside a gap on -/
def partsS (self : Bool) (r : List UInt8) : Option (List Part × Bool × List UInt8) :=
  match r with
  | 62 :: e => some ([], self, e)
  | _ => partsL r
theorem partsS_false (r : List UInt8) : partsS false r = partsL r := by
  unfold partsS
  split
  · rename_i e
    rw [partsL_eq]
    rfl
  · rfl
theorem partsS_end (self : Bool) (e : List UInt8) : partsS self (62 :: e) = some ([], self, e) := rfl
theorem partsS_not {r : List UInt8} (h : ∀ e, r ≠ 62 :: e) (self : Bool) : partsS self r = partsL r := by
  unfold partsS
  split
  · exact absurd rfl (h _)
  · rfl
theorem partsS_gap {c : UInt8} (h : gapB c = true) (self : Bool) (r : List UInt8) : partsS self (c :: r) = partsS (c == 47) r := by
  have hc : c ≠ 62 := by rintro rfl; exact absurd h (by decide)
  rw [partsS_not (fun e he => hc (List.cons.inj he).1), partsL_eq, List.dropWhile_cons_of_pos h, List.takeWhile_cons_of_pos h]
  by_cases hr : ∃ e, r = 62 :: e
  · obtain ⟨e, rfl⟩ := hr
    have hd : List.dropWhile gapB (62 :: e) = 62 :: e := List.dropWhile_cons_of_neg (by decide)
    have ht : List.takeWhile gapB (62 :: e) = [] := List.takeWhile_cons_of_neg (by decide)
    rw [hd, ht, partsS_end]
    simp
  · have hne : ∀ e, r ≠ 62 :: e := fun e he => hr ⟨e, he⟩
    rw [partsS_not hne, partsL_eq r]
    cases hd : r.dropWhile gapB with
    | nil => rfl
    | cons d r2 =>
      dsimp only
      by_cases h62 : d = 62
      · rw [if_pos h62, if_pos h62]
        have hg : r.takeWhile gapB ≠ [] := by
          intro hg
          have := take_drop_while gapB r
          rw [hg, hd, h62] at this
          exact hne r2 this.symm
        obtain ⟨a, q, hq⟩ := List.exists_cons_of_ne_nil hg
        rw [hq]
        simp [List.getLast?_cons_cons]
      · rw [if_neg h62, if_neg h62]
theorem partsS_part {c : UInt8} (hg : gapB c = false) (hc : c ≠ 62) (self : Bool) (r : List UInt8) : partsS self (c :: r) = match partL c r with
    | none => none
    | some (p, e) => (partsL e).map fun x => (p :: x.1, x.2) := by
  have e1 : partsS self (c :: r) = partsL (c :: r) := by
    unfold partsS
    split
    · rename_i e he
      exact absurd (List.cons.inj he).1 hc
    · rfl
  rw [e1, partsL_eq, List.dropWhile_cons_of_neg (by simp [hg])]
  dsimp only
  rw [if_neg hc]
abbrev AttrB := ByteArray × ByteArray
/-- what a text of a token stands for -/
def decT (l : List UInt8) : List UInt8 := decL (anewB (bs l)).data.toList
/-- a tag's attributes, behind names -/
def ownedF : List (List UInt8) → List Part → List AttrB
  | _, [] => []
  | seen, (n, v) :: l => (if nameOk (bs (n.map smallC)) && valueOk (bs (decT v)) && !(seen.contains (n.map smallC)) then [(bs (n.map smallC), bs (decT v))] else []) ++ ownedF (seen ++ [n.map smallC]) l
def ownedL (l : List Part) : List AttrB := ownedF [] l
theorem ownedF_len : ∀ (l : List Part) (seen : List (List UInt8)), (ownedF seen l).length ≤ l.length := by
  intro l
  induction l with
  | nil => intro _; exact Nat.le_refl _
  | cons p l ih =>
    intro seen
    obtain ⟨n, v⟩ := p
    have := ih (seen ++ [n.map smallC])
    rw [ownedF, List.length_append, List.length_cons]
    split
    · simp only [List.length_cons, List.length_nil]; omega
    · simp only [List.length_nil]; omega
structure Tk where
  kind : Int
  name : List UInt8
  text : List UInt8
  attrs : List AttrB
  self : Bool
  lo : Nat
  hi : Nat
def headP (p : UInt8 → Bool) : List UInt8 → Bool
  | [] => false
  | c :: _ => p c
def closeB (r : List UInt8) : Bool := headP (· == 47) (r.drop 1)
/-- from a tag's name on -/
def tagR (r : List UInt8) : List UInt8 := if closeB r then r.drop 2 else r.drop 1
def tagN (r : List UInt8) : List UInt8 := ((tagR r).takeWhile alnumB).map smallC
def closeL (N : Nat) (r : List UInt8) : Option (Tk × List UInt8) := match ((tagR r).dropWhile alnumB).dropWhile (neB 62) with
  | [] => none
  | _ :: e => some (⟨3, tagN r, [], [], false, N - r.length, N - e.length⟩, e)
def openL (N : Nat) (r : List UInt8) : Option (Tk × List UInt8) := (partsL ((tagR r).dropWhile alnumB)).map fun x => (⟨2, tagN r, [], ownedL x.1, x.2.1, N - r.length, N - x.2.2.length⟩, x.2.2)
/-- a tag that begins here, and what is behind it -/
def tagL (N : Nat) (r : List UInt8) : Option (Tk × List UInt8) := if headP letterB (tagR r) then (if closeB r then closeL N r else openL N r) else none
theorem tagR_suf (r : List UInt8) : tagR r <:+ r.drop 1 := by
  unfold tagR
  split
  · have : r.drop 2 = (r.drop 1).drop 1 := by rw [List.drop_drop]
    rw [this]; exact List.drop_suffix _ _
  · exact List.suffix_refl _
theorem neB_head {q c : UInt8} {l r : List UInt8} (h : l.dropWhile (neB q) = c :: r) : c = q := by
  have := List.head?_dropWhile_not (neB q) l
  rw [h] at this
  simpa [neB] using this
theorem tagL_suf {N : Nat} {r e : List UInt8} {t : Tk} (h : tagL N r = some (t, e)) : (62 :: e) <:+ r.drop 1 := by
  unfold tagL at h
  have h1 := (suf_drop alnumB (tagR r)).trans (tagR_suf r)
  by_cases h0 : headP letterB (tagR r) = true
  · rw [if_pos h0] at h
    by_cases hc : closeB r = true
    · rw [if_pos hc] at h
      unfold closeL at h
      have h4 := suf_drop (neB 62) ((tagR r).dropWhile alnumB)
      split at h
      · cases h
      · rename_i c e' he
        have hc := neB_head he
        subst hc
        cases h
        rw [he] at h4
        exact h4.trans h1
    · rw [if_neg hc] at h
      unfold openL at h
      cases hx : partsL ((tagR r).dropWhile alnumB) with
      | none => rw [hx] at h; cases h
      | some x =>
        rw [hx] at h
        have h2 := partsL_suf _ _ x (Nat.le_refl _) hx
        cases h
        exact h2.trans h1
  · rw [if_neg h0] at h
    cases h
theorem tagL_len {N : Nat} {r e : List UInt8} {t : Tk} (h : tagL N r = some (t, e)) : e <:+ r ∧ e.length < r.length := by
  have h1 := tagL_suf h
  have h2 := List.drop_suffix 1 r
  have h3 := h1.length_le
  simp only [List.length_cons, List.length_drop] at h3
  exact ⟨(List.suffix_cons 62 e).trans (h1.trans h2), by omega⟩
def flushT (raw : List UInt8) (a b : Nat) : List Tk := if raw = [] then [] else [⟨1, [], raw, [], false, a, b⟩]
/-- tokens, of the bytes that are left, with a text that is open -/
def lexF (N : Nat) : Nat → List UInt8 → Nat → Nat → List UInt8 → List Tk
  | 0, raw, a, b, _ => flushT raw a b
  | f + 1, raw, a, b, [] => flushT raw a b
  | f + 1, raw, a, b, c :: q => if c = 60 then (match noteL (c :: q) with
      | some e => lexF N f raw a b e
      | none => match tagL N (c :: q) with
        | some (t, e) => flushT raw a b ++ t :: lexF N f [] a b e
        | none => lexF N f (raw ++ [c]) (if raw = [] then N - (q.length + 1) else a) (N - q.length) q)
    else lexF N f (raw ++ [c]) (if raw = [] then N - (q.length + 1) else a) (N - q.length) q
def lexL (N : Nat) (raw : List UInt8) (a b : Nat) (r : List UInt8) : List Tk := lexF N r.length raw a b r
theorem lexF_more (N : Nat) : ∀ (f : Nat) (raw : List UInt8) (a b : Nat) (r : List UInt8), r.length ≤ f → lexF N f raw a b r = lexL N raw a b r := by
  intro f
  induction f using Nat.strongRecOn with
  | ind f ih =>
    intro raw a b r hl
    unfold lexL
    cases r with
    | nil => cases f <;> rfl
    | cons c q =>
      simp only [List.length_cons] at hl ⊢
      obtain ⟨g, rfl⟩ : ∃ g, f = g + 1 := ⟨f - 1, by omega⟩
      unfold lexF
      have hq : ∀ raw' a' b', lexF N g raw' a' b' q = lexF N q.length raw' a' b' q := fun raw' a' b' => by
        rw [ih g (by omega) _ _ _ q (by omega)]; rfl
      have hs : ∀ raw' a' b' e, e.length ≤ q.length → lexF N g raw' a' b' e = lexF N q.length raw' a' b' e := fun raw' a' b' e he => by
        rw [ih g (by omega) _ _ _ e (by omega)]
        rcases Nat.lt_or_ge q.length (g + 1) with h | h
        · rw [ih q.length h _ _ _ e he]
        · omega
      split
      · split
        · rename_i e hn
          have := (noteL_suf hn).2
          simp only [List.length_cons] at this
          exact hs _ _ _ _ (by omega)
        · split
          · rename_i t e ht
            have := (tagL_len ht).2
            simp only [List.length_cons] at this
            rw [hs _ _ _ e (by omega)]
          · exact hq _ _ _
      · exact hq _ _ _
theorem lexL_nil (N : Nat) (raw : List UInt8) (a b : Nat) : lexL N raw a b [] = flushT raw a b := rfl
theorem lexL_char {N : Nat} {raw : List UInt8} {a b : Nat} {c : UInt8} {q : List UInt8} (h : c ≠ 60 ∨ noteL (c :: q) = none ∧ tagL N (c :: q) = none) :
    lexL N raw a b (c :: q) = lexL N (raw ++ [c]) (if raw = [] then N - (q.length + 1) else a) (N - q.length) q := by
  show lexF N (q.length + 1) raw a b (c :: q) = _
  unfold lexF
  rcases h with h | ⟨h1, h2⟩
  · rw [if_neg h]; rfl
  · rw [h1, h2]
    split <;> rfl
theorem lexL_note {N : Nat} {raw : List UInt8} {a b : Nat} {q e : List UInt8} (h : noteL (60 :: q) = some e) : lexL N raw a b (60 :: q) = lexL N raw a b e := by
  show lexF N (q.length + 1) raw a b (60 :: q) = _
  unfold lexF
  rw [h, if_pos rfl]
  have := (noteL_suf h).2
  simp only [List.length_cons] at this
  exact lexF_more N q.length raw a b e (by omega)
theorem lexL_tag {N : Nat} {raw : List UInt8} {a b : Nat} {q e : List UInt8} {t : Tk} (h : noteL (60 :: q) = none) (ht : tagL N (60 :: q) = some (t, e)) : lexL N raw a b (60 :: q) = flushT raw a b ++ t :: lexL N [] a b e := by
  show lexF N (q.length + 1) raw a b (60 :: q) = _
  unfold lexF
  rw [h, ht, if_pos rfl]
  have := (tagL_len ht).2
  simp only [List.length_cons] at this
  rw [← lexF_more N q.length [] a b e (by omega)]
/-- a run of bytes that begin no tag -/
theorem lexL_run {N : Nat} : ∀ (p : List UInt8) (raw : List UInt8) (a b : Nat) (r : List UInt8), p ≠ [] → (∀ c ∈ p, c ≠ 60) → lexL N raw a b (p ++ r) = lexL N (raw ++ p) (if raw = [] then N - (p ++ r).length else a) (N - r.length) r := by
  intro p
  induction p with
  | nil => intro _ _ _ _ h; exact absurd rfl h
  | cons c q ih =>
    intro raw a b r _ hc
    rw [List.cons_append, lexL_char (.inl (hc c (by simp)))]
    cases q with
    | nil => rfl
    | cons d q =>
      rw [ih _ _ _ _ (by simp) fun x hx => hc x (by simp [hx])]
      have hne : raw ++ [c] ≠ [] := by simp
      rw [if_neg hne]
      simp
/-- a token in the end: its text decoded -/
def Tk.fin (t : Tk) : Tk := if t.kind = 1 then { t with text := decT t.text } else t
/-- all tokens -/
def tokens (l : List UInt8) : List Tk := (lexL l.length [] 0 0 l).map Tk.fin
end Go.Proofs.YtdafdoodegpdhaaDoor
