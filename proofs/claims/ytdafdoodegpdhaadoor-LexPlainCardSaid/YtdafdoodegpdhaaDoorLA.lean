/- Characters of a markup, decoded: names and numbers behind an ampersand. No program in sight. -/
import Derived.Test.YtdafdoodegpdhaaDoorPA
import Derived.Lib.Bytealg
namespace Go.Proofs.YtdafdoodegpdhaaDoor
open Go
set_option linter.unusedVariables false
set_option linter.unusedSimpArgs false

/-- a text of these bytes -/
abbrev bs (l : List UInt8) : ByteArray := ⟨l.toArray⟩
theorem bs_list (s : ByteArray) : bs s.data.toList = s := by cases s; simp
theorem bs_data (l : List UInt8) : (bs l).data.toList = l := by simp
theorem bs_size (l : List UInt8) : (bs l).size = l.length := by simp [bs, ByteArray.size]
theorem bs_get (l : List UInt8) (k : Nat) (h : k < (bs l).size) (h' : k < l.length) : (bs l)[k]'h = l[k] := by
  rfl
theorem bs_inj {a b : List UInt8} : bs a = bs b ↔ a = b := by
  constructor
  · intro h; have := congrArg (fun s : ByteArray => s.data.toList) h; simpa using this
  · rintro rfl; rfl
theorem bs_cut (l : List UInt8) (i j : Nat) : (bs l).extract i j = bs ((l.drop i).take (j - i)) := ByteArray.extract_mk l i j
theorem bs_add (a b : List UInt8) : bs a ++ bs b = bs (a ++ b) := by
  have h : (bs a ++ bs b).data.toList = (bs (a ++ b)).data.toList := by rw [ByteArray.data_append, Array.toList_append]
  have h2 := congrArg bs h
  rw [bs_list, bs_list] at h2
  exact h2
def smallC (c : UInt8) : UInt8 := if 65 ≤ c.toNat ∧ c.toNat ≤ 90 then c ||| 32 else c
def letterB (c : UInt8) : Bool := decide (97 ≤ (c ||| 32).toNat ∧ (c ||| 32).toNat ≤ 122)
def digitB (c : UInt8) : Bool := decide (48 ≤ c.toNat ∧ c.toNat ≤ 57)
def alnumB (c : UInt8) : Bool := letterB c || digitB c
theorem all_bytes {p : UInt8 → Prop} (h : ∀ n : Fin 256, p (UInt8.ofNat n.val)) (c : UInt8) : p c := by
  have := h ⟨c.toNat, c.toNat_lt⟩
  have e : UInt8.ofNat c.toNat = c := by simp
  rw [e] at this
  exact this
theorem letter_iff (c : UInt8) : letterB c = decide (97 ≤ c.toNat ∧ c.toNat ≤ 122 ∨ 65 ≤ c.toNat ∧ c.toNat ≤ 90) := by
  revert c
  exact all_bytes (p := fun c => letterB c = decide (97 ≤ c.toNat ∧ c.toNat ≤ 122 ∨ 65 ≤ c.toNat ∧ c.toNat ≤ 90)) (by decide +kernel)
theorem small_add (c : UInt8) : smallC c = if 65 ≤ c.toNat ∧ c.toNat ≤ 90 then c + 32 else c := by
  revert c
  exact all_bytes (p := fun c => smallC c = if 65 ≤ c.toNat ∧ c.toNat ≤ 90 then c + 32 else c) (by decide +kernel)
theorem small_small (c : UInt8) : smallC (smallC c) = smallC c := by
  revert c
  exact all_bytes (p := fun c => smallC (smallC c) = smallC c) (by decide +kernel)
theorem small_alnum (c : UInt8) (h : alnumB c = true) : alnumB (smallC c) = true := by
  revert c
  exact all_bytes (p := fun c => alnumB c = true → alnumB (smallC c) = true) (by decide +kernel)
/-- what a name behind an ampersand stands for -/
def namedL (l : List UInt8) : Option (List UInt8) :=
  if l = [97, 109, 112] then some [38] else if l = [108, 116] then some [60] else if l = [103, 116] then some [62] else if l = [113, 117, 111, 116] then some [34]
  else if l = [97, 112, 111, 115] then some [39] else if l = [110, 98, 115, 112] then some [194, 160] else none
def digV (c : UInt8) : Nat := if 48 ≤ c.toNat ∧ c.toNat ≤ 57 then c.toNat - 48 else if 97 ≤ c.toNat ∧ c.toNat ≤ 102 then c.toNat - 87 else if 65 ≤ c.toNat ∧ c.toNat ≤ 70 then c.toNat - 55 else 99
/-- digits to a base -/
def numL (base : Nat) : Nat → List UInt8 → Option Nat
  | n, [] => some n
  | n, c :: r => if base ≤ digV c then none else numL base (n * base + digV c) r
def runeN (n : Nat) : Bool := decide (n ≠ 0 ∧ n ≤ 1114111 ∧ ¬ (55296 ≤ n ∧ n ≤ 57343))
def codeN (base most : Nat) (l : List UInt8) : Option Nat := if l = [] ∨ most < l.length then none else (numL base 0 l).filter runeN
/-- the number behind an ampersand and a sign -/
def codeL (l : List UInt8) : Option Nat := if l.head? = some 120 then codeN 16 6 l.tail else codeN 10 7 l
def codedL (l : List UInt8) : Option (List UInt8) := (codeL l).map fun (n : Nat) => (Utf8.encode (n : Int)).data.toList
def meansL (l : List UInt8) (e : Nat) : Option (List UInt8) := match namedL ((l.drop 1).take (e - 1)) with
  | some x => some x
  | none => if l.take 2 = [38, 35] then codedL ((l.drop 2).take (e - 2)) else none
/-- what an ampersand, and what is behind it, stands for; how many bytes it has -/
def entityL (l : List UInt8) : List UInt8 × Nat :=
  let e := Lib.indexByte (l.take 12) 59
  if e < 0 then ([38], 1) else match meansL l e.toNat with
    | some x => (x, e.toNat + 1)
    | none => ([38], 1)
theorem entityL_pos (l : List UInt8) : 1 ≤ (entityL l).2 := by
  unfold entityL
  dsimp only
  split
  · exact Nat.le_refl _
  · split
    · exact Nat.succ_le_succ (Nat.zero_le _)
    · exact Nat.le_refl _
def decF : Nat → List UInt8 → List UInt8
  | 0, _ => []
  | f + 1, [] => []
  | f + 1, c :: r => if c = 38 then (entityL (c :: r)).1 ++ decF f ((c :: r).drop (entityL (c :: r)).2) else c :: decF f r
def decL (l : List UInt8) : List UInt8 := decF l.length l
theorem decF_more : ∀ (f : Nat) (l : List UInt8), l.length ≤ f → decF f l = decL l := by
  intro f
  induction f using Nat.strongRecOn with
  | ind f ih =>
    intro l hl
    unfold decL
    cases l with
    | nil => cases f <;> rfl
    | cons c r =>
      cases f with
      | zero => simp at hl
      | succ f =>
        simp only [List.length_cons] at hl ⊢
        simp only [decF]
        have hp := entityL_pos (c :: r)
        have hd : ((c :: r).drop (entityL (c :: r)).2).length ≤ r.length := by rw [List.length_drop]; simp; omega
        split
        · rw [ih f (by omega) _ (by omega)]
          rcases Nat.lt_or_ge r.length (f + 1) with h | h
          · rw [ih r.length (by omega) _ hd]
          · omega
        · rw [ih f (by omega) _ (by omega), ih r.length (by omega) _ (Nat.le_refl _)]
theorem decL_nil : decL [] = [] := rfl
theorem decL_amp (r : List UInt8) : decL (38 :: r) = (entityL (38 :: r)).1 ++ decL ((38 :: r).drop (entityL (38 :: r)).2) := by
  have h1 : decL (38 :: r) = (entityL (38 :: r)).1 ++ decF r.length ((38 :: r).drop (entityL (38 :: r)).2) := by
    show decF (r.length + 1) (38 :: r) = _
    simp [decF]
  rw [h1, decF_more]
  have hp := entityL_pos (38 :: r)
  rw [List.length_drop, List.length_cons]
  omega
theorem decL_cons {c : UInt8} (h : c ≠ 38) (r : List UInt8) : decL (c :: r) = c :: decL r := by
  show decF (r.length + 1) (c :: r) = _
  simp [decF, h]
  rfl
theorem decL_front {p : List UInt8} (h : ∀ c ∈ p, c ≠ 38) (r : List UInt8) : decL (p ++ r) = p ++ decL r := by
  induction p with
  | nil => rfl
  | cons c p ih =>
    rw [List.cons_append, decL_cons (h c (by simp)), ih fun c hc => h c (by simp [hc])]
    rfl
/-- the place of a byte -/
theorem indexByte_some {l : List UInt8} {c : UInt8} (h : ¬ Lib.indexByte l c < 0) : ∃ k : Nat, Lib.indexByte l c = (k : Int) ∧ l[k]? = some c ∧ ∀ j x, j < k → l[j]? = some x → x ≠ c := by
  induction l with
  | nil => exact absurd (by decide : (-1 : Int) < 0) h
  | cons b r ih =>
    unfold Lib.indexByte at h ⊢
    by_cases hb : (b == c) = true
    · rw [if_pos hb] at h ⊢
      have e : b = c := by simpa using hb
      exact ⟨0, rfl, by simp [e], fun j x hj => absurd hj (Nat.not_lt_zero _)⟩
    · rw [if_neg hb] at h ⊢
      by_cases hm : (Lib.indexByte r c == -1) = true
      · rw [if_pos hm] at h; exact absurd (by decide : (-1 : Int) < 0) h
      · rw [if_neg hm] at h ⊢
        have hge := Lib.indexByte_ge r c
        have hne : Lib.indexByte r c ≠ -1 := by simpa using hm
        obtain ⟨k, e, h1, h2⟩ := ih (by omega)
        refine ⟨k + 1, by rw [e]; rfl, by simpa using h1, fun j x hj hx => ?_⟩
        cases j with
        | zero => simp at hx; subst hx; simpa using hb
        | succ j => exact h2 j x (by omega) (by simpa using hx)
theorem indexByte_none {l : List UInt8} {c : UInt8} (h : Lib.indexByte l c < 0) : ∀ x ∈ l, x ≠ c := by
  induction l with
  | nil => intro x hx; cases hx
  | cons b r ih =>
    unfold Lib.indexByte at h
    by_cases hb : (b == c) = true
    · rw [if_pos hb] at h; exact absurd h (by decide)
    · rw [if_neg hb] at h
      by_cases hm : (Lib.indexByte r c == -1) = true
      · have hne : Lib.indexByte r c = -1 := by simpa using hm
        intro x hx
        rcases List.mem_cons.1 hx with rfl | hx
        · simpa using hb
        · exact ih (by omega) x hx
      · rw [if_neg hm] at h
        have hge := Lib.indexByte_ge r c
        have hne : Lib.indexByte r c ≠ -1 := by simpa using hm
        omega
end Go.Proofs.YtdafdoodegpdhaaDoor
