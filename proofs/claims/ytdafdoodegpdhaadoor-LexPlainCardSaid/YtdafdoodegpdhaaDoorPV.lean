/- Bytes that are UTF-8, texts that are blank, names by their characters. No program in sight. -/
import Derived.Test.YtdafdoodegpdhaaDoorPN
import Derived.Lib.ValidLaws
import Derived.Lib.SlTrimSet
namespace Go.Proofs.YtdafdoodegpdhaaDoor
open Go
set_option linter.unusedVariables false
set_option linter.unusedSimpArgs false

theorem encode_rune {r : Int} (h : Utf8.valid r = true) : (Utf8.encode r).data.toList = Lib.encodeRune r := by
  obtain ⟨n, rfl, hn⟩ := valid_cases h
  rw [encode_nat hn]
  unfold Lib.encodeRune
  have e : ∀ m : Nat, ((m : Int)).toNat.toUInt8 = UInt8.ofNat m := fun m => rfl
  by_cases h1 : n < 128
  · rw [if_pos h1, Lib.encodeRuneZ_one (by omega) (by omega)]; rfl
  · rw [if_neg h1]
    by_cases h2 : n < 2048
    · rw [if_pos h2, Lib.encodeRuneZ_two (by omega) (by omega)]
      rw [show (192 + (n : Int) / 64) = ((192 + n / 64 : Nat) : Int) by omega, show (128 + (n : Int) % 64) = ((128 + n % 64 : Nat) : Int) by omega]
      rfl
    · rw [if_neg h2]
      by_cases h3 : n < 65536
      · rw [if_pos h3, Lib.encodeRuneZ_three (by omega)]
        rw [show (224 + (n : Int) / 4096) = ((224 + n / 4096 : Nat) : Int) by omega, show (128 + (n : Int) / 64 % 64) = ((128 + n / 64 % 64 : Nat) : Int) by omega, show (128 + (n : Int) % 64) = ((128 + n % 64 : Nat) : Int) by omega]
        rfl
      · rw [if_neg h3, Lib.encodeRuneZ_four (by omega) (by omega)]
        rw [show (240 + (n : Int) / 262144) = ((240 + n / 262144 : Nat) : Int) by omega, show (128 + (n : Int) / 4096 % 64) = ((128 + n / 4096 % 64 : Nat) : Int) by omega, show (128 + (n : Int) / 64 % 64) = ((128 + n / 64 % 64 : Nat) : Int) by omega, show (128 + (n : Int) % 64) = ((128 + n % 64 : Nat) : Int) by omega]
        rfl
theorem width_pos (s : ByteArray) (pos : Nat) (h : pos < s.size) : 1 ≤ (Utf8.decode s pos).2 := by
  rw [← Lib.decodeL_drop]; exact Lib.decodeL_width _
/-- the characters from a place on, as bytes -/
def restB (s : ByteArray) (f pos : Nat) : List UInt8 := (runeList s f pos).flatMap fun r => (Utf8.encode r).data.toList
theorem drop_len (s : ByteArray) (pos : Nat) : (s.data.toList.drop pos).length = s.size - pos := by rw [List.length_drop]; rfl
theorem drop_ne (s : ByteArray) {pos : Nat} (h : pos < s.size) : s.data.toList.drop pos ≠ [] := fun e => by have := drop_len s pos; rw [e] at this; simp at this; omega
/-- valid bytes are those that are written anew as they are -/
theorem rest_valid (s : ByteArray) : ∀ (f pos : Nat), s.size ≤ pos + f → (Lib.validD (s.data.toList.drop pos) = true ↔ restB s f pos = s.data.toList.drop pos) := by
  intro f
  induction f with
  | zero =>
    intro pos h
    have e : s.data.toList.drop pos = [] := List.eq_nil_of_length_eq_zero (by rw [drop_len]; omega)
    rw [e]
    exact ⟨fun _ => rfl, fun _ => rfl⟩
  | succ f ih =>
    intro pos h
    by_cases hp : pos < s.size
    · have hne := drop_ne s hp
      have hw := Lib.decodeL_width (s.data.toList.drop pos)
      have hle := Lib.decodeL_le _ hne
      have hD := Lib.decodeL_drop s pos
      rw [Lib.validD_step _ hne]
      have er : restB s (f + 1) pos = (Utf8.encode (Int.ofNat (Utf8.decode s pos).1)).data.toList ++ restB s f (pos + (Utf8.decode s pos).2) := by
        unfold restB; rw [runeList, if_pos hp]; rfl
      have hva := decode_valid s pos
      by_cases hb : (Lib.decodeL (s.data.toList.drop pos)).1 = 65533 ∧ (Lib.decodeL (s.data.toList.drop pos)).2 = 1
      · rw [if_pos hb]
        refine ⟨fun e => (by cases e), fun e => ?_⟩
        exfalso
        rw [er, ← hD, hb.1] at e
        have e3 : (Utf8.encode (Int.ofNat 65533)).data.toList = [239, 191, 189] := by decide
        rw [e3] at e
        have h2 := hb.2
        rw [← e, Lib.decodeL_N] at h2
        simp [Lib.decodeN] at h2
      · rw [if_neg hb, List.drop_drop]
        rw [hD] at hb hle ⊢
        have i1 := ih (pos + (Utf8.decode s pos).2) (by rw [hD] at hw; omega)
        rw [i1, er, encode_rune hva]
        have h4 := Lib.encode_decode _ hne (by rw [hD]; exact hb)
        rw [hD] at h4
        have h5 : Lib.encodeRune (Int.ofNat (Utf8.decode s pos).1) = (s.data.toList.drop pos).take (Utf8.decode s pos).2 := h4
        rw [h5]
        have h6 : s.data.toList.drop pos = (s.data.toList.drop pos).take (Utf8.decode s pos).2 ++ s.data.toList.drop (pos + (Utf8.decode s pos).2) := by
          rw [← List.drop_drop, List.take_append_drop]
        constructor
        · intro e; rw [e]; exact h6.symm
        · intro e
          have h7 := e.trans h6
          exact List.append_cancel_left h7
    · have e : s.data.toList.drop pos = [] := List.eq_nil_of_length_eq_zero (by rw [drop_len]; omega)
      rw [e]
      have : restB s (f + 1) pos = [] := by unfold restB; rw [runeList, if_neg hp]; rfl
      rw [this]
      exact ⟨fun _ => rfl, fun _ => rfl⟩
theorem bytes_ext {s t : ByteArray} (h : s.data.toList = t.data.toList) : s = t := by
  cases s; cases t; simp only at h; congr 1; exact Array.ext' h
theorem valid_anew (s : ByteArray) : Lib.validD s.data.toList = decide (anewB s = s) := by
  have h := rest_valid s s.size 0 (by omega)
  rw [List.drop_zero] at h
  have e : (anewB s).data.toList = restB s s.size 0 := by unfold anewB restB; exact runesBytes_list _
  rw [Bool.eq_iff_iff, h, ← e, decide_eq_true_eq]
  exact ⟨bytes_ext, fun e => by rw [e]⟩
/-- nothing is left of a text that is blank -/
theorem dropWhile_nil {p : UInt8 → Bool} : ∀ {l : List UInt8}, l.dropWhile p = [] ↔ ∀ c ∈ l, p c = true := by
  intro l
  induction l with
  | nil => simp
  | cons a l ih =>
    rw [List.dropWhile_cons]
    by_cases h : p a = true
    · rw [if_pos h, ih]; simp [h]
    · rw [if_neg h]; simp [h]
theorem takeWhile_mem {p : UInt8 → Bool} : ∀ {l : List UInt8} {c : UInt8}, c ∈ l.takeWhile p → p c = true := by
  intro l
  induction l with
  | nil => intro c h; simp at h
  | cons a l ih =>
    intro c h
    rw [List.takeWhile_cons] at h
    by_cases ha : p a = true
    · rw [if_pos ha] at h
      rcases List.mem_cons.1 h with rfl | h
      · exact ha
      · exact ih h
    · rw [if_neg ha] at h; simp at h
theorem trimLeft_nil {l cs : List UInt8} : Lib.trimLeftS l cs = [] ↔ ∀ c ∈ l, cs.contains c = true := by
  unfold Lib.trimLeftS
  exact dropWhile_nil
theorem trimRight_mem {l cs : List UInt8} (h : ∀ c ∈ Lib.trimRightS l cs, cs.contains c = true) : ∀ c ∈ l, cs.contains c = true := by
  unfold Lib.trimRightS at h
  intro c hc
  have e : l.reverse = l.reverse.takeWhile (cs.contains ·) ++ l.reverse.dropWhile (cs.contains ·) := (List.takeWhile_append_dropWhile).symm
  have hc' : c ∈ l.reverse := by simpa using hc
  rw [e] at hc'
  rcases List.mem_append.1 hc' with h1 | h1
  · exact takeWhile_mem h1
  · exact h c (by simpa using h1)
theorem trim_blank (l : List UInt8) : (Lib.trimS l [32, 9, 10, 12, 13] = []) ↔ l.all blankB = true := by
  have hb : ∀ c : UInt8, ([32, 9, 10, 12, 13] : List UInt8).contains c = true ↔ blankB c = true := by
    intro c
    simp only [List.contains_cons, List.contains_nil, Bool.or_false, Bool.or_eq_true, beq_iff_eq, blankB, decide_eq_true_eq]
    constructor <;> rintro (h | h | h | h | h) <;> simp [h]
  unfold Lib.trimS
  rw [trimLeft_nil, List.all_eq_true]
  constructor
  · intro h c hc; exact (hb c).1 (trimRight_mem h c hc)
  · intro h c hc
    refine (hb c).2 (h c ?_)
    unfold Lib.trimRightS at hc
    have := List.mem_reverse.1 hc
    exact List.mem_reverse.1 ((List.dropWhile_suffix _).subset this)
/-- may a character of a name be: the first one, a further one -/
def nameR (first : Bool) (r : Int) : Bool := decide (97 ≤ r ∧ r ≤ 122) || !first && (decide (48 ≤ r ∧ r ≤ 57) || decide (r = 45))
def nameB (c : UInt8) : Bool := decide (97 ≤ c.toNat ∧ c.toNat ≤ 122 ∨ 48 ≤ c.toNat ∧ c.toNat ≤ 57 ∨ c.toNat = 45)
theorem nameR_small {first : Bool} {r : Int} (h : nameR first r = true) : 0 ≤ r ∧ r < 128 := by
  unfold nameR at h
  simp only [Bool.or_eq_true, Bool.and_eq_true, decide_eq_true_eq] at h
  omega
theorem decode_small (s : ByteArray) {pos : Nat} (hp : pos < s.size) (h : (Utf8.decode s pos).1 < 128) : Utf8.decode s pos = ((s[pos]'hp).toNat, 1) ∧ (s[pos]'hp).toNat < 128 := by
  by_cases ha : (s[pos]'hp).toNat < 128
  · exact ⟨decode_ascii s pos hp ha, ha⟩
  · have := (decode_high s pos hp (by omega)).1; omega
end Go.Proofs.YtdafdoodegpdhaaDoor
