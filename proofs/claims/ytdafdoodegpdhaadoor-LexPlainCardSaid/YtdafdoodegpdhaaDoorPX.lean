/- Attributes: when a name may be, a value, a row of attributes; byte by byte, rune by rune. No program in sight. -/
import Derived.Test.YtdafdoodegpdhaaDoorPV
namespace Go.Proofs.YtdafdoodegpdhaaDoor
open Go
set_option linter.unusedVariables false
set_option linter.unusedSimpArgs false

theorem byte_mem {s : ByteArray} {c : UInt8} : c ∈ s.data.toList ↔ ∃ (j : Nat) (h : j < s.size), s[j]'h = c := by
  rw [List.mem_iff_getElem]
  constructor
  · rintro ⟨j, h, e⟩; exact ⟨j, h, e⟩
  · rintro ⟨j, h, e⟩; exact ⟨j, h, e⟩
theorem nameOk_iff (s : ByteArray) : nameOk s = true ↔ (1 ≤ s.size ∧ s.size ≤ 16) ∧ ∀ j (h : j < s.size), nameR (decide (j = 0)) ((s[j]'h).toNat : Int) = true := by
  unfold nameOk
  simp only [Bool.and_eq_true, decide_eq_true_eq, List.all_eq_true]
  have hh : ∀ h : 0 < s.size, s.data.toList.head? = some (s[0]'h) := fun h => by
    rw [List.head?_eq_getElem?, List.getElem?_eq_getElem (by exact h)]; rfl
  constructor
  · rintro ⟨⟨h1, h2⟩, h3⟩
    refine ⟨h1, fun j hj => ?_⟩
    have a := h3 _ (byte_mem.2 ⟨j, hj, rfl⟩)
    rw [hh (by omega)] at h2
    simp only [Option.any_some, decide_eq_true_eq] at h2
    unfold nameR
    by_cases hz : j = 0
    · subst hz
      simp only [decide_true, Bool.or_eq_true, decide_eq_true_eq]
      exact .inl (by omega)
    · simp only [hz, decide_false, Bool.or_eq_true, Bool.not_false, Bool.true_and, decide_eq_true_eq]
      omega
  · rintro ⟨h1, h2⟩
    refine ⟨⟨h1, ?_⟩, fun c hc => ?_⟩
    · rw [hh (by omega)]
      have := h2 0 (by omega)
      unfold nameR at this
      simp only [decide_true, Bool.not_true, Bool.false_and, Bool.or_false, decide_eq_true_eq] at this
      simp only [Option.any_some, decide_eq_true_eq]
      omega
    · obtain ⟨j, hj, rfl⟩ := byte_mem.1 hc
      have := h2 j hj
      unfold nameR at this
      simp only [Bool.or_eq_true, Bool.and_eq_true, decide_eq_true_eq] at this
      omega
theorem name_step {s : ByteArray} (h : nameOk s = true) {pos : Nat} (hp : pos < s.size) : nameR (decide (pos = 0)) (Int.ofNat (Utf8.decode s pos).1) = true := by
  have a := ((nameOk_iff s).1 h).2 pos hp
  have b := nameR_small a
  rw [decode_ascii s pos hp (by omega)]
  exact a
theorem name_next {s : ByteArray} {pos : Nat} (hp : pos < s.size) (h : nameR (decide (pos = 0)) (Int.ofNat (Utf8.decode s pos).1) = true) :
    (Utf8.decode s pos).2 = 1 ∧ nameR (decide (pos = 0)) ((s[pos]'hp).toNat : Int) = true := by
  have b := nameR_small h
  have c := (decode_small s hp (by have := b.2; simp at this; omega)).1
  rw [c] at h ⊢
  exact ⟨rfl, h⟩
theorem attrsMay_iff (l : List (ByteArray × ByteArray)) : attrsMay l = true ↔ ∀ (i : Nat) a, l[i]? = some a → nameOk a.1 = true ∧ valueOk a.2 = true ∧ attrAt l a.1 = i := by
  unfold attrsMay
  rw [List.all_eq_true]
  constructor
  · intro h i a hi
    have := h (a, i) (by rw [List.mk_mem_zipIdx_iff_getElem?]; exact hi)
    simp only [Bool.and_eq_true, decide_eq_true_eq] at this
    exact ⟨this.1.1, this.1.2, this.2⟩
  · rintro h ⟨a, i⟩ hm
    rw [List.mk_mem_zipIdx_iff_getElem?] at hm
    have := h i a hm
    simp only [Bool.and_eq_true, decide_eq_true_eq]
    exact ⟨⟨this.1, this.2.1⟩, this.2.2⟩
theorem attrAt_hit {l : List (ByteArray × ByteArray)} {n : ByteArray} {k : Nat} {a : ByteArray × ByteArray} (h : l[k]? = some a) (e : a.1 = n) (hb : ∀ (j : Nat) x, j < k → l[j]? = some x → x.1 ≠ n) : attrAt l n = k := by
  obtain ⟨hk, ha⟩ := List.getElem?_eq_some_iff.1 h
  have : l.findIdx? (fun a => decide (a.1 = n)) = some k := by
    rw [List.findIdx?_eq_some_iff_getElem]
    refine ⟨hk, by rw [ha]; simpa using e, fun j hj => ?_⟩
    have := hb j _ hj (List.getElem?_eq_getElem (by omega))
    simpa using this
  unfold attrAt; rw [this]
theorem attrAt_none {l : List (ByteArray × ByteArray)} {n : ByteArray} (hb : ∀ (j : Nat) x, l[j]? = some x → x.1 ≠ n) : attrAt l n = -1 := by
  have : l.findIdx? (fun a => decide (a.1 = n)) = none := by
    rw [List.findIdx?_eq_none_iff]
    intro x hx
    obtain ⟨j, hj⟩ := List.mem_iff_getElem?.1 hx
    have := hb j x hj
    simpa using this
  unfold attrAt; rw [this]
theorem attrAt_le {l : List (ByteArray × ByteArray)} {k : Nat} {a : ByteArray × ByteArray} (h : l[k]? = some a) : 0 ≤ attrAt l a.1 ∧ attrAt l a.1 ≤ k := by
  unfold attrAt
  cases e : l.findIdx? (fun x => decide (x.1 = a.1)) with
  | none =>
    rw [List.findIdx?_eq_none_iff] at e
    have := e a (List.mem_of_getElem? h)
    simp at this
  | some j =>
    obtain ⟨hj, _, hb⟩ := List.findIdx?_eq_some_iff_getElem.1 e
    refine ⟨by simp, ?_⟩
    by_cases hk : k < j
    · have := hb k hk
      obtain ⟨hk', ha⟩ := List.getElem?_eq_some_iff.1 h
      rw [ha] at this
      simp at this
    · simp only []; omega
end Go.Proofs.YtdafdoodegpdhaaDoor
