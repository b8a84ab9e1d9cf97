/- Unlike normal nodes have unlike markup. No program in sight. -/
import Derived.Test.YtdafdoodegpdhaaDoorPV
namespace Go.Proofs.YtdafdoodegpdhaaDoor
open Go
set_option linter.unusedVariables false
set_option linter.unusedSimpArgs false

/-- what has no such byte, ahead of what begins with one, or of nothing -/
def Begins (P : UInt8 → Prop) (l : List UInt8) : Prop := ∀ c, l.head? = some c → P c
theorem span_inj {P : UInt8 → Prop} : ∀ {p q x y : List UInt8}, (∀ c ∈ p, ¬ P c) → (∀ c ∈ q, ¬ P c) → Begins P x → Begins P y → p ++ x = q ++ y → p = q ∧ x = y := by
  intro p
  induction p with
  | nil =>
    intro q x y _ hq hx _ h
    cases q with
    | nil => exact ⟨rfl, h⟩
    | cons c q =>
      simp only [List.nil_append, List.cons_append] at h
      exact absurd (hx c (by rw [h]; rfl)) (hq c (by simp))
  | cons a p ih =>
    intro q x y hp hq hx hy h
    cases q with
    | nil =>
      simp only [List.nil_append, List.cons_append] at h
      exact absurd (hy a (by rw [← h]; rfl)) (hp a (by simp))
    | cons c q =>
      simp only [List.cons_append, List.cons.injEq] at h
      obtain ⟨rfl, h⟩ := h
      obtain ⟨rfl, e⟩ := ih (fun c hc => hp c (by simp [hc])) (fun c hc => hq c (by simp [hc])) hx hy h
      exact ⟨rfl, e⟩
/-- the bytes of a character -/
def encL (n : Nat) : List UInt8 :=
  if n < 128 then [UInt8.ofNat n] else if n < 2048 then [UInt8.ofNat (192 + n / 64), UInt8.ofNat (128 + n % 64)]
    else if n < 65536 then [UInt8.ofNat (224 + n / 4096), UInt8.ofNat (128 + n / 64 % 64), UInt8.ofNat (128 + n % 64)]
    else [UInt8.ofNat (240 + n / 262144), UInt8.ofNat (128 + n / 4096 % 64), UInt8.ofNat (128 + n / 64 % 64), UInt8.ofNat (128 + n % 64)]
theorem ofNat_inj' {n m : Nat} (e : UInt8.ofNat n = UInt8.ofNat m) (h : n < 256) (k : m < 256) : n = m := (ofNat_eq h k).1 e
theorem encL_inj {n m : Nat} (hn : n ≤ 1114111) (hm : m ≤ 1114111) {x y : List UInt8} (h : encL n ++ x = encL m ++ y) : n = m ∧ x = y := by
  unfold encL at h
  by_cases a1 : n < 128 <;> by_cases b1 : m < 128
  · rw [if_pos a1, if_pos b1] at h
    simp only [List.cons_append, List.nil_append, List.cons.injEq] at h
    exact ⟨ofNat_inj' h.1 (by omega) (by omega), h.2⟩
  · exfalso
    rw [if_pos a1, if_neg b1] at h
    by_cases b2 : m < 2048
    · rw [if_pos b2] at h
      simp only [List.cons_append, List.nil_append, List.cons.injEq] at h
      have := ofNat_inj' h.1 (by omega) (by omega); omega
    · rw [if_neg b2] at h
      by_cases b3 : m < 65536
      · rw [if_pos b3] at h
        simp only [List.cons_append, List.nil_append, List.cons.injEq] at h
        have := ofNat_inj' h.1 (by omega) (by omega); omega
      · rw [if_neg b3] at h
        simp only [List.cons_append, List.nil_append, List.cons.injEq] at h
        have := ofNat_inj' h.1 (by omega) (by omega); omega
  · exfalso
    rw [if_neg a1, if_pos b1] at h
    by_cases b2 : n < 2048
    · rw [if_pos b2] at h
      simp only [List.cons_append, List.nil_append, List.cons.injEq] at h
      have := ofNat_inj' h.1 (by omega) (by omega); omega
    · rw [if_neg b2] at h
      by_cases b3 : n < 65536
      · rw [if_pos b3] at h
        simp only [List.cons_append, List.nil_append, List.cons.injEq] at h
        have := ofNat_inj' h.1 (by omega) (by omega); omega
      · rw [if_neg b3] at h
        simp only [List.cons_append, List.nil_append, List.cons.injEq] at h
        have := ofNat_inj' h.1 (by omega) (by omega); omega
  · rw [if_neg a1, if_neg b1] at h
    by_cases a2 : n < 2048 <;> by_cases b2 : m < 2048
    · rw [if_pos a2, if_pos b2] at h
      simp only [List.cons_append, List.nil_append, List.cons.injEq] at h
      have e1 := ofNat_inj' h.1 (by omega) (by omega)
      have e2 := ofNat_inj' h.2.1 (by omega) (by omega)
      exact ⟨by omega, h.2.2⟩
    · exfalso
      rw [if_pos a2, if_neg b2] at h
      by_cases b3 : m < 65536
      · rw [if_pos b3] at h
        simp only [List.cons_append, List.nil_append, List.cons.injEq] at h
        have := ofNat_inj' h.1 (by omega) (by omega); omega
      · rw [if_neg b3] at h
        simp only [List.cons_append, List.nil_append, List.cons.injEq] at h
        have := ofNat_inj' h.1 (by omega) (by omega); omega
    · exfalso
      rw [if_neg a2, if_pos b2] at h
      by_cases b3 : n < 65536
      · rw [if_pos b3] at h
        simp only [List.cons_append, List.nil_append, List.cons.injEq] at h
        have := ofNat_inj' h.1 (by omega) (by omega); omega
      · rw [if_neg b3] at h
        simp only [List.cons_append, List.nil_append, List.cons.injEq] at h
        have := ofNat_inj' h.1 (by omega) (by omega); omega
    · rw [if_neg a2, if_neg b2] at h
      by_cases a3 : n < 65536 <;> by_cases b3 : m < 65536
      · rw [if_pos a3, if_pos b3] at h
        simp only [List.cons_append, List.nil_append, List.cons.injEq] at h
        have e1 := ofNat_inj' h.1 (by omega) (by omega)
        have e2 := ofNat_inj' h.2.1 (by omega) (by omega)
        have e3 := ofNat_inj' h.2.2.1 (by omega) (by omega)
        exact ⟨by omega, h.2.2.2⟩
      · exfalso
        rw [if_pos a3, if_neg b3] at h
        simp only [List.cons_append, List.nil_append, List.cons.injEq] at h
        have := ofNat_inj' h.1 (by omega) (by omega); omega
      · exfalso
        rw [if_neg a3, if_pos b3] at h
        simp only [List.cons_append, List.nil_append, List.cons.injEq] at h
        have := ofNat_inj' h.1 (by omega) (by omega); omega
      · rw [if_neg a3, if_neg b3] at h
        simp only [List.cons_append, List.nil_append, List.cons.injEq] at h
        have e1 := ofNat_inj' h.1 (by omega) (by omega)
        have e2 := ofNat_inj' h.2.1 (by omega) (by omega)
        have e3 := ofNat_inj' h.2.2.1 (by omega) (by omega)
        have e4 := ofNat_inj' h.2.2.2.1 (by omega) (by omega)
        exact ⟨by omega, h.2.2.2.2⟩
theorem encL_mem {n : Nat} (hn : n ≤ 1114111) {c : UInt8} (h : c ∈ encL n) : c = UInt8.ofNat n ∧ n < 128 ∨ 128 ≤ c.toNat := by
  unfold encL at h
  by_cases h1 : n < 128
  · rw [if_pos h1] at h; simp only [List.mem_singleton] at h; exact .inl ⟨h, h1⟩
  · rw [if_neg h1] at h
    refine .inr ?_
    by_cases h2 : n < 2048
    · rw [if_pos h2] at h
      simp only [List.mem_cons, List.not_mem_nil, or_false] at h
      rcases h with rfl | rfl <;> rw [ofNat_nat (by omega)] <;> omega
    · rw [if_neg h2] at h
      by_cases h3 : n < 65536
      · rw [if_pos h3] at h
        simp only [List.mem_cons, List.not_mem_nil, or_false] at h
        rcases h with rfl | rfl | rfl <;> rw [ofNat_nat (by omega)] <;> omega
      · rw [if_neg h3] at h
        simp only [List.mem_cons, List.not_mem_nil, or_false] at h
        rcases h with rfl | rfl | rfl | rfl <;> rw [ofNat_nat (by omega)] <;> omega
/-- what is written of a character -/
def escN (v : Bool) (n : Nat) : List UInt8 :=
  if n = 38 then [38, 97, 109, 112, 59] else if n = 60 then [38, 108, 116, 59] else if n = 62 then [38, 103, 116, 59]
  else if n = 160 then [38, 110, 98, 115, 112, 59] else if n = 34 ∧ v = true then [38, 113, 117, 111, 116, 59] else encL n
theorem escR_nat (v : Bool) {n : Nat} (h : n < 55296 ∨ 57344 ≤ n ∧ n ≤ 1114111) : escR v (n : Int) = escN v n := by
  unfold escR escN
  rw [encode_nat h]
  have e1 : ((n : Int) = 38) ↔ n = 38 := by omega
  have e2 : ((n : Int) = 60) ↔ n = 60 := by omega
  have e3 : ((n : Int) = 62) ↔ n = 62 := by omega
  have e4 : ((n : Int) = 160) ↔ n = 160 := by omega
  have e5 : ((n : Int) = 34) ↔ n = 34 := by omega
  simp only [e1, e2, e3, e4, e5]
  rfl
/-- either one of the five, or its own bytes -/
theorem escN_cases (v : Bool) (n : Nat) : (n = 38 ∧ escN v n = [38, 97, 109, 112, 59]) ∨ (n = 60 ∧ escN v n = [38, 108, 116, 59]) ∨ (n = 62 ∧ escN v n = [38, 103, 116, 59]) ∨ (n = 160 ∧ escN v n = [38, 110, 98, 115, 112, 59])
    ∨ (n = 34 ∧ v = true ∧ escN v n = [38, 113, 117, 111, 116, 59]) ∨ (n ≠ 38 ∧ n ≠ 60 ∧ n ≠ 62 ∧ n ≠ 160 ∧ ¬ (n = 34 ∧ v = true) ∧ escN v n = encL n) := by
  unfold escN
  by_cases a1 : n = 38
  · exact .inl ⟨a1, by rw [if_pos a1]⟩
  by_cases a2 : n = 60
  · exact .inr (.inl ⟨a2, by rw [if_neg a1, if_pos a2]⟩)
  by_cases a3 : n = 62
  · exact .inr (.inr (.inl ⟨a3, by rw [if_neg a1, if_neg a2, if_pos a3]⟩))
  by_cases a4 : n = 160
  · exact .inr (.inr (.inr (.inl ⟨a4, by rw [if_neg a1, if_neg a2, if_neg a3, if_pos a4]⟩)))
  by_cases a5 : n = 34 ∧ v = true
  · exact .inr (.inr (.inr (.inr (.inl ⟨a5.1, a5.2, by rw [if_neg a1, if_neg a2, if_neg a3, if_neg a4, if_pos a5]⟩))))
  · exact .inr (.inr (.inr (.inr (.inr ⟨a1, a2, a3, a4, a5, by rw [if_neg a1, if_neg a2, if_neg a3, if_neg a4, if_neg a5]⟩))))
theorem encL_head {n : Nat} (hn : n ≤ 1114111) (h : n ≠ 38) : ∃ c l, encL n = c :: l ∧ c ≠ 38 := by
  have hne : encL n ≠ [] := by
    unfold encL
    split
    · simp
    · split
      · simp
      · split <;> simp
  match he : encL n, hne with
  | c :: l, _ =>
    refine ⟨c, l, rfl, fun e => ?_⟩
    rcases encL_mem hn (c := c) (by rw [he]; simp) with ⟨h1, h2⟩ | h1
    · exact h (ofNat_inj' (h1.symm.trans e) (by omega) (by omega))
    · rw [e] at h1; exact absurd h1 (by decide)
theorem escN_inj (v : Bool) {n m : Nat} (hn : n ≤ 1114111) (hm : m ≤ 1114111) {x y : List UInt8} (h : escN v n ++ x = escN v m ++ y) : n = m ∧ x = y := by
  rcases escN_cases v n with ⟨a, e⟩ | ⟨a, e⟩ | ⟨a, e⟩ | ⟨a, e⟩ | ⟨a, _, e⟩ | ⟨a, _, _, _, _, e⟩ <;>
  rcases escN_cases v m with ⟨b, f⟩ | ⟨b, f⟩ | ⟨b, f⟩ | ⟨b, f⟩ | ⟨b, _, f⟩ | ⟨b, _, _, _, _, f⟩ <;> rw [e, f] at h
  all_goals first
    | exact encL_inj hn hm h
    | (exact ⟨a.trans b.symm, by simpa using h⟩)
    | (exfalso; simp at h; done)
    | (exfalso; obtain ⟨c, l, ec, hc⟩ := encL_head hn a; rw [ec] at h; simp only [List.cons_append, List.cons.injEq] at h; exact hc h.1)
    | (exfalso; obtain ⟨c, l, ec, hc⟩ := encL_head hm b; rw [ec] at h; simp only [List.cons_append, List.cons.injEq] at h; exact hc h.1.symm)
theorem escRs_inj (v : Bool) : ∀ {l m : List Int}, (∀ r ∈ l, Utf8.valid r = true) → (∀ r ∈ m, Utf8.valid r = true) → escRs v l = escRs v m → l = m := by
  have ne : ∀ r : Int, escR v r ≠ [] := fun r e => by have := escR_len v r; rw [e] at this; simp at this
  intro l
  induction l with
  | nil =>
    intro m _ _ h
    cases m with
    | nil => rfl
    | cons r m => simp only [escRs, List.flatMap_nil, List.flatMap_cons] at h; exact absurd (List.append_eq_nil_iff.1 h.symm).1 (ne r)
  | cons r l ih =>
    intro m hl hm h
    cases m with
    | nil => simp only [escRs, List.flatMap_nil, List.flatMap_cons] at h; exact absurd (List.append_eq_nil_iff.1 h).1 (ne r)
    | cons s m =>
      obtain ⟨n, rfl, hn⟩ := valid_cases (hl r (by simp))
      obtain ⟨k, rfl, hk⟩ := valid_cases (hm s (by simp))
      simp only [escRs, List.flatMap_cons] at h
      rw [escR_nat v hn, escR_nat v hk] at h
      obtain ⟨e, h2⟩ := escN_inj v (by omega) (by omega) h
      subst e
      have e2 : l = m := ih (fun r hr => hl r (List.mem_cons_of_mem _ hr)) (fun r hr => hm r (List.mem_cons_of_mem _ hr)) h2
      rw [e2]
theorem esc_inj (v : Bool) {s t : ByteArray} (hs : anewB s = s) (ht : anewB t = t) (h : esc v s = esc v t) : s = t := by
  have := escRs_inj v (runeList_valid s s.size 0) (runeList_valid t t.size 0) h
  rw [← hs, ← ht]
  unfold anewB
  rw [this]
theorem esc_no (v : Bool) (s : ByteArray) : ∀ c ∈ esc v s, c ≠ 60 ∧ c ≠ 62 ∧ (v = true → c ≠ 34) := by
  intro c hc
  unfold esc escRs at hc
  obtain ⟨r, hr, hc⟩ := List.mem_flatMap.1 hc
  obtain ⟨n, rfl, hn⟩ := valid_cases (runeList_valid s _ _ r hr)
  rw [escR_nat v hn] at hc
  rcases escN_cases v n with ⟨a, e⟩ | ⟨a, e⟩ | ⟨a, e⟩ | ⟨a, e⟩ | ⟨a, _, e⟩ | ⟨a1, a2, a3, a4, a5, e⟩ <;> rw [e] at hc
  case inr.inr.inr.inr.inr =>
    rcases encL_mem (by omega) hc with ⟨rfl, h⟩ | h
    · refine ⟨fun e => a2 (ofNat_inj' (m := 60) e (by omega) (by omega)), fun e => a3 (ofNat_inj' (m := 62) e (by omega) (by omega)), fun hv e => a5 ⟨ofNat_inj' (m := 34) e (by omega) (by omega), hv⟩⟩
    · refine ⟨fun e => ?_, fun e => ?_, fun _ e => ?_⟩ <;> rw [e] at h <;> exact absurd h (by decide)
  all_goals
    simp only [List.mem_cons, List.not_mem_nil, or_false] at hc
    rcases hc with rfl | rfl | rfl | rfl | rfl | rfl <;> exact ⟨by decide, by decide, fun _ => by decide⟩
theorem esc_nil {v : Bool} {s : ByteArray} (h : s.size ≠ 0) : esc v s ≠ [] := by
  unfold esc
  obtain ⟨f, hf⟩ : ∃ f, s.size = f + 1 := ⟨s.size - 1, by omega⟩
  rw [hf, runeList, if_pos (by omega)]
  intro e
  have := escR_len v (Int.ofNat (Utf8.decode s 0).1)
  simp only [escRs, List.flatMap_cons] at e
  rw [(List.append_eq_nil_iff.1 e).1] at this
  simp at this
theorem nameOk_no {s : ByteArray} (h : nameOk s = true) : ∀ c ∈ s.data.toList, c ≠ 61 ∧ c ≠ 32 := by
  intro c hc
  unfold nameOk at h
  simp only [Bool.and_eq_true] at h
  have := List.all_eq_true.1 h.2 c hc
  simp only [decide_eq_true_eq] at this
  refine ⟨fun e => ?_, fun e => ?_⟩ <;> rw [e] at this <;> exact absurd this (by decide)
def attrOk (a : ByteArray × ByteArray) : Prop := nameOk a.1 = true ∧ anewB a.2 = a.2
theorem attrsMay_ok {l : List (ByteArray × ByteArray)} (h : attrsMay l = true) : ∀ a ∈ l, attrOk a := by
  intro a ha
  obtain ⟨i, hi⟩ := List.mem_iff_getElem?.1 ha
  unfold attrsMay at h
  have := List.all_eq_true.1 h (a, i) (by rw [List.mk_mem_zipIdx_iff_getElem?]; simpa using hi)
  simp only [Bool.and_eq_true, valueOk, decide_eq_true_eq] at this
  exact ⟨this.1.1, this.1.2.1.2⟩
theorem attrM_inj {a b : ByteArray × ByteArray} (ha : attrOk a) (hb : attrOk b) {x y : List UInt8} (h : attrM a ++ x = attrM b ++ y) : a = b ∧ x = y := by
  unfold attrM at h
  simp only [List.cons_append, List.append_assoc, List.cons.injEq, true_and, List.nil_append] at h
  replace h := span_inj (P := fun c => c = 61) (fun c hc => (nameOk_no ha.1 c hc).1) (fun c hc => (nameOk_no hb.1 c hc).1) (fun c hc => by simp at hc; exact hc.symm) (fun c hc => by simp at hc; exact hc.symm) h
  obtain ⟨e1, h⟩ := h
  simp only [List.cons.injEq, true_and] at h
  replace h := span_inj (P := fun c => c = 34) (fun c hc => (esc_no true _ c hc).2.2 rfl) (fun c hc => (esc_no true _ c hc).2.2 rfl) (fun c hc => by simp at hc; exact hc.symm) (fun c hc => by simp at hc; exact hc.symm) h
  obtain ⟨e2, h⟩ := h
  simp only [List.cons.injEq, true_and] at h
  exact ⟨Prod.ext (bytes_ext e1) (esc_inj true ha.2 hb.2 e2), h⟩
theorem attrsM_inj : ∀ {l m : List (ByteArray × ByteArray)}, (∀ a ∈ l, attrOk a) → (∀ a ∈ m, attrOk a) → ∀ {x y : List UInt8}, l.flatMap attrM ++ 62 :: x = m.flatMap attrM ++ 62 :: y → l = m ∧ x = y := by
  intro l
  induction l with
  | nil =>
    intro m _ _ x y h
    cases m with
    | nil => simp at h; exact ⟨rfl, h⟩
    | cons b m => exfalso; simp only [List.flatMap_nil, List.flatMap_cons, List.nil_append, attrM, List.cons_append] at h; simp at h
  | cons a l ih =>
    intro m hl hm x y h
    cases m with
    | nil => exfalso; simp only [List.flatMap_nil, List.flatMap_cons, List.nil_append, attrM, List.cons_append] at h; simp at h
    | cons b m =>
      rw [List.flatMap_cons, List.flatMap_cons, List.append_assoc, List.append_assoc] at h
      obtain ⟨e, h2⟩ := attrM_inj (hl a (by simp)) (hm b (by simp)) h
      obtain ⟨e3, h4⟩ := ih (fun a ha => hl a (List.mem_cons_of_mem _ ha)) (fun a ha => hm a (List.mem_cons_of_mem _ ha)) h2
      exact ⟨by rw [e, e3], h4⟩
theorem attrsM_begin (l : List (ByteArray × ByteArray)) (x : List UInt8) : Begins (fun c => c = 32 ∨ c = 62) (l.flatMap attrM ++ 62 :: x) := by
  intro c hc
  cases l with
  | nil => simp at hc; exact .inr hc.symm
  | cons a l => simp [List.flatMap_cons, attrM] at hc; exact .inl hc.symm
theorem name_cases {t : Int} (h : clsT t ≠ 0) (h0 : t ≠ 0) : t = 1 ∨ t = 2 ∨ t = 3 ∨ t = 4 ∨ t = 5 ∨ t = 6 ∨ t = 7 ∨ t = 8 ∨ t = 9 ∨ t = 10 ∨ t = 11 ∨ t = 12 ∨ t = 13 ∨ t = 14 ∨ t = 15 ∨ t = 16 := by
  unfold clsT at h
  by_cases a : t < 0 ∨ 16 < t
  · rw [if_pos a] at h; exact absurd rfl h
  · omega
theorem nameT_no {t : Int} (h : clsT t ≠ 0) (h0 : t ≠ 0) : (∀ c ∈ (nameT t).data.toList, c ≠ 32 ∧ c ≠ 62 ∧ c ≠ 47) ∧ (nameT t).data.toList ≠ [] := by
  rcases name_cases h h0 with rfl | rfl | rfl | rfl | rfl | rfl | rfl | rfl | rfl | rfl | rfl | rfl | rfl | rfl | rfl | rfl <;> decide
def tagOf (l : List UInt8) : Int :=
  if l = [100, 105, 118] then 1 else if l = [112] then 2 else if l = [104, 49] then 3 else if l = [104, 50] then 4 else if l = [104, 51] then 5
  else if l = [98, 108, 111, 99, 107, 113, 117, 111, 116, 101] then 6 else if l = [117, 108] then 7 else if l = [111, 108] then 8 else if l = [108, 105] then 9
  else if l = [97] then 10 else if l = [98] then 11 else if l = [105] then 12 else if l = [117] then 13 else if l = [115] then 14 else if l = [115, 112, 97, 110] then 15 else if l = [98, 114] then 16 else 0
theorem tagOf_name {t : Int} (h : clsT t ≠ 0) (h0 : t ≠ 0) : tagOf (nameT t).data.toList = t := by
  rcases name_cases h h0 with rfl | rfl | rfl | rfl | rfl | rfl | rfl | rfl | rfl | rfl | rfl | rfl | rfl | rfl | rfl | rfl <;> decide
theorem nameT_inj {t u : Int} (h : clsT t ≠ 0) (h0 : t ≠ 0) (k : clsT u ≠ 0) (k0 : u ≠ 0) (e : (nameT t).data.toList = (nameT u).data.toList) : t = u := by
  rw [← tagOf_name h h0, ← tagOf_name k k0, e]
/-- what the proof asks of a node: a text, or an element -/
theorem clsT_one {t : Int} : clsT t = 1 ↔ t = 0 := by
  constructor
  · intro h
    unfold clsT at h
    repeat' split at h
    all_goals omega
  · rintro rfl; rfl
def IsText (n : PN) : Prop := ∃ s, n = .mk 0 [] s [] ∧ s.size ≠ 0 ∧ anewB s = s
def IsElem (n : PN) : Prop := ∃ t a ks, n = .mk t a ⟨#[]⟩ ks ∧ clsT t ≠ 0 ∧ t ≠ 0 ∧ (∀ p ∈ a, attrOk p) ∧ (clsT t = 5 → ks = []) ∧ (clsT t ≠ 5 → ∃ d b l i, PN.norms d b l i false ks = true)
theorem empty_of {s : ByteArray} (h : s.size = 0) : s = ⟨#[]⟩ := by
  apply bytes_ext
  have : s.data.toList.length = 0 := h
  rw [List.eq_nil_of_length_eq_zero this]
theorem norm_is {d : Int} {b l i : Bool} {n : PN} (h : PN.norm d b l i n = true) : n.tag = 0 ∧ IsText n ∨ n.tag ≠ 0 ∧ IsElem n := by
  cases n with
  | mk t a s ks =>
    unfold PN.norm at h
    simp only [Bool.and_eq_true, decide_eq_true_eq] at h
    obtain ⟨_, h⟩ := h
    by_cases c0 : clsT t = 0
    · rw [if_pos c0] at h; cases h
    rw [if_neg c0] at h
    by_cases c1 : clsT t = 1
    · rw [if_pos c1] at h
      obtain rfl := clsT_one.1 c1
      refine .inl ⟨rfl, ?_⟩
      unfold textOk at h
      simp only [Bool.and_eq_true, decide_eq_true_eq, PN.attrs, PN.kids, PN.text, List.isEmpty_iff] at h
      obtain ⟨⟨⟨⟨rfl, rfl⟩, h3⟩, h4⟩, _⟩ := h
      exact ⟨s, rfl, by simpa using h3, of_decide_eq_true h4⟩
    rw [if_neg c1] at h
    have ht : t ≠ 0 := fun e => c1 (clsT_one.2 e)
    refine .inr ⟨ht, ?_⟩
    by_cases c5 : clsT t = 5
    · rw [if_pos c5] at h
      simp only [Bool.and_eq_true, beq_iff_eq, List.isEmpty_iff] at h
      obtain ⟨⟨h1, h2⟩, rfl⟩ := h
      rw [empty_of h1]
      exact ⟨t, a, [], rfl, c0, ht, attrsMay_ok h2, fun _ => rfl, fun e => absurd c5 e⟩
    rw [if_neg c5] at h
    by_cases c4 : clsT t = 4
    · rw [if_pos c4] at h
      simp only [Bool.and_eq_true, beq_iff_eq] at h
      obtain ⟨⟨h1, h2⟩, h3⟩ := h
      rw [empty_of h1]
      exact ⟨t, a, ks, rfl, c0, ht, attrsMay_ok h2, fun e => absurd e c5, fun _ => ⟨_, _, _, _, h3⟩⟩
    rw [if_neg c4] at h
    simp only [Bool.and_eq_true, beq_iff_eq] at h
    obtain ⟨_, ⟨h1, h2⟩, h3⟩ := h
    rw [empty_of h1]
    exact ⟨t, a, ks, rfl, c0, ht, attrsMay_ok h2, fun e => absurd e c5, fun _ => ⟨_, _, _, _, h3⟩⟩
theorem outer_text (s : ByteArray) : (PN.mk 0 [] s []).outer = esc false s := by rw [PN.outer_eq]; exact if_pos rfl
/-- behind kids: nothing, or a tag's end -/
def Ends (r : List UInt8) : Prop := r = [] ∨ ∃ t, r = 60 :: 47 :: t
theorem outer_elem {t : Int} {a : List (ByteArray × ByteArray)} {ks : List PN} (h : clsT t ≠ 0) (h0 : t ≠ 0) (rest : List UInt8) :
    (PN.mk t a ⟨#[]⟩ ks).outer ++ rest = 60 :: ((nameT t).data.toList ++ (a.flatMap attrM ++ 62 :: (if clsT t = 5 then rest else PN.outers ks ++ ([60, 47] ++ (nameT t).data.toList ++ 62 :: rest)))) := by
  rw [PN.outer_eq]
  show (if t = 0 then esc false ⟨#[]⟩ else if clsT t = 0 then PN.outers ks else 60 :: (nameT t).data.toList ++ a.flatMap attrM ++ [62] ++ if clsT t = 5 then [] else PN.outers ks ++ ([60, 47] ++ (nameT t).data.toList ++ [62])) ++ rest = _
  rw [if_neg h0, if_neg h]
  by_cases c : clsT t = 5
  · rw [if_pos c, if_pos c]; simp
  · rw [if_neg c, if_neg c]; simp
theorem text_first {s : ByteArray} (h : s.size ≠ 0) (x : List UInt8) : ∃ c l, esc false s ++ x = c :: l ∧ c ≠ 60 := by
  have := esc_nil (v := false) h
  match he : esc false s, this with
  | c :: l, _ => exact ⟨c, l ++ x, rfl, (esc_no false s c (by rw [he]; simp)).1⟩
theorem outers_inj : ∀ (z : Nat) (l l' : List PN) (d d' : Int) (b b' li li' i i' p p' : Bool) (rest rest' : List UInt8), PN.sizes l ≤ z → PN.norms d b li i p l = true → PN.norms d' b' li' i' p' l' = true → Ends rest → Ends rest' →
    PN.outers l ++ rest = PN.outers l' ++ rest' → l = l' ∧ rest = rest' := by
  intro z
  have first : ∀ (x : PN) (r : List UInt8), IsElem x → ∃ c q, x.outer ++ r = 60 :: c :: q ∧ c ≠ 47 := by
    rintro x r ⟨t, a, ks, rfl, h1, h2, _⟩
    rw [outer_elem h1 h2]
    obtain ⟨hn, hne⟩ := nameT_no h1 h2
    match he : (nameT t).data.toList, hne with
    | c :: q, _ => exact ⟨c, _, rfl, (hn c (by rw [he]; simp)).2.2⟩
  have ends60 : ∀ {r : List UInt8}, Ends r → Begins (fun c => c = 60) r := by
    rintro r (rfl | ⟨t, rfl⟩) c hc
    · cases hc
    · simp at hc; exact hc.symm
  have noEnd : ∀ {x : PN} {r q : List UInt8} {d : Int} {b l i : Bool}, PN.norm d b l i x = true → Ends r → r = x.outer ++ q → False := by
    intro x r q d b l i hx hr e
    rcases norm_is hx with ⟨_, s, rfl, hs, _⟩ | ⟨_, he⟩
    · rw [outer_text] at e
      obtain ⟨c, l, hc, h60⟩ := text_first hs q
      rw [hc] at e
      rcases hr with rfl | ⟨t, rfl⟩
      · cases e
      · simp only [List.cons.injEq] at e; exact h60 e.1.symm
    · obtain ⟨c, l, hc, h47⟩ := first x q he
      rw [hc] at e
      rcases hr with rfl | ⟨t, rfl⟩
      · cases e
      · simp only [List.cons.injEq, true_and] at e; exact h47 e.1.symm
  induction z with
  | zero =>
    intro l l' d d' b b' li li' i i' p p' rest rest' hz hl hl' hr hr' h
    cases l with
    | cons x l => have := x.size_eq; simp only [PN.sizes] at hz; omega
    | nil =>
      cases l' with
      | nil => exact ⟨rfl, h⟩
      | cons x l' =>
        simp only [PN.norms, Bool.and_eq_true] at hl'
        simp only [PN.outers, List.nil_append, List.append_assoc] at h
        exact (noEnd hl'.1.2 hr h).elim
  | succ z ih =>
    intro l l' d d' b b' li li' i i' p p' rest rest' hz hl hl' hr hr' h
    cases l with
    | nil =>
      cases l' with
      | nil => exact ⟨rfl, h⟩
      | cons x l' =>
        simp only [PN.norms, Bool.and_eq_true] at hl'
        simp only [PN.outers, List.nil_append, List.append_assoc] at h
        exact (noEnd hl'.1.2 hr h).elim
    | cons x l =>
      cases l' with
      | nil =>
        simp only [PN.norms, Bool.and_eq_true] at hl
        simp only [PN.outers, List.nil_append, List.append_assoc] at h
        exact (noEnd hl.1.2 hr' h.symm).elim
      | cons x' l' =>
        simp only [PN.norms, Bool.and_eq_true] at hl hl'
        obtain ⟨⟨_, hx⟩, hl⟩ := hl
        obtain ⟨⟨_, hx'⟩, hl'⟩ := hl'
        simp only [PN.outers, List.append_assoc] at h
        simp only [PN.sizes] at hz
        have hsx := x.size_eq
        have behind : ∀ {l : List PN} {rest : List UInt8} {d : Int} {b li i : Bool}, PN.norms d b li i true l = true → Ends rest → Begins (fun c => c = 60) (PN.outers l ++ rest) := by
          intro l rest d b li i hl hr
          cases l with
          | nil => exact ends60 hr
          | cons y l =>
            simp only [PN.norms, Bool.and_eq_true, Bool.not_eq_true', Bool.true_and, beq_eq_false_iff_ne] at hl
            rcases norm_is hl.1.2 with ⟨e, _⟩ | ⟨_, he⟩
            · exact absurd e hl.1.1
            · obtain ⟨c, q, hc, _⟩ := first y (PN.outers l ++ rest) he
              intro c' hc'
              simp only [PN.outers, List.append_assoc] at hc'
              rw [hc] at hc'
              simp at hc'
              exact hc'.symm
        rcases norm_is hx with ⟨t0, s, rfl, hs, hsv⟩ | ⟨tn, he⟩
        · rcases norm_is hx' with ⟨t0', s', rfl, hs', hsv'⟩ | ⟨tn', he'⟩
          · rw [outer_text, outer_text] at h
            replace h := span_inj (P := fun c => c = 60) (fun c hc => (esc_no false _ c hc).1) (fun c hc => (esc_no false _ c hc).1) (behind hl hr) (behind hl' hr') h
            obtain ⟨e, h⟩ := h
            obtain rfl := esc_inj false hsv hsv' e
            replace h := ih l l' _ _ _ _ _ _ _ _ _ _ rest rest' (by omega) hl hl' hr hr' h
            obtain ⟨e9, h⟩ := h
            subst e9
            exact ⟨rfl, h⟩
          · exfalso
            rw [outer_text] at h
            obtain ⟨c, q, hc, h60⟩ := text_first hs (PN.outers l ++ rest)
            obtain ⟨c', q', hc', _⟩ := first x' (PN.outers l' ++ rest') he'
            rw [hc, hc'] at h
            simp only [List.cons.injEq] at h
            exact h60 h.1
        · rcases norm_is hx' with ⟨t0', s', rfl, hs', hsv'⟩ | ⟨tn', he'⟩
          · exfalso
            rw [outer_text] at h
            obtain ⟨c, q, hc, h60⟩ := text_first hs' (PN.outers l' ++ rest')
            obtain ⟨c', q', hc', _⟩ := first x (PN.outers l ++ rest) he
            rw [hc, hc'] at h
            simp only [List.cons.injEq] at h
            exact h60 h.1.symm
          · obtain ⟨t, a, ks, rfl, c0, ht, ha, k5, kn⟩ := he
            obtain ⟨t', a', ks', rfl, c0', ht', ha', k5', kn'⟩ := he'
            rw [outer_elem c0 ht, outer_elem c0' ht'] at h
            simp only [List.cons.injEq, true_and] at h
            replace h := span_inj (P := fun c => c = 32 ∨ c = 62) (fun c hc e => by have := (nameT_no c0 ht).1 c hc; exact e.elim this.1 this.2.1) (fun c hc e => by have := (nameT_no c0' ht').1 c hc; exact e.elim this.1 this.2.1) (attrsM_begin _ _) (attrsM_begin _ _) h
            obtain ⟨e, h⟩ := h
            obtain rfl := nameT_inj c0 ht c0' ht' e
            replace h := attrsM_inj ha ha' h
            obtain ⟨e9, h⟩ := h
            subst e9
            by_cases c5 : clsT t = 5
            · rw [if_pos c5, if_pos c5] at h
              obtain rfl := k5 c5
              obtain rfl := k5' c5
              replace h := ih l l' _ _ _ _ _ _ _ _ _ _ rest rest' (by omega) hl hl' hr hr' h
              obtain ⟨e9, h⟩ := h
              subst e9
              exact ⟨rfl, h⟩
            · rw [if_neg c5, if_neg c5] at h
              obtain ⟨_, _, _, _, hk⟩ := kn c5
              obtain ⟨_, _, _, _, hk'⟩ := kn' c5
              simp only [PN.kids] at hsx
              replace h := ih ks ks' _ _ _ _ _ _ _ _ _ _ _ _ (by omega) hk hk' (.inr ⟨_, rfl⟩) (.inr ⟨_, rfl⟩) h
              obtain ⟨e9, h⟩ := h
              subst e9
              have h2 : PN.outers l ++ rest = PN.outers l' ++ rest' := by simpa using h
              obtain ⟨e8, h8⟩ := ih l l' _ _ _ _ _ _ _ _ _ _ rest rest' (by omega) hl hl' hr hr' h2
              subst e8
              exact ⟨rfl, h8⟩
/-- unlike normal nodes have unlike markup -/
theorem whole_inj {n m : PN} (hn : n.whole = true) (hm : m.whole = true) (h : n.inner = m.inner) : n = m := by
  cases n with
  | mk t a s ks =>
    cases m with
    | mk t' a' s' ks' =>
      unfold PN.whole at hn hm
      simp only [Bool.and_eq_true, decide_eq_true_eq, PN.tag, PN.attrs, PN.text, PN.kids, List.isEmpty_iff, beq_iff_eq] at hn hm
      obtain ⟨⟨⟨⟨⟨e1, rfl⟩, hs⟩, hk⟩, _⟩, _⟩ := hn
      obtain ⟨⟨⟨⟨⟨e2, rfl⟩, hs'⟩, hk'⟩, _⟩, _⟩ := hm
      obtain rfl : t = 1 := of_decide_eq_true e1
      obtain rfl : t' = 1 := of_decide_eq_true e2
      rw [empty_of hs, empty_of hs']
      have e : PN.outers ks = PN.outers ks' := h
      obtain ⟨rfl, _⟩ := outers_inj _ ks ks' _ _ _ _ _ _ _ _ _ _ [] [] (Nat.le_refl _) hk hk' (.inl rfl) (.inl rfl) (by rw [e])
      rfl
end Go.Proofs.YtdafdoodegpdhaaDoor
