/- Bytes that are written with &lt; and &amp; stand for themselves. No program in sight. -/
import Derived.Test.YtdafdoodegpdhaaDoorLX
import Derived.Test.YtdafdoodegpdhaaDoorPI
import Derived.Lib.MapLaws
namespace Go.Proofs.YtdafdoodegpdhaaDoor
open Go
set_option linter.unusedVariables false
set_option linter.unusedSimpArgs false

theorem writC_high {c : UInt8} (h : 128 ≤ c.toNat) : writC c = [c] := by
  unfold writC
  rw [if_neg (by rintro rfl; exact absurd h (by decide)), if_neg (by rintro rfl; exact absurd h (by decide))]
theorem writ_high : ∀ {l : List UInt8}, (∀ c ∈ l, 128 ≤ c.toNat) → l.flatMap writC = l := by
  intro l
  induction l with
  | nil => intro _; rfl
  | cons c q ih =>
    intro h
    rw [List.flatMap_cons, writC_high (h c (by simp)), ih fun x hx => h x (by simp [hx])]
    rfl
theorem decodeL_more {l : List UInt8} (hb : ¬ ((Lib.decodeL l).1 = 65533 ∧ (Lib.decodeL l).2 = 1)) (h0 : 128 ≤ (l.getD 0 0).toNat) (X : List UInt8) :
    Lib.decodeL (l.take (Lib.decodeL l).2 ++ X) = Lib.decodeL l ∧ ∀ c ∈ l.take (Lib.decodeL l).2, 128 ≤ c.toNat := by
  have hN := Lib.decodeL_N l
  have hlen : ∀ k j, k ≤ l.length → j < k → (l.take k ++ X).getD j 0 = l.getD j 0 := by
    intro k j hk hj
    rw [List.getD_eq_getElem?_getD, List.getD_eq_getElem?_getD, List.getElem?_append_left (by rw [List.length_take]; omega), List.getElem?_take, if_pos hj]
  have hmem : ∀ k, k ≤ l.length → (∀ j, j < k → 128 ≤ (l.getD j 0).toNat) → ∀ c ∈ l.take k, 128 ≤ c.toNat := by
    intro k hk h c hc
    obtain ⟨j, hj, e⟩ := List.getElem_of_mem hc
    rw [List.length_take] at hj
    have := h j (by omega)
    rw [List.getD_eq_getElem?_getD, List.getElem?_eq_getElem (by omega)] at this
    rw [← e, List.getElem_take]
    simpa using this
  have k0 := (l.getD 0 0).toNat_lt
  rcases Lib.decodeN_shape l.length (l.getD 0 0).toNat (l.getD 1 0).toNat (l.getD 2 0).toNat (l.getD 3 0).toNat with ⟨c, e⟩ | ⟨c1, c2, c3, cv, e⟩ | ⟨c1, c2, c3, c4, cv, cs, e⟩ | ⟨c1, c2, c3, c4, c5, cv, cw, e⟩ | e
  · omega
  · rw [e] at hN
    rw [hN]
    dsimp only
    refine ⟨?_, hmem 2 (by omega) fun j hj => ?_⟩
    · rw [Lib.decodeL_N, hlen 2 0 (by omega) (by omega), hlen 2 1 (by omega) (by omega)]
      unfold Lib.decodeN
      rw [if_neg (by omega), if_pos ⟨by omega, by rw [List.length_append, List.length_take]; omega, by omega⟩, if_pos (by omega)]
    · rcases (show j = 0 ∨ j = 1 by omega) with rfl | rfl <;> omega
  · rw [e] at hN
    rw [hN]
    dsimp only
    refine ⟨?_, hmem 3 (by omega) fun j hj => ?_⟩
    · rw [Lib.decodeL_N, hlen 3 0 (by omega) (by omega), hlen 3 1 (by omega) (by omega), hlen 3 2 (by omega) (by omega)]
      unfold Lib.decodeN
      rw [if_neg (by omega), if_neg (by omega), if_pos ⟨by omega, ⟨by rw [List.length_append, List.length_take]; omega, by omega⟩, by rw [List.length_append, List.length_take]; omega, by omega⟩, if_pos (by omega)]
    · rcases (show j = 0 ∨ j = 1 ∨ j = 2 by omega) with rfl | rfl | rfl <;> omega
  · rw [e] at hN
    rw [hN]
    dsimp only
    refine ⟨?_, hmem 4 (by omega) fun j hj => ?_⟩
    · rw [Lib.decodeL_N, hlen 4 0 (by omega) (by omega), hlen 4 1 (by omega) (by omega), hlen 4 2 (by omega) (by omega), hlen 4 3 (by omega) (by omega)]
      unfold Lib.decodeN
      rw [if_neg (by omega), if_neg (by omega), if_neg (by omega), if_pos ⟨by omega, ⟨by rw [List.length_append, List.length_take]; omega, by omega⟩, ⟨by rw [List.length_append, List.length_take]; omega, by omega⟩, by rw [List.length_append, List.length_take]; omega, by omega⟩, if_pos (by omega)]
    · rcases (show j = 0 ∨ j = 1 ∨ j = 2 ∨ j = 3 by omega) with rfl | rfl | rfl | rfl <;> omega
  · exact absurd (by rw [hN, e]; exact ⟨rfl, rfl⟩) hb
theorem decodeL_encode {n : Nat} (h : n < 55296 ∨ 57344 ≤ n ∧ n ≤ 1114111) (X : List UInt8) : Lib.decodeL ((Utf8.encode (n : Int)).data.toList ++ X) = (n, (Utf8.encode (n : Int)).data.toList.length) := by
  rw [encode_nat h]
  by_cases h1 : n < 128
  · rw [if_pos h1]
    have e : (UInt8.ofNat n).toNat = n := ofNat_nat (by omega)
    exact (Lib.decodeL_ascii (UInt8.ofNat n) X (by omega)).trans (by rw [e]; rfl)
  · rw [if_neg h1]
    by_cases h2 : n < 2048
    · rw [if_pos h2, Lib.decodeL_N]
      have e0 : (UInt8.ofNat (192 + n / 64)).toNat = 192 + n / 64 := ofNat_nat (by omega)
      have e1 : (UInt8.ofNat (128 + n % 64)).toNat = 128 + n % 64 := ofNat_nat (by omega)
      simp only [List.cons_append, List.nil_append, List.getD_cons_zero, List.getD_cons_succ, List.length_cons, List.length_nil, e0, e1]
      unfold Lib.decodeN
      rw [if_neg (by omega), if_pos ⟨by omega, by omega, by omega⟩, if_pos (by omega)]
      exact Prod.ext (by dsimp only; omega) rfl
    · rw [if_neg h2]
      by_cases h3 : n < 65536
      · rw [if_pos h3, Lib.decodeL_N]
        have e0 : (UInt8.ofNat (224 + n / 4096)).toNat = 224 + n / 4096 := ofNat_nat (by omega)
        have e1 : (UInt8.ofNat (128 + n / 64 % 64)).toNat = 128 + n / 64 % 64 := ofNat_nat (by omega)
        have e2 : (UInt8.ofNat (128 + n % 64)).toNat = 128 + n % 64 := ofNat_nat (by omega)
        simp only [List.cons_append, List.nil_append, List.getD_cons_zero, List.getD_cons_succ, List.length_cons, List.length_nil, e0, e1, e2]
        have ev : (224 + n / 4096) % 16 * 4096 + (128 + n / 64 % 64) % 64 * 64 + (128 + n % 64) % 64 = n := by omega
        unfold Lib.decodeN
        rw [if_neg (by omega), if_neg (by omega), if_pos ⟨by omega, ⟨by omega, by omega⟩, by omega, by omega⟩, ev, if_pos (by omega)]
      · rw [if_neg h3, Lib.decodeL_N]
        have e0 : (UInt8.ofNat (240 + n / 262144)).toNat = 240 + n / 262144 := ofNat_nat (by omega)
        have e1 : (UInt8.ofNat (128 + n / 4096 % 64)).toNat = 128 + n / 4096 % 64 := ofNat_nat (by omega)
        have e2 : (UInt8.ofNat (128 + n / 64 % 64)).toNat = 128 + n / 64 % 64 := ofNat_nat (by omega)
        have e3 : (UInt8.ofNat (128 + n % 64)).toNat = 128 + n % 64 := ofNat_nat (by omega)
        simp only [List.cons_append, List.nil_append, List.getD_cons_zero, List.getD_cons_succ, List.length_cons, List.length_nil, e0, e1, e2, e3]
        have ev : (240 + n / 262144) % 8 * 262144 + (128 + n / 4096 % 64) % 64 * 4096 + (128 + n / 64 % 64) % 64 * 64 + (128 + n % 64) % 64 = n := by omega
        unfold Lib.decodeN
        rw [if_neg (by omega), if_neg (by omega), if_neg (by omega), if_pos ⟨by omega, ⟨by omega, by omega⟩, ⟨by omega, by omega⟩, by omega, by omega⟩, ev, if_pos (by omega)]
theorem valid_runes : ∀ l : List Int, (∀ r ∈ l, Utf8.valid r = true) → Lib.validD (l.flatMap fun r => (Utf8.encode r).data.toList) = true := by
  intro l
  induction l with
  | nil => intro _; rfl
  | cons r l ih =>
    intro h
    obtain ⟨n, rfl, hn⟩ := valid_cases (h r (by simp))
    have hl := (encode_len (n : Int)).1
    have hd := decodeL_encode hn (l.flatMap fun r => (Utf8.encode r).data.toList)
    have hne : (Utf8.encode (n : Int)).data.toList ++ (l.flatMap fun r => (Utf8.encode r).data.toList) ≠ [] := fun he => by
      have := congrArg List.length he
      rw [List.length_append, List.length_nil] at this
      omega
    rw [List.flatMap_cons, Lib.validD_step _ hne, hd, if_neg, List.drop_left' rfl]
    · exact ih fun x hx => h x (by simp [hx])
    · rintro ⟨h1, h2⟩
      dsimp only at h1 h2
      subst h1
      exact absurd h2 (by decide)
/-- a text written anew is one that is -/
theorem anew_anew (s : ByteArray) : anewB (anewB s) = anewB s := by
  have hv : Lib.validD (anewB s).data.toList = true := by
    conv => lhs; unfold anewB
    rw [runesBytes_list]
    exact valid_runes _ (runeList_valid s _ _)
  rw [valid_anew] at hv
  exact of_decide_eq_true hv
theorem writ_one {r : Int} (h : Utf8.valid r = true) : ((Utf8.encode r).data.toList.flatMap writC).length ≤ 5 := by
  obtain ⟨n, rfl, hn⟩ := valid_cases h
  have hl := (encode_len (n : Int)).2
  rw [encode_nat hn] at hl ⊢
  by_cases h1 : n < 128
  · rw [if_pos h1]
    simp only [List.flatMap_cons, List.flatMap_nil, List.append_nil]
    unfold writC
    split; decide; split; decide; simp
  · have hh : ∀ c ∈ encL n, 128 ≤ c.toNat := fun c hc => (encL_mem (by omega) hc).resolve_left fun h2 => h1 h2.2
    unfold encL at hh
    rw [writ_high hh]
    omega
theorem writ_bound (s : ByteArray) : ((anewB s).data.toList.flatMap writC).length ≤ 5 * s.size := by
  have key : ∀ l : List Int, (∀ r ∈ l, Utf8.valid r = true) → ((l.flatMap fun r => (Utf8.encode r).data.toList).flatMap writC).length ≤ 5 * l.length := by
    intro l
    induction l with
    | nil => intro _; simp
    | cons r l ih =>
      intro h
      have h1 := writ_one (h r (by simp))
      have h2 := ih fun x hx => h x (by simp [hx])
      rw [List.flatMap_cons, List.flatMap_append, List.length_append, List.length_cons]
      omega
  have h1 := key _ (runeList_valid s s.size 0)
  have h2 := runeList_len s s.size 0
  unfold anewB
  rw [runesBytes_list]
  omega
theorem anew_pos {s : ByteArray} (h : 0 < s.size) : (anewB s).data.toList ≠ [] := by
  unfold anewB
  rw [runesBytes_list]
  obtain ⟨n, hn⟩ : ∃ n, s.size = n + 1 := ⟨s.size - 1, by omega⟩
  rw [hn, runeList, if_pos (by omega), List.flatMap_cons]
  have hl := (encode_len (Int.ofNat (Utf8.decode s 0).1)).1
  intro he
  have := congrArg List.length he
  rw [List.length_append, List.length_nil] at this
  omega
theorem decT_ne {x : List UInt8} (h : x ≠ []) : decT x ≠ [] := by
  unfold decT
  refine decL_ne (anew_pos ?_)
  rw [bs_size]
  exact List.length_pos_iff.2 h
theorem tokens_rise (L : List UInt8) : rises L 0 false (tokens L) := by
  unfold tokens
  exact lex_rises (fun x hx => decT_ne hx) L.length L [] 0 0 0 (Nat.le_refl _) (List.suffix_refl _) (Nat.zero_le _) fun h => absurd rfl h
theorem written_valid : ∀ (n : Nat) (l : List UInt8), l.length ≤ n → Lib.validD l = true → Lib.validD (l.flatMap writC) = true := by
  intro n
  induction n with
  | zero =>
    intro l hl _
    obtain rfl : l = [] := List.eq_nil_of_length_eq_zero (by omega)
    rfl
  | succ n ih =>
    intro l hl hv
    cases l with
    | nil => rfl
    | cons c q =>
      by_cases hc : c.toNat < 128
      · rw [Lib.validD_cons c q hc] at hv
        have := ih q (by simpa using hl) hv
        rw [List.flatMap_cons, Lib.validD_ascii (writC c).length _ ?_, List.drop_left' rfl]
        · exact this
        · rw [List.take_left' rfl]
          intro b hb
          unfold writC at hb
          split at hb
          · simp at hb; rcases hb with rfl | rfl | rfl | rfl <;> decide
          · split at hb
            · simp at hb; rcases hb with rfl | rfl | rfl | rfl | rfl <;> decide
            · simp at hb; rw [hb]; exact hc
      · have h0 : 128 ≤ ((c :: q).getD 0 0).toNat := by simpa using hc
        rw [Lib.validD_step _ (by simp)] at hv
        by_cases hb : (Lib.decodeL (c :: q)).1 = 65533 ∧ (Lib.decodeL (c :: q)).2 = 1
        · rw [if_pos hb] at hv; cases hv
        · rw [if_neg hb] at hv
          have hw := Lib.decodeL_width (c :: q)
          have hle := Lib.decodeL_le (c :: q) (by simp)
          obtain ⟨k, hk⟩ : ∃ k, (Lib.decodeL (c :: q)).2 = k := ⟨_, rfl⟩
          have hmore := decodeL_more hb h0 (((c :: q).drop k).flatMap writC)
          rw [hk] at hmore hv hw hle hb
          have e1 : (c :: q).flatMap writC = (c :: q).take k ++ ((c :: q).drop k).flatMap writC := by
            conv => lhs; rw [← List.take_append_drop k (c :: q), List.flatMap_append, writ_high hmore.2]
          have hne : (c :: q).take k ++ ((c :: q).drop k).flatMap writC ≠ [] := by
            rw [List.take_cons (by omega)]; simp
          rw [e1, Lib.validD_step _ hne, hmore.1, if_neg (by rw [hk]; exact hb), hk, List.drop_left' (by rw [List.length_take]; omega)]
          exact ih _ (by rw [List.length_drop]; simp at hl ⊢; omega) hv
theorem writC_dec (c : UInt8) (X : List UInt8) : decL (writC c ++ X) = c :: decL X := by
  unfold writC
  by_cases h1 : c = 60
  · subst h1
    rw [if_pos rfl]
    show decL (nm1 ++ X) = _
    have h := (named_hit nm1 [60] X (by decide)).1
    have e : nm1 ++ X = 38 :: ([108, 116, 59] ++ X) := rfl
    rw [e] at h ⊢
    rw [decL_amp, h]
    rfl
  · rw [if_neg h1]
    by_cases h2 : c = 38
    · subst h2
      rw [if_pos rfl]
      have h := (named_hit nm0 [38] X (by decide)).1
      have e : nm0 ++ X = 38 :: ([97, 109, 112, 59] ++ X) := rfl
      show decL (nm0 ++ X) = _
      rw [e] at h ⊢
      rw [decL_amp, h]
      rfl
    · rw [if_neg h2]
      exact decL_cons h2 X
theorem decL_writ : ∀ l : List UInt8, decL (l.flatMap writC) = l := by
  intro l
  induction l with
  | nil => rfl
  | cons c q ih => rw [List.flatMap_cons, writC_dec, ih]
theorem anew_writ (s : ByteArray) : anewB (bs ((anewB s).data.toList.flatMap writC)) = bs ((anewB s).data.toList.flatMap writC) := by
  have hv : Lib.validD (anewB s).data.toList = true := by rw [valid_anew, anew_anew]; exact decide_eq_true rfl
  have h := written_valid _ _ (Nat.le_refl _) hv
  have h2 := valid_anew (bs ((anewB s).data.toList.flatMap writC))
  rw [bs_data, h] at h2
  exact of_decide_eq_true h2.symm
/-- bytes that begin no tag are one text -/
theorem tokens_plain {L : List UInt8} (h : ∀ c ∈ L, c ≠ 60) : tokens L = if L = [] then [] else [⟨1, [], decT L, [], false, 0, L.length⟩] := by
  unfold tokens
  by_cases hL : L = []
  · subst hL; rfl
  · have := lexL_run (N := L.length) L [] 0 0 [] hL h
    rw [List.append_nil] at this
    rw [this, if_neg hL, lexL_nil]
    unfold flushT
    rw [List.nil_append, if_neg hL, if_pos rfl, Nat.sub_self]
    rfl
theorem writ_plain (l : List UInt8) : ∀ c ∈ l.flatMap writC, c ≠ 60 := by
  intro c hc
  obtain ⟨x, _, hx⟩ := List.mem_flatMap.1 hc
  unfold writC at hx
  split at hx
  · simp at hx; rcases hx with rfl | rfl | rfl | rfl <;> decide
  · split at hx
    · simp at hx; rcases hx with rfl | rfl | rfl | rfl | rfl <;> decide
    · rename_i h1 _
      simp at hx; rw [hx]; exact h1
theorem writ_nil {l : List UInt8} : l.flatMap writC = [] ↔ l = [] := by
  constructor
  · intro h
    have := congrArg decL h
    rw [decL_writ] at this
    exact this
  · rintro rfl; rfl
end Go.Proofs.YtdafdoodegpdhaaDoor
