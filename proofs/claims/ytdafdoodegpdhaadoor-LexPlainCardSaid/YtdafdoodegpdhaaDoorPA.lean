/- Characters as markup: what the printer and the document's answer write of a text. No program in sight. -/
import Derived.Test.YtdafdoodegpdhaaDoorPB
namespace Go.Proofs.YtdafdoodegpdhaaDoor
open Go
set_option linter.unusedVariables false
set_option linter.unusedSimpArgs false

/-- what is written of a rune -/
def escR (v : Bool) (r : Int) : List UInt8 :=
  if r = 38 then [38, 97, 109, 112, 59] else if r = 60 then [38, 108, 116, 59] else if r = 62 then [38, 103, 116, 59]
  else if r = 160 then [38, 110, 98, 115, 112, 59] else if r = 34 ∧ v = true then [38, 113, 117, 111, 116, 59] else (Utf8.encode r).data.toList
def escRs (v : Bool) (l : List Int) : List UInt8 := l.flatMap (escR v)
def esc (v : Bool) (s : ByteArray) : List UInt8 := escRs v (runeList s s.size 0)
/-- the document's loop, over bytes -/
def refEsc (v : Bool) : List UInt8 → List UInt8
  | [] => []
  | c :: l =>
    if c = 38 then [38, 97, 109, 112, 59] ++ refEsc v l
    else if c = 60 then [38, 108, 116, 59] ++ refEsc v l
    else if c = 62 then [38, 103, 116, 59] ++ refEsc v l
    else if c = 34 ∧ v = true then [38, 113, 117, 111, 116, 59] ++ refEsc v l
    else if c = 194 ∧ l.head? = some 160 then [38, 110, 98, 115, 112, 59] ++ refEsc v l.tail
    else c :: refEsc v l
  termination_by l => l.length
  decreasing_by all_goals simp; try omega
theorem ofNat_nat {n : Nat} (h : n < 256) : (UInt8.ofNat n).toNat = n := by simp; omega
theorem ofNat_eq {n m : Nat} (h : n < 256) (k : m < 256) : UInt8.ofNat n = UInt8.ofNat m ↔ n = m := by
  constructor
  · intro e
    have := congrArg UInt8.toNat e
    rw [ofNat_nat h, ofNat_nat k] at this
    exact this
  · rintro rfl; rfl
theorem refEsc_high (v : Bool) {c : UInt8} {l : List UInt8} (h : 128 ≤ c.toNat) (h2 : c ≠ 194 ∨ l.head? ≠ some 160) : refEsc v (c :: l) = c :: refEsc v l := by
  have ne : ∀ k : UInt8, k.toNat < 128 → c ≠ k := fun k hk e => by rw [e] at h; omega
  rw [refEsc, if_neg (ne 38 (by decide)), if_neg (ne 60 (by decide)), if_neg (ne 62 (by decide)), if_neg (fun e => ne 34 (by decide) e.1), if_neg (fun e => h2.elim (fun k => k e.1) (fun k => k e.2))]
theorem valid_cases {r : Int} (h : Utf8.valid r = true) : ∃ n : Nat, r = n ∧ (n < 55296 ∨ 57344 ≤ n ∧ n ≤ 1114111) := by
  unfold Utf8.valid at h
  simp at h
  refine ⟨r.toNat, by omega, by omega⟩
theorem encode_nat {n : Nat} (h : n < 55296 ∨ 57344 ≤ n ∧ n ≤ 1114111) : (Utf8.encode (n : Int)).data.toList =
    if n < 128 then [UInt8.ofNat n] else if n < 2048 then [UInt8.ofNat (192 + n / 64), UInt8.ofNat (128 + n % 64)]
    else if n < 65536 then [UInt8.ofNat (224 + n / 4096), UInt8.ofNat (128 + n / 64 % 64), UInt8.ofNat (128 + n % 64)]
    else [UInt8.ofNat (240 + n / 262144), UInt8.ofNat (128 + n / 4096 % 64), UInt8.ofNat (128 + n / 64 % 64), UInt8.ofNat (128 + n % 64)] := by
  have hv : Utf8.valid (n : Int) = true := by unfold Utf8.valid; simp; omega
  unfold Utf8.encode
  simp only [hv, if_true, Int.toNat_natCast]
  split
  · rfl
  · split
    · rfl
    · split <;> rfl
theorem refEsc_encode (v : Bool) {r : Int} (h : Utf8.valid r = true) (l : List UInt8) : refEsc v ((Utf8.encode r).data.toList ++ l) = escR v r ++ refEsc v l := by
  obtain ⟨n, rfl, hn⟩ := valid_cases h
  have ez := encode_nat hn
  have e1 : ∀ k : Nat, ((n : Int) = (k : Int)) ↔ n = k := fun k => by omega
  by_cases h1 : n < 128
  · rw [if_pos h1] at ez
    have ec : ∀ (k : Nat) (c : UInt8), c = UInt8.ofNat k → k < 256 → (UInt8.ofNat n = c ↔ n = k) := fun k c e hk => e ▸ ofNat_eq (by omega) hk
    unfold escR
    rw [ez, List.singleton_append, refEsc]
    by_cases a1 : n = 38
    · subst a1; rfl
    by_cases a2 : n = 60
    · subst a2; rfl
    by_cases a3 : n = 62
    · subst a3; rfl
    have b1 : ¬ (n : Int) = 38 := by omega
    have b2 : ¬ (n : Int) = 60 := by omega
    have b3 : ¬ (n : Int) = 62 := by omega
    have b4 : ¬ (n : Int) = 160 := by omega
    rw [if_neg (fun e => a1 ((ec 38 38 rfl (by omega)).1 e)), if_neg (fun e => a2 ((ec 60 60 rfl (by omega)).1 e)), if_neg (fun e => a3 ((ec 62 62 rfl (by omega)).1 e))]
    by_cases a4 : n = 34 ∧ v = true
    · rw [if_pos (show UInt8.ofNat n = 34 ∧ v = true from ⟨(ec 34 34 rfl (by omega)).2 a4.1, a4.2⟩), if_neg b1, if_neg b2, if_neg b3, if_neg b4, if_pos ⟨by omega, a4.2⟩]
    · rw [if_neg (show ¬ (UInt8.ofNat n = 34 ∧ v = true) from fun e => a4 ⟨(ec 34 34 rfl (by omega)).1 e.1, e.2⟩), if_neg (show ¬ (UInt8.ofNat n = 194 ∧ l.head? = some 160) from fun e => by have := (ec 194 194 rfl (by omega)).1 e.1; omega), if_neg b1, if_neg b2, if_neg b3, if_neg b4, if_neg (fun e => a4 ⟨by omega, e.2⟩)]
      rfl
  · rw [if_neg h1] at ez
    have he : escR v (n : Int) = if n = 160 then [38, 110, 98, 115, 112, 59] else (Utf8.encode (n : Int)).data.toList := by
      unfold escR
      rw [if_neg (by omega), if_neg (by omega), if_neg (by omega)]
      by_cases a : n = 160
      · rw [if_pos (by omega), if_pos a]
      · rw [if_neg (by omega), if_neg a, if_neg (fun e => by omega)]
    rw [he]
    have hi : ∀ k : Nat, k < 64 → 128 ≤ (UInt8.ofNat (128 + k)).toNat ∧ UInt8.ofNat (128 + k) ≠ 194 := fun k hk => ⟨by rw [ofNat_nat (by omega)]; omega, fun e => by have := (ofNat_eq (n := 128 + k) (m := 194) (by omega) (by omega)).1 e; omega⟩
    have lo : ∀ k : Nat, k < 64 → ∀ l, refEsc v (UInt8.ofNat (128 + k) :: l) = UInt8.ofNat (128 + k) :: refEsc v l := fun k hk l => refEsc_high v (hi k hk).1 (.inl (hi k hk).2)
    by_cases h2 : n < 2048
    · rw [if_pos h2] at ez
      by_cases a : n = 160
      · subst a
        rw [if_pos rfl, ez]
        show refEsc v (194 :: 160 :: l) = _
        rw [refEsc, if_neg (by decide), if_neg (by decide), if_neg (by decide), if_neg (fun e => absurd e.1 (by decide)), if_pos ⟨rfl, rfl⟩]
        rfl
      · rw [if_neg a, ez]
        show refEsc v (UInt8.ofNat (192 + n / 64) :: UInt8.ofNat (128 + n % 64) :: l) = _
        rw [refEsc_high v (by rw [ofNat_nat (by omega)]; omega) ?_, lo _ (Nat.mod_lt _ (by omega))]
        · rfl
        · by_cases b : n / 64 = 2
          · refine .inr fun e => ?_
            have e3 : UInt8.ofNat (128 + n % 64) = UInt8.ofNat 160 := by injection e
            have := (ofNat_eq (by omega) (by omega)).1 e3
            omega
          · refine .inl fun e => ?_
            have := (ofNat_eq (n := 192 + n / 64) (m := 194) (by omega) (by omega)).1 e
            omega
    · rw [if_neg h2] at ez
      rw [if_neg (by omega)]
      by_cases h3 : n < 65536
      · rw [if_pos h3] at ez
        rw [ez]
        show refEsc v (UInt8.ofNat (224 + n / 4096) :: UInt8.ofNat (128 + n / 64 % 64) :: UInt8.ofNat (128 + n % 64) :: l) = _
        rw [refEsc_high v (by rw [ofNat_nat (by omega)]; omega) (.inl fun e => by have := (ofNat_eq (n := 224 + n / 4096) (m := 194) (by omega) (by omega)).1 e; omega), lo _ (Nat.mod_lt _ (by omega)), lo _ (Nat.mod_lt _ (by omega))]
        rfl
      · rw [if_neg h3] at ez
        rw [ez]
        show refEsc v (UInt8.ofNat (240 + n / 262144) :: UInt8.ofNat (128 + n / 4096 % 64) :: UInt8.ofNat (128 + n / 64 % 64) :: UInt8.ofNat (128 + n % 64) :: l) = _
        rw [refEsc_high v (by rw [ofNat_nat (by omega)]; omega) (.inl fun e => by have := (ofNat_eq (n := 240 + n / 262144) (m := 194) (by omega) (by omega)).1 e; omega), lo _ (Nat.mod_lt _ (by omega)), lo _ (Nat.mod_lt _ (by omega)), lo _ (Nat.mod_lt _ (by omega))]
        rfl
theorem decode_valid (s : ByteArray) (i : Nat) : Utf8.valid (Int.ofNat (Utf8.decode s i).1) = true := by
  have hb : ∀ k, (s.get! (i + k)).toNat < 256 := fun k => (s.get! (i + k)).toNat_lt
  have h0 := hb 0; have h1 := hb 1; have h2 := hb 2; have h3 := hb 3
  have ok : ∀ c : Nat, c < 55296 → Utf8.valid (Int.ofNat c) = true := fun c hc => by unfold Utf8.valid; simp; omega
  have er : Utf8.valid (Int.ofNat Utf8.runeError) = true := by decide
  simp only [Utf8.decode]
  split
  · exact ok _ (by omega)
  · split
    · split
      · exact ok _ (by omega)
      · exact er
    · split
      · split
        · rename_i h; simp at h; exact h.2
        · exact er
      · split
        · split
          · rename_i h; simp at h; exact h.2
          · exact er
        · exact er
theorem runeList_valid (s : ByteArray) : ∀ (b i : Nat), ∀ r ∈ runeList s b i, Utf8.valid r = true := by
  intro b
  induction b with
  | zero => intro i r h; cases h
  | succ b ih =>
    intro i r h
    unfold runeList at h
    split at h
    · rcases List.mem_cons.1 h with rfl | h
      · exact decode_valid s i
      · exact ih _ r h
    · cases h
theorem runesBytes_list (l : List Int) : (runesBytes l).data.toList = l.flatMap fun r => (Utf8.encode r).data.toList := by
  have h : ∀ (l : List Int) (acc : ByteArray), (l.foldl (fun r n => r ++ Utf8.encode n) acc).data.toList = acc.data.toList ++ l.flatMap fun r => (Utf8.encode r).data.toList := by
    intro l
    induction l with
    | nil => intro acc; simp
    | cons x r ih => intro acc; rw [List.foldl_cons, ih]; simp
  have := h l ByteArray.empty
  simpa [runesBytes] using this
theorem refEsc_runes (v : Bool) : ∀ l : List Int, (∀ r ∈ l, Utf8.valid r = true) → refEsc v (l.flatMap fun r => (Utf8.encode r).data.toList) = escRs v l := by
  intro l
  induction l with
  | nil => intro _; simp [escRs, refEsc]
  | cons x r ih =>
    intro h
    rw [List.flatMap_cons, refEsc_encode v (h x (by simp)), ih fun y hy => h y (by simp [hy])]
    simp [escRs]
/-- both write the same -/
theorem refEsc_anew (v : Bool) (s : ByteArray) : refEsc v (anewB s).data.toList = esc v s := by
  unfold anewB esc
  rw [runesBytes_list, refEsc_runes v _ (runeList_valid s _ _)]
/-- a byte 194 is not the last -/
def C2ok (l : List UInt8) : Prop := ∀ j : Nat, l[j]? = some 194 → j + 1 < l.length
theorem C2ok.encode {r : Int} (h : Utf8.valid r = true) {l : List UInt8} (hl : C2ok l) : C2ok ((Utf8.encode r).data.toList ++ l) := by
  obtain ⟨n, rfl, hn⟩ := valid_cases h
  have ez := encode_nat hn
  have ne : ∀ m : Nat, m < 256 → m ≠ 194 → UInt8.ofNat m ≠ 194 := fun m hm h e => h ((ofNat_eq (m := 194) hm (by omega)).1 e)
  have go : ∀ (p : List UInt8) (c : UInt8), c ≠ 194 → C2ok (p ++ [c] ++ l) := by
    intro p c hc j hj
    by_cases h1 : j < p.length
    · simp; omega
    · by_cases h2 : j = p.length
      · subst h2; simp at hj; exact absurd hj hc
      · rw [List.getElem?_append_right (by simp; omega)] at hj
        have := hl _ hj
        simp at this ⊢; omega
  rw [ez]
  split
  · exact go [] _ (ne _ (by omega) (by omega))
  · split
    · exact go [_] _ (ne _ (by omega) (by omega))
    · split
      · exact go [_, _] _ (ne _ (by omega) (by omega))
      · exact go [_, _, _] _ (ne _ (by omega) (by omega))
theorem C2ok.runes : ∀ l : List Int, (∀ r ∈ l, Utf8.valid r = true) → C2ok (l.flatMap fun r => (Utf8.encode r).data.toList) := by
  intro l
  induction l with
  | nil => intro _ j hj; simp at hj
  | cons x r ih => intro h; rw [List.flatMap_cons]; exact .encode (h x (by simp)) (ih fun y hy => h y (by simp [hy]))
theorem C2ok.anew (s : ByteArray) : C2ok (anewB s).data.toList := by
  unfold anewB
  rw [runesBytes_list]
  exact .runes _ (runeList_valid s _ _)
theorem encode_len (r : Int) : 1 ≤ (Utf8.encode r).data.toList.length ∧ (Utf8.encode r).data.toList.length ≤ 4 := by
  unfold Utf8.encode
  dsimp only
  generalize (if Utf8.valid r = true then r.toNat else Utf8.runeError) = c
  split
  · exact ⟨by simp, by simp⟩
  · split
    · exact ⟨by simp, by simp⟩
    · split
      · exact ⟨by simp, by simp⟩
      · exact ⟨by simp, by simp⟩
theorem escR_len (v : Bool) (r : Int) : 1 ≤ (escR v r).length ∧ (escR v r).length ≤ 6 := by
  have := encode_len r
  unfold escR
  repeat' split
  all_goals first | (simp; done) | omega
theorem escRs_len (v : Bool) (l : List Int) : (escRs v l).length ≤ 6 * l.length := by
  induction l with
  | nil => simp [escRs]
  | cons x r ih =>
    have := escR_len v x
    simp only [escRs, List.flatMap_cons, List.length_append, List.length_cons] at ih ⊢
    omega
theorem esc_len (v : Bool) (s : ByteArray) : (esc v s).length ≤ 6 * s.size := by
  have h1 := escRs_len v (runeList s s.size 0)
  have h2 := runeList_len s s.size 0
  unfold esc; omega
end Go.Proofs.YtdafdoodegpdhaaDoor
