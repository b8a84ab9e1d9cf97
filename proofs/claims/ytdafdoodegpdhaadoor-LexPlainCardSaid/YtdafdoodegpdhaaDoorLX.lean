/- Tokens rise, within the bytes; texts have bytes. No program in sight. -/
import Derived.Test.YtdafdoodegpdhaaDoorLP
namespace Go.Proofs.YtdafdoodegpdhaaDoor
open Go
set_option linter.unusedVariables false
set_option linter.unusedSimpArgs false

theorem suf_get {c : UInt8} {e L : List UInt8} (h : (c :: e) <:+ L) : L[L.length - (e.length + 1)]? = some c := by
  obtain ⟨p, rfl⟩ := h
  rw [List.length_append, List.length_cons, show p.length + (e.length + 1) - (e.length + 1) = p.length by omega]
  simp
def tkOk (L : List UInt8) (pt : Bool) (t : Tk) : Prop :=
  (t.kind = 1 ∧ t.text ≠ [] ∧ pt = false ∧ t.name = [] ∧ t.attrs = [] ∧ t.self = false) ∨
  ((t.kind = 2 ∨ t.kind = 3) ∧ t.text = [] ∧ t.name ≠ [] ∧ t.name.map smallC = t.name ∧ L[t.lo]? = some 60 ∧ L[t.hi - 1]? = some 62 ∧ (t.kind = 3 → t.attrs = [] ∧ t.self = false) ∧ t.name.length ≤ L.length)
def rises (L : List UInt8) : Nat → Bool → List Tk → Prop
  | _, _, [] => True
  | at_, pt, t :: l => at_ ≤ t.lo ∧ t.lo < t.hi ∧ t.hi ≤ L.length ∧ tkOk L pt t ∧ rises L t.hi (t.kind == 1) l
theorem tagN_ne {r : List UInt8} (h : headP letterB (tagR r) = true) : tagN r ≠ [] := by
  unfold tagN
  cases hr : tagR r with
  | nil => rw [hr] at h; cases h
  | cons c q =>
    rw [hr] at h
    have h1 : letterB c = true := h
    rw [List.takeWhile_cons_of_pos (by unfold alnumB; rw [h1]; rfl)]
    simp
theorem tagN_len (r : List UInt8) : (tagN r).length ≤ r.length := by
  unfold tagN
  rw [List.length_map]
  have h1 := congrArg List.length (take_drop_while alnumB (tagR r))
  rw [List.length_append] at h1
  have h2 := (tagR_suf r).length_le
  rw [List.length_drop] at h2
  omega
theorem tagN_small (r : List UInt8) : (tagN r).map smallC = tagN r := by
  unfold tagN
  rw [List.map_map]
  refine List.map_congr_left fun c _ => small_small c
theorem tag_ok {L r e : List UInt8} {t : Tk} (hr : r <:+ L) (h0 : r.head? = some 60) (h : tagL L.length r = some (t, e)) (pt : Bool) :
    t.lo = L.length - r.length ∧ t.hi = L.length - e.length ∧ e.length + 2 ≤ r.length ∧ tkOk L pt t ∧ t.kind ≠ 1 ∧ e <:+ L := by
  have hs := tagL_suf h
  have hl := hs.length_le
  simp only [List.length_cons, List.length_drop] at hl
  have hrl := hr.length_le
  have hc := suf_get (hs.trans ((List.drop_suffix 1 r).trans hr))
  have ho : L[L.length - r.length]? = some 60 := by
    cases r with
    | nil => cases h0
    | cons c q =>
      have : c = 60 := by simpa using h0
      subst this
      exact suf_get hr
  have he : e <:+ L := (List.suffix_cons 62 e).trans (hs.trans ((List.drop_suffix 1 r).trans hr))
  unfold tagL at h
  by_cases hl0 : headP letterB (tagR r) = true
  · rw [if_pos hl0] at h
    have hne := tagN_ne hl0
    have hsm := tagN_small r
    by_cases hcl : closeB r = true
    · rw [if_pos hcl] at h
      unfold closeL at h
      split at h
      · cases h
      · cases h
        refine ⟨rfl, rfl, by omega, .inr ⟨.inr rfl, rfl, hne, hsm, ho, ?_, fun _ => ⟨rfl, rfl⟩, Nat.le_trans (tagN_len r) hrl⟩, (by decide : ¬ (3 : Int) = 1), he⟩
        rw [← hc]; congr 1
    · rw [if_neg hcl] at h
      unfold openL at h
      cases hx : partsL ((tagR r).dropWhile alnumB) with
      | none => rw [hx] at h; cases h
      | some x =>
        rw [hx] at h
        cases h
        refine ⟨rfl, rfl, by omega, .inr ⟨.inl rfl, rfl, hne, hsm, ho, ?_, fun h3 => absurd h3 (by decide : ¬ (2 : Int) = 3), Nat.le_trans (tagN_len r) hrl⟩, (by decide : ¬ (2 : Int) = 1), he⟩
        rw [← hc]; congr 1
  · rw [if_neg hl0] at h
    cases h
theorem fin_tag {t : Tk} (h : t.kind ≠ 1) : t.fin = t := by unfold Tk.fin; rw [if_neg h]
theorem flush_rises {L raw : List UInt8} {a b at_ : Nat} (hd : ∀ x : List UInt8, x ≠ [] → decT x ≠ []) (l : List Tk) (h : raw ≠ [] → at_ ≤ a ∧ a < b ∧ b ≤ L.length)
    (hl : ∀ at' pt, (at' = at_ ∨ raw ≠ [] ∧ at' = b) → (raw = [] → pt = false) → rises L at' pt l) : rises L at_ false ((flushT raw a b).map Tk.fin ++ l) := by
  unfold flushT
  by_cases hr : raw = []
  · rw [if_pos hr]
    exact hl at_ false (.inl rfl) fun _ => rfl
  · rw [if_neg hr]
    obtain ⟨h1, h2, h3⟩ := h hr
    refine ⟨h1, h2, h3, .inl ⟨rfl, hd raw hr, rfl, rfl, rfl, rfl⟩, ?_⟩
    exact hl b true (.inr ⟨hr, rfl⟩) fun he => absurd he hr
theorem lex_rises {L : List UInt8} (hd : ∀ x : List UInt8, x ≠ [] → decT x ≠ []) : ∀ (n : Nat) (r raw : List UInt8) (a b at_ : Nat), r.length ≤ n → r <:+ L → at_ ≤ L.length - r.length → (raw ≠ [] → at_ ≤ a ∧ a < b ∧ b ≤ L.length - r.length) →
    rises L at_ false ((lexL L.length raw a b r).map Tk.fin) := by
  intro n
  induction n with
  | zero =>
    intro r raw a b at_ hn hr ha h
    obtain rfl : r = [] := List.eq_nil_of_length_eq_zero (by omega)
    rw [lexL_nil]
    have := flush_rises (L := L) (raw := raw) (a := a) (b := b) (at_ := at_) hd [] (fun hne => by have := h hne; simp at this; omega) (fun _ _ _ _ => trivial)
    rw [List.append_nil] at this
    exact this
  | succ n ih =>
    intro r raw a b at_ hn hr ha h
    cases r with
    | nil =>
      rw [lexL_nil]
      have := flush_rises (L := L) (raw := raw) (a := a) (b := b) (at_ := at_) hd [] (fun hne => by have := h hne; simp at this; omega) (fun _ _ _ _ => trivial)
      rw [List.append_nil] at this
      exact this
    | cons c q =>
      have hrl := hr.length_le
      simp only [List.length_cons] at hn hrl ha h
      have hq : q <:+ L := (List.suffix_cons c q).trans hr
      have hchar : rises L at_ false ((lexL L.length (raw ++ [c]) (if raw = [] then L.length - (q.length + 1) else a) (L.length - q.length) q).map Tk.fin) := by
        refine ih q _ _ _ at_ (by omega) hq (by omega) fun _ => ?_
        by_cases hraw : raw = []
        · rw [if_pos hraw]; omega
        · rw [if_neg hraw]
          have := h hraw
          omega
      by_cases hc : c = 60
      · subst hc
        cases hnote : noteL (60 :: q) with
        | some e =>
          rw [lexL_note hnote]
          obtain ⟨h1, h2⟩ := noteL_suf hnote
          simp only [List.length_cons] at h2
          have h3 := (h1.trans hr).length_le
          exact ih e raw a b at_ (by omega) (h1.trans hr) (by omega) fun hne => by have := h hne; omega
        | none =>
          cases htag : tagL L.length (60 :: q) with
          | none => rw [lexL_char (.inr ⟨hnote, htag⟩)]; exact hchar
          | some te =>
            obtain ⟨t, e⟩ := te
            rw [lexL_tag hnote htag, List.map_append, List.map_cons]
            obtain ⟨t1, t2, t3, t4, t5, t6⟩ := tag_ok hr rfl htag false
            obtain ⟨_, _, _, t7, _, _⟩ := tag_ok hr rfl htag true
            simp only [List.length_cons] at t1 t3
            rw [fin_tag t5]
            refine flush_rises hd _ (fun hne => by have := h hne; omega) fun at' pt hat hpt => ?_
            refine ⟨?_, by omega, by omega, by cases pt; exact t4; exact t7, ?_⟩
            · rcases hat with rfl | ⟨hne, rfl⟩
              · omega
              · have := h hne; omega
            · have e1 : (t.kind == 1) = false := by rw [beq_eq_false_iff_ne]; exact t5
              rw [e1, t2]
              exact ih e [] a b _ (by omega) t6 (Nat.le_refl _) fun hne => absurd rfl hne
      · rw [lexL_char (.inl hc)]; exact hchar
theorem named_ne {m x : List UInt8} (h : namedL m = some x) : x ≠ [] := by
  unfold namedL at h
  repeat' split at h
  all_goals (first | (cases h; decide) | cases h)
theorem entityL_ne (l : List UInt8) : (entityL l).1 ≠ [] := by
  unfold entityL
  dsimp only
  split
  · decide
  · split
    · rename_i x hx
      unfold meansL at hx
      split at hx
      · rename_i y hy; cases hx; exact named_ne hy
      · split at hx
        · unfold codedL at hx
          rename_i hcode hh
          cases hc : codeL ((l.drop 2).take ((Lib.indexByte (l.take 12) 59).toNat - 2)) with
          | none => rw [hc] at hx; cases hx
          | some n =>
            rw [hc] at hx
            have e := Option.some.inj hx
            have := (encode_len (n : Int)).1
            intro he
            have he' : x = [] := he
            rw [he'] at e
            rw [show (Utf8.encode (n : Int)).data.toList = [] from e] at this
            simp at this
        · cases hx
    · decide
theorem decL_ne {l : List UInt8} (h : l ≠ []) : decL l ≠ [] := by
  cases l with
  | nil => exact absurd rfl h
  | cons c q =>
    by_cases hc : c = 38
    · subst hc
      rw [decL_amp]
      intro he
      exact entityL_ne _ (List.append_eq_nil_iff.1 he).1
    · rw [decL_cons hc]; simp
end Go.Proofs.YtdafdoodegpdhaaDoor
