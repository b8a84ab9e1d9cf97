/- What is done to a node loose from the host is not told of the host. No conditions. -/
import Derived.Test.YtiglflmjidikpaaSit
namespace Go.Proofs.Ytiglflmjidikpaa
open Go Go.RowKit Go.BigFrame
set_option linter.unusedVariables false
set_option linter.unusedSimpArgs false

theorem plain_root {T T' : Tr} {d : Nat → Nat} (hw : WF T d) (h : ∀ (j : Nat) (jd : Nd), T.nodes[j]? = some (some jd) → T.within j 0 = true → T'.nodes[j]? = some (some jd)) : T'.plain ((0 : Nat) : Int) = T.plain ((0 : Nat) : Int) := by
  obtain ⟨rd, r0, _, _⟩ := hw.root
  exact (plain_same hw r0 fun j jd hj hin => ⟨jd, h j jd hj hin, rfl, rfl, rfl, rfl⟩).1
theorem setAt_get {T : Tr} {i : Nat} {nd nd' : Nd} (hi : T.nodes[i]? = some (some nd)) (j : Nat) : (T.setAt i nd').nodes[j]? = if j = i then some (some nd') else T.nodes[j]? := by
  show (T.nodes.set i (some nd'))[j]? = _
  rw [List.getElem?_set]
  by_cases h : i = j
  · rw [if_pos h, if_pos h.symm, if_pos (List.getElem?_eq_some_iff.1 hi).1]
  · rw [if_neg h, if_neg (Ne.symm h)]
theorem within_setAt {T : Tr} {d : Nat → Nat} (hw : WF T d) {i : Nat} {nd nd' : Nd} (hi : T.nodes[i]? = some (some nd)) (hp : nd'.parent = nd.parent) (hw' : WF (T.setAt i nd') d) (o : Int) :
    ∀ (j : Nat) (jd : Nd), T.nodes[j]? = some (some jd) → (T.setAt i nd').within j o = T.within j o := by
  have key : ∀ (j : Nat) (jd : Nd), T.nodes[j]? = some (some jd) → ∃ jd', (T.setAt i nd').nodes[j]? = some (some jd') ∧ jd'.parent = jd.parent := fun j jd hj => by
    rw [setAt_get hi]
    by_cases e : j = i
    · subst e; obtain rfl := some_inj2 hi hj; exact ⟨_, if_pos rfl, hp⟩
    · exact ⟨jd, by rw [if_neg e]; exact hj, rfl⟩
  refine hw.induct _ (fun j jd hj hjp hjd => ?_) (fun j jd p pd hj hjp hpd hjd ih => ?_)
  · obtain ⟨jd', h1, h2⟩ := key j jd hj
    rw [hw.within_step hj, hw'.within_step h1, h2, hjp, within_neg, within_neg]
  · obtain ⟨jd', h1, h2⟩ := key j jd hj
    rw [hw.within_step hj, hw'.within_step h1, h2, hjp, ih]
/-- a call has come back; the host is told as it was; the node is there, and loose from it -/
def LooseIs (w0 : World) (tb : Nat) (m : PN) (g : World) (i : Nat) (e : Ending) (w' : World) : Prop :=
  (∃ v, e = .returned v) ∧ ∃ T' nd, GoodT T' ∧ T'.plain ((0 : Nat) : Int) = m ∧ T'.nodes[i]? = some (some nd) ∧ T'.within i 0 = false ∧ Sit w0 w' tb T' g
section
variable {w0 w : World} {tb : Nat} {T : Tr} {g : World} {m : PN} {i : Nat} {nd : Nd}
theorem loose_same (hG : GoodT T) (hm : T.plain ((0 : Nat) : Int) = m) (hi : T.nodes[i]? = some (some nd)) (hl : T.within i 0 = false) {v : Value} {e : Ending} {w' : World} (h : SitIs v w0 tb T g e w') : LooseIs w0 tb m g i e w' := ⟨⟨v, h.1⟩, T, nd, hG, hm, hi, hl, h.2⟩
theorem loose_set (hG : GoodT T) (hm : T.plain ((0 : Nat) : Int) = m) (hi : T.nodes[i]? = some (some nd)) (hl : T.within i 0 = false) {nd' : Nd} (hk : nd'.kids = nd.kids) (hp : nd'.parent = nd.parent) (h0 : 0 ≤ nd'.tag) (h1 : nd'.tag ≤ 16) (h2 : nd'.tag = 0 → nd.tag = 0) (h3 : i = 0 → nd'.tag = nd.tag)
    (ha : NdOk nd') {v : Value} {e : Ending} {w' : World} (h : SitIs v w0 tb (T.setAt i nd') g e w') : LooseIs w0 tb m g i e w' := by
  obtain ⟨⟨d, hw⟩, hA⟩ := hG
  have hw' : WF (T.setAt i nd') d := hw.setAt hi hk hp h0 h1 h2 h3
  refine ⟨⟨v, h.1⟩, T.setAt i nd', nd', ⟨⟨d, hw'⟩, hA.setAt ha⟩, ?_, by rw [setAt_get hi, if_pos rfl], by rw [within_setAt hw hi hp hw' 0 i nd hi]; exact hl, h.2⟩
  rw [← hm]
  refine plain_root hw fun j jd hj hin => ?_
  rw [setAt_get hi, if_neg]
  · exact hj
  · intro e; subst e; rw [hl] at hin; cases hin
theorem loose_ne0 (hG : GoodT T) (hl : T.within i 0 = false) : i ≠ 0 := fun e => by
  subst e
  obtain ⟨⟨d, hw⟩, hA⟩ := hG
  obtain ⟨rd, r0, _, _⟩ := hw.root
  have : T.within ((0 : Nat) : Int) ((0 : Nat) : Int) = true := hw.within_self r0
  have h2 : T.within ((0 : Nat) : Int) ((0 : Nat) : Int) = false := hl
  rw [h2] at this; cases this
theorem loose_text (hs : Sit w0 w tb T g) (hG : GoodT T) (hm : T.plain ((0 : Nat) : Int) = m) (hi : T.nodes[i]? = some (some nd)) (hl : T.within i 0 = false) (s : ByteArray) (hsz : s.size ≤ 8000) :
    Calls Try.prog 23 #[.pointer (some ⟨tb, 0, none⟩), .int .i64 i, .string s] w (LooseIs w0 tb m g i) := by
  by_cases ht : nd.tag = 0
  · obtain ⟨⟨d, hw⟩, hA⟩ := id hG
    have hx := hw.text i nd hi
    have hal := hA i nd hi
    by_cases hl8 : 8192 < (anewB s).size
    · exact (hs.val fun own ptr hT hO => SetText_long hT hO (Tr.get_of hi) (by simp [ht]) s (by omega) hl8).mono fun e w' h => loose_same hG hm hi hl h
    · exact (hs.err fun own ptr hT hO _ => SetText_ok hT hO hi (by simp [ht]) s (by omega) (by omega)).mono fun e w' h =>
        loose_set hG hm hi hl (nd' := { nd with text := anewB s }) rfl rfl hx.1 hx.2.1 (fun h => h) (fun _ => rfl) ⟨hal.1, by show (anewB s).size ≤ 8192; omega⟩ h
  · exact (hs.val fun own ptr hT hO => SetText_kind hT hO (Tr.get_of hi) (by simpa using ht) s (by omega)).mono fun e w' h => loose_same hG hm hi hl h
theorem loose_attrs (hs : Sit w0 w tb T g) (hG : GoodT T) (hm : T.plain ((0 : Nat) : Int) = m) (hi : T.nodes[i]? = some (some nd)) (hl : T.within i 0 = false) {av : Value} {attrs : List (ByteArray × ByteArray)} (hr : RowRd w 2 av attrs.length (attrCells attrs)) (hal : attrs.length ≤ 60000) :
    Calls Try.prog 24 #[.pointer (some ⟨tb, 0, none⟩), .int .i64 i, av] w (LooseIs w0 tb m g i) := by
  rcases tag_b (x := nd.tag) with ht | ht
  · exact (hs.val fun own ptr hT hO => SetAttrs_kind hT (Tr.get_of hi) ht av).mono fun e w' h => loose_same hG hm hi hl h
  · obtain ⟨⟨d, hw⟩, hA⟩ := id hG
    have hx := hw.text i nd hi
    exact (hs.err fun own ptr hT hO _ => SetAttrs_ok hT hO hi ht hr hal).mono fun e w' h =>
        loose_set hG hm hi hl (nd' := { nd with attrs := attrs }) rfl rfl hx.1 hx.2.1 (fun h => h) (fun _ => rfl) ⟨hal, (hA i nd hi).2⟩ h
theorem loose_tag (hs : Sit w0 w tb T g) (hG : GoodT T) (hm : T.plain ((0 : Nat) : Int) = m) (hi : T.nodes[i]? = some (some nd)) (hl : T.within i 0 = false) (tag : Int) (h1 : 1 ≤ tag) (h2 : tag ≤ 16) :
    Calls Try.prog 29 #[.pointer (some ⟨tb, 0, none⟩), .int .i64 i, .int .i64 tag] w (LooseIs w0 tb m g i) := by
  rcases tag_b (x := nd.tag) with ht | ht
  · exact (hs.val fun own ptr hT hO => SetTag_kind hT (Tr.get_of hi) ht tag).mono fun e w' h => loose_same hG hm hi hl h
  · obtain ⟨⟨d, hw⟩, hA⟩ := id hG
    have hx := hw.text i nd hi
    have h0 := loose_ne0 hG hl
    have hal := hA i nd hi
    exact (hs.err fun own ptr hT hO _ => SetTag_ok hT hO hi ht tag h1 h2 h0).mono fun e w' h =>
        loose_set hG hm hi hl (nd' := { nd with tag := tag }) rfl rfl (by show 0 ≤ tag; omega) (by show tag ≤ 16; omega) (fun h => by have h' : tag = 0 := h; omega) (fun h => absurd h h0) hal h
theorem loose_remove (hs : Sit w0 w tb T g) (hG : GoodT T) (hm : T.plain ((0 : Nat) : Int) = m) (hi : T.nodes[i]? = some (some nd)) (hl : T.within i 0 = false) :
    Calls Try.prog 22 #[.pointer (some ⟨tb, 0, none⟩), .int .i64 i] w (LooseIs w0 tb m g i) := by
  obtain ⟨⟨d, hw⟩, hA⟩ := id hG
  rcases hw.parent_cases hi with hpar | ⟨p, pd, hpar, hp, hin, hpi⟩
  · exact (hs.val fun own ptr hT hO => Remove_root hT (Tr.get_of hi) (by omega)).mono fun e w' h => loose_same hG hm hi hl h
  · obtain ⟨T1, d1, hT1, hw1, hA1, hi1, hp1, hpl1, hd1, hi0, _⟩ := hw.off hA hi hp hpar
    refine (sit_remove hs hw hp hi hpar hT1).mono fun e w' h => ⟨⟨_, h.1⟩, T1, _, ⟨⟨d1, hw1⟩, hA1⟩, ?_, hi1, ?_, h.2⟩
    · rw [← hm, ← hT1]
      refine plain_root hw fun j jd hj hjin => ?_
      have hji : j ≠ i := fun e => by subst e; rw [hl] at hjin; cases hjin
      have hjp : j ≠ p := fun e => by
        subst e
        rw [hw.within_step hi, hpar, hjin] at hl
        split at hl <;> cases hl
      show (T.set2 p i _ _).nodes[j]? = _
      rw [Tr.set2_get hp hi, if_neg hji, if_neg hjp]; exact hj
    · rw [hw1.within_root hi1 rfl]; exact decide_eq_false (by omega)
theorem sit_live (hs : Sit w0 w tb T g) {d : Nat → Nat} (hw : WF T d) (hi : T.nodes[i]? = some (some nd)) {b : Bool} (hb : T.within i 0 = b) : Calls Try.prog 28 #[.pointer (some ⟨tb, 0, none⟩), .int .i64 i] w (SitIs (.bool b) w0 tb T g) :=
  hs.same fun own ptr hT _ => hb ▸ Live_some hT hw hi
end
end Go.Proofs.Ytiglflmjidikpaa
