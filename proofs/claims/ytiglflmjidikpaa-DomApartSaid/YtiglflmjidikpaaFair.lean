/- Pure: what is told of a good tree, and what is light, has no row of attributes that is too long. -/
import Derived.Test.YtiglflmjidikpaaPlayA
import Derived.Test.YtiglflmjidikpaaSameN
namespace Go.Proofs.Ytiglflmjidikpaa
open Go Go.RowKit Go.BigFrame
set_option linter.unusedVariables false
set_option linter.unusedSimpArgs false

theorem pln_fair {T : Tr} (hA : AttrsOk T) : ∀ (f : Nat) (id : Int), (T.pln f id).fair = true := by
  intro f
  induction f with
  | zero => intro id; rfl
  | succ f ih =>
    intro id
    show (match T.get? id with | none => noPN | some nd => _).fair = true
    cases hg : T.get? id with
    | none => rfl
    | some nd =>
      show (PN.mk nd.tag nd.attrs nd.text (nd.kids.map (T.pln f))).fair = true
      rw [PN.fair_eq]
      simp only [Bool.and_eq_true, decide_eq_true_eq]
      refine ⟨hA _ nd (Tr.get_lt hg).2.2, PN.fairs_of fun k hk => ?_⟩
      obtain ⟨x, _, rfl⟩ := List.mem_map.1 hk
      exact ih x
theorem plain_fair {T : Tr} (hA : AttrsOk T) (id : Int) : (T.plain id).fair = true := pln_fair hA 50 id
theorem PN.light_fair : ∀ n : PN, n.light = true → n.fair = true := by
  refine PN.induct _ fun n ih h => ?_
  rw [PN.light_eq] at h
  simp only [Bool.and_eq_true, decide_eq_true_eq] at h
  rw [PN.fair_eq]
  simp only [Bool.and_eq_true, decide_eq_true_eq]
  refine ⟨by omega, PN.fairs_of fun k hk => ih k hk ?_⟩
  have : ∀ l : List PN, PN.lights l = true → k ∈ l → k.light = true := by
    intro l
    induction l with
    | nil => intro _ h; cases h
    | cons x r ih2 =>
      intro hl hm
      simp only [PN.lights, Bool.and_eq_true] at hl
      rcases List.mem_cons.1 hm with rfl | hm
      · exact hl.1
      · exact ih2 hl.2 hm
  exact this n.kids h.2 hk
end Go.Proofs.Ytiglflmjidikpaa
