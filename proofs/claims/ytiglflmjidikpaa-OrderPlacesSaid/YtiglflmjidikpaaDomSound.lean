/- DomSound: whatever calls, in whatever room: what comes out is nil or sound. No conditions. -/
import Derived.Test.YtiglflmjidikpaaD10
namespace Go.Proofs.Ytiglflmjidikpaa
open Go Go.RowKit Go.BigFrame Go.ChangeShapes Go.WideShapes
set_option linter.unusedVariables false
set_option linter.unusedSimpArgs false

theorem ClAt.ext {w w' : World} {A : Addr} {c : Cl} (h : ClAt w A c) (x : Ext w w') : ClAt w' A c := by
  obtain ⟨av, c6, c7, c8, c9, q0, q1, q2, q3, q4, q5, q6, q7, q8, q9, hr, hn⟩ := h
  have X := x.cells
  exact ⟨av, c6, c7, c8, c9, X _ _ q0, X _ _ q1, X _ _ q2, X _ _ q3, X _ _ q4, X _ _ q5, X _ _ q6, X _ _ q7, X _ _ q8, X _ _ q9, hr.ext x, hn.cells X⟩
theorem CallsRd.ext {w w' : World} {l : List Cl} {v : Value} (h : CallsRd w l v) (x : Ext w w') : CallsRd w' l v := by
  obtain ⟨ao, cap, h1, h2, h3, h4, h5⟩ := h
  exact ⟨ao, cap, h1, h2, h3, h4, fun a ha k c hk => (h5 a ha k c hk).ext x⟩
set_option maxRecDepth 20000 in
theorem keep_calls {H : Type} {enc : TypeId × Value → H} {w : World} {b0 base : Nat} {spare : Nat → Bool} {held : Bool} {v : Value} {d : DataW H} {p : List MemPlace}
    (hv : Value.okWide Try.prog w .any b0 22 v) (h : DataW.Trod enc Try.prog w base spare held 22 v d p) : ∃ l, CallsRd w l v := by
  obtain ⟨a, len, cap, rfl⟩ := okWide_slice Try.underlying22 hv
  exact read_calls h rfl
theorem Sound_tree {w0 w : World} {tb : Nat} (h : InTree w0 w tb) : Calls Try.prog 37 #[.pointer (some ⟨tb, 0, none⟩)] w (RBool true w) := by
  obtain ⟨own, ptr, T, hT, hO, ⟨⟨d, hw⟩, _⟩, _, _⟩ := h
  exact Sound_any hT hO hw
set_option maxRecDepth 100000 in
set_option maxHeartbeats 2000000 in
theorem domSound_walk (cap : Int) (hc : (Lit.int .i64 cap).wf = true) (deep : Int) (hd : (Lit.int .i64 deep).wf = true) {w : World} (v : Value) (l : List Cl) (hl : CallsRd w l v) :
    Calls Try.prog 6 #[.int .i64 cap, .int .i64 deep, v] w (RBool true w) := by
  have HL := Lib.hid hl
  obtain ⟨ao, vcap, rfl, _⟩ := hl
  clear hc hd
  go_enter Try.func6, Try.ntmps6
  go_wp2_with fail
  refine (Heavy_any HL.out).mono ?_
  rintro e w1 ⟨b, rfl, hx1, hb⟩
  cases b with
  | true =>
    go_wp2_with (go_at_call 16; refine (awake_any _).mono ?_; rintro e w2 ⟨rfl, hx2⟩)
    go_ret
    exact ⟨rfl, hx1.trans hx2⟩
  | false =>
    have HG := Lib.hid (hb rfl)
    clear hb
    go_wp2_with fail
    refine (Played_any cap deep (HL.out.ext hx1) HG.out).mono ?_
    rintro e w2 (⟨rfl, hx2⟩ | ⟨tb, rfl, ht⟩)
    · go_wp2_with (go_at_call 16; refine (awake_any _).mono ?_; rintro e w3 ⟨rfl, hx3⟩)
      go_ret
      exact ⟨rfl, (hx1.trans hx2).trans hx3⟩
    · have HT := Lib.hid ht
      have hx2 := ht.before
      clear ht
      go_wp2_with (first
        | (go_at_call 37; refine (Sound_tree HT.out).mono ?_; rintro e w3 ⟨rfl, hx3⟩)
        | (go_at_call 16; refine (awake_any _).mono ?_; rintro e w4 ⟨rfl, hx4⟩))
      go_ret
      exact ⟨rfl, ((hx1.trans hx2).trans hx3).trans hx4⟩
end Go.Proofs.Ytiglflmjidikpaa
