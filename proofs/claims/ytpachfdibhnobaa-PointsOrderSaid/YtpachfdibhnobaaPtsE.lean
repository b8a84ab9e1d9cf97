/- The chapter's examples of package points (awake) come true. No conditions. -/
import Derived.Test.YtpachfdibhnobaaPtsD
namespace Go.Proofs.Ytpachfdibhnobaa
open Go Go.RowKit
set_option linter.unusedVariables false
theorem okL {z : Int} (h : decide (-1 ≤ z) && decide (z ≤ 1073741824) = true) : okI z := by
  rw [Bool.and_eq_true] at h; exact ⟨by simpa using h.1, by simpa using h.2⟩
set_option maxHeartbeats 1000000 in
theorem awake_any (w : World) : Calls Try.prog 7 #[] w (RBool true w) := by
  have x1 := Ext.refl w
  go_enter Try.func7, Try.ntmps7
  go_wp2_with (first
    | (go_at_call 8; refine (lawAt_any _ _ _).mono ?_; rintro e w' ⟨rfl, hx⟩; replace x1 := x1.trans hx; clear hx)
    | (go_at_call 9; refine (inserted_yes 5 2 5 1 3 _ (okL rfl) (okL rfl) (okL rfl) (okL rfl) (okL rfl) rfl (by decide)).mono ?_; rintro e w' ⟨rfl, hx⟩; replace x1 := x1.trans hx; clear hx)
    | (go_at_call 10; refine (removed_in 7 9 5 2 _ (okL rfl) (okL rfl) (okL rfl) (okL rfl)).mono ?_; rintro e w' ⟨rfl, hx⟩; replace x1 := x1.trans hx; clear hx)
    | (go_at_call 11; refine (replaced_far 4 6 4 2 3 1 _ (okL rfl) (okL rfl) (okL rfl) (okL rfl) (okL rfl) (okL rfl) rfl (by decide) (by decide)).mono ?_; rintro e w' ⟨rfl, hx⟩; replace x1 := x1.trans hx; clear hx)
    | (go_at_call 15; refine (splitText_here 4 6 4 2 9 5 0 _ (okL rfl) (okL rfl) (okL rfl) (okL rfl) (okL rfl) (okL rfl) (okL rfl) rfl (by decide)).mono ?_; rintro e w' ⟨rfl, hx⟩; replace x1 := x1.trans hx; clear hx)
    | (go_at_call 13; refine (wrapped_far 5 4 5 1 3 9 _ (okL rfl) (okL rfl) (okL rfl) (okL rfl) (okL rfl) (okL rfl) rfl (by decide) (by decide)).mono ?_; rintro e w' ⟨rfl, hx⟩; replace x1 := x1.trans hx; clear hx))
  go_ret
  exact ⟨rfl, x1⟩
end Go.Proofs.Ytpachfdibhnobaa
