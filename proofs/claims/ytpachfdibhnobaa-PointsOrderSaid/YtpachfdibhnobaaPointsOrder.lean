/- PointsOrder: for all numbers. No conditions. -/
import Derived.Test.YtpachfdibhnobaaPointsOrderW
namespace Go.Proofs.Ytpachfdibhnobaa
open Go Go.RowKit
set_option linter.unusedVariables false

set_option maxRecDepth 100000 in
set_option maxHeartbeats 1000000 in
theorem order_off (n a b k c m : Int) (w : World) (hs : ∃ z ∈ [n, a, b, k, c, m], ¬ smallI z) :
    Calls Try.prog 3 #[.int .i64 n, .int .i64 a, .int .i64 b, .int .i64 k, .int .i64 c, .int .i64 m] w (RBool true w) := by
  have HS := Lib.hid hs
  clear hs
  go_enter Try.func3, Try.ntmps3
  go_wp2_with fail
  refine (small_no _ [n, a, b, k, c, m] _ _ _ rfl (by simp) HS.out ?_).mono ?_
  · intro j u h
    match j, h with
    | 0, h => simpa [go_sem] using h
    | 1, h => simpa [go_sem] using h
    | 2, h => simpa [go_sem] using h
    | 3, h => simpa [go_sem] using h
    | 4, h => simpa [go_sem] using h
    | 5, h => simpa [go_sem] using h
  rintro e w1 ⟨rfl, hx1⟩
  have x1 : Ext w w1 := Ext.trans ((Ext.refl w).alloc _) hx1
  clear hx1
  go_wp2_with (go_at_call 7; refine (awake_any _).mono ?_; rintro e w' ⟨rfl, hx⟩; replace x1 := x1.trans hx; clear hx)
  go_ret
  exact ⟨rfl, x1⟩

theorem order_law (n : Int) (_ : (Lit.int .i64 n).wf = true) (a : Int) (_ : (Lit.int .i64 a).wf = true) (b : Int) (_ : (Lit.int .i64 b).wf = true) (k : Int) (_ : (Lit.int .i64 k).wf = true) (c : Int) (_ : (Lit.int .i64 c).wf = true) (m : Int) (_ : (Lit.int .i64 m).wf = true) (w : World) :
    Calls Try.prog 3 #[.int .i64 n, .int .i64 a, .int .i64 b, .int .i64 k, .int .i64 c, .int .i64 m] w fun e w' => e = .returned (.bool true) ∧ Below w.heap.size w w' := by
  by_cases hs : ∀ z ∈ [n, a, b, k, c, m], smallI z
  · have hn := hs n (by simp)
    have ha := hs a (by simp)
    have hb := hs b (by simp)
    have hk := hs k (by simp)
    have hc := hs c (by simp)
    have hm := hs m (by simp)
    rcases Int.lt_trichotomy a b with h | h | h
    · exact order_walk n a b k c m a b _ _ _ _ _ _ w hn ha hb hk hc hm ha hb (Lib.hid (.inl ⟨h, rfl, rfl⟩)) (Lib.hid rfl) (Lib.hid rfl) (Lib.hid rfl) (Lib.hid rfl) (Lib.hid rfl) (Lib.hid rfl) (Lib.hid (order_facts n k c m a b hk hc hm ha hb (by omega)))
    · exact order_walk n a b k c m a a _ _ _ _ _ _ w hn ha hb hk hc hm ha ha (Lib.hid (.inr (.inr ⟨h, rfl, rfl⟩))) (Lib.hid rfl) (Lib.hid rfl) (Lib.hid rfl) (Lib.hid rfl) (Lib.hid rfl) (Lib.hid rfl) (Lib.hid (order_facts n k c m a a hk hc hm ha ha (by omega)))
    · exact order_walk n a b k c m b a _ _ _ _ _ _ w hn ha hb hk hc hm hb ha (Lib.hid (.inr (.inl ⟨h, rfl, rfl⟩))) (Lib.hid rfl) (Lib.hid rfl) (Lib.hid rfl) (Lib.hid rfl) (Lib.hid rfl) (Lib.hid rfl) (Lib.hid (order_facts n k c m b a hk hc hm hb ha (by omega)))
  · refine order_off n a b k c m w ?_
    exact Classical.byContradiction fun hc => hs fun z hz => Classical.byContradiction fun h => hc ⟨z, hz, h⟩
end Go.Proofs.Ytpachfdibhnobaa
