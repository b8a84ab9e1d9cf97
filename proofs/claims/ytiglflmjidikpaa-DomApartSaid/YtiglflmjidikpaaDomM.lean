/- slices.Insert of one number into a row of numbers. Conditions: at most 60000 elements. -/
import Derived.Test.YtiglflmjidikpaaDomL
namespace Go.Proofs.Ytiglflmjidikpaa
open Go Go.RowKit Go.BigFrame
set_option linter.unusedVariables false
set_option linter.unusedSimpArgs false

/-- a row is answered; it may have been written in place, or made anew -/
def RIns (p : Nat → Prop) (w : World) (n : Nat) (ys : List Value) (e : Ending) (w' : World) : Prop :=
  ∃ v' row, e = .returned v' ∧ RowP w' (fun g => p g ∨ w.heap.size ≤ g) 3 1 v' n ys ∧ w.grownBy w' row ∧ ∀ k, row = some k → p k

theorem cell_one_new' {w : World} {b : Nat} {x : Value} (h : w.cell? ⟨b, 0, none⟩ = some x) : ∀ (j : Nat) u, [x][j]? = some u → w.cell? (Addr.add ⟨b, 0, none⟩ j) = some u := by
  intro j u hj
  match j, hj with
  | 0, hj => simpa [Addr.add, h] using hj

set_option maxRecDepth 100000 in
set_option maxHeartbeats 1000000 in
theorem insert_end {w : World} {p : Nat → Prop} {v : Value} {n : Nat} {xs : List Value} (hr : RowP w p 3 1 v n xs) (hn : n ≤ 60000) {b : Nat} {x : Int} (hx : w.cell? ⟨b, 0, none⟩ = some (.int .i64 x)) :
    Calls Try.prog 84 #[v, .int .i64 n, .slice (some ⟨b, 0, none⟩) 1 1] w (RIns p w (n + 1) (xs ++ [.int .i64 x])) := by
  obtain ⟨ao, cap, rfl, hc⟩ := hr.rd.len_of
  obtain ⟨i0, hi, hz0, hz1, hz2⟩ := info_parts infoI
  have Hi := Lib.hid hi
  have Hz0 := Lib.hid hz0
  have Hz1 := Lib.hid hz1
  have Hz2 := Lib.hid hz2
  have HR := Lib.hid hr
  have HX := Lib.hid hx
  have HN := Lib.hid hn
  have hcm : cap ≤ 9223372036854775807 := by
    rcases hr.2 with ⟨_, a, e⟩ | ⟨g, cap', cur, e, _, _, _, h, _⟩
    · cases e; omega
    · cases e; unfold maxLen at h; omega
  clear hi hz0 hz1 hz2 hr hx
  by_cases he : cap = n
  all_goals
    go_enter Try.func84, Try.ntmps84
    go_wp2_with (at_builtin; refine wpList_append_row rfl _ _ 70 rfl 3 i0 (.int .i64 0) 1 8 Try.underlying70 Hi.out Hz0.out Hz1.out Hz2.out rfl (by decide) p (.slice ao n cap) n xs rfl HR.out ⟨b, 0, none⟩ 1 1 [.int .i64 x] rfl rfl ?_ ?_ (by decide) ?_ ?_ ?_)
  all_goals first
    | exact cell_one_new' HX.out
    | (simp [Value.oneCell']; done)
    | (unfold maxLen; omega)
    | omega
    | skip
  all_goals
    intro v' w1 row h1 h2 h3
    go_wp2
    go_ret
    exact ⟨_, row, rfl, h1, h2, h3⟩
end Go.Proofs.Ytiglflmjidikpaa
