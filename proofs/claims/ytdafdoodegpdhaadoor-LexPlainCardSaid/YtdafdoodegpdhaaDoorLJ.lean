/- The document's lexer (14): begins. Conditions: at most 10^12 bytes. -/
import Derived.Test.YtdafdoodegpdhaaDoorLI
namespace Go.Proofs.YtdafdoodegpdhaaDoor
open Go Go.RowKit Go.BigFrame
set_option linter.unusedVariables false
set_option linter.unusedSimpArgs false

/-- does a text stand at a place? -/
def beginsL (l : List UInt8) (k : Nat) (t : List UInt8) : Bool := decide ((l.drop k).take t.length = t)
set_option maxHeartbeats 1000000 in
set_option maxRecDepth 100000 in
theorem begins_any (s t : ByteArray) (k : Nat) (hs : s.size ≤ 1000000000000) (ht0 : 0 < t.size) (ht : t.size ≤ 1000) (hk : k ≤ 1000000000000) (w : World) :
    Calls Tryd.prog 41 #[.string s, .int .i64 k, .string t] w (RBool (beginsL s.data.toList k t.data.toList) w) := by
  have x := Ext.refl w
  obtain ⟨b, hb⟩ : ∃ b, beginsL s.data.toList k t.data.toList = b := ⟨_, rfl⟩
  rw [hb]
  unfold beginsL at hb
  have e1 : s.data.toList.length = s.size := rfl
  have e2 : t.data.toList.length = t.size := rfl
  have hw : IntKind.i64.wrap ((k : Int) + (t.size : Int)) = (k : Int) + (t.size : Int) := IntWalk.i64_in _ (by omega)
  by_cases h1 : k + t.size ≤ s.size
  · have h1i : (k : Int) + (t.size : Int) ≤ (s.size : Int) := by omega
    have b1 : (0 : Int) ≤ (k : Int) := by omega
    have b2 : (k : Int) ≤ (k : Int) + (t.size : Int) := by omega
    have hkn : ((k : Int) + (t.size : Int)).toNat = k + t.size := by omega
    have hcut : s.extract k (k + t.size) = bs ((s.data.toList.drop k).take t.size) := by
      have h := bs_cut s.data.toList k (k + t.size)
      rw [bs_list, Nat.add_sub_cancel_left] at h; exact h
    have heq : ((s.extract k (k + t.size)).toList == t.toList) = b := by
      rw [← hb, hcut, e2]
      have h := list_beq ((s.data.toList.drop k).take t.size) t.data.toList
      rw [bs_list] at h
      exact h
    have HEQ := Lib.hid heq
    generalize hE : s.extract k (k + t.size) = E at *
    clear hcut hb h1 e1 e2
    go_enter Tryd.func41, Tryd.ntmps41
    go_wp2_with fail
    go_ret
    exact ⟨rfl, x⟩
  · have h1i : ¬ (k : Int) + (t.size : Int) ≤ (s.size : Int) := by omega
    have hb0 : b = false := by
      rw [← hb]
      refine decide_eq_false fun h => ?_
      have h2 := congrArg List.length h
      rw [List.length_take, List.length_drop] at h2
      omega
    subst hb0
    clear hb h1 e1 e2
    go_enter Tryd.func41, Tryd.ntmps41
    go_wp2_with fail
    go_ret
    exact ⟨rfl, x⟩
end Go.Proofs.YtdafdoodegpdhaaDoor
