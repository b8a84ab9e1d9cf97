/- Package points: each function in one contract, the answer as a number in plain Lean; the laws' own helpers: at, small, awake. Conditions: all numbers are from -1 to 2^30. -/
import Derived.Test.YtpachfdibhnobaaPtsC
namespace Go.Proofs.Ytpachfdibhnobaa
open Go Go.RowKit
set_option linter.unusedVariables false

/-- where a place of this node is then -/
def insA (n a p q m : Int) : Int := if n = p ∧ q < a then a + m else a
def remA (n a p q : Int) : Int := if n = p ∧ q < a then a - 1 else a
def repA (n a p q c m : Int) : Int := if n = p ∧ q < a then (if q + c < a then a + m - c else q) else a

theorem inserted_any (n a p q m : Int) (w : World) (hn : okI n) (ha : okI a) (hp : okI p) (hq : okI q) (hm : okI m) :
    Calls Try.prog 9 #[pl n a, .int .i64 p, .int .i64 q, .int .i64 m] w (RPlace n (insA n a p q m) w) := by
  by_cases h : n = p ∧ q < a
  · have e : insA n a p q m = a + m := if_pos h
    rw [e]; exact inserted_yes n a p q m w hn ha hp hq hm h.1 h.2
  · have e : insA n a p q m = a := if_neg h
    rw [e]; exact inserted_no n a p q m w hn ha hp hq hm h
theorem removed_any (n a p q : Int) (w : World) (hn : okI n) (ha : okI a) (hp : okI p) (hq : okI q) :
    Calls Try.prog 10 #[pl n a, .int .i64 p, .int .i64 q, .bool false] w (RPlace n (remA n a p q) w) := by
  by_cases h : n = p ∧ q < a
  · have e : remA n a p q = a - 1 := if_pos h
    rw [e]; exact removed_yes n a p q w hn ha hp hq h.1 h.2
  · have e : remA n a p q = a := if_neg h
    rw [e]; exact removed_no n a p q w hn ha hp hq h
theorem replaced_any (n a p q c m : Int) (w : World) (hn : okI n) (ha : okI a) (hp : okI p) (hq : okI q) (hc : okI c) (hm : okI m) :
    Calls Try.prog 11 #[pl n a, .int .i64 p, .int .i64 q, .int .i64 c, .int .i64 m] w (RPlace n (repA n a p q c m) w) := by
  by_cases h : n = p ∧ q < a
  · by_cases h' : q + c < a
    · have e : repA n a p q c m = a + m - c := by unfold repA; rw [if_pos h, if_pos h']
      have k := replaced_far n a p q c m w hn ha hp hq hc hm h.1 h.2 h'
      rw [e]; rw [← h.1] at k ⊢; exact k
    · have e : repA n a p q c m = q := by unfold repA; rw [if_pos h, if_neg h']
      have k := replaced_mid n a p q c m w hn ha hp hq hc hm h.1 h.2 h'
      rw [e]; rw [← h.1] at k ⊢; exact k
  · have e : repA n a p q c m = a := if_neg h
    rw [e]; exact replaced_no n a p q c m w hn ha hp hq hc hm h
def movA (n a p q t i : Int) : Int := insA n (remA n a p q) t i 1
theorem moved_any (n a p q t i : Int) (w : World) (hn : okI n) (ha : okI a) (hp : okI p) (hq : okI q) (ht : okI t) (hi : okI i) :
    Calls Try.prog 12 #[pl n a, .int .i64 p, .int .i64 q, .int .i64 t, .int .i64 i] w (RPlace n (movA n a p q t i) w) := by
  by_cases h : n = p ∧ q < a
  · have e : remA n a p q = a - 1 := if_pos h
    by_cases h' : n = t ∧ i < a - 1
    · have e' : movA n a p q t i = a - 1 + 1 := by unfold movA; rw [e]; exact if_pos h'
      rw [e']; exact moved_yy n a p q t i w hn ha hp hq ht hi h.1 h.2 h'.1 h'.2
    · have e' : movA n a p q t i = a - 1 := by unfold movA; rw [e]; exact if_neg h'
      rw [e']; exact moved_yn n a p q t i w hn ha hp hq ht hi h.1 h.2 h'
  · have e : remA n a p q = a := if_neg h
    by_cases h' : n = t ∧ i < a
    · have e' : movA n a p q t i = a + 1 := by unfold movA; rw [e]; exact if_pos h'
      rw [e']; exact moved_ny n a p q t i w hn ha hp hq ht hi h h'.1 h'.2
    · have e' : movA n a p q t i = a := by unfold movA; rw [e]; exact if_neg h'
      rw [e']; exact moved_nn n a p q t i w hn ha hp hq ht hi h h'

set_option maxHeartbeats 400000 in
theorem lawAt_any (n a : Int) (w : World) :
    Calls Try.prog 8 #[.int .i64 n, .int .i64 a] w (RPlace n a w) := by
  go_enter Try.func8, Try.ntmps8
  go_wp2
  refine bodyPost_ret (v := .agg #[.int .i64 n, .int .i64 a]) (by simp [results, Try.results8, go_sem]) rfl ⟨rfl, ?_⟩
  exact (Ext.refl _).alloc _

set_option maxHeartbeats 400000 in
theorem small_yes (b : Nat) (zs : List Int) (len cap : Nat) (w : World) (hlen : len = zs.length) (hl : zs.length ≤ 50) (hz : ∀ z ∈ zs, 0 ≤ z ∧ z ≤ 10000) (hc : ∀ (i : Nat) z, zs[i]? = some z → w.cell? ⟨b, i, none⟩ = some (.int .i64 z)) :
    Calls Try.prog 6 #[.slice (some ⟨b, 0, none⟩) len cap] w (RBool true w) := by
  subst hlen
  have HC := Lib.hid hc
  have HZ := Lib.hid hz
  clear hc hz
  go_enter Try.func6, Try.ntmps6
  go_wp2
  go_loop [2, 3] (fun v i => ∃ k : Nat, k ≤ zs.length ∧ i = .int .i64 k ∧ v = .bool false) (fun _ i => zs.length - (intOf i).toNat)
  case atStart => exact ⟨0, Nat.zero_le _, rfl, rfl⟩
  case round =>
    obtain ⟨k, hk, rfl, rfl⟩ := hrel
    by_cases hlt : k < zs.length
    · obtain ⟨z, hz⟩ : ∃ z, zs[k]? = some z := ⟨zs[k], by simp [hlt]⟩
      have hcell := HC.out k z hz
      have h0 := (HZ.out z (List.mem_of_getElem? hz)).1
      have h1 := (HZ.out z (List.mem_of_getElem? hz)).2
      clear hz
      go_wp2
      go_round
      case rel => exact ⟨k + 1, by omega, by go_num, rfl⟩
      case measure => simp [intOf]; omega
    · go_wp2
      go_ret
      exact ⟨rfl, Ext.refl _⟩
set_option maxHeartbeats 400000 in
theorem small_no (b : Nat) (zs : List Int) (len cap : Nat) (w : World) (hlen : len = zs.length) (hl : zs.length ≤ 50) (hz : ∃ z ∈ zs, ¬ (0 ≤ z ∧ z ≤ 10000)) (hc : ∀ (i : Nat) z, zs[i]? = some z → w.cell? ⟨b, i, none⟩ = some (.int .i64 z)) :
    Calls Try.prog 6 #[.slice (some ⟨b, 0, none⟩) len cap] w (RBool false w) := by
  subst hlen
  have HC := Lib.hid hc
  obtain ⟨z0, hm, hbad⟩ := hz
  obtain ⟨j, hj⟩ := List.getElem?_of_mem hm
  have HJ := Lib.hid hj
  have HB := Lib.hid hbad
  clear hc hj hbad hm
  go_enter Try.func6, Try.ntmps6
  go_wp2
  go_loop [2, 3] (fun v i => ∃ k : Nat, k ≤ j ∧ i = .int .i64 k ∧ v = .bool false) (fun _ i => zs.length - (intOf i).toNat)
  case atStart => exact ⟨0, Nat.zero_le _, rfl, rfl⟩
  case round =>
    obtain ⟨k, hk, rfl, rfl⟩ := hrel
    have hlt : k < zs.length := by have := (List.getElem?_eq_some_iff.1 HJ.out).1; omega
    obtain ⟨z, hz⟩ : ∃ z, zs[k]? = some z := ⟨zs[k], by simp [hlt]⟩
    have hcell := HC.out k z hz
    have HZ := Lib.hid hz
    clear hz
    by_cases h0 : z < 0
    · go_wp2
      go_ret
      exact ⟨rfl, Ext.refl _⟩
    · by_cases h1 : 10000 < z
      · go_wp2
        go_ret
        exact ⟨rfl, Ext.refl _⟩
      · have hkj : k < j := by
          rcases Nat.lt_or_eq_of_le hk with h | rfl
          · exact h
          · exfalso; have := HJ.out; rw [HZ.out] at this; obtain rfl : z = z0 := by simpa using this
            exact HB.out ⟨by omega, by omega⟩
        go_wp2
        go_round
        case rel => exact ⟨k + 1, by omega, by go_num, rfl⟩
        case measure => simp [intOf]; omega
end Go.Proofs.Ytpachfdibhnobaa
