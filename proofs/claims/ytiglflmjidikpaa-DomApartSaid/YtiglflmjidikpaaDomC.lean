/- slices.Clone at ints and attributes; slices.Index at ints. Conditions: at most 60000 elements. -/
import Derived.Test.YtiglflmjidikpaaDomB
namespace Go.Proofs.Ytiglflmjidikpaa
open Go Go.RowKit Go.BigFrame
set_option linter.unusedVariables false

/-- a slice in new memory is returned -/
def RRow (e size n : Nat) (xs : List Value) (w : World) (en : Ending) (w' : World) : Prop := ∃ v, en = .returned v ∧ RowIn w' w.heap.size e size v n xs ∧ Ext w w'
theorem infoI : (Try.prog.info? 3).map (fun i => (i.zero, i.size, i.bytes)) = some (some (.int .i64 0), 1, 8) := by kernel_rfl
theorem infoA : (Try.prog.info? 44).map (fun i => (i.zero, i.size, i.bytes)) = some (some (.agg #[.string ByteArray.empty, .string ByteArray.empty]), 2, 32) := by kernel_rfl
theorem infoP : (Try.prog.info? 110).map (fun i => (i.zero, i.size, i.bytes)) = some (some (.pointer none), 1, 8) := by kernel_rfl

set_option maxRecDepth 20000 in
set_option maxHeartbeats 400000 in
theorem cloneI_any {v : Value} {n : Nat} {xs : List Value} {w : World} (h : RowRd w 1 v n xs) (hn : n ≤ 60000) (h1 : ∀ u ∈ xs, u.oneCell' = true) :
    Calls Try.prog 82 #[v] w (RRow 3 1 n xs w) := by
  obtain ⟨hl, ao, cap, rfl, hcap, hnone, hc⟩ := h
  have he := fun (w : World) (a : Option Addr) (n c : Nat) => Lib.run_eql_slice_nil (P := Try.prog) w 70 3 a n c 0 0 Try.underlying70
  cases ao with
  | none =>
    obtain ⟨rfl, rfl⟩ := hnone rfl
    obtain rfl : xs = [] := List.eq_nil_of_length_eq_zero (by simpa using hl)
    clear hc hnone hl h1 hn
    go_enter Try.func82, Try.ntmps82
    go_wp2
    go_ret
    exact ⟨_, rfl, ⟨by simp, .inl ⟨rfl, _, rfl⟩⟩, Ext.refl _⟩
  | some a =>
    have HC := Lib.hid (hc a rfl)
    clear hc hnone
    rcases Nat.eq_zero_or_pos n with rfl | hpos
    · obtain rfl : xs = [] := List.eq_nil_of_length_eq_zero (by simpa using hl)
      clear HC hl h1 hn
      go_enter Try.func82, Try.ntmps82
      go_wp2
      go_ret
      exact ⟨_, rfl, ⟨by simp, .inl ⟨rfl, _, rfl⟩⟩, (Ext.refl _).alloc _⟩
    · obtain ⟨i0, hi, hz0, hz1, hz2⟩ := info_parts infoI
      have Hi := Lib.hid hi
      have Hz0 := Lib.hid hz0
      have Hz1 := Lib.hid hz1
      have Hz2 := Lib.hid hz2
      have H1 := Lib.hid h1
      have HL := Lib.hid hl
      have HN := Lib.hid hn
      clear hi hz0 hz1 hz2 h1 hl hn
      go_enter Try.func82, Try.ntmps82
      go_wp2_with (at_builtin; refine wpList_append_grows _ rfl _ _ 70 rfl 3 i0 (.int .i64 0) 1 8 Try.underlying70 Hi.out Hz0.out Hz1.out Hz2.out rfl (by decide) (some ⟨w.heap.size, 0, none⟩) 0 0 [] rfl (by simp) (by simp) (by simp) a n cap xs rfl HL.out ?c2 H1.out (by omega) ?c3 ?c4 ?_)
      case c2 =>
        intro j u hj
        have hcj := HC.out j u hj
        exact (Below.cell ((Ext.refl w).alloc _) (World.block_lt_of_cell? w _ hcj)).trans hcj
      case c3 => have := HN.out; unfold maxLen; omega
      case c4 => have := HN.out; omega
      intro v' w1 hown hg
      have hb : Ext w w1 := ((Ext.refl _).alloc _).grown hg (by simp)
      clear hg
      go_wp2
      go_ret
      refine ⟨_, rfl, ?_, hb⟩
      have hr := RowP.of_owns hown
      exact RowP.imp hr (fun g _ (hg : w.heap.size + 1 ≤ g) => Nat.le_of_succ_le hg)
set_option maxRecDepth 20000 in
set_option maxHeartbeats 400000 in
theorem cloneA_any {v : Value} {n : Nat} {xs : List Value} {w : World} (h : RowRd w 2 v n xs) (hn : n ≤ 60000) (h1 : ∀ u ∈ xs, u.oneCell' = true) :
    Calls Try.prog 81 #[v] w (RRow 44 2 n xs w) := by
  obtain ⟨hl, ao, cap, rfl, hcap, hnone, hc⟩ := h
  have he := fun (w : World) (a : Option Addr) (n c : Nat) => Lib.run_eql_slice_nil (P := Try.prog) w 27 44 a n c 0 0 Try.underlying27
  cases ao with
  | none =>
    obtain ⟨rfl, rfl⟩ := hnone rfl
    obtain rfl : xs = [] := List.eq_nil_of_length_eq_zero (by simpa using hl)
    clear hc hnone hl h1 hn
    go_enter Try.func81, Try.ntmps81
    go_wp2
    go_ret
    exact ⟨_, rfl, ⟨by simp, .inl ⟨rfl, _, rfl⟩⟩, Ext.refl _⟩
  | some a =>
    have HC := Lib.hid (hc a rfl)
    clear hc hnone
    rcases Nat.eq_zero_or_pos n with rfl | hpos
    · obtain rfl : xs = [] := List.eq_nil_of_length_eq_zero (by simpa using hl)
      clear HC hl h1 hn
      go_enter Try.func81, Try.ntmps81
      go_wp2
      go_ret
      exact ⟨_, rfl, ⟨by simp, .inl ⟨rfl, _, rfl⟩⟩, (Ext.refl _).alloc _⟩
    · obtain ⟨i0, hi, hz0, hz1, hz2⟩ := info_parts infoA
      have Hi := Lib.hid hi
      have Hz0 := Lib.hid hz0
      have Hz1 := Lib.hid hz1
      have Hz2 := Lib.hid hz2
      have H1 := Lib.hid h1
      have HL := Lib.hid hl
      have HN := Lib.hid hn
      clear hi hz0 hz1 hz2 h1 hl hn
      go_enter Try.func81, Try.ntmps81
      go_wp2_with (at_builtin; refine wpList_append_grows _ rfl _ _ 27 rfl 44 i0 (.agg #[.string ByteArray.empty, .string ByteArray.empty]) 2 32 Try.underlying27 Hi.out Hz0.out Hz1.out Hz2.out rfl (by decide) (some ⟨w.heap.size, 0, none⟩) 0 0 [] rfl (by simp) (by simp) (by simp) a n cap xs rfl HL.out ?c2 H1.out (by omega) ?c3 ?c4 ?_)
      case c2 =>
        intro j u hj
        have hcj := HC.out j u hj
        exact (Below.cell ((Ext.refl w).alloc _) (World.block_lt_of_cell? w _ hcj)).trans hcj
      case c3 => have := HN.out; unfold maxLen; omega
      case c4 => have := HN.out; omega
      intro v' w1 hown hg
      have hb : Ext w w1 := ((Ext.refl _).alloc _).grown hg (by simp)
      clear hg
      go_wp2
      go_ret
      refine ⟨_, rfl, ?_, hb⟩
      have hr := RowP.of_owns hown
      exact RowP.imp hr (fun g _ (hg : w.heap.size + 1 ≤ g) => Nat.le_of_succ_le hg)
end Go.Proofs.Ytiglflmjidikpaa
