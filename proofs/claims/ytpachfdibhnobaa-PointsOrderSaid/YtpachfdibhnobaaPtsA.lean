/- Package points: the parts that all its functions use: fit, above, to. Conditions: the numbers are from -1 to 2^30. -/
import Derived.Test.YtpachfdibhnobaaBase
import Derived.Test.YtpachfdibhnobaaRows
namespace Go.Proofs.Ytpachfdibhnobaa
open Go Go.RowKit

/-- a place as a value -/
abbrev pl (n a : Int) : Value := .agg #[.int .i64 n, .int .i64 a]
/-- the numbers that are reckoned with -/
def okI (z : Int) : Prop := -1 ≤ z ∧ z ≤ 1073741824

set_option maxHeartbeats 400000 in
theorem above_any (n a p q : Int) (w : World) :
    Calls Try.prog 18 #[pl n a, .int .i64 p, .int .i64 q] w (RBool (decide (n = p) && decide (q < a)) w) := by
  by_cases h1 : n = p
  · subst h1
    by_cases h2 : q < a
    · go_enter Try.func18, Try.ntmps18
      go_wp2
      go_ret
      exact ⟨by simp [h2], (Ext.refl _).alloc _⟩
    · go_enter Try.func18, Try.ntmps18
      go_wp2
      go_ret
      exact ⟨by simp [h2], (Ext.refl _).alloc _⟩
  · go_enter Try.func18, Try.ntmps18
    go_wp2
    go_ret
    exact ⟨by simp [h1], (Ext.refl _).alloc _⟩
theorem above_yes {n a p q : Int} (w : World) (h1 : n = p) (h2 : q < a) :
    Calls Try.prog 18 #[pl n a, .int .i64 p, .int .i64 q] w (RBool true w) := by
  have h := above_any n a p q w
  rw [show (decide (n = p) && decide (q < a)) = true from by simp [h1, h2]] at h
  exact h
theorem above_no {n a p q : Int} (w : World) (h : ¬ (n = p ∧ q < a)) :
    Calls Try.prog 18 #[pl n a, .int .i64 p, .int .i64 q] w (RBool false w) := by
  have k := above_any n a p q w
  rw [show (decide (n = p) && decide (q < a)) = false from by simpa using h] at k
  exact k

def badB (n : Int) : Bool := decide (n < -1) || decide (n > 1073741824)
def BadIs (b : Bool) (w : World) (e : Ending) (w' : World) : Prop := e = .returned (.bool b) ∧ w = w'

set_option maxHeartbeats 400000 in
theorem bad_any (n : Int) (w : World) :
    Calls Try.prog 22 #[.int .i64 n] w (BadIs (badB n) w) := by
  by_cases h1 : n < -1
  · go_enter Try.func22, Try.ntmps22
    go_wp2
    go_ret
    exact ⟨by simp [badB, h1], rfl⟩
  · by_cases h2 : n > 1073741824
    · go_enter Try.func22, Try.ntmps22
      go_wp2
      go_ret
      exact ⟨by simp [badB, h2], rfl⟩
    · go_enter Try.func22, Try.ntmps22
      go_wp2
      go_ret
      exact ⟨by simp [badB]; omega, rfl⟩
theorem bad_yes (n : Int) (w : World) (h : badB n = true) : Calls Try.prog 22 #[.int .i64 n] w (BadIs true w) := by rw [← h]; exact bad_any n w
theorem bad_no (n : Int) (w : World) (h : badB n = false) : Calls Try.prog 22 #[.int .i64 n] w (BadIs false w) := by rw [← h]; exact bad_any n w

theorem any_take_yes {zs : List Int} {k : Nat} {z : Int} (hz : zs[k]? = some z) (hb : badB z = true) : zs.any badB = true := by
  rw [List.any_eq_true]; exact ⟨z, List.mem_of_getElem? hz, hb⟩
theorem any_take_no {zs : List Int} {k : Nat} {z : Int} (hz : zs[k]? = some z) (hb : badB z = false) (h : (zs.take k).any badB = false) : (zs.take (k + 1)).any badB = false := by
  obtain ⟨hlt, rfl⟩ := List.getElem?_eq_some_iff.1 hz
  rw [List.take_succ_eq_append_getElem hlt, List.any_append, h]; simp [hb]
def FirstBad (zs : List Int) (w : World) (e : Ending) (w' : World) : Prop := ∃ k : Int, -1 ≤ k ∧ k ≤ 100 ∧ e = .returned (.int .i64 k) ∧ Hid (0 ≤ k ↔ zs.any badB = true) ∧ w = w'

set_option maxHeartbeats 400000 in
theorem index_any (b : Nat) (zs : List Int) (cap : Nat) (w : World) (hl : zs.length ≤ 100) (hc : ∀ (i : Nat) z, zs[i]? = some z → w.cell? ⟨b, i, none⟩ = some (.int .i64 z)) :
    Calls Try.prog 23 #[.slice (some ⟨b, 0, none⟩) zs.length cap, .func (.func 22) #[] #[]] w (FirstBad zs w) := by
  have HC := Lib.hid hc
  clear hc
  go_enter Try.func23, Try.ntmps23
  go_wp2
  go_loop [5, 8] (fun _ i => ∃ k : Nat, k ≤ zs.length ∧ i = .int .i64 k ∧ (zs.take k).any badB = false) (fun _ i => zs.length - (intOf i).toNat)
  case atStart => exact ⟨0, Nat.zero_le _, rfl, by simp⟩
  case round =>
    obtain ⟨k, hk, rfl, hno⟩ := hrel
    have Hno := Lib.hid hno
    clear hno
    by_cases hlt : k < zs.length
    · obtain ⟨z, hz⟩ : ∃ z, zs[k]? = some z := ⟨zs[k], by simp [hlt]⟩
      have hcell := HC.out k z hz
      have HZ := Lib.hid hz
      clear hz
      cases hb : badB z
      · have HB := Lib.hid hb
        clear hb
        go_wp2_with (go_at_call 22; refine (bad_no _ _ HB.out).mono ?_; rintro e w' ⟨rfl, rfl⟩)
        go_round
        case rel => exact ⟨k + 1, by omega, by go_num, any_take_no HZ.out HB.out Hno.out⟩
        case measure => simp [intOf]; omega
      · have HB := Lib.hid hb
        clear hb
        go_wp2_with (go_at_call 22; refine (bad_yes _ _ HB.out).mono ?_; rintro e w' ⟨rfl, rfl⟩)
        go_ret
        exact ⟨k, by omega, by omega, rfl, by simp [any_take_yes HZ.out HB.out, Hid], rfl⟩
    · go_wp2
      go_ret
      refine ⟨-1, by omega, by omega, rfl, ?_, rfl⟩
      have h := Hno.out
      rw [List.take_of_length_le (by omega)] at h
      rw [h]; simp [Hid]

set_option maxHeartbeats 400000 in
theorem contains_any (b : Nat) (zs : List Int) (len cap : Nat) (w : World) (hlen : len = zs.length) (hl : zs.length ≤ 100) (hc : ∀ (i : Nat) z, zs[i]? = some z → w.cell? ⟨b, i, none⟩ = some (.int .i64 z)) :
    Calls Try.prog 21 #[.slice (some ⟨b, 0, none⟩) len cap, .func (.func 22) #[] #[]] w (BadIs (zs.any badB) w) := by
  subst hlen
  have HC := Lib.hid hc
  clear hc
  go_enter Try.func21, Try.ntmps21
  go_wp2_with (go_at_call 23; refine (index_any _ _ _ _ hl HC.out).mono ?_; rintro e w' ⟨k, h1, h2, rfl, hk, rfl⟩)
  go_ret
  exact ⟨by rw [show decide (0 ≤ k) = zs.any badB from by rw [Bool.eq_iff_iff, ← hk.out]; simp]; rfl, rfl⟩

theorem infoInt : (Try.prog.info? 3).map (fun i => (i.zero, i.size, i.bytes)) = some (some (.int .i64 0), 1, 8) := by kernel_rfl

set_option maxHeartbeats 400000 in
theorem fit_any (n a : Int) (b : Nat) (zs : List Int) (w : World) (hl : zs.length ≤ 50) (hpos : 0 < zs.length) (hc : ∀ (i : Nat) z, zs[i]? = some z → w.cell? ⟨b, i, none⟩ = some (.int .i64 z)) :
    Calls Try.prog 17 #[pl n a, .slice (some ⟨b, 0, none⟩) zs.length zs.length] w (RBool (!(zs ++ [n, a]).any badB) w) := by
  have HC := Lib.hid hc
  clear hc
  obtain ⟨i0, hi, hz0, hz1, hz2⟩ := info_parts infoInt
  have Hi := Lib.hid hi
  have Hz0 := Lib.hid hz0
  have Hz1 := Lib.hid hz1
  have Hz2 := Lib.hid hz2
  clear hi hz0 hz1 hz2
  go_enter Try.func17, Try.ntmps17
  go_wp2_with (at_builtin; refine wpList_append_grows _ rfl _ _ 34 rfl 3 i0 (.int .i64 0) 1 8 Try.underlying34 Hi.out Hz0.out Hz1.out Hz2.out rfl (by decide) (some ⟨b, 0, none⟩) zs.length zs.length (zs.map (Value.int .i64)) rfl (by simp) (by simp) ?c1 ⟨w.heap.size + 1, 0, none⟩ 2 2 [.int .i64 n, .int .i64 a] rfl rfl ?c2 ?c3 (by omega) (by unfold maxLen; omega) (by omega) ?_)
  case c1 =>
    intro c hc j u hj
    obtain rfl : (⟨b, 0, none⟩ : Addr) = c := by simpa using hc
    rw [List.getElem?_map] at hj
    obtain ⟨z, hz, rfl⟩ := Option.map_eq_some_iff.1 hj
    rw [Addr.add_lit]
    simp only [Nat.zero_add]
    exact (((Ext.refl _).alloc _).alloc _).cell (HC.out j z hz)
  case c2 => exact cells2 (by simp) (by simp)
  case c3 => simp [Value.oneCell']
  intro v' w1 hown hg
  have hb : Ext w w1 := (((Ext.refl _).alloc _).alloc _).grown hg (by simp)
  clear hg
  obtain ⟨g, cap, hv, hbg, hgs, hcs⟩ := owned_ints (zs := zs ++ [n, a]) (by rw [List.map_append]; exact hown) (by omega)
  rw [hv]
  have HCS := Lib.hid hcs
  clear hown hcs hv
  go_wp2_with (go_at_call 21; refine (contains_any _ _ _ _ _ (by simp) (by simp; omega) HCS.out).mono ?_; rintro e w' ⟨rfl, rfl⟩)
  go_ret
  exact ⟨by simp, hb⟩

theorem bad_of {z : Int} (h : okI z) : badB z = false := by have h1 := h.1; have h2 := h.2; simp [badB]; omega
theorem fit_yes (n a : Int) (b : Nat) (zs : List Int) (len cap : Nat) (w : World) (hlen : len = zs.length) (hcap : cap = zs.length) (hl : zs.length ≤ 50) (hpos : 0 < zs.length) (hn : okI n) (ha : okI a) (hz : ∀ z ∈ zs, okI z) (hc : ∀ (i : Nat) z, zs[i]? = some z → w.cell? ⟨b, i, none⟩ = some (.int .i64 z)) :
    Calls Try.prog 17 #[pl n a, .slice (some ⟨b, 0, none⟩) len cap] w (RBool true w) := by
  subst hlen hcap
  have h := fit_any n a b zs w hl hpos hc
  have e : (!(zs ++ [n, a]).any badB) = true := by
    have : zs.any badB = false := by
      rw [List.any_eq_false]; intro z h; simp [bad_of (hz z h)]
    simp [this, bad_of hn, bad_of ha]
  rw [e] at h
  exact h

/-- a place is returned; only new blocks -/
def RPlace (n a : Int) (w : World) (e : Ending) (w' : World) : Prop := e = .returned (pl n a) ∧ Ext w w'
set_option maxHeartbeats 400000 in
theorem to_any (n a : Int) (w : World) :
    Calls Try.prog 19 #[.int .i64 n, .int .i64 a] w (RPlace n a w) := by
  go_enter Try.func19, Try.ntmps19
  go_wp2
  refine bodyPost_ret (v := .agg #[.int .i64 n, .int .i64 a]) (by simp [results, Try.results19, go_sem]) rfl ⟨rfl, ?_⟩
  exact (Ext.refl _).alloc _
end Go.Proofs.Ytpachfdibhnobaa
