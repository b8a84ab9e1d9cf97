/- The document's lexer: runs over bytes; Letter, name. Conditions: at most 10^6 bytes. -/
import Derived.Test.YtdafdoodegpdhaaGreatDoorZ3
namespace Go.Proofs.YtdafdoodegpdhaaGreatDoor
open Go Go.RowKit Go.BigFrame
set_option linter.unusedVariables false
set_option linter.unusedSimpArgs false

/-- a run from k on over bytes that p holds of ends at m -/
structure Scan (p : UInt8 → Bool) (s : ByteArray) (k m : Nat) : Prop where
  le : k ≤ m
  fit : m ≤ s.size
  on : ∀ j c, k ≤ j → j < m → s.data.toList[j]? = some c → p c = true
  off : ∀ c, s.data.toList[m]? = some c → p c = false
theorem scan_of (p : UInt8 → Bool) (s : ByteArray) (k : Nat) (hk : k ≤ s.size) : ∃ m, Scan p s k m ∧ (s.data.toList.drop k).dropWhile p = s.data.toList.drop m ∧ s.extract k m = bs ((s.data.toList.drop k).takeWhile p) := by
  have e0 : s.data.toList.length = s.size := rfl
  obtain ⟨l, hl⟩ : ∃ l, s.data.toList = l := ⟨_, rfl⟩
  rw [hl] at e0
  have h1 := take_drop_while p (l.drop k)
  have h2 := congrArg List.length h1
  rw [List.length_append, List.length_drop] at h2
  obtain ⟨n, hn⟩ : ∃ n, ((l.drop k).takeWhile p).length = n := ⟨_, rfl⟩
  rw [hn] at h2
  have hd : (l.drop k).dropWhile p = l.drop (k + n) := by
    rw [← List.drop_drop]
    conv => rhs; rw [← h1]
    rw [← hn, List.drop_left]
  refine ⟨k + n, ⟨by omega, by omega, ?_, ?_⟩, by rw [hl]; exact hd, ?_⟩
  · intro j c hj hjm hc
    rw [hl] at hc
    have h3 : (l.drop k)[j - k]? = some c := by rw [List.getElem?_drop, show k + (j - k) = j by omega]; exact hc
    rw [← h1, List.getElem?_append_left (by omega)] at h3
    exact List.all_eq_true.1 List.all_takeWhile c (List.mem_of_getElem? h3)
  · intro c hc
    rw [hl] at hc
    have h3 := List.head?_dropWhile_not p (l.drop k)
    rw [hd, List.head?_drop, hc] at h3
    simpa using h3
  · have h := bs_cut s.data.toList k (k + n)
    rw [bs_list, hl, show k + n - k = n by omega] at h
    rw [h, hl]
    conv => lhs; rw [← h1]
    rw [← hn, List.take_left]
theorem at_idx (s : ByteArray) (j : Nat) (h : j < s.size) : ∃ c, s.data.toList[j]? = some c ∧ ∀ W : World, (Instr.index 9 (.string s) (.int .i64 (j : Int))).run Tryz.prog W = .ok (.int .u8 (c.toNat : Int)) W := by
  refine ⟨s[j]'h, by rw [List.getElem?_eq_getElem (by exact h)]; rfl, fun W => ?_⟩
  rw [run_index_string W 9 s .i64 (j : Int) Tryz.underlying9, dif_pos ⟨by omega, by omega⟩]
  simp only [Int.toNat_natCast]
theorem idx_of (s : ByteArray) (j : Nat) (c : UInt8) (h : s.data.toList[j]? = some c) (W : World) : (Instr.index 9 (.string s) (.int .i64 (j : Int))).run Tryz.prog W = .ok (.int .u8 (c.toNat : Int)) W := by
  have hj : j < s.size := (List.getElem?_eq_some_iff.1 h).1
  obtain ⟨d, h1, h2⟩ := at_idx s j hj
  rw [h] at h1
  cases h1
  exact h2 W
set_option maxRecDepth 100000 in
theorem rLetter_any (c : UInt8) (w : World) : Calls Tryz.prog 34 #[.int .u8 (c.toNat : Int)] w (RBool (letterB c) w) := by
  have x := Ext.refl w
  obtain ⟨b, hb⟩ : ∃ b, letterB c = b := ⟨_, rfl⟩
  rw [hb]
  rw [letter_iff] at hb
  obtain ⟨z, hz⟩ : ∃ z, c.toNat = z := ⟨_, rfl⟩
  rw [hz] at hb ⊢
  clear hz

  by_cases q0 : z < 65
  · have hb0 : b = false := by rw [← hb]; exact decide_eq_false (by omega)
    subst hb0
    clear hb
    have t0 : decide ((97 : Int) ≤ (z : Int)) = false := decide_eq_false (by omega)
    have t1 : decide ((65 : Int) ≤ (z : Int)) = false := decide_eq_false (by omega)
    have n0 : decide (97 ≤ z) = false := decide_eq_false (by omega)
    have n1 : decide (65 ≤ z) = false := decide_eq_false (by omega)
    clear q0
    go_enter Tryz.func34, Tryz.ntmps34
    go_wp2_with fail
    go_ret
    exact ⟨rfl, x⟩
  by_cases q1 : z ≤ 90
  · have hb0 : b = true := by rw [← hb]; exact decide_eq_true (by omega)
    subst hb0
    clear hb
    have t0 : decide ((97 : Int) ≤ (z : Int)) = false := decide_eq_false (by omega)
    have t1 : decide ((65 : Int) ≤ (z : Int)) = true := decide_eq_true (by omega)
    have t2 : decide ((z : Int) ≤ 90) = true := decide_eq_true (by omega)
    have n0 : decide (97 ≤ z) = false := decide_eq_false (by omega)
    have n1 : decide (65 ≤ z) = true := decide_eq_true (by omega)
    have n2 : decide (z ≤ 90) = true := decide_eq_true (by omega)
    clear q0
    clear q1
    go_enter Tryz.func34, Tryz.ntmps34
    go_wp2_with fail
    go_ret
    exact ⟨rfl, x⟩
  by_cases q2 : z < 97
  · have hb0 : b = false := by rw [← hb]; exact decide_eq_false (by omega)
    subst hb0
    clear hb
    have t0 : decide ((97 : Int) ≤ (z : Int)) = false := decide_eq_false (by omega)
    have t1 : decide ((65 : Int) ≤ (z : Int)) = true := decide_eq_true (by omega)
    have t2 : decide ((z : Int) ≤ 90) = false := decide_eq_false (by omega)
    have n0 : decide (97 ≤ z) = false := decide_eq_false (by omega)
    have n1 : decide (65 ≤ z) = true := decide_eq_true (by omega)
    have n2 : decide (z ≤ 90) = false := decide_eq_false (by omega)
    clear q0
    clear q1
    clear q2
    go_enter Tryz.func34, Tryz.ntmps34
    go_wp2_with fail
    go_ret
    exact ⟨rfl, x⟩
  by_cases q3 : z ≤ 122
  · have hb0 : b = true := by rw [← hb]; exact decide_eq_true (by omega)
    subst hb0
    clear hb
    have t0 : decide ((97 : Int) ≤ (z : Int)) = true := decide_eq_true (by omega)
    have t1 : decide ((z : Int) ≤ 122) = true := decide_eq_true (by omega)
    have n0 : decide (97 ≤ z) = true := decide_eq_true (by omega)
    have n1 : decide (z ≤ 122) = true := decide_eq_true (by omega)
    clear q0
    clear q1
    clear q2
    clear q3
    go_enter Tryz.func34, Tryz.ntmps34
    go_wp2_with fail
    go_ret
    exact ⟨rfl, x⟩
  have hb0 : b = false := by rw [← hb]; exact decide_eq_false (by omega)
  subst hb0
  clear hb
  have t0 : decide ((97 : Int) ≤ (z : Int)) = true := decide_eq_true (by omega)
  have t1 : decide ((z : Int) ≤ 122) = false := decide_eq_false (by omega)
  have t2 : decide ((65 : Int) ≤ (z : Int)) = true := decide_eq_true (by omega)
  have t3 : decide ((z : Int) ≤ 90) = false := decide_eq_false (by omega)
  have n0 : decide (97 ≤ z) = true := decide_eq_true (by omega)
  have n1 : decide (z ≤ 122) = false := decide_eq_false (by omega)
  have n2 : decide (65 ≤ z) = true := decide_eq_true (by omega)
  have n3 : decide (z ≤ 90) = false := decide_eq_false (by omega)
  clear q0
  clear q1
  clear q2
  clear q3
  go_enter Tryz.func34, Tryz.ntmps34
  go_wp2_with fail
  go_ret
  exact ⟨rfl, x⟩

/-- what a byte is, in numbers -/
theorem digit_iff (c : UInt8) : digitB c = decide (48 ≤ c.toNat ∧ c.toNat ≤ 57) := rfl
set_option maxHeartbeats 8000000 in
set_option maxRecDepth 100000 in
theorem rname_any (s : ByteArray) (k m : Nat) (hs : s.size ≤ 1000000) (h : Scan alnumB s k m) (w : World) :
    Calls Tryz.prog 35 #[.string s, .int .i64 (k : Int)] w (RVal (.int .i64 (m : Int)) w) := by
  have HSC := Lib.hid h
  have hkm := h.le
  have hms := h.fit
  clear h
  go_enter Tryz.func35, Tryz.ntmps35
  go_wp2_with fail
  go_loopw [1] (fun iv wr => ∃ j : Nat, k ≤ j ∧ j ≤ m ∧ iv = .int .i64 j ∧ Ext w wr) (fun iv _ => m - (intOf iv).toNat)
  case atStart => exact ⟨k, Nat.le_refl _, hkm, rfl, Ext.refl _⟩
  case round =>
    obtain ⟨j, hkj, hjm, rfl, xr⟩ := hrel
    have XR := Lib.hid xr
    clear xr
    by_cases hsz : j < s.size
    · obtain ⟨c, hcl, -⟩ := at_idx s j hsz
      have hix := idx_of s j c hcl
      have ON := Lib.hid (fun h => HSC.out.on j c hkj h hcl)
      have OFF := Lib.hid (fun (h : j = m) => HSC.out.off c (h ▸ hcl))
      have e0 : decide ((j : Int) < (s.size : Int)) = true := decide_eq_true (by omega)
      have e0n : decide (j < s.size) = true := decide_eq_true hsz
      have HLET := Lib.hid (fun W => rLetter_any c W)
      have DG := Lib.hid (digit_iff c)
      obtain ⟨lb, hlb⟩ : ∃ b, letterB c = b := ⟨_, rfl⟩
      have AL : alnumB c = (lb || digitB c) := by rw [← hlb]; rfl
      rw [AL] at ON OFF
      rw [hlb] at HLET
      have hw1 : IntKind.i64.wrap ((j : Int) + 1) = (j : Int) + 1 := IntWalk.i64_in _ (by omega)
      obtain ⟨z, hz⟩ : ∃ z, c.toNat = z := ⟨_, rfl⟩
      rw [hz] at HLET hix DG
      clear hcl AL hlb hz
      cases lb with
      | true =>
        have hlt : j < m := by
          rcases Nat.lt_or_ge j m with h | h
          · exact h
          · have := OFF.out (by omega); simp at this
        clear hsz
        go_wp2_with (go_at_call 34; refine (HLET.out _).mono ?_)
        rintro e w1 ⟨rfl, x1⟩
        go_wp2_with fail
        go_roundw
        case rel => exact ⟨j + 1, by omega, by omega, by go_num, XR.out.trans x1⟩
        case measure => simp [intOf]; omega
      | false =>
        rw [Bool.false_or, DG.out] at ON OFF
        clear DG
        by_cases q1 : 48 ≤ z
        · have t1 : decide ((48 : Int) ≤ (z : Int)) = true := decide_eq_true (by omega)
          have n1 : decide (48 ≤ z) = true := decide_eq_true q1
          by_cases q2 : z ≤ 57
          · have t2 : decide ((z : Int) ≤ 57) = true := decide_eq_true (by omega)
            have n2 : decide (z ≤ 57) = true := decide_eq_true q2
            have hlt : j < m := by
              rcases Nat.lt_or_ge j m with h | h
              · exact h
              · have := OFF.out (by omega); simp at this; omega
            clear hsz q1 q2
            go_wp2_with (go_at_call 34; refine (HLET.out _).mono ?_)
            rintro e w1 ⟨rfl, x1⟩
            go_wp2_with fail
            go_roundw
            case rel => exact ⟨j + 1, by omega, by omega, by go_num, XR.out.trans x1⟩
            case measure => simp [intOf]; omega
          · have t2 : decide ((z : Int) ≤ 57) = false := decide_eq_false (by omega)
            have n2 : decide (z ≤ 57) = false := decide_eq_false q2
            have hlt : j = m := by
              rcases Nat.lt_or_ge j m with h | h
              · have := ON.out h; simp at this; omega
              · omega
            subst hlt
            clear hsz q1 q2
            go_wp2_with (go_at_call 34; refine (HLET.out _).mono ?_)
            rintro e w1 ⟨rfl, x1⟩
            go_wp2_with fail
            go_ret
            exact ⟨rfl, XR.out.trans x1⟩
        · have t1 : decide ((48 : Int) ≤ (z : Int)) = false := decide_eq_false (by omega)
          have n1 : decide (48 ≤ z) = false := decide_eq_false q1
          have hlt : j = m := by
            rcases Nat.lt_or_ge j m with h | h
            · have := ON.out h; simp at this; omega
            · omega
          subst hlt
          clear hsz q1
          go_wp2_with (go_at_call 34; refine (HLET.out _).mono ?_)
          rintro e w1 ⟨rfl, x1⟩
          go_wp2_with fail
          go_ret
          exact ⟨rfl, XR.out.trans x1⟩
    · have e0 : decide ((j : Int) < (s.size : Int)) = false := decide_eq_false (by omega)
      have e0n : decide (j < s.size) = false := decide_eq_false hsz
      have hlt : j = m := by omega
      subst hlt
      clear hsz
      go_wp2_with fail
      go_ret
      exact ⟨rfl, XR.out⟩
end Go.Proofs.YtdafdoodegpdhaaGreatDoor
