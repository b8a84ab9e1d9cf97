/- The document's lexer (14): number at base 10 and 16. -/
import Derived.Test.YtdafdoodegpdhaaDoorLJ
namespace Go.Proofs.YtdafdoodegpdhaaDoor
open Go Go.RowKit Go.BigFrame
set_option linter.unusedVariables false
set_option linter.unusedSimpArgs false

def refN (base most : Nat) (l : List UInt8) : Int := match codeN base most l with | some n => n | none => -1
set_option maxHeartbeats 2000000 in
set_option maxRecDepth 100000 in
theorem number10_any (s : ByteArray) (hs : s.size ≤ 1000000000000) (w : World) : Calls Tryd.prog 42 #[.string s, .int .i64 10, .int .i64 7] w (RVal (.int .i64 (refN 10 7 s.data.toList)) w) := by
  have x := Ext.refl w
  obtain ⟨res, hres⟩ : ∃ z, refN 10 7 s.data.toList = z := ⟨_, rfl⟩
  rw [hres]
  unfold refN at hres
  obtain ⟨l, hl⟩ : ∃ l, s.data.toList = l := ⟨_, rfl⟩
  have hz : l.length = s.size := by rw [← hl]; rfl
  rw [hl] at hres
  by_cases h1 : s.size < 1
  · have h1i : (s.size : Int) < 1 := by omega
    have hr : res = -1 := by rw [← hres]; unfold codeN; rw [if_pos (.inl (List.eq_nil_of_length_eq_zero (by omega)))]
    subst hr
    clear hres hz hl h1
    go_enter Tryd.func42, Tryd.ntmps42
    go_wp2_with fail
    go_ret
    exact ⟨rfl, x⟩
  have h1i : ¬ (s.size : Int) < 1 := by omega
  by_cases h2 : 7 < s.size
  · have h2i : (7 : Int) < (s.size : Int) := by omega
    have hr : res = -1 := by rw [← hres]; unfold codeN; rw [if_pos (.inr (by omega))]
    subst hr
    clear hres hz hl h1 h2
    go_enter Tryd.func42, Tryd.ntmps42
    go_wp2_with fail
    go_ret
    exact ⟨rfl, x⟩
  have h2i : ¬ (7 : Int) < (s.size : Int) := by omega
  obtain ⟨r, hr⟩ : ∃ r, numL 10 0 l = r := ⟨_, rfl⟩
  have hres2 : (match r.filter runeN with | some n => (n : Int) | none => -1) = res := by
    rw [← hres, ← hr]; unfold codeN; rw [if_neg]
    rintro (h | h)
    · rw [h] at hz; simp at hz; omega
    · omega
  have HRES := Lib.hid hres2
  have HR := Lib.hid hr
  have HZ := Lib.hid hz
  have HLL := Lib.hid hl
  obtain ⟨N, hN⟩ : ∃ N, s.size = N := ⟨_, rfl⟩
  have h7 : N ≤ 7 := by omega
  have HN := Lib.hid hN
  clear hres hres2 hr hz h1 h2 hl hN
  go_enter Tryd.func42, Tryd.ntmps42
  go_wp2_with fail
  go_loopw [7, 8, 9, 10] (fun n i _ _ wr => ∃ (k m : Nat), k ≤ s.size ∧ i = .int .i64 k ∧ n = .int .i64 m ∧ numL 10 m (l.drop k) = r ∧ m < 16 ^ k ∧ Ext w wr) (fun _ i _ _ _ => s.size - (intOf i).toNat)
  case atStart => exact ⟨0, 0, Nat.zero_le _, rfl, rfl, by simpa using HR.out, by decide, Ext.refl _⟩
  case round =>
    obtain ⟨k, m, hk, rfl, rfl, hnum, hm, xr⟩ := hrel
    have hp7 := pow_le7 (k := k) (by have := HN.out; omega)
    have HNUM := Lib.hid hnum
    have XR := Lib.hid xr
    have hs7 : s.size ≤ 7 := by have := HN.out; omega
    clear hnum xr
    by_cases hlt : k < s.size
    · obtain ⟨c, hc⟩ : ∃ c, s[k]'hlt = c := ⟨_, rfl⟩
      have hix : ∀ W : World, (Instr.index 9 (.string s) (.int .i64 (k : Int))).run Tryd.prog W = .ok (.int .u8 (c.toNat : Int)) W := by
        intro W
        rw [run_index_string W 9 s .i64 (k : Int) Tryd.underlying9, dif_pos ⟨by omega, by omega⟩]
        simp only [Int.toNat_natCast, hc]
      have hlc : l[k]? = some c := by rw [← HLL.out, List.getElem?_eq_getElem (by exact hlt)]; exact congrArg some hc
      have hdrop : l.drop k = c :: l.drop (k + 1) := by
        obtain ⟨hk2, e⟩ := List.getElem?_eq_some_iff.1 hlc
        rw [List.drop_eq_getElem_cons hk2, e]
      have hn := HNUM.out
      rw [hdrop, numL] at hn
      have BAD := Lib.hid (fun h : ¬ digV c < 10 => show r = none by rw [← hn, if_pos (by omega)])
      have GOOD := Lib.hid (fun h : digV c < 10 => show numL 10 (m * 10 + digV c) (l.drop (k + 1)) = r by rw [← hn, if_neg (by omega)])
      have PW := Lib.hid (show 16 ^ (k + 1) = 16 ^ k * 16 from Nat.pow_succ 16 k)
      have PD := Lib.hid (show digV c = if 48 ≤ c.toNat ∧ c.toNat ≤ 57 then c.toNat - 48 else if 97 ≤ c.toNat ∧ c.toNat ≤ 102 then c.toNat - 87 else if 65 ≤ c.toNat ∧ c.toNat ≤ 70 then c.toNat - 55 else 99 from rfl)
      obtain ⟨P, hP⟩ : ∃ P, 16 ^ k = P := ⟨_, rfl⟩
      rw [hP] at hm hp7 PW
      obtain ⟨d, hd0⟩ : ∃ d, digV c = d := ⟨_, rfl⟩
      rw [hd0] at BAD GOOD PD
      have hc256 : c.toNat < 256 := c.toNat_lt
      clear hc hlc hdrop hn hP hd0
      by_cases c1 : 48 ≤ c.toNat ∧ c.toNat ≤ 57
      · have hd : d = c.toNat - 48 := by rw [PD.out, if_pos c1]
        have c1a : (48 : Int) ≤ (c.toNat : Int) := by omega
        have c1b : (c.toNat : Int) ≤ 57 := by omega
        have hw1 : IntKind.u8.wrap ((c.toNat : Int) - 48) = (d : Int) := by rw [IntWalk.u8_in _ (by omega)]; omega
        have hw2 : IntKind.i64.wrap (d : Int) = (d : Int) := IntWalk.i64_in _ (by omega)
        clear c1
        by_cases hdb : d < 10
        · have G := Lib.hid (GOOD.out hdb)
          have h3d : decide (10 ≤ d) = false := decide_eq_false (by omega)
          have h3i : decide ((10 : Int) ≤ (d : Int)) = false := decide_eq_false (by omega)
          have hm1 : IntKind.i64.wrap ((m : Int) * 10) = (m : Int) * 10 := IntWalk.i64_in _ (by omega)
          have hm2 : IntKind.i64.wrap ((m : Int) * 10 + (d : Int)) = (m : Int) * 10 + (d : Int) := IntWalk.i64_in _ (by omega)
          have hpw : m * 10 + d < 16 ^ (k + 1) := by rw [PW.out]; omega
          have HPW := Lib.hid hpw
          clear hpw hdb hd
          go_wp2_with fail
          go_roundw
          case rel => exact ⟨k + 1, m * 10 + d, by omega, by go_num, by push_cast; rfl, G.out, HPW.out, XR.out⟩
          case measure => simp [intOf]; omega
        · have hr0 : r = none := BAD.out hdb
          have h3d : decide (10 ≤ d) = true := decide_eq_true (by omega)
          have h3i : decide ((10 : Int) ≤ (d : Int)) = true := decide_eq_true (by omega)
          have hres : res = -1 := by rw [← HRES.out, hr0]; rfl
          subst hres
          clear hdb hd
          go_wp2_with fail
          go_ret
          exact ⟨rfl, XR.out⟩

      by_cases q1 : c.toNat < 48
      · skip
        have t0 : ¬ ((48 : Int) ≤ (c.toNat : Int)) := by omega
        have t1 : ¬ ((97 : Int) ≤ (c.toNat : Int)) := by omega
        have t2 : ¬ ((65 : Int) ≤ (c.toNat : Int)) := by omega
        have hd99 : d = 99 := by rw [PD.out, if_neg (by omega), if_neg (by omega), if_neg (by omega)]
        have hr0 : r = none := BAD.out (by omega)
        have hres : res = -1 := by rw [← HRES.out, hr0]; rfl
        subst hres
        clear hd99 c1 q1
        go_wp2_with fail
        go_ret
        exact ⟨rfl, XR.out⟩
      by_cases q2 : c.toNat < 65
      · skip
        have t0 : ((48 : Int) ≤ (c.toNat : Int)) := by omega
        have t1 : ¬ ((c.toNat : Int) ≤ (57 : Int)) := by omega
        have t2 : ¬ ((97 : Int) ≤ (c.toNat : Int)) := by omega
        have t3 : ¬ ((65 : Int) ≤ (c.toNat : Int)) := by omega
        have hd99 : d = 99 := by rw [PD.out, if_neg (by omega), if_neg (by omega), if_neg (by omega)]
        have hr0 : r = none := BAD.out (by omega)
        have hres : res = -1 := by rw [← HRES.out, hr0]; rfl
        subst hres
        clear hd99 c1 q1 q2
        go_wp2_with fail
        go_ret
        exact ⟨rfl, XR.out⟩
      by_cases q3 : c.toNat ≤ 70
      · have hd : d = c.toNat - 55 := by rw [PD.out, if_neg (by omega), if_neg (by omega), if_pos (by omega)]
        have t0 : ((48 : Int) ≤ (c.toNat : Int)) := by omega
        have t1 : ¬ ((c.toNat : Int) ≤ (57 : Int)) := by omega
        have t2 : ¬ ((97 : Int) ≤ (c.toNat : Int)) := by omega
        have t3 : ((65 : Int) ≤ (c.toNat : Int)) := by omega
        have t4 : ((c.toNat : Int) ≤ (70 : Int)) := by omega
        have hw1 : IntKind.u8.wrap ((c.toNat : Int) - 65) = (c.toNat : Int) - 65 := IntWalk.u8_in _ (by omega)
        have hw2 : IntKind.i64.wrap ((c.toNat : Int) - 65) = (c.toNat : Int) - 65 := IntWalk.i64_in _ (by omega)
        have hw3 : IntKind.i64.wrap ((c.toNat : Int) - 65 + 10) = (d : Int) := by rw [IntWalk.i64_in _ (by omega)]; omega
        clear c1 q1 q2 q3
        by_cases hdb : d < 10
        · have G := Lib.hid (GOOD.out hdb)
          have h3d : decide (10 ≤ d) = false := decide_eq_false (by omega)
          have h3i : decide ((10 : Int) ≤ (d : Int)) = false := decide_eq_false (by omega)
          have hm1 : IntKind.i64.wrap ((m : Int) * 10) = (m : Int) * 10 := IntWalk.i64_in _ (by omega)
          have hm2 : IntKind.i64.wrap ((m : Int) * 10 + (d : Int)) = (m : Int) * 10 + (d : Int) := IntWalk.i64_in _ (by omega)
          have hpw : m * 10 + d < 16 ^ (k + 1) := by rw [PW.out]; omega
          have HPW := Lib.hid hpw
          clear hpw hdb hd
          go_wp2_with fail
          go_roundw
          case rel => exact ⟨k + 1, m * 10 + d, by omega, by go_num, by push_cast; rfl, G.out, HPW.out, XR.out⟩
          case measure => simp [intOf]; omega
        · have hr0 : r = none := BAD.out hdb
          have h3d : decide (10 ≤ d) = true := decide_eq_true (by omega)
          have h3i : decide ((10 : Int) ≤ (d : Int)) = true := decide_eq_true (by omega)
          have hres : res = -1 := by rw [← HRES.out, hr0]; rfl
          subst hres
          clear hdb hd
          go_wp2_with fail
          go_ret
          exact ⟨rfl, XR.out⟩
      by_cases q4 : c.toNat < 97
      · skip
        have t0 : ((48 : Int) ≤ (c.toNat : Int)) := by omega
        have t1 : ¬ ((c.toNat : Int) ≤ (57 : Int)) := by omega
        have t2 : ¬ ((97 : Int) ≤ (c.toNat : Int)) := by omega
        have t3 : ((65 : Int) ≤ (c.toNat : Int)) := by omega
        have t4 : ¬ ((c.toNat : Int) ≤ (70 : Int)) := by omega
        have hd99 : d = 99 := by rw [PD.out, if_neg (by omega), if_neg (by omega), if_neg (by omega)]
        have hr0 : r = none := BAD.out (by omega)
        have hres : res = -1 := by rw [← HRES.out, hr0]; rfl
        subst hres
        clear hd99 c1 q1 q2 q3 q4
        go_wp2_with fail
        go_ret
        exact ⟨rfl, XR.out⟩
      by_cases q5 : c.toNat ≤ 102
      · have hd : d = c.toNat - 87 := by rw [PD.out, if_neg (by omega), if_pos (by omega)]
        have t0 : ((48 : Int) ≤ (c.toNat : Int)) := by omega
        have t1 : ¬ ((c.toNat : Int) ≤ (57 : Int)) := by omega
        have t2 : ((97 : Int) ≤ (c.toNat : Int)) := by omega
        have t3 : ((c.toNat : Int) ≤ (102 : Int)) := by omega
        have hw1 : IntKind.u8.wrap ((c.toNat : Int) - 97) = (c.toNat : Int) - 97 := IntWalk.u8_in _ (by omega)
        have hw2 : IntKind.i64.wrap ((c.toNat : Int) - 97) = (c.toNat : Int) - 97 := IntWalk.i64_in _ (by omega)
        have hw3 : IntKind.i64.wrap ((c.toNat : Int) - 97 + 10) = (d : Int) := by rw [IntWalk.i64_in _ (by omega)]; omega
        clear c1 q1 q2 q3 q4 q5
        by_cases hdb : d < 10
        · have G := Lib.hid (GOOD.out hdb)
          have h3d : decide (10 ≤ d) = false := decide_eq_false (by omega)
          have h3i : decide ((10 : Int) ≤ (d : Int)) = false := decide_eq_false (by omega)
          have hm1 : IntKind.i64.wrap ((m : Int) * 10) = (m : Int) * 10 := IntWalk.i64_in _ (by omega)
          have hm2 : IntKind.i64.wrap ((m : Int) * 10 + (d : Int)) = (m : Int) * 10 + (d : Int) := IntWalk.i64_in _ (by omega)
          have hpw : m * 10 + d < 16 ^ (k + 1) := by rw [PW.out]; omega
          have HPW := Lib.hid hpw
          clear hpw hdb hd
          go_wp2_with fail
          go_roundw
          case rel => exact ⟨k + 1, m * 10 + d, by omega, by go_num, by push_cast; rfl, G.out, HPW.out, XR.out⟩
          case measure => simp [intOf]; omega
        · have hr0 : r = none := BAD.out hdb
          have h3d : decide (10 ≤ d) = true := decide_eq_true (by omega)
          have h3i : decide ((10 : Int) ≤ (d : Int)) = true := decide_eq_true (by omega)
          have hres : res = -1 := by rw [← HRES.out, hr0]; rfl
          subst hres
          clear hdb hd
          go_wp2_with fail
          go_ret
          exact ⟨rfl, XR.out⟩
      have t0 : ((48 : Int) ≤ (c.toNat : Int)) := by omega
      have t1 : ¬ ((c.toNat : Int) ≤ (57 : Int)) := by omega
      have t2 : ((97 : Int) ≤ (c.toNat : Int)) := by omega
      have t3 : ¬ ((c.toNat : Int) ≤ (102 : Int)) := by omega
      have t4 : ((65 : Int) ≤ (c.toNat : Int)) := by omega
      have t5 : ¬ ((c.toNat : Int) ≤ (70 : Int)) := by omega
      have hd99 : d = 99 := by rw [PD.out, if_neg (by omega), if_neg (by omega), if_neg (by omega)]
      have hr0 : r = none := BAD.out (by omega)
      have hres : res = -1 := by rw [← HRES.out, hr0]; rfl
      subst hres
      clear hd99 c1 q1 q2 q3 q4 q5
      go_wp2_with fail
      go_ret
      exact ⟨rfl, XR.out⟩
    · obtain rfl : k = s.size := by omega
      have hr1 : r = some m := by rw [← HNUM.out, List.drop_eq_nil_of_le (by have := HZ.out; omega)]; rfl
      have hlt1 : ¬ (s.size : Int) < (s.size : Int) := by omega
      by_cases n0 : m = 0
      · have hres : res = -1 := by rw [← HRES.out, hr1, n0]; rfl
        have k0 : ((m : Int) == 0) = true := by simp [n0]
        subst hres
        clear n0 hr1
        go_wp2_with fail
        go_ret
        exact ⟨rfl, XR.out⟩
      have k0 : ((m : Int) == 0) = false := by rw [beq_eq_false_iff_ne]; omega
      by_cases n1 : (1114111 : Int) < (m : Int)
      · have hres : res = -1 := by
          have hf : runeN m = false := by unfold runeN; exact decide_eq_false (by omega)
          rw [← HRES.out, hr1]; simp [Option.filter, hf]
        subst hres
        clear n0 hr1
        go_wp2_with fail
        go_ret
        exact ⟨rfl, XR.out⟩
      by_cases n2 : (55296 : Int) ≤ (m : Int)
      · by_cases n3 : (m : Int) ≤ 57343
        · have hres : res = -1 := by
            have hf : runeN m = false := by unfold runeN; exact decide_eq_false (by omega)
            rw [← HRES.out, hr1]; simp [Option.filter, hf]
          subst hres
          clear n0 hr1
          go_wp2_with fail
          go_ret
          exact ⟨rfl, XR.out⟩
        · have hres : res = (m : Int) := by
            have hf : runeN m = true := by unfold runeN; exact decide_eq_true (by omega)
            rw [← HRES.out, hr1]; simp [Option.filter, hf]
          subst hres
          clear n0 hr1
          go_wp2_with fail
          go_ret
          exact ⟨rfl, XR.out⟩
      · have hres : res = (m : Int) := by
          have hf : runeN m = true := by unfold runeN; exact decide_eq_true (by omega)
          rw [← HRES.out, hr1]; simp [Option.filter, hf]
        subst hres
        clear n0 hr1
        go_wp2_with fail
        go_ret
        exact ⟨rfl, XR.out⟩
set_option maxHeartbeats 2000000 in
set_option maxRecDepth 100000 in
theorem number16_any (s : ByteArray) (hs : s.size ≤ 1000000000000) (w : World) : Calls Tryd.prog 42 #[.string s, .int .i64 16, .int .i64 6] w (RVal (.int .i64 (refN 16 6 s.data.toList)) w) := by
  have x := Ext.refl w
  obtain ⟨res, hres⟩ : ∃ z, refN 16 6 s.data.toList = z := ⟨_, rfl⟩
  rw [hres]
  unfold refN at hres
  obtain ⟨l, hl⟩ : ∃ l, s.data.toList = l := ⟨_, rfl⟩
  have hz : l.length = s.size := by rw [← hl]; rfl
  rw [hl] at hres
  by_cases h1 : s.size < 1
  · have h1i : (s.size : Int) < 1 := by omega
    have hr : res = -1 := by rw [← hres]; unfold codeN; rw [if_pos (.inl (List.eq_nil_of_length_eq_zero (by omega)))]
    subst hr
    clear hres hz hl h1
    go_enter Tryd.func42, Tryd.ntmps42
    go_wp2_with fail
    go_ret
    exact ⟨rfl, x⟩
  have h1i : ¬ (s.size : Int) < 1 := by omega
  by_cases h2 : 6 < s.size
  · have h2i : (6 : Int) < (s.size : Int) := by omega
    have hr : res = -1 := by rw [← hres]; unfold codeN; rw [if_pos (.inr (by omega))]
    subst hr
    clear hres hz hl h1 h2
    go_enter Tryd.func42, Tryd.ntmps42
    go_wp2_with fail
    go_ret
    exact ⟨rfl, x⟩
  have h2i : ¬ (6 : Int) < (s.size : Int) := by omega
  obtain ⟨r, hr⟩ : ∃ r, numL 16 0 l = r := ⟨_, rfl⟩
  have hres2 : (match r.filter runeN with | some n => (n : Int) | none => -1) = res := by
    rw [← hres, ← hr]; unfold codeN; rw [if_neg]
    rintro (h | h)
    · rw [h] at hz; simp at hz; omega
    · omega
  have HRES := Lib.hid hres2
  have HR := Lib.hid hr
  have HZ := Lib.hid hz
  have HLL := Lib.hid hl
  obtain ⟨N, hN⟩ : ∃ N, s.size = N := ⟨_, rfl⟩
  have h7 : N ≤ 7 := by omega
  have HN := Lib.hid hN
  clear hres hres2 hr hz h1 h2 hl hN
  go_enter Tryd.func42, Tryd.ntmps42
  go_wp2_with fail
  go_loopw [7, 8, 9, 10] (fun n i _ _ wr => ∃ (k m : Nat), k ≤ s.size ∧ i = .int .i64 k ∧ n = .int .i64 m ∧ numL 16 m (l.drop k) = r ∧ m < 16 ^ k ∧ Ext w wr) (fun _ i _ _ _ => s.size - (intOf i).toNat)
  case atStart => exact ⟨0, 0, Nat.zero_le _, rfl, rfl, by simpa using HR.out, by decide, Ext.refl _⟩
  case round =>
    obtain ⟨k, m, hk, rfl, rfl, hnum, hm, xr⟩ := hrel
    have hp7 := pow_le7 (k := k) (by have := HN.out; omega)
    have HNUM := Lib.hid hnum
    have XR := Lib.hid xr
    have hs7 : s.size ≤ 7 := by have := HN.out; omega
    clear hnum xr
    by_cases hlt : k < s.size
    · obtain ⟨c, hc⟩ : ∃ c, s[k]'hlt = c := ⟨_, rfl⟩
      have hix : ∀ W : World, (Instr.index 9 (.string s) (.int .i64 (k : Int))).run Tryd.prog W = .ok (.int .u8 (c.toNat : Int)) W := by
        intro W
        rw [run_index_string W 9 s .i64 (k : Int) Tryd.underlying9, dif_pos ⟨by omega, by omega⟩]
        simp only [Int.toNat_natCast, hc]
      have hlc : l[k]? = some c := by rw [← HLL.out, List.getElem?_eq_getElem (by exact hlt)]; exact congrArg some hc
      have hdrop : l.drop k = c :: l.drop (k + 1) := by
        obtain ⟨hk2, e⟩ := List.getElem?_eq_some_iff.1 hlc
        rw [List.drop_eq_getElem_cons hk2, e]
      have hn := HNUM.out
      rw [hdrop, numL] at hn
      have BAD := Lib.hid (fun h : ¬ digV c < 16 => show r = none by rw [← hn, if_pos (by omega)])
      have GOOD := Lib.hid (fun h : digV c < 16 => show numL 16 (m * 16 + digV c) (l.drop (k + 1)) = r by rw [← hn, if_neg (by omega)])
      have PW := Lib.hid (show 16 ^ (k + 1) = 16 ^ k * 16 from Nat.pow_succ 16 k)
      have PD := Lib.hid (show digV c = if 48 ≤ c.toNat ∧ c.toNat ≤ 57 then c.toNat - 48 else if 97 ≤ c.toNat ∧ c.toNat ≤ 102 then c.toNat - 87 else if 65 ≤ c.toNat ∧ c.toNat ≤ 70 then c.toNat - 55 else 99 from rfl)
      obtain ⟨P, hP⟩ : ∃ P, 16 ^ k = P := ⟨_, rfl⟩
      rw [hP] at hm hp7 PW
      obtain ⟨d, hd0⟩ : ∃ d, digV c = d := ⟨_, rfl⟩
      rw [hd0] at BAD GOOD PD
      have hc256 : c.toNat < 256 := c.toNat_lt
      clear hc hlc hdrop hn hP hd0
      by_cases c1 : 48 ≤ c.toNat ∧ c.toNat ≤ 57
      · have hd : d = c.toNat - 48 := by rw [PD.out, if_pos c1]
        have c1a : (48 : Int) ≤ (c.toNat : Int) := by omega
        have c1b : (c.toNat : Int) ≤ 57 := by omega
        have hw1 : IntKind.u8.wrap ((c.toNat : Int) - 48) = (d : Int) := by rw [IntWalk.u8_in _ (by omega)]; omega
        have hw2 : IntKind.i64.wrap (d : Int) = (d : Int) := IntWalk.i64_in _ (by omega)
        clear c1
        by_cases hdb : d < 16
        · have G := Lib.hid (GOOD.out hdb)
          have h3d : decide (16 ≤ d) = false := decide_eq_false (by omega)
          have h3i : decide ((16 : Int) ≤ (d : Int)) = false := decide_eq_false (by omega)
          have hm1 : IntKind.i64.wrap ((m : Int) * 16) = (m : Int) * 16 := IntWalk.i64_in _ (by omega)
          have hm2 : IntKind.i64.wrap ((m : Int) * 16 + (d : Int)) = (m : Int) * 16 + (d : Int) := IntWalk.i64_in _ (by omega)
          have hpw : m * 16 + d < 16 ^ (k + 1) := by rw [PW.out]; omega
          have HPW := Lib.hid hpw
          clear hpw hdb hd
          go_wp2_with fail
          go_roundw
          case rel => exact ⟨k + 1, m * 16 + d, by omega, by go_num, by push_cast; rfl, G.out, HPW.out, XR.out⟩
          case measure => simp [intOf]; omega
        · have hr0 : r = none := BAD.out hdb
          have h3d : decide (16 ≤ d) = true := decide_eq_true (by omega)
          have h3i : decide ((16 : Int) ≤ (d : Int)) = true := decide_eq_true (by omega)
          have hres : res = -1 := by rw [← HRES.out, hr0]; rfl
          subst hres
          clear hdb hd
          go_wp2_with fail
          go_ret
          exact ⟨rfl, XR.out⟩

      by_cases q1 : c.toNat < 48
      · skip
        have t0 : ¬ ((48 : Int) ≤ (c.toNat : Int)) := by omega
        have t1 : ¬ ((97 : Int) ≤ (c.toNat : Int)) := by omega
        have t2 : ¬ ((65 : Int) ≤ (c.toNat : Int)) := by omega
        have hd99 : d = 99 := by rw [PD.out, if_neg (by omega), if_neg (by omega), if_neg (by omega)]
        have hr0 : r = none := BAD.out (by omega)
        have hres : res = -1 := by rw [← HRES.out, hr0]; rfl
        subst hres
        clear hd99 c1 q1
        go_wp2_with fail
        go_ret
        exact ⟨rfl, XR.out⟩
      by_cases q2 : c.toNat < 65
      · skip
        have t0 : ((48 : Int) ≤ (c.toNat : Int)) := by omega
        have t1 : ¬ ((c.toNat : Int) ≤ (57 : Int)) := by omega
        have t2 : ¬ ((97 : Int) ≤ (c.toNat : Int)) := by omega
        have t3 : ¬ ((65 : Int) ≤ (c.toNat : Int)) := by omega
        have hd99 : d = 99 := by rw [PD.out, if_neg (by omega), if_neg (by omega), if_neg (by omega)]
        have hr0 : r = none := BAD.out (by omega)
        have hres : res = -1 := by rw [← HRES.out, hr0]; rfl
        subst hres
        clear hd99 c1 q1 q2
        go_wp2_with fail
        go_ret
        exact ⟨rfl, XR.out⟩
      by_cases q3 : c.toNat ≤ 70
      · have hd : d = c.toNat - 55 := by rw [PD.out, if_neg (by omega), if_neg (by omega), if_pos (by omega)]
        have t0 : ((48 : Int) ≤ (c.toNat : Int)) := by omega
        have t1 : ¬ ((c.toNat : Int) ≤ (57 : Int)) := by omega
        have t2 : ¬ ((97 : Int) ≤ (c.toNat : Int)) := by omega
        have t3 : ((65 : Int) ≤ (c.toNat : Int)) := by omega
        have t4 : ((c.toNat : Int) ≤ (70 : Int)) := by omega
        have hw1 : IntKind.u8.wrap ((c.toNat : Int) - 65) = (c.toNat : Int) - 65 := IntWalk.u8_in _ (by omega)
        have hw2 : IntKind.i64.wrap ((c.toNat : Int) - 65) = (c.toNat : Int) - 65 := IntWalk.i64_in _ (by omega)
        have hw3 : IntKind.i64.wrap ((c.toNat : Int) - 65 + 10) = (d : Int) := by rw [IntWalk.i64_in _ (by omega)]; omega
        clear c1 q1 q2 q3
        by_cases hdb : d < 16
        · have G := Lib.hid (GOOD.out hdb)
          have h3d : decide (16 ≤ d) = false := decide_eq_false (by omega)
          have h3i : decide ((16 : Int) ≤ (d : Int)) = false := decide_eq_false (by omega)
          have hm1 : IntKind.i64.wrap ((m : Int) * 16) = (m : Int) * 16 := IntWalk.i64_in _ (by omega)
          have hm2 : IntKind.i64.wrap ((m : Int) * 16 + (d : Int)) = (m : Int) * 16 + (d : Int) := IntWalk.i64_in _ (by omega)
          have hpw : m * 16 + d < 16 ^ (k + 1) := by rw [PW.out]; omega
          have HPW := Lib.hid hpw
          clear hpw hdb hd
          go_wp2_with fail
          go_roundw
          case rel => exact ⟨k + 1, m * 16 + d, by omega, by go_num, by push_cast; rfl, G.out, HPW.out, XR.out⟩
          case measure => simp [intOf]; omega
        · have hr0 : r = none := BAD.out hdb
          have h3d : decide (16 ≤ d) = true := decide_eq_true (by omega)
          have h3i : decide ((16 : Int) ≤ (d : Int)) = true := decide_eq_true (by omega)
          have hres : res = -1 := by rw [← HRES.out, hr0]; rfl
          subst hres
          clear hdb hd
          go_wp2_with fail
          go_ret
          exact ⟨rfl, XR.out⟩
      by_cases q4 : c.toNat < 97
      · skip
        have t0 : ((48 : Int) ≤ (c.toNat : Int)) := by omega
        have t1 : ¬ ((c.toNat : Int) ≤ (57 : Int)) := by omega
        have t2 : ¬ ((97 : Int) ≤ (c.toNat : Int)) := by omega
        have t3 : ((65 : Int) ≤ (c.toNat : Int)) := by omega
        have t4 : ¬ ((c.toNat : Int) ≤ (70 : Int)) := by omega
        have hd99 : d = 99 := by rw [PD.out, if_neg (by omega), if_neg (by omega), if_neg (by omega)]
        have hr0 : r = none := BAD.out (by omega)
        have hres : res = -1 := by rw [← HRES.out, hr0]; rfl
        subst hres
        clear hd99 c1 q1 q2 q3 q4
        go_wp2_with fail
        go_ret
        exact ⟨rfl, XR.out⟩
      by_cases q5 : c.toNat ≤ 102
      · have hd : d = c.toNat - 87 := by rw [PD.out, if_neg (by omega), if_pos (by omega)]
        have t0 : ((48 : Int) ≤ (c.toNat : Int)) := by omega
        have t1 : ¬ ((c.toNat : Int) ≤ (57 : Int)) := by omega
        have t2 : ((97 : Int) ≤ (c.toNat : Int)) := by omega
        have t3 : ((c.toNat : Int) ≤ (102 : Int)) := by omega
        have hw1 : IntKind.u8.wrap ((c.toNat : Int) - 97) = (c.toNat : Int) - 97 := IntWalk.u8_in _ (by omega)
        have hw2 : IntKind.i64.wrap ((c.toNat : Int) - 97) = (c.toNat : Int) - 97 := IntWalk.i64_in _ (by omega)
        have hw3 : IntKind.i64.wrap ((c.toNat : Int) - 97 + 10) = (d : Int) := by rw [IntWalk.i64_in _ (by omega)]; omega
        clear c1 q1 q2 q3 q4 q5
        by_cases hdb : d < 16
        · have G := Lib.hid (GOOD.out hdb)
          have h3d : decide (16 ≤ d) = false := decide_eq_false (by omega)
          have h3i : decide ((16 : Int) ≤ (d : Int)) = false := decide_eq_false (by omega)
          have hm1 : IntKind.i64.wrap ((m : Int) * 16) = (m : Int) * 16 := IntWalk.i64_in _ (by omega)
          have hm2 : IntKind.i64.wrap ((m : Int) * 16 + (d : Int)) = (m : Int) * 16 + (d : Int) := IntWalk.i64_in _ (by omega)
          have hpw : m * 16 + d < 16 ^ (k + 1) := by rw [PW.out]; omega
          have HPW := Lib.hid hpw
          clear hpw hdb hd
          go_wp2_with fail
          go_roundw
          case rel => exact ⟨k + 1, m * 16 + d, by omega, by go_num, by push_cast; rfl, G.out, HPW.out, XR.out⟩
          case measure => simp [intOf]; omega
        · have hr0 : r = none := BAD.out hdb
          have h3d : decide (16 ≤ d) = true := decide_eq_true (by omega)
          have h3i : decide ((16 : Int) ≤ (d : Int)) = true := decide_eq_true (by omega)
          have hres : res = -1 := by rw [← HRES.out, hr0]; rfl
          subst hres
          clear hdb hd
          go_wp2_with fail
          go_ret
          exact ⟨rfl, XR.out⟩
      have t0 : ((48 : Int) ≤ (c.toNat : Int)) := by omega
      have t1 : ¬ ((c.toNat : Int) ≤ (57 : Int)) := by omega
      have t2 : ((97 : Int) ≤ (c.toNat : Int)) := by omega
      have t3 : ¬ ((c.toNat : Int) ≤ (102 : Int)) := by omega
      have t4 : ((65 : Int) ≤ (c.toNat : Int)) := by omega
      have t5 : ¬ ((c.toNat : Int) ≤ (70 : Int)) := by omega
      have hd99 : d = 99 := by rw [PD.out, if_neg (by omega), if_neg (by omega), if_neg (by omega)]
      have hr0 : r = none := BAD.out (by omega)
      have hres : res = -1 := by rw [← HRES.out, hr0]; rfl
      subst hres
      clear hd99 c1 q1 q2 q3 q4 q5
      go_wp2_with fail
      go_ret
      exact ⟨rfl, XR.out⟩
    · obtain rfl : k = s.size := by omega
      have hr1 : r = some m := by rw [← HNUM.out, List.drop_eq_nil_of_le (by have := HZ.out; omega)]; rfl
      have hlt1 : ¬ (s.size : Int) < (s.size : Int) := by omega
      by_cases n0 : m = 0
      · have hres : res = -1 := by rw [← HRES.out, hr1, n0]; rfl
        have k0 : ((m : Int) == 0) = true := by simp [n0]
        subst hres
        clear n0 hr1
        go_wp2_with fail
        go_ret
        exact ⟨rfl, XR.out⟩
      have k0 : ((m : Int) == 0) = false := by rw [beq_eq_false_iff_ne]; omega
      by_cases n1 : (1114111 : Int) < (m : Int)
      · have hres : res = -1 := by
          have hf : runeN m = false := by unfold runeN; exact decide_eq_false (by omega)
          rw [← HRES.out, hr1]; simp [Option.filter, hf]
        subst hres
        clear n0 hr1
        go_wp2_with fail
        go_ret
        exact ⟨rfl, XR.out⟩
      by_cases n2 : (55296 : Int) ≤ (m : Int)
      · by_cases n3 : (m : Int) ≤ 57343
        · have hres : res = -1 := by
            have hf : runeN m = false := by unfold runeN; exact decide_eq_false (by omega)
            rw [← HRES.out, hr1]; simp [Option.filter, hf]
          subst hres
          clear n0 hr1
          go_wp2_with fail
          go_ret
          exact ⟨rfl, XR.out⟩
        · have hres : res = (m : Int) := by
            have hf : runeN m = true := by unfold runeN; exact decide_eq_true (by omega)
            rw [← HRES.out, hr1]; simp [Option.filter, hf]
          subst hres
          clear n0 hr1
          go_wp2_with fail
          go_ret
          exact ⟨rfl, XR.out⟩
      · have hres : res = (m : Int) := by
          have hf : runeN m = true := by unfold runeN; exact decide_eq_true (by omega)
          rw [← HRES.out, hr1]; simp [Option.filter, hf]
        subst hres
        clear n0 hr1
        go_wp2_with fail
        go_ret
        exact ⟨rfl, XR.out⟩
end Go.Proofs.YtdafdoodegpdhaaDoor
