/- internal/strconv: lower, ParseUint, ParseInt at base 10 and 16, 32 bits. Conditions: 1 to 7 bytes. Printed by wip/gen_lc.py. -/
import Derived.Test.YtdafdoodegpdhaaDoorLB
namespace Go.Proofs.YtdafdoodegpdhaaDoor
open Go Go.RowKit Go.BigFrame
set_option linter.unusedVariables false
set_option linter.unusedSimpArgs false

set_option maxHeartbeats 400000 in
set_option maxRecDepth 100000 in
theorem lower_any (c : UInt8) (w : World) : Calls Tryd.prog 139 #[.int .u8 (c.toNat : Int)] w (fun e w' => e = .returned (.int .u8 ((c ||| 32).toNat : Int)) ∧ w' = w) := by
  have hor := bits_or32 c
  go_enter Tryd.func139, Tryd.ntmps139
  go_wp2_with fail
  go_ret
  exact ⟨by first | rw [hor] | (rw [UInt8.toNat_or]; rfl), rfl⟩
/-- what a byte is as a digit, by its small letter -/
def pdig (c : UInt8) : Nat := if 48 ≤ c.toNat ∧ c.toNat ≤ 57 then c.toNat - 48 else if 97 ≤ (c ||| 32).toNat ∧ (c ||| 32).toNat ≤ 122 then (c ||| 32).toNat - 87 else 99
theorem pdig_digV (b : Nat) (hb : b ≤ 16) (c : UInt8) : (pdig c < b ↔ digV c < b) ∧ (digV c < b → pdig c = digV c) := by
  have h : ∀ c : UInt8, (pdig c < 16 ↔ digV c < 16) ∧ (digV c < 16 → pdig c = digV c) := all_bytes (p := fun c => (pdig c < 16 ↔ digV c < 16) ∧ (digV c < 16 → pdig c = digV c)) (by decide +kernel)
  obtain ⟨h1, h2⟩ := h c
  refine ⟨⟨fun h3 => ?_, fun h3 => ?_⟩, fun h3 => h2 (by omega)⟩
  · have := h2 (h1.1 (by omega)); omega
  · have := h2 (by omega); omega
def PUis (r : Option Nat) (w : World) (e : Ending) (w' : World) : Prop := e = .returned (.tuple #[.int .u64 (r.getD 0 : Nat), match r with | some _ => .nilIface | none => .iface 135 (.int .i64 2)]) ∧ Ext w w'
theorem pow_le7 {k : Nat} (h : k ≤ 7) : 16 ^ k ≤ 268435456 := Nat.pow_le_pow_right (by decide) h
set_option maxHeartbeats 2000000 in
set_option maxRecDepth 100000 in
theorem pu10_any (s : ByteArray) (h0 : s.size ≠ 0) (h7 : s.size ≤ 7) (w : World) : Calls Tryd.prog 127 #[.string s, .int .i64 10, .int .i64 32] w (PUis (numL 10 0 s.data.toList) w) := by
  obtain ⟨g, cap, w1, h1, hb1, hf1⟩ := run_toBytesF w s (by omega)
  have e0 : (s.toList == ([] : List UInt8)) = false := by rw [ByteArray.toList_eq, beq_eq_false_iff_ne]; intro h; exact h0 (by show s.data.size = 0; have := congrArg List.length h; simpa using this)
  have hsz : s.data.toList.length = s.size := rfl
  obtain ⟨l, hl⟩ : ∃ l, s.data.toList = l := ⟨_, rfl⟩
  obtain ⟨N, hN⟩ : ∃ N, s.size = N := ⟨_, rfl⟩
  rw [hl] at hb1 hsz ⊢
  rw [hN] at hsz hb1 h1 h7
  obtain ⟨r, hr⟩ : ∃ r, numL 10 0 l = r := ⟨_, rfl⟩
  rw [hr]
  have HR := Lib.hid hr
  have H1 := Lib.hid h1
  have HB1 := Lib.hid hb1
  clear h1 hb1 hf1 hl hN hr h0
  go_enter Tryd.func127, Tryd.ntmps127
  go_wp2_with fail
  rw [H1.out]
  go_wp2_with fail
  go_loopw [12, 13, 15, 16, 17, 101] (fun u n _ _ _ i wr => ∃ (k m : Nat), k ≤ N ∧ i = .int .i64 k ∧ u = .bool false ∧ n = .int .u64 m ∧ numL 10 m (l.drop k) = r ∧ m < 16 ^ k ∧ Ext w1 wr) (fun _ _ _ _ _ i _ => N - (intOf i).toNat)
  case atStart => exact ⟨0, 0, Nat.zero_le _, rfl, rfl, rfl, by simpa using HR.out, by decide, Ext.refl _⟩
  case round =>
    obtain ⟨k, m, hk, rfl, rfl, rfl, hnum, hm, xr⟩ := hrel
    have hp7 := pow_le7 (k := k) (by omega)
    have HNUM := Lib.hid hnum
    have XR := Lib.hid xr
    clear hnum
    by_cases hlt : k < N
    · obtain ⟨c, hc⟩ : ∃ c, l[k]? = some c := ⟨l[k]'(by omega), List.getElem?_eq_getElem (by omega)⟩
      have q := (HB1.out.ext xr).cells rfl k (.int .u8 (c.toNat : Int)) (by unfold Lib.byteCells; rw [List.getElem?_map, hc]; rfl)
      rw [Addr.add_lit, Nat.zero_add] at q
      have hdrop : l.drop k = c :: l.drop (k + 1) := by
        obtain ⟨hk2, e⟩ := List.getElem?_eq_some_iff.1 hc
        rw [List.drop_eq_getElem_cons hk2, e]
      have hn := HNUM.out
      rw [hdrop, numL] at hn
      obtain ⟨p1, p2⟩ := pdig_digV 10 (by decide) c
      have bad : ¬ pdig c < 10 → r = none := fun h => by rw [← hn, if_pos (by omega)]
      have good : pdig c < 10 → numL 10 (m * 10 + pdig c) (l.drop (k + 1)) = r := fun h => by
        rw [p2 (p1.1 h), ← hn, if_neg (by have := p1.1 h; omega)]
      have pw : 16 ^ (k + 1) = 16 ^ k * 16 := Nat.pow_succ 16 k
      have BAD := Lib.hid bad
      have GOOD := Lib.hid good
      have HLOW := Lib.hid (lower_any c)
      have PW := Lib.hid pw
      have PD := Lib.hid (show pdig c = if 48 ≤ c.toNat ∧ c.toNat ≤ 57 then c.toNat - 48 else if 97 ≤ (c ||| 32).toNat ∧ (c ||| 32).toNat ≤ 122 then (c ||| 32).toNat - 87 else 99 from rfl)
      obtain ⟨P, hP⟩ : ∃ P, 16 ^ k = P := ⟨_, rfl⟩
      rw [hP] at hm hp7 PW
      obtain ⟨d, hd⟩ : ∃ d, pdig c = d := ⟨_, rfl⟩
      rw [hd] at BAD GOOD PD
      obtain ⟨lo, hlo⟩ : ∃ lo, (c ||| 32).toNat = lo := ⟨_, rfl⟩
      rw [hlo] at HLOW PD
      have hl256 : lo < 256 := by rw [← hlo]; exact (c ||| 32).toNat_lt
      have hc256 : c.toNat < 256 := c.toNat_lt
      have b95 : ((c.toNat : Int) == 95) = true ∨ ((c.toNat : Int) == 95) = false := by cases ((c.toNat : Int) == 95); exact .inr rfl; exact .inl rfl
      clear hc hdrop hn p1 p2 bad good pw hP hd hlo xr
      have hcut : ¬ (1844674407370955162 : Int) ≤ (m : Int) := by omega
      have hcuti : decide ((1844674407370955162 : Int) ≤ (m : Int)) = false := decide_eq_false hcut
      have hcutn : decide (1844674407370955162 ≤ m) = false := decide_eq_false (by omega)
      rcases b95 with b95 | b95
      · by_cases c1 : (48 : Int) ≤ (c.toNat : Int)
        · by_cases c2 : (c.toNat : Int) ≤ 57
          · have hd : d = c.toNat - 48 := by rw [PD.out, if_pos ⟨by omega, by omega⟩]
            have hw1 : IntKind.u8.wrap ((c.toNat : Int) - 48) = (d : Int) := by rw [IntWalk.u8_in _ (by omega)]; omega
            by_cases hdb : d < 10
            · have G := Lib.hid (GOOD.out hdb)
              have h3 : ¬ (10 : Int) ≤ (d : Int) := by omega
              have h3d : decide (10 ≤ d) = false := decide_eq_false (by omega)
              have h3i : decide ((10 : Int) ≤ (d : Int)) = false := decide_eq_false h3
              have hm1 : IntKind.u64.wrap ((m : Int) * 10) = (m : Int) * 10 := IntWalk.u64_in _ (by omega)
              have hm2 : IntKind.u64.wrap ((m : Int) * 10 + (d : Int)) = (m : Int) * 10 + (d : Int) := IntWalk.u64_in _ (by omega)
              have h4 : ¬ (m : Int) * 10 + (d : Int) < (m : Int) * 10 := by omega
              have h4i : decide ((m : Int) * 10 + (d : Int) < (m : Int) * 10) = false := decide_eq_false h4
              have h5 : ¬ (4294967295 : Int) < (m : Int) * 10 + (d : Int) := by omega
              have h5i : decide ((4294967295 : Int) < (m : Int) * 10 + (d : Int)) = false := decide_eq_false h5
              have hpw : m * 10 + d < 16 ^ (k + 1) := by rw [PW.out]; omega
              have HPW := Lib.hid hpw
              clear hpw hdb hd
              go_wp2_with fail
              go_roundw
              case rel => exact ⟨k + 1, m * 10 + d, by omega, by go_num, rfl, by push_cast; rfl, G.out, HPW.out, XR.out⟩
              case measure => simp [intOf]; omega
            · have hr0 : r = none := BAD.out hdb
              have h3 : (10 : Int) ≤ (d : Int) := by omega
              subst hr0
              clear hdb hd
              go_wp2_with fail
              go_ret2
              exact ⟨rfl, HB1.out.ex.trans XR.out⟩
          · skip
            by_cases l1 : (97 : Int) ≤ (lo : Int)
            · have j1 : decide (97 ≤ lo) = true := decide_eq_true (by omega)
              have j1i : decide ((97 : Int) ≤ (lo : Int)) = true := decide_eq_true l1
              by_cases l2 : (lo : Int) ≤ 122
              · have j2 : decide (lo ≤ 122) = true := decide_eq_true (by omega)
                have j2i : decide ((lo : Int) ≤ 122) = true := decide_eq_true l2
                have hd : d = lo - 87 := by rw [PD.out, if_neg (by omega), if_pos ⟨by omega, by omega⟩]
                have hw1 : IntKind.u8.wrap ((lo : Int) - 97) = (lo : Int) - 97 := IntWalk.u8_in _ (by omega)
                have hw2 : IntKind.u8.wrap ((lo : Int) - 97 + 10) = (d : Int) := by rw [IntWalk.u8_in _ (by omega)]; omega
                by_cases hdb : d < 10
                · exact absurd hdb (by omega)
                · have hr0 : r = none := BAD.out hdb
                  have h3 : (10 : Int) ≤ (d : Int) := by omega
                  subst hr0
                  clear hdb hd
                  go_wp2_with (go_at_call 139; refine (HLOW.out _).mono ?_; rintro e wx ⟨rfl, hwx⟩; rw [hwx]; clear hwx)
                  go_ret2
                  exact ⟨rfl, HB1.out.ex.trans XR.out⟩
              · have j2 : decide (lo ≤ 122) = false := decide_eq_false (by omega)
                have j2i : decide ((lo : Int) ≤ 122) = false := decide_eq_false l2
                have hr0 : r = none := BAD.out (by rw [PD.out, if_neg (by omega), if_neg (by omega)]; decide)
                subst hr0
                go_wp2_with (go_at_call 139; refine (HLOW.out _).mono ?_; rintro e wx ⟨rfl, hwx⟩; rw [hwx]; clear hwx)
                go_ret2
                exact ⟨rfl, HB1.out.ex.trans XR.out⟩
            · have j1 : decide (97 ≤ lo) = false := decide_eq_false (by omega)
              have j1i : decide ((97 : Int) ≤ (lo : Int)) = false := decide_eq_false l1
              have hr0 : r = none := BAD.out (by rw [PD.out, if_neg (by omega), if_neg (by omega)]; decide)
              subst hr0
              go_wp2_with (go_at_call 139; refine (HLOW.out _).mono ?_; rintro e wx ⟨rfl, hwx⟩; rw [hwx]; clear hwx)
              go_ret2
              exact ⟨rfl, HB1.out.ex.trans XR.out⟩
        · skip
          by_cases l1 : (97 : Int) ≤ (lo : Int)
          · have j1 : decide (97 ≤ lo) = true := decide_eq_true (by omega)
            have j1i : decide ((97 : Int) ≤ (lo : Int)) = true := decide_eq_true l1
            by_cases l2 : (lo : Int) ≤ 122
            · have j2 : decide (lo ≤ 122) = true := decide_eq_true (by omega)
              have j2i : decide ((lo : Int) ≤ 122) = true := decide_eq_true l2
              have hd : d = lo - 87 := by rw [PD.out, if_neg (by omega), if_pos ⟨by omega, by omega⟩]
              have hw1 : IntKind.u8.wrap ((lo : Int) - 97) = (lo : Int) - 97 := IntWalk.u8_in _ (by omega)
              have hw2 : IntKind.u8.wrap ((lo : Int) - 97 + 10) = (d : Int) := by rw [IntWalk.u8_in _ (by omega)]; omega
              by_cases hdb : d < 10
              · exact absurd hdb (by omega)
              · have hr0 : r = none := BAD.out hdb
                have h3 : (10 : Int) ≤ (d : Int) := by omega
                subst hr0
                clear hdb hd
                go_wp2_with (go_at_call 139; refine (HLOW.out _).mono ?_; rintro e wx ⟨rfl, hwx⟩; rw [hwx]; clear hwx)
                go_ret2
                exact ⟨rfl, HB1.out.ex.trans XR.out⟩
            · have j2 : decide (lo ≤ 122) = false := decide_eq_false (by omega)
              have j2i : decide ((lo : Int) ≤ 122) = false := decide_eq_false l2
              have hr0 : r = none := BAD.out (by rw [PD.out, if_neg (by omega), if_neg (by omega)]; decide)
              subst hr0
              go_wp2_with (go_at_call 139; refine (HLOW.out _).mono ?_; rintro e wx ⟨rfl, hwx⟩; rw [hwx]; clear hwx)
              go_ret2
              exact ⟨rfl, HB1.out.ex.trans XR.out⟩
          · have j1 : decide (97 ≤ lo) = false := decide_eq_false (by omega)
            have j1i : decide ((97 : Int) ≤ (lo : Int)) = false := decide_eq_false l1
            have hr0 : r = none := BAD.out (by rw [PD.out, if_neg (by omega), if_neg (by omega)]; decide)
            subst hr0
            go_wp2_with (go_at_call 139; refine (HLOW.out _).mono ?_; rintro e wx ⟨rfl, hwx⟩; rw [hwx]; clear hwx)
            go_ret2
            exact ⟨rfl, HB1.out.ex.trans XR.out⟩
      · by_cases c1 : (48 : Int) ≤ (c.toNat : Int)
        · by_cases c2 : (c.toNat : Int) ≤ 57
          · have hd : d = c.toNat - 48 := by rw [PD.out, if_pos ⟨by omega, by omega⟩]
            have hw1 : IntKind.u8.wrap ((c.toNat : Int) - 48) = (d : Int) := by rw [IntWalk.u8_in _ (by omega)]; omega
            by_cases hdb : d < 10
            · have G := Lib.hid (GOOD.out hdb)
              have h3 : ¬ (10 : Int) ≤ (d : Int) := by omega
              have h3d : decide (10 ≤ d) = false := decide_eq_false (by omega)
              have h3i : decide ((10 : Int) ≤ (d : Int)) = false := decide_eq_false h3
              have hm1 : IntKind.u64.wrap ((m : Int) * 10) = (m : Int) * 10 := IntWalk.u64_in _ (by omega)
              have hm2 : IntKind.u64.wrap ((m : Int) * 10 + (d : Int)) = (m : Int) * 10 + (d : Int) := IntWalk.u64_in _ (by omega)
              have h4 : ¬ (m : Int) * 10 + (d : Int) < (m : Int) * 10 := by omega
              have h4i : decide ((m : Int) * 10 + (d : Int) < (m : Int) * 10) = false := decide_eq_false h4
              have h5 : ¬ (4294967295 : Int) < (m : Int) * 10 + (d : Int) := by omega
              have h5i : decide ((4294967295 : Int) < (m : Int) * 10 + (d : Int)) = false := decide_eq_false h5
              have hpw : m * 10 + d < 16 ^ (k + 1) := by rw [PW.out]; omega
              have HPW := Lib.hid hpw
              clear hpw hdb hd
              go_wp2_with fail
              go_roundw
              case rel => exact ⟨k + 1, m * 10 + d, by omega, by go_num, rfl, by push_cast; rfl, G.out, HPW.out, XR.out⟩
              case measure => simp [intOf]; omega
            · have hr0 : r = none := BAD.out hdb
              have h3 : (10 : Int) ≤ (d : Int) := by omega
              subst hr0
              clear hdb hd
              go_wp2_with fail
              go_ret2
              exact ⟨rfl, HB1.out.ex.trans XR.out⟩
          · skip
            by_cases l1 : (97 : Int) ≤ (lo : Int)
            · have j1 : decide (97 ≤ lo) = true := decide_eq_true (by omega)
              have j1i : decide ((97 : Int) ≤ (lo : Int)) = true := decide_eq_true l1
              by_cases l2 : (lo : Int) ≤ 122
              · have j2 : decide (lo ≤ 122) = true := decide_eq_true (by omega)
                have j2i : decide ((lo : Int) ≤ 122) = true := decide_eq_true l2
                have hd : d = lo - 87 := by rw [PD.out, if_neg (by omega), if_pos ⟨by omega, by omega⟩]
                have hw1 : IntKind.u8.wrap ((lo : Int) - 97) = (lo : Int) - 97 := IntWalk.u8_in _ (by omega)
                have hw2 : IntKind.u8.wrap ((lo : Int) - 97 + 10) = (d : Int) := by rw [IntWalk.u8_in _ (by omega)]; omega
                by_cases hdb : d < 10
                · exact absurd hdb (by omega)
                · have hr0 : r = none := BAD.out hdb
                  have h3 : (10 : Int) ≤ (d : Int) := by omega
                  subst hr0
                  clear hdb hd
                  go_wp2_with (go_at_call 139; refine (HLOW.out _).mono ?_; rintro e wx ⟨rfl, hwx⟩; rw [hwx]; clear hwx)
                  go_ret2
                  exact ⟨rfl, HB1.out.ex.trans XR.out⟩
              · have j2 : decide (lo ≤ 122) = false := decide_eq_false (by omega)
                have j2i : decide ((lo : Int) ≤ 122) = false := decide_eq_false l2
                have hr0 : r = none := BAD.out (by rw [PD.out, if_neg (by omega), if_neg (by omega)]; decide)
                subst hr0
                go_wp2_with (go_at_call 139; refine (HLOW.out _).mono ?_; rintro e wx ⟨rfl, hwx⟩; rw [hwx]; clear hwx)
                go_ret2
                exact ⟨rfl, HB1.out.ex.trans XR.out⟩
            · have j1 : decide (97 ≤ lo) = false := decide_eq_false (by omega)
              have j1i : decide ((97 : Int) ≤ (lo : Int)) = false := decide_eq_false l1
              have hr0 : r = none := BAD.out (by rw [PD.out, if_neg (by omega), if_neg (by omega)]; decide)
              subst hr0
              go_wp2_with (go_at_call 139; refine (HLOW.out _).mono ?_; rintro e wx ⟨rfl, hwx⟩; rw [hwx]; clear hwx)
              go_ret2
              exact ⟨rfl, HB1.out.ex.trans XR.out⟩
        · skip
          by_cases l1 : (97 : Int) ≤ (lo : Int)
          · have j1 : decide (97 ≤ lo) = true := decide_eq_true (by omega)
            have j1i : decide ((97 : Int) ≤ (lo : Int)) = true := decide_eq_true l1
            by_cases l2 : (lo : Int) ≤ 122
            · have j2 : decide (lo ≤ 122) = true := decide_eq_true (by omega)
              have j2i : decide ((lo : Int) ≤ 122) = true := decide_eq_true l2
              have hd : d = lo - 87 := by rw [PD.out, if_neg (by omega), if_pos ⟨by omega, by omega⟩]
              have hw1 : IntKind.u8.wrap ((lo : Int) - 97) = (lo : Int) - 97 := IntWalk.u8_in _ (by omega)
              have hw2 : IntKind.u8.wrap ((lo : Int) - 97 + 10) = (d : Int) := by rw [IntWalk.u8_in _ (by omega)]; omega
              by_cases hdb : d < 10
              · exact absurd hdb (by omega)
              · have hr0 : r = none := BAD.out hdb
                have h3 : (10 : Int) ≤ (d : Int) := by omega
                subst hr0
                clear hdb hd
                go_wp2_with (go_at_call 139; refine (HLOW.out _).mono ?_; rintro e wx ⟨rfl, hwx⟩; rw [hwx]; clear hwx)
                go_ret2
                exact ⟨rfl, HB1.out.ex.trans XR.out⟩
            · have j2 : decide (lo ≤ 122) = false := decide_eq_false (by omega)
              have j2i : decide ((lo : Int) ≤ 122) = false := decide_eq_false l2
              have hr0 : r = none := BAD.out (by rw [PD.out, if_neg (by omega), if_neg (by omega)]; decide)
              subst hr0
              go_wp2_with (go_at_call 139; refine (HLOW.out _).mono ?_; rintro e wx ⟨rfl, hwx⟩; rw [hwx]; clear hwx)
              go_ret2
              exact ⟨rfl, HB1.out.ex.trans XR.out⟩
          · have j1 : decide (97 ≤ lo) = false := decide_eq_false (by omega)
            have j1i : decide ((97 : Int) ≤ (lo : Int)) = false := decide_eq_false l1
            have hr0 : r = none := BAD.out (by rw [PD.out, if_neg (by omega), if_neg (by omega)]; decide)
            subst hr0
            go_wp2_with (go_at_call 139; refine (HLOW.out _).mono ?_; rintro e wx ⟨rfl, hwx⟩; rw [hwx]; clear hwx)
            go_ret2
            exact ⟨rfl, HB1.out.ex.trans XR.out⟩
    · obtain rfl : k = N := by omega
      have hr1 : r = some m := by rw [← HNUM.out, List.drop_eq_nil_of_le (by omega)]; rfl
      subst hr1
      clear xr
      go_wp2_with fail
      go_ret2
      exact ⟨rfl, HB1.out.ex.trans XR.out⟩
set_option maxHeartbeats 2000000 in
set_option maxRecDepth 100000 in
theorem pu16_any (s : ByteArray) (h0 : s.size ≠ 0) (h7 : s.size ≤ 7) (w : World) : Calls Tryd.prog 127 #[.string s, .int .i64 16, .int .i64 32] w (PUis (numL 16 0 s.data.toList) w) := by
  obtain ⟨g, cap, w1, h1, hb1, hf1⟩ := run_toBytesF w s (by omega)
  have e0 : (s.toList == ([] : List UInt8)) = false := by rw [ByteArray.toList_eq, beq_eq_false_iff_ne]; intro h; exact h0 (by show s.data.size = 0; have := congrArg List.length h; simpa using this)
  have hsz : s.data.toList.length = s.size := rfl
  obtain ⟨l, hl⟩ : ∃ l, s.data.toList = l := ⟨_, rfl⟩
  obtain ⟨N, hN⟩ : ∃ N, s.size = N := ⟨_, rfl⟩
  rw [hl] at hb1 hsz ⊢
  rw [hN] at hsz hb1 h1 h7
  obtain ⟨r, hr⟩ : ∃ r, numL 16 0 l = r := ⟨_, rfl⟩
  rw [hr]
  have HR := Lib.hid hr
  have H1 := Lib.hid h1
  have HB1 := Lib.hid hb1
  clear h1 hb1 hf1 hl hN hr h0
  go_enter Tryd.func127, Tryd.ntmps127
  go_wp2_with fail
  rw [H1.out]
  go_wp2_with fail
  go_loopw [12, 13, 15, 16, 17, 101] (fun u n _ _ _ i wr => ∃ (k m : Nat), k ≤ N ∧ i = .int .i64 k ∧ u = .bool false ∧ n = .int .u64 m ∧ numL 16 m (l.drop k) = r ∧ m < 16 ^ k ∧ Ext w1 wr) (fun _ _ _ _ _ i _ => N - (intOf i).toNat)
  case atStart => exact ⟨0, 0, Nat.zero_le _, rfl, rfl, rfl, by simpa using HR.out, by decide, Ext.refl _⟩
  case round =>
    obtain ⟨k, m, hk, rfl, rfl, rfl, hnum, hm, xr⟩ := hrel
    have hp7 := pow_le7 (k := k) (by omega)
    have HNUM := Lib.hid hnum
    have XR := Lib.hid xr
    clear hnum
    by_cases hlt : k < N
    · obtain ⟨c, hc⟩ : ∃ c, l[k]? = some c := ⟨l[k]'(by omega), List.getElem?_eq_getElem (by omega)⟩
      have q := (HB1.out.ext xr).cells rfl k (.int .u8 (c.toNat : Int)) (by unfold Lib.byteCells; rw [List.getElem?_map, hc]; rfl)
      rw [Addr.add_lit, Nat.zero_add] at q
      have hdrop : l.drop k = c :: l.drop (k + 1) := by
        obtain ⟨hk2, e⟩ := List.getElem?_eq_some_iff.1 hc
        rw [List.drop_eq_getElem_cons hk2, e]
      have hn := HNUM.out
      rw [hdrop, numL] at hn
      obtain ⟨p1, p2⟩ := pdig_digV 16 (by decide) c
      have bad : ¬ pdig c < 16 → r = none := fun h => by rw [← hn, if_pos (by omega)]
      have good : pdig c < 16 → numL 16 (m * 16 + pdig c) (l.drop (k + 1)) = r := fun h => by
        rw [p2 (p1.1 h), ← hn, if_neg (by have := p1.1 h; omega)]
      have pw : 16 ^ (k + 1) = 16 ^ k * 16 := Nat.pow_succ 16 k
      have BAD := Lib.hid bad
      have GOOD := Lib.hid good
      have HLOW := Lib.hid (lower_any c)
      have PW := Lib.hid pw
      have PD := Lib.hid (show pdig c = if 48 ≤ c.toNat ∧ c.toNat ≤ 57 then c.toNat - 48 else if 97 ≤ (c ||| 32).toNat ∧ (c ||| 32).toNat ≤ 122 then (c ||| 32).toNat - 87 else 99 from rfl)
      obtain ⟨P, hP⟩ : ∃ P, 16 ^ k = P := ⟨_, rfl⟩
      rw [hP] at hm hp7 PW
      obtain ⟨d, hd⟩ : ∃ d, pdig c = d := ⟨_, rfl⟩
      rw [hd] at BAD GOOD PD
      obtain ⟨lo, hlo⟩ : ∃ lo, (c ||| 32).toNat = lo := ⟨_, rfl⟩
      rw [hlo] at HLOW PD
      have hl256 : lo < 256 := by rw [← hlo]; exact (c ||| 32).toNat_lt
      have hc256 : c.toNat < 256 := c.toNat_lt
      have b95 : ((c.toNat : Int) == 95) = true ∨ ((c.toNat : Int) == 95) = false := by cases ((c.toNat : Int) == 95); exact .inr rfl; exact .inl rfl
      clear hc hdrop hn p1 p2 bad good pw hP hd hlo xr
      have hcut : ¬ (1152921504606846976 : Int) ≤ (m : Int) := by omega
      have hcuti : decide ((1152921504606846976 : Int) ≤ (m : Int)) = false := decide_eq_false hcut
      have hcutn : decide (1152921504606846976 ≤ m) = false := decide_eq_false (by omega)
      rcases b95 with b95 | b95
      · by_cases c1 : (48 : Int) ≤ (c.toNat : Int)
        · by_cases c2 : (c.toNat : Int) ≤ 57
          · have hd : d = c.toNat - 48 := by rw [PD.out, if_pos ⟨by omega, by omega⟩]
            have hw1 : IntKind.u8.wrap ((c.toNat : Int) - 48) = (d : Int) := by rw [IntWalk.u8_in _ (by omega)]; omega
            by_cases hdb : d < 16
            · have G := Lib.hid (GOOD.out hdb)
              have h3 : ¬ (16 : Int) ≤ (d : Int) := by omega
              have h3d : decide (16 ≤ d) = false := decide_eq_false (by omega)
              have h3i : decide ((16 : Int) ≤ (d : Int)) = false := decide_eq_false h3
              have hm1 : IntKind.u64.wrap ((m : Int) * 16) = (m : Int) * 16 := IntWalk.u64_in _ (by omega)
              have hm2 : IntKind.u64.wrap ((m : Int) * 16 + (d : Int)) = (m : Int) * 16 + (d : Int) := IntWalk.u64_in _ (by omega)
              have h4 : ¬ (m : Int) * 16 + (d : Int) < (m : Int) * 16 := by omega
              have h4i : decide ((m : Int) * 16 + (d : Int) < (m : Int) * 16) = false := decide_eq_false h4
              have h5 : ¬ (4294967295 : Int) < (m : Int) * 16 + (d : Int) := by omega
              have h5i : decide ((4294967295 : Int) < (m : Int) * 16 + (d : Int)) = false := decide_eq_false h5
              have hpw : m * 16 + d < 16 ^ (k + 1) := by rw [PW.out]; omega
              have HPW := Lib.hid hpw
              clear hpw hdb hd
              go_wp2_with fail
              go_roundw
              case rel => exact ⟨k + 1, m * 16 + d, by omega, by go_num, rfl, by push_cast; rfl, G.out, HPW.out, XR.out⟩
              case measure => simp [intOf]; omega
            · have hr0 : r = none := BAD.out hdb
              have h3 : (16 : Int) ≤ (d : Int) := by omega
              subst hr0
              clear hdb hd
              go_wp2_with fail
              go_ret2
              exact ⟨rfl, HB1.out.ex.trans XR.out⟩
          · skip
            by_cases l1 : (97 : Int) ≤ (lo : Int)
            · have j1 : decide (97 ≤ lo) = true := decide_eq_true (by omega)
              have j1i : decide ((97 : Int) ≤ (lo : Int)) = true := decide_eq_true l1
              by_cases l2 : (lo : Int) ≤ 122
              · have j2 : decide (lo ≤ 122) = true := decide_eq_true (by omega)
                have j2i : decide ((lo : Int) ≤ 122) = true := decide_eq_true l2
                have hd : d = lo - 87 := by rw [PD.out, if_neg (by omega), if_pos ⟨by omega, by omega⟩]
                have hw1 : IntKind.u8.wrap ((lo : Int) - 97) = (lo : Int) - 97 := IntWalk.u8_in _ (by omega)
                have hw2 : IntKind.u8.wrap ((lo : Int) - 97 + 10) = (d : Int) := by rw [IntWalk.u8_in _ (by omega)]; omega
                by_cases hdb : d < 16
                · have G := Lib.hid (GOOD.out hdb)
                  have h3 : ¬ (16 : Int) ≤ (d : Int) := by omega
                  have h3d : decide (16 ≤ d) = false := decide_eq_false (by omega)
                  have h3i : decide ((16 : Int) ≤ (d : Int)) = false := decide_eq_false h3
                  have hm1 : IntKind.u64.wrap ((m : Int) * 16) = (m : Int) * 16 := IntWalk.u64_in _ (by omega)
                  have hm2 : IntKind.u64.wrap ((m : Int) * 16 + (d : Int)) = (m : Int) * 16 + (d : Int) := IntWalk.u64_in _ (by omega)
                  have h4 : ¬ (m : Int) * 16 + (d : Int) < (m : Int) * 16 := by omega
                  have h4i : decide ((m : Int) * 16 + (d : Int) < (m : Int) * 16) = false := decide_eq_false h4
                  have h5 : ¬ (4294967295 : Int) < (m : Int) * 16 + (d : Int) := by omega
                  have h5i : decide ((4294967295 : Int) < (m : Int) * 16 + (d : Int)) = false := decide_eq_false h5
                  have hpw : m * 16 + d < 16 ^ (k + 1) := by rw [PW.out]; omega
                  have HPW := Lib.hid hpw
                  clear hpw hdb hd
                  go_wp2_with (go_at_call 139; refine (HLOW.out _).mono ?_; rintro e wx ⟨rfl, hwx⟩; rw [hwx]; clear hwx)
                  go_roundw
                  case rel => exact ⟨k + 1, m * 16 + d, by omega, by go_num, rfl, by push_cast; rfl, G.out, HPW.out, XR.out⟩
                  case measure => simp [intOf]; omega
                · have hr0 : r = none := BAD.out hdb
                  have h3 : (16 : Int) ≤ (d : Int) := by omega
                  subst hr0
                  clear hdb hd
                  go_wp2_with (go_at_call 139; refine (HLOW.out _).mono ?_; rintro e wx ⟨rfl, hwx⟩; rw [hwx]; clear hwx)
                  go_ret2
                  exact ⟨rfl, HB1.out.ex.trans XR.out⟩
              · have j2 : decide (lo ≤ 122) = false := decide_eq_false (by omega)
                have j2i : decide ((lo : Int) ≤ 122) = false := decide_eq_false l2
                have hr0 : r = none := BAD.out (by rw [PD.out, if_neg (by omega), if_neg (by omega)]; decide)
                subst hr0
                go_wp2_with (go_at_call 139; refine (HLOW.out _).mono ?_; rintro e wx ⟨rfl, hwx⟩; rw [hwx]; clear hwx)
                go_ret2
                exact ⟨rfl, HB1.out.ex.trans XR.out⟩
            · have j1 : decide (97 ≤ lo) = false := decide_eq_false (by omega)
              have j1i : decide ((97 : Int) ≤ (lo : Int)) = false := decide_eq_false l1
              have hr0 : r = none := BAD.out (by rw [PD.out, if_neg (by omega), if_neg (by omega)]; decide)
              subst hr0
              go_wp2_with (go_at_call 139; refine (HLOW.out _).mono ?_; rintro e wx ⟨rfl, hwx⟩; rw [hwx]; clear hwx)
              go_ret2
              exact ⟨rfl, HB1.out.ex.trans XR.out⟩
        · skip
          by_cases l1 : (97 : Int) ≤ (lo : Int)
          · have j1 : decide (97 ≤ lo) = true := decide_eq_true (by omega)
            have j1i : decide ((97 : Int) ≤ (lo : Int)) = true := decide_eq_true l1
            by_cases l2 : (lo : Int) ≤ 122
            · have j2 : decide (lo ≤ 122) = true := decide_eq_true (by omega)
              have j2i : decide ((lo : Int) ≤ 122) = true := decide_eq_true l2
              have hd : d = lo - 87 := by rw [PD.out, if_neg (by omega), if_pos ⟨by omega, by omega⟩]
              have hw1 : IntKind.u8.wrap ((lo : Int) - 97) = (lo : Int) - 97 := IntWalk.u8_in _ (by omega)
              have hw2 : IntKind.u8.wrap ((lo : Int) - 97 + 10) = (d : Int) := by rw [IntWalk.u8_in _ (by omega)]; omega
              by_cases hdb : d < 16
              · have G := Lib.hid (GOOD.out hdb)
                have h3 : ¬ (16 : Int) ≤ (d : Int) := by omega
                have h3d : decide (16 ≤ d) = false := decide_eq_false (by omega)
                have h3i : decide ((16 : Int) ≤ (d : Int)) = false := decide_eq_false h3
                have hm1 : IntKind.u64.wrap ((m : Int) * 16) = (m : Int) * 16 := IntWalk.u64_in _ (by omega)
                have hm2 : IntKind.u64.wrap ((m : Int) * 16 + (d : Int)) = (m : Int) * 16 + (d : Int) := IntWalk.u64_in _ (by omega)
                have h4 : ¬ (m : Int) * 16 + (d : Int) < (m : Int) * 16 := by omega
                have h4i : decide ((m : Int) * 16 + (d : Int) < (m : Int) * 16) = false := decide_eq_false h4
                have h5 : ¬ (4294967295 : Int) < (m : Int) * 16 + (d : Int) := by omega
                have h5i : decide ((4294967295 : Int) < (m : Int) * 16 + (d : Int)) = false := decide_eq_false h5
                have hpw : m * 16 + d < 16 ^ (k + 1) := by rw [PW.out]; omega
                have HPW := Lib.hid hpw
                clear hpw hdb hd
                go_wp2_with (go_at_call 139; refine (HLOW.out _).mono ?_; rintro e wx ⟨rfl, hwx⟩; rw [hwx]; clear hwx)
                go_roundw
                case rel => exact ⟨k + 1, m * 16 + d, by omega, by go_num, rfl, by push_cast; rfl, G.out, HPW.out, XR.out⟩
                case measure => simp [intOf]; omega
              · have hr0 : r = none := BAD.out hdb
                have h3 : (16 : Int) ≤ (d : Int) := by omega
                subst hr0
                clear hdb hd
                go_wp2_with (go_at_call 139; refine (HLOW.out _).mono ?_; rintro e wx ⟨rfl, hwx⟩; rw [hwx]; clear hwx)
                go_ret2
                exact ⟨rfl, HB1.out.ex.trans XR.out⟩
            · have j2 : decide (lo ≤ 122) = false := decide_eq_false (by omega)
              have j2i : decide ((lo : Int) ≤ 122) = false := decide_eq_false l2
              have hr0 : r = none := BAD.out (by rw [PD.out, if_neg (by omega), if_neg (by omega)]; decide)
              subst hr0
              go_wp2_with (go_at_call 139; refine (HLOW.out _).mono ?_; rintro e wx ⟨rfl, hwx⟩; rw [hwx]; clear hwx)
              go_ret2
              exact ⟨rfl, HB1.out.ex.trans XR.out⟩
          · have j1 : decide (97 ≤ lo) = false := decide_eq_false (by omega)
            have j1i : decide ((97 : Int) ≤ (lo : Int)) = false := decide_eq_false l1
            have hr0 : r = none := BAD.out (by rw [PD.out, if_neg (by omega), if_neg (by omega)]; decide)
            subst hr0
            go_wp2_with (go_at_call 139; refine (HLOW.out _).mono ?_; rintro e wx ⟨rfl, hwx⟩; rw [hwx]; clear hwx)
            go_ret2
            exact ⟨rfl, HB1.out.ex.trans XR.out⟩
      · by_cases c1 : (48 : Int) ≤ (c.toNat : Int)
        · by_cases c2 : (c.toNat : Int) ≤ 57
          · have hd : d = c.toNat - 48 := by rw [PD.out, if_pos ⟨by omega, by omega⟩]
            have hw1 : IntKind.u8.wrap ((c.toNat : Int) - 48) = (d : Int) := by rw [IntWalk.u8_in _ (by omega)]; omega
            by_cases hdb : d < 16
            · have G := Lib.hid (GOOD.out hdb)
              have h3 : ¬ (16 : Int) ≤ (d : Int) := by omega
              have h3d : decide (16 ≤ d) = false := decide_eq_false (by omega)
              have h3i : decide ((16 : Int) ≤ (d : Int)) = false := decide_eq_false h3
              have hm1 : IntKind.u64.wrap ((m : Int) * 16) = (m : Int) * 16 := IntWalk.u64_in _ (by omega)
              have hm2 : IntKind.u64.wrap ((m : Int) * 16 + (d : Int)) = (m : Int) * 16 + (d : Int) := IntWalk.u64_in _ (by omega)
              have h4 : ¬ (m : Int) * 16 + (d : Int) < (m : Int) * 16 := by omega
              have h4i : decide ((m : Int) * 16 + (d : Int) < (m : Int) * 16) = false := decide_eq_false h4
              have h5 : ¬ (4294967295 : Int) < (m : Int) * 16 + (d : Int) := by omega
              have h5i : decide ((4294967295 : Int) < (m : Int) * 16 + (d : Int)) = false := decide_eq_false h5
              have hpw : m * 16 + d < 16 ^ (k + 1) := by rw [PW.out]; omega
              have HPW := Lib.hid hpw
              clear hpw hdb hd
              go_wp2_with fail
              go_roundw
              case rel => exact ⟨k + 1, m * 16 + d, by omega, by go_num, rfl, by push_cast; rfl, G.out, HPW.out, XR.out⟩
              case measure => simp [intOf]; omega
            · have hr0 : r = none := BAD.out hdb
              have h3 : (16 : Int) ≤ (d : Int) := by omega
              subst hr0
              clear hdb hd
              go_wp2_with fail
              go_ret2
              exact ⟨rfl, HB1.out.ex.trans XR.out⟩
          · skip
            by_cases l1 : (97 : Int) ≤ (lo : Int)
            · have j1 : decide (97 ≤ lo) = true := decide_eq_true (by omega)
              have j1i : decide ((97 : Int) ≤ (lo : Int)) = true := decide_eq_true l1
              by_cases l2 : (lo : Int) ≤ 122
              · have j2 : decide (lo ≤ 122) = true := decide_eq_true (by omega)
                have j2i : decide ((lo : Int) ≤ 122) = true := decide_eq_true l2
                have hd : d = lo - 87 := by rw [PD.out, if_neg (by omega), if_pos ⟨by omega, by omega⟩]
                have hw1 : IntKind.u8.wrap ((lo : Int) - 97) = (lo : Int) - 97 := IntWalk.u8_in _ (by omega)
                have hw2 : IntKind.u8.wrap ((lo : Int) - 97 + 10) = (d : Int) := by rw [IntWalk.u8_in _ (by omega)]; omega
                by_cases hdb : d < 16
                · have G := Lib.hid (GOOD.out hdb)
                  have h3 : ¬ (16 : Int) ≤ (d : Int) := by omega
                  have h3d : decide (16 ≤ d) = false := decide_eq_false (by omega)
                  have h3i : decide ((16 : Int) ≤ (d : Int)) = false := decide_eq_false h3
                  have hm1 : IntKind.u64.wrap ((m : Int) * 16) = (m : Int) * 16 := IntWalk.u64_in _ (by omega)
                  have hm2 : IntKind.u64.wrap ((m : Int) * 16 + (d : Int)) = (m : Int) * 16 + (d : Int) := IntWalk.u64_in _ (by omega)
                  have h4 : ¬ (m : Int) * 16 + (d : Int) < (m : Int) * 16 := by omega
                  have h4i : decide ((m : Int) * 16 + (d : Int) < (m : Int) * 16) = false := decide_eq_false h4
                  have h5 : ¬ (4294967295 : Int) < (m : Int) * 16 + (d : Int) := by omega
                  have h5i : decide ((4294967295 : Int) < (m : Int) * 16 + (d : Int)) = false := decide_eq_false h5
                  have hpw : m * 16 + d < 16 ^ (k + 1) := by rw [PW.out]; omega
                  have HPW := Lib.hid hpw
                  clear hpw hdb hd
                  go_wp2_with (go_at_call 139; refine (HLOW.out _).mono ?_; rintro e wx ⟨rfl, hwx⟩; rw [hwx]; clear hwx)
                  go_roundw
                  case rel => exact ⟨k + 1, m * 16 + d, by omega, by go_num, rfl, by push_cast; rfl, G.out, HPW.out, XR.out⟩
                  case measure => simp [intOf]; omega
                · have hr0 : r = none := BAD.out hdb
                  have h3 : (16 : Int) ≤ (d : Int) := by omega
                  subst hr0
                  clear hdb hd
                  go_wp2_with (go_at_call 139; refine (HLOW.out _).mono ?_; rintro e wx ⟨rfl, hwx⟩; rw [hwx]; clear hwx)
                  go_ret2
                  exact ⟨rfl, HB1.out.ex.trans XR.out⟩
              · have j2 : decide (lo ≤ 122) = false := decide_eq_false (by omega)
                have j2i : decide ((lo : Int) ≤ 122) = false := decide_eq_false l2
                have hr0 : r = none := BAD.out (by rw [PD.out, if_neg (by omega), if_neg (by omega)]; decide)
                subst hr0
                go_wp2_with (go_at_call 139; refine (HLOW.out _).mono ?_; rintro e wx ⟨rfl, hwx⟩; rw [hwx]; clear hwx)
                go_ret2
                exact ⟨rfl, HB1.out.ex.trans XR.out⟩
            · have j1 : decide (97 ≤ lo) = false := decide_eq_false (by omega)
              have j1i : decide ((97 : Int) ≤ (lo : Int)) = false := decide_eq_false l1
              have hr0 : r = none := BAD.out (by rw [PD.out, if_neg (by omega), if_neg (by omega)]; decide)
              subst hr0
              go_wp2_with (go_at_call 139; refine (HLOW.out _).mono ?_; rintro e wx ⟨rfl, hwx⟩; rw [hwx]; clear hwx)
              go_ret2
              exact ⟨rfl, HB1.out.ex.trans XR.out⟩
        · skip
          by_cases l1 : (97 : Int) ≤ (lo : Int)
          · have j1 : decide (97 ≤ lo) = true := decide_eq_true (by omega)
            have j1i : decide ((97 : Int) ≤ (lo : Int)) = true := decide_eq_true l1
            by_cases l2 : (lo : Int) ≤ 122
            · have j2 : decide (lo ≤ 122) = true := decide_eq_true (by omega)
              have j2i : decide ((lo : Int) ≤ 122) = true := decide_eq_true l2
              have hd : d = lo - 87 := by rw [PD.out, if_neg (by omega), if_pos ⟨by omega, by omega⟩]
              have hw1 : IntKind.u8.wrap ((lo : Int) - 97) = (lo : Int) - 97 := IntWalk.u8_in _ (by omega)
              have hw2 : IntKind.u8.wrap ((lo : Int) - 97 + 10) = (d : Int) := by rw [IntWalk.u8_in _ (by omega)]; omega
              by_cases hdb : d < 16
              · have G := Lib.hid (GOOD.out hdb)
                have h3 : ¬ (16 : Int) ≤ (d : Int) := by omega
                have h3d : decide (16 ≤ d) = false := decide_eq_false (by omega)
                have h3i : decide ((16 : Int) ≤ (d : Int)) = false := decide_eq_false h3
                have hm1 : IntKind.u64.wrap ((m : Int) * 16) = (m : Int) * 16 := IntWalk.u64_in _ (by omega)
                have hm2 : IntKind.u64.wrap ((m : Int) * 16 + (d : Int)) = (m : Int) * 16 + (d : Int) := IntWalk.u64_in _ (by omega)
                have h4 : ¬ (m : Int) * 16 + (d : Int) < (m : Int) * 16 := by omega
                have h4i : decide ((m : Int) * 16 + (d : Int) < (m : Int) * 16) = false := decide_eq_false h4
                have h5 : ¬ (4294967295 : Int) < (m : Int) * 16 + (d : Int) := by omega
                have h5i : decide ((4294967295 : Int) < (m : Int) * 16 + (d : Int)) = false := decide_eq_false h5
                have hpw : m * 16 + d < 16 ^ (k + 1) := by rw [PW.out]; omega
                have HPW := Lib.hid hpw
                clear hpw hdb hd
                go_wp2_with (go_at_call 139; refine (HLOW.out _).mono ?_; rintro e wx ⟨rfl, hwx⟩; rw [hwx]; clear hwx)
                go_roundw
                case rel => exact ⟨k + 1, m * 16 + d, by omega, by go_num, rfl, by push_cast; rfl, G.out, HPW.out, XR.out⟩
                case measure => simp [intOf]; omega
              · have hr0 : r = none := BAD.out hdb
                have h3 : (16 : Int) ≤ (d : Int) := by omega
                subst hr0
                clear hdb hd
                go_wp2_with (go_at_call 139; refine (HLOW.out _).mono ?_; rintro e wx ⟨rfl, hwx⟩; rw [hwx]; clear hwx)
                go_ret2
                exact ⟨rfl, HB1.out.ex.trans XR.out⟩
            · have j2 : decide (lo ≤ 122) = false := decide_eq_false (by omega)
              have j2i : decide ((lo : Int) ≤ 122) = false := decide_eq_false l2
              have hr0 : r = none := BAD.out (by rw [PD.out, if_neg (by omega), if_neg (by omega)]; decide)
              subst hr0
              go_wp2_with (go_at_call 139; refine (HLOW.out _).mono ?_; rintro e wx ⟨rfl, hwx⟩; rw [hwx]; clear hwx)
              go_ret2
              exact ⟨rfl, HB1.out.ex.trans XR.out⟩
          · have j1 : decide (97 ≤ lo) = false := decide_eq_false (by omega)
            have j1i : decide ((97 : Int) ≤ (lo : Int)) = false := decide_eq_false l1
            have hr0 : r = none := BAD.out (by rw [PD.out, if_neg (by omega), if_neg (by omega)]; decide)
            subst hr0
            go_wp2_with (go_at_call 139; refine (HLOW.out _).mono ?_; rintro e wx ⟨rfl, hwx⟩; rw [hwx]; clear hwx)
            go_ret2
            exact ⟨rfl, HB1.out.ex.trans XR.out⟩
    · obtain rfl : k = N := by omega
      have hr1 : r = some m := by rw [← HNUM.out, List.drop_eq_nil_of_le (by omega)]; rfl
      subst hr1
      clear xr
      go_wp2_with fail
      go_ret2
      exact ⟨rfl, HB1.out.ex.trans XR.out⟩
end Go.Proofs.YtdafdoodegpdhaaDoor
