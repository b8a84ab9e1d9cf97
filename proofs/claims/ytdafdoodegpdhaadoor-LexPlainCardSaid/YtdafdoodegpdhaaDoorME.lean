/- LexRises: tokens rise. Conditions: none. -/
import Derived.Test.YtdafdoodegpdhaaDoorMD
import Derived.Test.YtdafdoodegpdhaaDoorLY
namespace Go.Proofs.YtdafdoodegpdhaaDoor
open Go Go.RowKit Go.BigFrame
set_option linter.unusedVariables false
set_option linter.unusedSimpArgs false

theorem All_toks {t : ByteArray} {w : World} {e : Ending} {w' : World} (h : RAll t w e w') : ∃ v z toks, e = .returned (.tuple #[v, .int .i64 z]) ∧ Ext w w' ∧ TkRd w' v toks ∧ rises t.data.toList 0 false toks ∧ (toks = [] ∨ toks = tokens t.data.toList) ∧ toks.length ≤ 8193 := by
  rcases h with ⟨h1, h2, h3⟩ | ⟨h1, v, h2, h3, h4⟩
  · exact ⟨_, _, [], h2, h3, ⟨[], rfl, ⟨rfl, .inl ⟨rfl, none, rfl⟩⟩, fun p hp => by cases hp⟩, trivial, .inl rfl, Nat.zero_le _⟩
  · refine ⟨v, _, _, h2, h3, h4, tokens_rise _, .inr rfl, ?_⟩
    unfold tokens
    rw [List.length_map]
    have h5 := (lexL_small t.data.toList.length t.data.toList.length t.data.toList [] 0 0 (Nat.le_refl _)).2
    rw [if_pos rfl] at h5
    have h6 : t.data.toList.length = t.size := rfl
    omega
theorem etext_ne {l : List UInt8} {t : ByteArray} (ht : bs l = t) (h : l ≠ []) : (t.toList == ([] : List UInt8)) = false ∧ (t.toList != ([] : List UInt8)) = true := by
  have h0 : ¬ t.size = 0 := by rw [← ht, bs_size]; intro e; exact h (List.eq_nil_of_length_eq_zero e)
  have e := etext_some h0
  exact ⟨e, by simp [bne, e]⟩
theorem etext_eq {l : List UInt8} {t : ByteArray} (ht : bs l = t) (h : l = []) : (t.toList == ([] : List UInt8)) = true ∧ (t.toList != ([] : List UInt8)) = false := by
  have h0 : t.size = 0 := by rw [← ht, bs_size, h]; rfl
  have e := etext_none h0
  exact ⟨e, by simp [bne, e]⟩
set_option maxHeartbeats 40000000 in
set_option maxRecDepth 100000 in
theorem rises_walk (s : ByteArray) (w : World) (hl : LW w) : Calls Tryd.prog 6 #[.string s] w (RBool true w) := by
  have HL := Lib.hid hl
  by_cases h5 : 50000 < s.size
  · have hi : decide ((50000 : Int) < (s.size : Int)) = true := decide_eq_true (by omega)
    have hn : decide (50000 < s.size) = true := decide_eq_true h5
    have HW := Lib.hid (awake_any w hl)
    clear hl h5
    go_enter Tryd.func6, Tryd.ntmps6
    go_wp2_with (go_at_call 18; refine HW.out.mono ?_)
    rintro e w1 ⟨rfl, x1⟩
    go_wp2_with fail
    go_ret
    exact ⟨rfl, x1⟩
  have hi : decide ((50000 : Int) < (s.size : Int)) = false := decide_eq_false (by omega)
  have hn : decide (50000 < s.size) = false := decide_eq_false h5
  have HA := Lib.hid (All_any s (by omega) w hl)
  have HN := Lib.hid (fun W => Anew_big s (by omega) W)
  have hts := anewB_size s
  obtain ⟨t, ht⟩ : ∃ t, anewB s = t := ⟨_, rfl⟩
  rw [ht] at HA HN hts
  have HTS := Lib.hid (show t.size ≤ 200000 by omega)
  clear hl h5 ht hts
  go_enter Tryd.func6, Tryd.ntmps6
  go_wp2_with (go_at_call 21; refine HA.out.mono ?_)
  intro e w1 h1
  obtain ⟨v, z, toks, rfl, x1, t1, r1, _, hlen⟩ := All_toks h1
  have X1 := Lib.hid x1
  have T1 := Lib.hid t1
  have RI := Lib.hid r1
  clear h1 x1 t1 r1 hi hn
  go_wp2_with (go_at_call 22; refine (HN.out _).mono ?_)
  rintro e w2 ⟨rfl, x2⟩
  have X2 := Lib.hid (X1.out.trans x2)
  obtain ⟨a, cap, rfl, hcap, hat⟩ := (T1.out.ext x2).at
  have HAT := Lib.hid hat
  clear x2 hat
  go_wp2_with fail
  go_loopw [5, 6, 7] (fun av iv _ wr => ∃ (k at_ : Nat) (pt : Bool), k ≤ toks.length ∧ iv = .int .i64 k ∧ av = .int .i64 at_ ∧ rises t.data.toList at_ pt (toks.drop k) ∧ (∀ j x, j + 1 = k → toks[j]? = some x → pt = (x.kind == 1)) ∧ Ext w2 wr) (fun _ iv _ _ => toks.length - (intOf iv).toNat)
  case atStart => exact ⟨0, 0, false, Nat.zero_le _, rfl, rfl, by rw [List.drop_zero]; exact RI.out, fun j x hj => by omega, Ext.refl _⟩
  case round =>
    obtain ⟨k, at_, pt, hk, rfl, rfl, hri, hpt, xr⟩ := hrel
    have HPT := Lib.hid hpt
    have XR := Lib.hid xr
    by_cases hlt : k < toks.length
    · obtain ⟨g, hga, hgt⟩ := HAT.out (by omega)
      subst hga
      obtain ⟨tk, htk⟩ : ∃ tk, toks[k]? = some tk := ⟨_, List.getElem?_eq_getElem hlt⟩
      have hd : toks.drop k = tk :: toks.drop (k + 1) := by
        obtain ⟨h6, h7⟩ := List.getElem?_eq_some_iff.1 htk
        rw [List.drop_eq_getElem_cons h6, h7]
      rw [hd] at hri
      obtain ⟨r1, r2, r3, r4, r5⟩ := hri
      have tka := (hgt k tk htk).ext xr
      obtain ⟨aa, ac, q3, _⟩ := tka.attrs
      have q0 := tka.kind
      have q1 := tka.name
      have q2 := tka.text
      have q4 := tka.self
      have q5 := tka.lo
      have q6 := tka.hi
      obtain ⟨kd, hkd⟩ : ∃ z, tk.kind = z := ⟨_, rfl⟩
      obtain ⟨nb, hnb⟩ : ∃ b, bs tk.name = b := ⟨_, rfl⟩
      obtain ⟨tb, htb⟩ : ∃ b, bs tk.text = b := ⟨_, rfl⟩
      obtain ⟨sz, hsz⟩ : ∃ z, selfZ tk.self = z := ⟨_, rfl⟩
      obtain ⟨lo, hlo⟩ : ∃ n, tk.lo = n := ⟨_, rfl⟩
      obtain ⟨hi, hhi⟩ : ∃ n, tk.hi = n := ⟨_, rfl⟩
      obtain ⟨al, hal⟩ : ∃ n, tk.attrs.length = n := ⟨_, rfl⟩
      rw [hkd] at q0
      rw [hnb] at q1
      rw [htb] at q2
      rw [hal] at q3
      rw [hsz] at q4
      rw [hlo] at q5 r1 r2
      rw [hhi] at q6 r2 r3 r5
      have hL : t.data.toList.length = t.size := rfl
      have hts2 : t.size ≤ 200000 := HTS.out
      rw [hL] at r3
      have u1 : decide ((lo : Int) < (at_ : Int)) = false := decide_eq_false (by omega)
      have u1n : decide (lo < at_) = false := decide_eq_false (by omega)
      have u2 : decide ((hi : Int) ≤ (lo : Int)) = false := decide_eq_false (by omega)
      have u2n : decide (hi ≤ lo) = false := decide_eq_false (by omega)
      have u3 : decide ((t.size : Int) < (hi : Int)) = false := decide_eq_false (by omega)
      have u3n : decide (t.size < hi) = false := decide_eq_false (by omega)
      have R5 := Lib.hid r5
      have HTK := Lib.hid htk
      have hhi' := hhi
      have xb := (Ext.refl wr).alloc (.cells #[.int .i64 kd, .string nb, .string tb, .slice aa al ac, .int .i64 sz, .int .i64 (lo : Int), .int .i64 (hi : Int)] 40)
      have hbx := heap_alloc_new wr (.cells #[.int .i64 kd, .string nb, .string tb, .slice aa al ac, .int .i64 sz, .int .i64 (lo : Int), .int .i64 (hi : Int)] 40)
      have hm1 : (k : Int) < (toks.length : Int) := by omega
      have hm2 : (0 : Int) ≤ (k : Int) := by omega
      have htn : (k : Int).toNat = k := by omega
      clear r1 r5 htk hd hpt
      go_upto_region 10 with fail
      obtain ⟨wb, hwb⟩ : ∃ w' : World, w' = wr.alloc (.cells #[.int .i64 kd, .string nb, .string tb, .slice aa al ac, .int .i64 sz, .int .i64 (lo : Int), .int .i64 (hi : Int)] 40) := ⟨_, rfl⟩
      rw [← hwb] at xb hbx ⊢
      clear hwb q0 q1 q2 q3 q4 q5 q6
      obtain ⟨bx, hbxe⟩ : ∃ b, wr.heap.size = b := ⟨_, rfl⟩
      rw [hbxe] at hbx ⊢
      clear hbxe
      have d0 := cellOf hbx (i := 0) (v := .int .i64 kd) rfl
      have d1 := cellOf hbx (i := 1) (v := .string nb) rfl
      have d2 := cellOf hbx (i := 2) (v := .string tb) rfl
      have d3 := cellOf hbx (i := 3) (v := .slice aa al ac) rfl
      have d4 := cellOf hbx (i := 4) (v := .int .i64 sz) rfl
      have d5 := cellOf hbx (i := 5) (v := .int .i64 (lo : Int)) rfl
      have d6 := cellOf hbx (i := 6) (v := .int .i64 (hi : Int)) rfl
      have XB := Lib.hid (XR.out.trans xb)
      have XBX := Lib.hid xb
      have HGT := Lib.hid hgt
      clear hbx xb hgt
      rcases r4 with ⟨e1, e2, e3, e4, e5, e6⟩ | ⟨e1, e2, e3, e4, e5, e6, e7, e8⟩
      · have hkd1 : kd = 1 := by rw [← hkd]; exact e1
        have HPF := Lib.hid e3
        obtain ⟨f1, f1b⟩ := etext_ne htb e2
        obtain ⟨f2, f2b⟩ := etext_eq hnb e4
        have hal0 : al = 0 := by rw [← hal, e5]; rfl
        have hsz0 : sz = 0 := by rw [← hsz, e6]; rfl
        have HNXT : Hid (∀ j x, j + 1 = k + 1 → toks[j]? = some x → true = (x.kind == 1)) := Lib.hid (fun j x hj hx => by
          obtain rfl : j = k := by omega
          rw [HTK.out] at hx
          cases hx
          rw [e1]; rfl)
        have HR6 : Hid (rises t.data.toList hi true (toks.drop (k + 1))) := Lib.hid (by have h := R5.out; rw [e1] at h; exact h)
        subst hkd1
        subst hal0
        subst hsz0
        clear hkd e1 e2 e3 e4 e5 e6 hnb htb hal hsz
        by_cases hk0 : k = 0
        · have g0 : decide ((0 : Int) < (k : Int)) = false := decide_eq_false (by omega)
          have g0n : decide (0 < k) = false := decide_eq_false (by omega)
          clear hk0
          go_wp2_with fail
          go_roundw
          case rel => exact ⟨k + 1, hi, true, by omega, by go_num, rfl, HR6.out, HNXT.out, XB.out⟩
          case measure => simp [intOf]; omega
        · have g0 : decide ((0 : Int) < (k : Int)) = true := decide_eq_true (by omega)
          have g0n : decide (0 < k) = true := decide_eq_true (by omega)
          obtain ⟨j, hj⟩ : ∃ j, j + 1 = k := ⟨k - 1, by omega⟩
          obtain ⟨tj, htj⟩ : ∃ x, toks[j]? = some x := ⟨_, List.getElem?_eq_getElem (by omega)⟩
          have hpj := HPT.out j tj hj htj
          have hkj := ((HGT.out j tj htj).ext XR.out).ext XBX.out |>.kind
          have hwj : IntKind.i64.wrap ((k : Int) - 1) = (j : Int) := by rw [IntWalk.i64_in _ (by omega)]; omega
          have hj0 : (0 : Int) ≤ (j : Int) := by omega
          have hj1 : (j : Int) < (toks.length : Int) := by omega
          have hjn : (j : Int).toNat = j := by omega
          obtain ⟨kj, hkje⟩ : ∃ z, tj.kind = z := ⟨_, rfl⟩
          rw [hkje] at hpj hkj
          have hkjf : (kj == 1) = false := by rw [← hpj]; exact HPF.out
          clear hk0 hj htj hpj hkje
          go_wp2_with fail
          go_roundw
          case rel => exact ⟨k + 1, hi, true, by omega, by go_num, rfl, HR6.out, HNXT.out, XB.out⟩
          case measure => simp [intOf]; omega
      · obtain ⟨f1, f1b⟩ := etext_eq htb e2
        obtain ⟨f2, f2b⟩ := etext_ne hnb e3
        have hne1 : (kd == 1) = false := by rw [beq_eq_false_iff_ne, ← hkd]; rcases e1 with h | h <;> rw [h] <;> decide
        have hsmall : bs (nb.data.toList.map smallC) = nb := by rw [← hnb, bs_data, e4]
        have hnz : nb.size ≤ 1000000000000 := by rw [← hnb, bs_size]; omega
        have HSM : Hid (∀ W, Calls Tryd.prog 23 #[.string nb] W (RVal (.string nb) W)) := Lib.hid (fun W => by have h := rSmall_any nb hnz W; rw [hsmall] at h; exact h)
        rw [hlo] at e5
        rw [hhi'] at e6
        have hix1 : ∀ W : World, (Instr.index 9 (.string t) (.int .i64 (lo : Int))).run Tryd.prog W = .ok (.int .u8 60) W := by
          intro W
          obtain ⟨hlo2, hlo3⟩ := List.getElem?_eq_some_iff.1 e5
          rw [run_index_string W 9 t .i64 (lo : Int) Tryd.underlying9, dif_pos ⟨by omega, by omega⟩]
          have h6 : t[lo]'(by omega) = 60 := hlo3
          simp only [Int.toNat_natCast, h6]
          rfl
        obtain ⟨h1, hh1⟩ : ∃ j, hi - 1 = j := ⟨_, rfl⟩
        rw [hh1] at e6
        have hwh : IntKind.i64.wrap ((hi : Int) - 1) = (h1 : Int) := by rw [IntWalk.i64_in _ (by omega)]; omega
        have hix2 : ∀ W : World, (Instr.index 9 (.string t) (.int .i64 (h1 : Int))).run Tryd.prog W = .ok (.int .u8 62) W := by
          intro W
          obtain ⟨hlo2, hlo3⟩ := List.getElem?_eq_some_iff.1 e6
          rw [run_index_string W 9 t .i64 (h1 : Int) Tryd.underlying9, dif_pos ⟨by omega, by omega⟩]
          have h6 : t[h1]'(by omega) = 62 := hlo3
          simp only [Int.toNat_natCast, h6]
          rfl
        have esn : (nb.toList != nb.toList) = false := by simp [bne]
        have w0 : ∀ u : ExtOf wb, u.val.cell? ⟨bx, 0, none⟩ = some (.int .i64 kd) := fun u => u.ext.cell d0
        have w1 : ∀ u : ExtOf wb, u.val.cell? ⟨bx, 1, none⟩ = some (.string nb) := fun u => u.ext.cell d1
        have w2' : ∀ u : ExtOf wb, u.val.cell? ⟨bx, 2, none⟩ = some (.string tb) := fun u => u.ext.cell d2
        have w3 : ∀ u : ExtOf wb, u.val.cell? ⟨bx, 3, none⟩ = some (.slice aa al ac) := fun u => u.ext.cell d3
        have w4 : ∀ u : ExtOf wb, u.val.cell? ⟨bx, 4, none⟩ = some (.int .i64 sz) := fun u => u.ext.cell d4
        have w5 : ∀ u : ExtOf wb, u.val.cell? ⟨bx, 5, none⟩ = some (.int .i64 (lo : Int)) := fun u => u.ext.cell d5
        have w6 : ∀ u : ExtOf wb, u.val.cell? ⟨bx, 6, none⟩ = some (.int .i64 (hi : Int)) := fun u => u.ext.cell d6
        have HNXT : Hid (∀ j x, j + 1 = k + 1 → toks[j]? = some x → false = (x.kind == 1)) := Lib.hid (fun j x hj hx => by
          obtain rfl : j = k := by omega
          rw [HTK.out] at hx
          cases hx
          rw [hkd, hne1])
        have HR6 : Hid (rises t.data.toList hi false (toks.drop (k + 1))) := Lib.hid (by have h := R5.out; rw [hkd, hne1] at h; exact h)
        rcases e1 with e1 | e1
        · have hk2 : kd = 2 := by rw [← hkd]; exact e1
          subst hk2
          clear hkd e1 e2 e3 e4 e5 e6 e7 e8 hnb htb hal hsz hsmall hnz hh1 hne1
          go_upto_region 20 with fail
          refine wp_region_ext (by kernel_rfl) (by kernel_rfl) ?_
          repeat (go_big_quiet_step ((go_at_call 23; exact inExt (HSM.out _))))
          refine wpQuiet_nil ?_
          rintro _ ⟨u, rfl⟩
          have XU := Lib.hid (XB.out.trans u.ext)
          go_wp2_with fail
          go_roundw
          case rel => exact ⟨k + 1, hi, false, by omega, by go_num, rfl, HR6.out, HNXT.out, XU.out⟩
          case measure => simp [intOf]; omega
        · have hk3 : kd = 3 := by rw [← hkd]; exact e1
          obtain ⟨e7a, e7b⟩ := e7 e1
          have hal0 : al = 0 := by rw [← hal, e7a]; rfl
          have hsz0 : sz = 0 := by rw [← hsz, e7b]; rfl
          subst hk3
          subst hal0
          subst hsz0
          clear hkd e1 e2 e3 e4 e5 e6 e7 e8 hnb htb hal hsz hsmall hnz hh1 hne1 e7a e7b
          go_upto_region 20 with fail
          refine wp_region_ext (by kernel_rfl) (by kernel_rfl) ?_
          repeat (go_big_quiet_step ((go_at_call 23; exact inExt (HSM.out _))))
          refine wpQuiet_nil ?_
          rintro _ ⟨u, rfl⟩
          have XU := Lib.hid (XB.out.trans u.ext)
          go_wp2_with fail
          go_roundw
          case rel => exact ⟨k + 1, hi, false, by omega, by go_num, rfl, HR6.out, HNXT.out, XU.out⟩
          case measure => simp [intOf]; omega
    · obtain rfl : k = toks.length := by omega
      have HW := Lib.hid (awake_any wr ((HL.out.ext X2.out).ext XR.out))
      go_wp2_with (go_at_call 18; refine HW.out.mono ?_)
      rintro e w3 ⟨rfl, x3⟩
      go_wp2_with fail
      go_ret
      exact ⟨rfl, (X2.out.trans XR.out).trans x3⟩
end Go.Proofs.YtdafdoodegpdhaaDoor
