/- lex.coded: a number's character. Conditions: at most 20 bytes. -/
import Derived.Test.YtdafdoodegpdhaaDoorLF
namespace Go.Proofs.YtdafdoodegpdhaaDoor
open Go Go.RowKit Go.BigFrame
set_option linter.unusedVariables false
set_option linter.unusedSimpArgs false

theorem etext_none {s : ByteArray} (h : s.size = 0) : (s.toList == ([] : List UInt8)) = true := by rw [ByteArray.toList_eq, show s.data.toList = [] from List.eq_nil_of_length_eq_zero h]; rfl
theorem etext_some {s : ByteArray} (h : ¬ s.size = 0) : (s.toList == ([] : List UInt8)) = false := by
  rw [ByteArray.toList_eq, beq_eq_false_iff_ne]
  intro e
  exact h (by show s.data.toList.length = 0; rw [e]; rfl)
theorem numL_bad (b : Nat) (c : UInt8) (hc : b ≤ digV c) : ∀ (l : List UInt8) (m : Nat), c ∈ l → numL b m l = none := by
  intro l
  induction l with
  | nil => intro m h; cases h
  | cons d r ih =>
    intro m h
    rw [numL]
    rcases List.mem_cons.1 h with rfl | h
    · rw [if_pos hc]
    · split
      · rfl
      · exact ih _ h
theorem sign_bad {l : List UInt8} (b : Nat) (hb : b ≤ 16) (h : ∃ c ∈ l, signC c) : numL b 0 l = none := by
  obtain ⟨c, hc, hs⟩ := h
  refine numL_bad b c ?_ l 0 hc
  have h99 : digV c = 99 := by rcases hs with rfl | rfl | rfl <;> rfl
  omega
set_option maxHeartbeats 400000 in
theorem ValidRune_any (n : Nat) (hn : n < 268435456) (w : World) : Calls Tryd.prog 78 #[.int .i32 (n : Int)] w (RBool (decide (n < 55296 ∨ 57344 ≤ n ∧ n ≤ 1114111)) w) := by
  have x := Ext.refl w
  by_cases h : n < 55296 ∨ 57344 ≤ n ∧ n ≤ 1114111
  · rw [decide_eq_true h]
    exact ValidRune_ok (n : Int) (by unfold Utf8.valid; simp; omega) w
  · rw [decide_eq_false h]
    have h1 : ¬ (n : Int) < 55296 := by omega
    by_cases h2 : (n : Int) ≤ 57343
    · have h3 : ¬ (57343 : Int) < (n : Int) := by omega
      clear h
      go_enter Tryd.func78, Tryd.ntmps78
      go_wp2
      go_ret
      exact ⟨rfl, x⟩
    · have h3 : (57343 : Int) < (n : Int) := by omega
      have h4 : ¬ (n : Int) ≤ 1114111 := by omega
      clear h
      go_enter Tryd.func78, Tryd.ntmps78
      go_wp2
      go_ret
      exact ⟨rfl, x⟩
theorem prefix_one (l : List UInt8) (c : UInt8) : Lib.hasPrefix l [c] = decide (l.head? = some c) := by
  cases l with
  | nil => rfl
  | cons b r =>
    rw [Bool.eq_iff_iff]
    simp [Lib.hasPrefix, List.isPrefixOf]
    exact eq_comm
theorem code_parts {B most : Nat} {t : ByteArray} {o : Option (List UInt8)} (h0 : t.size ≠ 0) (hm : ¬ most < t.size) (h : (codeN B most t.data.toList).map (fun (n : Nat) => (Utf8.encode (n : Int)).data.toList) = o) :
    ((numL B 0 t.data.toList).filter runeN).map (fun (n : Nat) => (Utf8.encode (n : Int)).data.toList) = o := by
  rw [← h]
  unfold codeN
  rw [if_neg]
  rintro (h1 | h1)
  · exact h0 (by show t.data.toList.length = 0; rw [h1]; rfl)
  · exact hm h1
set_option maxHeartbeats 2000000 in
set_option maxRecDepth 100000 in
theorem coded_any (s : ByteArray) (hs : s.size ≤ 20) (w : World) (hl : LW w) : Calls Tryd.prog 58 #[.string s] w (RVal (optV (codedL s.data.toList)) w) := by
  have HP := Lib.hid (HasPrefix_any s ⟨#[120]⟩)
  have HL := Lib.hid hl
  obtain ⟨o, ho⟩ : ∃ o, codedL s.data.toList = o := ⟨_, rfl⟩
  rw [ho]
  have hpx := prefix_one s.data.toList 120
  unfold codedL codeL at ho
  by_cases hx : s.data.toList.head? = some 120
  · rw [if_pos hx] at ho
    have hpos : 0 < s.size := by
      rcases Nat.eq_zero_or_pos s.size with h | h
      · have : s.data.toList = [] := List.eq_nil_of_length_eq_zero h
        rw [this] at hx; cases hx
      · exact h
    rw [decide_eq_true hx] at hpx
    have HP2 := Lib.hid (fun W => (hpx ▸ HP.out W : Calls Tryd.prog 57 #[.string s, .string ⟨#[120]⟩] W (RVal (.bool true) W)))
    obtain ⟨t, ht⟩ : ∃ t, s.extract 1 s.size = t := ⟨_, rfl⟩
    have htl : t.data.toList = s.data.toList.tail := by
      have h1 := bs_cut s.data.toList 1 s.size
      rw [bs_list, ht] at h1
      rw [h1, bs_data, List.drop_one]
      exact List.take_of_length_le (by rw [List.length_tail]; exact Nat.le_refl _)
    have hsl : ∀ W : World, (Instr.slice 9 (.string s) (some (.int .i64 1)) none none).run Tryd.prog W = .ok (.string t) W := by
      intro W
      rw [run_slice_string_l W 9 s Tryd.underlying9 .i64 1 (by decide) (by omega), ← ht]
      rfl
    have htz : t.size ≤ 20 := by
      have h1 : t.size = t.data.toList.length := rfl
      have h2 : s.data.toList.length = s.size := rfl
      rw [h1, htl, List.length_tail]; omega
    rw [← htl] at ho
    have HO := Lib.hid ho
    clear ho hx hpx ht htl hs hl hpos
    go_enter Tryd.func58, Tryd.ntmps58
    go_wp2_with (go_at_call 57; refine (HP2.out _).mono ?_)
    rintro e w1 ⟨rfl, x1⟩
    have X1 := Lib.hid x1
    clear x1
    by_cases z0 : t.size = 0
    · have e0 : (t.toList == ([] : List UInt8)) = true := etext_none z0
      have ho1 : o = none := by rw [← HO.out]; unfold codeN; rw [if_pos (.inl (List.eq_nil_of_length_eq_zero z0))]; rfl
      subst ho1
      clear z0
      go_wp2_with fail
      go_ret2
      exact ⟨rfl, X1.out⟩
    have e0 : (t.toList == ([] : List UInt8)) = false := etext_some z0
    by_cases z6 : 6 < t.size
    · have k6 : (6 : Int) < (t.size : Int) := by omega
      have k6i : decide ((6 : Int) < (t.size : Int)) = true := decide_eq_true k6
      have k6n : decide (6 < t.size) = true := decide_eq_true z6
      have ho1 : o = none := by rw [← HO.out]; unfold codeN; rw [if_pos (.inr z6)]; rfl
      subst ho1
      clear z6
      go_wp2_with fail
      go_ret2
      exact ⟨rfl, X1.out⟩
    have k6 : ¬ (6 : Int) < (t.size : Int) := by omega
    have k6i : decide ((6 : Int) < (t.size : Int)) = false := decide_eq_false k6
    have k6n : decide (6 < t.size) = false := decide_eq_false z6
    have HO2 := Lib.hid (code_parts z0 z6 HO.out)
    have HCA := Lib.hid (ContainsAny_any t z0 (by omega))
    have Z0 := Lib.hid z0
    have Z7 := Lib.hid (show t.size ≤ 7 by omega)
    clear z0 z6 htz
    go_wp2_with (go_at_call 76; refine (HCA.out _).mono ?_)
    rintro e w2 ⟨b, rfl, h1, h2, x2⟩
    have H1 := Lib.hid h1
    have H2 := Lib.hid h2
    have X2 := Lib.hid (X1.out.trans x2)
    clear h1 h2 x2
    cases b with
    | true =>
      have ho1 : o = none := by rw [← HO2.out, sign_bad 16 (by decide) (H1.out rfl)]; rfl
      subst ho1
      go_wp2_with fail
      go_ret2
      exact ⟨rfl, X2.out⟩
    | false =>
      have HPI := Lib.hid (ppi16_any t Z0.out Z7.out (H2.out rfl).1 (H2.out rfl).2 w2 (HL.out.ext X2.out))
      have hlt : ∀ n, numL 16 0 t.data.toList = some n → n < 268435456 := fun n h => by
        have h1 := numL_lt 16 (by decide) _ 0 n 1 h (by decide)
        have h2 : 16 ^ t.data.toList.length ≤ 268435456 := pow_le7 Z7.out
        omega
      have HLT := Lib.hid hlt
      obtain ⟨r, hr⟩ : ∃ r, numL 16 0 t.data.toList = r := ⟨_, rfl⟩
      rw [hr] at HPI HLT HO2
      clear hr hlt
      go_wp2_with (go_at_call 77; refine HPI.out.mono ?_)
      rintro e w3 ⟨ev, rfl, hv1, hv2, x3⟩
      have X3 := Lib.hid (X2.out.trans x3)
      clear x3
      cases r with
      | none =>
        obtain ⟨p, rfl⟩ := hv2 rfl
        have ho1 : o = none := HO2.out.symm
        subst ho1
        clear hv1 hv2
        go_wp2_with fail
        go_ret2
        exact ⟨rfl, X3.out⟩
      | some n =>
        obtain rfl := hv1 (by simp)
        have hn := HLT.out n rfl
        clear hv1 hv2
        have hw : IntKind.i32.wrap (n : Int) = (n : Int) := IntWalk.i32_in _ (by omega)
        by_cases n0 : n = 0
        · have ho1 : o = none := by rw [← HO2.out, n0]; rfl
          subst ho1
          have kn : ((n : Int) == 0) = true := by simp [n0]
          clear n0
          go_wp2_with fail
          go_ret2
          exact ⟨rfl, X3.out⟩
        have kn : ((n : Int) == 0) = false := by rw [beq_eq_false_iff_ne]; omega
        have HVR := Lib.hid (ValidRune_any n hn)
        by_cases nv : n < 55296 ∨ 57344 ≤ n ∧ n ≤ 1114111
        case neg =>
          have hf : runeN n = false := by unfold runeN; exact decide_eq_false (by omega)
          have ho1 : o = none := by rw [← HO2.out]; simp [Option.filter, hf]
          subst ho1
          have HVF := Lib.hid (fun W => (decide_eq_false nv ▸ HVR.out W : Calls Tryd.prog 78 #[.int .i32 (n : Int)] W (RBool false W)))
          clear nv hf n0
          go_wp2_with (go_at_call 78; refine (HVF.out _).mono ?_)
          rintro e w4 ⟨rfl, x4⟩
          go_wp2_with fail
          go_ret2
          exact ⟨rfl, X3.out.trans x4⟩
        have hf : runeN n = true := by unfold runeN; exact decide_eq_true (by omega)
        have ho1 : o = some (Utf8.encode (n : Int)).data.toList := by rw [← HO2.out]; simp [Option.filter, hf]
        have HVF := Lib.hid (fun W => (decide_eq_true nv ▸ HVR.out W : Calls Tryd.prog 78 #[.int .i32 (n : Int)] W (RBool true W)))
        have hcv : ∀ W : World, (Go.convert 21 9 (.int .i32 (n : Int))).run Tryd.prog W = .ok (.string (Utf8.encode (n : Int))) W := by
          intro W
          simp [convert, run_underlying Tryd.underlying21, run_underlying Tryd.underlying9, Conv.intToString]
        have hfin : optV o = .tuple #[.string (Utf8.encode (n : Int)), .bool true] := by rw [ho1]; unfold optV; simp [bs_list]
        clear nv hf n0 ho1
        generalize Utf8.encode (n : Int) = E at *
        have HFIN := Lib.hid hfin
        clear hfin
        go_wp2_with (go_at_call 78; refine (HVF.out _).mono ?_)
        rintro e w4 ⟨rfl, x4⟩
        go_wp2_with fail
        go_ret2
        exact ⟨by rw [HFIN.out]; rfl, X3.out.trans x4⟩
  · rw [if_neg hx] at ho
    rw [decide_eq_false hx] at hpx
    have HP2 := Lib.hid (fun W => (hpx ▸ HP.out W : Calls Tryd.prog 57 #[.string s, .string ⟨#[120]⟩] W (RVal (.bool false) W)))
    have HO := Lib.hid ho
    obtain ⟨t, ht⟩ : ∃ t, s = t := ⟨_, rfl⟩
    subst ht
    have htz := hs
    clear ho hx hpx hs hl
    go_enter Tryd.func58, Tryd.ntmps58
    go_wp2_with (go_at_call 57; refine (HP2.out _).mono ?_)
    rintro e w1 ⟨rfl, x1⟩
    have X1 := Lib.hid x1
    clear x1
    by_cases z0 : s.size = 0
    · have e0 : (s.toList == ([] : List UInt8)) = true := etext_none z0
      have ho1 : o = none := by rw [← HO.out]; unfold codeN; rw [if_pos (.inl (List.eq_nil_of_length_eq_zero z0))]; rfl
      subst ho1
      clear z0
      go_wp2_with fail
      go_ret2
      exact ⟨rfl, X1.out⟩
    have e0 : (s.toList == ([] : List UInt8)) = false := etext_some z0
    by_cases z6 : 7 < s.size
    · have k6 : (7 : Int) < (s.size : Int) := by omega
      have k6i : decide ((7 : Int) < (s.size : Int)) = true := decide_eq_true k6
      have k6n : decide (7 < s.size) = true := decide_eq_true z6
      have ho1 : o = none := by rw [← HO.out]; unfold codeN; rw [if_pos (.inr z6)]; rfl
      subst ho1
      clear z6
      go_wp2_with fail
      go_ret2
      exact ⟨rfl, X1.out⟩
    have k6 : ¬ (7 : Int) < (s.size : Int) := by omega
    have k6i : decide ((7 : Int) < (s.size : Int)) = false := decide_eq_false k6
    have k6n : decide (7 < s.size) = false := decide_eq_false z6
    have HO2 := Lib.hid (code_parts z0 z6 HO.out)
    have HCA := Lib.hid (ContainsAny_any s z0 (by omega))
    have Z0 := Lib.hid z0
    have Z7 := Lib.hid (show s.size ≤ 7 by omega)
    clear z0 z6 htz
    go_wp2_with (go_at_call 76; refine (HCA.out _).mono ?_)
    rintro e w2 ⟨b, rfl, h1, h2, x2⟩
    have H1 := Lib.hid h1
    have H2 := Lib.hid h2
    have X2 := Lib.hid (X1.out.trans x2)
    clear h1 h2 x2
    cases b with
    | true =>
      have ho1 : o = none := by rw [← HO2.out, sign_bad 10 (by decide) (H1.out rfl)]; rfl
      subst ho1
      go_wp2_with fail
      go_ret2
      exact ⟨rfl, X2.out⟩
    | false =>
      have HPI := Lib.hid (ppi10_any s Z0.out Z7.out (H2.out rfl).1 (H2.out rfl).2 w2 (HL.out.ext X2.out))
      have hlt : ∀ n, numL 10 0 s.data.toList = some n → n < 268435456 := fun n h => by
        have h1 := numL_lt 10 (by decide) _ 0 n 1 h (by decide)
        have h2 : 16 ^ s.data.toList.length ≤ 268435456 := pow_le7 Z7.out
        omega
      have HLT := Lib.hid hlt
      obtain ⟨r, hr⟩ : ∃ r, numL 10 0 s.data.toList = r := ⟨_, rfl⟩
      rw [hr] at HPI HLT HO2
      clear hr hlt
      go_wp2_with (go_at_call 77; refine HPI.out.mono ?_)
      rintro e w3 ⟨ev, rfl, hv1, hv2, x3⟩
      have X3 := Lib.hid (X2.out.trans x3)
      clear x3
      cases r with
      | none =>
        obtain ⟨p, rfl⟩ := hv2 rfl
        have ho1 : o = none := HO2.out.symm
        subst ho1
        clear hv1 hv2
        go_wp2_with fail
        go_ret2
        exact ⟨rfl, X3.out⟩
      | some n =>
        obtain rfl := hv1 (by simp)
        have hn := HLT.out n rfl
        clear hv1 hv2
        have hw : IntKind.i32.wrap (n : Int) = (n : Int) := IntWalk.i32_in _ (by omega)
        by_cases n0 : n = 0
        · have ho1 : o = none := by rw [← HO2.out, n0]; rfl
          subst ho1
          have kn : ((n : Int) == 0) = true := by simp [n0]
          clear n0
          go_wp2_with fail
          go_ret2
          exact ⟨rfl, X3.out⟩
        have kn : ((n : Int) == 0) = false := by rw [beq_eq_false_iff_ne]; omega
        have HVR := Lib.hid (ValidRune_any n hn)
        by_cases nv : n < 55296 ∨ 57344 ≤ n ∧ n ≤ 1114111
        case neg =>
          have hf : runeN n = false := by unfold runeN; exact decide_eq_false (by omega)
          have ho1 : o = none := by rw [← HO2.out]; simp [Option.filter, hf]
          subst ho1
          have HVF := Lib.hid (fun W => (decide_eq_false nv ▸ HVR.out W : Calls Tryd.prog 78 #[.int .i32 (n : Int)] W (RBool false W)))
          clear nv hf n0
          go_wp2_with (go_at_call 78; refine (HVF.out _).mono ?_)
          rintro e w4 ⟨rfl, x4⟩
          go_wp2_with fail
          go_ret2
          exact ⟨rfl, X3.out.trans x4⟩
        have hf : runeN n = true := by unfold runeN; exact decide_eq_true (by omega)
        have ho1 : o = some (Utf8.encode (n : Int)).data.toList := by rw [← HO2.out]; simp [Option.filter, hf]
        have HVF := Lib.hid (fun W => (decide_eq_true nv ▸ HVR.out W : Calls Tryd.prog 78 #[.int .i32 (n : Int)] W (RBool true W)))
        have hcv : ∀ W : World, (Go.convert 21 9 (.int .i32 (n : Int))).run Tryd.prog W = .ok (.string (Utf8.encode (n : Int))) W := by
          intro W
          simp [convert, run_underlying Tryd.underlying21, run_underlying Tryd.underlying9, Conv.intToString]
        have hfin : optV o = .tuple #[.string (Utf8.encode (n : Int)), .bool true] := by rw [ho1]; unfold optV; simp [bs_list]
        clear nv hf n0 ho1
        generalize Utf8.encode (n : Int) = E at *
        have HFIN := Lib.hid hfin
        clear hfin
        go_wp2_with (go_at_call 78; refine (HVF.out _).mono ?_)
        rintro e w4 ⟨rfl, x4⟩
        go_wp2_with fail
        go_ret2
        exact ⟨by rw [HFIN.out]; rfl, X3.out.trans x4⟩
end Go.Proofs.YtdafdoodegpdhaaDoor
