/- lex's reader: value, name, note. Conditions: at most 10^6 bytes. -/
import Derived.Test.YtdafdoodegpdhaaDoorLQ
namespace Go.Proofs.YtdafdoodegpdhaaDoor
open Go Go.RowKit Go.BigFrame
set_option linter.unusedVariables false
set_option linter.unusedSimpArgs false

def RValue (rb : Nat) (s : ByteArray) (o : Option (List UInt8 × List UInt8)) (w : World) (e : Ending) (w' : World) : Prop :=
  match o with
  | some (v, t) => e = .returned (.tuple #[.string (bs v), .bool true]) ∧ Mv (· = rb) w w' ∧ Rd rb s t w'
  | none => ∃ x r', e = .returned (.tuple #[.string x, .bool false]) ∧ Mv (· = rb) w w' ∧ Rd rb s r' w'
theorem valueL_quote {r t : List UInt8} {q : UInt8} (h : r.dropWhile blankB = q :: t) (hq : q = 34 ∨ q = 39) : valueL r = match t.dropWhile (neB q) with
    | [] => none
    | _ :: r3 => some (t.takeWhile (neB q), r3) := by
  unfold valueL
  rw [h]
  dsimp only
  rw [if_pos hq]
  rfl
theorem valueL_bare {r : List UInt8} (h : headP (· == 34) (r.dropWhile blankB) = false) (h2 : headP (· == 39) (r.dropWhile blankB) = false) : valueL r = some ((r.dropWhile blankB).takeWhile valB, (r.dropWhile blankB).dropWhile valB) := by
  unfold valueL
  cases hr : r.dropWhile blankB with
  | nil => rfl
  | cons q t =>
    rw [hr] at h h2
    have e1 : (q == 34) = false := h
    have e2 : (q == 39) = false := h2
    dsimp only
    rw [if_neg]
    rintro (rfl | rfl)
    · exact absurd e1 (by decide)
    · exact absurd e2 (by decide)
def quoteN (k : Nat) : UInt8 := if k = 0 then 34 else 39
set_option maxHeartbeats 2000000 in
set_option maxRecDepth 100000 in
theorem value_any (rb : Nat) (s : ByteArray) (r : List UInt8) (w : World) (hs : s.size ≤ 100000000000) (hr : Rd rb s r w) :
    Calls Tryd.prog 88 #[.pointer (some ⟨rb, 0, none⟩)] w (RValue rb s (valueL r) w) := by
  have HS := Lib.hid hs
  have HRUN := Lib.hid (run_any rb s r blankB _ w hs hr (isBlank rb w))
  have hmf : ∀ (fn : Fn) (first cap : Array Value) (w : World), (Instr.makeFunc fn first cap).run Tryd.prog w = .ok (.func fn first cap) w := fun _ _ _ _ => rfl
  clear hr hs
  go_enter Tryd.func88, Tryd.ntmps88
  go_wp2_with (go_at_call 44; refine HRUN.out.mono ?_)
  rintro e w1 ⟨rfl, m1, r1⟩
  have M1 := Lib.hid m1
  have R1 := Lib.hid r1
  have XQ := Lib.hid ((Ext.refl w1).alloc (.cells #[.int .u8 34, .int .u8 39] 5))
  have HQB := Lib.hid (heap_alloc_new w1 (.cells #[.int .u8 34, .int .u8 39] 5))
  have hrb := r1.lt
  clear m1 r1
  go_wp2_with fail
  obtain ⟨wq, hwq⟩ : ∃ wq : World, wq = w1.alloc (.cells #[.int .u8 34, .int .u8 39] 5) := ⟨_, rfl⟩
  rw [← hwq] at XQ HQB ⊢
  clear hwq
  go_loopw [11] (fun i wr => ∃ k : Nat, k ≤ 2 ∧ i = .int .i64 k ∧ Rd rb s (r.dropWhile blankB) wr ∧ Mv (· = rb) wq wr ∧ ∀ j, j < k → headP (· == quoteN j) (r.dropWhile blankB) = false) (fun i _ => 2 - (intOf i).toNat)
  case atStart => exact ⟨0, Nat.zero_le _, rfl, R1.out.ext XQ.out, Mv.refl _ _, fun j hj => absurd hj (Nat.not_lt_zero _)⟩
  case round =>
    obtain ⟨k, hk, rfl, hr, hm, hno⟩ := hrel
    have HR := Lib.hid hr
    have HM := Lib.hid hm
    have HNO := Lib.hid hno
    have hgb := hm.block HQB.out (by omega)
    have hrb2 := hr.lt
    clear hr hno hm
    by_cases hlt : k < 2
    · obtain ⟨q, hq⟩ : ∃ q, quoteN k = q := ⟨_, rfl⟩
      have hcell : wr.cell? ⟨w1.heap.size, k, none⟩ = some (.int .u8 (q.toNat : Int)) := by
        refine cellOf hgb ?_
        rw [← hq]
        rcases (show k = 0 ∨ k = 1 by omega) with rfl | rfl <;> rfl
      have hq2 : q = 34 ∨ q = 39 := by
        rw [← hq]; unfold quoteN; split; exact .inl rfl; exact .inr rfl
      have HQ := Lib.hid hq
      have HQ2 := Lib.hid hq2
      have X0 := Lib.hid ((Ext.refl wr).alloc (.cells #[.int .u8 (q.toNat : Int)] 5))
      have hbox : (wr.alloc (.cells #[.int .u8 (q.toNat : Int)] 5)).cell? ⟨wr.heap.size, 0, none⟩ = some (.int .u8 (q.toNat : Int)) := cellOf (heap_alloc_new wr _) rfl
      have HBOX := Lib.hid hbox
      have HONE := Lib.hid (one_any rb s (r.dropWhile blankB) q (q.toNat : Int) rfl _ HS.out (HR.out.ext X0.out))
      have hbn : wr.heap.size ≠ rb := by omega
      clear hq hq2 hgb hbox
      cases hh : headP (· == q) (r.dropWhile blankB) with
      | false =>
        have HH := Lib.hid hh
        have HOL := Lib.hid (show oneL q (r.dropWhile blankB) = r.dropWhile blankB by unfold oneL; rw [hh]; rfl)
        rw [hh] at HONE
        clear hh
        go_wp2_with (go_at_call 61; refine HONE.out.mono ?_)
        rintro e w2 ⟨rfl, m2, r2⟩
        rw [HOL.out] at r2
        have M2 := Lib.hid m2
        have R2 := Lib.hid r2
        clear m2 r2
        go_wp2_with fail
        go_roundw
        case rel =>
          refine ⟨k + 1, by omega, by go_num, R2.out, (HM.out.ext X0.out).trans M2.out, fun j hj => ?_⟩
          rcases Nat.lt_or_ge j k with h | h
          · exact HNO.out j h
          · obtain rfl : j = k := by omega
            rw [HQ.out]; exact HH.out
        case measure => simp [intOf]; omega
      | true =>
        obtain ⟨t, ht⟩ : ∃ t, r.dropWhile blankB = q :: t := by
          cases hr1 : r.dropWhile blankB with
          | nil => rw [hr1] at hh; cases hh
          | cons c t =>
            rw [hr1] at hh
            have : c = q := by simpa [headP] using hh
            exact ⟨t, by rw [this]⟩
        have HVL := Lib.hid (valueL_quote ht HQ2.out)
        have HOL := Lib.hid (show oneL q (r.dropWhile blankB) = t by unfold oneL; rw [hh, ht]; rfl)
        rw [hh] at HONE
        clear hh ht
        go_wp2_with (go_at_call 61; refine HONE.out.mono ?_)
        rintro e w2 ⟨rfl, m2, r2⟩
        rw [HOL.out] at r2
        have hb2 := m2.cell HBOX.out hbn
        have HRUN2 := Lib.hid (run_any rb s t (neB q) _ w2 HS.out r2 (isQuote hb2 hbn))
        have M2 := Lib.hid m2
        have HB2 := Lib.hid hb2
        clear m2 r2
        go_wp2_with (go_at_call 44; refine HRUN2.out.mono ?_)
        rintro e w3 ⟨rfl, m3, r3⟩
        have hb3 := m3.cell HB2.out hbn
        have HONE3 := Lib.hid (one_any rb s (t.dropWhile (neB q)) q (q.toNat : Int) rfl w3 HS.out r3)
        have MM := Lib.hid ((M1.out.ext XQ.out).trans (((HM.out.ext X0.out).trans M2.out).trans m3))
        clear m3 r3 hb2
        cases hd : t.dropWhile (neB q) with
        | nil =>
          rw [hd] at HONE3
          have HV : Hid (valueL r = none) := Lib.hid (by rw [HVL.out, hd])
          clear hd
          go_wp2_with (go_at_call 61; refine HONE3.out.mono ?_)
          rintro e w4 ⟨rfl, m4, r4⟩
          have M4 := Lib.hid m4
          have R4 := Lib.hid r4
          clear m4 r4
          go_wp2_with fail
          go_ret2
          rw [HV.out]
          exact ⟨_, _, rfl, MM.out.trans M4.out, R4.out⟩
        | cons c r3 =>
          have hc := neB_head hd
          subst hc
          rw [hd] at HONE3
          have HV : Hid (valueL r = some (t.takeWhile (neB c), r3)) := Lib.hid (by rw [HVL.out, hd])
          have hh3 : headP (· == c) (c :: r3) = true := by simp [headP]
          have HO3 := Lib.hid (show oneL c (c :: r3) = r3 by unfold oneL; rw [hh3]; rfl)
          rw [hh3] at HONE3
          clear hd hh3
          go_wp2_with (go_at_call 61; refine HONE3.out.mono ?_)
          rintro e w4 ⟨rfl, m4, r4⟩
          rw [HO3.out] at r4
          have M4 := Lib.hid m4
          have R4 := Lib.hid r4
          clear m4 r4
          go_wp2_with fail
          go_ret2
          rw [HV.out]
          exact ⟨rfl, MM.out.trans M4.out, R4.out⟩
    · obtain rfl : k = 2 := by omega
      have HVB := Lib.hid (valueL_bare (r := r) (HNO.out 0 (by decide)) (HNO.out 1 (by decide)))
      have HRUN2 := Lib.hid (run_any rb s (r.dropWhile blankB) valB _ wr HS.out HR.out (isVal rb wr))
      go_wp2_with (go_at_call 44; refine HRUN2.out.mono ?_)
      rintro e w3 ⟨rfl, m3, r3⟩
      have M3 := Lib.hid m3
      have R3 := Lib.hid r3
      clear m3 r3
      go_wp2_with fail
      go_ret2
      rw [HVB.out]
      exact ⟨rfl, (M1.out.ext XQ.out).trans (HM.out.trans M3.out), R3.out⟩
def RName (rb : Nat) (s : ByteArray) (r : List UInt8) (w : World) (e : Ending) (w' : World) : Prop :=
  e = .returned (.string (bs ((r.takeWhile alnumB).map smallC))) ∧ Mv (· = rb) w w' ∧ Rd rb s (r.dropWhile alnumB) w'
set_option maxHeartbeats 1000000 in
theorem name_any (rb : Nat) (s : ByteArray) (r : List UInt8) (w : World) (hs : s.size ≤ 100000000000) (hr : Rd rb s r w) :
    Calls Tryd.prog 63 #[.pointer (some ⟨rb, 0, none⟩)] w (RName rb s r w) := by
  have HRUN := Lib.hid (run_any rb s r alnumB _ w hs hr (isAlnum rb w))
  have hz : (bs (r.takeWhile alnumB)).size ≤ 1000000000000 := by
    obtain ⟨k, h1, _, _⟩ := hr
    rw [bs_size]
    have := congrArg List.length (take_drop_while alnumB r)
    rw [List.length_append] at this
    omega
  have HSM := Lib.hid (fun W => (bs_data (r.takeWhile alnumB) ▸ small_any (bs (r.takeWhile alnumB)) hz W : Calls Tryd.prog 81 #[.string (bs (r.takeWhile alnumB))] W (RVal (.string (bs ((r.takeWhile alnumB).map smallC))) W)))
  clear hr hs hz
  go_enter Tryd.func63, Tryd.ntmps63
  go_wp2_with (go_at_call 44; refine HRUN.out.mono ?_)
  rintro e w1 ⟨rfl, m1, r1⟩
  have M1 := Lib.hid m1
  have R1 := Lib.hid r1
  clear m1 r1
  go_wp2_with (go_at_call 81; refine (HSM.out _).mono ?_)
  rintro e w2 ⟨rfl, x2⟩
  have X2 := Lib.hid x2
  clear x2
  go_wp2_with fail
  go_ret
  exact ⟨rfl, M1.out.ext X2.out, R1.out.ext X2.out⟩
def RNote (rb : Nat) (s : ByteArray) (o : Option (List UInt8)) (r : List UInt8) (w : World) (e : Ending) (w' : World) : Prop :=
  match o with
  | some t => e = .returned (.bool true) ∧ Mv (· = rb) w w' ∧ Rd rb s t w'
  | none => e = .returned (.bool false) ∧ Mv (· = rb) w w' ∧ Rd rb s r w'
end Go.Proofs.YtdafdoodegpdhaaDoor
