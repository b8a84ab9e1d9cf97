/- LexPlain: bytes without < are one text. Conditions: none. -/
import Derived.Test.YtdafdoodegpdhaaDoorME
namespace Go.Proofs.YtdafdoodegpdhaaDoor
open Go Go.RowKit Go.BigFrame
set_option linter.unusedVariables false
set_option linter.unusedSimpArgs false

theorem writ_toks (s : ByteArray) : tokens ((anewB s).data.toList.flatMap writC) = if (anewB s).data.toList = [] then [] else [⟨1, [], (anewB s).data.toList, [], false, 0, ((anewB s).data.toList.flatMap writC).length⟩] := by
  rw [tokens_plain (writ_plain _)]
  by_cases h : (anewB s).data.toList = []
  · rw [if_pos h, if_pos (writ_nil.2 h)]
  · rw [if_neg h, if_neg (fun e => h (writ_nil.1 e))]
    unfold decT
    rw [anew_writ, bs_data, decL_writ]
set_option maxHeartbeats 4000000 in
set_option maxRecDepth 100000 in
theorem plain_walk (s : ByteArray) (w : World) (hl : LW w) : Calls Tryd.prog 7 #[.string s] w (RBool true w) := by
  have HL := Lib.hid hl
  have HAW := Lib.hid (fun W hW => awake_any W hW)
  by_cases h5 : 500 < s.size
  · have hi : decide ((500 : Int) < (s.size : Int)) = true := decide_eq_true (by omega)
    have hn : decide (500 < s.size) = true := decide_eq_true h5
    have HW := Lib.hid (awake_any w hl)
    clear hl h5
    go_enter Tryd.func7, Tryd.ntmps7
    go_wp2_with (go_at_call 18; refine HW.out.mono ?_)
    rintro e w1 ⟨rfl, x1⟩
    go_wp2_with fail
    go_ret
    exact ⟨rfl, x1⟩
  have hi : decide ((500 : Int) < (s.size : Int)) = false := decide_eq_false (by omega)
  have hn : decide (500 < s.size) = false := decide_eq_false h5
  have HN := Lib.hid (fun W => Anew_big s (by omega) W)
  have hts := anewB_size s
  have hwb := writ_bound s
  have htk := writ_toks s
  have haw := anew_writ s
  obtain ⟨t, ht⟩ : ∃ t, anewB s = t := ⟨_, rfl⟩
  rw [ht] at HN hts hwb htk haw
  have HWR := Lib.hid (fun W => written_any t (by omega) W)
  obtain ⟨wr0, hwr⟩ : ∃ x, t.data.toList.flatMap writC = x := ⟨_, rfl⟩
  have hdw : decL wr0 = t.data.toList := by rw [← hwr]; exact decL_writ _
  rw [hwr] at hwb htk haw HWR
  have hwz : (bs wr0).size ≤ 2500 := by rw [bs_size]; omega
  have HA := Lib.hid (fun W hW => All_any (bs wr0) (by omega) W hW)
  have HD := Lib.hid (fun W hW => Decode_any (bs wr0) (by omega) W hW)
  rw [haw] at HA HD
  rw [bs_data, hdw, bs_list] at HD
  have HTK := Lib.hid htk
  have HWZ := Lib.hid hwz
  have HWL := Lib.hid (bs_size wr0)
  have e1 : (t.toList != t.toList) = false := by simp [bne]
  have e1b : (t.toList == t.toList) = true := beq_self_eq_true _
  clear hl h5 ht hwr hts hwb htk haw hdw hwz
  go_enter Tryd.func7, Tryd.ntmps7
  go_wp2_with (go_at_call 22; refine (HN.out _).mono ?_)
  rintro e w1 ⟨rfl, x1⟩
  have X1 := Lib.hid x1
  clear x1 hi hn
  go_wp2_with (go_at_call 24; refine (HWR.out _).mono ?_)
  rintro e w2 ⟨rfl, x2⟩
  have X2 := Lib.hid (X1.out.trans x2)
  clear x2
  go_wp2_with (go_at_call 21; refine (HA.out _ (HL.out.ext X2.out)).mono ?_)
  intro e w3 h3
  obtain ⟨v, rfl, x3, t3⟩ := All_short (s := t) h3 (by have := HWZ.out; omega) (by rw [bs_data])
  have X3 := Lib.hid (X2.out.trans x3)
  have T3 := Lib.hid t3
  clear x3 t3 h3
  obtain ⟨WB, hWB⟩ : ∃ b, bs wr0 = b := ⟨_, rfl⟩
  rw [hWB] at HD HWL HWZ ⊢
  clear hWB HA
  obtain ⟨va, vn, vc, rfl⟩ : ∃ a n c, v = .slice a n c := by obtain ⟨a, c, h, _⟩ := T3.out.at; exact ⟨a, _, c, h⟩
  go_wp2_with (go_at_call 19; refine (HD.out _ (HL.out.ext X3.out)).mono ?_)
  rintro e w4 ⟨rfl, x4⟩
  have X4 := Lib.hid (X3.out.trans x4)
  have T4 := Lib.hid (T3.out.ext x4)
  clear x4
  have HW4 := Lib.hid (HAW.out w4 (HL.out.ext X4.out))
  by_cases h0 : t.data.toList = []
  · have hz : t.size = 0 := by have h : t.data.toList.length = 0 := by rw [h0]; rfl
                               exact h
    have f1 : (t.toList == ([] : List UInt8)) = true := etext_none hz
    have hlen : vn = 0 := by
      obtain ⟨a, c, h, _⟩ := T4.out.at
      rw [HTK.out, if_pos h0] at h
      injection h with _ h2 _
    subst hlen
    clear h0 hz
    go_wp2_with (go_at_call 18; refine HW4.out.mono ?_)
    rintro e w5 ⟨rfl, x5⟩
    go_wp2_with fail
    go_ret
    exact ⟨rfl, X4.out.trans x5⟩
  · have hz : ¬ t.size = 0 := fun h => h0 (List.eq_nil_of_length_eq_zero h)
    have f1 : (t.toList == ([] : List UInt8)) = false := etext_some hz
    have hT := T4.out
    rw [HTK.out, if_neg h0] at hT
    obtain ⟨a, c, h, hc, hg⟩ := hT.at
    injection h with h1 h2 h3
    subst h1
    subst h3
    have hvn : vn = 1 := h2
    subst hvn
    obtain ⟨g, rfl, hgt⟩ := hg (Nat.succ_pos _)
    have tk := hgt 0 _ rfl
    have k0 : w4.cell? ⟨g, 0, none⟩ = some (.int .i64 1) := tk.kind
    have k2 : w4.cell? ⟨g, 2, none⟩ = some (.string t) := by have h := tk.text; rw [bs_list] at h; exact h
    have k5 : w4.cell? ⟨g, 5, none⟩ = some (.int .i64 0) := tk.lo
    have k6 : w4.cell? ⟨g, 6, none⟩ = some (.int .i64 (WB.size : Int)) := by have h := tk.hi; rw [HWL.out]; exact h
    clear tk hgt hg hc h2 h0 hz hT
    go_wp2_with (go_at_call 18; refine HW4.out.mono ?_)
    rintro e w5 ⟨rfl, x5⟩
    go_wp2_with fail
    go_ret
    exact ⟨rfl, X4.out.trans x5⟩
end Go.Proofs.YtdafdoodegpdhaaDoor
