/- law14.written: bytes as markup that stands for them. Conditions: at most 10^12 bytes. -/
import Derived.Test.YtdafdoodegpdhaaDoorLL
namespace Go.Proofs.YtdafdoodegpdhaaDoor
open Go Go.RowKit Go.BigFrame
set_option linter.unusedVariables false
set_option linter.unusedSimpArgs false

def writC (c : UInt8) : List UInt8 := if c = 60 then [38, 108, 116, 59] else if c = 38 then [38, 97, 109, 112, 59] else [c]
theorem writ_len (l : List UInt8) : (l.flatMap writC).length ≤ 5 * l.length := by
  induction l with
  | nil => simp
  | cons c r ih =>
    have : (writC c).length ≤ 5 := by unfold writC; split; decide; split; decide; simp
    rw [List.flatMap_cons, List.length_append, List.length_cons]
    omega
set_option maxHeartbeats 1000000 in
set_option maxRecDepth 100000 in
theorem written_any (s : ByteArray) (hs : s.size ≤ 1000000000000) (w : World) : Calls Tryd.prog 24 #[.string s] w (RVal (.string (bs (s.data.toList.flatMap writC))) w) := by
  obtain ⟨l, hl⟩ : ∃ l, s.data.toList = l := ⟨_, rfl⟩
  have hz : l.length = s.size := by rw [← hl]; rfl
  rw [hl]
  have HLL := Lib.hid hl
  have HZ := Lib.hid hz
  clear hl hz
  have HB1 := Lib.hid (Buf.new w)
  go_enter Tryd.func24, Tryd.ntmps24
  go_upto_region 2 with fail
  obtain ⟨w1, hw1⟩ : ∃ w1 : World, w1 = w.alloc (.cells #[] 5) := ⟨_, rfl⟩
  rw [← hw1] at HB1 ⊢
  clear hw1
  go_wp2_with fail
  go_loopw [3, 4] (fun ov i wr => ∃ (k : Nat) (acc : List UInt8), k ≤ s.size ∧ i = .int .i64 k ∧ (∃ g cap, ov = .slice (some ⟨g, 0, none⟩) acc.length cap) ∧ Buf w ov acc wr ∧ acc = (l.take k).flatMap writC) (fun _ i _ => s.size - (intOf i).toNat)
  case atStart => exact ⟨0, [], Nat.zero_le _, rfl, ⟨_, _, rfl⟩, HB1.out, rfl⟩
  case round =>
    obtain ⟨k, acc, hk, rfl, ⟨g, cap, rfl⟩, hb, hacc⟩ := hrel
    have HBR := Lib.hid hb
    have HACC := Lib.hid hacc
    have hal : acc.length + 5 ≤ 140737488355328 := by
      have h1 := writ_len (l.take k)
      rw [← hacc, List.length_take] at h1
      omega
    have HAL := Lib.hid hal
    clear hb hacc hal
    by_cases hlt : k < s.size
    · obtain ⟨c, hc⟩ : ∃ c, s[k]'hlt = c := ⟨_, rfl⟩
      have hix : ∀ W : World, (Instr.index 9 (.string s) (.int .i64 (k : Int))).run Tryd.prog W = .ok (.int .u8 (c.toNat : Int)) W := by
        intro W
        rw [run_index_string W 9 s .i64 (k : Int) Tryd.underlying9, dif_pos ⟨by omega, by omega⟩]
        simp only [Int.toNat_natCast, hc]
      have hlc : l[k]? = some c := by rw [← HLL.out, List.getElem?_eq_getElem (by exact hlt)]; exact congrArg some hc
      obtain ⟨acc2, ha2⟩ : ∃ a, acc ++ writC c = a := ⟨_, rfl⟩
      have hnext : acc2 = (l.take (k + 1)).flatMap writC := by
        obtain ⟨hk2, e⟩ := List.getElem?_eq_some_iff.1 hlc
        rw [← ha2, HACC.out, List.take_succ_eq_append_getElem hk2, List.flatMap_append, e]; simp
      have HNX := Lib.hid hnext
      have HA2 := Lib.hid ha2
      have ne : ∀ m : UInt8, c ≠ m → ((c.toNat : Int) == (m.toNat : Int)) = false := by
        intro m h
        rw [beq_eq_false_iff_ne]
        intro e
        exact h (UInt8.toNat_inj.1 (by omega))
      clear hlc hc ha2 hnext
      by_cases a60 : c = 60
      · have b60 : ((c.toNat : Int) == 60) = true := by rw [a60]; rfl
        have HW := Lib.hid (show acc ++ [38, 108, 116, 59] = acc2 by rw [← HA2.out, a60]; rfl)
        clear a60 ne
        go_wp2_with (at_builtin; refine wpB_text rfl _ _ rfl (.slice (some ⟨g, 0, none⟩) acc.length cap) acc rfl w HBR.out ⟨#[38, 108, 116, 59]⟩ rfl (by show _ + 4 ≤ _; have := HAL.out; omega) acc2 HW.out ?_)
        intro v' w' hb'
        obtain ⟨g', cap', _, _, rfl, _, _, _⟩ := hb'.at
        have HB' := Lib.hid hb'
        clear hb'
        go_wp2_with fail
        go_roundw
        case rel => exact ⟨k + 1, acc2, by omega, by go_num, ⟨g', cap', rfl⟩, HB'.out, HNX.out⟩
        case measure => simp [intOf]; omega
      have b60 : ((c.toNat : Int) == 60) = false := ne 60 a60
      by_cases a38 : c = 38
      · have b38 : ((c.toNat : Int) == 38) = true := by rw [a38]; rfl
        have HW := Lib.hid (show acc ++ [38, 97, 109, 112, 59] = acc2 by rw [← HA2.out, a38]; rfl)
        clear a38 a60 ne
        go_wp2_with (at_builtin; refine wpB_text rfl _ _ rfl (.slice (some ⟨g, 0, none⟩) acc.length cap) acc rfl w HBR.out ⟨#[38, 97, 109, 112, 59]⟩ rfl (by show _ + 5 ≤ _; have := HAL.out; omega) acc2 HW.out ?_)
        intro v' w' hb'
        obtain ⟨g', cap', _, _, rfl, _, _, _⟩ := hb'.at
        have HB' := Lib.hid hb'
        clear hb'
        go_wp2_with fail
        go_roundw
        case rel => exact ⟨k + 1, acc2, by omega, by go_num, ⟨g', cap', rfl⟩, HB'.out, HNX.out⟩
        case measure => simp [intOf]; omega
      have b38 : ((c.toNat : Int) == 38) = false := ne 38 a38
      have HW := Lib.hid (show acc ++ [c] = acc2 by rw [← HA2.out]; unfold writC; rw [if_neg a60, if_neg a38])
      have HA1 := Lib.hid (show acc.length + 1 ≤ 140737488355328 by have := HAL.out; omega)
      clear a60 a38 ne
      go_wp2_with (refine wpB_byte rfl _ _ rfl (.slice (some ⟨g, 0, none⟩) acc.length cap) acc rfl w HBR.out c _ (by rfl) rfl HA1.out acc2 HW.out ?_)
      intro v' w' hb'
      obtain ⟨g', cap', _, _, rfl, _, _, _⟩ := hb'.at
      have HB' := Lib.hid hb'
      clear hb'
      go_wp2_with fail
      go_roundw
      case rel => exact ⟨k + 1, acc2, by omega, by go_num, ⟨g', cap', rfl⟩, HB'.out, HNX.out⟩
      case measure => simp [intOf]; omega
    · obtain rfl : k = s.size := by omega
      have HFIN := Lib.hid (show acc = l.flatMap writC by rw [HACC.out, List.take_of_length_le (by have := HZ.out; omega)])
      have HCV := Lib.hid (show (Go.convert 30 9 (.slice (some ⟨g, 0, none⟩) acc.length cap)).run Tryd.prog wr = .ok (.string (bs (l.flatMap writC))) wr by have h := run_ofBytes HBR.out; rw [h, HFIN.out])
      go_wp2_with fail
      rw [HCV.out]
      go_wp2_with fail
      go_ret
      exact ⟨rfl, HBR.out.ex⟩
end Go.Proofs.YtdafdoodegpdhaaDoor
