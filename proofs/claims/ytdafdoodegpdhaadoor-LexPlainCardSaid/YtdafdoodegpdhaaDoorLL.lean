/- The document's lexer (14): Small: with small letters. Conditions: at most 10^12 bytes. -/
import Derived.Test.YtdafdoodegpdhaaDoorLK
namespace Go.Proofs.YtdafdoodegpdhaaDoor
open Go Go.RowKit Go.BigFrame
set_option linter.unusedVariables false
set_option linter.unusedSimpArgs false

set_option maxHeartbeats 1000000 in
set_option maxRecDepth 100000 in
theorem rSmall_any (s : ByteArray) (hs : s.size ≤ 1000000000000) (w : World) : Calls Tryd.prog 23 #[.string s] w (RVal (.string (bs (s.data.toList.map smallC))) w) := by
  obtain ⟨l, hl⟩ : ∃ l, s.data.toList = l := ⟨_, rfl⟩
  have hz : l.length = s.size := by rw [← hl]; rfl
  rw [hl]
  have HLL := Lib.hid hl
  have HZ := Lib.hid hz
  clear hl hz
  have HB1 := Lib.hid (Buf.new w)
  go_enter Tryd.func23, Tryd.ntmps23
  go_upto_region 2 with fail
  obtain ⟨w1, hw1⟩ : ∃ w1 : World, w1 = w.alloc (.cells #[] 5) := ⟨_, rfl⟩
  rw [← hw1] at HB1 ⊢
  clear hw1
  go_wp2_with fail
  go_loopw [3, 4, 5] (fun ov i _ wr => ∃ (k : Nat) (acc : List UInt8), k ≤ s.size ∧ i = .int .i64 k ∧ (∃ g cap, ov = .slice (some ⟨g, 0, none⟩) acc.length cap) ∧ Buf w ov acc wr ∧ acc = (l.take k).map smallC) (fun _ i _ _ => s.size - (intOf i).toNat)
  case atStart => exact ⟨0, [], Nat.zero_le _, rfl, ⟨_, _, rfl⟩, HB1.out, rfl⟩
  case round =>
    obtain ⟨k, acc, hk, rfl, ⟨g, cap, rfl⟩, hb, hacc⟩ := hrel
    have HBR := Lib.hid hb
    have HACC := Lib.hid hacc
    have hal : acc.length + 1 ≤ 140737488355328 := by rw [hacc, List.length_map, List.length_take]; omega
    have HAL := Lib.hid hal
    clear hb hacc hal
    by_cases hlt : k < s.size
    · obtain ⟨c, hc⟩ : ∃ c, s[k]'hlt = c := ⟨_, rfl⟩
      have hix : ∀ W : World, (Instr.index 9 (.string s) (.int .i64 (k : Int))).run Tryd.prog W = .ok (.int .u8 (c.toNat : Int)) W := by
        intro W
        rw [run_index_string W 9 s .i64 (k : Int) Tryd.underlying9, dif_pos ⟨by omega, by omega⟩]
        simp only [Int.toNat_natCast, hc]
      have hlc : l[k]? = some c := by rw [← HLL.out, List.getElem?_eq_getElem (by exact hlt)]; exact congrArg some hc
      obtain ⟨acc2, ha2⟩ : ∃ a, acc ++ [smallC c] = a := ⟨_, rfl⟩
      have hnext : acc2 = (l.take (k + 1)).map smallC := by
        obtain ⟨hk2, e⟩ := List.getElem?_eq_some_iff.1 hlc
        rw [← ha2, HACC.out, List.take_succ_eq_append_getElem hk2, List.map_append, e]; rfl
      have HNX := Lib.hid hnext
      have HA2 := Lib.hid ha2
      clear hlc hc ha2 hnext
      have hc256 : c.toNat < 256 := c.toNat_lt
      by_cases t1 : (65 : Int) ≤ (c.toNat : Int)
      · by_cases t2 : (c.toNat : Int) ≤ 90
        · have hw1 : IntKind.u8.wrap ((c.toNat : Int) + 32) = (c.toNat : Int) + 32 := IntWalk.u8_in _ (by omega)
          have hsc : ((c.toNat : Int) + 32) = ((smallC c).toNat : Int) := by
            rw [small_add, if_pos ⟨by omega, by omega⟩, UInt8.toNat_add]
            show _ = (((c.toNat + 32) % 256 : Nat) : Int)
            omega
          have HSC := Lib.hid hsc
          clear hsc
          go_wp2_with (refine wpB_byte rfl _ _ rfl (.slice (some ⟨g, 0, none⟩) acc.length cap) acc rfl w HBR.out (smallC c) _ (by first | rfl | exact HSC.out) rfl HAL.out acc2 HA2.out ?_)
          intro v' w' hb'
          obtain ⟨g', cap', _, _, rfl, _, _, _⟩ := hb'.at
          have HB' := Lib.hid hb'
          clear hb'
          go_wp2_with fail
          go_roundw
          case rel => exact ⟨k + 1, acc2, by omega, by go_num, ⟨g', cap', rfl⟩, HB'.out, HNX.out⟩
          case measure => simp [intOf]; omega
        · have HSC := Lib.hid (show (c.toNat : Int) = ((smallC c).toNat : Int) by unfold smallC; rw [if_neg (by omega)])
          go_wp2_with (refine wpB_byte rfl _ _ rfl (.slice (some ⟨g, 0, none⟩) acc.length cap) acc rfl w HBR.out (smallC c) _ (by first | rfl | exact HSC.out) rfl HAL.out acc2 HA2.out ?_)
          intro v' w' hb'
          obtain ⟨g', cap', _, _, rfl, _, _, _⟩ := hb'.at
          have HB' := Lib.hid hb'
          clear hb'
          go_wp2_with fail
          go_roundw
          case rel => exact ⟨k + 1, acc2, by omega, by go_num, ⟨g', cap', rfl⟩, HB'.out, HNX.out⟩
          case measure => simp [intOf]; omega
      · have HSC := Lib.hid (show (c.toNat : Int) = ((smallC c).toNat : Int) by unfold smallC; rw [if_neg (by omega)])
        go_wp2_with (refine wpB_byte rfl _ _ rfl (.slice (some ⟨g, 0, none⟩) acc.length cap) acc rfl w HBR.out (smallC c) _ (by first | rfl | exact HSC.out) rfl HAL.out acc2 HA2.out ?_)
        intro v' w' hb'
        obtain ⟨g', cap', _, _, rfl, _, _, _⟩ := hb'.at
        have HB' := Lib.hid hb'
        clear hb'
        go_wp2_with fail
        go_roundw
        case rel => exact ⟨k + 1, acc2, by omega, by go_num, ⟨g', cap', rfl⟩, HB'.out, HNX.out⟩
        case measure => simp [intOf]; omega
    · obtain rfl : k = s.size := by omega
      have hfin : acc = l.map smallC := by rw [HACC.out, List.take_of_length_le (by have := HZ.out; omega)]
      have hcv := run_ofBytes HBR.out
      rw [hfin] at hcv
      have HFIN := Lib.hid hfin
      have HCV := Lib.hid (show (Go.convert 30 9 (.slice (some ⟨g, 0, none⟩) acc.length cap)).run Tryd.prog wr = .ok (.string (bs (l.map smallC))) wr by have h := run_ofBytes HBR.out; rw [h, HFIN.out])
      clear hcv hfin
      go_wp2_with fail
      rw [HCV.out]
      go_wp2_with fail
      go_ret
      exact ⟨rfl, HBR.out.ex⟩
end Go.Proofs.YtdafdoodegpdhaaDoor
