/- Package print: chars: a text, or a value, as markup behind what the printer holds. Conditions: at most 2^47 bytes. -/
import Derived.Test.YtdafdoodegpdhaaDoorPW
import Derived.Test.YtdafdoodegpdhaaDoorPV
import Derived.Lib.OthersKept
namespace Go.Proofs.YtdafdoodegpdhaaDoor
open Go Go.RowKit Go.BigFrame
set_option linter.unusedVariables false
set_option linter.unusedSimpArgs false

theorem Kept.iterAt {b : Nat} {w wr : World} (h : Kept b w wr) {k : Nat} (hk : w.heap.size ≤ k) (s : ByteArray) (pos : Nat) : Kept b w (wr.iterAt k s pos) := fun j o hj hb ho => by
  have hl := (Array.getElem?_eq_some_iff.1 hj).1
  rw [Lib.iterAt_other wr k j s pos (by omega)]
  exact h j o hj hb ho
/-- behind what is printed -/
def Printed (B b : Nat) (l : List UInt8) (w : World) (e : Ending) (w' : World) : Prop := e = .returned (.tuple #[]) ∧ PrF B b (Lib.byteCells l) w' ∧ Below B w w' ∧ Kept b w w'
set_option maxHeartbeats 8000000 in
set_option maxRecDepth 1000000 in
theorem chars_any (B b : Nat) (acc0 : List UInt8) (s : ByteArray) (v : Bool) (w : World) (h : PrF B b (Lib.byteCells acc0) w) (hlen : acc0.length + 6 * s.size ≤ 100000000000000) (hBw : B ≤ w.heap.size) :
    Calls Tryd.prog 49 #[.pointer (some ⟨b, 0, none⟩), .string s, .bool v] w (Printed B b (acc0 ++ esc v s) w) := by
  have hbl : b < w.heap.size := h.elim (fun x => x.lt) (fun x => x.lt)
  obtain ⟨out, ho⟩ : ∃ out, acc0 ++ esc v s = out := ⟨_, rfl⟩
  rw [ho]
  have HO := Lib.hid ho
  clear ho
  go_enter Tryd.func49, Tryd.ntmps49
  go_wp2
  go_loopw [] (fun wr => ∃ (pos fuel : Nat) (acc : List UInt8), PrF B b (Lib.byteCells acc) wr ∧ wr.heap[w.heap.size]? = some (.stringIter s pos) ∧ Below B w wr ∧ Kept b w wr ∧ acc ++ escRs v (runeList s fuel pos) = out ∧ s.size ≤ pos + fuel ∧ acc.length ≤ acc0.length + 6 * pos) (fun wr => s.size - wr.iterPos w.heap.size)
  case atStart =>
    refine ⟨0, s.size, acc0, h.alloc _, ?_, (Below.refl B w).alloc (by omega) _, (Lib.OthersKept.refl _ _ w).alloc _, HO.out, by omega, by omega⟩
    have := World.iter_heap w s 0
    simpa using this
  case round =>
    obtain ⟨pos, fuel, acc, hI, hit, hbw, hkp, hacc, hfu, hal⟩ := hrel
    have hsz : w.heap.size < wr.heap.size := (Array.getElem?_eq_some_iff.1 hit).1
    by_cases hp : pos < s.size
    · have hnx : ∀ ty, (Instr.next (.pointer (some ⟨w.heap.size, 0, none⟩)) true ty).run Tryd.prog wr = _ := fun ty => Lib.run_next_any_at wr w.heap.size s pos ty hit hp
      have hwd := width_pos s pos hp
      have hd1 := decode_le s pos
      have hva := decode_valid s pos
      have hI2 := hI.iterAt hit (pos + (Utf8.decode s pos).2)
      have hit2 := Lib.iterAt_heap wr w.heap.size s pos (pos + (Utf8.decode s pos).2) hit
      have hbw2 := Lib.below_iterAt hbw (k := w.heap.size) (by omega) s (pos + (Utf8.decode s pos).2)
      have hkp2 := hkp.iterAt (Nat.le_refl _) s (pos + (Utf8.decode s pos).2)
      have hsz2 : B ≤ (wr.iterAt w.heap.size s (pos + (Utf8.decode s pos).2)).heap.size := by rw [Lib.iterAt_size]; omega
      obtain ⟨f, rfl⟩ : ∃ f, fuel = f + 1 := ⟨fuel - 1, by omega⟩
      have hrl : runeList s (f + 1) pos = Int.ofNat (Utf8.decode s pos).1 :: runeList s f (pos + (Utf8.decode s pos).2) := by rw [runeList, if_pos hp]
      have hout : acc ++ (escR v (Int.ofNat (Utf8.decode s pos).1) ++ escRs v (runeList s f (pos + (Utf8.decode s pos).2))) = out := by rw [← hacc, hrl]; rfl
      clear hacc hrl
      generalize Utf8.decode s pos = D at *
      obtain ⟨rn, wd⟩ := D
      dsimp only at *
      have HOUT := Lib.hid hout
      have HVA := Lib.hid hva
      clear hout hva
      have hne : w.heap.size ≠ b := by omega
      have el := escR_len v (Int.ofNat rn)
      have fin : ∀ (wx : World) (l : List UInt8), escR v (Int.ofNat rn) = l → PrA B b (.pointer (some ⟨b, 0, none⟩)) (Lib.byteCells acc ++ Lib.byteCells l) wx → Below B (Go.World.iterAt wr w.heap.size s (pos + wd)) wx → Kept b (Go.World.iterAt wr w.heap.size s (pos + wd)) wx →
          (∃ (pos fuel : Nat) (acc : List UInt8), PrF B b (Lib.byteCells acc) wx ∧ wx.heap[w.heap.size]? = some (.stringIter s pos) ∧ Below B w wx ∧ Kept b w wx ∧ acc ++ escRs v (runeList s fuel pos) = out ∧ s.size ≤ pos + fuel ∧ acc.length ≤ acc0.length + 6 * pos) ∧ s.size - wx.iterPos w.heap.size < s.size - wr.iterPos w.heap.size := by
        intro wx l e h1 b1 k1
        have hi := k1.iter hit2 hne
        refine ⟨⟨pos + wd, f, acc ++ l, by rw [Lib.byteCells_append]; exact Or.inr h1, hi, hbw2.trans b1, hkp2.trans k1, by rw [← HOUT.out, ← e, List.append_assoc], by omega, by rw [← e, List.length_append]; omega⟩, ?_⟩
        simp only [World.iterPos, hi, hit]
        omega
      have FIN := Lib.hid fin
      clear fin
      have lenok : (Lib.byteCells acc).length + 10 ≤ 140737488355328 := by rw [Lib.byteCells_length]; omega
      by_cases a38 : rn = 38
      · go_wp2_with (go_at_call 39; refine (WriteString_k B b _ ⟨#[38, 97, 109, 112, 59]⟩ _ hI2 (by show _ + 5 ≤ _; omega) hsz2).mono ?_)
        rintro e W1 ⟨rfl, h1, b1, k1⟩
        obtain ⟨r1, r2⟩ := FIN.out W1 [38, 97, 109, 112, 59] (by rw [a38]; rfl) h1 b1 k1
        go_wp2
        go_roundw
        case rel => exact r1
        case measure => exact r2
      · by_cases a60 : rn = 60
        · go_wp2_with (go_at_call 39; refine (WriteString_k B b _ ⟨#[38, 108, 116, 59]⟩ _ hI2 (by show _ + 4 ≤ _; omega) hsz2).mono ?_)
          rintro e W1 ⟨rfl, h1, b1, k1⟩
          obtain ⟨r1, r2⟩ := FIN.out W1 [38, 108, 116, 59] (by rw [a60]; rfl) h1 b1 k1
          go_wp2
          go_roundw
          case rel => exact r1
          case measure => exact r2
        · by_cases a62 : rn = 62
          · go_wp2_with (go_at_call 39; refine (WriteString_k B b _ ⟨#[38, 103, 116, 59]⟩ _ hI2 (by show _ + 4 ≤ _; omega) hsz2).mono ?_)
            rintro e W1 ⟨rfl, h1, b1, k1⟩
            obtain ⟨r1, r2⟩ := FIN.out W1 [38, 103, 116, 59] (by rw [a62]; rfl) h1 b1 k1
            go_wp2
            go_roundw
            case rel => exact r1
            case measure => exact r2
          · by_cases a160 : rn = 160
            · go_wp2_with (go_at_call 39; refine (WriteString_k B b _ ⟨#[38, 110, 98, 115, 112, 59]⟩ _ hI2 (by show _ + 6 ≤ _; omega) hsz2).mono ?_)
              rintro e W1 ⟨rfl, h1, b1, k1⟩
              obtain ⟨r1, r2⟩ := FIN.out W1 [38, 110, 98, 115, 112, 59] (by rw [a160]; rfl) h1 b1 k1
              go_wp2
              go_roundw
              case rel => exact r1
              case measure => exact r2
            · by_cases a34 : rn = 34
              · cases v with
                | true =>
                    go_wp2_with (go_at_call 39; refine (WriteString_k B b _ ⟨#[38, 113, 117, 111, 116, 59]⟩ _ hI2 (by show _ + 6 ≤ _; omega) hsz2).mono ?_)
                    rintro e W1 ⟨rfl, h1, b1, k1⟩
                    obtain ⟨r1, r2⟩ := FIN.out W1 [38, 113, 117, 111, 116, 59] (by rw [a34]; rfl) h1 b1 k1
                    go_wp2
                    go_roundw
                    case rel => exact r1
                    case measure => exact r2
                | false =>
                  go_wp2_with (go_at_call 68; refine (WriteRune_k B b _ _ (by omega) (by omega) _ hI2 (by omega) hsz2).mono ?_)
                  rintro e W1 ⟨rfl, h1, b1, k1⟩
                  obtain ⟨r1, r2⟩ := FIN.out W1 (Lib.encodeRune 34) (by rw [a34]; rfl) (by rw [Lib.byteCells_encodeRune]; exact h1) b1 k1
                  go_wp2
                  go_roundw
                  case rel => exact r1
                  case measure => exact r2
              · go_wp2_with (go_at_call 68; refine (WriteRune_k B b _ _ (by omega) (by omega) _ hI2 (by omega) hsz2).mono ?_)
                rintro e W1 ⟨rfl, h1, b1, k1⟩
                obtain ⟨r1, r2⟩ := FIN.out W1 (Lib.encodeRune rn) (by unfold escR; rw [if_neg (by show ¬ ((_ : Nat) : Int) = 38; omega), if_neg (by show ¬ ((_ : Nat) : Int) = 60; omega), if_neg (by show ¬ ((_ : Nat) : Int) = 62; omega), if_neg (by show ¬ ((_ : Nat) : Int) = 160; omega), if_neg (by intro e; have : (rn : Int) = 34 := e.1; omega), encode_rune HVA.out]; rfl) (by rw [Lib.byteCells_encodeRune]; exact h1) b1 k1
                go_wp2
                go_roundw
                case rel => exact r1
                case measure => exact r2
    · have hnx : ∀ ty, (Instr.next (.pointer (some ⟨w.heap.size, 0, none⟩)) true ty).run Tryd.prog wr = _ := fun ty => Lib.run_next_end_at wr w.heap.size s pos ty hit hp
      go_wp2
      go_end0
      have e : runeList s fuel pos = [] := by cases fuel with | zero => rfl | succ f => rw [runeList, if_neg hp]
      rw [e] at hacc
      simp [escRs] at hacc
      subst hacc
      exact ⟨rfl, hI, hbw, hkp⟩
end Go.Proofs.YtdafdoodegpdhaaDoor
