/- strings.IndexAny, ContainsAny at the three signs, of at most 7 bytes; lex.coded: a number's character. -/
import Derived.Test.YtdafdoodegpdhaaDoorLE
namespace Go.Proofs.YtdafdoodegpdhaaDoor
open Go Go.RowKit Go.BigFrame
set_option linter.unusedVariables false
set_option linter.unusedSimpArgs false

def signC (c : UInt8) : Prop := c = 43 ∨ c = 45 ∨ c = 95
def HeadOk (l : List UInt8) : Prop := l.head? ≠ some 43 ∧ l.head? ≠ some 45
def IAis (s : ByteArray) (w : World) (e : Ending) (w' : World) : Prop := ∃ z : Int, e = .returned (.int .i64 z) ∧ (0 ≤ z → ∃ c ∈ s.data.toList, signC c) ∧ (z < 0 → HeadOk s.data.toList) ∧ Ext w w'
def CAis (s : ByteArray) (w : World) (e : Ending) (w' : World) : Prop := ∃ b : Bool, e = .returned (.bool b) ∧ (b = true → ∃ c ∈ s.data.toList, signC c) ∧ (b = false → HeadOk s.data.toList) ∧ Ext w w'
theorem sign_at {s : ByteArray} {pos : Nat} (hp : pos < s.size) (h : signR (Int.ofNat (Utf8.decode s pos).1)) : ∃ c ∈ s.data.toList, signC c := by
  have hs : (Utf8.decode s pos).1 < 128 := by unfold signR at h; simp at h; omega
  obtain ⟨h1, h2⟩ := decode_small s hp hs
  rw [h1] at h
  refine ⟨s[pos], byte_mem.2 ⟨pos, hp, rfl⟩, ?_⟩
  unfold signR at h
  simp at h
  unfold signC
  rcases h with h | h | h
  · exact .inl (UInt8.toNat_inj.1 (by show (s[pos]).toNat = 43; omega))
  · exact .inr (.inl (UInt8.toNat_inj.1 (by show (s[pos]).toNat = 45; omega)))
  · exact .inr (.inr (UInt8.toNat_inj.1 (by show (s[pos]).toNat = 95; omega)))
theorem head_ok {s : ByteArray} (hp : 0 < s.size) (h : ¬ signR (Int.ofNat (Utf8.decode s 0).1)) : HeadOk s.data.toList := by
  have hd : s.data.toList.head? = some (s[0]'hp) := by rw [List.head?_eq_getElem?, List.getElem?_eq_getElem (by exact hp)]; rfl
  unfold HeadOk
  rw [hd]
  constructor
  · intro e
    have e1 : s[0]'hp = 43 := Option.some.inj e
    have h2 := decode_ascii s 0 hp (by rw [e1]; decide)
    exact h (by rw [h2, e1]; exact .inl rfl)
  · intro e
    have e1 : s[0]'hp = 45 := Option.some.inj e
    have h2 := decode_ascii s 0 hp (by rw [e1]; decide)
    exact h (by rw [h2, e1]; exact .inr (.inl rfl))
set_option maxHeartbeats 1000000 in
set_option maxRecDepth 100000 in
theorem IndexAny_any (s : ByteArray) (h0 : s.size ≠ 0) (h7 : s.size ≤ 7) (w : World) : Calls Tryd.prog 100 #[.string s, .string ⟨#[43, 45, 95]⟩] w (IAis s w) := by
  have k8 : ¬ (8 : Int) < (s.size : Int) := by omega
  have HASC := Lib.hid (show ∀ W, Calls Tryd.prog 125 #[.int .i64 (s.size : Int)] W (RBool false W) from fun W => by
    have x := Ext.refl W
    go_enter Tryd.func125, Tryd.ntmps125
    go_wp2_with fail
    go_ret
    exact ⟨by simp [k8], x⟩)
  have H0 := Lib.hid (show 0 < s.size by omega)
  clear k8 h0
  go_enter Tryd.func100, Tryd.ntmps100
  go_wp2_with (go_at_call 125; refine (HASC.out _).mono ?_)
  rintro e w1 ⟨rfl, x1⟩
  have X1 := Lib.hid x1
  clear x1
  go_wp2_with fail
  go_loopw [9, 10] (fun _ _ wr => ∃ pos : Nat, wr.heap[w1.heap.size]? = some (.stringIter s pos) ∧ Ext w1 wr ∧ (0 < pos → HeadOk s.data.toList)) (fun _ _ wr => s.size - wr.iterPos w1.heap.size)
  case atStart => exact ⟨0, by have := World.iter_heap w1 s 0; simpa using this, (Ext.refl w1).alloc _, fun h => absurd h (by decide)⟩
  case round =>
    obtain ⟨pos, hit, xr, hpre⟩ := hrel
    have hsz : w1.heap.size < wr.heap.size := (Array.getElem?_eq_some_iff.1 hit).1
    have HPRE := Lib.hid hpre
    clear hpre
    by_cases hp : pos < s.size
    · have hnx : ∀ ty, (Instr.next (.pointer (some ⟨w1.heap.size, 0, none⟩)) true ty).run Tryd.prog wr = _ := fun ty => Lib.run_next_any_at wr w1.heap.size s pos ty hit hp
      have HV := Lib.hid (decode_valid s pos)
      have HSG := Lib.hid (fun h => sign_at (s := s) hp h)
      have HHD := Lib.hid (fun (e : pos = 0) (h : ¬ signR (Int.ofNat (Utf8.decode s pos).1)) => head_ok (s := s) (by omega) (e ▸ h))
      have hwd := width_pos s pos hp
      have HDL := Lib.hid (decode_le s pos)
      have hit2 := Lib.iterAt_heap wr w1.heap.size s pos (pos + (Utf8.decode s pos).2) hit
      have xr2 := xr.iterAt (Nat.le_refl _) s (pos + (Utf8.decode s pos).2)
      have HIT2 := Lib.hid hit2
      have XR2 := Lib.hid xr2
      have HIT := Lib.hid hit
      clear hit hit2 xr xr2
      generalize Utf8.decode s pos = D at *
      obtain ⟨rn, wd⟩ := D
      dsimp only at *
      have HIR := Lib.hid (fun W => IndexRune_any (Int.ofNat rn) HV.out W)
      have HW := Lib.hid hwd
      clear hwd
      go_wp2_with (go_at_call 124; refine (HIR.out _).mono ?_)
      rintro e wx ⟨z, rfl, hz, xx⟩
      have XX := Lib.hid (XR2.out.trans xx)
      have hitx := xx.block HIT2.out
      have HITX := Lib.hid hitx
      have HZ := Lib.hid hz
      clear hz hitx xx
      by_cases hz0 : (0 : Int) ≤ z
      · have FS := Lib.hid (HSG.out (HZ.out.1 hz0))
        go_wp2_with fail
        go_ret
        exact ⟨_, rfl, fun _ => FS.out, fun h => by omega, X1.out.trans XX.out⟩
      · have FH := Lib.hid (show HeadOk s.data.toList from by
          by_cases hp0 : pos = 0
          · exact HHD.out hp0 fun h => hz0 (HZ.out.2 h)
          · exact HPRE.out (by omega))
        have kz : decide ((0 : Int) ≤ z) = false := decide_eq_false hz0
        have kz2 : z < 0 := by omega
        clear hz0
        go_wp2_with fail
        go_roundw
        case rel => exact ⟨pos + wd, HITX.out, XX.out, fun _ => FH.out⟩
        case measure => simp only [World.iterPos, HITX.out, HIT.out]; have := HW.out; omega
    · have hnx : ∀ ty, (Instr.next (.pointer (some ⟨w1.heap.size, 0, none⟩)) true ty).run Tryd.prog wr = _ := fun ty => Lib.run_next_end_at wr w1.heap.size s pos ty hit hp
      have XR := Lib.hid xr
      have FH := Lib.hid (HPRE.out (by have := H0.out; omega))
      clear xr
      go_wp2
      go_ret
      exact ⟨-1, rfl, fun h => absurd h (by decide), fun _ => FH.out, X1.out.trans XR.out⟩
set_option maxHeartbeats 400000 in
theorem ContainsAny_any (s : ByteArray) (h0 : s.size ≠ 0) (h7 : s.size ≤ 7) (w : World) : Calls Tryd.prog 76 #[.string s, .string ⟨#[43, 45, 95]⟩] w (CAis s w) := by
  have HI := Lib.hid (IndexAny_any s h0 h7)
  clear h0 h7
  go_enter Tryd.func76, Tryd.ntmps76
  go_wp2_with (go_at_call 100; refine (HI.out _).mono ?_)
  rintro e w1 ⟨z, rfl, h1, h2, x1⟩
  have H1 := Lib.hid h1
  have H2 := Lib.hid h2
  have X1 := Lib.hid x1
  clear h1 h2 x1
  go_wp2_with fail
  go_ret
  exact ⟨decide (0 ≤ z), rfl, fun h => H1.out (by simpa using h), fun h => H2.out (by simpa using h), X1.out⟩
end Go.Proofs.YtdafdoodegpdhaaDoor
