/- Package chars: May; package attrs: Name, Value, at, May. Conditions: the tables of unicode/utf8 are as laid. -/
import Derived.Test.YtdafdoodegpdhaaDoorPH
import Derived.Test.YtdafdoodegpdhaaDoorPX
namespace Go.Proofs.YtdafdoodegpdhaaDoor
open Go Go.RowKit Go.BigFrame
set_option linter.unusedVariables false
set_option linter.unusedSimpArgs false

theorem Ext.iterAt {w wr : World} (h : Ext w wr) {k : Nat} (hk : w.heap.size ≤ k) (s : ByteArray) (pos : Nat) : Ext w (wr.iterAt k s pos) := Lib.below_iterAt h hk s pos
set_option maxHeartbeats 400000 in
set_option maxRecDepth 100000 in
theorem ValidRune_ok (r : Int) (h : Utf8.valid r = true) (w : World) : Calls Tryd.prog 78 #[.int .i32 r] w (RBool true w) := by
  obtain ⟨n, rfl, hn⟩ := valid_cases h
  have h0 : (0 : Int) ≤ (n : Int) := by omega
  have x := Ext.refl w
  clear h
  by_cases h1 : n < 55296
  · have h2 : (n : Int) < 55296 := by omega
    clear hn h1
    go_enter Tryd.func78, Tryd.ntmps78
    go_wp2
    go_ret
    exact ⟨rfl, x⟩
  · have h2 : ¬ (n : Int) < 55296 := by omega
    have h3 : (57343 : Int) < (n : Int) := by omega
    have h4 : (n : Int) ≤ 1114111 := by omega
    clear hn h1
    go_enter Tryd.func78, Tryd.ntmps78
    go_wp2
    go_ret
    exact ⟨rfl, x⟩
/-- a character's class, as far as it is asked: is it one that may be? -/
def ClassIs (r : Int) (w : World) (e : Ending) (w' : World) : Prop := ∃ k : Int, e = .returned (.int .i64 k) ∧ decide (1 < k) = mayR r ∧ Ext w w'
set_option maxHeartbeats 1000000 in
set_option maxRecDepth 100000 in
theorem CClass_any (r : Int) (h : Utf8.valid r = true) (w : World) : Calls Tryd.prog 133 #[.int .i32 r] w (ClassIs r w) := by
  have hv := ValidRune_ok r h w
  obtain ⟨n, rfl, hn⟩ := valid_cases h
  have HV := Lib.hid hv
  have fin : ∀ (k : Int) (w' : World), decide (1 < k) = mayR (n : Int) → Ext w w' → ClassIs (n : Int) w (.returned (.int .i64 k)) w' := fun k w' h1 h2 => ⟨k, rfl, h1, h2⟩
  have FIN := Lib.hid fin
  have HN := Lib.hid hn
  clear h hv hn fin
  go_enter Tryd.func133, Tryd.ntmps133
  go_wp2_with fail
  refine HV.out.mono ?_
  rintro e w1 ⟨rfl, x1⟩
  have X1 := Lib.hid x1
  clear x1
  by_cases a1 : (n : Int) < 32
  · go_wp2_with fail
    go_ret
    exact FIN.out _ _ (by unfold mayR; simp; omega) X1.out
  by_cases a2 : (n : Int) = 127
  · have b2 : ((n : Int) == 127) = true := by simpa using a2
    have A2 := Lib.hid a2
    clear a2
    go_wp2_with fail
    go_ret
    exact FIN.out _ _ (by unfold mayR; have := A2.out; simp; omega) X1.out
  have b2 : ((n : Int) == 127) = false := by simpa using a2
  have hm : mayR (n : Int) = true := by unfold mayR; simp; omega
  rw [hm] at FIN
  have A1 := Lib.hid a1
  by_cases a3 : (n : Int) = 32
  · have b3 : ((n : Int) == 32) = true := by simpa using a3
    clear a3 a2
    go_wp2_with fail
    go_ret
    exact FIN.out _ _ rfl X1.out
  have b3 : ((n : Int) == 32) = false := by simpa using a3
  by_cases a4 : (n : Int) = 160
  · have b4 : ((n : Int) == 160) = true := by simpa using a4
    clear a4 a3 a2
    go_wp2_with fail
    go_ret
    exact FIN.out _ _ rfl X1.out
  have b4 : ((n : Int) == 160) = false := by simpa using a4
  by_cases a5 : (n : Int) = 65533
  · have b5 : ((n : Int) == 65533) = true := by simpa using a5
    clear a5 a4 a3 a2
    go_wp2_with fail
    go_ret
    exact FIN.out _ _ rfl X1.out
  have b5 : ((n : Int) == 65533) = false := by simpa using a5
  clear a5 a4 a3 a2
  by_cases a6 : (128 : Int) ≤ (n : Int)
  · have c1 : (97 : Int) ≤ (n : Int) := by omega
    have c2 : ¬ (n : Int) ≤ 122 := by omega
    have c3 : (65 : Int) ≤ (n : Int) := by omega
    have c4 : ¬ (n : Int) ≤ 90 := by omega
    go_wp2_with fail
    go_ret
    exact FIN.out _ _ rfl X1.out
  by_cases a7 : (97 : Int) ≤ (n : Int)
  · by_cases a8 : (n : Int) ≤ 122
    · go_wp2_with fail
      go_ret
      exact FIN.out _ _ rfl X1.out
    · have c3 : (65 : Int) ≤ (n : Int) := by omega
      have c4 : ¬ (n : Int) ≤ 90 := by omega
      have c5 : (48 : Int) ≤ (n : Int) := by omega
      have c6 : ¬ (n : Int) ≤ 57 := by omega
      go_wp2_with fail
      go_ret
      exact FIN.out _ _ rfl X1.out
  by_cases a9 : (65 : Int) ≤ (n : Int)
  · by_cases a8 : (n : Int) ≤ 90
    · go_wp2_with fail
      go_ret
      exact FIN.out _ _ rfl X1.out
    · have c5 : (48 : Int) ≤ (n : Int) := by omega
      have c6 : ¬ (n : Int) ≤ 57 := by omega
      go_wp2_with fail
      go_ret
      exact FIN.out _ _ rfl X1.out
  by_cases a8 : (48 : Int) ≤ (n : Int)
  · by_cases a10 : (n : Int) ≤ 57
    · go_wp2_with fail
      go_ret
      exact FIN.out _ _ rfl X1.out
    · go_wp2_with fail
      go_ret
      exact FIN.out _ _ rfl X1.out
  · go_wp2_with fail
    go_ret
    exact FIN.out _ _ rfl X1.out
set_option maxHeartbeats 400000 in
set_option maxRecDepth 100000 in
theorem CMay_any (r : Int) (h : Utf8.valid r = true) (w : World) : Calls Tryd.prog 110 #[.int .i32 r] w (RBool (mayR r) w) := by
  have HC := Lib.hid (CClass_any r h w)
  clear h
  obtain ⟨b, hb⟩ : ∃ b, mayR r = b := ⟨_, rfl⟩
  rw [hb]
  have HB := Lib.hid hb
  clear hb
  go_enter Tryd.func110, Tryd.ntmps110
  go_wp2_with fail
  refine HC.out.mono ?_
  rintro e w1 ⟨k, rfl, hk, x1⟩
  have HK := Lib.hid hk
  clear hk
  go_wp2_with fail
  go_ret
  exact ⟨by rw [← HB.out, ← HK.out]; rfl, x1⟩
set_option maxHeartbeats 1000000 in
set_option maxRecDepth 100000 in
theorem AName_any (s : ByteArray) (w : World) : Calls Tryd.prog 91 #[.string s] w (RBool (nameOk s) w) := by
  have x0 := Ext.refl w
  obtain ⟨b, hb⟩ : ∃ b, nameOk s = b := ⟨_, rfl⟩
  rw [hb]
  have HB := Lib.hid hb
  clear hb
  by_cases h1 : s.size < 1
  · have e : b = false := by
      cases hb : b
      · rfl
      · have := ((nameOk_iff s).1 (HB.out.trans hb)).1; omega
    subst e
    have h1' : (s.size : Int) < 1 := by omega
    clear h1
    go_enter Tryd.func91, Tryd.ntmps91
    go_wp2
    go_ret
    exact ⟨rfl, x0⟩
  have h1' : ¬ (s.size : Int) < 1 := by omega
  by_cases h2 : 16 < s.size
  · have e : b = false := by
      cases hb : b
      · rfl
      · have := ((nameOk_iff s).1 (HB.out.trans hb)).1; omega
    subst e
    have h2' : (16 : Int) < (s.size : Int) := by omega
    clear h1 h2
    go_enter Tryd.func91, Tryd.ntmps91
    go_wp2
    go_ret
    exact ⟨rfl, x0⟩
  have h2' : ¬ (16 : Int) < (s.size : Int) := by omega
  have HS := Lib.hid (show 1 ≤ s.size ∧ s.size ≤ 16 by omega)
  clear h1 h2
  go_enter Tryd.func91, Tryd.ntmps91
  go_wp2_with fail
  clear h1' h2'
  go_loopw [] (fun wr => ∃ pos : Nat, wr.heap[w.heap.size]? = some (.stringIter s pos) ∧ Ext w wr ∧ pos ≤ s.size ∧ ∀ j (h : j < s.size), j < pos → nameR (decide (j = 0)) ((s[j]'h).toNat : Int) = true) (fun wr => s.size - wr.iterPos w.heap.size)
  case atStart => exact ⟨0, by have := World.iter_heap w s 0; simpa using this, (Ext.refl w).alloc _, Nat.zero_le _, fun j _ hj => absurd hj (Nat.not_lt_zero _)⟩
  case round =>
    obtain ⟨pos, hit, xr, hle, hpre⟩ := hrel
    have hsz : w.heap.size < wr.heap.size := (Array.getElem?_eq_some_iff.1 hit).1
    have HPRE := Lib.hid hpre
    clear hpre
    by_cases hp : pos < s.size
    · have hnx : ∀ ty, (Instr.next (.pointer (some ⟨w.heap.size, 0, none⟩)) true ty).run Tryd.prog wr = _ := fun ty => Lib.run_next_any_at wr w.heap.size s pos ty hit hp
      have HST := Lib.hid (fun h : nameOk s = true => name_step h hp)
      have HNX := Lib.hid (fun h => name_next (s := s) (pos := pos) hp h)
      have HDL := Lib.hid (decode_le s pos)
      have hit2 := Lib.iterAt_heap wr w.heap.size s pos (pos + (Utf8.decode s pos).2) hit
      have xr2 := xr.iterAt (Nat.le_refl _) s (pos + (Utf8.decode s pos).2)
      have HIT2 := Lib.hid hit2
      have XR2 := Lib.hid xr2
      have HIT := Lib.hid hit
      clear hit hit2 xr xr2
      generalize Utf8.decode s pos = D at *
      obtain ⟨rn, wd⟩ := D
      dsimp only at *
      have good : nameR (decide (pos = 0)) (Int.ofNat rn) = true → ∃ wx : World, wx = wr.iterAt w.heap.size s (pos + wd) ∧ (∃ pos : Nat, wx.heap[w.heap.size]? = some (.stringIter s pos) ∧ Ext w wx ∧ pos ≤ s.size ∧ ∀ j (h : j < s.size), j < pos → nameR (decide (j = 0)) ((s[j]'h).toNat : Int) = true) ∧ s.size - wx.iterPos w.heap.size < s.size - wr.iterPos w.heap.size := by
        intro h
        obtain ⟨e1, e2⟩ := HNX.out h
        refine ⟨_, rfl, ⟨pos + wd, HIT2.out, XR2.out, by omega, fun j hj hlt => ?_⟩, ?_⟩
        · by_cases hjp : j = pos
          · subst hjp; exact e2
          · exact HPRE.out j hj (by omega)
        · simp only [World.iterPos, HIT2.out, HIT.out]; omega
      have bad : nameR (decide (pos = 0)) (Int.ofNat rn) = false → b = false := by
        intro h
        cases hb : b
        · rfl
        · have := HST.out (HB.out.trans hb); rw [h] at this; cases this
      have GOOD := Lib.hid good
      have BAD := Lib.hid bad
      clear good bad
      by_cases l1 : (97 : Int) ≤ (rn : Int) ∧ (rn : Int) ≤ 122
      · obtain ⟨wx, hwx, r1, r2⟩ := GOOD.out (by unfold nameR; simp; omega)
        obtain ⟨l1, l2⟩ := l1
        go_wp2_with fail
        go_roundw
        case rel => rw [← hwx]; exact r1
        case measure => rw [← hwx]; exact r2
      · by_cases hz : pos = 0
        · have hb : b = false := BAD.out (by unfold nameR; subst hz; simp; omega)
          subst hb
          subst hz
          by_cases l2 : (97 : Int) ≤ (rn : Int)
          · have l3 : ¬ (rn : Int) ≤ 122 := by omega
            clear l1
            go_wp2_with fail
            go_ret
            exact ⟨rfl, by have := XR2.out; rw [Nat.zero_add] at this; exact this⟩
          · clear l1
            go_wp2_with fail
            go_ret
            exact ⟨rfl, by have := XR2.out; rw [Nat.zero_add] at this; exact this⟩
        · have hz1 : ((pos : Int) == 0) = false := by simpa using hz
          have hz2 : ¬ (pos : Int) = 0 := by omega
          by_cases d1 : (48 : Int) ≤ (rn : Int) ∧ (rn : Int) ≤ 57
          · obtain ⟨wx, hwx, r1, r2⟩ := GOOD.out (by unfold nameR; simp [hz]; omega)
            have d2 : ¬ (rn : Int) < 48 := by omega
            have d3 : ¬ (57 : Int) < (rn : Int) := by omega
            have d4 : ¬ (97 : Int) ≤ (rn : Int) := by omega
            clear d1 l1 hz
            go_wp2_with fail
            go_roundw
            case rel => rw [← hwx]; exact r1
            case measure => rw [← hwx]; exact r2
          · by_cases d5 : (rn : Int) = 45
            · obtain ⟨wx, hwx, r1, r2⟩ := GOOD.out (by unfold nameR; simp [hz]; omega)
              have d2 : (rn : Int) < 48 := by omega
              have d4 : ¬ (97 : Int) ≤ (rn : Int) := by omega
              have d6 : ((rn : Int) == 45) = true := by simpa using d5
              clear d1 l1 hz d5
              go_wp2_with fail
              go_roundw
              case rel => rw [← hwx]; exact r1
              case measure => rw [← hwx]; exact r2
            · have hb : b = false := BAD.out (by unfold nameR; simp [hz]; omega)
              subst hb
              have d6 : ((rn : Int) == 45) = false := by simpa using d5
              by_cases l2 : (97 : Int) ≤ (rn : Int)
              · have l3 : ¬ (rn : Int) ≤ 122 := by omega
                have d2 : ¬ (rn : Int) < 48 := by omega
                have d3 : (57 : Int) < (rn : Int) := by omega
                clear l1 d1 d5 hz
                go_wp2_with fail
                go_ret
                exact ⟨rfl, XR2.out⟩
              · by_cases d2 : (rn : Int) < 48
                · clear l1 d1 d5 hz
                  go_wp2_with fail
                  go_ret
                  exact ⟨rfl, XR2.out⟩
                · have d3 : (57 : Int) < (rn : Int) := by omega
                  clear l1 d1 d5 hz
                  go_wp2_with fail
                  go_ret
                  exact ⟨rfl, XR2.out⟩
    · have hnx : ∀ ty, (Instr.next (.pointer (some ⟨w.heap.size, 0, none⟩)) true ty).run Tryd.prog wr = _ := fun ty => Lib.run_next_end_at wr w.heap.size s pos ty hit hp
      have hb : b = true := by
        rw [← HB.out]
        exact (nameOk_iff s).2 ⟨HS.out, fun j hj => HPRE.out j hj (by omega)⟩
      subst hb
      go_wp2
      go_ret
      exact ⟨rfl, xr⟩
/-- the tables of unicode/utf8 are as they are laid -/
def Tabs (w : World) : Prop := Lib.Utf8Tabs 1 2 w
theorem Tabs.ext {w w' : World} (h : Tabs w) (x : Ext w w') : Tabs w' := ⟨fun c hc => x.cell (h.1 c hc), fun i hi => ⟨x.cell (h.2 i hi).1, x.cell (h.2 i hi).2⟩⟩
set_option maxHeartbeats 1000000 in
set_option maxRecDepth 100000 in
theorem AValue_any (s : ByteArray) (w : World) (hT : Tabs w) : Calls Tryd.prog 92 #[.string s] w (RBool (valueOk s) w) := by
  obtain ⟨b, hb⟩ : ∃ b, valueOk s = b := ⟨_, rfl⟩
  rw [hb]
  have HB := Lib.hid hb
  have HT := Lib.hid hT
  clear hb hT
  go_enter Tryd.func92, Tryd.ntmps92
  go_wp2_with fail
  go_loopw [] (fun wr => ∃ pos fuel : Nat, wr.heap[w.heap.size]? = some (.stringIter s pos) ∧ Ext w wr ∧ s.size ≤ pos + fuel ∧ (runeList s s.size 0).all mayR = (runeList s fuel pos).all mayR) (fun wr => s.size - wr.iterPos w.heap.size)
  case atStart => exact ⟨0, s.size, by have := World.iter_heap w s 0; simpa using this, (Ext.refl w).alloc _, by omega, rfl⟩
  case round =>
    obtain ⟨pos, fuel, hit, xr, hfu, hall⟩ := hrel
    have hsz : w.heap.size < wr.heap.size := (Array.getElem?_eq_some_iff.1 hit).1
    by_cases hp : pos < s.size
    · have hnx : ∀ ty, (Instr.next (.pointer (some ⟨w.heap.size, 0, none⟩)) true ty).run Tryd.prog wr = _ := fun ty => Lib.run_next_any_at wr w.heap.size s pos ty hit hp
      have hwd := width_pos s pos hp
      have hva := decode_valid s pos
      have hit2 := Lib.iterAt_heap wr w.heap.size s pos (pos + (Utf8.decode s pos).2) hit
      have xr2 := xr.iterAt (Nat.le_refl _) s (pos + (Utf8.decode s pos).2)
      obtain ⟨f, rfl⟩ : ∃ f, fuel = f + 1 := ⟨fuel - 1, by omega⟩
      have hrl : runeList s (f + 1) pos = Int.ofNat (Utf8.decode s pos).1 :: runeList s f (pos + (Utf8.decode s pos).2) := by rw [runeList, if_pos hp]
      rw [hrl, List.all_cons] at hall
      clear hrl
      generalize Utf8.decode s pos = D at *
      obtain ⟨rn, wd⟩ := D
      dsimp only at *
      have HC := Lib.hid (CMay_any (Int.ofNat rn) hva (wr.iterAt w.heap.size s (pos + wd)))
      have HIT2 := Lib.hid hit2
      have XR2 := Lib.hid xr2
      have HIT := Lib.hid hit
      have HALL := Lib.hid hall
      clear hit hit2 xr xr2 hva hall
      have hm : mayR (Int.ofNat rn) = true ∨ mayR (Int.ofNat rn) = false := by cases mayR (Int.ofNat rn); exact .inr rfl; exact .inl rfl
      rcases hm with hm | hm
      · rw [hm] at HC
        go_wp2_with fail
        refine HC.out.mono ?_
        rintro e w2 ⟨rfl, x2⟩
        have hi2 := x2.block HIT2.out
        have r1 : ∃ pos fuel : Nat, w2.heap[w.heap.size]? = some (.stringIter s pos) ∧ Ext w w2 ∧ s.size ≤ pos + fuel ∧ (runeList s s.size 0).all mayR = (runeList s fuel pos).all mayR :=
          ⟨pos + wd, f, hi2, XR2.out.trans x2, by omega, by rw [HALL.out, hm, Bool.true_and]⟩
        have r2 : s.size - w2.iterPos w.heap.size < s.size - wr.iterPos w.heap.size := by
          simp only [World.iterPos, hi2, HIT.out]; omega
        have R1 := Lib.hid r1
        have R2 := Lib.hid r2
        clear r1 r2 hi2 x2
        go_wp2_with fail
        go_roundw
        case rel => exact R1.out
        case measure => exact R2.out
      · rw [hm] at HC
        have hb : b = false := by rw [← HB.out]; unfold valueOk; rw [HALL.out, hm]; simp
        subst hb
        go_wp2_with fail
        refine HC.out.mono ?_
        rintro e w2 ⟨rfl, x2⟩
        have X2 := Lib.hid (XR2.out.trans x2)
        clear x2
        go_wp2_with fail
        go_ret
        exact ⟨rfl, X2.out⟩
    · have hnx : ∀ ty, (Instr.next (.pointer (some ⟨w.heap.size, 0, none⟩)) true ty).run Tryd.prog wr = _ := fun ty => Lib.run_next_end_at wr w.heap.size s pos ty hit hp
      have e : runeList s fuel pos = [] := by cases fuel with | zero => rfl | succ f => rw [runeList, if_neg hp]
      rw [e] at hall
      have hb2 : b = (decide (s.size ≤ 200) && Lib.validD s.data.toList) := by rw [← HB.out, valid_anew]; unfold valueOk; rw [hall]; simp
      have XR := Lib.hid xr
      have HB2 := Lib.hid hb2
      clear hall hb2 xr hit e
      by_cases h2 : s.size ≤ 200
      · have h2' : (s.size : Int) ≤ 200 := by omega
        have HV := Lib.hid (ValidString_any s wr (by omega) (HT.out.ext XR.out))
        have hb3 : b = Lib.validD s.data.toList := by rw [HB2.out]; simp [h2]
        rw [← hb3] at HV
        have h2 := Lib.hid h2
        clear hb3
        go_wp2_with fail
        refine HV.out.mono ?_
        rintro e w2 ⟨rfl, x2⟩
        have X2 := Lib.hid (XR.out.trans x2)
        clear x2
        go_wp2_with fail
        go_ret
        exact ⟨rfl, X2.out⟩
      · have h2' : ¬ (s.size : Int) ≤ 200 := by omega
        have hb3 : b = false := by rw [HB2.out]; simp [h2]
        subst hb3
        clear h2
        go_wp2_with fail
        go_ret
        exact ⟨rfl, XR.out⟩
theorem ret_int {x y : Int} (h : x = y) : Ending.returned (.int .i64 x) = Ending.returned (.int .i64 y) := by rw [h]
theorem str_eq (a b : ByteArray) : (a.toList == b.toList) = decide (a = b) := by
  rw [Bool.eq_iff_iff, beq_iff_eq, decide_eq_true_eq, ByteArray.toList_eq, ByteArray.toList_eq]
  exact ⟨bytes_ext, fun e => by rw [e]⟩
set_option maxHeartbeats 400000 in
set_option maxRecDepth 100000 in
theorem at1_any (p : ByteArray × ByteArray) (nm : ByteArray) (b : Nat) (w : World) (hb : w.cell? ⟨b, 0, none⟩ = some (.string nm)) :
    Calls Tryd.prog 121 #[.agg #[.string p.1, .string p.2], .pointer (some ⟨b, 0, none⟩)] w (RBool (decide (p.1 = nm)) w) := by
  have x := (Ext.refl w).alloc (.cells #[.string p.1, .string p.2] 55)
  have bb := heap_alloc_new w (.cells #[.string p.1, .string p.2] 55)
  go_enter Tryd.func121, Tryd.ntmps121
  go_upto_region 1 with fail
  obtain ⟨w1, hw1⟩ : ∃ w1 : World, w1 = w.alloc (.cells #[.string p.1, .string p.2] 55) := ⟨_, rfl⟩
  rw [← hw1] at x bb ⊢
  clear hw1
  have c0 := cellOf bb (i := 0) (v := .string p.1) rfl
  have c1 := x.cell hb
  clear hb bb
  go_wp2_with fail
  go_ret
  exact ⟨by simp [str_eq], x⟩
set_option maxHeartbeats 1000000 in
set_option maxRecDepth 100000 in
theorem indexA_any (l : List (ByteArray × ByteArray)) (v : Value) (nm : ByteArray) (b : Nat) (w : World) (hr : RowRd w 2 v l.length (attrCells l)) (hl : l.length ≤ 100000000000000) (hb : w.cell? ⟨b, 0, none⟩ = some (.string nm)) :
    Calls Tryd.prog 120 #[v, .func (.func 121) #[] #[.pointer (some ⟨b, 0, none⟩)]] w (RVal (.int .i64 (attrAt l nm)) w) := by
  obtain ⟨ao, cap, rfl, hcap⟩ := hr.len_of
  have HR := Lib.hid hr
  have HBC := Lib.hid hb
  clear hr hb hcap
  go_enter Tryd.func120, Tryd.ntmps120
  go_wp2_with fail
  go_loopw [5, 8] (fun _ n wr => ∃ k : Nat, k ≤ l.length ∧ n = .int .i64 k ∧ Ext w wr ∧ ∀ (j : Nat) x, j < k → l[j]? = some x → x.1 ≠ nm) (fun _ n _ => l.length - (intOf n).toNat)
  case atStart => exact ⟨0, Nat.zero_le _, rfl, Ext.refl _, fun j x hj => by omega⟩
  case round =>
    obtain ⟨k, hk, rfl, xr, hno⟩ := hrel
    have HO := Lib.hid hno
    have XR := Lib.hid xr
    clear hno
    by_cases hlt : k < l.length
    · obtain ⟨p, hp⟩ : ∃ p, l[k]? = some p := ⟨l[k], by simp [hlt]⟩
      cases ao with
      | none =>
        obtain ⟨_, ao', cap', e, _, h0, _⟩ := HR.out
        cases e
        exact absurd (h0 rfl).1 (by omega)
      | some a =>
        obtain ⟨bk, off, sp⟩ := a
        obtain ⟨q0, q1⟩ := (HR.out.ext xr).attr hp
        rw [add_later _ _ _ (by decide)] at q1
        have HP := Lib.hid hp
        have HC := Lib.hid (at1_any p nm b wr (xr.cell HBC.out))
        clear hp xr
        by_cases he : p.1 = nm
        · rw [decide_eq_true he] at HC
          have HE := Lib.hid he
          clear he
          go_wp2_with (go_at_call 121; refine HC.out.mono ?_; rintro e w' ⟨rfl, x1⟩)
          have X1 := Lib.hid (XR.out.trans x1)
          clear x1 q0 q1
          go_ret
          exact ⟨ret_int (by rw [attrAt_hit HP.out HE.out HO.out]), X1.out⟩
        · rw [decide_eq_false he] at HC
          have HE := Lib.hid he
          clear he
          go_wp2_with (go_at_call 121; refine HC.out.mono ?_; rintro e w' ⟨rfl, x1⟩)
          have X1 := Lib.hid (XR.out.trans x1)
          clear x1 q0 q1
          go_roundw
          case rel =>
            refine ⟨k + 1, by omega, by go_num, X1.out, fun j x hj hx => ?_⟩
            rcases Nat.lt_or_ge j k with h1 | h1
            · exact HO.out j x h1 hx
            · obtain rfl : j = k := by omega
              rw [HP.out] at hx
              cases hx
              exact HE.out
          case measure => simp [intOf]; omega
    · clear xr
      go_wp2_with fail
      go_ret
      refine ⟨ret_int ?_, XR.out⟩
      rw [attrAt_none fun j x hx => HO.out j x (by have := (List.getElem?_eq_some_iff.1 hx).1; omega) hx]
set_option maxHeartbeats 400000 in
set_option maxRecDepth 100000 in
theorem at_any (l : List (ByteArray × ByteArray)) (v : Value) (nm : ByteArray) (w : World) (hr : RowRd w 2 v l.length (attrCells l)) (hl : l.length ≤ 100000000000000) :
    Calls Tryd.prog 96 #[v, .string nm] w (RVal (.int .i64 (attrAt l nm)) w) := by
  obtain ⟨ao, cap, rfl, hcap⟩ := hr.len_of
  have x := (Ext.refl w).alloc (.cells #[.string nm] 9)
  have bb := heap_alloc_new w (.cells #[.string nm] 9)
  have HR := Lib.hid hr
  obtain ⟨r, hr9⟩ : ∃ r, attrAt l nm = r := ⟨_, rfl⟩
  rw [hr9]
  have HR9 := Lib.hid hr9
  clear hr hcap hr9
  go_enter Tryd.func96, Tryd.ntmps96
  go_upto_region 1 with fail
  obtain ⟨w1, hw1⟩ : ∃ w1 : World, w1 = w.alloc (.cells #[.string nm] 9) := ⟨_, rfl⟩
  rw [← hw1] at x bb ⊢
  clear hw1
  have HC := Lib.hid (indexA_any l _ nm w.heap.size w1 (HR.out.ext x) hl (cellOf bb rfl))
  rw [HR9.out] at HC
  have X := Lib.hid x
  clear x bb
  go_wp2_with fail
  refine HC.out.mono ?_
  rintro e w2 ⟨rfl, x2⟩
  go_wp2_with fail
  go_ret
  exact ⟨rfl, X.out.trans x2⟩
set_option maxHeartbeats 1000000 in
set_option maxRecDepth 100000 in
theorem AMay_any (l : List (ByteArray × ByteArray)) (v : Value) (w : World) (hr : RowRd w 2 v l.length (attrCells l)) (hl : l.length ≤ 100000000000000) (hT : Tabs w) :
    Calls Tryd.prog 70 #[v] w (RBool (attrsMay l) w) := by
  obtain ⟨ao, cap, rfl, hcap⟩ := hr.len_of
  have HR := Lib.hid hr
  have HT := Lib.hid hT
  obtain ⟨r, hr9⟩ : ∃ r, attrsMay l = r := ⟨_, rfl⟩
  rw [hr9]
  have HR9 := Lib.hid hr9
  clear hr hT hr9 hcap
  go_enter Tryd.func70, Tryd.ntmps70
  go_wp2_with fail
  go_loopw [3, 4, 7] (fun _ _ n wr => ∃ k : Nat, k ≤ l.length ∧ n = .int .i64 k ∧ Ext w wr ∧ ∀ (i : Nat) a, i < k → l[i]? = some a → nameOk a.1 = true ∧ valueOk a.2 = true ∧ attrAt l a.1 = i) (fun _ _ n _ => l.length - (intOf n).toNat)
  case atStart => exact ⟨0, Nat.zero_le _, rfl, Ext.refl _, fun j x hj => by omega⟩
  case round =>
    obtain ⟨k, hk, rfl, xr, hpre⟩ := hrel
    have HPRE := Lib.hid hpre
    have XR := Lib.hid xr
    clear hpre
    by_cases hlt : k < l.length
    · obtain ⟨p, hp⟩ : ∃ p, l[k]? = some p := ⟨l[k], by simp [hlt]⟩
      cases ao with
      | none =>
        obtain ⟨_, ao', cap', e, _, h0, _⟩ := HR.out
        cases e
        exact absurd (h0 rfl).1 (by omega)
      | some a =>
        obtain ⟨bk, off, sp⟩ := a
        obtain ⟨q0, q1⟩ := (HR.out.ext xr).attr hp
        rw [add_later _ _ _ (by decide)] at q1
        have HP := Lib.hid hp
        have xb := xr.alloc (.cells #[.string p.1, .string p.2] 55)
        have bb := heap_alloc_new wr (.cells #[.string p.1, .string p.2] 55)
        clear hp xr
        go_upto_region 4 with fail
        obtain ⟨wz, hwz⟩ : ∃ wz : World, wz = wr.alloc (.cells #[.string p.1, .string p.2] 55) := ⟨_, rfl⟩
        rw [← hwz] at xb bb ⊢
        clear hwz q0 q1
        have c0 := cellOf bb (i := 0) (v := .string p.1) rfl
        have BB := Lib.hid bb
        have XB := Lib.hid xb
        have HN := Lib.hid (AName_any p.1 wz)
        clear bb xb
        have hm : nameOk p.1 = true ∨ nameOk p.1 = false := by cases nameOk p.1; exact .inr rfl; exact .inl rfl
        rcases hm with hm | hm
        · rw [hm] at HN
          go_wp2_with (go_at_call 91; refine HN.out.mono ?_)
          rintro e w1 ⟨rfl, x1⟩
          have B1 := Lib.hid (x1.block BB.out)
          have X1 := Lib.hid (XB.out.trans x1)
          have c1 := cellOf B1.out (i := 1) (v := .string p.2) rfl
          have HV := Lib.hid (AValue_any p.2 w1 (HT.out.ext X1.out))
          clear x1 c0
          have hv : valueOk p.2 = true ∨ valueOk p.2 = false := by cases valueOk p.2; exact .inr rfl; exact .inl rfl
          rcases hv with hv | hv
          · rw [hv] at HV
            go_wp2_with (go_at_call 92; refine HV.out.mono ?_)
            rintro e w2 ⟨rfl, x2⟩
            have B2 := Lib.hid (x2.block B1.out)
            have X2 := Lib.hid (X1.out.trans x2)
            have c0 := cellOf B2.out (i := 0) (v := .string p.1) rfl
            have HA := Lib.hid (at_any l _ p.1 w2 (HR.out.ext X2.out) hl)
            clear x2 c1
            by_cases ha : attrAt l p.1 = k
            · have e1 : (attrAt l p.1 == (k : Int)) = true := by simpa using ha
              rw [ha] at HA
              have GO := Lib.hid (show nameOk p.1 = true ∧ valueOk p.2 = true ∧ attrAt l p.1 = (k : Int) from ⟨hm, hv, ha⟩)
              clear e1 ha hm hv
              go_wp2_with (go_at_call 96; refine HA.out.mono ?_)
              rintro e w3 ⟨rfl, x3⟩
              have X3 := Lib.hid (X2.out.trans x3)
              clear x3 c0
              go_wp2_with fail
              go_roundw
              case rel =>
                refine ⟨k + 1, by omega, by go_num, X3.out, fun j x hj hx => ?_⟩
                rcases Nat.lt_or_ge j k with h1 | h1
                · exact HPRE.out j x h1 hx
                · obtain rfl : j = k := by omega
                  rw [HP.out] at hx
                  cases hx
                  exact GO.out
              case measure => simp [intOf]; omega
            · have hr0 : r = false := by
                cases hrr : r
                · rfl
                · have := ((attrsMay_iff l).1 (HR9.out.trans hrr) k p HP.out).2.2; exact absurd this ha
              subst hr0
              obtain ⟨z, hz⟩ : ∃ z, attrAt l p.1 = z := ⟨_, rfl⟩
              rw [hz] at HA ha
              have e1 : (z == (k : Int)) = false := by simpa using ha
              clear ha hz hm hv
              go_wp2_with (go_at_call 96; refine HA.out.mono ?_)
              rintro e w3 ⟨rfl, x3⟩
              have X3 := Lib.hid (X2.out.trans x3)
              clear x3 c0
              go_wp2_with fail
              go_ret
              exact ⟨rfl, X3.out⟩
          · rw [hv] at HV
            have hr0 : r = false := by
              cases hrr : r
              · rfl
              · have := ((attrsMay_iff l).1 (HR9.out.trans hrr) k p HP.out).2.1; rw [hv] at this; cases this
            subst hr0
            clear hm hv
            go_wp2_with (go_at_call 92; refine HV.out.mono ?_)
            rintro e w2 ⟨rfl, x2⟩
            have X2 := Lib.hid (X1.out.trans x2)
            clear x2 c1
            go_wp2_with fail
            go_ret
            exact ⟨rfl, X2.out⟩
        · rw [hm] at HN
          have hr0 : r = false := by
            cases hrr : r
            · rfl
            · have := ((attrsMay_iff l).1 (HR9.out.trans hrr) k p HP.out).1; rw [hm] at this; cases this
          subst hr0
          clear hm
          go_wp2_with (go_at_call 91; refine HN.out.mono ?_)
          rintro e w1 ⟨rfl, x1⟩
          have X1 := Lib.hid (XB.out.trans x1)
          clear x1 c0
          go_wp2_with fail
          go_ret
          exact ⟨rfl, X1.out⟩
    · have hr1 : r = true := by
        rw [← HR9.out]
        exact (attrsMay_iff l).2 fun i a hi => HPRE.out i a (by have := (List.getElem?_eq_some_iff.1 hi).1; omega) hi
      subst hr1
      clear xr
      go_wp2_with fail
      go_ret
      exact ⟨rfl, XR.out⟩
end Go.Proofs.YtdafdoodegpdhaaDoor
