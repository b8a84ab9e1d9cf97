/- lex's reader: note. Conditions: at most 10^6 bytes. -/
import Derived.Test.YtdafdoodegpdhaaDoorLR
namespace Go.Proofs.YtdafdoodegpdhaaDoor
open Go Go.RowKit Go.BigFrame
set_option linter.unusedVariables false
set_option linter.unusedSimpArgs false

theorem Rd.moveI {rb k : Nat} {z : Int} {s : ByteArray} {v : Value} {r : List UInt8} {w : World} (hz : z = (k : Int)) (h : w.heap[rb]? = some (.cells #[.string s, v] 78 (0, 0))) (h1 : k + r.length = s.size) (h2 : r = s.data.toList.drop k) :
    Rd rb s r (w.setCell ⟨rb, 1, none⟩ (.int .i64 z)) := hz ▸ Rd.move h h1 h2
theorem pre_take {p l : List UInt8} (h : p.isPrefixOf l = true) : p.length ≤ l.length := (List.isPrefixOf_iff_prefix.1 h).length_le
set_option maxHeartbeats 2000000 in
set_option maxRecDepth 100000 in
theorem note_any (rb : Nat) (s : ByteArray) (r : List UInt8) (w : World) (hs : s.size ≤ 1000000) (hr : Rd rb s r w) (hl : LW w) :
    Calls Tryd.prog 46 #[.pointer (some ⟨rb, 0, none⟩)] w (RNote rb s (noteL r) r w) := by
  have HR := Lib.hid hr
  have HL := Lib.hid hl
  obtain ⟨k, h1, h2, h3⟩ := hr
  have HB := Lib.hid h3
  have c0 : ∀ u : ExtOf w, u.val.cell? ⟨rb, 0, none⟩ = some (.string s) := fun u => u.ext.cell (cellOf h3 rfl)
  have c1 : ∀ u : ExtOf w, u.val.cell? ⟨rb, 1, none⟩ = some (.int .i64 k) := fun u => u.ext.cell (cellOf h3 rfl)
  have hcut : s.extract k s.size = bs r := by
    have h := bs_cut s.data.toList k s.size
    rw [bs_list] at h
    rw [h, h2]
    exact congrArg bs (List.take_of_length_le (by rw [List.length_drop]; exact Nat.le_refl _))
  obtain ⟨R, hR⟩ : ∃ R, bs r = R := ⟨_, rfl⟩
  have hRd : R.data.toList = r := by rw [← hR, bs_data]
  have hRz : R.size = r.length := by rw [← hR, bs_size]
  rw [hR] at hcut
  have hRz2 : R.size ≤ 1000000 := by omega
  have hksz : k + R.size = s.size := by omega
  have HKS := Lib.hid hksz
  have hcutR : ∀ i, R.extract i R.size = bs (r.drop i) := fun i => by
    have h := bs_cut R.data.toList i R.size
    rw [bs_list, hRd] at h
    rw [h]
    exact congrArg bs (List.take_of_length_le (by rw [List.length_drop]; omega))
  have HCR := Lib.hid hcutR
  have HCUT := Lib.hid hcut
  have HRZ := Lib.hid hRz
  have HP := Lib.hid (fun (p : ByteArray) W => (hRd ▸ HasPrefix_any R p W : Calls Tryd.prog 57 #[.string R, .string p] W (RVal (.bool (Lib.hasPrefix r p.data.toList)) W)))
  have H2 := Lib.hid (And.intro h1 h2)
  obtain ⟨o, ho⟩ : ∃ o, noteL r = o := ⟨_, rfl⟩
  rw [ho]
  have HO := Lib.hid ho
  have b1 : (0 : Int) ≤ (k : Int) := by omega
  have b2 : (k : Int) ≤ (s.size : Int) := by omega
  generalize hE : s.extract k s.size = E at HCUT hcut
  have HE := Lib.hid hE
  clear h1 h2 h3 hR hRd hcut hcutR ho hksz hl hRz
  go_enter Tryd.func46, Tryd.ntmps46
  go_upto_region 1 with fail
  refine wp_region_ext (by kernel_rfl) (by kernel_rfl) ?_
  repeat (go_big_quiet_step (fail))
  refine wpQuiet_nil ?_
  rintro _ ⟨u, rfl⟩
  first | rw [HCUT.out] | rw [hE, HCUT.out]
  have xu := u.ext
  obtain ⟨w1, hw1⟩ : ∃ w1, u.val = w1 := ⟨_, rfl⟩
  rw [hw1] at xu ⊢
  have X1 := Lib.hid xu
  clear c0 c1 hw1 xu
  clear u
  have hpl := fun (p : List UInt8) (h : p.isPrefixOf r = true) => pre_take h
  by_cases h4 : [60, 33, 45, 45].isPrefixOf r = true
  · have e4 : Lib.hasPrefix r (⟨#[60, 33, 45, 45]⟩ : ByteArray).data.toList = true := h4
    have HP4 := Lib.hid (fun W => e4 ▸ HP.out ⟨#[60, 33, 45, 45]⟩ W)
    have h4l := hpl _ h4
    have hr4 : 4 ≤ R.size := by rw [HRZ.out]; exact h4l
    have b3 : (4 : Int) ≤ (R.size : Int) := by omega
    have HNO : Hid (o = some (findEnd [45, 45, 62] (r.drop 4))) := Lib.hid (by rw [← HO.out]; unfold noteL; rw [if_pos h4])
    clear h4 e4 h4l hpl
    go_wp2_with (go_at_call 57; refine (HP4.out _).mono ?_)
    rintro e w2 ⟨rfl, x2⟩
    have X2 := Lib.hid (X1.out.trans x2)
    clear x2
    go_upto_region 5 with fail
    refine wp_region_ext (by kernel_rfl) (by kernel_rfl) ?_
    repeat (go_big_quiet_step (fail))
    refine wpQuiet_nil ?_
    rintro _ ⟨u, rfl⟩
    have xu := u.ext
    obtain ⟨w3, hw3⟩ : ∃ w3, u.val = w3 := ⟨_, rfl⟩
    rw [hw3] at xu ⊢
    have X3 := Lib.hid (X2.out.trans xu)
    clear hw3 xu
    clear u
    rw [HCR.out]
    obtain ⟨mm, hmm⟩ := (HL.out.ext X3.out).len
    have HIX := Lib.hid (bs_data (r.drop 4) ▸ Index_any (bs (r.drop 4)) ⟨#[45, 45, 62]⟩ mm w3 (by rw [bs_size, List.length_drop]; have := HRZ.out; omega) hmm : Calls Tryd.prog 60 #[.string (bs (r.drop 4)), .string ⟨#[45, 45, 62]⟩] w3 (RVal (.int .i64 (Lib.index (r.drop 4) [45, 45, 62])) w3))
    have hfe := findEnd_index (t := [45, 45, 62]) (by decide) (r.drop 4)
    have hrm := Lib.index_room (r.drop 4) [45, 45, 62]
    have hge := Lib.index_ge (r.drop 4) [45, 45, 62]
    obtain ⟨z, hz⟩ : ∃ z, Lib.index (r.drop 4) [45, 45, 62] = z := ⟨_, rfl⟩
    rw [hz] at hfe hrm HIX hge
    have HD := Lib.hid (bs_size (r.drop 4))
    have hdl : (r.drop 4).length = R.size - 4 := by rw [List.length_drop, HRZ.out]
    rw [hdl] at hrm
    have hds : (bs (r.drop 4)).size = R.size - 4 := by rw [bs_size, hdl]
    obtain ⟨D, hD⟩ : ∃ D, bs (r.drop 4) = D := ⟨_, rfl⟩
    rw [hD] at HIX hds ⊢
    have HFE := Lib.hid hfe
    have HDL := Lib.hid hdl
    clear hz hD hfe hdl hmm HD
    by_cases hneg : z < 0
    · have hnd : decide ((0 : Int) ≤ z) = false := decide_eq_false (by omega)
      have HF : Hid (findEnd [45, 45, 62] (r.drop 4) = []) := Lib.hid (by rw [HFE.out, if_pos hneg])
      clear hrm hds
      go_wp2_with (go_at_call 60; refine HIX.out.mono ?_)
      rintro e w5 ⟨rfl, x5⟩
      have hb5 := (X3.out.trans x5).block HB.out
      have c0 := cellOf hb5 (i := 0) rfl
      have c1 := cellOf hb5 (i := 1) rfl
      have f1 := freeOf hb5 1
      have HB5 := Lib.hid hb5
      have X5 := Lib.hid (X3.out.trans x5)
      clear hb5 x5
      go_wp2_with fail
      go_ret
      rw [HNO.out, HF.out]
      exact ⟨rfl, Mv.setRb (Mv.ofExt X5.out) _, Rd.move (k := s.size) (r := []) HB5.out (by simp) (by rw [List.drop_eq_nil_of_le]; exact Nat.le_refl _)⟩
    · obtain ⟨m, rfl⟩ : ∃ m : Nat, z = (m : Int) := ⟨z.toNat, by omega⟩
      have hm := hrm (by omega)
      simp only [List.length_cons, List.length_nil] at hm
      have HF : Hid (findEnd [45, 45, 62] (r.drop 4) = r.drop (4 + m + 3)) := Lib.hid (by
        rw [HFE.out, if_neg hneg, List.drop_drop]
        congr 1
        try (simp only [List.length_cons, List.length_nil, Int.toNat_natCast])
        try omega)
      have hnd : decide ((0 : Int) ≤ (m : Int)) = true := decide_eq_true (by omega)
      have hk2 : k + R.size = s.size := HKS.out
      have a1 : IntKind.i64.wrap ((s.size : Int) - (D.size : Int)) = (k : Int) + 4 := by rw [IntWalk.i64_in _ (by omega)]; omega
      have a2 : IntKind.i64.wrap ((k : Int) + 4 + (m : Int)) = (k : Int) + 4 + (m : Int) := IntWalk.i64_in _ (by omega)
      have a3 : IntKind.i64.wrap ((k : Int) + 4 + (m : Int) + 3) = (k : Int) + 4 + (m : Int) + 3 := IntWalk.i64_in _ (by omega)
      have HM := Lib.hid hm
      have HDS := Lib.hid hds
      clear hrm hds hneg hge hm hk2
      go_wp2_with (go_at_call 60; refine HIX.out.mono ?_)
      rintro e w5 ⟨rfl, x5⟩
      have hb5 := (X3.out.trans x5).block HB.out
      have c0 := cellOf hb5 (i := 0) rfl
      have c1 := cellOf hb5 (i := 1) rfl
      have f1 := freeOf hb5 1
      have HB5 := Lib.hid hb5
      have X5 := Lib.hid (X3.out.trans x5)
      clear hb5 x5
      go_wp2_with fail
      go_ret
      rw [HNO.out, HF.out]
      have hz1 := HM.out
      have hz2 := HKS.out
      have hz3 := HRZ.out
      have hz4 := H2.out.2
      exact ⟨rfl, Mv.setRb (Mv.ofExt X5.out) _, Rd.moveI (k := k + 4 + m + 3) (z := (k : Int) + 4 + (m : Int) + 3) (by omega) (r := r.drop (4 + m + 3)) HB5.out (by rw [List.length_drop]; omega) (by rw [hz4, List.drop_drop]; congr 1; omega)⟩
  · have e4 : Lib.hasPrefix r (⟨#[60, 33, 45, 45]⟩ : ByteArray).data.toList = false := Bool.eq_false_iff.2 h4
    have HP4 := Lib.hid (fun W => e4 ▸ HP.out ⟨#[60, 33, 45, 45]⟩ W)
    have HN4 := Lib.hid h4
    clear h4 e4
    go_wp2_with (go_at_call 57; refine (HP4.out _).mono ?_)
    rintro e w2 ⟨rfl, x2⟩
    have X2 := Lib.hid (X1.out.trans x2)
    clear x2
    by_cases h2 : [60, 33].isPrefixOf r = true
    · have e2 : Lib.hasPrefix r (⟨#[60, 33]⟩ : ByteArray).data.toList = true := h2
      have HP2 := Lib.hid (fun W => e2 ▸ HP.out ⟨#[60, 33]⟩ W)
      have h2l := hpl _ h2
      have hr2 : 2 ≤ R.size := by rw [HRZ.out]; exact h2l
      have b3 : (2 : Int) ≤ (R.size : Int) := by omega
      have HNO : Hid (o = some (findEnd [62] (r.drop 2))) := Lib.hid (by rw [← HO.out]; unfold noteL; rw [if_neg HN4.out, if_pos (by rw [h2]; rfl)])
      clear h2 e2 h2l hpl
      go_wp2_with (go_at_call 57; refine (HP2.out _).mono ?_)
      rintro e w3 ⟨rfl, x3⟩
      have X3 := Lib.hid (X2.out.trans x3)
      clear x3
      go_upto_region 8 with fail
      rw [HCR.out]
      obtain ⟨mm, hmm⟩ := (HL.out.ext X3.out).len
      have HIX := Lib.hid (bs_data (r.drop 2) ▸ Index_any (bs (r.drop 2)) ⟨#[62]⟩ mm w3 (by rw [bs_size, List.length_drop]; have := HRZ.out; omega) hmm : Calls Tryd.prog 60 #[.string (bs (r.drop 2)), .string ⟨#[62]⟩] w3 (RVal (.int .i64 (Lib.index (r.drop 2) [62])) w3))
      have hfe := findEnd_index (t := [62]) (by decide) (r.drop 2)
      have hrm := Lib.index_room (r.drop 2) [62]
      have hge := Lib.index_ge (r.drop 2) [62]
      obtain ⟨z, hz⟩ : ∃ z, Lib.index (r.drop 2) [62] = z := ⟨_, rfl⟩
      rw [hz] at hfe hrm HIX hge
      have HD := Lib.hid (bs_size (r.drop 2))
      have hdl : (r.drop 2).length = R.size - 2 := by rw [List.length_drop, HRZ.out]
      rw [hdl] at hrm
      have hds : (bs (r.drop 2)).size = R.size - 2 := by rw [bs_size, hdl]
      obtain ⟨D, hD⟩ : ∃ D, bs (r.drop 2) = D := ⟨_, rfl⟩
      rw [hD] at HIX hds ⊢
      have HFE := Lib.hid hfe
      have HDL := Lib.hid hdl
      clear hz hD hfe hdl hmm HD
      by_cases hneg : z < 0
      · have hnd : decide ((0 : Int) ≤ z) = false := decide_eq_false (by omega)
        have HF : Hid (findEnd [62] (r.drop 2) = []) := Lib.hid (by rw [HFE.out, if_pos hneg])
        clear hrm hds
        go_wp2_with (go_at_call 60; refine HIX.out.mono ?_)
        rintro e w5 ⟨rfl, x5⟩
        have hb5 := (X3.out.trans x5).block HB.out
        have c0 := cellOf hb5 (i := 0) rfl
        have c1 := cellOf hb5 (i := 1) rfl
        have f1 := freeOf hb5 1
        have HB5 := Lib.hid hb5
        have X5 := Lib.hid (X3.out.trans x5)
        clear hb5 x5
        go_wp2_with fail
        go_ret
        rw [HNO.out, HF.out]
        exact ⟨rfl, Mv.setRb (Mv.ofExt X5.out) _, Rd.move (k := s.size) (r := []) HB5.out (by simp) (by rw [List.drop_eq_nil_of_le]; exact Nat.le_refl _)⟩
      · obtain ⟨m, rfl⟩ : ∃ m : Nat, z = (m : Int) := ⟨z.toNat, by omega⟩
        have hm := hrm (by omega)
        simp only [List.length_cons, List.length_nil] at hm
        have HF : Hid (findEnd [62] (r.drop 2) = r.drop (2 + m + 1)) := Lib.hid (by
          rw [HFE.out, if_neg hneg, List.drop_drop]
          congr 1
          try (simp only [List.length_cons, List.length_nil, Int.toNat_natCast])
          try omega)
        have hnd : decide ((0 : Int) ≤ (m : Int)) = true := decide_eq_true (by omega)
        have hk2 : k + R.size = s.size := HKS.out
        have a1 : IntKind.i64.wrap ((s.size : Int) - (D.size : Int)) = (k : Int) + 2 := by rw [IntWalk.i64_in _ (by omega)]; omega
        have a2 : IntKind.i64.wrap ((k : Int) + 2 + (m : Int)) = (k : Int) + 2 + (m : Int) := IntWalk.i64_in _ (by omega)
        have a3 : IntKind.i64.wrap ((k : Int) + 2 + (m : Int) + 1) = (k : Int) + 2 + (m : Int) + 1 := IntWalk.i64_in _ (by omega)
        have HM := Lib.hid hm
        have HDS := Lib.hid hds
        clear hrm hds hneg hge hm hk2
        go_wp2_with (go_at_call 60; refine HIX.out.mono ?_)
        rintro e w5 ⟨rfl, x5⟩
        have hb5 := (X3.out.trans x5).block HB.out
        have c0 := cellOf hb5 (i := 0) rfl
        have c1 := cellOf hb5 (i := 1) rfl
        have f1 := freeOf hb5 1
        have HB5 := Lib.hid hb5
        have X5 := Lib.hid (X3.out.trans x5)
        clear hb5 x5
        go_wp2_with fail
        go_ret
        rw [HNO.out, HF.out]
        have hz1 := HM.out
        have hz2 := HKS.out
        have hz3 := HRZ.out
        have hz4 := H2.out.2
        exact ⟨rfl, Mv.setRb (Mv.ofExt X5.out) _, Rd.moveI (k := k + 2 + m + 1) (z := (k : Int) + 2 + (m : Int) + 1) (by omega) (r := r.drop (2 + m + 1)) HB5.out (by rw [List.length_drop]; omega) (by rw [hz4, List.drop_drop]; congr 1; omega)⟩
    · have e2 : Lib.hasPrefix r (⟨#[60, 33]⟩ : ByteArray).data.toList = false := Bool.eq_false_iff.2 h2
      have HP2 := Lib.hid (fun W => e2 ▸ HP.out ⟨#[60, 33]⟩ W)
      by_cases h3 : [60, 63].isPrefixOf r = true
      · have e3 : Lib.hasPrefix r (⟨#[60, 63]⟩ : ByteArray).data.toList = true := h3
        have HP3 := Lib.hid (fun W => e3 ▸ HP.out ⟨#[60, 63]⟩ W)
        have h2l := hpl _ h3
        have hr2 : 2 ≤ R.size := by rw [HRZ.out]; exact h2l
        have b3 : (2 : Int) ≤ (R.size : Int) := by omega
        have HNO : Hid (o = some (findEnd [62] (r.drop 2))) := Lib.hid (by rw [← HO.out]; unfold noteL; rw [if_neg HN4.out, if_pos (by rw [h3, Bool.or_true])])
        clear h2 e2 h3 e3 h2l hpl
        go_wp2_with (go_at_call 57; refine (HP2.out _).mono ?_)
        rintro e w4 ⟨rfl, x4⟩
        have X4 := Lib.hid (X2.out.trans x4)
        clear x4
        go_wp2_with (go_at_call 57; refine (HP3.out _).mono ?_)
        rintro e w3 ⟨rfl, x3⟩
        have X3 := Lib.hid (X4.out.trans x3)
        clear x3
        go_upto_region 8 with fail
        rw [HCR.out]
        obtain ⟨mm, hmm⟩ := (HL.out.ext X3.out).len
        have HIX := Lib.hid (bs_data (r.drop 2) ▸ Index_any (bs (r.drop 2)) ⟨#[62]⟩ mm w3 (by rw [bs_size, List.length_drop]; have := HRZ.out; omega) hmm : Calls Tryd.prog 60 #[.string (bs (r.drop 2)), .string ⟨#[62]⟩] w3 (RVal (.int .i64 (Lib.index (r.drop 2) [62])) w3))
        have hfe := findEnd_index (t := [62]) (by decide) (r.drop 2)
        have hrm := Lib.index_room (r.drop 2) [62]
        have hge := Lib.index_ge (r.drop 2) [62]
        obtain ⟨z, hz⟩ : ∃ z, Lib.index (r.drop 2) [62] = z := ⟨_, rfl⟩
        rw [hz] at hfe hrm HIX hge
        have HD := Lib.hid (bs_size (r.drop 2))
        have hdl : (r.drop 2).length = R.size - 2 := by rw [List.length_drop, HRZ.out]
        rw [hdl] at hrm
        have hds : (bs (r.drop 2)).size = R.size - 2 := by rw [bs_size, hdl]
        obtain ⟨D, hD⟩ : ∃ D, bs (r.drop 2) = D := ⟨_, rfl⟩
        rw [hD] at HIX hds ⊢
        have HFE := Lib.hid hfe
        have HDL := Lib.hid hdl
        clear hz hD hfe hdl hmm HD
        by_cases hneg : z < 0
        · have hnd : decide ((0 : Int) ≤ z) = false := decide_eq_false (by omega)
          have HF : Hid (findEnd [62] (r.drop 2) = []) := Lib.hid (by rw [HFE.out, if_pos hneg])
          clear hrm hds
          go_wp2_with (go_at_call 60; refine HIX.out.mono ?_)
          rintro e w5 ⟨rfl, x5⟩
          have hb5 := (X3.out.trans x5).block HB.out
          have c0 := cellOf hb5 (i := 0) rfl
          have c1 := cellOf hb5 (i := 1) rfl
          have f1 := freeOf hb5 1
          have HB5 := Lib.hid hb5
          have X5 := Lib.hid (X3.out.trans x5)
          clear hb5 x5
          go_wp2_with fail
          go_ret
          rw [HNO.out, HF.out]
          exact ⟨rfl, Mv.setRb (Mv.ofExt X5.out) _, Rd.move (k := s.size) (r := []) HB5.out (by simp) (by rw [List.drop_eq_nil_of_le]; exact Nat.le_refl _)⟩
        · obtain ⟨m, rfl⟩ : ∃ m : Nat, z = (m : Int) := ⟨z.toNat, by omega⟩
          have hm := hrm (by omega)
          simp only [List.length_cons, List.length_nil] at hm
          have HF : Hid (findEnd [62] (r.drop 2) = r.drop (2 + m + 1)) := Lib.hid (by
            rw [HFE.out, if_neg hneg, List.drop_drop]
            congr 1
            try (simp only [List.length_cons, List.length_nil, Int.toNat_natCast])
            try omega)
          have hnd : decide ((0 : Int) ≤ (m : Int)) = true := decide_eq_true (by omega)
          have hk2 : k + R.size = s.size := HKS.out
          have a1 : IntKind.i64.wrap ((s.size : Int) - (D.size : Int)) = (k : Int) + 2 := by rw [IntWalk.i64_in _ (by omega)]; omega
          have a2 : IntKind.i64.wrap ((k : Int) + 2 + (m : Int)) = (k : Int) + 2 + (m : Int) := IntWalk.i64_in _ (by omega)
          have a3 : IntKind.i64.wrap ((k : Int) + 2 + (m : Int) + 1) = (k : Int) + 2 + (m : Int) + 1 := IntWalk.i64_in _ (by omega)
          have HM := Lib.hid hm
          have HDS := Lib.hid hds
          clear hrm hds hneg hge hm hk2
          go_wp2_with (go_at_call 60; refine HIX.out.mono ?_)
          rintro e w5 ⟨rfl, x5⟩
          have hb5 := (X3.out.trans x5).block HB.out
          have c0 := cellOf hb5 (i := 0) rfl
          have c1 := cellOf hb5 (i := 1) rfl
          have f1 := freeOf hb5 1
          have HB5 := Lib.hid hb5
          have X5 := Lib.hid (X3.out.trans x5)
          clear hb5 x5
          go_wp2_with fail
          go_ret
          rw [HNO.out, HF.out]
          have hz1 := HM.out
          have hz2 := HKS.out
          have hz3 := HRZ.out
          have hz4 := H2.out.2
          exact ⟨rfl, Mv.setRb (Mv.ofExt X5.out) _, Rd.moveI (k := k + 2 + m + 1) (z := (k : Int) + 2 + (m : Int) + 1) (by omega) (r := r.drop (2 + m + 1)) HB5.out (by rw [List.length_drop]; omega) (by rw [hz4, List.drop_drop]; congr 1; omega)⟩
      · have e3 : Lib.hasPrefix r (⟨#[60, 63]⟩ : ByteArray).data.toList = false := Bool.eq_false_iff.2 h3
        have HP3 := Lib.hid (fun W => e3 ▸ HP.out ⟨#[60, 63]⟩ W)
        have HNO : Hid (o = none) := Lib.hid (by rw [← HO.out]; unfold noteL; rw [if_neg HN4.out, if_neg]; rw [Bool.or_eq_true]; rintro (h | h); exact h2 h; exact h3 h)
        clear h2 e2 h3 e3 hpl
        go_wp2_with (go_at_call 57; refine (HP2.out _).mono ?_)
        rintro e w4 ⟨rfl, x4⟩
        have X4 := Lib.hid (X2.out.trans x4)
        clear x4
        go_wp2_with (go_at_call 57; refine (HP3.out _).mono ?_)
        rintro e w3 ⟨rfl, x3⟩
        have X3 := Lib.hid (X4.out.trans x3)
        clear x3
        go_wp2_with fail
        go_ret
        rw [HNO.out]
        exact ⟨rfl, Mv.ofExt X3.out, HR.out.ext X3.out⟩
end Go.Proofs.YtdafdoodegpdhaaDoor
