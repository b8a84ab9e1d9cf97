/- The document's lexer: a tag's parts. Conditions: at most 10^6 bytes. -/
import Derived.Test.YtdafdoodegpdhaaGreatDoorNA
namespace Go.Proofs.YtdafdoodegpdhaaGreatDoor
open Go Go.RowKit Go.BigFrame
set_option linter.unusedVariables false
set_option linter.unusedSimpArgs false

theorem infoAttr14 : (Tryz.prog.info? 70).map (fun i => (i.zero, i.size, i.bytes)) = some (some (.agg #[.string ByteArray.empty, .string ByteArray.empty]), 2, 32) := by kernel_rfl
/-- what the document's parts answers -/
def RRParts (s : ByteArray) (o : Option (List Part × Bool × List UInt8)) (w : World) (e : Ending) (w' : World) : Prop :=
  match o with
  | some (l, self, t) => ∃ v z, z = ((s.size - t.length : Nat) : Int) ∧ e = .returned (.tuple #[v, .int .i64 (if self then 1 else 0), .int .i64 z]) ∧ Mv (fun _ => False) w w' ∧ RowP w' (fun g => w.heap.size ≤ g) 70 2 v l.length (attrCells (l.map pb))
  | none => e = .returned (.tuple #[.slice none 0 0, .int .i64 0, .int .i64 (-1)]) ∧ Mv (fun _ => False) w w'
theorem drop_at {s : ByteArray} {j : Nat} {c : UInt8} (h : s.data.toList[j]? = some c) : s.data.toList.drop j = c :: s.data.toList.drop (j + 1) := by
  obtain ⟨h1, h2⟩ := List.getElem?_eq_some_iff.1 h
  rw [List.drop_eq_getElem_cons h1, h2]
theorem valueL_quote' {r t : List UInt8} {q : UInt8} (h : r.dropWhile blankB = q :: t) (hq : q = 34 ∨ q = 39) : valueL r = match t.dropWhile (neB q) with
    | [] => none
    | _ :: r3 => some (t.takeWhile (neB q), r3) := valueL_quote h hq
theorem headP_at {s : ByteArray} {j : Nat} (q : UInt8) (h : ∀ c, s.data.toList[j]? = some c → c ≠ q) : headP (· == q) (s.data.toList.drop j) = false := by
  cases hd : s.data.toList.drop j with
  | nil => rfl
  | cons c t =>
    have h1 : s.data.toList[j]? = some c := by rw [← List.head?_drop, hd]; rfl
    show (c == q) = false
    rw [beq_eq_false_iff_ne]
    exact h c h1
set_option maxHeartbeats 40000000 in
set_option maxRecDepth 100000 in
theorem rparts_any (s : ByteArray) (k : Nat) (w : World) (hs : s.size ≤ 1000000) (hk : k ≤ s.size) :
    Calls Tryz.prog 37 #[.string s, .int .i64 (k : Int)] w (RRParts s (partsL (s.data.toList.drop k)) w) := by
  have HS6 := Lib.hid hs
  obtain ⟨o, ho⟩ : ∃ o, partsL (s.data.toList.drop k) = o := ⟨_, rfl⟩
  rw [ho]
  have HO := Lib.hid ho
  have HK := Lib.hid hk
  clear ho hs hk
  go_enter Tryz.func37, Tryz.ntmps37
  go_wp2_with fail
  go_loopg [1, 7, 8, 9, 10, 11, 12, 13, 14] (s.size + 1) (fun gf iv lv sv _ _ _ _ _ _ wr => ∃ (j : Nat) (acc : List Part) (b : Bool), j ≤ s.size ∧ iv = .int .i64 j ∧ sv = .int .i64 (if b then 1 else 0) ∧ RowP wr (fun g => w.heap.size ≤ g) 70 2 lv acc.length (attrCells (acc.map pb)) ∧ Mv (fun _ => False) w wr ∧ s.size - j < gf ∧ acc.length + (s.size - j) ≤ s.size ∧ (partsS b (s.data.toList.drop j)).map (fun x => (acc ++ x.1, x.2)) = o)
  case atStart =>
    exact ⟨k, [], false, HK.out, rfl, rfl, ⟨rfl, .inl ⟨rfl, none, rfl⟩⟩, Mv.refl _ _, by omega, by simp, by rw [partsS_false, HO.out]; cases o <;> rfl⟩
  case round =>
    obtain ⟨j, acc, b, hj, rfl, rfl, hrow, hm, hgf, hal, hres⟩ := hrel
    obtain ⟨la, lcap, rfl, _⟩ := hrow.rd.len_of
    have HM := Lib.hid hm
    have HROW := Lib.hid hrow
    have HGF := Lib.hid hgf
    have HAL := Lib.hid hal
    have hwr := hm.size
    have hs6 := HS6.out
    clear hm hrow hgf hal
    obtain ⟨bz, hbz⟩ : ∃ z : Int, (if b then 1 else 0) = z := ⟨_, rfl⟩
    rw [hbz]
    have HBZ := Lib.hid hbz
    clear hbz
    have hw1 : IntKind.i64.wrap ((j : Int) + 1) = (j : Int) + 1 := IntWalk.i64_in _ (by omega)
    by_cases hlt : j < s.size
    · obtain ⟨c, hcl, -⟩ := at_idx s j hlt
      have hix := idx_of s j c hcl
      have hdr := drop_at hcl
      have e0 : decide ((j : Int) < (s.size : Int)) = true := decide_eq_true (by omega)
      have e0n : decide (j < s.size) = true := decide_eq_true hlt
      rw [hdr] at hres
      have hl1 : (s.data.toList.drop (j + 1)).length = s.size - (j + 1) := List.length_drop
      by_cases h62 : c = 62
      · have f62 : ((c.toNat : Int) == 62) = true := (u8_eq c 62).trans (by simp [h62])
        have hO : o = some (acc, b, s.data.toList.drop (j + 1)) := by rw [← hres, h62, partsS_end]; simp
        subst hO
        have HL := Lib.hid hl1
        clear h62 hdr hres hcl hl1
        go_wp2_with fail
        go_ret3
        exact ⟨_, (j : Int) + 1, by rw [HL.out]; omega, by rw [← HBZ.out]; rfl, HM.out, HROW.out⟩
      · have f62 : ((c.toNat : Int) == 62) = false := (u8_eq c 62).trans (by simp [h62])
        have HBL := Lib.hid (fun W => rBlank_any c W)
        by_cases hgp : gapB c = true
        · have HRES : Hid ((partsS (c == 47) (s.data.toList.drop (j + 1))).map (fun x => (acc ++ x.1, x.2)) = o) := Lib.hid (by rw [← hres, partsS_gap hgp])
          cases hb : blankB c with
          | true =>
            have h47 : c ≠ 47 := by rintro rfl; exact absurd hb (by decide)
            have f47 : ((c.toNat : Int) == 47) = false := (u8_eq c 47).trans (by simp [h47])
            have h47b : (c == 47) = false := by simp [h47]
            rw [hb] at HBL
            rw [h47b] at HRES
            clear h62 hdr hres hcl hl1 hgp h47 h47b hb
            go_wp2_with (go_at_call 60; refine (HBL.out _).mono ?_)
            rintro e w1 ⟨rfl, x1⟩
            go_wp2_with fail
            obtain ⟨g', rfl⟩ : ∃ g', gk = g' + 1 := ⟨gk - 1, by have := HGF.out; omega⟩
            go_roundg g'
            case measure => omega
            case rel => exact ⟨j + 1, acc, false, by omega, by first | rfl | (push_cast; rfl), rfl, HROW.out.ext x1, HM.out.ext x1, by have := HGF.out; omega, by have := HAL.out; omega, HRES.out⟩
          | false =>
            have h47 : c = 47 := by simpa [gapB, hb] using hgp
            have f47 : ((c.toNat : Int) == 47) = true := (u8_eq c 47).trans (by simp [h47])
            have h47b : (c == 47) = true := by simp [h47]
            rw [hb] at HBL
            rw [h47b] at HRES
            clear h62 hdr hres hcl hl1 hgp h47 h47b hb
            go_wp2_with (go_at_call 60; refine (HBL.out _).mono ?_)
            rintro e w1 ⟨rfl, x1⟩
            go_wp2_with fail
            obtain ⟨g', rfl⟩ : ∃ g', gk = g' + 1 := ⟨gk - 1, by have := HGF.out; omega⟩
            go_roundg g'
            case measure => omega
            case rel => exact ⟨j + 1, acc, true, by omega, by first | rfl | (push_cast; rfl), rfl, HROW.out.ext x1, HM.out.ext x1, by have := HGF.out; omega, by have := HAL.out; omega, HRES.out⟩
        · have hgf : gapB c = false := by simpa using hgp
          have hb : blankB c = false := by unfold gapB at hgf; exact (Bool.or_eq_false_iff.1 hgf).1
          have h47 : c ≠ 47 := by rintro rfl; exact absurd hgf (by decide)
          have f47 : ((c.toNat : Int) == 47) = false := (u8_eq c 47).trans (by simp [h47])
          have HRES : Hid ((match partL c (s.data.toList.drop (j + 1)) with | none => none | some (p, e) => (partsL e).map fun (x : List Part × Bool × List UInt8) => (p :: x.1, x.2)).map (fun (x : List Part × Bool × List UInt8) => (acc ++ x.1, x.2)) = o) := Lib.hid (by rw [← hres, partsS_part hgf h62]; rfl)
          rw [hb] at HBL
          obtain ⟨m1, SC1, D1, T1⟩ := scan_of nmB s (j + 1) (by omega)
          have hm1 := SC1.le
          have hm1f := SC1.fit
          have hcut : s.extract j m1 = bs (c :: (s.data.toList.drop (j + 1)).takeWhile nmB) := by
            have h := bs_cut s.data.toList j m1
            rw [bs_list] at h
            have h2 := bs_cut s.data.toList (j + 1) m1
            rw [bs_list, T1] at h2
            rw [h, hdr, show m1 - j = (m1 - (j + 1)) + 1 by omega, List.take_succ_cons]
            exact congrArg (fun l => bs (c :: l)) (bs_inj.1 h2).symm
          have SC1 := Lib.hid SC1
          have HCUT := Lib.hid hcut
          have HD1 := Lib.hid D1
          generalize hE : s.extract j m1 = E at HCUT hcut
          have HE := Lib.hid hE
          obtain ⟨nm, hnm⟩ : ∃ nm, c :: (s.data.toList.drop (j + 1)).takeWhile nmB = nm := ⟨_, rfl⟩
          rw [hnm] at HCUT
          have HNM := Lib.hid hnm
          have b1 : (0 : Int) ≤ (j : Int) := by omega
          have b2 : (j : Int) ≤ (m1 : Int) := by omega
          have b3 : (m1 : Int) ≤ (s.size : Int) := by omega
          clear h62 hdr hres hcl hl1 hgp h47 hb hgf hcut D1 T1 hE hnm
          go_wp2_with (go_at_call 60; refine (HBL.out _).mono ?_)
          rintro e w4 ⟨rfl, x4⟩
          have X4 := Lib.hid x4
          have hw4 := x4.size
          clear x4 HBL
          go_upto_block 2 with fail
          go_cut [10] (fun ev wx => ev = .int .i64 (m1 : Int) ∧ Ext w4 wx)
          case first =>
           as_aux_lemma =>
            go_wp2_with fail
            go_loopw [10] (fun ev wr => ∃ i : Nat, j + 1 ≤ i ∧ i ≤ m1 ∧ ev = .int .i64 i ∧ Ext w4 wr) (fun ev _ => m1 - (intOf ev).toNat)
            case atStart => exact ⟨j + 1, Nat.le_refl _, SC1.out.le, by first | rfl | (push_cast; rfl), Ext.refl _⟩
            case round =>
              obtain ⟨i, hki, him, rfl, xr⟩ := hrel
              have XR := Lib.hid xr
              clear xr
              have hmf := SC1.out.fit
              have hs6 := HS6.out
              by_cases hsz : i < s.size
              · obtain ⟨d, hdl, -⟩ := at_idx s i hsz
                have hix := idx_of s i d hdl
                have ON := Lib.hid (fun h => SC1.out.on i d hki h hdl)
                have OFF := Lib.hid (fun (h : i = m1) => SC1.out.off d (h ▸ hdl))
                have e0 : decide ((i : Int) < (s.size : Int)) = true := decide_eq_true (by omega)
                have e0n : decide (i < s.size) = true := decide_eq_true hsz
                have hw1 : IntKind.i64.wrap ((i : Int) + 1) = (i : Int) + 1 := IntWalk.i64_in _ (by omega)
                clear hdl
                have HBL := Lib.hid (fun W => rBlank_any d W)
                cases hb : blankB d with
                | true =>
                  rw [hb] at HBL
                  have hlt : i = m1 := by
                    rcases Nat.lt_or_ge i m1 with h | h
                    · have h := ON.out h; simp [nmB, valB, hb] at h
                    · omega
                  subst hlt
                  clear hb
                  go_wp2_with (go_at_call 60; refine (HBL.out _).mono ?_)
                  rintro e w1 ⟨rfl, x1⟩
                  go_wp2_with fail
                  go_meet
                  exact ⟨rfl, XR.out.trans x1⟩
                | false =>
                  rw [hb] at HBL
                  by_cases h47 : d = 47
                  · have f47 : ((d.toNat : Int) == 47) = true := (u8_eq d 47).trans (by simp [h47])
                    have g47 : ((d.toNat : Int) != 47) = false := (u8_ne d 47).trans (by simp [h47])
                    have hlt : i = m1 := by
                      rcases Nat.lt_or_ge i m1 with h | h
                      · have h := ON.out h; simp [nmB, valB, h47, hb] at h
                      · omega
                    subst hlt
                    clear h47 hb
                    go_wp2_with (go_at_call 60; refine (HBL.out _).mono ?_)
                    rintro e w1 ⟨rfl, x1⟩
                    go_wp2_with fail
                    go_meet
                    exact ⟨rfl, XR.out.trans x1⟩
                  · have f47 : ((d.toNat : Int) == 47) = false := (u8_eq d 47).trans (by simp [h47])
                    have g47 : ((d.toNat : Int) != 47) = true := (u8_ne d 47).trans (by simp [h47])
                    by_cases h62 : d = 62
                    · have f62 : ((d.toNat : Int) == 62) = true := (u8_eq d 62).trans (by simp [h62])
                      have g62 : ((d.toNat : Int) != 62) = false := (u8_ne d 62).trans (by simp [h62])
                      have hlt : i = m1 := by
                        rcases Nat.lt_or_ge i m1 with h | h
                        · have h := ON.out h; simp [nmB, valB, h62, hb] at h
                        · omega
                      subst hlt
                      clear h62 hb
                      go_wp2_with (go_at_call 60; refine (HBL.out _).mono ?_)
                      rintro e w1 ⟨rfl, x1⟩
                      go_wp2_with fail
                      go_meet
                      exact ⟨rfl, XR.out.trans x1⟩
                    · have f62 : ((d.toNat : Int) == 62) = false := (u8_eq d 62).trans (by simp [h62])
                      have g62 : ((d.toNat : Int) != 62) = true := (u8_ne d 62).trans (by simp [h62])
                      by_cases h61 : d = 61
                      · have f61 : ((d.toNat : Int) == 61) = true := (u8_eq d 61).trans (by simp [h61])
                        have g61 : ((d.toNat : Int) != 61) = false := (u8_ne d 61).trans (by simp [h61])
                        have hlt : i = m1 := by
                          rcases Nat.lt_or_ge i m1 with h | h
                          · have h := ON.out h; simp [nmB, valB, h61, hb] at h
                          · omega
                        subst hlt
                        clear h61 hb
                        go_wp2_with (go_at_call 60; refine (HBL.out _).mono ?_)
                        rintro e w1 ⟨rfl, x1⟩
                        go_wp2_with fail
                        go_meet
                        exact ⟨rfl, XR.out.trans x1⟩
                      · have f61 : ((d.toNat : Int) == 61) = false := (u8_eq d 61).trans (by simp [h61])
                        have g61 : ((d.toNat : Int) != 61) = true := (u8_ne d 61).trans (by simp [h61])
                        have hlt : i < m1 := by
                          rcases Nat.lt_or_ge i m1 with h | h
                          · exact h
                          · have h := OFF.out (by omega); simp [nmB, valB, hb, h47, h62, h61] at h
                        clear hb h47 h62 h61
                        go_wp2_with (go_at_call 60; refine (HBL.out _).mono ?_)
                        rintro e w1 ⟨rfl, x1⟩
                        go_wp2_with fail
                        go_roundw
                        case rel => exact ⟨i + 1, by omega, by omega, by go_num, XR.out.trans x1⟩
                        case measure => simp [intOf]; omega
              · have e0 : decide ((i : Int) < (s.size : Int)) = false := decide_eq_false (by omega)
                have e0n : decide (i < s.size) = false := decide_eq_false hsz
                have hlt : i = m1 := by omega
                subst hlt
                clear hsz
                go_wp2_with fail
                go_meet
                exact ⟨rfl, XR.out⟩
          case rest =>
           obtain ⟨rfl, xcut⟩ := hcut
           have X5 := Lib.hid (X4.out.trans xcut)
           have hw5 := xcut.size
           obtain ⟨w5, hw5e⟩ : ∃ W, wc = W := ⟨_, rfl⟩
           rw [hw5e] at X5 hw5 xcut ⊢
           clear xcut hw5e
           go_upto_region 17 with fail
           first | rw [HE.out, HCUT.out] | rw [HCUT.out]
           have hx6 := (Ext.refl w5).alloc (.cells #[.string (bs nm), .string ⟨#[]⟩] 70)
           have hb6 := heap_alloc_new w5 (.cells #[.string (bs nm), .string ⟨#[]⟩] 70)
           obtain ⟨w6, hw6⟩ : ∃ w6 : World, w6 = w5.alloc (.cells #[.string (bs nm), .string ⟨#[]⟩] 70) := ⟨_, rfl⟩
           rw [← hw6] at hx6 hb6 ⊢
           clear hw6
           have hrow5 := ((HROW.out.ext X5.out)).full
           obtain ⟨bx, hbx⟩ : ∃ bx, w5.heap.size = bx := ⟨_, rfl⟩
           rw [hbx] at hb6 hrow5 ⊢
           have hbxw : w.heap.size ≤ bx := by omega
           have HROW6 := Lib.hid (hrow5.ext hx6)
           have M6 := Lib.hid ((HM.out.ext X5.out).ext hx6)
           have BX6 := Lib.hid hb6
           obtain ⟨m2, SC2, D2, -⟩ := scan_of blankB s m1 hm1f
           have hm2 := SC2.le
           have hm2f := SC2.fit
           have SC2 := Lib.hid SC2
           rw [← HD1.out] at D2
           have HD2 := Lib.hid D2
           clear hb6 hx6 hrow5 hbx D2
           go_upto_block 4 with fail
           go_cut [10] (fun ev wx => ev = .int .i64 (m2 : Int) ∧ Ext w6 wx)
           case first =>
            as_aux_lemma =>
             go_wp2_with fail
             go_loopw [10] (fun ev wr => ∃ i : Nat, m1 ≤ i ∧ i ≤ m2 ∧ ev = .int .i64 i ∧ Ext w6 wr) (fun ev _ => m2 - (intOf ev).toNat)
             case atStart => exact ⟨m1, Nat.le_refl _, SC2.out.le, by first | rfl | (push_cast; rfl), Ext.refl _⟩
             case round =>
               obtain ⟨i, hki, him, rfl, xr⟩ := hrel
               have XR := Lib.hid xr
               clear xr
               have hmf := SC2.out.fit
               have hs6 := HS6.out
               by_cases hsz : i < s.size
               · obtain ⟨d, hdl, -⟩ := at_idx s i hsz
                 have hix := idx_of s i d hdl
                 have ON := Lib.hid (fun h => SC2.out.on i d hki h hdl)
                 have OFF := Lib.hid (fun (h : i = m2) => SC2.out.off d (h ▸ hdl))
                 have e0 : decide ((i : Int) < (s.size : Int)) = true := decide_eq_true (by omega)
                 have e0n : decide (i < s.size) = true := decide_eq_true hsz
                 have hw1 : IntKind.i64.wrap ((i : Int) + 1) = (i : Int) + 1 := IntWalk.i64_in _ (by omega)
                 clear hdl
                 have HBL := Lib.hid (fun W => rBlank_any d W)
                 cases hb : blankB d with
                 | true =>
                   rw [hb] at HBL
                   have hlt : i < m2 := by
                     rcases Nat.lt_or_ge i m2 with h | h
                     · exact h
                     · have h := OFF.out (by omega); simp [hb] at h
                   clear hb
                   go_wp2_with (go_at_call 60; refine (HBL.out _).mono ?_)
                   rintro e w1 ⟨rfl, x1⟩
                   go_wp2_with fail
                   go_roundw
                   case rel => exact ⟨i + 1, by omega, by omega, by go_num, XR.out.trans x1⟩
                   case measure => simp [intOf]; omega
                 | false =>
                   rw [hb] at HBL
                   have hlt : i = m2 := by
                     rcases Nat.lt_or_ge i m2 with h | h
                     · have h := ON.out h; simp [hb] at h
                     · omega
                   subst hlt
                   clear hb
                   go_wp2_with (go_at_call 60; refine (HBL.out _).mono ?_)
                   rintro e w1 ⟨rfl, x1⟩
                   go_wp2_with fail
                   go_meet
                   exact ⟨rfl, XR.out.trans x1⟩
               · have e0 : decide ((i : Int) < (s.size : Int)) = false := decide_eq_false (by omega)
                 have e0n : decide (i < s.size) = false := decide_eq_false hsz
                 have hlt : i = m2 := by omega
                 subst hlt
                 clear hsz
                 go_wp2_with fail
                 go_meet
                 exact ⟨rfl, XR.out⟩
           case rest =>
            obtain ⟨rfl, xcut⟩ := hcut
            have X7 := Lib.hid xcut
            obtain ⟨w7, hw7e⟩ : ∃ W, wc = W := ⟨_, rfl⟩
            rw [hw7e] at X7 xcut ⊢
            clear xcut hw7e
            have hlm1 : (s.data.toList.drop m1).length = s.size - m1 := List.length_drop
            by_cases h61 : s.data.toList[m2]? = some 61
            · have hz2 : m2 < s.size := (List.getElem?_eq_some_iff.1 h61).1
              have hix2 := idx_of s m2 61 h61
              have HPV : Hid (partL c (s.data.toList.drop (j + 1)) = (valueL (s.data.toList.drop (m2 + 1))).map fun ve => ((nm, ve.1), ve.2)) := Lib.hid (by
                have h := part_none (c := c) (r2 := s.data.toList.drop (j + 1)) (r5 := s.data.toList.drop (m2 + 1)) (by rw [HD2.out]; exact drop_at h61)
                rw [h, HNM.out])
              obtain ⟨m3, SC3, D3, -⟩ := scan_of blankB s (m2 + 1) (by omega)
              have hm3 := SC3.le
              have hm3f := SC3.fit
              have SC3 := Lib.hid SC3
              have HD3 := Lib.hid D3
              have e2 : decide ((m2 : Int) < (s.size : Int)) = true := decide_eq_true (by omega)
              have e2n : decide (m2 < s.size) = true := decide_eq_true hz2
              have hw2 : IntKind.i64.wrap ((m2 : Int) + 1) = (m2 : Int) + 1 := IntWalk.i64_in _ (by omega)
              clear D3 h61
              go_upto_block 6 with fail
              go_cut [10] (fun ev wx => ev = .int .i64 (m3 : Int) ∧ Ext w7 wx)
              case first =>
               as_aux_lemma =>
                go_wp2_with fail
                go_loopw [10] (fun ev wr => ∃ i : Nat, m2 + 1 ≤ i ∧ i ≤ m3 ∧ ev = .int .i64 i ∧ Ext w7 wr) (fun ev _ => m3 - (intOf ev).toNat)
                case atStart => exact ⟨m2 + 1, Nat.le_refl _, SC3.out.le, by first | rfl | (push_cast; rfl), Ext.refl _⟩
                case round =>
                  obtain ⟨i, hki, him, rfl, xr⟩ := hrel
                  have XR := Lib.hid xr
                  clear xr
                  have hmf := SC3.out.fit
                  have hs6 := HS6.out
                  by_cases hsz : i < s.size
                  · obtain ⟨d, hdl, -⟩ := at_idx s i hsz
                    have hix := idx_of s i d hdl
                    have ON := Lib.hid (fun h => SC3.out.on i d hki h hdl)
                    have OFF := Lib.hid (fun (h : i = m3) => SC3.out.off d (h ▸ hdl))
                    have e0 : decide ((i : Int) < (s.size : Int)) = true := decide_eq_true (by omega)
                    have e0n : decide (i < s.size) = true := decide_eq_true hsz
                    have hw1 : IntKind.i64.wrap ((i : Int) + 1) = (i : Int) + 1 := IntWalk.i64_in _ (by omega)
                    clear hdl
                    have HBL := Lib.hid (fun W => rBlank_any d W)
                    cases hb : blankB d with
                    | true =>
                      rw [hb] at HBL
                      have hlt : i < m3 := by
                        rcases Nat.lt_or_ge i m3 with h | h
                        · exact h
                        · have h := OFF.out (by omega); simp [hb] at h
                      clear hb
                      go_wp2_with (go_at_call 60; refine (HBL.out _).mono ?_)
                      rintro e w1 ⟨rfl, x1⟩
                      go_wp2_with fail
                      go_roundw
                      case rel => exact ⟨i + 1, by omega, by omega, by go_num, XR.out.trans x1⟩
                      case measure => simp [intOf]; omega
                    | false =>
                      rw [hb] at HBL
                      have hlt : i = m3 := by
                        rcases Nat.lt_or_ge i m3 with h | h
                        · have h := ON.out h; simp [hb] at h
                        · omega
                      subst hlt
                      clear hb
                      go_wp2_with (go_at_call 60; refine (HBL.out _).mono ?_)
                      rintro e w1 ⟨rfl, x1⟩
                      go_wp2_with fail
                      go_meet
                      exact ⟨rfl, XR.out.trans x1⟩
                  · have e0 : decide ((i : Int) < (s.size : Int)) = false := decide_eq_false (by omega)
                    have e0n : decide (i < s.size) = false := decide_eq_false hsz
                    have hlt : i = m3 := by omega
                    subst hlt
                    clear hsz
                    go_wp2_with fail
                    go_meet
                    exact ⟨rfl, XR.out⟩
              case rest =>
               obtain ⟨rfl, xcut⟩ := hcut
               have X8 := Lib.hid (X7.out.trans xcut)
               obtain ⟨w8, hw8e⟩ : ∃ W, wc = W := ⟨_, rfl⟩
               rw [hw8e] at X8 xcut ⊢
               clear xcut hw8e
               by_cases hq : ∃ q : UInt8, s.data.toList[m3]? = some q ∧ (q = 34 ∨ q = 39)
               · obtain ⟨q, hql, hqq⟩ := hq
                 have hz3 : m3 < s.size := (List.getElem?_eq_some_iff.1 hql).1
                 have hix3 := idx_of s m3 q hql
                 obtain ⟨m4, SC4, D4, T4⟩ := scan_of (neB q) s (m3 + 1) (by omega)
                 have hm4 := SC4.le
                 have hm4f := SC4.fit
                 have SC4 := Lib.hid SC4
                 have HVQ := Lib.hid (valueL_quote' (r := s.data.toList.drop (m2 + 1)) (t := s.data.toList.drop (m3 + 1)) (by rw [HD3.out]; exact drop_at hql) hqq)
                 rw [D4] at HVQ
                 have HT4 := Lib.hid T4
                 have e3 : decide ((m3 : Int) < (s.size : Int)) = true := decide_eq_true (by omega)
                 have e3n : decide (m3 < s.size) = true := decide_eq_true hz3
                 have hw3 : IntKind.i64.wrap ((m3 : Int) + 1) = (m3 : Int) + 1 := IntWalk.i64_in _ (by omega)
                 have q34 : ((q.toNat : Int) == 34) = (q == 34) := u8_eq q 34
                 have q39 : ((q.toNat : Int) == 39) = (q == 39) := u8_eq q 39
                 have hq34 : (q == 34) = true ∨ (q == 34) = false ∧ (q == 39) = true := by rcases hqq with h | h <;> subst h; exact .inl rfl; exact .inr ⟨rfl, rfl⟩
                 have hq39 := hq34
                 clear D4 T4 hql hqq
                 rcases hq34 with h34 | ⟨h34, h39⟩
                 · rw [h34] at q34
                   clear hq39
                   go_upto_region 27 with fail
                   go_upto_block 8 with fail
                   go_cut [10] (fun ev wx => ev = .int .i64 (m4 : Int) ∧ Ext w8 wx)
                   case first =>
                    as_aux_lemma =>
                     go_wp2_with fail
                     go_loopw [10] (fun ev wr => ∃ i : Nat, m3 + 1 ≤ i ∧ i ≤ m4 ∧ ev = .int .i64 i ∧ Ext w8 wr) (fun ev _ => m4 - (intOf ev).toNat)
                     case atStart => exact ⟨m3 + 1, Nat.le_refl _, SC4.out.le, by first | rfl | (push_cast; rfl), Ext.refl _⟩
                     case round =>
                       obtain ⟨i, hki, him, rfl, xr⟩ := hrel
                       have XR := Lib.hid xr
                       clear xr
                       have hmf := SC4.out.fit
                       have hs6 := HS6.out
                       by_cases hsz : i < s.size
                       · obtain ⟨d, hdl, -⟩ := at_idx s i hsz
                         have hix := idx_of s i d hdl
                         have ON := Lib.hid (fun h => SC4.out.on i d hki h hdl)
                         have OFF := Lib.hid (fun (h : i = m4) => SC4.out.off d (h ▸ hdl))
                         have e0 : decide ((i : Int) < (s.size : Int)) = true := decide_eq_true (by omega)
                         have e0n : decide (i < s.size) = true := decide_eq_true hsz
                         have hw1 : IntKind.i64.wrap ((i : Int) + 1) = (i : Int) + 1 := IntWalk.i64_in _ (by omega)
                         clear hdl
                         have fq := u8_ne d q
                         cases hb : (d != q) with
                         | true =>
                           rw [hb] at fq
                           have hlt : i < m4 := by
                             rcases Nat.lt_or_ge i m4 with h | h
                             · exact h
                             · have h := OFF.out (by omega); simp [neB, hb] at h
                           clear hb
                           go_wp2_with fail
                           go_roundw
                           case rel => exact ⟨i + 1, by omega, by omega, by go_num, XR.out⟩
                           case measure => simp [intOf]; omega
                         | false =>
                           rw [hb] at fq
                           have hlt : i = m4 := by
                             rcases Nat.lt_or_ge i m4 with h | h
                             · have h := ON.out h; simp [neB, hb] at h
                             · omega
                           subst hlt
                           clear hb
                           go_wp2_with fail
                           go_meet
                           exact ⟨rfl, XR.out⟩
                       · have e0 : decide ((i : Int) < (s.size : Int)) = false := decide_eq_false (by omega)
                         have e0n : decide (i < s.size) = false := decide_eq_false hsz
                         have hlt : i = m4 := by omega
                         subst hlt
                         clear hsz
                         go_wp2_with fail
                         go_meet
                         exact ⟨rfl, XR.out⟩
                   case rest =>
                    obtain ⟨rfl, xcut⟩ := hcut
                    have X10 := Lib.hid (X8.out.trans xcut)
                    obtain ⟨w10, hw10e⟩ : ∃ W, wc = W := ⟨_, rfl⟩
                    rw [hw10e] at X10 xcut ⊢
                    clear xcut hw10e
                    by_cases hz4 : m4 = s.size
                    · have e4 : ((m4 : Int) == (s.size : Int)) = true := by rw [hz4]; exact beq_self_eq_true _
                      have e4n : (m4 == s.size) = true := by rw [hz4]; exact beq_self_eq_true _
                      have hN : o = none := by
                        have h := HVQ.out
                        rw [hz4, show s.data.toList.drop s.size = [] from List.drop_eq_nil_of_le (Nat.le_refl _)] at h
                        rw [← HRES.out, HPV.out, h]
                        rfl
                      subst hN
                      clear hz4
                      go_wp2_with fail
                      go_ret3
                      exact ⟨rfl, M6.out.ext X10.out⟩
                    · have e4 : ((m4 : Int) == (s.size : Int)) = false := by rw [beq_eq_false_iff_ne]; omega
                      have e4n : (m4 == s.size) = false := by rw [beq_eq_false_iff_ne]; omega
                      have hm4s : m4 < s.size := by omega
                      obtain ⟨d4, hd4, -⟩ := at_idx s m4 (by omega)
                      obtain ⟨v, hv⟩ : ∃ v, (s.data.toList.drop (m3 + 1)).takeWhile (neB q) = v := ⟨_, rfl⟩
                      have HPL : Hid (partL c (s.data.toList.drop (j + 1)) = some ((nm, v), s.data.toList.drop (m4 + 1))) := Lib.hid (by
                        have h := HVQ.out
                        rw [drop_at hd4] at h
                        rw [HPV.out, h, ← hv]
                        rfl)
                      have HCUT2 := Lib.hid (HT4.out.trans (congrArg bs hv))
                      generalize hE2 : s.extract (m3 + 1) m4 = E2 at HCUT2
                      have HE2 := Lib.hid hE2
                      have hlm4 : (s.data.toList.drop (m4 + 1)).length = s.size - (m4 + 1) := List.length_drop
                      have hw4' : IntKind.i64.wrap ((m4 : Int) + 1) = (m4 : Int) + 1 := IntWalk.i64_in _ (by omega)
                      have b4 : (0 : Int) ≤ (m3 : Int) + 1 := by omega
                      have b5 : (m3 : Int) + 1 ≤ (m4 : Int) := by omega
                      have b6 : (m4 : Int) ≤ (s.size : Int) := by omega
                      have b7 : ((m3 : Int) + 1).toNat = m3 + 1 := by omega
                      clear hd4 hv hE2 hz4
                      have hb10 := (X10.out).block BX6.out
                      have f10 := freeOf hb10 1
                      have hrow10 := HROW6.out.ext (X10.out)
                      have HROW9 := Lib.hid (hrow10.mv (Mv.setCell (S := (· = bx)) (p := ⟨bx, 1, none⟩) (Mv.refl (· = bx) w10) (fun _ => rfl) (.string (bs v))) (by intro g hg; show ¬ g = bx; omega))
                      have M9 := Lib.hid (Mv.setCell (p := ⟨bx, 1, none⟩) (M6.out.ext (X10.out)) (by intro h; exact absurd h (by show ¬ bx < w.heap.size; omega)) (.string (bs v)))
                      have hb9 := heap_setCell_same (i := 1) hb10 (.string (bs v))
                      have cx0 := cellOf hb9 (i := 0) (v := .string (bs nm)) rfl
                      have cx1 := cellOf hb9 (i := 1) (v := .string (bs v)) rfl
                      have cy0 := cellOf hb10 (i := 0) rfl
                      have cy1 := cellOf hb10 (i := 1) rfl
                      clear hrow10 hb10 hb9
                      go_upto_region 39 with fail
                      first | rw [HE2.out, HCUT2.out] | rw [HCUT2.out]
                      obtain ⟨w9, hw9⟩ : ∃ w9 : World, w9 = World.setCell w10 ⟨bx, 1, none⟩ (.string (bs v)) := ⟨_, rfl⟩
                      rw [← hw9] at M9 HROW9 cx0 cx1 ⊢
                      clear hw9 f10 cy0 cy1
                      have he9 : (s.data.toList.drop (m4 + 1)).length ≤ s.size - (j + 1) := by omega
                      have HRES9 : Hid ((partsS false (s.data.toList.drop (m4 + 1))).map (fun x => ((acc ++ [(nm, v)]) ++ x.1, x.2)) = o) := Lib.hid (by
                        rw [partsS_false, ← HRES.out, HPL.out]
                        dsimp only
                        cases partsL (s.data.toList.drop (m4 + 1)) with
                        | none => rfl
                        | some y => simp)
                      have hl2 := HAL.out
                      obtain ⟨i0, hi, hz0, hz1, hz2⟩ := info_parts infoAttr14
                      have hxa := (Ext.refl w9).alloc (.cells #[.string (bs nm), .string (bs v)] 70)
                      have hrA := HROW9.out.ext hxa
                      have hna := heap_alloc_new w9 (.cells #[.string (bs nm), .string (bs v)] 70)
                      obtain ⟨v', wB, row, hrunB, hrB, hgB, hrowB⟩ := run_append_row (P := Tryz.prog) (w9.alloc (.cells #[.string (bs nm), .string (bs v)] 70)) 66 66 70 i0 _ 2 32 Tryz.underlying66 hi hz0 hz1 hz2 (by kernel_rfl) (by decide)
                        hrA ⟨w9.heap.size, 0, none⟩ 1 1 [.string (bs nm), .string (bs v)] rfl (by
                          intro j u hj
                          rw [Addr.add_lit, Nat.zero_add]
                          exact cellOf hna (by simpa using hj)) (by intro u hu; simp at hu; rcases hu with rfl | rfl <;> rfl) (by decide) (by unfold maxLen; omega) (by omega)
                      have MB := Lib.hid ((M9.out.ext hxa).grown hgB (by
                        intro z hz hlt
                        have h1 := (hrowB z hz).1
                        omega))
                      obtain ⟨a7, cap7, e7, _⟩ := hrB.rd.len_of
                      subst e7
                      have HRB := Lib.hid hrunB
                      have HFIN := Lib.hid (RowP.imp hrB (q := fun g => w.heap.size ≤ g) (by
                        intro g _ hg
                        have h9 := M9.out.size
                        have h8 : (w9.alloc (.cells #[.string (bs nm), .string (bs v)] 70)).heap.size = w9.heap.size + 1 := by simp
                        rcases hg with ⟨h1, _⟩ | h1
                        · exact h1
                        · omega))
                      have HNS : Hid (attrCells (acc.map pb) ++ [.string (bs nm), .string (bs v)] = attrCells ((acc ++ [(nm, v)]).map pb)) := Lib.hid (by rw [List.map_append, List.map_cons, List.map_nil, attrCells_snoc]; rfl)
                      have HLE := Lib.hid he9
                      clear hrunB hrB hgB hrowB hi hz0 hz1 hz2 hxa hrA hna he9
                      go_wp2_with (at_builtin; refine wpList_append_run _ rfl _ _ 66 rfl _ _ rfl rfl _ _ HRB.out ?_)
                      obtain ⟨g', rfl⟩ : ∃ g', gk = g' + 1 := ⟨gk - 1, by have := HGF.out; omega⟩
                      go_roundg g'
                      case measure => omega
                      case rel => exact ⟨m4 + 1, acc ++ [(nm, v)], false, by omega, by first | rfl | (push_cast; rfl), rfl, by rw [← HNS.out, List.length_append]; exact HFIN.out, MB.out, by have := HGF.out; omega, by rw [List.length_append, List.length_cons, List.length_nil]; omega, HRES9.out⟩
                 · rw [h34] at q34
                   rw [h39] at q39
                   clear hq39
                   go_upto_region 27 with fail
                   go_upto_block 8 with fail
                   go_cut [10] (fun ev wx => ev = .int .i64 (m4 : Int) ∧ Ext w8 wx)
                   case first =>
                    as_aux_lemma =>
                     go_wp2_with fail
                     go_loopw [10] (fun ev wr => ∃ i : Nat, m3 + 1 ≤ i ∧ i ≤ m4 ∧ ev = .int .i64 i ∧ Ext w8 wr) (fun ev _ => m4 - (intOf ev).toNat)
                     case atStart => exact ⟨m3 + 1, Nat.le_refl _, SC4.out.le, by first | rfl | (push_cast; rfl), Ext.refl _⟩
                     case round =>
                       obtain ⟨i, hki, him, rfl, xr⟩ := hrel
                       have XR := Lib.hid xr
                       clear xr
                       have hmf := SC4.out.fit
                       have hs6 := HS6.out
                       by_cases hsz : i < s.size
                       · obtain ⟨d, hdl, -⟩ := at_idx s i hsz
                         have hix := idx_of s i d hdl
                         have ON := Lib.hid (fun h => SC4.out.on i d hki h hdl)
                         have OFF := Lib.hid (fun (h : i = m4) => SC4.out.off d (h ▸ hdl))
                         have e0 : decide ((i : Int) < (s.size : Int)) = true := decide_eq_true (by omega)
                         have e0n : decide (i < s.size) = true := decide_eq_true hsz
                         have hw1 : IntKind.i64.wrap ((i : Int) + 1) = (i : Int) + 1 := IntWalk.i64_in _ (by omega)
                         clear hdl
                         have fq := u8_ne d q
                         cases hb : (d != q) with
                         | true =>
                           rw [hb] at fq
                           have hlt : i < m4 := by
                             rcases Nat.lt_or_ge i m4 with h | h
                             · exact h
                             · have h := OFF.out (by omega); simp [neB, hb] at h
                           clear hb
                           go_wp2_with fail
                           go_roundw
                           case rel => exact ⟨i + 1, by omega, by omega, by go_num, XR.out⟩
                           case measure => simp [intOf]; omega
                         | false =>
                           rw [hb] at fq
                           have hlt : i = m4 := by
                             rcases Nat.lt_or_ge i m4 with h | h
                             · have h := ON.out h; simp [neB, hb] at h
                             · omega
                           subst hlt
                           clear hb
                           go_wp2_with fail
                           go_meet
                           exact ⟨rfl, XR.out⟩
                       · have e0 : decide ((i : Int) < (s.size : Int)) = false := decide_eq_false (by omega)
                         have e0n : decide (i < s.size) = false := decide_eq_false hsz
                         have hlt : i = m4 := by omega
                         subst hlt
                         clear hsz
                         go_wp2_with fail
                         go_meet
                         exact ⟨rfl, XR.out⟩
                   case rest =>
                    obtain ⟨rfl, xcut⟩ := hcut
                    have X10 := Lib.hid (X8.out.trans xcut)
                    obtain ⟨w10, hw10e⟩ : ∃ W, wc = W := ⟨_, rfl⟩
                    rw [hw10e] at X10 xcut ⊢
                    clear xcut hw10e
                    by_cases hz4 : m4 = s.size
                    · have e4 : ((m4 : Int) == (s.size : Int)) = true := by rw [hz4]; exact beq_self_eq_true _
                      have e4n : (m4 == s.size) = true := by rw [hz4]; exact beq_self_eq_true _
                      have hN : o = none := by
                        have h := HVQ.out
                        rw [hz4, show s.data.toList.drop s.size = [] from List.drop_eq_nil_of_le (Nat.le_refl _)] at h
                        rw [← HRES.out, HPV.out, h]
                        rfl
                      subst hN
                      clear hz4
                      go_wp2_with fail
                      go_ret3
                      exact ⟨rfl, M6.out.ext X10.out⟩
                    · have e4 : ((m4 : Int) == (s.size : Int)) = false := by rw [beq_eq_false_iff_ne]; omega
                      have e4n : (m4 == s.size) = false := by rw [beq_eq_false_iff_ne]; omega
                      have hm4s : m4 < s.size := by omega
                      obtain ⟨d4, hd4, -⟩ := at_idx s m4 (by omega)
                      obtain ⟨v, hv⟩ : ∃ v, (s.data.toList.drop (m3 + 1)).takeWhile (neB q) = v := ⟨_, rfl⟩
                      have HPL : Hid (partL c (s.data.toList.drop (j + 1)) = some ((nm, v), s.data.toList.drop (m4 + 1))) := Lib.hid (by
                        have h := HVQ.out
                        rw [drop_at hd4] at h
                        rw [HPV.out, h, ← hv]
                        rfl)
                      have HCUT2 := Lib.hid (HT4.out.trans (congrArg bs hv))
                      generalize hE2 : s.extract (m3 + 1) m4 = E2 at HCUT2
                      have HE2 := Lib.hid hE2
                      have hlm4 : (s.data.toList.drop (m4 + 1)).length = s.size - (m4 + 1) := List.length_drop
                      have hw4' : IntKind.i64.wrap ((m4 : Int) + 1) = (m4 : Int) + 1 := IntWalk.i64_in _ (by omega)
                      have b4 : (0 : Int) ≤ (m3 : Int) + 1 := by omega
                      have b5 : (m3 : Int) + 1 ≤ (m4 : Int) := by omega
                      have b6 : (m4 : Int) ≤ (s.size : Int) := by omega
                      have b7 : ((m3 : Int) + 1).toNat = m3 + 1 := by omega
                      clear hd4 hv hE2 hz4
                      have hb10 := (X10.out).block BX6.out
                      have f10 := freeOf hb10 1
                      have hrow10 := HROW6.out.ext (X10.out)
                      have HROW9 := Lib.hid (hrow10.mv (Mv.setCell (S := (· = bx)) (p := ⟨bx, 1, none⟩) (Mv.refl (· = bx) w10) (fun _ => rfl) (.string (bs v))) (by intro g hg; show ¬ g = bx; omega))
                      have M9 := Lib.hid (Mv.setCell (p := ⟨bx, 1, none⟩) (M6.out.ext (X10.out)) (by intro h; exact absurd h (by show ¬ bx < w.heap.size; omega)) (.string (bs v)))
                      have hb9 := heap_setCell_same (i := 1) hb10 (.string (bs v))
                      have cx0 := cellOf hb9 (i := 0) (v := .string (bs nm)) rfl
                      have cx1 := cellOf hb9 (i := 1) (v := .string (bs v)) rfl
                      have cy0 := cellOf hb10 (i := 0) rfl
                      have cy1 := cellOf hb10 (i := 1) rfl
                      clear hrow10 hb10 hb9
                      go_upto_region 39 with fail
                      first | rw [HE2.out, HCUT2.out] | rw [HCUT2.out]
                      obtain ⟨w9, hw9⟩ : ∃ w9 : World, w9 = World.setCell w10 ⟨bx, 1, none⟩ (.string (bs v)) := ⟨_, rfl⟩
                      rw [← hw9] at M9 HROW9 cx0 cx1 ⊢
                      clear hw9 f10 cy0 cy1
                      have he9 : (s.data.toList.drop (m4 + 1)).length ≤ s.size - (j + 1) := by omega
                      have HRES9 : Hid ((partsS false (s.data.toList.drop (m4 + 1))).map (fun x => ((acc ++ [(nm, v)]) ++ x.1, x.2)) = o) := Lib.hid (by
                        rw [partsS_false, ← HRES.out, HPL.out]
                        dsimp only
                        cases partsL (s.data.toList.drop (m4 + 1)) with
                        | none => rfl
                        | some y => simp)
                      have hl2 := HAL.out
                      obtain ⟨i0, hi, hz0, hz1, hz2⟩ := info_parts infoAttr14
                      have hxa := (Ext.refl w9).alloc (.cells #[.string (bs nm), .string (bs v)] 70)
                      have hrA := HROW9.out.ext hxa
                      have hna := heap_alloc_new w9 (.cells #[.string (bs nm), .string (bs v)] 70)
                      obtain ⟨v', wB, row, hrunB, hrB, hgB, hrowB⟩ := run_append_row (P := Tryz.prog) (w9.alloc (.cells #[.string (bs nm), .string (bs v)] 70)) 66 66 70 i0 _ 2 32 Tryz.underlying66 hi hz0 hz1 hz2 (by kernel_rfl) (by decide)
                        hrA ⟨w9.heap.size, 0, none⟩ 1 1 [.string (bs nm), .string (bs v)] rfl (by
                          intro j u hj
                          rw [Addr.add_lit, Nat.zero_add]
                          exact cellOf hna (by simpa using hj)) (by intro u hu; simp at hu; rcases hu with rfl | rfl <;> rfl) (by decide) (by unfold maxLen; omega) (by omega)
                      have MB := Lib.hid ((M9.out.ext hxa).grown hgB (by
                        intro z hz hlt
                        have h1 := (hrowB z hz).1
                        omega))
                      obtain ⟨a7, cap7, e7, _⟩ := hrB.rd.len_of
                      subst e7
                      have HRB := Lib.hid hrunB
                      have HFIN := Lib.hid (RowP.imp hrB (q := fun g => w.heap.size ≤ g) (by
                        intro g _ hg
                        have h9 := M9.out.size
                        have h8 : (w9.alloc (.cells #[.string (bs nm), .string (bs v)] 70)).heap.size = w9.heap.size + 1 := by simp
                        rcases hg with ⟨h1, _⟩ | h1
                        · exact h1
                        · omega))
                      have HNS : Hid (attrCells (acc.map pb) ++ [.string (bs nm), .string (bs v)] = attrCells ((acc ++ [(nm, v)]).map pb)) := Lib.hid (by rw [List.map_append, List.map_cons, List.map_nil, attrCells_snoc]; rfl)
                      have HLE := Lib.hid he9
                      clear hrunB hrB hgB hrowB hi hz0 hz1 hz2 hxa hrA hna he9
                      go_wp2_with (at_builtin; refine wpList_append_run _ rfl _ _ 66 rfl _ _ rfl rfl _ _ HRB.out ?_)
                      obtain ⟨g', rfl⟩ : ∃ g', gk = g' + 1 := ⟨gk - 1, by have := HGF.out; omega⟩
                      go_roundg g'
                      case measure => omega
                      case rel => exact ⟨m4 + 1, acc ++ [(nm, v)], false, by omega, by first | rfl | (push_cast; rfl), rfl, by rw [← HNS.out, List.length_append]; exact HFIN.out, MB.out, by have := HGF.out; omega, by rw [List.length_append, List.length_cons, List.length_nil]; omega, HRES9.out⟩
               · obtain ⟨m5, SC5, D5, T5⟩ := scan_of valB s m3 hm3f
                 have hm5 := SC5.le
                 have hm5f := SC5.fit
                 have SC5 := Lib.hid SC5
                 obtain ⟨v, hv⟩ : ∃ v, (s.data.toList.drop m3).takeWhile valB = v := ⟨_, rfl⟩
                 have HPL : Hid (partL c (s.data.toList.drop (j + 1)) = some ((nm, v), s.data.toList.drop m5)) := Lib.hid (by
                   have h := valueL_bare (r := s.data.toList.drop (m2 + 1)) (by rw [HD3.out]; exact headP_at 34 (fun x hx e => hq ⟨x, hx, .inl e⟩)) (by rw [HD3.out]; exact headP_at 39 (fun x hx e => hq ⟨x, hx, .inr e⟩))
                   rw [HPV.out, h, HD3.out, D5, hv]
                   rfl)
                 have HCUT2 := Lib.hid (T5.trans (congrArg bs hv))
                 generalize hE2 : s.extract m3 m5 = E2 at HCUT2
                 have HE2 := Lib.hid hE2
                 have hlm5 : (s.data.toList.drop m5).length = s.size - m5 := List.length_drop
                 have b4 : (0 : Int) ≤ (m3 : Int) := by omega
                 have b5 : (m3 : Int) ≤ (m5 : Int) := by omega
                 have b6 : (m5 : Int) ≤ (s.size : Int) := by omega
                 have QF : Hid (∀ x, s.data.toList[m3]? = some x → (x == 34) = false ∧ (x == 39) = false) := Lib.hid (fun x hx => ⟨beq_eq_false_iff_ne.2 (fun e => hq ⟨x, hx, .inl e⟩), beq_eq_false_iff_ne.2 (fun e => hq ⟨x, hx, .inr e⟩)⟩)
                 clear D5 T5 hv hE2 hq
                 by_cases hz3 : m3 < s.size
                 · obtain ⟨d3, hd3, -⟩ := at_idx s m3 hz3
                   have hix3 := idx_of s m3 d3 hd3
                   have f34 : ((d3.toNat : Int) == 34) = false := (u8_eq d3 34).trans (QF.out d3 hd3).1
                   have f39 : ((d3.toNat : Int) == 39) = false := (u8_eq d3 39).trans (QF.out d3 hd3).2
                   have e3 : decide ((m3 : Int) < (s.size : Int)) = true := decide_eq_true (by omega)
                   have e3n : decide (m3 < s.size) = true := decide_eq_true hz3
                   clear hd3 hz3
                   go_upto_block 10 with fail
                   go_cut [10] (fun ev wx => ev = .int .i64 (m5 : Int) ∧ Ext w8 wx)
                   case first =>
                    as_aux_lemma =>
                     go_wp2_with fail
                     go_loopw [10] (fun ev wr => ∃ i : Nat, m3 ≤ i ∧ i ≤ m5 ∧ ev = .int .i64 i ∧ Ext w8 wr) (fun ev _ => m5 - (intOf ev).toNat)
                     case atStart => exact ⟨m3, Nat.le_refl _, SC5.out.le, by first | rfl | (push_cast; rfl), Ext.refl _⟩
                     case round =>
                       obtain ⟨i, hki, him, rfl, xr⟩ := hrel
                       have XR := Lib.hid xr
                       clear xr
                       have hmf := SC5.out.fit
                       have hs6 := HS6.out
                       by_cases hsz : i < s.size
                       · obtain ⟨d, hdl, -⟩ := at_idx s i hsz
                         have hix := idx_of s i d hdl
                         have ON := Lib.hid (fun h => SC5.out.on i d hki h hdl)
                         have OFF := Lib.hid (fun (h : i = m5) => SC5.out.off d (h ▸ hdl))
                         have e0 : decide ((i : Int) < (s.size : Int)) = true := decide_eq_true (by omega)
                         have e0n : decide (i < s.size) = true := decide_eq_true hsz
                         have hw1 : IntKind.i64.wrap ((i : Int) + 1) = (i : Int) + 1 := IntWalk.i64_in _ (by omega)
                         clear hdl
                         have HBL := Lib.hid (fun W => rBlank_any d W)
                         cases hb : blankB d with
                         | true =>
                           rw [hb] at HBL
                           have hlt : i = m5 := by
                             rcases Nat.lt_or_ge i m5 with h | h
                             · have h := ON.out h; simp [nmB, valB, hb] at h
                             · omega
                           subst hlt
                           clear hb
                           go_wp2_with (go_at_call 60; refine (HBL.out _).mono ?_)
                           rintro e w1 ⟨rfl, x1⟩
                           go_wp2_with fail
                           go_meet
                           exact ⟨rfl, XR.out.trans x1⟩
                         | false =>
                           rw [hb] at HBL
                           by_cases h62 : d = 62
                           · have f62 : ((d.toNat : Int) == 62) = true := (u8_eq d 62).trans (by simp [h62])
                             have g62 : ((d.toNat : Int) != 62) = false := (u8_ne d 62).trans (by simp [h62])
                             have hlt : i = m5 := by
                               rcases Nat.lt_or_ge i m5 with h | h
                               · have h := ON.out h; simp [nmB, valB, h62, hb] at h
                               · omega
                             subst hlt
                             clear h62 hb
                             go_wp2_with (go_at_call 60; refine (HBL.out _).mono ?_)
                             rintro e w1 ⟨rfl, x1⟩
                             go_wp2_with fail
                             go_meet
                             exact ⟨rfl, XR.out.trans x1⟩
                           · have f62 : ((d.toNat : Int) == 62) = false := (u8_eq d 62).trans (by simp [h62])
                             have g62 : ((d.toNat : Int) != 62) = true := (u8_ne d 62).trans (by simp [h62])
                             have hlt : i < m5 := by
                               rcases Nat.lt_or_ge i m5 with h | h
                               · exact h
                               · have h := OFF.out (by omega); simp [nmB, valB, hb, h62] at h
                             clear hb h62
                             go_wp2_with (go_at_call 60; refine (HBL.out _).mono ?_)
                             rintro e w1 ⟨rfl, x1⟩
                             go_wp2_with fail
                             go_roundw
                             case rel => exact ⟨i + 1, by omega, by omega, by go_num, XR.out.trans x1⟩
                             case measure => simp [intOf]; omega
                       · have e0 : decide ((i : Int) < (s.size : Int)) = false := decide_eq_false (by omega)
                         have e0n : decide (i < s.size) = false := decide_eq_false hsz
                         have hlt : i = m5 := by omega
                         subst hlt
                         clear hsz
                         go_wp2_with fail
                         go_meet
                         exact ⟨rfl, XR.out⟩
                   case rest =>
                    obtain ⟨rfl, xcut⟩ := hcut
                    have X10 := Lib.hid (X8.out.trans xcut)
                    obtain ⟨w10, hw10e⟩ : ∃ W, wc = W := ⟨_, rfl⟩
                    rw [hw10e] at X10 xcut ⊢
                    clear xcut hw10e
                    have hb10 := (X10.out).block BX6.out
                    have f10 := freeOf hb10 1
                    have hrow10 := HROW6.out.ext (X10.out)
                    have HROW9 := Lib.hid (hrow10.mv (Mv.setCell (S := (· = bx)) (p := ⟨bx, 1, none⟩) (Mv.refl (· = bx) w10) (fun _ => rfl) (.string (bs v))) (by intro g hg; show ¬ g = bx; omega))
                    have M9 := Lib.hid (Mv.setCell (p := ⟨bx, 1, none⟩) (M6.out.ext (X10.out)) (by intro h; exact absurd h (by show ¬ bx < w.heap.size; omega)) (.string (bs v)))
                    have hb9 := heap_setCell_same (i := 1) hb10 (.string (bs v))
                    have cx0 := cellOf hb9 (i := 0) (v := .string (bs nm)) rfl
                    have cx1 := cellOf hb9 (i := 1) (v := .string (bs v)) rfl
                    have cy0 := cellOf hb10 (i := 0) rfl
                    have cy1 := cellOf hb10 (i := 1) rfl
                    clear hrow10 hb10 hb9
                    go_upto_region 39 with fail
                    first | rw [HE2.out, HCUT2.out] | rw [HCUT2.out]
                    obtain ⟨w9, hw9⟩ : ∃ w9 : World, w9 = World.setCell w10 ⟨bx, 1, none⟩ (.string (bs v)) := ⟨_, rfl⟩
                    rw [← hw9] at M9 HROW9 cx0 cx1 ⊢
                    clear hw9 f10 cy0 cy1
                    have he9 : (s.data.toList.drop m5).length ≤ s.size - (j + 1) := by omega
                    have HRES9 : Hid ((partsS false (s.data.toList.drop m5)).map (fun x => ((acc ++ [(nm, v)]) ++ x.1, x.2)) = o) := Lib.hid (by
                      rw [partsS_false, ← HRES.out, HPL.out]
                      dsimp only
                      cases partsL (s.data.toList.drop m5) with
                      | none => rfl
                      | some y => simp)
                    have hl2 := HAL.out
                    obtain ⟨i0, hi, hz0, hz1, hz2⟩ := info_parts infoAttr14
                    have hxa := (Ext.refl w9).alloc (.cells #[.string (bs nm), .string (bs v)] 70)
                    have hrA := HROW9.out.ext hxa
                    have hna := heap_alloc_new w9 (.cells #[.string (bs nm), .string (bs v)] 70)
                    obtain ⟨v', wB, row, hrunB, hrB, hgB, hrowB⟩ := run_append_row (P := Tryz.prog) (w9.alloc (.cells #[.string (bs nm), .string (bs v)] 70)) 66 66 70 i0 _ 2 32 Tryz.underlying66 hi hz0 hz1 hz2 (by kernel_rfl) (by decide)
                      hrA ⟨w9.heap.size, 0, none⟩ 1 1 [.string (bs nm), .string (bs v)] rfl (by
                        intro j u hj
                        rw [Addr.add_lit, Nat.zero_add]
                        exact cellOf hna (by simpa using hj)) (by intro u hu; simp at hu; rcases hu with rfl | rfl <;> rfl) (by decide) (by unfold maxLen; omega) (by omega)
                    have MB := Lib.hid ((M9.out.ext hxa).grown hgB (by
                      intro z hz hlt
                      have h1 := (hrowB z hz).1
                      omega))
                    obtain ⟨a7, cap7, e7, _⟩ := hrB.rd.len_of
                    subst e7
                    have HRB := Lib.hid hrunB
                    have HFIN := Lib.hid (RowP.imp hrB (q := fun g => w.heap.size ≤ g) (by
                      intro g _ hg
                      have h9 := M9.out.size
                      have h8 : (w9.alloc (.cells #[.string (bs nm), .string (bs v)] 70)).heap.size = w9.heap.size + 1 := by simp
                      rcases hg with ⟨h1, _⟩ | h1
                      · exact h1
                      · omega))
                    have HNS : Hid (attrCells (acc.map pb) ++ [.string (bs nm), .string (bs v)] = attrCells ((acc ++ [(nm, v)]).map pb)) := Lib.hid (by rw [List.map_append, List.map_cons, List.map_nil, attrCells_snoc]; rfl)
                    have HLE := Lib.hid he9
                    clear hrunB hrB hgB hrowB hi hz0 hz1 hz2 hxa hrA hna he9
                    go_wp2_with (at_builtin; refine wpList_append_run _ rfl _ _ 66 rfl _ _ rfl rfl _ _ HRB.out ?_)
                    obtain ⟨g', rfl⟩ : ∃ g', gk = g' + 1 := ⟨gk - 1, by have := HGF.out; omega⟩
                    go_roundg g'
                    case measure => omega
                    case rel => exact ⟨m5, acc ++ [(nm, v)], false, by omega, by first | rfl | (push_cast; rfl), rfl, by rw [← HNS.out, List.length_append]; exact HFIN.out, MB.out, by have := HGF.out; omega, by rw [List.length_append, List.length_cons, List.length_nil]; omega, HRES9.out⟩
                 · have e3 : decide ((m3 : Int) < (s.size : Int)) = false := decide_eq_false (by omega)
                   have e3n : decide (m3 < s.size) = false := decide_eq_false hz3
                   clear hz3
                   go_upto_block 10 with fail
                   go_cut [10] (fun ev wx => ev = .int .i64 (m5 : Int) ∧ Ext w8 wx)
                   case first =>
                    as_aux_lemma =>
                     go_wp2_with fail
                     go_loopw [10] (fun ev wr => ∃ i : Nat, m3 ≤ i ∧ i ≤ m5 ∧ ev = .int .i64 i ∧ Ext w8 wr) (fun ev _ => m5 - (intOf ev).toNat)
                     case atStart => exact ⟨m3, Nat.le_refl _, SC5.out.le, by first | rfl | (push_cast; rfl), Ext.refl _⟩
                     case round =>
                       obtain ⟨i, hki, him, rfl, xr⟩ := hrel
                       have XR := Lib.hid xr
                       clear xr
                       have hmf := SC5.out.fit
                       have hs6 := HS6.out
                       by_cases hsz : i < s.size
                       · obtain ⟨d, hdl, -⟩ := at_idx s i hsz
                         have hix := idx_of s i d hdl
                         have ON := Lib.hid (fun h => SC5.out.on i d hki h hdl)
                         have OFF := Lib.hid (fun (h : i = m5) => SC5.out.off d (h ▸ hdl))
                         have e0 : decide ((i : Int) < (s.size : Int)) = true := decide_eq_true (by omega)
                         have e0n : decide (i < s.size) = true := decide_eq_true hsz
                         have hw1 : IntKind.i64.wrap ((i : Int) + 1) = (i : Int) + 1 := IntWalk.i64_in _ (by omega)
                         clear hdl
                         have HBL := Lib.hid (fun W => rBlank_any d W)
                         cases hb : blankB d with
                         | true =>
                           rw [hb] at HBL
                           have hlt : i = m5 := by
                             rcases Nat.lt_or_ge i m5 with h | h
                             · have h := ON.out h; simp [nmB, valB, hb] at h
                             · omega
                           subst hlt
                           clear hb
                           go_wp2_with (go_at_call 60; refine (HBL.out _).mono ?_)
                           rintro e w1 ⟨rfl, x1⟩
                           go_wp2_with fail
                           go_meet
                           exact ⟨rfl, XR.out.trans x1⟩
                         | false =>
                           rw [hb] at HBL
                           by_cases h62 : d = 62
                           · have f62 : ((d.toNat : Int) == 62) = true := (u8_eq d 62).trans (by simp [h62])
                             have g62 : ((d.toNat : Int) != 62) = false := (u8_ne d 62).trans (by simp [h62])
                             have hlt : i = m5 := by
                               rcases Nat.lt_or_ge i m5 with h | h
                               · have h := ON.out h; simp [nmB, valB, h62, hb] at h
                               · omega
                             subst hlt
                             clear h62 hb
                             go_wp2_with (go_at_call 60; refine (HBL.out _).mono ?_)
                             rintro e w1 ⟨rfl, x1⟩
                             go_wp2_with fail
                             go_meet
                             exact ⟨rfl, XR.out.trans x1⟩
                           · have f62 : ((d.toNat : Int) == 62) = false := (u8_eq d 62).trans (by simp [h62])
                             have g62 : ((d.toNat : Int) != 62) = true := (u8_ne d 62).trans (by simp [h62])
                             have hlt : i < m5 := by
                               rcases Nat.lt_or_ge i m5 with h | h
                               · exact h
                               · have h := OFF.out (by omega); simp [nmB, valB, hb, h62] at h
                             clear hb h62
                             go_wp2_with (go_at_call 60; refine (HBL.out _).mono ?_)
                             rintro e w1 ⟨rfl, x1⟩
                             go_wp2_with fail
                             go_roundw
                             case rel => exact ⟨i + 1, by omega, by omega, by go_num, XR.out.trans x1⟩
                             case measure => simp [intOf]; omega
                       · have e0 : decide ((i : Int) < (s.size : Int)) = false := decide_eq_false (by omega)
                         have e0n : decide (i < s.size) = false := decide_eq_false hsz
                         have hlt : i = m5 := by omega
                         subst hlt
                         clear hsz
                         go_wp2_with fail
                         go_meet
                         exact ⟨rfl, XR.out⟩
                   case rest =>
                    obtain ⟨rfl, xcut⟩ := hcut
                    have X10 := Lib.hid (X8.out.trans xcut)
                    obtain ⟨w10, hw10e⟩ : ∃ W, wc = W := ⟨_, rfl⟩
                    rw [hw10e] at X10 xcut ⊢
                    clear xcut hw10e
                    have hb10 := (X10.out).block BX6.out
                    have f10 := freeOf hb10 1
                    have hrow10 := HROW6.out.ext (X10.out)
                    have HROW9 := Lib.hid (hrow10.mv (Mv.setCell (S := (· = bx)) (p := ⟨bx, 1, none⟩) (Mv.refl (· = bx) w10) (fun _ => rfl) (.string (bs v))) (by intro g hg; show ¬ g = bx; omega))
                    have M9 := Lib.hid (Mv.setCell (p := ⟨bx, 1, none⟩) (M6.out.ext (X10.out)) (by intro h; exact absurd h (by show ¬ bx < w.heap.size; omega)) (.string (bs v)))
                    have hb9 := heap_setCell_same (i := 1) hb10 (.string (bs v))
                    have cx0 := cellOf hb9 (i := 0) (v := .string (bs nm)) rfl
                    have cx1 := cellOf hb9 (i := 1) (v := .string (bs v)) rfl
                    have cy0 := cellOf hb10 (i := 0) rfl
                    have cy1 := cellOf hb10 (i := 1) rfl
                    clear hrow10 hb10 hb9
                    go_upto_region 39 with fail
                    first | rw [HE2.out, HCUT2.out] | rw [HCUT2.out]
                    obtain ⟨w9, hw9⟩ : ∃ w9 : World, w9 = World.setCell w10 ⟨bx, 1, none⟩ (.string (bs v)) := ⟨_, rfl⟩
                    rw [← hw9] at M9 HROW9 cx0 cx1 ⊢
                    clear hw9 f10 cy0 cy1
                    have he9 : (s.data.toList.drop m5).length ≤ s.size - (j + 1) := by omega
                    have HRES9 : Hid ((partsS false (s.data.toList.drop m5)).map (fun x => ((acc ++ [(nm, v)]) ++ x.1, x.2)) = o) := Lib.hid (by
                      rw [partsS_false, ← HRES.out, HPL.out]
                      dsimp only
                      cases partsL (s.data.toList.drop m5) with
                      | none => rfl
                      | some y => simp)
                    have hl2 := HAL.out
                    obtain ⟨i0, hi, hz0, hz1, hz2⟩ := info_parts infoAttr14
                    have hxa := (Ext.refl w9).alloc (.cells #[.string (bs nm), .string (bs v)] 70)
                    have hrA := HROW9.out.ext hxa
                    have hna := heap_alloc_new w9 (.cells #[.string (bs nm), .string (bs v)] 70)
                    obtain ⟨v', wB, row, hrunB, hrB, hgB, hrowB⟩ := run_append_row (P := Tryz.prog) (w9.alloc (.cells #[.string (bs nm), .string (bs v)] 70)) 66 66 70 i0 _ 2 32 Tryz.underlying66 hi hz0 hz1 hz2 (by kernel_rfl) (by decide)
                      hrA ⟨w9.heap.size, 0, none⟩ 1 1 [.string (bs nm), .string (bs v)] rfl (by
                        intro j u hj
                        rw [Addr.add_lit, Nat.zero_add]
                        exact cellOf hna (by simpa using hj)) (by intro u hu; simp at hu; rcases hu with rfl | rfl <;> rfl) (by decide) (by unfold maxLen; omega) (by omega)
                    have MB := Lib.hid ((M9.out.ext hxa).grown hgB (by
                      intro z hz hlt
                      have h1 := (hrowB z hz).1
                      omega))
                    obtain ⟨a7, cap7, e7, _⟩ := hrB.rd.len_of
                    subst e7
                    have HRB := Lib.hid hrunB
                    have HFIN := Lib.hid (RowP.imp hrB (q := fun g => w.heap.size ≤ g) (by
                      intro g _ hg
                      have h9 := M9.out.size
                      have h8 : (w9.alloc (.cells #[.string (bs nm), .string (bs v)] 70)).heap.size = w9.heap.size + 1 := by simp
                      rcases hg with ⟨h1, _⟩ | h1
                      · exact h1
                      · omega))
                    have HNS : Hid (attrCells (acc.map pb) ++ [.string (bs nm), .string (bs v)] = attrCells ((acc ++ [(nm, v)]).map pb)) := Lib.hid (by rw [List.map_append, List.map_cons, List.map_nil, attrCells_snoc]; rfl)
                    have HLE := Lib.hid he9
                    clear hrunB hrB hgB hrowB hi hz0 hz1 hz2 hxa hrA hna he9
                    go_wp2_with (at_builtin; refine wpList_append_run _ rfl _ _ 66 rfl _ _ rfl rfl _ _ HRB.out ?_)
                    obtain ⟨g', rfl⟩ : ∃ g', gk = g' + 1 := ⟨gk - 1, by have := HGF.out; omega⟩
                    go_roundg g'
                    case measure => omega
                    case rel => exact ⟨m5, acc ++ [(nm, v)], false, by omega, by first | rfl | (push_cast; rfl), rfl, by rw [← HNS.out, List.length_append]; exact HFIN.out, MB.out, by have := HGF.out; omega, by rw [List.length_append, List.length_cons, List.length_nil]; omega, HRES9.out⟩
            · have HPL : Hid (partL c (s.data.toList.drop (j + 1)) = some ((nm, []), s.data.toList.drop m1)) := Lib.hid (by
                have h := part_bare (c := c) (r2 := s.data.toList.drop (j + 1)) (by rw [HD2.out]; exact headP_at 61 (fun x hx e => h61 (e ▸ hx)))
                rw [h, HNM.out, HD1.out])
              have HROW9 := Lib.hid (HROW6.out.ext X7.out)
              have M9 := Lib.hid (M6.out.ext X7.out)
              have hb9 := X7.out.block BX6.out
              have cx0 := cellOf hb9 (i := 0) (v := .string (bs nm)) rfl
              have cx1 := cellOf hb9 (i := 1) (v := .string (bs [])) rfl
              clear hb9
              by_cases hz2 : m2 < s.size
              · obtain ⟨d, hdl, -⟩ := at_idx s m2 hz2
                have hix := idx_of s m2 d hdl
                have f61 : ((d.toNat : Int) == 61) = false := (u8_eq d 61).trans (by rw [beq_eq_false_iff_ne]; rintro rfl; exact h61 hdl)
                have e0 : decide ((m2 : Int) < (s.size : Int)) = true := decide_eq_true (by omega)
                have e0n : decide (m2 < s.size) = true := decide_eq_true hz2
                clear hz2 hdl h61
                go_upto_region 39 with fail
                obtain ⟨w9, hw9⟩ : ∃ w9 : World, w9 = w7 := ⟨_, rfl⟩
                rw [← hw9] at M9 HROW9 cx0 cx1 ⊢
                clear hw9
                have he9 : (s.data.toList.drop m1).length ≤ s.size - (j + 1) := by omega
                have HRES9 : Hid ((partsS false (s.data.toList.drop m1)).map (fun x => ((acc ++ [(nm, [])]) ++ x.1, x.2)) = o) := Lib.hid (by
                  rw [partsS_false, ← HRES.out, HPL.out]
                  dsimp only
                  cases partsL (s.data.toList.drop m1) with
                  | none => rfl
                  | some y => simp)
                have hl2 := HAL.out
                obtain ⟨i0, hi, hz0, hz1, hz2⟩ := info_parts infoAttr14
                have hxa := (Ext.refl w9).alloc (.cells #[.string (bs nm), .string (bs [])] 70)
                have hrA := HROW9.out.ext hxa
                have hna := heap_alloc_new w9 (.cells #[.string (bs nm), .string (bs [])] 70)
                obtain ⟨v', wB, row, hrunB, hrB, hgB, hrowB⟩ := run_append_row (P := Tryz.prog) (w9.alloc (.cells #[.string (bs nm), .string (bs [])] 70)) 66 66 70 i0 _ 2 32 Tryz.underlying66 hi hz0 hz1 hz2 (by kernel_rfl) (by decide)
                  hrA ⟨w9.heap.size, 0, none⟩ 1 1 [.string (bs nm), .string (bs [])] rfl (by
                    intro j u hj
                    rw [Addr.add_lit, Nat.zero_add]
                    exact cellOf hna (by simpa using hj)) (by intro u hu; simp at hu; rcases hu with rfl | rfl <;> rfl) (by decide) (by unfold maxLen; omega) (by omega)
                have MB := Lib.hid ((M9.out.ext hxa).grown hgB (by
                  intro z hz hlt
                  have h1 := (hrowB z hz).1
                  omega))
                obtain ⟨a7, cap7, e7, _⟩ := hrB.rd.len_of
                subst e7
                have HRB := Lib.hid hrunB
                have HFIN := Lib.hid (RowP.imp hrB (q := fun g => w.heap.size ≤ g) (by
                  intro g _ hg
                  have h9 := M9.out.size
                  have h8 : (w9.alloc (.cells #[.string (bs nm), .string (bs [])] 70)).heap.size = w9.heap.size + 1 := by simp
                  rcases hg with ⟨h1, _⟩ | h1
                  · exact h1
                  · omega))
                have HNS : Hid (attrCells (acc.map pb) ++ [.string (bs nm), .string (bs [])] = attrCells ((acc ++ [(nm, [])]).map pb)) := Lib.hid (by rw [List.map_append, List.map_cons, List.map_nil, attrCells_snoc]; rfl)
                have HLE := Lib.hid he9
                clear hrunB hrB hgB hrowB hi hz0 hz1 hz2 hxa hrA hna he9
                go_wp2_with (at_builtin; refine wpList_append_run _ rfl _ _ 66 rfl _ _ rfl rfl _ _ HRB.out ?_)
                obtain ⟨g', rfl⟩ : ∃ g', gk = g' + 1 := ⟨gk - 1, by have := HGF.out; omega⟩
                go_roundg g'
                case measure => omega
                case rel => exact ⟨m1, acc ++ [(nm, [])], false, by omega, by first | rfl | (push_cast; rfl), rfl, by rw [← HNS.out, List.length_append]; exact HFIN.out, MB.out, by have := HGF.out; omega, by rw [List.length_append, List.length_cons, List.length_nil]; omega, HRES9.out⟩
              · have e0 : decide ((m2 : Int) < (s.size : Int)) = false := decide_eq_false (by omega)
                have e0n : decide (m2 < s.size) = false := decide_eq_false hz2
                clear hz2 h61
                go_upto_region 39 with fail
                obtain ⟨w9, hw9⟩ : ∃ w9 : World, w9 = w7 := ⟨_, rfl⟩
                rw [← hw9] at M9 HROW9 cx0 cx1 ⊢
                clear hw9
                have he9 : (s.data.toList.drop m1).length ≤ s.size - (j + 1) := by omega
                have HRES9 : Hid ((partsS false (s.data.toList.drop m1)).map (fun x => ((acc ++ [(nm, [])]) ++ x.1, x.2)) = o) := Lib.hid (by
                  rw [partsS_false, ← HRES.out, HPL.out]
                  dsimp only
                  cases partsL (s.data.toList.drop m1) with
                  | none => rfl
                  | some y => simp)
                have hl2 := HAL.out
                obtain ⟨i0, hi, hz0, hz1, hz2⟩ := info_parts infoAttr14
                have hxa := (Ext.refl w9).alloc (.cells #[.string (bs nm), .string (bs [])] 70)
                have hrA := HROW9.out.ext hxa
                have hna := heap_alloc_new w9 (.cells #[.string (bs nm), .string (bs [])] 70)
                obtain ⟨v', wB, row, hrunB, hrB, hgB, hrowB⟩ := run_append_row (P := Tryz.prog) (w9.alloc (.cells #[.string (bs nm), .string (bs [])] 70)) 66 66 70 i0 _ 2 32 Tryz.underlying66 hi hz0 hz1 hz2 (by kernel_rfl) (by decide)
                  hrA ⟨w9.heap.size, 0, none⟩ 1 1 [.string (bs nm), .string (bs [])] rfl (by
                    intro j u hj
                    rw [Addr.add_lit, Nat.zero_add]
                    exact cellOf hna (by simpa using hj)) (by intro u hu; simp at hu; rcases hu with rfl | rfl <;> rfl) (by decide) (by unfold maxLen; omega) (by omega)
                have MB := Lib.hid ((M9.out.ext hxa).grown hgB (by
                  intro z hz hlt
                  have h1 := (hrowB z hz).1
                  omega))
                obtain ⟨a7, cap7, e7, _⟩ := hrB.rd.len_of
                subst e7
                have HRB := Lib.hid hrunB
                have HFIN := Lib.hid (RowP.imp hrB (q := fun g => w.heap.size ≤ g) (by
                  intro g _ hg
                  have h9 := M9.out.size
                  have h8 : (w9.alloc (.cells #[.string (bs nm), .string (bs [])] 70)).heap.size = w9.heap.size + 1 := by simp
                  rcases hg with ⟨h1, _⟩ | h1
                  · exact h1
                  · omega))
                have HNS : Hid (attrCells (acc.map pb) ++ [.string (bs nm), .string (bs [])] = attrCells ((acc ++ [(nm, [])]).map pb)) := Lib.hid (by rw [List.map_append, List.map_cons, List.map_nil, attrCells_snoc]; rfl)
                have HLE := Lib.hid he9
                clear hrunB hrB hgB hrowB hi hz0 hz1 hz2 hxa hrA hna he9
                go_wp2_with (at_builtin; refine wpList_append_run _ rfl _ _ 66 rfl _ _ rfl rfl _ _ HRB.out ?_)
                obtain ⟨g', rfl⟩ : ∃ g', gk = g' + 1 := ⟨gk - 1, by have := HGF.out; omega⟩
                go_roundg g'
                case measure => omega
                case rel => exact ⟨m1, acc ++ [(nm, [])], false, by omega, by first | rfl | (push_cast; rfl), rfl, by rw [← HNS.out, List.length_append]; exact HFIN.out, MB.out, by have := HGF.out; omega, by rw [List.length_append, List.length_cons, List.length_nil]; omega, HRES9.out⟩
    · have e0 : decide ((j : Int) < (s.size : Int)) = false := decide_eq_false (by omega)
      have e0n : decide (j < s.size) = false := decide_eq_false hlt
      have hjs : j = s.size := by omega
      have hN : o = none := by
        rw [← hres, hjs, show s.data.toList.drop s.size = [] from List.drop_eq_nil_of_le (Nat.le_refl _)]
        rfl
      subst hN
      clear hres hlt hjs
      go_wp2_with fail
      go_ret3
      exact ⟨rfl, HM.out⟩
end Go.Proofs.YtdafdoodegpdhaaGreatDoor
