/- The document's lexer: Tag. Conditions: at most 10^6 bytes. -/
import Derived.Test.YtdafdoodegpdhaaGreatDoorNB
import Derived.Test.YtdafdoodegpdhaaGreatDoorNC
namespace Go.Proofs.YtdafdoodegpdhaaGreatDoor
open Go Go.RowKit Go.BigFrame
set_option linter.unusedVariables false
set_option linter.unusedSimpArgs false

/-- what the document's Tag answers -/
def RTagD (s : ByteArray) (o : Option (Tk × List UInt8)) (w : World) (e : Ending) (w' : World) : Prop :=
  match o with
  | some (t, r) => ∃ av, e = .returned (.tuple #[.agg (tkV t.kind t.name t.text av (if t.self then 1 else 0) t.lo t.hi), .bool true]) ∧ Mv (fun _ => False) w w' ∧ RowP w' (fun g => w.heap.size ≤ g) 72 2 av t.attrs.length (attrCells t.attrs)
  | none => ∃ k n l a c z lo hi, e = .returned (.tuple #[.agg (tkV k n l (.slice a 0 c) z lo hi), .bool false]) ∧ Mv (fun _ => False) w w'
theorem rsmall_bs (l : List UInt8) (h : l.length ≤ 1000000) (w : World) : Calls Tryz.prog 36 #[.string (bs l)] w (RVal (.string (bs (l.map smallC))) w) := by
  have h2 := rSmall_any (bs l) (by rw [bs_size]; omega) w
  rw [bs_data] at h2
  exact h2
theorem rdecode_bs (l : List UInt8) (h : l.length ≤ 1000000) (w : World) : Calls Tryz.prog 18 #[.string (bs l)] w (RVal (.string (bs (decT l))) w) := rDecode_any (bs l) (by rw [bs_size]; omega) w
theorem any_snoc {l : List Part} {j : Nat} {q : Part} (h : l[j]? = some q) (f : Part → Bool) : (l.take (j + 1)).any f = ((l.take j).any f || f q) := by
  rw [List.take_add_one, h]; simp
set_option maxHeartbeats 40000000 in
set_option maxRecDepth 100000 in
theorem rTag_any (s : ByteArray) (k : Nat) (w : World) (hs : s.size ≤ 1000000) (h60 : s.data.toList[k]? = some 60) :
    Calls Tryz.prog 17 #[.string s, .int .i64 (k : Int)] w (RTagD s (tagL s.size (s.data.toList.drop k)) w) := by
  have HS6 := Lib.hid hs
  obtain ⟨o, ho⟩ : ∃ o, tagL s.size (s.data.toList.drop k) = o := ⟨_, rfl⟩
  rw [ho]
  have hks : k < s.size := (List.getElem?_eq_some_iff.1 h60).1
  have hdr := drop_at h60
  rw [hdr] at ho
  have hb := begins_any s ⟨#[60, 47]⟩ k (by omega) (by decide) (by decide) (by omega)
  have hpb : beginsL s.data.toList k (⟨#[60, 47]⟩ : ByteArray).data.toList = headP (· == 47) (s.data.toList.drop (k + 1)) := by
    have h1 : beginsL s.data.toList k (⟨#[60, 47]⟩ : ByteArray).data.toList = [60, 47].isPrefixOf (s.data.toList.drop k) := by rw [pre_begins]; rfl
    rw [h1, hdr]
    cases s.data.toList.drop (k + 1) with
    | nil => rfl
    | cons c q => show (true && ((47 : UInt8) == c && true)) = (c == 47); rw [Bool.true_and, Bool.and_true, Bool.eq_iff_iff, beq_iff_eq, beq_iff_eq]; exact eq_comm
  rw [hpb] at hb
  have HB := Lib.hid hb
  have HTL := Lib.hid (show (if headP letterB (tagR (60 :: s.data.toList.drop (k + 1))) then (if headP (· == 47) (s.data.toList.drop (k + 1)) then closeL s.size (60 :: s.data.toList.drop (k + 1)) else openL s.size (60 :: s.data.toList.drop (k + 1))) else none) = o from ho)
  have HLR : Hid (s.size - (60 :: s.data.toList.drop (k + 1)).length = k) := Lib.hid (by rw [← hdr, List.length_drop]; have : s.data.toList.length = s.size := rfl; omega)
  have hw1 : IntKind.i64.wrap ((k : Int) + 1) = (k : Int) + 1 := IntWalk.i64_in _ (by omega)
  have hw2 : IntKind.i64.wrap ((k : Int) + 2) = (k : Int) + 2 := IntWalk.i64_in _ (by omega)
  have xa := (Ext.refl w).alloc (.cells #[.int .i64 0, .string ⟨#[]⟩, .string ⟨#[]⟩, .slice none 0 0, .int .i64 0, .int .i64 0, .int .i64 0] 30)
  have hba := heap_alloc_new w (.cells #[.int .i64 0, .string ⟨#[]⟩, .string ⟨#[]⟩, .slice none 0 0, .int .i64 0, .int .i64 0, .int .i64 0] 30)
  clear hs ho hdr hb hpb h60
  go_enter Tryz.func17, Tryz.ntmps17
  go_upto_region 1 with fail
  obtain ⟨wa, hwa⟩ : ∃ w' : World, w' = w.alloc (.cells #[.int .i64 0, .string ⟨#[]⟩, .string ⟨#[]⟩, .slice none 0 0, .int .i64 0, .int .i64 0, .int .i64 0] 30) := ⟨_, rfl⟩
  have hsa : wa.heap.size = w.heap.size + 1 := by rw [hwa]; simp
  rw [← hwa] at xa hba ⊢
  have HSA := Lib.hid hsa
  clear hwa hsa
  have xb := xa.alloc (.cells #[.int .i64 2, .string ⟨#[]⟩, .string ⟨#[]⟩, .slice none 0 0, .int .i64 0, .int .i64 k, .int .i64 0] 30)
  have hbb := heap_alloc_new wa (.cells #[.int .i64 2, .string ⟨#[]⟩, .string ⟨#[]⟩, .slice none 0 0, .int .i64 0, .int .i64 k, .int .i64 0] 30)
  have hba2 := ((Ext.refl wa).alloc (.cells #[.int .i64 2, .string ⟨#[]⟩, .string ⟨#[]⟩, .slice none 0 0, .int .i64 0, .int .i64 k, .int .i64 0] 30)).block hba
  go_upto_region 2 with fail
  obtain ⟨wb, hwb⟩ : ∃ w' : World, w' = wa.alloc (.cells #[.int .i64 2, .string ⟨#[]⟩, .string ⟨#[]⟩, .slice none 0 0, .int .i64 0, .int .i64 k, .int .i64 0] 30) := ⟨_, rfl⟩
  rw [← hwb] at xb hbb hba2 ⊢
  clear hwb hba
  obtain ⟨br, hbr⟩ : ∃ b, w.heap.size = b := ⟨_, rfl⟩
  obtain ⟨bt, hbt⟩ : ∃ b, wa.heap.size = b := ⟨_, rfl⟩
  have hsa := HSA.out
  rw [hbr] at hba2 ⊢
  rw [hbt] at hbb ⊢
  have hnrt : br ≠ bt := by omega
  have hgr : w.heap.size ≤ br := by omega
  have hgt : w.heap.size ≤ bt := by omega
  have BR := Lib.hid hba2
  have BT := Lib.hid hbb
  have M0 := Lib.hid (Mv.ofExt (S := fun _ => False) xb)
  clear hsa hbr hbt xa xb hba2 hbb
  have hs6 := HS6.out
  cases hcb : headP (· == 47) (s.data.toList.drop (k + 1)) with
  | true =>
    rw [hcb] at HB HTL
    have HTR : Hid (tagR (60 :: s.data.toList.drop (k + 1)) = s.data.toList.drop (k + 2)) := Lib.hid (by
      have hc : closeB (60 :: s.data.toList.drop (k + 1)) = true := hcb
      unfold tagR
      rw [hc]
      rw [if_pos rfl, List.drop_succ_cons, List.drop_drop])
    have hk2 : k + 2 ≤ s.size := by
      have : s.data.toList.drop (k + 1) ≠ [] := by rintro e; rw [e] at hcb; cases hcb
      have h2 := List.length_pos_iff.2 this
      rw [List.length_drop] at h2
      have : s.data.toList.length = s.size := rfl
      omega
    clear hcb
    go_wp2_with (go_at_call 33; refine (HB.out _).mono ?_)
    rintro e w1 ⟨rfl, x1⟩
    have hb4 := x1.block BT.out
    have f4 := freeOf hb4 0
    have c4 := cellOf hb4 (i := 0) rfl
    have BTa := heap_setCell_same (i := 0) hb4 (.int .i64 3)
    have h4m := Mv.setCell (S := (· = bt)) (p := ⟨bt, 0, none⟩) (Mv.refl (· = bt) w1) (fun _ => rfl) (.int .i64 3)
    have BRa := h4m.block (x1.block BR.out) (show ¬ br = bt from hnrt)
    have M2 := Mv.setCell (p := ⟨bt, 0, none⟩) (M0.out.ext x1) (fun h => absurd h (by show ¬ bt < w.heap.size; omega)) (.int .i64 3)
    clear x1 hb4 h4m
    go_upto_region 5 with fail
    obtain ⟨w2, hw2⟩ : ∃ w' : World, w' = w1.setCell ⟨bt, 0, none⟩ (.int .i64 3) := ⟨_, rfl⟩
    rw [← hw2] at BTa BRa M2 ⊢
    clear hw2 f4 c4
    have BT2 := Lib.hid BTa
    have BR2 := Lib.hid BRa
    have M2 := Lib.hid M2
    clear BTa BRa
    by_cases hsz : k + 2 < s.size
    · obtain ⟨c2, hcl, -⟩ := at_idx s (k + 2) hsz
      have hix0 := idx_of s (k + 2) c2 hcl
      have hix : ∀ W : World, (Instr.index 9 (.string s) (.int .i64 ((k : Int) + 2))).run Tryz.prog W = .ok (.int .u8 (c2.toNat : Int)) W := fun W => by have h := hix0 W; push_cast at h; exact h
      have e0 : decide ((s.size : Int) ≤ (k : Int) + 2) = false := decide_eq_false (by omega)
      have HLET := Lib.hid (fun W => rLetter_any c2 W)
      have hhp : headP letterB (s.data.toList.drop (k + 2)) = letterB c2 := by rw [drop_at hcl]; rfl
      rw [HTR.out, hhp] at HTL
      clear hix0 hcl hhp hsz
      cases hlb : letterB c2 with
      | false =>
        rw [hlb] at HLET HTL
        have HN : Hid (o = none) := Lib.hid HTL.out.symm
        clear hlb
        go_wp2_with (go_at_call 34; refine (HLET.out _).mono ?_)
        rintro e w3 ⟨rfl, x3⟩
        have BRz := x3.block BR2.out
        have Mz := M2.out.ext x3
        clear x3
        have B2s := heap_setRow_same (vs := #[.int .i64 0, .string ⟨#[]⟩, .string ⟨#[]⟩, .slice none 0 0, .int .i64 0, .int .i64 0, .int .i64 0]) BRz
        have hlv := run_loadVar_row (P := Tryz.prog) _ br 30 30 _ (0, 0) _ B2s Tryz.underlying30 rfl (by kernel_rfl)
        have MZ := Lib.hid (Mv.setRow Mz (b := br) (fun h => absurd h (by omega)) #[.int .i64 0, .string ⟨#[]⟩, .string ⟨#[]⟩, .slice none 0 0, .int .i64 0, .int .i64 0, .int .i64 0])
        clear B2s Mz
        go_wp2_with (refine wpList_storeRow rfl rfl rfl rfl BRz sizeTok rfl (tkOne _ _ _ _ _ _ _ rfl rfl rfl rfl rfl rfl rfl) ?_)
        refine bodyPost_ret (v := .tuple #[.agg #[.int .i64 0, .string ⟨#[]⟩, .string ⟨#[]⟩, .slice none 0 0, .int .i64 0, .int .i64 0, .int .i64 0], .bool false]) (by simp [results, Tryz.results17, asAddr, hlv]) rfl ?_
        rw [HN.out]
        exact ⟨0, [], [], none, 0, 0, 0, 0, rfl, MZ.out⟩
      | true =>
        rw [hlb] at HLET HTL
        clear hlb
        obtain ⟨m1, SC1, D1, T1⟩ := scan_of alnumB s (k + 2) hk2
        have hm1 := SC1.le
        have hm1f := SC1.fit
        have HRN := Lib.hid (fun W => (rname_any s (k + 2) m1 HS6.out SC1 W : Calls Tryz.prog 35 #[.string s, .int .i64 (((k + 2) : Nat) : Int)] W (RVal (.int .i64 (m1 : Int)) W)))
        push_cast at HRN
        have HD1 := Lib.hid D1
        have hnl : ((s.data.toList.drop (k + 2)).takeWhile alnumB).length ≤ 1000000 := by
          have h1 := congrArg List.length (take_drop_while alnumB (s.data.toList.drop (k + 2)))
          rw [List.length_append, List.length_drop] at h1
          have : s.data.toList.length = s.size := rfl
          omega
        have HSM := Lib.hid (fun W => rsmall_bs ((s.data.toList.drop (k + 2)).takeWhile alnumB) hnl W)
        have HT1 := Lib.hid T1
        have htoN : ((k : Int) + 2).toNat = k + 2 := by omega
        generalize hE : s.extract (k + 2) m1 = E at HT1
        have HE := Lib.hid hE
        obtain ⟨nm, hnm⟩ : ∃ nm, ((s.data.toList.drop (k + 2)).takeWhile alnumB).map smallC = nm := ⟨_, rfl⟩
        rw [hnm] at HSM
        have HNM : Hid (tagN (60 :: s.data.toList.drop (k + 1)) = nm) := Lib.hid (by unfold tagN; rw [HTR.out]; exact hnm)
        have b1 : (0 : Int) ≤ (k : Int) + 2 := by omega
        have b2 : (k : Int) + 2 ≤ (m1 : Int) := by omega
        have b3 : (m1 : Int) ≤ (s.size : Int) := by omega
        clear D1 T1 hnl hnm SC1 hE
        go_wp2_with (go_at_call 34; refine (HLET.out _).mono ?_)
        rintro e w3 ⟨rfl, x3⟩
        have BT3 := Lib.hid (x3.block BT2.out)
        have BR3 := Lib.hid (x3.block BR2.out)
        have M3 := Lib.hid (M2.out.ext x3)
        clear x3 e0 hix
        go_wp2_with (go_at_call 35; refine (HRN.out _).mono ?_)
        rintro e w4 ⟨rfl, x4⟩
        have BT4 := Lib.hid (x4.block BT3.out)
        have BR4 := Lib.hid (x4.block BR3.out)
        have M4 := Lib.hid (M3.out.ext x4)
        clear x4
        go_wp2_with ((first | rw [HE.out, HT1.out] | rw [HT1.out]); go_at_call 36; refine (HSM.out _).mono ?_)
        rintro e w5 ⟨rfl, x5⟩
        have hb4 := x5.block BT4.out
        have f4 := freeOf hb4 1
        have c4 := cellOf hb4 (i := 1) rfl
        have BTc := heap_setCell_same (i := 1) hb4 (.string (bs nm))
        have h4m := Mv.setCell (S := (· = bt)) (p := ⟨bt, 1, none⟩) (Mv.refl (· = bt) w5) (fun _ => rfl) (.string (bs nm))
        have BRc := h4m.block (x5.block BR4.out) (show ¬ br = bt from hnrt)
        have M5 := Mv.setCell (p := ⟨bt, 1, none⟩) (M4.out.ext x5) (fun h => absurd h (by show ¬ bt < w.heap.size; omega)) (.string (bs nm))
        clear x5 hb4 h4m
        go_upto_region 10 with fail
        obtain ⟨w6, hw6⟩ : ∃ w' : World, w' = w5.setCell ⟨bt, 1, none⟩ (.string (bs nm)) := ⟨_, rfl⟩
        rw [← hw6] at BTc BRc M5 ⊢
        clear hw6 f4 c4
        have c40 := cellOf BTc (i := 0) (v := .int .i64 3) rfl
        have BT6 := Lib.hid BTc
        have BR6 := Lib.hid BRc
        have M6 := Lib.hid M5
        clear BTc BRc M5
        obtain ⟨m2, SC2, D2, -⟩ := scan_of (neB 62) s m1 hm1f
        have hm2 := SC2.le
        have hm2f := SC2.fit
        have SC2 := Lib.hid SC2
        have HD2 := Lib.hid D2
        clear D2
        go_upto_block 0 with fail
        go_cut [8] (fun ev wx => ev = .int .i64 (m2 : Int) ∧ Ext w6 wx)
        case first =>
         as_aux_lemma =>
          go_wp2_with fail
          go_loopw [8] (fun ev wr => ∃ i : Nat, m1 ≤ i ∧ i ≤ m2 ∧ ev = .int .i64 i ∧ Ext w6 wr) (fun ev _ => m2 - (intOf ev).toNat)
          case atStart => exact ⟨m1, Nat.le_refl _, SC2.out.le, by first | rfl | (push_cast; rfl), Ext.refl _⟩
          case round =>
            obtain ⟨i, hki, him, rfl, xr⟩ := hrel
            have XR := Lib.hid xr
            clear xr
            have hmf := SC2.out.fit
            have hs6 := HS6.out
            by_cases hsz : i < s.size
            · obtain ⟨d, hdl, -⟩ := at_idx s i hsz
              have hix := idx_of s i d hdl
              have ON := Lib.hid (fun h => SC2.out.on i d hki h hdl)
              have OFF := Lib.hid (fun (h : i = m2) => SC2.out.off d (h ▸ hdl))
              have e0 : decide ((i : Int) < (s.size : Int)) = true := decide_eq_true (by omega)
              have e0n : decide (i < s.size) = true := decide_eq_true hsz
              have hw1 : IntKind.i64.wrap ((i : Int) + 1) = (i : Int) + 1 := IntWalk.i64_in _ (by omega)
              clear hdl
              have fq : ((d.toNat : Int) != 62) = (d != 62) := u8_ne d 62
              cases hb : (d != 62) with
              | true =>
                rw [hb] at fq
                have hlt : i < m2 := by
                  rcases Nat.lt_or_ge i m2 with h | h
                  · exact h
                  · have h := OFF.out (by omega); simp [neB, hb] at h
                clear hb
                go_wp2_with fail
                go_roundw
                case rel => exact ⟨i + 1, by omega, by omega, by go_num, XR.out⟩
                case measure => simp [intOf]; omega
              | false =>
                rw [hb] at fq
                have hlt : i = m2 := by
                  rcases Nat.lt_or_ge i m2 with h | h
                  · have h := ON.out h; simp [neB, hb] at h
                  · omega
                subst hlt
                clear hb
                go_wp2_with fail
                go_meet
                exact ⟨rfl, XR.out⟩
            · have e0 : decide ((i : Int) < (s.size : Int)) = false := decide_eq_false (by omega)
              have e0n : decide (i < s.size) = false := decide_eq_false hsz
              have hlt : i = m2 := by omega
              subst hlt
              clear hsz
              go_wp2_with fail
              go_meet
              exact ⟨rfl, XR.out⟩
        case rest =>
         obtain ⟨rfl, xcut⟩ := hcut
         have hb4 := xcut.block BT6.out
         have f4 := freeOf hb4 6
         have c46 := cellOf hb4 (i := 6) (v := .int .i64 0) rfl
         have BTz := heap_setCell_same (i := 6) hb4 (.int .i64 ((m2 : Int) + 1))
         have h4m := Mv.setCell (S := (· = bt)) (p := ⟨bt, 6, none⟩) (Mv.refl (· = bt) wc) (fun _ => rfl) (.int .i64 ((m2 : Int) + 1))
         have BRz := h4m.block (xcut.block BR6.out) (show ¬ br = bt from hnrt)
         have Mz := Mv.setCell (p := ⟨bt, 6, none⟩) (M6.out.ext xcut) (fun h => absurd h (by show ¬ bt < w.heap.size; omega)) (.int .i64 ((m2 : Int) + 1))
         have hwm2 : IntKind.i64.wrap ((m2 : Int) + 1) = (m2 : Int) + 1 := IntWalk.i64_in _ (by omega)
         clear hb4 h4m xcut
         go_upto_region 14 with fail
         obtain ⟨w8, hw8⟩ : ∃ w' : World, w' = World.setCell wc ⟨bt, 6, none⟩ (.int .i64 ((m2 : Int) + 1)) := ⟨_, rfl⟩
         rw [← hw8] at BTz BRz Mz ⊢
         clear hw8 f4 c46
         have d0 := cellOf BTz (i := 0) (v := .int .i64 3) rfl
         have d1 := cellOf BTz (i := 1) (v := .string (bs nm)) rfl
         have d2 := cellOf BTz (i := 2) (v := .string ⟨#[]⟩) rfl
         have d3 := cellOf BTz (i := 3) (v := .slice none 0 0) rfl
         have d4 := cellOf BTz (i := 4) (v := .int .i64 0) rfl
         have d5 := cellOf BTz (i := 5) (v := .int .i64 k) rfl
         have d6 := cellOf BTz (i := 6) (v := .int .i64 ((m2 : Int) + 1)) rfl
         by_cases hend : m2 < s.size
         · obtain ⟨c3, hc3, -⟩ := at_idx s m2 hend
           have h62 : c3 = 62 := by have h := SC2.out.off c3 hc3; simpa [neB] using h
           have e1 : decide ((m2 : Int) < (s.size : Int)) = true := decide_eq_true (by omega)
           have e1n : decide (m2 < s.size) = true := decide_eq_true hend
           have HN : Hid (o = some (⟨3, nm, [], [], false, k, s.size - (s.data.toList.drop (m2 + 1)).length⟩, s.data.toList.drop (m2 + 1))) := Lib.hid (by
             have h : closeL s.size (60 :: s.data.toList.drop (k + 1)) = o := by simpa using HTL.out
             rw [← h]
             unfold closeL
             rw [HTR.out, HD1.out, HD2.out, drop_at hc3, HNM.out, HLR.out])
           have HHI : Hid (((s.size - (s.data.toList.drop (m2 + 1)).length : Nat) : Int) = (m2 : Int) + 1) := Lib.hid (by rw [List.length_drop]; have : s.data.toList.length = s.size := rfl; omega)
           clear hc3 h62 hend
           have B2s := heap_setRow_same (vs := #[.int .i64 3, .string (bs nm), .string ⟨#[]⟩, .slice none 0 0, .int .i64 0, .int .i64 k, .int .i64 ((m2 : Int) + 1)]) BRz
           have hlv := run_loadVar_row (P := Tryz.prog) _ br 30 30 _ (0, 0) _ B2s Tryz.underlying30 rfl (by kernel_rfl)
           have MZ := Lib.hid (Mv.setRow Mz (b := br) (fun h => absurd h (by omega)) #[.int .i64 3, .string (bs nm), .string ⟨#[]⟩, .slice none 0 0, .int .i64 0, .int .i64 k, .int .i64 ((m2 : Int) + 1)])
           clear B2s Mz
           go_wp2_with (refine wpList_storeRow rfl rfl rfl rfl BRz sizeTok rfl (tkOne _ _ _ _ _ _ _ rfl rfl rfl rfl rfl rfl rfl) ?_)
           refine bodyPost_ret (v := .tuple #[.agg #[.int .i64 3, .string (bs nm), .string ⟨#[]⟩, .slice none 0 0, .int .i64 0, .int .i64 k, .int .i64 ((m2 : Int) + 1)], .bool true]) (by simp [results, Tryz.results17, asAddr, hlv]) rfl ?_
           rw [HN.out]
           exact ⟨.slice none 0 0, by rw [HHI.out]; rfl, MZ.out, ⟨rfl, .inl ⟨rfl, none, rfl⟩⟩⟩
         · have e1 : decide ((m2 : Int) < (s.size : Int)) = false := decide_eq_false (by omega)
           have e1n : decide (m2 < s.size) = false := decide_eq_false hend
           have HN : Hid (o = none) := Lib.hid (by
             have h : closeL s.size (60 :: s.data.toList.drop (k + 1)) = o := by simpa using HTL.out
             rw [← h]
             unfold closeL
             rw [HTR.out, HD1.out, HD2.out, show s.data.toList.drop m2 = [] from List.drop_eq_nil_of_le (by have : s.data.toList.length = s.size := rfl; omega)])
           clear hend
           have B2s := heap_setRow_same (vs := #[.int .i64 3, .string (bs nm), .string ⟨#[]⟩, .slice none 0 0, .int .i64 0, .int .i64 k, .int .i64 ((m2 : Int) + 1)]) BRz
           have hlv := run_loadVar_row (P := Tryz.prog) _ br 30 30 _ (0, 0) _ B2s Tryz.underlying30 rfl (by kernel_rfl)
           have MZ := Lib.hid (Mv.setRow Mz (b := br) (fun h => absurd h (by omega)) #[.int .i64 3, .string (bs nm), .string ⟨#[]⟩, .slice none 0 0, .int .i64 0, .int .i64 k, .int .i64 ((m2 : Int) + 1)])
           clear B2s Mz
           go_wp2_with (refine wpList_storeRow rfl rfl rfl rfl BRz sizeTok rfl (tkOne _ _ _ _ _ _ _ rfl rfl rfl rfl rfl rfl rfl) ?_)
           refine bodyPost_ret (v := .tuple #[.agg #[.int .i64 3, .string (bs nm), .string ⟨#[]⟩, .slice none 0 0, .int .i64 0, .int .i64 k, .int .i64 ((m2 : Int) + 1)], .bool false]) (by simp [results, Tryz.results17, asAddr, hlv]) rfl ?_
           rw [HN.out]
           exact ⟨3, nm, [], none, 0, 0, k, _, rfl, MZ.out⟩
    · have e0 : decide ((s.size : Int) ≤ (k : Int) + 2) = true := decide_eq_true (by omega)
      have hnil : s.data.toList.drop (k + 2) = [] := List.drop_eq_nil_of_le (by have : s.data.toList.length = s.size := rfl; omega)
      have HN : Hid (o = none) := Lib.hid (by rw [← HTL.out, HTR.out, hnil]; rfl)
      have BRz := BR2.out
      have Mz := M2.out
      clear hnil hsz
      have B2s := heap_setRow_same (vs := #[.int .i64 0, .string ⟨#[]⟩, .string ⟨#[]⟩, .slice none 0 0, .int .i64 0, .int .i64 0, .int .i64 0]) BRz
      have hlv := run_loadVar_row (P := Tryz.prog) _ br 30 30 _ (0, 0) _ B2s Tryz.underlying30 rfl (by kernel_rfl)
      have MZ := Lib.hid (Mv.setRow Mz (b := br) (fun h => absurd h (by omega)) #[.int .i64 0, .string ⟨#[]⟩, .string ⟨#[]⟩, .slice none 0 0, .int .i64 0, .int .i64 0, .int .i64 0])
      clear B2s Mz
      go_wp2_with (refine wpList_storeRow rfl rfl rfl rfl BRz sizeTok rfl (tkOne _ _ _ _ _ _ _ rfl rfl rfl rfl rfl rfl rfl) ?_)
      refine bodyPost_ret (v := .tuple #[.agg #[.int .i64 0, .string ⟨#[]⟩, .string ⟨#[]⟩, .slice none 0 0, .int .i64 0, .int .i64 0, .int .i64 0], .bool false]) (by simp [results, Tryz.results17, asAddr, hlv]) rfl ?_
      rw [HN.out]
      exact ⟨0, [], [], none, 0, 0, 0, 0, rfl, MZ.out⟩
  | false =>
    rw [hcb] at HB HTL
    have HTR : Hid (tagR (60 :: s.data.toList.drop (k + 1)) = s.data.toList.drop (k + 1)) := Lib.hid (by
      have hc : closeB (60 :: s.data.toList.drop (k + 1)) = false := hcb
      unfold tagR
      rw [hc]
      rw [if_neg (by decide), List.drop_succ_cons, List.drop_zero])
    have hk2 : k + 1 ≤ s.size := by omega
    clear hcb
    go_wp2_with (go_at_call 33; refine (HB.out _).mono ?_)
    rintro e w1 ⟨rfl, x1⟩
    have BTa := x1.block BT.out
    have BRa := x1.block BR.out
    have M2 := M0.out.ext x1
    obtain ⟨w2, hw2⟩ : ∃ w' : World, w' = w1 := ⟨_, rfl⟩
    rw [← hw2] at BTa BRa M2 ⊢
    clear hw2 x1
    have BT2 := Lib.hid BTa
    have BR2 := Lib.hid BRa
    have M2 := Lib.hid M2
    clear BTa BRa
    by_cases hsz : k + 1 < s.size
    · obtain ⟨c2, hcl, -⟩ := at_idx s (k + 1) hsz
      have hix0 := idx_of s (k + 1) c2 hcl
      have hix : ∀ W : World, (Instr.index 9 (.string s) (.int .i64 ((k : Int) + 1))).run Tryz.prog W = .ok (.int .u8 (c2.toNat : Int)) W := fun W => by have h := hix0 W; push_cast at h; exact h
      have e0 : decide ((s.size : Int) ≤ (k : Int) + 1) = false := decide_eq_false (by omega)
      have HLET := Lib.hid (fun W => rLetter_any c2 W)
      have hhp : headP letterB (s.data.toList.drop (k + 1)) = letterB c2 := by rw [drop_at hcl]; rfl
      rw [HTR.out, hhp] at HTL
      clear hix0 hcl hhp hsz
      cases hlb : letterB c2 with
      | false =>
        rw [hlb] at HLET HTL
        have HN : Hid (o = none) := Lib.hid HTL.out.symm
        clear hlb
        go_wp2_with (go_at_call 34; refine (HLET.out _).mono ?_)
        rintro e w3 ⟨rfl, x3⟩
        have BRz := x3.block BR2.out
        have Mz := M2.out.ext x3
        clear x3
        have B2s := heap_setRow_same (vs := #[.int .i64 0, .string ⟨#[]⟩, .string ⟨#[]⟩, .slice none 0 0, .int .i64 0, .int .i64 0, .int .i64 0]) BRz
        have hlv := run_loadVar_row (P := Tryz.prog) _ br 30 30 _ (0, 0) _ B2s Tryz.underlying30 rfl (by kernel_rfl)
        have MZ := Lib.hid (Mv.setRow Mz (b := br) (fun h => absurd h (by omega)) #[.int .i64 0, .string ⟨#[]⟩, .string ⟨#[]⟩, .slice none 0 0, .int .i64 0, .int .i64 0, .int .i64 0])
        clear B2s Mz
        go_wp2_with (refine wpList_storeRow rfl rfl rfl rfl BRz sizeTok rfl (tkOne _ _ _ _ _ _ _ rfl rfl rfl rfl rfl rfl rfl) ?_)
        refine bodyPost_ret (v := .tuple #[.agg #[.int .i64 0, .string ⟨#[]⟩, .string ⟨#[]⟩, .slice none 0 0, .int .i64 0, .int .i64 0, .int .i64 0], .bool false]) (by simp [results, Tryz.results17, asAddr, hlv]) rfl ?_
        rw [HN.out]
        exact ⟨0, [], [], none, 0, 0, 0, 0, rfl, MZ.out⟩
      | true =>
        rw [hlb] at HLET HTL
        clear hlb
        obtain ⟨m1, SC1, D1, T1⟩ := scan_of alnumB s (k + 1) hk2
        have hm1 := SC1.le
        have hm1f := SC1.fit
        have HRN := Lib.hid (fun W => (rname_any s (k + 1) m1 HS6.out SC1 W : Calls Tryz.prog 35 #[.string s, .int .i64 (((k + 1) : Nat) : Int)] W (RVal (.int .i64 (m1 : Int)) W)))
        push_cast at HRN
        have HD1 := Lib.hid D1
        have hnl : ((s.data.toList.drop (k + 1)).takeWhile alnumB).length ≤ 1000000 := by
          have h1 := congrArg List.length (take_drop_while alnumB (s.data.toList.drop (k + 1)))
          rw [List.length_append, List.length_drop] at h1
          have : s.data.toList.length = s.size := rfl
          omega
        have HSM := Lib.hid (fun W => rsmall_bs ((s.data.toList.drop (k + 1)).takeWhile alnumB) hnl W)
        have HT1 := Lib.hid T1
        have htoN : ((k : Int) + 1).toNat = k + 1 := by omega
        generalize hE : s.extract (k + 1) m1 = E at HT1
        have HE := Lib.hid hE
        obtain ⟨nm, hnm⟩ : ∃ nm, ((s.data.toList.drop (k + 1)).takeWhile alnumB).map smallC = nm := ⟨_, rfl⟩
        rw [hnm] at HSM
        have HNM : Hid (tagN (60 :: s.data.toList.drop (k + 1)) = nm) := Lib.hid (by unfold tagN; rw [HTR.out]; exact hnm)
        have b1 : (0 : Int) ≤ (k : Int) + 1 := by omega
        have b2 : (k : Int) + 1 ≤ (m1 : Int) := by omega
        have b3 : (m1 : Int) ≤ (s.size : Int) := by omega
        clear D1 T1 hnl hnm SC1 hE
        go_wp2_with (go_at_call 34; refine (HLET.out _).mono ?_)
        rintro e w3 ⟨rfl, x3⟩
        have BT3 := Lib.hid (x3.block BT2.out)
        have BR3 := Lib.hid (x3.block BR2.out)
        have M3 := Lib.hid (M2.out.ext x3)
        clear x3 e0 hix
        go_wp2_with (go_at_call 35; refine (HRN.out _).mono ?_)
        rintro e w4 ⟨rfl, x4⟩
        have BT4 := Lib.hid (x4.block BT3.out)
        have BR4 := Lib.hid (x4.block BR3.out)
        have M4 := Lib.hid (M3.out.ext x4)
        clear x4
        go_wp2_with ((first | rw [HE.out, HT1.out] | rw [HT1.out]); go_at_call 36; refine (HSM.out _).mono ?_)
        rintro e w5 ⟨rfl, x5⟩
        have hb4 := x5.block BT4.out
        have f4 := freeOf hb4 1
        have c4 := cellOf hb4 (i := 1) rfl
        have BTc := heap_setCell_same (i := 1) hb4 (.string (bs nm))
        have h4m := Mv.setCell (S := (· = bt)) (p := ⟨bt, 1, none⟩) (Mv.refl (· = bt) w5) (fun _ => rfl) (.string (bs nm))
        have BRc := h4m.block (x5.block BR4.out) (show ¬ br = bt from hnrt)
        have M5 := Mv.setCell (p := ⟨bt, 1, none⟩) (M4.out.ext x5) (fun h => absurd h (by show ¬ bt < w.heap.size; omega)) (.string (bs nm))
        clear x5 hb4 h4m
        go_upto_region 10 with fail
        obtain ⟨w6, hw6⟩ : ∃ w' : World, w' = w5.setCell ⟨bt, 1, none⟩ (.string (bs nm)) := ⟨_, rfl⟩
        rw [← hw6] at BTc BRc M5 ⊢
        clear hw6 f4 c4
        have c40 := cellOf BTc (i := 0) (v := .int .i64 2) rfl
        have BT6 := Lib.hid BTc
        have BR6 := Lib.hid BRc
        have M6 := Lib.hid M5
        clear BTc BRc M5
        cases hpx : partsL (s.data.toList.drop m1) with
        | none =>
          have HN : Hid (o = none) := Lib.hid (by
            have h : openL s.size (60 :: s.data.toList.drop (k + 1)) = o := by simpa using HTL.out
            rw [← h]
            unfold openL
            rw [HTR.out, HD1.out, hpx]
            rfl)
          have HPT := Lib.hid (rparts_any s m1 w6 HS6.out hm1f)
          rw [hpx] at HPT
          clear hpx
          go_wp2_with (go_at_call 37; refine HPT.out.mono ?_)
          rintro e w7 ⟨rfl, m7⟩
          have BRz := m7.block BR6.out (fun h => h)
          have Mz := Mv.over M6.out m7 (fun x _ hx => hx)
          clear m7 c40
          have B2s := heap_setRow_same (vs := #[.int .i64 0, .string ⟨#[]⟩, .string ⟨#[]⟩, .slice none 0 0, .int .i64 0, .int .i64 0, .int .i64 0]) BRz
          have hlv := run_loadVar_row (P := Tryz.prog) _ br 30 30 _ (0, 0) _ B2s Tryz.underlying30 rfl (by kernel_rfl)
          have MZ := Lib.hid (Mv.setRow Mz (b := br) (fun h => absurd h (by omega)) #[.int .i64 0, .string ⟨#[]⟩, .string ⟨#[]⟩, .slice none 0 0, .int .i64 0, .int .i64 0, .int .i64 0])
          clear B2s Mz
          go_wp2_with (refine wpList_storeRow rfl rfl rfl rfl BRz sizeTok rfl (tkOne _ _ _ _ _ _ _ rfl rfl rfl rfl rfl rfl rfl) ?_)
          refine bodyPost_ret (v := .tuple #[.agg #[.int .i64 0, .string ⟨#[]⟩, .string ⟨#[]⟩, .slice none 0 0, .int .i64 0, .int .i64 0, .int .i64 0], .bool false]) (by simp [results, Tryz.results17, asAddr, hlv]) rfl ?_
          rw [HN.out]
          exact ⟨0, [], [], none, 0, 0, 0, 0, rfl, MZ.out⟩
        | some x =>
          obtain ⟨l, self, e5⟩ := x
          have hok := partsL_ok 1000000 (s.data.toList.drop m1) _ (by rw [List.length_drop]; have : s.data.toList.length = s.size := rfl; omega) hpx
          have hll : l.length ≤ 1000000 := by have h := hok.2; rw [List.length_drop] at h; have : s.data.toList.length = s.size := rfl; dsimp only at h; omega
          have HOK := Lib.hid hok.1
          have HPT := Lib.hid (rparts_any s m1 w6 HS6.out hm1f)
          rw [hpx] at HPT
          have HN : Hid (o = some (⟨2, nm, [], ownedL l, self, k, s.size - e5.length⟩, e5)) := Lib.hid (by
            have h : openL s.size (60 :: s.data.toList.drop (k + 1)) = o := by simpa using HTL.out
            rw [← h]
            unfold openL
            rw [HTR.out, HD1.out, hpx, HNM.out, HLR.out]
            rfl)
          clear hpx hok
          go_wp2_with (go_at_call 37; refine HPT.out.mono ?_)
          rintro e w7 ⟨lv, z, hz, rfl, m7, hrow7⟩
          have HZ := Lib.hid hz
          have hz0 : decide (z < 0) = false := decide_eq_false (by omega)
          obtain ⟨zs, hzs⟩ : ∃ y : Int, (if self then (1 : Int) else 0) = y := ⟨_, rfl⟩
          rw [hzs]
          have HZS := Lib.hid hzs
          have hb4 := m7.block BT6.out (fun h => h)
          have f4 := freeOf hb4 4
          have c44 := cellOf hb4 (i := 4) (v := .int .i64 0) rfl
          have c46 := cellOf hb4 (i := 6) (v := .int .i64 0) rfl
          have f6 := freeOf hb4 6
          have hbt6 := (Array.getElem?_eq_some_iff.1 BT6.out).1
          have BT7 := heap_setCell_same (i := 4) hb4 (.int .i64 zs)
          have BT8 := heap_setCell_same (i := 6) BT7 (.int .i64 z)
          have mA := Mv.setCell (S := (· = bt)) (p := ⟨bt, 4, none⟩) (Mv.refl (· = bt) w7) (fun _ => rfl) (.int .i64 zs)
          have mB := Mv.setCell (S := (· = bt)) (p := ⟨bt, 6, none⟩) mA (fun _ => rfl) (.int .i64 z)
          have BR8 := mB.block (m7.block BR6.out (fun h => h)) (show ¬ br = bt from hnrt)
          have M7 := Mv.over M6.out m7 (fun x _ hx => hx)
          have M8 := Mv.over M7 mB (fun x hx hb => by
            have hb' : x = bt := hb
            omega)
          have ROW8 := hrow7.mv mB (fun g hg => by have hg' : w6.heap.size ≤ g := hg; show ¬ g = bt; omega)
          clear hz hzs m7 hrow7 hb4 BT7 mA mB M7
          go_upto_region 19 with fail
          obtain ⟨w8, hw8⟩ : ∃ w' : World, w' = World.setCell (World.setCell w7 ⟨bt, 4, none⟩ (.int .i64 zs)) ⟨bt, 6, none⟩ (.int .i64 z) := ⟨_, rfl⟩
          rw [← hw8] at BT8 BR8 M8 ROW8 ⊢
          clear hw8 f4 f6 c44 c46 c40
          have BT9 : Hid (w8.heap[bt]? = some (.cells #[.int .i64 2, .string (bs nm), .string ⟨#[]⟩, .slice none 0 0, .int .i64 zs, .int .i64 k, .int .i64 z] 30 (0, 0))) := Lib.hid BT8
          have BR9 := Lib.hid BR8
          have M9 := Lib.hid M8
          obtain ⟨la, lcap, rfl, _⟩ := ROW8.rd.len_of
          have ROW9 := Lib.hid ROW8
          have hbt8 := (Array.getElem?_eq_some_iff.1 BT8).1
          have hbr8 := (Array.getElem?_eq_some_iff.1 BR8).1
          clear BT8 BR8 M8 ROW8
          go_wp2_with fail
          go_loopw [12, 13, 14, 15, 16] (fun iv _ _ _ _ wr => ∃ (i : Nat) (av : Value), i ≤ l.length ∧ iv = .int .i64 i ∧ Mv (· = bt) w8 wr ∧ wr.heap[bt]? = some (.cells #[.int .i64 2, .string (bs nm), .string ⟨#[]⟩, av, .int .i64 zs, .int .i64 k, .int .i64 z] 30 (0, 0)) ∧ RowP wr (fun g => w8.heap.size ≤ g) 72 2 av (ownedL (l.take i)).length (attrCells (ownedL (l.take i)))) (fun iv _ _ _ _ _ => l.length - (intOf iv).toNat)
          case atStart => exact ⟨0, _, Nat.zero_le _, rfl, Mv.refl _ _, BT9.out, ⟨rfl, .inl ⟨rfl, none, rfl⟩⟩⟩
          case round =>
            obtain ⟨i, av, hi, rfl, hm, hbt, hrow⟩ := hrel
            obtain ⟨oa, ocap, rfl, _⟩ := hrow.rd.len_of
            have HM := Lib.hid hm
            have HBT := Lib.hid hbt
            have HOUT := Lib.hid hrow
            have hll2 := hll
            clear hm hbt hrow
            by_cases hlt : i < l.length
            · obtain ⟨p, hp⟩ : ∃ p, l[i]? = some p := ⟨l[i], by simp [hlt]⟩
              have hpo := HOK.out p (List.mem_of_getElem? hp)
              cases la with
              | none =>
                obtain ⟨_, ao', cap', e, _, h0, _⟩ := ROW9.out.rd
                cases e
                exact absurd (h0 rfl).1 (by omega)
              | some a =>
                obtain ⟨bk, off, sp⟩ := a
                have hrr := (ROW9.out.mv HM.out (fun g hg => by have hg' : w6.heap.size ≤ g := hg; show ¬ g = bt; omega)).rd
                have HRR := Lib.hid hrr
                obtain ⟨q0, q1⟩ := RowRd.attr hrr (pb_cells hp)
                rw [add_later _ _ _ (by decide)] at q1
                have Q0 := Lib.hid q0
                have Q1 := Lib.hid q1
                have HP := Lib.hid hp
                have HNX := Lib.hid (owned_next hp)
                have HSP := Lib.hid (fun W => rsmall_bs p.1 hpo.1 W)
                have HDE := Lib.hid (fun W => rdecode_bs p.2 hpo.2 W)
                obtain ⟨b1, hb1⟩ : ∃ b, nameOk (bs (p.1.map smallC)) = b := ⟨_, rfl⟩
                obtain ⟨b2, hb2⟩ : ∃ b, valueOk (bs (decT p.2)) = b := ⟨_, rfl⟩
                obtain ⟨F, hF⟩ : ∃ F : Nat → Bool, ∀ j, F j = (l.take j).any fun q => decide (bs (q.1.map smallC) = bs (p.1.map smallC)) := ⟨_, fun _ => rfl⟩
                have F0 := Lib.hid (show F 0 = false by rw [hF]; rfl)
                have FS := Lib.hid (fun (j : Nat) (q : Part) (h : l[j]? = some q) => show F (j + 1) = (F j || decide (bs (q.1.map smallC) = bs (p.1.map smallC))) by rw [hF, hF, any_snoc h])
                have HNA : Hid (∀ W, Calls Tryz.prog 38 #[.string (bs (p.1.map smallC))] W (RBool b1 W)) := Lib.hid (fun W => by rw [← hb1]; exact r3Name_any _ W)
                have hdz : (bs (decT p.2)).size ≤ 1000000000000 := by
                  rw [bs_size]
                  have h1 := decL_len (anewB (bs p.2)).data.toList
                  have h2 : (anewB (bs p.2)).data.toList.length ≤ 4 * (bs p.2).size := anewB_size (bs p.2)
                  rw [bs_size] at h2
                  have h4 := hpo.2
                  unfold decT
                  omega
                have HVA : Hid (∀ W, Calls Tryz.prog 39 #[.string (bs (decT p.2))] W (RBool b2 W)) := Lib.hid (fun W => by rw [← hb2]; exact r3Value_any _ hdz W)
                rw [hb1, hb2, ← hF i] at HNX
                have e0 : decide ((i : Int) < (l.length : Int)) = true := decide_eq_true (by omega)
                have e0n : decide (i < l.length) = true := decide_eq_true hlt
                have i0 : (0 : Int) ≤ (i : Int) := by omega
                have i1 : (i : Int) < (l.length : Int) := by omega
                have itn : (i : Int).toNat = i := by omega
                clear hb1 hb2 hF hrr hp hpo hdz
                go_wp2_with (go_at_call 36; refine (HSP.out _).mono ?_)
                rintro e w10 ⟨rfl, x10⟩
                have X10 := Lib.hid x10
                clear x10 q0 q1
                go_wp2_with fail
                go_loopw [14, 15] (fun sv jv wj => ∃ j : Nat, j ≤ i ∧ jv = .int .i64 j ∧ sv = .bool (F j) ∧ Ext wr wj) (fun _ jv _ => i - (intOf jv).toNat)
                case atStart => exact ⟨0, Nat.zero_le _, rfl, by rw [F0.out], X10.out⟩
                case round =>
                  obtain ⟨j, hji, rfl, rfl, xj⟩ := hrel
                  have XJ := Lib.hid xj
                  clear xj
                  by_cases hjl : j < i
                  · obtain ⟨q, hq⟩ : ∃ q, l[j]? = some q := ⟨l[j], by rw [List.getElem?_eq_getElem (by omega)]⟩
                    have hqo := HOK.out q (List.mem_of_getElem? hq)
                    have HSQ := Lib.hid (fun W => rsmall_bs q.1 hqo.1 W)
                    have HFS := FS.out j q hq
                    obtain ⟨q0, q1⟩ := RowRd.attr (HRR.out.ext XJ.out) (pb_cells hq)
                    have g0 : decide ((j : Int) < (i : Int)) = true := decide_eq_true (by omega)
                    have g0n : decide (j < i) = true := decide_eq_true hjl
                    have j0 : (0 : Int) ≤ (j : Int) := by omega
                    have j1 : (j : Int) < (l.length : Int) := by omega
                    have jtn : (j : Int).toNat = j := by omega
                    obtain ⟨fj, hfj⟩ : ∃ b, F j = b := ⟨_, rfl⟩
                    rw [hfj] at HFS ⊢
                    clear hq hqo hfj q1
                    cases fj with
                    | true =>
                      have HT := Lib.hid (show F (j + 1) = true by rw [HFS]; rfl)
                      clear HFS q0
                      go_wp2_with fail
                      go_roundw
                      case rel => exact ⟨j + 1, by omega, by go_num, by rw [HT.out], XJ.out⟩
                      case measure => simp [intOf]; omega
                    | false =>
                      have hse := str_eq (bs (q.1.map smallC)) (bs (p.1.map smallC))
                      obtain ⟨d, hd⟩ : ∃ d, decide (bs (q.1.map smallC) = bs (p.1.map smallC)) = d := ⟨_, rfl⟩
                      have hse2 : (q.1.map smallC == p.1.map smallC) = d := by rw [← hd, Bool.eq_iff_iff, beq_iff_eq, decide_eq_true_eq, bs_inj]
                      rw [hd] at hse HFS
                      have HT := Lib.hid (show F (j + 1) = d by rw [HFS]; rfl)
                      clear HFS hd
                      go_wp2_with (go_at_call 36; refine (HSQ.out _).mono ?_)
                      rintro e w12 ⟨rfl, x12⟩
                      clear q0
                      go_wp2_with fail
                      go_roundw
                      case rel => exact ⟨j + 1, by omega, by go_num, by rw [HT.out], XJ.out.trans x12⟩
                      case measure => simp [intOf]; omega
                  · have hje : j = i := by omega
                    subst hje
                    have g0 : decide ((j : Int) < (j : Int)) = false := decide_eq_false (by omega)
                    have g0n : decide (j < j) = false := decide_eq_false hjl
                    have q0 := XJ.out.cells _ _ Q0.out
                    have q1 := XJ.out.cells _ _ Q1.out
                    obtain ⟨b3, hb3⟩ : ∃ b, F j = b := ⟨_, rfl⟩
                    rw [hb3] at HNX ⊢
                    clear hb3 hjl
                    go_wp2_with (go_at_call 18; refine (HDE.out _).mono ?_)
                    rintro e w11 ⟨rfl, x11⟩
                    have X11 := Lib.hid (XJ.out.trans x11)
                    clear x11 q0 q1
                    cases b3 with
                    | true =>
                      have XN := X11
                      go_wp2_with fail
                      go_roundw
                      case rel => exact ⟨j + 1, _, by omega, by go_num, HM.out.ext XN.out, XN.out.block HBT.out, by rw [HNX.out]; first | exact HOUT.out.ext XN.out | (simp only [Bool.false_and, Bool.true_and, Bool.and_true, Bool.and_false, Bool.not_true, Bool.not_false, Bool.false_eq_true, if_false, if_true, List.append_nil]; exact HOUT.out.ext XN.out)⟩
                      case measure => simp [intOf]; omega
                    | false =>
                      cases b1 with
                      | false =>
                        go_wp2_with (go_at_call 38; refine (HNA.out _).mono ?_)
                        rintro e w12 ⟨rfl, x12⟩
                        have XN := Lib.hid (X11.out.trans x12)
                        clear x12
                        go_wp2_with fail
                        go_roundw
                        case rel => exact ⟨j + 1, _, by omega, by go_num, HM.out.ext XN.out, XN.out.block HBT.out, by rw [HNX.out]; first | exact HOUT.out.ext XN.out | (simp only [Bool.false_and, Bool.true_and, Bool.and_true, Bool.and_false, Bool.not_true, Bool.not_false, Bool.false_eq_true, if_false, if_true, List.append_nil]; exact HOUT.out.ext XN.out)⟩
                        case measure => simp [intOf]; omega
                      | true =>
                        go_wp2_with (go_at_call 38; refine (HNA.out _).mono ?_)
                        rintro e w12 ⟨rfl, x12⟩
                        have X12 := Lib.hid (X11.out.trans x12)
                        clear x12
                        cases b2 with
                        | false =>
                          go_wp2_with (go_at_call 39; refine (HVA.out _).mono ?_)
                          rintro e w13 ⟨rfl, x13⟩
                          have XN := Lib.hid (X12.out.trans x13)
                          clear x13
                          go_wp2_with fail
                          go_roundw
                          case rel => exact ⟨j + 1, _, by omega, by go_num, HM.out.ext XN.out, XN.out.block HBT.out, by rw [HNX.out]; first | exact HOUT.out.ext XN.out | (simp only [Bool.false_and, Bool.true_and, Bool.and_true, Bool.and_false, Bool.not_true, Bool.not_false, Bool.false_eq_true, if_false, if_true, List.append_nil]; exact HOUT.out.ext XN.out)⟩
                          case measure => simp [intOf]; omega
                        | true =>
                          go_wp2_with (go_at_call 39; refine (HVA.out _).mono ?_)
                          rintro e wn ⟨rfl, x13⟩
                          have XN := Lib.hid (X12.out.trans x13)
                          clear x13
                          have HNX2 : Hid (ownedL (l.take (j + 1)) = ownedL (l.take j) ++ [(bs (p.1.map smallC), bs (decT p.2))]) := Lib.hid (by rw [HNX.out]; rfl)
                          obtain ⟨i0, hii, hz0', hz1, hz2⟩ := info_parts infoA
                          have hxa := (Ext.refl wn).alloc (.cells #[.string (bs (p.1.map smallC)), .string (bs (decT p.2))] 72)
                          have hrA := (HOUT.out.ext XN.out).ext hxa
                          have hna := heap_alloc_new wn (.cells #[.string (bs (p.1.map smallC)), .string (bs (decT p.2))] 72)
                          have hlen := ownedF_len (l.take j) []
                          have hlt2 : (l.take j).length ≤ 1000000 := by rw [List.length_take]; omega
                          have hlen2 : (ownedL (l.take j)).length ≤ 1000000 := Nat.le_trans hlen hlt2
                          obtain ⟨v', wB, row, hrunB, hrB, hgB, hrowB⟩ := run_append_row (P := Tryz.prog) (wn.alloc (.cells #[.string (bs (p.1.map smallC)), .string (bs (decT p.2))] 72)) 28 28 72 i0 _ 2 32 Tryz.underlying28 hii hz0' hz1 hz2 (by kernel_rfl) (by decide)
                            hrA ⟨wn.heap.size, 0, none⟩ 1 1 [.string (bs (p.1.map smallC)), .string (bs (decT p.2))] rfl (by
                              intro j u hj
                              rw [Addr.add_lit, Nat.zero_add]
                              exact cellOf hna (by simpa using hj)) (by intro u hu; simp at hu; rcases hu with rfl | rfl <;> rfl) (by decide) (by unfold maxLen; omega) (by omega)
                          have hbtW := (XN.out.trans hxa).block HBT.out
                          have hbtB := (Mv.grown (Mv.refl (fun x => row = some x) _) hgB (fun z hz _ => hz)).block hbtW (by
                            intro h
                            have h1 := hrowB bt h
                            have h2 : w8.heap.size ≤ bt := h1
                            omega)
                          have hwn := HM.out.size
                          have hxs := XN.out.size
                          have hal : (wn.alloc (.cells #[.string (bs (p.1.map smallC)), .string (bs (decT p.2))] 72)).heap.size = wn.heap.size + 1 := by simp
                          have hrC := RowP.imp hrB (q := fun g => w8.heap.size ≤ g) (by
                            intro g _ hg
                            rcases hg with h1 | h1
                            · exact h1
                            · omega)
                          have MB := ((HM.out.ext XN.out).ext hxa).grown hgB (by
                            intro z hz hlt
                            have h1 : w8.heap.size ≤ z := hrowB z hz
                            omega)
                          obtain ⟨a7, cap7, e7, _⟩ := hrC.rd.len_of
                          subst e7
                          have HRB := Lib.hid hrunB
                          have fB := freeOf hbtB 3
                          have cB := cellOf hbtB (i := 3) rfl
                          have d3 := cellOf (XN.out.block HBT.out) (i := 3) (v := .slice oa (ownedL (l.take j)).length ocap) rfl
                          have dA3 := cellOf hbtW (i := 3) (v := .slice oa (ownedL (l.take j)).length ocap) rfl
                          have FBT := Lib.hid (heap_setCell_same (i := 3) hbtB (.slice a7 ((ownedL (l.take j)).length + 1) cap7))
                          have mS := Mv.setCell (S := (· = bt)) (p := ⟨bt, 3, none⟩) (Mv.refl (· = bt) wB) (fun _ => rfl) (.slice a7 ((ownedL (l.take j)).length + 1) cap7)
                          have FROW := Lib.hid (hrC.mv mS (fun g hg => by have hg' : w8.heap.size ≤ g := hg; show ¬ g = bt; omega))
                          have FM := Lib.hid (Mv.setCell (p := ⟨bt, 3, none⟩) MB (fun _ => rfl) (.slice a7 ((ownedL (l.take j)).length + 1) cap7))
                          have HNS : Hid (attrCells (ownedL (l.take j)) ++ [.string (bs (p.1.map smallC)), .string (bs (decT p.2))] = attrCells (ownedL (l.take j) ++ [(bs (p.1.map smallC), bs (decT p.2))])) := Lib.hid (by rw [attrCells_snoc])
                          clear hrunB hrB hgB hrowB hii hz0' hz1 hz2 hxa hrA hna hlen hlt2 hbtW hbtB hwn hxs hal hrC MB mS
                          go_wp2_with (at_builtin; refine wpList_append_run _ rfl _ _ 28 rfl _ _ rfl rfl _ _ HRB.out ?_)
                          go_roundw
                          case rel => exact ⟨j + 1, _, by omega, by go_num, FM.out, FBT.out, by rw [HNX2.out]; have h := FROW.out; rw [HNS.out] at h; first | exact h | (simp only [List.length_append, List.length_cons, List.length_nil]; exact h)⟩
                          case measure => simp [intOf]; omega
            · have hie : i = l.length := by omega
              have e0 : decide ((i : Int) < (l.length : Int)) = false := decide_eq_false (by omega)
              have e0n : decide (i < l.length) = false := decide_eq_false hlt
              have HTA : Hid (ownedL (l.take i) = ownedL l) := Lib.hid (by rw [hie, List.take_length])
              have BTz := HBT.out
              have BRz := HM.out.block BR9.out (show ¬ br = bt from hnrt)
              have Mz := Mv.over M9.out HM.out (fun x hx hb => by
                have hb' : x = bt := hb
                omega)
              have FRW := Lib.hid ((RowP.imp HOUT.out (q := fun g => w8.heap.size ≤ g) (fun g _ hg => hg)).mv (Mv.setRow (S := (· = br)) (Mv.refl (· = br) wr) (fun _ => rfl) #[.int .i64 2, .string (bs nm), .string ⟨#[]⟩, .slice oa (ownedL (l.take i)).length ocap, .int .i64 zs, .int .i64 k, .int .i64 z]) (fun g hg => by have hg' : w8.heap.size ≤ g := hg; show ¬ g = br; omega))
              have h98 := M9.out.size
              have H98 := Lib.hid h98
              clear hie hlt h98
              have d0 := cellOf BTz (i := 0) (v := .int .i64 2) rfl
              have d1 := cellOf BTz (i := 1) (v := .string (bs nm)) rfl
              have d2 := cellOf BTz (i := 2) (v := .string ⟨#[]⟩) rfl
              have d3 := cellOf BTz (i := 3) (v := .slice oa (ownedL (l.take i)).length ocap) rfl
              have d4 := cellOf BTz (i := 4) (v := .int .i64 zs) rfl
              have d5 := cellOf BTz (i := 5) (v := .int .i64 k) rfl
              have d6 := cellOf BTz (i := 6) (v := .int .i64 z) rfl
              have B2s := heap_setRow_same (vs := #[.int .i64 2, .string (bs nm), .string ⟨#[]⟩, .slice oa (ownedL (l.take i)).length ocap, .int .i64 zs, .int .i64 k, .int .i64 z]) BRz
              have hlv := run_loadVar_row (P := Tryz.prog) _ br 30 30 _ (0, 0) _ B2s Tryz.underlying30 rfl (by kernel_rfl)
              have MZ := Lib.hid (Mv.setRow Mz (b := br) (fun h => absurd h (by omega)) #[.int .i64 2, .string (bs nm), .string ⟨#[]⟩, .slice oa (ownedL (l.take i)).length ocap, .int .i64 zs, .int .i64 k, .int .i64 z])
              clear B2s Mz
              go_wp2_with (refine wpList_storeRow rfl rfl rfl rfl BRz sizeTok rfl (tkOne _ _ _ _ _ _ _ rfl rfl rfl rfl rfl rfl rfl) ?_)
              refine bodyPost_ret (v := .tuple #[.agg #[.int .i64 2, .string (bs nm), .string ⟨#[]⟩, .slice oa (ownedL (l.take i)).length ocap, .int .i64 zs, .int .i64 k, .int .i64 z], .bool true]) (by simp [results, Tryz.results17, asAddr, hlv]) rfl ?_
              rw [HN.out]
              exact ⟨_, by rw [← HZS.out, HZ.out]; rfl, MZ.out, by show RowP _ _ _ _ _ (ownedL l).length (attrCells (ownedL l)); rw [← HTA.out]; exact RowP.imp FRW.out (fun g _ hg => Nat.le_trans H98.out hg)⟩
    · have e0 : decide ((s.size : Int) ≤ (k : Int) + 1) = true := decide_eq_true (by omega)
      have hnil : s.data.toList.drop (k + 1) = [] := List.drop_eq_nil_of_le (by have : s.data.toList.length = s.size := rfl; omega)
      have HN : Hid (o = none) := Lib.hid (by rw [← HTL.out, HTR.out, hnil]; rfl)
      have BRz := BR2.out
      have Mz := M2.out
      clear hnil hsz
      have B2s := heap_setRow_same (vs := #[.int .i64 0, .string ⟨#[]⟩, .string ⟨#[]⟩, .slice none 0 0, .int .i64 0, .int .i64 0, .int .i64 0]) BRz
      have hlv := run_loadVar_row (P := Tryz.prog) _ br 30 30 _ (0, 0) _ B2s Tryz.underlying30 rfl (by kernel_rfl)
      have MZ := Lib.hid (Mv.setRow Mz (b := br) (fun h => absurd h (by omega)) #[.int .i64 0, .string ⟨#[]⟩, .string ⟨#[]⟩, .slice none 0 0, .int .i64 0, .int .i64 0, .int .i64 0])
      clear B2s Mz
      go_wp2_with (refine wpList_storeRow rfl rfl rfl rfl BRz sizeTok rfl (tkOne _ _ _ _ _ _ _ rfl rfl rfl rfl rfl rfl rfl) ?_)
      refine bodyPost_ret (v := .tuple #[.agg #[.int .i64 0, .string ⟨#[]⟩, .string ⟨#[]⟩, .slice none 0 0, .int .i64 0, .int .i64 0, .int .i64 0], .bool false]) (by simp [results, Tryz.results17, asAddr, hlv]) rfl ?_
      rw [HN.out]
      exact ⟨0, [], [], none, 0, 0, 0, 0, rfl, MZ.out⟩
end Go.Proofs.YtdafdoodegpdhaaGreatDoor
