/- The document's chars (16): a text's markup as bytes. Conditions: at most 10^12 bytes. -/
import Derived.Test.YtdafdoodegpdhaaDoorPMA
namespace Go.Proofs.YtdafdoodegpdhaaDoor
open Go Go.RowKit Go.BigFrame
set_option linter.unusedVariables false
set_option linter.unusedSimpArgs false

set_option maxRecDepth 20000 in
set_option maxHeartbeats 400000 in
theorem Anew_big (s : ByteArray) (hs : s.size ≤ 1000000000000) (w : World) : Calls Tryd.prog 22 #[.string s] w (RVal (.string (anewB s)) w) := by
  have h1 := run_runes_of_string (P := Tryd.prog) w 9 85 21 s Tryd.underlying9 Tryd.underlying85 Tryd.underlying21 (by have := size_runesFrom s s.size 0 #[]; simp at this; omega)
  have e1 : Conv.runesFrom s s.size 0 #[] = ((runeList s s.size 0).map (Value.int .i32)).toArray := by rw [runesFrom_eq]; simp
  have hz : anewB s = runesBytes (runeList s s.size 0) := rfl
  have HZ := Lib.hid hz
  rw [e1] at h1
  clear hz e1 hs
  generalize runeList s s.size 0 = l at *
  generalize hk : grownCap w (List.map (Value.int IntKind.i32) l).toArray.size 0 21 = K at *
  have hge := grownCap_ge w (List.map (Value.int IntKind.i32) l).toArray.size 0 21
  rw [hk] at hge
  clear hk
  generalize hC : (List.map (Value.int IntKind.i32) l).toArray ++ Array.replicate (K - (List.map (Value.int IntKind.i32) l).toArray.size) (Value.int IntKind.i32 0) = C at *
  have h2 := run_convert_runes (P := Tryd.prog) (w.drew.alloc (.cells C 21)) 85 9 21 ⟨w.heap.size, 0, none⟩ l.length K l (Nat.le_refl _) Tryd.underlying85 Tryd.underlying21 Tryd.underlying9
    (by
      intro j hj
      have hb : (w.drew.alloc (.cells C 21)).heap[w.heap.size]? = some (.cells C 21 (0, 0)) := heap_alloc_new w.drew _
      rw [Addr.add_lit, Nat.zero_add]
      refine cellOf hb ?_
      rw [← hC, Array.getElem?_append_left (by simpa using hj)]
      simp [hj])
  rw [List.take_length] at h2
  simp only [List.size_toArray, List.length_map] at h1
  clear hC hge
  have HH1 := Lib.hid h1
  have HH2 := Lib.hid h2
  clear h1 h2
  go_enter Tryd.func22, Tryd.ntmps22
  go_wp2_with fail
  rw [HH1.out]
  go_wp2_with fail
  have h2' : Sem.run Tryd.prog (convert 85 9 (Value.slice (some { block := w.heap.size, off := 0 }) l.length K)) (w.alloc (Obj.cells C 21)).drew = Result.ok (Value.string (runesBytes l)) (w.alloc (Obj.cells C 21)).drew := HH2.out
  rw [h2']
  clear h2'
  go_wp2_with fail
  go_ret
  exact ⟨by rw [HZ.out]; rfl, ((Ext.refl _).alloc _).drew⟩
set_option maxHeartbeats 2000000 in
set_option maxRecDepth 100000 in
theorem rchars_any (s : ByteArray) (v : Bool) (hs : s.size ≤ 1000000000000) (w : World) : Calls Tryd.prog 29 #[.string s, .bool v] w (RBuf (esc v s) w) := by
  have hbn := Buf.new w
  have x0 := (Ext.refl w).alloc (.cells #[] 5)
  have hC := C2ok.anew s
  have hre := refEsc_anew v s
  have hsz := anewB_size s
  have HA := fun w => Anew_big s hs w
  obtain ⟨t, ht⟩ : ∃ t, anewB s = t := ⟨_, rfl⟩
  rw [ht] at hC hre hsz HA
  obtain ⟨out, ho⟩ : ∃ out, esc v s = out := ⟨_, rfl⟩
  rw [ho] at hre ⊢
  have HRE := Lib.hid hre
  have HCC := Lib.hid hC
  have HAA := Lib.hid HA
  clear hre hC HA ht ho
  go_enter Tryd.func29, Tryd.ntmps29
  go_upto_region 2 with fail
  obtain ⟨w1, hw1⟩ : ∃ w1 : World, w1 = w.alloc (.cells #[] 5) := ⟨_, rfl⟩
  rw [← hw1] at hbn x0 ⊢
  clear hw1
  have HB1 := Lib.hid hbn
  clear hbn x0
  go_wp2_with fail
  refine (HAA.out w1).mono ?_
  rintro e w2 ⟨rfl, x2⟩
  have HB2 := Lib.hid (HB1.out.ext x2)
  clear x2
  go_wp2_with fail
  go_loopw [5, 6] --LOOP
    (fun ov i wr => ∃ (k : Nat) (acc : List UInt8), k ≤ t.size ∧ i = .int .i64 k ∧ (∃ g cap, ov = .slice (some ⟨g, 0, none⟩) acc.length cap) ∧ Buf w ov acc wr ∧ acc ++ refEsc v (t.data.toList.drop k) = out ∧ acc.length ≤ 6 * k) (fun _ i _ => t.size - (intOf i).toNat)
  case atStart => exact ⟨0, [], Nat.zero_le _, rfl, ⟨_, _, rfl⟩, HB2.out, by simpa using HRE.out, Nat.le_refl _⟩
  case round =>
    obtain ⟨k, acc, hk, rfl, ⟨g, cap, rfl⟩, hb, hft, hal⟩ := hrel
    have HBR := Lib.hid hb
    have HFT := Lib.hid hft
    clear hb hft
    by_cases hlt : k < t.size
    · obtain ⟨c, hc⟩ : ∃ c, t[k]'hlt = c := ⟨_, rfl⟩
      have hcl : t.data.toList[k]? = some c := by rw [List.getElem?_eq_getElem (by exact hlt)]; exact congrArg some hc
      have hrest : t.data.toList.drop k = c :: t.data.toList.drop (k + 1) := by
        obtain ⟨h1, h2⟩ := List.getElem?_eq_some_iff.1 hcl
        rw [← h2]; exact List.drop_eq_getElem_cons h1
      have hix : ∀ W : World, (Instr.index 9 (.string t) (.int .i64 (k : Int))).run Tryd.prog W = .ok (.int .u8 (c.toNat : Int)) W := by
        intro W
        rw [run_index_string W 9 t .i64 (k : Int) Tryd.underlying9, dif_pos ⟨by omega, by omega⟩]
        simp only [Int.toNat_natCast, hc]
      have ne : ∀ m : UInt8, c ≠ m → ((c.toNat : Int) == (m.toNat : Int)) = false := by
        intro m h
        rw [beq_eq_false_iff_ne]
        intro e
        exact h (UInt8.toNat_inj.1 (by omega))
      by_cases a38 : c = 38
      · have b38 : ((c.toNat : Int) == 38) = true := by rw [a38]; rfl
        have hstep : acc ++ [38, 97, 109, 112, 59] ++ refEsc v (t.data.toList.drop (k + 1)) = out := by
          rw [← HFT.out, hrest]; rw [refEsc, if_pos a38]; simp
        have HST := Lib.hid hstep
        clear hstep hrest
        go_wp2_with (at_builtin; refine wpB_text rfl _ _ rfl _ acc rfl w HBR.out ⟨#[38, 97, 109, 112, 59]⟩ rfl (by show _ + 5 ≤ _; omega) (acc ++ [38, 97, 109, 112, 59]) rfl ?_)
        intro v' w' hb'
        obtain ⟨g', cap', _, _, rfl, _, _, _⟩ := hb'.at
        have HB' := Lib.hid hb'
        clear hb'
        go_wp2_with fail
        go_roundw
        case rel => exact ⟨k + 1, acc ++ [38, 97, 109, 112, 59], by omega, by go_num, ⟨g', cap', rfl⟩, HB'.out, HST.out, by rw [List.length_append]; show _ + 5 ≤ _; omega⟩
        case measure => simp [intOf]; omega
      have b38 : ((c.toNat : Int) == 38) = false := ne 38 a38
      by_cases a60 : c = 60
      · have b60 : ((c.toNat : Int) == 60) = true := by rw [a60]; rfl
        have hstep : acc ++ [38, 108, 116, 59] ++ refEsc v (t.data.toList.drop (k + 1)) = out := by
          rw [← HFT.out, hrest]; rw [refEsc, if_neg a38, if_pos a60]; simp
        have HST := Lib.hid hstep
        clear hstep hrest
        go_wp2_with (at_builtin; refine wpB_text rfl _ _ rfl _ acc rfl w HBR.out ⟨#[38, 108, 116, 59]⟩ rfl (by show _ + 4 ≤ _; omega) (acc ++ [38, 108, 116, 59]) rfl ?_)
        intro v' w' hb'
        obtain ⟨g', cap', _, _, rfl, _, _, _⟩ := hb'.at
        have HB' := Lib.hid hb'
        clear hb'
        go_wp2_with fail
        go_roundw
        case rel => exact ⟨k + 1, acc ++ [38, 108, 116, 59], by omega, by go_num, ⟨g', cap', rfl⟩, HB'.out, HST.out, by rw [List.length_append]; show _ + 4 ≤ _; omega⟩
        case measure => simp [intOf]; omega
      have b60 : ((c.toNat : Int) == 60) = false := ne 60 a60
      by_cases a62 : c = 62
      · have b62 : ((c.toNat : Int) == 62) = true := by rw [a62]; rfl
        have hstep : acc ++ [38, 103, 116, 59] ++ refEsc v (t.data.toList.drop (k + 1)) = out := by
          rw [← HFT.out, hrest]; rw [refEsc, if_neg a38, if_neg a60, if_pos a62]; simp
        have HST := Lib.hid hstep
        clear hstep hrest
        go_wp2_with (at_builtin; refine wpB_text rfl _ _ rfl _ acc rfl w HBR.out ⟨#[38, 103, 116, 59]⟩ rfl (by show _ + 4 ≤ _; omega) (acc ++ [38, 103, 116, 59]) rfl ?_)
        intro v' w' hb'
        obtain ⟨g', cap', _, _, rfl, _, _, _⟩ := hb'.at
        have HB' := Lib.hid hb'
        clear hb'
        go_wp2_with fail
        go_roundw
        case rel => exact ⟨k + 1, acc ++ [38, 103, 116, 59], by omega, by go_num, ⟨g', cap', rfl⟩, HB'.out, HST.out, by rw [List.length_append]; show _ + 4 ≤ _; omega⟩
        case measure => simp [intOf]; omega
      have b62 : ((c.toNat : Int) == 62) = false := ne 62 a62
      by_cases a34 : c = 34 ∧ v = true
      · obtain ⟨a34, rfl⟩ := a34
        have b34 : ((c.toNat : Int) == 34) = true := by rw [a34]; rfl
        have hstep : acc ++ [38, 113, 117, 111, 116, 59] ++ refEsc true (t.data.toList.drop (k + 1)) = out := by
          rw [← HFT.out, hrest]; rw [refEsc, if_neg a38, if_neg a60, if_neg a62, if_pos ⟨a34, rfl⟩]; simp
        have HST := Lib.hid hstep
        clear hstep hrest
        go_wp2_with (at_builtin; refine wpB_text rfl _ _ rfl _ acc rfl w HBR.out ⟨#[38, 113, 117, 111, 116, 59]⟩ rfl (by show _ + 6 ≤ _; omega) (acc ++ [38, 113, 117, 111, 116, 59]) rfl ?_)
        intro v' w' hb'
        obtain ⟨g', cap', _, _, rfl, _, _, _⟩ := hb'.at
        have HB' := Lib.hid hb'
        clear hb'
        go_wp2_with fail
        go_roundw
        case rel => exact ⟨k + 1, acc ++ [38, 113, 117, 111, 116, 59], by omega, by go_num, ⟨g', cap', rfl⟩, HB'.out, HST.out, by rw [List.length_append]; show _ + 6 ≤ _; omega⟩
        case measure => simp [intOf]; omega
      by_cases a194 : c = 194 ∧ (t.data.toList.drop (k + 1)).head? = some 160
      · have hn34 : ((c.toNat : Int) == 34) = false := ne 34 (by rw [a194.1]; decide)
        have b194 : ((c.toNat : Int) == 194) = true := by rw [a194.1]; rfl
        have hlt2 : k + 1 < t.size := HCC.out k (by rw [hcl, a194.1])
        have hc1 : t[k + 1]'hlt2 = 160 := by
          have h5 := a194.2
          rw [List.head?_drop, List.getElem?_eq_getElem (by exact hlt2)] at h5
          exact Option.some.inj h5
        have hix1 : ∀ W : World, (Instr.index 9 (.string t) (.int .i64 ((k : Int) + 1))).run Tryd.prog W = .ok (.int .u8 160) W := by
          intro W
          rw [run_index_string W 9 t .i64 ((k : Int) + 1) Tryd.underlying9, dif_pos ⟨by omega, by omega⟩]
          have e : ((k : Int) + 1).toNat = k + 1 := by omega
          simp only [e, hc1]
          rfl
        have hdd : (t.data.toList.drop (k + 1)).tail = t.data.toList.drop (k + 2) := by rw [List.tail_drop]
        have hstep : acc ++ [38, 110, 98, 115, 112, 59] ++ refEsc v (t.data.toList.drop (k + 2)) = out := by
          rw [← HFT.out, hrest]; rw [refEsc, if_neg a38, if_neg a60, if_neg a62, if_neg a34, if_pos a194, hdd]; simp
        have HST := Lib.hid hstep
        clear hstep hrest
        go_wp2_with (at_builtin; refine wpB_text rfl _ _ rfl _ acc rfl w HBR.out ⟨#[38, 110, 98, 115, 112, 59]⟩ rfl (by show _ + 6 ≤ _; omega) (acc ++ [38, 110, 98, 115, 112, 59]) rfl ?_)
        intro v' w' hb'
        obtain ⟨g', cap', _, _, rfl, _, _, _⟩ := hb'.at
        have HB' := Lib.hid hb'
        clear hb'
        go_wp2_with fail
        go_roundw
        case rel => exact ⟨k + 2, acc ++ [38, 110, 98, 115, 112, 59], by omega, by go_num, ⟨g', cap', rfl⟩, HB'.out, HST.out, by rw [List.length_append]; show _ + 6 ≤ _; omega⟩
        case measure => simp [intOf]; omega
      have hstep : acc ++ [c] ++ refEsc v (t.data.toList.drop (k + 1)) = out := by
        rw [← HFT.out, hrest, refEsc, if_neg a38, if_neg a60, if_neg a62, if_neg a34, if_neg a194]; simp
      have HST := Lib.hid hstep
      clear hstep hrest
      have fin : ∀ (w' : World) (g' cap' : Nat), Buf w (.slice (some ⟨g', 0, none⟩) (acc ++ [c]).length cap') (acc ++ [c]) w' → (∃ (k' : Nat) (acc' : List UInt8), k' ≤ t.size ∧ Value.int .i64 ((k : Int) + 1) = .int .i64 k' ∧ (∃ g cap, Value.slice (some ⟨g', 0, none⟩) (acc ++ [c]).length cap' = .slice (some ⟨g, 0, none⟩) acc'.length cap) ∧ Buf w (.slice (some ⟨g', 0, none⟩) (acc ++ [c]).length cap') acc' w' ∧ acc' ++ refEsc v (t.data.toList.drop k') = out ∧ acc'.length ≤ 6 * k') := fun w' g' cap' h =>
        ⟨k + 1, acc ++ [c], by omega, rfl, ⟨_, _, rfl⟩, h, HST.out, by rw [List.length_append]; show _ + 1 ≤ _; omega⟩
      have FIN := Lib.hid fin
      clear fin
      by_cases e34 : c = 34
      · have b34 : ((c.toNat : Int) == 34) = true := by rw [e34]; rfl
        have hv : v = false := by cases v; rfl; exact absurd ⟨e34, rfl⟩ a34
        have b194 : ((c.toNat : Int) == 194) = false := ne 194 (by rw [e34]; decide)
        subst hv
        have E34 := Lib.hid e34
        clear e34
        go_wp2_with (refine wpB_byte rfl _ _ rfl (.slice (some ⟨g, 0, none⟩) acc.length cap) acc rfl w HBR.out c _ (by first | rfl | (rw [E34.out]; rfl) | (rw [E194.out]; rfl)) rfl (by omega) (acc ++ [c]) rfl ?_)
        intro v' w' hb'
        obtain ⟨g', cap', _, _, rfl, _, _, _⟩ := hb'.at
        have HB' := Lib.hid hb'
        clear hb'
        go_wp2_with fail
        go_roundw
        case rel => exact FIN.out _ _ _ HB'.out
        case measure => simp [intOf]; omega
      have b34 : ((c.toNat : Int) == 34) = false := ne 34 e34
      by_cases e194 : c = 194
      · have b194 : ((c.toNat : Int) == 194) = true := by rw [e194]; rfl
        have hlt2 : k + 1 < t.size := HCC.out k (by rw [hcl, e194])
        obtain ⟨c1, hc1⟩ : ∃ c1, t[k + 1]'hlt2 = c1 := ⟨_, rfl⟩
        have hix1 : ∀ W : World, (Instr.index 9 (.string t) (.int .i64 ((k : Int) + 1))).run Tryd.prog W = .ok (.int .u8 (c1.toNat : Int)) W := by
          intro W
          rw [run_index_string W 9 t .i64 ((k : Int) + 1) Tryd.underlying9, dif_pos ⟨by omega, by omega⟩]
          have e : ((k : Int) + 1).toNat = k + 1 := by omega
          simp only [e, hc1]
        have b160 : ((c1.toNat : Int) == 160) = false := by
          rw [beq_eq_false_iff_ne]
          intro e
          have e2 : c1 = 160 := UInt8.toNat_inj.1 (by show c1.toNat = 160; omega)
          refine a194 ⟨e194, ?_⟩
          rw [List.head?_drop, List.getElem?_eq_getElem (by exact hlt2)]
          exact congrArg some (hc1.trans e2)
        have E194 := Lib.hid e194
        clear e194
        go_wp2_with (refine wpB_byte rfl _ _ rfl (.slice (some ⟨g, 0, none⟩) acc.length cap) acc rfl w HBR.out c _ (by first | rfl | (rw [E34.out]; rfl) | (rw [E194.out]; rfl)) rfl (by omega) (acc ++ [c]) rfl ?_)
        intro v' w' hb'
        obtain ⟨g', cap', _, _, rfl, _, _, _⟩ := hb'.at
        have HB' := Lib.hid hb'
        clear hb'
        go_wp2_with fail
        go_roundw
        case rel => exact FIN.out _ _ _ HB'.out
        case measure => simp [intOf]; omega
      have b194 : ((c.toNat : Int) == 194) = false := ne 194 e194
      go_wp2_with (refine wpB_byte rfl _ _ rfl (.slice (some ⟨g, 0, none⟩) acc.length cap) acc rfl w HBR.out c _ (by first | rfl | (rw [E34.out]; rfl) | (rw [E194.out]; rfl)) rfl (by omega) (acc ++ [c]) rfl ?_)
      intro v' w' hb'
      obtain ⟨g', cap', _, _, rfl, _, _, _⟩ := hb'.at
      have HB' := Lib.hid hb'
      clear hb'
      go_wp2_with fail
      go_roundw
      case rel => exact FIN.out _ _ _ HB'.out
      case measure => simp [intOf]; omega
    · have e : t.data.toList.drop k = [] := List.drop_eq_nil_of_le (by show t.size ≤ k; omega)
      have hfin : acc = out := by rw [← HFT.out, e, refEsc]; simp
      subst hfin
      go_wp2_with fail
      go_ret
      exact ⟨_, rfl, HBR.out⟩
end Go.Proofs.YtdafdoodegpdhaaDoor
