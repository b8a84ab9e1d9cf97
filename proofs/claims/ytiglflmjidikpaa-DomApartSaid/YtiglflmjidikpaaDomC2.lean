/- Package dom: Copy. -/
import Derived.Test.YtiglflmjidikpaaDomC1
import Derived.Deep.CutBlock
namespace Go.Proofs.Ytiglflmjidikpaa
open Go Go.RowKit Go.BigFrame
set_option linter.unusedVariables false
set_option linter.unusedSimpArgs false

/-- a tree of its own is answered, that tells the same -/
def CopyIs (w : World) (T : Tr) (e : Ending) (w' : World) : Prop := ∃ tb own ptr, e = .returned (.pointer (some ⟨tb, 0, none⟩)) ∧ TreeAt w' own ptr tb T ∧ Owned own w' ∧ Ext w w' ∧ ∀ b, own b ≠ none → w.heap.size ≤ b
set_option maxRecDepth 100000 in
set_option maxHeartbeats 8000000 in
theorem Copy_any {w : World} {own : Ow} {ptr : Nat → Nat} {tb : Nat} {T : Tr} (hT : TreeAt w own ptr tb T) (hO : Owned own w) {d : Nat → Nat} (hw : WF T d) (hla : ∀ (i : Nat) (nd : Nd), T.nodes[i]? = some (some nd) → nd.attrs.length ≤ 60000) :
    Calls Try.prog 20 #[.pointer (some ⟨tb, 0, none⟩)] w (CopyIs w T) := by
  obtain ⟨nv, hb, hob, hrow⟩ := hT.head
  obtain ⟨an, capn, rfl, hcn, hcm⟩ := hrow.len
  have t0 := cellOf hb (i := 0) (v := .int .i64 T.cap) rfl
  have t1 := cellOf hb (i := 1) (v := .int .i64 T.deep) rfl
  have t2 := cellOf hb (i := 2) (v := .int .i64 T.count) rfl
  have t3 := cellOf hb (i := 3) (v := .slice an T.nodes.length capn) rfl
  have hlen := hw.small.len
  obtain ⟨i0, hi, hz0, hz1, hz2⟩ := info_parts infoP
  have Hi := Lib.hid hi
  have Hz0 := Lib.hid hz0
  have Hz1 := Lib.hid hz1
  have Hz2 := Lib.hid hz2
  have HB := Lib.hid hb
  have HT := Lib.hid hT
  have HO := Lib.hid hO
  have HW := Lib.hid hw
  have HLA := Lib.hid hla
  have HRW := Lib.hid hrow
  unfold maxLen at hcm
  clear hi hz0 hz1 hz2 hT hO hw hla hb hrow
  go_enter Try.func20, Try.ntmps20
  go_wp2_with fail
  go_region
  have hx0 : Ext w (w.alloc (.cells #[.int .i64 T.cap, .int .i64 T.deep, .int .i64 T.count, .slice none 0 0] 119)).drew := ((Ext.refl w).alloc _).drew
  have hs0 : CopyAt w w.heap.size T 0 (w.alloc (.cells #[.int .i64 T.cap, .int .i64 T.deep, .int .i64 T.count, .slice none 0 0] 119)).drew := by
    refine ⟨hx0, fun b => if b = w.heap.size then some (0, 0) else none, fun _ => 0, ⟨⟨.slice none 0 0, heap_alloc_new w _, if_pos rfl, ⟨rfl, .inl ⟨rfl, none, rfl⟩⟩⟩, fun i nd h => by simp at h⟩, fun b hb => ?_, fun b hb => ?_⟩
    · have hb' : (if b = w.heap.size then some ((0 : Nat), (0 : Nat)) else none) ≠ none := hb
      split at hb'
      · show b < (w.alloc _).heap.size; simp; omega
      · exact absurd rfl hb'
    · have hb' : (if b = w.heap.size then some ((0 : Nat), (0 : Nat)) else none) ≠ none := hb
      split at hb'
      · omega
      · exact absurd rfl hb'
  obtain ⟨w0, hw0⟩ : ∃ w0 : World, w0 = (w.alloc (.cells #[.int .i64 T.cap, .int .i64 T.deep, .int .i64 T.count, .slice none 0 0] 119)).drew := ⟨_, rfl⟩
  rw [← hw0] at hx0 hs0 ⊢
  have t3' := hx0.cell t3
  have HS0 := Lib.hid hs0
  clear hw0 hx0 hs0 t0 t1 t2 t3
  go_wp2_with fail
  go_loopw [5, 6, 28] (fun _ _ i wr => ∃ k : Nat, k ≤ T.nodes.length ∧ i = .int .i64 k ∧ CopyAt w w.heap.size T k wr) (fun _ _ i _ => T.nodes.length - (intOf i).toNat)
  case atStart => exact ⟨0, Nat.zero_le _, rfl, HS0.out⟩
  case round =>
    obtain ⟨k, hk, rfl, xr, own2, ptr2, hT2, hO2, hf2⟩ := hrel
    have HT2 := Lib.hid hT2
    have HO2 := Lib.hid hO2
    have HF2 := Lib.hid hf2
    have HXR := Lib.hid xr
    have hlk : (T.nodes.take k).length = k := by rw [List.length_take]; omega
    obtain ⟨nv2, hb2, ho2, hrow2⟩ := hT2.head
    obtain ⟨an2, capn2, e2, hcn2, hcm2⟩ := hrow2.len
    subst e2
    have u3 := cellOf hb2 (i := 3) (v := .slice an2 (T.nodes.take k).length capn2) rfl
    have fu3 := freeOf hb2 3
    have lt2 := cell_lt u3
    rw [hlk] at u3
    have hrow3 : RowP wr (fun g => own2 g = some (1, 0)) 110 1 (.slice an2 k capn2) k (nodeVals ptr2 (T.nodes.take k)) := by
      have h := hrow2
      rw [show ({ T with nodes := T.nodes.take k } : Tr).nodes.length = k from hlk] at h
      exact h
    have HRW2 := Lib.hid hrow3
    have HB2 := Lib.hid hb2
    have HOT2 := Lib.hid ho2
    have HLK := Lib.hid hlk
    unfold maxLen at hcm2
    clear hT2 hO2 hf2 hrow2 hrow3 hb2 ho2 hlk
    by_cases hlt : k < T.nodes.length
    · obtain ⟨y, hy⟩ : ∃ y, T.nodes[k]? = some y := ⟨T.nodes[k], by simp [hlt]⟩
      obtain ⟨g, gcap, e, hc⟩ := HRW.out.cell (i := k) (x := nodeVal ptr k y) (by simp [nodeVals, List.getElem?_mapIdx, hy])
      cases e
      have hcr := HXR.out.cell hc
      have HY := Lib.hid hy
      clear hc hy xr
      cases y with
      | none =>
        simp only [nodeVal] at hcr
        go_wp2_with (at_builtin; refine wpList_append_row rfl _ _ 117 rfl 110 i0 (.pointer none) 1 8 Try.underlying117 Hi.out Hz0.out Hz1.out Hz2.out rfl (by decide) (fun b => own2 b = some (1, 0)) (.slice an2 k capn2) k (nodeVals ptr2 (T.nodes.take k)) rfl (RowP.ext HRW2.out ((Ext.refl _).alloc _)) ⟨wr.heap.size, 0, none⟩ 1 1 [.pointer none] rfl rfl ?_ ?_ (by decide) ?_ ?_ ?_)
        all_goals first
          | exact cell_one_new _ _ _
          | (simp [Value.oneCell']; done)
          | (unfold maxLen; omega)
          | omega
          | skip
        intro v' wA row hrA hgA hrowA
        have hrowl : ∀ b, row = some b → b ≠ w.heap.size := fun b hb e => by have := hrowA b hb; rw [e, HOT2.out] at this; cases this
        have bA := ((hgA.block w.heap.size (by simp; omega) (fun e => hrowl _ e.symm rfl)).trans (Below.heap_alloc _ _ _ lt2)).trans HB2.out
        have uA := cellOf bA (i := 3) (v := .slice an2 (T.nodes.take k).length capn2) rfl
        have fA := freeOf bA 3
        obtain ⟨a7, cap7, e7, _⟩ := hrA.rd.len_of
        subst e7
        have HFIN := Lib.hid (copy_step HXR.out HT2.out HO2.out HF2.out HY.out 0 ((Ext.refl _).alloc _) (fun nd h => by cases h) (by simp only [World.size_alloc]; exact hrA) hgA hrowA)
        clear hrA hgA hrowA hrowl bA
        go_wp2_with fail
        go_roundw
        case rel => exact ⟨k + 1, by omega, by go_num, HFIN.out⟩
        case measure => simp [intOf]; omega
      | some nd =>
        simp only [nodeVal] at hcr
        obtain ⟨av, kv, bn, on, har, hkr⟩ := HT.out.node k nd HY.out
        obtain ⟨aa, acap, ea, _⟩ := har.len
        obtain ⟨ka, kcap, ek, _⟩ := hkr.len
        subst ea ek
        have hla := HLA.out k nd HY.out
        have hlk := HW.out.kids_len HY.out
        have bnr := Below.block HXR.out _ (HO.out (ptr k) (by simp [on])) |>.trans bn
        have n0 := cellOf bnr (i := 0) (v := .int .i64 nd.tag) rfl
        have n1 := cellOf bnr (i := 1) (v := .slice aa nd.attrs.length acap) rfl
        have n2 := cellOf bnr (i := 2) (v := .string nd.text) rfl
        have n3 := cellOf bnr (i := 3) (v := .slice ka nd.kids.length kcap) rfl
        have n4 := cellOf bnr (i := 4) (v := .int .i64 nd.parent) rfl
        have HAR := Lib.hid har.rd
        have HKR := Lib.hid hkr.rd
        clear bn on har hkr bnr
        go_upto_region 9 with fail
        go_cut [] (fun wx => Ext wr wx ∧ NodeNew wx wr.heap.size nd)
        case first =>
          have bM := heap_alloc_new wr (.cells #[.int .i64 nd.tag, .slice aa nd.attrs.length acap, .string nd.text, .slice ka nd.kids.length kcap, .int .i64 nd.parent] 115)
          have xm := (Ext.refl wr).alloc (.cells #[.int .i64 nd.tag, .slice aa nd.attrs.length acap, .string nd.text, .slice ka nd.kids.length kcap, .int .i64 nd.parent] 115)
          have szm : wr.heap.size < (wr.alloc (.cells #[.int .i64 nd.tag, .slice aa nd.attrs.length acap, .string nd.text, .slice ka nd.kids.length kcap, .int .i64 nd.parent] 115)).heap.size := by simp
          obtain ⟨wm, hwm⟩ : ∃ wm : World, wm = wr.alloc (.cells #[.int .i64 nd.tag, .slice aa nd.attrs.length acap, .string nd.text, .slice ka nd.kids.length kcap, .int .i64 nd.parent] 115) := ⟨_, rfl⟩
          rw [← hwm] at bM xm szm ⊢
          have m1 := xm.cell n1
          have m3 := xm.cell n3
          have nk : wr.heap.size ≠ ptr k := Ne.symm (Nat.ne_of_lt (cell_lt n1))
          have nk' := Ne.symm nk
          have BM := Lib.hid bM
          have XM := Lib.hid xm
          have XWM := Lib.hid (HXR.out.trans xm)
          have SZM := Lib.hid szm
          clear hwm bM xm szm n0 n1 n2 n3 n4
          go_region_held3 (fun w' => w'.cell? ⟨ptr k, 1, none⟩ = some (.slice aa nd.attrs.length acap) ∧ w'.cell? ⟨ptr k, 3, none⟩ = some (.slice ka nd.kids.length kcap))
            (first | exact ⟨m1, m3⟩ | exact hkeep | go_keep)
            (first
            | (go_at_call 81; refine (cloneA_any (RowRd.ext HAR.out (XWM.out.trans (by first | exact hyI | exact (Ext.refl wm).drew))) hla (attrCells_one _)).mono ?_; rintro e w5 ⟨va, rfl, hra, hxA⟩; have hyA : Ext wm w5 := Ext.trans (by first | exact hyI | exact (Ext.refl wm).drew) hxA; obtain ⟨a8, cap8, e8, _⟩ := RowP.len_of' hra; subst e8; replace hra := RowP.imp hra (q := fun g => wr.heap.size < g) (fun g _ hg => Nat.lt_of_lt_of_le SZM.out (Nat.le_trans (Ext.size (by first | exact hyI | exact (Ext.refl wm).drew)) hg)); have HRA := Lib.hid hra; clear hra; (try replace HRK := Lib.hid (RowP.ext HRK.out hxA)); have hkeep := And.intro (hyA.cell m1) (hyA.cell m3); have BA := Lib.hid (hyA.block BM.out); have q1 := cellOf BA.out (i := 1) (v := .slice aa nd.attrs.length acap) rfl; have q3 := cellOf BA.out (i := 3) (v := .slice ka nd.kids.length kcap) rfl; have r1 := freeOf BA.out 1; have r3 := freeOf BA.out 3; clear hxA)
            | (go_at_call 82; refine (cloneI_any (RowRd.ext HKR.out (XWM.out.trans (by first | exact hyA | exact (Ext.refl wm).drew))) (by omega) (ints_one _)).mono ?_; rintro e w6 ⟨vk, rfl, hrk, hxI⟩; have hyI : Ext wm w6 := Ext.trans (by first | exact hyA | exact (Ext.refl wm).drew) hxI; obtain ⟨a9, cap9, e9, _⟩ := RowP.len_of' hrk; subst e9; replace hrk := RowP.imp hrk (q := fun g => wr.heap.size < g) (fun g _ hg => Nat.lt_of_lt_of_le SZM.out (Nat.le_trans (Ext.size (by first | exact hyA | exact (Ext.refl wm).drew)) hg)); have HRK := Lib.hid hrk; clear hrk; (try replace HRA := Lib.hid (RowP.ext HRA.out hxI)); have hkeep := And.intro (hyI.cell m1) (hyI.cell m3); have BA := Lib.hid (hyI.block BM.out); have q1 := cellOf BA.out (i := 1) (v := .slice aa nd.attrs.length acap) rfl; have q3 := cellOf BA.out (i := 3) (v := .slice ka nd.kids.length kcap) rfl; have r1 := freeOf BA.out 1; have r3 := freeOf BA.out 3; clear hxI))
          all_goals go_wp2_with fail
          all_goals go_meet
          all_goals first
            | exact ⟨((XM.out.trans hyI).setCell (Nat.le_refl _) _).setCell (Nat.le_refl _) _, (NodeNew.of BA.out HRA.out HRK.out).1⟩
            | exact ⟨((XM.out.trans hyA).setCell (Nat.le_refl _) _).setCell (Nat.le_refl _) _, (NodeNew.of BA.out HRA.out HRK.out).1⟩
            | exact ⟨((XM.out.trans hyI).setCell (Nat.le_refl _) _).setCell (Nat.le_refl _) _, (NodeNew.of BA.out HRA.out HRK.out).2⟩
            | exact ⟨((XM.out.trans hyA).setCell (Nat.le_refl _) _).setCell (Nat.le_refl _) _, (NodeNew.of BA.out HRA.out HRK.out).2⟩
        case rest =>
          obtain ⟨hwx, hnew⟩ := hcut
          have u3w := hwx.cell u3
          go_wp2_with (at_builtin; refine wpList_append_row rfl _ _ 117 rfl 110 i0 (.pointer none) 1 8 Try.underlying117 Hi.out Hz0.out Hz1.out Hz2.out rfl (by decide) (fun b => own2 b = some (1, 0)) (.slice an2 k capn2) k (nodeVals ptr2 (T.nodes.take k)) rfl (RowP.ext HRW2.out (hwx.alloc _)) ⟨wc.heap.size, 0, none⟩ 1 1 [.pointer (some ⟨wr.heap.size, 0, none⟩)] rfl rfl ?_ ?_ (by decide) ?_ ?_ ?_)
          all_goals first
            | exact cell_one_new _ _ _
            | (simp [Value.oneCell']; done)
            | (unfold maxLen; omega)
            | omega
            | skip
          intro v' wA row hrA hgA hrowA
          have hrowl : ∀ b, row = some b → b ≠ w.heap.size := fun b hb e => by have := hrowA b hb; rw [e, HOT2.out] at this; cases this
          have bA := ((hgA.block w.heap.size (by have := hwx.size; simp; omega) (fun e => hrowl _ e.symm rfl)).trans (Below.block (hwx.alloc _) _ lt2)).trans HB2.out
          have uA := cellOf bA (i := 3) (v := .slice an2 (T.nodes.take k).length capn2) rfl
          have fA := freeOf bA 3
          obtain ⟨a7, cap7, e7, _⟩ := hrA.rd.len_of
          subst e7
          have HFIN := Lib.hid (copy_step HXR.out HT2.out HO2.out HF2.out HY.out wr.heap.size (hwx.alloc _) (fun nd' h => by cases h; exact ⟨Nat.le_refl _, hnew.ext ((Ext.refl _).alloc _)⟩) (by simp only [World.size_alloc]; exact hrA) hgA hrowA)
          clear hrA hgA hrowA hrowl bA
          go_wp2_with fail
          go_roundw
          case rel => exact ⟨k + 1, by omega, by go_num, HFIN.out⟩
          case measure => simp [intOf]; omega
    · go_wp2_with fail
      go_ret
      obtain ⟨hTl, hkk⟩ : T.nodes.take k = T.nodes ∧ True := ⟨List.take_of_length_le (by omega), trivial⟩
      have h := HT2.out
      rw [hTl] at h
      exact ⟨_, own2, ptr2, rfl, h, HO2.out, HXR.out, HF2.out⟩
end Go.Proofs.Ytiglflmjidikpaa
