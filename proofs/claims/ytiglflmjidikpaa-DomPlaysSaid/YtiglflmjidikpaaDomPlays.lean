/- DomPlays: whatever calls, in whatever room: the tree answers and tells as the document's tree does. No conditions. -/
import Derived.Test.YtiglflmjidikpaaDoes
import Derived.Test.YtiglflmjidikpaaDomSound
namespace Go.Proofs.Ytiglflmjidikpaa
open Go Go.RowKit Go.BigFrame Go.ChangeShapes Go.WideShapes
set_option linter.unusedVariables false
set_option linter.unusedSimpArgs false

/-- two new trees side by side -/
theorem Jn.start {w0 w2 w3 : World} {own : Ow} {ptr : Nat → Nat} {tb rb : Nat} {T1 T2 : Tr} (hT : TreeAt w3 own ptr tb T1) (hO : Owned own w2) (h5 : ∀ b, own b ≠ none → w0.heap.size ≤ b) (hR : RefOn w3 (fun b => w2.heap.size ≤ b) rb T2) (x : Ext w0 w3) (h2 : w0.heap.size ≤ w2.heap.size) (h3 : w2.heap.size ≤ w3.heap.size) :
    Jn w0 w3 tb rb T1 T2 w0 (fun _ => False) := by
  have hn : ∀ b, w2.heap.size ≤ b → own b = none := fun b hb => by
    cases ho : own b with
    | none => rfl
    | some y => have := hO b (by simp [ho]); omega
  refine ⟨⟨own, ptr, _, hT, fun b hb => Nat.lt_of_lt_of_le (hO b hb) h3, hR.below, fun b hb => ⟨hn b hb.1, hb.2, by have := hb.1; omega⟩, h5, fun q y hq => ?_, fun b hb => hb.elim⟩, x⟩
  have hl := World.block_lt_of_cell? _ _ hq
  refine ⟨x.cells _ _ hq, ?_, fun hf => by have := hf.1; omega⟩
  cases ho : own q.block with
  | none => rfl
  | some y => have := h5 q.block (by simp [ho]); omega
/-- both trees have been copied: the copies lie below M, apart from the old tree -/
structure Twins (w0 w w2 : World) (M tb rb : Nat) (T : Tr) : Prop where
  out : ∃ (own : Ow) (ptr : Nat → Nat) (m : Nat), TreeAt w2 own ptr tb T ∧ (∀ b, own b ≠ none → w.heap.size ≤ b ∧ b < m) ∧ RefOn w2 (fun b => m ≤ b ∧ b < M) rb T ∧ m ≤ M ∧ w.heap.size ≤ m ∧ M ≤ w2.heap.size
theorem Twins.keep {w0 w w2 w3 : World} {M tb rb : Nat} {T : Tr} (h : Twins w0 w w2 M tb rb T) (k : ∀ b, w.heap.size ≤ b ∧ b < M → w3.heap[b]? = w2.heap[b]?) (hs : M ≤ w3.heap.size) : Twins w0 w w3 M tb rb T := by
  obtain ⟨own, ptr, m, h1, h2, h3, h4, h5, h6⟩ := h.out
  exact ⟨own, ptr, m, h1.keep fun b hb => k b ⟨(h2 b hb).1, by have := (h2 b hb).2; omega⟩, h2, h3.keep fun b hb hbl => k b ⟨by have := hb.1; omega, hb.2⟩, h4, h5, hs⟩
theorem Twins.size {w0 w w2 w3 g : World} {M tb rb tb1 rb1 : Nat} {T T1 T2 : Tr} (h : Twins w0 w w2 M tb rb T) (k : Jn w0 w3 tb1 rb1 T1 T2 g (fun b => w.heap.size ≤ b ∧ b < M)) : M ≤ w3.heap.size := by
  obtain ⟨_, _, _, _, _, _, _, _, _, h7⟩ := k.out
  obtain ⟨o, p, m, a1, a2, a3, a4, a5, a6⟩ := h.out
  obtain ⟨nv, b1, b2, _⟩ := a1.head
  have hlt := (h7 (M - 1) ⟨by have := (a2 tb (by rw [b2]; simp)); omega, by have := (a2 tb (by rw [b2]; simp)); omega⟩).2.2
  omega
theorem Twins.jn {w0 w w2 : World} {M tb rb : Nat} {T : Tr} (h : Twins w0 w w2 M tb rb T) (x : Ext w0 w2) (hw : w0.heap.size ≤ w.heap.size) : Jn w0 w2 tb rb T T w0 (fun _ => False) := by
  obtain ⟨own, ptr, m, h1, h2, h3, h4, h5, h6⟩ := h.out
  have hn : ∀ b, m ≤ b ∨ b < w0.heap.size → own b = none := fun b hb => by
    cases ho : own b with
    | none => rfl
    | some y => have := h2 b (by simp [ho]); omega
  refine ⟨⟨own, ptr, _, h1, fun b hb => by have := (h2 b hb).2; omega, h3, fun b hb => ⟨hn b (.inl hb.1), by have := hb.2; omega, by have := hb.1; omega⟩, fun b hb => by have := (h2 b hb).1; omega, fun q y hq => ?_, fun b hb => hb.elim⟩, x⟩
  have hl := World.block_lt_of_cell? _ _ hq
  exact ⟨x.cells _ _ hq, hn _ (.inr hl), fun hf => by have := hf.1; omega⟩
set_option maxRecDepth 100000 in
set_option maxHeartbeats 8000000 in
theorem domPlays_walk (cap : Int) (hc : (Lit.int .i64 cap).wf = true) (deep : Int) (hd : (Lit.int .i64 deep).wf = true) {w : World} (v : Value) (l : List Cl) (hl : CallsRd w l v) :
    Calls Try.prog 7 #[.int .i64 cap, .int .i64 deep, v] w (RBool true w) := by
  have HL := Lib.hid hl
  obtain ⟨ao, vcap, rfl, hc1, hc2, hno, hcl⟩ := hl
  have HNO := Lib.hid hno
  have HCL := Lib.hid hcl
  unfold maxLen at hc2
  clear hc hd hno hcl
  go_enter Try.func7, Try.ntmps7
  go_wp2_with fail
  refine (Heavy_any HL.out).mono ?_
  rintro e w1 ⟨b, rfl, hx1, hb⟩
  cases b with
  | true =>
    go_wp2_with (go_at_call 16; refine (awake_any _).mono ?_; rintro e w2 ⟨rfl, hx2⟩)
    go_ret
    exact ⟨rfl, hx1.trans hx2⟩
  | false =>
    have HG := Lib.hid (hb rfl).2
    have hl2 := (hb rfl).1
    have HX1 := Lib.hid hx1
    clear hb hx1
    by_cases hroom : 1 ≤ cap ∧ cap ≤ 2000 ∧ 0 ≤ deep ∧ deep ≤ 40
    · obtain ⟨h1, h2, h3, h4⟩ := hroom
      have hgood : GoodT (hostOf cap deep) := ⟨⟨_, hostOf_wf cap deep h1 h2 h3 h4⟩, fun i nd hi => by
        cases i with
        | zero => cases hi; simp [NdOk]
        | succ i => cases hi⟩
      have HGOOD := Lib.hid hgood
      clear hgood
      go_wp2_with fail
      refine (New_ok cap deep h1 h2 h3 h4 _).mono ?_
      rintro e w2 ⟨tb1, own1, ptr1, rfl, hT1, hO1, hx2, hf1⟩
      have HT1 := Lib.hid hT1
      have HO1 := Lib.hid hO1
      have HX2 := Lib.hid hx2
      have HF1 := Lib.hid hf1
      clear hT1 hO1 hx2 hf1
      go_wp2_with fail
      refine (rNew_ok cap deep h1 h2 h3 h4 _).mono ?_
      rintro e w3 ⟨rb1, rfl, hx3, hr3⟩
      have hj0 : Jn w w3 tb1 rb1 (hostOf cap deep) (hostOf cap deep) w (fun _ => False) :=
        Jn.start (HT1.out.keep (hx3.keep HO1.out)) HO1.out (fun b hb => by have := HF1.out b hb; have := HX1.out.size; omega) hr3 ((HX1.out.trans HX2.out).trans hx3) (by have h1 := HX1.out.size; have h2 := HX2.out.size; omega) hx3.size
      have HJ0 := Lib.hid hj0
      clear hj0 hx3 hr3 h1 h2 h3 h4
      go_wp2_with fail
      go_loopw [7, 9, 10, 11, 12, 13, 14] (fun t r i _ _ _ _ wr => ∃ (k tb rb : Nat) (T : Tr), k ≤ l.length ∧ i = .int .i64 k ∧ t = .pointer (some ⟨tb, 0, none⟩) ∧ r = .pointer (some ⟨rb, 0, none⟩) ∧ GoodT T ∧ Jn w wr tb rb T T w (fun _ => False)) (fun _ _ i _ _ _ _ _ => l.length - (intOf i).toNat)
      case atStart => exact ⟨0, tb1, rb1, _, Nat.zero_le _, rfl, rfl, rfl, HGOOD.out, HJ0.out⟩
      case round =>
        obtain ⟨k, tb, rb, T, hk, rfl, rfl, rfl, hgt, hj⟩ := hrel
        clear HJ0
        have HGT := Lib.hid hgt
        have HJ := Lib.hid hj
        clear hgt hj
        by_cases hkk : k < l.length
        · obtain ⟨c, hc⟩ : ∃ c, l[k]? = some c := ⟨l[k], by simp [hkk]⟩
          have HLC := Lib.hid (HG.out c (List.mem_of_getElem? hc))
          cases ao with
          | none => exact absurd (HNO.out rfl) (by omega)
          | some a =>
            obtain ⟨b, off, sp⟩ := a
            obtain ⟨av, c6, c7, c8, c9, q0, q1, q2, q3, q4, q5, q6, q7, q8, q9, hra, hrn⟩ := HCL.out _ rfl k c hc
            have X := HJ.out.ext.cells
            replace q0 := X _ _ q0
            replace q1 := X _ _ q1
            replace q2 := X _ _ q2
            replace q3 := X _ _ q3
            replace q4 := X _ _ q4
            replace q5 := X _ _ q5
            replace q6 := X _ _ q6
            replace q7 := X _ _ q7
            replace q8 := X _ _ q8
            replace q9 := X _ _ q9
            rw [add_pos _ _ (by decide)] at q1 q2 q3 q4 q5 q6 q7 q8 q9
            obtain ⟨aa, acap, eav, _⟩ := hra.len_of
            subst eav
            obtain ⟨n0, n1, en, hna, hnk⟩ := hrn.open
            obtain ⟨naa, nac, en0, _⟩ := hna.len_of
            obtain ⟨nka, nkc, en1, _⟩ := hnk
            subst en0 en1
            cases en
            have HRA := Lib.hid hra
            have HRN := Lib.hid hrn
            clear X hra hrn hc hna
            obtain ⟨m1, m2⟩ := tmod10 c.what
            have e1 : IntKind.i64.wrap (c.what.tmod 10) = c.what.tmod 10 := IntWalk.i64_in _ (by omega)
            have e2 : IntKind.i64.wrap (c.what.tmod 10 + 10) = c.what.tmod 10 + 10 := IntWalk.i64_in _ (by omega)
            obtain ⟨m, hm⟩ : ∃ m, (c.what.tmod 10 + 10).tmod 10 = m := ⟨_, rfl⟩
            have hm0 : 0 ≤ m ∧ m < 10 := by rw [← hm, Int.tmod_eq_emod_of_nonneg (by omega)]; omega
            have e3 : IntKind.i64.wrap ((c.what.tmod 10 + 10).tmod 10) = m := by rw [hm]; exact IntWalk.i64_in _ (by omega)
            rw [Int.tmod_eq_emod_of_nonneg (by omega), Int.add_emod_right] at hm
            cases h9 : (m == 9) with
            | true =>
              obtain ⟨own, ptr, F, k1, k2, k3, k4, k5, k6, k7⟩ := HJ.out.out
              obtain ⟨⟨d, hw⟩, ha⟩ := HGT.out
              have CPD := Lib.hid (Copy_any k1 k2 hw fun i nd hi => (ha i nd hi).1)
              have CPR := Lib.hid (fun (u : World) (x : Ext wr u) => rCopy (HJ.out.rat.ext x) hw ha)
              obtain ⟨tx, ter, T1, hG1, pd1, _⟩ := Text_pair HGT.out ⟨#[108, 101, 102, 116, 32, 98, 101, 104, 105, 110, 100]⟩ (by decide)
              obtain ⟨ier, T2, hG2, pd2, _⟩ := Insert_pair hG1 0 0 tx
              have PD1 := Lib.hid pd1
              have PD2 := Lib.hid pd2
              clear k1 k2 k3 k4 k5 k6 k7 hw ha hG1 hG2 pd1 pd2 q1 q2 q3 q4 q5 q6 q7 q8 q9
              go_wp2_with fail
              refine CPD.out.mono ?_
              rintro e u1 ⟨tb2, own2, ptr2, rfl, hT2, hO2, hxu1, hf2⟩
              have HT2 := Lib.hid hT2
              have HO2 := Lib.hid hO2
              have HF2 := Lib.hid hf2
              have HU1 := Lib.hid hxu1
              clear hT2 hO2 hf2 hxu1
              go_wp2_with fail
              refine (CPR.out _ HU1.out).mono ?_
              rintro e u2 ⟨rb2, rfl, hxu2, hr2⟩
              have hJ2 := Lib.hid (HJ.out.grow (HU1.out.trans hxu2))
              have hTw : Twins w wr u2 u2.heap.size tb2 rb2 T := ⟨own2, ptr2, u1.heap.size, HT2.out.keep (hxu2.keep HO2.out), fun b hb => ⟨HF2.out b hb, HO2.out b hb⟩, hr2.below, hxu2.size, HU1.out.size, Nat.le_refl _⟩
              have HTW := Lib.hid hTw
              clear hTw hxu2 hr2
              go_wp2_with fail
              refine (hJ2.out.domL (v := .tuple #[.int .i64 tx, .int .i64 ter]) (T' := T1) fun own ptr h1 h2 h3 => PD1.out _ own ptr tb h1 h2).mono ?_
              rintro e u3 ⟨⟨rfl, hj3⟩, hk3⟩
              have HTW3 := Lib.hid (HTW.out.keep hk3 (Twins.size HTW.out hj3))
              have HJ3 := Lib.hid hj3
              clear hj3 hk3
              go_wp2_with fail
              refine (HJ3.out.domL (v := .int .i64 ier) (T' := T2) fun own ptr h1 h2 h3 => PD2.out _ own ptr tb h1 h2).mono ?_
              rintro e u4 ⟨⟨rfl, hj4⟩, hk4⟩
              have hs4 := Twins.size HTW3.out hj4
              have HNJ := Lib.hid ((HTW3.out.keep (fun b hb => hk4 b hb) hs4).jn hj4.ext HJ.out.ext.size)
              clear hj4 hk4 hs4
              obtain ⟨⟨d', hw'⟩, ha'⟩ := HGT.out
              have HW := Lib.hid hw'
              have HAT := Lib.hid ha'
              clear hw' ha'
              go_wp2_with fail
              refine (Tells_ok HNJ.out.tat HNJ.out.rat HW.out HAT.out).mono ?_
              rintro e u5 ⟨rfl, hxu⟩
              have HJ5 := Lib.hid (HNJ.out.more hxu)
              clear hxu
              go_wp2_with fail
              go_roundw
              case rel => exact ⟨k + 1, tb2, rb2, T, by omega, by go_num, rfl, rfl, ⟨⟨d', HW.out⟩, HAT.out⟩, HJ5.out⟩
              case measure => simp [intOf]; omega
            | false =>
              go_wp2_with fail
              refine (Does_ok HGT.out HJ.out HLC.out HRA.out HRN.out).mono ?_
              rintro e u1 ⟨rfl, T', hG', hj'⟩
              obtain ⟨⟨d', hw'⟩, ha'⟩ := hG'
              have HW := Lib.hid hw'
              have HAT := Lib.hid ha'
              have HJ' := Lib.hid hj'
              clear hw' ha' hj'
              go_wp2_with fail
              refine (Tells_ok HJ'.out.tat HJ'.out.rat HW.out HAT.out).mono ?_
              rintro e u2 ⟨rfl, hxu⟩
              have HJ2 := Lib.hid (HJ'.out.more hxu)
              clear hxu
              go_wp2_with fail
              go_roundw
              case rel => exact ⟨k + 1, tb, rb, T', by omega, by go_num, rfl, rfl, ⟨⟨d', HW.out⟩, HAT.out⟩, HJ2.out⟩
              case measure => simp [intOf]; omega
        · have HXX := Lib.hid HJ.out.ext
          go_wp2_with (go_at_call 16; refine (awake_any _).mono ?_; rintro e w4 ⟨rfl, hx4⟩)
          go_ret
          exact ⟨rfl, HXX.out.trans hx4⟩
    · go_wp2_with fail
      refine (New_no cap deep hroom _).mono ?_
      rintro e w2 ⟨rfl, hx2⟩
      go_wp2_with fail
      refine (rNew_no cap deep hroom _).mono ?_
      rintro e w3 ⟨rfl, rfl⟩
      go_wp2_with (go_at_call 16; refine (awake_any _).mono ?_; rintro e w4 ⟨rfl, hx4⟩)
      go_ret
      exact ⟨rfl, (HX1.out.trans hx2).trans hx4⟩
end Go.Proofs.Ytiglflmjidikpaa
