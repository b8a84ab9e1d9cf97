/- quillworklaw09: both: a tree and the document's; OrderNodes. No conditions. -/
import Derived.Test.YtiglflmjidikpaaON
import Derived.Test.YtiglflmjidikpaaDoes
import Derived.Test.YtiglflmjidikpaaDomSound
namespace Go.Proofs.Ytiglflmjidikpaa
open Go Go.RowKit Go.BigFrame Go.ChangeShapes Go.WideShapes
set_option linter.unusedVariables false
set_option linter.unusedSimpArgs false

theorem ints_same9 {w : World} {v v' : Value} {p : List Int} (h : RowRd w 1 v p.length (p.map (Value.int .i64))) (h' : RowRd w 1 v' p.length (p.map (Value.int .i64))) (hp : p.length ≤ 60000) :
    Calls Try.prog 71 #[v, v'] w (RVal (.bool true) w) := by
  have q := Ints_any h h' hp hp
  rw [decide_eq_true rfl] at q
  exact q
/-- two new trees side by side -/
theorem jn_start {w0 w2 w3 : World} {own : Ow} {ptr : Nat → Nat} {tb rb : Nat} {T1 T2 : Tr} (hT : TreeAt w3 own ptr tb T1) (hO : Owned own w2) (h5 : ∀ b, own b ≠ none → w0.heap.size ≤ b) (hR : RefOn w3 (fun b => w2.heap.size ≤ b) rb T2) (x : Ext w0 w3) (h2 : w0.heap.size ≤ w2.heap.size) (h3 : w2.heap.size ≤ w3.heap.size) :
    Jn w0 w3 tb rb T1 T2 w0 (fun _ => False) := by
  have hn : ∀ b, w2.heap.size ≤ b → own b = none := fun b hb => by
    cases ho : own b with
    | none => rfl
    | some y => have := hO b (by simp [ho]); omega
  refine ⟨⟨own, ptr, _, hT, fun b hb => Nat.lt_of_lt_of_le (hO b hb) h3, hR.below, fun b hb => ⟨hn b hb.1, hb.2, by have := hb.1; omega⟩, h5, fun q y hq => ?_, fun b hb => hb.elim⟩, x⟩
  have hl := World.block_lt_of_cell? _ _ hq
  refine ⟨x.cells _ _ hq, ?_, fun hf => by have := hf.1; omega⟩
  cases ho : own q.block with
  | none => rfl
  | some y => have := h5 q.block (by simp [ho]); omega
theorem i64_bounds {n : Int} (h : (Lit.int .i64 n).wf = true) : -9223372036854775808 ≤ n ∧ n ≤ 9223372036854775807 := by
  simp [Lit.wf, IntKind.min, IntKind.max, IntKind.signed, IntKind.bits] at h
  omega
/-- numbers that are handed in -/
def IntsRd (w : World) (p : List Int) (v : Value) : Prop := RowRd w 1 v p.length (p.map (Value.int .i64)) ∧ p.length ≤ maxLen ∧ ∀ i ∈ p, -9223372036854775808 ≤ i ∧ i ≤ 9223372036854775807
section
variable {H : Type} {enc : TypeId × Value → H} {w : World} {base : Nat} {spare : Nat → Bool} {held : Bool}
theorem read_ints {fuel : Nat} {cs : List Value} {x : DataW H × List MemPlace} (h : DataW.trod enc Try.prog w base spare held fuel 70 cs = some x) :
    ∃ (v : Value) (l : List Int), cs = [v] ∧ IntsRd w l v := by
  rcases slice_elems Try.underlying70 h with rfl | ⟨a, len, cap, n, _, rfl, hl, hm, hi⟩
  · exact ⟨_, [], rfl, ⟨rfl, none, 0, rfl, Nat.le_refl _, fun _ => ⟨rfl, rfl⟩, fun a h => by cases h⟩, Nat.zero_le _, fun i hi => by cases hi⟩
  · have hC : Try.prog.cellsOf 3 = 1 := by kernel_rfl
    obtain ⟨l, h1, h2⟩ := exists_row len (fun i (z : Int) => w.cell? (a.add i) = some (.int .i64 z) ∧ -9223372036854775808 ≤ z ∧ z ≤ 9223372036854775807) fun i hil => by
      obtain ⟨cs', y, hc, ht⟩ := hi i (by omega)
      rw [hC] at hc
      obtain ⟨z, e, _, hwf⟩ := DataW.trod_int Try.underlying3 (x := y) ht
      subst e
      refine ⟨z, ?_, ?_⟩
      · have := cells_at hc (i := 0) (v := .int .i64 z) rfl
        rw [Nat.mul_one] at this
        exact this
      · exact i64_bounds hwf
    refine ⟨_, l, rfl, ⟨by simp, some a, cap, by rw [h1], by omega, (fun h => by cases h), fun a' ha j x hx => ?_⟩, by omega, fun i hi => ?_⟩
    · cases ha
      rw [List.getElem?_map] at hx
      obtain ⟨z, hz, rfl⟩ := Option.map_eq_some_iff.1 hx
      exact (h2 j z hz).1
    · obtain ⟨j, hj⟩ := List.getElem?_of_mem hi
      exact (h2 j i hj).2
end
set_option maxRecDepth 20000 in
theorem keep_ints {H : Type} {enc : TypeId × Value → H} {w : World} {b0 base : Nat} {spare : Nat → Bool} {held : Bool} {v : Value} {d : DataW H} {p : List MemPlace}
    (hv : Value.okWide Try.prog w .any b0 70 v) (h : DataW.Trod enc Try.prog w base spare held 70 v d p) : ∃ l, IntsRd w l v := by
  obtain ⟨a, len, cap, rfl⟩ := okWide_slice Try.underlying70 hv
  obtain ⟨fuel, h⟩ := h
  have h' : DataW.trod enc Try.prog w base spare held fuel 70 [.slice a len cap] = some (d, p) := h
  obtain ⟨v', l, e, hl⟩ := read_ints h'
  injection e with e
  exact ⟨l, e ▸ hl⟩
def BothIs (w : World) (e : Ending) (w' : World) : Prop := (e = .returned (.tuple #[.pointer none, .pointer none]) ∧ Ext w w') ∨
  ∃ tb rb T, e = .returned (.tuple #[.pointer (some ⟨tb, 0, none⟩), .pointer (some ⟨rb, 0, none⟩)]) ∧ GoodT T ∧ Jn w w' tb rb T T w (fun _ => False)
set_option maxRecDepth 100000 in
set_option maxHeartbeats 8000000 in
theorem both_any (cap deep : Int) {w : World} (v : Value) (l : List Cl) (hl : CallsRd w l v) : Calls Try.prog 66 #[.int .i64 cap, .int .i64 deep, v] w (BothIs w) := by
  have HL := Lib.hid hl
  obtain ⟨ao, vcap, rfl, hc1, hc2, hno, hcl⟩ := hl
  have HNO := Lib.hid hno
  have HCL := Lib.hid hcl
  unfold maxLen at hc2
  clear hno hcl
  go_enter Try.func66, Try.ntmps66
  go_wp2_with fail
  refine (Heavy_any HL.out).mono ?_
  rintro e w1 ⟨b, rfl, hx1, hb⟩
  cases b with
  | true =>
    go_wp2_with fail
    go_ret2
    exact .inl ⟨rfl, hx1⟩
  | false =>
    have HG := Lib.hid (hb rfl).2
    have hl2 := (hb rfl).1
    have HX1 := Lib.hid hx1
    clear hb hx1
    by_cases hroom : 1 ≤ cap ∧ cap ≤ 2000 ∧ 0 ≤ deep ∧ deep ≤ 40
    · obtain ⟨h1, h2, h3, h4⟩ := hroom
      have hgood : GoodT (hostOf cap deep) := ⟨⟨_, hostOf_wf cap deep h1 h2 h3 h4⟩, fun i nd hi => by
        cases i with
        | zero => cases hi; simp [NdOk]
        | succ i => cases hi⟩
      have HGOOD := Lib.hid hgood
      clear hgood
      go_wp2_with fail
      refine (New_ok cap deep h1 h2 h3 h4 _).mono ?_
      rintro e w2 ⟨tb, own1, ptr1, rfl, hT1, hO1, hx2, hf1⟩
      have HT1 := Lib.hid hT1
      have HO1 := Lib.hid hO1
      have HX2 := Lib.hid hx2
      have HF1 := Lib.hid hf1
      clear hT1 hO1 hx2 hf1
      go_wp2_with fail
      refine (rNew_ok cap deep h1 h2 h3 h4 _).mono ?_
      rintro e w3 ⟨rb, rfl, hx3, hr3⟩
      have hj0 : Jn w w3 tb rb (hostOf cap deep) (hostOf cap deep) w (fun _ => False) :=
        jn_start (HT1.out.keep (hx3.keep HO1.out)) HO1.out (fun b hb => by have := HF1.out b hb; have := HX1.out.size; omega) hr3 ((HX1.out.trans HX2.out).trans hx3) (by have h1 := HX1.out.size; have h2 := HX2.out.size; omega) hx3.size
      have HJ0 := Lib.hid hj0
      clear hj0 hx3 hr3 h1 h2 h3 h4
      go_wp2_with fail
      go_loopw [11] (fun i wr => ∃ (k : Nat) (T : Tr), k ≤ l.length ∧ i = .int .i64 k ∧ GoodT T ∧ Jn w wr tb rb T T w (fun _ => False)) (fun i _ => l.length - (intOf i).toNat)
      case atStart => exact ⟨0, _, Nat.zero_le _, rfl, HGOOD.out, HJ0.out⟩
      case round =>
        obtain ⟨k, T, hk, rfl, hgt, hj⟩ := hrel
        clear HJ0
        have HGT := Lib.hid hgt
        have HJ := Lib.hid hj
        clear hgt hj
        by_cases hkk : k < l.length
        · obtain ⟨c, hc⟩ : ∃ c, l[k]? = some c := ⟨l[k], by simp [hkk]⟩
          have HLC := Lib.hid (HG.out c (List.mem_of_getElem? hc))
          cases ao with
          | none => exact absurd (HNO.out rfl) (by omega)
          | some a =>
            obtain ⟨b, off, sp⟩ := a
            obtain ⟨av, c6, c7, c8, c9, q0, q1, q2, q3, q4, q5, q6, q7, q8, q9, hra, hrn⟩ := HCL.out _ rfl k c hc
            have X := HJ.out.ext.cells
            replace q0 := X _ _ q0
            replace q1 := X _ _ q1
            replace q2 := X _ _ q2
            replace q3 := X _ _ q3
            replace q4 := X _ _ q4
            replace q5 := X _ _ q5
            replace q6 := X _ _ q6
            replace q7 := X _ _ q7
            replace q8 := X _ _ q8
            replace q9 := X _ _ q9
            rw [add_pos _ _ (by decide)] at q1 q2 q3 q4 q5 q6 q7 q8 q9
            obtain ⟨aa, acap, eav, _⟩ := hra.len_of
            subst eav
            obtain ⟨n0, n1, en, hna, hnk⟩ := hrn.open
            obtain ⟨naa, nac, en0, _⟩ := hna.len_of
            obtain ⟨nka, nkc, en1, _⟩ := hnk
            subst en0 en1
            cases en
            have HRA := Lib.hid hra
            have HRN := Lib.hid hrn
            clear X hra hrn hc hna
            go_wp2_with fail
            refine (Does_ok HGT.out HJ.out HLC.out HRA.out HRN.out).mono ?_
            rintro e u1 ⟨rfl, T', hG', hj'⟩
            have HJ' := Lib.hid hj'
            have HG' := Lib.hid hG'
            clear hj' hG'
            go_wp2_with fail
            go_roundw
            case rel => exact ⟨k + 1, T', by omega, by go_num, HG'.out, HJ'.out⟩
            case measure => simp [intOf]; omega
        · go_wp2_with fail
          go_ret2
          exact .inr ⟨tb, rb, T, rfl, HGT.out, HJ.out⟩
    · go_wp2_with fail
      refine (New_no cap deep hroom _).mono ?_
      rintro e w2 ⟨rfl, hx2⟩
      go_wp2_with fail
      refine (rNew_no cap deep hroom _).mono ?_
      rintro e w3 ⟨rfl, rfl⟩
      go_wp2_with fail
      go_ret2
      exact .inl ⟨rfl, HX1.out.trans hx2⟩
set_option maxRecDepth 100000 in
set_option maxHeartbeats 8000000 in
theorem orderNodes_walk (cap : Int) (hc : (Lit.int .i64 cap).wf = true) (deep : Int) (hd : (Lit.int .i64 deep).wf = true) {w : World} (v : Value) (l : List Cl) (hl : CallsRd w l v) (outer : Int) (ho : (Lit.int .i64 outer).wf = true) (pv : Value) (p : List Int) (hp : IntsRd w p pv) :
    Calls Try.prog 11 #[.int .i64 cap, .int .i64 deep, v, .int .i64 outer, pv] w (RBool true w) := by
  obtain ⟨hp1, hp2, hp3⟩ := hp
  obtain ⟨pa, pc, rfl, hpc⟩ := hp1.len_of
  have HL := Lib.hid hl
  obtain ⟨ao, vcap, rfl, _⟩ := hl
  have HP1 := Lib.hid hp1
  have HP3 := Lib.hid hp3
  unfold maxLen at hp2
  clear hc hd ho hp1 hp3
  by_cases hlong : 100 < p.length
  · go_enter Try.func11, Try.ntmps11
    go_wp2_with (go_at_call 51; refine (awake9_any _).mono ?_; rintro e w2 ⟨rfl, hx2⟩)
    go_ret
    exact ⟨rfl, hx2⟩
  · go_enter Try.func11, Try.ntmps11
    go_wp2_with fail
    refine (both_any cap deep _ l HL.out).mono ?_
    rintro e w1 hb
    rcases hb with ⟨rfl, hx1⟩ | ⟨tb, rb, T, rfl, hG, hJ⟩
    · go_wp2_with (go_at_call 51; refine (awake9_any _).mono ?_; rintro e w2 ⟨rfl, hx2⟩)
      go_ret
      exact ⟨rfl, hx1.trans hx2⟩
    · obtain ⟨⟨d, hw⟩, hA⟩ := hG
      have hlen := hw.small.len
      have HW := Lib.hid hw
      have HA := Lib.hid hA
      have HT := Lib.hid hJ.tat
      have HR := Lib.hid hJ.rat
      have HX1 := Lib.hid hJ.ext
      clear hw hA hJ
      go_wp2_with fail
      go_loopw [13, 14, 15, 16, 17, 18] (fun x _ _ _ _ _ wr => ∃ i : Int, x = .int .i64 i ∧ -1 ≤ i ∧ i ≤ T.nodes.length + 1 ∧ Ext w1 wr) (fun x _ _ _ _ _ _ => (T.nodes.length + 2 - intOf x).toNat)
      case atStart => exact ⟨-1, rfl, by omega, by omega, Ext.refl _⟩
      case round =>
        obtain ⟨x, rfl, hx0, hx1, hxr⟩ := hrel
        obtain ⟨g1, cap1, c2, hcap1, _, _⟩ := (HR.out.ext hxr).slice
        have HXR := Lib.hid hxr
        clear hxr
        by_cases hlt : x ≤ T.nodes.length
        · obtain ⟨o, hoo⟩ : ∃ o, T.find x p = o := ⟨_, rfl⟩
          have K1 := Lib.hid (fun (u : World) (y : Ext w1 u) => Next_any (HT.out.ext y) HW.out x)
          have K2 := Lib.hid (fun (u : World) (y : Ext w1 u) => (HW.out.next_beside x ▸ rBeside (HR.out.ext y) HW.out x 1 (by omega) (by omega) : Calls Try.prog 67 #[.pointer (some ⟨rb, 0, none⟩), .int .i64 x, .int .i64 1] u (RVal (.int .i64 (T.next x)) u)))
          have K3 := Lib.hid (fun (u : World) (y : Ext w1 u) => Prev_any (HT.out.ext y) HW.out x)
          have K4 := Lib.hid (fun (u : World) (y : Ext w1 u) => (HW.out.prev_beside x ▸ rBeside (HR.out.ext y) HW.out x (-1) (by omega) (by omega) : Calls Try.prog 67 #[.pointer (some ⟨rb, 0, none⟩), .int .i64 x, .int .i64 (-1)] u (RVal (.int .i64 (T.prev x)) u)))
          have K5 := Lib.hid (fun (u : World) (y : Ext w1 u) => Behind_any (HT.out.ext y) HW.out x)
          have K6 := Lib.hid (fun (u : World) (y : Ext w1 u) => rBehind (HR.out.ext y) HW.out x)
          have K7 := Lib.hid (fun (u : World) (y : Ext w1 u) => Length_any (HT.out.ext y) HW.out HA.out x)
          have K8 := Lib.hid (fun (u : World) (y : Ext w1 u) => rLength (HR.out.ext y) HW.out HA.out x)
          have K9 := Lib.hid (fun (u : World) (y : Ext w1 u) => rPath HW.out x u u (HR.out.ext y) (Ext.refl u))
          have L1 := Lib.hid (fun (u : World) (y : Ext w1 u) => All_any (HT.out.ext y) HW.out x)
          have L2 := Lib.hid (fun (u : World) (y : Ext w1 u) => rAll (HR.out.ext y) HW.out x)
          have L3 := Lib.hid (fun (u : World) (y : Ext w1 u) => Path_any (HT.out.ext y) HW.out x)
          have L4 := Lib.hid (fun (u : World) (y : Ext w1 u) => Within_any (HT.out.ext y) HW.out x outer)
          have L5 := Lib.hid (fun (u : World) (y : Ext w1 u) => rWithin9 (HR.out.ext y) HW.out x outer)
          have L6 := Lib.hid (fun (u : World) (y : Ext w1 u) => (hoo ▸ Find_any (HT.out.ext y) HW.out x (HP1.out.ext (HX1.out.trans y)) (by omega) HP3.out : Calls Try.prog 53 #[.pointer (some ⟨tb, 0, none⟩), .int .i64 x, .slice pa p.length pc] u (RTwo (.int .i64 (o.getD 0)) (.bool o.isSome) u)))
          have L7 := Lib.hid (fun (u : World) (y : Ext w1 u) => (hoo ▸ rFind HW.out p x _ u (HR.out.ext y) (HP1.out.ext (HX1.out.trans y)) (by omega) HP3.out : Calls Try.prog 74 #[.pointer (some ⟨rb, 0, none⟩), .int .i64 x, .slice pa p.length pc] u (RTwo (.int .i64 (o.getD 0)) (.bool o.isSome) u)))
          have hal := allOf_2000 HW.out x
          have hpl := HW.out.path_41 x
          obtain ⟨vn, hvn⟩ : ∃ vn, T.next x = vn := ⟨_, rfl⟩
          obtain ⟨vp, hvp⟩ : ∃ vp, T.prev x = vp := ⟨_, rfl⟩
          obtain ⟨vb, hvb⟩ : ∃ vb, T.behind x = vb := ⟨_, rfl⟩
          obtain ⟨vl, hvl⟩ : ∃ vl, T.lengthOf x = vl := ⟨_, rfl⟩
          obtain ⟨vw, hvw⟩ : ∃ vw, T.win x outer = vw := ⟨_, rfl⟩
          obtain ⟨la, hla⟩ : ∃ la, T.allOf x = la := ⟨_, rfl⟩
          obtain ⟨lp, hlp⟩ : ∃ lp, T.pathOf x = lp := ⟨_, rfl⟩
          rw [hvn] at K1 K2
          rw [hvp] at K3 K4
          rw [hvb] at K5 K6
          rw [hvl] at K7 K8
          rw [hvw] at L4 L5
          rw [hla] at L1 L2 hal
          rw [hlp] at K9 L3 hpl
          clear hvn hvp hvb hvl hvw hla hlp hoo
          go_wp2_with fail
          refine (K1.out _ HXR.out).mono ?_
          rintro e u1 ⟨rfl, hy⟩
          have X1 := Lib.hid (HXR.out.trans hy)
          clear hy
          go_wp2_with fail
          refine (K2.out _ X1.out).mono ?_
          rintro e u2 ⟨rfl, hy⟩
          have X2 := Lib.hid (X1.out.trans hy)
          clear hy
          go_wp2_with fail
          refine (K3.out _ X2.out).mono ?_
          rintro e u3 ⟨rfl, hy⟩
          have X3 := Lib.hid (X2.out.trans hy)
          clear hy
          go_wp2_with fail
          refine (K4.out _ X3.out).mono ?_
          rintro e u4 ⟨rfl, hy⟩
          have X4 := Lib.hid (X3.out.trans hy)
          clear hy
          go_wp2_with fail
          refine (K5.out _ X4.out).mono ?_
          rintro e u5 ⟨rfl, hy⟩
          have X5 := Lib.hid (X4.out.trans hy)
          clear hy
          go_wp2_with fail
          refine (K6.out _ X5.out).mono ?_
          rintro e u6 ⟨rfl, hy⟩
          have X6 := Lib.hid (X5.out.trans hy)
          clear hy
          go_wp2_with fail
          refine (K7.out _ X6.out).mono ?_
          rintro e u7 ⟨rfl, hy⟩
          have X7 := Lib.hid (X6.out.trans hy)
          clear hy
          go_wp2_with fail
          refine (K8.out _ X7.out).mono ?_
          rintro e u8 ⟨rfl, hy⟩
          have X8 := Lib.hid (X7.out.trans hy)
          clear hy
          go_wp2_with fail
          refine (K9.out _ X8.out).mono ?_
          rintro e u9 ⟨v9, rfl, hr9, hy⟩
          obtain ⟨a9, c9, e9, _⟩ := RowP.len_of' hr9
          subst e9
          have R9 := Lib.hid (RowP.rd hr9)
          have X9 := Lib.hid (X8.out.trans hy)
          clear hy hr9
          go_wp2_with fail
          refine (L1.out _ X9.out).mono ?_
          rintro e t1 ⟨va, rfl, hra, hy⟩
          obtain ⟨a1, c1, e1, _⟩ := RowP.len_of' hra
          subst e1
          have RA := Lib.hid (RowP.rd hra)
          have Y1 := Lib.hid (X9.out.trans hy)
          have Z1 := Lib.hid hy
          clear hy hra
          go_wp2_with fail
          refine (L2.out _ Y1.out).mono ?_
          rintro e t2 ⟨vb2, rfl, hrb, hy⟩
          obtain ⟨a2, c2', e2, _⟩ := RowP.len_of' hrb
          subst e2
          have RB := Lib.hid (RowP.rd hrb)
          have RA2 := Lib.hid (RA.out.ext hy)
          have Y2 := Lib.hid (Y1.out.trans hy)
          have Z2 := Lib.hid (Z1.out.trans hy)
          clear hy hrb
          go_wp2_with fail
          refine (ints_same9 RA2.out RB.out (by omega)).mono ?_
          rintro e t3 ⟨rfl, hy⟩
          have Y3 := Lib.hid (Y2.out.trans hy)
          have Z3 := Lib.hid (Z2.out.trans hy)
          clear hy
          go_wp2_with fail
          refine (L3.out _ Y3.out).mono ?_
          rintro e t4 ⟨v4, rfl, hr4, hy, _⟩
          obtain ⟨a4, c4, e4, _⟩ := hr4.len_of
          subst e4
          have R4 := Lib.hid hr4
          have R94 := Lib.hid (R9.out.ext (Z3.out.trans hy))
          have Y4 := Lib.hid (Y3.out.trans hy)
          clear hy hr4
          go_wp2_with fail
          refine (ints_same9 R4.out R94.out (by omega)).mono ?_
          rintro e t5 ⟨rfl, hy⟩
          have Y5 := Lib.hid (Y4.out.trans hy)
          clear hy
          go_wp2_with fail
          refine (L4.out _ Y5.out).mono ?_
          rintro e t6 ⟨rfl, hy⟩
          have Y6 := Lib.hid (Y5.out.trans hy)
          clear hy
          go_wp2_with fail
          refine (L5.out _ Y6.out).mono ?_
          rintro e t7 ⟨rfl, hy⟩
          have Y7 := Lib.hid (Y6.out.trans hy)
          clear hy
          go_wp2_with fail
          refine (L6.out _ Y7.out).mono ?_
          rintro e t8 ⟨rfl, hy⟩
          have Y8 := Lib.hid (Y7.out.trans hy)
          clear hy
          go_wp2_with fail
          refine (L7.out _ Y8.out).mono ?_
          rintro e t9 ⟨rfl, hy⟩
          have Y9 := Lib.hid (Y8.out.trans hy)
          clear hy
          go_wp2_with fail
          go_roundw
          case rel => exact ⟨x + 1, by go_num, by omega, by omega, Y9.out⟩
          case measure => simp [intOf]; omega
        · go_wp2_with (go_at_call 51; refine (awake9_any _).mono ?_; rintro e w2 ⟨rfl, hx2⟩)
          go_ret
          exact ⟨rfl, (HX1.out.trans HXR.out).trans hx2⟩
end Go.Proofs.Ytiglflmjidikpaa
