/- quillworklaw08: Played: what comes out is nil or a good tree, apart from all that was. Conditions: the calls are light. -/
import Derived.Test.YtiglflmjidikpaaPlayA
import Derived.Test.YtiglflmjidikpaaDomQ
namespace Go.Proofs.Ytiglflmjidikpaa
open Go Go.RowKit Go.BigFrame
set_option linter.unusedVariables false
set_option linter.unusedSimpArgs false

/-- a good tree, anew since w0 -/
def InTree (w0 w : World) (tb : Nat) : Prop := ∃ own ptr T, TreeAt w own ptr tb T ∧ Owned own w ∧ GoodT T ∧ Ext w0 w ∧ ∀ b, own b ≠ none → w0.heap.size ≤ b
theorem InTree.ext {w0 w w' : World} {tb : Nat} (h : InTree w0 w tb) (k : Ext w w') : InTree w0 w' tb := by
  obtain ⟨own, ptr, T, hT, hO, hG, hx, hf⟩ := h
  exact ⟨own, ptr, T, hT.keep (k.keep hO), fun b hb => Nat.lt_of_lt_of_le (hO b hb) (Ext.size k), hG, hx.trans k, hf⟩
theorem InTree.before {w0 w : World} {tb : Nat} (h : InTree w0 w tb) : Ext w0 w := by obtain ⟨own, ptr, T, hT, hO, hG, hx, hf⟩ := h; exact hx
def KeepsTree (w0 : World) (tb : Nat) (e : Ending) (w' : World) : Prop := (∃ v, e = .returned v) ∧ InTree w0 w' tb
theorem apart_of {w0 w : World} {own : Ow} (hx : Ext w0 w) (hf : ∀ b, own b ≠ none → w0.heap.size ≤ b) : Apart w0 own w := fun p v hp =>
  ⟨hx.cells _ _ hp, Classical.byContradiction fun e => by have h1 := hf _ e; have h2 := World.block_lt_of_cell? w0 _ hp; omega⟩
theorem InTree.play {w0 w : World} {tb : Nat} (h : InTree w0 w tb) {f : FuncId} {args : Array Value}
    (hc : ∀ own ptr T, TreeAt w own ptr tb T → Owned own w → GoodT T → Apart w0 own w → Calls Try.prog f args w (PlayIs own w tb)) : Calls Try.prog f args w (KeepsTree w0 tb) := by
  obtain ⟨own, ptr, T, hT, hO, hG, hx, hf⟩ := h
  refine (hc own ptr T hT hO hG (apart_of hx hf)).mono fun e w' h => ⟨h.1, ?_⟩
  obtain ⟨_, T', hG', own', ptr', hT', hS⟩ := h
  obtain ⟨h1, h2⟩ := hS.fresh hx hf
  exact ⟨own', ptr', T', hT', hS.owned, hG', h1, h2⟩
theorem InTree.copy {w0 w : World} {tb : Nat} (h : InTree w0 w tb) : Calls Try.prog 20 #[.pointer (some ⟨tb, 0, none⟩)] w (fun e w' => ∃ tb', e = .returned (.pointer (some ⟨tb', 0, none⟩)) ∧ InTree w0 w' tb') := by
  obtain ⟨own, ptr, T, hT, hO, hG, hx, hf⟩ := h
  obtain ⟨d, hw⟩ := hG.1
  refine (Copy_any hT hO hw hG.2).mono ?_
  rintro e w' ⟨tb', own', ptr', rfl, hT', hO', hx', hf'⟩
  exact ⟨tb', rfl, own', ptr', T, hT', hO', hG, hx.trans hx', fun b hb => Nat.le_trans (Ext.size hx) (hf' b hb)⟩
/-- a good tree, and a block apart from it -/
def InBox (w0 w : World) (tb p : Nat) (o : Obj) : Prop := ∃ own ptr T, TreeAt w own ptr tb T ∧ Owned own w ∧ GoodT T ∧ Ext w0 w ∧ (∀ b, own b ≠ none → w0.heap.size ≤ b) ∧ own p = none ∧ w.heap[p]? = some o
theorem InTree.box {w0 w wm : World} {tb : Nat} {o : Obj} (h : InTree w0 w tb) (k : Ext w wm) (hb : wm.heap[w.heap.size]? = some o) : InBox w0 wm tb w.heap.size o := by
  obtain ⟨own, ptr, T, hT, hO, hG, hx, hf⟩ := h
  exact ⟨own, ptr, T, hT.keep (k.keep hO), fun b hb => Nat.lt_of_lt_of_le (hO b hb) (Ext.size k), hG, hx.trans k, hf, Classical.byContradiction fun e => by have := hO _ e; omega, hb⟩
theorem InBox.tree {w0 w : World} {tb p : Nat} {o : Obj} (h : InBox w0 w tb p o) : InTree w0 w tb := by
  obtain ⟨own, ptr, T, hT, hO, hG, hx, hf, _, _⟩ := h
  exact ⟨own, ptr, T, hT, hO, hG, hx, hf⟩
theorem InBox.obj {w0 w : World} {tb p : Nat} {o : Obj} (h : InBox w0 w tb p o) : w.heap[p]? = some o := by
  obtain ⟨own, ptr, T, hT, hO, hG, hx, hf, _, h⟩ := h
  exact h
theorem InBox.play {w0 w : World} {tb p : Nat} {o : Obj} (h : InBox w0 w tb p o) {f : FuncId} {args : Array Value}
    (hc : ∀ own ptr T, TreeAt w own ptr tb T → Owned own w → GoodT T → Apart w0 own w → Calls Try.prog f args w (PlayIs own w tb)) : Calls Try.prog f args w (fun e w' => (∃ v, e = .returned v) ∧ InBox w0 w' tb p o) := by
  obtain ⟨own, ptr, T, hT, hO, hG, hx, hf, hp, ho⟩ := h
  refine (hc own ptr T hT hO hG (apart_of hx hf)).mono fun e w' h => ⟨h.1, ?_⟩
  obtain ⟨_, T', hG', own', ptr', hT', hS⟩ := h
  obtain ⟨h1, h2⟩ := hS.fresh hx hf
  have hlt : p < w.heap.size := by
    rcases Nat.lt_or_ge p w.heap.size with h | h
    · exact h
    · rw [Array.getElem?_eq_none h] at ho; cases ho
  exact ⟨own', ptr', T', hT', hS.owned, hG', h1, h2, (hS.same p hlt).trans hp, (hS.rest p hlt hp).trans ho⟩
def PlayedIs (w0 : World) (e : Ending) (w' : World) : Prop := (e = .returned (.pointer none) ∧ Ext w0 w') ∨ ∃ tb, e = .returned (.pointer (some ⟨tb, 0, none⟩)) ∧ InTree w0 w' tb
theorem tmod10 (x : Int) : -10 < x.tmod 10 ∧ x.tmod 10 < 10 := by
  have h1 := Int.tmod_lt_of_pos x (show (0 : Int) < 10 by decide)
  have h2 := Int.lt_tmod_of_pos x (show (0 : Int) < 10 by decide)
  omega
theorem part_cases (x : Int) : (x.tmod 10 + 10).tmod 10 = 2 ∨ (x.tmod 10 + 10).tmod 10 = 3 ∨ (x.tmod 10 + 10).tmod 10 = 4 ∨ (x.tmod 10 + 10).tmod 10 = 5 ∨ (x.tmod 10 + 10).tmod 10 = 6 ∨ (x.tmod 10 + 10).tmod 10 = 7 ∨ (x.tmod 10 + 10).tmod 10 = 8 ∨ (x.tmod 10 + 10).tmod 10 = 9 ∨
    ((x.tmod 10 + 10).tmod 10 = 0 ∨ (x.tmod 10 + 10).tmod 10 = 1) := by
  obtain ⟨h1, h2⟩ := tmod10 x
  rw [Int.tmod_eq_emod_of_nonneg (by omega)]
  omega
set_option maxRecDepth 100000 in
set_option maxHeartbeats 8000000 in
theorem Played_any {w : World} {l : List Cl} {v : Value} (cap deep : Int) (hl : CallsRd w l v) (hg : Light l) : Calls Try.prog 17 #[.int .i64 cap, .int .i64 deep, v] w (PlayedIs w) := by
  obtain ⟨ao, vcap, rfl, hc1, hc2, hno, hcl⟩ := hl
  have HNO := Lib.hid hno
  have HCL := Lib.hid hcl
  have HG := Lib.hid hg.2
  have hl2 := hg.1
  unfold maxLen at hc2
  clear hno hcl hg
  by_cases hroom : 1 ≤ cap ∧ cap ≤ 2000 ∧ 0 ≤ deep ∧ deep ≤ 40
  · obtain ⟨h1, h2, h3, h4⟩ := hroom
    go_enter Try.func17, Try.ntmps17
    go_wp2_with (go_at_call 38; refine (New_ok cap deep h1 h2 h3 h4 w).mono ?_; rintro e w1 ⟨tb1, own1, ptr1, rfl, hT1, hO1, hx1, hf1⟩)
    have HI1 := Lib.hid (show InTree w w1 tb1 from ⟨own1, ptr1, _, hT1, hO1, ⟨⟨_, hostOf_wf cap deep h1 h2 h3 h4⟩, fun i nd hi => by
      cases i with
      | zero => cases hi; simp
      | succ i => cases hi⟩, hx1, hf1⟩)
    clear hT1 hO1 hx1 hf1 h1 h2 h3 h4
    go_loopw [7, 9] (fun z i wr => ∃ (k tb : Nat), k ≤ l.length ∧ i = .int .i64 k ∧ z = .pointer (some ⟨tb, 0, none⟩) ∧ InTree w wr tb) (fun _ i _ => l.length - (intOf i).toNat)
    case atStart => exact ⟨0, tb1, Nat.zero_le _, rfl, rfl, HI1.out⟩
    case round =>
      obtain ⟨k, tb, hk, rfl, rfl, hin⟩ := hrel
      clear HI1
      have HIN := Lib.hid hin
      have hwr := hin.before
      clear hin
      by_cases hkk : k < l.length
      · obtain ⟨c, hc⟩ : ∃ c, l[k]? = some c := ⟨l[k], by simp [hkk]⟩
        have hcm := List.mem_of_getElem? hc
        obtain ⟨g1, g2, g3, g4⟩ := HG.out c hcm
        have g5 := c.n.light_short g3
        have G5 := Lib.hid g5
        cases ao with
        | none => exact absurd (HNO.out rfl) (by omega)
        | some a =>
          obtain ⟨b, off, sp⟩ := a
          obtain ⟨av, c6, c7, c8, c9, q0, q1, q2, q3, q4, q5, q6, q7, q8, q9, hra, hrn⟩ := HCL.out _ rfl k c hc
          obtain ⟨aa, acap, rfl, hac⟩ := hra.len_of
          obtain ⟨n0, n1, en, hna, hnk⟩ := hrn.open
          obtain ⟨naa, nac, en0, _⟩ := hna.len_of
          obtain ⟨nka, nkc, en1, _⟩ := hnk
          subst en0 en1
          cases en
          have X := hwr.cells
          replace q0 := X _ _ q0
          replace q1 := X _ _ q1
          replace q2 := X _ _ q2
          replace q3 := X _ _ q3
          replace q4 := X _ _ q4
          replace q5 := X _ _ q5
          replace q6 := X _ _ q6
          replace q7 := X _ _ q7
          replace q8 := X _ _ q8
          replace q9 := X _ _ q9
          rw [add_pos _ _ (by decide)] at q1 q2 q3 q4 q5 q6 q7 q8 q9
          have HRN := Lib.hid hrn
          have HRA := Lib.hid (hra.ext hwr)
          have HWR := Lib.hid hwr
          clear X hra hrn hna hc hcm hwr g3 g5
          go_upto_region 8 with fail
          have bM := heap_alloc_new wr (.cells #[.int .i64 c.what, .int .i64 c.a, .int .i64 c.b, .int .i64 c.c, .string c.s, .slice aa c.attrs.length acap, .int .i64 c.n.tag, .slice naa c.n.attrs.length nac, .string c.n.text, .slice nka c.n.kids.length nkc] 35)
          have xm := (Ext.refl wr).alloc (.cells #[.int .i64 c.what, .int .i64 c.a, .int .i64 c.b, .int .i64 c.c, .string c.s, .slice aa c.attrs.length acap, .int .i64 c.n.tag, .slice naa c.n.attrs.length nac, .string c.n.text, .slice nka c.n.kids.length nkc] 35)
          obtain ⟨wm, hwm⟩ : ∃ wm : World, wm = wr.alloc (.cells #[.int .i64 c.what, .int .i64 c.a, .int .i64 c.b, .int .i64 c.c, .string c.s, .slice aa c.attrs.length acap, .int .i64 c.n.tag, .slice naa c.n.attrs.length nac, .string c.n.text, .slice nka c.n.kids.length nkc] 35) := ⟨_, rfl⟩
          rw [← hwm] at bM xm ⊢
          have hin2 := HIN.out.ext xm
          have HBX := Lib.hid (HIN.out.box xm bM)
          clear q0 q1 q2 q3 q4 q5 q6 q7 q8 q9 HIN hwm
          replace HRA := Lib.hid (HRA.out.ext xm)
          have u0 := cellOf bM (i := 0) (v := .int .i64 c.what) rfl
          have u1 := cellOf bM (i := 1) (v := .int .i64 c.a) rfl
          have u2 := cellOf bM (i := 2) (v := .int .i64 c.b) rfl
          have u3 := cellOf bM (i := 3) (v := .int .i64 c.c) rfl
          have u4 := cellOf bM (i := 4) (v := .string c.s) rfl
          have u5 := cellOf bM (i := 5) (v := .slice aa c.attrs.length acap) rfl
          have u6 := cellOf bM (i := 6) (v := .int .i64 c.n.tag) rfl
          have u7 := cellOf bM (i := 7) (v := .slice naa c.n.attrs.length nac) rfl
          have u8 := cellOf bM (i := 8) (v := .string c.n.text) rfl
          have u9 := cellOf bM (i := 9) (v := .slice nka c.n.kids.length nkc) rfl
          have BM := Lib.hid bM
          have XM := Lib.hid xm
          have HIN := Lib.hid hin2
          clear bM xm hin2
          obtain ⟨m1, m2⟩ := tmod10 c.what
          have e1 : IntKind.i64.wrap (c.what.tmod 10) = c.what.tmod 10 := IntWalk.i64_in _ (by omega)
          have e2 : IntKind.i64.wrap (c.what.tmod 10 + 10) = c.what.tmod 10 + 10 := IntWalk.i64_in _ (by omega)
          rcases part_cases c.what with hm | hm | hm | hm | hm | hm | hm | hm | hm
          · have e3 : IntKind.i64.wrap ((c.what.tmod 10 + 10).tmod 10) = 2 := by rw [hm]; rfl
            rw [Int.tmod_eq_emod_of_nonneg (by omega), Int.add_emod_right] at hm
            go_wp2_with ((go_at_call 41; refine (HIN.out.play fun own ptr T hT hO hG hA => Text_play hT hO hG c.s (by omega)).mono ?_; rintro e w2 ⟨⟨v2, rfl⟩, hk⟩; have HK := Lib.hid hk; clear hk))
            go_roundw
            case rel => exact ⟨k + 1, tb, by omega, by go_num, rfl, HK.out⟩
            case measure => simp [intOf]; omega
          · have e3 : IntKind.i64.wrap ((c.what.tmod 10 + 10).tmod 10) = 3 := by rw [hm]; rfl
            rw [Int.tmod_eq_emod_of_nonneg (by omega), Int.add_emod_right] at hm
            go_wp2_with ((go_at_call 21; refine (HIN.out.play fun own ptr T hT hO hG hA => Insert_play hT hO hG _ _ _).mono ?_; rintro e w2 ⟨⟨v2, rfl⟩, hk⟩; have HK := Lib.hid hk; clear hk))
            go_roundw
            case rel => exact ⟨k + 1, tb, by omega, by go_num, rfl, HK.out⟩
            case measure => simp [intOf]; omega
          · have e3 : IntKind.i64.wrap ((c.what.tmod 10 + 10).tmod 10) = 4 := by rw [hm]; rfl
            rw [Int.tmod_eq_emod_of_nonneg (by omega), Int.add_emod_right] at hm
            go_wp2_with ((go_at_call 21; refine (HIN.out.play fun own ptr T hT hO hG hA => Insert_play hT hO hG _ _ _).mono ?_; rintro e w2 ⟨⟨v2, rfl⟩, hk⟩; have HK := Lib.hid hk; clear hk))
            go_roundw
            case rel => exact ⟨k + 1, tb, by omega, by go_num, rfl, HK.out⟩
            case measure => simp [intOf]; omega
          · have e3 : IntKind.i64.wrap ((c.what.tmod 10 + 10).tmod 10) = 5 := by rw [hm]; rfl
            rw [Int.tmod_eq_emod_of_nonneg (by omega), Int.add_emod_right] at hm
            go_wp2_with ((go_at_call 22; refine (HIN.out.play fun own ptr T hT hO hG hA => Remove_play hT hO hG _).mono ?_; rintro e w2 ⟨⟨v2, rfl⟩, hk⟩; have HK := Lib.hid hk; clear hk))
            go_roundw
            case rel => exact ⟨k + 1, tb, by omega, by go_num, rfl, HK.out⟩
            case measure => simp [intOf]; omega
          · have e3 : IntKind.i64.wrap ((c.what.tmod 10 + 10).tmod 10) = 6 := by rw [hm]; rfl
            rw [Int.tmod_eq_emod_of_nonneg (by omega), Int.add_emod_right] at hm
            go_wp2_with ((go_at_call 25; refine (HIN.out.play fun own ptr T hT hO hG hA => Drop_play hT hO hG _).mono ?_; rintro e w2 ⟨⟨v2, rfl⟩, hk⟩; have HK := Lib.hid hk; clear hk))
            go_roundw
            case rel => exact ⟨k + 1, tb, by omega, by go_num, rfl, HK.out⟩
            case measure => simp [intOf]; omega
          · have e3 : IntKind.i64.wrap ((c.what.tmod 10 + 10).tmod 10) = 7 := by rw [hm]; rfl
            rw [Int.tmod_eq_emod_of_nonneg (by omega), Int.add_emod_right] at hm
            go_wp2_with (first
              | (go_at_call 24; refine (HBX.out.play fun own ptr T hT hO hG hA => SetAttrs_play hT hO hG _ HRA.out (by omega)).mono ?_; rintro e w2 ⟨⟨v2, rfl⟩, hk2⟩; have hb2 := hk2.obj; have x12 := cellOf hb2 (i := 1) (v := .int .i64 c.a) rfl; have x22 := cellOf hb2 (i := 2) (v := .int .i64 c.b) rfl; have x42 := cellOf hb2 (i := 4) (v := .string c.s) rfl; have HK2 := Lib.hid hk2; clear hk2 hb2)
              | (go_at_call 23; refine (HK2.out.play fun own ptr T hT hO hG hA => SetText_play hT hO hG _ c.s (by omega)).mono ?_; rintro e w3 ⟨⟨v3, rfl⟩, hk3⟩; have hb3 := hk3.obj; have x13 := cellOf hb3 (i := 1) (v := .int .i64 c.a) rfl; have x23 := cellOf hb3 (i := 2) (v := .int .i64 c.b) rfl; have x43 := cellOf hb3 (i := 4) (v := .string c.s) rfl; have HK3 := Lib.hid hk3; clear hk3 hb3)
              | (go_at_call 29; refine (HK3.out.play fun own ptr T hT hO hG hA => SetTag_play hT hO hG _ _).mono ?_; rintro e w4 ⟨⟨v4, rfl⟩, hk4⟩; have hb4 := hk4.obj; have x14 := cellOf hb4 (i := 1) (v := .int .i64 c.a) rfl; have x24 := cellOf hb4 (i := 2) (v := .int .i64 c.b) rfl; have x44 := cellOf hb4 (i := 4) (v := .string c.s) rfl; have HK4 := Lib.hid hk4; clear hk4 hb4))
            go_roundw
            case rel => exact ⟨k + 1, tb, by omega, by go_num, rfl, HK4.out.tree⟩
            case measure => simp [intOf]; omega
          · have e3 : IntKind.i64.wrap ((c.what.tmod 10 + 10).tmod 10) = 8 := by rw [hm]; rfl
            rw [Int.tmod_eq_emod_of_nonneg (by omega), Int.add_emod_right] at hm
            go_wp2_with ((go_at_call 31; refine (HIN.out.play fun own ptr T hT hO hG hA => Graft_play hT hO hG _ _ HRN.out hA G5.out (by omega)).mono ?_; rintro e w2 ⟨⟨v2, rfl⟩, hk⟩; have HK := Lib.hid hk; clear hk))
            go_roundw
            case rel => exact ⟨k + 1, tb, by omega, by go_num, rfl, HK.out⟩
            case measure => simp [intOf]; omega
          · have e3 : IntKind.i64.wrap ((c.what.tmod 10 + 10).tmod 10) = 9 := by rw [hm]; rfl
            rw [Int.tmod_eq_emod_of_nonneg (by omega), Int.add_emod_right] at hm
            go_wp2_with (go_at_call 20; refine (HIN.out.copy).mono ?_; rintro e w2 ⟨tb2, rfl, hk⟩; have HK := Lib.hid hk; clear hk)
            go_roundw
            case rel => exact ⟨k + 1, tb2, by omega, by go_num, rfl, HK.out⟩
            case measure => simp [intOf]; omega
          · rcases hm with hm | hm
            · have e3 : IntKind.i64.wrap ((c.what.tmod 10 + 10).tmod 10) = 0 := by rw [hm]; rfl
              rw [Int.tmod_eq_emod_of_nonneg (by omega), Int.add_emod_right] at hm
              go_wp2_with (go_at_call 44; refine (HIN.out.play fun own ptr T hT hO hG hA => Element_play hT hO hG _ HRA.out (by omega)).mono ?_; rintro e w2 ⟨⟨v2, rfl⟩, hk⟩; have HK := Lib.hid hk; clear hk)
              go_roundw
              case rel => exact ⟨k + 1, tb, by omega, by go_num, rfl, HK.out⟩
              case measure => simp [intOf]; omega
            · have e3 : IntKind.i64.wrap ((c.what.tmod 10 + 10).tmod 10) = 1 := by rw [hm]; rfl
              rw [Int.tmod_eq_emod_of_nonneg (by omega), Int.add_emod_right] at hm
              go_wp2_with (go_at_call 44; refine (HIN.out.play fun own ptr T hT hO hG hA => Element_play hT hO hG _ HRA.out (by omega)).mono ?_; rintro e w2 ⟨⟨v2, rfl⟩, hk⟩; have HK := Lib.hid hk; clear hk)
              go_roundw
              case rel => exact ⟨k + 1, tb, by omega, by go_num, rfl, HK.out⟩
              case measure => simp [intOf]; omega
      · go_wp2_with fail
        go_ret
        exact .inr ⟨tb, rfl, HIN.out⟩
  · go_enter Try.func17, Try.ntmps17
    go_wp2_with (go_at_call 38; refine (New_no cap deep hroom w).mono ?_; rintro e w1 ⟨rfl, hx1⟩)
    go_ret
    exact .inl ⟨rfl, hx1⟩
end Go.Proofs.Ytiglflmjidikpaa
