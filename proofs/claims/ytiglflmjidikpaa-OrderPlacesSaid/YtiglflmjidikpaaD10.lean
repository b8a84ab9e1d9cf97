/- quillworklaw08: Played: what comes out is nil or a good tree, apart from all that was. Conditions: the calls are light.
quillworklaw08: Sound: a good tree is sound. No conditions. -/
import Derived.Test.YtiglflmjidikpaaD9
namespace Go.Proofs.Ytiglflmjidikpaa
open Go Go.RowKit Go.BigFrame
set_option linter.unusedVariables false
set_option linter.unusedSimpArgs false

/-- a good tree, anew since w0 -/
def InTree (w0 w : World) (tb : Nat) : Prop := ∃ own ptr T, TreeAt w own ptr tb T ∧ Owned own w ∧ GoodT T ∧ Ext w0 w ∧ ∀ b, own b ≠ none → w0.heap.size ≤ b
theorem InTree.ext {w0 w w' : World} {tb : Nat} (h : InTree w0 w tb) (k : Ext w w') : InTree w0 w' tb := by
  obtain ⟨own, ptr, T, hT, hO, hG, hx, hf⟩ := h
  exact ⟨own, ptr, T, hT.keep (k.keep hO), fun b hb => Nat.lt_of_lt_of_le (hO b hb) (Ext.size k), hG, hx.trans k, hf⟩
theorem InTree.before {w0 w : World} {tb : Nat} (h : InTree w0 w tb) : Ext w0 w := by obtain ⟨own, ptr, T, hT, hO, hG, hx, hf⟩ := h; exact hx
def KeepsTree (w0 : World) (tb : Nat) (e : Ending) (w' : World) : Prop := (∃ v, e = .returned v) ∧ InTree w0 w' tb
theorem apart_of {w0 w : World} {own : Ow} (hx : Ext w0 w) (hf : ∀ b, own b ≠ none → w0.heap.size ≤ b) : Apart w0 own w := fun p v hp =>
  ⟨hx.cells _ _ hp, Classical.byContradiction fun e => by have h1 := hf _ e; have h2 := World.block_lt_of_cell? w0 _ hp; omega⟩
theorem InTree.play {w0 w : World} {tb : Nat} (h : InTree w0 w tb) {f : FuncId} {args : Array Value}
    (hc : ∀ own ptr T, TreeAt w own ptr tb T → Owned own w → GoodT T → Apart w0 own w → Calls Try.prog f args w (PlayIs own w tb)) : Calls Try.prog f args w (KeepsTree w0 tb) := by
  obtain ⟨own, ptr, T, hT, hO, hG, hx, hf⟩ := h
  refine (hc own ptr T hT hO hG (apart_of hx hf)).mono fun e w' h => ⟨h.1, ?_⟩
  obtain ⟨_, T', hG', own', ptr', hT', hS⟩ := h
  obtain ⟨h1, h2⟩ := hS.fresh hx hf
  exact ⟨own', ptr', T', hT', hS.owned, hG', h1, h2⟩
theorem InTree.copy {w0 w : World} {tb : Nat} (h : InTree w0 w tb) : Calls Try.prog 20 #[.pointer (some ⟨tb, 0, none⟩)] w (fun e w' => ∃ tb', e = .returned (.pointer (some ⟨tb', 0, none⟩)) ∧ InTree w0 w' tb') := by
  obtain ⟨own, ptr, T, hT, hO, hG, hx, hf⟩ := h
  obtain ⟨d, hw⟩ := hG.1
  refine (Copy_any hT hO hw fun i nd h => (hG.2 i nd h).1).mono ?_
  rintro e w' ⟨tb', own', ptr', rfl, hT', hO', hx', hf'⟩
  exact ⟨tb', rfl, own', ptr', T, hT', hO', hG, hx.trans hx', fun b hb => Nat.le_trans (Ext.size hx) (hf' b hb)⟩
/-- a good tree, and a block apart from it -/
def InBox (w0 w : World) (tb p : Nat) (o : Obj) : Prop := ∃ own ptr T, TreeAt w own ptr tb T ∧ Owned own w ∧ GoodT T ∧ Ext w0 w ∧ (∀ b, own b ≠ none → w0.heap.size ≤ b) ∧ own p = none ∧ w.heap[p]? = some o
theorem InTree.box {w0 w wm : World} {tb : Nat} {o : Obj} (h : InTree w0 w tb) (k : Ext w wm) (hb : wm.heap[w.heap.size]? = some o) : InBox w0 wm tb w.heap.size o := by
  obtain ⟨own, ptr, T, hT, hO, hG, hx, hf⟩ := h
  exact ⟨own, ptr, T, hT.keep (k.keep hO), fun b hb => Nat.lt_of_lt_of_le (hO b hb) (Ext.size k), hG, hx.trans k, hf, Classical.byContradiction fun e => by have := hO _ e; omega, hb⟩
theorem InBox.tree {w0 w : World} {tb p : Nat} {o : Obj} (h : InBox w0 w tb p o) : InTree w0 w tb := by
  obtain ⟨own, ptr, T, hT, hO, hG, hx, hf, _, _⟩ := h
  exact ⟨own, ptr, T, hT, hO, hG, hx, hf⟩
theorem InBox.obj {w0 w : World} {tb p : Nat} {o : Obj} (h : InBox w0 w tb p o) : w.heap[p]? = some o := by
  obtain ⟨own, ptr, T, hT, hO, hG, hx, hf, _, h⟩ := h
  exact h
theorem InBox.play {w0 w : World} {tb p : Nat} {o : Obj} (h : InBox w0 w tb p o) {f : FuncId} {args : Array Value}
    (hc : ∀ own ptr T, TreeAt w own ptr tb T → Owned own w → GoodT T → Apart w0 own w → Calls Try.prog f args w (PlayIs own w tb)) : Calls Try.prog f args w (fun e w' => (∃ v, e = .returned v) ∧ InBox w0 w' tb p o) := by
  obtain ⟨own, ptr, T, hT, hO, hG, hx, hf, hp, ho⟩ := h
  refine (hc own ptr T hT hO hG (apart_of hx hf)).mono fun e w' h => ⟨h.1, ?_⟩
  obtain ⟨_, T', hG', own', ptr', hT', hS⟩ := h
  obtain ⟨h1, h2⟩ := hS.fresh hx hf
  have hlt : p < w.heap.size := by
    rcases Nat.lt_or_ge p w.heap.size with h | h
    · exact h
    · rw [Array.getElem?_eq_none h] at ho; cases ho
  exact ⟨own', ptr', T', hT', hS.owned, hG', h1, h2, (hS.same p hlt).trans hp, (hS.rest p hlt hp).trans ho⟩
def PlayedIs (w0 : World) (e : Ending) (w' : World) : Prop := (e = .returned (.pointer none) ∧ Ext w0 w') ∨ ∃ tb, e = .returned (.pointer (some ⟨tb, 0, none⟩)) ∧ InTree w0 w' tb
theorem tmod10 (x : Int) : -10 < x.tmod 10 ∧ x.tmod 10 < 10 := by
  have h1 := Int.tmod_lt_of_pos x (show (0 : Int) < 10 by decide)
  have h2 := Int.lt_tmod_of_pos x (show (0 : Int) < 10 by decide)
  omega
theorem part_cases (x : Int) : (x.tmod 10 + 10).tmod 10 = 2 ∨ (x.tmod 10 + 10).tmod 10 = 3 ∨ (x.tmod 10 + 10).tmod 10 = 4 ∨ (x.tmod 10 + 10).tmod 10 = 5 ∨ (x.tmod 10 + 10).tmod 10 = 6 ∨ (x.tmod 10 + 10).tmod 10 = 7 ∨ (x.tmod 10 + 10).tmod 10 = 8 ∨ (x.tmod 10 + 10).tmod 10 = 9 ∨
    ((x.tmod 10 + 10).tmod 10 = 0 ∨ (x.tmod 10 + 10).tmod 10 = 1) := by
  obtain ⟨h1, h2⟩ := tmod10 x
  rw [Int.tmod_eq_emod_of_nonneg (by omega)]
  omega
set_option maxRecDepth 100000 in
set_option maxHeartbeats 8000000 in
theorem Played_any {w : World} {l : List Cl} {v : Value} (cap deep : Int) (hl : CallsRd w l v) (hg : Light l) : Calls Try.prog 17 #[.int .i64 cap, .int .i64 deep, v] w (PlayedIs w) := by
  obtain ⟨ao, vcap, rfl, hc1, hc2, hno, hcl⟩ := hl
  have HNO := Lib.hid hno
  have HCL := Lib.hid hcl
  have HG := Lib.hid hg.2
  have hl2 := hg.1
  unfold maxLen at hc2
  clear hno hcl hg
  by_cases hroom : 1 ≤ cap ∧ cap ≤ 2000 ∧ 0 ≤ deep ∧ deep ≤ 40
  · obtain ⟨h1, h2, h3, h4⟩ := hroom
    go_enter Try.func17, Try.ntmps17
    go_wp2_with (go_at_call 38; refine (New_ok cap deep h1 h2 h3 h4 w).mono ?_; rintro e w1 ⟨tb1, own1, ptr1, rfl, hT1, hO1, hx1, hf1⟩)
    have HI1 := Lib.hid (show InTree w w1 tb1 from ⟨own1, ptr1, _, hT1, hO1, ⟨⟨_, hostOf_wf cap deep h1 h2 h3 h4⟩, fun i nd hi => by
      cases i with
      | zero => cases hi; simp [NdOk]
      | succ i => cases hi⟩, hx1, hf1⟩)
    clear hT1 hO1 hx1 hf1 h1 h2 h3 h4
    go_loopw [7, 9] (fun z i wr => ∃ (k tb : Nat), k ≤ l.length ∧ i = .int .i64 k ∧ z = .pointer (some ⟨tb, 0, none⟩) ∧ InTree w wr tb) (fun _ i _ => l.length - (intOf i).toNat)
    case atStart => exact ⟨0, tb1, Nat.zero_le _, rfl, rfl, HI1.out⟩
    case round =>
      obtain ⟨k, tb, hk, rfl, rfl, hin⟩ := hrel
      clear HI1
      have HIN := Lib.hid hin
      have hwr := hin.before
      clear hin
      by_cases hkk : k < l.length
      · obtain ⟨c, hc⟩ : ∃ c, l[k]? = some c := ⟨l[k], by simp [hkk]⟩
        have hcm := List.mem_of_getElem? hc
        obtain ⟨g1, g2, g3, g4⟩ := HG.out c hcm
        have g5 := c.n.light_short g3
        have G5 := Lib.hid g5
        cases ao with
        | none => exact absurd (HNO.out rfl) (by omega)
        | some a =>
          obtain ⟨b, off, sp⟩ := a
          obtain ⟨av, c6, c7, c8, c9, q0, q1, q2, q3, q4, q5, q6, q7, q8, q9, hra, hrn⟩ := HCL.out _ rfl k c hc
          obtain ⟨aa, acap, rfl, hac⟩ := hra.len_of
          obtain ⟨n0, n1, en, hna, hnk⟩ := hrn.open
          obtain ⟨naa, nac, en0, _⟩ := hna.len_of
          obtain ⟨nka, nkc, en1, _⟩ := hnk
          subst en0 en1
          cases en
          have X := hwr.cells
          replace q0 := X _ _ q0
          replace q1 := X _ _ q1
          replace q2 := X _ _ q2
          replace q3 := X _ _ q3
          replace q4 := X _ _ q4
          replace q5 := X _ _ q5
          replace q6 := X _ _ q6
          replace q7 := X _ _ q7
          replace q8 := X _ _ q8
          replace q9 := X _ _ q9
          rw [add_pos _ _ (by decide)] at q1 q2 q3 q4 q5 q6 q7 q8 q9
          have HRN := Lib.hid hrn
          have HRA := Lib.hid (hra.ext hwr)
          have HWR := Lib.hid hwr
          clear X hra hrn hna hc hcm hwr g3 g5
          go_upto_region 8 with fail
          have bM := heap_alloc_new wr (.cells #[.int .i64 c.what, .int .i64 c.a, .int .i64 c.b, .int .i64 c.c, .string c.s, .slice aa c.attrs.length acap, .int .i64 c.n.tag, .slice naa c.n.attrs.length nac, .string c.n.text, .slice nka c.n.kids.length nkc] 35)
          have xm := (Ext.refl wr).alloc (.cells #[.int .i64 c.what, .int .i64 c.a, .int .i64 c.b, .int .i64 c.c, .string c.s, .slice aa c.attrs.length acap, .int .i64 c.n.tag, .slice naa c.n.attrs.length nac, .string c.n.text, .slice nka c.n.kids.length nkc] 35)
          obtain ⟨wm, hwm⟩ : ∃ wm : World, wm = wr.alloc (.cells #[.int .i64 c.what, .int .i64 c.a, .int .i64 c.b, .int .i64 c.c, .string c.s, .slice aa c.attrs.length acap, .int .i64 c.n.tag, .slice naa c.n.attrs.length nac, .string c.n.text, .slice nka c.n.kids.length nkc] 35) := ⟨_, rfl⟩
          rw [← hwm] at bM xm ⊢
          have hin2 := HIN.out.ext xm
          have HBX := Lib.hid (HIN.out.box xm bM)
          clear q0 q1 q2 q3 q4 q5 q6 q7 q8 q9 HIN hwm
          replace HRA := Lib.hid (HRA.out.ext xm)
          have u0 := cellOf bM (i := 0) (v := .int .i64 c.what) rfl
          have u1 := cellOf bM (i := 1) (v := .int .i64 c.a) rfl
          have u2 := cellOf bM (i := 2) (v := .int .i64 c.b) rfl
          have u3 := cellOf bM (i := 3) (v := .int .i64 c.c) rfl
          have u4 := cellOf bM (i := 4) (v := .string c.s) rfl
          have u5 := cellOf bM (i := 5) (v := .slice aa c.attrs.length acap) rfl
          have u6 := cellOf bM (i := 6) (v := .int .i64 c.n.tag) rfl
          have u7 := cellOf bM (i := 7) (v := .slice naa c.n.attrs.length nac) rfl
          have u8 := cellOf bM (i := 8) (v := .string c.n.text) rfl
          have u9 := cellOf bM (i := 9) (v := .slice nka c.n.kids.length nkc) rfl
          have BM := Lib.hid bM
          have XM := Lib.hid xm
          have HIN := Lib.hid hin2
          clear bM xm hin2
          obtain ⟨m1, m2⟩ := tmod10 c.what
          have e1 : IntKind.i64.wrap (c.what.tmod 10) = c.what.tmod 10 := IntWalk.i64_in _ (by omega)
          have e2 : IntKind.i64.wrap (c.what.tmod 10 + 10) = c.what.tmod 10 + 10 := IntWalk.i64_in _ (by omega)
          rcases part_cases c.what with hm | hm | hm | hm | hm | hm | hm | hm | hm
          · have e3 : IntKind.i64.wrap ((c.what.tmod 10 + 10).tmod 10) = 2 := by rw [hm]; rfl
            rw [Int.tmod_eq_emod_of_nonneg (by omega), Int.add_emod_right] at hm
            go_wp2_with ((go_at_call 41; refine (HIN.out.play fun own ptr T hT hO hG hA => Text_play hT hO hG c.s (by omega)).mono ?_; rintro e w2 ⟨⟨v2, rfl⟩, hk⟩; have HK := Lib.hid hk; clear hk))
            go_roundw
            case rel => exact ⟨k + 1, tb, by omega, by go_num, rfl, HK.out⟩
            case measure => simp [intOf]; omega
          · have e3 : IntKind.i64.wrap ((c.what.tmod 10 + 10).tmod 10) = 3 := by rw [hm]; rfl
            rw [Int.tmod_eq_emod_of_nonneg (by omega), Int.add_emod_right] at hm
            go_wp2_with ((go_at_call 21; refine (HIN.out.play fun own ptr T hT hO hG hA => Insert_play hT hO hG _ _ _).mono ?_; rintro e w2 ⟨⟨v2, rfl⟩, hk⟩; have HK := Lib.hid hk; clear hk))
            go_roundw
            case rel => exact ⟨k + 1, tb, by omega, by go_num, rfl, HK.out⟩
            case measure => simp [intOf]; omega
          · have e3 : IntKind.i64.wrap ((c.what.tmod 10 + 10).tmod 10) = 4 := by rw [hm]; rfl
            rw [Int.tmod_eq_emod_of_nonneg (by omega), Int.add_emod_right] at hm
            go_wp2_with ((go_at_call 21; refine (HIN.out.play fun own ptr T hT hO hG hA => Insert_play hT hO hG _ _ _).mono ?_; rintro e w2 ⟨⟨v2, rfl⟩, hk⟩; have HK := Lib.hid hk; clear hk))
            go_roundw
            case rel => exact ⟨k + 1, tb, by omega, by go_num, rfl, HK.out⟩
            case measure => simp [intOf]; omega
          · have e3 : IntKind.i64.wrap ((c.what.tmod 10 + 10).tmod 10) = 5 := by rw [hm]; rfl
            rw [Int.tmod_eq_emod_of_nonneg (by omega), Int.add_emod_right] at hm
            go_wp2_with ((go_at_call 22; refine (HIN.out.play fun own ptr T hT hO hG hA => Remove_play hT hO hG _).mono ?_; rintro e w2 ⟨⟨v2, rfl⟩, hk⟩; have HK := Lib.hid hk; clear hk))
            go_roundw
            case rel => exact ⟨k + 1, tb, by omega, by go_num, rfl, HK.out⟩
            case measure => simp [intOf]; omega
          · have e3 : IntKind.i64.wrap ((c.what.tmod 10 + 10).tmod 10) = 6 := by rw [hm]; rfl
            rw [Int.tmod_eq_emod_of_nonneg (by omega), Int.add_emod_right] at hm
            go_wp2_with ((go_at_call 25; refine (HIN.out.play fun own ptr T hT hO hG hA => Drop_play hT hO hG _).mono ?_; rintro e w2 ⟨⟨v2, rfl⟩, hk⟩; have HK := Lib.hid hk; clear hk))
            go_roundw
            case rel => exact ⟨k + 1, tb, by omega, by go_num, rfl, HK.out⟩
            case measure => simp [intOf]; omega
          · have e3 : IntKind.i64.wrap ((c.what.tmod 10 + 10).tmod 10) = 7 := by rw [hm]; rfl
            rw [Int.tmod_eq_emod_of_nonneg (by omega), Int.add_emod_right] at hm
            go_wp2_with (first
              | (go_at_call 24; refine (HBX.out.play fun own ptr T hT hO hG hA => SetAttrs_play hT hO hG _ HRA.out (by omega)).mono ?_; rintro e w2 ⟨⟨v2, rfl⟩, hk2⟩; have hb2 := hk2.obj; have x12 := cellOf hb2 (i := 1) (v := .int .i64 c.a) rfl; have x22 := cellOf hb2 (i := 2) (v := .int .i64 c.b) rfl; have x42 := cellOf hb2 (i := 4) (v := .string c.s) rfl; have HK2 := Lib.hid hk2; clear hk2 hb2)
              | (go_at_call 23; refine (HK2.out.play fun own ptr T hT hO hG hA => SetText_play hT hO hG _ c.s (by omega)).mono ?_; rintro e w3 ⟨⟨v3, rfl⟩, hk3⟩; have hb3 := hk3.obj; have x13 := cellOf hb3 (i := 1) (v := .int .i64 c.a) rfl; have x23 := cellOf hb3 (i := 2) (v := .int .i64 c.b) rfl; have x43 := cellOf hb3 (i := 4) (v := .string c.s) rfl; have HK3 := Lib.hid hk3; clear hk3 hb3)
              | (go_at_call 29; refine (HK3.out.play fun own ptr T hT hO hG hA => SetTag_play hT hO hG _ _).mono ?_; rintro e w4 ⟨⟨v4, rfl⟩, hk4⟩; have hb4 := hk4.obj; have x14 := cellOf hb4 (i := 1) (v := .int .i64 c.a) rfl; have x24 := cellOf hb4 (i := 2) (v := .int .i64 c.b) rfl; have x44 := cellOf hb4 (i := 4) (v := .string c.s) rfl; have HK4 := Lib.hid hk4; clear hk4 hb4))
            go_roundw
            case rel => exact ⟨k + 1, tb, by omega, by go_num, rfl, HK4.out.tree⟩
            case measure => simp [intOf]; omega
          · have e3 : IntKind.i64.wrap ((c.what.tmod 10 + 10).tmod 10) = 8 := by rw [hm]; rfl
            rw [Int.tmod_eq_emod_of_nonneg (by omega), Int.add_emod_right] at hm
            go_wp2_with ((go_at_call 31; refine (HIN.out.play fun own ptr T hT hO hG hA => Graft_play hT hO hG _ _ HRN.out hA G5.out (by omega)).mono ?_; rintro e w2 ⟨⟨v2, rfl⟩, hk⟩; have HK := Lib.hid hk; clear hk))
            go_roundw
            case rel => exact ⟨k + 1, tb, by omega, by go_num, rfl, HK.out⟩
            case measure => simp [intOf]; omega
          · have e3 : IntKind.i64.wrap ((c.what.tmod 10 + 10).tmod 10) = 9 := by rw [hm]; rfl
            rw [Int.tmod_eq_emod_of_nonneg (by omega), Int.add_emod_right] at hm
            go_wp2_with (go_at_call 20; refine (HIN.out.copy).mono ?_; rintro e w2 ⟨tb2, rfl, hk⟩; have HK := Lib.hid hk; clear hk)
            go_roundw
            case rel => exact ⟨k + 1, tb2, by omega, by go_num, rfl, HK.out⟩
            case measure => simp [intOf]; omega
          · rcases hm with hm | hm
            · have e3 : IntKind.i64.wrap ((c.what.tmod 10 + 10).tmod 10) = 0 := by rw [hm]; rfl
              rw [Int.tmod_eq_emod_of_nonneg (by omega), Int.add_emod_right] at hm
              go_wp2_with (go_at_call 44; refine (HIN.out.play fun own ptr T hT hO hG hA => Element_play hT hO hG _ HRA.out (by omega)).mono ?_; rintro e w2 ⟨⟨v2, rfl⟩, hk⟩; have HK := Lib.hid hk; clear hk)
              go_roundw
              case rel => exact ⟨k + 1, tb, by omega, by go_num, rfl, HK.out⟩
              case measure => simp [intOf]; omega
            · have e3 : IntKind.i64.wrap ((c.what.tmod 10 + 10).tmod 10) = 1 := by rw [hm]; rfl
              rw [Int.tmod_eq_emod_of_nonneg (by omega), Int.add_emod_right] at hm
              go_wp2_with (go_at_call 44; refine (HIN.out.play fun own ptr T hT hO hG hA => Element_play hT hO hG _ HRA.out (by omega)).mono ?_; rintro e w2 ⟨⟨v2, rfl⟩, hk⟩; have HK := Lib.hid hk; clear hk)
              go_roundw
              case rel => exact ⟨k + 1, tb, by omega, by go_num, rfl, HK.out⟩
              case measure => simp [intOf]; omega
      · go_wp2_with fail
        go_ret
        exact .inr ⟨tb, rfl, HIN.out⟩
  · go_enter Try.func17, Try.ntmps17
    go_wp2_with (go_at_call 38; refine (New_no cap deep hroom w).mono ?_; rintro e w1 ⟨rfl, hx1⟩)
    go_ret
    exact .inl ⟨rfl, hx1⟩
end Go.Proofs.Ytiglflmjidikpaa

namespace Go.Proofs.Ytiglflmjidikpaa
open Go Go.RowKit Go.BigFrame
set_option linter.unusedVariables false
set_option linter.unusedSimpArgs false

section
variable {w u : World} {own : Ow} {ptr : Nat → Nat} {tb : Nat} {T : Tr} {d : Nat → Nat} {i : Nat} {nd : Nd}
theorem s_has (hT : TreeAt w own ptr tb T) (hO : Owned own w) (h : T.nodes[i]? = some (some nd)) (x : Ext w u) : Calls Try.prog 27 #[.pointer (some ⟨tb, 0, none⟩), .int .i64 i] u (RSame (.bool true) u) :=
  Has_some (hT.keep (x.keep hO)) (Tr.get_of h)
theorem s_tag (hT : TreeAt w own ptr tb T) (hO : Owned own w) (h : T.nodes[i]? = some (some nd)) (x : Ext w u) : Calls Try.prog 46 #[.pointer (some ⟨tb, 0, none⟩), .int .i64 i] u (RSame (.int .i64 nd.tag) u) :=
  Tag_some (hT.keep (x.keep hO)) (Tr.get_of h)
theorem s_parent (hT : TreeAt w own ptr tb T) (hO : Owned own w) (h : T.nodes[i]? = some (some nd)) (x : Ext w u) {p : Int} (hp : nd.parent = p) : Calls Try.prog 34 #[.pointer (some ⟨tb, 0, none⟩), .int .i64 i] u (RSame (.int .i64 p) u) :=
  hp ▸ Parent_some (hT.keep (x.keep hO)) (Tr.get_of h)
theorem s_depth (hT : TreeAt w own ptr tb T) (hO : Owned own w) (hw : WF T d) (h : T.nodes[i]? = some (some nd)) (x : Ext w u) {z : Int} (hz : (d i : Int) = z) : Calls Try.prog 36 #[.pointer (some ⟨tb, 0, none⟩), .int .i64 i] u (RSame (.int .i64 z) u) :=
  hz ▸ Depth_some (hT.keep (x.keep hO)) hw h
theorem s_live (hT : TreeAt w own ptr tb T) (hO : Owned own w) (hw : WF T d) (h : T.nodes[i]? = some (some nd)) (x : Ext w u) {b : Bool} (hz : T.within i 0 = b) : Calls Try.prog 28 #[.pointer (some ⟨tb, 0, none⟩), .int .i64 i] u (RSame (.bool b) u) :=
  hz ▸ Live_some (hT.keep (x.keep hO)) hw h
theorem s_height (hT : TreeAt w own ptr tb T) (hO : Owned own w) (hw : WF T d) (h : T.nodes[i]? = some (some nd)) (x : Ext w u) : Calls Try.prog 50 #[.pointer (some ⟨tb, 0, none⟩), .int .i64 i] u (RSame (.int .i64 (T.height i)) u) :=
  Height_fuel (hT.keep (x.keep hO)) hw 50 i nd h (by omega) (by omega)
/-- all of a node that the walk asks for -/
structure Told (T : Tr) (d : Nat → Nat) (i : Nat) (nd : Nd) (p z h : Int) (b : Bool) : Prop where
  node : T.nodes[i]? = some (some nd)
  up : nd.parent = p
  depth : (d i : Int) = z
  height : T.height i = h
  live : T.within i 0 = b
variable {p z h : Int} {b : Bool}
theorem t_has (hT : TreeAt w own ptr tb T) (hO : Owned own w) (x : Ext w u) (t : Told T d i nd p z h b) : Calls Try.prog 27 #[.pointer (some ⟨tb, 0, none⟩), .int .i64 i] u (RVal (.bool true) u) := RSame.val (s_has hT hO t.node x)
theorem t_parent (hT : TreeAt w own ptr tb T) (hO : Owned own w) (x : Ext w u) (t : Told T d i nd p z h b) : Calls Try.prog 34 #[.pointer (some ⟨tb, 0, none⟩), .int .i64 i] u (RVal (.int .i64 p) u) := RSame.val (s_parent hT hO t.node x t.up)
theorem t_depth (hT : TreeAt w own ptr tb T) (hO : Owned own w) (hw : WF T d) (x : Ext w u) (t : Told T d i nd p z h b) : Calls Try.prog 36 #[.pointer (some ⟨tb, 0, none⟩), .int .i64 i] u (RVal (.int .i64 z) u) := RSame.val (s_depth hT hO hw t.node x t.depth)
theorem t_height (hT : TreeAt w own ptr tb T) (hO : Owned own w) (hw : WF T d) (x : Ext w u) (t : Told T d i nd p z h b) : Calls Try.prog 50 #[.pointer (some ⟨tb, 0, none⟩), .int .i64 i] u (RVal (.int .i64 h) u) := t.height ▸ RSame.val (s_height hT hO hw t.node x)
theorem t_live (hT : TreeAt w own ptr tb T) (hO : Owned own w) (hw : WF T d) (x : Ext w u) (t : Told T d i nd p z h b) : Calls Try.prog 28 #[.pointer (some ⟨tb, 0, none⟩), .int .i64 i] u (RVal (.bool b) u) := RSame.val (s_live hT hO hw t.node x t.live)
theorem u_has (hT : TreeAt w own ptr tb T) (hO : Owned own w) (x : Ext w u) (t : Told T d i nd p z h b) : Calls Try.prog 27 #[.pointer (some ⟨tb, 0, none⟩), .int .i64 i] u (RSame (.bool true) u) := (s_has hT hO t.node x)
theorem u_parent (hT : TreeAt w own ptr tb T) (hO : Owned own w) (x : Ext w u) (t : Told T d i nd p z h b) : Calls Try.prog 34 #[.pointer (some ⟨tb, 0, none⟩), .int .i64 i] u (RSame (.int .i64 p) u) := (s_parent hT hO t.node x t.up)
theorem u_depth (hT : TreeAt w own ptr tb T) (hO : Owned own w) (hw : WF T d) (x : Ext w u) (t : Told T d i nd p z h b) : Calls Try.prog 36 #[.pointer (some ⟨tb, 0, none⟩), .int .i64 i] u (RSame (.int .i64 z) u) := (s_depth hT hO hw t.node x t.depth)
theorem u_live (hT : TreeAt w own ptr tb T) (hO : Owned own w) (hw : WF T d) (x : Ext w u) (t : Told T d i nd p z h b) : Calls Try.prog 28 #[.pointer (some ⟨tb, 0, none⟩), .int .i64 i] u (RSame (.bool b) u) := (s_live hT hO hw t.node x t.live)
theorem u_tag (hT : TreeAt w own ptr tb T) (hO : Owned own w) (x : Ext w u) (t : Told T d i nd p z h b) : Calls Try.prog 46 #[.pointer (some ⟨tb, 0, none⟩), .int .i64 i] u (RSame (.int .i64 nd.tag) u) := s_tag hT hO t.node x
theorem nodup_pos {l : List Int} (hn : l.Nodup) {k : Nat} {x : Int} (h : l[k]? = some x) : posOf l x = k := by
  refine posOf_at h fun hm => ?_
  obtain ⟨hlt, rfl⟩ := List.getElem?_eq_some_iff.1 h
  rw [← List.take_append_drop k l, List.nodup_append] at hn
  refine hn.2.2 _ hm _ ?_ rfl
  rw [List.mem_iff_getElem?]
  exact ⟨0, by simp⟩
theorem s_index (hT : TreeAt w own ptr tb T) (hO : Owned own w) (hw : WF T d) (h : T.nodes[i]? = some (some nd)) (x : Ext w u) {p n : Nat} {pd : Nd} (hp : nd.parent = (p : Int)) (hpd : T.nodes[p]? = some (some pd)) (hn : pd.kids[n]? = some (i : Int)) :
    Calls Try.prog 35 #[.pointer (some ⟨tb, 0, none⟩), .int .i64 i] u (RVal (.int .i64 n) u) := by
  have := hw.kids_len hpd
  have h1 := Index_kid (hT.keep (x.keep hO)) (Tr.get_of h) (hp ▸ Tr.get_of hpd) (by omega)
  rw [nodup_pos (hw.kids p pd hpd).1 hn] at h1
  exact h1
theorem s_kids (hT : TreeAt w own ptr tb T) (hO : Owned own w) (hw : WF T d) (h : T.nodes[i]? = some (some nd)) (x : Ext w u) :
    Calls Try.prog 49 #[.pointer (some ⟨tb, 0, none⟩), .int .i64 i] u (RRow 3 1 nd.kids.length (nd.kids.map (Value.int .i64)) u) :=
  Kids_some (hT.keep (x.keep hO)) (Tr.get_of h) (by have := hw.kids_len h; omega)
theorem s_kid (hw : WF T d) (h : T.nodes[i]? = some (some nd)) {n : Nat} {k : Int} (hk : nd.kids[n]? = some k) :
    ∃ (j : Nat) (kd : Nd), k = (j : Int) ∧ T.nodes[j]? = some (some kd) ∧ kd.parent = (i : Int) ∧ (d j : Int) = d i + 1 ∧ T.height j + 1 ≤ T.height i ∧ T.within j 0 = T.within i 0 := by
  obtain ⟨j, kd, h1, h2, h3, h4⟩ := hw.kid h hk
  subst h1
  refine ⟨j, kd, rfl, h2, h3, by omega, hw.hgt_kid h (List.mem_of_getElem? hk), ?_⟩
  rw [hw.within_step h2, h3]
  obtain ⟨rd, r1, r2, _⟩ := hw.root
  rw [if_neg (fun e => by
    have e' : j = 0 := by omega
    subst e'
    obtain rfl := some_inj2 r1 h2
    omega)]
theorem cnt_snoc (l : List (Option Nd)) (k : Nat) (x : Option Nd) (h : l[k]? = some x) : (l.take (k + 1)).countP Option.isSome = (l.take k).countP Option.isSome + (if x.isSome then 1 else 0) := by
  obtain ⟨hlt, rfl⟩ := List.getElem?_eq_some_iff.1 h
  rw [List.take_succ_eq_append_getElem hlt, List.countP_append, List.countP_singleton]
theorem cnt_le (l : List (Option Nd)) (k : Nat) : (l.take k).countP Option.isSome ≤ l.countP Option.isSome := by
  have := congrArg (List.countP Option.isSome) (List.take_append_drop k l)
  rw [List.countP_append] at this
  omega
end
set_option maxRecDepth 100000 in
set_option maxHeartbeats 8000000 in
theorem Sound_any {w : World} {own : Ow} {ptr : Nat → Nat} {tb : Nat} {T : Tr} {d : Nat → Nat} (hT : TreeAt w own ptr tb T) (hO : Owned own w) (hw : WF T d) : Calls Try.prog 37 #[.pointer (some ⟨tb, 0, none⟩)] w (RBool true w) := by
  obtain ⟨rd, r1, r2, r3⟩ := hw.root
  have hcap : T.count ≤ T.cap := hw.small.count1
  have hcap1 := hw.small.cap1
  have hlen := hw.small.len
  have hcount := hw.count
  have HT := Lib.hid hT
  have HO := Lib.hid hO
  have HW := Lib.hid hw
  have HR := Lib.hid r1
  have x0 : Ext w w := Ext.refl w
  clear hT hO hw r1
  go_enter Try.func37, Try.ntmps37
  go_wp2_with (go_at_call 45; refine (Room_any HT.out).mono ?_; rintro e w' ⟨rfl, hy⟩; have HY := Lib.hid hy; clear hy)
  go_wp2_with fail
  go_loopw [5, 6] (fun n id wr => ∃ k : Nat, k ≤ T.nodes.length ∧ id = .int .i64 k ∧ n = .int .i64 (((T.nodes.take k).countP Option.isSome : Nat) : Int) ∧ Ext w wr) (fun _ id _ => T.nodes.length - (intOf id).toNat)
  case atStart => exact ⟨0, Nat.zero_le _, rfl, rfl, HY.out⟩
  case round =>
    obtain ⟨k, hk, rfl, rfl, xr⟩ := hrel
    have HXR := Lib.hid xr
    clear xr HY
    have hle := cnt_le T.nodes k
    obtain ⟨c, hc⟩ : ∃ c, c = (T.nodes.take k).countP Option.isSome := ⟨_, rfl⟩
    rw [← hc] at hle ⊢
    obtain ⟨m, hm⟩ : ∃ m, m = T.nodes.countP Option.isSome := ⟨_, rfl⟩
    rw [← hm] at hle hcount
    by_cases hlt : c < m
    · have hkl : k < T.nodes.length := by
        rcases Nat.lt_or_ge k T.nodes.length with h | h
        · exact h
        · rw [List.take_of_length_le h] at hc; omega
      obtain ⟨o, ho⟩ : ∃ o, T.nodes[k]? = some o := ⟨T.nodes[k], by simp [hkl]⟩
      have hsn := cnt_snoc _ _ _ ho
      rw [← hc] at hsn
      cases o with
      | none =>
        have HN : Hid (T.get? (k : Int) = none) := Lib.hid (by rw [T.get_nat, ho]; rfl)
        clear ho
        go_wp2_with (first
          | (go_at_call 19; refine (Count_any (HT.out.keep (HXR.out.keep HO.out))).mono ?_; rintro e w' ⟨rfl, rfl⟩; rw [hcount])
          | (go_at_call 27; refine (Has_none (HT.out.keep (HXR.out.keep HO.out)) HN.out).mono ?_; rintro e w' ⟨rfl, rfl⟩))
        go_roundw
        case rel => exact ⟨k + 1, by omega, by go_num, by rw [hsn, hc]; simp, HXR.out⟩
        case measure => simp [intOf]; omega
      | some nd =>
        have HN := Lib.hid ho
        have hkl2 := HW.out.kids_len ho
        clear ho
        have hs2 : (T.nodes.take (k + 1)).countP Option.isSome = c + 1 := hsn
        clear hsn
        go_wp2_with (first
          | (go_at_call 19; refine (Count_any (HT.out.keep (HXR.out.keep HO.out))).mono ?_; rintro e w' ⟨rfl, rfl⟩; rw [hcount])
          | (go_at_call 27; refine (s_has HT.out HO.out HN.out HXR.out).mono ?_; rintro e w' ⟨rfl, rfl⟩)
          | (go_at_call 49; refine (s_kids HT.out HO.out HW.out HN.out HXR.out).mono ?_; rintro e wk ⟨vk, rfl, hrk, hxk⟩; have HXK := Lib.hid (HXR.out.trans hxk); have HRK := Lib.hid (RowP.rd hrk); clear hrk hxk; obtain ⟨ka, kcap, rfl, hkc⟩ := HRK.out.len_of))
        have hrk := HRK.out
        have hx0 := Lib.hid (Ext.refl wk)
        go_loopw [8] (fun i wy => ∃ n : Nat, n ≤ nd.kids.length ∧ i = .int .i64 n ∧ Ext wk wy) (fun i _ => nd.kids.length - (intOf i).toNat)
        case atStart => exact ⟨0, Nat.zero_le _, rfl, Ext.refl wk⟩
        case round =>
          obtain ⟨n, hn, rfl, xy⟩ := hrel
          have HXY := Lib.hid (HXK.out.trans xy)
          by_cases hnl : n < nd.kids.length
          · obtain ⟨x, hx⟩ : ∃ x, nd.kids[n]? = some x := ⟨nd.kids[n], by simp [hnl]⟩
            obtain ⟨j, kd, rfl, hj, hjp, hjd, hjh, hjl⟩ := s_kid HW.out HN.out hx
            obtain ⟨_, ka', kcap', e1, k3, k4, k5⟩ := hrk
            cases e1
            cases ka with
            | none => exact absurd (k4 rfl).1 (by omega)
            | some ga =>
              obtain ⟨g, go, gs⟩ := ga
              have q := xy.cells _ _ (k5 _ rfl n (.int .i64 j) (by rw [List.getElem?_map, hx]; rfl))
              have qu := fun u : ExtOf wr => u.ext.cells _ _ q
              have HX := Lib.hid hx
              have HJ := Lib.hid hj
              obtain ⟨lv, hlv⟩ : ∃ lv, lv = T.within k 0 := ⟨_, rfl⟩
              obtain ⟨zk, hzk⟩ : ∃ z, z = T.height k := ⟨_, rfl⟩
              obtain ⟨zj, hzj⟩ : ∃ z, z = T.height j := ⟨_, rfl⟩
              obtain ⟨dk, hdk⟩ : ∃ z, z = (d k : Int) := ⟨_, rfl⟩
              have hd50 := HW.out.d50 HN.out
              have BJ := Lib.hid (show Told T d j kd k (dk + 1) zj lv from ⟨hj, hjp, by rw [hjd, hdk], hzj.symm, by rw [hjl, hlv]⟩)
              have BN := Lib.hid (show Told T d k nd nd.parent dk zk lv from ⟨HN.out, rfl, hdk.symm, hzk.symm, hlv.symm⟩)
              have HJP := Lib.hid hjp
              rw [← hzk, ← hzj] at hjh
              have hh : decide (zk ≤ zj) = false := by rw [decide_eq_false_iff_not]; omega
              have e1 : IntKind.i64.wrap (dk + 1) = dk + 1 := IntWalk.i64_in _ (by omega)
              have HXW := Lib.hid xy
              clear xy k5 q hx hj hjh hlv hzk hzj hdk hjp hjd hjl hd50
              go_upto_region 14 with fail
              refine wp_region_ext (by kernel_rfl) (by kernel_rfl) ?_
              repeat (go_big_quiet_step (first
                | (go_at_call 27; exact inExt (t_has HT.out HO.out (HXY.out.trans (ExtOf.ext _)) BJ.out))
                | (go_at_call 34; exact inExt (t_parent HT.out HO.out (HXY.out.trans (ExtOf.ext _)) BJ.out))
                | (go_at_call 35; exact inExt (s_index HT.out HO.out HW.out HJ.out (HXY.out.trans (ExtOf.ext _)) HJP.out HN.out HX.out))
                | (go_at_call 36; exact inExt (t_depth HT.out HO.out HW.out (HXY.out.trans (ExtOf.ext _)) (by first | exact BJ.out | exact BN.out)))
                | (go_at_call 50; exact inExt (t_height HT.out HO.out HW.out (HXY.out.trans (ExtOf.ext _)) (by first | exact BJ.out | exact BN.out)))
                | (go_at_call 28; exact inExt (t_live HT.out HO.out HW.out (HXY.out.trans (ExtOf.ext _)) (by first | exact BJ.out | exact BN.out)))))
              refine wpQuiet_nil ?_
              rintro _ ⟨u, rfl⟩
              clear qu
              go_wp2_with fail
              go_roundw
              case rel => exact ⟨n + 1, by omega, by go_num, HXW.out.trans u.ext⟩
              case measure => simp [intOf]; omega
          · have htx := HW.out.text k nd HN.out
            have hdk := HW.out.deep k nd HN.out
            have hd0 := HW.out.small.deep0
            have htag : ∀ P : Prop, (nd.tag = 0 → nd.kids.length = 0 → P) → (nd.tag ≠ 0 → P) → P := fun P h1 h2 => by
              by_cases h : nd.tag = 0
              · exact h1 h (by rw [htx.2.2 h]; rfl)
              · exact h2 h
            have HTAG := Lib.hid htag
            clear htag htx xy hrk HXK hn hx0
            rcases HW.out.up k nd HN.out with ⟨hp, hd⟩ | ⟨p, pd, hp, hpn, hpd, hpk⟩
            · have hl := HW.out.within_root HN.out hp 0
              by_cases hk0 : (k : Int) = 0
              · have hk1 : decide ((k : Int) = 0) = true := by simpa using hk0
                have he : ((k : Int) == 0) = true := by simpa using hk0
                rw [hk1] at hl
                have BK := Lib.hid (show Told T d k nd (-1) 0 (T.height k) true from ⟨HN.out, hp, by omega, rfl, hl⟩)
                clear hp hd hl hk1 hdk hk0
                refine HTAG.out _ (fun ht0 ht1 => ?_) (fun ht0 => ?_)
                all_goals go_wp2_with (first
              | (go_at_call 34; refine (u_parent HT.out HO.out (by first | exact HXY.out | exact HXI.out) (by first | exact BK.out | exact BP.out)).mono ?_; rintro e w' ⟨rfl, rfl⟩)
              | (go_at_call 36; refine (u_depth HT.out HO.out HW.out (by first | exact HXY.out | exact HXI.out) (by first | exact BK.out | exact BP.out)).mono ?_; rintro e w' ⟨rfl, rfl⟩)
              | (go_at_call 27; refine (u_has HT.out HO.out (by first | exact HXY.out | exact HXI.out) (by first | exact BK.out | exact BP.out)).mono ?_; rintro e w' ⟨rfl, rfl⟩)
              | (go_at_call 28; refine (u_live HT.out HO.out HW.out (by first | exact HXY.out | exact HXI.out) (by first | exact BK.out | exact BP.out)).mono ?_; rintro e w' ⟨rfl, rfl⟩)
              | (go_at_call 46; refine (u_tag HT.out HO.out (by first | exact HXY.out | exact HXI.out) (by first | exact BK.out | exact BP.out)).mono ?_; rintro e w' ⟨rfl, rfl⟩))
                · go_roundw
                  case rel => exact ⟨k + 1, by omega, by go_num, by rw [hs2, hc]; (first | rfl | (simp; done) | go_num), HXY.out⟩
                  case measure => simp [intOf]; omega
                · go_roundw
                  case rel => exact ⟨k + 1, by omega, by go_num, by rw [hs2, hc]; (first | rfl | (simp; done) | go_num), HXY.out⟩
                  case measure => simp [intOf]; omega
              · have hk1 : decide ((k : Int) = 0) = false := by simpa using hk0
                have he : ((k : Int) == 0) = false := by simpa using hk0
                rw [hk1] at hl
                have BK := Lib.hid (show Told T d k nd (-1) 0 (T.height k) false from ⟨HN.out, hp, by omega, rfl, hl⟩)
                clear hp hd hl hk1 hdk hk0
                refine HTAG.out _ (fun ht0 ht1 => ?_) (fun ht0 => ?_)
                all_goals go_wp2_with (first
              | (go_at_call 34; refine (u_parent HT.out HO.out (by first | exact HXY.out | exact HXI.out) (by first | exact BK.out | exact BP.out)).mono ?_; rintro e w' ⟨rfl, rfl⟩)
              | (go_at_call 36; refine (u_depth HT.out HO.out HW.out (by first | exact HXY.out | exact HXI.out) (by first | exact BK.out | exact BP.out)).mono ?_; rintro e w' ⟨rfl, rfl⟩)
              | (go_at_call 27; refine (u_has HT.out HO.out (by first | exact HXY.out | exact HXI.out) (by first | exact BK.out | exact BP.out)).mono ?_; rintro e w' ⟨rfl, rfl⟩)
              | (go_at_call 28; refine (u_live HT.out HO.out HW.out (by first | exact HXY.out | exact HXI.out) (by first | exact BK.out | exact BP.out)).mono ?_; rintro e w' ⟨rfl, rfl⟩)
              | (go_at_call 46; refine (u_tag HT.out HO.out (by first | exact HXY.out | exact HXI.out) (by first | exact BK.out | exact BP.out)).mono ?_; rintro e w' ⟨rfl, rfl⟩))
                · go_roundw
                  case rel => exact ⟨k + 1, by omega, by go_num, by rw [hs2, hc]; (first | rfl | (simp; done) | go_num), HXY.out⟩
                  case measure => simp [intOf]; omega
                · go_roundw
                  case rel => exact ⟨k + 1, by omega, by go_num, by rw [hs2, hc]; (first | rfl | (simp; done) | go_num), HXY.out⟩
                  case measure => simp [intOf]; omega
            · have hk0 : (k : Int) ≠ 0 := fun e => by
                have e' : k = 0 := by omega
                subst e'
                obtain rfl := some_inj2 HR.out HN.out
                omega
              have hl := HW.out.within_step HN.out 0
              rw [if_neg hk0, hp] at hl
              have he : ((k : Int) == 0) = false := by simpa using hk0
              obtain ⟨lv, hlv⟩ : ∃ lv, lv = T.within k 0 := ⟨_, rfl⟩
              rw [← hlv] at hl
              obtain ⟨dk, hdk'⟩ : ∃ z, z = (d k : Int) := ⟨_, rfl⟩
              rw [← hdk'] at hdk
              have hpt : (pd.tag == 0) = false := by rw [beq_eq_false_iff_ne]; exact fun e => by rw [(HW.out.text p pd hpn).2.2 e] at hpk; cases hpk
              obtain ⟨n', hn'⟩ := List.mem_iff_getElem?.1 hpk
              have BK := Lib.hid (show Told T d k nd p dk (T.height k) lv from ⟨HN.out, hp, hdk'.symm, rfl, hlv.symm⟩)
              have BP := Lib.hid (show Told T d p pd pd.parent (d p) (T.height p) lv from ⟨hpn, rfl, rfl, rfl, hl.symm⟩)
              have HP := Lib.hid hp
              have HPN := Lib.hid hpn
              have HPK := Lib.hid hn'
              clear hp hl hlv hpn hpk hpd hn' hdk' hk0
              refine HTAG.out _ (fun ht0 ht1 => ?_) (fun ht0 => ?_)
              all_goals go_wp2_with (first
              | (go_at_call 34; refine (u_parent HT.out HO.out (by first | exact HXY.out | exact HXI.out) (by first | exact BK.out | exact BP.out)).mono ?_; rintro e w' ⟨rfl, rfl⟩)
              | (go_at_call 36; refine (u_depth HT.out HO.out HW.out (by first | exact HXY.out | exact HXI.out) (by first | exact BK.out | exact BP.out)).mono ?_; rintro e w' ⟨rfl, rfl⟩)
              | (go_at_call 27; refine (u_has HT.out HO.out (by first | exact HXY.out | exact HXI.out) (by first | exact BK.out | exact BP.out)).mono ?_; rintro e w' ⟨rfl, rfl⟩)
              | (go_at_call 28; refine (u_live HT.out HO.out HW.out (by first | exact HXY.out | exact HXI.out) (by first | exact BK.out | exact BP.out)).mono ?_; rintro e w' ⟨rfl, rfl⟩)
              | (go_at_call 46; refine (u_tag HT.out HO.out (by first | exact HXY.out | exact HXI.out) (by first | exact BK.out | exact BP.out)).mono ?_; rintro e w' ⟨rfl, rfl⟩)
              | (go_at_call 35; refine (s_index HT.out HO.out HW.out HN.out HXY.out HP.out HPN.out HPK.out).mono ?_; rintro e wi ⟨rfl, hyi⟩; have HXI := Lib.hid (HXY.out.trans hyi); clear hyi))
              · go_roundw
                case rel => exact ⟨k + 1, by omega, by go_num, by rw [hs2, hc]; (first | rfl | (simp; done) | go_num), HXI.out⟩
                case measure => simp [intOf]; omega
              · go_roundw
                case rel => exact ⟨k + 1, by omega, by go_num, by rw [hs2, hc]; (first | rfl | (simp; done) | go_num), HXI.out⟩
                case measure => simp [intOf]; omega
    · have hcm : c = m := by omega
      have r1 := HR.out
      have hz := r2
      go_wp2_with (first
        | (go_at_call 19; refine (Count_any (HT.out.keep (HXR.out.keep HO.out))).mono ?_; rintro e w' ⟨rfl, rfl⟩; rw [hcount])
        | (go_at_call 27; refine (s_has (i := 0) HT.out HO.out HR.out HXR.out).mono ?_; rintro e w' ⟨rfl, rfl⟩)
        | (go_at_call 34; refine (s_parent (i := 0) HT.out HO.out HR.out HXR.out r2).mono ?_; rintro e w' ⟨rfl, rfl⟩)
        | (go_at_call 46; refine (s_tag (i := 0) HT.out HO.out HR.out HXR.out).mono ?_; rintro e w' ⟨rfl, rfl⟩; rw [r3]))
      go_ret
      exact ⟨by simp, HXR.out⟩
end Go.Proofs.Ytiglflmjidikpaa
