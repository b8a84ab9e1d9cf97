/- The chapter's example of live (awake). No conditions. -/
import Derived.Test.YthgnbbbdcebjhaaVL
namespace Go.Proofs.Ythgnbbbdcebjhaa
open Go Go.RowKit Go.BigFrame
set_option linter.unusedVariables false
set_option linter.unusedSimpArgs false

theorem Mv.toExt {S : Nat → Prop} {w0 w w' : World} (h0 : Ext w0 w) (h : Mv S w w') (hS : ∀ b, S b → w0.heap.size ≤ b) : Ext w0 w' :=
  ⟨h.os.trans (Below.os h0), h.tape.trans (Below.tape h0), h.output.trans (Below.output h0), Nat.le_trans (Ext.size h0) h.size,
   fun b hb => (h.rest b (Nat.lt_of_lt_of_le hb (Ext.size h0)) fun hs => absurd (hS b hs) (by omega)).trans (Below.block h0 b hb)⟩
/-- a live tree in memory that is newer than w; the blocks fs are none of its -/
def LvS (w : World) (fs : List Nat) (lb tb : Nat) (T : Tr) (H : List Hd) (W : World) : Prop :=
  ∃ own ptr hv hb, LiveAt W own ptr lb tb T hv hb H ∧ Ext w W ∧ (∀ b, own b ≠ none → w.heap.size ≤ b) ∧ w.heap.size ≤ lb ∧ (∀ g, hb = some g → w.heap.size ≤ g) ∧ ∀ b ∈ fs, own b = none ∧ b ≠ lb ∧ hb ≠ some b ∧ b < W.heap.size
/-- .. behind a call -/
def LvT (w : World) (fs : List Nat) (lb tb : Nat) (T : Tr) (H : List Hd) (v : Value) (W : World) (e : Ending) (W' : World) : Prop := e = .returned v ∧ LvS w fs lb tb T H W' ∧ ∀ (b : Nat) (x : Obj), b ∈ fs → W.heap[b]? = some x → W'.heap[b]? = some x
theorem LvS.ext {w W W' : World} {fs : List Nat} {lb tb : Nat} {T : Tr} {H : List Hd} (h : LvS w fs lb tb T H W) (x : Ext W W') : LvS w fs lb tb T H W' := by
  obtain ⟨own, ptr, hv, hb, h1, h2, h3, h4, h5, h6⟩ := h
  exact ⟨own, ptr, hv, hb, h1.ext x, h2.trans x, h3, h4, h5, fun b hb => ⟨(h6 b hb).1, (h6 b hb).2.1, (h6 b hb).2.2.1, Nat.lt_of_lt_of_le (h6 b hb).2.2.2 x.size⟩⟩
/-- a block more -/
theorem LvS.box {w W : World} {fs : List Nat} {lb tb : Nat} {T : Tr} {H : List Hd} (h : LvS w fs lb tb T H W) (o : Obj) : LvS w (W.heap.size :: fs) lb tb T H (W.alloc o) := by
  obtain ⟨own, ptr, hv, hb, h1, h2, h3, h4, h5, h6⟩ := h
  refine ⟨own, ptr, hv, hb, h1.ext ((Ext.refl _).alloc o), h2.trans ((Ext.refl _).alloc o), h3, h4, h5, fun b hb => ?_⟩
  have hz : (W.alloc o).heap.size = W.heap.size + 1 := by simp
  rcases List.mem_cons.1 hb with rfl | hb
  · obtain ⟨n1, n2, n3⟩ := h1.new_own (Nat.le_refl _)
    exact ⟨n1, n2, n3, by omega⟩
  · exact ⟨(h6 b hb).1, (h6 b hb).2.1, (h6 b hb).2.2.1, by have := (h6 b hb).2.2.2; omega⟩
theorem LvS.after {w W W' : World} {fs : List Nat} {own : Ow} {lb tb : Nat} {hb : Option Nat} {T' : Tr} {H' : List Hd} {v : Value} {e : Ending} (hx : Ext w W) (hf : ∀ b, own b ≠ none → w.heap.size ≤ b) (hl : w.heap.size ≤ lb) (hh : ∀ g, hb = some g → w.heap.size ≤ g)
    (hfs : ∀ b ∈ fs, own b = none ∧ b ≠ lb ∧ hb ≠ some b ∧ b < W.heap.size) (he : e = .returned v) (h : LAfter own lb tb hb W T' H' W') : LvT w fs lb tb T' H' v W e W' := by
  obtain ⟨own', ptr', hv', hb', h1, h2⟩ := h
  refine ⟨he, ⟨own', ptr', hv', hb', h1, Mv.toExt hx h2.mv (fun b hb => ?_), fun b hb => ?_, hl, fun g hg => ?_, fun b hb => ?_⟩, fun b x hb hbx => ?_⟩
  · rcases hb with h | rfl | h
    · exact hf b h
    · exact hl
    · exact hh b h
  · by_cases hlt : b < W.heap.size
    · rw [h2.same b hlt] at hb; exact hf b hb
    · have := hx.size; omega
  · rcases h2.hold g hg with h | h
    · exact hh g h
    · have := hx.size; omega
  · obtain ⟨n1, n2, n3, n4⟩ := hfs b hb
    refine ⟨(h2.same b n4).trans n1, n2, fun e => ?_, Nat.lt_of_lt_of_le n4 h2.mv.size⟩
    rcases h2.hold b e with h | h
    · exact n3 h
    · omega
  · obtain ⟨n1, n2, n3, n4⟩ := hfs b hb
    exact h2.mv.block hbx (fun h => by rcases h with h | h | h; exact h n1; exact n2 h; exact n3 h)
def strXY : ByteArray := ⟨#[120, 121]⟩
def strAB : ByteArray := ⟨#[97, 98]⟩
def exP : PN := .mk 2 [] ByteArray.empty [.mk 0 [] strXY []]
abbrev hostNd : Nd := ⟨1, [], ByteArray.empty, [], -1⟩
def txt1 : ByteArray := anewB strXY
def txt2 : ByteArray := anewB (replT txt1 0 0 strAB)
def txt3 : ByteArray := anewB (replT txt2 0 4 ByteArray.empty)
def lT1 : Tr := ⟨10, 5, 3, [some ⟨1, [], ByteArray.empty, [1], -1⟩, some ⟨2, [], ByteArray.empty, [2], 0⟩, some ⟨0, [], txt1, [], 1⟩]⟩
def lT2 : Tr := lT1.setAt 2 ⟨0, [], txt2, [], 1⟩
def lT3 : Tr := lT2.setAt 2 ⟨0, [], txt3, [], 1⟩
def lT4 : Tr := lT3.unlink 0 1 ⟨1, [], ByteArray.empty, [1], -1⟩ ⟨2, [], ByteArray.empty, [2], 0⟩
theorem lT1_eq : (hostOf 10 5).grafted 0 0 hostNd exP = lT1 := rfl
theorem strXY_anew : (anewB strXY).size ≤ 8192 := Nat.le_trans (anewB_size strXY) (by decide)
theorem exP_ok : exP.ok = true := by
  have h0 : (anewB ByteArray.empty).size ≤ 8192 := Nat.le_trans (anewB_size _) (by decide)
  simp only [exP, PN.ok, PN.oks, PN.bad, PN.tag, PN.attrs, PN.kids, PN.text]
  simp [strXY_anew, h0]
theorem run1 : runes txt1 = 2 := by kernel_rfl
theorem siz2 : (replT txt1 0 0 strAB).size = 4 := by kernel_rfl
theorem run2 : runes txt2 = 4 := by kernel_rfl
theorem siz3 : (replT txt2 0 4 ByteArray.empty).size = 0 := by kernel_rfl
theorem len2 : (runeList strAB strAB.size 0).length = 2 := by kernel_rfl
theorem len3 : (runeList ByteArray.empty ByteArray.empty.size 0).length = 0 := by kernel_rfl
theorem txt2_le : txt2.size ≤ 8192 := Nat.le_trans (anewB_size _) (by rw [siz2]; decide)
theorem txt3_le : txt3.size ≤ 8192 := Nat.le_trans (anewB_size _) (by rw [siz3]; decide)
theorem lT1_wf : (∃ d, WF lT1 d) ∧ AttrsOk lT1 := by
  have hh : AttrsOk (hostOf 10 5) := fun i nd hi => by
    cases i with
    | zero => cases hi; simp [NdOk]
    | succ i => cases hi
  obtain ⟨T1, T2, T3, d1, d2, d3, i, nd, pd1, kd, h1, h2, h3⟩ := (hostOf_wf 10 5 (by omega) (by omega) (by omega) (by omega)).graft hh (p := 0) (a := 0) (pd := hostNd) rfl (by decide) (Nat.zero_le _) (n := exP) (by decide) exP_ok (by decide) (by decide)
  rw [lT1_eq] at h2
  subst h2
  exact ⟨⟨d1, h3.wf1⟩, h3.ok1⟩
theorem attrsOk_setAt {T : Tr} (h : AttrsOk T) {i : Nat} {nd : Nd} (hn : NdOk nd) : AttrsOk (T.setAt i nd) := fun j x hj => by
  have hj' : (T.nodes.set i (some nd))[j]? = some (some x) := hj
  rw [List.getElem?_set] at hj'
  split at hj'
  · split at hj'
    · have e : nd = x := by simpa using hj'
      rw [← e]; exact hn
    · cases hj'
  · exact h j x hj'
theorem lT2_wf : (∃ d, WF lT2 d) ∧ AttrsOk lT2 := by
  obtain ⟨⟨d, hw⟩, hA⟩ := lT1_wf
  exact ⟨⟨d, hw.setAt (i := 2) (nd := ⟨0, [], txt1, [], 1⟩) rfl rfl rfl (by decide) (by decide) (fun _ => rfl) (fun h => by cases h)⟩, attrsOk_setAt hA ⟨Nat.zero_le _, txt2_le⟩⟩
theorem lT3_wf : (∃ d, WF lT3 d) ∧ AttrsOk lT3 := by
  obtain ⟨⟨d, hw⟩, hA⟩ := lT2_wf
  exact ⟨⟨d, hw.setAt (i := 2) (nd := ⟨0, [], txt2, [], 1⟩) rfl rfl rfl (by decide) (by decide) (fun _ => rfl) (fun h => by cases h)⟩, attrsOk_setAt hA ⟨Nat.zero_le _, txt3_le⟩⟩
theorem lT4_wf : ∃ d, WF lT4 d := by
  obtain ⟨⟨d, hw⟩, hA⟩ := lT3_wf
  exact ⟨_, hw.unlink (p := 0) (k := 1) (pd := ⟨1, [], ByteArray.empty, [1], -1⟩) (kd := ⟨2, [], ByteArray.empty, [2], 0⟩) rfl rfl rfl⟩
theorem may1 : lT1.may 2 1 = true := by kernel_rfl
theorem win4 : lT4.win 2 1 = true := by kernel_rfl
theorem mov2 : [(⟨2, 1, 0⟩ : Hd)].map (moved (repP 2 0 0 2)) = [⟨2, 3, 0⟩] := by kernel_rfl
theorem mov3 : [(⟨2, 3, 0⟩ : Hd)].map (moved (repP 2 0 4 0)) = [⟨2, 0, 0⟩] := by kernel_rfl
theorem mov4 : [(⟨2, 0, 0⟩ : Hd)].map (moved (remP lT4 1 0 0)) = [⟨0, 0, 0⟩] := by
  show [moved (remP lT4 1 0 0) ⟨2, 0, 0⟩] = _
  unfold moved remP
  rw [win4]
  rfl
theorem RdN.bare (g : World) (t : Int) (s : ByteArray) : RdN g (.mk t [] s []) (.agg #[.int .i64 t, .slice none 0 0, .string s, .slice none 0 0]) :=
  RdN.mk' (n := .mk t [] s []) (emptyRow g) ⟨none, 0, rfl, Nat.le_refl _, Nat.zero_le _, fun _ => ⟨rfl, rfl⟩, fun a h => by cases h⟩
theorem RdN.one {g : World} {b : Nat} {t : Int} {s : ByteArray} {k : PN} {c0 c1 c2 c3 : Value} (hb : Box4 g b c0 c1 c2 c3) (hk : RdN g k (.agg #[c0, c1, c2, c3])) :
    RdN g (.mk t [] s [k]) (.agg #[.int .i64 t, .slice none 0 0, .string s, .slice (some ⟨b, 0, none⟩) 1 1]) := by
  refine RdN.mk' (n := .mk t [] s [k]) (emptyRow g) ⟨some ⟨b, 0, none⟩, 1, rfl, Nat.le_refl _, by decide, (fun h => by cases h), fun a ha j x hx => ?_⟩
  cases ha
  have hx' : [k][j]? = some x := hx
  cases j with
  | zero =>
    simp at hx'
    subst hx'
    exact ⟨c0, c1, c2, c3, hb.1, hb.2.1, hb.2.2.1, hb.2.2.2, hk⟩
  | succ j => simp at hx'
theorem okI_small {z : Int} (h : -1 ≤ z) (k : z ≤ 1000) : okI z := ⟨h, by omega⟩
/-- the example's graft -/
theorem LvS.graft {w W : World} {fs : List Nat} {lb tb : Nat} (h : LvS w fs lb tb (hostOf 10 5) [] W) :
    Calls Try.prog 6 #[.pointer (some ⟨lb, 0, none⟩), .int .i64 0, .int .i64 0, .agg #[.int .i64 2, .slice none 0 0, .string ⟨#[]⟩, .slice (some ⟨W.heap.size, 0, none⟩) 1 1]] (W.alloc (.cells #[.int .i64 0, .slice none 0 0, .string strXY, .slice none 0 0] 39)) (LvT w fs lb tb lT1 [] (.tuple #[.int .i64 1, .int .i64 0]) (W.alloc (.cells #[.int .i64 0, .slice none 0 0, .string strXY, .slice none 0 0] 39))) := by
  have hb := heap_alloc_new W (.cells #[.int .i64 0, .slice none 0 0, .string strXY, .slice none 0 0] 39)
  have xa := (Ext.refl W).alloc (.cells #[.int .i64 0, .slice none 0 0, .string strXY, .slice none 0 0] 39)
  have hown : ∀ own ptr hv hb, LiveAt W own ptr lb tb (hostOf 10 5) hv hb [] → own W.heap.size = none := fun own ptr hv hb h => (h.new_own (Nat.le_refl _)).1
  obtain ⟨own, ptr, hv, hb', h1, h2, h3, h4, h5, h6⟩ := h
  have hob := hown own ptr hv hb' h1
  have h6' : ∀ b ∈ fs, own b = none ∧ b ≠ lb ∧ hb' ≠ some b ∧ b < (W.alloc (.cells #[.int .i64 0, .slice none 0 0, .string strXY, .slice none 0 0] 39)).heap.size := fun b hb => ⟨(h6 b hb).1, (h6 b hb).2.1, (h6 b hb).2.2.1, Nat.lt_of_lt_of_le (h6 b hb).2.2.2 xa.size⟩
  have h1 := h1.ext xa
  have h2 := h2.trans xa
  generalize (W.alloc (.cells #[.int .i64 0, .slice none 0 0, .string strXY, .slice none 0 0] 39)) = V0 at *
  have hbox : Box4 (hide own V0) W.heap.size (.int .i64 0) (.slice none 0 0) (.string strXY) (.slice none 0 0) :=
    ⟨hide_cell (cellOf hb rfl) hob, hide_cell (cellOf hb rfl) hob, hide_cell (cellOf hb rfl) hob, hide_cell (cellOf hb rfl) hob⟩
  have hr : RdN (hide own V0) exP (.agg #[.int .i64 2, .slice none 0 0, .string ⟨#[]⟩, .slice (some ⟨W.heap.size, 0, none⟩) 1 1]) := RdN.one hbox (RdN.bare _ 0 strXY)
  refine (lGraft_any h1 (Nat.zero_le _) 0 0 _ _ _ _ (i := 1) (er := 0) (T' := lT1) (fun V hV => ?_) ⟨rfl, rfl, rfl, rfl⟩ (fun _ => ⟨okI_small (by decide) (by decide), okI_small (by decide) (by decide), fun x hx => by cases hx⟩)).mono fun e w' hh => LvS.after h2 h3 h4 h5 h6' hh.1 hh.2
  have hG := Graft_ok (h1.ext hV).tree (h1.ext hV).ownd (hostOf_wf 10 5 (by omega) (by omega) (by omega) (by omega)) (p := 0) (at' := 0) (pd := hostNd) rfl (by decide) (Nat.zero_le _) hr ((hide_apart own V0).ext hV) (by decide) (by decide) exP_ok (by decide) (by decide)
  exact hG.mono fun e w' hh => ⟨hh.1, lT1_eq ▸ hh.2⟩
theorem LvS.hold {w W : World} {fs : List Nat} {lb tb : Nat} (h : LvS w fs lb tb lT1 [] W) : Calls Try.prog 4 #[.pointer (some ⟨lb, 0, none⟩), pl 2 1] W (LvT w fs lb tb lT1 [⟨2, 1, 0⟩] (.tuple #[.int .i64 0, .int .i64 0]) W) := by
  obtain ⟨own, ptr, hv, hb', h1, h2, h3, h4, h5, h6⟩ := h
  obtain ⟨⟨d, hw⟩, hA⟩ := lT1_wf
  exact (lHold_add h1 hw hA 2 1 may1 (fun x hx => by cases hx) (Nat.zero_le _)).mono fun e w' hh => LvS.after h2 h3 h4 h5 h6 hh.1 hh.2
theorem LvS.held {w W : World} {fs : List Nat} {lb tb : Nat} {T : Tr} {x : Hd} (h : LvS w fs lb tb T [x] W) (ho : x.off = 0) : Calls Try.prog 5 #[.pointer (some ⟨lb, 0, none⟩), .int .i64 0] W (RTwo (pl x.node x.at') (.bool true) W) := by
  obtain ⟨own, ptr, hv, hb', h1, h2, h3, h4, h5, h6⟩ := h
  exact lHeld_ok h1 (i := 0) rfl ho (by simp)
theorem LvS.rep1 {w W : World} {fs : List Nat} {lb tb : Nat} (h : LvS w fs lb tb lT1 [⟨2, 1, 0⟩] W) : Calls Try.prog 13 #[.pointer (some ⟨lb, 0, none⟩), .int .i64 2, .int .i64 0, .int .i64 0, .string strAB] W (LvT w fs lb tb lT2 [⟨2, 3, 0⟩] (.int .i64 0) W) := by
  obtain ⟨own, ptr, hv, hb', h1, h2, h3, h4, h5, h6⟩ := h
  obtain ⟨⟨d, hw⟩, hA⟩ := lT1_wf
  have hR := lReplace_any h1 (by decide) hw hA 2 (nd := ⟨0, [], txt1, [], 1⟩) rfl rfl 0 0 (Nat.zero_le _) (by decide) strAB (by decide) (c' := 0) (by rw [run1]; rfl) (er := 0) (T' := lT2)
    (fun V hV => SetText_ok (h1.ext hV).tree (h1.ext hV).ownd (i := 2) (nd := ⟨0, [], txt1, [], 1⟩) rfl (by decide) _ (by rw [siz2]; decide) txt2_le)
    (fun _ => ⟨okI_small (by decide) (by decide), fun x hx _ => by have : x = ⟨2, 1, 0⟩ := by simpa using hx
                                                                   subst this; exact ⟨okI_small (by decide) (by decide), okI_small (by decide) (by decide)⟩⟩)
  refine hR.mono fun e w' hh => ?_
  have hz := LvS.after h2 h3 h4 h5 h6 hh.1 hh.2
  unfold movedIf at hz
  rw [if_pos rfl, len2] at hz
  exact mov2 ▸ hz
theorem LvS.rep2 {w W : World} {fs : List Nat} {lb tb : Nat} (h : LvS w fs lb tb lT2 [⟨2, 3, 0⟩] W) : Calls Try.prog 13 #[.pointer (some ⟨lb, 0, none⟩), .int .i64 2, .int .i64 0, .int .i64 9, .string ⟨#[]⟩] W (LvT w fs lb tb lT3 [⟨2, 0, 0⟩] (.int .i64 0) W) := by
  obtain ⟨own, ptr, hv, hb', h1, h2, h3, h4, h5, h6⟩ := h
  obtain ⟨⟨d, hw⟩, hA⟩ := lT2_wf
  have hR := lReplace_any h1 (by decide) hw hA 2 (nd := ⟨0, [], txt2, [], 1⟩) rfl rfl 0 9 (Nat.zero_le _) (by decide) ByteArray.empty (by decide) (c' := 4) (by rw [run2]; rfl) (er := 0) (T' := lT3)
    (fun V hV => SetText_ok (h1.ext hV).tree (h1.ext hV).ownd (i := 2) (nd := ⟨0, [], txt2, [], 1⟩) rfl (by decide) _ (by rw [siz3]; decide) txt3_le)
    (fun _ => ⟨okI_small (by decide) (by decide), fun x hx _ => by have : x = ⟨2, 3, 0⟩ := by simpa using hx
                                                                   subst this; exact ⟨okI_small (by decide) (by decide), okI_small (by decide) (by decide)⟩⟩)
  refine hR.mono fun e w' hh => ?_
  have hz := LvS.after h2 h3 h4 h5 h6 hh.1 hh.2
  unfold movedIf at hz
  rw [if_pos rfl, len3] at hz
  exact mov3 ▸ hz
theorem LvS.rem {w W : World} {fs : List Nat} {lb tb : Nat} (h : LvS w fs lb tb lT3 [⟨2, 0, 0⟩] W) : Calls Try.prog 11 #[.pointer (some ⟨lb, 0, none⟩), .int .i64 1] W (LvT w fs lb tb lT4 [⟨0, 0, 0⟩] (.int .i64 0) W) := by
  obtain ⟨own, ptr, hv, hb', h1, h2, h3, h4, h5, h6⟩ := h
  obtain ⟨d4, hw4⟩ := lT4_wf
  have hR := lRemove_any h1 (by decide) 1 0 0 (er := 0) (T' := lT4) hw4
    (fun V hV => Parent_some (h1.ext hV).tree (id := 1) (nd := ⟨2, [], ByteArray.empty, [2], 0⟩) rfl)
    (fun V hV => Index_kid (h1.ext hV).tree (id := 1) (nd := ⟨2, [], ByteArray.empty, [2], 0⟩) (pd := ⟨1, [], ByteArray.empty, [1], -1⟩) rfl rfl (by decide))
    (fun V hV => Remove_ok (h1.ext hV).tree (h1.ext hV).ownd (p := 0) (k := 1) (pd := ⟨1, [], ByteArray.empty, [1], -1⟩) (kd := ⟨2, [], ByteArray.empty, [2], 0⟩) rfl rfl rfl (by decide) (by decide) (by decide))
    (fun _ => ⟨okI_small (by decide) (by decide), okI_small (by decide) (by decide), fun x hx _ => by have : x = ⟨2, 0, 0⟩ := by simpa using hx
                                                                                                      subst this; exact ⟨okI_small (by decide) (by decide), okI_small (by decide) (by decide)⟩⟩)
  refine hR.mono fun e w' hh => ?_
  have hz := LvS.after h2 h3 h4 h5 h6 hh.1 hh.2
  unfold movedIf at hz
  rw [if_pos rfl] at hz
  exact mov4 ▸ hz
end Go.Proofs.Ythgnbbbdcebjhaa
