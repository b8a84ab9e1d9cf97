/- what of V1 V2 V2b V3 VQ VA VB VC VD VE VF VG VH VI VJ VK VL VR VS VU VV VT VW VX VY VAA VM VN VTB VTC VTD VTE W1 W2 W3 W4 D0 DB DA DC DD DE DF DG DH DI DJ DK DL DM DN DO DP EA EB EC ED EE EF EFa EFb EFc EFd EFe EG EH EJ EI EM EN EO EP EQ is leant on -/
import Derived.Test.YthgnbbbdcebjhaaGreatLOc
set_option linter.unusedVariables false
set_option linter.unusedSimpArgs false
set_option maxRecDepth 100000
set_option maxHeartbeats 4000000
namespace Go.Proofs.YthgnbbbdcebjhaaGreat
open Go Go.RowKit Go.BigFrame
theorem Mv.toExt {S : Nat → Prop} {w0 w w' : World} (h0 : Ext w0 w) (h : Mv S w w') (hS : ∀ b, S b → w0.heap.size ≤ b) : Ext w0 w' :=
  ⟨h.os.trans (Below.os h0), h.tape.trans (Below.tape h0), h.output.trans (Below.output h0), Nat.le_trans (Ext.size h0) h.size,
   fun b hb => (h.rest b (Nat.lt_of_lt_of_le hb (Ext.size h0)) fun hs => absurd (hS b hs) (by omega)).trans (Below.block h0 b hb)⟩
def LvS (w : World) (fs : List Nat) (lb tb : Nat) (T : Tr) (H : List Hd) (W : World) : Prop :=
  ∃ own ptr hv hb, LiveAt W own ptr lb tb T hv hb H ∧ Ext w W ∧ (∀ b, own b ≠ none → w.heap.size ≤ b) ∧ w.heap.size ≤ lb ∧ (∀ g, hb = some g → w.heap.size ≤ g) ∧ ∀ b ∈ fs, own b = none ∧ b ≠ lb ∧ hb ≠ some b ∧ b < W.heap.size
def LvT (w : World) (fs : List Nat) (lb tb : Nat) (T : Tr) (H : List Hd) (v : Value) (W : World) (e : Ending) (W' : World) : Prop := e = .returned v ∧ LvS w fs lb tb T H W' ∧ ∀ (b : Nat) (x : Obj), b ∈ fs → W.heap[b]? = some x → W'.heap[b]? = some x
theorem LvS.ext {w W W' : World} {fs : List Nat} {lb tb : Nat} {T : Tr} {H : List Hd} (h : LvS w fs lb tb T H W) (x : Ext W W') : LvS w fs lb tb T H W' := by
  obtain ⟨own, ptr, hv, hb, h1, h2, h3, h4, h5, h6⟩ := h
  exact ⟨own, ptr, hv, hb, h1.ext x, h2.trans x, h3, h4, h5, fun b hb => ⟨(h6 b hb).1, (h6 b hb).2.1, (h6 b hb).2.2.1, Nat.lt_of_lt_of_le (h6 b hb).2.2.2 x.size⟩⟩
theorem LvS.box {w W : World} {fs : List Nat} {lb tb : Nat} {T : Tr} {H : List Hd} (h : LvS w fs lb tb T H W) (o : Obj) : LvS w (W.heap.size :: fs) lb tb T H (W.alloc o) := by
  obtain ⟨own, ptr, hv, hb, h1, h2, h3, h4, h5, h6⟩ := h
  refine ⟨own, ptr, hv, hb, h1.ext ((Ext.refl _).alloc o), h2.trans ((Ext.refl _).alloc o), h3, h4, h5, fun b hb => ?_⟩
  have hz : (W.alloc o).heap.size = W.heap.size + 1 := by simp
  rcases List.mem_cons.1 hb with rfl | hb
  · obtain ⟨n1, n2, n3⟩ := h1.new_own (Nat.le_refl _)
    exact ⟨n1, n2, n3, by omega⟩
  · exact ⟨(h6 b hb).1, (h6 b hb).2.1, (h6 b hb).2.2.1, by have := (h6 b hb).2.2.2; omega⟩
theorem LvS.after {w W W' : World} {fs : List Nat} {own : Ow} {lb tb : Nat} {hb : Option Nat} {T' : Tr} {H' : List Hd} {v : Value} {e : Ending} (hx : Ext w W) (hf : ∀ b, own b ≠ none → w.heap.size ≤ b) (hl : w.heap.size ≤ lb) (hh : ∀ g, hb = some g → w.heap.size ≤ g)
    (hfs : ∀ b ∈ fs, own b = none ∧ b ≠ lb ∧ hb ≠ some b ∧ b < W.heap.size) (he : e = .returned v) (h : LAfter own lb tb hb W T' H' W') : LvT w fs lb tb T' H' v W e W' := by
  obtain ⟨own', ptr', hv', hb', h1, h2⟩ := h
  refine ⟨he, ⟨own', ptr', hv', hb', h1, Mv.toExt hx h2.mv (fun b hb => ?_), fun b hb => ?_, hl, fun g hg => ?_, fun b hb => ?_⟩, fun b x hb hbx => ?_⟩
  · rcases hb with h | rfl | h
    · exact hf b h
    · exact hl
    · exact hh b h
  · by_cases hlt : b < W.heap.size
    · rw [h2.same b hlt] at hb; exact hf b hb
    · have := hx.size; omega
  · rcases h2.hold g hg with h | h
    · exact hh g h
    · have := hx.size; omega
  · obtain ⟨n1, n2, n3, n4⟩ := hfs b hb
    refine ⟨(h2.same b n4).trans n1, n2, fun e => ?_, Nat.lt_of_lt_of_le n4 h2.mv.size⟩
    rcases h2.hold b e with h | h
    · exact n3 h
    · omega
  · obtain ⟨n1, n2, n3, n4⟩ := hfs b hb
    exact h2.mv.block hbx (fun h => by rcases h with h | h | h; exact h n1; exact n2 h; exact n3 h)
def strXY : ByteArray := ⟨#[120, 121]⟩
def strAB : ByteArray := ⟨#[97, 98]⟩
def exP : PN := .mk 2 [] ByteArray.empty [.mk 0 [] strXY []]
abbrev hostNd : Nd := ⟨1, [], ByteArray.empty, [], -1⟩
def txt1 : ByteArray := anewB strXY
def txt2 : ByteArray := anewB (replT txt1 0 0 strAB)
def txt3 : ByteArray := anewB (replT txt2 0 4 ByteArray.empty)
def lT1 : Tr := ⟨10, 5, 3, [some ⟨1, [], ByteArray.empty, [1], -1⟩, some ⟨2, [], ByteArray.empty, [2], 0⟩, some ⟨0, [], txt1, [], 1⟩]⟩
def lT2 : Tr := lT1.setAt 2 ⟨0, [], txt2, [], 1⟩
def lT3 : Tr := lT2.setAt 2 ⟨0, [], txt3, [], 1⟩
def lT4 : Tr := lT3.unlink 0 1 ⟨1, [], ByteArray.empty, [1], -1⟩ ⟨2, [], ByteArray.empty, [2], 0⟩
theorem lT1_eq : (hostOf 10 5).grafted 0 0 hostNd exP = lT1 := rfl
theorem strXY_anew : (anewB strXY).size ≤ 8192 := Nat.le_trans (anewB_size strXY) (by decide)
theorem exP_ok : exP.ok = true := by
  have h0 : (anewB ByteArray.empty).size ≤ 8192 := Nat.le_trans (anewB_size _) (by decide)
  simp only [exP, PN.ok, PN.oks, PN.bad, PN.tag, PN.attrs, PN.kids, PN.text]
  simp [strXY_anew, h0]
theorem run1 : runes txt1 = 2 := by kernel_rfl
theorem siz2 : (replT txt1 0 0 strAB).size = 4 := by kernel_rfl
theorem run2 : runes txt2 = 4 := by kernel_rfl
theorem siz3 : (replT txt2 0 4 ByteArray.empty).size = 0 := by kernel_rfl
theorem len2 : (runeList strAB strAB.size 0).length = 2 := by kernel_rfl
theorem len3 : (runeList ByteArray.empty ByteArray.empty.size 0).length = 0 := by kernel_rfl
theorem txt2_le : txt2.size ≤ 8192 := Nat.le_trans (anewB_size _) (by rw [siz2]; decide)
theorem txt3_le : txt3.size ≤ 8192 := Nat.le_trans (anewB_size _) (by rw [siz3]; decide)
theorem lT1_wf : (∃ d, WF lT1 d) ∧ AttrsOk lT1 := by
  have hh : AttrsOk (hostOf 10 5) := fun i nd hi => by
    cases i with
    | zero => cases hi; simp [NdOk]
    | succ i => cases hi
  obtain ⟨T1, T2, T3, d1, d2, d3, i, nd, pd1, kd, h1, h2, h3⟩ := (hostOf_wf 10 5 (by omega) (by omega) (by omega) (by omega)).graft hh (p := 0) (a := 0) (pd := hostNd) rfl (by decide) (Nat.zero_le _) (n := exP) (by decide) exP_ok (by decide) (by decide)
  rw [lT1_eq] at h2
  subst h2
  exact ⟨⟨d1, h3.wf1⟩, h3.ok1⟩
theorem attrsOk_setAt {T : Tr} (h : AttrsOk T) {i : Nat} {nd : Nd} (hn : NdOk nd) : AttrsOk (T.setAt i nd) := fun j x hj => by
  have hj' : (T.nodes.set i (some nd))[j]? = some (some x) := hj
  rw [List.getElem?_set] at hj'
  split at hj'
  · split at hj'
    · have e : nd = x := by simpa using hj'
      rw [← e]; exact hn
    · cases hj'
  · exact h j x hj'
theorem lT2_wf : (∃ d, WF lT2 d) ∧ AttrsOk lT2 := by
  obtain ⟨⟨d, hw⟩, hA⟩ := lT1_wf
  exact ⟨⟨d, hw.setAt (i := 2) (nd := ⟨0, [], txt1, [], 1⟩) rfl rfl rfl (by decide) (by decide) (fun _ => rfl) (fun h => by cases h)⟩, attrsOk_setAt hA ⟨Nat.zero_le _, txt2_le⟩⟩
theorem lT3_wf : (∃ d, WF lT3 d) ∧ AttrsOk lT3 := by
  obtain ⟨⟨d, hw⟩, hA⟩ := lT2_wf
  exact ⟨⟨d, hw.setAt (i := 2) (nd := ⟨0, [], txt2, [], 1⟩) rfl rfl rfl (by decide) (by decide) (fun _ => rfl) (fun h => by cases h)⟩, attrsOk_setAt hA ⟨Nat.zero_le _, txt3_le⟩⟩
theorem lT4_wf : ∃ d, WF lT4 d := by
  obtain ⟨⟨d, hw⟩, hA⟩ := lT3_wf
  exact ⟨_, hw.unlink (p := 0) (k := 1) (pd := ⟨1, [], ByteArray.empty, [1], -1⟩) (kd := ⟨2, [], ByteArray.empty, [2], 0⟩) rfl rfl rfl⟩
theorem may1 : lT1.may 2 1 = true := by kernel_rfl
theorem win4 : lT4.win 2 1 = true := by kernel_rfl
theorem mov2 : [(⟨2, 1, 0⟩ : Hd)].map (moved (repP 2 0 0 2)) = [⟨2, 3, 0⟩] := by kernel_rfl
theorem mov3 : [(⟨2, 3, 0⟩ : Hd)].map (moved (repP 2 0 4 0)) = [⟨2, 0, 0⟩] := by kernel_rfl
theorem mov4 : [(⟨2, 0, 0⟩ : Hd)].map (moved (remP lT4 1 0 0)) = [⟨0, 0, 0⟩] := by
  show [moved (remP lT4 1 0 0) ⟨2, 0, 0⟩] = _
  unfold moved remP
  rw [win4]
  rfl
theorem RdN.bare (g : World) (t : Int) (s : ByteArray) : RdN g (.mk t [] s []) (.agg #[.int .i64 t, .slice none 0 0, .string s, .slice none 0 0]) :=
  RdN.mk' (n := .mk t [] s []) (emptyRow g) ⟨none, 0, rfl, Nat.le_refl _, Nat.zero_le _, fun _ => ⟨rfl, rfl⟩, fun a h => by cases h⟩
theorem RdN.one {g : World} {b : Nat} {t : Int} {s : ByteArray} {k : PN} {c0 c1 c2 c3 : Value} (hb : Box4 g b c0 c1 c2 c3) (hk : RdN g k (.agg #[c0, c1, c2, c3])) :
    RdN g (.mk t [] s [k]) (.agg #[.int .i64 t, .slice none 0 0, .string s, .slice (some ⟨b, 0, none⟩) 1 1]) := by
  refine RdN.mk' (n := .mk t [] s [k]) (emptyRow g) ⟨some ⟨b, 0, none⟩, 1, rfl, Nat.le_refl _, by decide, (fun h => by cases h), fun a ha j x hx => ?_⟩
  cases ha
  have hx' : [k][j]? = some x := hx
  cases j with
  | zero =>
    simp at hx'
    subst hx'
    exact ⟨c0, c1, c2, c3, hb.1, hb.2.1, hb.2.2.1, hb.2.2.2, hk⟩
  | succ j => simp at hx'
theorem okI_small {z : Int} (h : -1 ≤ z) (k : z ≤ 1000) : okI z := ⟨h, by omega⟩
theorem LvS.graft {w W : World} {fs : List Nat} {lb tb : Nat} (h : LvS w fs lb tb (hostOf 10 5) [] W) :
    Calls Tryz.prog 28 #[.pointer (some ⟨lb, 0, none⟩), .int .i64 0, .int .i64 0, .agg #[.int .i64 2, .slice none 0 0, .string ⟨#[]⟩, .slice (some ⟨W.heap.size, 0, none⟩) 1 1]] (W.alloc (.cells #[.int .i64 0, .slice none 0 0, .string strXY, .slice none 0 0] 35)) (LvT w fs lb tb lT1 [] (.tuple #[.int .i64 1, .int .i64 0]) (W.alloc (.cells #[.int .i64 0, .slice none 0 0, .string strXY, .slice none 0 0] 35))) := by
  have hb := heap_alloc_new W (.cells #[.int .i64 0, .slice none 0 0, .string strXY, .slice none 0 0] 35)
  have xa := (Ext.refl W).alloc (.cells #[.int .i64 0, .slice none 0 0, .string strXY, .slice none 0 0] 35)
  have hown : ∀ own ptr hv hb, LiveAt W own ptr lb tb (hostOf 10 5) hv hb [] → own W.heap.size = none := fun own ptr hv hb h => (h.new_own (Nat.le_refl _)).1
  obtain ⟨own, ptr, hv, hb', h1, h2, h3, h4, h5, h6⟩ := h
  have hob := hown own ptr hv hb' h1
  have h6' : ∀ b ∈ fs, own b = none ∧ b ≠ lb ∧ hb' ≠ some b ∧ b < (W.alloc (.cells #[.int .i64 0, .slice none 0 0, .string strXY, .slice none 0 0] 35)).heap.size := fun b hb => ⟨(h6 b hb).1, (h6 b hb).2.1, (h6 b hb).2.2.1, Nat.lt_of_lt_of_le (h6 b hb).2.2.2 xa.size⟩
  have h1 := h1.ext xa
  have h2 := h2.trans xa
  generalize (W.alloc (.cells #[.int .i64 0, .slice none 0 0, .string strXY, .slice none 0 0] 35)) = V0 at *
  have hbox : Box4 (hide own V0) W.heap.size (.int .i64 0) (.slice none 0 0) (.string strXY) (.slice none 0 0) :=
    ⟨hide_cell (cellOf hb rfl) hob, hide_cell (cellOf hb rfl) hob, hide_cell (cellOf hb rfl) hob, hide_cell (cellOf hb rfl) hob⟩
  have hr : RdN (hide own V0) exP (.agg #[.int .i64 2, .slice none 0 0, .string ⟨#[]⟩, .slice (some ⟨W.heap.size, 0, none⟩) 1 1]) := RdN.one hbox (RdN.bare _ 0 strXY)
  refine (lGraft_any h1 (Nat.zero_le _) 0 0 _ _ _ _ (i := 1) (er := 0) (T' := lT1) (fun V hV => ?_) ⟨rfl, rfl, rfl, rfl⟩ (fun _ => ⟨okI_small (by decide) (by decide), okI_small (by decide) (by decide), fun x hx => by cases hx⟩)).mono fun e w' hh => LvS.after h2 h3 h4 h5 h6' hh.1 hh.2
  have hG := Graft_ok (h1.ext hV).tree (h1.ext hV).ownd (hostOf_wf 10 5 (by omega) (by omega) (by omega) (by omega)) (p := 0) (at' := 0) (pd := hostNd) rfl (by decide) (Nat.zero_le _) hr ((hide_apart own V0).ext hV) (by decide) (by decide) exP_ok (by decide) (by decide)
  exact hG.mono fun e w' hh => ⟨hh.1, lT1_eq ▸ hh.2⟩
theorem LvS.hold {w W : World} {fs : List Nat} {lb tb : Nat} (h : LvS w fs lb tb lT1 [] W) : Calls Tryz.prog 21 #[.pointer (some ⟨lb, 0, none⟩), pl 2 1] W (LvT w fs lb tb lT1 [⟨2, 1, 0⟩] (.tuple #[.int .i64 0, .int .i64 0]) W) := by
  obtain ⟨own, ptr, hv, hb', h1, h2, h3, h4, h5, h6⟩ := h
  obtain ⟨⟨d, hw⟩, hA⟩ := lT1_wf
  exact (lHold_add h1 hw hA 2 1 may1 (fun x hx => by cases hx) (Nat.zero_le _)).mono fun e w' hh => LvS.after h2 h3 h4 h5 h6 hh.1 hh.2
theorem LvS.held {w W : World} {fs : List Nat} {lb tb : Nat} {T : Tr} {x : Hd} (h : LvS w fs lb tb T [x] W) (ho : x.off = 0) : Calls Tryz.prog 12 #[.pointer (some ⟨lb, 0, none⟩), .int .i64 0] W (RTwo (pl x.node x.at') (.bool true) W) := by
  obtain ⟨own, ptr, hv, hb', h1, h2, h3, h4, h5, h6⟩ := h
  exact lHeld_ok h1 (i := 0) rfl ho (by simp)
theorem LvS.rep1 {w W : World} {fs : List Nat} {lb tb : Nat} (h : LvS w fs lb tb lT1 [⟨2, 1, 0⟩] W) : Calls Tryz.prog 26 #[.pointer (some ⟨lb, 0, none⟩), .int .i64 2, .int .i64 0, .int .i64 0, .string strAB] W (LvT w fs lb tb lT2 [⟨2, 3, 0⟩] (.int .i64 0) W) := by
  obtain ⟨own, ptr, hv, hb', h1, h2, h3, h4, h5, h6⟩ := h
  obtain ⟨⟨d, hw⟩, hA⟩ := lT1_wf
  have hR := lReplace_any h1 (by decide) hw hA 2 (nd := ⟨0, [], txt1, [], 1⟩) rfl rfl 0 0 (Nat.zero_le _) strAB (by decide) (c' := 0) (by rw [run1]; rfl) (er := 0) (T' := lT2)
    (fun V hV => SetText_ok (h1.ext hV).tree (h1.ext hV).ownd (i := 2) (nd := ⟨0, [], txt1, [], 1⟩) rfl (by decide) _ (by rw [siz2]; decide) txt2_le)
    (fun _ => ⟨okI_small (by decide) (by decide), fun x hx _ => by have : x = ⟨2, 1, 0⟩ := by simpa using hx
                                                                   subst this; exact ⟨okI_small (by decide) (by decide), okI_small (by decide) (by decide)⟩⟩)
  refine hR.mono fun e w' hh => ?_
  have hz := LvS.after h2 h3 h4 h5 h6 hh.1 hh.2
  unfold movedIf at hz
  rw [if_pos rfl, len2] at hz
  exact mov2 ▸ hz
theorem LvS.rep2 {w W : World} {fs : List Nat} {lb tb : Nat} (h : LvS w fs lb tb lT2 [⟨2, 3, 0⟩] W) : Calls Tryz.prog 26 #[.pointer (some ⟨lb, 0, none⟩), .int .i64 2, .int .i64 0, .int .i64 9, .string ⟨#[]⟩] W (LvT w fs lb tb lT3 [⟨2, 0, 0⟩] (.int .i64 0) W) := by
  obtain ⟨own, ptr, hv, hb', h1, h2, h3, h4, h5, h6⟩ := h
  obtain ⟨⟨d, hw⟩, hA⟩ := lT2_wf
  have hR := lReplace_any h1 (by decide) hw hA 2 (nd := ⟨0, [], txt2, [], 1⟩) rfl rfl 0 9 (Nat.zero_le _) ByteArray.empty (by decide) (c' := 4) (by rw [run2]; rfl) (er := 0) (T' := lT3)
    (fun V hV => SetText_ok (h1.ext hV).tree (h1.ext hV).ownd (i := 2) (nd := ⟨0, [], txt2, [], 1⟩) rfl (by decide) _ (by rw [siz3]; decide) txt3_le)
    (fun _ => ⟨okI_small (by decide) (by decide), fun x hx _ => by have : x = ⟨2, 3, 0⟩ := by simpa using hx
                                                                   subst this; exact ⟨okI_small (by decide) (by decide), okI_small (by decide) (by decide)⟩⟩)
  refine hR.mono fun e w' hh => ?_
  have hz := LvS.after h2 h3 h4 h5 h6 hh.1 hh.2
  unfold movedIf at hz
  rw [if_pos rfl, len3] at hz
  exact mov3 ▸ hz
theorem LvS.rem {w W : World} {fs : List Nat} {lb tb : Nat} (h : LvS w fs lb tb lT3 [⟨2, 0, 0⟩] W) : Calls Tryz.prog 17 #[.pointer (some ⟨lb, 0, none⟩), .int .i64 1] W (LvT w fs lb tb lT4 [⟨0, 0, 0⟩] (.int .i64 0) W) := by
  obtain ⟨own, ptr, hv, hb', h1, h2, h3, h4, h5, h6⟩ := h
  obtain ⟨d4, hw4⟩ := lT4_wf
  have hR := lRemove_any h1 (by decide) 1 0 0 (er := 0) (T' := lT4) hw4
    (fun V hV => Parent_some (h1.ext hV).tree (id := 1) (nd := ⟨2, [], ByteArray.empty, [2], 0⟩) rfl)
    (fun V hV => Index_kid (h1.ext hV).tree (id := 1) (nd := ⟨2, [], ByteArray.empty, [2], 0⟩) (pd := ⟨1, [], ByteArray.empty, [1], -1⟩) rfl rfl (by decide))
    (fun V hV => Remove_ok (h1.ext hV).tree (h1.ext hV).ownd (p := 0) (k := 1) (pd := ⟨1, [], ByteArray.empty, [1], -1⟩) (kd := ⟨2, [], ByteArray.empty, [2], 0⟩) rfl rfl rfl (by decide) (by decide) (by decide))
    (fun _ => ⟨okI_small (by decide) (by decide), okI_small (by decide) (by decide), fun x hx _ => by have : x = ⟨2, 0, 0⟩ := by simpa using hx
                                                                                                      subst this; exact ⟨okI_small (by decide) (by decide), okI_small (by decide) (by decide)⟩⟩)
  refine hR.mono fun e w' hh => ?_
  have hz := LvS.after h2 h3 h4 h5 h6 hh.1 hh.2
  unfold movedIf at hz
  rw [if_pos rfl] at hz
  exact mov4 ▸ hz
theorem awake11_any (w : World) : Calls Tryz.prog 7 #[] w (RBool true w) := by
  have HN := qh (lNew_ok 10 5 (by omega) (by omega) (by omega) (by omega) w)
  go_enter Tryz.func7, Tryz.ntmps7
  go_wp2_with (go_at_call 8; refine HN.out.mono ?_)
  rintro e w1 ⟨lb, tb, own, ptr, rfl, hL, hx, hlb, hf⟩
  have S1 : Hid (LvS w [] lb tb (hostOf 10 5) [] w1) := qh ⟨own, ptr, _, _, hL, hx, hf, hlb, (fun g hg => by cases hg), fun b hb => by cases hb⟩
  clear hL hx hlb hf
  have HG := qh S1.out.graft
  go_wp2_with (go_at_call 28; refine HG.out.mono ?_)
  rintro e w2 ⟨rfl, s2, -⟩
  have S2 := qh s2
  have HH := qh s2.hold
  clear s2
  go_wp2_with (go_at_call 21; refine HH.out.mono ?_)
  rintro e w3 ⟨rfl, s3, -⟩
  have S3 := qh s3
  have HR := qh s3.rep1
  clear s3
  go_wp2_with (go_at_call 26; refine HR.out.mono ?_)
  rintro e w4 ⟨rfl, s4, -⟩
  have S4 := qh s4
  have HD := qh (s4.held rfl)
  clear s4
  go_wp2_with (go_at_call 12; refine HD.out.mono ?_)
  rintro e w5 ⟨rfl, x5⟩
  have S5 := qh ((S4.out.ext x5).box (.cells #[.int .i64 2, .int .i64 3] 43))
  have hb5 := heap_alloc_new w5 (.cells #[.int .i64 2, .int .i64 3] 43)
  clear x5
  go_upto_region 8 with fail
  obtain ⟨b5, hbe5⟩ : ∃ b, w5.heap.size = b := ⟨_, rfl⟩
  obtain ⟨v5, hv5⟩ : ∃ W : World, W = w5.alloc (.cells #[.int .i64 2, .int .i64 3] 43) := ⟨_, rfl⟩
  rw [hbe5] at S5 hb5 ⊢
  rw [← hv5] at S5 hb5 ⊢
  clear hbe5 hv5
  have HR2 := qh S5.out.rep2
  have HB5 := qh hb5
  clear hb5
  go_wp2_with (go_at_call 26; refine HR2.out.mono ?_)
  rintro e w6 ⟨rfl, s6, k6⟩
  have HB6 := qh (k6 b5 _ (by simp) HB5.out)
  have S6 := qh s6
  have HD2 := qh (s6.held rfl)
  clear s6 k6
  go_wp2_with (go_at_call 12; refine HD2.out.mono ?_)
  rintro e w7 ⟨rfl, x7⟩
  have S7 := qh ((S6.out.ext x7).box (.cells #[.int .i64 2, .int .i64 0] 43))
  have hb7 := heap_alloc_new w7 (.cells #[.int .i64 2, .int .i64 0] 43)
  have hb67 := ((Ext.refl w7).alloc (.cells #[.int .i64 2, .int .i64 0] 43)).block (x7.block HB6.out)
  clear x7
  go_upto_region 10 with fail
  obtain ⟨b7, hbe7⟩ : ∃ b, w7.heap.size = b := ⟨_, rfl⟩
  obtain ⟨v7, hv7⟩ : ∃ W : World, W = w7.alloc (.cells #[.int .i64 2, .int .i64 0] 43) := ⟨_, rfl⟩
  rw [hbe7] at S7 hb7 ⊢
  rw [← hv7] at S7 hb7 hb67 ⊢
  clear hbe7 hv7
  have HRM := qh S7.out.rem
  have HB7 := qh hb7
  have HB67 := qh hb67
  clear hb7 hb67
  go_wp2_with (go_at_call 17; refine HRM.out.mono ?_)
  rintro e w8 ⟨rfl, s8, k8⟩
  have HB8 := qh (k8 b5 _ (by simp) HB67.out)
  have HB78 := qh (k8 b7 _ (by simp) HB7.out)
  have S8 := qh s8
  have HD3 := qh (s8.held rfl)
  clear s8 k8
  go_wp2_with (go_at_call 12; refine HD3.out.mono ?_)
  rintro e w9 ⟨rfl, x9⟩
  have xa := (Ext.refl w9).alloc (.cells #[.int .i64 0, .int .i64 0] 43)
  have hb9 := heap_alloc_new w9 (.cells #[.int .i64 0, .int .i64 0] 43)
  have p5 := xa.block (x9.block HB8.out)
  have p7 := xa.block (x9.block HB78.out)
  have S9 := qh ((S8.out.ext x9).ext xa)
  go_upto_region 12 with fail
  obtain ⟨b9, hbe9⟩ : ∃ b, w9.heap.size = b := ⟨_, rfl⟩
  obtain ⟨v9, hv9⟩ : ∃ W : World, W = w9.alloc (.cells #[.int .i64 0, .int .i64 0] 43) := ⟨_, rfl⟩
  rw [hbe9] at hb9 ⊢
  rw [← hv9] at S9 hb9 p5 p7 ⊢
  have c50 := cellOf p5 (i := 0) rfl
  have c51 := cellOf p5 (i := 1) rfl
  have c70 := cellOf p7 (i := 0) rfl
  have c71 := cellOf p7 (i := 1) rfl
  have c90 := cellOf hb9 (i := 0) rfl
  have c91 := cellOf hb9 (i := 1) rfl
  clear x9 xa hb9 p5 p7 hbe9 hv9
  go_wp2_with fail
  go_ret
  obtain ⟨_, _, _, _, _, h2, _⟩ := S9.out
  exact ⟨rfl, h2⟩
def Keeps (T T' : Tr) : Prop := ∀ n nd, T.get? n = some nd → T'.get? n = some nd
theorem Keeps.refl (T : Tr) : Keeps T T := fun n nd h => h
theorem Keeps.trans {A B C : Tr} (h : Keeps A B) (k : Keeps B C) : Keeps A C := fun n nd hn => k n nd (h n nd hn)
theorem Keeps.gone {A B : Tr} (h : Keeps A B) {n : Int} (hn : B.get? n = none) : A.get? n = none := by
  cases e : A.get? n with
  | none => rfl
  | some nd =>
    have h1 := h n nd e
    rw [hn] at h1
    cases h1
theorem Keeps.len {T T' : Tr} (h : Keeps T T') {n : Int} (hn : T.get? n ≠ none) : T'.lengthOf n = T.lengthOf n := by
  rw [lengthOf_eq, lengthOf_eq]
  cases e : T.get? n with
  | none => exact absurd e hn
  | some nd => rw [h n nd e]
theorem Keeps.at_ {T T' : Tr} (h : Keeps T T') {i : Nat} {nd : Nd} (hn : T.nodes[i]? = some (some nd)) : T'.nodes[i]? = some (some nd) := by
  have h1 := h (i : Int) nd (by rw [get_nat, hn]; rfl)
  rw [get_nat] at h1
  cases e : T'.nodes[i]? with
  | none => rw [e] at h1; cases h1
  | some y => rw [e] at h1; exact congrArg some h1
theorem may_got {T : Tr} {n a : Int} (h : T.may n a = true) : T.get? n ≠ none := by
  intro e
  rw [may_iff, lengthOf_eq, e] at h
  have h1 : a ≤ -1 := h.2
  omega
theorem Keeps.may {T T' : Tr} (h : Keeps T T') {n a : Int} (hm : T.may n a = true) : T'.may n a = true := by
  rw [may_iff, h.len (may_got hm)]
  exact may_iff.1 hm
theorem Keeps.mayH {T T' : Tr} (h : Keeps T T') {H : List Hd} (hm : mayH T H) : mayH T' H := fun x hx ho => h.may (hm x hx ho)
theorem newId_none (T : Tr) : T.get? T.newId = none := by
  unfold Tr.newId
  rcases freeOf_cases T.nodes with ⟨i, h1, h2⟩ | ⟨h1, _⟩
  · rw [h1, if_pos (by omega), get_nat, h2]; rfl
  · rw [h1, if_neg (by decide), get_nat, List.getElem?_eq_none (Nat.le_refl _)]; rfl
theorem put_keeps (T : Tr) (nd : Nd) : Keeps T (T.put nd) := by
  intro n x hn
  have h0 : ¬ n < 0 := fun h => by rw [get_neg _ h] at hn; cases hn
  obtain ⟨i, rfl⟩ := Int.eq_ofNat_of_zero_le (show 0 ≤ n by omega)
  rw [get_nat] at hn
  have hi : T.nodes[i]? = some (some x) := by
    cases e : T.nodes[i]? with
    | none => rw [e] at hn; cases hn
    | some y => rw [e] at hn; exact congrArg some hn
  rw [get_nat]
  show ((if 0 ≤ freeOf' T.nodes then T.nodes.set (freeOf' T.nodes).toNat (some nd) else T.nodes ++ [some nd])[i]?).join = _
  rcases freeOf_cases T.nodes with ⟨j, h1, h2⟩ | ⟨h1, _⟩
  · rw [h1, if_pos (by omega), Int.toNat_natCast, List.getElem?_set_ne (fun e => by subst e; rw [h2] at hi; cases hi), hi]; rfl
  · rw [h1, if_neg (by decide), List.getElem?_append_left (List.getElem?_eq_some_iff.1 hi).1, hi]; rfl
theorem set2_keeps {A T : Tr} (h : Keeps A T) {p k : Nat} (hp : A.get? (p : Int) = none) (hk : A.get? (k : Int) = none) (pd kd : Nd) : Keeps A (T.set2 p k pd kd) := by
  intro n x hn
  have h1 := h n x hn
  have h0 : ¬ n < 0 := fun h => by rw [get_neg _ h] at hn; cases hn
  obtain ⟨i, rfl⟩ := Int.eq_ofNat_of_zero_le (show 0 ≤ n by omega)
  have e1 : i ≠ p := fun e => by subst e; rw [hp] at hn; cases hn
  have e2 : i ≠ k := fun e => by subst e; rw [hk] at hn; cases hn
  rw [get_nat] at h1 ⊢
  show (((T.nodes.set p (some pd)).set k (some kd))[i]?).join = _
  rw [List.getElem?_set_ne (Ne.symm e2), List.getElem?_set_ne (Ne.symm e1)]
  exact h1
theorem newId_nonneg (T : Tr) : 0 ≤ T.newId := by
  unfold Tr.newId
  split
  · assumption
  · omega
theorem join_keeps {A T : Tr} (h : Keeps A T) {p k : Int} (hp : A.get? p = none) (hk : A.get? k = none) (p0 : 0 ≤ p) (k0 : 0 ≤ k) : Keeps A (T.join p k) := by
  obtain ⟨i, rfl⟩ := Int.eq_ofNat_of_zero_le p0
  obtain ⟨j, rfl⟩ := Int.eq_ofNat_of_zero_le k0
  exact set2_keeps h hp hk _ _
theorem intos_keeps {A : Tr} {id : Int} (hid : A.get? id = none) (h0 : 0 ≤ id) : ∀ l : List PN, (∀ k ∈ l, ∀ T, Keeps T (PN.into T k)) → ∀ T, Keeps A T → Keeps A (PN.intos id T l) := by
  intro l
  induction l with
  | nil => intro _ T h; exact h
  | cons k r ih =>
    intro hl T h
    show Keeps A (PN.intos id ((PN.into T k).join id T.newId) r)
    refine ih (fun x hx => hl x (List.mem_cons_of_mem _ hx)) _ ?_
    exact join_keeps (h.trans (hl k List.mem_cons_self T)) hid (h.gone (newId_none T)) h0 (newId_nonneg T)
theorem into_keeps : ∀ n : PN, ∀ T, Keeps T (PN.into T n)
  | .mk t a s ks => fun T => by
    rw [PN.into_eq]
    exact intos_keeps (newId_none T) (newId_nonneg T) ks (fun k hk => into_keeps k) _ (put_keeps T _)
theorem mayH.grafted {T : Tr} {H : List Hd} (h : mayH T H) {p at' k : Nat} {pd : Nd} {n : PN} (hp : T.nodes[p]? = some (some pd)) (ht : pd.tag ≠ 0) (ht2 : pd.tag ≠ -1) (ha : at' ≤ pd.kids.length)
    (hk : T.newId = (k : Int)) {kd : Nd} (hkd : (PN.into T n).nodes[k]? = some (some kd)) : mayH ((PN.into T n).link p at' k pd kd) (H.map (moved (insP p at' 1))) := by
  have hkeep := into_keeps n T
  have hpk : p ≠ k := fun e => by
    have h1 := newId_none T
    rw [hk, ← e, get_nat, hp] at h1
    cases h1
  obtain ⟨l1, l2⟩ := link_len (hkeep.at_ hp) hkd hpk ht ht2 ha
  exact (hkeep.mayH h).map fun n a hm => may_ins l1 l2 n a hm
theorem rid_get? (T : Tr) (q : Nat → Bool) (i : Nat) : (T.rid q).get? (i : Int) = if q i then none else T.get? (i : Int) := by
  rw [get_nat, get_nat, Tr.rid_get]
  cases T.nodes[i]? with
  | none => simp
  | some x => cases q i <;> simp
theorem mayH.rid {T : Tr} {H : List Hd} (h : mayH T H) {q : Nat → Bool} {L : List Int} (hL : ∀ i : Nat, T.get? (i : Int) ≠ none → ((i : Int) ∈ L ↔ q i = true)) (h0 : 0 ≤ (T.rid q).lengthOf 0) : mayH (T.rid q) (H.map (moved (dropP L))) := by
  refine mayH.map h fun n a hm => ?_
  unfold dropP
  have hg := may_got hm
  by_cases hn : n ∈ L
  · rw [if_pos hn]
    exact may_iff.2 ⟨Int.le_refl _, h0⟩
  · rw [if_neg hn]
    have hneg : ¬ n < 0 := fun h => hg (get_neg _ h)
    obtain ⟨i, rfl⟩ := Int.eq_ofNat_of_zero_le (show 0 ≤ n by omega)
    have hq : q i = false := by
      cases e : q i with
      | false => rfl
      | true => exact absurd ((hL i hg).2 e) hn
    have e : (T.rid q).lengthOf (i : Int) = T.lengthOf (i : Int) := by
      rw [lengthOf_eq, lengthOf_eq, rid_get?, hq]
      rfl
    rw [may_iff, e]
    exact may_iff.1 hm
theorem settext_len {T T' : Tr} {i : Nat} {nd : Nd} {s : ByteArray} (hi : T.nodes[i]? = some (some nd)) (ht : nd.tag = 0) (hT : T'.nodes = T.nodes.set i (some { nd with text := s })) :
    (∀ n, n ≠ (i : Int) → T'.lengthOf n = T.lengthOf n) ∧ T'.lengthOf i = (runes s : Int) := by
  have hil := (List.getElem?_eq_some_iff.1 hi).1
  refine ⟨fun n hn => ?_, ?_⟩
  · by_cases h0 : n < 0
    · rw [lengthOf_eq, lengthOf_eq, get_neg _ h0, get_neg _ h0]
    · obtain ⟨j, rfl⟩ := Int.eq_ofNat_of_zero_le (show 0 ≤ n by omega)
      have hij : i ≠ j := fun e => hn (by rw [e])
      rw [lengthOf_eq, lengthOf_eq, get_nat, get_nat, hT, List.getElem?_set_ne hij]
  · rw [lengthOf_eq, get_nat, hT, List.getElem?_set_self hil]
    show (if nd.tag = -1 then _ else if nd.tag = 0 then _ else _) = _
    rw [if_neg (by omega), if_pos ht]
end Go.Proofs.YthgnbbbdcebjhaaGreat
namespace Go.Proofs.YthgnbbbdcebjhaaGreat
open Go
theorem ofNat_nat {n : Nat} (h : n < 256) : (UInt8.ofNat n).toNat = n := by simp; omega
theorem ofNat_eq {n m : Nat} (h : n < 256) (k : m < 256) : UInt8.ofNat n = UInt8.ofNat m ↔ n = m := by
  constructor
  · intro e
    have := congrArg UInt8.toNat e
    rw [ofNat_nat h, ofNat_nat k] at this
    exact this
  · rintro rfl; rfl
theorem valid_cases {r : Int} (h : Utf8.valid r = true) : ∃ n : Nat, r = n ∧ (n < 55296 ∨ 57344 ≤ n ∧ n ≤ 1114111) := by
  unfold Utf8.valid at h
  simp at h
  refine ⟨r.toNat, by omega, by omega⟩
theorem encode_nat {n : Nat} (h : n < 55296 ∨ 57344 ≤ n ∧ n ≤ 1114111) : (Utf8.encode (n : Int)).data.toList =
    if n < 128 then [UInt8.ofNat n] else if n < 2048 then [UInt8.ofNat (192 + n / 64), UInt8.ofNat (128 + n % 64)]
    else if n < 65536 then [UInt8.ofNat (224 + n / 4096), UInt8.ofNat (128 + n / 64 % 64), UInt8.ofNat (128 + n % 64)]
    else [UInt8.ofNat (240 + n / 262144), UInt8.ofNat (128 + n / 4096 % 64), UInt8.ofNat (128 + n / 64 % 64), UInt8.ofNat (128 + n % 64)] := by
  have hv : Utf8.valid (n : Int) = true := by unfold Utf8.valid; simp; omega
  unfold Utf8.encode
  simp only [hv, if_true, Int.toNat_natCast]
  split
  · rfl
  · split
    · rfl
    · split <;> rfl
theorem decode_valid (s : ByteArray) (i : Nat) : Utf8.valid (Int.ofNat (Utf8.decode s i).1) = true := by
  have hb : ∀ k, (s.get! (i + k)).toNat < 256 := fun k => (s.get! (i + k)).toNat_lt
  have h0 := hb 0; have h1 := hb 1; have h2 := hb 2; have h3 := hb 3
  have ok : ∀ c : Nat, c < 55296 → Utf8.valid (Int.ofNat c) = true := fun c hc => by unfold Utf8.valid; simp; omega
  have er : Utf8.valid (Int.ofNat Utf8.runeError) = true := by decide
  simp only [Utf8.decode]
  split
  · exact ok _ (by omega)
  · split
    · split
      · exact ok _ (by omega)
      · exact er
    · split
      · split
        · rename_i h; simp at h; exact h.2
        · exact er
      · split
        · split
          · rename_i h; simp at h; exact h.2
          · exact er
        · exact er
theorem runeList_valid (s : ByteArray) : ∀ (b i : Nat), ∀ r ∈ runeList s b i, Utf8.valid r = true := by
  intro b
  induction b with
  | zero => intro i r h; cases h
  | succ b ih =>
    intro i r h
    unfold runeList at h
    split at h
    · rcases List.mem_cons.1 h with rfl | h
      · exact decode_valid s i
      · exact ih _ r h
    · cases h
theorem runesBytes_list (l : List Int) : (runesBytes l).data.toList = l.flatMap fun r => (Utf8.encode r).data.toList := by
  have h : ∀ (l : List Int) (acc : ByteArray), (l.foldl (fun r n => r ++ Utf8.encode n) acc).data.toList = acc.data.toList ++ l.flatMap fun r => (Utf8.encode r).data.toList := by
    intro l
    induction l with
    | nil => intro acc; simp
    | cons x r ih => intro acc; rw [List.foldl_cons, ih]; simp
  have := h l ByteArray.empty
  simpa [runesBytes] using this
def C2ok (l : List UInt8) : Prop := ∀ j : Nat, l[j]? = some 194 → j + 1 < l.length
theorem C2ok.encode {r : Int} (h : Utf8.valid r = true) {l : List UInt8} (hl : C2ok l) : C2ok ((Utf8.encode r).data.toList ++ l) := by
  obtain ⟨n, rfl, hn⟩ := valid_cases h
  have ez := encode_nat hn
  have ne : ∀ m : Nat, m < 256 → m ≠ 194 → UInt8.ofNat m ≠ 194 := fun m hm h e => h ((ofNat_eq (m := 194) hm (by omega)).1 e)
  have go : ∀ (p : List UInt8) (c : UInt8), c ≠ 194 → C2ok (p ++ [c] ++ l) := by
    intro p c hc j hj
    by_cases h1 : j < p.length
    · simp; omega
    · by_cases h2 : j = p.length
      · subst h2; simp at hj; exact absurd hj hc
      · rw [List.getElem?_append_right (by simp; omega)] at hj
        have := hl _ hj
        simp at this ⊢; omega
  rw [ez]
  split
  · exact go [] _ (ne _ (by omega) (by omega))
  · split
    · exact go [_] _ (ne _ (by omega) (by omega))
    · split
      · exact go [_, _] _ (ne _ (by omega) (by omega))
      · exact go [_, _, _] _ (ne _ (by omega) (by omega))
theorem encode_len (r : Int) : 1 ≤ (Utf8.encode r).data.toList.length ∧ (Utf8.encode r).data.toList.length ≤ 4 := by
  unfold Utf8.encode
  dsimp only
  generalize (if Utf8.valid r = true then r.toNat else Utf8.runeError) = c
  split
  · exact ⟨by simp, by simp⟩
  · split
    · exact ⟨by simp, by simp⟩
    · split
      · exact ⟨by simp, by simp⟩
      · exact ⟨by simp, by simp⟩
end Go.Proofs.YthgnbbbdcebjhaaGreat
namespace Go.Proofs.YthgnbbbdcebjhaaGreat
open Go Go.RowKit Go.BigFrame
end Go.Proofs.YthgnbbbdcebjhaaGreat
namespace Go.Proofs.YthgnbbbdcebjhaaGreat
open Go
theorem decodeL_more {l : List UInt8} (hb : ¬ ((Lib.decodeL l).1 = 65533 ∧ (Lib.decodeL l).2 = 1)) (h0 : 128 ≤ (l.getD 0 0).toNat) (X : List UInt8) :
    Lib.decodeL (l.take (Lib.decodeL l).2 ++ X) = Lib.decodeL l ∧ ∀ c ∈ l.take (Lib.decodeL l).2, 128 ≤ c.toNat := by
  have hN := Lib.decodeL_N l
  have hlen : ∀ k j, k ≤ l.length → j < k → (l.take k ++ X).getD j 0 = l.getD j 0 := by
    intro k j hk hj
    rw [List.getD_eq_getElem?_getD, List.getD_eq_getElem?_getD, List.getElem?_append_left (by rw [List.length_take]; omega), List.getElem?_take, if_pos hj]
  have hmem : ∀ k, k ≤ l.length → (∀ j, j < k → 128 ≤ (l.getD j 0).toNat) → ∀ c ∈ l.take k, 128 ≤ c.toNat := by
    intro k hk h c hc
    obtain ⟨j, hj, e⟩ := List.getElem_of_mem hc
    rw [List.length_take] at hj
    have := h j (by omega)
    rw [List.getD_eq_getElem?_getD, List.getElem?_eq_getElem (by omega)] at this
    rw [← e, List.getElem_take]
    simpa using this
  have k0 := (l.getD 0 0).toNat_lt
  rcases Lib.decodeN_shape l.length (l.getD 0 0).toNat (l.getD 1 0).toNat (l.getD 2 0).toNat (l.getD 3 0).toNat with ⟨c, e⟩ | ⟨c1, c2, c3, cv, e⟩ | ⟨c1, c2, c3, c4, cv, cs, e⟩ | ⟨c1, c2, c3, c4, c5, cv, cw, e⟩ | e
  · omega
  · rw [e] at hN
    rw [hN]
    dsimp only
    refine ⟨?_, hmem 2 (by omega) fun j hj => ?_⟩
    · rw [Lib.decodeL_N, hlen 2 0 (by omega) (by omega), hlen 2 1 (by omega) (by omega)]
      unfold Lib.decodeN
      rw [if_neg (by omega), if_pos ⟨by omega, by rw [List.length_append, List.length_take]; omega, by omega⟩, if_pos (by omega)]
    · rcases (show j = 0 ∨ j = 1 by omega) with rfl | rfl <;> omega
  · rw [e] at hN
    rw [hN]
    dsimp only
    refine ⟨?_, hmem 3 (by omega) fun j hj => ?_⟩
    · rw [Lib.decodeL_N, hlen 3 0 (by omega) (by omega), hlen 3 1 (by omega) (by omega), hlen 3 2 (by omega) (by omega)]
      unfold Lib.decodeN
      rw [if_neg (by omega), if_neg (by omega), if_pos ⟨by omega, ⟨by rw [List.length_append, List.length_take]; omega, by omega⟩, by rw [List.length_append, List.length_take]; omega, by omega⟩, if_pos (by omega)]
    · rcases (show j = 0 ∨ j = 1 ∨ j = 2 by omega) with rfl | rfl | rfl <;> omega
  · rw [e] at hN
    rw [hN]
    dsimp only
    refine ⟨?_, hmem 4 (by omega) fun j hj => ?_⟩
    · rw [Lib.decodeL_N, hlen 4 0 (by omega) (by omega), hlen 4 1 (by omega) (by omega), hlen 4 2 (by omega) (by omega), hlen 4 3 (by omega) (by omega)]
      unfold Lib.decodeN
      rw [if_neg (by omega), if_neg (by omega), if_neg (by omega), if_pos ⟨by omega, ⟨by rw [List.length_append, List.length_take]; omega, by omega⟩, ⟨by rw [List.length_append, List.length_take]; omega, by omega⟩, by rw [List.length_append, List.length_take]; omega, by omega⟩, if_pos (by omega)]
    · rcases (show j = 0 ∨ j = 1 ∨ j = 2 ∨ j = 3 by omega) with rfl | rfl | rfl | rfl <;> omega
  · exact absurd (by rw [hN, e]; exact ⟨rfl, rfl⟩) hb
theorem decodeL_encode {n : Nat} (h : n < 55296 ∨ 57344 ≤ n ∧ n ≤ 1114111) (X : List UInt8) : Lib.decodeL ((Utf8.encode (n : Int)).data.toList ++ X) = (n, (Utf8.encode (n : Int)).data.toList.length) := by
  rw [encode_nat h]
  by_cases h1 : n < 128
  · rw [if_pos h1]
    have e : (UInt8.ofNat n).toNat = n := ofNat_nat (by omega)
    exact (Lib.decodeL_ascii (UInt8.ofNat n) X (by omega)).trans (by rw [e]; rfl)
  · rw [if_neg h1]
    by_cases h2 : n < 2048
    · rw [if_pos h2, Lib.decodeL_N]
      have e0 : (UInt8.ofNat (192 + n / 64)).toNat = 192 + n / 64 := ofNat_nat (by omega)
      have e1 : (UInt8.ofNat (128 + n % 64)).toNat = 128 + n % 64 := ofNat_nat (by omega)
      simp only [List.cons_append, List.nil_append, List.getD_cons_zero, List.getD_cons_succ, List.length_cons, List.length_nil, e0, e1]
      unfold Lib.decodeN
      rw [if_neg (by omega), if_pos ⟨by omega, by omega, by omega⟩, if_pos (by omega)]
      exact Prod.ext (by dsimp only; omega) rfl
    · rw [if_neg h2]
      by_cases h3 : n < 65536
      · rw [if_pos h3, Lib.decodeL_N]
        have e0 : (UInt8.ofNat (224 + n / 4096)).toNat = 224 + n / 4096 := ofNat_nat (by omega)
        have e1 : (UInt8.ofNat (128 + n / 64 % 64)).toNat = 128 + n / 64 % 64 := ofNat_nat (by omega)
        have e2 : (UInt8.ofNat (128 + n % 64)).toNat = 128 + n % 64 := ofNat_nat (by omega)
        simp only [List.cons_append, List.nil_append, List.getD_cons_zero, List.getD_cons_succ, List.length_cons, List.length_nil, e0, e1, e2]
        have ev : (224 + n / 4096) % 16 * 4096 + (128 + n / 64 % 64) % 64 * 64 + (128 + n % 64) % 64 = n := by omega
        unfold Lib.decodeN
        rw [if_neg (by omega), if_neg (by omega), if_pos ⟨by omega, ⟨by omega, by omega⟩, by omega, by omega⟩, ev, if_pos (by omega)]
      · rw [if_neg h3, Lib.decodeL_N]
        have e0 : (UInt8.ofNat (240 + n / 262144)).toNat = 240 + n / 262144 := ofNat_nat (by omega)
        have e1 : (UInt8.ofNat (128 + n / 4096 % 64)).toNat = 128 + n / 4096 % 64 := ofNat_nat (by omega)
        have e2 : (UInt8.ofNat (128 + n / 64 % 64)).toNat = 128 + n / 64 % 64 := ofNat_nat (by omega)
        have e3 : (UInt8.ofNat (128 + n % 64)).toNat = 128 + n % 64 := ofNat_nat (by omega)
        simp only [List.cons_append, List.nil_append, List.getD_cons_zero, List.getD_cons_succ, List.length_cons, List.length_nil, e0, e1, e2, e3]
        have ev : (240 + n / 262144) % 8 * 262144 + (128 + n / 4096 % 64) % 64 * 4096 + (128 + n / 64 % 64) % 64 * 64 + (128 + n % 64) % 64 = n := by omega
        unfold Lib.decodeN
        rw [if_neg (by omega), if_neg (by omega), if_neg (by omega), if_pos ⟨by omega, ⟨by omega, by omega⟩, ⟨by omega, by omega⟩, by omega, by omega⟩, ev, if_pos (by omega)]
def rl : Nat → List UInt8 → List Int
  | 0, _ => []
  | b + 1, l => if l = [] then [] else ((Lib.decodeL l).1 : Int) :: rl b (l.drop (Lib.decodeL l).2)
theorem bsz (s : ByteArray) : s.size = s.data.toList.length := (Array.length_toList).symm
theorem runeList_rl (s : ByteArray) : ∀ (b i : Nat), runeList s b i = rl b (s.data.toList.drop i) := by
  intro b
  induction b with
  | zero => intro i; rfl
  | succ b ih =>
    intro i
    unfold runeList rl
    have hsz := bsz s
    by_cases h : i < s.size
    · rw [if_pos h, if_neg (fun e => by have := congrArg List.length e; rw [List.length_drop, List.length_nil] at this; omega), Lib.decodeL_drop, ih, List.drop_drop]
      rfl
    · rw [if_neg h, if_pos (List.drop_eq_nil_of_le (by omega))]
theorem rl_fuel : ∀ (b b' : Nat) (l : List UInt8), l.length ≤ b → l.length ≤ b' → rl b l = rl b' l := by
  intro b
  induction b with
  | zero =>
    intro b' l h _
    obtain rfl : l = [] := List.eq_nil_of_length_eq_zero (by omega)
    cases b' <;> rfl
  | succ b ih =>
    intro b' l h h'
    cases b' with
    | zero =>
      obtain rfl : l = [] := List.eq_nil_of_length_eq_zero (by omega)
      rfl
    | succ b' =>
      unfold rl
      by_cases hl : l = []
      · rw [if_pos hl, if_pos hl]
      · rw [if_neg hl, if_neg hl]
        have h1 := Lib.decodeL_width l
        rw [ih b' _ (by rw [List.length_drop]; omega) (by rw [List.length_drop]; omega)]
def rlL (l : List UInt8) : List Int := rl l.length l
theorem rlL_nil : rlL [] = [] := rfl
theorem rlL_step {l : List UInt8} (h : l ≠ []) : rlL l = ((Lib.decodeL l).1 : Int) :: rlL (l.drop (Lib.decodeL l).2) := by
  have h1 := Lib.decodeL_width l
  have hl : 0 < l.length := List.length_pos_iff.2 h
  unfold rlL
  obtain ⟨n, hn⟩ : ∃ n, l.length = n + 1 := ⟨l.length - 1, by omega⟩
  rw [hn, rl, if_neg h, rl_fuel n _ _ (by rw [List.length_drop]; omega) (Nat.le_refl _)]
theorem runeList_rlL (s : ByteArray) : runeList s s.size 0 = rlL s.data.toList := by
  rw [runeList_rl, List.drop_zero]
  exact rl_fuel _ _ _ (Nat.le_of_eq (bsz s).symm) (Nat.le_refl _)
def encs (l : List Int) : List UInt8 := l.flatMap fun r => (Utf8.encode r).data.toList
theorem rlL_enc : ∀ (l : List Int), (∀ r ∈ l, Utf8.valid r = true) → ∀ X, rlL (encs l ++ X) = l ++ rlL X := by
  intro l
  induction l with
  | nil => intro _ X; rfl
  | cons r l ih =>
    intro h X
    obtain ⟨n, rfl, hn⟩ := valid_cases (h r (by simp))
    have hl := (encode_len (n : Int)).1
    have hd := decodeL_encode hn (encs l ++ X)
    have he : encs ((n : Int) :: l) ++ X = (Utf8.encode (n : Int)).data.toList ++ (encs l ++ X) := by
      unfold encs
      rw [List.flatMap_cons, List.append_assoc]
    rw [he, rlL_step (fun e => by have := congrArg List.length e; rw [List.length_append, List.length_nil] at this; omega), hd, List.drop_left' rfl, ih (fun x hx => h x (by simp [hx]))]
    rfl
def heads (B : List UInt8) : Prop := ∀ c, B[0]? = some c → c.toNat < 128 ∨ 192 ≤ c.toNat
theorem heads_enc : ∀ (l : List Int), (∀ r ∈ l, Utf8.valid r = true) → heads (encs l) := by
  intro l h
  cases l with
  | nil => intro c hc; cases hc
  | cons r l =>
    obtain ⟨n, rfl, hn⟩ := valid_cases (h r (by simp))
    intro c hc
    unfold encs at hc
    rw [List.flatMap_cons, encode_nat hn] at hc
    split at hc
    · rename_i h1
      have : UInt8.ofNat n = c := by simpa using hc
      rw [← this, ofNat_nat (by omega)]
      omega
    · split at hc
      · have : UInt8.ofNat (192 + n / 64) = c := by simpa using hc
        rw [← this, ofNat_nat (by omega)]
        omega
      · split at hc
        · have : UInt8.ofNat (224 + n / 4096) = c := by simpa using hc
          rw [← this, ofNat_nat (by omega)]
          omega
        · have : UInt8.ofNat (240 + n / 262144) = c := by simpa using hc
          rw [← this, ofNat_nat (by omega)]
          omega
theorem decodeN_conts (n a b c e : Nat) : ∀ k, (Lib.decodeN n a b c e).2 = k → (k = 1 ∧ (a < 128 ∨ Lib.decodeN n a b c e = (65533, 1))) ∨ (2 ≤ k ∧ k ≤ n ∧ (b < 192 ∧ 128 ≤ b) ∧ (3 ≤ k → c < 192 ∧ 128 ≤ c) ∧ (4 ≤ k → e < 192 ∧ 128 ≤ e) ∧ k ≤ 4) := by
  intro k hk
  subst hk
  rcases Lib.decodeN_shape n a b c e with ⟨_, h⟩ | ⟨_, _, _, _, h⟩ | ⟨_, _, _, _, _, _, h⟩ | ⟨_, _, _, _, _, _, _, h⟩ | h
  · rw [h]; exact .inl ⟨rfl, .inl (by omega)⟩
  · rw [h]; dsimp only; right; omega
  · rw [h]; dsimp only; right; omega
  · rw [h]; dsimp only; right; omega
  · rw [h]; exact .inl ⟨rfl, .inr rfl⟩
theorem decodeL_app {s B : List UInt8} (hs : s ≠ []) (hB : heads B) : Lib.decodeL (s ++ B) = Lib.decodeL s := by
  obtain ⟨c0, t, rfl⟩ : ∃ c t, s = c :: t := by
    cases s with
    | nil => exact absurd rfl hs
    | cons c t => exact ⟨c, t, rfl⟩
  by_cases h0 : c0.toNat < 128
  · rw [List.cons_append, Lib.decodeL_ascii _ _ h0, Lib.decodeL_ascii _ _ h0]
  · have g0 : 128 ≤ ((c0 :: t).getD 0 0).toNat := by rw [List.getD_cons_zero]; omega
    have g1 : 128 ≤ ((c0 :: t ++ B).getD 0 0).toNat := by rw [List.cons_append, List.getD_cons_zero]; omega
    by_cases hb : (Lib.decodeL (c0 :: t)).1 = 65533 ∧ (Lib.decodeL (c0 :: t)).2 = 1
    · by_cases hb2 : (Lib.decodeL (c0 :: t ++ B)).1 = 65533 ∧ (Lib.decodeL (c0 :: t ++ B)).2 = 1
      · exact Prod.ext (hb2.1.trans hb.1.symm) (hb2.2.trans hb.2.symm)
      · exfalso
        have hN := Lib.decodeL_N (c0 :: t ++ B)
        obtain ⟨k, hk⟩ : ∃ k, (Lib.decodeL (c0 :: t ++ B)).2 = k := ⟨_, rfl⟩
        have hk2 := hk
        rw [hN] at hk2
        rcases decodeN_conts _ _ _ _ _ k hk2 with ⟨_, h1 | h1⟩ | ⟨k1, k2, q1, q2, q3, q4⟩
        · omega
        · rw [← hN] at h1
          rw [h1] at hb2
          exact hb2 ⟨rfl, rfl⟩
        · by_cases hkl : k ≤ (c0 :: t).length
          · obtain ⟨m1, -⟩ := decodeL_more hb2 g1 ((c0 :: t).drop k)
            rw [hk, List.take_append_of_le_length hkl, List.take_append_drop] at m1
            rw [m1] at hb
            exact hb2 hb
          · have hat : ∀ j, (c0 :: t).length = j → (c0 :: t ++ B)[j]? = B[0]? := fun j hj => by
              rw [List.getElem?_append_right (by omega), hj, Nat.sub_self]
            have hBl : ∀ j, (c0 :: t).length = j → j < k → ((c0 :: t ++ B).getD j 0).toNat < 128 ∨ 192 ≤ ((c0 :: t ++ B).getD j 0).toNat := fun j hj hjk => by
              have hlen : j < (c0 :: t ++ B).length := by omega
              have e1 := hat j hj
              rw [List.getElem?_eq_getElem hlen] at e1
              rw [List.getD_eq_getElem?_getD, List.getElem?_eq_getElem hlen]
              exact hB _ e1.symm
            rcases Nat.lt_or_ge (c0 :: t).length 4 with h4 | h4
            · have hl1 : 1 ≤ (c0 :: t).length := by simp
              rcases (show (c0 :: t).length = 1 ∨ (c0 :: t).length = 2 ∨ (c0 :: t).length = 3 by omega) with h | h | h
              · have := hBl 1 h (by omega); omega
              · have := hBl 2 h (by omega); have := q2 (by omega); omega
              · have := hBl 3 h (by omega); have := q3 (by omega); omega
            · omega
    · obtain ⟨m1, -⟩ := decodeL_more hb g0 ((c0 :: t).drop (Lib.decodeL (c0 :: t)).2 ++ B)
      rw [← List.append_assoc, List.take_append_drop] at m1
      exact m1
theorem rlL_app (B : List UInt8) (hB : heads B) : ∀ (n : Nat) (s : List UInt8), s.length ≤ n → rlL (s ++ B) = rlL s ++ rlL B := by
  intro n
  induction n with
  | zero =>
    intro s h
    obtain rfl : s = [] := List.eq_nil_of_length_eq_zero (by omega)
    rfl
  | succ n ih =>
    intro s h
    by_cases hs : s = []
    · subst hs; rfl
    · have h1 := Lib.decodeL_width s
      have h2 := Lib.decodeL_le s hs
      have hl : 0 < s.length := List.length_pos_iff.2 hs
      rw [rlL_step (l := s ++ B) (fun e => hs (List.append_eq_nil_iff.1 e).1), rlL_step hs, decodeL_app hs hB, List.drop_append_of_le_length h2, ih _ (by rw [List.length_drop]; omega)]
      rfl
theorem runes_anew (s : ByteArray) : runeList (anewB s) (anewB s).size 0 = runeList s s.size 0 := by
  rw [runeList_rlL (anewB s)]
  unfold anewB
  rw [runesBytes_list]
  have h := rlL_enc (runeList s s.size 0) (runeList_valid s _ _) []
  rw [List.append_nil, rlL_nil, List.append_nil] at h
  exact h
theorem runes_repl (t s : ByteArray) (a c : Nat) : runeList (replT t a c s) (replT t a c s).size 0 = (runeList t t.size 0).take a ++ runeList s s.size 0 ++ (runeList t t.size 0).drop (a + c) := by
  have hv := runeList_valid t t.size 0
  have hd : (replT t a c s).data.toList = encs ((runeList t t.size 0).take a) ++ (s.data.toList ++ encs ((runeList t t.size 0).drop (a + c))) := by
    unfold replT encs
    rw [← runesBytes_list, ← runesBytes_list]
    simp [ByteArray.data_append, Array.toList_append]
  have v1 : ∀ r ∈ (runeList t t.size 0).take a, Utf8.valid r = true := fun r hr => hv r (List.mem_of_mem_take hr)
  have v2 : ∀ r ∈ (runeList t t.size 0).drop (a + c), Utf8.valid r = true := fun r hr => hv r (List.mem_of_mem_drop hr)
  have h2 := rlL_enc _ v2 []
  rw [List.append_nil, rlL_nil, List.append_nil] at h2
  rw [runeList_rlL, hd, rlL_enc _ v1, rlL_app _ (heads_enc _ v2) _ _ (Nat.le_refl _), h2, ← runeList_rlL s, List.append_assoc]
theorem runes_repl_len (t s : ByteArray) (a c : Nat) (hac : a + c ≤ runes t) : (runes (anewB (replT t a c s)) : Int) = runes t - c + (runeList s s.size 0).length := by
  unfold runes at hac ⊢
  rw [runes_anew, runes_repl, List.length_append, List.length_append, List.length_take, List.length_drop]
  omega
def isRow : List Int → Prop
  | [] => False
  | [x] => x % 2 = 0
  | x :: y :: r => x % 2 = 1 ∧ isRow (y :: r)
theorem isRow_row : ∀ (p : List Int) (a : Int), isRow (rowL p a) := by
  intro p
  induction p with
  | nil => intro a; show 2 * a % 2 = 0; omega
  | cons i p ih =>
    intro a
    have h := ih a
    show isRow ((2 * i + 1) :: rowL p a)
    cases hr : rowL p a with
    | nil => rw [hr] at h; exact h.elim
    | cons y r => rw [hr] at h; exact ⟨by omega, h⟩
theorem cmpL_self : ∀ x : List Int, cmpL x x = 0 := by
  intro x
  induction x with
  | nil => rfl
  | cons a x ih => simp [cmpL, ih]
def TurnL (pre : List Int) (K : Int → List Int → Prop) (f : Int → List Int → List Int) (x x' : List Int) : Prop :=
  (∃ v t, K v t ∧ x = pre ++ v :: t ∧ x' = pre ++ f v t) ∨ ((¬ ∃ s, x = pre ++ s) ∧ x' = x)
theorem TurnL.head {i a : Int} {pre xs x' : List Int} {K : Int → List Int → Prop} {f : Int → List Int → List Int} (h : TurnL (i :: pre) K f (a :: xs) x') :
    ∃ xs', x' = a :: xs' ∧ (a = i → TurnL pre K f xs xs') ∧ (a ≠ i → xs' = xs) := by
  rcases h with ⟨v, t, hk, h1, h2⟩ | ⟨h1, h2⟩
  · injection h1 with h3 h4
    subst h3
    exact ⟨pre ++ f v t, h2, fun _ => .inl ⟨v, t, hk, h4, rfl⟩, fun h => absurd rfl h⟩
  · refine ⟨xs, h2, fun e => .inr ⟨fun ⟨s, hs⟩ => h1 ⟨s, by rw [e, hs]; rfl⟩, rfl⟩, fun _ => rfl⟩
theorem isRow.tail {a : Int} {l : List Int} (h : isRow (a :: l)) (ha : a % 2 = 1) : isRow l := by
  cases l with
  | nil => have h2 : a % 2 = 0 := h; omega
  | cons u l => exact h.2
theorem cmpL_turn {K : Int → List Int → Prop} {f : Int → List Int → List Int} (hf : ∀ v t v' t', K v t → K v' t' → isRow (v :: t) → isRow (v' :: t') → cmpL (v :: t) (v' :: t') ≤ 0 → cmpL (f v t) (f v' t') ≤ 0) :
    ∀ (pre : List Int), (∀ i ∈ pre, i % 2 = 1) → ∀ (x y x' y' : List Int), isRow x → isRow y → TurnL pre K f x x' → TurnL pre K f y y' → cmpL x y ≤ 0 → cmpL x' y' ≤ 0 := by
  intro pre
  induction pre with
  | nil =>
    intro _ x y x' y' hx hy h1 h2 hc
    rcases h1 with ⟨v, t, k1, rfl, rfl⟩ | ⟨h1, _⟩
    · rcases h2 with ⟨v', t', k2, rfl, rfl⟩ | ⟨h2, _⟩
      · exact hf v t v' t' k1 k2 hx hy hc
      · exact absurd ⟨y, rfl⟩ h2
    · exact absurd ⟨x, rfl⟩ h1
  | cons i pre ih =>
    intro ho x y x' y' hx hy h1 h2 hc
    cases x with
    | nil => exact hx.elim
    | cons a xs =>
      cases y with
      | nil => exact hy.elim
      | cons b ys =>
        obtain ⟨xs', rfl, ax, bx⟩ := h1.head
        obtain ⟨ys', rfl, ay, by'⟩ := h2.head
        have hi := ho i (by simp)
        simp only [cmpL] at hc ⊢
        by_cases c1 : a < b
        · rw [if_pos c1]; omega
        · rw [if_neg c1] at hc ⊢
          by_cases c2 : b < a
          · rw [if_pos c2] at hc; omega
          · rw [if_neg c2] at hc ⊢
            obtain rfl : a = b := by omega
            by_cases e : a = i
            · subst e
              exact ih (fun j hj => ho j (by simp [hj])) xs ys xs' ys' (hx.tail hi) (hy.tail hi) (ax rfl) (ay rfl) hc
            · rw [bx e, by' e]; exact hc
def preL (p : List Int) : List Int := p.map fun i => 2 * i + 1
theorem preL_odd (p : List Int) : ∀ i ∈ preL p, i % 2 = 1 := by
  intro i hi
  obtain ⟨j, _, rfl⟩ := List.mem_map.1 hi
  omega
theorem rowL_pre (p q : List Int) (a : Int) : rowL (p ++ q) a = preL p ++ rowL q a := by
  unfold rowL preL
  rw [List.map_append, List.append_assoc]
theorem rowL_begins : ∀ (p q : List Int) (a : Int) (s : List Int), rowL q a = preL p ++ s → ∃ t, q = p ++ t := by
  intro p
  induction p with
  | nil => intro q a s _; exact ⟨q, rfl⟩
  | cons i p ih =>
    intro q a s h
    cases q with
    | nil =>
      have h' : [2 * a] = (2 * i + 1) :: (preL p ++ s) := h
      injection h' with h1 _
      omega
    | cons j q =>
      have h' : (2 * j + 1) :: rowL q a = (2 * i + 1) :: (preL p ++ s) := h
      injection h' with h1 h2
      obtain ⟨t, rfl⟩ := ih q a s h2
      exact ⟨t, by rw [show j = i by omega]; rfl⟩
def insF (q : Int) (v : Int) (t : List Int) : List Int := (if 2 * q < v then v + 2 else v) :: t
def remF (q : Int) (v : Int) (t : List Int) : List Int := if v = 2 * q + 1 then [2 * q] else (if 2 * q + 1 < v then v - 2 else v) :: t
theorem insF_mono (q : Int) (v : Int) (t : List Int) (v' : Int) (t' : List Int) (h : cmpL (v :: t) (v' :: t') ≤ 0) : cmpL (insF q v t) (insF q v' t') ≤ 0 := by
  unfold insF
  simp only [cmpL] at h ⊢
  by_cases c1 : v < v'
  · rw [if_pos (by split <;> split <;> omega)]; omega
  · rw [if_neg c1] at h
    by_cases c2 : v' < v
    · rw [if_pos c2] at h; omega
    · rw [if_neg c2] at h
      obtain rfl : v = v' := by omega
      rw [if_neg (by omega), if_neg (by omega)]
      exact h
theorem isRow.even {a : Int} {l : List Int} (h : isRow (a :: l)) (ha : a % 2 = 0) : l = [] := by
  cases l with
  | nil => rfl
  | cons u l => have := h.1; omega
theorem remF_mono (q : Int) (v : Int) (t : List Int) (v' : Int) (t' : List Int) (hx : isRow (v :: t)) (hy : isRow (v' :: t')) (h : cmpL (v :: t) (v' :: t') ≤ 0) : cmpL (remF q v t) (remF q v' t') ≤ 0 := by
  unfold remF
  simp only [cmpL] at h
  by_cases c1 : v < v'
  · by_cases e1 : v = 2 * q + 1
    · rw [if_pos e1, if_neg (by omega)]
      simp only [cmpL]
      by_cases c3 : 2 * q < (if 2 * q + 1 < v' then v' - 2 else v')
      · rw [if_pos c3]; omega
      · rw [if_neg c3, if_neg (by split <;> omega)]; omega
    · rw [if_neg e1]
      by_cases e2 : v' = 2 * q + 1
      · rw [if_pos e2]
        simp only [cmpL]
        by_cases c3 : (if 2 * q + 1 < v then v - 2 else v) < 2 * q
        · rw [if_pos c3]; omega
        · rw [if_neg c3, if_neg (by split <;> omega)]
          cases t <;> exact Int.le_refl _
      · rw [if_neg e2]
        simp only [cmpL]
        by_cases c3 : (if 2 * q + 1 < v then v - 2 else v) < (if 2 * q + 1 < v' then v' - 2 else v')
        · rw [if_pos c3]; omega
        · rw [if_neg c3, if_neg (by split <;> split <;> omega)]
          have hv : v % 2 = 0 := by
            split at c3 <;> split at c3 <;> omega
          rw [hx.even hv]
          cases t' <;> exact Int.le_refl _
  · rw [if_neg c1] at h
    by_cases c2 : v' < v
    · rw [if_pos c2] at h; omega
    · rw [if_neg c2] at h
      obtain rfl : v = v' := by omega
      by_cases e1 : v = 2 * q + 1
      · rw [if_pos e1, if_pos e1, cmpL_self]; omega
      · rw [if_neg e1, if_neg e1]
        simp only [cmpL]
        rw [if_neg (by omega), if_neg (by omega)]
        exact h
theorem oneF_mono {g : Int → Int} (hg : ∀ a b, a ≤ b → g a ≤ g b) (v : Int) (t : List Int) (v' : Int) (t' : List Int) (hx : t = [] ∧ v % 2 = 0) (hy : t' = [] ∧ v' % 2 = 0) (h : cmpL (v :: t) (v' :: t') ≤ 0) :
    cmpL [2 * g (v / 2)] [2 * g (v' / 2)] ≤ 0 := by
  obtain ⟨rfl, h1⟩ := hx
  obtain ⟨rfl, h2⟩ := hy
  simp only [cmpL] at h ⊢
  have hv : v ≤ v' := by
    by_cases c1 : v < v'
    · omega
    · rw [if_neg c1] at h
      by_cases c2 : v' < v
      · rw [if_pos c2] at h; omega
      · omega
  have := hg (v / 2) (v' / 2) (by omega)
  by_cases c3 : 2 * g (v / 2) < 2 * g (v' / 2)
  · rw [if_pos c3]; omega
  · rw [if_neg c3, if_neg (by omega)]; omega
section
variable {T T' : Tr} {d d' : Nat → Nat} {p k a : Int}
structure Linked (T T' : Tr) (p a k : Int) : Prop where
  root : ¬ 0 ≤ T.up k
  p0 : 0 ≤ p
  upk : T'.up k = p
  idxk : T'.idx k = a
  up : ∀ x, x ≠ k → T'.up x = T.up x
  idx : ∀ x, x ≠ k → 0 ≤ T.up x → T'.idx x = if T.up x = p ∧ a ≤ T.idx x then T.idx x + 1 else T.idx x
theorem Linked.apart (h : Linked T T' p a k) (hw : WF T d) (hw' : WF T' d') : T.rootOf p ≠ k := by
  intro e
  have key : ∀ x, T.rootOf x = k → T'.rank d' k ≤ T'.rank d' x := by
    refine hw.down _ (fun x hx => ?_) (fun x hx ih => ?_)
    · rw [hw.root_step, if_neg hx]
      rintro rfl; exact Nat.le_refl _
    · rw [hw.root_step, if_pos hx]
      intro e
      have hxk : x ≠ k := fun e => h.root (e ▸ hx)
      have h1 := ih e
      have h2 := hw'.rank_up (id := x) (by rw [h.up x hxk]; exact hx)
      rw [h.up x hxk] at h2
      omega
  have h1 := key p e
  have h2 := hw'.rank_up (id := k) (by rw [h.upk]; exact h.p0)
  rw [h.upk] at h2
  omega
theorem Linked.in_ (h : Linked T T' p a k) (hw : WF T d) (hw' : WF T' d') : ∀ x, T.rootOf x = k → T'.pathOf x = T'.pathOf k ++ T.pathOf x ∧ T'.rootOf x = T'.rootOf k := by
  have hap := h.apart hw hw'
  refine hw.down _ (fun x hx => ?_) (fun x hx ih => ?_)
  · rw [hw.root_step, if_neg hx]
    rintro rfl
    rw [hw.path_step x, if_neg hx, List.append_nil]
    exact ⟨rfl, rfl⟩
  · rw [hw.root_step, if_pos hx]
    intro e
    have hxk : x ≠ k := fun e => h.root (e ▸ hx)
    obtain ⟨h1, h2⟩ := ih e
    have hu : 0 ≤ T'.up x := by rw [h.up x hxk]; exact hx
    rw [hw'.path_step x, hw'.root_step x, if_pos hu, if_pos hu, h.up x hxk, h.idx x hxk hx, if_neg (fun c => hap (by rw [← c.1]; exact e)), h1, h2, hw.path_step x, if_pos hx, List.append_assoc]
    exact ⟨rfl, rfl⟩
theorem no_longer {p t : List Int} {j : Int} (h : p = p ++ j :: t) : False := by
  have := congrArg List.length h
  simp at this
theorem Linked.out_ (h : Linked T T' p a k) (hw : WF T d) (hw' : WF T' d') : ∀ x, T.rootOf x ≠ k → T'.rootOf x = T.rootOf x ∧
    ((T.rootOf x = T.rootOf p ∧ ∃ j t, T.pathOf x = T.pathOf p ++ j :: t ∧ T'.pathOf x = T.pathOf p ++ (if a ≤ j then j + 1 else j) :: t) ∨ ((T.rootOf x = T.rootOf p → ¬ ∃ j t, T.pathOf x = T.pathOf p ++ j :: t) ∧ T'.pathOf x = T.pathOf x)) := by
  refine hw.down _ (fun x hx => ?_) (fun x hx ih => ?_)
  · rw [hw.root_step x, if_neg hx]
    intro e
    have hu : ¬ 0 ≤ T'.up x := by rw [h.up x e]; exact hx
    rw [hw'.path_step x, hw'.root_step x, if_neg hu, if_neg hu, hw.path_step x, if_neg hx]
    exact ⟨rfl, .inr ⟨fun _ ⟨j, t, e⟩ => by simp at e, rfl⟩⟩
  · rw [hw.root_step x, if_pos hx]
    intro e
    have hxk : x ≠ k := fun e => h.root (e ▸ hx)
    obtain ⟨h1, h2⟩ := ih e
    have hu : 0 ≤ T'.up x := by rw [h.up x hxk]; exact hx
    rw [hw'.path_step x, hw'.root_step x, if_pos hu, if_pos hu, h.up x hxk, h.idx x hxk hx, h1, hw.path_step x, if_pos hx]
    refine ⟨rfl, ?_⟩
    by_cases hp : T.up x = p
    · rw [hp] at h2 ⊢
      rcases h2 with ⟨_, j, t, e2, _⟩ | ⟨_, e2⟩
      · exact (no_longer e2).elim
      · refine .inl ⟨rfl, T.idx x, [], rfl, ?_⟩
        rw [e2]
        by_cases c : a ≤ T.idx x
        · rw [if_pos ⟨rfl, c⟩, if_pos c]
        · rw [if_neg (fun e => c e.2), if_neg c]
    · rw [if_neg (fun e => hp e.1)]
      rcases h2 with ⟨e1, j, t, e2, e3⟩ | ⟨e1, e2⟩
      · exact .inl ⟨e1, j, t ++ [T.idx x], by rw [e2]; simp, by rw [e3]; simp⟩
      · refine .inr ⟨fun er ⟨j, t, e3⟩ => ?_, by rw [e2]⟩
        rcases List.eq_nil_or_concat t with rfl | ⟨t', z, rfl⟩
        · exact hp (hw.path_inj (List.append_inj' e3 rfl).1 er)
        · have e4 : T.pathOf (T.up x) ++ [T.idx x] = (T.pathOf p ++ j :: t') ++ [z] := by rw [e3]; simp
          exact e1 er ⟨j, t', (List.append_inj' e4 rfl).1⟩
theorem Linked.path_p (h : Linked T T' p a k) (hw : WF T d) (hw' : WF T' d') : T'.pathOf p = T.pathOf p ∧ T'.rootOf p = T.rootOf p := by
  obtain ⟨h1, h2⟩ := h.out_ hw hw' p (h.apart hw hw')
  rcases h2 with ⟨_, j, t, e2, _⟩ | ⟨_, e2⟩
  · exact (no_longer e2).elim
  · exact ⟨e2, h1⟩
theorem Linked.path_k (h : Linked T T' p a k) (hw : WF T d) (hw' : WF T' d') : T'.pathOf k = T.pathOf p ++ [a] ∧ T'.rootOf k = T.rootOf p := by
  have hu : 0 ≤ T'.up k := by rw [h.upk]; exact h.p0
  rw [hw'.path_step, hw'.root_step, if_pos hu, if_pos hu, h.upk, h.idxk, (h.path_p hw hw').1, (h.path_p hw hw').2]
  exact ⟨rfl, rfl⟩
theorem cmpL_insF (q : Int) (pre : List Int) {x y x' y' : List Int} (ho : ∀ i ∈ pre, i % 2 = 1) (hx : isRow x) (hy : isRow y) (h1 : TurnL pre (fun _ _ => True) (insF q) x x') (h2 : TurnL pre (fun _ _ => True) (insF q) y y') (h : cmpL x y ≤ 0) : cmpL x' y' ≤ 0 :=
  cmpL_turn (fun v t v' t' _ _ _ _ hc => insF_mono q v t v' t' hc) pre ho x y x' y' hx hy h1 h2 h
theorem cmpL_remF (q : Int) (pre : List Int) {x y x' y' : List Int} (ho : ∀ i ∈ pre, i % 2 = 1) (hx : isRow x) (hy : isRow y) (h1 : TurnL pre (fun _ _ => True) (remF q) x x') (h2 : TurnL pre (fun _ _ => True) (remF q) y y') (h : cmpL x y ≤ 0) : cmpL x' y' ≤ 0 :=
  cmpL_turn (fun v t v' t' _ _ hr hr' hc => remF_mono q v t v' t' hr hr' hc) pre ho x y x' y' hx hy h1 h2 h
theorem Linked.turn (h : Linked T T' p a k) (hw : WF T d) (hw' : WF T' d') {n : Int} (x : Int) (hr : T.rootOf n = T.rootOf p) : TurnL (preL (T.pathOf p)) (fun _ _ => True) (insF a) (rowL (T.pathOf n) x) (rowL (T'.pathOf n) (insA n x p a 1)) := by
  have hap := h.apart hw hw'
  obtain ⟨_, h2⟩ := h.out_ hw hw' n (by rw [hr]; exact hap)
  rcases h2 with ⟨_, j, t, e2, e3⟩ | ⟨e1, e2⟩
  · have hn : n ≠ p := fun e => by rw [e] at e2; exact no_longer e2
    refine .inl ⟨2 * j + 1, rowL t x, trivial, by rw [e2, rowL_pre]; rfl, ?_⟩
    unfold insA insF
    rw [if_neg (fun c => hn c.1), e3, rowL_pre]
    by_cases c : a ≤ j
    · rw [if_pos c, if_pos (by omega)]
      show preL _ ++ (2 * (j + 1) + 1) :: rowL t x = _
      rw [show 2 * (j + 1) + 1 = 2 * j + 1 + 2 by omega]
    · rw [if_neg c, if_neg (by omega)]; rfl
  · by_cases hn : n = p
    · subst hn
      refine .inl ⟨2 * x, [], trivial, rfl, ?_⟩
      rw [e2]
      unfold insA insF
      by_cases c : a < x
      · rw [if_pos ⟨rfl, c⟩, if_pos (by omega)]
        show preL _ ++ [2 * (x + 1)] = _
        rw [show 2 * (x + 1) = 2 * x + 2 by omega]
      · rw [if_neg (fun e => c e.2), if_neg (by omega)]; rfl
    · refine .inr ⟨fun ⟨s, hs⟩ => ?_, by rw [e2]; unfold insA; rw [if_neg (fun c => hn c.1)]⟩
      obtain ⟨t, ht⟩ := rowL_begins _ _ _ _ hs
      cases t with
      | nil => rw [List.append_nil] at ht; exact hn (hw.path_inj ht hr)
      | cons j t => exact e1 hr ⟨j, t, ht⟩
theorem Linked.cmp (h : Linked T T' p a k) (hw : WF T d) (hw' : WF T' d') {n m : Int} (x y : Int) (hr : T.rootOf n = T.rootOf m) : T'.rootOf n = T'.rootOf m ∧
    (cmpL (rowL (T.pathOf n) x) (rowL (T.pathOf m) y) ≤ 0 → cmpL (rowL (T'.pathOf n) (insA n x p a 1)) (rowL (T'.pathOf m) (insA m y p a 1)) ≤ 0) := by
  have hap := h.apart hw hw'
  by_cases hk : T.rootOf n = k
  · obtain ⟨a1, a2⟩ := h.in_ hw hw' n hk
    obtain ⟨b1, b2⟩ := h.in_ hw hw' m (hr ▸ hk)
    refine ⟨a2.trans b2.symm, fun hc => ?_⟩
    have hn : n ≠ p := fun e => hap (e ▸ hk)
    have hm : m ≠ p := fun e => hap (by rw [← e, ← hr]; exact hk)
    unfold insA
    rw [if_neg (fun c => hn c.1), if_neg (fun c => hm c.1), a1, b1, rowL_pre, rowL_pre, cmpL_pre]
    exact hc
  · obtain ⟨a1, a2⟩ := h.out_ hw hw' n hk
    obtain ⟨b1, b2⟩ := h.out_ hw hw' m (hr ▸ hk)
    refine ⟨a1.trans (hr.trans b1.symm), fun hc => ?_⟩
    by_cases hp : T.rootOf n = T.rootOf p
    · exact cmpL_insF a _ (preL_odd _) (isRow_row _ _) (isRow_row _ _) (h.turn hw hw' x hp) (h.turn hw hw' y (hr ▸ hp)) hc
    · have hn : n ≠ p := fun e => hp (by rw [e])
      have hm : m ≠ p := fun e => hp (by rw [hr, e])
      rcases a2 with ⟨e, _⟩ | ⟨_, e2⟩
      · exact absurd e hp
      · rcases b2 with ⟨e, _⟩ | ⟨_, e3⟩
        · exact absurd (hr.trans e) hp
        · unfold insA
          rw [if_neg (fun c => hn c.1), if_neg (fun c => hm c.1), e2, e3]
          exact hc
def goneP (T : Tr) (k p a n x : Int) : Int × Int := if T.rootOf n = k then (p, a) else (n, remA n x p a)
theorem Linked.root_back (h : Linked T T' p a k) (hw : WF T d) (hw' : WF T' d') (n x : Int) : T.rootOf (goneP T k p a n x).1 = T'.rootOf n := by
  unfold goneP
  by_cases hk : T.rootOf n = k
  · rw [if_pos hk, (h.in_ hw hw' n hk).2, (h.path_k hw hw').2]
  · rw [if_neg hk, (h.out_ hw hw' n hk).1]
theorem Linked.turn_back (h : Linked T T' p a k) (hw : WF T d) (hw' : WF T' d') {n : Int} (x : Int) (hr : T'.rootOf n = T.rootOf p) : TurnL (preL (T.pathOf p)) (fun _ _ => True) (remF a) (rowL (T'.pathOf n) x) (rowL (T.pathOf (goneP T k p a n x).1) (goneP T k p a n x).2) := by
  have hap := h.apart hw hw'
  unfold goneP
  by_cases hk : T.rootOf n = k
  · rw [if_pos hk]
    refine .inl ⟨2 * a + 1, rowL (T.pathOf n) x, trivial, ?_, ?_⟩
    · rw [(h.in_ hw hw' n hk).1, (h.path_k hw hw').1, List.append_assoc, rowL_pre]; rfl
    · unfold remF
      rw [if_pos rfl]; rfl
  · rw [if_neg hk]
    obtain ⟨h1, h2⟩ := h.out_ hw hw' n hk
    rcases h2 with ⟨_, j, t, e2, e3⟩ | ⟨e1, e2⟩
    · have hn : n ≠ p := fun e => by rw [e] at e2; exact no_longer e2
      refine .inl ⟨2 * (if a ≤ j then j + 1 else j) + 1, rowL t x, trivial, by rw [e3, rowL_pre]; rfl, ?_⟩
      unfold remA remF
      dsimp only
      rw [if_neg (fun c => hn c.1), e2, rowL_pre]
      by_cases c : a ≤ j
      · rw [if_pos c, if_neg (by omega), if_pos (by omega), show 2 * (j + 1) + 1 - 2 = 2 * j + 1 by omega]; rfl
      · rw [if_neg c, if_neg (by omega), if_neg (by omega)]; rfl
    · by_cases hn : n = p
      · subst hn
        refine .inl ⟨2 * x, [], trivial, by rw [e2]; rfl, ?_⟩
        have e : remF a (2 * x) [] = [2 * remA n x n a] := by
          unfold remF
          rw [if_neg (show ¬ 2 * x = 2 * a + 1 by omega)]
          by_cases c : a < x
          · rw [show remA n x n a = x - 1 from if_pos ⟨rfl, c⟩, if_pos (by omega), show 2 * x - 2 = 2 * (x - 1) by omega]
          · rw [show remA n x n a = x from if_neg (fun e => c e.2), if_neg (by omega)]
        rw [e]; rfl
      · refine .inr ⟨fun ⟨s, hs⟩ => ?_, by unfold remA; dsimp only; rw [e2, if_neg (fun c => hn c.1)]⟩
        rw [e2] at hs
        obtain ⟨t, ht⟩ := rowL_begins _ _ _ _ hs
        have hr2 : T.rootOf n = T.rootOf p := by rw [← h1]; exact hr
        cases t with
        | nil => rw [List.append_nil] at ht; exact hn (hw.path_inj ht hr2)
        | cons j t => exact e1 hr2 ⟨j, t, ht⟩
theorem Linked.cmp_back (h : Linked T T' p a k) (hw : WF T d) (hw' : WF T' d') {n m : Int} (x y : Int) (hr : T'.rootOf n = T'.rootOf m) : T.rootOf (goneP T k p a n x).1 = T.rootOf (goneP T k p a m y).1 ∧
    (cmpL (rowL (T'.pathOf n) x) (rowL (T'.pathOf m) y) ≤ 0 → cmpL (rowL (T.pathOf (goneP T k p a n x).1) (goneP T k p a n x).2) (rowL (T.pathOf (goneP T k p a m y).1) (goneP T k p a m y).2) ≤ 0) := by
  have hap := h.apart hw hw'
  refine ⟨by rw [h.root_back hw hw', h.root_back hw hw', hr], fun hc => ?_⟩
  by_cases hp : T'.rootOf n = T.rootOf p
  · exact cmpL_remF a _ (preL_odd _) (isRow_row _ _) (isRow_row _ _) (h.turn_back hw hw' x hp) (h.turn_back hw hw' y (hr ▸ hp)) hc
  · have key : ∀ (n x : Int), T'.rootOf n ≠ T.rootOf p → goneP T k p a n x = (n, x) ∧ T.pathOf n = T'.pathOf n := by
      intro n x hn
      unfold goneP
      by_cases hk : T.rootOf n = k
      · exact absurd ((h.in_ hw hw' n hk).2.trans (h.path_k hw hw').2) hn
      · obtain ⟨h1, h2⟩ := h.out_ hw hw' n hk
        rw [if_neg hk]
        unfold remA
        rw [if_neg (fun c => hn (by rw [h1, c.1]))]
        rcases h2 with ⟨e, _⟩ | ⟨_, e2⟩
        · exact absurd (h1.trans e) hn
        · exact ⟨rfl, e2.symm⟩
    obtain ⟨k1, k2⟩ := key n x hp
    obtain ⟨k3, k4⟩ := key m y (hr ▸ hp)
    rw [k1, k3]
    dsimp only
    rw [k2, k4]
    exact hc
theorem cmp_text (hw : WF T d) (hw' : WF T' d') (hu : ∀ x, T'.up x = T.up x) (hi : ∀ x, T'.idx x = T.idx x) (hk : T.kidsOf p = []) {q c mm : Int} (hc0 : 0 ≤ c) (hm0 : 0 ≤ mm) {n m : Int} (x y : Int) (hr : T.rootOf n = T.rootOf m) : T'.rootOf n = T'.rootOf m ∧
    (cmpL (rowL (T.pathOf n) x) (rowL (T.pathOf m) y) ≤ 0 → cmpL (rowL (T'.pathOf n) (repA n x p q c mm)) (rowL (T'.pathOf m) (repA m y p q c mm)) ≤ 0) := by
  have same : ∀ x, T'.pathOf x = T.pathOf x ∧ T'.rootOf x = T.rootOf x := by
    refine hw.down _ (fun x hx => ?_) (fun x hx ih => ?_)
    · rw [hw'.path_step x, hw'.root_step x, hu x, if_neg hx, if_neg hx, hw.path_step x, hw.root_step x, if_neg hx, if_neg hx]
      exact ⟨rfl, rfl⟩
    · rw [hw'.path_step x, hw'.root_step x, hu x, if_pos hx, if_pos hx, hi x, ih.1, ih.2, hw.path_step x, hw.root_step x, if_pos hx, if_pos hx]
      exact ⟨rfl, rfl⟩
  have none_in : ∀ x, T.rootOf x = T.rootOf p → ¬ ∃ j t, T.pathOf x = T.pathOf p ++ j :: t := by
    refine hw.down _ (fun x hx => ?_) (fun x hx ih => ?_)
    · rintro _ ⟨j, t, e⟩
      rw [hw.path_step x, if_neg hx] at e
      simp at e
    · rw [hw.root_step x, if_pos hx]
      rintro er ⟨j, t, e⟩
      rw [hw.path_step x, if_pos hx] at e
      rcases List.eq_nil_or_concat t with rfl | ⟨t', z, rfl⟩
      · have e2 := hw.path_inj (List.append_inj' e rfl).1 er
        obtain ⟨j', _, j2, _⟩ := hw.idx_kid hx
        rw [e2, hk] at j2
        cases j2
      · have e4 : T.pathOf (T.up x) ++ [T.idx x] = (T.pathOf p ++ j :: t') ++ [z] := by rw [e]; simp
        exact ih er ⟨j, t', (List.append_inj' e4 rfl).1⟩
  refine ⟨by rw [(same n).2, (same m).2, hr], fun hc => ?_⟩
  rw [(same n).1, (same m).1]
  obtain ⟨g, hg⟩ : ∃ g : Int → Int, g = fun x => if q < x then (if q + c < x then x + mm - c else q) else x := ⟨_, rfl⟩
  have hgm : ∀ a b, a ≤ b → g a ≤ g b := by
    intro a b hab
    rw [hg]
    dsimp only
    split <;> split <;> (try split) <;> (try split) <;> omega
  by_cases hp : T.rootOf n = T.rootOf p
  · have turn : ∀ (n x : Int), T.rootOf n = T.rootOf p → TurnL (preL (T.pathOf p)) (fun v t => t = [] ∧ v % 2 = 0) (fun v t => [2 * g (v / 2)]) (rowL (T.pathOf n) x) (rowL (T.pathOf n) (repA n x p q c mm)) := by
      intro n x hr
      by_cases hn : n = p
      · subst hn
        refine .inl ⟨2 * x, [], ⟨rfl, by omega⟩, rfl, ?_⟩
        have e : repA n x n q c mm = g (2 * x / 2) := by
          rw [show 2 * x / 2 = x by omega, hg]
          unfold repA
          by_cases c1 : q < x
          · rw [if_pos ⟨rfl, c1⟩]; dsimp only; rw [if_pos c1]
          · rw [if_neg (fun e => c1 e.2)]; dsimp only; rw [if_neg c1]
        rw [e]; rfl
      · refine .inr ⟨fun ⟨s, hs⟩ => ?_, by unfold repA; rw [if_neg (fun c => hn c.1)]⟩
        obtain ⟨t, ht⟩ := rowL_begins _ _ _ _ hs
        cases t with
        | nil => rw [List.append_nil] at ht; exact hn (hw.path_inj ht hr)
        | cons j t => exact none_in n hr ⟨j, t, ht⟩
    exact cmpL_turn (fun v t v' t' h1 h2 _ _ h3 => oneF_mono hgm v t v' t' h1 h2 h3) _ (preL_odd _) _ _ _ _ (isRow_row _ _) (isRow_row _ _) (turn n x hp) (turn m y (hr ▸ hp)) hc
  · unfold repA
    rw [if_neg (fun c => hp (by rw [c.1])), if_neg (fun c => hp (by rw [hr, c.1]))]
    exact hc
end
theorem mid_get (l : List Int) (a j : Nat) (k x : Int) (ha : a ≤ l.length) (h : l[j]? = some x) : (l.take a ++ [k] ++ l.drop a)[if a ≤ j then j + 1 else j]? = some x := by
  have hl : (l.take a).length = a := by simp; omega
  have hj := (List.getElem?_eq_some_iff.1 h).1
  by_cases c : a ≤ j
  · rw [if_pos c, List.append_assoc, List.getElem?_append_right (by omega), hl, List.getElem?_append_right (by simp; omega)]
    simp only [List.length_singleton, List.getElem?_drop]
    rw [show a + (j + 1 - a - 1) = j by omega]; exact h
  · rw [if_neg c, List.append_assoc, List.getElem?_append_left (by omega), List.getElem?_take_of_lt (by omega)]; exact h
theorem mid_at (l : List Int) (a : Nat) (k : Int) (ha : a ≤ l.length) : (l.take a ++ [k] ++ l.drop a)[a]? = some k := by
  have hl : (l.take a).length = a := by simp; omega
  rw [List.append_assoc, List.getElem?_append_right (by omega), hl, Nat.sub_self]; rfl
theorem linked_link {T : Tr} {d d' : Nat → Nat} {p k a : Nat} {pd kd : Nd} (hw : WF T d) (hw' : WF (T.link p a k pd kd) d') (hp : T.nodes[p]? = some (some pd)) (hk : T.nodes[k]? = some (some kd)) (hpk : p ≠ k) (hpar : kd.parent = -1) (ha : a ≤ pd.kids.length) : Linked T (T.link p a k pd kd) p a k := by
  have hgp := Tr.get_of hp
  have hgk := Tr.get_of hk
  have hget : ∀ j : Nat, (T.link p a k pd kd).get? (j : Int) = if j = k then some { kd with parent := p } else if j = p then some { pd with kids := pd.kids.take a ++ [(k : Int)] ++ pd.kids.drop a } else T.get? (j : Int) := by
    intro j
    rw [get_nat, get_nat, Tr.link_eq, Tr.set2_get hp hk]
    by_cases h1 : j = k
    · rw [if_pos h1, if_pos h1]; rfl
    · rw [if_neg h1, if_neg h1]
      by_cases h2 : j = p
      · rw [if_pos h2, if_pos h2]; rfl
      · rw [if_neg h2, if_neg h2]
  have hneg : ∀ x : Int, x < 0 → (T.link p a k pd kd).get? x = T.get? x := fun x hx => by rw [get_neg _ hx, get_neg _ hx]
  have hgx : ∀ x : Int, x ≠ k → x ≠ p → (T.link p a k pd kd).get? x = T.get? x := by
    intro x h1 h2
    by_cases h0 : x < 0
    · exact hneg x h0
    · obtain ⟨j, rfl⟩ := Int.eq_ofNat_of_zero_le (show 0 ≤ x by omega)
      rw [hget, if_neg (fun e => h1 (by rw [e])), if_neg (fun e => h2 (by rw [e]))]
  have hgk' := hget k
  rw [if_pos rfl] at hgk'
  have hgp' := hget p
  rw [if_neg hpk, if_pos rfl] at hgp'
  have hkp : (T.link p a k pd kd).kidsOf (p : Int) = pd.kids.take a ++ [(k : Int)] ++ pd.kids.drop a := by unfold Tr.kidsOf; rw [hgp']
  have hkx : ∀ x : Int, x ≠ p → (T.link p a k pd kd).kidsOf x = T.kidsOf x := by
    intro x h2
    unfold Tr.kidsOf
    by_cases h1 : x = k
    · subst h1; rw [hgk', hgk]
    · rw [hgx x h1 h2]
  have hup : ∀ x : Int, x ≠ k → (T.link p a k pd kd).up x = T.up x := by
    intro x h1
    unfold Tr.up
    by_cases h2 : x = p
    · subst h2; rw [hgp', hgp]
    · rw [hgx x h1 h2]
  refine ⟨?_, by omega, by rw [Tr.up_some hgk'], ?_, hup, ?_⟩
  · rw [Tr.up_some hgk, hpar]; omega
  · exact (hw'.kid_idx (by rw [hkp]; exact mid_at _ _ _ ha)).2.1
  · intro x hx hu
    obtain ⟨j, j1, j2, _⟩ := hw.idx_kid hu
    by_cases e : T.up x = p
    · rw [e] at j2
      have hkk : T.kidsOf (p : Int) = pd.kids := by unfold Tr.kidsOf; rw [hgp]
      rw [hkk] at j2
      have h3 := mid_get pd.kids a j (k : Int) x ha j2
      rw [← hkp] at h3
      rw [(hw'.kid_idx h3).2.1, j1]
      by_cases c : a ≤ j
      · rw [if_pos c, if_pos ⟨e, by omega⟩]; omega
      · rw [if_neg c, if_neg (fun c2 => c (by have := c2.2; omega))]
    · rw [if_neg (fun c => e c.1), j1]
      rw [← hkx _ e] at j2
      exact (hw'.kid_idx j2).2.1
theorem linked_unlink {T : Tr} {d d' : Nat → Nat} {p k : Nat} {pd kd : Nd} (hw : WF T d) (hw' : WF (T.unlink p k pd kd) d') (hp : T.nodes[p]? = some (some pd)) (hk : T.nodes[k]? = some (some kd)) (hpk : p ≠ k) (hpar : kd.parent = (p : Int)) (hn : pd.kids.Nodup) (hin : (k : Int) ∈ pd.kids) : Linked (T.unlink p k pd kd) T p (pd.kids.idxOf (k : Int)) k := by
  have e := Tr.link_unlink hp hk hpk hpar hn hin
  have hg := fun j => Tr.set2_get (pd' := { pd with kids := pd.kids.erase (k : Int) }) (kd' := { kd with parent := -1 }) hp hk j
  have h := linked_link (d' := d) (p := p) (k := k) (a := pd.kids.idxOf (k : Int)) (pd := { pd with kids := pd.kids.erase (k : Int) }) (kd := { kd with parent := -1 }) hw' (by rw [e]; exact hw) (by
    show (T.set2 p k _ _).nodes[p]? = _
    rw [hg, if_neg hpk, if_pos rfl]) (by
    show (T.set2 p k _ _).nodes[k]? = _
    rw [hg, if_pos rfl]) hpk rfl (by
    show _ ≤ (pd.kids.erase (k : Int)).length
    rw [List.length_erase_of_mem hin]
    have := List.idxOf_lt_length_of_mem hin
    omega)
  rw [e] at h
  exact h
end Go.Proofs.YthgnbbbdcebjhaaGreat
namespace Go.Proofs.YthgnbbbdcebjhaaGreat
open Go Go.RowKit Go.BigFrame
def noNd : Nd := ⟨0, [], ByteArray.empty, [], -1⟩
def ndOf (o : Option Nd) : Nd := o.getD noNd
def isN (o : Option Nd) : Int := if o.isSome then 1 else 0
structure RecAt (ga : World) (cur : Array Value) (j : Nat) (o : Option Nd) : Prop where
  out : ∃ av kv, cur[j * 6]? = some (.int .i64 (isN o)) ∧ cur[j * 6 + 1]? = some (.int .i64 (ndOf o).tag) ∧ cur[j * 6 + 2]? = some (.int .i64 (ndOf o).parent) ∧ cur[j * 6 + 3]? = some av ∧ cur[j * 6 + 4]? = some (.string (ndOf o).text) ∧ cur[j * 6 + 5]? = some kv ∧
    RowRd ga 2 av (ndOf o).attrs.length (attrCells (ndOf o).attrs) ∧ RowRd ga 1 kv (ndOf o).kids.length ((ndOf o).kids.map (Value.int .i64))
structure RefAt (w ga : World) (rb g : Nat) (T : Tr) : Prop where
  ne : rb ≠ g
  row : ∃ cap cur, w.heap[rb]? = some (.cells #[.int .i64 T.cap, .int .i64 T.deep, .slice (some ⟨g, 0, none⟩) T.nodes.length cap] 124 (0, 0)) ∧ T.nodes.length ≤ cap ∧ cap ≤ maxLen ∧
    w.heap[g]? = some (.cells cur 121 (0, 0)) ∧ cur.size = cap * 6 ∧ ∀ (j : Nat) o, T.nodes[j]? = some o → RecAt ga cur j o
  told : ∀ q y, ga.cell? q = some y → w.cell? q = some y ∧ q.block ≠ rb ∧ q.block ≠ g
theorem RefAt.keep {w w' ga : World} {rb g : Nat} {T : Tr} (h : RefAt w ga rb g T) (h1 : w'.heap[rb]? = w.heap[rb]?) (h2 : w'.heap[g]? = w.heap[g]?) (h3 : Cells ga w') : RefAt w' ga rb g T := by
  obtain ⟨cap, cur, b1, b2, b3, b4, b5, b6⟩ := h.row
  exact ⟨h.ne, ⟨cap, cur, h1.trans b1, b2, b3, h2.trans b4, b5, b6⟩, fun q y hq => ⟨h3 q y hq, (h.told q y hq).2⟩⟩
theorem RefAt.ext {w w' ga : World} {rb g : Nat} {T : Tr} (h : RefAt w ga rb g T) (x : Ext w w') : RefAt w' ga rb g T := by
  obtain ⟨cap, cur, b1, b2, b3, b4, b5, b6⟩ := h.row
  exact h.keep (Below.block x rb (Array.getElem?_eq_some_iff.1 b1).1) (Below.block x g (Array.getElem?_eq_some_iff.1 b4).1) fun q y hq => x.cells q y (h.told q y hq).1
structure RAt (w : World) (rb : Nat) (T : Tr) : Prop where
  out : ∃ ga g, RefAt w ga rb g T
theorem RAt.ext {w w' : World} {rb : Nat} {T : Tr} (h : RAt w rb T) (x : Ext w w') : RAt w' rb T := by
  obtain ⟨ga, g, h⟩ := h.out
  exact ⟨ga, g, h.ext x⟩
theorem RAt.slice {w : World} {rb : Nat} {T : Tr} (h : RAt w rb T) : ∃ g cap, w.cell? ⟨rb, 2, none⟩ = some (.slice (some ⟨g, 0, none⟩) T.nodes.length cap) ∧ T.nodes.length ≤ cap ∧ w.cell? ⟨rb, 0, none⟩ = some (.int .i64 T.cap) ∧ w.cell? ⟨rb, 1, none⟩ = some (.int .i64 T.deep) := by
  obtain ⟨ga, g, h⟩ := h.out
  obtain ⟨cap, cur, b1, b2, b3, b4, b5, b6⟩ := h.row
  exact ⟨g, cap, cellOf b1 rfl, b2, cellOf b1 rfl, cellOf b1 rfl⟩
theorem RAt.one {w : World} {rb : Nat} {T : Tr} (h : RAt w rb T) {j : Nat} {o : Option Nd} (hj : T.nodes[j]? = some o) : ∃ g cap aa ac ka kc, w.cell? ⟨rb, 2, none⟩ = some (.slice (some ⟨g, 0, none⟩) T.nodes.length cap) ∧
    w.cell? ⟨g, j * 6, none⟩ = some (.int .i64 (isN o)) ∧ w.cell? ⟨g, j * 6 + 1, none⟩ = some (.int .i64 (ndOf o).tag) ∧ w.cell? ⟨g, j * 6 + 2, none⟩ = some (.int .i64 (ndOf o).parent) ∧ w.cell? ⟨g, j * 6 + 3, none⟩ = some (.slice aa (ndOf o).attrs.length ac) ∧
    w.cell? ⟨g, j * 6 + 4, none⟩ = some (.string (ndOf o).text) ∧ w.cell? ⟨g, j * 6 + 5, none⟩ = some (.slice ka (ndOf o).kids.length kc) ∧ RowRd w 2 (.slice aa (ndOf o).attrs.length ac) (ndOf o).attrs.length (attrCells (ndOf o).attrs) ∧ RowRd w 1 (.slice ka (ndOf o).kids.length kc) (ndOf o).kids.length ((ndOf o).kids.map (Value.int .i64)) := by
  obtain ⟨ga, g, h⟩ := h.out
  obtain ⟨cap, cur, b1, b2, b3, b4, b5, b6⟩ := h.row
  obtain ⟨av, kv, r0, r1, r2, r3, r4, r5, r6, r7⟩ := (b6 j o hj).out
  obtain ⟨aa, ac, rfl, _⟩ := r6.len_of
  obtain ⟨ka, kc, rfl, _⟩ := r7.len_of
  have c : Cells ga w := fun q y hq => (h.told q y hq).1
  exact ⟨g, cap, aa, ac, ka, kc, cellOf b1 rfl, cellOf b4 r0, cellOf b4 r1, cellOf b4 r2, cellOf b4 r3, cellOf b4 r4, cellOf b4 r5, r6.cells c, r7.cells c⟩
section
variable {w : World} {rb : Nat} {T : Tr}
theorem nodes_some {id : Int} {nd : Nd} (hg : T.get? id = some nd) : ∃ i : Nat, id = (i : Int) ∧ T.nodes[i]? = some (some nd) ∧ i < T.nodes.length := by
  obtain ⟨i, rfl, hi⟩ := nat_of hg
  exact ⟨i, rfl, hi, (List.getElem?_eq_some_iff.1 hi).1⟩
theorem rHas_yes (h : RAt w rb T) {id : Int} {nd : Nd} (hg : T.get? id = some nd) : Calls Tryz.prog 91 #[.pointer (some ⟨rb, 0, none⟩), .int .i64 id] w (RSame (.bool true) w) := by
  obtain ⟨i, rfl, hi, hl⟩ := nodes_some hg
  obtain ⟨g, cap, aa, ac, ka, kc, c, c0, _⟩ := h.one hi
  clear hi hg
  have c0' : w.cell? ⟨g, i * 6, none⟩ = some (.int .i64 1) := c0
  clear c0
  go_enter Tryz.func91, Tryz.ntmps91
  go_wp2_with fail
  go_ret
  exact ⟨rfl, rfl⟩
theorem rHas_no (h : RAt w rb T) {id : Int} (hg : T.get? id = none) : Calls Tryz.prog 91 #[.pointer (some ⟨rb, 0, none⟩), .int .i64 id] w (RSame (.bool false) w) := by
  by_cases h0 : id < 0
  · clear hg
    go_enter Tryz.func91, Tryz.ntmps91
    go_wp2_with fail
    go_ret
    exact ⟨rfl, rfl⟩
  · obtain ⟨i, rfl⟩ := Int.eq_ofNat_of_zero_le (show 0 ≤ id by omega)
    by_cases hl : i < T.nodes.length
    · obtain ⟨o, ho⟩ : ∃ o, T.nodes[i]? = some o := ⟨T.nodes[i], by simp [hl]⟩
      have he : o = none := by rw [T.get_nat, ho] at hg; exact hg
      subst he
      obtain ⟨g, cap, aa, ac, ka, kc, c, c0, _⟩ := h.one ho
      have c0' : w.cell? ⟨g, i * 6, none⟩ = some (.int .i64 0) := c0
      clear c0 ho hg
      go_enter Tryz.func91, Tryz.ntmps91
      go_wp2_with fail
      go_ret
      exact ⟨rfl, rfl⟩
    · obtain ⟨g, cap, c, _⟩ := h.slice
      clear hg
      go_enter Tryz.func91, Tryz.ntmps91
      go_wp2_with fail
      go_ret
      exact ⟨rfl, rfl⟩
theorem rHas (h : RAt w rb T) (id : Int) : Calls Tryz.prog 91 #[.pointer (some ⟨rb, 0, none⟩), .int .i64 id] w (RSame (.bool (T.get? id).isSome) w) := by
  cases hg : T.get? id with
  | none => exact rHas_no h hg
  | some nd => exact rHas_yes h hg
theorem rCount (h : RAt w rb T) {d : Nat → Nat} (hw : WF T d) : Calls Tryz.prog 86 #[.pointer (some ⟨rb, 0, none⟩)] w (RSame (.int .i64 T.count) w) := by
  obtain ⟨g0, cap0, cs, _⟩ := h.slice
  have hlen := hw.small.len
  have HC := qh hw.count
  have H := qh h
  clear h hw
  go_enter Tryz.func86, Tryz.ntmps86
  go_wp2_with fail
  go_loopw [3, 4] (fun c i wr => ∃ k m : Nat, wr = w ∧ k ≤ T.nodes.length ∧ i = .int .i64 k ∧ c = .int .i64 m ∧ m ≤ 2000 ∧ Hid (m = (T.nodes.take k).countP Option.isSome)) (fun _ i _ => T.nodes.length - (intOf i).toNat)
  case atStart => exact ⟨0, 0, rfl, Nat.zero_le _, rfl, rfl, by omega, qh rfl⟩
  case round =>
    obtain ⟨k, m, rfl, hk, rfl, rfl, hm, he⟩ := hrel
    by_cases hlt : k < T.nodes.length
    · obtain ⟨o, ho⟩ : ∃ o, T.nodes[k]? = some o := ⟨T.nodes[k], by simp [hlt]⟩
      obtain ⟨g, cap, aa, ac, ka, kc, c, c0, _⟩ := H.out.one ho
      have hcnt := cnt_snoc T.nodes k o ho
      have hle := cnt_le T.nodes (k + 1)
      have hle2 : T.nodes.countP Option.isSome ≤ T.nodes.length := List.countP_le_length
      have e := he.out
      have HO := qh ho
      clear cs ho
      cases o with
      | none =>
        have c0' : wr.cell? ⟨g, k * 6, none⟩ = some (.int .i64 0) := c0
        have HN := qh (show m = (T.nodes.take (k + 1)).countP Option.isSome by rw [hcnt, ← e]; simp)
        clear c0 hcnt hle hle2 e
        go_wp2_with fail
        go_roundw
        case rel => exact ⟨k + 1, m, trivial, by omega, by go_num, by go_num, hm, HN⟩
        case measure => simp [intOf]; omega
      | some nd =>
        have c0' : wr.cell? ⟨g, k * 6, none⟩ = some (.int .i64 1) := c0
        have hm1 : m + 1 ≤ 2000 := by simp at hcnt; omega
        have HN := qh (show m + 1 = (T.nodes.take (k + 1)).countP Option.isSome by rw [hcnt, ← e]; simp)
        clear c0 hcnt hle hle2 e
        go_wp2_with fail
        go_roundw
        case rel => exact ⟨k + 1, m + 1, trivial, by omega, by go_num, by go_num, hm1, HN⟩
        case measure => simp [intOf]; omega
    · obtain rfl : k = T.nodes.length := by omega
      go_wp2_with fail
      go_ret
      refine ⟨?_, rfl⟩
      have e := he.out
      rw [List.take_length] at e
      rw [HC.out, ← e]
      rfl
theorem up_of {id : Int} {nd : Nd} (hg : T.get? id = some nd) : T.up id = nd.parent := Tr.up_some hg
theorem rDepth (h : RAt w rb T) {d : Nat → Nat} (hw : WF T d) {id : Int} {nd : Nd} (hg : T.get? id = some nd) : Calls Tryz.prog 117 #[.pointer (some ⟨rb, 0, none⟩), .int .i64 id] w (RSame (.int .i64 ((T.pathOf id).length : Int)) w) := by
  have H := qh h
  have HG := qh hg
  have hl41 := hw.path_41 id
  obtain ⟨m, hm⟩ : ∃ m, (T.pathOf id).length = m := ⟨_, rfl⟩
  rw [hm] at hl41 ⊢
  have HM := qh hm
  clear h hg hm
  go_enter Tryz.func117, Tryz.ntmps117
  go_wp2_with (go_at_call 91; refine (rHas_yes H.out HG.out).mono ?_; rintro e w' ⟨rfl, rfl⟩)
  go_loopw [1, 5] (fun s n wr => ∃ (x : Int) (k : Nat), wr = w ∧ s = .int .i64 x ∧ n = .int .i64 k ∧ k ≤ m ∧ Hid ((∃ xd, T.get? x = some xd) ∧ k + (T.pathOf x).length = m)) (fun s _ _ => T.rank d (intOf s))
  case atStart => exact ⟨id, 0, rfl, rfl, rfl, Nat.zero_le _, qh ⟨⟨nd, HG.out⟩, by rw [HM.out]; omega⟩⟩
  case round =>
    obtain ⟨x, k, rfl, rfl, rfl, hk, hr⟩ := hrel
    obtain ⟨⟨xd, hx⟩, hpl⟩ := hr.out
    obtain ⟨i, rfl, hi, hl⟩ := nodes_some hx
    obtain ⟨g, cap, aa, ac, ka, kc, c, c0, c1, c2, _⟩ := H.out.one hi
    replace c2 : wr.cell? ⟨g, i * 6 + 2, none⟩ = some (.int .i64 xd.parent) := c2
    have hst := hw.path_step (i : Int)
    have hup := up_of hx
    by_cases hu : 0 ≤ xd.parent
    · rw [hup, if_pos hu] at hst
      obtain ⟨ud, hud⟩ := hw.up_get (id := (i : Int)) (by rw [hup]; exact hu)
      have hrk := hw.rank_up (id := (i : Int)) (by rw [hup]; exact hu)
      rw [hup] at hud hrk
      have hpl2 : k + 1 + (T.pathOf xd.parent).length = m := by rw [hst] at hpl; simp at hpl; omega
      have HUD := qh hud
      have HRK := qh hrk
      have HPL := qh hpl2
      have hk1 : k + 1 ≤ m := by omega
      clear hst hup hx hpl hi c0 c1 hud hrk hpl2
      go_wp2_with fail
      go_roundw
      case rel => exact ⟨xd.parent, k + 1, trivial, rfl, by go_num, by omega, qh ⟨⟨ud, HUD.out⟩, HPL.out⟩⟩
      case measure => have := HRK.out; simp [intOf]; omega
    · rw [hup, if_neg hu] at hst
      have hkm : k = m := by rw [hst] at hpl; simpa using hpl
      subst hkm
      clear hst hup hx hpl hi c0 c1
      go_wp2_with fail
      go_ret
      exact ⟨rfl, rfl⟩
theorem rWithin (h : RAt w rb T) {d : Nat → Nat} (hw : WF T d) {id o : Int} {nd : Nd} (hg : T.get? id = some nd) : Calls Tryz.prog 134 #[.pointer (some ⟨rb, 0, none⟩), .int .i64 id, .int .i64 o] w (RSame (.bool (T.win id o)) w) := by
  have H := qh h
  have HG := qh hg
  obtain ⟨z, hz⟩ : ∃ z, T.win id o = z := ⟨_, rfl⟩
  rw [hz]
  have HZ := qh hz
  clear h hg hz
  go_enter Tryz.func134, Tryz.ntmps134
  go_wp2_with fail
  go_loopw [1] (fun s wr => ∃ x : Int, wr = w ∧ s = .int .i64 x ∧ Hid ((x < 0 ∨ ∃ xd, T.get? x = some xd) ∧ T.win x o = z)) (fun s _ => T.rank d (intOf s))
  case atStart => exact ⟨id, rfl, rfl, qh ⟨.inr ⟨nd, HG.out⟩, HZ.out⟩⟩
  case round =>
    obtain ⟨x, rfl, rfl, hr⟩ := hrel
    obtain ⟨hx, hwz⟩ := hr.out
    by_cases h0 : x < 0
    · have hz0 : z = false := by rw [← hwz]; exact hw.win_none (Tr.get_neg T h0)
      subst hz0
      clear hx hwz
      go_wp2_with fail
      go_ret
      exact ⟨rfl, rfl⟩
    · obtain ⟨xd, hx⟩ := hx.resolve_left h0
      obtain ⟨i, rfl, hi, hl⟩ := nodes_some hx
      obtain ⟨g, cap, aa, ac, ka, kc, c, c0, c1, c2, _⟩ := H.out.one hi
      replace c2 : wr.cell? ⟨g, i * 6 + 2, none⟩ = some (.int .i64 xd.parent) := c2
      have hst := hw.win_step (outer := o) hx
      have hup := up_of hx
      have hrk := hw.rank_step hx
      rw [hup] at hst hrk
      have hug : xd.parent < 0 ∨ ∃ ud, T.get? xd.parent = some ud := by
        by_cases hu : 0 ≤ xd.parent
        · obtain ⟨ud, hud⟩ := hw.up_get (id := (i : Int)) (by rw [hup]; exact hu)
          rw [hup] at hud
          exact .inr ⟨ud, hud⟩
        · exact .inl (by omega)
      have HUG := qh hug
      have HRK := qh hrk
      have HWZ := qh hwz
      have HS := qh hst
      clear hst hup hx hwz hi c0 c1 hug hrk h0
      cases hio : ((i : Int) == o) with
      | true =>
        have hz1 : z = true := by
          rw [← HWZ.out, HS.out]
          have : (i : Int) = o := by simpa using hio
          rw [decide_eq_true this]; rfl
        subst hz1
        go_wp2_with fail
        go_ret
        exact ⟨rfl, rfl⟩
      | false =>
        have HNE := qh (show ¬ (i : Int) = o by simpa using hio)
        go_wp2_with fail
        go_roundw
        case rel => exact ⟨xd.parent, trivial, rfl, qh ⟨HUG.out, by rw [← HWZ.out, HS.out, decide_eq_false HNE.out]; rfl⟩⟩
        case measure => have := HRK.out; simp [intOf]; omega
theorem rHeight (h : RAt w rb T) {d : Nat → Nat} (hw : WF T d) : ∀ id : Int, ∀ nd, T.get? id = some nd → Calls Tryz.prog 119 #[.pointer (some ⟨rb, 0, none⟩), .int .i64 id] w (RSame (.int .i64 (T.height id)) w) := by
  refine hw.rise _ fun id ih nd hg => ?_
  have HAS := qh (rHas_yes h hg)
  have hk : T.kidsOf id = nd.kids := by unfold Tr.kidsOf; rw [hg]
  rw [hk] at ih
  obtain ⟨i, rfl, hi, hl⟩ := nodes_some hg
  obtain ⟨g, cap, aa, ac, ka, kc, c, c0, c1, c2, c3, c4, c5, _, hrk⟩ := h.one hi
  replace c5 : w.cell? ⟨g, i * 6 + 5, none⟩ = some (.slice ka nd.kids.length kc) := c5
  replace hrk : RowRd w 1 (.slice ka nd.kids.length kc) nd.kids.length (nd.kids.map (Value.int .i64)) := hrk
  obtain ⟨_, _, _, e, hkc, hkn, hkr⟩ := hrk
  cases e
  have hkl := hw.kids_len hi
  have HKN := qh hkn
  have HKR := qh hkr
  have IH := qh ih
  have HW := qh hw
  have HI := qh hi
  have HV := qh (hw.height_eq hi)
  clear hkn hkr ih hw hi hg hk h c0 c1 c2 c3 c4
  go_enter Tryz.func119, Tryz.ntmps119
  go_wp2_with (go_at_call 91; refine HAS.out.mono ?_; rintro e w' ⟨rfl, rfl⟩)
  go_loopw [5, 6] (fun v n wr => ∃ (k : Nat) (z : Int), wr = w ∧ k ≤ nd.kids.length ∧ n = .int .i64 k ∧ v = .int .i64 z ∧ 0 ≤ z ∧ z ≤ 200 ∧ Hid (z = (nd.kids.take k).foldl (fun h k => max h (T.height k + 1)) 0)) (fun _ n _ => nd.kids.length - (intOf n).toNat)
  case atStart => exact ⟨0, 0, rfl, Nat.zero_le _, rfl, rfl, by omega, by omega, qh (by simp)⟩
  case round =>
    obtain ⟨k, z, rfl, hk, rfl, rfl, z0, z1, hz⟩ := hrel
    by_cases hlt : k < nd.kids.length
    · obtain ⟨x, hx⟩ : ∃ x, nd.kids[k]? = some x := ⟨nd.kids[k], by simp [hlt]⟩
      cases ka with
      | none => exact absurd (HKN.out rfl).1 (by omega)
      | some a =>
        obtain ⟨b, off, sp⟩ := a
        have cx := HKR.out _ rfl k (.int .i64 x) (by rw [List.getElem?_map, hx]; rfl)
        obtain ⟨j, kd, h3, h4, h5, h6⟩ := HW.out.kid HI.out hx
        obtain ⟨hh, hhe⟩ : ∃ hh, T.height x = hh := ⟨_, rfl⟩
        have hb := T.hgt_le 50 x
        have hb2 : -1 ≤ hh ∧ hh ≤ 50 := by rw [← hhe]; exact hb
        have HX := qh hx
        have REC := qh (show Calls Tryz.prog 119 #[.pointer (some ⟨rb, 0, none⟩), .int .i64 x] wr (RSame (.int .i64 hh) wr) from hhe ▸ IH.out x (List.mem_of_getElem? hx) kd (by rw [h3]; exact Tr.get_of h4))
        have HHE := qh hhe
        clear hx h3 h4 h5 h6 hb hhe
        go_wp2_with (go_at_call 119; refine REC.out.mono ?_; rintro e w' ⟨rfl, rfl⟩)
        all_goals
          go_roundw
          case rel => exact ⟨k + 1, _, trivial, by omega, by go_num, rfl, by omega, by omega, qh (by rw [fold_snoc _ _ _ _ HX.out, ← hz.out, HHE.out]; omega)⟩
          case measure => simp [intOf]; omega
    · obtain rfl : k = nd.kids.length := by omega
      go_wp2_with fail
      go_ret
      refine ⟨?_, rfl⟩
      have e := hz.out
      rw [List.take_length] at e
      rw [HV.out, ← e]; rfl
theorem rIndex_no (h : RAt w rb T) {id : Int} (hg : T.get? id = none) : Calls Tryz.prog 90 #[.pointer (some ⟨rb, 0, none⟩), .int .i64 id] w (RVal (.int .i64 (-1)) w) := by
  have H := qh (rHas_no h hg)
  clear hg h
  go_enter Tryz.func90, Tryz.ntmps90
  go_wp2_with (go_at_call 91; refine H.out.mono ?_; rintro e w' ⟨rfl, rfl⟩)
  go_ret
  exact ⟨rfl, Ext.refl _⟩
theorem rIndex_root (h : RAt w rb T) {id : Int} {nd : Nd} (hg : T.get? id = some nd) (hp : nd.parent < 0) : Calls Tryz.prog 90 #[.pointer (some ⟨rb, 0, none⟩), .int .i64 id] w (RVal (.int .i64 (-1)) w) := by
  have HAS := qh (rHas_yes h hg)
  obtain ⟨i, rfl, hi, hl⟩ := nodes_some hg
  obtain ⟨g, cap, aa, ac, ka, kc, c, c0, c1, c2, _⟩ := h.one hi
  replace c2 : w.cell? ⟨g, i * 6 + 2, none⟩ = some (.int .i64 nd.parent) := c2
  clear hg h hi c0 c1
  go_enter Tryz.func90, Tryz.ntmps90
  go_wp2_with (go_at_call 91; refine HAS.out.mono ?_; rintro e w' ⟨rfl, rfl⟩)
  go_ret
  exact ⟨rfl, Ext.refl _⟩
theorem rIndex_kid (h : RAt w rb T) {d : Nat → Nat} (hw : WF T d) {i p : Nat} {nd pd : Nd} (hi : T.nodes[i]? = some (some nd)) (hpar : nd.parent = (p : Int)) (hp : T.nodes[p]? = some (some pd)) {j : Nat} (hj : posOf pd.kids (i : Int) = (j : Int)) (hjk : pd.kids[j]? = some (i : Int)) (hno : (i : Int) ∉ pd.kids.take j) : Calls Tryz.prog 90 #[.pointer (some ⟨rb, 0, none⟩), .int .i64 i] w (RVal (.int .i64 j) w) := by
  have HAS := qh (rHas_yes h (Tr.get_of hi))
  obtain ⟨g, cap, aa, ac, ka, kc, c, c0, c1, c2, _⟩ := h.one hi
  obtain ⟨g', cap', aa', ac', ka', kc', c', d0, d1, d2, d3, d4, d5, _, hrk⟩ := h.one hp
  rw [c] at c'
  cases c'
  replace c2 : w.cell? ⟨g, i * 6 + 2, none⟩ = some (.int .i64 p) := by rw [← hpar]; exact c2
  replace d5 : w.cell? ⟨g, p * 6 + 5, none⟩ = some (.slice ka' pd.kids.length kc') := d5
  replace hrk : RowRd w 1 (.slice ka' pd.kids.length kc') pd.kids.length (pd.kids.map (Value.int .i64)) := hrk
  obtain ⟨_, _, _, e, hkc, hkn, hkr⟩ := hrk
  cases e
  have hkl := hw.kids_len hp
  have hil := (List.getElem?_eq_some_iff.1 hi).1
  have hpl := (List.getElem?_eq_some_iff.1 hp).1
  have hjl := (List.getElem?_eq_some_iff.1 hjk).1
  have HKN := qh hkn
  have HKR := qh hkr
  have HJK := qh hjk
  have HNO := qh hno
  clear hkn hkr hw hi hp hpar hj hjk hno h c0 c1 d0 d1 d2 d3 d4
  go_enter Tryz.func90, Tryz.ntmps90
  go_upto_region 3 with (go_at_call 91; refine HAS.out.mono ?_; rintro e w' ⟨rfl, rfl⟩)
  have e0 := fun u : ExtOf w => u.ext.cell c
  have e1 := fun u : ExtOf w => u.ext.cell c2
  have e2 := fun u : ExtOf w => u.ext.cell d5
  refine wp_region_ext (by kernel_rfl) (by kernel_rfl) ?_
  repeat (go_big_quiet_step (fail))
  refine wpQuiet_nil ?_
  rintro _ ⟨u, rfl⟩
  clear e0 e1 e2
  have HU := qh u.ext
  go_wp2_with fail
  go_loopw [6] (fun n wr => ∃ k : Nat, wr = u.val ∧ k ≤ j ∧ n = .int .i64 k) (fun n _ => pd.kids.length - (intOf n).toNat)
  case atStart => exact ⟨0, rfl, Nat.zero_le _, rfl⟩
  case round =>
    obtain ⟨k, rfl, hk, rfl⟩ := hrel
    obtain ⟨x, hx⟩ : ∃ x, pd.kids[k]? = some x := ⟨pd.kids[k], by simp [show k < pd.kids.length by omega]⟩
    cases ka' with
    | none => exact absurd (HKN.out rfl).1 (by omega)
    | some a =>
      obtain ⟨b, off, sp⟩ := a
      have cx := HU.out.cells _ _ (HKR.out _ rfl k (.int .i64 x) (by rw [List.getElem?_map, hx]; rfl))
      have hkl2 : k < pd.kids.length := by omega
      by_cases hkj : k = j
      · subst hkj
        have hxi : x = (i : Int) := by have := HJK.out; rw [hx] at this; injection this
        subst hxi
        clear hx
        go_wp2_with fail
        go_ret
        exact ⟨rfl, HU.out⟩
      · have hxi : (x == (i : Int)) = false := by
          have : x ≠ (i : Int) := fun e => HNO.out (by
            subst e
            exact List.mem_of_getElem? (i := k) (by rw [List.getElem?_take_of_lt (by omega)]; exact hx))
          simpa using this
        clear hx
        go_wp2_with fail
        go_roundw
        case rel => exact ⟨k + 1, trivial, by omega, by go_num⟩
        case measure => simp [intOf]; omega
theorem posOf_first {l : List Int} {x : Int} (h : x ∈ l) : ∃ j : Nat, posOf l x = (j : Int) ∧ l[j]? = some x ∧ x ∉ l.take j := by
  obtain ⟨k1, k2, k3⟩ := posOf_mem h
  refine ⟨_, k1, by rw [List.getElem?_eq_getElem k2]; simp, fun hm => ?_⟩
  obtain ⟨n, hn⟩ := List.getElem?_of_mem hm
  have hlt := (List.getElem?_eq_some_iff.1 hn).1
  simp at hlt
  rw [List.getElem?_take_of_lt (by omega)] at hn
  obtain ⟨hn1, hn2⟩ := List.getElem?_eq_some_iff.1 hn
  have h2 : l.idxOf x ≤ n := by
    have := List.idxOf_lt_length_iff.2 h
    rcases Nat.lt_or_ge n (l.idxOf x) with h3 | h3
    · have h4 := List.not_of_lt_findIdx (p := fun y => y == x) (xs := l) (i := n) h3
      simp at h4
      exact absurd hn2 h4
    · exact h3
  omega
theorem rIndex (h : RAt w rb T) {d : Nat → Nat} (hw : WF T d) (id : Int) : Calls Tryz.prog 90 #[.pointer (some ⟨rb, 0, none⟩), .int .i64 id] w (RVal (.int .i64 (T.idx id)) w) := by
  unfold Tr.idx
  cases hg : T.get? id with
  | none => exact rIndex_no h hg
  | some nd =>
    obtain ⟨i, rfl, hi⟩ := nat_of hg
    rcases hw.up i nd hi with ⟨h1, _⟩ | ⟨p, pd, h1, h2, _, h4⟩
    · simp only [h1, Tr.get_neg T (show (-1 : Int) < 0 by omega)]
      exact rIndex_root h hg (by omega)
    · simp only [h1, Tr.get_of h2]
      obtain ⟨j, j1, j2, j3⟩ := posOf_first h4
      rw [j1]
      exact rIndex_kid h hw hi h1 h2 j1 j2 j3
end
def joinG (ga w : World) (lo g : Nat) : World := { w with heap := w.heap.mapIdx fun b x => if lo ≤ b ∧ b ≠ g then x else (ga.heap[b]?).getD (.cells #[] 0 (0, 0)) }
theorem joinG_get (ga w : World) (lo g b : Nat) : (joinG ga w lo g).heap[b]? = (w.heap[b]?).map fun x => if lo ≤ b ∧ b ≠ g then x else (ga.heap[b]?).getD (.cells #[] 0 (0, 0)) := by
  show (w.heap.mapIdx _)[b]? = _
  rw [Array.getElem?_mapIdx]
theorem joinG_new {ga w : World} {lo g b : Nat} (h1 : lo ≤ b) (h2 : b ≠ g) : (joinG ga w lo g).heap[b]? = w.heap[b]? := by
  rw [joinG_get]
  cases w.heap[b]? with
  | none => rfl
  | some x => simp [h1, h2]
theorem joinG_old {ga w : World} {lo g b : Nat} (h : b < lo ∨ b = g) (hs : b < w.heap.size) {o : Obj} (ho : ga.heap[b]? = some o) : (joinG ga w lo g).heap[b]? = some o := by
  rw [joinG_get]
  have hn : ¬ (lo ≤ b ∧ b ≠ g) := by rintro ⟨h1, h2⟩; rcases h with h | h; omega; exact h2 h
  simp [hs, hn, ho]
theorem joinG_of {ga w : World} {lo g : Nat} {q : Addr} {y : Value} (h : (joinG ga w lo g).cell? q = some y) : ga.cell? q = some y ∨ (lo ≤ q.block ∧ q.block ≠ g ∧ w.cell? q = some y) := by
  by_cases hq : lo ≤ q.block ∧ q.block ≠ g
  · exact .inr ⟨hq.1, hq.2, by rw [← h]; exact (World.cell?_of_block (joinG_new hq.1 hq.2)).symm⟩
  · left
    have hg := joinG_get ga w lo g q.block
    have hl := World.block_lt_of_cell? _ _ h
    cases hw : w.heap[q.block]? with
    | none => rw [hw] at hg; simp [World.cell?, hg] at h
    | some x =>
      rw [hw] at hg
      simp [hq] at hg
      cases hga : ga.heap[q.block]? with
      | none => rw [hga] at hg; simp [World.cell?, hg] at h
      | some o =>
        rw [hga] at hg
        rw [← h]
        exact World.cell?_of_block (by rw [hga, hg]; rfl)
theorem joinG_keeps {ga w' : World} {lo g : Nat} (h : ∀ q y, ga.cell? q = some y → w'.cell? q = some y ∧ (q.block < lo ∨ q.block = g)) : Cells ga (joinG ga w' lo g) := by
  intro q y hq
  obtain ⟨h1, h2⟩ := h q y hq
  have hl := World.block_lt_of_cell? _ _ h1
  have hl2 := World.block_lt_of_cell? _ _ hq
  rw [← hq]
  obtain ⟨o, ho⟩ : ∃ o, ga.heap[q.block]? = some o := ⟨ga.heap[q.block], by simp [hl2]⟩
  exact World.cell?_of_block ((joinG_old h2 hl ho).trans ho.symm)
theorem RecAt.keep {ga ga' : World} {cur cur' : Array Value} {j : Nat} {o : Option Nd} (h : RecAt ga cur j o) (hc : Cells ga ga') (he : ∀ i, i < 6 → cur'[j * 6 + i]? = cur[j * 6 + i]?) : RecAt ga' cur' j o := by
  obtain ⟨av, kv, r0, r1, r2, r3, r4, r5, r6, r7⟩ := h.out
  exact ⟨av, kv, (he 0 (by decide)).trans r0, (he 1 (by decide)).trans r1, (he 2 (by decide)).trans r2, (he 3 (by decide)).trans r3, (he 4 (by decide)).trans r4, (he 5 (by decide)).trans r5, r6.cells hc, r7.cells hc⟩
structure RefOn (w : World) (F : Nat → Prop) (rb : Nat) (T : Tr) : Prop where
  out : ∃ ga g, RefAt w ga rb g T ∧ F rb ∧ F g ∧ ∀ q y, ga.cell? q = some y → F q.block
theorem RefOn.at {w : World} {F : Nat → Prop} {rb : Nat} {T : Tr} (h : RefOn w F rb T) : RAt w rb T := by
  obtain ⟨ga, g, h, _⟩ := h.out
  exact ⟨ga, g, h⟩
theorem RefOn.wide {w : World} {F F' : Nat → Prop} {rb : Nat} {T : Tr} (h : RefOn w F rb T) (k : ∀ b, F b → F' b) : RefOn w F' rb T := by
  obtain ⟨ga, g, h, h1, h2, h3⟩ := h.out
  exact ⟨ga, g, h, k _ h1, k _ h2, fun q y hq => k _ (h3 q y hq)⟩
theorem RefOn.keep {w w' : World} {F : Nat → Prop} {rb : Nat} {T : Tr} (h : RefOn w F rb T) (k : ∀ b, F b → b < w.heap.size → w'.heap[b]? = w.heap[b]?) : RefOn w' F rb T := by
  obtain ⟨ga, g, h, h1, h2, h3⟩ := h.out
  obtain ⟨cap, cur, b1, b2, b3, b4, b5, b6⟩ := h.row
  exact ⟨ga, g, h.keep (k rb h1 (Array.getElem?_eq_some_iff.1 b1).1) (k g h2 (Array.getElem?_eq_some_iff.1 b4).1) fun q y hq => by
    have hw := (h.told q y hq).1
    exact (World.cell?_of_block (k q.block (h3 q y hq) (World.block_lt_of_cell? _ _ hw))).trans hw, h1, h2, h3⟩
theorem RefOn.ext {w w' : World} {F : Nat → Prop} {rb : Nat} {T : Tr} (h : RefOn w F rb T) (x : Ext w w') : RefOn w' F rb T := h.keep fun b _ hb => Below.block x b hb
structure RAft (F : Nat → Prop) (w : World) (rb : Nat) (T : Tr) (w' : World) : Prop where
  on : RefOn w' (fun b => F b ∨ w.heap.size ≤ b) rb T
  chg : Chg F w w'
theorem RAft.refl {F : Nat → Prop} {w : World} {rb : Nat} {T : Tr} (h : RefOn w F rb T) : RAft F w rb T w := ⟨h.wide fun b hb => .inl hb, Chg.refl _ _⟩
theorem Chg.thru {F : Nat → Prop} {a b c : World} (h : Chg F a b) (k : Chg (fun x => F x ∨ a.heap.size ≤ x) b c) : Chg F a c :=
  ⟨k.os.trans h.os, k.tape.trans h.tape, k.output.trans h.output, Nat.le_trans h.size k.size, fun x hx hn => (k.rest x (Nat.lt_of_lt_of_le hx h.size) (fun hf => by rcases hf with hf | hf; exact hn hf; omega)).trans (h.rest x hx hn)⟩
theorem RAft.trans {F : Nat → Prop} {a b c : World} {rb : Nat} {T T' : Tr} (h : RAft F a rb T b) (k : RAft (fun x => F x ∨ a.heap.size ≤ x) b rb T' c) : RAft F a rb T' c :=
  ⟨k.on.wide fun x hx => by rcases hx with hx | hx; exact hx; exact .inr (Nat.le_trans h.chg.size hx), h.chg.thru k.chg⟩
theorem RAft.ext {F : Nat → Prop} {a b c : World} {rb : Nat} {T : Tr} (h : RAft F a rb T b) (x : Ext b c) : RAft F a rb T c := ⟨h.on.ext x, h.chg.trans (Chg.ext x)⟩
theorem RAft.after {F : Nat → Prop} {a b c : World} {rb : Nat} {T : Tr} (x : Ext a b) (h : RAft F b rb T c) : RAft F a rb T c :=
  ⟨h.on.wide fun y hy => by rcases hy with hy | hy; exact .inl hy; exact .inr (Nat.le_trans x.size hy), (Chg.ext x).trans h.chg⟩
theorem RefAt.aft {w ga : World} {rb g : Nat} {T : Tr} {F : Nat → Prop} (h : RefAt w ga rb g T) (h1 : F rb) (h2 : F g) (h3 : ∀ q y, ga.cell? q = some y → F q.block) {w' : World} {T' : Tr} {j : Nat} {o o' : Option Nd}
    (hc : Chg (fun b => b = g) w w') (t1 : T'.cap = T.cap) (t2 : T'.deep = T.deep) (t3 : T'.nodes = T.nodes.set j o') (hj : T.nodes[j]? = some o)
    (hcur : ∀ cur cap, w.heap[g]? = some (.cells cur 121 (0, 0)) → cur.size = cap * 6 → j < cap → ∃ cur', w'.heap[g]? = some (.cells cur' 121 (0, 0)) ∧ cur'.size = cur.size ∧ (∀ i, ¬ (j * 6 ≤ i ∧ i < j * 6 + 6) → cur'[i]? = cur[i]?) ∧
      (Cells ga (joinG ga w' w.heap.size g) → RecAt ga cur j o → RecAt (joinG ga w' w.heap.size g) cur' j o')) : RAft F w rb T' w' := by
  obtain ⟨cap, cur, b1, b2, b3, b4, b5, b6⟩ := h.row
  have hjl := (List.getElem?_eq_some_iff.1 hj).1
  obtain ⟨cur', c1, c2, c3, c4⟩ := hcur cur cap b4 b5 (by omega)
  have hrl := (Array.getElem?_eq_some_iff.1 b1).1
  have hgl := (Array.getElem?_eq_some_iff.1 b4).1
  have hga : ∀ q y, ga.cell? q = some y → w'.cell? q = some y ∧ (q.block < w.heap.size ∨ q.block = g) := fun q y hq => by
    obtain ⟨e1, e2, e3⟩ := h.told q y hq
    exact ⟨hc.cell e1 e3, .inl (World.block_lt_of_cell? _ _ e1)⟩
  have hcells := joinG_keeps hga
  have hlen : T'.nodes.length = T.nodes.length := by rw [t3]; simp
  refine ⟨⟨joinG ga w' w.heap.size g, g, ⟨h.ne, ⟨cap, cur', ?_, by omega, b3, c1, by omega, fun i x hi => ?_⟩, fun q y hq => ?_⟩, .inl h1, .inl h2, fun q y hq => ?_⟩, hc.wide fun b hb => hb ▸ h2⟩
  · rw [t1, t2, hlen]; exact hc.block b1 (fun e => h.ne e)
  · rw [t3] at hi
    by_cases e : i = j
    · subst e
      rw [List.getElem?_set_self hjl] at hi
      cases hi
      exact c4 hcells (b6 _ _ hj)
    · rw [List.getElem?_set_ne (Ne.symm e)] at hi
      exact (b6 i x hi).keep hcells fun m hm => c3 _ (by omega)
  · rcases joinG_of hq with hq | ⟨q1, q2, q3⟩
    · exact ⟨(hga q y hq).1, (h.told q y hq).2⟩
    · exact ⟨q3, by omega, q2⟩
  · rcases joinG_of hq with hq | ⟨q1, q2, q3⟩
    · exact .inl (h3 q y hq)
    · exact .inr q1
def recVals (tag up : Int) (av : Value) (text : ByteArray) (kv : Value) : List Value := [.int .i64 1, .int .i64 tag, .int .i64 up, av, .string text, kv]
theorem RefAt.more {w ga : World} {rb g : Nat} {T : Tr} {F : Nat → Prop} (h : RefAt w ga rb g T) (h1 : F rb) (h2 : F g) (h3 : ∀ q y, ga.cell? q = some y → F q.block) {w' : World} {T' : Tr} {nd : Nd}
    (hc : Chg (fun b => b = rb ∨ b = g) w w') (t1 : T'.cap = T.cap) (t2 : T'.deep = T.deep) (t3 : T'.nodes = T.nodes ++ [some nd]) {g' cap' : Nat} {cur' : Array Value}
    (k1 : w'.heap[rb]? = some (.cells #[.int .i64 T.cap, .int .i64 T.deep, .slice (some ⟨g', 0, none⟩) (T.nodes.length + 1) cap'] 124 (0, 0)))
    (k2 : w'.heap[g']? = some (.cells cur' 121 (0, 0))) (k3 : T.nodes.length + 1 ≤ cap') (k4 : cap' ≤ maxLen) (k5 : cur'.size = cap' * 6) (k6 : g' = g ∨ w.heap.size ≤ g')
    {av kv : Value} (k7 : ∀ cur, w.heap[g]? = some (.cells cur 121 (0, 0)) → cur'.toList.take ((T.nodes.length + 1) * 6) = cur.toList.take (T.nodes.length * 6) ++ recVals nd.tag nd.parent av nd.text kv)
    (k8 : Cells ga (joinG ga w' w.heap.size g') → RowRd (joinG ga w' w.heap.size g') 2 av nd.attrs.length (attrCells nd.attrs) ∧ RowRd (joinG ga w' w.heap.size g') 1 kv nd.kids.length (nd.kids.map (Value.int .i64))) : RAft F w rb T' w' := by
  obtain ⟨cap, cur, b1, b2, b3, b4, b5, b6⟩ := h.row
  have hrl := (Array.getElem?_eq_some_iff.1 b1).1
  have hgl := (Array.getElem?_eq_some_iff.1 b4).1
  have hne : rb ≠ g' := by rcases k6 with e | e; rw [e]; exact h.ne; omega
  have hga : ∀ q y, ga.cell? q = some y → w'.cell? q = some y ∧ (q.block < w.heap.size ∨ q.block = g') := fun q y hq => by
    obtain ⟨e1, e2, e3⟩ := h.told q y hq
    exact ⟨hc.cell e1 (fun e => by rcases e with e | e; exact e2 e; exact e3 e), .inl (World.block_lt_of_cell? _ _ e1)⟩
  have hcells := joinG_keeps hga
  have hlen : T'.nodes.length = T.nodes.length + 1 := by rw [t3]; simp
  obtain ⟨r1, r2⟩ := k8 hcells
  have hk := k7 cur b4
  have hold : ∀ i, i < T.nodes.length * 6 → cur'[i]? = cur[i]? := fun i hi => by
    have e := congrArg (·[i]?) hk
    simp only [List.getElem?_take_of_lt (show i < (T.nodes.length + 1) * 6 by omega)] at e
    rw [List.getElem?_append_left (by simp; omega), List.getElem?_take_of_lt hi] at e
    simpa using e
  have hnew : ∀ i, i < 6 → cur'[T.nodes.length * 6 + i]? = (recVals nd.tag nd.parent av nd.text kv)[i]? := fun i hi => by
    have e := congrArg (·[T.nodes.length * 6 + i]?) hk
    simp only [List.getElem?_take_of_lt (show T.nodes.length * 6 + i < (T.nodes.length + 1) * 6 by omega)] at e
    have hl : (cur.toList.take (T.nodes.length * 6)).length = T.nodes.length * 6 := by simp; omega
    rw [List.getElem?_append_right (by omega), hl, Nat.add_sub_cancel_left] at e
    simpa using e
  refine ⟨⟨joinG ga w' w.heap.size g', g', ⟨hne, ⟨cap', cur', ?_, by omega, k4, k2, k5, fun i x hi => ?_⟩, fun q y hq => ?_⟩, .inl h1, ?_, fun q y hq => ?_⟩, hc.wide fun b hb => by rcases hb with hb | hb; exact hb ▸ h1; exact hb ▸ h2⟩
  · rw [t1, t2, hlen]; exact k1
  · rw [t3] at hi
    by_cases e : i < T.nodes.length
    · rw [List.getElem?_append_left e] at hi
      exact (b6 i x hi).keep hcells fun m hm => hold _ (by omega)
    · have hil : i < T'.nodes.length := by rw [t3]; exact (List.getElem?_eq_some_iff.1 hi).1
      obtain rfl : i = T.nodes.length := by omega
      simp at hi
      subst hi
      exact ⟨av, kv, hnew 0 (by decide), hnew 1 (by decide), hnew 2 (by decide), hnew 3 (by decide), hnew 4 (by decide), hnew 5 (by decide), r1, r2⟩
  · rcases joinG_of hq with hq | ⟨q1, q2, q3⟩
    · refine ⟨(hga q y hq).1, (h.told q y hq).2.1, fun e => ?_⟩
      obtain ⟨e1, e2, e3⟩ := h.told q y hq
      have := World.block_lt_of_cell? _ _ e1
      rcases k6 with k6 | k6
      · exact e3 (e.trans k6)
      · omega
    · exact ⟨q3, by omega, q2⟩
  · rcases k6 with k6 | k6
    · exact .inl (k6 ▸ h2)
    · exact .inr k6
  · rcases joinG_of hq with hq | ⟨q1, q2, q3⟩
    · exact .inl (h3 q y hq)
    · exact .inr q1
def put6 (w : World) (b o : Nat) (z0 z1 z2 z3 z4 z5 : Value) : World := (((((w.setCell ⟨b, o, none⟩ z0).setCell ⟨b, o + 1, none⟩ z1).setCell ⟨b, o + 2, none⟩ z2).setCell ⟨b, o + 3, none⟩ z3).setCell ⟨b, o + 4, none⟩ z4).setCell ⟨b, o + 5, none⟩ z5
def set6 (cs : Array Value) (o : Nat) (z0 z1 z2 z3 z4 z5 : Value) : Array Value := (((((cs.setIfInBounds o z0).setIfInBounds (o + 1) z1).setIfInBounds (o + 2) z2).setIfInBounds (o + 3) z3).setIfInBounds (o + 4) z4).setIfInBounds (o + 5) z5
theorem put6_same {w : World} {b o : Nat} {cs : Array Value} {t : TypeId} {fr : Nat × Nat} (h : w.heap[b]? = some (.cells cs t fr)) (z0 z1 z2 z3 z4 z5 : Value) : (put6 w b o z0 z1 z2 z3 z4 z5).heap[b]? = some (.cells (set6 cs o z0 z1 z2 z3 z4 z5) t fr) :=
  heap_setCell_same (heap_setCell_same (heap_setCell_same (heap_setCell_same (heap_setCell_same (heap_setCell_same h _) _) _) _) _) _
theorem put6_chg {F : Nat → Prop} {a b : World} (h : Chg F a b) {x : Nat} (hx : x < a.heap.size → F x) (o : Nat) (z0 z1 z2 z3 z4 z5 : Value) : Chg F a (put6 b x o z0 z1 z2 z3 z4 z5) :=
  (((((h.set (p := ⟨x, o, none⟩) hx _).set (p := ⟨x, o + 1, none⟩) hx _).set (p := ⟨x, o + 2, none⟩) hx _).set (p := ⟨x, o + 3, none⟩) hx _).set (p := ⟨x, o + 4, none⟩) hx _).set (p := ⟨x, o + 5, none⟩) hx _
theorem set6_size (cs : Array Value) (o : Nat) (z0 z1 z2 z3 z4 z5 : Value) : (set6 cs o z0 z1 z2 z3 z4 z5).size = cs.size := by simp [set6]
theorem set6_other {cs : Array Value} {o i : Nat} (h : ¬ (o ≤ i ∧ i < o + 6)) (z0 z1 z2 z3 z4 z5 : Value) : (set6 cs o z0 z1 z2 z3 z4 z5)[i]? = cs[i]? := by
  unfold set6
  simp only [Array.getElem?_setIfInBounds]
  have e0 : o ≠ i := by omega
  have e1 : o + 1 ≠ i := by omega
  have e2 : o + 2 ≠ i := by omega
  have e3 : o + 3 ≠ i := by omega
  have e4 : o + 4 ≠ i := by omega
  have e5 : o + 5 ≠ i := by omega
  simp [e0, e1, e2, e3, e4, e5]
theorem set6_in {cs : Array Value} {o : Nat} (h : o + 6 ≤ cs.size) (z0 z1 z2 z3 z4 z5 : Value) : ∀ i, i < 6 → (set6 cs o z0 z1 z2 z3 z4 z5)[o + i]? = [z0, z1, z2, z3, z4, z5][i]? := by
  intro i hi
  have h0 : o < cs.size := by omega
  have h1 : o + 1 < cs.size := by omega
  have h2 : o + 2 < cs.size := by omega
  have h3 : o + 3 < cs.size := by omega
  have h4 : o + 4 < cs.size := by omega
  have h5 : o + 5 < cs.size := by omega
  unfold set6
  match i, hi with
  | 0, _ => simp [Array.getElem?_setIfInBounds, h0]
  | 1, _ => simp [Array.getElem?_setIfInBounds, h1]
  | 2, _ => simp [Array.getElem?_setIfInBounds, h2]
  | 3, _ => simp [Array.getElem?_setIfInBounds, h3]
  | 4, _ => simp [Array.getElem?_setIfInBounds, h4]
  | 5, _ => simp [Array.getElem?_setIfInBounds, h5]
theorem RefAt.put6 {w w1 ga : World} {rb g : Nat} {T : Tr} {F : Nat → Prop} (h : RefAt w ga rb g T) (h1 : F rb) (h2 : F g) (h3 : ∀ q y, ga.cell? q = some y → F q.block) {T' : Tr} {j : Nat} {o o' : Option Nd}
    (x : Ext w w1) (t1 : T'.cap = T.cap) (t2 : T'.deep = T.deep) (t3 : T'.nodes = T.nodes.set j o') (hj : T.nodes[j]? = some o) {av kv : Value}
    (ha : ∀ G : World, Cells ga G → (∀ b, w.heap.size ≤ b → G.heap[b]? = w1.heap[b]?) → RowRd G 2 av (ndOf o').attrs.length (attrCells (ndOf o').attrs))
    (hk : ∀ G : World, Cells ga G → (∀ b, w.heap.size ≤ b → G.heap[b]? = w1.heap[b]?) → RowRd G 1 kv (ndOf o').kids.length ((ndOf o').kids.map (Value.int .i64))) :
    RAft F w rb T' (put6 w1 g (j * 6) (.int .i64 (isN o')) (.int .i64 (ndOf o').tag) (.int .i64 (ndOf o').parent) av (.string (ndOf o').text) kv) := by
  have hgl : g < w.heap.size := by obtain ⟨_, _, _, _, _, b4, _⟩ := h.row; exact (Array.getElem?_eq_some_iff.1 b4).1
  refine h.aft h1 h2 h3 (put6_chg (F := fun b => b = g) (Chg.ext x) (fun _ => rfl) _ _ _ _ _ _ _) t1 t2 t3 hj fun cur cap hcur hs hjc => ⟨_, put6_same (x.block hcur) _ _ _ _ _ _, set6_size .., fun i hi => set6_other hi .., fun hG hr => ?_⟩
  have hz := set6_in (cs := cur) (o := j * 6) (by omega) (.int .i64 (isN o')) (.int .i64 (ndOf o').tag) (.int .i64 (ndOf o').parent) av (.string (ndOf o').text) kv
  have hnew : ∀ b, w.heap.size ≤ b → (joinG ga (Go.Proofs.YthgnbbbdcebjhaaGreat.put6 w1 g (j * 6) (.int .i64 (isN o')) (.int .i64 (ndOf o').tag) (.int .i64 (ndOf o').parent) av (.string (ndOf o').text) kv) w.heap.size g).heap[b]? = w1.heap[b]? := fun b hb => by
    rw [joinG_new hb (by omega)]
    have hne : b ≠ g := by omega
    unfold Go.Proofs.YthgnbbbdcebjhaaGreat.put6
    rw [heap_setCell_other (p := ⟨g, j * 6 + 5, none⟩) _ hne, heap_setCell_other (p := ⟨g, j * 6 + 4, none⟩) _ hne, heap_setCell_other (p := ⟨g, j * 6 + 3, none⟩) _ hne, heap_setCell_other (p := ⟨g, j * 6 + 2, none⟩) _ hne, heap_setCell_other (p := ⟨g, j * 6 + 1, none⟩) _ hne, heap_setCell_other (p := ⟨g, j * 6, none⟩) _ hne]
  exact ⟨av, kv, hz 0 (by decide), hz 1 (by decide), hz 2 (by decide), hz 3 (by decide), hz 4 (by decide), hz 5 (by decide), ha _ hG hnew, hk _ hG hnew⟩
theorem RefAt.put1 {w w1 ga : World} {rb g : Nat} {T : Tr} {F : Nat → Prop} (h : RefAt w ga rb g T) (h1 : F rb) (h2 : F g) (h3 : ∀ q y, ga.cell? q = some y → F q.block) {T' : Tr} {j m : Nat} {o o' : Option Nd} {v : Value}
    (x : Ext w w1) (t1 : T'.cap = T.cap) (t2 : T'.deep = T.deep) (t3 : T'.nodes = T.nodes.set j o') (hj : T.nodes[j]? = some o) (hm : m < 6)
    (hr : ∀ (G : World) (cur : Array Value), Cells ga G → (∀ b, w.heap.size ≤ b → G.heap[b]? = w1.heap[b]?) → j * 6 + m < cur.size → RecAt ga cur j o → RecAt G (cur.setIfInBounds (j * 6 + m) v) j o') : RAft F w rb T' (w1.setCell ⟨g, j * 6 + m, none⟩ v) := by
  have hgl : g < w.heap.size := by obtain ⟨_, _, _, _, _, b4, _⟩ := h.row; exact (Array.getElem?_eq_some_iff.1 b4).1
  refine h.aft h1 h2 h3 (Chg.set (F := fun b => b = g) (Chg.ext x) (p := ⟨g, j * 6 + m, none⟩) (fun _ => rfl) v) t1 t2 t3 hj fun cur cap hcur hs hjc => ⟨_, heap_setCell_same (x.block hcur) v, by simp, fun i hi => ?_, fun hG hrc => ?_⟩
  · simp only [Array.getElem?_setIfInBounds]
    rw [if_neg (by omega)]
  · refine hr _ _ hG (fun b hb => ?_) (by omega) hrc
    rw [joinG_new hb (by omega)]
    exact heap_setCell_other (p := ⟨g, j * 6 + m, none⟩) _ (show b ≠ g by omega)
theorem recAt_set {ga G : World} {cur : Array Value} {j m : Nat} {nd nd' : Nd} {v : Value} (h : RecAt ga cur j (some nd)) (hc : Cells ga G) (hm : m < 6) (hl : j * 6 + m < cur.size)
    (h1 : if m = 1 then v = .int .i64 nd'.tag else nd'.tag = nd.tag) (h2 : if m = 2 then v = .int .i64 nd'.parent else nd'.parent = nd.parent) (h3 : if m = 3 then RowRd G 2 v nd'.attrs.length (attrCells nd'.attrs) else nd'.attrs = nd.attrs)
    (h4 : if m = 4 then v = .string nd'.text else nd'.text = nd.text) (h5 : if m = 5 then RowRd G 1 v nd'.kids.length (nd'.kids.map (Value.int .i64)) else nd'.kids = nd.kids) (h0 : m ≠ 0) : RecAt G (cur.setIfInBounds (j * 6 + m) v) j (some nd') := by
  obtain ⟨av, kv, r0, r1, r2, r3, r4, r5, r6, r7⟩ := h.out
  simp only [ndOf, isN, Option.getD_some, Option.isSome_some] at r0 r1 r2 r3 r4 r5 r6 r7
  have hself : (cur.setIfInBounds (j * 6 + m) v)[j * 6 + m]? = some v := by simp [Array.getElem?_setIfInBounds, hl]
  have hoth : ∀ i, i ≠ m → (cur.setIfInBounds (j * 6 + m) v)[j * 6 + i]? = cur[j * 6 + i]? := fun i hi => by
    simp only [Array.getElem?_setIfInBounds]; rw [if_neg (by omega)]
  have q6 := r6.cells hc
  have q7 := r7.cells hc
  match m, hm, h0 with
  | 1, _, _ =>
    simp at h1 h2 h3 h4 h5
    refine ⟨av, kv, ?_, ?_, ?_, ?_, ?_, ?_, ?_, ?_⟩ <;> try simp only [ndOf, isN, Option.getD_some, Option.isSome_some, h2, h3, h4, h5]
    · exact (hoth 0 (by decide)).trans r0
    · exact hself.trans (by rw [h1])
    · exact (hoth 2 (by decide)).trans r2
    · exact (hoth 3 (by decide)).trans r3
    · exact (hoth 4 (by decide)).trans r4
    · exact (hoth 5 (by decide)).trans r5
    · exact q6
    · exact q7
  | 2, _, _ =>
    simp at h1 h2 h3 h4 h5
    refine ⟨av, kv, ?_, ?_, ?_, ?_, ?_, ?_, ?_, ?_⟩ <;> try simp only [ndOf, isN, Option.getD_some, Option.isSome_some, h1, h3, h4, h5]
    · exact (hoth 0 (by decide)).trans r0
    · exact (hoth 1 (by decide)).trans r1
    · exact hself.trans (by rw [h2])
    · exact (hoth 3 (by decide)).trans r3
    · exact (hoth 4 (by decide)).trans r4
    · exact (hoth 5 (by decide)).trans r5
    · exact q6
    · exact q7
  | 3, _, _ =>
    simp at h1 h2 h3 h4 h5
    refine ⟨v, kv, ?_, ?_, ?_, ?_, ?_, ?_, ?_, ?_⟩ <;> try simp only [ndOf, isN, Option.getD_some, Option.isSome_some, h1, h2, h4, h5]
    · exact (hoth 0 (by decide)).trans r0
    · exact (hoth 1 (by decide)).trans r1
    · exact (hoth 2 (by decide)).trans r2
    · exact hself
    · exact (hoth 4 (by decide)).trans r4
    · exact (hoth 5 (by decide)).trans r5
    · exact h3
    · exact q7
  | 4, _, _ =>
    simp at h1 h2 h3 h4 h5
    refine ⟨av, kv, ?_, ?_, ?_, ?_, ?_, ?_, ?_, ?_⟩ <;> try simp only [ndOf, isN, Option.getD_some, Option.isSome_some, h1, h2, h3, h5]
    · exact (hoth 0 (by decide)).trans r0
    · exact (hoth 1 (by decide)).trans r1
    · exact (hoth 2 (by decide)).trans r2
    · exact (hoth 3 (by decide)).trans r3
    · exact hself.trans (by rw [h4])
    · exact (hoth 5 (by decide)).trans r5
    · exact q6
    · exact q7
  | 5, _, _ =>
    simp at h1 h2 h3 h4 h5
    refine ⟨av, v, ?_, ?_, ?_, ?_, ?_, ?_, ?_, ?_⟩ <;> try simp only [ndOf, isN, Option.getD_some, Option.isSome_some, h1, h2, h3, h4]
    · exact (hoth 0 (by decide)).trans r0
    · exact (hoth 1 (by decide)).trans r1
    · exact (hoth 2 (by decide)).trans r2
    · exact (hoth 3 (by decide)).trans r3
    · exact (hoth 4 (by decide)).trans r4
    · exact hself
    · exact q6
    · exact h5
def RNewIs (w : World) (T : Tr) (e : Ending) (w' : World) : Prop := ∃ rb, e = .returned (.pointer (some ⟨rb, 0, none⟩)) ∧ Ext w w' ∧ RefOn w' (fun b => w.heap.size ≤ b) rb T
theorem rHost {w w' : World} {cap deep : Int} {s0 : ByteArray} (h0 : s0 = ByteArray.empty) (h1 : w'.heap[w.heap.size]? = some (.cells #[.int .i64 1, .int .i64 1, .int .i64 (-1), .slice none 0 0, .string s0, .slice none 0 0] 121 (0, 0)))
    (h2 : w'.heap[w.heap.size + 1]? = some (.cells #[.int .i64 cap, .int .i64 deep, .slice (some ⟨w.heap.size, 0, none⟩) 1 1] 124 (0, 0))) (x : Ext w w') : RefOn w' (fun b => w.heap.size ≤ b) (w.heap.size + 1) (hostOf cap deep) := by
  refine ⟨{ w with heap := #[] }, w.heap.size, ⟨by omega, ⟨1, _, h2, Nat.le_refl _, by decide, h1, by simp, fun j o ho => ?_⟩, fun q y hq => ?_⟩, Nat.le_succ _, Nat.le_refl _, fun q y hq => ?_⟩
  · have hj : j < 1 := (List.getElem?_eq_some_iff.1 ho).1
    obtain rfl : j = 0 := by omega
    cases ho
    subst h0
    exact ⟨_, _, rfl, rfl, rfl, rfl, rfl, rfl, ⟨rfl, none, 0, rfl, Nat.le_refl _, fun _ => ⟨rfl, rfl⟩, fun a h => by cases h⟩, ⟨rfl, none, 0, rfl, Nat.le_refl _, fun _ => ⟨rfl, rfl⟩, fun a h => by cases h⟩⟩
  · simp [World.cell?] at hq
  · simp [World.cell?] at hq
theorem rNew_ok (cap deep : Int) (h1 : 1 ≤ cap) (h2 : cap ≤ 2000) (h3 : 0 ≤ deep) (h4 : deep ≤ 40) (w : World) :
    Calls Tryz.prog 30 #[.int .i64 cap, .int .i64 deep] w (RNewIs w (hostOf cap deep)) := by
  go_enter Tryz.func30, Tryz.ntmps30
  go_wp2_with fail
  go_ret
  refine ⟨w.heap.size + 1, by simp, ((Ext.refl w).alloc _).alloc _, ?_⟩
  refine rHost (s0 := ⟨#[]⟩) rfl ?_ ?_ (((Ext.refl w).alloc _).alloc _)
  · exact Ext.block ((Ext.refl _).alloc _) (heap_alloc_new w _)
  · have h := heap_alloc_new (w.alloc (.cells #[.int .i64 1, .int .i64 1, .int .i64 (-1), .slice none 0 0, .string ⟨#[]⟩, .slice none 0 0] 121)) (.cells #[.int .i64 cap, .int .i64 deep, .slice (some ⟨w.heap.size, 0, none⟩) 1 1] 124)
    simpa using h
theorem rNew_no (cap deep : Int) (h : ¬ (1 ≤ cap ∧ cap ≤ 2000 ∧ 0 ≤ deep ∧ deep ≤ 40)) (w : World) :
    Calls Tryz.prog 30 #[.int .i64 cap, .int .i64 deep] w (RSame (.pointer none) w) := by
  by_cases a1 : cap < 1
  · clear h
    go_enter Tryz.func30, Tryz.ntmps30
    go_wp2_with fail
    go_ret
    exact ⟨rfl, rfl⟩
  · by_cases a2 : 2000 < cap
    · clear h
      go_enter Tryz.func30, Tryz.ntmps30
      go_wp2_with fail
      go_ret
      exact ⟨rfl, rfl⟩
    · by_cases a3 : deep < 0
      · clear h
        go_enter Tryz.func30, Tryz.ntmps30
        go_wp2_with fail
        go_ret
        exact ⟨rfl, rfl⟩
      · have a4 : 40 < deep := by omega
        clear h
        go_enter Tryz.func30, Tryz.ntmps30
        go_wp2_with fail
        go_ret
        exact ⟨rfl, rfl⟩
theorem Chg.grown {F : Nat → Prop} {a b c : World} {row : Option Nat} (h : Chg F a b) (hg : b.grownBy c row) (hr : ∀ k, row = some k → k < a.heap.size → F k) : Chg F a c :=
  ⟨hg.os.trans h.os, hg.tape.trans h.tape, hg.output.trans h.output, Nat.le_trans h.size hg.size, fun x hx hn => (hg.block x (Nat.lt_of_lt_of_le hx h.size) (fun e => hn (hr x e.symm hx))).trans (h.rest x hx hn)⟩
abbrev noRec0 : Value := .agg #[.int .i64 0, .int .i64 0, .int .i64 0, .slice none 0 0, .string ⟨#[]⟩, .slice none 0 0]
theorem infoR : (Tryz.prog.info? 121).map (fun i => (i.zero, i.size, i.bytes)) = some (some noRec0, 6, 88) := by kernel_rfl
theorem cells_six {w : World} {b : Nat} {c0 c1 c2 c3 c4 c5 : Value} {t : TypeId} (h : w.heap[b]? = some (.cells #[c0, c1, c2, c3, c4, c5] t (0, 0))) : ∀ (j : Nat) u, [c0, c1, c2, c3, c4, c5][j]? = some u → w.cell? (Addr.add ⟨b, 0, none⟩ j) = some u := by
  intro j u hu
  rw [Addr.add_lit, Nat.zero_add]
  refine cellOf h ?_
  simpa using hu
theorem more_fin {w wr wA ga : World} {rb g : Nat} {T : Tr} {F : Nat → Prop} (h : RefAt w ga rb g T) (h1 : F rb) (h2 : F g) (h3 : ∀ q y, ga.cell? q = some y → F q.block) (x : Ext w wr) {ob : Obj} {nd : Nd} {aa : Option Addr} {ac : Nat} {cur : Array Value}
    (hcur : w.heap[g]? = some (.cells cur 121 (0, 0))) {v' : Value} {row : Option Nat}
    (hr : RowP wA (fun b => b = g ∨ (wr.drew.alloc ob).heap.size ≤ b) 121 6 v' (T.nodes.length + 1) (cur.toList.take (T.nodes.length * 6) ++ recVals nd.tag nd.parent (.slice aa nd.attrs.length ac) nd.text (.slice none 0 0)))
    (hg : (wr.drew.alloc ob).grownBy wA row) (hrow : ∀ k, row = some k → k = g) (hk : nd.kids = []) (ha : RowP wr (fun b => w.heap.size + 1 ≤ b) 110 2 (.slice aa nd.attrs.length ac) nd.attrs.length (attrCells nd.attrs)) :
    RAft F w rb { T with count := T.count + 1, nodes := T.nodes ++ [some nd] } (wA.setCell ⟨rb, 2, none⟩ v') := by
  have hrw := h.row
  obtain ⟨cap0, cur0, b1, _, _, b4, _, _⟩ := hrw
  have hrl := (Array.getElem?_eq_some_iff.1 b1).1
  have hgl := (Array.getElem?_eq_some_iff.1 b4).1
  have xs := x.size
  rcases hr.2 with ⟨h0, _⟩ | ⟨g', cap', cur', rfl, q2, q3, q4, q5, q6, q7⟩
  · omega
  have hsz : (wr.drew.alloc ob).heap.size = wr.heap.size + 1 := by simp
  have xq : Ext w (wr.drew.alloc ob) := (x.drew).alloc _
  have bA : wA.heap[rb]? = _ := (hg.block rb (by omega) (fun e => h.ne (hrow rb e.symm))).trans (xq.block b1)
  have hne : g' ≠ rb := fun e => by rcases q2 with q2 | q2; exact h.ne (e.symm.trans q2); omega
  have hne2 : g' ≠ w.heap.size := fun e => by rcases q2 with q2 | q2 <;> omega
  refine h.more h1 h2 h3 (nd := nd) (g' := g') (cap' := cap') (cur' := cur') (av := .slice aa nd.attrs.length ac) (kv := .slice none 0 0) ?_ rfl rfl rfl ?_ ?_ q4 q5 q6 (by rcases q2 with q2 | q2; exact .inl q2; exact .inr (by omega)) (fun c hc => ?_) fun hG => ⟨?_, ?_⟩
  · exact (Chg.grown (F := fun b => b = rb ∨ b = g) (Chg.ext xq) hg fun k hk _ => .inr (hrow k hk)).set (p := ⟨rb, 2, none⟩) (fun _ => .inl rfl) _
  · exact heap_setCell_same bA _
  · exact (heap_setCell_other (p := ⟨rb, 2, none⟩) _ hne).trans q3
  · rw [hcur] at hc
    cases hc
    exact q7
  · refine RowP.rd (RowP.move ha.below (p' := fun _ => True) fun b hb => ⟨?_, trivial⟩)
    obtain ⟨hb', hbl⟩ : w.heap.size + 1 ≤ b ∧ b < wr.heap.size := hb
    · have hbg : b ≠ g' := fun e => by rcases q2 with q2 | q2 <;> omega
      rw [joinG_new (by omega) hbg, heap_setCell_other (p := ⟨rb, 2, none⟩) _ (show b ≠ rb by omega), hg.block b (by omega) (fun e => by have := hrow b e.symm; omega)]
      exact Below.block ((Ext.refl wr).drew.alloc ob) b hbl
  · rw [hk]
    exact ⟨rfl, none, 0, rfl, Nat.le_refl _, fun _ => ⟨rfl, rfl⟩, fun a h => by cases h⟩
def RInt (F : Nat → Prop) (w : World) (rb : Nat) (x : Int) (T : Tr) (e : Ending) (w' : World) : Prop := e = .returned (.int .i64 x) ∧ RAft F w rb T w'
theorem radd {w : World} {F : Nat → Prop} {rb : Nat} {T : Tr} (hR : RefOn w F rb T) (hlen : T.nodes.length ≤ 2000)
    (tag : Int) (text : ByteArray) (av : Value) (attrs : List (ByteArray × ByteArray)) (ha : RowRd w 2 av attrs.length (attrCells attrs)) (hn : attrs.length ≤ 60000) :
    Calls Tryz.prog 87 #[.pointer (some ⟨rb, 0, none⟩), .agg #[.int .i64 0, .int .i64 tag, .int .i64 0, av, .string text, .slice none 0 0]] w (RInt F w rb T.newId (T.put ⟨tag, attrs, text, [], -1⟩)) := by
  obtain ⟨ao, cap0, hav, _⟩ := ha.len_of
  subst hav
  obtain ⟨ga, g, hat, hF1, hF2, hF3⟩ := hR.out
  have HAT := qh hat
  have HFF := qh (And.intro hF1 (And.intro hF2 hF3))
  obtain ⟨cap, cur, b1, b2, b3, b4, b5, b6⟩ := hat.row
  have nrg : rb ≠ g := hat.ne
  have nrg' := Ne.symm nrg
  have c2 : w.cell? ⟨rb, 2, none⟩ = some (.slice (some ⟨g, 0, none⟩) T.nodes.length cap) := cellOf b1 rfl
  have f2 := freeOf b1 2
  have lrb := (Array.getElem?_eq_some_iff.1 b1).1
  have lg := (Array.getElem?_eq_some_iff.1 b4).1
  have xm := (Ext.refl w).alloc (.cells #[.int .i64 0, .int .i64 tag, .int .i64 0, .slice ao attrs.length cap0, .string text, .slice none 0 0] 121)
  have bm := heap_alloc_new w (.cells #[.int .i64 0, .int .i64 tag, .int .i64 0, .slice ao attrs.length cap0, .string text, .slice none 0 0] 121)
  have zm : (w.alloc (.cells #[.int .i64 0, .int .i64 tag, .int .i64 0, .slice ao attrs.length cap0, .string text, .slice none 0 0] 121)).heap.size = w.heap.size + 1 := by simp
  have HA := qh ha
  have B6 := qh b6
  have B4 := qh b4
  have B1 := qh b1
  clear hat hF1 hF2 hF3 b6 ha hR b1 b4
  go_enter Tryz.func87, Tryz.ntmps87
  go_upto_region 1 with fail
  obtain ⟨w1, hw1⟩ : ∃ w1 : World, w1 = w.alloc (.cells #[.int .i64 0, .int .i64 tag, .int .i64 0, .slice ao attrs.length cap0, .string text, .slice none 0 0] 121) := ⟨_, rfl⟩
  rw [← hw1] at xm bm zm ⊢
  clear hw1
  have e1 := heap_setCell_same (i := 0) bm (.int .i64 1)
  have e2 := heap_setCell_same (i := 2) e1 (.int .i64 (-1))
  have x2 : Ext w ((w1.setCell ⟨w.heap.size, 0, none⟩ (.int .i64 1)).setCell ⟨w.heap.size, 2, none⟩ (.int .i64 (-1))) := (xm.setCell (Nat.le_refl _) _).setCell (Nat.le_refl _) _
  have z2 : ((w1.setCell ⟨w.heap.size, 0, none⟩ (.int .i64 1)).setCell ⟨w.heap.size, 2, none⟩ (.int .i64 (-1))).heap.size = w.heap.size + 1 := by simpa [World.setCell] using zm
  have q0 := cellOf bm (i := 0) rfl
  have p0 := freeOf bm 0
  have q02 := cellOf bm (i := 2) rfl
  have p02 := freeOf bm 2
  go_upto_region 2 with fail
  obtain ⟨w2, hw2⟩ : ∃ w2 : World, w2 = (w1.setCell ⟨w.heap.size, 0, none⟩ (.int .i64 1)).setCell ⟨w.heap.size, 2, none⟩ (.int .i64 (-1)) := ⟨_, rfl⟩
  rw [← hw2] at e2 x2 z2
  rw [← hw2]
  clear hw2 e1 q0 p0 q02 p02 bm zm xm
  replace e2 : w2.heap[w.heap.size]? = some (.cells #[.int .i64 1, .int .i64 tag, .int .i64 (-1), .slice ao attrs.length cap0, .string text, .slice none 0 0] 121 (0, 0)) := e2
  have q3 := cellOf e2 (i := 3) (v := .slice ao attrs.length cap0) rfl
  have p3 := freeOf e2 3
  have xe := (Ext.refl w2).alloc (.cells #[] 110)
  obtain ⟨va, wA, hrun, hra, hxa⟩ := append_empty (w := w2.alloc (.cells #[] 110)) (b := w2.heap.size) (HA.out.ext (x2.trans xe)) hn (attrCells_one _)
  obtain ⟨aa', acap', rfl, _⟩ := hra.rd.len_of
  have hra' := RowP.imp hra (q := fun g => w.heap.size + 1 ≤ g) fun g _ hg => by have h : (w2.alloc (.cells #[] 110)).heap.size ≤ g := hg; simp at h; show w.heap.size + 1 ≤ g; omega
  have hxa1 := xe.trans hxa
  have ce1 := xe.cell q3
  have cA1 := hxa1.cell q3
  have fA1 := hxa1.free (cell_lt q3) p3
  have bA := hxa1.block e2
  have hs3 : w.heap.size ≠ w2.heap.size := by omega
  have hs3' := Ne.symm hs3
  have HZ2 := qh z2
  clear z2
  have HRUN := qh hrun
  have HRA := qh hra'
  have XA := qh (x2.trans hxa1)
  have BA := qh bA
  clear hra hra' hxa xe hrun hxa1 e2 x2 bA
  go_wp2_with (at_builtin; refine wpList_append_run _ rfl _ _ 32 rfl _ _ rfl rfl _ _ HRUN.out ?_)
  have e3 := heap_setCell_same (i := 3) BA.out (.slice aa' attrs.length acap')
  replace e3 : (wA.setCell ⟨w.heap.size, 3, none⟩ (.slice aa' attrs.length acap')).heap[w.heap.size]? = some (.cells #[.int .i64 1, .int .i64 tag, .int .i64 (-1), .slice aa' attrs.length acap', .string text, .slice none 0 0] 121 (0, 0)) := e3
  have x3 : Ext w (wA.setCell ⟨w.heap.size, 3, none⟩ (.slice aa' attrs.length acap')) := XA.out.setCell (Nat.le_refl _) _
  have hro : RowP (wA.setCell ⟨w.heap.size, 3, none⟩ (.slice aa' attrs.length acap')) (fun g => w.heap.size + 1 ≤ g) 110 2 (.slice aa' attrs.length acap') attrs.length (attrCells attrs) :=
    RowP.move HRA.out fun g hg => ⟨heap_setCell_other (p := ⟨w.heap.size, 3, none⟩) _ (by have h : w.heap.size + 1 ≤ g := hg; show g ≠ w.heap.size; omega), hg⟩
  obtain ⟨ws, hws⟩ : ∃ ws : World, ws = wA.setCell ⟨w.heap.size, 3, none⟩ (.slice aa' attrs.length acap') := ⟨_, rfl⟩
  rw [← hws] at e3 x3 hro ⊢
  clear hws ce1 cA1 fA1 q3 p3 hs3 hs3'
  have X3 := qh x3
  have HRO := qh hro
  have d0 := cellOf e3 (i := 0) (v := .int .i64 1) rfl
  have d1 := cellOf e3 (i := 1) (v := .int .i64 tag) rfl
  have d2 := cellOf e3 (i := 2) (v := .int .i64 (-1)) rfl
  have d3 := cellOf e3 (i := 3) (v := .slice aa' attrs.length acap') rfl
  have d4 := cellOf e3 (i := 4) (v := .string text) rfl
  have d5 := cellOf e3 (i := 5) (v := .slice none 0 0) rfl
  replace c2 := x3.cell c2
  replace f2 := x3.free lrb f2
  clear e3 x3 hro
  have nh1 : rb ≠ w.heap.size := by omega
  have nh1' := Ne.symm nh1
  have nh2 : g ≠ w.heap.size := by omega
  have nh2' := Ne.symm nh2
  go_loopw [5] (fun n wr => ∃ k : Nat, wr = ws ∧ k ≤ T.nodes.length ∧ n = .int .i64 k ∧ Hid (∀ (j : Nat) (x : Option Nd), j < k → T.nodes[j]? = some x → x ≠ none)) (fun n _ => T.nodes.length - (intOf n).toNat)
  case atStart => exact ⟨0, rfl, Nat.zero_le _, rfl, qh fun j x hj => by omega⟩
  case round =>
    obtain ⟨k, rfl, hk, rfl, hno⟩ := hrel
    by_cases hlt : k < T.nodes.length
    · obtain ⟨o, ho⟩ : ∃ o, T.nodes[k]? = some o := ⟨T.nodes[k], by simp [hlt]⟩
      obtain ⟨av, kv, r0, r1, r2, r3, r4, r5, r6, r7⟩ := (B6.out k o ho).out
      have bg := X3.out.block B4.out
      replace r0 := cellOf bg r0
      have HO := qh ho
      cases o with
      | none =>
        have r0' : wr.cell? ⟨g, k * 6, none⟩ = some (.int .i64 0) := r0
        have g0 := freeOf bg (k * 6)
        have g1 := freeOf bg (k * 6 + 1)
        have g2 := freeOf bg (k * 6 + 2)
        have g3 := freeOf bg (k * 6 + 3)
        have g4 := freeOf bg (k * 6 + 4)
        have g5 := freeOf bg (k * 6 + 5)
        replace r1 := cellOf bg r1
        replace r2 := cellOf bg r2
        replace r3 := cellOf bg r3
        replace r4 := cellOf bg r4
        replace r5 := cellOf bg r5
        clear r0 r6 r7 bg ho
        go_upto_region 7 with fail
        refine wp_region_E (S := fun w' => w'.cell? ⟨rb, 2, none⟩ = some (.slice (some ⟨g, 0, none⟩) T.nodes.length cap) ∧ w'.cell? ⟨w.heap.size, 0, none⟩ = some (.int .i64 1) ∧ w'.cell? ⟨w.heap.size, 1, none⟩ = some (.int .i64 tag) ∧ w'.cell? ⟨w.heap.size, 2, none⟩ = some (.int .i64 (-1)) ∧ w'.cell? ⟨w.heap.size, 3, none⟩ = some (.slice aa' attrs.length acap') ∧ w'.cell? ⟨w.heap.size, 4, none⟩ = some (.string text) ∧ w'.cell? ⟨w.heap.size, 5, none⟩ = some (.slice none 0 0)) (n := 7) (by kernel_rfl) ?_
        have hS : wr.drew.cell? ⟨rb, 2, none⟩ = some (.slice (some ⟨g, 0, none⟩) T.nodes.length cap) ∧ wr.drew.cell? ⟨w.heap.size, 0, none⟩ = some (.int .i64 1) ∧ wr.drew.cell? ⟨w.heap.size, 1, none⟩ = some (.int .i64 tag) ∧ wr.drew.cell? ⟨w.heap.size, 2, none⟩ = some (.int .i64 (-1)) ∧ wr.drew.cell? ⟨w.heap.size, 3, none⟩ = some (.slice aa' attrs.length acap') ∧ wr.drew.cell? ⟨w.heap.size, 4, none⟩ = some (.string text) ∧ wr.drew.cell? ⟨w.heap.size, 5, none⟩ = some (.slice none 0 0) := ⟨c2, d0, d1, d2, d3, d4, d5⟩
        show wpE _ _ _ _ _ 7 8 (Array.replicate 8 false) _ _
        refine wpE_tk 0 31 (.pointer (some ⟨rb, 0, none⟩)) rfl (.inl ⟨by rfl, fun w' hSw => ?_⟩) hS ?_
        · (obtain ⟨s1, s2, s3, s4, s5, s6, s7⟩ := hSw; clear hS; go_simp)
        try simp only [Act.put, zA, zB, zC]
        refine wpE_tk 1 32 (.pointer (some ⟨rb, 0, none⟩)) rfl (.inl ⟨by rfl, fun w' hSw => ?_⟩) hS ?_
        · (obtain ⟨s1, s2, s3, s4, s5, s6, s7⟩ := hSw; clear hS; go_simp)
        try simp only [Act.put, zA, zB, zC]
        refine wpE_tk 2 33 (.pointer (some ⟨rb, 2, none⟩)) rfl (.inl ⟨by rfl, fun w' hSw => ?_⟩) hS ?_
        · (obtain ⟨s1, s2, s3, s4, s5, s6, s7⟩ := hSw; clear hS; go_simp)
        try simp only [Act.put, zA, zB, zC]
        refine wpE_tk 3 34 (.slice (some ⟨g, 0, none⟩) T.nodes.length cap) rfl (.inl ⟨by rfl, fun w' hSw => ?_⟩) hS ?_
        · (obtain ⟨s1, s2, s3, s4, s5, s6, s7⟩ := hSw; clear hS; go_simp)
        try simp only [Act.put, zA, zB, zC]
        refine wpE_tk 4 35 (.int .i64 k) rfl (.inl ⟨by rfl, fun w' hSw => ?_⟩) hS ?_
        · (obtain ⟨s1, s2, s3, s4, s5, s6, s7⟩ := hSw; clear hS; go_simp)
        try simp only [Act.put, zA, zB, zC]
        refine wpE_tk 5 36 (.agg #[.int .i64 1, .int .i64 tag, .int .i64 (-1), .slice aa' attrs.length acap', .string text, .slice none 0 0]) rfl (.inl ⟨by rfl, fun w' hSw => ?_⟩) hS ?_
        · (obtain ⟨s1, s2, s3, s4, s5, s6, s7⟩ := hSw; clear hS; go_simp)
        try simp only [Act.put, zA, zB, zC]
        refine wpE_tk 6 37 (.pointer (some ⟨g, k * 6, none⟩)) rfl (.inl ⟨by rfl, fun w' hSw => ?_⟩) hS ?_
        · (obtain ⟨s1, s2, s3, s4, s5, s6, s7⟩ := hSw; clear hS; go_simp)
        try simp only [Act.put, zA, zB, zC]
        refine wpE_on 7 (none) rfl (fun K hK => ?_)
        go_simp
        refine hK.out _ _ (.inl rfl) ?_
        clear hK K
        refine wpE_done (by kernel_rfl) ?_
        go_wp2
        go_ret
        have hfr : freeOf' T.nodes = k := freeOf_at HO.out hno.out
        have hp : T.put ⟨tag, attrs, text, [], -1⟩ = { T with count := T.count + 1, nodes := T.nodes.set k (some ⟨tag, attrs, text, [], -1⟩) } := by
          unfold Tr.put; rw [hfr, if_pos (Int.natCast_nonneg k), Int.toNat_natCast]
        have hq : T.newId = k := by unfold Tr.newId; rw [hfr, if_pos (Int.natCast_nonneg k)]
        rw [hp, hq]
        refine ⟨rfl, ?_⟩
        have hfin := RefAt.put6 HAT.out HFF.out.1 HFF.out.2.1 HFF.out.2.2 (T' := { T with count := T.count + 1, nodes := T.nodes.set k (some ⟨tag, attrs, text, [], -1⟩) }) (o := none) (o' := some ⟨tag, attrs, text, [], -1⟩) (av := .slice aa' attrs.length acap') (kv := .slice none 0 0) X3.out rfl rfl rfl HO.out
          (fun G hG hb => RowP.rd (RowP.move HRO.out (p' := fun _ => True) fun b hb' => ⟨hb b (by have h : w.heap.size + 1 ≤ b := hb'; omega), trivial⟩))
          (fun G hG hb => ⟨rfl, none, 0, rfl, Nat.le_refl _, fun _ => ⟨rfl, rfl⟩, fun a h => by cases h⟩)
        exact hfin.ext (Ext.refl _).drew
      | some nd =>
        have r0' : wr.cell? ⟨g, k * 6, none⟩ = some (.int .i64 1) := r0
        clear r0 r1 r2 r3 r4 r5 r6 r7 bg ho
        go_wp2_with fail
        go_roundw
        case rel => exact ⟨k + 1, trivial, by omega, by go_num, qh fun j x hj hx => by
          rcases Nat.lt_or_ge j k with h | h
          · exact hno.out j x h hx
          · obtain rfl : j = k := by omega
            rw [HO.out] at hx; cases hx; exact fun h => by cases h⟩
        case measure => simp [intOf]; omega
    · obtain rfl : k = T.nodes.length := by omega
      have bg := X3.out.block B4.out
      obtain ⟨i0, hi, hz0, hz1, hz2⟩ := info_parts infoR
      have lgz := cell_lt c2
      have c2' : (wr.drew.alloc (.cells #[.int .i64 1, .int .i64 tag, .int .i64 (-1), .slice aa' attrs.length acap', .string text, .slice none 0 0] 121)).cell? ⟨rb, 2, none⟩ = some (.slice (some ⟨g, 0, none⟩) T.nodes.length cap) := ((Ext.refl wr).drew.alloc _).cell c2
      have xq := (Ext.refl wr).drew.alloc (.cells #[.int .i64 1, .int .i64 tag, .int .i64 (-1), .slice aa' attrs.length acap', .string text, .slice none 0 0] 121)
      have hbq := xq.block bg
      have d0' := xq.cell d0
      have d1' := xq.cell d1
      have d2' := xq.cell d2
      have d3' := xq.cell d3
      have d4' := xq.cell d4
      have d5' := xq.cell d5
      have hmx : cap ≤ maxLen := b3
      obtain ⟨v', wB, row, hrunB, hrB, hgB, hrowB⟩ := run_append_row (P := Tryz.prog) (wr.drew.alloc (.cells #[.int .i64 1, .int .i64 tag, .int .i64 (-1), .slice aa' attrs.length acap', .string text, .slice none 0 0] 121)) 122 122 121 i0 noRec0 6 88 Tryz.underlying122 hi hz0 hz1 hz2 (by kernel_rfl) (by decide)
        (p := fun b => b = g) (v := .slice (some ⟨g, 0, none⟩) T.nodes.length cap) (n := T.nodes.length) (xs := cur.toList.take (T.nodes.length * 6)) ⟨by simp; omega, .inr ⟨g, cap, cur, rfl, rfl, hbq, b2, b3, b5, rfl⟩⟩
        ⟨wr.heap.size, 0, none⟩ 1 1 (recVals tag (-1) (.slice aa' attrs.length acap') text (.slice none 0 0)) rfl (cells_six (heap_alloc_new wr.drew _)) (by simp [Value.oneCell', recVals]) (by decide) (by unfold maxLen; omega) (by omega)
      have hne : ∀ z, row = some z → z ≠ rb := fun z hz e => nrg (e.symm.trans (hrowB z hz))
      have cB := grownCell xq hgB c2 hne
      have fB := grownFree xq hgB (cell_lt c2) f2 hne
      have hne2 : ∀ z, row = some z → z ≠ w.heap.size := fun z hz e => nh2 ((hrowB z hz).symm.trans e)
      have dB0 := grownCell xq hgB d0 hne2
      have dB1 := grownCell xq hgB d1 hne2
      have dB2 := grownCell xq hgB d2 hne2
      have dB3 := grownCell xq hgB d3 hne2
      have dB4 := grownCell xq hgB d4 hne2
      have dB5 := grownCell xq hgB d5 hne2
      have FIN := qh (more_fin HAT.out HFF.out.1 HFF.out.2.1 HFF.out.2.2 X3.out (nd := ⟨tag, attrs, text, [], -1⟩) B4.out hrB hgB hrowB rfl HRO.out)
      obtain ⟨a7, cap7, e7, _⟩ := hrB.rd.len_of
      subst e7
      have HRB := qh hrunB
      clear hrB hgB hrowB hrunB hi hz0 hz1 hz2 bg hbq xq hne hne2
      go_upto_region 9 with fail
      refine wp_region_E (S := fun w' => w'.cell? ⟨rb, 2, none⟩ = some (.slice (some ⟨g, 0, none⟩) T.nodes.length cap) ∧ w'.cell? ⟨w.heap.size, 0, none⟩ = some (.int .i64 1) ∧ w'.cell? ⟨w.heap.size, 1, none⟩ = some (.int .i64 tag) ∧ w'.cell? ⟨w.heap.size, 2, none⟩ = some (.int .i64 (-1)) ∧ w'.cell? ⟨w.heap.size, 3, none⟩ = some (.slice aa' attrs.length acap') ∧ w'.cell? ⟨w.heap.size, 4, none⟩ = some (.string text) ∧ w'.cell? ⟨w.heap.size, 5, none⟩ = some (.slice none 0 0)) (n := 10) (by kernel_rfl) ?_
      have hS : wr.drew.cell? ⟨rb, 2, none⟩ = some (.slice (some ⟨g, 0, none⟩) T.nodes.length cap) ∧ wr.drew.cell? ⟨w.heap.size, 0, none⟩ = some (.int .i64 1) ∧ wr.drew.cell? ⟨w.heap.size, 1, none⟩ = some (.int .i64 tag) ∧ wr.drew.cell? ⟨w.heap.size, 2, none⟩ = some (.int .i64 (-1)) ∧ wr.drew.cell? ⟨w.heap.size, 3, none⟩ = some (.slice aa' attrs.length acap') ∧ wr.drew.cell? ⟨w.heap.size, 4, none⟩ = some (.string text) ∧ wr.drew.cell? ⟨w.heap.size, 5, none⟩ = some (.slice none 0 0) := ⟨c2, d0, d1, d2, d3, d4, d5⟩
      show wpE _ _ _ _ _ 10 11 (Array.replicate 11 false) _ _
      refine wpE_tk 0 39 (.pointer (some ⟨rb, 0, none⟩)) rfl (.inl ⟨by rfl, fun w' hSw => ?_⟩) hS ?_
      · (obtain ⟨s1, s2, s3, s4, s5, s6, s7⟩ := hSw; clear hS; go_simp)
      try simp only [Act.put, zA, zB, zC]
      refine wpE_tk 1 40 (.pointer (some ⟨rb, 0, none⟩)) rfl (.inl ⟨by rfl, fun w' hSw => ?_⟩) hS ?_
      · (obtain ⟨s1, s2, s3, s4, s5, s6, s7⟩ := hSw; clear hS; go_simp)
      try simp only [Act.put, zA, zB, zC]
      refine wpE_tk 2 41 (.pointer (some ⟨rb, 0, none⟩)) rfl (.inl ⟨by rfl, fun w' hSw => ?_⟩) hS ?_
      · (obtain ⟨s1, s2, s3, s4, s5, s6, s7⟩ := hSw; clear hS; go_simp)
      try simp only [Act.put, zA, zB, zC]
      refine wpE_tk 3 42 (.pointer (some ⟨rb, 2, none⟩)) rfl (.inl ⟨by rfl, fun w' hSw => ?_⟩) hS ?_
      · (obtain ⟨s1, s2, s3, s4, s5, s6, s7⟩ := hSw; clear hS; go_simp)
      try simp only [Act.put, zA, zB, zC]
      refine wpE_tk 4 43 (.slice (some ⟨g, 0, none⟩) T.nodes.length cap) rfl (.inl ⟨by rfl, fun w' hSw => ?_⟩) hS ?_
      · (obtain ⟨s1, s2, s3, s4, s5, s6, s7⟩ := hSw; clear hS; go_simp)
      try simp only [Act.put, zA, zB, zC]
      refine wpE_tk 5 44 (.agg #[.int .i64 1, .int .i64 tag, .int .i64 (-1), .slice aa' attrs.length acap', .string text, .slice none 0 0]) rfl (.inl ⟨by rfl, fun w' hSw => ?_⟩) hS ?_
      · (obtain ⟨s1, s2, s3, s4, s5, s6, s7⟩ := hSw; clear hS; go_simp)
      try simp only [Act.put, zA, zB, zC]
      refine wpE_on 6 (some 45) rfl (fun K hK => ?_)
      go_simp
      refine hK.out _ _ (.inr ⟨c2', d0', d1', d2', d3', d4', d5'⟩) ?_
      clear hK K
      try simp only [Act.put, zA, zB, zC]
      refine wpE_on 7 (some 46) rfl (fun K hK => ?_)
      refine step_append_run (by rfl) _ _ 122 (by rfl) (.slice (some ⟨g, 0, none⟩) T.nodes.length cap) (.slice (some ⟨wr.heap.size, 0, none⟩) 1 1) (by rfl) (by rfl) (.slice a7 (T.nodes.length + 1) cap7) wB HRB.out ?_
      refine hK.out _ _ (.inr ⟨cB, dB0, dB1, dB2, dB3, dB4, dB5⟩) ?_
      clear hK K
      try simp only [Act.put, zA, zB, zC]
      refine wpE_on 8 (some 47) rfl (fun K hK => ?_)
      go_simp
      refine hK.out _ _ (.inr ⟨cB, dB0, dB1, dB2, dB3, dB4, dB5⟩) ?_
      clear hK K
      try simp only [Act.put, zA, zB, zC]
      refine wpE_on 9 (some 48) rfl (fun K hK => ?_)
      go_simp
      refine hK.out _ _ (.inr ⟨cB, dB0, dB1, dB2, dB3, dB4, dB5⟩) ?_
      clear hK K
      try simp only [Act.put, zA, zB, zC]
      refine wpE_on 10 (none) rfl (fun K hK => ?_)
      go_simp
      refine hK.out _ _ (.inl rfl) ?_
      clear hK K
      refine wpE_done (by kernel_rfl) ?_
      go_wp2
      go_ret
      have hfr : freeOf' T.nodes = -1 := freeOf_no fun j x hx => hno.out j x (List.getElem?_eq_some_iff.1 hx).1 hx
      have hp : T.put ⟨tag, attrs, text, [], -1⟩ = { T with count := T.count + 1, nodes := T.nodes ++ [some ⟨tag, attrs, text, [], -1⟩] } := by
        unfold Tr.put; rw [hfr, if_neg (by decide)]
      have hq : T.newId = T.nodes.length := by unfold Tr.newId; rw [hfr, if_neg (by decide)]
      rw [hp, hq]
      exact ⟨rfl, FIN.out⟩
def RTwoAft (F : Nat → Prop) (w : World) (rb : Nat) (x er : Int) (T : Tr) (e : Ending) (w' : World) : Prop := e = .returned (.tuple #[.int .i64 x, .int .i64 er]) ∧ RAft F w rb T w'
def RErr (F : Nat → Prop) (w : World) (rb : Nat) (er : Int) (T : Tr) (e : Ending) (w' : World) : Prop := e = .returned (.int .i64 er) ∧ RAft F w rb T w'
theorem rCountX {w : World} {rb : Nat} {T : Tr} (h : RAt w rb T) {d : Nat → Nat} (hw : WF T d) : Calls Tryz.prog 86 #[.pointer (some ⟨rb, 0, none⟩)] w (RVal (.int .i64 T.count) w) :=
  (rCount h hw).mono fun e w' k => ⟨k.1, by rw [k.2]; exact Ext.refl _⟩
section
variable {w : World} {F : Nat → Prop} {rb : Nat} {T : Tr}
theorem rElement_arg (tag : Int) (h : ¬ (1 ≤ tag ∧ tag ≤ 16)) (av : Value) (hR : RefOn w F rb T) : Calls Tryz.prog 46 #[.pointer (some ⟨rb, 0, none⟩), .int .i64 tag, av] w (RTwoAft F w rb 0 1 T) := by
  have H := qh (RAft.refl hR)
  clear hR
  by_cases h1 : tag < 1
  · clear h
    go_enter Tryz.func46, Tryz.ntmps46
    go_wp2_with fail
    go_ret2
    exact ⟨rfl, H.out⟩
  · have h2 : 16 < tag := by omega
    clear h
    go_enter Tryz.func46, Tryz.ntmps46
    go_wp2_with fail
    go_ret2
    exact ⟨rfl, H.out⟩
theorem rElement_full (tag : Int) (h1 : 1 ≤ tag) (h2 : tag ≤ 16) (av : Value) (hR : RefOn w F rb T) {d : Nat → Nat} (hw : WF T d) (h3 : T.cap ≤ T.count) : Calls Tryz.prog 46 #[.pointer (some ⟨rb, 0, none⟩), .int .i64 tag, av] w (RTwoAft F w rb 0 3 T) := by
  have H := qh (RAft.refl hR)
  obtain ⟨_, _, _, _, c0, _⟩ := hR.at.slice
  have HR := qh hR
  have HW := qh hw
  clear hR hw
  go_enter Tryz.func46, Tryz.ntmps46
  go_upto_region 3 with fail
  have e0 := fun u : ExtOf w => u.ext.cell c0
  refine wp_region_ext (by kernel_rfl) (by kernel_rfl) ?_
  repeat (go_big_quiet_step (first | (go_at_call 86; exact inExt (rCountX (HR.out.ext (ExtOf.ext _)).at HW.out))))
  refine wpQuiet_nil ?_
  rintro _ ⟨u, rfl⟩
  clear e0
  have HU := qh (H.out.ext u.ext)
  go_wp2_with fail
  go_ret2
  exact ⟨rfl, HU.out⟩
theorem rElement_ok (tag : Int) (h1 : 1 ≤ tag) (h2 : tag ≤ 16) {av : Value} {attrs : List (ByteArray × ByteArray)} (ha : RowRd w 2 av attrs.length (attrCells attrs)) (hn : attrs.length ≤ 60000) (hR : RefOn w F rb T) {d : Nat → Nat} (hw : WF T d) (h3 : T.count < T.cap) : Calls Tryz.prog 46 #[.pointer (some ⟨rb, 0, none⟩), .int .i64 tag, av] w (RTwoAft F w rb T.newId 0 (T.put ⟨tag, attrs, ByteArray.empty, [], -1⟩)) := by
  rw [show ByteArray.empty = (⟨#[]⟩ : ByteArray) from rfl]
  obtain ⟨ao, cap0, hav, _⟩ := ha.len_of
  subst hav
  obtain ⟨_, _, _, _, c0, _⟩ := hR.at.slice
  have hlen := hw.small.len
  have HR := qh hR
  have HW := qh hw
  have HA := qh ha
  clear hR hw ha
  go_enter Tryz.func46, Tryz.ntmps46
  go_upto_region 3 with fail
  have e0 := fun u : ExtOf w => u.ext.cell c0
  refine wp_region_ext (by kernel_rfl) (by kernel_rfl) ?_
  repeat (go_big_quiet_step (first | (go_at_call 86; exact inExt (rCountX (HR.out.ext (ExtOf.ext _)).at HW.out))))
  refine wpQuiet_nil ?_
  rintro _ ⟨u, rfl⟩
  clear e0
  have HU := qh u.ext
  have HP := qh (radd (HR.out.ext u.ext) hlen tag ⟨#[]⟩ _ attrs (HA.out.ext u.ext) hn)
  go_wp2_with (go_at_call 87; refine HP.out.mono ?_; rintro e w' ⟨rfl, hk⟩)
  go_ret2
  exact ⟨rfl, RAft.after HU.out hk⟩
theorem rText_long (s : ByteArray) (hs : s.size ≤ 100000) (h : 8192 < (anewB s).size) (hR : RefOn w F rb T) : Calls Tryz.prog 32 #[.pointer (some ⟨rb, 0, none⟩), .string s] w (RTwoAft F w rb 0 10 T) := by
  have H := qh (RAft.refl hR)
  have HC := qh (Anew_any s hs w)
  clear hR
  go_enter Tryz.func32, Tryz.ntmps32
  go_wp2_with (go_at_call 85; refine HC.out.mono ?_; rintro e w' ⟨rfl, hx⟩)
  go_ret2
  exact ⟨rfl, H.out.ext hx⟩
theorem rText_full (s : ByteArray) (hs : s.size ≤ 100000) (h : (anewB s).size ≤ 8192) (hR : RefOn w F rb T) {d : Nat → Nat} (hw : WF T d) (h3 : T.cap ≤ T.count) : Calls Tryz.prog 32 #[.pointer (some ⟨rb, 0, none⟩), .string s] w (RTwoAft F w rb 0 3 T) := by
  have H := qh (RAft.refl hR)
  have HR := qh hR
  have HW := qh hw
  have HC := qh (Anew_any s hs w)
  clear hR hw
  go_enter Tryz.func32, Tryz.ntmps32
  go_upto_region 4 with (go_at_call 85; refine HC.out.mono ?_; rintro e w1 ⟨rfl, hx⟩)
  obtain ⟨_, _, _, _, c0, _⟩ := (HR.out.ext hx).at.slice
  have e0 := fun u : ExtOf w1 => u.ext.cell c0
  have HX := qh hx
  clear hx
  refine wp_region_ext (by kernel_rfl) (by kernel_rfl) ?_
  repeat (go_big_quiet_step (first | (go_at_call 86; exact inExt (rCountX (HR.out.ext (HX.out.trans (ExtOf.ext _))).at HW.out))))
  refine wpQuiet_nil ?_
  rintro _ ⟨u, rfl⟩
  clear e0
  have HU := qh (H.out.ext (HX.out.trans u.ext))
  go_wp2_with fail
  go_ret2
  exact ⟨rfl, HU.out⟩
theorem rText_ok (s : ByteArray) (hs : s.size ≤ 100000) (h : (anewB s).size ≤ 8192) (hR : RefOn w F rb T) {d : Nat → Nat} (hw : WF T d) (h3 : T.count < T.cap) : Calls Tryz.prog 32 #[.pointer (some ⟨rb, 0, none⟩), .string s] w (RTwoAft F w rb T.newId 0 (T.put ⟨0, [], anewB s, [], -1⟩)) := by
  have hlen := hw.small.len
  have HR := qh hR
  have HW := qh hw
  have HC := qh (Anew_any s hs w)
  clear hR hw
  go_enter Tryz.func32, Tryz.ntmps32
  go_upto_region 4 with (go_at_call 85; refine HC.out.mono ?_; rintro e w1 ⟨rfl, hx⟩)
  obtain ⟨_, _, _, _, c0, _⟩ := (HR.out.ext hx).at.slice
  have e0 := fun u : ExtOf w1 => u.ext.cell c0
  have HX := qh hx
  clear hx
  refine wp_region_ext (by kernel_rfl) (by kernel_rfl) ?_
  repeat (go_big_quiet_step (first | (go_at_call 86; exact inExt (rCountX (HR.out.ext (HX.out.trans (ExtOf.ext _))).at HW.out))))
  refine wpQuiet_nil ?_
  rintro _ ⟨u, rfl⟩
  clear e0
  have HU := qh (HX.out.trans u.ext)
  have HP := qh (radd (HR.out.ext HU.out) hlen 0 (anewB s) (.slice none 0 0) [] ⟨rfl, none, 0, rfl, Nat.le_refl _, fun _ => ⟨rfl, rfl⟩, fun a h => by cases h⟩ (by simp))
  go_wp2_with (go_at_call 87; refine HP.out.mono ?_; rintro e w' ⟨rfl, hk⟩)
  go_ret2
  exact ⟨rfl, RAft.after HU.out hk⟩
end
section
variable {w : World} {F : Nat → Prop} {rb : Nat} {T : Tr}
theorem rSet_none (hR : RefOn w F rb T) {id : Int} (h : T.get? id = none) (what tag : Int) (s : ByteArray) (av : Value) : Calls Tryz.prog 139 #[.pointer (some ⟨rb, 0, none⟩), .int .i64 what, .int .i64 id, .int .i64 tag, .string s, av] w (RErr F w rb 2 T) := by
  have H := qh (RAft.refl hR)
  have HAS := qh (rHas_no hR.at h)
  clear hR h
  go_enter Tryz.func139, Tryz.ntmps139
  go_wp2_with (go_at_call 91; refine HAS.out.mono ?_; rintro e w' ⟨rfl, rfl⟩)
  go_ret
  exact ⟨rfl, H.out⟩
theorem rSet_kind (hR : RefOn w F rb T) {id : Int} {nd : Nd} (h : T.get? id = some nd) (what tag : Int) (s : ByteArray) (av : Value) (hk : ((nd.tag == 0) == (what == 1)) = false) : Calls Tryz.prog 139 #[.pointer (some ⟨rb, 0, none⟩), .int .i64 what, .int .i64 id, .int .i64 tag, .string s, av] w (RErr F w rb 6 T) := by
  have HAS := qh (rHas_yes hR.at h)
  obtain ⟨i, rfl, hi, hl⟩ := nodes_some h
  obtain ⟨ga, g, hat, hF1, hF2, hF3⟩ := hR.out
  have HAT := qh hat
  have HFF := qh (And.intro hF1 (And.intro hF2 hF3))
  obtain ⟨cap, cur, b1, b2, b3, b4, b5, b6⟩ := hat.row
  have nrg : rb ≠ g := hat.ne
  have nrg' := Ne.symm nrg
  have c : w.cell? ⟨rb, 2, none⟩ = some (.slice (some ⟨g, 0, none⟩) T.nodes.length cap) := cellOf b1 rfl
  have ch : w.cell? ⟨rb, 0, none⟩ = some (.int .i64 T.cap) := cellOf b1 rfl
  obtain ⟨va, vk, r0, r1, r2, r3, r4, r5, r6, r7⟩ := (b6 i _ hi).out
  replace r1 : w.cell? ⟨g, i * 6 + 1, none⟩ = some (.int .i64 nd.tag) := cellOf b4 r1
  replace r3 := cellOf b4 r3
  replace r4 := cellOf b4 r4
  have f1 := freeOf b4 (i * 6 + 1)
  have f3 := freeOf b4 (i * 6 + 3)
  have f4 := freeOf b4 (i * 6 + 4)
  have lg := (Array.getElem?_eq_some_iff.1 b4).1
  have HI := qh hi
  have H := qh (RAft.refl hR)
  clear hat hF1 hF2 hF3 b6 hi hR b1 b4 h r0 r2 r5 r6 r7
  obtain ⟨p, hp⟩ : ∃ p, (nd.tag == 0) = p := ⟨_, rfl⟩
  obtain ⟨q, hq⟩ : ∃ q, (what == 1) = q := ⟨_, rfl⟩
  rw [hp, hq] at hk
  go_enter Tryz.func139, Tryz.ntmps139
  go_upto_region 3 with (go_at_call 91; refine HAS.out.mono ?_; rintro e w' ⟨rfl, rfl⟩)
  cases p <;> cases q <;> simp at hk
  · go_wp2_with fail
    go_ret
    exact ⟨rfl, H.out⟩
  · go_wp2_with fail
    go_ret
    exact ⟨rfl, H.out⟩
theorem rSet_long (hR : RefOn w F rb T) {id : Int} {nd : Nd} (h : T.get? id = some nd) (ht : (nd.tag == 0) = true) (tag : Int) (s : ByteArray) (av : Value) (hs : s.size ≤ 100000) (hz : 8192 < (anewB s).size) : Calls Tryz.prog 139 #[.pointer (some ⟨rb, 0, none⟩), .int .i64 1, .int .i64 id, .int .i64 tag, .string s, av] w (RErr F w rb 10 T) := by
  have HAS := qh (rHas_yes hR.at h)
  obtain ⟨i, rfl, hi, hl⟩ := nodes_some h
  obtain ⟨ga, g, hat, hF1, hF2, hF3⟩ := hR.out
  have HAT := qh hat
  have HFF := qh (And.intro hF1 (And.intro hF2 hF3))
  obtain ⟨cap, cur, b1, b2, b3, b4, b5, b6⟩ := hat.row
  have nrg : rb ≠ g := hat.ne
  have nrg' := Ne.symm nrg
  have c : w.cell? ⟨rb, 2, none⟩ = some (.slice (some ⟨g, 0, none⟩) T.nodes.length cap) := cellOf b1 rfl
  have ch : w.cell? ⟨rb, 0, none⟩ = some (.int .i64 T.cap) := cellOf b1 rfl
  obtain ⟨va, vk, r0, r1, r2, r3, r4, r5, r6, r7⟩ := (b6 i _ hi).out
  replace r1 : w.cell? ⟨g, i * 6 + 1, none⟩ = some (.int .i64 nd.tag) := cellOf b4 r1
  replace r3 := cellOf b4 r3
  replace r4 := cellOf b4 r4
  have f1 := freeOf b4 (i * 6 + 1)
  have f3 := freeOf b4 (i * 6 + 3)
  have f4 := freeOf b4 (i * 6 + 4)
  have lg := (Array.getElem?_eq_some_iff.1 b4).1
  have HI := qh hi
  have H := qh (RAft.refl hR)
  clear hat hF1 hF2 hF3 b6 hi hR b1 b4 h r0 r2 r5 r6 r7
  have HC := qh (Anew_any s hs w)
  go_enter Tryz.func139, Tryz.ntmps139
  go_wp2_with (first | (go_at_call 91; refine HAS.out.mono ?_; rintro e w' ⟨rfl, rfl⟩) | (go_at_call 85; refine HC.out.mono ?_; rintro e w' ⟨rfl, hx⟩))
  go_ret
  exact ⟨rfl, H.out.ext hx⟩
theorem rSet_text (hR : RefOn w F rb T) {id : Int} {nd : Nd} (h : T.get? id = some nd) (ht : (nd.tag == 0) = true) (tag : Int) (s : ByteArray) (av : Value) (hs : s.size ≤ 100000) (hz : (anewB s).size ≤ 8192) : Calls Tryz.prog 139 #[.pointer (some ⟨rb, 0, none⟩), .int .i64 1, .int .i64 id, .int .i64 tag, .string s, av] w (RErr F w rb 0 (T.setAt id.toNat { nd with text := anewB s })) := by
  have HAS := qh (rHas_yes hR.at h)
  obtain ⟨i, rfl, hi, hl⟩ := nodes_some h
  obtain ⟨ga, g, hat, hF1, hF2, hF3⟩ := hR.out
  have HAT := qh hat
  have HFF := qh (And.intro hF1 (And.intro hF2 hF3))
  obtain ⟨cap, cur, b1, b2, b3, b4, b5, b6⟩ := hat.row
  have nrg : rb ≠ g := hat.ne
  have nrg' := Ne.symm nrg
  have c : w.cell? ⟨rb, 2, none⟩ = some (.slice (some ⟨g, 0, none⟩) T.nodes.length cap) := cellOf b1 rfl
  have ch : w.cell? ⟨rb, 0, none⟩ = some (.int .i64 T.cap) := cellOf b1 rfl
  obtain ⟨va, vk, r0, r1, r2, r3, r4, r5, r6, r7⟩ := (b6 i _ hi).out
  replace r1 : w.cell? ⟨g, i * 6 + 1, none⟩ = some (.int .i64 nd.tag) := cellOf b4 r1
  replace r3 := cellOf b4 r3
  replace r4 := cellOf b4 r4
  have f1 := freeOf b4 (i * 6 + 1)
  have f3 := freeOf b4 (i * 6 + 3)
  have f4 := freeOf b4 (i * 6 + 4)
  have lg := (Array.getElem?_eq_some_iff.1 b4).1
  have HI := qh hi
  have H := qh (RAft.refl hR)
  clear hat hF1 hF2 hF3 b6 hi hR b1 b4 h r0 r2 r5 r6 r7
  rw [Int.toNat_natCast]
  have HC := qh (fun w => Anew_any s hs w)
  go_enter Tryz.func139, Tryz.ntmps139
  go_upto_region 11 with (first | (go_at_call 91; refine HAS.out.mono ?_; rintro e w' ⟨rfl, rfl⟩) | (go_at_call 85; refine (HC.out _).mono ?_; rintro e w1 ⟨rfl, hx⟩))
  have HX := qh hx
  have c1 := hx.cell c
  have ch1 := hx.cell ch
  clear hx
  refine wp_region_E (S := fun w' => w'.cell? ⟨rb, 2, none⟩ = some (.slice (some ⟨g, 0, none⟩) T.nodes.length cap) ∧ w'.cell? ⟨rb, 0, none⟩ = some (.int .i64 T.cap)) (n := 9) (by kernel_rfl) ?_
  have hS : w1.drew.cell? ⟨rb, 2, none⟩ = some (.slice (some ⟨g, 0, none⟩) T.nodes.length cap) ∧ w1.drew.cell? ⟨rb, 0, none⟩ = some (.int .i64 T.cap) := ⟨c1, ch1⟩
  show wpE _ _ _ _ _ 9 10 (Array.replicate 10 false) _ _
  refine wpE_tk 0 48 (.pointer (some ⟨rb, 0, none⟩)) rfl (.inl ⟨by rfl, fun w' hSw => ?_⟩) hS ?_
  · (obtain ⟨s1, s2⟩ := hSw; clear hS; go_simp)
  try simp only [Act.put, zA, zB, zC]
  refine wpE_tk 1 49 (.pointer (some ⟨rb, 0, none⟩)) rfl (.inl ⟨by rfl, fun w' hSw => ?_⟩) hS ?_
  · (obtain ⟨s1, s2⟩ := hSw; clear hS; go_simp)
  try simp only [Act.put, zA, zB, zC]
  refine wpE_tk 2 50 (.pointer (some ⟨rb, 2, none⟩)) rfl (.inl ⟨by rfl, fun w' hSw => ?_⟩) hS ?_
  · (obtain ⟨s1, s2⟩ := hSw; clear hS; go_simp)
  try simp only [Act.put, zA, zB, zC]
  refine wpE_tk 3 51 (.slice (some ⟨g, 0, none⟩) T.nodes.length cap) rfl (.inl ⟨by rfl, fun w' hSw => ?_⟩) hS ?_
  · (obtain ⟨s1, s2⟩ := hSw; clear hS; go_simp)
  try simp only [Act.put, zA, zB, zC]
  refine wpE_tk 4 52 (.int .i64 i) rfl (.inl ⟨by rfl, fun w' hSw => ?_⟩) hS ?_
  · (obtain ⟨s1, s2⟩ := hSw; clear hS; go_simp)
  try simp only [Act.put, zA, zB, zC]
  refine wpE_tk 5 53 (.string s) rfl (.inl ⟨by rfl, fun w' hSw => ?_⟩) hS ?_
  · (obtain ⟨s1, s2⟩ := hSw; clear hS; go_simp)
  try simp only [Act.put, zA, zB, zC]
  refine wpE_on 6 (some 54) rfl (fun K hK => ?_)
  go_simp
  refine (HC.out _).mono ?_
  rintro e wA ⟨rfl, hxA⟩
  have xA : Ext w wA := HX.out.trans ((Ext.refl w1).drew.trans hxA)
  have cA := xA.cell c
  have chA := xA.cell ch
  have rA := xA.cell r4
  have fA := xA.free lg f4
  have HXA := qh xA
  clear hxA xA hS c1 ch1
  refine hK.out _ _ (.inr ⟨cA, chA⟩) ?_
  clear hK K
  try simp only [Act.put, zA, zB, zC]
  refine wpE_on 7 (some 55) rfl (fun K hK => ?_)
  go_simp
  refine hK.out _ _ (.inr ⟨cA, chA⟩) ?_
  clear hK K
  try simp only [Act.put, zA, zB, zC]
  refine wpE_on 8 (some 56) rfl (fun K hK => ?_)
  go_simp
  refine hK.out _ _ (.inr ⟨cA, chA⟩) ?_
  clear hK K
  try simp only [Act.put, zA, zB, zC]
  refine wpE_on 9 (none) rfl (fun K hK => ?_)
  go_simp
  refine hK.out _ _ (.inl rfl) ?_
  clear hK K
  refine wpE_done (by kernel_rfl) ?_
  go_wp2_with fail
  go_ret
  exact ⟨rfl, RefAt.put1 HAT.out HFF.out.1 HFF.out.2.1 HFF.out.2.2 (T' := T.setAt i { nd with text := anewB s }) (j := i) (m := 4) (o := some nd) (o' := some { nd with text := anewB s }) (v := .string (anewB s)) HXA.out rfl rfl rfl HI.out (by decide) (fun G cur hG hb hl hr => recAt_set hr hG (by decide) hl (by simp) (by simp) (by simp) (by simp) (by simp) (by decide))⟩
end
theorem append_ints {w : World} {B : Nat} {v u : Value} {n m : Nat} {xs ys : List Value} (hr : RowP w (fun b => B ≤ b) 3 1 v n xs) (h : RowRd w 1 u m ys) (hn : n + m ≤ 60000) (h1 : ∀ z ∈ ys, z.oneCell' = true) :
    ∃ v' w' row, (Builtin.append_ #[40, 40] 40 #[v, u]).run Tryz.prog w = .ok v' w' ∧ RowP w' (fun b => B ≤ b ∨ w.heap.size ≤ b) 3 1 v' (n + m) (xs ++ ys) ∧ w.grownBy w' row ∧ ∀ k, row = some k → B ≤ k := by
  obtain ⟨hl, ao, cap, rfl, hcap, hnone, hc⟩ := h
  rcases Nat.eq_zero_or_pos m with rfl | hpos
  · obtain rfl : ys = [] := List.eq_nil_of_length_eq_zero (by simpa using hl)
    refine ⟨v, w, none, ?_, ?_, World.grownBy.refl _ _, fun k hk => by cases hk⟩
    · obtain ⟨vo, vc, rfl, _⟩ := hr.rd.len_of
      cases ao with
      | none => obtain ⟨_, rfl⟩ := hnone rfl; cases vo <;> go_simp
      | some a => cases vo <;> go_simp
    · rw [List.append_nil]; exact RowP.imp hr fun g _ hg => .inl hg
  · cases ao with
    | none => exact absurd (hnone rfl).1 (by omega)
    | some a =>
      obtain ⟨i0, hi, hz0, hz1, hz2⟩ := info_parts infoI
      exact run_append_row (P := Tryz.prog) w 40 40 3 i0 _ 1 _ Tryz.underlying40 hi hz0 hz1 hz2 (by kernel_rfl) (by decide) hr a m cap ys hl (hc a rfl) h1 hpos (by unfold maxLen; omega) (by omega)
theorem RowRd.front {w : World} {ao : Option Addr} {n cap j : Nat} {xs : List Value} (h : RowRd w 1 (.slice ao n cap) n xs) (hj : j ≤ n) : RowRd w 1 (.slice ao j cap) j (xs.take j) := by
  obtain ⟨hl, _, _, e, hcap, hnone, hc⟩ := h
  cases e
  refine ⟨by simp; omega, ao, cap, rfl, by omega, fun h => ?_, fun a ha k x hx => hc a ha k x ?_⟩
  · obtain ⟨h1, h2⟩ := hnone h; exact ⟨by omega, h2⟩
  · rw [List.getElem?_take] at hx
    split at hx
    · exact hx
    · cases hx
theorem RowRd.back {w : World} {a : Addr} {n cap j : Nat} {xs : List Value} (h : RowRd w 1 (.slice (some a) n cap) n xs) (hj : j ≤ n) : RowRd w 1 (.slice (some (a.add j)) (n - j) (cap - j)) (n - j) (xs.drop j) := by
  obtain ⟨hl, _, _, e, hcap, hnone, hc⟩ := h
  cases e
  refine ⟨by simp; omega, _, _, rfl, by omega, (fun h => by cases h), fun b hb k x hx => ?_⟩
  cases hb
  rw [List.getElem?_drop] at hx
  rw [Addr.add_add]
  exact hc a rfl (j + k) x hx
theorem RowRd.backIf {w : World} {a : Addr} {n cap j : Nat} {xs : List Value} (h : RowRd w 1 (.slice (some a) n cap) n xs) (hj : j ≤ n) : RowRd w 1 (.slice (if cap = j then some a else some (a.add j)) (n - j) (cap - j)) (n - j) (xs.drop j) := by
  by_cases e : cap = j
  · obtain ⟨hl, _, _, e2, hcap, hnone, hc⟩ := h
    cases e2
    rw [if_pos e]
    refine ⟨by simp; omega, _, _, rfl, by omega, (fun h => by cases h), fun b hb k x hx => ?_⟩
    rw [List.drop_eq_nil_of_le (by omega)] at hx
    cases hx
  · rw [if_neg e]; exact h.back hj
theorem RAft.poke {F : Nat → Prop} {a b : World} {rb g n cap : Nat} {T1 T2 : Tr} (h : RAft F a rb T1 b) (hc : b.cell? ⟨rb, 2, none⟩ = some (.slice (some ⟨g, 0, none⟩) n cap)) {j m : Nat} {o o' : Option Nd} {v : Value}
    (t1 : T2.cap = T1.cap) (t2 : T2.deep = T1.deep) (t3 : T2.nodes = T1.nodes.set j o') (hj : T1.nodes[j]? = some o) (hm : m < 6)
    (hr : ∀ (ga G : World) (cur : Array Value), Cells ga G → j * 6 + m < cur.size → RecAt ga cur j o → RecAt G (cur.setIfInBounds (j * 6 + m) v) j o') : RAft F a rb T2 (b.setCell ⟨g, j * 6 + m, none⟩ v) := by
  obtain ⟨ga, g', hat, f1, f2, f3⟩ := h.on.out
  obtain ⟨cap', cur, b1, _⟩ := hat.row
  have e := cellOf b1 (i := 2) rfl
  rw [hc] at e
  have e2 : g = g' := by injection e with e; injection e with e _ _; injection e with e; injection e
  subst e2
  exact h.trans (RefAt.put1 hat f1 f2 f3 (Ext.refl b) t1 t2 t3 hj hm fun G cur hG _ hl h => hr ga G cur hG hl h)
theorem erase_cut {l : List Int} {x : Int} {j : Nat} (h : posOf l x = (j : Int)) (hx : x ∈ l) : l.erase x = l.take j ++ l.drop (j + 1) := by
  obtain ⟨k1, k2, k3⟩ := posOf_mem hx
  have e : l.idxOf x = j := by omega
  rw [← k3, e, List.eraseIdx_eq_take_drop_succ]
theorem cut_row {w : World} {p : Nat → Prop} {l l' : List Int} {j : Nat} {a : Option Addr} {c : Nat} (hj : j < l.length) (he : l' = l.take j ++ l.drop (j + 1))
    (h : RowP w p 3 1 (.slice a (j + (l.length - (j + 1))) c) (j + (l.length - (j + 1))) ((l.map (Value.int .i64)).take j ++ (l.map (Value.int .i64)).drop (j + 1))) : RowP w p 3 1 (.slice a (j + (l.length - (j + 1))) c) l'.length (l'.map (Value.int .i64)) := by
  have e1 : l'.length = j + (l.length - (j + 1)) := by rw [he]; simp; omega
  have e2 : l'.map (Value.int .i64) = (l.map (Value.int .i64)).take j ++ (l.map (Value.int .i64)).drop (j + 1) := by rw [he]; simp [List.map_take, List.map_drop]
  rw [e1, e2]; exact h
section
variable {w : World} {F : Nat → Prop} {rb : Nat} {T : Tr}
theorem rRemove_none (hR : RefOn w F rb T) {id : Int} (h : T.get? id = none) : Calls Tryz.prog 93 #[.pointer (some ⟨rb, 0, none⟩), .int .i64 id] w (RErr F w rb 2 T) := by
  have H := qh (RAft.refl hR)
  have HAS := qh (rHas_no hR.at h)
  clear hR h
  go_enter Tryz.func93, Tryz.ntmps93
  go_wp2_with (go_at_call 91; refine HAS.out.mono ?_; rintro e w' ⟨rfl, rfl⟩)
  go_ret
  exact ⟨rfl, H.out⟩
theorem rRemove_root (hR : RefOn w F rb T) {id : Int} {nd : Nd} (h : T.get? id = some nd) (hp : nd.parent < 0) : Calls Tryz.prog 93 #[.pointer (some ⟨rb, 0, none⟩), .int .i64 id] w (RErr F w rb 1 T) := by
  have H := qh (RAft.refl hR)
  have HAS := qh (rHas_yes hR.at h)
  obtain ⟨i, rfl, hi, hl⟩ := nodes_some h
  obtain ⟨g, cap, aa, ac, ka, kc, c, c0, c1, c2, _⟩ := hR.at.one hi
  replace c2 : w.cell? ⟨g, i * 6 + 2, none⟩ = some (.int .i64 nd.parent) := c2
  clear hR h hi c0 c1
  go_enter Tryz.func93, Tryz.ntmps93
  go_wp2_with (go_at_call 91; refine HAS.out.mono ?_; rintro e w' ⟨rfl, rfl⟩)
  go_ret
  exact ⟨rfl, H.out⟩
theorem rRemove_ok (hR : RefOn w F rb T) {d : Nat → Nat} (hw : WF T d) {p k : Nat} {pd kd : Nd} (hp : T.nodes[p]? = some (some pd)) (hk : T.nodes[k]? = some (some kd)) (hpar : kd.parent = (p : Int)) (hmem : (k : Int) ∈ pd.kids) (hpk : p ≠ k) :
    Calls Tryz.prog 93 #[.pointer (some ⟨rb, 0, none⟩), .int .i64 k] w (RErr F w rb 0 (T.unlink p k pd kd)) := by
  obtain ⟨j, j1, j2, j3⟩ := posOf_first hmem
  have HIX := qh (rIndex_kid hR.at hw hk hpar hp j1 j2 j3)
  have HAS := qh (rHas_yes hR.at (Tr.get_of hk))
  have hkl := hw.kids_len hp
  have hjl := (List.getElem?_eq_some_iff.1 j2).1
  have hpl := (List.getElem?_eq_some_iff.1 hp).1
  have hkl2 := (List.getElem?_eq_some_iff.1 hk).1
  obtain ⟨ga, g, hat, hF1, hF2, hF3⟩ := hR.out
  have HAT := qh hat
  have HFF := qh (And.intro hF1 (And.intro hF2 hF3))
  have nrg : rb ≠ g := hat.ne
  have nrg' := Ne.symm nrg
  obtain ⟨cap, cur, b1, b2, b3, b4, b5, b6⟩ := hat.row
  have c : w.cell? ⟨rb, 2, none⟩ = some (.slice (some ⟨g, 0, none⟩) T.nodes.length cap) := cellOf b1 rfl
  have ch : w.cell? ⟨rb, 0, none⟩ = some (.int .i64 T.cap) := cellOf b1 rfl
  have lg := (Array.getElem?_eq_some_iff.1 b4).1
  have fp := freeOf b4 (p * 6 + 5)
  have fk := freeOf b4 (k * 6 + 2)
  obtain ⟨va, vk, r0, r1, r2, r3, r4, r5, r6, r7⟩ := (b6 k _ hk).out
  replace r2 : w.cell? ⟨g, k * 6 + 2, none⟩ = some (.int .i64 p) := by rw [← hpar]; exact cellOf b4 r2
  clear r0 r1 r3 r4 r5 r6 r7
  obtain ⟨va', vk', r0, r1, _, r3, r4, r5, r6, r7⟩ := (b6 p _ hp).out
  replace r5 := cellOf b4 r5
  replace r7 : RowRd w 1 vk' pd.kids.length (pd.kids.map (Value.int .i64)) := r7.cells fun q y hq => (hat.told q y hq).1
  obtain ⟨ak, ck, rfl, _⟩ := r7.len_of
  obtain ⟨ad, rfl⟩ : ∃ ad, ak = some ad := by
    cases ak with
    | none => obtain ⟨_, _, _, e, _, hn, _⟩ := r7; cases e; have := (hn rfl).1; omega
    | some ad => exact ⟨ad, rfl⟩
  obtain ⟨kb, ko, ks⟩ := ad
  have HRD := qh r7
  have HP := qh hp
  have HK := qh hk
  have J1 := qh j1
  have J2 := qh j2
  have HM := qh hmem
  clear hw hp hk hpar hmem hR hat hF1 hF2 hF3 b1 b4 b6 r0 r1 r3 r4 r6 r7 j1 j2 j3
  go_enter Tryz.func93, Tryz.ntmps93
  go_upto_region 7 with (first | (go_at_call 91; refine HAS.out.mono ?_; rintro e w' ⟨rfl, rfl⟩) | (go_at_call 90; refine HIX.out.mono ?_; rintro e w1 ⟨rfl, hx⟩))
  have xe := (Ext.refl w1).alloc (.cells #[] 3)
  have ze : (w1.alloc (.cells #[] 3)).heap.size = w1.heap.size + 1 := by simp
  obtain ⟨v', wA, row, hrun, hra, hga, hrow⟩ := append_ints (w := w1.alloc (.cells #[] 3)) (B := w1.heap.size) (v := .slice (some ⟨w1.heap.size, 0, none⟩) 0 0) (n := 0) (xs := []) ⟨rfl, .inl ⟨rfl, _, rfl⟩⟩ ((RowRd.front HRD.out (j := j) (by omega)).ext (hx.trans xe)) (by omega) (fun z hz => ints_one pd.kids z (List.mem_of_mem_take hz))
  rw [Nat.zero_add, List.nil_append] at hra
  obtain ⟨a1, c1, rfl, hjc1⟩ := hra.rd.len_of
  have xA : Ext w wA := (hx.trans xe).grown hga fun z hz => Nat.le_trans hx.size (hrow z hz)
  have cE := (hx.trans xe).cell c
  have rE := (hx.trans xe).cell r5
  have cA := xA.cell c
  have chA := xA.cell ch
  have rA := xA.cell r5
  have fpA := xA.free lg fp
  have kA := xA.cell r2
  have fkA := xA.free lg fk
  have XA := qh xA
  have HRUN := qh hrun
  have hs1 := hx.size
  have HRA := qh (RowP.imp hra (q := fun b => w.heap.size ≤ b) fun b _ hb => by rcases hb with h | h; exact Nat.le_trans hs1 h; omega)
  clear hra hrun xe xA ze hga hrow hx hs1
  go_wp2_with (at_builtin; refine wpList_append_run _ rfl _ _ 40 rfl _ _ rfl rfl _ _ HRUN.out ?_)
  have hck : pd.kids.length ≤ ck ∧ ck ≤ ck := by
    obtain ⟨_, _, _, e, h, _⟩ := HRD.out
    cases e
    exact ⟨h, Nat.le_refl _⟩
  obtain ⟨vB, wB, rowB, hrunB, hrB, hgB, hrowB⟩ := append_ints (w := wA.drew) (B := w.heap.size) (v := .slice a1 j c1) (n := j) HRA.out ((RowRd.backIf HRD.out (j := j + 1) (by omega)).ext (XA.out.drew)) (by omega) (fun z hz => ints_one pd.kids z (List.mem_of_mem_drop hz))
  obtain ⟨a2, c2, rfl, _⟩ := hrB.rd.len_of
  have XB := qh (XA.out.drew.grown hgB hrowB)
  have cB := XB.out.cell c
  have chB := XB.out.cell ch
  have rB := XB.out.cell r5
  have fpB := XB.out.free lg fp
  have kB := XB.out.cell r2
  have fkB := XB.out.free lg fk
  have HRUNB := qh hrunB
  have hsA := XA.out.size
  have HRB := qh (RowP.imp hrB (q := fun b => w.heap.size ≤ b) fun b _ hb => by rcases hb with h | h; exact h; exact Nat.le_trans hsA h)
  clear hrB hrunB hgB hrowB hsA cE rE
  have hw1 : IntKind.i64.wrap ((j : Int) + 1) = ((j + 1 : Nat) : Int) := by rw [IntWalk.i64_in _ (by omega)]; omega
  have hif : 0 ≤ (j : Int) + 1 ∧ (j : Int) + 1 ≤ (pd.kids.length : Int) := by omega
  refine wp_region_E (S := fun w' => w'.cell? ⟨rb, 2, none⟩ = some (.slice (some ⟨g, 0, none⟩) T.nodes.length cap) ∧ w'.cell? ⟨g, p * 6 + 5, none⟩ = some (.slice (some ⟨kb, ko, ks⟩) pd.kids.length ck)) (n := 20) (by kernel_rfl) ?_
  have hS : wA.drew.cell? ⟨rb, 2, none⟩ = some (.slice (some ⟨g, 0, none⟩) T.nodes.length cap) ∧ wA.drew.cell? ⟨g, p * 6 + 5, none⟩ = some (.slice (some ⟨kb, ko, ks⟩) pd.kids.length ck) := ⟨cA, rA⟩
  show wpE _ _ _ _ _ 20 21 (Array.replicate 21 false) _ _
  refine wpE_tk 0 44 (.pointer (some ⟨rb, 0, none⟩)) rfl (.inl ⟨by rfl, fun w' hSw => ?_⟩) hS ?_
  · (obtain ⟨s1, s2⟩ := hSw; clear hS; go_simp)
  try simp only [Act.put, zA, zB, zC]
  refine wpE_tk 1 45 (.pointer (some ⟨rb, 0, none⟩)) rfl (.inl ⟨by rfl, fun w' hSw => ?_⟩) hS ?_
  · (obtain ⟨s1, s2⟩ := hSw; clear hS; go_simp)
  try simp only [Act.put, zA, zB, zC]
  refine wpE_tk 2 46 (.pointer (some ⟨rb, 2, none⟩)) rfl (.inl ⟨by rfl, fun w' hSw => ?_⟩) hS ?_
  · (obtain ⟨s1, s2⟩ := hSw; clear hS; go_simp)
  try simp only [Act.put, zA, zB, zC]
  refine wpE_tk 3 47 (.slice (some ⟨g, 0, none⟩) T.nodes.length cap) rfl (.inl ⟨by rfl, fun w' hSw => ?_⟩) hS ?_
  · (obtain ⟨s1, s2⟩ := hSw; clear hS; go_simp)
  try simp only [Act.put, zA, zB, zC]
  refine wpE_tk 4 48 (.int .i64 p) rfl (.inl ⟨by rfl, fun w' hSw => ?_⟩) hS ?_
  · (obtain ⟨s1, s2⟩ := hSw; clear hS; go_simp)
  try simp only [Act.put, zA, zB, zC]
  refine wpE_tk 5 49 (.slice a1 j c1) rfl (.inl ⟨by rfl, fun w' hSw => ?_⟩) hS ?_
  · (obtain ⟨s1, s2⟩ := hSw; clear hS; go_simp)
  try simp only [Act.put, zA, zB, zC]
  refine wpE_tk 6 50 (.pointer (some ⟨rb, 0, none⟩)) rfl (.inl ⟨by rfl, fun w' hSw => ?_⟩) hS ?_
  · (obtain ⟨s1, s2⟩ := hSw; clear hS; go_simp)
  try simp only [Act.put, zA, zB, zC]
  refine wpE_tk 7 51 (.pointer (some ⟨rb, 0, none⟩)) rfl (.inl ⟨by rfl, fun w' hSw => ?_⟩) hS ?_
  · (obtain ⟨s1, s2⟩ := hSw; clear hS; go_simp)
  try simp only [Act.put, zA, zB, zC]
  refine wpE_tk 8 52 (.pointer (some ⟨rb, 2, none⟩)) rfl (.inl ⟨by rfl, fun w' hSw => ?_⟩) hS ?_
  · (obtain ⟨s1, s2⟩ := hSw; clear hS; go_simp)
  try simp only [Act.put, zA, zB, zC]
  refine wpE_tk 9 53 (.slice (some ⟨g, 0, none⟩) T.nodes.length cap) rfl (.inl ⟨by rfl, fun w' hSw => ?_⟩) hS ?_
  · (obtain ⟨s1, s2⟩ := hSw; clear hS; go_simp)
  try simp only [Act.put, zA, zB, zC]
  refine wpE_tk 10 54 (.int .i64 p) rfl (.inl ⟨by rfl, fun w' hSw => ?_⟩) hS ?_
  · (obtain ⟨s1, s2⟩ := hSw; clear hS; go_simp)
  try simp only [Act.put, zA, zB, zC]
  refine wpE_tk 11 55 (.pointer (some ⟨g, p * 6, none⟩)) rfl (.inl ⟨by rfl, fun w' hSw => ?_⟩) hS ?_
  · (obtain ⟨s1, s2⟩ := hSw; clear hS; go_simp)
  try simp only [Act.put, zA, zB, zC]
  refine wpE_tk 12 56 (.pointer (some ⟨g, p * 6 + 5, none⟩)) rfl (.inl ⟨by rfl, fun w' hSw => ?_⟩) hS ?_
  · (obtain ⟨s1, s2⟩ := hSw; clear hS; go_simp)
  try simp only [Act.put, zA, zB, zC]
  refine wpE_tk 13 57 (.slice (some ⟨kb, ko, ks⟩) pd.kids.length ck) rfl (.inl ⟨by rfl, fun w' hSw => ?_⟩) hS ?_
  · (obtain ⟨s1, s2⟩ := hSw; clear hS; go_simp)
  try simp only [Act.put, zA, zB, zC]
  refine wpE_tk 14 58 (.int .i64 j) rfl (.inl ⟨by rfl, fun w' hSw => ?_⟩) hS ?_
  · (obtain ⟨s1, s2⟩ := hSw; clear hS; go_simp)
  try simp only [Act.put, zA, zB, zC]
  refine wpE_on 15 (some 59) rfl (fun K hK => ?_)
  go_simp
  refine hK.out _ _ (.inr ⟨cA, rA⟩) ?_
  clear hK K
  try simp only [Act.put, zA, zB, zC]
  refine wpE_on 16 (some 60) rfl (fun K hK => ?_)
  go_simp
  refine hK.out _ _ (.inr ⟨cA, rA⟩) ?_
  clear hK K
  try simp only [Act.put, zA, zB, zC]
  refine wpE_on 17 (some 61) rfl (fun K hK => ?_)
  refine step_append_run (by rfl) _ _ 40 (by rfl) (.slice a1 j c1) (.slice (if ck = j + 1 then some ⟨kb, ko, ks⟩ else some (Addr.add ⟨kb, ko, ks⟩ (j + 1))) (pd.kids.length - (j + 1)) (ck - (j + 1))) (by rfl) (by rfl) (.slice a2 (j + (pd.kids.length - (j + 1))) c2) wB HRUNB.out ?_
  refine hK.out _ _ (.inr ⟨cB, rB⟩) ?_
  clear hK K
  try simp only [Act.put, zA, zB, zC]
  refine wpE_on 18 (some 62) rfl (fun K hK => ?_)
  go_simp
  refine hK.out _ _ (.inr ⟨cB, rB⟩) ?_
  clear hK K
  try simp only [Act.put, zA, zB, zC]
  refine wpE_on 19 (some 63) rfl (fun K hK => ?_)
  go_simp
  refine hK.out _ _ (.inr ⟨cB, rB⟩) ?_
  clear hK K
  try simp only [Act.put, zA, zB, zC]
  refine wpE_on 20 (none) rfl (fun K hK => ?_)
  go_simp
  refine hK.out _ _ (.inl rfl) ?_
  clear hK K
  refine wpE_done (by kernel_rfl) ?_
  go_wp2_with fail
  all_goals
    go_ret
    refine ⟨rfl, RAft.poke (b := wB.setCell ⟨g, p * 6 + 5, none⟩ (.slice a2 (j + (pd.kids.length - (j + 1))) c2)) (T1 := T.setAt p { pd with kids := pd.kids.erase (k : Int) }) (o := some kd) (o' := some { kd with parent := -1 }) ?_ ((World.cell?_of_block (a := ⟨rb, 2, none⟩) (heap_setCell_other (p := ⟨g, p * 6 + 5, none⟩) _ nrg)).trans cB) rfl rfl rfl ?_ (by decide) (fun ga G cur hG hl hr => recAt_set hr hG (by decide) hl (by simp) (by simp) (by simp) (by simp) (by simp) (by decide))⟩
    · have hrow := cut_row hjl (erase_cut J1.out HM.out) HRB.out
      refine RefAt.put1 HAT.out HFF.out.1 HFF.out.2.1 HFF.out.2.2 (T' := T.setAt p { pd with kids := pd.kids.erase (k : Int) }) (j := p) (m := 5) (o := some pd) (o' := some { pd with kids := pd.kids.erase (k : Int) }) XB.out rfl rfl rfl HP.out (by decide) (fun G cur hG hb hl hr => recAt_set hr hG (by decide) hl (by simp) (by simp) (by simp) (by simp) ?_ (by decide))
      simp only [if_true]
      exact RowP.rd (RowP.move hrow (p' := fun _ => True) fun b hb' => ⟨hb b hb', trivial⟩)
    · show (T.nodes.set p _)[k]? = _
      rw [List.getElem?_set_ne hpk]; exact HK.out
end
section
variable {T : Tr} {d : Nat → Nat}
theorem WF.win_within (hw : WF T d) {o : Int} : ∀ id, (∃ nd, T.get? id = some nd) → T.win id o = T.within id o := by
  refine hw.down _ (fun id h => ?_) (fun id h ih => ?_)
  · rintro ⟨nd, hg⟩
    obtain ⟨i, rfl, hi⟩ := nat_of hg
    have hu := hw.up_neg h
    rw [hw.win_step hg, hw.within_step hi, hu, hw.win_none (Tr.get_neg T (by omega))]
    rw [Tr.up_some hg] at hu
    rw [hu, within_neg]
    by_cases e : (i : Int) = o <;> simp [e]
  · rintro ⟨nd, hg⟩
    obtain ⟨i, rfl, hi⟩ := nat_of hg
    rw [hw.win_step hg, hw.within_step hi, ih (hw.up_get h), Tr.up_some hg]
    by_cases e : (i : Int) = o <;> simp [e]
theorem WF.path_rank (hw : WF T d) : ∀ id, (∃ nd, T.get? id = some nd) → (T.pathOf id).length + 1 = T.rank d id := by
  refine hw.down _ (fun id h => ?_) (fun id h ih => ?_)
  · rintro ⟨nd, hg⟩
    obtain ⟨i, rfl, hi⟩ := nat_of hg
    rw [hw.path_step, if_neg h]
    unfold Tr.rank
    rw [hg]
    have hu := hw.up_neg h
    rw [Tr.up_some hg] at hu
    rcases hw.up i nd hi with ⟨h1, h2⟩ | ⟨p, pd, h1, _⟩
    · simp [h2]
    · omega
  · rintro ⟨nd, hg⟩
    have := ih (hw.up_get h)
    rw [hw.path_step, if_pos h, hw.rank_up h]; simp; omega
end
theorem nil_row (w : World) {e : Nat} : RowRd w e (.slice none 0 0) 0 [] := ⟨by simp, none, 0, rfl, Nat.le_refl _, fun _ => ⟨rfl, rfl⟩, fun a h => by cases h⟩
theorem link_row {w : World} {p : Nat → Prop} {l : List Int} {j : Nat} {x : Int} {a : Option Addr} {c : Nat} (hj : j ≤ l.length)
    (h : RowP w p 3 1 (.slice a (j + 1 + (l.length - j)) c) (j + 1 + (l.length - j)) ((l.map (Value.int .i64)).take j ++ [.int .i64 x] ++ (l.map (Value.int .i64)).drop j)) : RowP w p 3 1 (.slice a (j + 1 + (l.length - j)) c) (l.take j ++ [x] ++ l.drop j).length ((l.take j ++ [x] ++ l.drop j).map (Value.int .i64)) := by
  have e1 : (l.take j ++ [x] ++ l.drop j).length = j + 1 + (l.length - j) := by simp; omega
  have e2 : (l.take j ++ [x] ++ l.drop j).map (Value.int .i64) = (l.map (Value.int .i64)).take j ++ [.int .i64 x] ++ (l.map (Value.int .i64)).drop j := by simp [List.map_take, List.map_drop]
  rw [e1, e2]; exact h
structure AppI (w : World) (v u v' : Value) (w' : World) : Prop where
  out : (Builtin.append_ #[40, 40] 40 #[v, u]).run Tryz.prog w = .ok v' w'
theorem wpList_app {w : World} {ops : Array Oper} {rest : List Oper} {o : Oper} {a : Act} {Q : Exit → Act → World → Prop}
    (hg : o.guard = none) (s x : Operand) (hop : o.op = Op.call { callee := Callee.builtin Builtin.append, args := #[s, x], argTypes := #[40, 40] }) (ht : o.type = 40)
    (v u : Value) (hs : a.eval s = v) (hx : a.eval x = u) (v' : Value) (w' : World) (hr : AppI w v u v' w') (hK : wpList Tryz.prog ops Q rest (a.put o.dst v') w') :
    wpList Tryz.prog ops Q (o :: rest) a w := wpList_append_run w hg s x _ hop v u hs hx v' w' (by rw [ht]; exact hr.out) hK
section
variable {w : World} {F : Nat → Prop} {rb : Nat} {T : Tr}
theorem rInsert_none (hR : RefOn w F rb T) {p at' k : Int} (h : T.get? p = none ∨ T.get? k = none) : Calls Tryz.prog 88 #[.pointer (some ⟨rb, 0, none⟩), .int .i64 p, .int .i64 at', .int .i64 k] w (RErr F w rb 2 T) := by
  have H := qh (RAft.refl hR)
  cases hp : T.get? p with
  | none =>
    have HAP := qh (rHas_no hR.at hp)
    clear h hR hp
    go_enter Tryz.func88, Tryz.ntmps88
    go_wp2_with (go_at_call 91; refine HAP.out.mono ?_; rintro e w' ⟨rfl, rfl⟩)
    go_ret
    exact ⟨rfl, H.out⟩
  | some pd =>
    have hk : T.get? k = none := by rcases h with h | h; rw [h] at hp; cases hp; exact h
    have HAP := qh (rHas_yes hR.at hp)
    have HAK := qh (rHas_no hR.at hk)
    clear h hR hp hk
    go_enter Tryz.func88, Tryz.ntmps88
    go_wp2_with fail
    refine HAP.out.mono ?_
    rintro e w' ⟨rfl, rfl⟩
    go_wp2_with fail
    refine HAK.out.mono ?_
    rintro e w' ⟨rfl, rfl⟩
    go_wp2_with fail
    go_ret
    exact ⟨rfl, H.out⟩
theorem rInsert_kind (hR : RefOn w F rb T) {p at' k : Int} {pd kd : Nd} (hp : T.get? p = some pd) (hk : T.get? k = some kd) (ht : (pd.tag == 0) = true) : Calls Tryz.prog 88 #[.pointer (some ⟨rb, 0, none⟩), .int .i64 p, .int .i64 at', .int .i64 k] w (RErr F w rb 6 T) := by
  have H := qh (RAft.refl hR)
  have HAP := qh (rHas_yes hR.at hp)
  have HAK := qh (rHas_yes hR.at hk)
  obtain ⟨ip, rfl, hip, hlp⟩ := nodes_some hp
  obtain ⟨ik, rfl, hik, hlk⟩ := nodes_some hk
  obtain ⟨g, cap, aa, ac, ka, kc, c, c0, c1, c2, c3, c4, c5, _, hrp⟩ := hR.at.one hip
  replace c1 : w.cell? ⟨g, ip * 6 + 1, none⟩ = some (.int .i64 pd.tag) := c1
  replace c5 : w.cell? ⟨g, ip * 6 + 5, none⟩ = some (.slice ka pd.kids.length kc) := c5
  obtain ⟨g', cap', aa', ac', ka', kc', c', e0, e1, e2, e3, e4, e5, _, _⟩ := hR.at.one hik
  rw [c] at c'
  cases c'
  replace e2 : w.cell? ⟨g, ik * 6 + 2, none⟩ = some (.int .i64 kd.parent) := e2
  clear hrp hR hp hk hip hik c0 c2 c3 c4 e0 e1 e3 e4 e5
  go_enter Tryz.func88, Tryz.ntmps88
  go_wp2_with fail
  refine HAP.out.mono ?_
  rintro e w' ⟨rfl, rfl⟩
  go_wp2_with fail
  refine HAK.out.mono ?_
  rintro e w' ⟨rfl, rfl⟩
  go_wp2_with fail
  go_ret
  exact ⟨rfl, H.out⟩
theorem rInsert_arg (hR : RefOn w F rb T) {p at' k : Int} {pd kd : Nd} (hp : T.get? p = some pd) (hk : T.get? k = some kd) (ht : (pd.tag == 0) = false)
    (h : k = 0 ∨ 0 ≤ kd.parent ∨ at' < 0 ∨ (pd.kids.length : Int) < at') : Calls Tryz.prog 88 #[.pointer (some ⟨rb, 0, none⟩), .int .i64 p, .int .i64 at', .int .i64 k] w (RErr F w rb 1 T) := by
  have H := qh (RAft.refl hR)
  have HAP := qh (rHas_yes hR.at hp)
  have HAK := qh (rHas_yes hR.at hk)
  obtain ⟨ip, rfl, hip, hlp⟩ := nodes_some hp
  obtain ⟨ik, rfl, hik, hlk⟩ := nodes_some hk
  obtain ⟨g, cap, aa, ac, ka, kc, c, c0, c1, c2, c3, c4, c5, _, hrp⟩ := hR.at.one hip
  replace c1 : w.cell? ⟨g, ip * 6 + 1, none⟩ = some (.int .i64 pd.tag) := c1
  replace c5 : w.cell? ⟨g, ip * 6 + 5, none⟩ = some (.slice ka pd.kids.length kc) := c5
  obtain ⟨g', cap', aa', ac', ka', kc', c', e0, e1, e2, e3, e4, e5, _, _⟩ := hR.at.one hik
  rw [c] at c'
  cases c'
  replace e2 : w.cell? ⟨g, ik * 6 + 2, none⟩ = some (.int .i64 kd.parent) := e2
  clear hrp hR hp hk hip hik c0 c2 c3 c4 e0 e1 e3 e4 e5
  by_cases h1 : (ik : Int) = 0
  · have b1 : ((ik : Int) == 0) = true := by simp [h1]
    have H1 := qh h1
    clear h h1
    go_enter Tryz.func88, Tryz.ntmps88
    go_wp2_with fail
    refine HAP.out.mono ?_
    rintro e w' ⟨rfl, rfl⟩
    go_wp2_with fail
    refine HAK.out.mono ?_
    rintro e w' ⟨rfl, rfl⟩
    go_wp2_with fail
    go_ret
    exact ⟨rfl, H.out⟩
  · have b1 : ((ik : Int) == 0) = false := by simpa using h1
    have H1 := qh h1
    clear h1
    by_cases h2 : 0 ≤ kd.parent
    · clear h
      go_enter Tryz.func88, Tryz.ntmps88
      go_wp2_with fail
      refine HAP.out.mono ?_
      rintro e w' ⟨rfl, rfl⟩
      go_wp2_with fail
      refine HAK.out.mono ?_
      rintro e w' ⟨rfl, rfl⟩
      go_wp2_with fail
      go_ret
      exact ⟨rfl, H.out⟩
    · by_cases h3 : at' < 0
      · clear h
        go_enter Tryz.func88, Tryz.ntmps88
        go_wp2_with fail
        refine HAP.out.mono ?_
        rintro e w' ⟨rfl, rfl⟩
        go_wp2_with fail
        refine HAK.out.mono ?_
        rintro e w' ⟨rfl, rfl⟩
        go_wp2_with fail
        go_ret
        exact ⟨rfl, H.out⟩
      · have h4 : (pd.kids.length : Int) < at' := by
          have := H1.out
          rcases h with h | h | h | h
          · exact absurd h this
          · exact absurd h h2
          · exact absurd h h3
          · exact h
        clear h
        go_enter Tryz.func88, Tryz.ntmps88
        go_wp2_with fail
        refine HAP.out.mono ?_
        rintro e w' ⟨rfl, rfl⟩
        go_wp2_with fail
        refine HAK.out.mono ?_
        rintro e w' ⟨rfl, rfl⟩
        go_wp2_with fail
        go_ret
        exact ⟨rfl, H.out⟩
theorem rInsert_loop (hR : RefOn w F rb T) {d : Nat → Nat} (hw : WF T d) {p at' k : Int} {pd kd : Nd} (hp : T.get? p = some pd) (hk : T.get? k = some kd) (ht : (pd.tag == 0) = false)
    (h0 : k ≠ 0) (h1 : kd.parent < 0) (h2 : 0 ≤ at') (h3 : at' ≤ (pd.kids.length : Int)) (hin : T.win p k = true) : Calls Tryz.prog 88 #[.pointer (some ⟨rb, 0, none⟩), .int .i64 p, .int .i64 at', .int .i64 k] w (RErr F w rb 5 T) := by
  have HWI := qh (rWithin hR.at hw (o := k) hp)
  rw [hin] at HWI
  clear hin hw
  have H := qh (RAft.refl hR)
  have HAP := qh (rHas_yes hR.at hp)
  have HAK := qh (rHas_yes hR.at hk)
  obtain ⟨ip, rfl, hip, hlp⟩ := nodes_some hp
  obtain ⟨ik, rfl, hik, hlk⟩ := nodes_some hk
  obtain ⟨g, cap, aa, ac, ka, kc, c, c0, c1, c2, c3, c4, c5, _, hrp⟩ := hR.at.one hip
  replace c1 : w.cell? ⟨g, ip * 6 + 1, none⟩ = some (.int .i64 pd.tag) := c1
  replace c5 : w.cell? ⟨g, ip * 6 + 5, none⟩ = some (.slice ka pd.kids.length kc) := c5
  obtain ⟨g', cap', aa', ac', ka', kc', c', e0, e1, e2, e3, e4, e5, _, _⟩ := hR.at.one hik
  rw [c] at c'
  cases c'
  replace e2 : w.cell? ⟨g, ik * 6 + 2, none⟩ = some (.int .i64 kd.parent) := e2
  clear hrp hR hp hk hip hik c0 c2 c3 c4 e0 e1 e3 e4 e5
  have b1 : ((ik : Int) == 0) = false := by simpa using h0
  clear h0
  go_enter Tryz.func88, Tryz.ntmps88
  go_wp2_with fail
  refine HAP.out.mono ?_
  rintro e w' ⟨rfl, rfl⟩
  go_wp2_with fail
  refine HAK.out.mono ?_
  rintro e w' ⟨rfl, rfl⟩
  go_wp2_with fail
  refine HWI.out.mono ?_
  rintro e w' ⟨rfl, rfl⟩
  go_wp2_with fail
  go_ret
  exact ⟨rfl, H.out⟩
theorem rInsert_deep (hR : RefOn w F rb T) {d : Nat → Nat} (hw : WF T d) {p at' k : Int} {pd kd : Nd} (hp : T.get? p = some pd) (hk : T.get? k = some kd) (ht : (pd.tag == 0) = false)
    (h0 : k ≠ 0) (h1 : kd.parent < 0) (h2 : 0 ≤ at') (h3 : at' ≤ (pd.kids.length : Int)) (hin : T.win p k = false) (hdp : T.deep < ((T.pathOf p).length : Int) + 1 + T.height k) : Calls Tryz.prog 88 #[.pointer (some ⟨rb, 0, none⟩), .int .i64 p, .int .i64 at', .int .i64 k] w (RErr F w rb 4 T) := by
  have hd41 := hw.path_41 p
  have hpr := hw.path_rank p ⟨_, hp⟩
  obtain ⟨dp, hdpe⟩ : ∃ dp, (T.pathOf p).length = dp := ⟨_, rfl⟩
  obtain ⟨hh, hhe⟩ : ∃ hh, T.height k = hh := ⟨_, rfl⟩
  have hb := T.hgt_le 50 k
  have hb2 : -1 ≤ hh ∧ hh ≤ 50 := by rw [← hhe]; exact hb
  rw [hdpe] at hd41
  rw [hdpe, hhe] at hdp
  have HRO := qh hR
  have HWI := qh (rWithin hR.at hw (o := k) hp)
  have HDE := qh (fun u : ExtOf w => RSame.val (hdpe ▸ rDepth (hR.ext u.ext).at hw hp))
  have HHE := qh (fun u : ExtOf w => RSame.val (hhe ▸ rHeight (hR.ext u.ext).at hw k kd hk))
  have hsm := hw.small.deep1
  have hsm0 := hw.small.deep0
  have cdp : w.cell? ⟨rb, 1, none⟩ = some (.int .i64 T.deep) := by
    obtain ⟨_, _, _, _, _, h⟩ := hR.at.slice
    exact h
  rw [hin] at HWI
  clear hin hw hdpe hhe hb hpr
  have H := qh (RAft.refl hR)
  have HAP := qh (rHas_yes hR.at hp)
  have HAK := qh (rHas_yes hR.at hk)
  obtain ⟨ip, rfl, hip, hlp⟩ := nodes_some hp
  obtain ⟨ik, rfl, hik, hlk⟩ := nodes_some hk
  obtain ⟨g, cap, aa, ac, ka, kc, c, c0, c1, c2, c3, c4, c5, _, hrp⟩ := hR.at.one hip
  replace c1 : w.cell? ⟨g, ip * 6 + 1, none⟩ = some (.int .i64 pd.tag) := c1
  replace c5 : w.cell? ⟨g, ip * 6 + 5, none⟩ = some (.slice ka pd.kids.length kc) := c5
  obtain ⟨g', cap', aa', ac', ka', kc', c', e0, e1, e2, e3, e4, e5, _, _⟩ := hR.at.one hik
  rw [c] at c'
  cases c'
  replace e2 : w.cell? ⟨g, ik * 6 + 2, none⟩ = some (.int .i64 kd.parent) := e2
  clear hrp hR hp hk hip hik c0 c2 c3 c4 e0 e1 e3 e4 e5
  have b1 : ((ik : Int) == 0) = false := by simpa using h0
  clear h0
  go_enter Tryz.func88, Tryz.ntmps88
  go_wp2_with fail
  refine HAP.out.mono ?_
  rintro e w' ⟨rfl, rfl⟩
  go_wp2_with fail
  refine HAK.out.mono ?_
  rintro e w' ⟨rfl, rfl⟩
  go_upto_region 10 with fail
  refine HWI.out.mono ?_
  rintro e w' ⟨rfl, rfl⟩
  go_upto_region 10 with fail
  have x1 := fun u : ExtOf w => u.ext.cell cdp
  refine wp_region_ext (by kernel_rfl) (by kernel_rfl) ?_
  repeat (go_big_quiet_step (first | (go_at_call 117; exact inExt (HDE.out _)) | (go_at_call 119; exact inExt (HHE.out _))))
  refine wpQuiet_nil ?_
  rintro _ ⟨u, rfl⟩
  clear x1
  have HU := qh (H.out.ext u.ext)
  go_wp2_with fail
  go_ret
  exact ⟨rfl, HU.out⟩
theorem rInsert_ok_some (hR : RefOn w F rb T) {d : Nat → Nat} (hw : WF T d) {p at' k : Nat} {pd kd : Nd} (hp : T.nodes[p]? = some (some pd)) (hk : T.nodes[k]? = some (some kd)) (ht : (pd.tag == 0) = false)
    (h0 : k ≠ 0) (h1 : kd.parent < 0) (h3 : at' ≤ pd.kids.length) (hpk : p ≠ k) (hin : T.win p k = false) (hdp : ((T.pathOf p).length : Int) + 1 + T.height k ≤ T.deep) (hak : ∀ g cap, w.cell? ⟨rb, 2, none⟩ = some (.slice (some ⟨g, 0, none⟩) T.nodes.length cap) → ∃ ad n c, w.cell? ⟨g, p * 6 + 5, none⟩ = some (.slice (some ad) n c)) : Calls Tryz.prog 88 #[.pointer (some ⟨rb, 0, none⟩), .int .i64 p, .int .i64 at', .int .i64 k] w (RErr F w rb 0 (T.link p at' k pd kd)) := by
  have HAP := qh (rHas_yes hR.at (Tr.get_of hp))
  have HAK := qh (rHas_yes hR.at (Tr.get_of hk))
  have hd41 := hw.path_41 p
  obtain ⟨dp, hdpe⟩ : ∃ dp, (T.pathOf p).length = dp := ⟨_, rfl⟩
  obtain ⟨hh, hhe⟩ : ∃ hh, T.height k = hh := ⟨_, rfl⟩
  have hb := T.hgt_le 50 k
  have hb2 : -1 ≤ hh ∧ hh ≤ 50 := by rw [← hhe]; exact hb
  rw [hdpe] at hd41
  rw [hdpe, hhe] at hdp
  have HWI := qh (rWithin hR.at hw (o := k) (Tr.get_of hp))
  have HDE := qh (fun u : ExtOf w => RSame.val (hdpe ▸ rDepth (hR.ext u.ext).at hw (Tr.get_of hp)))
  have HHE := qh (fun u : ExtOf w => RSame.val (hhe ▸ rHeight (hR.ext u.ext).at hw k kd (Tr.get_of hk)))
  have hsm := hw.small.deep1
  have hsm0 := hw.small.deep0
  have hkl := hw.kids_len hp
  rw [hin] at HWI
  have hpl := (List.getElem?_eq_some_iff.1 hp).1
  have hkl2 := (List.getElem?_eq_some_iff.1 hk).1
  obtain ⟨ga, g, hat, hF1, hF2, hF3⟩ := hR.out
  have HAT := qh hat
  have HFF := qh (And.intro hF1 (And.intro hF2 hF3))
  have nrg : rb ≠ g := hat.ne
  have nrg' := Ne.symm nrg
  obtain ⟨cap, cur, b1, b2, b3, b4, b5, b6⟩ := hat.row
  have c : w.cell? ⟨rb, 2, none⟩ = some (.slice (some ⟨g, 0, none⟩) T.nodes.length cap) := cellOf b1 rfl
  have cdp : w.cell? ⟨rb, 1, none⟩ = some (.int .i64 T.deep) := cellOf b1 rfl
  have lg := (Array.getElem?_eq_some_iff.1 b4).1
  have fp := freeOf b4 (p * 6 + 5)
  have fk := freeOf b4 (k * 6 + 2)
  obtain ⟨va, vk, r0, r1, r2, r3, r4, r5, r6, r7⟩ := (b6 k _ hk).out
  replace r2 : w.cell? ⟨g, k * 6 + 2, none⟩ = some (.int .i64 kd.parent) := cellOf b4 r2
  clear r0 r1 r3 r4 r5 r6 r7
  obtain ⟨va', vk', r0, r1, _, r3, r4, r5, r6, r7⟩ := (b6 p _ hp).out
  replace r1 : w.cell? ⟨g, p * 6 + 1, none⟩ = some (.int .i64 pd.tag) := cellOf b4 r1
  replace r5 := cellOf b4 r5
  replace r7 : RowRd w 1 vk' pd.kids.length (pd.kids.map (Value.int .i64)) := r7.cells fun q y hq => (hat.told q y hq).1
  obtain ⟨ak, ck, rfl, hlck⟩ := r7.len_of
  obtain ⟨ad, _, _, hq⟩ := hak g cap c
  rw [r5] at hq
  obtain rfl : ak = some ad := by injection hq with hq; injection hq
  obtain ⟨kb, ko, ks⟩ := ad
  clear hak hq
  have HRD := qh r7
  have HP := qh hp
  have HK := qh hk
  have b10 : ((k : Int) == 0) = false := by simp; omega
  clear hin hw hdpe hhe hb hp hk hR hat hF1 hF2 hF3 b1 b4 b6 r0 r3 r4 r6 r7 h0
  go_enter Tryz.func88, Tryz.ntmps88
  go_wp2_with fail
  refine HAP.out.mono ?_
  rintro e w' ⟨rfl, rfl⟩
  go_wp2_with fail
  refine HAK.out.mono ?_
  rintro e w' ⟨rfl, rfl⟩
  go_upto_region 10 with fail
  refine HWI.out.mono ?_
  rintro e w' ⟨rfl, rfl⟩
  go_upto_region 10 with fail
  have x1 := fun u : ExtOf w => u.ext.cell cdp
  refine wp_region_ext (by kernel_rfl) (by kernel_rfl) ?_
  repeat (go_big_quiet_step (first | (go_at_call 117; exact inExt (HDE.out _)) | (go_at_call 119; exact inExt (HHE.out _))))
  refine wpQuiet_nil ?_
  rintro _ ⟨u, rfl⟩
  clear x1
  have HU := qh u.ext
  have xe := u.ext.alloc (.cells #[] 3)
  obtain ⟨v1, wA, row, hrun, hra, hga, hrow⟩ := append_ints (w := u.val.alloc (.cells #[] 3)) (B := u.val.heap.size) (v := .slice (some ⟨u.val.heap.size, 0, none⟩) 0 0) (n := 0) (xs := []) ⟨rfl, .inl ⟨rfl, _, rfl⟩⟩ ((RowRd.front HRD.out (j := at') (by omega)).ext xe) (by omega) (fun z hz => ints_one pd.kids z (List.mem_of_mem_take hz))
  rw [Nat.zero_add, List.nil_append] at hra
  obtain ⟨a1, c1, rfl, _⟩ := hra.rd.len_of
  have xA : Ext w wA := xe.grown hga fun z hz => Nat.le_trans u.ext.size (hrow z hz)
  have hsu := u.ext.size
  have hra' := RowP.imp hra (q := fun b => w.heap.size ≤ b) fun b _ hb => by rcases hb with h | h; exact Nat.le_trans hsu h; exact Nat.le_trans hsu (Nat.le_trans (by simp) h)
  have xk := xA.alloc (.cells #[.int .i64 k] 3)
  obtain ⟨v2, wB, row2, hrun2, hrb, hgb, hrow2⟩ := append_ints (w := wA.alloc (.cells #[.int .i64 k] 3)) (B := w.heap.size) (v := .slice a1 at' c1) (n := at') (RowP.ext hra' ((Ext.refl wA).alloc _)) (u := .slice (some ⟨wA.heap.size, 0, none⟩) 1 1) (m := 1) (ys := [.int .i64 k]) ⟨rfl, _, _, rfl, Nat.le_refl _, (fun h => by cases h), fun a ha => by cases ha; exact cell_one_new' (cellOf (heap_alloc_new wA _) rfl)⟩ (by omega) (by simp [Value.oneCell'])
  obtain ⟨a2, c2, rfl, _⟩ := hrb.rd.len_of
  have xB : Ext w wB := xk.grown hgb hrow2
  have hrb' := RowP.imp hrb (q := fun b => w.heap.size ≤ b) fun b _ hb => by rcases hb with h | h; exact h; exact Nat.le_trans xA.size (Nat.le_trans (by simp) h)
  obtain ⟨v3, wC, row3, hrun3, hrc, hgc, hrow3⟩ := append_ints (w := wB.drew) (B := w.heap.size) (v := .slice a2 (at' + 1) c2) (n := at' + 1) hrb' ((RowRd.backIf HRD.out (j := at') (by omega)).ext xB.drew) (by omega) (fun z hz => ints_one pd.kids z (List.mem_of_mem_drop hz))
  obtain ⟨a3, c3, rfl, _⟩ := hrc.rd.len_of
  have xC : Ext w wC := xB.drew.grown hgc hrow3
  have hrc' := RowP.imp hrc (q := fun b => w.heap.size ≤ b) fun b _ hb => by rcases hb with h | h; exact h; exact Nat.le_trans xB.size h
  have cB := xB.cell c
  have rB := xB.cell r5
  have cC := xC.cell c
  have rC := xC.cell r5
  have fpC := xC.free lg fp
  have kC := xC.cell r2
  have fkC := xC.free lg fk
  have XC := qh xC
  have HRUN := qh (AppI.mk hrun)
  have HRUN2 := qh (AppI.mk hrun2)
  have HRUN3 := qh hrun3
  have HRC := qh hrc'
  clear hra hra' hrb hrb' hrc hrc' hrun hrun2 hrun3 xe xA xk xB xC hga hrow hgb hrow2 hgc hrow3 hsu
  go_wp2_with (at_builtin; first | refine wpList_app rfl _ _ rfl rfl _ _ rfl rfl _ _ HRUN.out ?_ | refine wpList_app rfl _ _ rfl rfl _ _ rfl rfl _ _ HRUN2.out ?_)
  have hif : 0 ≤ (at' : Int) ∧ (at' : Int) ≤ (pd.kids.length : Int) := by omega
  refine wp_region_E (S := fun w' => w'.cell? ⟨rb, 2, none⟩ = some (.slice (some ⟨g, 0, none⟩) T.nodes.length cap) ∧ w'.cell? ⟨g, p * 6 + 5, none⟩ = some (.slice (some ⟨kb, ko, ks⟩) pd.kids.length ck)) (n := 12) (by kernel_rfl) ?_
  have hS : wB.drew.cell? ⟨rb, 2, none⟩ = some (.slice (some ⟨g, 0, none⟩) T.nodes.length cap) ∧ wB.drew.cell? ⟨g, p * 6 + 5, none⟩ = some (.slice (some ⟨kb, ko, ks⟩) pd.kids.length ck) := ⟨cB, rB⟩
  show wpE _ _ _ _ _ 12 13 (Array.replicate 13 false) _ _
  refine wpE_tk 0 87 (.pointer (some ⟨rb, 0, none⟩)) rfl (.inl ⟨by rfl, fun w' hSw => ?_⟩) hS ?_
  · (obtain ⟨s1, s2⟩ := hSw; clear hS; go_simp)
  try simp only [Act.put, zA, zB, zC]
  refine wpE_tk 1 88 (.pointer (some ⟨rb, 0, none⟩)) rfl (.inl ⟨by rfl, fun w' hSw => ?_⟩) hS ?_
  · (obtain ⟨s1, s2⟩ := hSw; clear hS; go_simp)
  try simp only [Act.put, zA, zB, zC]
  refine wpE_tk 2 89 (.pointer (some ⟨rb, 2, none⟩)) rfl (.inl ⟨by rfl, fun w' hSw => ?_⟩) hS ?_
  · (obtain ⟨s1, s2⟩ := hSw; clear hS; go_simp)
  try simp only [Act.put, zA, zB, zC]
  refine wpE_tk 3 90 (.slice (some ⟨g, 0, none⟩) T.nodes.length cap) rfl (.inl ⟨by rfl, fun w' hSw => ?_⟩) hS ?_
  · (obtain ⟨s1, s2⟩ := hSw; clear hS; go_simp)
  try simp only [Act.put, zA, zB, zC]
  refine wpE_tk 4 91 (.int .i64 p) rfl (.inl ⟨by rfl, fun w' hSw => ?_⟩) hS ?_
  · (obtain ⟨s1, s2⟩ := hSw; clear hS; go_simp)
  try simp only [Act.put, zA, zB, zC]
  refine wpE_tk 5 92 (.slice a2 (at' + 1) c2) rfl (.inl ⟨by rfl, fun w' hSw => ?_⟩) hS ?_
  · (obtain ⟨s1, s2⟩ := hSw; clear hS; go_simp)
  try simp only [Act.put, zA, zB, zC]
  refine wpE_tk 6 93 (.slice (some ⟨kb, ko, ks⟩) pd.kids.length ck) rfl (.inl ⟨by rfl, fun w' hSw => ?_⟩) hS ?_
  · (obtain ⟨s1, s2⟩ := hSw; clear hS; go_simp)
  try simp only [Act.put, zA, zB, zC]
  refine wpE_tk 7 94 (.int .i64 at') rfl (.inl ⟨by rfl, fun w' hSw => ?_⟩) hS ?_
  · (obtain ⟨s1, s2⟩ := hSw; clear hS; go_simp)
  try simp only [Act.put, zA, zB, zC]
  refine wpE_on 8 (some 95) rfl (fun K hK => ?_)
  go_simp
  refine hK.out _ _ (.inr ⟨cB, rB⟩) ?_
  clear hK K
  try simp only [Act.put, zA, zB, zC]
  refine wpE_on 9 (some 96) rfl (fun K hK => ?_)
  refine step_append_run (by rfl) _ _ 40 (by rfl) (.slice a2 (at' + 1) c2) (.slice (if ck = at' then some ⟨kb, ko, ks⟩ else some (Addr.add ⟨kb, ko, ks⟩ at')) (pd.kids.length - at') (ck - at')) (by rfl) (by rfl) (.slice a3 (at' + 1 + (pd.kids.length - at')) c3) wC HRUN3.out ?_
  refine hK.out _ _ (.inr ⟨cC, rC⟩) ?_
  clear hK K
  try simp only [Act.put, zA, zB, zC]
  refine wpE_on 10 (some 97) rfl (fun K hK => ?_)
  go_simp
  refine hK.out _ _ (.inr ⟨cC, rC⟩) ?_
  clear hK K
  try simp only [Act.put, zA, zB, zC]
  refine wpE_on 11 (some 98) rfl (fun K hK => ?_)
  go_simp
  refine hK.out _ _ (.inr ⟨cC, rC⟩) ?_
  clear hK K
  try simp only [Act.put, zA, zB, zC]
  refine wpE_on 12 (none) rfl (fun K hK => ?_)
  go_simp
  refine hK.out _ _ (.inl rfl) ?_
  clear hK K
  refine wpE_done (by kernel_rfl) ?_
  go_wp2_with fail
  all_goals
    go_ret
    refine ⟨rfl, RAft.poke (b := wC.setCell ⟨g, p * 6 + 5, none⟩ (.slice a3 (at' + 1 + (pd.kids.length - at')) c3)) (T1 := T.setAt p { pd with kids := pd.kids.take at' ++ [(k : Int)] ++ pd.kids.drop at' }) (o := some kd) (o' := some { kd with parent := p }) ?_ ((World.cell?_of_block (a := ⟨rb, 2, none⟩) (heap_setCell_other (p := ⟨g, p * 6 + 5, none⟩) _ nrg)).trans cC) rfl rfl rfl ?_ (by decide) (fun ga G cur hG hl hr => recAt_set hr hG (by decide) hl (by simp) (by simp) (by simp) (by simp) (by simp) (by decide))⟩
    · refine RefAt.put1 HAT.out HFF.out.1 HFF.out.2.1 HFF.out.2.2 (T' := T.setAt p { pd with kids := pd.kids.take at' ++ [(k : Int)] ++ pd.kids.drop at' }) (j := p) (m := 5) (o := some pd) (o' := some { pd with kids := pd.kids.take at' ++ [(k : Int)] ++ pd.kids.drop at' }) XC.out rfl rfl rfl HP.out (by decide) (fun G cur hG hb hl hr => recAt_set hr hG (by decide) hl (by simp) (by simp) (by simp) (by simp) ?_ (by decide))
      simp only [if_true]
      have hrow := link_row h3 HRC.out
      exact RowP.rd (RowP.move hrow (p' := fun _ => True) fun b hb' => ⟨hb b hb', trivial⟩)
    · show (T.nodes.set p _)[k]? = _
      rw [List.getElem?_set_ne hpk]; exact HK.out
theorem rInsert_ok_none (hR : RefOn w F rb T) {d : Nat → Nat} (hw : WF T d) {p at' k : Nat} {pd kd : Nd} (hp : T.nodes[p]? = some (some pd)) (hk : T.nodes[k]? = some (some kd)) (ht : (pd.tag == 0) = false)
    (h0 : k ≠ 0) (h1 : kd.parent < 0) (h3 : at' ≤ pd.kids.length) (hpk : p ≠ k) (hin : T.win p k = false) (hdp : ((T.pathOf p).length : Int) + 1 + T.height k ≤ T.deep) (hak : ∀ g cap, w.cell? ⟨rb, 2, none⟩ = some (.slice (some ⟨g, 0, none⟩) T.nodes.length cap) → ∃ n c, w.cell? ⟨g, p * 6 + 5, none⟩ = some (.slice none n c)) : Calls Tryz.prog 88 #[.pointer (some ⟨rb, 0, none⟩), .int .i64 p, .int .i64 at', .int .i64 k] w (RErr F w rb 0 (T.link p at' k pd kd)) := by
  have HAP := qh (rHas_yes hR.at (Tr.get_of hp))
  have HAK := qh (rHas_yes hR.at (Tr.get_of hk))
  have hd41 := hw.path_41 p
  obtain ⟨dp, hdpe⟩ : ∃ dp, (T.pathOf p).length = dp := ⟨_, rfl⟩
  obtain ⟨hh, hhe⟩ : ∃ hh, T.height k = hh := ⟨_, rfl⟩
  have hb := T.hgt_le 50 k
  have hb2 : -1 ≤ hh ∧ hh ≤ 50 := by rw [← hhe]; exact hb
  rw [hdpe] at hd41
  rw [hdpe, hhe] at hdp
  have HWI := qh (rWithin hR.at hw (o := k) (Tr.get_of hp))
  have HDE := qh (fun u : ExtOf w => RSame.val (hdpe ▸ rDepth (hR.ext u.ext).at hw (Tr.get_of hp)))
  have HHE := qh (fun u : ExtOf w => RSame.val (hhe ▸ rHeight (hR.ext u.ext).at hw k kd (Tr.get_of hk)))
  have hsm := hw.small.deep1
  have hsm0 := hw.small.deep0
  have hkl := hw.kids_len hp
  rw [hin] at HWI
  have hpl := (List.getElem?_eq_some_iff.1 hp).1
  have hkl2 := (List.getElem?_eq_some_iff.1 hk).1
  obtain ⟨ga, g, hat, hF1, hF2, hF3⟩ := hR.out
  have HAT := qh hat
  have HFF := qh (And.intro hF1 (And.intro hF2 hF3))
  have nrg : rb ≠ g := hat.ne
  have nrg' := Ne.symm nrg
  obtain ⟨cap, cur, b1, b2, b3, b4, b5, b6⟩ := hat.row
  have c : w.cell? ⟨rb, 2, none⟩ = some (.slice (some ⟨g, 0, none⟩) T.nodes.length cap) := cellOf b1 rfl
  have cdp : w.cell? ⟨rb, 1, none⟩ = some (.int .i64 T.deep) := cellOf b1 rfl
  have lg := (Array.getElem?_eq_some_iff.1 b4).1
  have fp := freeOf b4 (p * 6 + 5)
  have fk := freeOf b4 (k * 6 + 2)
  obtain ⟨va, vk, r0, r1, r2, r3, r4, r5, r6, r7⟩ := (b6 k _ hk).out
  replace r2 : w.cell? ⟨g, k * 6 + 2, none⟩ = some (.int .i64 kd.parent) := cellOf b4 r2
  clear r0 r1 r3 r4 r5 r6 r7
  obtain ⟨va', vk', r0, r1, _, r3, r4, r5, r6, r7⟩ := (b6 p _ hp).out
  replace r1 : w.cell? ⟨g, p * 6 + 1, none⟩ = some (.int .i64 pd.tag) := cellOf b4 r1
  replace r5 := cellOf b4 r5
  replace r7 : RowRd w 1 vk' pd.kids.length (pd.kids.map (Value.int .i64)) := r7.cells fun q y hq => (hat.told q y hq).1
  obtain ⟨ak, ck, rfl, hlck⟩ := r7.len_of
  obtain ⟨_, _, hq⟩ := hak g cap c
  rw [r5] at hq
  obtain rfl : ak = none := by injection hq with hq; injection hq
  have hz : pd.kids.length = 0 ∧ ck = 0 := by
    obtain ⟨_, _, _, e, _, hn, _⟩ := r7
    cases e
    exact hn rfl
  obtain ⟨hz0, rfl⟩ := hz
  obtain rfl : at' = 0 := by omega
  have hk0 : pd.kids = [] := List.eq_nil_of_length_eq_zero hz0
  rw [hz0] at r5
  clear hak hq hlck
  have HK0 := qh hk0
  clear hk0
  have HP := qh hp
  have HK := qh hk
  have b10 : ((k : Int) == 0) = false := by simp; omega
  clear hin hw hdpe hhe hb hp hk hR hat hF1 hF2 hF3 b1 b4 b6 r0 r3 r4 r6 r7 h0
  go_enter Tryz.func88, Tryz.ntmps88
  go_wp2_with fail
  refine HAP.out.mono ?_
  rintro e w' ⟨rfl, rfl⟩
  go_wp2_with fail
  refine HAK.out.mono ?_
  rintro e w' ⟨rfl, rfl⟩
  go_upto_region 10 with fail
  refine HWI.out.mono ?_
  rintro e w' ⟨rfl, rfl⟩
  go_upto_region 10 with fail
  have x1 := fun u : ExtOf w => u.ext.cell cdp
  refine wp_region_ext (by kernel_rfl) (by kernel_rfl) ?_
  repeat (go_big_quiet_step (first | (go_at_call 117; exact inExt (HDE.out _)) | (go_at_call 119; exact inExt (HHE.out _))))
  refine wpQuiet_nil ?_
  rintro _ ⟨u, rfl⟩
  clear x1
  have HU := qh u.ext
  have xe := u.ext.alloc (.cells #[] 3)
  obtain ⟨v1, wA, row, hrun, hra, hga, hrow⟩ := append_ints (w := u.val.alloc (.cells #[] 3)) (B := u.val.heap.size) (v := .slice (some ⟨u.val.heap.size, 0, none⟩) 0 0) (n := 0) (xs := []) ⟨rfl, .inl ⟨rfl, _, rfl⟩⟩ (nil_row _) (by omega) (by simp)
  rw [Nat.zero_add, List.nil_append] at hra
  obtain ⟨a1, c1, rfl, _⟩ := hra.rd.len_of
  have xA : Ext w wA := xe.grown hga fun z hz => Nat.le_trans u.ext.size (hrow z hz)
  have hsu := u.ext.size
  have hra' := RowP.imp hra (q := fun b => w.heap.size ≤ b) fun b _ hb => by rcases hb with h | h; exact Nat.le_trans hsu h; exact Nat.le_trans hsu (Nat.le_trans (by simp) h)
  have xk := xA.alloc (.cells #[.int .i64 k] 3)
  obtain ⟨v2, wB, row2, hrun2, hrb, hgb, hrow2⟩ := append_ints (w := wA.alloc (.cells #[.int .i64 k] 3)) (B := w.heap.size) (v := .slice a1 0 c1) (n := 0) (RowP.ext hra' ((Ext.refl wA).alloc _)) (u := .slice (some ⟨wA.heap.size, 0, none⟩) 1 1) (m := 1) (ys := [.int .i64 k]) ⟨rfl, _, _, rfl, Nat.le_refl _, (fun h => by cases h), fun a ha => by cases ha; exact cell_one_new' (cellOf (heap_alloc_new wA _) rfl)⟩ (by omega) (by simp [Value.oneCell'])
  obtain ⟨a2, c2, rfl, _⟩ := hrb.rd.len_of
  have xB : Ext w wB := xk.grown hgb hrow2
  have hrb' := RowP.imp hrb (q := fun b => w.heap.size ≤ b) fun b _ hb => by rcases hb with h | h; exact h; exact Nat.le_trans xA.size (Nat.le_trans (by simp) h)
  obtain ⟨v3, wC, row3, hrun3, hrc, hgc, hrow3⟩ := append_ints (w := wB.drew) (B := w.heap.size) (v := .slice a2 (0 + 1) c2) (n := 0 + 1) hrb' (nil_row _) (by omega) (by simp)
  obtain ⟨a3, c3, rfl, _⟩ := hrc.rd.len_of
  have xC : Ext w wC := xB.drew.grown hgc hrow3
  have hrc' := RowP.imp hrc (q := fun b => w.heap.size ≤ b) fun b _ hb => by rcases hb with h | h; exact h; exact Nat.le_trans xB.size h
  have cB := xB.cell c
  have rB := xB.cell r5
  have cC := xC.cell c
  have rC := xC.cell r5
  have fpC := xC.free lg fp
  have kC := xC.cell r2
  have fkC := xC.free lg fk
  have XC := qh xC
  have HRUN := qh (AppI.mk hrun)
  have HRUN2 := qh (AppI.mk hrun2)
  have HRUN3 := qh hrun3
  have HRC := qh hrc'
  clear hra hra' hrb hrb' hrc hrc' hrun hrun2 hrun3 xe xA xk xB xC hga hrow hgb hrow2 hgc hrow3 hsu
  go_wp2_with (at_builtin; first | refine wpList_app rfl _ _ rfl rfl _ _ rfl rfl _ _ HRUN.out ?_ | refine wpList_app rfl _ _ rfl rfl _ _ rfl rfl _ _ HRUN2.out ?_)
  refine wp_region_E (S := fun w' => w'.cell? ⟨rb, 2, none⟩ = some (.slice (some ⟨g, 0, none⟩) T.nodes.length cap) ∧ w'.cell? ⟨g, p * 6 + 5, none⟩ = some (.slice none 0 0)) (n := 12) (by kernel_rfl) ?_
  have hS : wB.drew.cell? ⟨rb, 2, none⟩ = some (.slice (some ⟨g, 0, none⟩) T.nodes.length cap) ∧ wB.drew.cell? ⟨g, p * 6 + 5, none⟩ = some (.slice none 0 0) := ⟨cB, rB⟩
  show wpE _ _ _ _ _ 12 13 (Array.replicate 13 false) _ _
  refine wpE_tk 0 87 (.pointer (some ⟨rb, 0, none⟩)) rfl (.inl ⟨by rfl, fun w' hSw => ?_⟩) hS ?_
  · (obtain ⟨s1, s2⟩ := hSw; clear hS; go_simp)
  try simp only [Act.put, zA, zB, zC]
  refine wpE_tk 1 88 (.pointer (some ⟨rb, 0, none⟩)) rfl (.inl ⟨by rfl, fun w' hSw => ?_⟩) hS ?_
  · (obtain ⟨s1, s2⟩ := hSw; clear hS; go_simp)
  try simp only [Act.put, zA, zB, zC]
  refine wpE_tk 2 89 (.pointer (some ⟨rb, 2, none⟩)) rfl (.inl ⟨by rfl, fun w' hSw => ?_⟩) hS ?_
  · (obtain ⟨s1, s2⟩ := hSw; clear hS; go_simp)
  try simp only [Act.put, zA, zB, zC]
  refine wpE_tk 3 90 (.slice (some ⟨g, 0, none⟩) T.nodes.length cap) rfl (.inl ⟨by rfl, fun w' hSw => ?_⟩) hS ?_
  · (obtain ⟨s1, s2⟩ := hSw; clear hS; go_simp)
  try simp only [Act.put, zA, zB, zC]
  refine wpE_tk 4 91 (.int .i64 p) rfl (.inl ⟨by rfl, fun w' hSw => ?_⟩) hS ?_
  · (obtain ⟨s1, s2⟩ := hSw; clear hS; go_simp)
  try simp only [Act.put, zA, zB, zC]
  refine wpE_tk 5 92 (.slice a2 (0 + 1) c2) rfl (.inl ⟨by rfl, fun w' hSw => ?_⟩) hS ?_
  · (obtain ⟨s1, s2⟩ := hSw; clear hS; go_simp)
  try simp only [Act.put, zA, zB, zC]
  refine wpE_tk 6 93 (.slice none 0 0) rfl (.inl ⟨by rfl, fun w' hSw => ?_⟩) hS ?_
  · (obtain ⟨s1, s2⟩ := hSw; clear hS; go_simp)
  try simp only [Act.put, zA, zB, zC]
  refine wpE_tk 7 94 (.int .i64 0) rfl (.inl ⟨by rfl, fun w' hSw => ?_⟩) hS ?_
  · (obtain ⟨s1, s2⟩ := hSw; clear hS; go_simp)
  try simp only [Act.put, zA, zB, zC]
  refine wpE_on 8 (some 95) rfl (fun K hK => ?_)
  go_simp
  refine hK.out _ _ (.inr ⟨cB, rB⟩) ?_
  clear hK K
  try simp only [Act.put, zA, zB, zC]
  refine wpE_on 9 (some 96) rfl (fun K hK => ?_)
  refine step_append_run (by rfl) _ _ 40 (by rfl) (.slice a2 (0 + 1) c2) (.slice none 0 0) (by rfl) (by rfl) (.slice a3 (0 + 1 + 0) c3) wC HRUN3.out ?_
  refine hK.out _ _ (.inr ⟨cC, rC⟩) ?_
  clear hK K
  try simp only [Act.put, zA, zB, zC]
  refine wpE_on 10 (some 97) rfl (fun K hK => ?_)
  go_simp
  refine hK.out _ _ (.inr ⟨cC, rC⟩) ?_
  clear hK K
  try simp only [Act.put, zA, zB, zC]
  refine wpE_on 11 (some 98) rfl (fun K hK => ?_)
  go_simp
  refine hK.out _ _ (.inr ⟨cC, rC⟩) ?_
  clear hK K
  try simp only [Act.put, zA, zB, zC]
  refine wpE_on 12 (none) rfl (fun K hK => ?_)
  go_simp
  refine hK.out _ _ (.inl rfl) ?_
  clear hK K
  refine wpE_done (by kernel_rfl) ?_
  go_wp2_with fail
  all_goals
    go_ret
    refine ⟨rfl, RAft.poke (b := wC.setCell ⟨g, p * 6 + 5, none⟩ (.slice a3 (0 + 1 + 0) c3)) (T1 := T.setAt p { pd with kids := pd.kids.take 0 ++ [(k : Int)] ++ pd.kids.drop 0 }) (o := some kd) (o' := some { kd with parent := p }) ?_ ((World.cell?_of_block (a := ⟨rb, 2, none⟩) (heap_setCell_other (p := ⟨g, p * 6 + 5, none⟩) _ nrg)).trans cC) rfl rfl rfl ?_ (by decide) (fun ga G cur hG hl hr => recAt_set hr hG (by decide) hl (by simp) (by simp) (by simp) (by simp) (by simp) (by decide))⟩
    · refine RefAt.put1 HAT.out HFF.out.1 HFF.out.2.1 HFF.out.2.2 (T' := T.setAt p { pd with kids := pd.kids.take 0 ++ [(k : Int)] ++ pd.kids.drop 0 }) (j := p) (m := 5) (o := some pd) (o' := some { pd with kids := pd.kids.take 0 ++ [(k : Int)] ++ pd.kids.drop 0 }) XC.out rfl rfl rfl HP.out (by decide) (fun G cur hG hb hl hr => recAt_set hr hG (by decide) hl (by simp) (by simp) (by simp) (by simp) ?_ (by decide))
      simp only [if_true]
      have hrow : RowP wC (fun b => w.heap.size ≤ b) 3 1 (.slice a3 (0 + 1 + 0) c3) (pd.kids.take 0 ++ [(k : Int)] ++ pd.kids.drop 0).length ((pd.kids.take 0 ++ [(k : Int)] ++ pd.kids.drop 0).map (Value.int .i64)) := by rw [HK0.out]; exact HRC.out
      exact RowP.rd (RowP.move hrow (p' := fun _ => True) fun b hb' => ⟨hb b hb', trivial⟩)
    · show (T.nodes.set p _)[k]? = _
      rw [List.getElem?_set_ne hpk]; exact HK.out
theorem rInsert_ok (hR : RefOn w F rb T) {d : Nat → Nat} (hw : WF T d) {p at' k : Nat} {pd kd : Nd} (hp : T.nodes[p]? = some (some pd)) (hk : T.nodes[k]? = some (some kd)) (ht : (pd.tag == 0) = false)
    (h0 : k ≠ 0) (h1 : kd.parent < 0) (h3 : at' ≤ pd.kids.length) (hpk : p ≠ k) (hin : T.win p k = false) (hdp : ((T.pathOf p).length : Int) + 1 + T.height k ≤ T.deep) : Calls Tryz.prog 88 #[.pointer (some ⟨rb, 0, none⟩), .int .i64 p, .int .i64 at', .int .i64 k] w (RErr F w rb 0 (T.link p at' k pd kd)) := by
  obtain ⟨g, cap, aa, ac, ka, kc, c, _, _, _, _, _, c5, _⟩ := hR.at.one hp
  cases ka with
  | none =>
    exact rInsert_ok_none hR hw hp hk ht h0 h1 h3 hpk hin hdp fun g' cap' e => by
      rw [c] at e
      cases e
      exact ⟨_, _, c5⟩
  | some ad =>
    exact rInsert_ok_some hR hw hp hk ht h0 h1 h3 hpk hin hdp fun g' cap' e => by
      rw [c] at e
      cases e
      exact ⟨_, _, _, c5⟩
end
theorem refAt_rid6 {w w1 ga : World} {rb g : Nat} {T T' : Tr} (h : RefAt w ga rb g T) (x : Ext w w1) {j : Nat} (hj : j < T.nodes.length) (t1 : T'.cap = T.cap) (t2 : T'.deep = T.deep) (t3 : T'.nodes = T.nodes.set j none) {s0 : ByteArray} (hs : s0 = ByteArray.empty) :
    RefAt (put6 w1 g (j * 6) (.int .i64 0) (.int .i64 0) (.int .i64 (-1)) (.slice none 0 0) (.string s0) (.slice none 0 0)) ga rb g T' ∧ Chg (fun b => b = g) w (put6 w1 g (j * 6) (.int .i64 0) (.int .i64 0) (.int .i64 (-1)) (.slice none 0 0) (.string s0) (.slice none 0 0)) := by
  obtain ⟨cap, cur, b1, b2, b3, b4, b5, b6⟩ := h.row
  have hc : Chg (fun b => b = g) w (put6 w1 g (j * 6) (.int .i64 0) (.int .i64 0) (.int .i64 (-1)) (.slice none 0 0) (.string s0) (.slice none 0 0)) := put6_chg (F := fun b => b = g) (Chg.ext x) (fun _ => rfl) _ _ _ _ _ _ _
  have hlen : T'.nodes.length = T.nodes.length := by rw [t3]; simp
  refine ⟨⟨h.ne, ⟨cap, _, ?_, by omega, b3, put6_same (x.block b4) _ _ _ _ _ _, by rw [set6_size]; exact b5, fun i o hi => ?_⟩, fun q y hq => ?_⟩, hc⟩
  · rw [t1, t2, hlen]; exact hc.block b1 (fun e => h.ne e)
  · rw [t3] at hi
    by_cases e : i = j
    · subst e
      rw [List.getElem?_set_self hj] at hi
      cases hi
      subst hs
      have hz := set6_in (cs := cur) (o := i * 6) (by omega) (.int .i64 0) (.int .i64 0) (.int .i64 (-1)) (.slice none 0 0) (.string ByteArray.empty) (.slice none 0 0)
      exact ⟨.slice none 0 0, .slice none 0 0, hz 0 (by decide), hz 1 (by decide), hz 2 (by decide), hz 3 (by decide), hz 4 (by decide), hz 5 (by decide), nil_row _, nil_row _⟩
    · rw [List.getElem?_set_ne (Ne.symm e)] at hi
      exact (b6 i o hi).keep (fun _ _ h => h) fun m hm => set6_other (by omega) _ _ _ _ _ _
  · obtain ⟨e1, e2, e3⟩ := h.told q y hq
    exact ⟨hc.cell e1 e3, e2, e3⟩
def RDropIs (w ga : World) (rb g : Nat) (T' : Tr) (e : Ending) (w' : World) : Prop := e = .returned (.tuple #[]) ∧ RefAt w' ga rb g T' ∧ Chg (fun b => b = g) w w'
theorem rid_first {T : Tr} {q : Nat → Bool} {i : Nat} {nd : Nd} (hi : T.nodes[i]? = some (some nd)) (hq : q i = false) : (T.rid fun j => decide (j = i) || q j).nodes = (T.rid q).nodes.set i none := by
  rw [← Tr.rid_set hi hq]
theorem rdrop_fuel {T : Tr} {d : Nat → Nat} (hw : WF T d) {ga : World} {rb g : Nat} :
    ∀ (f i : Nat) (nd : Nd) (q : Nat → Bool) (w : World), T.nodes[i]? = some (some nd) → 41 ≤ d i + f → (∀ (j : Nat) (jd : Nd), T.nodes[j]? = some (some jd) → T.within j i = true → q j = false) →
      RefAt w ga rb g (T.rid q) → Calls Tryz.prog 138 #[.pointer (some ⟨rb, 0, none⟩), .int .i64 i] w (RDropIs w ga rb g (T.rid fun j => T.within j i || q j)) := by
  intro f
  induction f with
  | zero => intro i nd q w h h1; have := hw.deep i nd h; have := hw.small.deep1; omega
  | succ f ih =>
    intro i nd q w h h1 hq hR
    have hqi := hq i nd h (hw.within_self h)
    have hi' : (T.rid q).nodes[i]? = some (some nd) := Tr.rid_some.2 ⟨hqi, h⟩
    have hlen := hw.small.len
    have hil := (List.getElem?_eq_some_iff.1 h).1
    have nrg := hR.ne
    have nrg' := Ne.symm nrg
    obtain ⟨cap, cur, b1, b2, b3, b4, b5, b6⟩ := hR.row
    obtain ⟨va, vk, r0, r1, r2, r3, r4, r5, r6, r7⟩ := (b6 i _ hi').out
    replace r7 : RowRd ga 1 vk nd.kids.length (nd.kids.map (Value.int .i64)) := r7
    obtain ⟨ka, kc, rfl, hkc⟩ := r7.len_of
    have c2 : w.cell? ⟨rb, 2, none⟩ = some (.slice (some ⟨g, 0, none⟩) (T.rid q).nodes.length cap) := cellOf b1 rfl
    rw [Tr.rid_len] at c2
    have g0 := freeOf b4 (i * 6)
    have g1 := freeOf b4 (i * 6 + 1)
    have g2 := freeOf b4 (i * 6 + 2)
    have g3 := freeOf b4 (i * 6 + 3)
    have g4 := freeOf b4 (i * 6 + 4)
    have g5 := freeOf b4 (i * 6 + 5)
    replace r0 := cellOf b4 r0
    replace r1 := cellOf b4 r1
    replace r2 := cellOf b4 r2
    replace r3 := cellOf b4 r3
    replace r4 := cellOf b4 r4
    replace r5 : w.cell? ⟨g, i * 6 + 5, none⟩ = some (.slice ka nd.kids.length kc) := cellOf b4 r5
    have hst := refAt_rid6 hR (Ext.refl w) (j := i) (by rw [Tr.rid_len]; exact hil) (T' := T.rid fun j => decide (j = i) || q j) rfl rfl (rid_first h hqi) (s0 := ⟨#[]⟩) rfl
    have hkl := hw.kids_len h
    have HST := qh hst
    have HW := qh hw
    have HH := qh h
    have HQ := qh hq
    have HQI := qh hqi
    have IH := qh ih
    have HKR := qh r7
    clear hw hR h hq hqi ih hi' b1 b4 b6 r6 r7 hst
    go_enter Tryz.func138, Tryz.ntmps138
    go_wp2_with fail
    obtain ⟨ws, hws⟩ : ∃ ws : World, ws = (((((w.setCell ⟨g, i * 6, none⟩ (.int .i64 0)).setCell ⟨g, i * 6 + 1, none⟩ (.int .i64 0)).setCell ⟨g, i * 6 + 2, none⟩ (.int .i64 (-1))).setCell ⟨g, i * 6 + 3, none⟩ (.slice none 0 0)).setCell ⟨g, i * 6 + 4, none⟩ (.string ⟨#[]⟩)).setCell ⟨g, i * 6 + 5, none⟩ (.slice none 0 0) := ⟨_, rfl⟩
    have hws2 : put6 w g (i * 6) (.int .i64 0) (.int .i64 0) (.int .i64 (-1)) (.slice none 0 0) (.string ⟨#[]⟩) (.slice none 0 0) = ws := hws.symm
    rw [hws2] at HST
    rw [← hws]
    clear hws hws2 g0 g1 g2 g3 g4 g5 r0 r1 r2 r3 r4 r5 c2
    go_loopw [5] (fun n wr => ∃ k : Nat, k ≤ nd.kids.length ∧ n = .int .i64 k ∧ Chg (fun b => b = g) w wr ∧ RefAt wr ga rb g (T.rid fun j => T.inAny (nd.kids.take k) j || (decide (j = i) || q j))) (fun n _ => nd.kids.length - (intOf n).toNat)
    case atStart =>
      refine ⟨0, Nat.zero_le _, rfl, HST.out.2, ?_⟩
      have e : (fun j => T.inAny (nd.kids.take 0) j || (decide (j = i) || q j)) = fun j => decide (j = i) || q j := by funext j; simp [Tr.inAny]
      rw [e]; exact HST.out.1
    case round =>
      obtain ⟨k, hk, rfl, hch, htr⟩ := hrel
      have HTR := qh htr
      have HCH := qh hch
      clear htr hch HST
      by_cases hlt : k < nd.kids.length
      · obtain ⟨x, hx⟩ : ∃ x, nd.kids[k]? = some x := ⟨nd.kids[k], by simp [hlt]⟩
        cases ka with
        | none =>
          obtain ⟨_, _, _, e, _, hn, _⟩ := HKR.out
          cases e
          have := (hn rfl).1
          omega
        | some a =>
          obtain ⟨kb, ko, ks⟩ := a
          have cx : wr.cell? (Addr.add ⟨kb, ko, ks⟩ k) = some (.int .i64 x) := by
            obtain ⟨_, _, _, e, _, _, hc⟩ := HKR.out
            cases e
            exact (HTR.out.told _ _ (hc _ rfl k (.int .i64 x) (by rw [List.getElem?_map, hx]; rfl))).1
          obtain ⟨j, kd, h3, h4, h5, h6⟩ := HW.out.kid HH.out hx
          subst h3
          have HX := qh hx
          have H4 := qh h4
          have hmem : (j : Int) ∈ nd.kids := List.mem_of_getElem? hx
          have hqj : ∀ (m : Nat) (md : Nd), T.nodes[m]? = some (some md) → T.within m j = true → (T.inAny (nd.kids.take k) m || (decide (m = i) || q m)) = false := fun m md hm hin => by
            rw [HQ.out m md hm (HW.out.kid_within HH.out hmem m md hm hin), Bool.or_false]
            have hmi : decide (m = i) = false := by
              rw [decide_eq_false_iff_not]
              intro e
              subst e
              have := (HW.out.within_depth m md hm hin).1
              omega
            rw [hmi, Bool.or_false]
            unfold Tr.inAny
            rw [Bool.eq_false_iff]
            intro hany
            obtain ⟨y, hy, hyin⟩ := List.any_eq_true.1 hany
            obtain ⟨jy, yd, rfl, hyn, _⟩ := (HW.out.kids i nd HH.out).2 y (List.mem_of_mem_take hy)
            refine HW.out.kids_apart HH.out (List.mem_of_mem_take hy) hmem (fun e => ?_) m md hm hyin hin
            subst e
            have hnd := (HW.out.kids i nd HH.out).1
            obtain ⟨hlt', he⟩ := List.getElem?_eq_some_iff.1 hx
            rw [← List.take_append_drop k nd.kids, List.nodup_append] at hnd
            refine hnd.2.2 _ hy _ ?_ rfl
            rw [List.drop_eq_getElem_cons hlt', he]
            exact List.mem_cons_self
          have h41 : 41 ≤ d j + f := by omega
          have hrec := IH.out j kd _ wr h4 h41 hqj HTR.out
          have HREC := qh hrec
          clear hx h4 h5 h6 hqj hrec hmem
          go_wp2_with (go_at_call 138; refine HREC.out.mono ?_; rintro e w' ⟨rfl, hT', hch'⟩)
          go_roundw
          case rel =>
            refine ⟨k + 1, by omega, by go_num, HCH.out.trans hch', ?_⟩
            have e : (fun m : Nat => T.inAny (nd.kids.take (k + 1)) m || (decide (m = i) || q m)) = fun m : Nat => T.within m j || (T.inAny (nd.kids.take k) m || (decide (m = i) || q m)) := by
              funext m; rw [inAny_take T nd.kids k j HX.out, Bool.or_assoc]
            rw [e]; exact hT'
          case measure => simp [intOf]; omega
      · obtain rfl : k = nd.kids.length := by omega
        go_wp2_with fail
        go_end0
        refine ⟨rfl, ?_, HCH.out⟩
        have htr := HTR.out
        rw [List.take_length] at htr
        have e2 : (T.rid fun j => T.inAny nd.kids j || (decide (j = i) || q j)) = T.rid fun j => T.within j i || q j := Tr.rid_congr fun j jd hj => by
          rw [← HW.out.inAny_kids HH.out hj]
          cases T.inAny nd.kids j <;> cases decide (j = i) <;> cases q j <;> rfl
        rw [← e2]; exact htr
section
variable {w : World} {F : Nat → Prop} {rb : Nat} {T : Tr}
theorem rDrop_none (hR : RefOn w F rb T) {id : Int} (h : T.get? id = none) : Calls Tryz.prog 98 #[.pointer (some ⟨rb, 0, none⟩), .int .i64 id] w (RErr F w rb 2 T) := by
  have H := qh (RAft.refl hR)
  have HAS := qh (rHas_no hR.at h)
  clear hR h
  go_enter Tryz.func98, Tryz.ntmps98
  go_wp2_with (go_at_call 91; refine HAS.out.mono ?_; rintro e w' ⟨rfl, rfl⟩)
  go_ret
  exact ⟨rfl, H.out⟩
theorem rDrop_arg (hR : RefOn w F rb T) {id : Int} {nd : Nd} (h : T.get? id = some nd) (ha : id = 0 ∨ 0 ≤ nd.parent) : Calls Tryz.prog 98 #[.pointer (some ⟨rb, 0, none⟩), .int .i64 id] w (RErr F w rb 1 T) := by
  have H := qh (RAft.refl hR)
  have HAS := qh (rHas_yes hR.at h)
  obtain ⟨i, rfl, hi, hl⟩ := nodes_some h
  obtain ⟨g, cap, aa, ac, ka, kc, c, c0, c1, c2, _⟩ := hR.at.one hi
  replace c2 : w.cell? ⟨g, i * 6 + 2, none⟩ = some (.int .i64 nd.parent) := c2
  clear hR h hi c0 c1
  by_cases h0 : (i : Int) = 0
  · have b0 : ((i : Int) == 0) = true := by simp [h0]
    clear ha h0
    go_enter Tryz.func98, Tryz.ntmps98
    go_wp2_with (go_at_call 91; refine HAS.out.mono ?_; rintro e w' ⟨rfl, rfl⟩)
    go_ret
    exact ⟨rfl, H.out⟩
  · have b0 : ((i : Int) == 0) = false := by simpa using h0
    have h1 : 0 ≤ nd.parent := by rcases ha with h | h; exact absurd h h0; exact h
    clear ha h0
    go_enter Tryz.func98, Tryz.ntmps98
    go_wp2_with (go_at_call 91; refine HAS.out.mono ?_; rintro e w' ⟨rfl, rfl⟩)
    go_ret
    exact ⟨rfl, H.out⟩
theorem rDrop_ok (hR : RefOn w F rb T) {d : Nat → Nat} (hw : WF T d) {i : Nat} {nd : Nd} (hi : T.nodes[i]? = some (some nd)) (h0 : i ≠ 0) (hp : nd.parent = -1) :
    Calls Tryz.prog 98 #[.pointer (some ⟨rb, 0, none⟩), .int .i64 i] w (RErr F w rb 0 (T.rid fun j => T.within j i)) := by
  have HAS := qh (rHas_yes hR.at (Tr.get_of hi))
  obtain ⟨g, cap, aa, ac, ka, kc, c, c0, c1, c2, _⟩ := hR.at.one hi
  replace c2 : w.cell? ⟨g, i * 6 + 2, none⟩ = some (.int .i64 (-1)) := by rw [← hp]; exact c2
  obtain ⟨ga, g', hat, hF1, hF2, hF3⟩ := hR.out
  have hat2 := hat
  rw [← Tr.rid_none hw.count] at hat2
  have hd := rdrop_fuel hw 50 i nd (fun _ => false) w hi (by omega) (fun _ _ _ _ => rfl) hat2
  have e : (T.rid fun j => T.within j i || false) = T.rid fun j => T.within j i := by simp
  rw [e] at hd
  have hil := (List.getElem?_eq_some_iff.1 hi).1
  have HD := qh hd
  have HFF := qh (And.intro hF1 (And.intro hF2 hF3))
  have b0 : ((i : Int) == 0) = false := by simp; omega
  clear hR hw hi h0 hp hat hat2 hF1 hF2 hF3 hd e c0 c1
  go_enter Tryz.func98, Tryz.ntmps98
  go_wp2_with (first | (go_at_call 91; refine HAS.out.mono ?_; rintro e w' ⟨rfl, rfl⟩) | (go_at_call 138; refine HD.out.mono ?_; rintro e w' ⟨rfl, hT', hch⟩))
  go_ret
  exact ⟨rfl, ⟨ga, g', hT', .inl HFF.out.1, .inl HFF.out.2.1, fun q y hq => .inl (HFF.out.2.2 q y hq)⟩, hch.wide fun b hb => by subst hb; exact HFF.out.2.1⟩
end
def longZ (s : ByteArray) : Int := if 8192 < (anewB s).size then 10 else 0
mutual
def PN.worst : PN → Int
  | .mk t a s ks => if (PN.mk t a s ks).bad then 1 else PN.worsts (longZ s) ks
def PN.worsts (z : Int) : List PN → Int
  | [] => z
  | k :: r => if PN.worst k = 1 then 1 else PN.worsts (if PN.worst k = 0 then z else PN.worst k) r
end
theorem PN.worst_eq (n : PN) : n.worst = if n.bad then 1 else PN.worsts (longZ n.text) n.kids := by cases n; rfl
theorem longZ_in (s : ByteArray) : longZ s = 0 ∨ longZ s = 10 := by unfold longZ; split; exact .inr rfl; exact .inl rfl
theorem worsts_in : ∀ (l : List PN), (∀ k ∈ l, k.worst = 0 ∨ k.worst = 1 ∨ k.worst = 10) → ∀ z : Int, (z = 0 ∨ z = 10) → PN.worsts z l = 0 ∨ PN.worsts z l = 1 ∨ PN.worsts z l = 10 := by
  intro l
  induction l with
  | nil => intro _ z hz; simp only [PN.worsts]; rcases hz with h | h; exact .inl h; exact .inr (.inr h)
  | cons k r ih =>
    intro h z hz
    simp only [PN.worsts]
    have h1 := h k List.mem_cons_self
    split
    · exact .inr (.inl rfl)
    · refine ih (fun x hx => h x (List.mem_cons_of_mem _ hx)) _ ?_
      split
      · exact hz
      · rcases h1 with h1 | h1 | h1
        · exact .inl h1
        · contradiction
        · exact .inr h1
theorem worst_in (n : PN) : n.worst = 0 ∨ n.worst = 1 ∨ n.worst = 10 := by
  revert n
  refine PN.induct _ fun n ih => ?_
  rw [PN.worst_eq]
  split
  · exact .inr (.inl rfl)
  · exact worsts_in n.kids ih _ (longZ_in _)
theorem worsts_cons (z : Int) (k : PN) (r : List PN) : PN.worsts z (k :: r) = if k.worst = 1 then 1 else PN.worsts (if k.worst = 0 then z else k.worst) r := rfl
theorem worsts_ten : ∀ (l : List PN), PN.worsts 10 l = if PN.worsts 0 l = 1 then 1 else 10 := by
  intro l
  induction l with
  | nil => simp [PN.worsts]
  | cons k r ih =>
    have h3 := worsts_in r (fun k _ => worst_in k) 0 (.inl rfl)
    generalize hv : PN.worsts 0 (k :: r) = v
    rw [worsts_cons] at hv ⊢
    rcases worst_in k with h | h | h
    · rw [h] at hv ⊢
      simp only [if_true, if_neg (show ¬ (0 : Int) = 1 by decide)] at hv ⊢
      rw [ih, hv]
    · rw [h] at hv ⊢
      simp only [if_true] at hv ⊢
      rw [← hv]; rfl
    · rw [h] at hv ⊢
      simp only [if_neg (show ¬ (10 : Int) = 1 by decide), if_neg (show ¬ (10 : Int) = 0 by decide)] at hv ⊢
      rw [ih] at hv ⊢
      rw [← hv]
      split <;> simp
theorem looks_one : ∀ (l : List PN), (∀ k ∈ l, ∀ (deep : Int) (m : Ms), m.e = 1 → (PN.look deep m k).e = 1) → ∀ (deep : Int) (m : Ms), m.e = 1 → (PN.looks deep m l).e = 1 := by
  intro l
  induction l with
  | nil => intro _ deep m h; exact h
  | cons k r ih =>
    intro h deep m hm
    simp only [PN.looks]
    exact ih (fun x hx => h x (List.mem_cons_of_mem _ hx)) _ _ (h k List.mem_cons_self _ _ hm)
theorem look_one : ∀ (n : PN) (deep : Int) (m : Ms), m.e = 1 → (PN.look deep m n).e = 1 := by
  refine PN.induct _ fun n ih deep m hm => ?_
  rw [PN.look_eq]
  refine looks_one n.kids ih _ _ ?_
  unfold Ms.one
  simp [hm]
def WorstTo (z v : Int) : Int := if v = 1 then 1 else if v = 0 then z else v
theorem looks_worst : ∀ (l : List PN), (∀ k ∈ l, ∀ (deep : Int) (m : Ms), (m.e = 0 ∨ m.e = 10) → (PN.look deep m k).e = WorstTo m.e k.worst) → ∀ (deep : Int) (m : Ms), (m.e = 0 ∨ m.e = 10) → (PN.looks deep m l).e = PN.worsts m.e l := by
  intro l
  induction l with
  | nil => intro _ deep m h; rfl
  | cons k r ih =>
    intro h deep m hm
    simp only [PN.looks, PN.worsts]
    have h1 := h k List.mem_cons_self deep m hm
    unfold WorstTo at h1
    rcases worst_in k with h2 | h2 | h2
    · rw [h2] at h1 ⊢
      simp only [if_neg (show ¬ (0 : Int) = 1 by decide), if_true] at h1 ⊢
      rw [ih (fun x hx => h x (List.mem_cons_of_mem _ hx)) deep _ (by rw [h1]; exact hm), h1]
    · rw [h2] at h1 ⊢
      simp only [if_true] at h1 ⊢
      exact looks_one r (fun x _ => look_one x) _ _ h1
    · rw [h2] at h1 ⊢
      simp only [if_neg (show ¬ (10 : Int) = 1 by decide), if_neg (show ¬ (10 : Int) = 0 by decide)] at h1 ⊢
      rw [ih (fun x hx => h x (List.mem_cons_of_mem _ hx)) deep _ (by rw [h1]; exact .inr rfl), h1]
theorem look_worst : ∀ (n : PN) (deep : Int) (m : Ms), (m.e = 0 ∨ m.e = 10) → (PN.look deep m n).e = WorstTo m.e n.worst := by
  refine PN.induct _ fun n ih deep m hm => ?_
  rw [PN.look_eq, PN.worst_eq]
  cases hb : n.bad with
  | true =>
    simp only [if_true]
    have h1 : (Ms.one n deep m).e = 1 := by unfold Ms.one; simp [hb]
    rw [looks_one n.kids (fun x _ => look_one x) _ _ h1]
    rfl
  | false =>
    simp only [Bool.false_eq_true, if_false]
    have h1 : (Ms.one n deep m).e = if 8192 < (anewB n.text).size then 10 else m.e := by
      unfold Ms.one
      simp only [hb, Bool.false_eq_true, if_false]
      by_cases hl : 8192 < (anewB n.text).size
      · rcases hm with h | h <;> simp [hl, h]
      · simp [hl]
    have h2 : (Ms.one n deep m).e = 0 ∨ (Ms.one n deep m).e = 10 := by rw [h1]; split; exact .inr rfl; exact hm
    rw [looks_worst n.kids ih _ _ h2, h1]
    unfold WorstTo longZ
    have h3 := worsts_in n.kids (fun k _ => worst_in k) 0 (.inl rfl)
    have h4 := worsts_ten n.kids
    by_cases hl : 8192 < (anewB n.text).size
    · simp only [if_pos hl]
      rcases h3 with h3 | h3 | h3 <;> rw [h4, h3] <;> simp
    · simp only [if_neg hl]
      rcases hm with hm | hm <;> rw [hm]
      · rcases h3 with h3 | h3 | h3 <;> rw [h3] <;> simp
      · rcases h3 with h3 | h3 | h3 <;> rw [h4, h3] <;> simp
theorem look_e0 (n : PN) : (PN.look 0 ⟨0, 0, 0⟩ n).e = n.worst := by
  rw [look_worst n 0 ⟨0, 0, 0⟩ (.inl rfl)]
  unfold WorstTo
  rcases worst_in n with h | h | h <;> rw [h] <;> simp
theorem worsts_step {l : List PN} {k : Nat} {x : PN} (h : l[k]? = some x) (z : Int) : PN.worsts z (l.drop k) = if x.worst = 1 then 1 else PN.worsts (if x.worst = 0 then z else x.worst) (l.drop (k + 1)) := by
  obtain ⟨hlt, he⟩ := List.getElem?_eq_some_iff.1 h
  rw [List.drop_eq_getElem_cons hlt, he]
  rfl
theorem worst_zero {n : PN} : n.worst = 0 ↔ n.ok = true := by
  rw [← look_e0, (look_spec n 0 ⟨0, 0, 0⟩).2.2]
  simp
theorem sizes_mem {l : List PN} {x : PN} (h : x ∈ l) : x.size ≤ PN.sizes l := by
  induction l with
  | nil => cases h
  | cons k r ih =>
    simp only [PN.sizes]
    rcases List.mem_cons.1 h with rfl | h
    · omega
    · have := ih h; omega
theorem highs_append : ∀ (l r : List PN), PN.highs (l ++ r) = max (PN.highs l) (PN.highs r) := by
  intro l
  induction l with
  | nil => intro r; simp [PN.highs]
  | cons k l ih => intro r; simp only [List.cons_append, PN.highs, ih]; omega
theorem highs_snoc {l : List PN} {k : Nat} {x : PN} (h : l[k]? = some x) : PN.highs (l.take (k + 1)) = max (PN.highs (l.take k)) (x.high + 1) := by
  obtain ⟨hlt, he⟩ := List.getElem?_eq_some_iff.1 h
  rw [List.take_succ_eq_append_getElem hlt, he, highs_append]
  simp [PN.highs]
theorem rMay_any {w0 : World} : ∀ (n : PN) (nv : Value) (w : World), n.short = true → n.size ≤ 100000 → RdN w0 n nv → Ext w0 w → Calls Tryz.prog 140 #[nv] w (RVal (.int .i64 n.worst) w) := by
  refine PN.induct _ fun n ih nv w hsh hsz hr hx => ?_
  have hnl := n.len_size
  obtain ⟨av, kv, rfl, ha, hk⟩ := hr.open
  obtain ⟨aa, acap, rfl, hac⟩ := ha.len_of
  obtain ⟨ka, kcap, rfl, hkc, hkm, hkn, hkr⟩ := hk
  have x1 := (Ext.refl w).alloc (.cells #[.int .i64 n.tag, .slice aa n.attrs.length acap, .string n.text, .slice ka n.kids.length kcap] 35)
  have hbox := heap_alloc_new w (.cells #[.int .i64 n.tag, .slice aa n.attrs.length acap, .string n.text, .slice ka n.kids.length kcap] 35)
  have HKR := qh hkr
  have HKN := qh hkn
  have HX := qh hx
  have HX1 := qh x1
  have IH := qh ih
  unfold maxLen at hkm
  have HSE := qh n.size_eq
  have HSZ := qh hsz
  have hts : n.text.size ≤ 100000 := by rw [PN.short_eq] at hsh; simp at hsh; exact hsh.1.1
  have has : n.attrs.length ≤ 60000 := by rw [PN.short_eq] at hsh; simp at hsh; exact hsh.1.2
  have hks : PN.shorts n.kids = true := by rw [PN.short_eq] at hsh; simp at hsh; exact hsh.2
  have hbs : (anewB n.text).size ≤ 400000 := by have := anewB_size n.text; omega
  have hwe := n.worst_eq
  have HTS := qh hts
  have HWE := qh hwe
  have HKS := qh hks
  replace hnl : n.kids.length ≤ 100000 := by omega
  clear hkr hkn hx ih hr ha x1 hsz hsh hks hwe hts
  go_enter Tryz.func140, Tryz.ntmps140
  go_upto_region 1 with fail
  obtain ⟨wb, hwb⟩ : ∃ wb : World, wb = w.alloc (.cells #[.int .i64 n.tag, .slice aa n.attrs.length acap, .string n.text, .slice ka n.kids.length kcap] 35) := ⟨_, rfl⟩
  rw [← hwb] at hbox HX1 ⊢
  clear hwb
  have k0 := cellOf hbox (i := 0) (v := .int .i64 n.tag) rfl
  have k1 := cellOf hbox (i := 1) (v := .slice aa n.attrs.length acap) rfl
  have k2 := cellOf hbox (i := 2) (v := .string n.text) rfl
  have k3 := cellOf hbox (i := 3) (v := .slice ka n.kids.length kcap) rfl
  clear hbox
  have K3 := qh (fun (wr : World) (x : Ext wb wr) => x.cell k3)
  have hz9 : (wb.heap.size : Int) = wb.heap.size := rfl
  clear hz9
  by_cases ht : n.tag = 0
  · have tb : (n.tag == 0) = true := by simp [ht]
    have d0 : decide (n.tag < 0) = false := by simp; omega
    have d1 : decide (16 < n.tag) = false := by simp; omega
    have d2 : decide (0 < n.tag) = false := by simp; omega
    have t0 : 0 ≤ n.tag := by omega
    have t1 : n.tag ≤ 16 := by omega
    have t2 : n.tag ≤ 0 := by omega
    have HT := qh ht
    by_cases hA : 0 < n.attrs.length
    · have HBAD : Hid (n.bad = true) := qh (bad_attrs ht hA)
      clear ht
      go_wp2_with fail
      go_ret
      refine ⟨?_, HX1.out⟩
      rw [HWE.out, if_pos HBAD.out]; rfl
    · have hA0 : n.attrs.length = 0 := by omega
      by_cases hK : 0 < n.kids.length
      · have HBAD : Hid (n.bad = true) := qh (bad_kids ht hK)
        clear ht hA0
        go_wp2_with fail
        go_ret
        refine ⟨?_, HX1.out⟩
        rw [HWE.out, if_pos HBAD.out]; rfl
      · have HBAD : Hid (n.bad = false) := qh (bad_text ht hA hK)
        clear ht
        go_upto_region 4 with fail
        clear hA hA0 hK
        obtain ⟨z, hz, hzc⟩ : ∃ z, longZ n.text = z ∧ (z = 0 ∨ z = 10) := ⟨_, rfl, longZ_in _⟩
        have hLZ : n.worst = PN.worsts z n.kids := by rw [HWE.out, if_neg (by rw [HBAD.out]; decide), hz]
        have HLZ := qh hLZ
        clear hLZ
        by_cases hl : 8192 < (anewB n.text).size
        · have hz10 : z = 10 := by rw [← hz]; unfold longZ; rw [if_pos hl]
          subst hz10
          have d3 : decide (8192 < ((anewB n.text).size : Int)) = true := by simp; omega
          go_wp2_with (go_at_call 85; refine (Anew_any _ HTS.out _).mono ?_; rintro e w' ⟨rfl, hy⟩; replace k3 := hy.cell k3; have HY := qh hy; clear hy)
          go_loopw [2, 3, 4, 5] (fun _ v i _ wr => ∃ (k : Nat) (z : Int), k ≤ n.kids.length ∧ i = .int .i64 k ∧ v = .int .i64 z ∧ (z = 0 ∨ z = 10) ∧ Ext wb wr ∧ Hid (n.worst = PN.worsts z (n.kids.drop k))) (fun _ _ i _ _ => n.kids.length - (intOf i).toNat)
          case atStart => exact ⟨0, _, Nat.zero_le _, rfl, rfl, .inr rfl, HY.out, qh (by rw [List.drop_zero]; exact HLZ.out)⟩
          case round =>
            obtain ⟨k, z, hk, rfl, rfl, hzc, xr, hwz⟩ := hrel
            have HXR := qh xr
            have k3 := (K3.out _ xr)
            by_cases hkk : k < n.kids.length
            · obtain ⟨x, hx⟩ : ∃ x, n.kids[k]? = some x := ⟨n.kids[k], by simp [hkk]⟩
              cases ka with
              | none => exact absurd (HKN.out rfl).1 (by omega)
              | some a =>
                obtain ⟨b, off, sp⟩ := a
                obtain ⟨c0', c1', c2', c3', q0, q1, q2, q3, hrd⟩ := HKR.out _ rfl k x hx
                have hxx : Ext w0 wr := (HX.out.trans HX1.out).trans HXR.out
                replace q0 := hxx.cells _ _ q0
                replace q1 := hxx.cells _ _ q1
                replace q2 := hxx.cells _ _ q2
                replace q3 := hxx.cells _ _ q3
                rw [add_later _ _ _ (by decide)] at q1 q2 q3
                have htk := sizes_mem (List.mem_of_getElem? hx)
                have h1 := HSE.out
                have h2 := HSZ.out
                have hrec := IH.out x (List.mem_of_getElem? hx) _ wr (PN.shorts_mem HKS.out (List.mem_of_getElem? hx)) (by omega) hrd hxx
                have hst := worsts_step hx z
                have hwz2 := hwz.out
                rw [hst] at hwz2
                have HWZ := qh hwz2
                rcases worst_in x with hv | hv | hv
                · rw [hv] at hrec
                  have HN := qh (show n.worst = PN.worsts z (n.kids.drop (k + 1)) by rw [HWZ.out, hv]; simp)
                  have HREC := qh hrec
                  clear hx hrd hrec hxx htk h1 h2 hst hwz2 hv hwz xr
                  go_wp2_with (go_at_call 140; refine HREC.out.mono ?_; rintro e w' ⟨rfl, p4⟩)
                  go_roundw
                  case rel => exact ⟨k + 1, z, by omega, by go_num, rfl, hzc, HXR.out.trans p4, HN⟩
                  case measure => simp [intOf]; omega
                · rw [hv] at hrec
                  have HN := qh (show n.worst = 1 by rw [HWZ.out, hv]; simp)
                  have HREC := qh hrec
                  clear hx hrd hrec hxx htk h1 h2 hst hwz2 hv hwz xr
                  go_wp2_with (go_at_call 140; refine HREC.out.mono ?_; rintro e w' ⟨rfl, p4⟩; have HP4 := qh p4)
                  go_ret
                  exact ⟨by rw [HN.out]; rfl, (HX1.out.trans HXR.out).trans HP4.out⟩
                · rw [hv] at hrec
                  have HN := qh (show n.worst = PN.worsts 10 (n.kids.drop (k + 1)) by rw [HWZ.out, hv]; simp)
                  have HREC := qh hrec
                  clear hx hrd hrec hxx htk h1 h2 hst hwz2 hv hwz xr
                  go_wp2_with (go_at_call 140; refine HREC.out.mono ?_; rintro e w' ⟨rfl, p4⟩)
                  go_roundw
                  case rel => exact ⟨k + 1, 10, by omega, by go_num, rfl, .inr rfl, HXR.out.trans p4, HN⟩
                  case measure => simp [intOf]; omega
            · obtain rfl : k = n.kids.length := by omega
              have hwz2 := hwz.out
              rw [List.drop_length] at hwz2
              have HN := qh (show n.worst = z from hwz2)
              clear hwz hwz2
              go_wp2_with fail
              go_ret
              exact ⟨by rw [HN.out]; rfl, HX1.out.trans HXR.out⟩
        · have hz0 : z = 0 := by rw [← hz]; unfold longZ; rw [if_neg hl]
          subst hz0
          have d3 : decide (8192 < ((anewB n.text).size : Int)) = false := by simp; omega
          go_wp2_with (go_at_call 85; refine (Anew_any _ HTS.out _).mono ?_; rintro e w' ⟨rfl, hy⟩; replace k3 := hy.cell k3; have HY := qh hy; clear hy)
          go_loopw [2, 3, 4, 5] (fun _ v i _ wr => ∃ (k : Nat) (z : Int), k ≤ n.kids.length ∧ i = .int .i64 k ∧ v = .int .i64 z ∧ (z = 0 ∨ z = 10) ∧ Ext wb wr ∧ Hid (n.worst = PN.worsts z (n.kids.drop k))) (fun _ _ i _ _ => n.kids.length - (intOf i).toNat)
          case atStart => exact ⟨0, _, Nat.zero_le _, rfl, rfl, .inl rfl, HY.out, qh (by rw [List.drop_zero]; exact HLZ.out)⟩
          case round =>
            obtain ⟨k, z, hk, rfl, rfl, hzc, xr, hwz⟩ := hrel
            have HXR := qh xr
            have k3 := (K3.out _ xr)
            by_cases hkk : k < n.kids.length
            · obtain ⟨x, hx⟩ : ∃ x, n.kids[k]? = some x := ⟨n.kids[k], by simp [hkk]⟩
              cases ka with
              | none => exact absurd (HKN.out rfl).1 (by omega)
              | some a =>
                obtain ⟨b, off, sp⟩ := a
                obtain ⟨c0', c1', c2', c3', q0, q1, q2, q3, hrd⟩ := HKR.out _ rfl k x hx
                have hxx : Ext w0 wr := (HX.out.trans HX1.out).trans HXR.out
                replace q0 := hxx.cells _ _ q0
                replace q1 := hxx.cells _ _ q1
                replace q2 := hxx.cells _ _ q2
                replace q3 := hxx.cells _ _ q3
                rw [add_later _ _ _ (by decide)] at q1 q2 q3
                have htk := sizes_mem (List.mem_of_getElem? hx)
                have h1 := HSE.out
                have h2 := HSZ.out
                have hrec := IH.out x (List.mem_of_getElem? hx) _ wr (PN.shorts_mem HKS.out (List.mem_of_getElem? hx)) (by omega) hrd hxx
                have hst := worsts_step hx z
                have hwz2 := hwz.out
                rw [hst] at hwz2
                have HWZ := qh hwz2
                rcases worst_in x with hv | hv | hv
                · rw [hv] at hrec
                  have HN := qh (show n.worst = PN.worsts z (n.kids.drop (k + 1)) by rw [HWZ.out, hv]; simp)
                  have HREC := qh hrec
                  clear hx hrd hrec hxx htk h1 h2 hst hwz2 hv hwz xr
                  go_wp2_with (go_at_call 140; refine HREC.out.mono ?_; rintro e w' ⟨rfl, p4⟩)
                  go_roundw
                  case rel => exact ⟨k + 1, z, by omega, by go_num, rfl, hzc, HXR.out.trans p4, HN⟩
                  case measure => simp [intOf]; omega
                · rw [hv] at hrec
                  have HN := qh (show n.worst = 1 by rw [HWZ.out, hv]; simp)
                  have HREC := qh hrec
                  clear hx hrd hrec hxx htk h1 h2 hst hwz2 hv hwz xr
                  go_wp2_with (go_at_call 140; refine HREC.out.mono ?_; rintro e w' ⟨rfl, p4⟩; have HP4 := qh p4)
                  go_ret
                  exact ⟨by rw [HN.out]; rfl, (HX1.out.trans HXR.out).trans HP4.out⟩
                · rw [hv] at hrec
                  have HN := qh (show n.worst = PN.worsts 10 (n.kids.drop (k + 1)) by rw [HWZ.out, hv]; simp)
                  have HREC := qh hrec
                  clear hx hrd hrec hxx htk h1 h2 hst hwz2 hv hwz xr
                  go_wp2_with (go_at_call 140; refine HREC.out.mono ?_; rintro e w' ⟨rfl, p4⟩)
                  go_roundw
                  case rel => exact ⟨k + 1, 10, by omega, by go_num, rfl, .inr rfl, HXR.out.trans p4, HN⟩
                  case measure => simp [intOf]; omega
            · obtain rfl : k = n.kids.length := by omega
              have hwz2 := hwz.out
              rw [List.drop_length] at hwz2
              have HN := qh (show n.worst = z from hwz2)
              clear hwz hwz2
              go_wp2_with fail
              go_ret
              exact ⟨by rw [HN.out]; rfl, HX1.out.trans HXR.out⟩
  · have tb : (n.tag == 0) = false := by simpa using ht
    have HT := qh ht
    by_cases hE : 1 ≤ n.tag ∧ n.tag ≤ 16
    · by_cases hS : n.text.size = 0
      · have HBAD : Hid (n.bad = false) := qh (bad_fine ht hE hS)
        have hemp := text_none hS
        have hsb : n.text.toList.isEmpty = true := by rw [hemp, ByteArray.toList_eq]; rfl
        obtain ⟨E1, E2⟩ := hE
        have hst : n.text.toList = [] := by rw [hemp, ByteArray.toList_eq]; rfl
        clear ht hS hemp
        go_upto_region 4 with fail
        obtain ⟨z, hz, hzc⟩ : ∃ z, longZ n.text = z ∧ (z = 0 ∨ z = 10) := ⟨_, rfl, longZ_in _⟩
        have hLZ : n.worst = PN.worsts z n.kids := by rw [HWE.out, if_neg (by rw [HBAD.out]; decide), hz]
        have HLZ := qh hLZ
        clear hLZ
        by_cases hl : 8192 < (anewB n.text).size
        · have hz10 : z = 10 := by rw [← hz]; unfold longZ; rw [if_pos hl]
          subst hz10
          have d3 : decide (8192 < ((anewB n.text).size : Int)) = true := by simp; omega
          go_wp2_with (go_at_call 85; refine (Anew_any _ HTS.out _).mono ?_; rintro e w' ⟨rfl, hy⟩; replace k3 := hy.cell k3; have HY := qh hy; clear hy)
          go_loopw [2, 3, 4, 5] (fun _ v i _ wr => ∃ (k : Nat) (z : Int), k ≤ n.kids.length ∧ i = .int .i64 k ∧ v = .int .i64 z ∧ (z = 0 ∨ z = 10) ∧ Ext wb wr ∧ Hid (n.worst = PN.worsts z (n.kids.drop k))) (fun _ _ i _ _ => n.kids.length - (intOf i).toNat)
          case atStart => exact ⟨0, _, Nat.zero_le _, rfl, rfl, .inr rfl, HY.out, qh (by rw [List.drop_zero]; exact HLZ.out)⟩
          case round =>
            obtain ⟨k, z, hk, rfl, rfl, hzc, xr, hwz⟩ := hrel
            have HXR := qh xr
            have k3 := (K3.out _ xr)
            by_cases hkk : k < n.kids.length
            · obtain ⟨x, hx⟩ : ∃ x, n.kids[k]? = some x := ⟨n.kids[k], by simp [hkk]⟩
              cases ka with
              | none => exact absurd (HKN.out rfl).1 (by omega)
              | some a =>
                obtain ⟨b, off, sp⟩ := a
                obtain ⟨c0', c1', c2', c3', q0, q1, q2, q3, hrd⟩ := HKR.out _ rfl k x hx
                have hxx : Ext w0 wr := (HX.out.trans HX1.out).trans HXR.out
                replace q0 := hxx.cells _ _ q0
                replace q1 := hxx.cells _ _ q1
                replace q2 := hxx.cells _ _ q2
                replace q3 := hxx.cells _ _ q3
                rw [add_later _ _ _ (by decide)] at q1 q2 q3
                have htk := sizes_mem (List.mem_of_getElem? hx)
                have h1 := HSE.out
                have h2 := HSZ.out
                have hrec := IH.out x (List.mem_of_getElem? hx) _ wr (PN.shorts_mem HKS.out (List.mem_of_getElem? hx)) (by omega) hrd hxx
                have hst := worsts_step hx z
                have hwz2 := hwz.out
                rw [hst] at hwz2
                have HWZ := qh hwz2
                rcases worst_in x with hv | hv | hv
                · rw [hv] at hrec
                  have HN := qh (show n.worst = PN.worsts z (n.kids.drop (k + 1)) by rw [HWZ.out, hv]; simp)
                  have HREC := qh hrec
                  clear hx hrd hrec hxx htk h1 h2 hst hwz2 hv hwz xr
                  go_wp2_with (go_at_call 140; refine HREC.out.mono ?_; rintro e w' ⟨rfl, p4⟩)
                  go_roundw
                  case rel => exact ⟨k + 1, z, by omega, by go_num, rfl, hzc, HXR.out.trans p4, HN⟩
                  case measure => simp [intOf]; omega
                · rw [hv] at hrec
                  have HN := qh (show n.worst = 1 by rw [HWZ.out, hv]; simp)
                  have HREC := qh hrec
                  clear hx hrd hrec hxx htk h1 h2 hst hwz2 hv hwz xr
                  go_wp2_with (go_at_call 140; refine HREC.out.mono ?_; rintro e w' ⟨rfl, p4⟩; have HP4 := qh p4)
                  go_ret
                  exact ⟨by rw [HN.out]; rfl, (HX1.out.trans HXR.out).trans HP4.out⟩
                · rw [hv] at hrec
                  have HN := qh (show n.worst = PN.worsts 10 (n.kids.drop (k + 1)) by rw [HWZ.out, hv]; simp)
                  have HREC := qh hrec
                  clear hx hrd hrec hxx htk h1 h2 hst hwz2 hv hwz xr
                  go_wp2_with (go_at_call 140; refine HREC.out.mono ?_; rintro e w' ⟨rfl, p4⟩)
                  go_roundw
                  case rel => exact ⟨k + 1, 10, by omega, by go_num, rfl, .inr rfl, HXR.out.trans p4, HN⟩
                  case measure => simp [intOf]; omega
            · obtain rfl : k = n.kids.length := by omega
              have hwz2 := hwz.out
              rw [List.drop_length] at hwz2
              have HN := qh (show n.worst = z from hwz2)
              clear hwz hwz2
              go_wp2_with fail
              go_ret
              exact ⟨by rw [HN.out]; rfl, HX1.out.trans HXR.out⟩
        · have hz0 : z = 0 := by rw [← hz]; unfold longZ; rw [if_neg hl]
          subst hz0
          have d3 : decide (8192 < ((anewB n.text).size : Int)) = false := by simp; omega
          go_wp2_with (go_at_call 85; refine (Anew_any _ HTS.out _).mono ?_; rintro e w' ⟨rfl, hy⟩; replace k3 := hy.cell k3; have HY := qh hy; clear hy)
          go_loopw [2, 3, 4, 5] (fun _ v i _ wr => ∃ (k : Nat) (z : Int), k ≤ n.kids.length ∧ i = .int .i64 k ∧ v = .int .i64 z ∧ (z = 0 ∨ z = 10) ∧ Ext wb wr ∧ Hid (n.worst = PN.worsts z (n.kids.drop k))) (fun _ _ i _ _ => n.kids.length - (intOf i).toNat)
          case atStart => exact ⟨0, _, Nat.zero_le _, rfl, rfl, .inl rfl, HY.out, qh (by rw [List.drop_zero]; exact HLZ.out)⟩
          case round =>
            obtain ⟨k, z, hk, rfl, rfl, hzc, xr, hwz⟩ := hrel
            have HXR := qh xr
            have k3 := (K3.out _ xr)
            by_cases hkk : k < n.kids.length
            · obtain ⟨x, hx⟩ : ∃ x, n.kids[k]? = some x := ⟨n.kids[k], by simp [hkk]⟩
              cases ka with
              | none => exact absurd (HKN.out rfl).1 (by omega)
              | some a =>
                obtain ⟨b, off, sp⟩ := a
                obtain ⟨c0', c1', c2', c3', q0, q1, q2, q3, hrd⟩ := HKR.out _ rfl k x hx
                have hxx : Ext w0 wr := (HX.out.trans HX1.out).trans HXR.out
                replace q0 := hxx.cells _ _ q0
                replace q1 := hxx.cells _ _ q1
                replace q2 := hxx.cells _ _ q2
                replace q3 := hxx.cells _ _ q3
                rw [add_later _ _ _ (by decide)] at q1 q2 q3
                have htk := sizes_mem (List.mem_of_getElem? hx)
                have h1 := HSE.out
                have h2 := HSZ.out
                have hrec := IH.out x (List.mem_of_getElem? hx) _ wr (PN.shorts_mem HKS.out (List.mem_of_getElem? hx)) (by omega) hrd hxx
                have hst := worsts_step hx z
                have hwz2 := hwz.out
                rw [hst] at hwz2
                have HWZ := qh hwz2
                rcases worst_in x with hv | hv | hv
                · rw [hv] at hrec
                  have HN := qh (show n.worst = PN.worsts z (n.kids.drop (k + 1)) by rw [HWZ.out, hv]; simp)
                  have HREC := qh hrec
                  clear hx hrd hrec hxx htk h1 h2 hst hwz2 hv hwz xr
                  go_wp2_with (go_at_call 140; refine HREC.out.mono ?_; rintro e w' ⟨rfl, p4⟩)
                  go_roundw
                  case rel => exact ⟨k + 1, z, by omega, by go_num, rfl, hzc, HXR.out.trans p4, HN⟩
                  case measure => simp [intOf]; omega
                · rw [hv] at hrec
                  have HN := qh (show n.worst = 1 by rw [HWZ.out, hv]; simp)
                  have HREC := qh hrec
                  clear hx hrd hrec hxx htk h1 h2 hst hwz2 hv hwz xr
                  go_wp2_with (go_at_call 140; refine HREC.out.mono ?_; rintro e w' ⟨rfl, p4⟩; have HP4 := qh p4)
                  go_ret
                  exact ⟨by rw [HN.out]; rfl, (HX1.out.trans HXR.out).trans HP4.out⟩
                · rw [hv] at hrec
                  have HN := qh (show n.worst = PN.worsts 10 (n.kids.drop (k + 1)) by rw [HWZ.out, hv]; simp)
                  have HREC := qh hrec
                  clear hx hrd hrec hxx htk h1 h2 hst hwz2 hv hwz xr
                  go_wp2_with (go_at_call 140; refine HREC.out.mono ?_; rintro e w' ⟨rfl, p4⟩)
                  go_roundw
                  case rel => exact ⟨k + 1, 10, by omega, by go_num, rfl, .inr rfl, HXR.out.trans p4, HN⟩
                  case measure => simp [intOf]; omega
            · obtain rfl : k = n.kids.length := by omega
              have hwz2 := hwz.out
              rw [List.drop_length] at hwz2
              have HN := qh (show n.worst = z from hwz2)
              clear hwz hwz2
              go_wp2_with fail
              go_ret
              exact ⟨by rw [HN.out]; rfl, HX1.out.trans HXR.out⟩
      · have HBAD : Hid (n.bad = true) := qh (bad_said ht hS)
        have hsb := text_some hS
        have hst : !n.text.toList.isEmpty := by rw [hsb]; rfl
        obtain ⟨E1, E2⟩ := hE
        clear ht hS
        go_wp2_with fail
        go_ret
        refine ⟨?_, HX1.out⟩
        rw [HWE.out, if_pos HBAD.out]; rfl
    · have HBAD : Hid (n.bad = true) := qh (bad_tag' ht hE)
      by_cases h1 : n.tag < 0
      · clear ht hE
        go_wp2_with fail
        go_ret
        refine ⟨?_, HX1.out⟩
        rw [HWE.out, if_pos HBAD.out]; rfl
      · have h2 : 16 < n.tag := by omega
        clear ht hE
        go_wp2_with fail
        go_ret
        refine ⟨?_, HX1.out⟩
        rw [HWE.out, if_pos HBAD.out]; rfl
theorem rHigh_any {w0 : World} : ∀ (n : PN) (nv : Value) (w : World), n.size ≤ 100000 → RdN w0 n nv → Ext w0 w → Calls Tryz.prog 141 #[nv] w (RVal (.int .i64 n.high) w) := by
  refine PN.induct _ fun n ih nv w hsz hr hx => ?_
  have hnl := n.len_size
  obtain ⟨av, kv, rfl, ha, hk⟩ := hr.open
  obtain ⟨aa, acap, rfl, hac⟩ := ha.len_of
  obtain ⟨ka, kcap, rfl, hkc, hkm, hkn, hkr⟩ := hk
  have x1 := (Ext.refl w).alloc (.cells #[.int .i64 n.tag, .slice aa n.attrs.length acap, .string n.text, .slice ka n.kids.length kcap] 35)
  have hbox := heap_alloc_new w (.cells #[.int .i64 n.tag, .slice aa n.attrs.length acap, .string n.text, .slice ka n.kids.length kcap] 35)
  have HKR := qh hkr
  have HKN := qh hkn
  have HX := qh hx
  have HX1 := qh x1
  have IH := qh ih
  unfold maxLen at hkm
  have HSE := qh n.size_eq
  have HSZ := qh hsz
  have HHE := qh n.high_eq
  replace hnl : n.kids.length ≤ 100000 := by omega
  clear hkr hkn hx ih hr ha x1 hsz
  go_enter Tryz.func141, Tryz.ntmps141
  go_upto_region 1 with fail
  obtain ⟨wb, hwb⟩ : ∃ wb : World, wb = w.alloc (.cells #[.int .i64 n.tag, .slice aa n.attrs.length acap, .string n.text, .slice ka n.kids.length kcap] 35) := ⟨_, rfl⟩
  rw [← hwb] at hbox HX1 ⊢
  clear hwb
  have k3 := cellOf hbox (i := 3) (v := .slice ka n.kids.length kcap) rfl
  clear hbox
  go_wp2_with fail
  go_loopw [3, 4] (fun c i wr => ∃ (k : Nat) (z : Nat), k ≤ n.kids.length ∧ i = .int .i64 k ∧ c = .int .i64 z ∧ z ≤ 100000 ∧ Ext wb wr ∧ Hid (z = PN.highs (n.kids.take k))) (fun _ i _ => n.kids.length - (intOf i).toNat)
  case atStart => exact ⟨0, 0, Nat.zero_le _, rfl, rfl, by omega, Ext.refl _, qh (by simp [PN.highs])⟩
  case round =>
    obtain ⟨k, z, hk, rfl, rfl, hz1, xr, hz⟩ := hrel
    have HXR := qh xr
    replace k3 := xr.cell k3
    clear xr
    by_cases hkk : k < n.kids.length
    · obtain ⟨x, hx⟩ : ∃ x, n.kids[k]? = some x := ⟨n.kids[k], by simp [hkk]⟩
      cases ka with
      | none => exact absurd (HKN.out rfl).1 (by omega)
      | some a =>
        obtain ⟨b, off, sp⟩ := a
        obtain ⟨c0', c1', c2', c3', q0, q1, q2, q3, hrd⟩ := HKR.out _ rfl k x hx
        have hxx : Ext w0 wr := (HX.out.trans HX1.out).trans HXR.out
        replace q0 := hxx.cells _ _ q0
        replace q1 := hxx.cells _ _ q1
        replace q2 := hxx.cells _ _ q2
        replace q3 := hxx.cells _ _ q3
        rw [add_later _ _ _ (by decide)] at q1 q2 q3
        have htk := sizes_mem (List.mem_of_getElem? hx)
        have hhx := high_lt x
        have h1 := HSE.out
        have h2 := HSZ.out
        have hrec := IH.out x (List.mem_of_getElem? hx) _ wr (by omega) hrd hxx
        obtain ⟨y, hy⟩ : ∃ y, x.high = y := ⟨_, rfl⟩
        rw [hy] at hrec
        have hy1 : y ≤ 99999 := by omega
        have hsn : PN.highs (n.kids.take (k + 1)) = max (PN.highs (n.kids.take k)) (y + 1) := by rw [highs_snoc hx, hy]
        have HSN := qh hsn
        have HREC := qh hrec
        clear hx hrd hrec hxx htk hhx h1 h2 hy hsn
        go_wp2_with (go_at_call 141; refine HREC.out.mono ?_; rintro e w' ⟨rfl, p4⟩)
        all_goals
          go_roundw
          case rel => exact ⟨k + 1, max z (y + 1), by omega, by go_num, by congr 1; omega, by omega, HXR.out.trans p4, qh (by rw [HSN.out, hz.out])⟩
          case measure => simp [intOf]; omega
    · obtain rfl : k = n.kids.length := by omega
      go_wp2_with fail
      go_ret
      refine ⟨?_, HX1.out.trans HXR.out⟩
      have e := hz.out
      rw [List.take_length] at e
      rw [HHE.out, e]; rfl
end Go.Proofs.YthgnbbbdcebjhaaGreat
