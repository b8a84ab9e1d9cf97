/- Package dom: add where no number is free; add, whole. -/
import Derived.Test.YtiglflmjidikpaaDomI
namespace Go.Proofs.Ytiglflmjidikpaa
open Go Go.RowKit Go.BigFrame
set_option linter.unusedVariables false
set_option linter.unusedSimpArgs false

/-- the row of nodes has grown by one place: whose blocks are whose, and the tree then -/
theorem grow_plain {w W w3 : World} {own0 own : Ow} {ptr : Nat → Nat} {tb : Nat} {T : Tr} (h0 : Step own0 w own W) (hT : TreeAt W own ptr tb T) (hob : own tb = some (0, 0)) (hob0 : tb < w.heap.size → own0 tb ≠ none)
    (h00 : ∀ b, b < w.heap.size → own b = some (1, 0) → own0 b ≠ none)
    {v : Value} {row : Option Nat} (hr : RowP w3 (fun g => own g = some (1, 0) ∨ W.heap.size ≤ g) 110 1 v (T.nodes.length + 1) (nodeVals ptr T.nodes ++ [.pointer none])) (hg : W.grownBy w3 row) (hrow : ∀ k, row = some k → own k = some (1, 0)) :
    ∃ own1 g cap, v = .slice (some ⟨g, 0, none⟩) (T.nodes.length + 1) cap ∧ cap ≤ maxLen ∧ T.nodes.length + 1 ≤ cap ∧ own1 g = some (1, 0) ∧ own1 tb = some (0, 0) ∧ (g < w.heap.size → own0 g ≠ none) ∧ Step own0 w own1 (w3.setCell ⟨tb, 3, none⟩ v) ∧ TreeAt (w3.setCell ⟨tb, 3, none⟩ v) own1 ptr tb { T with nodes := T.nodes ++ [none] } ∧
      (∀ b, own1 b = none → own b = none) ∧ (∀ b, own b = none → b < W.heap.size → own1 b = none) ∧
      (w3.setCell ⟨tb, 3, none⟩ v).heap[tb]? = some (.cells #[.int .i64 T.cap, .int .i64 T.deep, .int .i64 T.count, v] 119 (0, 0)) ∧ (∃ x, w3.cell? ⟨g, T.nodes.length, none⟩ = some x) ∧ w3.frozen? ⟨g, T.nodes.length, none⟩ = false ∧ g ≠ tb := by
  rcases hr.2 with ⟨h1, _⟩ | ⟨g, cap, cur, rfl, q2, q3, q4, q5, q6, q7⟩
  · omega
  have hO := h0.owned
  let own1 : Ow := fun b => if b < W.heap.size then own b else if b = g then some (1, 0) else none
  have e1 : ∀ b, b < W.heap.size → own1 b = own b := fun b hb => if_pos hb
  have hog : own1 g = some (1, 0) := by
    show (if g < W.heap.size then _ else _) = _
    rcases q2 with q2 | q2
    · rw [if_pos (hO g (by simp [q2]))]; exact q2
    · rw [if_neg (by omega), if_pos rfl]
  have htl := hO tb (by simp [hob])
  have hot : own1 tb = some (0, 0) := (e1 tb htl).trans hob
  have hgl : g < w3.heap.size := (Array.getElem?_eq_some_iff.1 q3).1
  have hsz := hg.size
  have keep : ∀ b x, own b = some x → x ≠ (1, 0) → w3.heap[b]? = W.heap[b]? ∧ own1 b = own b := fun b x hb hx => by
    have hbl := hO b (by simp [hb])
    exact ⟨hg.block b hbl (fun h => by have := hrow b h.symm; rw [hb] at this; exact hx (Option.some.inj this)), e1 b hbl⟩
  have hr' : RowAt w3 own1 110 1 (1, 0) (.slice (some ⟨g, 0, none⟩) (T.nodes.length + 1) cap) (T.nodes.length + 1) (nodeVals ptr T.nodes ++ [.pointer none]) :=
    ⟨hr.1, .inr ⟨g, cap, cur, rfl, hog, q3, q4, q5, q6, q7⟩⟩
  have hG := hT.grow hr' keep
  obtain ⟨nv, hb, _, _⟩ := hT.head
  have hb3 : w3.heap[tb]? = _ := (keep tb _ hob (by simp)).1.trans hb
  refine ⟨own1, g, cap, rfl, q5, q4, hog, hot, fun hgw => ?_, ?_, hG, fun b hb => ?_, fun b hb hbl => (e1 b hbl).trans hb, by rw [heap_setCell_same hb3]; rfl, ?_, freeOf q3 _, fun e => by rw [e, hot] at hog; cases hog⟩
  · have hgW := Nat.lt_of_lt_of_le hgw h0.size
    exact h00 g hgw ((e1 g hgW).symm.trans hog)
  · have hst : Step own0 w own1 w3 := by
      refine ⟨hg.os.trans h0.os, hg.tape.trans h0.tape, hg.output.trans h0.output, Nat.le_trans h0.size hg.size, fun b hb hn => ?_, fun b hb => (e1 b (Nat.lt_of_lt_of_le hb h0.size)).trans (h0.same b hb), fun b hb => ?_⟩
      · rw [hg.block b (Nat.lt_of_lt_of_le hb h0.size) (fun h => h00 b hb (hrow b h.symm) hn)]
        exact h0.rest b hb hn
      · have hb' : (if b < W.heap.size then own b else if b = g then some (1, 0) else none) ≠ none := hb
        split at hb'
        · omega
        · split at hb'
          · omega
          · exact absurd rfl hb'
    exact hst.setCell hob0 _
  · have hb' : (if b < W.heap.size then own b else if b = g then some (1, 0) else none) = none := hb
    split at hb'
    · exact hb'
    · cases ho : own b with
      | none => rfl
      | some x => have := hO b (by simp [ho]); omega
  · have hlt : T.nodes.length < cur.size := by rw [q6]; omega
    exact ⟨_, cellOf q3 (Array.getElem?_eq_getElem hlt)⟩

set_option maxRecDepth 100000 in
set_option maxHeartbeats 4000000 in
theorem add_full {w : World} {own : Ow} {ptr : Nat → Nat} {tb : Nat} {T : Tr} (hT : TreeAt w own ptr tb T) (hO : Owned own w) (hs : Small T) (hlen : T.nodes.length ≤ 1999) (hf : freeOf' T.nodes = -1)
    (tag : Int) (text : ByteArray) (av : Value) (attrs : List (ByteArray × ByteArray)) (ha : RowRd w 2 av attrs.length (attrCells attrs)) (hn : attrs.length ≤ 60000) (h1c : ∀ u ∈ attrCells attrs, u.oneCell' = true) :
    Calls Try.prog 94 #[.pointer (some ⟨tb, 0, none⟩), .agg #[.int .i64 tag, av, .string text]] w (AddIs own w tb T.nodes.length { T with count := T.count + 1, nodes := T.nodes ++ [some ⟨tag, attrs, text, [], -1⟩] }) := by
  obtain ⟨ao, cap0, hav, _⟩ := ha.len_of
  subst hav
  obtain ⟨nv, hb, hob, hrow0⟩ := hT.head
  obtain ⟨an, capn, hnv, hcapn, hcapm⟩ := hrow0.len
  subst hnv
  have htl := hO tb (by simp [hob])
  have hc0 := hs.count0
  have hc1 := hs.count1
  have hc2 := hs.cap1
  obtain ⟨i0, hi, hz0, hz1, hz2⟩ := info_parts infoP
  have Hi := Lib.hid hi
  have Hz0 := Lib.hid hz0
  have Hz1 := Lib.hid hz1
  have Hz2 := Lib.hid hz2
  have HB := Lib.hid hb
  have HA := Lib.hid ha
  have HF := Lib.hid hf
  have HT := Lib.hid hT
  have HOO := Lib.hid hO
  have HN := Lib.hid hn
  have H1 := Lib.hid h1c
  have HR0 := Lib.hid hrow0
  have HOB := Lib.hid hob
  unfold maxLen at hcapm
  clear ha hf hT hO hn h1c hb hrow0 hs hi hz0 hz1 hz2 hob
  go_enter Try.func94, Try.ntmps94
  go_wp2_with fail
  refine (cloneA_any (RowRd.ext HA.out ((Ext.refl w).alloc _)) HN.out H1.out).mono ?_
  rintro e w1 ⟨v, rfl, hrow, hx⟩
  have c0 := hx.cell (b := w.heap.size) (o := 0) (v := .int .i64 tag) (by simp [go_sem])
  have c1 := hx.cell (b := w.heap.size) (o := 1) (v := .slice ao attrs.length cap0) (by simp [go_sem])
  have c2 := hx.cell (b := w.heap.size) (o := 2) (v := .string text) (by simp [go_sem])
  have f1 := hx.free (b := w.heap.size) (o := 1) (by simp <;> omega) (by simp [go_sem])
  have x1 : Ext w w1 := ((Ext.refl w).alloc _).trans hx
  obtain ⟨a1, cap1, hv, _⟩ := hrow.rd.len_of
  subst hv
  have hb1 := x1.block HB.out
  have t2 := cellOf hb1 (i := 2) (v := .int .i64 T.count) rfl
  have t3 := cellOf hb1 (i := 3) (v := .slice an T.nodes.length capn) rfl
  have u2 := freeOf hb1 2
  have ntb : tb ≠ w.heap.size := Nat.ne_of_lt htl
  have ntb' : w.heap.size ≠ tb := Ne.symm ntb
  have l0 := cell_lt c0
  have HX := Lib.hid hx
  have HROW := Lib.hid hrow
  clear hb1 hx hrow
  go_wp2_with fail
  obtain ⟨wz, hwz⟩ : ∃ wz : World, wz = w1.setCell ⟨w.heap.size, 1, none⟩ (.slice a1 attrs.length cap1) := ⟨_, rfl⟩
  have z0 : wz.cell? ⟨w.heap.size, 0, none⟩ = some (.int .i64 tag) := by rw [hwz]; simp [go_sem, c0]
  have z1 : wz.cell? ⟨w.heap.size, 1, none⟩ = some (.slice a1 attrs.length cap1) := by rw [hwz]; simp [go_sem, c1]
  have z2 : wz.cell? ⟨w.heap.size, 2, none⟩ = some (.string text) := by rw [hwz]; simp [go_sem, c2]
  have y2 : wz.cell? ⟨tb, 2, none⟩ = some (.int .i64 T.count) := by rw [hwz]; simp [go_sem, ntb, ntb', t2]
  have y3 : wz.cell? ⟨tb, 3, none⟩ = some (.slice an T.nodes.length capn) := by rw [hwz]; simp [go_sem, ntb, ntb', t3]
  have lz : wz.heap.size = w1.heap.size := by rw [hwz]; simp [World.setCell]
  have h0 : Step own w own wz := by rw [hwz]; exact (x1.step HOO.out).setCell (fun h => by exfalso; exact Nat.lt_irrefl _ h) _
  have hk : Keep own w wz := fun b hb => by
    have hbl := HOO.out b hb
    rw [hwz, heap_setCell_other _ (by show b ≠ w.heap.size; omega)]
    exact Below.block x1 b hbl
  have hTz := HT.out.keep hk
  have hR : RowIn w1 (w.heap.size + 1) 44 2 (.slice a1 attrs.length cap1) attrs.length (attrCells attrs) := by
    have := HROW.out
    simpa using this
  obtain ⟨rb, hr1, hr2⟩ := hR.block
  have hr1z : RowP wz (fun g => rb = some g) 44 2 (.slice a1 attrs.length cap1) attrs.length (attrCells attrs) :=
    RowP.move hr1 fun k hk => ⟨by rw [hwz, heap_setCell_other _ (by have := (hr2 k hk).1; show k ≠ w.heap.size; omega)], hk⟩
  have hrz : RowP wz (fun g => own g = some (1, 0)) 110 1 (.slice an T.nodes.length capn) T.nodes.length (nodeVals ptr T.nodes) := RowP.move HR0.out fun b hb => ⟨hk b (by simp [hb]), hb⟩
  rw [← hwz]
  have H0 := Lib.hid h0
  have HTZ := Lib.hid hTz
  have HR1 := Lib.hid hr1z
  have HR2 := Lib.hid hr2
  have HRZ := Lib.hid hrz
  have LZ := Lib.hid lz
  have htz := cell_lt y2
  have hpz := cell_lt z0
  clear hwz c0 c1 c2 f1 t2 t3 u2 h0 hk hTz hR hr1 hr2 hr1z hrz lz x1
  refine (free_any HRZ.out (by omega)).mono ?_
  rintro e w2 ⟨rfl, rfl⟩
  rw [HF.out]
  go_wp2_with (at_builtin; refine wpList_append_row rfl _ _ 117 rfl 110 i0 (.pointer none) 1 8 Try.underlying117 Hi.out Hz0.out Hz1.out Hz2.out rfl (by decide) (fun g => own g = some (1, 0)) (.slice an T.nodes.length capn) T.nodes.length (nodeVals ptr T.nodes) rfl ?c1 ⟨wz.heap.size, 0, none⟩ 1 1 [.pointer none] rfl rfl ?c2 ?c3 (by decide) ?c4 ?c5 ?_)
  case c1 => exact RowP.ext HRZ.out ((Ext.refl _).alloc _)
  case c2 => exact cell_one_new _ _ _
  case c3 => simp [Value.oneCell']
  case c4 => unfold maxLen; omega
  case c5 => omega
  intro v' w3 row hrw hg hrow
  have hOz := H0.out.owned
  have xW : Ext wz (wz.alloc (Obj.cells #[Value.pointer none] 110)) := (Ext.refl _).alloc _
  have hgr := grow_plain (H0.out.ext xW) (HTZ.out.keep (xW.keep hOz)) HOB.out (fun _ => by rw [HOB.out]; simp) (fun b _ hb => by rw [hb]; simp) (by simpa using hrw) hg hrow
  obtain ⟨own1, g, cap, hv, hcm, hlc, hog1, hot1, hgn, hst, hT1, hn1, hn2, hb1, ⟨xg, hcg⟩, hfg, hgt⟩ := hgr
  have hpres : ∀ b, b < wz.heap.size → own b ≠ some (1, 0) → w3.heap[b]? = wz.heap[b]? := fun b hb hn => by
    rw [hg.block b (by simp; omega) (fun h => hn (hrow b h.symm))]
    exact Below.heap_alloc _ _ _ hb
  have hp0 : own w.heap.size = none := by
    cases ho : own w.heap.size with
    | none => rfl
    | some x => have := HOO.out w.heap.size (by simp [ho]); omega
  have e0 : ∀ o x, wz.cell? ⟨w.heap.size, o, none⟩ = some x → w3.cell? ⟨w.heap.size, o, none⟩ = some x := fun o x hx => (World.cell?_of_block (hpres w.heap.size hpz (by simp [hp0]))).trans hx
  have et : ∀ o x, wz.cell? ⟨tb, o, none⟩ = some x → w3.cell? ⟨tb, o, none⟩ = some x := fun o x hx => (World.cell?_of_block (hpres tb htz (by rw [HOB.out]; simp))).trans hx
  have ef : ∀ o, w3.frozen? ⟨tb, o, none⟩ = false := fun o => by
    obtain ⟨nv, q, _⟩ := HTZ.out.head
    exact freeOf ((hpres tb htz (by rw [HOB.out]; simp)).trans q) o
  replace z0 := e0 _ _ z0
  replace z1 := e0 _ _ z1
  replace z2 := e0 _ _ z2
  replace y2 := et _ _ y2
  replace y3 := et _ _ y3
  have v2 := ef 2
  have v3 := ef 3
  have hsz3 : wz.heap.size + 1 ≤ w3.heap.size := by have := hg.size; simpa using this
  have hr3 : RowP (w3.setCell ⟨tb, 3, none⟩ v') (fun g => rb = some g) 44 2 (.slice a1 attrs.length cap1) attrs.length (attrCells attrs) := RowP.move HR1.out fun k hk => by
    have hk2 := HR2.out k hk
    have hkz : k < wz.heap.size := by rw [LZ.out]; exact hk2.2
    refine ⟨?_, hk⟩
    rw [heap_setCell_other _ (by show k ≠ tb; omega)]
    refine hpres k hkz (fun h => ?_)
    have := HOO.out k (by simp [h]); omega
  have hr4 : ∀ k, rb = some k → own1 k = none ∧ w.heap.size ≤ k ∧ k < (w3.setCell ⟨tb, 3, none⟩ v').heap.size := fun k hk => by
    have hk2 := HR2.out k hk
    have hkz : k < wz.heap.size := by rw [LZ.out]; exact hk2.2
    refine ⟨hn2 k ?_ (by simp; omega), by omega, by simp [World.setCell]; omega⟩
    cases ho : own k with
    | none => rfl
    | some x => have := HOO.out k (by simp [ho]); omega
  have ngz := Ne.symm hgt
  have HST := Lib.hid hst
  have HT1 := Lib.hid hT1
  have HB1 := Lib.hid hb1
  have HR3 := Lib.hid hr3
  have HR4 := Lib.hid hr4
  have HOG := Lib.hid hog1
  have HOT := Lib.hid hot1
  have HGN := Lib.hid hgn
  have ng0 : g ≠ w.heap.size := fun e => by
    have h2 := hn2 w.heap.size hp0 (by simp; omega)
    rw [← e, hog1] at h2
    cases h2
  have ng0' := Ne.symm ng0
  unfold maxLen at hcm
  clear hst hT1 hb1 hr3 hr4 hn1 hn2 hpres e0 et ef hg hrow hrw hp0 xW hOz hog1 hot1 hgn
  rw [hv] at HST HT1 HB1 HR3 HR4 ⊢
  clear hv
  go_wp2_with fail
  obtain ⟨wq, hwq⟩ : ∃ wq : World, wq = w3.setCell ⟨tb, 3, none⟩ (.slice (some ⟨g, 0, none⟩) (T.nodes.length + 1) cap) := ⟨_, rfl⟩
  rw [← hwq] at HST HT1 HB1 HR3 HR4 ⊢
  replace z0 : wq.cell? ⟨w.heap.size, 0, none⟩ = some (.int .i64 tag) := by rw [hwq]; simp [go_sem, ntb, ntb', z0]
  replace z1 : wq.cell? ⟨w.heap.size, 1, none⟩ = some (.slice a1 attrs.length cap1) := by rw [hwq]; simp [go_sem, ntb, ntb', z1]
  replace z2 : wq.cell? ⟨w.heap.size, 2, none⟩ = some (.string text) := by rw [hwq]; simp [go_sem, ntb, ntb', z2]
  replace y2 : wq.cell? ⟨tb, 2, none⟩ = some (.int .i64 T.count) := by rw [hwq]; simp [go_sem, y2]
  replace y3 : wq.cell? ⟨tb, 3, none⟩ = some (.slice (some ⟨g, 0, none⟩) (T.nodes.length + 1) cap) := by rw [hwq]; simp [go_sem, y3]
  replace v2 : wq.frozen? ⟨tb, 2, none⟩ = false := by rw [hwq]; simp [go_sem, v2]
  replace hcg : wq.cell? ⟨g, T.nodes.length, none⟩ = some xg := by rw [hwq]; simp [go_sem, hgt, ngz, hcg]
  replace hfg : wq.frozen? ⟨g, T.nodes.length, none⟩ = false := by rw [hwq]; simp [go_sem, hfg]
  have lg := cell_lt hcg
  have lt := cell_lt y2
  have ngq : g ≠ wq.heap.size := Nat.ne_of_lt lg
  have ntq : tb ≠ wq.heap.size := Nat.ne_of_lt lt
  have hi0 : (0 : Int) ≤ (T.nodes.length : Int) := by omega
  have hi1 : (T.nodes.length : Int) < (T.nodes.length : Int) + 1 := by omega
  clear hwq v3
  go_region_held3 (fun w' => w'.cell? ⟨tb, 3, none⟩ = some (.slice (some ⟨g, 0, none⟩) (T.nodes.length + 1) cap) ∧ w'.cell? ⟨w.heap.size, 0, none⟩ = some (.int .i64 tag) ∧ w'.cell? ⟨w.heap.size, 1, none⟩ = some (.slice a1 attrs.length cap1) ∧ w'.cell? ⟨w.heap.size, 2, none⟩ = some (.string text))
    (first | exact ⟨y3, z0, z1, z2⟩ | go_keep) (first | fail | fail)
  go_wp2
  go_ret
  have hfin := add_plain (T := { T with nodes := T.nodes ++ [none] }) (i := T.nodes.length) HST.out HT1.out (by simp) (by simpa using HB1.out) HOG.out HOT.out HGN.out (fun _ => by rw [HOB.out]; simp) HR3.out HR4.out tag text (T.count + 1) rfl
  simp only [List.set_append_right _ _ (Nat.le_refl _), Nat.sub_self, List.set_cons_zero] at hfin
  exact ⟨rfl, hfin⟩
end Go.Proofs.Ytiglflmjidikpaa
