/- Package dom: add (a loose node). -/
import Derived.Test.YtiglflmjidikpaaDomH
import Derived.Deep.RegionHeld3
namespace Go.Proofs.Ytiglflmjidikpaa
open Go Go.RowKit Go.BigFrame
set_option linter.unusedVariables false
set_option linter.unusedSimpArgs false

/-- a tree behind a call: somebody owns it, it lies there -/
def After (own : Ow) (w : World) (tb : Nat) (T' : Tr) (w' : World) : Prop := ∃ own' ptr', TreeAt w' own' ptr' tb T' ∧ Step own w own' w'
/-- add's answer -/
def AddIs (own : Ow) (w : World) (tb : Nat) (id : Int) (T' : Tr) (e : Ending) (w' : World) : Prop := e = .returned (.int .i64 id) ∧ After own w tb T' w'

theorem heap_alloc_setCell (w : World) (p : Addr) (u : Value) (o : Obj) (hp : p.block < w.heap.size) (b : Nat) : ((w.setCell p u).alloc o).heap[b]? = ((w.alloc o).setCell p u).heap[b]? := by
  have hs : (w.setCell p u).heap.size = w.heap.size := by simp [World.setCell]
  by_cases hb : b = w.heap.size
  · subst hb
    rw [heap_setCell_other _ (by omega : w.heap.size ≠ p.block)]
    have e1 : ((w.setCell p u).alloc o).heap[w.heap.size]? = some o := by rw [← hs]; exact heap_alloc_new _ _
    rw [e1]; exact (heap_alloc_new w o).symm
  · by_cases hlt : b < w.heap.size
    · rw [Below.heap_alloc (w.setCell p u) o b (by rw [hs]; exact hlt)]
      by_cases hbp : b = p.block
      · subst hbp
        simp only [World.setCell, Array.getElem?_modify]
        rw [Below.heap_alloc w o _ hlt]
      · rw [heap_setCell_other _ hbp, heap_setCell_other _ hbp, Below.heap_alloc w o b hlt]
    · rw [Array.getElem?_eq_none (by simp [hs]; omega), Array.getElem?_eq_none (by simp [World.setCell]; omega)]
theorem Step.drew {own own' : Ow} {a b : World} (h : Step own a own' b) : Step own a own' b.drew := h.ext ((Ext.refl b).drew)
theorem Step.same_heap {own own' : Ow} {a b c : World} (h : Step own a own' b) (k : ∀ x : Nat, c.heap[x]? = b.heap[x]?) (h1 : c.os = b.os) (h2 : c.tape = b.tape) (h3 : c.output = b.output) (h4 : c.heap.size = b.heap.size) : Step own a own' c :=
  ⟨h1.trans h.os, h2.trans h.tape, h3.trans h.output, by rw [h4]; exact h.size, fun x hx hn => (k x).trans (h.rest x hx hn), h.same, fun x hx => by rw [h4]; exact h.owned x hx⟩
theorem Ext.step {own : Ow} {w w' : World} (h : Ext w w') (hO : Owned own w) : Step own w own w' :=
  ⟨Below.os h, Below.tape h, Below.output h, Ext.size h, fun b hb _ => Below.block h b hb, fun _ _ => rfl, fun b hb => Nat.lt_of_lt_of_le (hO b hb) (Ext.size h)⟩

/-- the world that add leaves at a free place -/
theorem add_plain {w wz : World} {own0 own : Ow} {ptr : Nat → Nat} {tb : Nat} {T : Tr} (h0 : Step own0 w own wz) (hT : TreeAt wz own ptr tb T) {i g capn : Nat} (hi : T.nodes[i]? = some none)
    (hb : wz.heap[tb]? = some (.cells #[.int .i64 T.cap, .int .i64 T.deep, .int .i64 T.count, .slice (some ⟨g, 0, none⟩) T.nodes.length capn] 119 (0, 0))) (hog : own g = some (1, 0)) (hob : own tb = some (0, 0))
    (hog0 : g < w.heap.size → own0 g ≠ none) (hob0 : tb < w.heap.size → own0 tb ≠ none)
    {av : Value} {attrs : List (ByteArray × ByteArray)} {rb : Option Nat} (hr1 : RowP wz (fun g => rb = some g) 44 2 av attrs.length (attrCells attrs)) (hr2 : ∀ k, rb = some k → own k = none ∧ w.heap.size ≤ k ∧ k < wz.heap.size) (tag : Int) (text : ByteArray)
    (c : Int) (hc : c = T.count + 1) :
    After own0 w tb { T with count := T.count + 1, nodes := T.nodes.set i (some ⟨tag, attrs, text, [], -1⟩) }
      (((wz.setCell ⟨g, i, none⟩ (.pointer (some ⟨wz.heap.size, 0, none⟩))).setCell ⟨tb, 2, none⟩ (.int .i64 c)).alloc (.cells #[.int .i64 tag, av, .string text, .slice none 0 0, .int .i64 (-1)] 115)).drew := by
  subst hc
  have hO := h0.owned
  have hgl := hO g (by simp [hog])
  have htl := hO tb (by simp [hob])
  have hws := h0.size
  let o : Obj := .cells #[.int .i64 tag, av, .string text, .slice none 0 0, .int .i64 (-1)] 115
  let own' : Ow := fun b => if b = wz.heap.size then some (2, i) else if rb = some b then some (3, i) else own b
  have hold : ∀ b, b < wz.heap.size → (wz.alloc o).heap[b]? = wz.heap[b]? := fun b hb => Below.heap_alloc _ _ _ hb
  have hown' : ∀ b x, own b = some x → own' b = own b := fun b x hb => by
    have h1 := hO b (by simp [hb])
    show (if b = wz.heap.size then _ else if rb = some b then _ else _) = _
    rw [if_neg (by omega), if_neg (fun h => by rw [(hr2 b h).1] at hb; cases hb)]
  have hB : own' wz.heap.size = some (2, i) := if_pos rfl
  have hn : NodeAt (wz.alloc o) own' i wz.heap.size ⟨tag, attrs, text, [], -1⟩ := by
    refine ⟨av, .slice none 0 0, heap_alloc_new wz o, hB, RowP.move hr1 fun k hk => ?_, ⟨by simp, .inl ⟨rfl, none, rfl⟩⟩⟩
    obtain ⟨k1, k2, k3⟩ := hr2 k hk
    refine ⟨hold k k3, ?_⟩
    show (if k = wz.heap.size then _ else _) = _
    rw [if_neg (by omega), if_pos hk]
  have hP := hT.place hi hb hn (fun b x hx => ⟨hold b (hO b (by simp [hx])), hown' b x hx⟩)
  have hC := hP.setCount (T.count + 1)
  have hlook : ∀ b : Nat, (((wz.setCell ⟨g, i, none⟩ (.pointer (some ⟨wz.heap.size, 0, none⟩))).setCell ⟨tb, 2, none⟩ (.int .i64 (T.count + 1))).alloc o).drew.heap[b]? =
      (((wz.alloc o).setCell ⟨g, i, none⟩ (.pointer (some ⟨wz.heap.size, 0, none⟩))).setCell ⟨tb, 2, none⟩ (.int .i64 (T.count + 1))).heap[b]? := fun b => by
    show (((wz.setCell ⟨g, i, none⟩ (.pointer (some ⟨wz.heap.size, 0, none⟩))).setCell ⟨tb, 2, none⟩ (.int .i64 (T.count + 1))).alloc o).heap[b]? = _
    rw [heap_alloc_setCell _ _ _ _ (by simp [World.setCell]; omega)]
    by_cases hbt : b = tb
    · subst hbt
      simp only [World.setCell, Array.getElem?_modify]
      have := heap_alloc_setCell wz ⟨g, i, none⟩ (.pointer (some ⟨wz.heap.size, 0, none⟩)) o (by show g < _; omega) b
      simp only [World.setCell, Array.getElem?_modify] at this
      rw [this]
    · rw [heap_setCell_other _ hbt, heap_setCell_other _ hbt, heap_alloc_setCell _ _ _ _ (by show g < _; omega)]
  refine ⟨own', _, hC.keep fun b _ => hlook b, ?_⟩
  have hst : Step own0 w own' (((wz.alloc o).setCell ⟨g, i, none⟩ (.pointer (some ⟨wz.heap.size, 0, none⟩))).setCell ⟨tb, 2, none⟩ (.int .i64 (T.count + 1))) := by
    have h1 : Step own0 w own (wz.alloc o) := h0.ext ((Ext.refl _).alloc _)
    refine ((h1.own (fun x hx => ?_) fun b hb => ?_).setCell hog0 _).setCell hob0 _
    · show (if x = wz.heap.size then _ else if rb = some x then _ else _) = _
      rw [if_neg (by omega), if_neg (fun h => by have := (hr2 x h).2.1; omega)]
    · have hb' : (if b = wz.heap.size then some (2, i) else if rb = some b then some (3, i) else own b) ≠ none := hb
      simp only [World.size_alloc]
      split at hb'
      · omega
      · split at hb'
        · rename_i hrb; have := (hr2 b hrb).2.2; omega
        · have := hO b hb'; omega
  exact hst.same_heap hlook rfl rfl rfl (by simp [World.setCell, World.drew])

set_option maxRecDepth 100000 in
set_option maxHeartbeats 2000000 in
theorem add_free {w : World} {own : Ow} {ptr : Nat → Nat} {tb : Nat} {T : Tr} (hT : TreeAt w own ptr tb T) (hO : Owned own w) (hs : Small T) {i : Nat} (hf : freeOf' T.nodes = (i : Int)) (hi : T.nodes[i]? = some none)
    (tag : Int) (text : ByteArray) (av : Value) (attrs : List (ByteArray × ByteArray)) (ha : RowRd w 2 av attrs.length (attrCells attrs)) (hn : attrs.length ≤ 60000) (h1c : ∀ u ∈ attrCells attrs, u.oneCell' = true) :
    Calls Try.prog 94 #[.pointer (some ⟨tb, 0, none⟩), .agg #[.int .i64 tag, av, .string text]] w (AddIs own w tb i { T with count := T.count + 1, nodes := T.nodes.set i (some ⟨tag, attrs, text, [], -1⟩) }) := by
  obtain ⟨ao, cap0, hav, _⟩ := ha.len_of
  subst hav
  obtain ⟨nv, hb, hob, hrow0⟩ := hT.head
  have hilt := (List.getElem?_eq_some_iff.1 hi).1
  obtain ⟨g, capn, hnv, _⟩ := hrow0.cell (i := i) (x := .pointer none) (by simp [nodeVals, List.getElem?_mapIdx, hi, nodeVal])
  subst hnv
  obtain ⟨_, _, hE, hcapn, hcapm⟩ := hrow0.len
  cases hE
  have hog : own g = some (1, 0) := by
    rcases hrow0.2 with ⟨h0, _⟩ | ⟨g', cap', cur, q1, q2, _⟩
    · omega
    · cases q1; exact q2
  have hgl := hO g (by simp [hog])
  have htl := hO tb (by simp [hob])
  have hcg : ∃ x, w.cell? ⟨g, i, none⟩ = some x := by
    obtain ⟨g', cap', q, hc⟩ := hrow0.cell (i := i) (x := .pointer none) (by simp [nodeVals, List.getElem?_mapIdx, hi, nodeVal])
    cases q; exact ⟨_, hc⟩
  obtain ⟨xg, hcg⟩ := hcg
  have hfg : w.frozen? ⟨g, i, none⟩ = false := by
    rcases hrow0.2 with ⟨h0, _⟩ | ⟨g', cap', cur, q1, q2, q3, _⟩
    · omega
    · cases q1; exact freeOf q3 i
  have ngt : g ≠ tb := fun e => by rw [e, hob] at hog; cases hog
  have hlen := hs.len
  have hc0 := hs.count0
  have hc1 := hs.count1
  have hc2 := hs.cap1
  have HB := Lib.hid hb
  have HA := Lib.hid ha
  have HF := Lib.hid hf
  have HI := Lib.hid hi
  have HT := Lib.hid hT
  have HOO := Lib.hid hO
  have HN := Lib.hid hn
  have H1 := Lib.hid h1c
  have HR0 := Lib.hid hrow0
  unfold maxLen at hcapm
  clear ha hf hi hT hO hn h1c hb hrow0 hs
  go_enter Try.func94, Try.ntmps94
  go_wp2_with fail
  refine (cloneA_any (RowRd.ext HA.out ((Ext.refl w).alloc _)) HN.out H1.out).mono ?_
  rintro e w1 ⟨v, rfl, hrow, hx⟩
  have c0 := hx.cell (b := w.heap.size) (o := 0) (v := .int .i64 tag) (by simp [go_sem])
  have c1 := hx.cell (b := w.heap.size) (o := 1) (v := .slice ao attrs.length cap0) (by simp [go_sem])
  have c2 := hx.cell (b := w.heap.size) (o := 2) (v := .string text) (by simp [go_sem])
  have f1 := hx.free (b := w.heap.size) (o := 1) (by simp <;> omega) (by simp [go_sem])
  have x1 : Ext w w1 := ((Ext.refl w).alloc _).trans hx
  obtain ⟨a1, cap1, hv, _⟩ := hrow.rd.len_of
  subst hv
  have hb1 := x1.block HB.out
  have t2 := cellOf hb1 (i := 2) (v := .int .i64 T.count) rfl
  have t3 := cellOf hb1 (i := 3) (v := .slice (some ⟨g, 0, none⟩) T.nodes.length capn) rfl
  have u2 := freeOf hb1 2
  have g1 := x1.cell hcg
  have g2 := x1.free hgl hfg
  have ntb : tb ≠ w.heap.size := Nat.ne_of_lt htl
  have ntb' : w.heap.size ≠ tb := Ne.symm ntb
  have ng : g ≠ w.heap.size := Nat.ne_of_lt hgl
  have ng' : w.heap.size ≠ g := Ne.symm ng
  have l0 := cell_lt c0
  have HB1 := Lib.hid hb1
  have HX := Lib.hid hx
  have HROW := Lib.hid hrow
  clear hb1 hx hrow hcg hfg
  go_wp2_with fail
  have hr2 : RowP (w1.setCell ⟨w.heap.size, 1, none⟩ (.slice a1 attrs.length cap1)) (fun g => own g = some (1, 0)) 110 1 (.slice (some ⟨g, 0, none⟩) T.nodes.length capn) T.nodes.length (nodeVals ptr T.nodes) := by
    refine RowP.move HR0.out fun b hb => ⟨?_, hb⟩
    have hbl := HOO.out b (by simp [hb])
    rw [heap_setCell_other _ (by show b ≠ w.heap.size; omega)]
    exact Below.block x1 b hbl
  refine (free_any hr2 (by omega)).mono ?_
  clear hr2
  rintro e w2 ⟨rfl, rfl⟩
  rw [HF.out]
  go_wp2_with fail
  obtain ⟨wz, hwz⟩ : ∃ wz : World, wz = w1.setCell ⟨w.heap.size, 1, none⟩ (.slice a1 attrs.length cap1) := ⟨_, rfl⟩
  have z0 : wz.cell? ⟨w.heap.size, 0, none⟩ = some (.int .i64 tag) := by rw [hwz]; simp [go_sem, c0]
  have z1 : wz.cell? ⟨w.heap.size, 1, none⟩ = some (.slice a1 attrs.length cap1) := by rw [hwz]; simp [go_sem, c1]
  have z2 : wz.cell? ⟨w.heap.size, 2, none⟩ = some (.string text) := by rw [hwz]; simp [go_sem, c2]
  have y2 : wz.cell? ⟨tb, 2, none⟩ = some (.int .i64 T.count) := by rw [hwz]; simp [go_sem, ntb, ntb', t2]
  have y3 : wz.cell? ⟨tb, 3, none⟩ = some (.slice (some ⟨g, 0, none⟩) T.nodes.length capn) := by rw [hwz]; simp [go_sem, ntb, ntb', t3]
  have v2 : wz.frozen? ⟨tb, 2, none⟩ = false := by rw [hwz]; simp [go_sem, u2]
  have k1 : wz.cell? ⟨g, i, none⟩ = some xg := by rw [hwz]; simp [go_sem, ng, ng', g1]
  have k2 : wz.frozen? ⟨g, i, none⟩ = false := by rw [hwz]; simp [go_sem, g2]
  have lz : wz.heap.size = w1.heap.size := by rw [hwz]; simp [World.setCell]
  have lg := cell_lt k1
  have lt := cell_lt y2
  have ngz : g ≠ wz.heap.size := Nat.ne_of_lt lg
  have ntz : tb ≠ wz.heap.size := Nat.ne_of_lt lt
  rw [← hwz]
  have HWZ := Lib.hid hwz
  have LZ := Lib.hid lz
  clear hwz c0 c1 c2 f1 t2 t3 u2 g1 g2 lz
  go_region_held3 (fun w' => w'.cell? ⟨tb, 3, none⟩ = some (.slice (some ⟨g, 0, none⟩) T.nodes.length capn) ∧ w'.cell? ⟨w.heap.size, 0, none⟩ = some (.int .i64 tag) ∧ w'.cell? ⟨w.heap.size, 1, none⟩ = some (.slice a1 attrs.length cap1) ∧ w'.cell? ⟨w.heap.size, 2, none⟩ = some (.string text))
    (first | exact ⟨y3, z0, z1, z2⟩ | go_keep) (first | fail | fail)
  go_wp2
  go_ret
  have hR : RowIn w1 (w.heap.size + 1) 44 2 (.slice a1 attrs.length cap1) attrs.length (attrCells attrs) := by
    have := HROW.out
    simpa using this
  obtain ⟨rb, hr1, hr2⟩ := hR.block
  have hzs : wz.heap.size = w1.heap.size := LZ.out
  have h0 : Step own w own wz := by rw [HWZ.out]; exact (x1.step HOO.out).setCell (fun h => by exfalso; exact Nat.lt_irrefl _ h) _
  have hk : Keep own w wz := fun b hb => by
    have hbl := HOO.out b hb
    rw [HWZ.out, heap_setCell_other _ (by show b ≠ w.heap.size; omega)]
    exact Below.block x1 b hbl
  exact ⟨rfl, add_plain h0 (HT.out.keep hk) HI.out (by rw [hk tb (by simp [hob])]; exact HB.out) hog hob (fun _ => by simp [hog]) (fun _ => by simp [hob])
    (RowP.move hr1 fun k hk => ⟨by rw [HWZ.out, heap_setCell_other _ (by have := (hr2 k hk).1; show k ≠ w.heap.size; omega)], hk⟩)
    (fun k hk => by
      have := hr2 k hk
      refine ⟨?_, by omega, by omega⟩
      cases ho : own k with
      | none => rfl
      | some x => have := HOO.out k (by simp [ho]); omega) tag text _ rfl⟩
end Go.Proofs.Ytiglflmjidikpaa
