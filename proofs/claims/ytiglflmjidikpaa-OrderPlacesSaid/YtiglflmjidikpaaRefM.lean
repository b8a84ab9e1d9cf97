/- quillworkref08: Copy. Printed by wip/gen_refm.py. -/
import Derived.Test.YtiglflmjidikpaaRefL
namespace Go.Proofs.Ytiglflmjidikpaa
open Go Go.RowKit Go.BigFrame
set_option linter.unusedVariables false
set_option linter.unusedSimpArgs false

/-- k records have been copied -/
structure RCopyAt (w wr : World) (cb : Nat) (T : Tr) (k : Nat) : Prop where
  ext : Ext w wr
  row : ∃ lv xs ga, wr.heap[cb]? = some (.cells #[.int .i64 T.cap, .int .i64 T.deep, lv] 94 (0, 0)) ∧ RowP wr (fun y => cb < y) 132 6 lv k xs ∧ (∀ y, lv.ownBlock = some y → y < wr.heap.size) ∧
    (∀ (j : Nat) (o : Option Nd), j < k → T.nodes[j]? = some o → RecAt ga xs.toArray j o) ∧ ∀ q y, ga.cell? q = some y → wr.cell? q = some y ∧ cb < q.block ∧ lv.ownBlock ≠ some q.block
def oVals (o : Option Nd) (av kv : Value) : List Value := [.int .i64 (isN o), .int .i64 (ndOf o).tag, .int .i64 (ndOf o).parent, av, .string (ndOf o).text, kv]
theorem RCopyAt.step {w wr wk cw wA ga : World} {cb k : Nat} {T : Tr} {lv v' av kv : Value} {xs : List Value} {o : Option Nd} {row : Option Nat}
    (hx : Ext w wr) (hcb : w.heap.size ≤ cb) (hb : wr.heap[cb]? = some (.cells #[.int .i64 T.cap, .int .i64 T.deep, lv] 94 (0, 0))) (hr : RowP wr (fun y => cb < y) 132 6 lv k xs) (hkb : ∀ y, lv.ownBlock = some y → y < wr.heap.size)
    (hk : ∀ (j : Nat) (o : Option Nd), j < k → T.nodes[j]? = some o → RecAt ga xs.toArray j o) (hg : ∀ q y, ga.cell? q = some y → wr.cell? q = some y ∧ cb < q.block ∧ lv.ownBlock ≠ some q.block)
    (hn : T.nodes[k]? = some o) (hxk : Ext wr wk) (ha : RowP wk (fun y => wr.heap.size ≤ y) 44 2 av (ndOf o).attrs.length (attrCells (ndOf o).attrs)) (hv : RowP wk (fun y => wr.heap.size ≤ y) 3 1 kv (ndOf o).kids.length ((ndOf o).kids.map (Value.int .i64)))
    (hxc : Ext wk cw) (hA : RowP wA (fun y => (cb < y ∧ lv.ownBlock = some y) ∨ cw.heap.size ≤ y) 132 6 v' (k + 1) (xs ++ oVals o av kv)) (hgA : cw.grownBy wA row) (hrow : ∀ z, row = some z → cb < z ∧ lv.ownBlock = some z) :
    RCopyAt w (wA.setCell ⟨cb, 2, none⟩ v') cb T (k + 1) := by
  have hbl : cb < wr.heap.size := (Array.getElem?_eq_some_iff.1 hb).1
  have hxc2 : Ext wr cw := hxk.trans hxc
  have hs2 := Ext.size hxk
  have hs3 := Ext.size hxc
  have hlen : xs.length = k * 6 := hr.1
  have hbA : wA.heap[cb]? = some (.cells #[.int .i64 T.cap, .int .i64 T.deep, lv] 94 (0, 0)) := by
    rw [hgA.block cb (by omega) (fun e => absurd (hrow cb e.symm).1 (Nat.lt_irrefl _))]
    exact hxc2.block hb
  have keep : ∀ q y, cw.cell? q = some y → q.block ≠ cb → lv.ownBlock ≠ some q.block → (wA.setCell ⟨cb, 2, none⟩ v').cell? q = some y := fun q y hq h1 h2 => by
    have hl := World.block_lt_of_cell? cw q hq
    have e1 : wA.cell? q = some y := (World.cell?_of_block (hgA.block q.block hl (fun e => h2 (hrow q.block e.symm).2))).trans hq
    exact (World.cell?_of_block (heap_setCell_other (p := ⟨cb, 2, none⟩) _ h1)).trans e1
  have vown : ∀ y, v'.ownBlock = some y → (cb < y ∧ lv.ownBlock = some y) ∨ cw.heap.size ≤ y := fun y hy => by
    rcases hA.2 with ⟨h0, _⟩ | ⟨gb, cap, cur, h8, h9, _⟩
    · omega
    · rw [h8] at hy; cases hy; exact h9
  have hkey : ∀ q y, cw.cell? q = some y → cb < q.block → lv.ownBlock ≠ some q.block → (hide (fun y => if cb < y ∧ v'.ownBlock ≠ some y then none else some (0, 0)) (wA.setCell ⟨cb, 2, none⟩ v')).cell? q = some y := fun q y hq h1 h2 => by
    refine hide_cell (keep q y hq (by omega) h2) (if_pos ⟨h1, fun e => ?_⟩)
    rcases vown _ e with h | h
    · exact h2 h.2
    · have := World.block_lt_of_cell? cw q hq; omega
  have cg : Cells ga (hide (fun y => if cb < y ∧ v'.ownBlock ≠ some y then none else some (0, 0)) (wA.setCell ⟨cb, 2, none⟩ v')) := fun q y hq => by
    obtain ⟨h1, h2, h3⟩ := hg q y hq
    exact hkey q y (hxc2.cells _ _ h1) h2 h3
  have newrow : ∀ {e size n : Nat} {v : Value} {ys : List Value}, RowP wk (fun y => wr.heap.size ≤ y) e size v n ys → RowRd (hide (fun y => if cb < y ∧ v'.ownBlock ≠ some y then none else some (0, 0)) (wA.setCell ⟨cb, 2, none⟩ v')) size v n ys := fun {e size n v ys} h => by
    obtain ⟨h1, h2⟩ := id h
    obtain ⟨h3, ao, cap, h4, h5, h6, h7⟩ := h.rd
    refine ⟨h3, ao, cap, h4, h5, h6, fun a haa j x hxx => ?_⟩
    rcases h2 with ⟨h8, a8, h9⟩ | ⟨g, cap', cur, h8, h9, _⟩
    · rw [h8] at h1
      obtain rfl : ys = [] := List.eq_nil_of_length_eq_zero (by omega)
      simp at hxx
    · rw [h4] at h8
      cases h8
      cases haa
      have hc := h7 _ rfl j x hxx
      have hb2 : (Addr.add ⟨g, 0, none⟩ j).block = g := addBlock _ _
      have h9' : wr.heap.size ≤ g := h9
      refine hkey (Addr.add ⟨g, 0, none⟩ j) x (hxc.cells _ _ hc) (by rw [hb2]; omega) (fun e => ?_)
      rw [hb2] at e
      have := hkb _ e
      omega
  refine ⟨?_, v', xs ++ oVals o av kv, hide (fun y => if cb < y ∧ v'.ownBlock ≠ some y then none else some (0, 0)) (wA.setCell ⟨cb, 2, none⟩ v'), ?_, ?_, fun y hy => ?_, fun j z hj hz => ?_, fun q y hq => ?_⟩
  · exact Ext.setCell ((hx.trans hxc2).grown hgA fun z hz => Nat.le_trans hcb (Nat.le_of_lt (hrow z hz).1)) hcb _
  · have e := heap_setCell_same (i := 2) hbA v'
    rw [e]; rfl
  · refine RowP.move hA fun gb hgb => ⟨heap_setCell_other (p := ⟨cb, 2, none⟩) _ ?_, ?_⟩
    · rcases hgb with h | h
      · show gb ≠ cb; omega
      · show gb ≠ cb; omega
    · rcases hgb with h | h
      · exact h.1
      · show cb < gb; omega
  · rcases hA.2 with ⟨h0, _⟩ | ⟨gb, cap, cur, h8, h9, h10, _⟩
    · omega
    · rw [h8] at hy; cases hy
      have := (Array.getElem?_eq_some_iff.1 h10).1
      simpa [World.setCell] using this
  · by_cases e : j = k
    · subst e
      rw [hn] at hz
      cases hz
      have hi : ∀ i, (xs ++ oVals o av kv).toArray[j * 6 + i]? = (oVals o av kv)[i]? := fun i => by
        rw [List.getElem?_toArray, List.getElem?_append_right (by omega), hlen, Nat.add_sub_cancel_left]
      exact ⟨av, kv, hi 0, hi 1, hi 2, hi 3, hi 4, hi 5, newrow ha, newrow hv⟩
    · refine (hk j z (by omega) hz).keep cg fun i hi => ?_
      rw [List.getElem?_toArray, List.getElem?_toArray, List.getElem?_append_left (by omega)]
  · obtain ⟨h1, h2⟩ := hide_apart _ _ q y hq
    dsimp only at h2
    split at h2
    · rename_i h3
      exact ⟨h1, h3.1, h3.2⟩
    · cases h2
/-- all have been copied -/
theorem RCopyAt.fin {w wr : World} {cb : Nat} {T : Tr} (hcb : w.heap.size ≤ cb) (hn : 0 < T.nodes.length) (h : RCopyAt w wr cb T T.nodes.length) : RefOn wr (fun b => w.heap.size ≤ b) cb T := by
  obtain ⟨hx, lv, xs, ga, hb, hr, hkb, hk, hg⟩ := h
  rcases hr.2 with ⟨h0, _⟩ | ⟨g, cap, cur, rfl, h2, h3, h4, h5, h6, h7⟩
  · omega
  · have hlen : xs.length = T.nodes.length * 6 := hr.1
    refine ⟨ga, g, ⟨by omega, ⟨cap, cur, hb, h4, h5, h3, h6, fun j o ho => ?_⟩, fun q y hq => ?_⟩, hcb, by omega, fun q y hq => ?_⟩
    · have hj := (List.getElem?_eq_some_iff.1 ho).1
      refine (hk j o hj ho).keep (fun _ _ h => h) fun i hi => ?_
      have e1 : xs.toArray[j * 6 + i]? = xs[j * 6 + i]? := by simp
      have e2 : xs[j * 6 + i]? = cur.toList[j * 6 + i]? := by rw [← h7, List.getElem?_take_of_lt (by omega)]
      rw [e1, e2]
      simp
    · obtain ⟨e1, e2, e3⟩ := hg q y hq
      exact ⟨e1, by omega, fun e => e3 (by rw [e]; rfl)⟩
    · obtain ⟨e1, e2, e3⟩ := hg q y hq
      show w.heap.size ≤ q.block
      omega
theorem ndOf_attrs {T : Tr} (hA : AttrsOk T) {k : Nat} {o : Option Nd} (h : T.nodes[k]? = some o) : (ndOf o).attrs.length ≤ 60000 := by
  cases o with
  | none => simp [ndOf, noNd]
  | some nd => exact (hA k nd h).1
theorem ndOf_kids {T : Tr} {d : Nat → Nat} (hw : WF T d) {k : Nat} {o : Option Nd} (h : T.nodes[k]? = some o) : (ndOf o).kids.length ≤ 2000 := by
  cases o with
  | none => simp [ndOf, noNd]
  | some nd => exact hw.kids_len h
set_option maxRecDepth 100000 in
set_option maxHeartbeats 4000000 in
theorem rCopy {w : World} {rb : Nat} {T : Tr} (hR : RAt w rb T) {d : Nat → Nat} (hw : WF T d) (hA : AttrsOk T) :
    Calls Try.prog 40 #[.pointer (some ⟨rb, 0, none⟩)] w (RNewIs w T) := by
  obtain ⟨_, _, c2, _, c0, c1⟩ := hR.slice
  have hlen := hw.small.len
  have hpos : 0 < T.nodes.length := by
    obtain ⟨nd, h, _⟩ := hw.root
    exact (List.getElem?_eq_some_iff.1 h).1
  have HR := Lib.hid hR
  have HW := Lib.hid hw
  have HA := Lib.hid hA
  clear hR hw hA c2
  go_enter Try.func40, Try.ntmps40
  go_upto_region 1 with fail
  go_region
  have xs0 : Ext w (w.alloc (.cells #[.int .i64 T.cap, .int .i64 T.deep, .slice none 0 0] 94)).drew := ((Ext.refl w).alloc _).drew
  have bs0 : (w.alloc (.cells #[.int .i64 T.cap, .int .i64 T.deep, .slice none 0 0] 94)).drew.heap[w.heap.size]? = some (.cells #[.int .i64 T.cap, .int .i64 T.deep, .slice none 0 0] 94 (0, 0)) := heap_alloc_new w _
  obtain ⟨ws, hws⟩ : ∃ ws : World, ws = (w.alloc (.cells #[.int .i64 T.cap, .int .i64 T.deep, .slice none 0 0] 94)).drew := ⟨_, rfl⟩
  obtain ⟨cb, hcb⟩ : ∃ cb, cb = w.heap.size := ⟨_, rfl⟩
  rw [← hws] at xs0 bs0
  rw [← hws]
  rw [← hcb] at bs0 ⊢
  have hcb1 : w.heap.size ≤ cb := by omega
  clear hws hcb c0 c1
  have hst : RCopyAt w ws cb T 0 := ⟨xs0, .slice none 0 0, [], { w with heap := #[] }, bs0, ⟨rfl, .inl ⟨rfl, none, rfl⟩⟩, (fun y e => by cases e), (fun j o h => by omega), fun q y hq => by simp [World.cell?] at hq⟩
  have HST := Lib.hid hst
  have XS0 := Lib.hid xs0
  clear hst bs0
  go_wp2_with fail
  go_loopw [4] (fun i wr => ∃ k : Nat, k ≤ T.nodes.length ∧ i = .int .i64 k ∧ RCopyAt w wr cb T k) (fun i _ => T.nodes.length - (intOf i).toNat)
  case atStart => exact ⟨0, Nat.zero_le _, rfl, HST.out⟩
  case round =>
    obtain ⟨k, hk, rfl, hrc⟩ := hrel
    have HRC := Lib.hid hrc
    obtain ⟨hx, lv, xs, ga, hb, hr, hkb, hki, hg⟩ := hrc
    obtain ⟨g0, cap0, d2, hcap0, d0, d1⟩ := (HR.out.ext hx).slice
    clear HST
    by_cases hlt : k < T.nodes.length
    · obtain ⟨o, ho⟩ : ∃ o, T.nodes[k]? = some o := ⟨T.nodes[k], by simp [hlt]⟩
      obtain ⟨al, cl, rfl, hcl⟩ := hr.rd.len_of
      have lb := cellOf hb (i := 2) (v := .slice al k cl) rfl
      have lf := freeOf hb 2
      have lcb := cell_lt lb
      obtain ⟨g, cap, aa, ac, ka, kc, e2, r0, r1, r2, r3, r4, r5, hav, hkv⟩ := (HR.out.ext hx).one ho
      clear d2 d0 d1
      have hal := ndOf_attrs HA.out ho
      have hkl := ndOf_kids HW.out ho
      have xr := (Ext.refl wr).alloc (.cells #[.int .i64 (isN o), .int .i64 (ndOf o).tag, .int .i64 (ndOf o).parent, .slice aa (ndOf o).attrs.length ac, .string (ndOf o).text, .slice ka (ndOf o).kids.length kc] 132)
      have br := heap_alloc_new wr (.cells #[.int .i64 (isN o), .int .i64 (ndOf o).tag, .int .i64 (ndOf o).parent, .slice aa (ndOf o).attrs.length ac, .string (ndOf o).text, .slice ka (ndOf o).kids.length kc] 132)
      have HX := Lib.hid hx
      have HB := Lib.hid hb
      have HRR := Lib.hid hr
      have HKB := Lib.hid hkb
      have HKI := Lib.hid hki
      have HG := Lib.hid hg
      have HO := Lib.hid ho
      clear hx hb hr hkb hki hg ho
      go_upto_region 6 with fail
      obtain ⟨R, hRe⟩ : ∃ R, R = wr.heap.size := ⟨_, rfl⟩
      obtain ⟨w1, hw1⟩ : ∃ w1 : World, w1 = wr.alloc (.cells #[.int .i64 (isN o), .int .i64 (ndOf o).tag, .int .i64 (ndOf o).parent, .slice aa (ndOf o).attrs.length ac, .string (ndOf o).text, .slice ka (ndOf o).kids.length kc] 132) := ⟨_, rfl⟩
      rw [← hRe] at br ⊢
      rw [← hw1] at xr br
      rw [← hw1]
      have hR1 : w1.heap.size = R + 1 := by rw [hw1, hRe]; simp
      have hRr : wr.heap.size = R := hRe.symm
      clear hw1 hRe r0 r1 r2 r3 r4 r5 e2
      have HR1 := Lib.hid hR1
      have HRr := Lib.hid hRr
      clear hR1 hRr
      -- the row of attributes
      have q3 := cellOf br (i := 3) (v := .slice aa (ndOf o).attrs.length ac) rfl
      have f3 := freeOf br 3
      have xe := (Ext.refl w1).alloc (.cells #[] 44)
      obtain ⟨va, wA, hrun, hra, hxa⟩ := append_empty (w := w1.alloc (.cells #[] 44)) (b := w1.heap.size) (hav.ext (xr.trans xe)) hal (attrCells_one _)
      obtain ⟨a1, c1, rfl, _⟩ := hra.rd.len_of
      have xa := xe.trans hxa
      have hra' := RowP.imp hra (q := fun y => R + 1 ≤ y) fun y _ hy => by have h : (w1.alloc (.cells #[] 44)).heap.size ≤ y := hy; have h2 := HR1.out; simp at h; show R + 1 ≤ y; omega
      have qe3 := xe.cell q3
      have qa3 := xa.cell q3
      have fa3 := xa.free (cell_lt q3) f3
      have ba := xa.block br
      have HRUN := Lib.hid hrun
      have HRA := Lib.hid hra'
      have XA := Lib.hid (xr.trans xa)
      have BA := Lib.hid ba
      have nR : R ≠ w1.heap.size := by have := HR1.out; omega
      have nR' := Ne.symm nR
      clear hra hra' hxa xe hrun xa ba br hav
      go_upto_region 7 with (at_builtin; refine wpList_append_run _ rfl _ _ 27 rfl _ _ rfl rfl _ _ HRUN.out ?_)
      have hRw := HRr.out
      have b2 := heap_setCell_same (i := 3) BA.out (.slice a1 (ndOf o).attrs.length c1)
      replace b2 : (wA.setCell ⟨R, 3, none⟩ (.slice a1 (ndOf o).attrs.length c1)).heap[R]? = some (.cells #[.int .i64 (isN o), .int .i64 (ndOf o).tag, .int .i64 (ndOf o).parent, .slice a1 (ndOf o).attrs.length c1, .string (ndOf o).text, .slice ka (ndOf o).kids.length kc] 132 (0, 0)) := b2
      have x2 : Ext wr (wA.setCell ⟨R, 3, none⟩ (.slice a1 (ndOf o).attrs.length c1)) := XA.out.setCell (by show wr.heap.size ≤ R; omega) _
      have hro : RowP (wA.setCell ⟨R, 3, none⟩ (.slice a1 (ndOf o).attrs.length c1)) (fun y => R + 1 ≤ y) 44 2 (.slice a1 (ndOf o).attrs.length c1) (ndOf o).attrs.length (attrCells (ndOf o).attrs) :=
        RowP.move HRA.out fun y hy => ⟨heap_setCell_other (p := ⟨R, 3, none⟩) _ (by have h : R + 1 ≤ y := hy; show y ≠ R; omega), hy⟩
      obtain ⟨w2, hw2⟩ : ∃ w2 : World, w2 = wA.setCell ⟨R, 3, none⟩ (.slice a1 (ndOf o).attrs.length c1) := ⟨_, rfl⟩
      rw [← hw2] at b2 x2 hro
      rw [← hw2]
      clear hw2 q3 f3 qe3 qa3 fa3 nR nR' BA HRUN HRA XA hRw
      -- the row of kids
      have q5 := cellOf b2 (i := 5) (v := .slice ka (ndOf o).kids.length kc) rfl
      have f5 := freeOf b2 5
      have xk := (Ext.refl w2).alloc (.cells #[] 3)
      obtain ⟨vk, wB, rowk, hrunk, hrk, hgk, hrowk⟩ := append_ints (w := w2.alloc (.cells #[] 3)) (B := w2.heap.size) (v := .slice (some ⟨w2.heap.size, 0, none⟩) 0 0) (n := 0) (xs := []) ⟨rfl, .inl ⟨rfl, _, rfl⟩⟩ (hkv.ext (x2.trans xk)) (by omega) (fun z hz => ints_one _ z hz)
      rw [Nat.zero_add, List.nil_append] at hrk
      obtain ⟨a2, c2, rfl, _⟩ := hrk.rd.len_of
      have lR : R < w2.heap.size := (Array.getElem?_eq_some_iff.1 b2).1
      have xb : Ext w2 wB := xk.grown hgk hrowk
      have hrk' := RowP.imp hrk (q := fun y => R + 1 ≤ y) fun y _ hy => by
        show R + 1 ≤ y
        rcases hy with h | h
        · omega
        · simp at h; omega
      have qe5 := xk.cell q5
      have qb5 := xb.cell q5
      have fb5 := xb.free lR f5
      have bb := xb.block b2
      have HRUNK := Lib.hid (AppI.mk hrunk)
      have HRK := Lib.hid hrk'
      have XB := Lib.hid (x2.trans xb)
      have BB := Lib.hid bb
      have HRO := Lib.hid (RowP.ext hro xb)
      have nR : R ≠ w2.heap.size := by omega
      have nR' := Ne.symm nR
      clear hrk hrk' hgk hrowk xk hrunk xb bb b2 hkv hro x2
      go_upto_region 8 with (at_builtin; refine wpList_app rfl _ _ rfl rfl _ _ rfl rfl _ _ HRUNK.out ?_)
      have hRw := HRr.out
      have b3 := heap_setCell_same (i := 5) BB.out (.slice a2 (ndOf o).kids.length c2)
      replace b3 : (wB.setCell ⟨R, 5, none⟩ (.slice a2 (ndOf o).kids.length c2)).heap[R]? = some (.cells #[.int .i64 (isN o), .int .i64 (ndOf o).tag, .int .i64 (ndOf o).parent, .slice a1 (ndOf o).attrs.length c1, .string (ndOf o).text, .slice a2 (ndOf o).kids.length c2] 132 (0, 0)) := b3
      have x3 : Ext wr (wB.setCell ⟨R, 5, none⟩ (.slice a2 (ndOf o).kids.length c2)) := XB.out.setCell (by show wr.heap.size ≤ R; omega) _
      have hro3 : RowP (wB.setCell ⟨R, 5, none⟩ (.slice a2 (ndOf o).kids.length c2)) (fun y => wr.heap.size ≤ y) 44 2 (.slice a1 (ndOf o).attrs.length c1) (ndOf o).attrs.length (attrCells (ndOf o).attrs) :=
        RowP.move HRO.out fun y hy => ⟨heap_setCell_other (p := ⟨R, 5, none⟩) _ (by have h : R + 1 ≤ y := hy; show y ≠ R; omega), by have h : R + 1 ≤ y := hy; omega⟩
      have hrk3 : RowP (wB.setCell ⟨R, 5, none⟩ (.slice a2 (ndOf o).kids.length c2)) (fun y => wr.heap.size ≤ y) 3 1 (.slice a2 (ndOf o).kids.length c2) (ndOf o).kids.length ((ndOf o).kids.map (Value.int .i64)) :=
        RowP.move HRK.out fun y hy => ⟨heap_setCell_other (p := ⟨R, 5, none⟩) _ (by have h : R + 1 ≤ y := hy; show y ≠ R; omega), by have h : R + 1 ≤ y := hy; omega⟩
      obtain ⟨w3, hw3⟩ : ∃ w3 : World, w3 = wB.setCell ⟨R, 5, none⟩ (.slice a2 (ndOf o).kids.length c2) := ⟨_, rfl⟩
      rw [← hw3] at b3 x3 hro3 hrk3
      rw [← hw3]
      clear hw3 q5 f5 qe5 qb5 fb5 nR nR' BB HRUNK HRK XB HRO
      have t0 := cellOf b3 (i := 0) (v := .int .i64 (isN o)) rfl
      have t1 := cellOf b3 (i := 1) (v := .int .i64 (ndOf o).tag) rfl
      have t2 := cellOf b3 (i := 2) (v := .int .i64 (ndOf o).parent) rfl
      have t3 := cellOf b3 (i := 3) (v := .slice a1 (ndOf o).attrs.length c1) rfl
      have t4 := cellOf b3 (i := 4) (v := .string (ndOf o).text) rfl
      have t5 := cellOf b3 (i := 5) (v := .slice a2 (ndOf o).kids.length c2) rfl
      have l3 := x3.cell lb
      have lf3 := x3.free lcb lf
      have xd := (Ext.refl w3).drew
      have l3d := xd.cell l3
      have t0d := xd.cell t0
      have t1d := xd.cell t1
      have t2d := xd.cell t2
      have t3d := xd.cell t3
      have t4d := xd.cell t4
      have t5d := xd.cell t5
      have HX3 := Lib.hid x3
      have HRO3 := Lib.hid hro3
      have HRK3 := Lib.hid hrk3
      clear b3 x3 hro3 hrk3 t0 t1 t2 t3 t4 t5 hRw
      refine wp_region_E (S := fun w' => w'.cell? ⟨cb, 2, none⟩ = some (.slice al k cl) ∧ w'.cell? ⟨R, 0, none⟩ = some (.int .i64 (isN o)) ∧ w'.cell? ⟨R, 1, none⟩ = some (.int .i64 (ndOf o).tag) ∧ w'.cell? ⟨R, 2, none⟩ = some (.int .i64 (ndOf o).parent) ∧ w'.cell? ⟨R, 3, none⟩ = some (.slice a1 (ndOf o).attrs.length c1) ∧ w'.cell? ⟨R, 4, none⟩ = some (.string (ndOf o).text) ∧ w'.cell? ⟨R, 5, none⟩ = some (.slice a2 (ndOf o).kids.length c2)) (n := 10) (by kernel_rfl) ?_
      have hS : w3.drew.cell? ⟨cb, 2, none⟩ = some (.slice al k cl) ∧ w3.drew.cell? ⟨R, 0, none⟩ = some (.int .i64 (isN o)) ∧ w3.drew.cell? ⟨R, 1, none⟩ = some (.int .i64 (ndOf o).tag) ∧ w3.drew.cell? ⟨R, 2, none⟩ = some (.int .i64 (ndOf o).parent) ∧ w3.drew.cell? ⟨R, 3, none⟩ = some (.slice a1 (ndOf o).attrs.length c1) ∧ w3.drew.cell? ⟨R, 4, none⟩ = some (.string (ndOf o).text) ∧ w3.drew.cell? ⟨R, 5, none⟩ = some (.slice a2 (ndOf o).kids.length c2) := ⟨l3d, t0d, t1d, t2d, t3d, t4d, t5d⟩
      show wpE _ _ _ _ _ 10 11 (Array.replicate 11 false) _ _
      refine wpE_take (i := 0) (v := .pointer (some ⟨cb, 0, none⟩)) (o := { dst := some 42, op := _, type := _, pos := _, after := _, guard := none }) rfl (by kernel_rfl) (by kernel_rfl) (by kernel_rfl) (by kernel_rfl) (fun _ _ _ h => h) (Or.inl ⟨by rfl, fun w' hSw => ?_⟩) hS ?_
      · (obtain ⟨s1, s2, s3, s4, s5, s6, s7⟩ := hSw; clear hS; go_simp)
      try simp only [Act.put, List.setIfInBounds_toArray, List.set_cons_zero, List.set_cons_succ]
      refine wpE_take (i := 1) (v := .pointer (some ⟨cb, 0, none⟩)) (o := { dst := some 43, op := _, type := _, pos := _, after := _, guard := none }) rfl (by kernel_rfl) (by kernel_rfl) (by kernel_rfl) (by kernel_rfl) (fun _ _ _ h => h) (Or.inl ⟨by rfl, fun w' hSw => ?_⟩) hS ?_
      · (obtain ⟨s1, s2, s3, s4, s5, s6, s7⟩ := hSw; clear hS; go_simp)
      try simp only [Act.put, List.setIfInBounds_toArray, List.set_cons_zero, List.set_cons_succ]
      refine wpE_take (i := 2) (v := .pointer (some ⟨cb, 0, none⟩)) (o := { dst := some 44, op := _, type := _, pos := _, after := _, guard := none }) rfl (by kernel_rfl) (by kernel_rfl) (by kernel_rfl) (by kernel_rfl) (fun _ _ _ h => h) (Or.inl ⟨by rfl, fun w' hSw => ?_⟩) hS ?_
      · (obtain ⟨s1, s2, s3, s4, s5, s6, s7⟩ := hSw; clear hS; go_simp)
      try simp only [Act.put, List.setIfInBounds_toArray, List.set_cons_zero, List.set_cons_succ]
      refine wpE_take (i := 3) (v := .pointer (some ⟨cb, 2, none⟩)) (o := { dst := some 45, op := _, type := _, pos := _, after := _, guard := none }) rfl (by kernel_rfl) (by kernel_rfl) (by kernel_rfl) (by kernel_rfl) (fun _ _ _ h => h) (Or.inl ⟨by rfl, fun w' hSw => ?_⟩) hS ?_
      · (obtain ⟨s1, s2, s3, s4, s5, s6, s7⟩ := hSw; clear hS; go_simp)
      try simp only [Act.put, List.setIfInBounds_toArray, List.set_cons_zero, List.set_cons_succ]
      refine wpE_take (i := 4) (v := .slice al k cl) (o := { dst := some 46, op := _, type := _, pos := _, after := _, guard := none }) rfl (by kernel_rfl) (by kernel_rfl) (by kernel_rfl) (by kernel_rfl) (fun _ _ _ h => h) (Or.inl ⟨by rfl, fun w' hSw => ?_⟩) hS ?_
      · (obtain ⟨s1, s2, s3, s4, s5, s6, s7⟩ := hSw; clear hS; go_simp)
      try simp only [Act.put, List.setIfInBounds_toArray, List.set_cons_zero, List.set_cons_succ]
      refine wpE_take (i := 5) (v := .agg #[.int .i64 (isN o), .int .i64 (ndOf o).tag, .int .i64 (ndOf o).parent, .slice a1 (ndOf o).attrs.length c1, .string (ndOf o).text, .slice a2 (ndOf o).kids.length c2]) (o := { dst := some 47, op := _, type := _, pos := _, after := _, guard := none }) rfl (by kernel_rfl) (by kernel_rfl) (by kernel_rfl) (by kernel_rfl) (fun _ _ _ h => h) (Or.inl ⟨by rfl, fun w' hSw => ?_⟩) hS ?_
      · (obtain ⟨s1, s2, s3, s4, s5, s6, s7⟩ := hSw; clear hS; go_simp)
      try simp only [Act.put, List.setIfInBounds_toArray, List.set_cons_zero, List.set_cons_succ]
      obtain ⟨wd, hwd⟩ : ∃ wd : World, wd = w3.drew := ⟨_, rfl⟩
      rw [← hwd] at hS xd l3d t0d t1d t2d t3d t4d t5d ⊢
      clear hwd
      refine wpE_one (i := 6) (o := { dst := some 48, op := _, type := _, pos := _, after := _, guard := none }) (by kernel_rfl) rfl (fun K hK => ?_)
      go_simp
      have xc := xd.alloc (.cells #[.int .i64 (isN o), .int .i64 (ndOf o).tag, .int .i64 (ndOf o).parent, .slice a1 (ndOf o).attrs.length c1, .string (ndOf o).text, .slice a2 (ndOf o).kids.length c2] 132)
      have xq := (Ext.refl wd).alloc (.cells #[.int .i64 (isN o), .int .i64 (ndOf o).tag, .int .i64 (ndOf o).parent, .slice a1 (ndOf o).attrs.length c1, .string (ndOf o).text, .slice a2 (ndOf o).kids.length c2] 132)
      have hnew := cells_six (heap_alloc_new wd (.cells #[.int .i64 (isN o), .int .i64 (ndOf o).tag, .int .i64 (ndOf o).parent, .slice a1 (ndOf o).attrs.length c1, .string (ndOf o).text, .slice a2 (ndOf o).kids.length c2] 132))
      obtain ⟨cw, hcw⟩ : ∃ cw : World, cw = wd.alloc (.cells #[.int .i64 (isN o), .int .i64 (ndOf o).tag, .int .i64 (ndOf o).parent, .slice a1 (ndOf o).attrs.length c1, .string (ndOf o).text, .slice a2 (ndOf o).kids.length c2] 132) := ⟨_, rfl⟩
      rw [← hcw] at xc xq hnew ⊢
      clear hcw
      have l3c := xc.cell l3
      have s0c := xq.cell t0d
      have s1c := xq.cell t1d
      have s2c := xq.cell t2d
      have s3c := xq.cell t3d
      have s4c := xq.cell t4d
      have s5c := xq.cell t5d
      refine hK.out _ _ (.inr ⟨l3c, s0c, s1c, s2c, s3c, s4c, s5c⟩) ?_
      clear hK K
      try simp only [Act.put, List.setIfInBounds_toArray, List.set_cons_zero, List.set_cons_succ]
      obtain ⟨i0, hi, hz0, hz1, hz2⟩ := info_parts infoR
      obtain ⟨v7, wC, row, hrunC, hrC, hgC, hrowC⟩ := run_append_row (P := Try.prog) cw 92 92 132 i0 noRec0 6 88 Try.underlying92 hi hz0 hz1 hz2 (by kernel_rfl) (by decide)
        (p := fun y => cb < y ∧ (Value.slice al k cl).ownBlock = some y) (RowP.imp (RowP.ext HRR.out (HX3.out.trans xc)) (fun y hy hp => ⟨hp, hy⟩)) ⟨wd.heap.size, 0, none⟩ 1 1 _ rfl hnew (by simp [Value.oneCell']) (by decide) (by unfold maxLen; omega) (by omega)
      have FIN := Lib.hid (RCopyAt.step (av := .slice a1 (ndOf o).attrs.length c1) (kv := .slice a2 (ndOf o).kids.length c2) HX.out hcb1 HB.out HRR.out HKB.out HKI.out HG.out HO.out HX3.out HRO3.out HRK3.out xc hrC hgC hrowC)
      obtain ⟨a7, cap7, e7, _⟩ := hrC.rd.len_of
      subst e7
      have hneR : ∀ z, row = some z → z ≠ R := fun z hz => by have h1 := HKB.out z (hrowC z hz).2; have h2 := HRr.out; omega
      have hneC : ∀ z, row = some z → z ≠ cb := fun z hz => by have := (hrowC z hz).1; omega
      have l3A := grownCell (Ext.refl cw) hgC l3c hneC
      have lfA := grownFree (Ext.refl cw) hgC (cell_lt l3c) (xc.free (cell_lt l3) lf3) hneC
      have s0A := grownCell (Ext.refl cw) hgC s0c hneR
      have s1A := grownCell (Ext.refl cw) hgC s1c hneR
      have s2A := grownCell (Ext.refl cw) hgC s2c hneR
      have s3A := grownCell (Ext.refl cw) hgC s3c hneR
      have s4A := grownCell (Ext.refl cw) hgC s4c hneR
      have s5A := grownCell (Ext.refl cw) hgC s5c hneR
      have HRUNC := Lib.hid hrunC
      clear hrC hgC hrowC hrunC hi hz0 hz1 hz2 hnew hneR hneC
      refine wpE_one (i := 7) (o := { dst := some 49, op := _, type := _, pos := _, after := _, guard := none }) (by kernel_rfl) rfl (fun K hK => ?_)
      refine step_append_run (by rfl) _ _ 92 (by rfl) (.slice al k cl) (.slice (some ⟨wd.heap.size, 0, none⟩) 1 1) (by rfl) (by rfl) (.slice a7 (k + 1) cap7) wC HRUNC.out ?_
      refine hK.out _ _ (.inr ⟨l3A, s0A, s1A, s2A, s3A, s4A, s5A⟩) ?_
      clear hK K
      try simp only [Act.put, List.setIfInBounds_toArray, List.set_cons_zero, List.set_cons_succ]
      refine wpE_one (i := 8) (o := { dst := some 50, op := _, type := _, pos := _, after := _, guard := none }) (by kernel_rfl) rfl (fun K hK => ?_)
      go_simp
      refine hK.out _ _ (.inr ⟨l3A, s0A, s1A, s2A, s3A, s4A, s5A⟩) ?_
      clear hK K
      try simp only [Act.put, List.setIfInBounds_toArray, List.set_cons_zero, List.set_cons_succ]
      refine wpE_one (i := 9) (o := { dst := some 51, op := _, type := _, pos := _, after := _, guard := none }) (by kernel_rfl) rfl (fun K hK => ?_)
      go_simp
      refine hK.out _ _ (.inr ⟨l3A, s0A, s1A, s2A, s3A, s4A, s5A⟩) ?_
      clear hK K
      try simp only [Act.put, List.setIfInBounds_toArray, List.set_cons_zero, List.set_cons_succ]
      refine wpE_one (i := 10) (o := { dst := none, op := _, type := _, pos := _, after := _, guard := none }) (by kernel_rfl) rfl (fun K hK => ?_)
      go_simp
      refine hK.out _ _ (.inl rfl) ?_
      clear hK K
      refine wpE_done (by kernel_rfl) ?_
      clear l3A lfA s0A s1A s2A s3A s4A s5A l3c s0c s1c s2c s3c s4c s5c l3d t0d t1d t2d t3d t4d t5d l3 lf3 lb lf hS
      obtain ⟨wz, hwz⟩ : ∃ wz : World, wz = wC.setCell ⟨cb, 2, none⟩ (.slice a7 (k + 1) cap7) := ⟨_, rfl⟩
      rw [← hwz] at FIN ⊢
      clear hwz
      go_wp2_with fail
      go_roundw
      case rel => exact ⟨k + 1, by omega, by go_num, FIN.out⟩
      case measure => simp [intOf]; omega
    · obtain rfl : k = T.nodes.length := by omega
      have HFIN := Lib.hid (HRC.out.fin hcb1 hpos)
      have HX := Lib.hid hx
      clear hb hr hkb hki hg hx
      go_wp2_with fail
      go_ret
      exact ⟨cb, rfl, HX.out, HFIN.out⟩
end Go.Proofs.Ytiglflmjidikpaa
