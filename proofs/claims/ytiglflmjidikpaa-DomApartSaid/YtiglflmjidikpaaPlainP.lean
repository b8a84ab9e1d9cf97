/- Pure: what holds at the head of the loop of Plain; a step. No program in sight. -/
import Derived.Test.YtiglflmjidikpaaDomZc
namespace Go.Proofs.Ytiglflmjidikpaa
open Go Go.RowKit Go.BigFrame
set_option linter.unusedVariables false
set_option linter.unusedSimpArgs false

abbrev noNode0 : Value := .agg #[.int .i64 0, .slice none 0 0, .string ⟨#[]⟩, .slice none 0 0]
/-- a plain tree in new memory is returned -/
def PlainIs (n : PN) (w : World) (e : Ending) (w' : World) : Prop := ∃ v g, e = .returned v ∧ RdN g n v ∧ Ext w w' ∧ ∀ q x, g.cell? q = some x → w'.cell? q = some x ∧ w.heap.size ≤ q.block
/-- the box of the plain node: its four cells -/
def PlainBox (w0 wx : World) (b : Nat) (tag : Int) (attrs : List (ByteArray × ByteArray)) (text : ByteArray) : Prop := ∃ aa acap, wx.heap[b]? = some (.cells #[.int .i64 tag, .slice aa attrs.length acap, .string text, .slice none 0 0] 30 (0, 0)) ∧
  RowP wx (fun g => w0.heap.size ≤ g ∧ g ≠ b) 44 2 (.slice aa attrs.length acap) attrs.length (attrCells attrs)
theorem RowP.below {w : World} {p : Nat → Prop} {e size : Nat} {v : Value} {n : Nat} {xs : List Value} (h : RowP w p e size v n xs) : RowP w (fun g => p g ∧ g < w.heap.size) e size v n xs := by
  obtain ⟨h1, h2 | ⟨g, cap, cur, rfl, h3, h4, h5⟩⟩ := h
  · exact ⟨h1, .inl h2⟩
  · refine ⟨h1, .inr ⟨g, cap, cur, rfl, ⟨h3, ?_⟩, h4, h5⟩⟩
    rcases Nat.lt_or_ge g w.heap.size with h | h
    · exact h
    · rw [Array.getElem?_eq_none h] at h4; cases h4
theorem plainBox_new {w1 w5 : World} {B : Nat} {tag : Int} {attrs : List (ByteArray × ByteArray)} {text : ByteArray} {aa : Option Addr} {acap : Nat} (hB : w1.heap.size ≤ B) (x : Ext w1 w5) (h : RowIn w5 B 44 2 (.slice aa attrs.length acap) attrs.length (attrCells attrs)) :
    PlainBox w1 (w5.alloc (.cells #[.int .i64 tag, .slice aa attrs.length acap, .string text, .slice none 0 0] 30)) w5.heap.size tag attrs text :=
  ⟨aa, acap, heap_alloc_new _ _, RowP.imp (RowP.ext (RowP.below h) ((Ext.refl w5).alloc _)) fun g _ hg => ⟨Nat.le_trans hB hg.1, Nat.ne_of_lt hg.2⟩⟩
theorem plainBox_old {w1 w5 : World} {B b : Nat} {tag : Int} {attrs : List (ByteArray × ByteArray)} {text : ByteArray} {aa : Option Addr} {acap : Nat} (hB : w1.heap.size ≤ B) (hb : b < B) (h : RowIn w5 B 44 2 (.slice aa attrs.length acap) attrs.length (attrCells attrs))
    {cs : Array Value} (hs : cs.size = 4) (hx : w5.heap[b]? = some (.cells cs 30 (0, 0))) :
    PlainBox w1 ((((w5.setCell ⟨b, 0, none⟩ (.int .i64 tag)).setCell ⟨b, 1, none⟩ (.slice aa attrs.length acap)).setCell ⟨b, 2, none⟩ (.string text)).setCell ⟨b, 3, none⟩ (.slice none 0 0)) b tag attrs text := by
  have e := heap_setCell_same (i := 3) (heap_setCell_same (i := 2) (heap_setCell_same (i := 1) (heap_setCell_same (i := 0) hx (.int .i64 tag)) (.slice aa attrs.length acap)) (.string text)) (.slice none 0 0)
  refine ⟨aa, acap, ?_, RowP.move h fun g hg => ⟨?_, Nat.le_trans hB hg, by have : B ≤ g := hg; omega⟩⟩
  · rw [e]
    obtain ⟨l⟩ := cs
    match l, hs with
    | [c0, c1, c2, c3], _ => rfl
  · have hne : g ≠ b := by have : B ≤ g := hg; omega
    rw [heap_setCell_other (p := ⟨b, 3, none⟩) _ hne, heap_setCell_other (p := ⟨b, 2, none⟩) _ hne, heap_setCell_other (p := ⟨b, 1, none⟩) _ hne, heap_setCell_other (p := ⟨b, 0, none⟩) _ hne]
/-- what is told at the loop's head: k kids stand in the row; a reading world tells the row of attributes and the kids -/
structure PlainAt (w1 wr : World) (b : Nat) (nd : Nd) (F : Int → PN) (aa : Option Addr) (acap k : Nat) : Prop where
  ext : Ext w1 wr
  row : ∃ kv xs g, wr.heap[b]? = some (.cells #[.int .i64 nd.tag, .slice aa nd.attrs.length acap, .string nd.text, kv] 30 (0, 0)) ∧ RowP wr (fun x => w1.heap.size ≤ x ∧ x ≠ b) 30 4 kv k xs ∧ (∀ y, kv.ownBlock = some y → y < wr.heap.size) ∧
    RowRd g 2 (.slice aa nd.attrs.length acap) nd.attrs.length (attrCells nd.attrs) ∧
    (∀ (j : Nat) (x : Int), j < k → nd.kids[j]? = some x → ∃ c0 c1 c2 c3, xs[j * 4]? = some c0 ∧ xs[j * 4 + 1]? = some c1 ∧ xs[j * 4 + 2]? = some c2 ∧ xs[j * 4 + 3]? = some c3 ∧ RdN g (F x) (.agg #[c0, c1, c2, c3])) ∧
    ∀ q x, g.cell? q = some x → wr.cell? q = some x ∧ w1.heap.size ≤ q.block ∧ q.block ≠ b ∧ kv.ownBlock ≠ some q.block
theorem PlainBox.at {w1 wx : World} {b : Nat} {nd : Nd} (F : Int → PN) (h : PlainBox w1 wx b nd.tag nd.attrs nd.text) (x : Ext w1 wx) :
    ∃ aa acap, PlainAt w1 wx b nd F aa acap 0 := by
  obtain ⟨aa, acap, hb, hr⟩ := h
  refine ⟨aa, acap, x, .slice none 0 0, [], hide (fun y => if w1.heap.size ≤ y ∧ y ≠ b then none else some (0, 0)) wx, hb, ⟨rfl, .inl ⟨rfl, none, rfl⟩⟩, (fun y e => by cases e), ?_, fun j x hj => by omega, fun q y hq => ?_⟩
  · have hr' := hr
    obtain ⟨h1, h2⟩ := hr
    obtain ⟨h3, ao, cap, h4, h5, h6, h7⟩ := hr'.rd
    refine ⟨h3, ao, cap, h4, h5, h6, fun a ha j x hx => ?_⟩
    refine hide_cell (h7 a ha j x hx) ?_
    rcases h2 with ⟨h8, a8, h9⟩ | ⟨g, cap', cur, h8, h9, _⟩
    · rw [h8] at h1
      have h0 : attrCells nd.attrs = [] := List.eq_nil_of_length_eq_zero (by omega)
      rw [h0] at hx
      simp at hx
    · rw [h4] at h8
      cases h8
      cases ha
      rw [Addr.add_lit]
      exact if_pos h9
  · obtain ⟨h1, h2⟩ := hide_apart _ _ q y hq
    dsimp only at h2
    split at h2
    · rename_i h3
      exact ⟨h1, h3.1, h3.2, fun e => by cases e⟩
    · cases h2
theorem PlainAt.step {w1 wr wk cw wA : World} {b : Nat} {nd : Nd} {F : Int → PN} {aa : Option Addr} {acap k : Nat} {kv v' : Value} {xs : List Value} {g g' : World} {x : Int} {c0 c1 c2 c3 : Value} {row : Option Nat}
    (hx : Ext w1 wr) (hb : wr.heap[b]? = some (.cells #[.int .i64 nd.tag, .slice aa nd.attrs.length acap, .string nd.text, kv] 30 (0, 0))) (hb1 : w1.heap.size ≤ b)
    (hr : RowP wr (fun x => w1.heap.size ≤ x ∧ x ≠ b) 30 4 kv k xs) (hkb : ∀ y, kv.ownBlock = some y → y < wr.heap.size) (ha : RowRd g 2 (.slice aa nd.attrs.length acap) nd.attrs.length (attrCells nd.attrs))
    (hk : ∀ (j : Nat) (x : Int), j < k → nd.kids[j]? = some x → ∃ c0 c1 c2 c3, xs[j * 4]? = some c0 ∧ xs[j * 4 + 1]? = some c1 ∧ xs[j * 4 + 2]? = some c2 ∧ xs[j * 4 + 3]? = some c3 ∧ RdN g (F x) (.agg #[c0, c1, c2, c3]))
    (hg : ∀ q x, g.cell? q = some x → wr.cell? q = some x ∧ w1.heap.size ≤ q.block ∧ q.block ≠ b ∧ kv.ownBlock ≠ some q.block)
    (hn : nd.kids[k]? = some x) (hxk : Ext wr wk) (hr' : RdN g' (F x) (.agg #[c0, c1, c2, c3])) (hg' : ∀ q y, g'.cell? q = some y → wk.cell? q = some y ∧ wr.heap.size ≤ q.block)
    (hxc : Ext wk cw) (hA : RowP wA (fun y => (w1.heap.size ≤ y ∧ y ≠ b ∧ kv.ownBlock = some y) ∨ cw.heap.size ≤ y) 30 4 v' (k + 1) (xs ++ [c0, c1, c2, c3])) (hgA : cw.grownBy wA row) (hrow : ∀ z, row = some z → w1.heap.size ≤ z ∧ z ≠ b ∧ kv.ownBlock = some z) :
    PlainAt w1 (wA.setCell ⟨b, 3, none⟩ v') b nd F aa acap (k + 1) := by
  have hbl : b < wr.heap.size := (Array.getElem?_eq_some_iff.1 hb).1
  have hxc2 : Ext wr cw := hxk.trans hxc
  have hs1 := Ext.size hx
  have hs2 := Ext.size hxk
  have hs3 := Ext.size hxc
  have hlen : xs.length = k * 4 := hr.1
  have hbA : wA.heap[b]? = some (.cells #[.int .i64 nd.tag, .slice aa nd.attrs.length acap, .string nd.text, kv] 30 (0, 0)) := by
    rw [hgA.block b (by omega) (fun e => (hrow b e.symm).2.1 rfl)]
    exact hxc2.block hb
  -- a cell of a block that is neither b nor the rows' own
  have keep : ∀ q y, cw.cell? q = some y → q.block ≠ b → kv.ownBlock ≠ some q.block → (wA.setCell ⟨b, 3, none⟩ v').cell? q = some y := fun q y hq h1 h2 => by
    have hl := World.block_lt_of_cell? cw q hq
    have e1 : wA.cell? q = some y := (World.cell?_of_block (hgA.block q.block hl (fun e => h2 (hrow q.block e.symm).2.2))).trans hq
    exact (World.cell?_of_block (heap_setCell_other (p := ⟨b, 3, none⟩) _ h1)).trans e1
  have vown : ∀ y, v'.ownBlock = some y → (w1.heap.size ≤ y ∧ y ≠ b ∧ kv.ownBlock = some y) ∨ cw.heap.size ≤ y := fun y hy => by
    rcases hA.2 with ⟨h0, _⟩ | ⟨gb, cap, cur, h8, h9, _⟩
    · omega
    · rw [h8] at hy; cases hy; exact h9
  have hkey : ∀ q y, cw.cell? q = some y → w1.heap.size ≤ q.block → q.block ≠ b → kv.ownBlock ≠ some q.block → (hide (fun y => if w1.heap.size ≤ y ∧ y ≠ b ∧ v'.ownBlock ≠ some y then none else some (0, 0)) (wA.setCell ⟨b, 3, none⟩ v')).cell? q = some y := fun q y hq h0 h1 h2 => by
    refine hide_cell (keep q y hq h1 h2) (if_pos ⟨h0, h1, fun e => ?_⟩)
    rcases vown _ e with h | h
    · exact h2 h.2.2
    · have := World.block_lt_of_cell? cw q hq; omega
  have cg : Cells g (hide (fun y => if w1.heap.size ≤ y ∧ y ≠ b ∧ v'.ownBlock ≠ some y then none else some (0, 0)) (wA.setCell ⟨b, 3, none⟩ v')) := fun q y hq => by
    obtain ⟨h1, h2, h3, h4⟩ := hg q y hq
    exact hkey q y (hxc2.cells _ _ h1) h2 h3 h4
  have cg' : Cells g' (hide (fun y => if w1.heap.size ≤ y ∧ y ≠ b ∧ v'.ownBlock ≠ some y then none else some (0, 0)) (wA.setCell ⟨b, 3, none⟩ v')) := fun q y hq => by
    obtain ⟨h1, h2⟩ := hg' q y hq
    exact hkey q y (hxc.cells _ _ h1) (by omega) (by omega) fun e => by have := hkb _ e; omega
  refine ⟨?_, v', xs ++ [c0, c1, c2, c3], _, ?_, ?_, fun y hy => ?_, ha.cells cg, fun j z hj hz => ?_, fun q y hq => ?_⟩
  · refine Ext.setCell ((hx.trans hxc2).grown hgA fun z hz => (hrow z hz).1) hb1 _
  · have e := heap_setCell_same (i := 3) hbA v'
    rw [e]; rfl
  · refine RowP.move hA fun gb hgb => ⟨heap_setCell_other (p := ⟨b, 3, none⟩) _ ?_, ?_⟩
    · rcases hgb with h | h
      · exact h.2.1
      · show gb ≠ b; omega
    · rcases hgb with h | h
      · exact ⟨h.1, h.2.1⟩
      · exact ⟨by omega, by omega⟩
  · rcases hA.2 with ⟨h0, _⟩ | ⟨gb, cap, cur, h8, h9, h10, _⟩
    · omega
    · rw [h8] at hy; cases hy
      have := (Array.getElem?_eq_some_iff.1 h10).1
      simpa [World.setCell] using this
  · by_cases e : j = k
    · subst e
      rw [hn] at hz
      cases hz
      refine ⟨c0, c1, c2, c3, ?_, ?_, ?_, ?_, hr'.cells cg'⟩ <;> simp [← hlen]
    · obtain ⟨d0, d1, d2, d3, q0, q1, q2, q3, hq⟩ := hk j z (by omega) hz
      exact ⟨d0, d1, d2, d3, by rw [List.getElem?_append_left (by omega)]; exact q0, by rw [List.getElem?_append_left (by omega)]; exact q1, by rw [List.getElem?_append_left (by omega)]; exact q2, by rw [List.getElem?_append_left (by omega)]; exact q3, hq.cells cg⟩
  · obtain ⟨h1, h2⟩ := hide_apart _ _ q y hq
    dsimp only at h2
    split at h2
    · rename_i h3
      exact ⟨h1, h3.1, h3.2.1, h3.2.2⟩
    · cases h2
theorem infoN : (Try.prog.info? 30).map (fun i => (i.zero, i.size, i.bytes)) = some (some noNode0, 4, 72) := by kernel_rfl
theorem cells_four {w : World} {b : Nat} {c0 c1 c2 c3 : Value} {t : TypeId} (h : w.heap[b]? = some (.cells #[c0, c1, c2, c3] t (0, 0))) : ∀ (j : Nat) u, [c0, c1, c2, c3][j]? = some u → w.cell? (Addr.add ⟨b, 0, none⟩ j) = some u := by
  intro j u hu
  rw [Addr.add_lit, Nat.zero_add]
  refine cellOf h ?_
  simpa using hu
/-- what is handed back: the box's cells, stored into the result's -/
theorem plain_fin {u w1 wr : World} {b : Nat} {nd : Nd} {F : Int → PN} {aa ak : Option Addr} {acap ck : Nat} {xs : List Value} {g : World} (hu : Ext u w1) (hB : u.heap.size < w1.heap.size) (hx : Ext w1 wr)
    (hb : wr.heap[b]? = some (.cells #[.int .i64 nd.tag, .slice aa nd.attrs.length acap, .string nd.text, .slice ak nd.kids.length ck] 30 (0, 0)))
    (hr : RowP wr (fun x => w1.heap.size ≤ x ∧ x ≠ b) 30 4 (.slice ak nd.kids.length ck) nd.kids.length xs) (ha : RowRd g 2 (.slice aa nd.attrs.length acap) nd.attrs.length (attrCells nd.attrs))
    (hk : ∀ (j : Nat) (x : Int), j < nd.kids.length → nd.kids[j]? = some x → ∃ c0 c1 c2 c3, xs[j * 4]? = some c0 ∧ xs[j * 4 + 1]? = some c1 ∧ xs[j * 4 + 2]? = some c2 ∧ xs[j * 4 + 3]? = some c3 ∧ RdN g (F x) (.agg #[c0, c1, c2, c3]))
    (hg : ∀ q x, g.cell? q = some x → wr.cell? q = some x ∧ w1.heap.size ≤ q.block ∧ q.block ≠ b ∧ (Value.slice ak nd.kids.length ck).ownBlock ≠ some q.block) (c0 c1 c2 c3 : Value) :
    PlainIs (.mk nd.tag nd.attrs nd.text (nd.kids.map F)) u (.returned (.agg #[.int .i64 nd.tag, .slice aa nd.attrs.length acap, .string nd.text, .slice ak nd.kids.length ck]))
      ((((wr.setCell ⟨u.heap.size, 0, none⟩ c0).setCell ⟨u.heap.size, 1, none⟩ c1).setCell ⟨u.heap.size, 2, none⟩ c2).setCell ⟨u.heap.size, 3, none⟩ c3) := by
  have hux : Ext u wr := hu.trans hx
  obtain ⟨w3, hw3⟩ : ∃ w3 : World, w3 = (((wr.setCell ⟨u.heap.size, 0, none⟩ c0).setCell ⟨u.heap.size, 1, none⟩ c1).setCell ⟨u.heap.size, 2, none⟩ c2).setCell ⟨u.heap.size, 3, none⟩ c3 := ⟨_, rfl⟩
  have e3 : Ext u w3 := hw3 ▸ (((hux.setCell (Nat.le_refl _) _).setCell (Nat.le_refl _) _).setCell (Nat.le_refl _) _).setCell (Nat.le_refl _) _
  have k3 : ∀ q y, wr.cell? q = some y → q.block ≠ u.heap.size → w3.cell? q = some y := fun q y hq hn => by
    rw [hw3, ← hq]
    refine World.cell?_of_block ?_
    rw [heap_setCell_other (p := ⟨u.heap.size, 3, none⟩) _ hn, heap_setCell_other (p := ⟨u.heap.size, 2, none⟩) _ hn, heap_setCell_other (p := ⟨u.heap.size, 1, none⟩) _ hn, heap_setCell_other (p := ⟨u.heap.size, 0, none⟩) _ hn]
  rw [← hw3]
  clear hw3
  have kk : ∀ q y, wr.cell? q = some y → w1.heap.size ≤ q.block → (hide (fun y => if w1.heap.size ≤ y then none else some (0, 0)) w3).cell? q = some y := fun q y hq hl => hide_cell (k3 q y hq (by omega)) (if_pos hl)
  have cg : Cells g (hide (fun y => if w1.heap.size ≤ y then none else some (0, 0)) w3) := fun q y hq => by
    obtain ⟨h1, h2, _⟩ := hg q y hq
    exact kk q y h1 h2
  refine ⟨_, hide (fun y => if w1.heap.size ≤ y then none else some (0, 0)) w3, rfl, RdN.mk' (n := .mk nd.tag nd.attrs nd.text (nd.kids.map F)) (ha.cells cg) ?_, e3, fun q y hq => ?_⟩
  · show KidsRd _ (nd.kids.map F) _
    obtain ⟨h1, h2 | ⟨gb, cap, cur, h8, h9, h10, h11, h12, h13, h14⟩⟩ := id hr
    · obtain ⟨h0, a0, h9⟩ := h2
      injection h9 with e1 e2 e3
      refine ⟨ak, ck, by rw [List.length_map], by rw [List.length_map]; omega, by omega, fun _ => ⟨by rw [List.length_map]; exact h0, e3⟩, fun a ha' j x hx' => ?_⟩
      have := (List.getElem?_eq_some_iff.1 hx').1
      rw [List.length_map] at this; omega
    · cases h8
      refine ⟨_, ck, by rw [List.length_map], by rw [List.length_map]; exact h11, h12, (fun e => by cases e), fun a ha' j x hx' => ?_⟩
      cases ha'
      rw [List.getElem?_map] at hx'
      obtain ⟨y, hy, rfl⟩ := Option.map_eq_some_iff.1 hx'
      obtain ⟨d0, d1, d2, d3, q0, q1, q2, q3, hq⟩ := hk j y (List.getElem?_eq_some_iff.1 hy).1 hy
      have cell : ∀ (m : Nat) z, xs[m]? = some z → (hide (fun y => if w1.heap.size ≤ y then none else some (0, 0)) w3).cell? (Addr.add ⟨gb, 0, none⟩ m) = some z := fun m z hz => by
        rw [Addr.add_lit, Nat.zero_add]
        refine kk ⟨gb, m, none⟩ z (cellOf h10 ?_) h9.1
        rw [← h14, List.getElem?_take] at hz
        split at hz
        · simpa using hz
        · cases hz
      exact ⟨d0, d1, d2, d3, cell _ _ q0, cell _ _ q1, cell _ _ q2, cell _ _ q3, hq.cells cg⟩
  · obtain ⟨h1, h2⟩ := hide_apart _ _ q y hq
    dsimp only at h2
    split at h2
    · rename_i h3
      exact ⟨h1, by omega⟩
    · cases h2
end Go.Proofs.Ytiglflmjidikpaa
