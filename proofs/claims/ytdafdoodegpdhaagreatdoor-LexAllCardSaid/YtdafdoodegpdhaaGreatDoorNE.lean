/- A row of tokens in new memory beside a row of bytes: what stays when either grows. No conditions. -/
import Derived.Test.YtdafdoodegpdhaaGreatDoorND
namespace Go.Proofs.YtdafdoodegpdhaaGreatDoor
open Go Go.RowKit Go.BigFrame
set_option linter.unusedVariables false
set_option linter.unusedSimpArgs false

/-- tokens from B on; the row's own block is gb; G (the bytes' block) is none of theirs -/
structure DL (B G : Nat) (L : List TkA) (lv : Value) (gb : Option Nat) (w : World) : Prop where
  row : RowP w (fun g => gb = some g ∧ B ≤ g ∧ g ≠ G) 30 7 lv L.length (tkCells L)
  blk : ∀ z, gb = some z → z < w.heap.size ∧ B ≤ z ∧ z ≠ G
  att : ∀ p ∈ L, RowP w (fun g => B ≤ g ∧ g ≠ G ∧ gb ≠ some g ∧ g < w.heap.size) 72 2 p.2 p.1.attrs.length (attrCells p.1.attrs)
section
variable {B G : Nat} {L : List TkA} {lv : Value} {gb : Option Nat} {w w' : World}
theorem DL.mv {S : Nat → Prop} (h : DL B G L lv gb w) (k : Mv S w w') (hS : ∀ g, S g → g = G ∨ g < B) : DL B G L lv gb w' :=
  ⟨h.row.mv k fun g hg hs => by rcases hS g hs with e | e; exact hg.2.2 e; have := hg.2.1; omega, fun z hz => ⟨Nat.lt_of_lt_of_le (h.blk z hz).1 k.size, (h.blk z hz).2⟩,
   fun p hp => RowP.imp ((h.att p hp).mv k fun g hg hs => by rcases hS g hs with e | e; exact hg.2.1 e; have := hg.1; omega) fun g _ hg => ⟨hg.1, hg.2.1, hg.2.2.1, Nat.lt_of_lt_of_le hg.2.2.2 k.size⟩⟩
theorem DL.ext (h : DL B G L lv gb w) (k : Ext w w') : DL B G L lv gb w' := h.mv (S := fun _ => False) (Mv.ofExt k) (fun _ h => h.elim)
/-- the bytes' block is another one, a new one -/
theorem DL.other (h : DL B G L lv gb w) {G' : Nat} (hG : G' = G ∨ w.heap.size ≤ G') : DL B G' L lv gb w := by
  rcases hG with rfl | hG
  · exact h
  refine ⟨RowP.imp h.row fun g _ hg => ⟨hg.1, hg.2.1, ?_⟩, fun z hz => ⟨(h.blk z hz).1, (h.blk z hz).2.1, ?_⟩, fun p hp => RowP.imp (h.att p hp) fun g _ hg => ⟨hg.1, ?_, hg.2.2⟩⟩
  · rintro rfl; have := (h.blk g hg.1).1; omega
  · rintro rfl; have := (h.blk z hz).1; omega
  · rintro rfl; have := hg.2.2.2; omega
/-- bytes are appended -/
theorem DL.oth (h : DL B G L lv gb w) {n c : Nat} {v' : Value} (ho : Oth (.slice (some ⟨G, 0, none⟩) n c) v' w w') {G' n' c' : Nat} (hv : v' = .slice (some ⟨G', 0, none⟩) n' c') : DL B G' L lv gb w' := by
  obtain ⟨h1, h2, h3⟩ := ho G n c rfl
  have hG := h3 G' n' c' hv
  have hd := h.other hG
  have keep : ∀ {p : Nat → Prop} {e size : Nat} {v : Value} {n : Nat} {xs : List Value}, RowP w p e size v n xs → (∀ g, p g → g ≠ G) → RowP w' p e size v n xs := by
    intro p e size v n xs hr hp
    refine ⟨hr.1, ?_⟩
    rcases hr.2 with h0 | ⟨g, cap, cur, e1, e2, e3, e4⟩
    · exact .inl h0
    · exact .inr ⟨g, cap, cur, e1, e2, by rw [h1 g (Array.getElem?_eq_some_iff.1 e3).1 (hp g e2)]; exact e3, e4⟩
  refine ⟨?_, fun z hz => ⟨Nat.lt_of_lt_of_le (h.blk z hz).1 h2, (h.blk z hz).2.1, (hd.blk z hz).2.2⟩, fun p hp => ?_⟩
  · have := keep (RowP.imp h.row (q := fun g => (gb = some g ∧ B ≤ g ∧ g ≠ G) ∧ g ≠ G') fun g _ hg => ⟨hg, (hd.blk g hg.1).2.2⟩) fun g hg => hg.1.2.2
    exact RowP.imp this fun g _ hg => ⟨hg.1.1, hg.1.2.1, hg.2⟩
  · have := keep (RowP.imp (h.att p hp) (q := fun g => (B ≤ g ∧ g ≠ G ∧ gb ≠ some g ∧ g < w.heap.size) ∧ g ≠ G') fun g _ hg => ⟨hg, by rintro rfl; rcases hG with e | e; exact hg.2.1 e; have := hg.2.2.2; omega⟩) fun g hg => hg.1.2.1
    exact RowP.imp this fun g _ hg => ⟨hg.1.1, hg.2, hg.1.2.2.1, by have := hg.1.2.2.2; omega⟩
/-- a token appended -/
theorem DL.push (h : DL B G L lv gb w) (hlen : L.length ≤ 1000000) (hG : G < w.heap.size) (hB : B ≤ w.heap.size) (p : TkA) (hone : p.2.oneCell' = true)
    (hav : RowP w (fun g => B ≤ g ∧ g ≠ G ∧ gb ≠ some g ∧ g < w.heap.size) 72 2 p.2 p.1.attrs.length (attrCells p.1.attrs)) {cs : Array Value} (hcs : cs.toList = tkC p) :
    ∃ (a : Option Addr) (cap : Nat) (wB : World), (Builtin.append_ #[23, 23] 23 #[lv, .slice (some ⟨w.heap.size, 0, none⟩) 1 1]).run Tryz.prog (w.alloc (.cells cs 30)) = .ok (.slice a (L.length + 1) cap) wB ∧
      Mv (fun g => gb = some g) w wB ∧ ∃ gb', DL B G (L ++ [p]) (.slice a (L.length + 1) cap) gb' wB ∧ ∀ g, gb' = some g → gb = some g ∨ w.heap.size ≤ g := by
  obtain ⟨i0, hi, hz0, hz1, hz2⟩ := info_parts infoTok
  have hxa := (Ext.refl w).alloc (.cells cs 30)
  have hA := h.ext hxa
  have hna := heap_alloc_new w (.cells cs 30)
  have hszA : (w.alloc (.cells cs 30)).heap.size = w.heap.size + 1 := by simp
  obtain ⟨v', wB, row, hrun, hr, hg, hrow⟩ := run_append_row (P := Tryz.prog) (w.alloc (.cells cs 30)) 23 23 30 i0 _ 7 88 Tryz.underlying23 hi hz0 hz1 hz2 (by kernel_rfl) (by decide)
    hA.row ⟨w.heap.size, 0, none⟩ 1 1 (tkC p) rfl (by
      intro j u hj
      rw [Addr.add_lit, Nat.zero_add]
      refine cellOf hna ?_
      rw [← Array.getElem?_toList, hcs]; exact hj) (tkC_one p hone) (by decide) (by unfold maxLen; omega) (by omega)
  obtain ⟨a, cap, e, _⟩ := hr.rd.len_of
  subst e
  have hmB : Mv (fun g => gb = some g) w wB := (Mv.ofExt hxa).grown hg fun k hk _ => (hrow k hk).1
  have hsw := hmB.size
  have hnew : ∀ g, (Value.slice a (L.length + 1) cap).ownBlock = some g → (gb = some g ∧ B ≤ g ∧ g ≠ G) ∨ (w.alloc (.cells cs 30)).heap.size ≤ g := by
    intro g hgo
    rcases hr.2 with ⟨h0, _⟩ | ⟨g', cap', cur, h1, h2, h3, _⟩
    · omega
    · rw [h1] at hgo
      cases hgo
      exact h2
  have hnew2 : ∀ g, (Value.slice a (L.length + 1) cap).ownBlock = some g → g < wB.heap.size := by
    intro g hgo
    rcases hr.2 with ⟨h0, _⟩ | ⟨g', cap', cur, h1, h2, h3, _⟩
    · omega
    · rw [h1] at hgo
      cases hgo
      exact (Array.getElem?_eq_some_iff.1 h3).1
  have hok : ∀ g, (Value.slice a (L.length + 1) cap).ownBlock = some g → B ≤ g ∧ g ≠ G := by
    intro g hgo
    rcases hnew g hgo with h1 | h1
    · exact h1.2
    · exact ⟨by omega, fun hn => by omega⟩
  refine ⟨a, cap, wB, hrun, hmB, (Value.slice a (L.length + 1) cap).ownBlock, ⟨?_, fun z hz => ⟨hnew2 z hz, hok z hz⟩, fun q hq => ?_⟩, fun g hgo => (hnew g hgo).imp And.left fun h => by omega⟩
  · rw [List.length_append, tkCells_append]
    have hr2 : RowP wB (fun g => (Value.slice a (L.length + 1) cap).ownBlock = some g ∧ B ≤ g ∧ g ≠ G) 30 7 (.slice a (L.length + 1) cap) (L.length + 1) (tkCells L ++ tkC p) := RowP.imp hr fun g hgo _ => ⟨hgo, hok g hgo⟩
    have e1 : tkCells [p] = tkC p := by show tkC p ++ [] = _; rw [List.append_nil]
    rw [e1]
    exact hr2
  · have hq0 : RowP w (fun g => B ≤ g ∧ g ≠ G ∧ gb ≠ some g ∧ g < w.heap.size) 72 2 q.2 q.1.attrs.length (attrCells q.1.attrs) := by
      rcases List.mem_append.1 hq with hq | hq
      · exact h.att q hq
      · have : q = p := by simpa using hq
        rw [this]; exact hav
    have h1 := hq0.mv hmB fun g hg2 e => hg2.2.2.1 e
    refine RowP.imp h1 fun g _ hg2 => ⟨hg2.1, hg2.2.1, fun hgo => ?_, by have := hg2.2.2.2; omega⟩
    rcases hnew g hgo with h3 | h3
    · exact hg2.2.2.1 h3.1
    · have := hg2.2.2.2; omega
theorem DL.rd (h : DL B G L lv gb w) : TkRd w lv (L.map Prod.fst) := ⟨L, rfl, RowP.imp h.row fun _ _ _ => trivial, fun p hp => (h.att p hp).rd⟩
end
/-- bytes, but for blocks that are none of theirs -/
theorem Buf.mv {W0 w w' : World} {S : Nat → Prop} {G n cap : Nat} {l : List UInt8} (h : Buf W0 (.slice (some ⟨G, 0, none⟩) n cap) l w) (k : Mv S w w') (hG : ¬ S G) (hS : ∀ g, S g → W0.heap.size ≤ g) : Buf W0 (.slice (some ⟨G, 0, none⟩) n cap) l w' := by
  obtain ⟨g, cap', cur, fz, h1, h2, h3, h4, h5, h6, h7, h8, h9, h10⟩ := h
  cases h1
  have hb : Mv (fun g => W0.heap.size ≤ g) W0 w' := Mv.over (S := fun g => W0.heap.size ≤ g) (⟨h9.os, h9.tape, h9.output, h10, fun x hx _ => h9.block x hx⟩) k fun x _ hx => hS x hx
  exact ⟨G, cap, cur, fz, rfl, h2, k.block h3 hG, h4, h5, h6, h7, h8, ⟨hb.os, hb.tape, hb.output, hb.size, fun x hx => hb.rest x hx (by omega)⟩, Nat.le_trans h10 k.size⟩
section
variable {ops : Array Oper} {rest : List Oper} {o : Oper} {a : Act} {Q : Exit → Act → World → Prop}
/-- one byte appended; the other blocks stay -/
theorem wpB_byte2 {w : World} (hgd : o.guard = none) (sl x : Operand) (ho : o.op = .call { callee := .builtin .append, args := #[sl, x], argTypes := #[42, 42] })
    (v : Value) (l : List UInt8) (hs : a.eval sl = v) (W0 : World) (hb : Buf W0 v l w) (c : UInt8) (z : Int) (hz : z = (c.toNat : Int)) (hx : a.eval x = .slice (some ⟨w.heap.size, 0, none⟩) 1 1) (hlen : l.length + 1 ≤ 140737488355328)
    (h : ∀ v' w', Buf W0 v' (l ++ [c]) w' → Oth v v' (w.alloc (.cells #[.int .u8 z] 5)) w' → wpList Tryz.prog ops Q rest (a.put o.dst v') w') : wpList Tryz.prog ops Q (o :: rest) a (w.alloc (.cells #[.int .u8 z] 5)) := by
  subst hz
  have hna := heap_alloc_new w (.cells #[.int .u8 (c.toNat : Int)] 5)
  refine wpList_plain hgd fun K hK => ?_
  obtain ⟨v', w', hr, hb', ho'⟩ := run_buf2 (hb.ext ((Ext.refl w).alloc (.cells #[.int .u8 (c.toNat : Int)] 5))) (x := .slice (some ⟨w.heap.size, 0, none⟩) 1 1) (l2 := [c]) o.type (by
    refine Src.ofSlice _ Tryz.underlying42 ⟨w.heap.size, 0, none⟩ 1 1 (Lib.byteCells [c]) rfl ?_ ?_
    · intro j u hj
      rw [Addr.add_lit, Nat.zero_add]
      exact cellOf hna (by simpa [Lib.byteCells] using hj)
    · intro u hu
      simp only [Lib.byteCells, List.mem_map] at hu
      obtain ⟨c', _, rfl⟩ := hu
      rfl) hlen
  unfold Oper.wp execOp
  simp only [ho, resolve, invoke, builtin, Sem.run_bind, Sem.run_pure, Result.andThen_ok, List.map_toArray, List.map_cons, List.map_nil, hs, hx, hr]
  exact hK _ _ (h v' w' hb' ho')
end
end Go.Proofs.YtdafdoodegpdhaaGreatDoor
