/- A row of tokens in new memory, in a box: cells, writes, appends. No conditions. -/
import Derived.Test.YtdafdoodegpdhaaDoorLV
namespace Go.Proofs.YtdafdoodegpdhaaDoor
open Go Go.RowKit Go.BigFrame We
set_option linter.unusedVariables false
set_option linter.unusedSimpArgs false

abbrev TkA := Tk × Value
def selfZ (b : Bool) : Int := if b then 1 else 0
def tkC (p : TkA) : List Value := [.int .i64 p.1.kind, .string (bs p.1.name), .string (bs p.1.text), p.2, .int .i64 (selfZ p.1.self), .int .i64 (p.1.lo : Int), .int .i64 (p.1.hi : Int)]
theorem tkC_len (p : TkA) : (tkC p).length = 7 := rfl
def tkCells (L : List TkA) : List Value := L.flatMap tkC
theorem tkCells_len (L : List TkA) : (tkCells L).length = L.length * 7 := by
  induction L with
  | nil => rfl
  | cons p L ih =>
    show (tkC p ++ tkCells L).length = _
    rw [List.length_append, ih, tkC_len, List.length_cons]
    omega
theorem tkCells_append (a b : List TkA) : tkCells (a ++ b) = tkCells a ++ tkCells b := List.flatMap_append
theorem tkCells_get {L : List TkA} {i f : Nat} {p : TkA} {v : Value} (h : L[i]? = some p) (hv : (tkC p)[f]? = some v) : (tkCells L)[i * 7 + f]? = some v := by
  have hf := (List.getElem?_eq_some_iff.1 hv).1
  rw [tkC_len] at hf
  induction L generalizing i with
  | nil => cases h
  | cons q L ih =>
    show (tkC q ++ tkCells L)[i * 7 + f]? = _
    cases i with
    | zero =>
      have : q = p := by simpa using h
      subst this
      rw [Nat.zero_mul, Nat.zero_add, List.getElem?_append_left (by rw [tkC_len]; exact hf)]
      exact hv
    | succ i =>
      rw [List.getElem?_append_right (by rw [tkC_len]; omega), tkC_len, show (i + 1) * 7 + f - 7 = i * 7 + f by omega]
      exact ih (by simpa using h)
theorem tkCells_set {L : List TkA} {i f : Nat} {p p' : TkA} {v : Value} (h : L[i]? = some p) (hf : f < 7) (hv : (tkC p).set f v = tkC p') : (tkCells L).set (i * 7 + f) v = tkCells (L.set i p') := by
  induction L generalizing i with
  | nil => cases h
  | cons q L ih =>
    cases i with
    | zero =>
      have : q = p := by simpa using h
      subst this
      show (tkC q ++ tkCells L).set (0 * 7 + f) v = tkC p' ++ tkCells L
      rw [Nat.zero_mul, Nat.zero_add, List.set_append_left _ _ (by rw [tkC_len]; exact hf), hv]
    | succ i =>
      show (tkC q ++ tkCells L).set ((i + 1) * 7 + f) v = tkC q ++ tkCells (L.set i p')
      rw [List.set_append_right _ _ (by rw [tkC_len]; omega), tkC_len, show (i + 1) * 7 + f - 7 = i * 7 + f by omega, ih (by simpa using h)]
/-- tokens in a box at lb: the row's own block is gb; attributes lie apart; N: blocks that are none of these -/
structure TL (B : Nat) (N : Nat → Prop) (lb : Nat) (L : List TkA) (lv : Value) (gb : Option Nat) (w : World) : Prop where
  box : w.heap[lb]? = some (.cells #[lv] 35 (0, 0))
  row : RowP w (fun g => gb = some g ∧ B ≤ g ∧ ¬ N g) 40 7 lv L.length (tkCells L)
  blk : ∀ z, gb = some z → z < w.heap.size ∧ B ≤ z ∧ ¬ N z
  att : ∀ p ∈ L, RowP w (fun g => B ≤ g ∧ ¬ N g ∧ gb ≠ some g ∧ g < w.heap.size) 55 2 p.2 p.1.attrs.length (attrCells p.1.attrs)
section
variable {B lb : Nat} {N : Nat → Prop} {L : List TkA} {lv : Value} {gb : Option Nat} {w w' : World}
theorem TL.mv {S : Nat → Prop} (h : TL B N lb L lv gb w) (k : Mv S w w') (hS : ∀ g, S g → N g) (hl : ¬ S lb) : TL B N lb L lv gb w' :=
  ⟨k.block h.box hl, h.row.mv k fun g hg hs => hg.2.2 (hS g hs), fun z hz => ⟨Nat.lt_of_lt_of_le (h.blk z hz).1 k.size, (h.blk z hz).2⟩,
   fun p hp => RowP.imp ((h.att p hp).mv k fun g hg hs => hg.2.1 (hS g hs)) fun g _ hg => ⟨hg.1, hg.2.1, hg.2.2.1, Nat.lt_of_lt_of_le hg.2.2.2 k.size⟩⟩
theorem TL.ext (h : TL B N lb L lv gb w) (k : Ext w w') : TL B N lb L lv gb w' := h.mv (S := fun _ => False) (Mv.ofExt k) (fun _ h => h.elim) id
/-- there is a token: the row's block -/
theorem TL.some_ (h : TL B N lb L lv gb w) (hL : 0 < L.length) : ∃ g cap cur, gb = some g ∧ B ≤ g ∧ ¬ N g ∧ lv = .slice (some ⟨g, 0, none⟩) L.length cap ∧ w.heap[g]? = some (.cells cur 40 (0, 0)) ∧ L.length ≤ cap ∧ cap ≤ maxLen ∧ cur.size = cap * 7 ∧ cur.toList.take (L.length * 7) = tkCells L := by
  rcases h.row.2 with ⟨h0, _⟩ | ⟨g, cap, cur, h1, h2, h3, h4, h5, h6, h7⟩
  · omega
  · exact ⟨g, cap, cur, h2.1, h2.2.1, h2.2.2, h1, h3, h4, h5, h6, h7⟩
theorem row_cell {g : Nat} {cur : Array Value} {T : TypeId} {n : Nat} (h3 : w.heap[g]? = some (.cells cur T (0, 0))) (h7 : cur.toList.take (n * 7) = tkCells L) {i f : Nat} {p : TkA} {v : Value} (hp : L[i]? = some p) (hv : (tkC p)[f]? = some v) :
    w.cell? ⟨g, i * 7 + f, none⟩ = some v := by
  refine cellOf h3 ?_
  have h := tkCells_get hp hv
  rw [← h7, List.getElem?_take] at h
  split at h
  · rw [← Array.getElem?_toList]; exact h
  · cases h
/-- a cell of a token is written -/
theorem TL.set (h : TL B N lb L lv gb w) {i f : Nat} {p p' : TkA} {v : Value} (hp : L[i]? = some p) (hf : f < 7) (hv : (tkC p).set f v = tkC p') (h2 : p'.2 = p.2) (ha : p'.1.attrs = p.1.attrs) (hN : N lb) {g : Nat} (hg : gb = some g) :
    TL B N lb (L.set i p') lv gb (w.setCell ⟨g, i * 7 + f, none⟩ v) := by
  have hi := (List.getElem?_eq_some_iff.1 hp).1
  obtain ⟨g', cap, cur, e1, e2, e3, e4, e5, e6, e7, e8, e9⟩ := h.some_ (by omega)
  rw [hg] at e1
  cases e1
  have hm : Mv (fun x => x = g) w (w.setCell ⟨g, i * 7 + f, none⟩ v) := Mv.setRb (Mv.refl _ w) v
  have hbox : (w.setCell ⟨g, i * 7 + f, none⟩ v).heap[lb]? = _ := hm.block h.box (fun e => e3 (by rw [← (show lb = g from e)]; exact hN))
  refine ⟨hbox, ?_, fun z hz => ⟨Nat.lt_of_lt_of_le (h.blk z hz).1 hm.size, (h.blk z hz).2⟩, fun q hq => ?_⟩
  · refine ⟨?_, .inr ⟨g, cap, _, by rw [List.length_set]; exact e4, ⟨hg, e2, e3⟩, heap_setCell_same e5 v, by rw [List.length_set]; exact e6, e7, by simpa using e8, ?_⟩⟩
    · rw [tkCells_len]
    · rw [Array.toList_setIfInBounds, List.length_set, List.take_set, e9, tkCells_set hp hf hv]
  · have key : ∀ q0 ∈ L, RowP (w.setCell ⟨g, i * 7 + f, none⟩ v) (fun x => B ≤ x ∧ ¬ N x ∧ gb ≠ some x ∧ x < (w.setCell ⟨g, i * 7 + f, none⟩ v).heap.size) 55 2 q0.2 q0.1.attrs.length (attrCells q0.1.attrs) := fun q0 hq0 =>
      RowP.imp ((h.att q0 hq0).mv hm fun x hx hs => hx.2.2.1 (by rw [hg, hs])) fun x _ hx => ⟨hx.1, hx.2.1, hx.2.2.1, Nat.lt_of_lt_of_le hx.2.2.2 hm.size⟩
    rcases List.mem_or_eq_of_mem_set hq with hq | rfl
    · exact key q hq
    · rw [h2, ha]; exact key p (List.mem_of_getElem? hp)
theorem infoTok : (Tryd.prog.info? 40).map (fun i => (i.zero, i.size, i.bytes)) = some (some (.agg #[.int .i64 0, .string ByteArray.empty, .string ByteArray.empty, .slice none 0 0, .int .i64 0, .int .i64 0, .int .i64 0]), 7, 88) := by kernel_rfl
theorem tkC_one (p : TkA) (h : p.2.oneCell' = true) : ∀ u ∈ tkC p, u.oneCell' = true := by
  intro u hu
  unfold tkC at hu
  simp only [List.mem_cons, List.not_mem_nil, or_false] at hu
  rcases hu with rfl | rfl | rfl | rfl | rfl | rfl | rfl <;> first | rfl | exact h
/-- a token appended, and the box written -/
theorem TL.push (h : TL B N lb L lv gb w) (hlen : L.length ≤ 1000000) (hN : ∀ g, N g → g < w.heap.size) (hNl : N lb) (hB : B ≤ w.heap.size) (p : TkA) (hone : p.2.oneCell' = true)
    (hav : RowP w (fun g => B ≤ g ∧ ¬ N g ∧ gb ≠ some g ∧ g < w.heap.size) 55 2 p.2 p.1.attrs.length (attrCells p.1.attrs)) {cs : Array Value} (hcs : cs.toList = tkC p) :
    ∃ (a : Option Addr) (cap : Nat) (wB : World), (Builtin.append_ #[35, 35] 35 #[lv, .slice (some ⟨w.heap.size, 0, none⟩) 1 1]).run Tryd.prog (w.alloc (.cells cs 40)) = .ok (.slice a (L.length + 1) cap) wB ∧
      wB.heap[lb]? = some (.cells #[lv] 35 (0, 0)) ∧ Mv (fun g => gb = some g) w wB ∧
      ∃ gb', TL B N lb (L ++ [p]) (.slice a (L.length + 1) cap) gb' (wB.setCell ⟨lb, 0, none⟩ (.slice a (L.length + 1) cap)) := by
  obtain ⟨i0, hi, hz0, hz1, hz2⟩ := info_parts infoTok
  have hxa := (Ext.refl w).alloc (.cells cs 40)
  have hA := h.ext hxa
  have hna := heap_alloc_new w (.cells cs 40)
  have hszA : (w.alloc (.cells cs 40)).heap.size = w.heap.size + 1 := by simp
  obtain ⟨v', wB, row, hrun, hr, hg, hrow⟩ := run_append_row (P := Tryd.prog) (w.alloc (.cells cs 40)) 35 35 40 i0 _ 7 88 Tryd.underlying35 hi hz0 hz1 hz2 (by kernel_rfl) (by decide)
    hA.row ⟨w.heap.size, 0, none⟩ 1 1 (tkC p) rfl (by
      intro j u hj
      rw [Addr.add_lit, Nat.zero_add]
      refine cellOf hna ?_
      rw [← Array.getElem?_toList, hcs]; exact hj) (tkC_one p hone) (by decide) (by unfold maxLen; omega) (by omega)
  obtain ⟨a, cap, e, _⟩ := hr.rd.len_of
  subst e
  have hmB : Mv (fun g => gb = some g) w wB := (Mv.ofExt hxa).grown hg fun k hk _ => (hrow k hk).1
  have hboxB : wB.heap[lb]? = some (.cells #[lv] 35 (0, 0)) := hmB.block h.box fun e => (h.blk lb e).2.2 hNl
  have hmL : Mv (fun x => x = lb) wB (wB.setCell ⟨lb, 0, none⟩ (.slice a (L.length + 1) cap)) := Mv.setRb (Mv.refl _ wB) _
  have hsw := hmB.size
  have hnew : ∀ g, (Value.slice a (L.length + 1) cap).ownBlock = some g → (gb = some g ∧ B ≤ g ∧ ¬ N g) ∨ (w.alloc (.cells cs 40)).heap.size ≤ g := by
    intro g hgo
    rcases hr.2 with ⟨h0, _⟩ | ⟨g', cap', cur, h1, h2, h3, _⟩
    · omega
    · rw [h1] at hgo
      cases hgo
      exact h2
  have hnew2 : ∀ g, (Value.slice a (L.length + 1) cap).ownBlock = some g → g < wB.heap.size := by
    intro g hgo
    rcases hr.2 with ⟨h0, _⟩ | ⟨g', cap', cur, h1, h2, h3, _⟩
    · omega
    · rw [h1] at hgo
      cases hgo
      exact (Array.getElem?_eq_some_iff.1 h3).1
  have hok : ∀ g, (Value.slice a (L.length + 1) cap).ownBlock = some g → B ≤ g ∧ ¬ N g := by
    intro g hgo
    rcases hnew g hgo with h1 | h1
    · exact h1.2
    · exact ⟨by omega, fun hn => by have := hN g hn; omega⟩
  refine ⟨a, cap, wB, hrun, hboxB, hmB, (Value.slice a (L.length + 1) cap).ownBlock, ⟨heap_setCell_same hboxB _, ?_, fun z hz => ⟨Nat.lt_of_lt_of_le (hnew2 z hz) hmL.size, hok z hz⟩, fun q hq => ?_⟩⟩
  · rw [List.length_append, tkCells_append]
    have hr2 : RowP wB (fun g => (Value.slice a (L.length + 1) cap).ownBlock = some g ∧ B ≤ g ∧ ¬ N g) 40 7 (.slice a (L.length + 1) cap) (L.length + 1) (tkCells L ++ tkC p) := RowP.imp hr fun g hgo _ => ⟨hgo, hok g hgo⟩
    have hr3 := hr2.mv hmL fun g hg2 e => hg2.2.2 (by rw [(show g = lb from e)]; exact hNl)
    have e1 : tkCells [p] = tkC p := by show tkC p ++ [] = _; rw [List.append_nil]
    rw [e1]
    exact hr3
  · have hq0 : RowP w (fun g => B ≤ g ∧ ¬ N g ∧ gb ≠ some g ∧ g < w.heap.size) 55 2 q.2 q.1.attrs.length (attrCells q.1.attrs) := by
      rcases List.mem_append.1 hq with hq | hq
      · exact h.att q hq
      · have : q = p := by simpa using hq
        rw [this]; exact hav
    have h1 := hq0.mv hmB fun g hg2 e => hg2.2.2.1 e
    have h2 := h1.mv hmL fun g hg2 e => hg2.2.1 (by rw [(show g = lb from e)]; exact hNl)
    refine RowP.imp h2 fun g _ hg2 => ⟨hg2.1, hg2.2.1, fun hgo => ?_, by have := hg2.2.2.2; have := hmL.size; omega⟩
    rcases hnew g hgo with h3 | h3
    · exact hg2.2.2.1 h3.1
    · have := hg2.2.2.2; omega
end
end Go.Proofs.YtdafdoodegpdhaaDoor
