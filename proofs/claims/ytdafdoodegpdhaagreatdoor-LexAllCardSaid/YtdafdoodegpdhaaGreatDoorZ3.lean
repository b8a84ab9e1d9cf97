/- what of LZ MA MB MC MD this seat can say -/
import Derived.Test.YtdafdoodegpdhaaGreatDoorZ2
namespace Go.Proofs.YtdafdoodegpdhaaGreatDoor
open Go Go.RowKit Go.BigFrame We
set_option linter.unusedVariables false
set_option linter.unusedSimpArgs false

abbrev TkA := Tk × Value
def selfZ (b : Bool) : Int := if b then 1 else 0
def tkC (p : TkA) : List Value := [.int .i64 p.1.kind, .string (bs p.1.name), .string (bs p.1.text), p.2, .int .i64 (selfZ p.1.self), .int .i64 (p.1.lo : Int), .int .i64 (p.1.hi : Int)]
theorem tkC_len (p : TkA) : (tkC p).length = 7 := rfl
def tkCells (L : List TkA) : List Value := L.flatMap tkC
theorem tkCells_len (L : List TkA) : (tkCells L).length = L.length * 7 := by
  induction L with
  | nil => rfl
  | cons p L ih =>
    show (tkC p ++ tkCells L).length = _
    rw [List.length_append, ih, tkC_len, List.length_cons]
    omega
theorem tkCells_append (a b : List TkA) : tkCells (a ++ b) = tkCells a ++ tkCells b := List.flatMap_append
theorem tkCells_get {L : List TkA} {i f : Nat} {p : TkA} {v : Value} (h : L[i]? = some p) (hv : (tkC p)[f]? = some v) : (tkCells L)[i * 7 + f]? = some v := by
  have hf := (List.getElem?_eq_some_iff.1 hv).1
  rw [tkC_len] at hf
  induction L generalizing i with
  | nil => cases h
  | cons q L ih =>
    show (tkC q ++ tkCells L)[i * 7 + f]? = _
    cases i with
    | zero =>
      have : q = p := by simpa using h
      subst this
      rw [Nat.zero_mul, Nat.zero_add, List.getElem?_append_left (by rw [tkC_len]; exact hf)]
      exact hv
    | succ i =>
      rw [List.getElem?_append_right (by rw [tkC_len]; omega), tkC_len, show (i + 1) * 7 + f - 7 = i * 7 + f by omega]
      exact ih (by simpa using h)
theorem tkCells_set {L : List TkA} {i f : Nat} {p p' : TkA} {v : Value} (h : L[i]? = some p) (hf : f < 7) (hv : (tkC p).set f v = tkC p') : (tkCells L).set (i * 7 + f) v = tkCells (L.set i p') := by
  induction L generalizing i with
  | nil => cases h
  | cons q L ih =>
    cases i with
    | zero =>
      have : q = p := by simpa using h
      subst this
      show (tkC q ++ tkCells L).set (0 * 7 + f) v = tkC p' ++ tkCells L
      rw [Nat.zero_mul, Nat.zero_add, List.set_append_left _ _ (by rw [tkC_len]; exact hf), hv]
    | succ i =>
      show (tkC q ++ tkCells L).set ((i + 1) * 7 + f) v = tkC q ++ tkCells (L.set i p')
      rw [List.set_append_right _ _ (by rw [tkC_len]; omega), tkC_len, show (i + 1) * 7 + f - 7 = i * 7 + f by omega, ih (by simpa using h)]
/-- tokens in a box at lb: the row's own block is gb; attributes lie apart; N: blocks that are none of these -/
structure TL (B : Nat) (N : Nat → Prop) (lb : Nat) (L : List TkA) (lv : Value) (gb : Option Nat) (w : World) : Prop where
  box : w.heap[lb]? = some (.cells #[lv] 23 (0, 0))
  row : RowP w (fun g => gb = some g ∧ B ≤ g ∧ ¬ N g) 30 7 lv L.length (tkCells L)
  blk : ∀ z, gb = some z → z < w.heap.size ∧ B ≤ z ∧ ¬ N z
  att : ∀ p ∈ L, RowP w (fun g => B ≤ g ∧ ¬ N g ∧ gb ≠ some g ∧ g < w.heap.size) 72 2 p.2 p.1.attrs.length (attrCells p.1.attrs)
section
variable {B lb : Nat} {N : Nat → Prop} {L : List TkA} {lv : Value} {gb : Option Nat} {w w' : World}
theorem TL.mv {S : Nat → Prop} (h : TL B N lb L lv gb w) (k : Mv S w w') (hS : ∀ g, S g → N g) (hl : ¬ S lb) : TL B N lb L lv gb w' :=
  ⟨k.block h.box hl, h.row.mv k fun g hg hs => hg.2.2 (hS g hs), fun z hz => ⟨Nat.lt_of_lt_of_le (h.blk z hz).1 k.size, (h.blk z hz).2⟩,
   fun p hp => RowP.imp ((h.att p hp).mv k fun g hg hs => hg.2.1 (hS g hs)) fun g _ hg => ⟨hg.1, hg.2.1, hg.2.2.1, Nat.lt_of_lt_of_le hg.2.2.2 k.size⟩⟩
theorem TL.ext (h : TL B N lb L lv gb w) (k : Ext w w') : TL B N lb L lv gb w' := h.mv (S := fun _ => False) (Mv.ofExt k) (fun _ h => h.elim) id
/-- there is a token: the row's block -/
theorem TL.some_ (h : TL B N lb L lv gb w) (hL : 0 < L.length) : ∃ g cap cur, gb = some g ∧ B ≤ g ∧ ¬ N g ∧ lv = .slice (some ⟨g, 0, none⟩) L.length cap ∧ w.heap[g]? = some (.cells cur 30 (0, 0)) ∧ L.length ≤ cap ∧ cap ≤ maxLen ∧ cur.size = cap * 7 ∧ cur.toList.take (L.length * 7) = tkCells L := by
  rcases h.row.2 with ⟨h0, _⟩ | ⟨g, cap, cur, h1, h2, h3, h4, h5, h6, h7⟩
  · omega
  · exact ⟨g, cap, cur, h2.1, h2.2.1, h2.2.2, h1, h3, h4, h5, h6, h7⟩
theorem row_cell {g : Nat} {cur : Array Value} {T : TypeId} {n : Nat} (h3 : w.heap[g]? = some (.cells cur T (0, 0))) (h7 : cur.toList.take (n * 7) = tkCells L) {i f : Nat} {p : TkA} {v : Value} (hp : L[i]? = some p) (hv : (tkC p)[f]? = some v) :
    w.cell? ⟨g, i * 7 + f, none⟩ = some v := by
  refine cellOf h3 ?_
  have h := tkCells_get hp hv
  rw [← h7, List.getElem?_take] at h
  split at h
  · rw [← Array.getElem?_toList]; exact h
  · cases h
/-- a cell of a token is written -/
theorem TL.set (h : TL B N lb L lv gb w) {i f : Nat} {p p' : TkA} {v : Value} (hp : L[i]? = some p) (hf : f < 7) (hv : (tkC p).set f v = tkC p') (h2 : p'.2 = p.2) (ha : p'.1.attrs = p.1.attrs) (hN : N lb) {g : Nat} (hg : gb = some g) :
    TL B N lb (L.set i p') lv gb (w.setCell ⟨g, i * 7 + f, none⟩ v) := by
  have hi := (List.getElem?_eq_some_iff.1 hp).1
  obtain ⟨g', cap, cur, e1, e2, e3, e4, e5, e6, e7, e8, e9⟩ := h.some_ (by omega)
  rw [hg] at e1
  cases e1
  have hm : Mv (fun x => x = g) w (w.setCell ⟨g, i * 7 + f, none⟩ v) := Mv.setRb (Mv.refl _ w) v
  have hbox : (w.setCell ⟨g, i * 7 + f, none⟩ v).heap[lb]? = _ := hm.block h.box (fun e => e3 (by rw [← (show lb = g from e)]; exact hN))
  refine ⟨hbox, ?_, fun z hz => ⟨Nat.lt_of_lt_of_le (h.blk z hz).1 hm.size, (h.blk z hz).2⟩, fun q hq => ?_⟩
  · refine ⟨?_, .inr ⟨g, cap, _, by rw [List.length_set]; exact e4, ⟨hg, e2, e3⟩, heap_setCell_same e5 v, by rw [List.length_set]; exact e6, e7, by simpa using e8, ?_⟩⟩
    · rw [tkCells_len]
    · rw [Array.toList_setIfInBounds, List.length_set, List.take_set, e9, tkCells_set hp hf hv]
  · have key : ∀ q0 ∈ L, RowP (w.setCell ⟨g, i * 7 + f, none⟩ v) (fun x => B ≤ x ∧ ¬ N x ∧ gb ≠ some x ∧ x < (w.setCell ⟨g, i * 7 + f, none⟩ v).heap.size) 72 2 q0.2 q0.1.attrs.length (attrCells q0.1.attrs) := fun q0 hq0 =>
      RowP.imp ((h.att q0 hq0).mv hm fun x hx hs => hx.2.2.1 (by rw [hg, hs])) fun x _ hx => ⟨hx.1, hx.2.1, hx.2.2.1, Nat.lt_of_lt_of_le hx.2.2.2 hm.size⟩
    rcases List.mem_or_eq_of_mem_set hq with hq | rfl
    · exact key q hq
    · rw [h2, ha]; exact key p (List.mem_of_getElem? hp)
theorem infoTok : (Tryz.prog.info? 30).map (fun i => (i.zero, i.size, i.bytes)) = some (some (.agg #[.int .i64 0, .string ByteArray.empty, .string ByteArray.empty, .slice none 0 0, .int .i64 0, .int .i64 0, .int .i64 0]), 7, 88) := by kernel_rfl
theorem tkC_one (p : TkA) (h : p.2.oneCell' = true) : ∀ u ∈ tkC p, u.oneCell' = true := by
  intro u hu
  unfold tkC at hu
  simp only [List.mem_cons, List.not_mem_nil, or_false] at hu
  rcases hu with rfl | rfl | rfl | rfl | rfl | rfl | rfl <;> first | rfl | exact h
/-- a token appended, and the box written -/
theorem TL.push (h : TL B N lb L lv gb w) (hlen : L.length ≤ 1000000) (hN : ∀ g, N g → g < w.heap.size) (hNl : N lb) (hB : B ≤ w.heap.size) (p : TkA) (hone : p.2.oneCell' = true)
    (hav : RowP w (fun g => B ≤ g ∧ ¬ N g ∧ gb ≠ some g ∧ g < w.heap.size) 72 2 p.2 p.1.attrs.length (attrCells p.1.attrs)) {cs : Array Value} (hcs : cs.toList = tkC p) :
    ∃ (a : Option Addr) (cap : Nat) (wB : World), (Builtin.append_ #[23, 23] 23 #[lv, .slice (some ⟨w.heap.size, 0, none⟩) 1 1]).run Tryz.prog (w.alloc (.cells cs 30)) = .ok (.slice a (L.length + 1) cap) wB ∧
      wB.heap[lb]? = some (.cells #[lv] 23 (0, 0)) ∧ Mv (fun g => gb = some g) w wB ∧
      ∃ gb', TL B N lb (L ++ [p]) (.slice a (L.length + 1) cap) gb' (wB.setCell ⟨lb, 0, none⟩ (.slice a (L.length + 1) cap)) := by
  obtain ⟨i0, hi, hz0, hz1, hz2⟩ := info_parts infoTok
  have hxa := (Ext.refl w).alloc (.cells cs 30)
  have hA := h.ext hxa
  have hna := heap_alloc_new w (.cells cs 30)
  have hszA : (w.alloc (.cells cs 30)).heap.size = w.heap.size + 1 := by simp
  obtain ⟨v', wB, row, hrun, hr, hg, hrow⟩ := run_append_row (P := Tryz.prog) (w.alloc (.cells cs 30)) 23 23 30 i0 _ 7 88 Tryz.underlying23 hi hz0 hz1 hz2 (by kernel_rfl) (by decide)
    hA.row ⟨w.heap.size, 0, none⟩ 1 1 (tkC p) rfl (by
      intro j u hj
      rw [Addr.add_lit, Nat.zero_add]
      refine cellOf hna ?_
      rw [← Array.getElem?_toList, hcs]; exact hj) (tkC_one p hone) (by decide) (by unfold maxLen; omega) (by omega)
  obtain ⟨a, cap, e, _⟩ := hr.rd.len_of
  subst e
  have hmB : Mv (fun g => gb = some g) w wB := (Mv.ofExt hxa).grown hg fun k hk _ => (hrow k hk).1
  have hboxB : wB.heap[lb]? = some (.cells #[lv] 23 (0, 0)) := hmB.block h.box fun e => (h.blk lb e).2.2 hNl
  have hmL : Mv (fun x => x = lb) wB (wB.setCell ⟨lb, 0, none⟩ (.slice a (L.length + 1) cap)) := Mv.setRb (Mv.refl _ wB) _
  have hsw := hmB.size
  have hnew : ∀ g, (Value.slice a (L.length + 1) cap).ownBlock = some g → (gb = some g ∧ B ≤ g ∧ ¬ N g) ∨ (w.alloc (.cells cs 30)).heap.size ≤ g := by
    intro g hgo
    rcases hr.2 with ⟨h0, _⟩ | ⟨g', cap', cur, h1, h2, h3, _⟩
    · omega
    · rw [h1] at hgo
      cases hgo
      exact h2
  have hnew2 : ∀ g, (Value.slice a (L.length + 1) cap).ownBlock = some g → g < wB.heap.size := by
    intro g hgo
    rcases hr.2 with ⟨h0, _⟩ | ⟨g', cap', cur, h1, h2, h3, _⟩
    · omega
    · rw [h1] at hgo
      cases hgo
      exact (Array.getElem?_eq_some_iff.1 h3).1
  have hok : ∀ g, (Value.slice a (L.length + 1) cap).ownBlock = some g → B ≤ g ∧ ¬ N g := by
    intro g hgo
    rcases hnew g hgo with h1 | h1
    · exact h1.2
    · exact ⟨by omega, fun hn => by have := hN g hn; omega⟩
  refine ⟨a, cap, wB, hrun, hboxB, hmB, (Value.slice a (L.length + 1) cap).ownBlock, ⟨heap_setCell_same hboxB _, ?_, fun z hz => ⟨Nat.lt_of_lt_of_le (hnew2 z hz) hmL.size, hok z hz⟩, fun q hq => ?_⟩⟩
  · rw [List.length_append, tkCells_append]
    have hr2 : RowP wB (fun g => (Value.slice a (L.length + 1) cap).ownBlock = some g ∧ B ≤ g ∧ ¬ N g) 30 7 (.slice a (L.length + 1) cap) (L.length + 1) (tkCells L ++ tkC p) := RowP.imp hr fun g hgo _ => ⟨hgo, hok g hgo⟩
    have hr3 := hr2.mv hmL fun g hg2 e => hg2.2.2 (by rw [(show g = lb from e)]; exact hNl)
    have e1 : tkCells [p] = tkC p := by show tkC p ++ [] = _; rw [List.append_nil]
    rw [e1]
    exact hr3
  · have hq0 : RowP w (fun g => B ≤ g ∧ ¬ N g ∧ gb ≠ some g ∧ g < w.heap.size) 72 2 q.2 q.1.attrs.length (attrCells q.1.attrs) := by
      rcases List.mem_append.1 hq with hq | hq
      · exact h.att q hq
      · have : q = p := by simpa using hq
        rw [this]; exact hav
    have h1 := hq0.mv hmB fun g hg2 e => hg2.2.2.1 e
    have h2 := h1.mv hmL fun g hg2 e => hg2.2.1 (by rw [(show g = lb from e)]; exact hNl)
    refine RowP.imp h2 fun g _ hg2 => ⟨hg2.1, hg2.2.1, fun hgo => ?_, by have := hg2.2.2.2; have := hmL.size; omega⟩
    rcases hnew g hgo with h3 | h3
    · exact hg2.2.2.1 h3.1
    · have := hg2.2.2.2; omega
end
end Go.Proofs.YtdafdoodegpdhaaGreatDoor

namespace Go.Proofs.YtdafdoodegpdhaaGreatDoor
open Go Go.RowKit Go.BigFrame We
set_option linter.unusedVariables false
set_option linter.unusedSimpArgs false

def Nb (lb ob sb rb : Nat) : Nat → Prop := fun g => g = lb ∨ g = ob ∨ g = sb ∨ g = rb
/-- what lex.All keeps: tokens, whether a text is open, the text -/
structure AS (B lb ob sb rb : Nat) (s : ByteArray) (op : Bool) (L : List TkA) (w : World) : Prop where
  tl : ∃ lv gb, TL B (Nb lb ob sb rb) lb L lv gb w
  ob : w.heap[ob]? = some (.cells #[.bool op] 4 (0, 0))
  sb : w.heap[sb]? = some (.cells #[.string s] 9 (0, 0))
structure Dist (B lb ob sb rb : Nat) : Prop where
  b : B ≤ sb
  sl : sb < lb
  lr : lb < rb
  ro : rb < ob
/-- what is changed: new memory, but for the reader and the text -/
abbrev Ch (B rb sb : Nat) : Nat → Prop := fun g => B ≤ g ∧ g ≠ rb ∧ g ≠ sb
def RText (B lb ob sb rb : Nat) (s : ByteArray) (L : List TkA) (w : World) (e : Ending) (w' : World) : Prop := e = .returned (.tuple #[]) ∧ AS B lb ob sb rb s true L w' ∧ Mv (Ch B rb sb) w w'
/-- a piece of text, at a text's end -/
def Tk.more (t : Tk) (pc : List UInt8) (hi : Nat) : Tk := { t with text := t.text ++ pc, hi := hi }
theorem snoc_get (D : List TkA) (p : TkA) : (D ++ [p])[D.length]? = some p := by simp
theorem snoc_set (D : List TkA) (p q : TkA) : (D ++ [p]).set D.length q = D ++ [q] := by simp
set_option maxHeartbeats 2000000 in
set_option maxRecDepth 100000 in
theorem text_more (B lb ob sb rb : Nat) (s : ByteArray) (D : List TkA) (p : TkA) (w : World) (hs : s.size ≤ 1000000) (hD : D.length ≤ 1000000) (hd : Dist B lb ob sb rb) (h : AS B lb ob sb rb s true (D ++ [p]) w) (htz : p.1.text.length ≤ 1000000) (k1 k2 : Nat) (hk : k1 ≤ k2) (hk2 : k2 ≤ s.size) (pc : List UInt8) (hpc : s.extract k1 k2 = bs pc) :
    Calls Tryz.prog 9 #[.int .i64 k1, .int .i64 k2, .pointer (some ⟨ob, 0, none⟩), .pointer (some ⟨lb, 0, none⟩), .pointer (some ⟨sb, 0, none⟩)] w (RText B lb ob sb rb s (D ++ [(p.1.more pc k2, p.2)]) w) := by
  obtain ⟨⟨lv, gb, TLW⟩, OBW, SBW⟩ := h
  have c2 := cellOf OBW (i := 0) (v := .bool true) rfl
  have HPC := Lib.hid hpc
  have HTZ := Lib.hid htz
  have HD := Lib.hid hd
  clear hpc htz hd
  go_enter Tryz.func9, Tryz.ntmps9
  go_upto_region 3 with fail
  clear c2
  obtain ⟨g, cap, cur, hgb, hBg, hNg, hlv, hrow, hrl, hq1, hq2, hrt⟩ := TLW.some_ (by simp)
  subst hlv
  subst hgb
  have htx := row_cell (f := 2) hrow hrt (snoc_get D p) (v := .string (bs p.1.text)) rfl
  have hhi := row_cell (f := 6) hrow hrt (snoc_get D p) (v := .int .i64 (p.1.hi : Int)) rfl
  have hff2 := freeOf hrow (D.length * 7 + 2)
  have hff6 := freeOf hrow (D.length * 7 + 6)
  have hlen1 : (D ++ [p]).length = D.length + 1 := by simp
  have c3 := cellOf TLW.box (i := 0) (v := .slice (some ⟨g, 0, none⟩) (D.length + 1) cap) (by rw [← hlen1]; rfl)
  have hcapl : D.length + 1 ≤ cap := by rw [← hlen1]; exact hrl
  obtain ⟨d, hd⟩ : ∃ d, D.length = d := ⟨_, rfl⟩
  have HDD := Lib.hid hd
  have hd6 : d ≤ 1000000 := by omega
  rw [hd] at htx hhi hff2 hff6 c3 hcapl
  have TLH := Lib.hid TLW
  have OBH := Lib.hid OBW
  have SBH := Lib.hid SBW
  have c4 := cellOf SBW (i := 0) (v := .string s) rfl
  have HNG := Lib.hid hNg
  have gl : g ≠ lb := fun e => hNg (.inl e)
  have go' : g ≠ ob := fun e => hNg (.inr (.inl e))
  have gs : g ≠ sb := fun e => hNg (.inr (.inr (.inl e)))
  have gr : g ≠ rb := fun e => hNg (.inr (.inr (.inr e)))
  clear hrow hrl hrt hlen1 hd TLW OBW SBW hNg hq1 hq2
  have hwd : IntKind.i64.wrap ((d : Int) + 1 - 1) = (d : Int) := by rw [IntWalk.i64_in _ (by omega)]; omega
  have hwd0 : (0 : Int) ≤ (d : Int) := by omega
  have hwd1 : (d : Int) < (d : Int) + 1 := by omega
  have htn : (d : Int).toNat = d := by omega
  go_upto_region 4 with fail
  clear c3 hwd hwd0 hwd1 htn
  obtain ⟨pt, hpt⟩ : ∃ pt : ByteArray, bs p.1.text = pt := ⟨_, rfl⟩
  have HPT := Lib.hid hpt
  rw [hpt] at htx
  clear hpt
  have hptz : pt.size ≤ 1000000 := by rw [← HPT.out, bs_size]; exact HTZ.out
  refine wp_region_E (S := fun w' => w'.cell? ⟨g, d * 7 + 2, none⟩ = some (.string pt) ∧ w'.cell? ⟨sb, 0, none⟩ = some (.string s)) (n := 11) (by kernel_rfl) ?_
  have hS : (w).drew.cell? ⟨g, d * 7 + 2, none⟩ = some (.string pt) ∧ (w).drew.cell? ⟨sb, 0, none⟩ = some (.string s) := ⟨htx, c4⟩
  show wpE _ _ _ _ _ 11 12 (Array.replicate 12 false) _ _
  refine wpE_take (i := 0) (v := .pointer (some ⟨g, d * 7, none⟩)) (o := { dst := some 20, op := _, type := _, pos := _, after := _, guard := none }) rfl (by kernel_rfl) (by kernel_rfl) (by kernel_rfl) (by kernel_rfl) (fun _ _ _ h => h) (Or.inl ⟨by rfl, fun w' hSw => ?_⟩) hS ?_
  · (obtain ⟨s1, s2⟩ := hSw; clear hS; go_simp)
  try simp only [Act.put, List.setIfInBounds_toArray, List.set_cons_zero, List.set_cons_succ]
  refine wpE_take (i := 1) (v := .pointer (some ⟨g, d * 7, none⟩)) (o := { dst := some 21, op := _, type := _, pos := _, after := _, guard := none }) rfl (by kernel_rfl) (by kernel_rfl) (by kernel_rfl) (by kernel_rfl) (fun _ _ _ h => h) (Or.inl ⟨by rfl, fun w' hSw => ?_⟩) hS ?_
  · (obtain ⟨s1, s2⟩ := hSw; clear hS; go_simp)
  try simp only [Act.put, List.setIfInBounds_toArray, List.set_cons_zero, List.set_cons_succ]
  refine wpE_take (i := 2) (v := .pointer (some ⟨g, d * 7 + 2, none⟩)) (o := { dst := some 22, op := _, type := _, pos := _, after := _, guard := none }) rfl (by kernel_rfl) (by kernel_rfl) (by kernel_rfl) (by kernel_rfl) (fun _ _ _ h => h) (Or.inl ⟨by rfl, fun w' hSw => ?_⟩) hS ?_
  · (obtain ⟨s1, s2⟩ := hSw; clear hS; go_simp)
  try simp only [Act.put, List.setIfInBounds_toArray, List.set_cons_zero, List.set_cons_succ]
  refine wpE_take (i := 3) (v := .string pt) (o := { dst := some 23, op := _, type := _, pos := _, after := _, guard := none }) rfl (by kernel_rfl) (by kernel_rfl) (by kernel_rfl) (by kernel_rfl) (fun _ _ _ h => h) (Or.inl ⟨by rfl, fun w' hSw => ?_⟩) hS ?_
  · (obtain ⟨s1, s2⟩ := hSw; clear hS; go_simp)
  try simp only [Act.put, List.setIfInBounds_toArray, List.set_cons_zero, List.set_cons_succ]
  refine wpE_take (i := 4) (v := .string s) (o := { dst := some 24, op := _, type := _, pos := _, after := _, guard := none }) rfl (by kernel_rfl) (by kernel_rfl) (by kernel_rfl) (by kernel_rfl) (fun _ _ _ h => h) (Or.inl ⟨by rfl, fun w' hSw => ?_⟩) hS ?_
  · (obtain ⟨s1, s2⟩ := hSw; clear hS; go_simp)
  try simp only [Act.put, List.setIfInBounds_toArray, List.set_cons_zero, List.set_cons_succ]
  refine wpE_take (i := 5) (v := .int .i64 k1) (o := { dst := some 25, op := _, type := _, pos := _, after := _, guard := none }) rfl (by kernel_rfl) (by kernel_rfl) (by kernel_rfl) (by kernel_rfl) (fun _ _ _ h => h) (Or.inl ⟨by rfl, fun w' hSw => ?_⟩) hS ?_
  · (obtain ⟨s1, s2⟩ := hSw; clear hS; go_simp)
  try simp only [Act.put, List.setIfInBounds_toArray, List.set_cons_zero, List.set_cons_succ]
  refine wpE_take (i := 6) (v := .int .i64 k2) (o := { dst := some 26, op := _, type := _, pos := _, after := _, guard := none }) rfl (by kernel_rfl) (by kernel_rfl) (by kernel_rfl) (by kernel_rfl) (fun _ _ _ h => h) (Or.inl ⟨by rfl, fun w' hSw => ?_⟩) hS ?_
  · (obtain ⟨s1, s2⟩ := hSw; clear hS; go_simp)
  try simp only [Act.put, List.setIfInBounds_toArray, List.set_cons_zero, List.set_cons_succ]
  refine wpE_take (i := 7) (v := .string (s.extract k1 k2)) (o := { dst := some 27, op := _, type := _, pos := _, after := _, guard := none }) rfl (by kernel_rfl) (by kernel_rfl) (by kernel_rfl) (by kernel_rfl) (fun _ _ _ h => h) (Or.inl ⟨by rfl, fun w' hSw => ?_⟩) hS ?_
  · (obtain ⟨s1, s2⟩ := hSw; clear hS; go_simp)
  try simp only [Act.put, List.setIfInBounds_toArray, List.set_cons_zero, List.set_cons_succ]
  refine wpE_take (i := 8) (v := .string (pt ++ s.extract k1 k2)) (o := { dst := some 28, op := _, type := _, pos := _, after := _, guard := none }) rfl (by kernel_rfl) (by kernel_rfl) (by kernel_rfl) (by kernel_rfl) (fun _ _ _ h => h) (Or.inl ⟨by rfl, fun w' hSw => ?_⟩) hS ?_
  · (obtain ⟨s1, s2⟩ := hSw; clear hS; go_simp; omega)
  try simp only [Act.put, List.setIfInBounds_toArray, List.set_cons_zero, List.set_cons_succ]
  obtain ⟨wd, hwd⟩ : ∃ wd : World, wd = (w).drew := ⟨_, rfl⟩
  have xd : Ext (w) wd := by rw [hwd]; exact (Ext.refl _).drew
  rw [← hwd] at hS ⊢
  clear hwd
  refine wpE_one (i := 9) (o := { dst := some 29, op := _, type := _, pos := _, after := _, guard := none }) (by kernel_rfl) rfl (fun K hK => ?_)
  go_simp
  refine hK.out _ _ (.inr hS) ?_
  clear hK K
  try simp only [Act.put, List.setIfInBounds_toArray, List.set_cons_zero, List.set_cons_succ]
  refine wpE_one (i := 10) (o := { dst := some 30, op := _, type := _, pos := _, after := _, guard := none }) (by kernel_rfl) rfl (fun K hK => ?_)
  go_simp
  refine hK.out _ _ (.inr hS) ?_
  clear hK K
  try simp only [Act.put, List.setIfInBounds_toArray, List.set_cons_zero, List.set_cons_succ]
  have TLD := TLH.out.ext xd
  have OBD := xd.block OBH.out
  have SBD := xd.block SBH.out
  have ff2 := xd.free (cell_lt htx) hff2
  have ff6 := xd.free (cell_lt htx) hff6
  have tx := hS.1
  refine wpE_one (i := 11) (o := { dst := none, op := _, type := _, pos := _, after := _, guard := none }) (by kernel_rfl) rfl (fun K hK => ?_)
  go_simp
  refine hK.out _ _ (.inl rfl) ?_
  clear hK K hS
  refine wpE_done (by kernel_rfl) ?_
  have hgetd : (D ++ [p])[d]? = some p := by rw [← HDD.out]; exact snoc_get D p
  have hadd : pt ++ s.extract k1 k2 = bs (p.1.text ++ pc) := by rw [← HPT.out, HPC.out, bs_add]
  have TL1 := TLD.set (i := d) (f := 2) (p := p) (p' := ({ p.1 with text := p.1.text ++ pc }, p.2)) (v := .string (pt ++ s.extract k1 k2)) hgetd (by decide) (by rw [hadd]; rfl) rfl rfl (.inl rfl) rfl
  have hget1 : ((D ++ [p]).set d ({ p.1 with text := p.1.text ++ pc }, p.2))[d]? = some ({ p.1 with text := p.1.text ++ pc }, p.2) := by rw [← HDD.out, snoc_set]; exact snoc_get D _
  have TL2 := TL1.set (i := d) (f := 6) (p' := (p.1.more pc k2, p.2)) (v := .int .i64 (k2 : Int)) hget1 (by decide) rfl rfl rfl (.inl rfl) rfl
  rw [← HDD.out, snoc_set, snoc_set, HDD.out] at TL2
  have mm1 : Mv (· = g) wd (wd.setCell ⟨g, d * 7 + 2, none⟩ (.string (pt ++ s.extract k1 k2))) := Mv.setRb (Mv.refl _ wd) _
  have mm2 : Mv (· = g) wd ((wd.setCell ⟨g, d * 7 + 2, none⟩ (.string (pt ++ s.extract k1 k2))).setCell ⟨g, d * 7 + 6, none⟩ (.int .i64 (k2 : Int))) := Mv.setRb mm1 _
  have FIN : Hid (AS B lb ob sb rb s true (D ++ [(p.1.more pc k2, p.2)]) ((wd.setCell ⟨g, d * 7 + 2, none⟩ (.string (pt ++ s.extract k1 k2))).setCell ⟨g, d * 7 + 6, none⟩ (.int .i64 (k2 : Int)))) := Lib.hid ⟨⟨_, _, TL2⟩, mm2.block OBD (Ne.symm go'), mm2.block SBD (Ne.symm gs)⟩
  have MFIN := Lib.hid (Mv.after xd (mm2.imp (S' := Ch B rb sb) fun x _ hx => by rw [(show x = g from hx)]; exact ⟨hBg, gr, gs⟩))
  have hh6 := xd.cell hhi
  clear hgetd hadd TL1 hget1 TL2 mm1 mm2 TLD OBD SBD
  go_wp2_with fail
  go_end0
  exact ⟨rfl, FIN.out, MFIN.out⟩
set_option maxHeartbeats 2000000 in
set_option maxRecDepth 100000 in
theorem text_new (B lb ob sb rb : Nat) (s : ByteArray) (D : List TkA) (w : World) (hs : s.size ≤ 1000000) (hD : D.length ≤ 1000000) (hd : Dist B lb ob sb rb) (hrb : rb < w.heap.size) (h : AS B lb ob sb rb s false D w) (k1 k2 : Nat) (hk : k1 ≤ k2) (hk2 : k2 ≤ s.size) (pc : List UInt8) (hpc : s.extract k1 k2 = bs pc) :
    Calls Tryz.prog 9 #[.int .i64 k1, .int .i64 k2, .pointer (some ⟨ob, 0, none⟩), .pointer (some ⟨lb, 0, none⟩), .pointer (some ⟨sb, 0, none⟩)] w (RText B lb ob sb rb s (D ++ [(⟨1, [], pc, [], false, k1, k2⟩, .slice none 0 0)]) w) := by
  obtain ⟨⟨lv0, gb0, TL0⟩, OB0, SB0⟩ := h
  have hlb := (Array.getElem?_eq_some_iff.1 TL0.box).1
  have hob := (Array.getElem?_eq_some_iff.1 OB0).1
  have hsb := (Array.getElem?_eq_some_iff.1 SB0).1
  obtain ⟨d1, d2, d3, d4⟩ := hd
  have hHPC := Lib.hid hpc
  obtain ⟨a0, cap0, wB, hrun, hboxB, hmB, gb1, TLP⟩ := TL0.push hD (by rintro g (rfl | rfl | rfl | rfl) <;> assumption) (.inl rfl) (by omega) (⟨1, [], [], [], false, k1, 0⟩, .slice none 0 0) rfl ⟨rfl, .inl ⟨rfl, none, rfl⟩⟩ (cs := #[.int .i64 1, .string ⟨#[]⟩, .string ⟨#[]⟩, .slice none 0 0, .int .i64 0, .int .i64 k1, .int .i64 0]) rfl
  have nOb : ¬ gb0 = some ob := fun e => (TL0.blk ob e).2.2 (.inr (.inl rfl))
  have nSb : ¬ gb0 = some sb := fun e => (TL0.blk sb e).2.2 (.inr (.inr (.inl rfl)))
  have nLb : ¬ gb0 = some lb := fun e => (TL0.blk lb e).2.2 (.inl rfl)
  have nRb : ¬ gb0 = some rb := fun e => (TL0.blk rb e).2.2 (.inr (.inr (.inr rfl)))
  have OBB := hmB.block OB0 nOb
  have SBB := hmB.block SB0 nSb
  have mB : Mv (Ch B rb sb) w wB := hmB.imp fun x _ hx => ⟨(TL0.blk x hx).2.1, fun e => nRb (e ▸ hx), fun e => nSb (e ▸ hx)⟩
  have c2 := cellOf OB0 (i := 0) (v := .bool false) rfl
  have c3 := cellOf TL0.box (i := 0) (v := lv0) rfl
  have b3 := cellOf hboxB (i := 0) (v := lv0) rfl
  have g3 := freeOf hboxB 0
  have MB := Lib.hid mB
  have HRUN := Lib.hid hrun
  have HTLP := Lib.hid TLP
  have HBX := Lib.hid hboxB
  have HOBB := Lib.hid OBB
  have HSBB := Lib.hid SBB
  clear hpc hrun hmB TLP TL0 OB0 SB0 mB hboxB OBB SBB
  go_enter Tryz.func9, Tryz.ntmps9
  go_upto_region 2 with (at_builtin; refine wpList_append_run _ rfl _ _ 23 rfl _ _ rfl rfl _ _ HRUN.out ?_)
  have m1 : Mv (· = lb) wB (wB.setCell ⟨lb, 0, none⟩ (.slice a0 (D.length + 1) cap0)) := Mv.setRb (Mv.refl _ wB) _
  have OB1 := m1.block HOBB.out (show ¬ ob = lb by omega)
  have SB1 := m1.block HSBB.out (show ¬ sb = lb by omega)
  have M1 : Mv (Ch B rb sb) w (wB.setCell ⟨lb, 0, none⟩ (.slice a0 (D.length + 1) cap0)) := MB.out.trans (m1.imp fun x _ hx => by rw [(show x = lb from hx)]; exact ⟨by omega, by omega, by omega⟩)
  have TL1 := HTLP.out
  clear c2 c3 b3 g3
  obtain ⟨w2, hw2⟩ : ∃ w' : World, w' = wB.setCell ⟨lb, 0, none⟩ (.slice a0 (D.length + 1) cap0) := ⟨_, rfl⟩
  rw [← hw2] at OB1 SB1 M1 TL1 ⊢
  clear hw2 m1
  have c2 := cellOf OB1 (i := 0) (v := .bool false) rfl
  have f2 := freeOf OB1 0
  have m2 : Mv (· = ob) w2 (w2.setCell ⟨ob, 0, none⟩ (.bool true)) := Mv.setRb (Mv.refl _ w2) _
  have OBW := heap_setCell_same (i := 0) OB1 (.bool true)
  have SBW := m2.block SB1 (show ¬ sb = ob by omega)
  have M2 : Mv (Ch B rb sb) w (w2.setCell ⟨ob, 0, none⟩ (.bool true)) := M1.trans (m2.imp fun x _ hx => by rw [(show x = ob from hx)]; exact ⟨by omega, by omega, by omega⟩)
  have TLW := TL1.mv m2 (fun g hg => .inr (.inl hg)) (show ¬ lb = ob by omega)
  clear OB1 SB1 M1 TL1 m2
  go_upto_region 3 with fail
  obtain ⟨w3, hw3⟩ : ∃ w' : World, w' = w2.setCell ⟨ob, 0, none⟩ (.bool true) := ⟨_, rfl⟩
  rw [← hw3] at OBW SBW M2 TLW ⊢
  clear hw3 c2 f2
  have OBW : w3.heap[ob]? = some (.cells #[.bool true] 4 (0, 0)) := OBW
  have MW3 := Lib.hid M2
  clear M2
  obtain ⟨lv, hlv0⟩ : ∃ v : Value, v = .slice a0 (D.length + 1) cap0 := ⟨_, rfl⟩
  rw [← hlv0] at TLW
  clear hlv0
  obtain ⟨p, hp⟩ : ∃ p : TkA, p = (⟨1, [], [], [], false, k1, 0⟩, .slice none 0 0) := ⟨_, rfl⟩
  rw [← hp] at TLW
  have HTZ : Hid (p.1.text.length ≤ 1000000) := Lib.hid (by rw [hp]; exact Nat.zero_le _)
  have HPQ : Hid ((p.1.more pc k2, p.2) = (⟨1, [], pc, [], false, k1, k2⟩, .slice none 0 0)) := Lib.hid (by rw [hp]; rfl)
  have HPC := hHPC
  obtain ⟨gb, hgb1⟩ : ∃ g : Option Nat, g = gb1 := ⟨_, rfl⟩
  rw [← hgb1] at TLW
  clear hgb1 hp HTLP HRUN HBX HOBB HSBB MB nOb nSb nLb nRb hlb hob hsb
  obtain ⟨g, cap, cur, hgb, hBg, hNg, hlv, hrow, hrl, hq1, hq2, hrt⟩ := TLW.some_ (by simp)
  subst hlv
  subst hgb
  have htx := row_cell (f := 2) hrow hrt (snoc_get D p) (v := .string (bs p.1.text)) rfl
  have hhi := row_cell (f := 6) hrow hrt (snoc_get D p) (v := .int .i64 (p.1.hi : Int)) rfl
  have hff2 := freeOf hrow (D.length * 7 + 2)
  have hff6 := freeOf hrow (D.length * 7 + 6)
  have hlen1 : (D ++ [p]).length = D.length + 1 := by simp
  have c3 := cellOf TLW.box (i := 0) (v := .slice (some ⟨g, 0, none⟩) (D.length + 1) cap) (by rw [← hlen1]; rfl)
  have hcapl : D.length + 1 ≤ cap := by rw [← hlen1]; exact hrl
  obtain ⟨d, hd⟩ : ∃ d, D.length = d := ⟨_, rfl⟩
  have HDD := Lib.hid hd
  have hd6 : d ≤ 1000000 := by omega
  rw [hd] at htx hhi hff2 hff6 c3 hcapl
  have TLH := Lib.hid TLW
  have OBH := Lib.hid OBW
  have SBH := Lib.hid SBW
  have c4 := cellOf SBW (i := 0) (v := .string s) rfl
  have HNG := Lib.hid hNg
  have gl : g ≠ lb := fun e => hNg (.inl e)
  have go' : g ≠ ob := fun e => hNg (.inr (.inl e))
  have gs : g ≠ sb := fun e => hNg (.inr (.inr (.inl e)))
  have gr : g ≠ rb := fun e => hNg (.inr (.inr (.inr e)))
  clear hrow hrl hrt hlen1 hd TLW OBW SBW hNg hq1 hq2
  have hwd : IntKind.i64.wrap ((d : Int) + 1 - 1) = (d : Int) := by rw [IntWalk.i64_in _ (by omega)]; omega
  have hwd0 : (0 : Int) ≤ (d : Int) := by omega
  have hwd1 : (d : Int) < (d : Int) + 1 := by omega
  have htn : (d : Int).toNat = d := by omega
  go_upto_region 4 with fail
  clear c3 hwd hwd0 hwd1 htn
  obtain ⟨pt, hpt⟩ : ∃ pt : ByteArray, bs p.1.text = pt := ⟨_, rfl⟩
  have HPT := Lib.hid hpt
  rw [hpt] at htx
  clear hpt
  have hptz : pt.size ≤ 1000000 := by rw [← HPT.out, bs_size]; exact HTZ.out
  refine wp_region_E (S := fun w' => w'.cell? ⟨g, d * 7 + 2, none⟩ = some (.string pt) ∧ w'.cell? ⟨sb, 0, none⟩ = some (.string s)) (n := 11) (by kernel_rfl) ?_
  have hS : (w3).drew.cell? ⟨g, d * 7 + 2, none⟩ = some (.string pt) ∧ (w3).drew.cell? ⟨sb, 0, none⟩ = some (.string s) := ⟨htx, c4⟩
  show wpE _ _ _ _ _ 11 12 (Array.replicate 12 false) _ _
  refine wpE_take (i := 0) (v := .pointer (some ⟨g, d * 7, none⟩)) (o := { dst := some 20, op := _, type := _, pos := _, after := _, guard := none }) rfl (by kernel_rfl) (by kernel_rfl) (by kernel_rfl) (by kernel_rfl) (fun _ _ _ h => h) (Or.inl ⟨by rfl, fun w' hSw => ?_⟩) hS ?_
  · (obtain ⟨s1, s2⟩ := hSw; clear hS; go_simp)
  try simp only [Act.put, List.setIfInBounds_toArray, List.set_cons_zero, List.set_cons_succ]
  refine wpE_take (i := 1) (v := .pointer (some ⟨g, d * 7, none⟩)) (o := { dst := some 21, op := _, type := _, pos := _, after := _, guard := none }) rfl (by kernel_rfl) (by kernel_rfl) (by kernel_rfl) (by kernel_rfl) (fun _ _ _ h => h) (Or.inl ⟨by rfl, fun w' hSw => ?_⟩) hS ?_
  · (obtain ⟨s1, s2⟩ := hSw; clear hS; go_simp)
  try simp only [Act.put, List.setIfInBounds_toArray, List.set_cons_zero, List.set_cons_succ]
  refine wpE_take (i := 2) (v := .pointer (some ⟨g, d * 7 + 2, none⟩)) (o := { dst := some 22, op := _, type := _, pos := _, after := _, guard := none }) rfl (by kernel_rfl) (by kernel_rfl) (by kernel_rfl) (by kernel_rfl) (fun _ _ _ h => h) (Or.inl ⟨by rfl, fun w' hSw => ?_⟩) hS ?_
  · (obtain ⟨s1, s2⟩ := hSw; clear hS; go_simp)
  try simp only [Act.put, List.setIfInBounds_toArray, List.set_cons_zero, List.set_cons_succ]
  refine wpE_take (i := 3) (v := .string pt) (o := { dst := some 23, op := _, type := _, pos := _, after := _, guard := none }) rfl (by kernel_rfl) (by kernel_rfl) (by kernel_rfl) (by kernel_rfl) (fun _ _ _ h => h) (Or.inl ⟨by rfl, fun w' hSw => ?_⟩) hS ?_
  · (obtain ⟨s1, s2⟩ := hSw; clear hS; go_simp)
  try simp only [Act.put, List.setIfInBounds_toArray, List.set_cons_zero, List.set_cons_succ]
  refine wpE_take (i := 4) (v := .string s) (o := { dst := some 24, op := _, type := _, pos := _, after := _, guard := none }) rfl (by kernel_rfl) (by kernel_rfl) (by kernel_rfl) (by kernel_rfl) (fun _ _ _ h => h) (Or.inl ⟨by rfl, fun w' hSw => ?_⟩) hS ?_
  · (obtain ⟨s1, s2⟩ := hSw; clear hS; go_simp)
  try simp only [Act.put, List.setIfInBounds_toArray, List.set_cons_zero, List.set_cons_succ]
  refine wpE_take (i := 5) (v := .int .i64 k1) (o := { dst := some 25, op := _, type := _, pos := _, after := _, guard := none }) rfl (by kernel_rfl) (by kernel_rfl) (by kernel_rfl) (by kernel_rfl) (fun _ _ _ h => h) (Or.inl ⟨by rfl, fun w' hSw => ?_⟩) hS ?_
  · (obtain ⟨s1, s2⟩ := hSw; clear hS; go_simp)
  try simp only [Act.put, List.setIfInBounds_toArray, List.set_cons_zero, List.set_cons_succ]
  refine wpE_take (i := 6) (v := .int .i64 k2) (o := { dst := some 26, op := _, type := _, pos := _, after := _, guard := none }) rfl (by kernel_rfl) (by kernel_rfl) (by kernel_rfl) (by kernel_rfl) (fun _ _ _ h => h) (Or.inl ⟨by rfl, fun w' hSw => ?_⟩) hS ?_
  · (obtain ⟨s1, s2⟩ := hSw; clear hS; go_simp)
  try simp only [Act.put, List.setIfInBounds_toArray, List.set_cons_zero, List.set_cons_succ]
  refine wpE_take (i := 7) (v := .string (s.extract k1 k2)) (o := { dst := some 27, op := _, type := _, pos := _, after := _, guard := none }) rfl (by kernel_rfl) (by kernel_rfl) (by kernel_rfl) (by kernel_rfl) (fun _ _ _ h => h) (Or.inl ⟨by rfl, fun w' hSw => ?_⟩) hS ?_
  · (obtain ⟨s1, s2⟩ := hSw; clear hS; go_simp)
  try simp only [Act.put, List.setIfInBounds_toArray, List.set_cons_zero, List.set_cons_succ]
  refine wpE_take (i := 8) (v := .string (pt ++ s.extract k1 k2)) (o := { dst := some 28, op := _, type := _, pos := _, after := _, guard := none }) rfl (by kernel_rfl) (by kernel_rfl) (by kernel_rfl) (by kernel_rfl) (fun _ _ _ h => h) (Or.inl ⟨by rfl, fun w' hSw => ?_⟩) hS ?_
  · (obtain ⟨s1, s2⟩ := hSw; clear hS; go_simp; omega)
  try simp only [Act.put, List.setIfInBounds_toArray, List.set_cons_zero, List.set_cons_succ]
  obtain ⟨wd, hwd⟩ : ∃ wd : World, wd = (w3).drew := ⟨_, rfl⟩
  have xd : Ext (w3) wd := by rw [hwd]; exact (Ext.refl _).drew
  rw [← hwd] at hS ⊢
  clear hwd
  refine wpE_one (i := 9) (o := { dst := some 29, op := _, type := _, pos := _, after := _, guard := none }) (by kernel_rfl) rfl (fun K hK => ?_)
  go_simp
  refine hK.out _ _ (.inr hS) ?_
  clear hK K
  try simp only [Act.put, List.setIfInBounds_toArray, List.set_cons_zero, List.set_cons_succ]
  refine wpE_one (i := 10) (o := { dst := some 30, op := _, type := _, pos := _, after := _, guard := none }) (by kernel_rfl) rfl (fun K hK => ?_)
  go_simp
  refine hK.out _ _ (.inr hS) ?_
  clear hK K
  try simp only [Act.put, List.setIfInBounds_toArray, List.set_cons_zero, List.set_cons_succ]
  have TLD := TLH.out.ext xd
  have OBD := xd.block OBH.out
  have SBD := xd.block SBH.out
  have ff2 := xd.free (cell_lt htx) hff2
  have ff6 := xd.free (cell_lt htx) hff6
  have tx := hS.1
  refine wpE_one (i := 11) (o := { dst := none, op := _, type := _, pos := _, after := _, guard := none }) (by kernel_rfl) rfl (fun K hK => ?_)
  go_simp
  refine hK.out _ _ (.inl rfl) ?_
  clear hK K hS
  refine wpE_done (by kernel_rfl) ?_
  have hgetd : (D ++ [p])[d]? = some p := by rw [← HDD.out]; exact snoc_get D p
  have hadd : pt ++ s.extract k1 k2 = bs (p.1.text ++ pc) := by rw [← HPT.out, HPC.out, bs_add]
  have TL1 := TLD.set (i := d) (f := 2) (p := p) (p' := ({ p.1 with text := p.1.text ++ pc }, p.2)) (v := .string (pt ++ s.extract k1 k2)) hgetd (by decide) (by rw [hadd]; rfl) rfl rfl (.inl rfl) rfl
  have hget1 : ((D ++ [p]).set d ({ p.1 with text := p.1.text ++ pc }, p.2))[d]? = some ({ p.1 with text := p.1.text ++ pc }, p.2) := by rw [← HDD.out, snoc_set]; exact snoc_get D _
  have TL2 := TL1.set (i := d) (f := 6) (p' := (p.1.more pc k2, p.2)) (v := .int .i64 (k2 : Int)) hget1 (by decide) rfl rfl rfl (.inl rfl) rfl
  rw [← HDD.out, snoc_set, snoc_set, HDD.out] at TL2
  have mm1 : Mv (· = g) wd (wd.setCell ⟨g, d * 7 + 2, none⟩ (.string (pt ++ s.extract k1 k2))) := Mv.setRb (Mv.refl _ wd) _
  have mm2 : Mv (· = g) wd ((wd.setCell ⟨g, d * 7 + 2, none⟩ (.string (pt ++ s.extract k1 k2))).setCell ⟨g, d * 7 + 6, none⟩ (.int .i64 (k2 : Int))) := Mv.setRb mm1 _
  have FIN : Hid (AS B lb ob sb rb s true (D ++ [(p.1.more pc k2, p.2)]) ((wd.setCell ⟨g, d * 7 + 2, none⟩ (.string (pt ++ s.extract k1 k2))).setCell ⟨g, d * 7 + 6, none⟩ (.int .i64 (k2 : Int)))) := Lib.hid ⟨⟨_, _, TL2⟩, mm2.block OBD (Ne.symm go'), mm2.block SBD (Ne.symm gs)⟩
  have MFIN := Lib.hid (Mv.after xd (mm2.imp (S' := Ch B rb sb) fun x _ hx => by rw [(show x = g from hx)]; exact ⟨hBg, gr, gs⟩))
  have hh6 := xd.cell hhi
  clear hgetd hadd TL1 hget1 TL2 mm1 mm2 TLD OBD SBD
  go_wp2_with fail
  go_end0
  exact ⟨rfl, HPQ.out ▸ FIN.out, MW3.out.trans MFIN.out⟩
end Go.Proofs.YtdafdoodegpdhaaGreatDoor

namespace Go.Proofs.YtdafdoodegpdhaaGreatDoor
open Go Go.RowKit Go.BigFrame We
set_option linter.unusedVariables false
set_option linter.unusedSimpArgs false

theorem tagL_text {N : Nat} {r e : List UInt8} {t : Tk} (h : tagL N r = some (t, e)) : t.text = [] ∧ t.kind ≠ 1 := by
  unfold tagL at h
  by_cases hl0 : headP letterB (tagR r) = true
  · rw [if_pos hl0] at h
    by_cases hcl : closeB r = true
    · rw [if_pos hcl] at h
      unfold closeL at h
      split at h
      · cases h
      · cases h; exact ⟨rfl, (by decide : ¬ (3 : Int) = 1)⟩
    · rw [if_neg hcl] at h
      unfold openL at h
      cases hx : partsL ((tagR r).dropWhile alnumB) with
      | none => rw [hx] at h; cases h
      | some x => rw [hx] at h; cases h; exact ⟨rfl, (by decide : ¬ (2 : Int) = 1)⟩
  · rw [if_neg hl0] at h
    cases h
theorem lexL_small (N : Nat) : ∀ (n : Nat) (r raw : List UInt8) (a b : Nat), r.length ≤ n → (∀ t ∈ lexL N raw a b r, t.text.length ≤ raw.length + r.length) ∧ (lexL N raw a b r).length ≤ r.length + (if raw = [] then 0 else 1) := by
  have hfl : ∀ raw a b, (flushT raw a b).length = (if raw = [] then 0 else 1) ∧ ∀ t ∈ flushT raw a b, t.text.length ≤ raw.length := by
    intro raw a b
    unfold flushT
    split
    · exact ⟨rfl, fun t ht => by cases ht⟩
    · exact ⟨rfl, fun t ht => by rw [List.mem_singleton.1 ht]; exact Nat.le_refl _⟩
  intro n
  induction n with
  | zero =>
    intro r raw a b hn
    obtain rfl : r = [] := List.eq_nil_of_length_eq_zero (by omega)
    rw [lexL_nil]
    exact ⟨fun t ht => Nat.le_trans ((hfl raw a b).2 t ht) (Nat.le_add_right _ _), by rw [(hfl raw a b).1]; omega⟩
  | succ n ih =>
    intro r raw a b hn
    cases r with
    | nil =>
      rw [lexL_nil]
      exact ⟨fun t ht => Nat.le_trans ((hfl raw a b).2 t ht) (Nat.le_add_right _ _), by rw [(hfl raw a b).1]; omega⟩
    | cons c q =>
      simp only [List.length_cons] at hn
      have hch : (c ≠ 60 ∨ noteL (c :: q) = none ∧ tagL N (c :: q) = none) → (∀ t ∈ lexL N raw a b (c :: q), t.text.length ≤ raw.length + (c :: q).length) ∧ (lexL N raw a b (c :: q)).length ≤ (c :: q).length + (if raw = [] then 0 else 1) := by
        intro h
        rw [lexL_char h]
        obtain ⟨i1, i2⟩ := ih q (raw ++ [c]) (if raw = [] then N - (q.length + 1) else a) (N - q.length) (by omega)
        refine ⟨fun t ht => by have := i1 t ht; simp at this ⊢; omega, ?_⟩
        rw [if_neg (show ¬ raw ++ [c] = [] by simp)] at i2
        simp only [List.length_cons]
        omega
      by_cases hc : c = 60
      · subst hc
        cases hno : noteL (60 :: q) with
        | some e =>
          rw [lexL_note hno]
          have h2 := (noteL_suf hno).2
          simp only [List.length_cons] at h2
          obtain ⟨i1, i2⟩ := ih e raw a b (by omega)
          exact ⟨fun t ht => by have := i1 t ht; simp; omega, by simp only [List.length_cons]; omega⟩
        | none =>
          cases hta : tagL N (60 :: q) with
          | none => exact hch (.inr ⟨hno, hta⟩)
          | some te =>
            obtain ⟨t, e⟩ := te
            rw [lexL_tag hno hta]
            have h2 := (tagL_len hta).2
            simp only [List.length_cons] at h2
            obtain ⟨i1, i2⟩ := ih e [] a b (by omega)
            obtain ⟨f1, f2⟩ := hfl raw a b
            have htx : t.text = [] := (tagL_text hta).1
            refine ⟨fun x hx => ?_, ?_⟩
            · rcases List.mem_append.1 hx with hx | hx
              · exact Nat.le_trans (f2 x hx) (Nat.le_add_right _ _)
              · rcases List.mem_cons.1 hx with rfl | hx
                · rw [htx]; exact Nat.zero_le _
                · have := i1 x hx
                  simp at this ⊢
                  omega
            · rw [List.length_append, List.length_cons, f1]
              simp only [List.length_cons, if_true] at i2 ⊢
              omega
      · exact hch (.inl hc)
theorem map_snoc {L : List TkA} {d : List Tk} {x : Tk} (h : L.map Prod.fst = d ++ [x]) : ∃ D p, L = D ++ [p] ∧ D.map Prod.fst = d ∧ p.1 = x := by
  obtain ⟨D, Q, h1, h2, h3⟩ := List.map_eq_append_iff.1 h
  cases Q with
  | nil => cases h3
  | cons p Q =>
    cases Q with
    | cons _ _ => cases h3
    | nil => exact ⟨D, p, h1, h2, by simpa using h3⟩
theorem map_step {f : Tk → Tk} {l : List Tk} {k : Nat} {c : Tk} (h : l[k]? = some c) : (l.take (k + 1)).map f ++ l.drop (k + 1) = ((l.take k).map f ++ l.drop k).set k (f c) := by
  obtain ⟨hk, e⟩ := List.getElem?_eq_some_iff.1 h
  have hm : min k l.length = k := Nat.min_eq_left (Nat.le_of_lt hk)
  rw [List.take_succ_eq_append_getElem hk, List.map_append, List.drop_eq_getElem_cons hk, e, List.set_append_right _ _ (by simp; omega)]
  simp [hm]
theorem map_same {f : Tk → Tk} {l : List Tk} {k : Nat} {c : Tk} (h : l[k]? = some c) (hc : f c = c) : (l.take (k + 1)).map f ++ l.drop (k + 1) = (l.take k).map f ++ l.drop k := by
  obtain ⟨hk, e⟩ := List.getElem?_eq_some_iff.1 h
  rw [List.take_succ_eq_append_getElem hk, List.map_append, List.drop_eq_getElem_cons hk, e]
  simp [hc]
def opB (raw : List UInt8) : Bool := !raw.isEmpty
section
variable {B lb ob sb rb : Nat} {s : ByteArray} {op : Bool} {L : List TkA} {w w' : World}
theorem AS.mv {S : Nat → Prop} (h : AS B lb ob sb rb s op L w) (k : Mv S w w') (hS : ∀ g, S g → Nb lb ob sb rb g) (h1 : ¬ S lb) (h2 : ¬ S ob) (h3 : ¬ S sb) : AS B lb ob sb rb s op L w' := by
  obtain ⟨⟨lv, gb, h0⟩, hob, hsb⟩ := h
  exact ⟨⟨lv, gb, h0.mv k hS h1⟩, k.block hob h2, k.block hsb h3⟩
theorem AS.rdr (h : AS B lb ob sb rb s op L w) (k : Mv (· = rb) w w') (hd : Dist B lb ob sb rb) : AS B lb ob sb rb s op L w' :=
  h.mv k (fun g hg => .inr (.inr (.inr hg))) (by show ¬ lb = rb; have := hd.lr; omega) (by show ¬ ob = rb; have := hd.ro; omega) (by show ¬ sb = rb; have := hd.sl; have := hd.lr; omega)
theorem AS.ext (h : AS B lb ob sb rb s op L w) (k : Ext w w') : AS B lb ob sb rb s op L w' := h.mv (S := fun _ => False) (Mv.ofExt k) (fun _ h => h.elim) id id id
end
/-- a row of tokens that reads so -/
def TkRd (w : World) (v : Value) (l : List Tk) : Prop := ∃ L : List TkA, L.map Prod.fst = l ∧ RowP w (fun _ => True) 30 7 v L.length (tkCells L) ∧ ∀ p ∈ L, RowRd w 2 p.2 p.1.attrs.length (attrCells p.1.attrs)
theorem TkRd.ext {w w' : World} {v : Value} {l : List Tk} (h : TkRd w v l) (k : Ext w w') : TkRd w' v l := by
  obtain ⟨L, h1, h2, h3⟩ := h
  exact ⟨L, h1, h2.ext k, fun p hp => (h3 p hp).ext k⟩
/-- what is read of a token in a row -/
structure TkAt (w : World) (g i : Nat) (t : Tk) : Prop where
  kind : w.cell? ⟨g, i * 7, none⟩ = some (.int .i64 t.kind)
  name : w.cell? ⟨g, i * 7 + 1, none⟩ = some (.string (bs t.name))
  text : w.cell? ⟨g, i * 7 + 2, none⟩ = some (.string (bs t.text))
  attrs : ∃ a c, w.cell? ⟨g, i * 7 + 3, none⟩ = some (.slice a t.attrs.length c) ∧ RowRd w 2 (.slice a t.attrs.length c) t.attrs.length (attrCells t.attrs)
  self : w.cell? ⟨g, i * 7 + 4, none⟩ = some (.int .i64 (selfZ t.self))
  lo : w.cell? ⟨g, i * 7 + 5, none⟩ = some (.int .i64 (t.lo : Int))
  hi : w.cell? ⟨g, i * 7 + 6, none⟩ = some (.int .i64 (t.hi : Int))
theorem TkAt.ext {w w' : World} {g i : Nat} {t : Tk} (h : TkAt w g i t) (k : Ext w w') : TkAt w' g i t :=
  ⟨k.cell h.kind, k.cell h.name, k.cell h.text, (by obtain ⟨a, c, h1, h2⟩ := h.attrs; exact ⟨a, c, k.cell h1, h2.ext k⟩), k.cell h.self, k.cell h.lo, k.cell h.hi⟩
theorem TkRd.at {w : World} {v : Value} {l : List Tk} (h : TkRd w v l) : ∃ a cap, v = .slice a l.length cap ∧ l.length ≤ cap ∧ (0 < l.length → ∃ g, a = some ⟨g, 0, none⟩ ∧ ∀ i t, l[i]? = some t → TkAt w g i t) := by
  obtain ⟨L, h1, h2, h3⟩ := h
  have hl : L.length = l.length := by rw [← h1, List.length_map]
  rcases h2.2 with ⟨h0, a, e⟩ | ⟨g, cap, cur, e, _, h5, h6, _, _, h9⟩
  · exact ⟨a, 0, by rw [e, ← hl, h0], by omega, fun hp => absurd hp (by omega)⟩
  · refine ⟨some ⟨g, 0, none⟩, cap, by rw [e, hl], by omega, fun _ => ⟨g, rfl, fun i t ht => ?_⟩⟩
    rw [← h1, List.getElem?_map] at ht
    cases hp : L[i]? with
    | none => rw [hp] at ht; cases ht
    | some p =>
      rw [hp] at ht
      have : p.1 = t := by simpa using ht
      subst this
      have c0 := row_cell (f := 0) h5 h9 hp (v := .int .i64 p.1.kind) rfl
      rw [Nat.add_zero] at c0
      have hr := h3 p (List.mem_of_getElem? hp)
      obtain ⟨aa, ac, ea, _⟩ := hr.len_of
      exact ⟨c0, row_cell (f := 1) h5 h9 hp (v := .string (bs p.1.name)) rfl, row_cell (f := 2) h5 h9 hp (v := .string (bs p.1.text)) rfl, ⟨aa, ac, (by rw [← ea]; exact row_cell (f := 3) h5 h9 hp (v := p.2) rfl), ea ▸ hr⟩,
        row_cell (f := 4) h5 h9 hp (v := .int .i64 (selfZ p.1.self)) rfl, row_cell (f := 5) h5 h9 hp (v := .int .i64 (p.1.lo : Int)) rfl, row_cell (f := 6) h5 h9 hp (v := .int .i64 (p.1.hi : Int)) rfl⟩
def RAll (t : ByteArray) (w : World) (e : Ending) (w' : World) : Prop :=
  (8192 < t.size ∧ e = .returned (.tuple #[.slice none 0 0, .int .i64 10]) ∧ Ext w w') ∨ (t.size ≤ 8192 ∧ ∃ v, e = .returned (.tuple #[v, .int .i64 0]) ∧ Ext w w' ∧ TkRd w' v (tokens t.data.toList))
/-- what lex.All's loop keeps -/
def ARel (B lb ob sb rb : Nat) (t : ByteArray) (w : World) (gf : Nat) (wr : World) : Prop := ∃ (done : List Tk) (raw : List UInt8) (a b : Nat) (r : List UInt8) (L : List TkA),
  Rd rb t r wr ∧ AS B lb ob sb rb t (opB raw) L wr ∧ Ext w wr ∧ L.map Prod.fst = done ++ flushT raw a b ∧ r.length ≤ gf ∧ done ++ lexL t.size raw a b r = lexL t.size [] 0 0 t.data.toList ∧ L.length + r.length ≤ t.size ∧ raw.length + r.length ≤ t.size
theorem flush_nil (a b : Nat) : flushT [] a b = [] := rfl
theorem flush_some {raw : List UInt8} (h : raw ≠ []) (a b : Nat) : flushT raw a b = [⟨1, [], raw, [], false, a, b⟩] := if_neg h
theorem opB_nil : opB [] = false := rfl
theorem opB_some {raw : List UInt8} (h : raw ≠ []) : opB raw = true := by cases raw; exact absurd rfl h; rfl
set_option maxHeartbeats 8000000 in
set_option maxRecDepth 100000 in
theorem All_any (s : ByteArray) (hs : s.size ≤ 10000000000) (w : World) (hl : LW w) : Calls Tryz.prog 5 #[.string s] w (RAll (anewB s) w) := by
  have HA := Lib.hid (xanew_any s (by omega))
  obtain ⟨t, ht⟩ : ∃ t, anewB s = t := ⟨_, rfl⟩
  rw [ht] at HA ⊢
  have hmf : ∀ (fn : Fn) (first cap : Array Value) (w : World), (Instr.makeFunc fn first cap).run Tryz.prog w = .ok (.func fn first cap) w := fun _ _ _ _ => rfl
  have HL := Lib.hid hl
  clear ht hs hl
  have x0 := (Ext.refl w).alloc (.cells #[.string s] 9)
  have hb0 := heap_alloc_new w (.cells #[.string s] 9)
  go_enter Tryz.func5, Tryz.ntmps5
  go_upto_region 1 with fail
  obtain ⟨w0, hw0⟩ : ∃ w' : World, w' = w.alloc (.cells #[.string s] 9) := ⟨_, rfl⟩
  rw [← hw0] at x0 hb0 ⊢
  clear hw0
  obtain ⟨sb, hsb⟩ : ∃ b, w.heap.size = b := ⟨_, rfl⟩
  rw [hsb] at hb0 ⊢
  have HSB := Lib.hid hsb
  have c0 := cellOf hb0 (i := 0) (v := .string s) rfl
  have X0 := Lib.hid x0
  have HB0 := Lib.hid hb0
  clear hsb x0 hb0
  go_wp2_with (go_at_call 8; refine (HA.out _).mono ?_)
  rintro e w1 ⟨rfl, x1⟩
  have hb1 := x1.block HB0.out
  have c1 := cellOf hb1 (i := 0) (v := .string s) rfl
  have f1 := freeOf hb1 0
  have x2 : Ext w (w1.setCell ⟨sb, 0, none⟩ (.string t)) := (X0.out.trans x1).setCell (p := ⟨sb, 0, none⟩) (by show w.heap.size ≤ sb; rw [HSB.out]; exact Nat.le_refl _) _
  have hb2 := heap_setCell_same (i := 0) hb1 (.string t)
  clear x1 hb1 c0
  go_upto_region 2 with fail
  obtain ⟨w2, hw2⟩ : ∃ w' : World, w' = w1.setCell ⟨sb, 0, none⟩ (.string t) := ⟨_, rfl⟩
  rw [← hw2] at x2 hb2 ⊢
  clear hw2 c1 f1
  have hb2 : w2.heap[sb]? = some (.cells #[.string t] 9 (0, 0)) := hb2
  have c2 := cellOf hb2 (i := 0) (v := .string t) rfl
  have X2 := Lib.hid x2
  have HB2 := Lib.hid hb2
  clear x2 hb2
  by_cases hlong : 8192 < t.size
  · have hli : decide ((8192 : Int) < (t.size : Int)) = true := decide_eq_true (by omega)
    have hln : decide (8192 < t.size) = true := decide_eq_true hlong
    have HLO := Lib.hid hlong
    clear hlong
    go_wp2_with fail
    go_ret2
    exact .inl ⟨HLO.out, rfl, X2.out⟩
  have hli : decide ((8192 : Int) < (t.size : Int)) = false := decide_eq_false (by omega)
  have hln : decide (8192 < t.size) = false := decide_eq_false hlong
  have h81 : t.size ≤ 8192 := by omega
  have H81 := Lib.hid h81
  clear hlong
  go_upto_region 4 with fail
  clear hli hln
  have x3 := (Ext.refl w2).alloc (.cells #[.slice none 0 0] 23)
  have hb3 := heap_alloc_new w2 (.cells #[.slice none 0 0] 23)
  obtain ⟨lb, hlb⟩ : ∃ b, w2.heap.size = b := ⟨_, rfl⟩
  have HLB := Lib.hid hlb
  clear hlb
  go_upto_region 5 with fail
  obtain ⟨w3, hw3⟩ : ∃ w' : World, w' = w2.alloc (.cells #[.slice none 0 0] 23) := ⟨_, rfl⟩
  have hs3 : Hid (w3.heap.size = w2.heap.size + 1) := Lib.hid (by rw [hw3]; simp)
  rw [← hw3] at x3 hb3 ⊢
  clear hw3
  rw [HLB.out] at hb3 ⊢
  have c3 := x3.cell c2
  have x4 := (Ext.refl w3).alloc (.cells #[.string t, .int .i64 0] 35)
  have hb4 := heap_alloc_new w3 (.cells #[.string t, .int .i64 0] 35)
  obtain ⟨rb, hrb⟩ : ∃ b, w3.heap.size = b := ⟨_, rfl⟩
  have HRB := Lib.hid hrb
  clear hrb
  go_upto_region 6 with fail
  obtain ⟨w4, hw4⟩ : ∃ w' : World, w' = w3.alloc (.cells #[.string t, .int .i64 0] 35) := ⟨_, rfl⟩
  have hs4 : Hid (w4.heap.size = w3.heap.size + 1) := Lib.hid (by rw [hw4]; simp)
  rw [← hw4] at x4 hb4 ⊢
  clear hw4 c3 c2
  rw [HRB.out] at hb4 ⊢
  have x5 := (Ext.refl w4).alloc (.cells #[.bool false] 4)
  have hb5 := heap_alloc_new w4 (.cells #[.bool false] 4)
  obtain ⟨ob, hob⟩ : ∃ b, w4.heap.size = b := ⟨_, rfl⟩
  have HOB := Lib.hid hob
  clear hob
  go_upto_region 7 with fail
  obtain ⟨w5, hw5⟩ : ∃ w' : World, w' = w4.alloc (.cells #[.bool false] 4) := ⟨_, rfl⟩
  rw [← hw5] at x5 hb5 ⊢
  clear hw5
  rw [HOB.out] at hb5 ⊢
  have hB : sb < w2.heap.size := (Array.getElem?_eq_some_iff.1 HB2.out).1
  have HD : Hid (Dist w.heap.size lb ob sb rb) := Lib.hid (by
    have e1 := HSB.out; have e2 := HLB.out; have e3 := HRB.out; have e4 := HOB.out; have e5 := hs3.out; have e6 := hs4.out
    exact ⟨by omega, by omega, by omega, by omega⟩)
  have hz : t.data.toList.length = t.size := rfl
  have HREL0 : Hid (ARel w.heap.size lb ob sb rb t w t.size w5) := Lib.hid (by
    have hx35 := (x4.trans x5)
    refine ⟨[], [], 0, 0, t.data.toList, [], ⟨0, by rw [hz, Nat.zero_add], rfl, x5.block hb4⟩, ⟨⟨.slice none 0 0, none, ⟨hx35.block hb3, ⟨rfl, .inl ⟨rfl, none, rfl⟩⟩, (fun z hz => by cases hz), (fun p hp => by cases hp)⟩⟩, hb5, ((x3.trans x4).trans x5).block HB2.out⟩, X2.out.trans ((x3.trans x4).trans x5), rfl, by rw [hz]; exact Nat.le_refl _, rfl, by rw [hz]; simp, by rw [hz]; simp⟩)
  clear x3 x4 x5 hb3 hb4 hb5 hs3 hs4 hB hz
  have HT := Lib.hid (lexL_small t.size t.data.toList.length t.data.toList [] 0 0 (Nat.le_refl _))
  go_wp2_with fail
  go_loopg [8, 9, 10] t.size (fun gf _ _ _ wr => ARel w.heap.size lb ob sb rb t w gf wr)
  case atStart => exact HREL0.out
  case round =>
    obtain ⟨done, raw, a, b, r, L, hrd, has, hx, hfl, hgf, hlex, hll, hrl⟩ := hrel
    have HAS := Lib.hid has
    have HX := Lib.hid hx
    have HFL := Lib.hid hfl
    have HGF := Lib.hid hgf
    have HLEX := Lib.hid hlex
    have HLL := Lib.hid hll
    have HRL := Lib.hid hrl
    have HRD := Lib.hid hrd
    have hd := HD.out
    obtain ⟨k, k1, k2, k3⟩ := hrd
    obtain ⟨⟨lv0, gb0, tl0⟩, hob0, hsb0⟩ := has
    have hbz : w.heap.size ≤ wr.heap.size := hx.size
    have hrbz := (Array.getElem?_eq_some_iff.1 k3).1
    have c0 : ∀ u : ExtOf wr, u.val.cell? ⟨rb, 1, none⟩ = some (.int .i64 k) := fun u => u.ext.cell (cellOf k3 rfl)
    have c1 : ∀ u : ExtOf wr, u.val.cell? ⟨sb, 0, none⟩ = some (.string t) := fun u => u.ext.cell (cellOf hsb0 rfl)
    have HK := Lib.hid (And.intro k1 (And.intro k2 k3))
    clear hx hfl hgf hlex hll hrl tl0 hob0 hsb0 k3 hd
    cases r with
    | nil =>
      have hlt : decide ((k : Int) < (t.size : Int)) = false := decide_eq_false (by simp at k1; omega)
      have hltn : decide (k < t.size) = false := decide_eq_false (by simp at k1; omega)
      clear k1 k2
      go_upto_region 8 with fail
      refine wp_region_ext (by kernel_rfl) (by kernel_rfl) ?_
      repeat (go_big_quiet_step (fail))
      refine wpQuiet_nil ?_
      rintro _ ⟨u, rfl⟩
      have xu := u.ext
      obtain ⟨w6, hw6⟩ : ∃ w', u.val = w' := ⟨_, rfl⟩
      rw [hw6] at xu ⊢
      obtain ⟨⟨lv, gb, tl6⟩, _, _⟩ := HAS.out.ext xu
      have c6 := cellOf tl6.box (i := 0) (v := lv) rfl
      have XW6 := Lib.hid (HX.out.trans xu)
      have HTL6 := Lib.hid tl6
      have HTT : Hid (L.map Prod.fst = lexL t.size [] 0 0 t.data.toList) := Lib.hid (by rw [HFL.out, ← HLEX.out, lexL_nil])
      obtain ⟨la, lcap, hlv, _⟩ := tl6.row.rd.len_of
      have HLV := Lib.hid hlv
      rw [hlv] at c6
      clear c0 c1 hw6 xu tl6 hlt hltn hlv
      clear u
      obtain ⟨T, hT⟩ : ∃ T, lexL t.size [] 0 0 t.data.toList = T := ⟨_, rfl⟩
      rw [hT] at HTT
      have HTE := Lib.hid hT
      have hTl : L.length = T.length := by rw [← HTT.out, List.length_map]
      clear hT
      go_wp2_with fail
      clear c6
      go_loopw [71, 11] (fun i _ wl => ∃ (m : Nat) (L' : List TkA), m ≤ L.length ∧ i = .int .i64 m ∧ TL w.heap.size (Nb lb ob sb rb) lb L' lv gb wl ∧ L'.length = L.length ∧ L'.map Prod.fst = (T.take m).map Tk.fin ++ T.drop m ∧ Ext w wl) (fun i _ _ => L.length - (intOf i).toNat)
      case atStart => exact ⟨0, L, Nat.zero_le _, rfl, HTL6.out, rfl, by simpa using HTT.out, XW6.out⟩
      case round =>
        obtain ⟨m, L', hm, rfl, htl, hl', hmap, hxl⟩ := hrel
        have HTLL := Lib.hid htl
        have HL' := Lib.hid hl'
        have HMAP := Lib.hid hmap
        have HXL := Lib.hid hxl
        have c6 := cellOf htl.box (i := 0) (v := lv) rfl
        have hlen8 : L.length ≤ 8192 := by have := HLL.out; simp at this; omega
        by_cases hml : m < L.length
        · obtain ⟨p, hp⟩ : ∃ p, L'[m]? = some p := ⟨L'[m]'(by omega), List.getElem?_eq_getElem (by omega)⟩
          have htp : T[m]? = some p.1 := by
            have h1 := congrArg (fun l : List Tk => l[m]?) hmap
            simp only [List.getElem?_map, hp, Option.map_some] at h1
            rw [List.getElem?_append_right (by simp; omega)] at h1
            have hmin : min m T.length = m := by omega
            simp only [List.length_map, List.length_take, hmin, Nat.sub_self, List.getElem?_drop, Nat.add_zero] at h1
            exact h1.symm
          obtain ⟨g, cap, cur, hgb, hBg, hNg, hlvg, hrow, hrl, hq1, hq2, hrt⟩ := htl.some_ (by omega)
          have hlv2 : Value.slice la L.length lcap = Value.slice (some ⟨g, 0, none⟩) L'.length cap := HLV.out.symm.trans hlvg
          rw [hl'] at hlv2
          injection hlv2 with hla hlc1 hlc2
          subst hla
          subst hlc2
          have e0 := row_cell (f := 0) hrow hrt hp (v := .int .i64 p.1.kind) rfl
          have e2 := row_cell (f := 2) hrow hrt hp (v := .string (bs p.1.text)) rfl
          have ff2 := freeOf hrow (m * 7 + 2)
          rw [Nat.add_zero] at e0
          rw [HLV.out] at c6
          have HP := Lib.hid hp
          have HTP := Lib.hid htp
          have HGB := Lib.hid hgb
          have hgl : g ≠ lb := fun e => hNg (.inl e)
          have hgs : g ≠ sb := fun e => hNg (.inr (.inr (.inl e)))
          have HTX := Lib.hid (HT.out.1 p.1 (by rw [HTE.out]; exact List.mem_of_getElem? htp))
          have htn : (m : Int).toNat = m := by omega
          have hmi : (m : Int) < (L.length : Int) := by omega
          have hm0 : (0 : Int) ≤ (m : Int) := by omega
          have hbw : w.heap.size ≤ g := hBg
          clear htl hl' hmap hxl hp htp hgb hNg hlvg hrow hrl hq1 hq2 hrt hBg
          by_cases hk1 : p.1.kind = 1
          · have hki : (p.1.kind == 1) = true := by rw [hk1]; rfl
            have HK1 := Lib.hid hk1
            clear hk1
            have HNX : Hid ((T.take (m + 1)).map Tk.fin ++ T.drop (m + 1) = ((T.take m).map Tk.fin ++ T.drop m).set m p.1.fin) := Lib.hid (map_step HTP.out)
            have hdz : (bs p.1.text).size ≤ 100000000000 := by rw [bs_size]; have h7 := HTX.out; have h8 := H81.out; have hz : t.data.toList.length = t.size := rfl; have h9 : ([] : List UInt8).length = 0 := rfl; omega
            have HDE := Lib.hid (fun W hW => (show Calls Tryz.prog 14 #[.string (bs p.1.text)] W (RVal (.string (bs (decT p.1.text))) W) from Decode_any (bs p.1.text) hdz W hW))
            obtain ⟨dt, hdt⟩ : ∃ x, decT p.1.text = x := ⟨_, rfl⟩
            rw [hdt] at HDE
            have HFI : Hid (p.1.fin = { p.1 with text := dt }) := Lib.hid (by unfold Tk.fin; rw [if_pos HK1.out, hdt])
            obtain ⟨pt, hpt⟩ : ∃ pt, bs p.1.text = pt := ⟨_, rfl⟩
            rw [hpt] at e2 HDE
            obtain ⟨kd, hkd⟩ : ∃ z, p.1.kind = z := ⟨_, rfl⟩
            rw [hkd] at e0 hki
            clear hpt hdz hkd hdt
            go_upto_region 24 with fail
            refine wp_region_E (S := fun w' => w'.cell? ⟨lb, 0, none⟩ = some (.slice (some ⟨g, 0, none⟩) L.length lcap) ∧ w'.cell? ⟨g, m * 7 + 2, none⟩ = some (.string pt)) (n := 10) (by kernel_rfl) ?_
            have hS : wr.drew.cell? ⟨lb, 0, none⟩ = some (.slice (some ⟨g, 0, none⟩) L.length lcap) ∧ wr.drew.cell? ⟨g, m * 7 + 2, none⟩ = some (.string pt) := ⟨c6, e2⟩
            show wpE _ _ _ _ _ 10 11 (Array.replicate 11 false) _ _
            refine wpE_take (i := 0) (v := .slice (some ⟨g, 0, none⟩) L.length lcap) (o := { dst := some 80, op := _, type := _, pos := _, after := _, guard := none }) rfl (by kernel_rfl) (by kernel_rfl) (by kernel_rfl) (by kernel_rfl) (fun _ _ _ h => h) (Or.inl ⟨by rfl, fun w' hSw => ?_⟩) hS ?_
            · (obtain ⟨s1, s2⟩ := hSw; clear hS; go_simp)
            try simp only [Act.put, List.setIfInBounds_toArray, List.set_cons_zero, List.set_cons_succ]
            refine wpE_take (i := 1) (v := .int .i64 m) (o := { dst := some 81, op := _, type := _, pos := _, after := _, guard := none }) rfl (by kernel_rfl) (by kernel_rfl) (by kernel_rfl) (by kernel_rfl) (fun _ _ _ h => h) (Or.inl ⟨by rfl, fun w' hSw => ?_⟩) hS ?_
            · (obtain ⟨s1, s2⟩ := hSw; clear hS; go_simp)
            try simp only [Act.put, List.setIfInBounds_toArray, List.set_cons_zero, List.set_cons_succ]
            refine wpE_take (i := 2) (v := .slice (some ⟨g, 0, none⟩) L.length lcap) (o := { dst := some 82, op := _, type := _, pos := _, after := _, guard := none }) rfl (by kernel_rfl) (by kernel_rfl) (by kernel_rfl) (by kernel_rfl) (fun _ _ _ h => h) (Or.inl ⟨by rfl, fun w' hSw => ?_⟩) hS ?_
            · (obtain ⟨s1, s2⟩ := hSw; clear hS; go_simp)
            try simp only [Act.put, List.setIfInBounds_toArray, List.set_cons_zero, List.set_cons_succ]
            refine wpE_take (i := 3) (v := .int .i64 m) (o := { dst := some 83, op := _, type := _, pos := _, after := _, guard := none }) rfl (by kernel_rfl) (by kernel_rfl) (by kernel_rfl) (by kernel_rfl) (fun _ _ _ h => h) (Or.inl ⟨by rfl, fun w' hSw => ?_⟩) hS ?_
            · (obtain ⟨s1, s2⟩ := hSw; clear hS; go_simp)
            try simp only [Act.put, List.setIfInBounds_toArray, List.set_cons_zero, List.set_cons_succ]
            refine wpE_take (i := 4) (v := .pointer (some ⟨g, m * 7, none⟩)) (o := { dst := some 84, op := _, type := _, pos := _, after := _, guard := none }) rfl (by kernel_rfl) (by kernel_rfl) (by kernel_rfl) (by kernel_rfl) (fun _ _ _ h => h) (Or.inl ⟨by rfl, fun w' hSw => ?_⟩) hS ?_
            · (obtain ⟨s1, s2⟩ := hSw; clear hS; go_simp)
            try simp only [Act.put, List.setIfInBounds_toArray, List.set_cons_zero, List.set_cons_succ]
            refine wpE_take (i := 5) (v := .pointer (some ⟨g, m * 7 + 2, none⟩)) (o := { dst := some 85, op := _, type := _, pos := _, after := _, guard := none }) rfl (by kernel_rfl) (by kernel_rfl) (by kernel_rfl) (by kernel_rfl) (fun _ _ _ h => h) (Or.inl ⟨by rfl, fun w' hSw => ?_⟩) hS ?_
            · (obtain ⟨s1, s2⟩ := hSw; clear hS; go_simp)
            try simp only [Act.put, List.setIfInBounds_toArray, List.set_cons_zero, List.set_cons_succ]
            refine wpE_take (i := 6) (v := .string pt) (o := { dst := some 86, op := _, type := _, pos := _, after := _, guard := none }) rfl (by kernel_rfl) (by kernel_rfl) (by kernel_rfl) (by kernel_rfl) (fun _ _ _ h => h) (Or.inl ⟨by rfl, fun w' hSw => ?_⟩) hS ?_
            · (obtain ⟨s1, s2⟩ := hSw; clear hS; go_simp)
            try simp only [Act.put, List.setIfInBounds_toArray, List.set_cons_zero, List.set_cons_succ]
            obtain ⟨wd, hwd⟩ : ∃ wd : World, wd = wr.drew := ⟨_, rfl⟩
            have xd : Ext wr wd := by rw [hwd]; exact (Ext.refl _).drew
            rw [← hwd] at hS ⊢
            clear hwd
            refine wpE_one (i := 7) (o := { dst := some 87, op := _, type := _, pos := _, after := _, guard := none }) (by kernel_rfl) rfl (fun K hK => ?_)
            go_simp
            go_at_call 14
            refine (HDE.out wd (HL.out.ext (HXL.out.trans xd))).mono ?_
            rintro e w30 ⟨rfl, x30⟩
            have x31 : Ext wr w30 := xd.trans x30
            have hS2 := And.intro (x31.cell c6) (x31.cell e2)
            have gf2 := x31.free (cell_lt e2) ff2
            have TL30 := Lib.hid (HTLL.out.ext x31)
            have X30 := Lib.hid (HXL.out.trans x31)
            refine hK.out _ _ (.inr hS2) ?_
            clear hK K hS x30 x31 xd
            have hS := hS2
            clear hS2
            try simp only [Act.put, List.setIfInBounds_toArray, List.set_cons_zero, List.set_cons_succ]
            refine wpE_one (i := 8) (o := { dst := some 88, op := _, type := _, pos := _, after := _, guard := none }) (by kernel_rfl) rfl (fun K hK => ?_)
            go_simp
            refine hK.out _ _ (.inr hS) ?_
            clear hK K
            try simp only [Act.put, List.setIfInBounds_toArray, List.set_cons_zero, List.set_cons_succ]
            refine wpE_one (i := 9) (o := { dst := some 89, op := _, type := _, pos := _, after := _, guard := none }) (by kernel_rfl) rfl (fun K hK => ?_)
            go_simp
            refine hK.out _ _ (.inr hS) ?_
            clear hK K
            try simp only [Act.put, List.setIfInBounds_toArray, List.set_cons_zero, List.set_cons_succ]
            have hcg := hS.2
            refine wpE_one (i := 10) (o := { dst := none, op := _, type := _, pos := _, after := _, guard := none }) (by kernel_rfl) rfl (fun K hK => ?_)
            go_simp
            refine hK.out _ _ (.inl rfl) ?_
            clear hK K hS hcg
            refine wpE_done (by kernel_rfl) ?_
            have TL31 := Lib.hid (TL30.out.set (i := m) (f := 2) (p' := (p.1.fin, p.2)) (v := .string (bs dt)) HP.out (by decide) (by rw [HFI.out]; rfl) rfl (by rw [HFI.out]) (.inl rfl) HGB.out)
            have X31 : Hid (Ext w (w30.setCell ⟨g, m * 7 + 2, none⟩ (.string (bs dt)))) := Lib.hid (X30.out.setCell (p := ⟨g, m * 7 + 2, none⟩) hbw _)
            clear gf2
            go_wp2_with fail
            go_roundw
            case rel => exact ⟨m + 1, L'.set m (p.1.fin, p.2), by omega, by go_num, TL31.out, by rw [List.length_set]; exact HL'.out, by rw [HNX.out, ← HMAP.out, List.map_set], X31.out⟩
            case measure => simp [intOf]; omega
          · have hki : (p.1.kind == 1) = false := by rw [beq_eq_false_iff_ne]; exact hk1
            have HNX : Hid ((T.take (m + 1)).map Tk.fin ++ T.drop (m + 1) = (T.take m).map Tk.fin ++ T.drop m) := Lib.hid (map_same HTP.out (by unfold Tk.fin; rw [if_neg hk1]))
            obtain ⟨kd, hkd⟩ : ∃ z, p.1.kind = z := ⟨_, rfl⟩
            rw [hkd] at e0 hki
            clear hkd hk1 e2
            go_wp2_with fail
            go_roundw
            case rel => exact ⟨m + 1, L', by omega, by go_num, HTLL.out, HL'.out, by rw [HNX.out]; exact HMAP.out, HXL.out⟩
            case measure => simp [intOf]; omega
        · obtain rfl : m = L.length := by omega
          have hfin : L'.map Prod.fst = tokens t.data.toList := by
            rw [hmap, hTl, List.take_length, List.drop_length, List.append_nil]
            unfold tokens
            rw [show t.data.toList.length = t.size from rfl, HTE.out]
          have HFIN : Hid (TkRd wr lv (tokens t.data.toList)) := Lib.hid ⟨L', hfin, RowP.imp htl.row (fun _ _ _ => trivial), fun p hp => (htl.att p hp).rd⟩
          clear hfin htl hl' hmap hxl
          go_wp2_with fail
          go_ret2
          exact .inr ⟨H81.out, lv, rfl, HXL.out, HFIN.out⟩
    | cons c q =>
      obtain ⟨hk, hck, hq1, hq2⟩ := Rd.head k1 k2
      have hlt : decide ((k : Int) < (t.size : Int)) = true := decide_eq_true (by omega)
      have hltn : decide (k < t.size) = true := decide_eq_true hk
      have hix : ∀ W : World, (Instr.index 9 (.string t) (.int .i64 (k : Int))).run Tryz.prog W = .ok (.int .u8 (c.toNat : Int)) W := by
        intro W
        rw [run_index_string W 9 t .i64 (k : Int) Tryz.underlying9, dif_pos ⟨by omega, by omega⟩]
        simp only [Int.toNat_natCast, hck]
      have HQ := Lib.hid (And.intro hq1 hq2)
      have hkl : k + (q.length + 1) = t.size := by simpa using k1
      clear k1 k2 hq1 hq2 hck
      go_upto_region 8 with fail
      refine wp_region_ext (by kernel_rfl) (by kernel_rfl) ?_
      repeat (go_big_quiet_step (fail))
      refine wpQuiet_nil ?_
      rintro _ ⟨u, rfl⟩
      have xu := u.ext
      have c0' := c0 u
      have c1' := c1 u
      obtain ⟨w6, hw6⟩ : ∃ w', u.val = w' := ⟨_, rfl⟩
      rw [hw6] at xu c0' c1' ⊢
      have X6 := Lib.hid xu
      have HAS6 := Lib.hid (HAS.out.ext xu)
      have HRD6 := Lib.hid (HRD.out.ext xu)
      have XW6 := Lib.hid (HX.out.trans xu)
      clear c0 c1 hw6 xu
      clear u
      have hu8 := u8_ne c 60
      by_cases hc : c = 60
      · subst hc
        have e60 : (((60 : UInt8).toNat : Int) != 60) = false := rfl
        have e60b : ((60 : Int) != 60) = false := rfl
        clear hu8
        have HNOTE := Lib.hid (note_any rb t (60 :: q) w6 (by omega) HRD6.out (HL.out.ext XW6.out))
        cases hno : noteL (60 :: q) with
        | some e5 =>
          rw [hno] at HNOTE
          have HN := Lib.hid (lexL_note (N := t.size) (raw := raw) (a := a) (b := b) hno)
          have hn2 := (noteL_suf hno).2
          simp only [List.length_cons] at hn2
          clear hno
          go_wp2_with (go_at_call 12; refine HNOTE.out.mono ?_)
          rintro e w7 ⟨rfl, m7, r7⟩
          have M7 := Lib.hid m7
          have R7 := Lib.hid r7
          clear m7 r7 c0' c1'
          go_wp2_with fail
          obtain ⟨g', rfl⟩ : ∃ g', gk = g' + 1 := ⟨gk - 1, by have := HGF.out; simp at this; omega⟩
          go_roundg g'
          case measure => omega
          case rel =>
            have h1 := HGF.out; have h2 := HLL.out; have h3 := HRL.out
            simp only [List.length_cons] at h1 h2 h3
            exact ⟨done, raw, a, b, e5, L, R7.out, HAS6.out.rdr M7.out HD.out, Mv.toExt XW6.out M7.out (fun x hx => by rw [(show x = rb from hx)]; have := HD.out.b; have := HD.out.sl; have := HD.out.lr; omega), HFL.out, by omega, by rw [← HN.out]; exact HLEX.out, by omega, by omega⟩
        | none =>
          rw [hno] at HNOTE
          have HNO := Lib.hid hno
          clear hno
          go_wp2_with (go_at_call 12; refine HNOTE.out.mono ?_)
          rintro e w7 ⟨rfl, m7, r7⟩
          have XW7 : Hid (Ext w w7) := Lib.hid (Mv.toExt XW6.out m7 (fun x hx => by rw [(show x = rb from hx)]; have := HD.out.b; have := HD.out.sl; have := HD.out.lr; omega))
          have HAS7 := Lib.hid (HAS6.out.rdr m7 HD.out)
          have HTAG := Lib.hid (tag_any rb t 60 q w7 (by omega) r7 (fun W hW => HL.out.ext (Mv.toExt XW7.out hW (fun x hx => by rw [(show x = rb from hx)]; have := HD.out.b; have := HD.out.sl; have := HD.out.lr; omega))))
          clear m7 r7 c0' c1'
          cases hta : tagL t.size (60 :: q) with
          | some te =>
            obtain ⟨tk, e5⟩ := te
            rw [hta] at HTAG
            have HN := Lib.hid (lexL_tag (N := t.size) (raw := raw) (a := a) (b := b) HNO.out hta)
            have hn2 := (tagL_len hta).2
            simp only [List.length_cons] at hn2
            clear hta
            go_wp2_with (go_at_call 13; refine HTAG.out.mono ?_)
            rintro e w8 ⟨av, rfl, m8, r8, hav⟩
            unfold tkV
            have hws7 := m8.size
            have as8 := HAS7.out.rdr m8 HD.out
            obtain ⟨⟨lv, gb, tl7⟩, _, _⟩ := HAS7.out
            have xw8 := Mv.toExt XW7.out m8 (fun x hx => by rw [(show x = rb from hx)]; have := HD.out.b; have := HD.out.sl; have := HD.out.lr; omega)
            have tl8 : TL w.heap.size (Nb lb ob sb rb) lb L lv gb w8 := tl7.mv m8 (fun g hg => .inr (.inr (.inr hg))) (by show ¬ lb = rb; have := HD.out.lr; omega)
            have hN7 : ∀ g, Nb lb ob sb rb g → g < w7.heap.size := by
              obtain ⟨_, hob7, hsb7⟩ := HAS7.out
              rintro g (rfl | rfl | rfl | rfl)
              · exact (Array.getElem?_eq_some_iff.1 tl7.box).1
              · exact (Array.getElem?_eq_some_iff.1 hob7).1
              · exact (Array.getElem?_eq_some_iff.1 hsb7).1
              · have := HD.out.ro; have := (Array.getElem?_eq_some_iff.1 hob7).1; omega
            obtain ⟨ava, avc, rfl, _⟩ := hav.rd.len_of
            have havc := RowP.imp hav.full (q := fun g => w.heap.size ≤ g ∧ ¬ Nb lb ob sb rb g ∧ gb ≠ some g ∧ g < w8.heap.size) (fun g _ hg => ⟨Nat.le_trans XW7.out.size hg.1, fun hn => absurd (hN7 g hn) (Nat.not_lt.2 hg.1), fun e => absurd (tl7.blk g e).1 (Nat.not_lt.2 hg.1), hg.2⟩)
            have x9 := (Ext.refl w8).alloc (.cells (tkV tk.kind tk.name tk.text (.slice ava tk.attrs.length avc) (if tk.self then 1 else 0) tk.lo tk.hi) 30)
            have hb9 := heap_alloc_new w8 (.cells (tkV tk.kind tk.name tk.text (.slice ava tk.attrs.length avc) (if tk.self then 1 else 0) tk.lo tk.hi) 30)
            have as9 := as8.ext x9
            have tl9 := tl8.ext x9
            have r9 := r8.ext x9
            have xw9 := xw8.trans x9
            have hav9 := RowP.imp (havc.ext x9) (q := fun g => w.heap.size ≤ g ∧ ¬ Nb lb ob sb rb g ∧ gb ≠ some g ∧ g < (w8.alloc (.cells (tkV tk.kind tk.name tk.text (.slice ava tk.attrs.length avc) (if tk.self then 1 else 0) tk.lo tk.hi) 30)).heap.size) (fun g _ hg => ⟨hg.1, hg.2.1, hg.2.2.1, Nat.lt_of_lt_of_le hg.2.2.2 x9.size⟩)
            obtain ⟨sz, hsz⟩ : ∃ z : Int, (if tk.self then (1 : Int) else 0) = z := ⟨_, rfl⟩
            unfold tkV at x9 hb9 as9 tl9 r9 xw9 hav9
            rw [hsz] at x9 hb9 as9 tl9 r9 xw9 hav9 ⊢
            have HSZ := Lib.hid (show selfZ tk.self = sz from hsz)
            clear m8 r8 hav havc as8 tl8 tl7 xw8 hsz
            go_upto_region 16 with fail
            obtain ⟨w9, hw9⟩ : ∃ w' : World, w' = w8.alloc (.cells #[.int .i64 tk.kind, .string (bs tk.name), .string (bs tk.text), .slice ava tk.attrs.length avc, .int .i64 sz, .int .i64 (tk.lo : Int), .int .i64 (tk.hi : Int)] 30) := ⟨_, rfl⟩
            rw [← hw9] at x9 hb9 as9 tl9 r9 xw9 hav9 ⊢
            clear hw9
            obtain ⟨b9, hb9e⟩ : ∃ b, w8.heap.size = b := ⟨_, rfl⟩
            rw [hb9e] at hb9 ⊢
            have hx9 := x9.size
            clear hb9e
            have d0 := cellOf hb9 (i := 0) (v := .int .i64 tk.kind) rfl
            have d1 := cellOf hb9 (i := 1) (v := .string (bs tk.name)) rfl
            have d2 := cellOf hb9 (i := 2) (v := .string (bs tk.text)) rfl
            have d3 := cellOf hb9 (i := 3) (v := .slice ava tk.attrs.length avc) rfl
            have d4 := cellOf hb9 (i := 4) (v := .int .i64 sz) rfl
            have d5 := cellOf hb9 (i := 5) (v := .int .i64 (tk.lo : Int)) rfl
            have d6 := cellOf hb9 (i := 6) (v := .int .i64 (tk.hi : Int)) rfl
            have c9 := cellOf tl9.box (i := 0) (v := lv) rfl
            obtain ⟨a0, cap0, wB, hrun, hboxB, hmB, gb1, TLP⟩ := tl9.push (by have := HLL.out; omega) (fun g hg => Nat.lt_of_lt_of_le (hN7 g hg) (Nat.le_trans hws7 hx9)) (.inl rfl) xw9.size (tk, .slice ava tk.attrs.length avc) rfl hav9 (cs := #[.int .i64 tk.kind, .string (bs tk.name), .string (bs tk.text), .slice ava tk.attrs.length avc, .int .i64 sz, .int .i64 (tk.lo : Int), .int .i64 (tk.hi : Int)]) (by rw [← HSZ.out]; rfl)
            have nOb : ¬ gb = some ob := fun e => (tl9.blk ob e).2.2 (.inr (.inl rfl))
            have nSb : ¬ gb = some sb := fun e => (tl9.blk sb e).2.2 (.inr (.inr (.inl rfl)))
            have nRb : ¬ gb = some rb := fun e => (tl9.blk rb e).2.2 (.inr (.inr (.inr rfl)))
            obtain ⟨_, OB9, SB9⟩ := as9
            have OBB := hmB.block OB9 nOb
            have SBB := hmB.block SB9 nSb
            have RB := r9.mv hmB nRb
            have XB := Mv.toExt xw9 hmB (fun x hx => (tl9.blk x hx).2.1)
            have m1 : Mv (· = lb) wB (wB.setCell ⟨lb, 0, none⟩ (.slice a0 (L.length + 1) cap0)) := Mv.setRb (Mv.refl _ wB) _
            have hDD := HD.out
            have OB1 := m1.block OBB (show ¬ ob = lb by have := hDD.lr; have := hDD.ro; omega)
            have SB1 := m1.block SBB (show ¬ sb = lb by have := hDD.sl; omega)
            have R1 := RB.mv m1 (show ¬ rb = lb by have := hDD.lr; omega)
            have X1 := Mv.toExt XB m1 (fun x hx => by rw [(show x = lb from hx)]; have := hDD.b; have := hDD.sl; omega)
            have b3 := cellOf hboxB (i := 0) (v := lv) rfl
            have g3 := freeOf hboxB 0
            have HRUN := Lib.hid hrun
            have m2 : Mv (· = ob) (wB.setCell ⟨lb, 0, none⟩ (.slice a0 (L.length + 1) cap0)) ((wB.setCell ⟨lb, 0, none⟩ (.slice a0 (L.length + 1) cap0)).setCell ⟨ob, 0, none⟩ (.bool false)) := Mv.setRb (Mv.refl _ _) _
            have OB2 := heap_setCell_same (i := 0) OB1 (.bool false)
            have SB2 := m2.block SB1 (show ¬ sb = ob by have := hDD.sl; have := hDD.lr; have := hDD.ro; omega)
            have R2 := R1.mv m2 (show ¬ rb = ob by have := hDD.ro; omega)
            have X2' := Mv.toExt X1 m2 (fun x hx => by rw [(show x = ob from hx)]; have := hDD.b; have := hDD.sl; have := hDD.lr; have := hDD.ro; omega)
            have TL2 := TLP.mv m2 (fun g hg => .inr (.inl hg)) (show ¬ lb = ob by have := hDD.lr; have := hDD.ro; omega)
            have AS2 : Hid (AS w.heap.size lb ob sb rb t false (L ++ [(tk, .slice ava tk.attrs.length avc)]) ((wB.setCell ⟨lb, 0, none⟩ (.slice a0 (L.length + 1) cap0)).setCell ⟨ob, 0, none⟩ (.bool false))) := Lib.hid ⟨⟨_, _, TL2⟩, OB2, SB2⟩
            have R2H := Lib.hid R2
            have X2H := Lib.hid X2'
            have o1 := cellOf OB1 (i := 0) (v := .bool (opB raw)) rfl
            have o2 := freeOf OB1 0
            have OB1H := Lib.hid OB1
            clear hrun hboxB hmB TLP tl9 nOb nSb nRb OB9 SB9 OBB SBB RB XB m1 hDD OB1 SB1 R1 X1 m2 OB2 SB2 R2 X2' TL2 hav9 hb9 x9 r9 xw9 hN7 hws7 hx9
            go_wp2_with (at_builtin; refine wpList_append_run _ rfl _ _ 23 rfl _ _ rfl rfl _ _ HRUN.out ?_)
            obtain ⟨g', rfl⟩ : ∃ g', gk = g' + 1 := ⟨gk - 1, by have := HGF.out; simp at this; omega⟩
            go_roundg g'
            case measure => omega
            case rel =>
              have h1 := HGF.out; have h2 := HLL.out; have h3 := HRL.out
              simp only [List.length_cons] at h1 h2 h3
              refine ⟨done ++ flushT raw a b ++ [tk], [], a, b, e5, L ++ [(tk, .slice ava tk.attrs.length avc)], R2H.out, (by rw [opB_nil]; exact AS2.out), X2H.out, ?_, by omega, ?_, by simp; omega, by simp; omega⟩
              · rw [List.map_append, HFL.out, flush_nil, List.append_nil]; rfl
              · rw [← HLEX.out, HN.out]; simp
          | none =>
            rw [hta] at HTAG
            have HCH := Lib.hid (lexL_char (N := t.size) (raw := raw) (a := a) (b := b) (c := 60) (q := q) (.inr ⟨HNO.out, hta⟩))
            clear hta
            go_wp2_with (go_at_call 13; refine HTAG.out.mono ?_)
            rintro e w8 ⟨f0, f1, f2, f3, f3a, f3c, f4, f5, f6, r9, rfl, rfl, m8, r8⟩
            unfold tkV
            have x9 := (Ext.refl w8).alloc (.cells (tkV f0 f1 f2 (.slice f3a 0 f3c) f4 f5 f6) 30)
            have hb9 := (x9.block (show w8.heap[rb]? = some (.cells #[.string t, .int .i64 ((t.size - r9.length : Nat) : Int)] 35 (0, 0)) by obtain ⟨k9, g1, g2, g3⟩ := r8; rw [g3, show t.size - r9.length = k9 by omega]))
            have as9 := (HAS7.out.rdr m8 HD.out).ext x9
            have xw9 := (Mv.toExt XW7.out m8 (fun x hx => by rw [(show x = rb from hx)]; have := HD.out.b; have := HD.out.sl; have := HD.out.lr; omega)).trans x9
            have hwk : IntKind.i64.wrap ((k : Int) + 1) = (k : Int) + 1 := IntWalk.i64_in _ (by omega)
            unfold tkV at x9 hb9 as9 xw9
            clear m8 r8
            go_upto_region 18 with fail
            obtain ⟨w9, hw9⟩ : ∃ w' : World, w' = w8.alloc (.cells #[.int .i64 f0, .string (bs f1), .string (bs f2), .slice f3a 0 f3c, .int .i64 f4, .int .i64 f5, .int .i64 f6] 30) := ⟨_, rfl⟩
            rw [← hw9] at x9 hb9 as9 xw9 ⊢
            clear hw9 x9
            have c9 := cellOf hb9 (i := 1) rfl
            have f9 := freeOf hb9 1
            have RDx := Lib.hid (Rd.move (k := k + 1) (r := q) hb9 HQ.out.2 HQ.out.1)
            have hbx := heap_setCell_same (i := 1) hb9 (.int .i64 ((k + 1 : Nat) : Int))
            have m10 : Mv (· = rb) w9 (w9.setCell ⟨rb, 1, none⟩ (.int .i64 ((k + 1 : Nat) : Int))) := Mv.setRb (Mv.refl _ w9) _
            have HASx := Lib.hid (as9.rdr m10 HD.out)
            have XWx := Lib.hid (Mv.toExt xw9 m10 (fun x hx => by rw [(show x = rb from hx)]; have := HD.out.b; have := HD.out.sl; have := HD.out.lr; omega))
            clear hb9 as9 xw9 m10
            go_upto_region 19 with fail
            obtain ⟨w10, hw10⟩ : ∃ w' : World, w' = w9.setCell ⟨rb, 1, none⟩ (.int .i64 ((k + 1 : Nat) : Int)) := ⟨_, rfl⟩
            have hw10' : w9.setCell ⟨rb, 1, none⟩ (.int .i64 ((k : Int) + 1)) = w10 := by rw [hw10]; push_cast; rfl
            rw [hw10']
            rw [← hw10] at RDx hbx HASx XWx
            clear hw10 hw10' c9 f9 hwk
            have cx := cellOf hbx (i := 1) (v := .int .i64 ((k + 1 : Nat) : Int)) rfl
            have hk2x : k + 1 ≤ t.size := by omega
            have HPCx : Hid (t.extract k (k + 1) = bs [60]) := Lib.hid (by
              have h := bs_cut t.data.toList k (k + 1)
              rw [bs_list] at h
              rw [h, ← HK.out.2.1, Nat.add_sub_cancel_left]
              rfl)
            have HLXx : Hid (lexL t.size raw a b (60 :: q) = lexL t.size (raw ++ [60]) (if raw = [] then k else a) (k + 1) q) := Lib.hid (by
              have h := HCH.out
              rw [h, show t.size - (q.length + 1) = k by omega, show t.size - q.length = k + 1 by omega])
            have HLENx : Hid (q.length + ([60] : List UInt8).length = q.length + 1 ∧ 1 ≤ ([60] : List UInt8).length) := Lib.hid ⟨rfl, by decide⟩
            obtain ⟨k10, hk10⟩ : ∃ j, k + 1 = j := ⟨_, rfl⟩
            rw [hk10] at cx hk2x HPCx HLXx
            have hkk : k ≤ k10 := by omega
            clear hbx hk10
            by_cases hraw : raw = []
            · have HLX0 : Hid (lexL t.size [] a b (60 :: q) = lexL t.size (([60] : List UInt8)) k (k10) (q)) := Lib.hid (by have h := HLXx.out; rw [hraw, if_pos rfl, List.nil_append] at h; exact h)
              subst hraw
              have HT5 := Lib.hid (text_new w.heap.size lb ob sb rb t L w10 (by omega) (by have := HLL.out; omega) HD.out RDx.out.lt HASx.out k (k10) (by omega) hk2x (([60] : List UInt8)) HPCx.out)
              go_wp2_with (go_at_call 9; refine HT5.out.mono ?_)
              rintro e w20 ⟨rfl, as20, m20⟩
              have AS20 := Lib.hid as20
              have M20 := Lib.hid m20
              clear as20 m20
              go_wp2_with fail
              obtain ⟨g', rfl⟩ : ∃ g', gk = g' + 1 := ⟨gk - 1, by have := HGF.out; simp at this; omega⟩
              go_roundg g'
              case measure => omega
              case rel =>
                have h1 := HGF.out; have h2 := HLL.out; have h3 := HRL.out; have h4 := HLENx.out
                simp only [List.length_cons] at h1 h2 h3
                have hne : (([60] : List UInt8)) ≠ [] := by intro e; rw [e] at h4; simp at h4
                refine ⟨done, ([60] : List UInt8), k, k10, q, L ++ [(⟨1, [], ([60] : List UInt8), [], false, k, k10⟩, .slice none 0 0)], RDx.out.mv M20.out (fun h => h.2.1 rfl), ?_, Mv.toExt XWx.out M20.out (fun x hx => hx.1), ?_, by omega, ?_, by first | omega | (simp; omega) | (rw [List.length_append, List.length_cons, List.length_nil]; omega), by first | omega | (simp; omega) | (rw [List.length_append]; omega)⟩
                · rw [opB_some hne]; exact AS20.out
                · rw [List.map_append, HFL.out, flush_nil, List.append_nil, flush_some hne]; rfl
                · rw [← HLEX.out, HLX0.out]
            · have hfl2 := HFL.out
              rw [flush_some hraw] at hfl2
              obtain ⟨D, p, rfl, hDm, hp1⟩ := map_snoc hfl2
              have HDM := Lib.hid hDm
              have HP1 := Lib.hid hp1
              have hop : opB raw = true := opB_some hraw
              have HRW := Lib.hid hraw
              have hasx := HASx.out
              rw [hop] at hasx
              have HT5 := Lib.hid (text_more w.heap.size lb ob sb rb t D p w10 (by omega) (by have := HLL.out; simp at this; omega) HD.out hasx (by rw [hp1]; have := HRL.out; simp at this ⊢; omega) k (k10) (by omega) hk2x (([60] : List UInt8)) HPCx.out)
              clear hfl2 hDm hp1 hop hasx hraw
              go_wp2_with (go_at_call 9; refine HT5.out.mono ?_)
              rintro e w20 ⟨rfl, as20, m20⟩
              have AS20 := Lib.hid as20
              have M20 := Lib.hid m20
              clear as20 m20
              go_wp2_with fail
              obtain ⟨g', rfl⟩ : ∃ g', gk = g' + 1 := ⟨gk - 1, by have := HGF.out; simp at this; omega⟩
              go_roundg g'
              case measure => omega
              case rel =>
                have h1 := HGF.out; have h2 := HLL.out; have h3 := HRL.out; have h4 := HLENx.out
                simp only [List.length_cons, List.length_append, List.length_nil] at h1 h2 h3
                have hne : raw ++ (([60] : List UInt8)) ≠ [] := by intro e; exact HRW.out (List.append_eq_nil_iff.1 e).1
                refine ⟨done, raw ++ (([60] : List UInt8)), a, k10, q, D ++ [(p.1.more (([60] : List UInt8)) (k10), p.2)], RDx.out.mv M20.out (fun h => h.2.1 rfl), ?_, Mv.toExt XWx.out M20.out (fun x hx => hx.1), ?_, by omega, ?_, by first | omega | (simp; omega) | (rw [List.length_append, List.length_cons, List.length_nil]; omega), by first | omega | (simp; omega) | (rw [List.length_append]; omega)⟩
                · rw [opB_some hne]; exact AS20.out
                · rw [List.map_append, HDM.out, flush_some hne, List.map_cons, List.map_nil, HP1.out]; rfl
                · rw [← HLEX.out, HLXx.out, if_neg HRW.out]
      · have e60 : ((c.toNat : Int) != 60) = true := hu8.trans (bne_iff_ne.2 hc)
        clear hu8
        have HRUN := Lib.hid (run_any rb t (c :: q) (neB 60) _ w6 (by omega) HRD6.out (isAll rb w6))
        go_wp2_with (go_at_call 10; refine HRUN.out.mono ?_)
        rintro e w7 ⟨rfl, m7, r7⟩
        obtain ⟨k7, g1, g2, g3⟩ := r7
        have hpl : (q.takeWhile (neB 60)).length + 1 + ((c :: q).dropWhile (neB 60)).length = q.length + 1 := by
          have h1 := congrArg List.length (take_drop_while (neB 60) (c :: q))
          have h2 : (c :: q).takeWhile (neB 60) = c :: q.takeWhile (neB 60) := List.takeWhile_cons_of_pos (by unfold neB; exact bne_iff_ne.2 hc)
          rw [h2, List.length_append, List.length_cons, List.length_cons] at h1
          exact h1
        have htw : (c :: q).takeWhile (neB 60) = c :: q.takeWhile (neB 60) := List.takeWhile_cons_of_pos (by unfold neB; exact bne_iff_ne.2 hc)
        have hk7 : k7 = k + (c :: q.takeWhile (neB 60)).length := by rw [List.length_cons]; omega
        have hk2x : k7 ≤ t.size := by omega
        have HPCx : Hid (t.extract k k7 = bs (c :: q.takeWhile (neB 60))) := Lib.hid (by
          have h := bs_cut t.data.toList k k7
          rw [bs_list] at h
          rw [h, ← HK.out.2.1, hk7, Nat.add_sub_cancel_left]
          conv => lhs; rw [← take_drop_while (neB 60) (c :: q), htw]
          rw [List.take_left' rfl])
        have HLXx : Hid (lexL t.size raw a b (c :: q) = lexL t.size (raw ++ (c :: q.takeWhile (neB 60))) (if raw = [] then k else a) k7 ((c :: q).dropWhile (neB 60))) := Lib.hid (by
          have h := lexL_run (N := t.size) (c :: q.takeWhile (neB 60)) raw a b ((c :: q).dropWhile (neB 60)) (by simp) (fun x hx => by
            rw [← htw] at hx
            have := takeWhile_mem hx
            unfold neB at this
            exact bne_iff_ne.1 this)
          rw [← htw, take_drop_while, htw] at h
          rw [h, show t.size - (c :: q).length = k by rw [List.length_cons]; omega, show t.size - ((c :: q).dropWhile (neB 60)).length = k7 by omega])
        have HLENx : Hid (((c :: q).dropWhile (neB 60)).length + (c :: q.takeWhile (neB 60)).length = q.length + 1 ∧ 1 ≤ (c :: q.takeWhile (neB 60)).length) := Lib.hid (by rw [List.length_cons]; exact ⟨by omega, by omega⟩)
        have RDx : Hid (Rd rb t ((c :: q).dropWhile (neB 60)) w7) := Lib.hid ⟨k7, g1, g2, g3⟩
        have cx := cellOf g3 (i := 1) (v := .int .i64 k7) rfl
        have HASx := Lib.hid (HAS6.out.rdr m7 HD.out)
        have XWx : Hid (Ext w w7) := Lib.hid (Mv.toExt XW6.out m7 (fun x hx => by rw [(show x = rb from hx)]; have := HD.out.b; have := HD.out.sl; have := HD.out.lr; omega))
        have hkk : k ≤ k7 := by omega
        clear g1 g2 g3 m7 hpl htw hk7 c0' c1' e60 hc
        by_cases hraw : raw = []
        · have HLX0 : Hid (lexL t.size [] a b (c :: q) = lexL t.size (c :: q.takeWhile (neB 60)) k (k7) ((c :: q).dropWhile (neB 60))) := Lib.hid (by have h := HLXx.out; rw [hraw, if_pos rfl, List.nil_append] at h; exact h)
          subst hraw
          have HT5 := Lib.hid (text_new w.heap.size lb ob sb rb t L w7 (by omega) (by have := HLL.out; omega) HD.out RDx.out.lt HASx.out k (k7) (by omega) hk2x (c :: q.takeWhile (neB 60)) HPCx.out)
          go_wp2_with (go_at_call 9; refine HT5.out.mono ?_)
          rintro e w20 ⟨rfl, as20, m20⟩
          have AS20 := Lib.hid as20
          have M20 := Lib.hid m20
          clear as20 m20
          go_wp2_with fail
          obtain ⟨g', rfl⟩ : ∃ g', gk = g' + 1 := ⟨gk - 1, by have := HGF.out; simp at this; omega⟩
          go_roundg g'
          case measure => omega
          case rel =>
            have h1 := HGF.out; have h2 := HLL.out; have h3 := HRL.out; have h4 := HLENx.out
            simp only [List.length_cons] at h1 h2 h3
            have hne : (c :: q.takeWhile (neB 60)) ≠ [] := by intro e; rw [e] at h4; simp at h4
            refine ⟨done, c :: q.takeWhile (neB 60), k, k7, (c :: q).dropWhile (neB 60), L ++ [(⟨1, [], c :: q.takeWhile (neB 60), [], false, k, k7⟩, .slice none 0 0)], RDx.out.mv M20.out (fun h => h.2.1 rfl), ?_, Mv.toExt XWx.out M20.out (fun x hx => hx.1), ?_, by omega, ?_, by first | omega | (simp; omega) | (rw [List.length_append, List.length_cons, List.length_nil]; omega), by first | omega | (simp; omega) | (rw [List.length_append]; omega)⟩
            · rw [opB_some hne]; exact AS20.out
            · rw [List.map_append, HFL.out, flush_nil, List.append_nil, flush_some hne]; rfl
            · rw [← HLEX.out, HLX0.out]
        · have hfl2 := HFL.out
          rw [flush_some hraw] at hfl2
          obtain ⟨D, p, rfl, hDm, hp1⟩ := map_snoc hfl2
          have HDM := Lib.hid hDm
          have HP1 := Lib.hid hp1
          have hop : opB raw = true := opB_some hraw
          have HRW := Lib.hid hraw
          have hasx := HASx.out
          rw [hop] at hasx
          have HT5 := Lib.hid (text_more w.heap.size lb ob sb rb t D p w7 (by omega) (by have := HLL.out; simp at this; omega) HD.out hasx (by rw [hp1]; have := HRL.out; simp at this ⊢; omega) k (k7) (by omega) hk2x (c :: q.takeWhile (neB 60)) HPCx.out)
          clear hfl2 hDm hp1 hop hasx hraw
          go_wp2_with (go_at_call 9; refine HT5.out.mono ?_)
          rintro e w20 ⟨rfl, as20, m20⟩
          have AS20 := Lib.hid as20
          have M20 := Lib.hid m20
          clear as20 m20
          go_wp2_with fail
          obtain ⟨g', rfl⟩ : ∃ g', gk = g' + 1 := ⟨gk - 1, by have := HGF.out; simp at this; omega⟩
          go_roundg g'
          case measure => omega
          case rel =>
            have h1 := HGF.out; have h2 := HLL.out; have h3 := HRL.out; have h4 := HLENx.out
            simp only [List.length_cons, List.length_append, List.length_nil] at h1 h2 h3
            have hne : raw ++ (c :: q.takeWhile (neB 60)) ≠ [] := by intro e; exact HRW.out (List.append_eq_nil_iff.1 e).1
            refine ⟨done, raw ++ (c :: q.takeWhile (neB 60)), a, k7, (c :: q).dropWhile (neB 60), D ++ [(p.1.more (c :: q.takeWhile (neB 60)) (k7), p.2)], RDx.out.mv M20.out (fun h => h.2.1 rfl), ?_, Mv.toExt XWx.out M20.out (fun x hx => hx.1), ?_, by omega, ?_, by first | omega | (simp; omega) | (rw [List.length_append, List.length_cons, List.length_nil]; omega), by first | omega | (simp; omega) | (rw [List.length_append]; omega)⟩
            · rw [opB_some hne]; exact AS20.out
            · rw [List.map_append, HDM.out, flush_some hne, List.map_cons, List.map_nil, HP1.out]; rfl
            · rw [← HLEX.out, HLXx.out, if_neg HRW.out]

end Go.Proofs.YtdafdoodegpdhaaGreatDoor

namespace Go.Proofs.YtdafdoodegpdhaaGreatDoor
open Go
set_option linter.unusedVariables false
set_option linter.unusedSimpArgs false

def exA : ByteArray := ⟨#[60, 66, 32, 99, 108, 97, 115, 115, 61, 120, 62, 97, 38, 108, 116, 59, 60, 47, 98, 32, 62]⟩
def exB : ByteArray := ⟨#[97, 60, 49, 32, 60, 33, 45, 45, 32, 60, 98, 62, 32, 45, 45, 62, 32, 98]⟩
set_option maxRecDepth 100000 in
theorem exA_anew : anewB exA = exA := by kernel_rfl
set_option maxRecDepth 100000 in
theorem exB_anew : anewB exB = exB := by kernel_rfl
set_option maxRecDepth 100000 in
theorem exA_toks : tokens exA.data.toList = [⟨2, [98], [], [(⟨#[99, 108, 97, 115, 115]⟩, ⟨#[120]⟩)], false, 0, 11⟩, ⟨1, [], [97, 60], [], false, 11, 16⟩, ⟨3, [98], [], [], false, 16, 21⟩] := by kernel_rfl
set_option maxRecDepth 100000 in
theorem exB_toks : tokens exB.data.toList = [⟨1, [], [97, 60, 49, 32, 32, 98], [], false, 0, 18⟩] := by kernel_rfl
end Go.Proofs.YtdafdoodegpdhaaGreatDoor

namespace Go.Proofs.YtdafdoodegpdhaaGreatDoor
open Go Go.RowKit Go.BigFrame
set_option linter.unusedVariables false
set_option linter.unusedSimpArgs false

theorem All_short {s t : ByteArray} {l : List Tk} {w : World} {e : Ending} {w' : World} (h : RAll t w e w') (ht : t.size ≤ 8192) (hl : tokens t.data.toList = l) : ∃ v, e = .returned (.tuple #[v, .int .i64 0]) ∧ Ext w w' ∧ TkRd w' v l := by
  rcases h with ⟨h1, _⟩ | ⟨_, v, h2, h3, h4⟩
  · omega
  · exact ⟨v, h2, h3, hl ▸ h4⟩
set_option maxHeartbeats 2000000 in
set_option maxRecDepth 100000 in
theorem awake_any (w : World) (hl : LW w) : Calls Tryz.prog 4 #[] w (RBool true w) := by
  have HA := Lib.hid (All_any exA (by decide) w hl)
  rw [exA_anew] at HA
  have HB := Lib.hid (fun W hW => All_any exB (by decide) W hW)
  rw [exB_anew] at HB
  have HL := Lib.hid hl
  clear hl
  unfold exA at HA
  unfold exB at HB
  go_enter Tryz.func4, Tryz.ntmps4
  go_wp2_with (go_at_call 5; refine HA.out.mono ?_)
  intro e w1 h1
  obtain ⟨v1, rfl, x1, t1⟩ := All_short (s := exA) h1 (by decide) exA_toks
  have X1 := Lib.hid x1
  have T1 := Lib.hid t1
  clear h1 t1
  go_wp2_with (go_at_call 5; refine (HB.out w1 (HL.out.ext x1)).mono ?_)
  intro e w2 h2
  obtain ⟨v2, rfl, x2, t2⟩ := All_short (s := exB) h2 (by decide) exB_toks
  obtain ⟨a1, c1, rfl, hc1, hg1⟩ := (T1.out.ext x2).at
  obtain ⟨g1, rfl, ht1⟩ := hg1 (by decide)
  obtain ⟨a2, c2, rfl, hc2, hg2⟩ := t2.at
  obtain ⟨g2, rfl, ht2⟩ := hg2 (by decide)
  have p0 := ht1 0 _ rfl
  have p1 := ht1 1 _ rfl
  have p2 := ht1 2 _ rfl
  have q0 := ht2 0 _ rfl
  have n0 : w2.cell? ⟨g1, 1, none⟩ = some (.string ⟨#[98]⟩) := p0.name
  obtain ⟨aa, ac, a0, _⟩ := p0.attrs
  have a0 : w2.cell? ⟨g1, 3, none⟩ = some (.slice aa 1 ac) := a0
  have x1' : w2.cell? ⟨g1, 9, none⟩ = some (.string ⟨#[97, 60]⟩) := p1.text
  have k2 : w2.cell? ⟨g1, 14, none⟩ = some (.int .i64 3) := p2.kind
  have y0 : w2.cell? ⟨g2, 2, none⟩ = some (.string ⟨#[97, 60, 49, 32, 32, 98]⟩) := q0.text
  have X2 := Lib.hid (X1.out.trans x2)
  clear p0 p1 p2 q0 ht1 ht2 hg1 hg2 t2 x2 x1 h2
  go_wp2_with fail
  go_ret
  exact ⟨rfl, X2.out⟩
end Go.Proofs.YtdafdoodegpdhaaGreatDoor
