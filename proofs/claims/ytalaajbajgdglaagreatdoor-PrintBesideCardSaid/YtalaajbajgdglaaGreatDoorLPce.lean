/- what of ZP Z1 Z2 Z3 BA BB BC BD BE BF BG BH BI BJ BK BL BM BN BO BP BQ BR BS BT ZY BV BW BY Z4 CA CB CC CD CE is leant on -/
import Derived.Test.YtalaajbajgdglaaGreatDoorLPcd
set_option linter.unusedVariables false
set_option linter.unusedSimpArgs false
set_option maxRecDepth 1000000
set_option maxHeartbeats 8000000
namespace Go.Proofs.YtalaajbajgdglaaGreatDoor
open Go Go.RowKit Go.BigFrame We
abbrev TkA := Tk × Value
def selfZ (b : Bool) : Int := if b then 1 else 0
def tkC (p : TkA) : List Value := [.int .i64 p.1.kind, .string (bs p.1.name), .string (bs p.1.text), p.2, .int .i64 (selfZ p.1.self), .int .i64 (p.1.lo : Int), .int .i64 (p.1.hi : Int)]
theorem tkC_len (p : TkA) : (tkC p).length = 7 := rfl
def tkCells (L : List TkA) : List Value := L.flatMap tkC
theorem tkCells_len (L : List TkA) : (tkCells L).length = L.length * 7 := by
  induction L with
  | nil => rfl
  | cons p L ih =>
    show (tkC p ++ tkCells L).length = _
    rw [List.length_append, ih, tkC_len, List.length_cons]
    omega
theorem tkCells_append (a b : List TkA) : tkCells (a ++ b) = tkCells a ++ tkCells b := List.flatMap_append
theorem tkCells_get {L : List TkA} {i f : Nat} {p : TkA} {v : Value} (h : L[i]? = some p) (hv : (tkC p)[f]? = some v) : (tkCells L)[i * 7 + f]? = some v := by
  have hf := (List.getElem?_eq_some_iff.1 hv).1
  rw [tkC_len] at hf
  induction L generalizing i with
  | nil => cases h
  | cons q L ih =>
    show (tkC q ++ tkCells L)[i * 7 + f]? = _
    cases i with
    | zero =>
      have : q = p := by simpa using h
      subst this
      rw [Nat.zero_mul, Nat.zero_add, List.getElem?_append_left (by rw [tkC_len]; exact hf)]
      exact hv
    | succ i =>
      rw [List.getElem?_append_right (by rw [tkC_len]; omega), tkC_len, show (i + 1) * 7 + f - 7 = i * 7 + f by omega]
      exact ih (by simpa using h)
theorem tkCells_set {L : List TkA} {i f : Nat} {p p' : TkA} {v : Value} (h : L[i]? = some p) (hf : f < 7) (hv : (tkC p).set f v = tkC p') : (tkCells L).set (i * 7 + f) v = tkCells (L.set i p') := by
  induction L generalizing i with
  | nil => cases h
  | cons q L ih =>
    cases i with
    | zero =>
      have : q = p := by simpa using h
      subst this
      show (tkC q ++ tkCells L).set (0 * 7 + f) v = tkC p' ++ tkCells L
      rw [Nat.zero_mul, Nat.zero_add, List.set_append_left _ _ (by rw [tkC_len]; exact hf), hv]
    | succ i =>
      show (tkC q ++ tkCells L).set ((i + 1) * 7 + f) v = tkC q ++ tkCells (L.set i p')
      rw [List.set_append_right _ _ (by rw [tkC_len]; omega), tkC_len, show (i + 1) * 7 + f - 7 = i * 7 + f by omega, ih (by simpa using h)]
structure TL (B : Nat) (N : Nat → Prop) (lb : Nat) (L : List TkA) (lv : Value) (gb : Option Nat) (w : World) : Prop where
  box : w.heap[lb]? = some (.cells #[lv] 44 (0, 0))
  row : RowP w (fun g => gb = some g ∧ B ≤ g ∧ ¬ N g) 55 7 lv L.length (tkCells L)
  blk : ∀ z, gb = some z → z < w.heap.size ∧ B ≤ z ∧ ¬ N z
  att : ∀ p ∈ L, RowP w (fun g => B ≤ g ∧ ¬ N g ∧ gb ≠ some g ∧ g < w.heap.size) 104 2 p.2 p.1.attrs.length (attrCells p.1.attrs)
section
variable {B lb : Nat} {N : Nat → Prop} {L : List TkA} {lv : Value} {gb : Option Nat} {w w' : World}
theorem TL.mv {S : Nat → Prop} (h : TL B N lb L lv gb w) (k : Mv S w w') (hS : ∀ g, S g → N g) (hl : ¬ S lb) : TL B N lb L lv gb w' :=
  ⟨k.block h.box hl, h.row.mv k fun g hg hs => hg.2.2 (hS g hs), fun z hz => ⟨Nat.lt_of_lt_of_le (h.blk z hz).1 k.size, (h.blk z hz).2⟩,
   fun p hp => RowP.imp ((h.att p hp).mv k fun g hg hs => hg.2.1 (hS g hs)) fun g _ hg => ⟨hg.1, hg.2.1, hg.2.2.1, Nat.lt_of_lt_of_le hg.2.2.2 k.size⟩⟩
theorem TL.ext (h : TL B N lb L lv gb w) (k : Ext w w') : TL B N lb L lv gb w' := h.mv (S := fun _ => False) (Mv.ofExt k) (fun _ h => h.elim) id
theorem TL.some_ (h : TL B N lb L lv gb w) (hL : 0 < L.length) : ∃ g cap cur, gb = some g ∧ B ≤ g ∧ ¬ N g ∧ lv = .slice (some ⟨g, 0, none⟩) L.length cap ∧ w.heap[g]? = some (.cells cur 55 (0, 0)) ∧ L.length ≤ cap ∧ cap ≤ maxLen ∧ cur.size = cap * 7 ∧ cur.toList.take (L.length * 7) = tkCells L := by
  rcases h.row.2 with ⟨h0, _⟩ | ⟨g, cap, cur, h1, h2, h3, h4, h5, h6, h7⟩
  · omega
  · exact ⟨g, cap, cur, h2.1, h2.2.1, h2.2.2, h1, h3, h4, h5, h6, h7⟩
theorem row_cell {g : Nat} {cur : Array Value} {T : TypeId} {n : Nat} (h3 : w.heap[g]? = some (.cells cur T (0, 0))) (h7 : cur.toList.take (n * 7) = tkCells L) {i f : Nat} {p : TkA} {v : Value} (hp : L[i]? = some p) (hv : (tkC p)[f]? = some v) :
    w.cell? ⟨g, i * 7 + f, none⟩ = some v := by
  refine cellOf h3 ?_
  have h := tkCells_get hp hv
  rw [← h7, List.getElem?_take] at h
  split at h
  · rw [← Array.getElem?_toList]; exact h
  · cases h
theorem TL.set (h : TL B N lb L lv gb w) {i f : Nat} {p p' : TkA} {v : Value} (hp : L[i]? = some p) (hf : f < 7) (hv : (tkC p).set f v = tkC p') (h2 : p'.2 = p.2) (ha : p'.1.attrs = p.1.attrs) (hN : N lb) {g : Nat} (hg : gb = some g) :
    TL B N lb (L.set i p') lv gb (w.setCell ⟨g, i * 7 + f, none⟩ v) := by
  have hi := (List.getElem?_eq_some_iff.1 hp).1
  obtain ⟨g', cap, cur, e1, e2, e3, e4, e5, e6, e7, e8, e9⟩ := h.some_ (by omega)
  rw [hg] at e1
  cases e1
  have hm : Mv (fun x => x = g) w (w.setCell ⟨g, i * 7 + f, none⟩ v) := Mv.setRb (Mv.refl _ w) v
  have hbox : (w.setCell ⟨g, i * 7 + f, none⟩ v).heap[lb]? = _ := hm.block h.box (fun e => e3 (by rw [← (show lb = g from e)]; exact hN))
  refine ⟨hbox, ?_, fun z hz => ⟨Nat.lt_of_lt_of_le (h.blk z hz).1 hm.size, (h.blk z hz).2⟩, fun q hq => ?_⟩
  · refine ⟨?_, .inr ⟨g, cap, _, by rw [List.length_set]; exact e4, ⟨hg, e2, e3⟩, heap_setCell_same e5 v, by rw [List.length_set]; exact e6, e7, by simpa using e8, ?_⟩⟩
    · rw [tkCells_len]
    · rw [Array.toList_setIfInBounds, List.length_set, List.take_set, e9, tkCells_set hp hf hv]
  · have key : ∀ q0 ∈ L, RowP (w.setCell ⟨g, i * 7 + f, none⟩ v) (fun x => B ≤ x ∧ ¬ N x ∧ gb ≠ some x ∧ x < (w.setCell ⟨g, i * 7 + f, none⟩ v).heap.size) 104 2 q0.2 q0.1.attrs.length (attrCells q0.1.attrs) := fun q0 hq0 =>
      RowP.imp ((h.att q0 hq0).mv hm fun x hx hs => hx.2.2.1 (by rw [hg, hs])) fun x _ hx => ⟨hx.1, hx.2.1, hx.2.2.1, Nat.lt_of_lt_of_le hx.2.2.2 hm.size⟩
    rcases List.mem_or_eq_of_mem_set hq with hq | rfl
    · exact key q hq
    · rw [h2, ha]; exact key p (List.mem_of_getElem? hp)
theorem infoTok : (Tryz.prog.info? 55).map (fun i => (i.zero, i.size, i.bytes)) = some (some (.agg #[.int .i64 0, .string ByteArray.empty, .string ByteArray.empty, .slice none 0 0, .int .i64 0, .int .i64 0, .int .i64 0]), 7, 88) := by kernel_rfl
theorem tkC_one (p : TkA) (h : p.2.oneCell' = true) : ∀ u ∈ tkC p, u.oneCell' = true := by
  intro u hu
  unfold tkC at hu
  simp only [List.mem_cons, List.not_mem_nil, or_false] at hu
  rcases hu with rfl | rfl | rfl | rfl | rfl | rfl | rfl <;> first | rfl | exact h
theorem TL.push (h : TL B N lb L lv gb w) (hlen : L.length ≤ 1000000) (hN : ∀ g, N g → g < w.heap.size) (hNl : N lb) (hB : B ≤ w.heap.size) (p : TkA) (hone : p.2.oneCell' = true)
    (hav : RowP w (fun g => B ≤ g ∧ ¬ N g ∧ gb ≠ some g ∧ g < w.heap.size) 104 2 p.2 p.1.attrs.length (attrCells p.1.attrs)) {cs : Array Value} (hcs : cs.toList = tkC p) :
    ∃ (a : Option Addr) (cap : Nat) (wB : World), (Builtin.append_ #[44, 44] 44 #[lv, .slice (some ⟨w.heap.size, 0, none⟩) 1 1]).run Tryz.prog (w.alloc (.cells cs 55)) = .ok (.slice a (L.length + 1) cap) wB ∧
      wB.heap[lb]? = some (.cells #[lv] 44 (0, 0)) ∧ Mv (fun g => gb = some g) w wB ∧
      ∃ gb', TL B N lb (L ++ [p]) (.slice a (L.length + 1) cap) gb' (wB.setCell ⟨lb, 0, none⟩ (.slice a (L.length + 1) cap)) := by
  obtain ⟨i0, hi, hz0, hz1, hz2⟩ := info_parts infoTok
  have hxa := (Ext.refl w).alloc (.cells cs 55)
  have hA := h.ext hxa
  have hna := heap_alloc_new w (.cells cs 55)
  have hszA : (w.alloc (.cells cs 55)).heap.size = w.heap.size + 1 := by simp
  obtain ⟨v', wB, row, hrun, hr, hg, hrow⟩ := run_append_row (P := Tryz.prog) (w.alloc (.cells cs 55)) 44 44 55 i0 _ 7 88 Tryz.underlying44 hi hz0 hz1 hz2 (by kernel_rfl) (by decide)
    hA.row ⟨w.heap.size, 0, none⟩ 1 1 (tkC p) rfl (by
      intro j u hj
      rw [Addr.add_lit, Nat.zero_add]
      refine cellOf hna ?_
      rw [← Array.getElem?_toList, hcs]; exact hj) (tkC_one p hone) (by decide) (by unfold maxLen; omega) (by omega)
  obtain ⟨a, cap, e, _⟩ := hr.rd.len_of
  subst e
  have hmB : Mv (fun g => gb = some g) w wB := (Mv.ofExt hxa).grown hg fun k hk _ => (hrow k hk).1
  have hboxB : wB.heap[lb]? = some (.cells #[lv] 44 (0, 0)) := hmB.block h.box fun e => (h.blk lb e).2.2 hNl
  have hmL : Mv (fun x => x = lb) wB (wB.setCell ⟨lb, 0, none⟩ (.slice a (L.length + 1) cap)) := Mv.setRb (Mv.refl _ wB) _
  have hsw := hmB.size
  have hnew : ∀ g, (Value.slice a (L.length + 1) cap).ownBlock = some g → (gb = some g ∧ B ≤ g ∧ ¬ N g) ∨ (w.alloc (.cells cs 55)).heap.size ≤ g := by
    intro g hgo
    rcases hr.2 with ⟨h0, _⟩ | ⟨g', cap', cur, h1, h2, h3, _⟩
    · omega
    · rw [h1] at hgo
      cases hgo
      exact h2
  have hnew2 : ∀ g, (Value.slice a (L.length + 1) cap).ownBlock = some g → g < wB.heap.size := by
    intro g hgo
    rcases hr.2 with ⟨h0, _⟩ | ⟨g', cap', cur, h1, h2, h3, _⟩
    · omega
    · rw [h1] at hgo
      cases hgo
      exact (Array.getElem?_eq_some_iff.1 h3).1
  have hok : ∀ g, (Value.slice a (L.length + 1) cap).ownBlock = some g → B ≤ g ∧ ¬ N g := by
    intro g hgo
    rcases hnew g hgo with h1 | h1
    · exact h1.2
    · exact ⟨by omega, fun hn => by have := hN g hn; omega⟩
  refine ⟨a, cap, wB, hrun, hboxB, hmB, (Value.slice a (L.length + 1) cap).ownBlock, ⟨heap_setCell_same hboxB _, ?_, fun z hz => ⟨Nat.lt_of_lt_of_le (hnew2 z hz) hmL.size, hok z hz⟩, fun q hq => ?_⟩⟩
  · rw [List.length_append, tkCells_append]
    have hr2 : RowP wB (fun g => (Value.slice a (L.length + 1) cap).ownBlock = some g ∧ B ≤ g ∧ ¬ N g) 55 7 (.slice a (L.length + 1) cap) (L.length + 1) (tkCells L ++ tkC p) := RowP.imp hr fun g hgo _ => ⟨hgo, hok g hgo⟩
    have hr3 := hr2.mv hmL fun g hg2 e => hg2.2.2 (by rw [(show g = lb from e)]; exact hNl)
    have e1 : tkCells [p] = tkC p := by show tkC p ++ [] = _; rw [List.append_nil]
    rw [e1]
    exact hr3
  · have hq0 : RowP w (fun g => B ≤ g ∧ ¬ N g ∧ gb ≠ some g ∧ g < w.heap.size) 104 2 q.2 q.1.attrs.length (attrCells q.1.attrs) := by
      rcases List.mem_append.1 hq with hq | hq
      · exact h.att q hq
      · have : q = p := by simpa using hq
        rw [this]; exact hav
    have h1 := hq0.mv hmB fun g hg2 e => hg2.2.2.1 e
    have h2 := h1.mv hmL fun g hg2 e => hg2.2.1 (by rw [(show g = lb from e)]; exact hNl)
    refine RowP.imp h2 fun g _ hg2 => ⟨hg2.1, hg2.2.1, fun hgo => ?_, by have := hg2.2.2.2; have := hmL.size; omega⟩
    rcases hnew g hgo with h3 | h3
    · exact hg2.2.2.1 h3.1
    · have := hg2.2.2.2; omega
end
def Nb (lb ob sb rb : Nat) : Nat → Prop := fun g => g = lb ∨ g = ob ∨ g = sb ∨ g = rb
structure AS (B lb ob sb rb : Nat) (s : ByteArray) (op : Bool) (L : List TkA) (w : World) : Prop where
  tl : ∃ lv gb, TL B (Nb lb ob sb rb) lb L lv gb w
  ob : w.heap[ob]? = some (.cells #[.bool op] 4 (0, 0))
  sb : w.heap[sb]? = some (.cells #[.string s] 9 (0, 0))
structure Dist (B lb ob sb rb : Nat) : Prop where
  b : B ≤ sb
  sl : sb < lb
  lr : lb < rb
  ro : rb < ob
abbrev Ch (B rb sb : Nat) : Nat → Prop := fun g => B ≤ g ∧ g ≠ rb ∧ g ≠ sb
def RText (B lb ob sb rb : Nat) (s : ByteArray) (L : List TkA) (w : World) (e : Ending) (w' : World) : Prop := e = .returned (.tuple #[]) ∧ AS B lb ob sb rb s true L w' ∧ Mv (Ch B rb sb) w w'
def Tk.more (t : Tk) (pc : List UInt8) (hi : Nat) : Tk := { t with text := t.text ++ pc, hi := hi }
theorem snoc_get (D : List TkA) (p : TkA) : (D ++ [p])[D.length]? = some p := by simp
theorem snoc_set (D : List TkA) (p q : TkA) : (D ++ [p]).set D.length q = D ++ [q] := by simp
theorem text_more (B lb ob sb rb : Nat) (s : ByteArray) (D : List TkA) (p : TkA) (w : World) (hs : s.size ≤ 1000000) (hD : D.length ≤ 1000000) (hd : Dist B lb ob sb rb) (h : AS B lb ob sb rb s true (D ++ [p]) w) (htz : p.1.text.length ≤ 1000000) (k1 k2 : Nat) (hk : k1 ≤ k2) (hk2 : k2 ≤ s.size) (pc : List UInt8) (hpc : s.extract k1 k2 = bs pc) :
    Calls Tryz.prog 50 #[.int .i64 k1, .int .i64 k2, .pointer (some ⟨ob, 0, none⟩), .pointer (some ⟨lb, 0, none⟩), .pointer (some ⟨sb, 0, none⟩)] w (RText B lb ob sb rb s (D ++ [(p.1.more pc k2, p.2)]) w) := by
  obtain ⟨⟨lv, gb, TLW⟩, OBW, SBW⟩ := h
  have c2 := cellOf OBW (i := 0) (v := .bool true) rfl
  have HPC := qh hpc
  have HTZ := qh htz
  have HD := qh hd
  clear hpc htz hd
  go_enter Tryz.func50, Tryz.ntmps50
  go_upto_region 3 with fail
  clear c2
  obtain ⟨g, cap, cur, hgb, hBg, hNg, hlv, hrow, hrl, hq1, hq2, hrt⟩ := TLW.some_ (by simp)
  subst hlv
  subst hgb
  have htx := row_cell (f := 2) hrow hrt (snoc_get D p) (v := .string (bs p.1.text)) rfl
  have hhi := row_cell (f := 6) hrow hrt (snoc_get D p) (v := .int .i64 (p.1.hi : Int)) rfl
  have hff2 := freeOf hrow (D.length * 7 + 2)
  have hff6 := freeOf hrow (D.length * 7 + 6)
  have hlen1 : (D ++ [p]).length = D.length + 1 := by simp
  have c3 := cellOf TLW.box (i := 0) (v := .slice (some ⟨g, 0, none⟩) (D.length + 1) cap) (by rw [← hlen1]; rfl)
  have hcapl : D.length + 1 ≤ cap := by rw [← hlen1]; exact hrl
  obtain ⟨d, hd⟩ : ∃ d, D.length = d := ⟨_, rfl⟩
  have HDD := qh hd
  have hd6 : d ≤ 1000000 := by omega
  rw [hd] at htx hhi hff2 hff6 c3 hcapl
  have TLH := qh TLW
  have OBH := qh OBW
  have SBH := qh SBW
  have c4 := cellOf SBW (i := 0) (v := .string s) rfl
  have HNG := qh hNg
  have gl : g ≠ lb := fun e => hNg (.inl e)
  have go' : g ≠ ob := fun e => hNg (.inr (.inl e))
  have gs : g ≠ sb := fun e => hNg (.inr (.inr (.inl e)))
  have gr : g ≠ rb := fun e => hNg (.inr (.inr (.inr e)))
  clear hrow hrl hrt hlen1 hd TLW OBW SBW hNg hq1 hq2
  have hwd : IntKind.i64.wrap ((d : Int) + 1 - 1) = (d : Int) := by rw [IntWalk.i64_in _ (by omega)]; omega
  have hwd0 : (0 : Int) ≤ (d : Int) := by omega
  have hwd1 : (d : Int) < (d : Int) + 1 := by omega
  have htn : (d : Int).toNat = d := by omega
  go_upto_region 4 with fail
  clear c3 hwd hwd0 hwd1 htn
  obtain ⟨pt, hpt⟩ : ∃ pt : ByteArray, bs p.1.text = pt := ⟨_, rfl⟩
  have HPT := qh hpt
  rw [hpt] at htx
  clear hpt
  have hptz : pt.size ≤ 1000000 := by rw [← HPT.out, bs_size]; exact HTZ.out
  refine wp_region_E (S := fun w' => w'.cell? ⟨g, d * 7 + 2, none⟩ = some (.string pt) ∧ w'.cell? ⟨sb, 0, none⟩ = some (.string s)) (n := 11) (by kernel_rfl) ?_
  have hS : (w).drew.cell? ⟨g, d * 7 + 2, none⟩ = some (.string pt) ∧ (w).drew.cell? ⟨sb, 0, none⟩ = some (.string s) := ⟨htx, c4⟩
  show wpE _ _ _ _ _ 11 12 (Array.replicate 12 false) _ _
  refine wpE_tk 0 20 (.pointer (some ⟨g, d * 7, none⟩)) rfl (.inl ⟨by rfl, fun w' hSw => ?_⟩) hS ?_
  · (obtain ⟨s1, s2⟩ := hSw; clear hS; go_simp)
  try simp only [Act.put, zA, zB, zC]
  refine wpE_tk 1 21 (.pointer (some ⟨g, d * 7, none⟩)) rfl (.inl ⟨by rfl, fun w' hSw => ?_⟩) hS ?_
  · (obtain ⟨s1, s2⟩ := hSw; clear hS; go_simp)
  try simp only [Act.put, zA, zB, zC]
  refine wpE_tk 2 22 (.pointer (some ⟨g, d * 7 + 2, none⟩)) rfl (.inl ⟨by rfl, fun w' hSw => ?_⟩) hS ?_
  · (obtain ⟨s1, s2⟩ := hSw; clear hS; go_simp)
  try simp only [Act.put, zA, zB, zC]
  refine wpE_tk 3 23 (.string pt) rfl (.inl ⟨by rfl, fun w' hSw => ?_⟩) hS ?_
  · (obtain ⟨s1, s2⟩ := hSw; clear hS; go_simp)
  try simp only [Act.put, zA, zB, zC]
  refine wpE_tk 4 24 (.string s) rfl (.inl ⟨by rfl, fun w' hSw => ?_⟩) hS ?_
  · (obtain ⟨s1, s2⟩ := hSw; clear hS; go_simp)
  try simp only [Act.put, zA, zB, zC]
  refine wpE_tk 5 25 (.int .i64 k1) rfl (.inl ⟨by rfl, fun w' hSw => ?_⟩) hS ?_
  · (obtain ⟨s1, s2⟩ := hSw; clear hS; go_simp)
  try simp only [Act.put, zA, zB, zC]
  refine wpE_tk 6 26 (.int .i64 k2) rfl (.inl ⟨by rfl, fun w' hSw => ?_⟩) hS ?_
  · (obtain ⟨s1, s2⟩ := hSw; clear hS; go_simp)
  try simp only [Act.put, zA, zB, zC]
  refine wpE_tk 7 27 (.string (s.extract k1 k2)) rfl (.inl ⟨by rfl, fun w' hSw => ?_⟩) hS ?_
  · (obtain ⟨s1, s2⟩ := hSw; clear hS; go_simp)
  try simp only [Act.put, zA, zB, zC]
  refine wpE_tk 8 28 (.string (pt ++ s.extract k1 k2)) rfl (.inl ⟨by rfl, fun w' hSw => ?_⟩) hS ?_
  · (obtain ⟨s1, s2⟩ := hSw; clear hS; go_simp; omega)
  try simp only [Act.put, zA, zB, zC]
  obtain ⟨wd, hwd⟩ : ∃ wd : World, wd = (w).drew := ⟨_, rfl⟩
  have xd : Ext (w) wd := by rw [hwd]; exact (Ext.refl _).drew
  rw [← hwd] at hS ⊢
  clear hwd
  refine wpE_on 9 (some 29) rfl (fun K hK => ?_)
  go_simp
  refine hK.out _ _ (.inr hS) ?_
  clear hK K
  try simp only [Act.put, zA, zB, zC]
  refine wpE_on 10 (some 30) rfl (fun K hK => ?_)
  go_simp
  refine hK.out _ _ (.inr hS) ?_
  clear hK K
  try simp only [Act.put, zA, zB, zC]
  have TLD := TLH.out.ext xd
  have OBD := xd.block OBH.out
  have SBD := xd.block SBH.out
  have ff2 := xd.free (cell_lt htx) hff2
  have ff6 := xd.free (cell_lt htx) hff6
  have tx := hS.1
  refine wpE_on 11 (none) rfl (fun K hK => ?_)
  go_simp
  refine hK.out _ _ (.inl rfl) ?_
  clear hK K hS
  refine wpE_done (by kernel_rfl) ?_
  have hgetd : (D ++ [p])[d]? = some p := by rw [← HDD.out]; exact snoc_get D p
  have hadd : pt ++ s.extract k1 k2 = bs (p.1.text ++ pc) := by rw [← HPT.out, HPC.out, bs_add]
  have TL1 := TLD.set (i := d) (f := 2) (p := p) (p' := ({ p.1 with text := p.1.text ++ pc }, p.2)) (v := .string (pt ++ s.extract k1 k2)) hgetd (by decide) (by rw [hadd]; rfl) rfl rfl (.inl rfl) rfl
  have hget1 : ((D ++ [p]).set d ({ p.1 with text := p.1.text ++ pc }, p.2))[d]? = some ({ p.1 with text := p.1.text ++ pc }, p.2) := by rw [← HDD.out, snoc_set]; exact snoc_get D _
  have TL2 := TL1.set (i := d) (f := 6) (p' := (p.1.more pc k2, p.2)) (v := .int .i64 (k2 : Int)) hget1 (by decide) rfl rfl rfl (.inl rfl) rfl
  rw [← HDD.out, snoc_set, snoc_set, HDD.out] at TL2
  have mm1 : Mv (· = g) wd (wd.setCell ⟨g, d * 7 + 2, none⟩ (.string (pt ++ s.extract k1 k2))) := Mv.setRb (Mv.refl _ wd) _
  have mm2 : Mv (· = g) wd ((wd.setCell ⟨g, d * 7 + 2, none⟩ (.string (pt ++ s.extract k1 k2))).setCell ⟨g, d * 7 + 6, none⟩ (.int .i64 (k2 : Int))) := Mv.setRb mm1 _
  have FIN : Hid (AS B lb ob sb rb s true (D ++ [(p.1.more pc k2, p.2)]) ((wd.setCell ⟨g, d * 7 + 2, none⟩ (.string (pt ++ s.extract k1 k2))).setCell ⟨g, d * 7 + 6, none⟩ (.int .i64 (k2 : Int)))) := qh ⟨⟨_, _, TL2⟩, mm2.block OBD (Ne.symm go'), mm2.block SBD (Ne.symm gs)⟩
  have MFIN := qh (Mv.after xd (mm2.imp (S' := Ch B rb sb) fun x _ hx => by rw [(show x = g from hx)]; exact ⟨hBg, gr, gs⟩))
  have hh6 := xd.cell hhi
  clear hgetd hadd TL1 hget1 TL2 mm1 mm2 TLD OBD SBD
  go_wp2_with fail
  go_end0
  exact ⟨rfl, FIN.out, MFIN.out⟩
theorem text_new (B lb ob sb rb : Nat) (s : ByteArray) (D : List TkA) (w : World) (hs : s.size ≤ 1000000) (hD : D.length ≤ 1000000) (hd : Dist B lb ob sb rb) (hrb : rb < w.heap.size) (h : AS B lb ob sb rb s false D w) (k1 k2 : Nat) (hk : k1 ≤ k2) (hk2 : k2 ≤ s.size) (pc : List UInt8) (hpc : s.extract k1 k2 = bs pc) :
    Calls Tryz.prog 50 #[.int .i64 k1, .int .i64 k2, .pointer (some ⟨ob, 0, none⟩), .pointer (some ⟨lb, 0, none⟩), .pointer (some ⟨sb, 0, none⟩)] w (RText B lb ob sb rb s (D ++ [(⟨1, [], pc, [], false, k1, k2⟩, .slice none 0 0)]) w) := by
  obtain ⟨⟨lv0, gb0, TL0⟩, OB0, SB0⟩ := h
  have hlb := (Array.getElem?_eq_some_iff.1 TL0.box).1
  have hob := (Array.getElem?_eq_some_iff.1 OB0).1
  have hsb := (Array.getElem?_eq_some_iff.1 SB0).1
  obtain ⟨d1, d2, d3, d4⟩ := hd
  have hHPC := qh hpc
  obtain ⟨a0, cap0, wB, hrun, hboxB, hmB, gb1, TLP⟩ := TL0.push hD (by rintro g (rfl | rfl | rfl | rfl) <;> assumption) (.inl rfl) (by omega) (⟨1, [], [], [], false, k1, 0⟩, .slice none 0 0) rfl ⟨rfl, .inl ⟨rfl, none, rfl⟩⟩ (cs := #[.int .i64 1, .string ⟨#[]⟩, .string ⟨#[]⟩, .slice none 0 0, .int .i64 0, .int .i64 k1, .int .i64 0]) rfl
  have nOb : ¬ gb0 = some ob := fun e => (TL0.blk ob e).2.2 (.inr (.inl rfl))
  have nSb : ¬ gb0 = some sb := fun e => (TL0.blk sb e).2.2 (.inr (.inr (.inl rfl)))
  have nLb : ¬ gb0 = some lb := fun e => (TL0.blk lb e).2.2 (.inl rfl)
  have nRb : ¬ gb0 = some rb := fun e => (TL0.blk rb e).2.2 (.inr (.inr (.inr rfl)))
  have OBB := hmB.block OB0 nOb
  have SBB := hmB.block SB0 nSb
  have mB : Mv (Ch B rb sb) w wB := hmB.imp fun x _ hx => ⟨(TL0.blk x hx).2.1, fun e => nRb (e ▸ hx), fun e => nSb (e ▸ hx)⟩
  have c2 := cellOf OB0 (i := 0) (v := .bool false) rfl
  have c3 := cellOf TL0.box (i := 0) (v := lv0) rfl
  have b3 := cellOf hboxB (i := 0) (v := lv0) rfl
  have g3 := freeOf hboxB 0
  have MB := qh mB
  have HRUN := qh hrun
  have HTLP := qh TLP
  have HBX := qh hboxB
  have HOBB := qh OBB
  have HSBB := qh SBB
  clear hpc hrun hmB TLP TL0 OB0 SB0 mB hboxB OBB SBB
  go_enter Tryz.func50, Tryz.ntmps50
  go_upto_region 2 with (at_builtin; refine wpList_append_run _ rfl _ _ 44 rfl _ _ rfl rfl _ _ HRUN.out ?_)
  have m1 : Mv (· = lb) wB (wB.setCell ⟨lb, 0, none⟩ (.slice a0 (D.length + 1) cap0)) := Mv.setRb (Mv.refl _ wB) _
  have OB1 := m1.block HOBB.out (show ¬ ob = lb by omega)
  have SB1 := m1.block HSBB.out (show ¬ sb = lb by omega)
  have M1 : Mv (Ch B rb sb) w (wB.setCell ⟨lb, 0, none⟩ (.slice a0 (D.length + 1) cap0)) := MB.out.trans (m1.imp fun x _ hx => by rw [(show x = lb from hx)]; exact ⟨by omega, by omega, by omega⟩)
  have TL1 := HTLP.out
  clear c2 c3 b3 g3
  obtain ⟨w2, hw2⟩ : ∃ w' : World, w' = wB.setCell ⟨lb, 0, none⟩ (.slice a0 (D.length + 1) cap0) := ⟨_, rfl⟩
  rw [← hw2] at OB1 SB1 M1 TL1 ⊢
  clear hw2 m1
  have c2 := cellOf OB1 (i := 0) (v := .bool false) rfl
  have f2 := freeOf OB1 0
  have m2 : Mv (· = ob) w2 (w2.setCell ⟨ob, 0, none⟩ (.bool true)) := Mv.setRb (Mv.refl _ w2) _
  have OBW := heap_setCell_same (i := 0) OB1 (.bool true)
  have SBW := m2.block SB1 (show ¬ sb = ob by omega)
  have M2 : Mv (Ch B rb sb) w (w2.setCell ⟨ob, 0, none⟩ (.bool true)) := M1.trans (m2.imp fun x _ hx => by rw [(show x = ob from hx)]; exact ⟨by omega, by omega, by omega⟩)
  have TLW := TL1.mv m2 (fun g hg => .inr (.inl hg)) (show ¬ lb = ob by omega)
  clear OB1 SB1 M1 TL1 m2
  go_upto_region 3 with fail
  obtain ⟨w3, hw3⟩ : ∃ w' : World, w' = w2.setCell ⟨ob, 0, none⟩ (.bool true) := ⟨_, rfl⟩
  rw [← hw3] at OBW SBW M2 TLW ⊢
  clear hw3 c2 f2
  have OBW : w3.heap[ob]? = some (.cells #[.bool true] 4 (0, 0)) := OBW
  have MW3 := qh M2
  clear M2
  obtain ⟨lv, hlv0⟩ : ∃ v : Value, v = .slice a0 (D.length + 1) cap0 := ⟨_, rfl⟩
  rw [← hlv0] at TLW
  clear hlv0
  obtain ⟨p, hp⟩ : ∃ p : TkA, p = (⟨1, [], [], [], false, k1, 0⟩, .slice none 0 0) := ⟨_, rfl⟩
  rw [← hp] at TLW
  have HTZ : Hid (p.1.text.length ≤ 1000000) := qh (by rw [hp]; exact Nat.zero_le _)
  have HPQ : Hid ((p.1.more pc k2, p.2) = (⟨1, [], pc, [], false, k1, k2⟩, .slice none 0 0)) := qh (by rw [hp]; rfl)
  have HPC := hHPC
  obtain ⟨gb, hgb1⟩ : ∃ g : Option Nat, g = gb1 := ⟨_, rfl⟩
  rw [← hgb1] at TLW
  clear hgb1 hp HTLP HRUN HBX HOBB HSBB MB nOb nSb nLb nRb hlb hob hsb
  obtain ⟨g, cap, cur, hgb, hBg, hNg, hlv, hrow, hrl, hq1, hq2, hrt⟩ := TLW.some_ (by simp)
  subst hlv
  subst hgb
  have htx := row_cell (f := 2) hrow hrt (snoc_get D p) (v := .string (bs p.1.text)) rfl
  have hhi := row_cell (f := 6) hrow hrt (snoc_get D p) (v := .int .i64 (p.1.hi : Int)) rfl
  have hff2 := freeOf hrow (D.length * 7 + 2)
  have hff6 := freeOf hrow (D.length * 7 + 6)
  have hlen1 : (D ++ [p]).length = D.length + 1 := by simp
  have c3 := cellOf TLW.box (i := 0) (v := .slice (some ⟨g, 0, none⟩) (D.length + 1) cap) (by rw [← hlen1]; rfl)
  have hcapl : D.length + 1 ≤ cap := by rw [← hlen1]; exact hrl
  obtain ⟨d, hd⟩ : ∃ d, D.length = d := ⟨_, rfl⟩
  have HDD := qh hd
  have hd6 : d ≤ 1000000 := by omega
  rw [hd] at htx hhi hff2 hff6 c3 hcapl
  have TLH := qh TLW
  have OBH := qh OBW
  have SBH := qh SBW
  have c4 := cellOf SBW (i := 0) (v := .string s) rfl
  have HNG := qh hNg
  have gl : g ≠ lb := fun e => hNg (.inl e)
  have go' : g ≠ ob := fun e => hNg (.inr (.inl e))
  have gs : g ≠ sb := fun e => hNg (.inr (.inr (.inl e)))
  have gr : g ≠ rb := fun e => hNg (.inr (.inr (.inr e)))
  clear hrow hrl hrt hlen1 hd TLW OBW SBW hNg hq1 hq2
  have hwd : IntKind.i64.wrap ((d : Int) + 1 - 1) = (d : Int) := by rw [IntWalk.i64_in _ (by omega)]; omega
  have hwd0 : (0 : Int) ≤ (d : Int) := by omega
  have hwd1 : (d : Int) < (d : Int) + 1 := by omega
  have htn : (d : Int).toNat = d := by omega
  go_upto_region 4 with fail
  clear c3 hwd hwd0 hwd1 htn
  obtain ⟨pt, hpt⟩ : ∃ pt : ByteArray, bs p.1.text = pt := ⟨_, rfl⟩
  have HPT := qh hpt
  rw [hpt] at htx
  clear hpt
  have hptz : pt.size ≤ 1000000 := by rw [← HPT.out, bs_size]; exact HTZ.out
  refine wp_region_E (S := fun w' => w'.cell? ⟨g, d * 7 + 2, none⟩ = some (.string pt) ∧ w'.cell? ⟨sb, 0, none⟩ = some (.string s)) (n := 11) (by kernel_rfl) ?_
  have hS : (w3).drew.cell? ⟨g, d * 7 + 2, none⟩ = some (.string pt) ∧ (w3).drew.cell? ⟨sb, 0, none⟩ = some (.string s) := ⟨htx, c4⟩
  show wpE _ _ _ _ _ 11 12 (Array.replicate 12 false) _ _
  refine wpE_tk 0 20 (.pointer (some ⟨g, d * 7, none⟩)) rfl (.inl ⟨by rfl, fun w' hSw => ?_⟩) hS ?_
  · (obtain ⟨s1, s2⟩ := hSw; clear hS; go_simp)
  try simp only [Act.put, zA, zB, zC]
  refine wpE_tk 1 21 (.pointer (some ⟨g, d * 7, none⟩)) rfl (.inl ⟨by rfl, fun w' hSw => ?_⟩) hS ?_
  · (obtain ⟨s1, s2⟩ := hSw; clear hS; go_simp)
  try simp only [Act.put, zA, zB, zC]
  refine wpE_tk 2 22 (.pointer (some ⟨g, d * 7 + 2, none⟩)) rfl (.inl ⟨by rfl, fun w' hSw => ?_⟩) hS ?_
  · (obtain ⟨s1, s2⟩ := hSw; clear hS; go_simp)
  try simp only [Act.put, zA, zB, zC]
  refine wpE_tk 3 23 (.string pt) rfl (.inl ⟨by rfl, fun w' hSw => ?_⟩) hS ?_
  · (obtain ⟨s1, s2⟩ := hSw; clear hS; go_simp)
  try simp only [Act.put, zA, zB, zC]
  refine wpE_tk 4 24 (.string s) rfl (.inl ⟨by rfl, fun w' hSw => ?_⟩) hS ?_
  · (obtain ⟨s1, s2⟩ := hSw; clear hS; go_simp)
  try simp only [Act.put, zA, zB, zC]
  refine wpE_tk 5 25 (.int .i64 k1) rfl (.inl ⟨by rfl, fun w' hSw => ?_⟩) hS ?_
  · (obtain ⟨s1, s2⟩ := hSw; clear hS; go_simp)
  try simp only [Act.put, zA, zB, zC]
  refine wpE_tk 6 26 (.int .i64 k2) rfl (.inl ⟨by rfl, fun w' hSw => ?_⟩) hS ?_
  · (obtain ⟨s1, s2⟩ := hSw; clear hS; go_simp)
  try simp only [Act.put, zA, zB, zC]
  refine wpE_tk 7 27 (.string (s.extract k1 k2)) rfl (.inl ⟨by rfl, fun w' hSw => ?_⟩) hS ?_
  · (obtain ⟨s1, s2⟩ := hSw; clear hS; go_simp)
  try simp only [Act.put, zA, zB, zC]
  refine wpE_tk 8 28 (.string (pt ++ s.extract k1 k2)) rfl (.inl ⟨by rfl, fun w' hSw => ?_⟩) hS ?_
  · (obtain ⟨s1, s2⟩ := hSw; clear hS; go_simp; omega)
  try simp only [Act.put, zA, zB, zC]
  obtain ⟨wd, hwd⟩ : ∃ wd : World, wd = (w3).drew := ⟨_, rfl⟩
  have xd : Ext (w3) wd := by rw [hwd]; exact (Ext.refl _).drew
  rw [← hwd] at hS ⊢
  clear hwd
  refine wpE_on 9 (some 29) rfl (fun K hK => ?_)
  go_simp
  refine hK.out _ _ (.inr hS) ?_
  clear hK K
  try simp only [Act.put, zA, zB, zC]
  refine wpE_on 10 (some 30) rfl (fun K hK => ?_)
  go_simp
  refine hK.out _ _ (.inr hS) ?_
  clear hK K
  try simp only [Act.put, zA, zB, zC]
  have TLD := TLH.out.ext xd
  have OBD := xd.block OBH.out
  have SBD := xd.block SBH.out
  have ff2 := xd.free (cell_lt htx) hff2
  have ff6 := xd.free (cell_lt htx) hff6
  have tx := hS.1
  refine wpE_on 11 (none) rfl (fun K hK => ?_)
  go_simp
  refine hK.out _ _ (.inl rfl) ?_
  clear hK K hS
  refine wpE_done (by kernel_rfl) ?_
  have hgetd : (D ++ [p])[d]? = some p := by rw [← HDD.out]; exact snoc_get D p
  have hadd : pt ++ s.extract k1 k2 = bs (p.1.text ++ pc) := by rw [← HPT.out, HPC.out, bs_add]
  have TL1 := TLD.set (i := d) (f := 2) (p := p) (p' := ({ p.1 with text := p.1.text ++ pc }, p.2)) (v := .string (pt ++ s.extract k1 k2)) hgetd (by decide) (by rw [hadd]; rfl) rfl rfl (.inl rfl) rfl
  have hget1 : ((D ++ [p]).set d ({ p.1 with text := p.1.text ++ pc }, p.2))[d]? = some ({ p.1 with text := p.1.text ++ pc }, p.2) := by rw [← HDD.out, snoc_set]; exact snoc_get D _
  have TL2 := TL1.set (i := d) (f := 6) (p' := (p.1.more pc k2, p.2)) (v := .int .i64 (k2 : Int)) hget1 (by decide) rfl rfl rfl (.inl rfl) rfl
  rw [← HDD.out, snoc_set, snoc_set, HDD.out] at TL2
  have mm1 : Mv (· = g) wd (wd.setCell ⟨g, d * 7 + 2, none⟩ (.string (pt ++ s.extract k1 k2))) := Mv.setRb (Mv.refl _ wd) _
  have mm2 : Mv (· = g) wd ((wd.setCell ⟨g, d * 7 + 2, none⟩ (.string (pt ++ s.extract k1 k2))).setCell ⟨g, d * 7 + 6, none⟩ (.int .i64 (k2 : Int))) := Mv.setRb mm1 _
  have FIN : Hid (AS B lb ob sb rb s true (D ++ [(p.1.more pc k2, p.2)]) ((wd.setCell ⟨g, d * 7 + 2, none⟩ (.string (pt ++ s.extract k1 k2))).setCell ⟨g, d * 7 + 6, none⟩ (.int .i64 (k2 : Int)))) := qh ⟨⟨_, _, TL2⟩, mm2.block OBD (Ne.symm go'), mm2.block SBD (Ne.symm gs)⟩
  have MFIN := qh (Mv.after xd (mm2.imp (S' := Ch B rb sb) fun x _ hx => by rw [(show x = g from hx)]; exact ⟨hBg, gr, gs⟩))
  have hh6 := xd.cell hhi
  clear hgetd hadd TL1 hget1 TL2 mm1 mm2 TLD OBD SBD
  go_wp2_with fail
  go_end0
  exact ⟨rfl, HPQ.out ▸ FIN.out, MW3.out.trans MFIN.out⟩
theorem tagL_text {N : Nat} {r e : List UInt8} {t : Tk} (h : tagL N r = some (t, e)) : t.text = [] ∧ t.kind ≠ 1 := by
  unfold tagL at h
  by_cases hl0 : headP letterB (tagR r) = true
  · rw [if_pos hl0] at h
    by_cases hcl : closeB r = true
    · rw [if_pos hcl] at h
      unfold closeL at h
      split at h
      · cases h
      · cases h; exact ⟨rfl, (by decide : ¬ (3 : Int) = 1)⟩
    · rw [if_neg hcl] at h
      unfold openL at h
      cases hx : partsL ((tagR r).dropWhile alnumB) with
      | none => rw [hx] at h; cases h
      | some x => rw [hx] at h; cases h; exact ⟨rfl, (by decide : ¬ (2 : Int) = 1)⟩
  · rw [if_neg hl0] at h
    cases h
theorem lexL_small (N : Nat) : ∀ (n : Nat) (r raw : List UInt8) (a b : Nat), r.length ≤ n → (∀ t ∈ lexL N raw a b r, t.text.length ≤ raw.length + r.length) ∧ (lexL N raw a b r).length ≤ r.length + (if raw = [] then 0 else 1) := by
  have hfl : ∀ raw a b, (flushT raw a b).length = (if raw = [] then 0 else 1) ∧ ∀ t ∈ flushT raw a b, t.text.length ≤ raw.length := by
    intro raw a b
    unfold flushT
    split
    · exact ⟨rfl, fun t ht => by cases ht⟩
    · exact ⟨rfl, fun t ht => by rw [List.mem_singleton.1 ht]; exact Nat.le_refl _⟩
  intro n
  induction n with
  | zero =>
    intro r raw a b hn
    obtain rfl : r = [] := List.eq_nil_of_length_eq_zero (by omega)
    rw [lexL_nil]
    exact ⟨fun t ht => Nat.le_trans ((hfl raw a b).2 t ht) (Nat.le_add_right _ _), by rw [(hfl raw a b).1]; omega⟩
  | succ n ih =>
    intro r raw a b hn
    cases r with
    | nil =>
      rw [lexL_nil]
      exact ⟨fun t ht => Nat.le_trans ((hfl raw a b).2 t ht) (Nat.le_add_right _ _), by rw [(hfl raw a b).1]; omega⟩
    | cons c q =>
      simp only [List.length_cons] at hn
      have hch : (c ≠ 60 ∨ noteL (c :: q) = none ∧ tagL N (c :: q) = none) → (∀ t ∈ lexL N raw a b (c :: q), t.text.length ≤ raw.length + (c :: q).length) ∧ (lexL N raw a b (c :: q)).length ≤ (c :: q).length + (if raw = [] then 0 else 1) := by
        intro h
        rw [lexL_char h]
        obtain ⟨i1, i2⟩ := ih q (raw ++ [c]) (if raw = [] then N - (q.length + 1) else a) (N - q.length) (by omega)
        refine ⟨fun t ht => by have := i1 t ht; simp at this ⊢; omega, ?_⟩
        rw [if_neg (show ¬ raw ++ [c] = [] by simp)] at i2
        simp only [List.length_cons]
        omega
      by_cases hc : c = 60
      · subst hc
        cases hno : noteL (60 :: q) with
        | some e =>
          rw [lexL_note hno]
          have h2 := (noteL_suf hno).2
          simp only [List.length_cons] at h2
          obtain ⟨i1, i2⟩ := ih e raw a b (by omega)
          exact ⟨fun t ht => by have := i1 t ht; simp; omega, by simp only [List.length_cons]; omega⟩
        | none =>
          cases hta : tagL N (60 :: q) with
          | none => exact hch (.inr ⟨hno, hta⟩)
          | some te =>
            obtain ⟨t, e⟩ := te
            rw [lexL_tag hno hta]
            have h2 := (tagL_len hta).2
            simp only [List.length_cons] at h2
            obtain ⟨i1, i2⟩ := ih e [] a b (by omega)
            obtain ⟨f1, f2⟩ := hfl raw a b
            have htx : t.text = [] := (tagL_text hta).1
            refine ⟨fun x hx => ?_, ?_⟩
            · rcases List.mem_append.1 hx with hx | hx
              · exact Nat.le_trans (f2 x hx) (Nat.le_add_right _ _)
              · rcases List.mem_cons.1 hx with rfl | hx
                · rw [htx]; exact Nat.zero_le _
                · have := i1 x hx
                  simp at this ⊢
                  omega
            · rw [List.length_append, List.length_cons, f1]
              simp only [List.length_cons, if_true] at i2 ⊢
              omega
      · exact hch (.inl hc)
theorem map_snoc {L : List TkA} {d : List Tk} {x : Tk} (h : L.map Prod.fst = d ++ [x]) : ∃ D p, L = D ++ [p] ∧ D.map Prod.fst = d ∧ p.1 = x := by
  obtain ⟨D, Q, h1, h2, h3⟩ := List.map_eq_append_iff.1 h
  cases Q with
  | nil => cases h3
  | cons p Q =>
    cases Q with
    | cons _ _ => cases h3
    | nil => exact ⟨D, p, h1, h2, by simpa using h3⟩
theorem map_step {f : Tk → Tk} {l : List Tk} {k : Nat} {c : Tk} (h : l[k]? = some c) : (l.take (k + 1)).map f ++ l.drop (k + 1) = ((l.take k).map f ++ l.drop k).set k (f c) := by
  obtain ⟨hk, e⟩ := List.getElem?_eq_some_iff.1 h
  have hm : min k l.length = k := Nat.min_eq_left (Nat.le_of_lt hk)
  rw [List.take_succ_eq_append_getElem hk, List.map_append, List.drop_eq_getElem_cons hk, e, List.set_append_right _ _ (by simp; omega)]
  simp [hm]
theorem map_same {f : Tk → Tk} {l : List Tk} {k : Nat} {c : Tk} (h : l[k]? = some c) (hc : f c = c) : (l.take (k + 1)).map f ++ l.drop (k + 1) = (l.take k).map f ++ l.drop k := by
  obtain ⟨hk, e⟩ := List.getElem?_eq_some_iff.1 h
  rw [List.take_succ_eq_append_getElem hk, List.map_append, List.drop_eq_getElem_cons hk, e]
  simp [hc]
def opB (raw : List UInt8) : Bool := !raw.isEmpty
section
variable {B lb ob sb rb : Nat} {s : ByteArray} {op : Bool} {L : List TkA} {w w' : World}
theorem AS.mv {S : Nat → Prop} (h : AS B lb ob sb rb s op L w) (k : Mv S w w') (hS : ∀ g, S g → Nb lb ob sb rb g) (h1 : ¬ S lb) (h2 : ¬ S ob) (h3 : ¬ S sb) : AS B lb ob sb rb s op L w' := by
  obtain ⟨⟨lv, gb, h0⟩, hob, hsb⟩ := h
  exact ⟨⟨lv, gb, h0.mv k hS h1⟩, k.block hob h2, k.block hsb h3⟩
theorem AS.rdr (h : AS B lb ob sb rb s op L w) (k : Mv (· = rb) w w') (hd : Dist B lb ob sb rb) : AS B lb ob sb rb s op L w' :=
  h.mv k (fun g hg => .inr (.inr (.inr hg))) (by show ¬ lb = rb; have := hd.lr; omega) (by show ¬ ob = rb; have := hd.ro; omega) (by show ¬ sb = rb; have := hd.sl; have := hd.lr; omega)
theorem AS.ext (h : AS B lb ob sb rb s op L w) (k : Ext w w') : AS B lb ob sb rb s op L w' := h.mv (S := fun _ => False) (Mv.ofExt k) (fun _ h => h.elim) id id id
end
def TkNew (B : Nat) (w : World) (v : Value) (l : List Tk) : Prop := ∃ L : List TkA, L.map Prod.fst = l ∧ RowP w (fun _ => True) 55 7 v L.length (tkCells L) ∧ ∀ p ∈ L, RowP w (fun g => B ≤ g) 104 2 p.2 p.1.attrs.length (attrCells p.1.attrs)
def RAllN (t : ByteArray) (w : World) (e : Ending) (w' : World) : Prop :=
  (8192 < t.size ∧ e = .returned (.tuple #[.slice none 0 0, .int .i64 10]) ∧ Ext w w') ∨ (t.size ≤ 8192 ∧ ∃ v, e = .returned (.tuple #[v, .int .i64 0]) ∧ Ext w w' ∧ TkNew w.heap.size w' v (tokens t.data.toList))
def ARel (B lb ob sb rb : Nat) (t : ByteArray) (w : World) (gf : Nat) (wr : World) : Prop := ∃ (done : List Tk) (raw : List UInt8) (a b : Nat) (r : List UInt8) (L : List TkA),
  Rd rb t r wr ∧ AS B lb ob sb rb t (opB raw) L wr ∧ Ext w wr ∧ L.map Prod.fst = done ++ flushT raw a b ∧ r.length ≤ gf ∧ done ++ lexL t.size raw a b r = lexL t.size [] 0 0 t.data.toList ∧ L.length + r.length ≤ t.size ∧ raw.length + r.length ≤ t.size
theorem flush_nil (a b : Nat) : flushT [] a b = [] := rfl
theorem flush_some {raw : List UInt8} (h : raw ≠ []) (a b : Nat) : flushT raw a b = [⟨1, [], raw, [], false, a, b⟩] := if_neg h
theorem opB_nil : opB [] = false := rfl
theorem opB_some {raw : List UInt8} (h : raw ≠ []) : opB raw = true := by cases raw; exact absurd rfl h; rfl
theorem All_new (s : ByteArray) (hs : s.size ≤ 10000000000) (w : World) (hl : LW w) : Calls Tryz.prog 24 #[.string s] w (RAllN (anewB s) w) := by
  have HA := qh (xanew_any s (by omega))
  obtain ⟨t, ht⟩ : ∃ t, anewB s = t := ⟨_, rfl⟩
  rw [ht] at HA ⊢
  have hmf : ∀ (fn : Fn) (first cap : Array Value) (w : World), (Instr.makeFunc fn first cap).run Tryz.prog w = .ok (.func fn first cap) w := fun _ _ _ _ => rfl
  have HL := qh hl
  clear ht hs hl
  have x0 := (Ext.refl w).alloc (.cells #[.string s] 9)
  have hb0 := heap_alloc_new w (.cells #[.string s] 9)
  go_enter Tryz.func24, Tryz.ntmps24
  go_upto_region 1 with fail
  obtain ⟨w0, hw0⟩ : ∃ w' : World, w' = w.alloc (.cells #[.string s] 9) := ⟨_, rfl⟩
  rw [← hw0] at x0 hb0 ⊢
  clear hw0
  obtain ⟨sb, hsb⟩ : ∃ b, w.heap.size = b := ⟨_, rfl⟩
  rw [hsb] at hb0 ⊢
  have HSB := qh hsb
  have c0 := cellOf hb0 (i := 0) (v := .string s) rfl
  have X0 := qh x0
  have HB0 := qh hb0
  clear hsb x0 hb0
  go_wp2_with (go_at_call 49; refine (HA.out _).mono ?_)
  rintro e w1 ⟨rfl, x1⟩
  have hb1 := x1.block HB0.out
  have c1 := cellOf hb1 (i := 0) (v := .string s) rfl
  have f1 := freeOf hb1 0
  have x2 : Ext w (w1.setCell ⟨sb, 0, none⟩ (.string t)) := (X0.out.trans x1).setCell (p := ⟨sb, 0, none⟩) (by show w.heap.size ≤ sb; rw [HSB.out]; exact Nat.le_refl _) _
  have hb2 := heap_setCell_same (i := 0) hb1 (.string t)
  clear x1 hb1 c0
  go_upto_region 2 with fail
  obtain ⟨w2, hw2⟩ : ∃ w' : World, w' = w1.setCell ⟨sb, 0, none⟩ (.string t) := ⟨_, rfl⟩
  rw [← hw2] at x2 hb2 ⊢
  clear hw2 c1 f1
  have hb2 : w2.heap[sb]? = some (.cells #[.string t] 9 (0, 0)) := hb2
  have c2 := cellOf hb2 (i := 0) (v := .string t) rfl
  have X2 := qh x2
  have HB2 := qh hb2
  clear x2 hb2
  by_cases hlong : 8192 < t.size
  · have hli : decide ((8192 : Int) < (t.size : Int)) = true := decide_eq_true (by omega)
    have hln : decide (8192 < t.size) = true := decide_eq_true hlong
    have HLO := qh hlong
    clear hlong
    go_wp2_with fail
    go_ret2
    exact .inl ⟨HLO.out, rfl, X2.out⟩
  have hli : decide ((8192 : Int) < (t.size : Int)) = false := decide_eq_false (by omega)
  have hln : decide (8192 < t.size) = false := decide_eq_false hlong
  have h81 : t.size ≤ 8192 := by omega
  have H81 := qh h81
  clear hlong
  go_upto_region 4 with fail
  clear hli hln
  have x3 := (Ext.refl w2).alloc (.cells #[.slice none 0 0] 44)
  have hb3 := heap_alloc_new w2 (.cells #[.slice none 0 0] 44)
  obtain ⟨lb, hlb⟩ : ∃ b, w2.heap.size = b := ⟨_, rfl⟩
  have HLB := qh hlb
  clear hlb
  go_upto_region 5 with fail
  obtain ⟨w3, hw3⟩ : ∃ w' : World, w' = w2.alloc (.cells #[.slice none 0 0] 44) := ⟨_, rfl⟩
  have hs3 : Hid (w3.heap.size = w2.heap.size + 1) := qh (by rw [hw3]; simp)
  rw [← hw3] at x3 hb3 ⊢
  clear hw3
  rw [HLB.out] at hb3 ⊢
  have c3 := x3.cell c2
  have x4 := (Ext.refl w3).alloc (.cells #[.string t, .int .i64 0] 107)
  have hb4 := heap_alloc_new w3 (.cells #[.string t, .int .i64 0] 107)
  obtain ⟨rb, hrb⟩ : ∃ b, w3.heap.size = b := ⟨_, rfl⟩
  have HRB := qh hrb
  clear hrb
  go_upto_region 6 with fail
  obtain ⟨w4, hw4⟩ : ∃ w' : World, w' = w3.alloc (.cells #[.string t, .int .i64 0] 107) := ⟨_, rfl⟩
  have hs4 : Hid (w4.heap.size = w3.heap.size + 1) := qh (by rw [hw4]; simp)
  rw [← hw4] at x4 hb4 ⊢
  clear hw4 c3 c2
  rw [HRB.out] at hb4 ⊢
  have x5 := (Ext.refl w4).alloc (.cells #[.bool false] 4)
  have hb5 := heap_alloc_new w4 (.cells #[.bool false] 4)
  obtain ⟨ob, hob⟩ : ∃ b, w4.heap.size = b := ⟨_, rfl⟩
  have HOB := qh hob
  clear hob
  go_upto_region 7 with fail
  obtain ⟨w5, hw5⟩ : ∃ w' : World, w' = w4.alloc (.cells #[.bool false] 4) := ⟨_, rfl⟩
  rw [← hw5] at x5 hb5 ⊢
  clear hw5
  rw [HOB.out] at hb5 ⊢
  have hB : sb < w2.heap.size := (Array.getElem?_eq_some_iff.1 HB2.out).1
  have HD : Hid (Dist w.heap.size lb ob sb rb) := qh (by
    have e1 := HSB.out; have e2 := HLB.out; have e3 := HRB.out; have e4 := HOB.out; have e5 := hs3.out; have e6 := hs4.out
    exact ⟨by omega, by omega, by omega, by omega⟩)
  have hz : t.data.toList.length = t.size := rfl
  have HREL0 : Hid (ARel w.heap.size lb ob sb rb t w t.size w5) := qh (by
    have hx35 := (x4.trans x5)
    refine ⟨[], [], 0, 0, t.data.toList, [], ⟨0, by rw [hz, Nat.zero_add], rfl, x5.block hb4⟩, ⟨⟨.slice none 0 0, none, ⟨hx35.block hb3, ⟨rfl, .inl ⟨rfl, none, rfl⟩⟩, (fun z hz => by cases hz), (fun p hp => by cases hp)⟩⟩, hb5, ((x3.trans x4).trans x5).block HB2.out⟩, X2.out.trans ((x3.trans x4).trans x5), rfl, by rw [hz]; exact Nat.le_refl _, rfl, by rw [hz]; simp, by rw [hz]; simp⟩)
  clear x3 x4 x5 hb3 hb4 hb5 hs3 hs4 hB hz
  have HT := qh (lexL_small t.size t.data.toList.length t.data.toList [] 0 0 (Nat.le_refl _))
  go_wp2_with fail
  go_loopg [8, 9, 10] t.size (fun gf _ _ _ wr => ARel w.heap.size lb ob sb rb t w gf wr)
  case atStart => exact HREL0.out
  case round =>
    obtain ⟨done, raw, a, b, r, L, hrd, has, hx, hfl, hgf, hlex, hll, hrl⟩ := hrel
    have HAS := qh has
    have HX := qh hx
    have HFL := qh hfl
    have HGF := qh hgf
    have HLEX := qh hlex
    have HLL := qh hll
    have HRL := qh hrl
    have HRD := qh hrd
    have hd := HD.out
    obtain ⟨k, k1, k2, k3⟩ := hrd
    obtain ⟨⟨lv0, gb0, tl0⟩, hob0, hsb0⟩ := has
    have hbz : w.heap.size ≤ wr.heap.size := hx.size
    have hrbz := (Array.getElem?_eq_some_iff.1 k3).1
    have c0 : ∀ u : ExtOf wr, u.val.cell? ⟨rb, 1, none⟩ = some (.int .i64 k) := fun u => u.ext.cell (cellOf k3 rfl)
    have c1 : ∀ u : ExtOf wr, u.val.cell? ⟨sb, 0, none⟩ = some (.string t) := fun u => u.ext.cell (cellOf hsb0 rfl)
    have HK := qh (And.intro k1 (And.intro k2 k3))
    clear hx hfl hgf hlex hll hrl tl0 hob0 hsb0 k3 hd
    cases r with
    | nil =>
      have hlt : decide ((k : Int) < (t.size : Int)) = false := decide_eq_false (by simp at k1; omega)
      have hltn : decide (k < t.size) = false := decide_eq_false (by simp at k1; omega)
      clear k1 k2
      go_upto_region 8 with fail
      refine wp_region_ext (by kernel_rfl) (by kernel_rfl) ?_
      repeat (go_big_quiet_step (fail))
      refine wpQuiet_nil ?_
      rintro _ ⟨u, rfl⟩
      have xu := u.ext
      obtain ⟨w6, hw6⟩ : ∃ w', u.val = w' := ⟨_, rfl⟩
      rw [hw6] at xu ⊢
      obtain ⟨⟨lv, gb, tl6⟩, _, _⟩ := HAS.out.ext xu
      have c6 := cellOf tl6.box (i := 0) (v := lv) rfl
      have XW6 := qh (HX.out.trans xu)
      have HTL6 := qh tl6
      have HTT : Hid (L.map Prod.fst = lexL t.size [] 0 0 t.data.toList) := qh (by rw [HFL.out, ← HLEX.out, lexL_nil])
      obtain ⟨la, lcap, hlv, _⟩ := tl6.row.rd.len_of
      have HLV := qh hlv
      rw [hlv] at c6
      clear c0 c1 hw6 xu tl6 hlt hltn hlv
      clear u
      obtain ⟨T, hT⟩ : ∃ T, lexL t.size [] 0 0 t.data.toList = T := ⟨_, rfl⟩
      rw [hT] at HTT
      have HTE := qh hT
      have hTl : L.length = T.length := by rw [← HTT.out, List.length_map]
      clear hT
      go_wp2_with fail
      clear c6
      go_loopw [71, 11] (fun i _ wl => ∃ (m : Nat) (L' : List TkA), m ≤ L.length ∧ i = .int .i64 m ∧ TL w.heap.size (Nb lb ob sb rb) lb L' lv gb wl ∧ L'.length = L.length ∧ L'.map Prod.fst = (T.take m).map Tk.fin ++ T.drop m ∧ Ext w wl) (fun i _ _ => L.length - (intOf i).toNat)
      case atStart => exact ⟨0, L, Nat.zero_le _, rfl, HTL6.out, rfl, by simpa using HTT.out, XW6.out⟩
      case round =>
        obtain ⟨m, L', hm, rfl, htl, hl', hmap, hxl⟩ := hrel
        have HTLL := qh htl
        have HL' := qh hl'
        have HMAP := qh hmap
        have HXL := qh hxl
        have c6 := cellOf htl.box (i := 0) (v := lv) rfl
        have hlen8 : L.length ≤ 8192 := by have := HLL.out; simp at this; omega
        by_cases hml : m < L.length
        · obtain ⟨p, hp⟩ : ∃ p, L'[m]? = some p := ⟨L'[m]'(by omega), List.getElem?_eq_getElem (by omega)⟩
          have htp : T[m]? = some p.1 := by
            have h1 := congrArg (fun l : List Tk => l[m]?) hmap
            simp only [List.getElem?_map, hp, Option.map_some] at h1
            rw [List.getElem?_append_right (by simp; omega)] at h1
            have hmin : min m T.length = m := by omega
            simp only [List.length_map, List.length_take, hmin, Nat.sub_self, List.getElem?_drop, Nat.add_zero] at h1
            exact h1.symm
          obtain ⟨g, cap, cur, hgb, hBg, hNg, hlvg, hrow, hrl, hq1, hq2, hrt⟩ := htl.some_ (by omega)
          have hlv2 : Value.slice la L.length lcap = Value.slice (some ⟨g, 0, none⟩) L'.length cap := HLV.out.symm.trans hlvg
          rw [hl'] at hlv2
          injection hlv2 with hla hlc1 hlc2
          subst hla
          subst hlc2
          have e0 := row_cell (f := 0) hrow hrt hp (v := .int .i64 p.1.kind) rfl
          have e2 := row_cell (f := 2) hrow hrt hp (v := .string (bs p.1.text)) rfl
          have ff2 := freeOf hrow (m * 7 + 2)
          rw [Nat.add_zero] at e0
          rw [HLV.out] at c6
          have HP := qh hp
          have HTP := qh htp
          have HGB := qh hgb
          have hgl : g ≠ lb := fun e => hNg (.inl e)
          have hgs : g ≠ sb := fun e => hNg (.inr (.inr (.inl e)))
          have HTX := qh (HT.out.1 p.1 (by rw [HTE.out]; exact List.mem_of_getElem? htp))
          have htn : (m : Int).toNat = m := by omega
          have hmi : (m : Int) < (L.length : Int) := by omega
          have hm0 : (0 : Int) ≤ (m : Int) := by omega
          have hbw : w.heap.size ≤ g := hBg
          clear htl hl' hmap hxl hp htp hgb hNg hlvg hrow hrl hq1 hq2 hrt hBg
          by_cases hk1 : p.1.kind = 1
          · have hki : (p.1.kind == 1) = true := by rw [hk1]; rfl
            have HK1 := qh hk1
            clear hk1
            have HNX : Hid ((T.take (m + 1)).map Tk.fin ++ T.drop (m + 1) = ((T.take m).map Tk.fin ++ T.drop m).set m p.1.fin) := qh (map_step HTP.out)
            have hdz : (bs p.1.text).size ≤ 100000000000 := by rw [bs_size]; have h7 := HTX.out; have h8 := H81.out; have hz : t.data.toList.length = t.size := rfl; have h9 : ([] : List UInt8).length = 0 := rfl; omega
            have HDE := qh (fun W hW => (show Calls Tryz.prog 55 #[.string (bs p.1.text)] W (RVal (.string (bs (decT p.1.text))) W) from Decode_any (bs p.1.text) hdz W hW))
            obtain ⟨dt, hdt⟩ : ∃ x, decT p.1.text = x := ⟨_, rfl⟩
            rw [hdt] at HDE
            have HFI : Hid (p.1.fin = { p.1 with text := dt }) := qh (by unfold Tk.fin; rw [if_pos HK1.out, hdt])
            obtain ⟨pt, hpt⟩ : ∃ pt, bs p.1.text = pt := ⟨_, rfl⟩
            rw [hpt] at e2 HDE
            obtain ⟨kd, hkd⟩ : ∃ z, p.1.kind = z := ⟨_, rfl⟩
            rw [hkd] at e0 hki
            clear hpt hdz hkd hdt
            go_upto_region 24 with fail
            refine wp_region_E (S := fun w' => w'.cell? ⟨lb, 0, none⟩ = some (.slice (some ⟨g, 0, none⟩) L.length lcap) ∧ w'.cell? ⟨g, m * 7 + 2, none⟩ = some (.string pt)) (n := 10) (by kernel_rfl) ?_
            have hS : wr.drew.cell? ⟨lb, 0, none⟩ = some (.slice (some ⟨g, 0, none⟩) L.length lcap) ∧ wr.drew.cell? ⟨g, m * 7 + 2, none⟩ = some (.string pt) := ⟨c6, e2⟩
            show wpE _ _ _ _ _ 10 11 (Array.replicate 11 false) _ _
            refine wpE_tk 0 80 (.slice (some ⟨g, 0, none⟩) L.length lcap) rfl (.inl ⟨by rfl, fun w' hSw => ?_⟩) hS ?_
            · (obtain ⟨s1, s2⟩ := hSw; clear hS; go_simp)
            try simp only [Act.put, zA, zB, zC]
            refine wpE_tk 1 81 (.int .i64 m) rfl (.inl ⟨by rfl, fun w' hSw => ?_⟩) hS ?_
            · (obtain ⟨s1, s2⟩ := hSw; clear hS; go_simp)
            try simp only [Act.put, zA, zB, zC]
            refine wpE_tk 2 82 (.slice (some ⟨g, 0, none⟩) L.length lcap) rfl (.inl ⟨by rfl, fun w' hSw => ?_⟩) hS ?_
            · (obtain ⟨s1, s2⟩ := hSw; clear hS; go_simp)
            try simp only [Act.put, zA, zB, zC]
            refine wpE_tk 3 83 (.int .i64 m) rfl (.inl ⟨by rfl, fun w' hSw => ?_⟩) hS ?_
            · (obtain ⟨s1, s2⟩ := hSw; clear hS; go_simp)
            try simp only [Act.put, zA, zB, zC]
            refine wpE_tk 4 84 (.pointer (some ⟨g, m * 7, none⟩)) rfl (.inl ⟨by rfl, fun w' hSw => ?_⟩) hS ?_
            · (obtain ⟨s1, s2⟩ := hSw; clear hS; go_simp)
            try simp only [Act.put, zA, zB, zC]
            refine wpE_tk 5 85 (.pointer (some ⟨g, m * 7 + 2, none⟩)) rfl (.inl ⟨by rfl, fun w' hSw => ?_⟩) hS ?_
            · (obtain ⟨s1, s2⟩ := hSw; clear hS; go_simp)
            try simp only [Act.put, zA, zB, zC]
            refine wpE_tk 6 86 (.string pt) rfl (.inl ⟨by rfl, fun w' hSw => ?_⟩) hS ?_
            · (obtain ⟨s1, s2⟩ := hSw; clear hS; go_simp)
            try simp only [Act.put, zA, zB, zC]
            obtain ⟨wd, hwd⟩ : ∃ wd : World, wd = wr.drew := ⟨_, rfl⟩
            have xd : Ext wr wd := by rw [hwd]; exact (Ext.refl _).drew
            rw [← hwd] at hS ⊢
            clear hwd
            refine wpE_on 7 (some 87) rfl (fun K hK => ?_)
            go_simp
            go_at_call 55
            refine (HDE.out wd (HL.out.ext (HXL.out.trans xd))).mono ?_
            rintro e w30 ⟨rfl, x30⟩
            have x31 : Ext wr w30 := xd.trans x30
            have hS2 := And.intro (x31.cell c6) (x31.cell e2)
            have gf2 := x31.free (cell_lt e2) ff2
            have TL30 := qh (HTLL.out.ext x31)
            have X30 := qh (HXL.out.trans x31)
            refine hK.out _ _ (.inr hS2) ?_
            clear hK K hS x30 x31 xd
            have hS := hS2
            clear hS2
            try simp only [Act.put, zA, zB, zC]
            refine wpE_on 8 (some 88) rfl (fun K hK => ?_)
            go_simp
            refine hK.out _ _ (.inr hS) ?_
            clear hK K
            try simp only [Act.put, zA, zB, zC]
            refine wpE_on 9 (some 89) rfl (fun K hK => ?_)
            go_simp
            refine hK.out _ _ (.inr hS) ?_
            clear hK K
            try simp only [Act.put, zA, zB, zC]
            have hcg := hS.2
            refine wpE_on 10 (none) rfl (fun K hK => ?_)
            go_simp
            refine hK.out _ _ (.inl rfl) ?_
            clear hK K hS hcg
            refine wpE_done (by kernel_rfl) ?_
            have TL31 := qh (TL30.out.set (i := m) (f := 2) (p' := (p.1.fin, p.2)) (v := .string (bs dt)) HP.out (by decide) (by rw [HFI.out]; rfl) rfl (by rw [HFI.out]) (.inl rfl) HGB.out)
            have X31 : Hid (Ext w (w30.setCell ⟨g, m * 7 + 2, none⟩ (.string (bs dt)))) := qh (X30.out.setCell (p := ⟨g, m * 7 + 2, none⟩) hbw _)
            clear gf2
            go_wp2_with fail
            go_roundw
            case rel => exact ⟨m + 1, L'.set m (p.1.fin, p.2), by omega, by go_num, TL31.out, by rw [List.length_set]; exact HL'.out, by rw [HNX.out, ← HMAP.out, List.map_set], X31.out⟩
            case measure => simp [intOf]; omega
          · have hki : (p.1.kind == 1) = false := by rw [beq_eq_false_iff_ne]; exact hk1
            have HNX : Hid ((T.take (m + 1)).map Tk.fin ++ T.drop (m + 1) = (T.take m).map Tk.fin ++ T.drop m) := qh (map_same HTP.out (by unfold Tk.fin; rw [if_neg hk1]))
            obtain ⟨kd, hkd⟩ : ∃ z, p.1.kind = z := ⟨_, rfl⟩
            rw [hkd] at e0 hki
            clear hkd hk1 e2
            go_wp2_with fail
            go_roundw
            case rel => exact ⟨m + 1, L', by omega, by go_num, HTLL.out, HL'.out, by rw [HNX.out]; exact HMAP.out, HXL.out⟩
            case measure => simp [intOf]; omega
        · obtain rfl : m = L.length := by omega
          have hfin : L'.map Prod.fst = tokens t.data.toList := by
            rw [hmap, hTl, List.take_length, List.drop_length, List.append_nil]
            unfold tokens
            rw [show t.data.toList.length = t.size from rfl, HTE.out]
          have HFIN : Hid (TkNew w.heap.size wr lv (tokens t.data.toList)) := qh ⟨L', hfin, RowP.imp htl.row (fun _ _ _ => trivial), fun p hp => RowP.imp (htl.att p hp) fun g _ hg => hg.1⟩
          clear hfin htl hl' hmap hxl
          go_wp2_with fail
          go_ret2
          exact .inr ⟨H81.out, lv, rfl, HXL.out, HFIN.out⟩
    | cons c q =>
      obtain ⟨hk, hck, hq1, hq2⟩ := Rd.head k1 k2
      have hlt : decide ((k : Int) < (t.size : Int)) = true := decide_eq_true (by omega)
      have hltn : decide (k < t.size) = true := decide_eq_true hk
      have hix : ∀ W : World, (Instr.index 9 (.string t) (.int .i64 (k : Int))).run Tryz.prog W = .ok (.int .u8 (c.toNat : Int)) W := by
        intro W
        rw [run_index_string W 9 t .i64 (k : Int) Tryz.underlying9, dif_pos ⟨by omega, by omega⟩]
        simp only [Int.toNat_natCast, hck]
      have HQ := qh (And.intro hq1 hq2)
      have hkl : k + (q.length + 1) = t.size := by simpa using k1
      clear k1 k2 hq1 hq2 hck
      go_upto_region 8 with fail
      refine wp_region_ext (by kernel_rfl) (by kernel_rfl) ?_
      repeat (go_big_quiet_step (fail))
      refine wpQuiet_nil ?_
      rintro _ ⟨u, rfl⟩
      have xu := u.ext
      have c0' := c0 u
      have c1' := c1 u
      obtain ⟨w6, hw6⟩ : ∃ w', u.val = w' := ⟨_, rfl⟩
      rw [hw6] at xu c0' c1' ⊢
      have X6 := qh xu
      have HAS6 := qh (HAS.out.ext xu)
      have HRD6 := qh (HRD.out.ext xu)
      have XW6 := qh (HX.out.trans xu)
      clear c0 c1 hw6 xu
      clear u
      have hu8 := u8_ne c 60
      by_cases hc : c = 60
      · subst hc
        have e60 : (((60 : UInt8).toNat : Int) != 60) = false := rfl
        have e60b : ((60 : Int) != 60) = false := rfl
        clear hu8
        have HNOTE := qh (note_any rb t (60 :: q) w6 (by omega) HRD6.out (HL.out.ext XW6.out))
        cases hno : noteL (60 :: q) with
        | some e5 =>
          rw [hno] at HNOTE
          have HN := qh (lexL_note (N := t.size) (raw := raw) (a := a) (b := b) hno)
          have hn2 := (noteL_suf hno).2
          simp only [List.length_cons] at hn2
          clear hno
          go_wp2_with (go_at_call 53; refine HNOTE.out.mono ?_)
          rintro e w7 ⟨rfl, m7, r7⟩
          have M7 := qh m7
          have R7 := qh r7
          clear m7 r7 c0' c1'
          go_wp2_with fail
          obtain ⟨g', rfl⟩ : ∃ g', gk = g' + 1 := ⟨gk - 1, by have := HGF.out; simp at this; omega⟩
          go_roundg g'
          case measure => omega
          case rel =>
            have h1 := HGF.out; have h2 := HLL.out; have h3 := HRL.out
            simp only [List.length_cons] at h1 h2 h3
            exact ⟨done, raw, a, b, e5, L, R7.out, HAS6.out.rdr M7.out HD.out, Mv.toExt XW6.out M7.out (fun x hx => by rw [(show x = rb from hx)]; have := HD.out.b; have := HD.out.sl; have := HD.out.lr; omega), HFL.out, by omega, by rw [← HN.out]; exact HLEX.out, by omega, by omega⟩
        | none =>
          rw [hno] at HNOTE
          have HNO := qh hno
          clear hno
          go_wp2_with (go_at_call 53; refine HNOTE.out.mono ?_)
          rintro e w7 ⟨rfl, m7, r7⟩
          have XW7 : Hid (Ext w w7) := qh (Mv.toExt XW6.out m7 (fun x hx => by rw [(show x = rb from hx)]; have := HD.out.b; have := HD.out.sl; have := HD.out.lr; omega))
          have HAS7 := qh (HAS6.out.rdr m7 HD.out)
          have HTAG := qh (tag_any rb t 60 q w7 (by omega) r7 (fun W hW => HL.out.ext (Mv.toExt XW7.out hW (fun x hx => by rw [(show x = rb from hx)]; have := HD.out.b; have := HD.out.sl; have := HD.out.lr; omega))))
          clear m7 r7 c0' c1'
          cases hta : tagL t.size (60 :: q) with
          | some te =>
            obtain ⟨tk, e5⟩ := te
            rw [hta] at HTAG
            have HN := qh (lexL_tag (N := t.size) (raw := raw) (a := a) (b := b) HNO.out hta)
            have hn2 := (tagL_len hta).2
            simp only [List.length_cons] at hn2
            clear hta
            go_wp2_with (go_at_call 54; refine HTAG.out.mono ?_)
            rintro e w8 ⟨av, rfl, m8, r8, hav⟩
            unfold tkV
            have hws7 := m8.size
            have as8 := HAS7.out.rdr m8 HD.out
            obtain ⟨⟨lv, gb, tl7⟩, _, _⟩ := HAS7.out
            have xw8 := Mv.toExt XW7.out m8 (fun x hx => by rw [(show x = rb from hx)]; have := HD.out.b; have := HD.out.sl; have := HD.out.lr; omega)
            have tl8 : TL w.heap.size (Nb lb ob sb rb) lb L lv gb w8 := tl7.mv m8 (fun g hg => .inr (.inr (.inr hg))) (by show ¬ lb = rb; have := HD.out.lr; omega)
            have hN7 : ∀ g, Nb lb ob sb rb g → g < w7.heap.size := by
              obtain ⟨_, hob7, hsb7⟩ := HAS7.out
              rintro g (rfl | rfl | rfl | rfl)
              · exact (Array.getElem?_eq_some_iff.1 tl7.box).1
              · exact (Array.getElem?_eq_some_iff.1 hob7).1
              · exact (Array.getElem?_eq_some_iff.1 hsb7).1
              · have := HD.out.ro; have := (Array.getElem?_eq_some_iff.1 hob7).1; omega
            obtain ⟨ava, avc, rfl, _⟩ := hav.rd.len_of
            have havc := RowP.imp hav.full (q := fun g => w.heap.size ≤ g ∧ ¬ Nb lb ob sb rb g ∧ gb ≠ some g ∧ g < w8.heap.size) (fun g _ hg => ⟨Nat.le_trans XW7.out.size hg.1, fun hn => absurd (hN7 g hn) (Nat.not_lt.2 hg.1), fun e => absurd (tl7.blk g e).1 (Nat.not_lt.2 hg.1), hg.2⟩)
            have x9 := (Ext.refl w8).alloc (.cells (tkV tk.kind tk.name tk.text (.slice ava tk.attrs.length avc) (if tk.self then 1 else 0) tk.lo tk.hi) 55)
            have hb9 := heap_alloc_new w8 (.cells (tkV tk.kind tk.name tk.text (.slice ava tk.attrs.length avc) (if tk.self then 1 else 0) tk.lo tk.hi) 55)
            have as9 := as8.ext x9
            have tl9 := tl8.ext x9
            have r9 := r8.ext x9
            have xw9 := xw8.trans x9
            have hav9 := RowP.imp (havc.ext x9) (q := fun g => w.heap.size ≤ g ∧ ¬ Nb lb ob sb rb g ∧ gb ≠ some g ∧ g < (w8.alloc (.cells (tkV tk.kind tk.name tk.text (.slice ava tk.attrs.length avc) (if tk.self then 1 else 0) tk.lo tk.hi) 55)).heap.size) (fun g _ hg => ⟨hg.1, hg.2.1, hg.2.2.1, Nat.lt_of_lt_of_le hg.2.2.2 x9.size⟩)
            obtain ⟨sz, hsz⟩ : ∃ z : Int, (if tk.self then (1 : Int) else 0) = z := ⟨_, rfl⟩
            unfold tkV at x9 hb9 as9 tl9 r9 xw9 hav9
            rw [hsz] at x9 hb9 as9 tl9 r9 xw9 hav9 ⊢
            have HSZ := qh (show selfZ tk.self = sz from hsz)
            clear m8 r8 hav havc as8 tl8 tl7 xw8 hsz
            go_upto_region 16 with fail
            obtain ⟨w9, hw9⟩ : ∃ w' : World, w' = w8.alloc (.cells #[.int .i64 tk.kind, .string (bs tk.name), .string (bs tk.text), .slice ava tk.attrs.length avc, .int .i64 sz, .int .i64 (tk.lo : Int), .int .i64 (tk.hi : Int)] 55) := ⟨_, rfl⟩
            rw [← hw9] at x9 hb9 as9 tl9 r9 xw9 hav9 ⊢
            clear hw9
            obtain ⟨b9, hb9e⟩ : ∃ b, w8.heap.size = b := ⟨_, rfl⟩
            rw [hb9e] at hb9 ⊢
            have hx9 := x9.size
            clear hb9e
            have d0 := cellOf hb9 (i := 0) (v := .int .i64 tk.kind) rfl
            have d1 := cellOf hb9 (i := 1) (v := .string (bs tk.name)) rfl
            have d2 := cellOf hb9 (i := 2) (v := .string (bs tk.text)) rfl
            have d3 := cellOf hb9 (i := 3) (v := .slice ava tk.attrs.length avc) rfl
            have d4 := cellOf hb9 (i := 4) (v := .int .i64 sz) rfl
            have d5 := cellOf hb9 (i := 5) (v := .int .i64 (tk.lo : Int)) rfl
            have d6 := cellOf hb9 (i := 6) (v := .int .i64 (tk.hi : Int)) rfl
            have c9 := cellOf tl9.box (i := 0) (v := lv) rfl
            obtain ⟨a0, cap0, wB, hrun, hboxB, hmB, gb1, TLP⟩ := tl9.push (by have := HLL.out; omega) (fun g hg => Nat.lt_of_lt_of_le (hN7 g hg) (Nat.le_trans hws7 hx9)) (.inl rfl) xw9.size (tk, .slice ava tk.attrs.length avc) rfl hav9 (cs := #[.int .i64 tk.kind, .string (bs tk.name), .string (bs tk.text), .slice ava tk.attrs.length avc, .int .i64 sz, .int .i64 (tk.lo : Int), .int .i64 (tk.hi : Int)]) (by rw [← HSZ.out]; rfl)
            have nOb : ¬ gb = some ob := fun e => (tl9.blk ob e).2.2 (.inr (.inl rfl))
            have nSb : ¬ gb = some sb := fun e => (tl9.blk sb e).2.2 (.inr (.inr (.inl rfl)))
            have nRb : ¬ gb = some rb := fun e => (tl9.blk rb e).2.2 (.inr (.inr (.inr rfl)))
            obtain ⟨_, OB9, SB9⟩ := as9
            have OBB := hmB.block OB9 nOb
            have SBB := hmB.block SB9 nSb
            have RB := r9.mv hmB nRb
            have XB := Mv.toExt xw9 hmB (fun x hx => (tl9.blk x hx).2.1)
            have m1 : Mv (· = lb) wB (wB.setCell ⟨lb, 0, none⟩ (.slice a0 (L.length + 1) cap0)) := Mv.setRb (Mv.refl _ wB) _
            have hDD := HD.out
            have OB1 := m1.block OBB (show ¬ ob = lb by have := hDD.lr; have := hDD.ro; omega)
            have SB1 := m1.block SBB (show ¬ sb = lb by have := hDD.sl; omega)
            have R1 := RB.mv m1 (show ¬ rb = lb by have := hDD.lr; omega)
            have X1 := Mv.toExt XB m1 (fun x hx => by rw [(show x = lb from hx)]; have := hDD.b; have := hDD.sl; omega)
            have b3 := cellOf hboxB (i := 0) (v := lv) rfl
            have g3 := freeOf hboxB 0
            have HRUN := qh hrun
            have m2 : Mv (· = ob) (wB.setCell ⟨lb, 0, none⟩ (.slice a0 (L.length + 1) cap0)) ((wB.setCell ⟨lb, 0, none⟩ (.slice a0 (L.length + 1) cap0)).setCell ⟨ob, 0, none⟩ (.bool false)) := Mv.setRb (Mv.refl _ _) _
            have OB2 := heap_setCell_same (i := 0) OB1 (.bool false)
            have SB2 := m2.block SB1 (show ¬ sb = ob by have := hDD.sl; have := hDD.lr; have := hDD.ro; omega)
            have R2 := R1.mv m2 (show ¬ rb = ob by have := hDD.ro; omega)
            have X2' := Mv.toExt X1 m2 (fun x hx => by rw [(show x = ob from hx)]; have := hDD.b; have := hDD.sl; have := hDD.lr; have := hDD.ro; omega)
            have TL2 := TLP.mv m2 (fun g hg => .inr (.inl hg)) (show ¬ lb = ob by have := hDD.lr; have := hDD.ro; omega)
            have AS2 : Hid (AS w.heap.size lb ob sb rb t false (L ++ [(tk, .slice ava tk.attrs.length avc)]) ((wB.setCell ⟨lb, 0, none⟩ (.slice a0 (L.length + 1) cap0)).setCell ⟨ob, 0, none⟩ (.bool false))) := qh ⟨⟨_, _, TL2⟩, OB2, SB2⟩
            have R2H := qh R2
            have X2H := qh X2'
            have o1 := cellOf OB1 (i := 0) (v := .bool (opB raw)) rfl
            have o2 := freeOf OB1 0
            have OB1H := qh OB1
            clear hrun hboxB hmB TLP tl9 nOb nSb nRb OB9 SB9 OBB SBB RB XB m1 hDD OB1 SB1 R1 X1 m2 OB2 SB2 R2 X2' TL2 hav9 hb9 x9 r9 xw9 hN7 hws7 hx9
            go_wp2_with (at_builtin; refine wpList_append_run _ rfl _ _ 44 rfl _ _ rfl rfl _ _ HRUN.out ?_)
            obtain ⟨g', rfl⟩ : ∃ g', gk = g' + 1 := ⟨gk - 1, by have := HGF.out; simp at this; omega⟩
            go_roundg g'
            case measure => omega
            case rel =>
              have h1 := HGF.out; have h2 := HLL.out; have h3 := HRL.out
              simp only [List.length_cons] at h1 h2 h3
              refine ⟨done ++ flushT raw a b ++ [tk], [], a, b, e5, L ++ [(tk, .slice ava tk.attrs.length avc)], R2H.out, (by rw [opB_nil]; exact AS2.out), X2H.out, ?_, by omega, ?_, by simp; omega, by simp; omega⟩
              · rw [List.map_append, HFL.out, flush_nil, List.append_nil]; rfl
              · rw [← HLEX.out, HN.out]; simp
          | none =>
            rw [hta] at HTAG
            have HCH := qh (lexL_char (N := t.size) (raw := raw) (a := a) (b := b) (c := 60) (q := q) (.inr ⟨HNO.out, hta⟩))
            clear hta
            go_wp2_with (go_at_call 54; refine HTAG.out.mono ?_)
            rintro e w8 ⟨f0, f1, f2, f3, f3a, f3c, f4, f5, f6, r9, rfl, rfl, m8, r8⟩
            unfold tkV
            have x9 := (Ext.refl w8).alloc (.cells (tkV f0 f1 f2 (.slice f3a 0 f3c) f4 f5 f6) 55)
            have hb9 := (x9.block (show w8.heap[rb]? = some (.cells #[.string t, .int .i64 ((t.size - r9.length : Nat) : Int)] 107 (0, 0)) by obtain ⟨k9, g1, g2, g3⟩ := r8; rw [g3, show t.size - r9.length = k9 by omega]))
            have as9 := (HAS7.out.rdr m8 HD.out).ext x9
            have xw9 := (Mv.toExt XW7.out m8 (fun x hx => by rw [(show x = rb from hx)]; have := HD.out.b; have := HD.out.sl; have := HD.out.lr; omega)).trans x9
            have hwk : IntKind.i64.wrap ((k : Int) + 1) = (k : Int) + 1 := IntWalk.i64_in _ (by omega)
            unfold tkV at x9 hb9 as9 xw9
            clear m8 r8
            go_upto_region 18 with fail
            obtain ⟨w9, hw9⟩ : ∃ w' : World, w' = w8.alloc (.cells #[.int .i64 f0, .string (bs f1), .string (bs f2), .slice f3a 0 f3c, .int .i64 f4, .int .i64 f5, .int .i64 f6] 55) := ⟨_, rfl⟩
            rw [← hw9] at x9 hb9 as9 xw9 ⊢
            clear hw9 x9
            have c9 := cellOf hb9 (i := 1) rfl
            have f9 := freeOf hb9 1
            have RDx := qh (Rd.move (k := k + 1) (r := q) hb9 HQ.out.2 HQ.out.1)
            have hbx := heap_setCell_same (i := 1) hb9 (.int .i64 ((k + 1 : Nat) : Int))
            have m10 : Mv (· = rb) w9 (w9.setCell ⟨rb, 1, none⟩ (.int .i64 ((k + 1 : Nat) : Int))) := Mv.setRb (Mv.refl _ w9) _
            have HASx := qh (as9.rdr m10 HD.out)
            have XWx := qh (Mv.toExt xw9 m10 (fun x hx => by rw [(show x = rb from hx)]; have := HD.out.b; have := HD.out.sl; have := HD.out.lr; omega))
            clear hb9 as9 xw9 m10
            go_upto_region 19 with fail
            obtain ⟨w10, hw10⟩ : ∃ w' : World, w' = w9.setCell ⟨rb, 1, none⟩ (.int .i64 ((k + 1 : Nat) : Int)) := ⟨_, rfl⟩
            have hw10' : w9.setCell ⟨rb, 1, none⟩ (.int .i64 ((k : Int) + 1)) = w10 := by rw [hw10]; push_cast; rfl
            rw [hw10']
            rw [← hw10] at RDx hbx HASx XWx
            clear hw10 hw10' c9 f9 hwk
            have cx := cellOf hbx (i := 1) (v := .int .i64 ((k + 1 : Nat) : Int)) rfl
            have hk2x : k + 1 ≤ t.size := by omega
            have HPCx : Hid (t.extract k (k + 1) = bs [60]) := qh (by
              have h := bs_cut t.data.toList k (k + 1)
              rw [bs_list] at h
              rw [h, ← HK.out.2.1, Nat.add_sub_cancel_left]
              rfl)
            have HLXx : Hid (lexL t.size raw a b (60 :: q) = lexL t.size (raw ++ [60]) (if raw = [] then k else a) (k + 1) q) := qh (by
              have h := HCH.out
              rw [h, show t.size - (q.length + 1) = k by omega, show t.size - q.length = k + 1 by omega])
            have HLENx : Hid (q.length + ([60] : List UInt8).length = q.length + 1 ∧ 1 ≤ ([60] : List UInt8).length) := qh ⟨rfl, by decide⟩
            obtain ⟨k10, hk10⟩ : ∃ j, k + 1 = j := ⟨_, rfl⟩
            rw [hk10] at cx hk2x HPCx HLXx
            have hkk : k ≤ k10 := by omega
            clear hbx hk10
            by_cases hraw : raw = []
            · have HLX0 : Hid (lexL t.size [] a b (60 :: q) = lexL t.size (([60] : List UInt8)) k (k10) (q)) := qh (by have h := HLXx.out; rw [hraw, if_pos rfl, List.nil_append] at h; exact h)
              subst hraw
              have HT5 := qh (text_new w.heap.size lb ob sb rb t L w10 (by omega) (by have := HLL.out; omega) HD.out RDx.out.lt HASx.out k (k10) (by omega) hk2x (([60] : List UInt8)) HPCx.out)
              go_wp2_with (go_at_call 50; refine HT5.out.mono ?_)
              rintro e w20 ⟨rfl, as20, m20⟩
              have AS20 := qh as20
              have M20 := qh m20
              clear as20 m20
              go_wp2_with fail
              obtain ⟨g', rfl⟩ : ∃ g', gk = g' + 1 := ⟨gk - 1, by have := HGF.out; simp at this; omega⟩
              go_roundg g'
              case measure => omega
              case rel =>
                have h1 := HGF.out; have h2 := HLL.out; have h3 := HRL.out; have h4 := HLENx.out
                simp only [List.length_cons] at h1 h2 h3
                have hne : (([60] : List UInt8)) ≠ [] := by intro e; rw [e] at h4; simp at h4
                refine ⟨done, ([60] : List UInt8), k, k10, q, L ++ [(⟨1, [], ([60] : List UInt8), [], false, k, k10⟩, .slice none 0 0)], RDx.out.mv M20.out (fun h => h.2.1 rfl), ?_, Mv.toExt XWx.out M20.out (fun x hx => hx.1), ?_, by omega, ?_, by first | omega | (simp; omega) | (rw [List.length_append, List.length_cons, List.length_nil]; omega), by first | omega | (simp; omega) | (rw [List.length_append]; omega)⟩
                · rw [opB_some hne]; exact AS20.out
                · rw [List.map_append, HFL.out, flush_nil, List.append_nil, flush_some hne]; rfl
                · rw [← HLEX.out, HLX0.out]
            · have hfl2 := HFL.out
              rw [flush_some hraw] at hfl2
              obtain ⟨D, p, rfl, hDm, hp1⟩ := map_snoc hfl2
              have HDM := qh hDm
              have HP1 := qh hp1
              have hop : opB raw = true := opB_some hraw
              have HRW := qh hraw
              have hasx := HASx.out
              rw [hop] at hasx
              have HT5 := qh (text_more w.heap.size lb ob sb rb t D p w10 (by omega) (by have := HLL.out; simp at this; omega) HD.out hasx (by rw [hp1]; have := HRL.out; simp at this ⊢; omega) k (k10) (by omega) hk2x (([60] : List UInt8)) HPCx.out)
              clear hfl2 hDm hp1 hop hasx hraw
              go_wp2_with (go_at_call 50; refine HT5.out.mono ?_)
              rintro e w20 ⟨rfl, as20, m20⟩
              have AS20 := qh as20
              have M20 := qh m20
              clear as20 m20
              go_wp2_with fail
              obtain ⟨g', rfl⟩ : ∃ g', gk = g' + 1 := ⟨gk - 1, by have := HGF.out; simp at this; omega⟩
              go_roundg g'
              case measure => omega
              case rel =>
                have h1 := HGF.out; have h2 := HLL.out; have h3 := HRL.out; have h4 := HLENx.out
                simp only [List.length_cons, List.length_append, List.length_nil] at h1 h2 h3
                have hne : raw ++ (([60] : List UInt8)) ≠ [] := by intro e; exact HRW.out (List.append_eq_nil_iff.1 e).1
                refine ⟨done, raw ++ (([60] : List UInt8)), a, k10, q, D ++ [(p.1.more (([60] : List UInt8)) (k10), p.2)], RDx.out.mv M20.out (fun h => h.2.1 rfl), ?_, Mv.toExt XWx.out M20.out (fun x hx => hx.1), ?_, by omega, ?_, by first | omega | (simp; omega) | (rw [List.length_append, List.length_cons, List.length_nil]; omega), by first | omega | (simp; omega) | (rw [List.length_append]; omega)⟩
                · rw [opB_some hne]; exact AS20.out
                · rw [List.map_append, HDM.out, flush_some hne, List.map_cons, List.map_nil, HP1.out]; rfl
                · rw [← HLEX.out, HLXx.out, if_neg HRW.out]
      · have e60 : ((c.toNat : Int) != 60) = true := hu8.trans (bne_iff_ne.2 hc)
        clear hu8
        have HRUN := qh (run_any rb t (c :: q) (neB 60) _ w6 (by omega) HRD6.out (isAll rb w6))
        go_wp2_with (go_at_call 51; refine HRUN.out.mono ?_)
        rintro e w7 ⟨rfl, m7, r7⟩
        obtain ⟨k7, g1, g2, g3⟩ := r7
        have hpl : (q.takeWhile (neB 60)).length + 1 + ((c :: q).dropWhile (neB 60)).length = q.length + 1 := by
          have h1 := congrArg List.length (take_drop_while (neB 60) (c :: q))
          have h2 : (c :: q).takeWhile (neB 60) = c :: q.takeWhile (neB 60) := List.takeWhile_cons_of_pos (by unfold neB; exact bne_iff_ne.2 hc)
          rw [h2, List.length_append, List.length_cons, List.length_cons] at h1
          exact h1
        have htw : (c :: q).takeWhile (neB 60) = c :: q.takeWhile (neB 60) := List.takeWhile_cons_of_pos (by unfold neB; exact bne_iff_ne.2 hc)
        have hk7 : k7 = k + (c :: q.takeWhile (neB 60)).length := by rw [List.length_cons]; omega
        have hk2x : k7 ≤ t.size := by omega
        have HPCx : Hid (t.extract k k7 = bs (c :: q.takeWhile (neB 60))) := qh (by
          have h := bs_cut t.data.toList k k7
          rw [bs_list] at h
          rw [h, ← HK.out.2.1, hk7, Nat.add_sub_cancel_left]
          conv => lhs; rw [← take_drop_while (neB 60) (c :: q), htw]
          rw [List.take_left' rfl])
        have HLXx : Hid (lexL t.size raw a b (c :: q) = lexL t.size (raw ++ (c :: q.takeWhile (neB 60))) (if raw = [] then k else a) k7 ((c :: q).dropWhile (neB 60))) := qh (by
          have h := lexL_run (N := t.size) (c :: q.takeWhile (neB 60)) raw a b ((c :: q).dropWhile (neB 60)) (by simp) (fun x hx => by
            rw [← htw] at hx
            have := takeWhile_mem hx
            unfold neB at this
            exact bne_iff_ne.1 this)
          rw [← htw, take_drop_while, htw] at h
          rw [h, show t.size - (c :: q).length = k by rw [List.length_cons]; omega, show t.size - ((c :: q).dropWhile (neB 60)).length = k7 by omega])
        have HLENx : Hid (((c :: q).dropWhile (neB 60)).length + (c :: q.takeWhile (neB 60)).length = q.length + 1 ∧ 1 ≤ (c :: q.takeWhile (neB 60)).length) := qh (by rw [List.length_cons]; exact ⟨by omega, by omega⟩)
        have RDx : Hid (Rd rb t ((c :: q).dropWhile (neB 60)) w7) := qh ⟨k7, g1, g2, g3⟩
        have cx := cellOf g3 (i := 1) (v := .int .i64 k7) rfl
        have HASx := qh (HAS6.out.rdr m7 HD.out)
        have XWx : Hid (Ext w w7) := qh (Mv.toExt XW6.out m7 (fun x hx => by rw [(show x = rb from hx)]; have := HD.out.b; have := HD.out.sl; have := HD.out.lr; omega))
        have hkk : k ≤ k7 := by omega
        clear g1 g2 g3 m7 hpl htw hk7 c0' c1' e60 hc
        by_cases hraw : raw = []
        · have HLX0 : Hid (lexL t.size [] a b (c :: q) = lexL t.size (c :: q.takeWhile (neB 60)) k (k7) ((c :: q).dropWhile (neB 60))) := qh (by have h := HLXx.out; rw [hraw, if_pos rfl, List.nil_append] at h; exact h)
          subst hraw
          have HT5 := qh (text_new w.heap.size lb ob sb rb t L w7 (by omega) (by have := HLL.out; omega) HD.out RDx.out.lt HASx.out k (k7) (by omega) hk2x (c :: q.takeWhile (neB 60)) HPCx.out)
          go_wp2_with (go_at_call 50; refine HT5.out.mono ?_)
          rintro e w20 ⟨rfl, as20, m20⟩
          have AS20 := qh as20
          have M20 := qh m20
          clear as20 m20
          go_wp2_with fail
          obtain ⟨g', rfl⟩ : ∃ g', gk = g' + 1 := ⟨gk - 1, by have := HGF.out; simp at this; omega⟩
          go_roundg g'
          case measure => omega
          case rel =>
            have h1 := HGF.out; have h2 := HLL.out; have h3 := HRL.out; have h4 := HLENx.out
            simp only [List.length_cons] at h1 h2 h3
            have hne : (c :: q.takeWhile (neB 60)) ≠ [] := by intro e; rw [e] at h4; simp at h4
            refine ⟨done, c :: q.takeWhile (neB 60), k, k7, (c :: q).dropWhile (neB 60), L ++ [(⟨1, [], c :: q.takeWhile (neB 60), [], false, k, k7⟩, .slice none 0 0)], RDx.out.mv M20.out (fun h => h.2.1 rfl), ?_, Mv.toExt XWx.out M20.out (fun x hx => hx.1), ?_, by omega, ?_, by first | omega | (simp; omega) | (rw [List.length_append, List.length_cons, List.length_nil]; omega), by first | omega | (simp; omega) | (rw [List.length_append]; omega)⟩
            · rw [opB_some hne]; exact AS20.out
            · rw [List.map_append, HFL.out, flush_nil, List.append_nil, flush_some hne]; rfl
            · rw [← HLEX.out, HLX0.out]
        · have hfl2 := HFL.out
          rw [flush_some hraw] at hfl2
          obtain ⟨D, p, rfl, hDm, hp1⟩ := map_snoc hfl2
          have HDM := qh hDm
          have HP1 := qh hp1
          have hop : opB raw = true := opB_some hraw
          have HRW := qh hraw
          have hasx := HASx.out
          rw [hop] at hasx
          have HT5 := qh (text_more w.heap.size lb ob sb rb t D p w7 (by omega) (by have := HLL.out; simp at this; omega) HD.out hasx (by rw [hp1]; have := HRL.out; simp at this ⊢; omega) k (k7) (by omega) hk2x (c :: q.takeWhile (neB 60)) HPCx.out)
          clear hfl2 hDm hp1 hop hasx hraw
          go_wp2_with (go_at_call 50; refine HT5.out.mono ?_)
          rintro e w20 ⟨rfl, as20, m20⟩
          have AS20 := qh as20
          have M20 := qh m20
          clear as20 m20
          go_wp2_with fail
          obtain ⟨g', rfl⟩ : ∃ g', gk = g' + 1 := ⟨gk - 1, by have := HGF.out; simp at this; omega⟩
          go_roundg g'
          case measure => omega
          case rel =>
            have h1 := HGF.out; have h2 := HLL.out; have h3 := HRL.out; have h4 := HLENx.out
            simp only [List.length_cons, List.length_append, List.length_nil] at h1 h2 h3
            have hne : raw ++ (c :: q.takeWhile (neB 60)) ≠ [] := by intro e; exact HRW.out (List.append_eq_nil_iff.1 e).1
            refine ⟨done, raw ++ (c :: q.takeWhile (neB 60)), a, k7, (c :: q).dropWhile (neB 60), D ++ [(p.1.more (c :: q.takeWhile (neB 60)) (k7), p.2)], RDx.out.mv M20.out (fun h => h.2.1 rfl), ?_, Mv.toExt XWx.out M20.out (fun x hx => hx.1), ?_, by omega, ?_, by first | omega | (simp; omega) | (rw [List.length_append, List.length_cons, List.length_nil]; omega), by first | omega | (simp; omega) | (rw [List.length_append]; omega)⟩
            · rw [opB_some hne]; exact AS20.out
            · rw [List.map_append, HDM.out, flush_some hne, List.map_cons, List.map_nil, HP1.out]; rfl
            · rw [← HLEX.out, HLXx.out, if_neg HRW.out]
end Go.Proofs.YtalaajbajgdglaaGreatDoor
namespace Go.Proofs.YtalaajbajgdglaaGreatDoor
open Go
end Go.Proofs.YtalaajbajgdglaaGreatDoor
namespace Go.Proofs.YtalaajbajgdglaaGreatDoor
open Go Go.RowKit Go.BigFrame
end Go.Proofs.YtalaajbajgdglaaGreatDoor
namespace Go.Proofs.YtalaajbajgdglaaGreatDoor
open Go
structure ZF where
  tag : Int
  attrs : List AttrB
  kids : List PN
def ZF.node (f : ZF) : PN := .mk f.tag f.attrs ⟨#[]⟩ f.kids
def ZF.put (f : ZF) (n : PN) : ZF := ⟨f.tag, f.attrs, f.kids ++ [n]⟩
abbrev ZS := List ZF
def pop1 : ZS → ZS
  | f :: g :: r => g.put f.node :: r
  | z => z
def popN : Nat → ZS → ZS
  | 0, z => z
  | n + 1, z => popN n (pop1 z)
def closeC (is stops : Int → Bool) : List Int → Nat
  | [] => 0
  | [_] => 0
  | t :: u :: r => if stops t && !is t then 0 else if is t then 1 else match closeC is stops (u :: r) with
    | 0 => 0
    | n + 1 => n + 2
def tagsZ (z : ZS) : List Int := z.map ZF.tag
def closeZ (is stops : Int → Bool) (z : ZS) : ZS := popN (closeC is stops (tagsZ z)) z
def boxT (x : Int) : Bool := clsT x == 2
def headT (x : Int) : Bool := decide (3 ≤ x) && decide (x ≤ 5)
def isPH (x : Int) : Bool := x == 2 || headT x
def stPH (x : Int) : Bool := boxT x || x == 9
def isLi (x : Int) : Bool := x == 9
def stLi (x : Int) : Bool := x == 7 || x == 8
def lineT (tag : Int) : Bool := clsT tag == 3 || clsT tag == 2
def aheadZ (tag : Int) (z : ZS) : ZS :=
  let z1 := if lineT tag then closeZ isPH stPH z else z
  if tag = 9 then closeZ isLi stLi z1 else z1
def roomB (cnt n : Nat) : Bool := decide (cnt < 2000) && decide (n ≤ 40)
structure BZ where
  z : ZS
  cnt : Nat
def BZ.add (b : BZ) (n : PN) : BZ := match b.z with
  | [] => b
  | f :: r => ⟨f.put n :: r, b.cnt + 1⟩
def lastText (l : List PN) : Option PN := match l.getLast? with
  | none => none
  | some k => if k.tag = 0 then some k else none
def textZ (s : List UInt8) (b : BZ) : BZ := match b.z with
  | [] => b
  | f :: r => if boxT f.tag && s.all blankB then b else match lastText f.kids with
    | some k => ⟨⟨f.tag, f.attrs, f.kids.dropLast ++ [.mk 0 k.attrs (bs (k.text.data.toList ++ s)) k.kids]⟩ :: r, b.cnt⟩
    | none => if roomB b.cnt b.z.length then b.add (.mk 0 [] (bs s) []) else b
def namesT : List (List UInt8 × Int) := [([100, 105, 118], 1), ([112], 2), ([104, 49], 3), ([104, 50], 4), ([104, 51], 5), ([98, 108, 111, 99, 107, 113, 117, 111, 116, 101], 6), ([117, 108], 7), ([111, 108], 8), ([108, 105], 9),
  ([97], 10), ([98], 11), ([115, 116, 114, 111, 110, 103], 11), ([105], 12), ([101, 109], 12), ([117], 13), ([105, 110, 115], 13), ([115], 14), ([115, 116, 114, 105, 107, 101], 14), ([100, 101, 108], 14), ([115, 112, 97, 110], 15), ([98, 114], 16)]
def findT (n : List UInt8) : Option Int := (namesT.find? (·.1 == n)).map Prod.snd
def openZ (tag : Int) (attrs : List AttrB) (b : BZ) : BZ :=
  if clsT tag = 5 then b.add (.mk tag attrs ⟨#[]⟩ []) else ⟨⟨tag, attrs, []⟩ :: b.z, b.cnt + 1⟩
def tokenZ (t : Tk) (b : BZ) : BZ :=
  if t.kind = 1 then textZ t.text b else match findT t.name with
  | none => b
  | some tag => if t.kind = 3 then ⟨closeZ (· == tag) (fun _ => false) b.z, b.cnt⟩
    else if roomB b.cnt (aheadZ tag b.z).length then openZ tag t.attrs ⟨aheadZ tag b.z, b.cnt⟩ else b
def startZ : BZ := ⟨[⟨1, [], []⟩], 1⟩
def runZ (l : List Tk) : BZ := l.foldl (fun b t => tokenZ t b) startZ
def popAll (z : ZS) : ZS := popN (z.length - 1) z
def topN (z : ZS) : PN := match popAll z with
  | [] => .mk 0 [] ⟨#[]⟩ []
  | f :: _ => f.node
def hostZ (l : List Tk) : PN := topN (runZ l).z

theorem closeC_lt (is stops : Int → Bool) : ∀ l : List Int, l ≠ [] → closeC is stops l < l.length
  | [], h => (h rfl).elim
  | [_], _ => by unfold closeC; simp
  | t :: u :: r, _ => by
    unfold closeC
    have ih := closeC_lt is stops (u :: r) (by simp)
    split
    · simp
    · split
      · simp
      · split
        · simp
        · rename_i n hn
          rw [hn] at ih
          simp only [List.length_cons] at ih ⊢
          omega
theorem pop1_len : ∀ z : ZS, (pop1 z).length = if 2 ≤ z.length then z.length - 1 else z.length
  | [] => rfl
  | [_] => rfl
  | f :: g :: r => by show (g.put f.node :: r).length = _; simp
theorem pop1_tags : ∀ z : ZS, 2 ≤ z.length → tagsZ (pop1 z) = (tagsZ z).drop 1
  | [], h => by simp at h
  | [_], h => by simp at h
  | f :: g :: r, _ => rfl
theorem popN_len : ∀ (n : Nat) (z : ZS), n < z.length → (popN n z).length = z.length - n
  | 0, z, _ => rfl
  | n + 1, z, h => by
    have h1 := pop1_len z
    rw [if_pos (show 2 ≤ z.length by omega)] at h1
    show (popN n (pop1 z)).length = _
    rw [popN_len n _ (by omega), h1]
    omega
theorem popN_tags : ∀ (n : Nat) (z : ZS), n < z.length → tagsZ (popN n z) = (tagsZ z).drop n
  | 0, z, _ => rfl
  | n + 1, z, h => by
    have h1 := pop1_len z
    rw [if_pos (show 2 ≤ z.length by omega)] at h1
    show tagsZ (popN n (pop1 z)) = _
    rw [popN_tags n _ (by omega), pop1_tags z (by omega), List.drop_drop, Nat.add_comm]
theorem closeZ_len (is stops : Int → Bool) (z : ZS) (h : z ≠ []) : (closeZ is stops z).length = z.length - closeC is stops (tagsZ z) ∧ closeC is stops (tagsZ z) < z.length := by
  have h1 := closeC_lt is stops (tagsZ z) (by unfold tagsZ; simpa using h)
  have h2 : (tagsZ z).length = z.length := by unfold tagsZ; simp
  rw [h2] at h1
  exact ⟨popN_len _ z h1, h1⟩
def aheadC (tag : Int) (l : List Int) : Nat :=
  let n := if lineT tag then closeC isPH stPH l else 0
  if tag = 9 then n + closeC isLi stLi (l.drop n) else n
theorem popN_add : ∀ (m n : Nat) (z : ZS), popN n (popN m z) = popN (m + n) z
  | 0, n, z => by rw [Nat.zero_add]; rfl
  | m + 1, n, z => by
    show popN n (popN m (pop1 z)) = _
    rw [popN_add m n (pop1 z), show m + 1 + n = (m + n) + 1 by omega]
    rfl
theorem aheadZ_eq (tag : Int) (z : ZS) (h : z ≠ []) : aheadZ tag z = popN (aheadC tag (tagsZ z)) z ∧ aheadC tag (tagsZ z) < z.length := by
  have hz : 0 < z.length := List.length_pos_iff.2 h
  unfold aheadZ aheadC
  dsimp only
  have a1 : (if lineT tag = true then closeZ isPH stPH z else z) = popN (if lineT tag = true then closeC isPH stPH (tagsZ z) else 0) z ∧ (if lineT tag = true then closeC isPH stPH (tagsZ z) else 0) < z.length := by
    split
    · exact ⟨rfl, (closeZ_len isPH stPH z h).2⟩
    · exact ⟨rfl, hz⟩
  obtain ⟨a2, a3⟩ := a1
  rw [a2]
  generalize (if lineT tag = true then closeC isPH stPH (tagsZ z) else 0) = n at a3 ⊢
  split
  · unfold closeZ
    rw [popN_tags n z a3, popN_add]
    have h1 := popN_len n z a3
    have h2 := closeC_lt isLi stLi ((tagsZ z).drop n) (by
      intro e
      have := congrArg List.length e
      unfold tagsZ at this
      simp at this
      omega)
    have h3 : (tagsZ z).length = z.length := by unfold tagsZ; simp
    rw [List.length_drop, h3] at h2
    exact ⟨rfl, by omega⟩
  · exact ⟨rfl, a3⟩
theorem BZ.add_ne {b : BZ} {n : PN} (h : b.z ≠ []) : (b.add n).z ≠ [] ∧ (b.add n).z.length = b.z.length ∧ (b.add n).cnt = b.cnt + 1 := by
  unfold BZ.add
  cases hz : b.z with
  | nil => exact (h hz).elim
  | cons f r => exact ⟨List.cons_ne_nil _ _, rfl, rfl⟩
end Go.Proofs.YtalaajbajgdglaaGreatDoor
namespace Go.Proofs.YtalaajbajgdglaaGreatDoor
open Go Go.RowKit Go.BigFrame We
def ptrV (q : Nat) : Value := .pointer (some ⟨q, 0, none⟩)
def elC (tag : Int) (av : Value) (text : ByteArray) (kv : Value) : Array Value := #[.int .i64 tag, av, .string text, .slice none 0 0, kv]
inductive El (g0 w : World) (S : Nat → Prop) : Nat → PN → Prop
  | mk {p : Nat} {tag : Int} {attrs : List AttrB} {text : ByteArray} {kids : List PN} {av kv : Value} (ps : List Nat)
      (hb : w.heap[p]? = some (.cells (elC tag av text kv) 51 (0, 0))) (hS : S p) (ha : RowP g0 (fun _ => True) 104 2 av attrs.length (attrCells attrs))
      (hr : RowP w S 48 1 kv (List.length ps) (List.map ptrV ps)) (hn : kids = [] → kv = .slice none 0 0) (hl : List.length ps = kids.length)
      (hk : ∀ (i : Nat) (q : Nat) (k : PN), ps[i]? = some q → kids[i]? = some k → El g0 w S q k) : El g0 w S p (.mk tag attrs text kids)
theorem El.mv {g0 w w' : World} {S K : Nat → Prop} (k : Mv K w w') (hK : ∀ g, S g → ¬ K g) {p : Nat} {n : PN} (h : El g0 w S p n) : El g0 w' S p n := by
  induction h with
  | mk ps hb hS ha hr hn hl _ ih => exact .mk ps (k.block hb (hK _ hS)) hS ha (hr.mv k hK) hn hl ih
theorem El.imp {g0 w : World} {S S' : Nat → Prop} (hS' : ∀ g, S g → S' g) {p : Nat} {n : PN} (h : El g0 w S p n) : El g0 w S' p n := by
  induction h with
  | mk ps hb hS ha hr hn hl _ ih => exact .mk ps hb (hS' _ hS) ha (hr.imp fun g _ hg => hS' g hg) hn hl ih
theorem El.open {g0 w : World} {S : Nat → Prop} {p : Nat} {tag : Int} {attrs : List AttrB} {text : ByteArray} {kids : List PN} (h : El g0 w S p (.mk tag attrs text kids)) :
    ∃ (av kv : Value) (ps : List Nat), w.heap[p]? = some (.cells (elC tag av text kv) 51 (0, 0)) ∧ S p ∧ RowP g0 (fun _ => True) 104 2 av attrs.length (attrCells attrs) ∧ RowP w S 48 1 kv ps.length (ps.map ptrV) ∧ (kids = [] → kv = .slice none 0 0) ∧ ps.length = kids.length ∧
      ∀ (i : Nat) (q : Nat) (k : PN), ps[i]? = some q → kids[i]? = some k → El g0 w S q k := by
  cases h with
  | mk ps hb hS ha hr hn hl hk => exact ⟨_, _, ps, hb, hS, ha, hr, hn, hl, hk⟩
theorem El.leaf {g0 w : World} {S : Nat → Prop} {p : Nat} {tag : Int} {attrs : List AttrB} {text : ByteArray} {av : Value}
    (hb : w.heap[p]? = some (.cells (elC tag av text (.slice none 0 0)) 51 (0, 0))) (hS : S p) (ha : RowP g0 (fun _ => True) 104 2 av attrs.length (attrCells attrs)) : El g0 w S p (.mk tag attrs text []) :=
  .mk [] hb hS ha ⟨rfl, .inl ⟨rfl, none, rfl⟩⟩ (fun _ => rfl) rfl fun i q k h => by simp at h

structure FrM where
  q : Nat
  f : ZF
  av : Value
  kv : Value
  ps : List Nat
def ptrs (l : List FrM) (j : Nat) (m : FrM) : List Nat := m.ps ++ (match l[j + 1]? with
  | some m' => [m'.q]
  | none => [])
structure BAt (g0 w : World) (own : Ow) (l : List FrM) : Prop where
  blk : ∀ (j : Nat) (m : FrM), l[j]? = some m → own m.q = some (j, 0) ∧ w.heap[m.q]? = some (.cells (elC m.f.tag m.av ⟨#[]⟩ m.kv) 51 (0, 0))
  row : ∀ (j : Nat) (m : FrM), l[j]? = some m → RowP w (fun g => own g = some (j, 1)) 48 1 m.kv (ptrs l j m).length ((ptrs l j m).map ptrV) ∧ (ptrs l j m = [] → m.kv = .slice none 0 0)
  kid : ∀ (j : Nat) (m : FrM) (i : Nat) (p : Nat) (n : PN), l[j]? = some m → m.ps[i]? = some p → m.f.kids[i]? = some n → El g0 w (fun g => own g = some (j, i + 2)) p n
  len : ∀ (j : Nat) (m : FrM), l[j]? = some m → m.ps.length = m.f.kids.length
  att : ∀ (j : Nat) (m : FrM), l[j]? = some m → RowP g0 (fun _ => True) 104 2 m.av m.f.attrs.length (attrCells m.f.attrs)
  low : ∀ g, own g ≠ none → g0.heap.size ≤ g ∧ g < w.heap.size
section
variable {g0 w w' : World} {own : Ow} {l : List FrM}
theorem BAt.mv (h : BAt g0 w own l) {K : Nat → Prop} (k : Mv K w w') (hK : ∀ g, own g ≠ none → ¬ K g) : BAt g0 w' own l where
  blk j m hj := ⟨(h.blk j m hj).1, k.block (h.blk j m hj).2 (hK _ (by rw [(h.blk j m hj).1]; simp))⟩
  row j m hj := ⟨(h.row j m hj).1.mv k fun g hg => hK g (by rw [hg]; simp), (h.row j m hj).2⟩
  kid j m i p n hj hp hn := (h.kid j m i p n hj hp hn).mv k fun g hg => hK g (by rw [hg]; simp)
  len := h.len
  att := h.att
  low g hg := ⟨(h.low g hg).1, Nat.lt_of_lt_of_le (h.low g hg).2 k.size⟩
theorem ptrs_last {l : List FrM} {m : FrM} {j : Nat} (hj : j + 1 = l.length) : ptrs l j m = m.ps := by
  unfold ptrs
  rw [List.getElem?_eq_none (by omega)]
  simp
def popOw (own : Ow) (j r : Nat) : Ow := fun g => match own g with
  | none => none
  | some (a, b) => if a = j + 1 then some (j, r + 2) else some (a, b)
theorem popOw_keep {own : Ow} {j r : Nat} {g : Nat} {a b : Nat} (h : own g = some (a, b)) (hne : a ≠ j + 1) : popOw own j r g = some (a, b) := by unfold popOw; rw [h]; simp only; rw [if_neg hne]
theorem popOw_turn {own : Ow} {j r : Nat} {g : Nat} {b : Nat} (h : own g = some (j + 1, b)) : popOw own j r g = some (j, r + 2) := by unfold popOw; rw [h]; simp
theorem popOw_none {own : Ow} {j r : Nat} {g : Nat} : popOw own j r g ≠ none ↔ own g ≠ none := by
  unfold popOw
  cases h : own g with
  | none => simp
  | some ab => obtain ⟨a, b⟩ := ab; simp only; split <;> simp
theorem BAt.pop {l : List FrM} {m f : FrM} (h : BAt g0 w own (l ++ [m, f])) :
    BAt g0 w (popOw own l.length m.ps.length) (l ++ [⟨m.q, m.f.put f.f.node, m.av, m.kv, m.ps ++ [f.q]⟩]) := by
  have hm : (l ++ [m, f])[l.length]? = some m := by simp
  have hf : (l ++ [m, f])[l.length + 1]? = some f := by simp
  have hlen := h.len _ _ hm
  have hold : ∀ j x, j < l.length → ((l ++ [⟨m.q, m.f.put f.f.node, m.av, m.kv, m.ps ++ [f.q]⟩])[j]? = some x ↔ (l ++ [m, f])[j]? = some x) := fun j x hj => by
    rw [List.getElem?_append_left hj, List.getElem?_append_left hj]
  have hpt : ∀ j x, j < l.length → ptrs (l ++ [⟨m.q, m.f.put f.f.node, m.av, m.kv, m.ps ++ [f.q]⟩]) j x = ptrs (l ++ [m, f]) j x := fun j x hj => by
    unfold ptrs
    rcases Nat.lt_or_ge (j + 1) l.length with h1 | h1
    · rw [List.getElem?_append_left h1, List.getElem?_append_left h1]
    · have hj1 : j + 1 = l.length := by omega
      rw [hj1]
      simp
  have hnew : (l ++ [(⟨m.q, m.f.put f.f.node, m.av, m.kv, m.ps ++ [f.q]⟩ : FrM)])[l.length]? = some ⟨m.q, m.f.put f.f.node, m.av, m.kv, m.ps ++ [f.q]⟩ := by simp
  have hsplit : ∀ j x, (l ++ [(⟨m.q, m.f.put f.f.node, m.av, m.kv, m.ps ++ [f.q]⟩ : FrM)])[j]? = some x → (j < l.length ∧ (l ++ [m, f])[j]? = some x) ∨ (j = l.length ∧ x = ⟨m.q, m.f.put f.f.node, m.av, m.kv, m.ps ++ [f.q]⟩) := fun j x hj => by
    rcases Nat.lt_trichotomy j l.length with h1 | h1 | h1
    · exact .inl ⟨h1, (hold j x h1).1 hj⟩
    · subst h1
      rw [hnew] at hj
      exact .inr ⟨rfl, (Option.some.inj hj).symm⟩
    · rw [List.getElem?_eq_none (by simp; omega)] at hj
      cases hj
  have hmp : ptrs (l ++ [m, f]) l.length m = m.ps ++ [f.q] := by unfold ptrs; rw [hf]
  have hmp2 : ptrs (l ++ [⟨m.q, m.f.put f.f.node, m.av, m.kv, m.ps ++ [f.q]⟩]) l.length ⟨m.q, m.f.put f.f.node, m.av, m.kv, m.ps ++ [f.q]⟩ = m.ps ++ [f.q] := by
    rw [ptrs_last (by simp)]
  refine ⟨fun j x hj => ?_, fun j x hj => ?_, fun j x i p n hj hp hn => ?_, fun j x hj => ?_, fun j x hj => ?_, fun g hg => h.low g (popOw_none.1 hg)⟩
  · rcases hsplit j x hj with ⟨h1, h2⟩ | ⟨rfl, rfl⟩
    · exact ⟨popOw_keep (h.blk j x h2).1 (by omega), (h.blk j x h2).2⟩
    · exact ⟨popOw_keep (h.blk _ m hm).1 (by omega), (h.blk _ m hm).2⟩
  · rcases hsplit j x hj with ⟨h1, h2⟩ | ⟨rfl, rfl⟩
    · rw [hpt j x h1]
      exact ⟨(h.row j x h2).1.imp fun g _ hg => popOw_keep hg (by omega), (h.row j x h2).2⟩
    · rw [hmp2]
      have hr := h.row _ m hm
      rw [hmp] at hr
      exact ⟨hr.1.imp fun g _ hg => popOw_keep hg (by omega), fun e => by simp at e⟩
  · rcases hsplit j x hj with ⟨h1, h2⟩ | ⟨rfl, rfl⟩
    · exact (h.kid j x i p n h2 hp hn).imp fun g hg => popOw_keep hg (by omega)
    · have hn2 : (m.f.kids ++ [f.f.node])[i]? = some n := hn
      have hp2 : (m.ps ++ [f.q])[i]? = some p := hp
      rcases Nat.lt_or_ge i m.ps.length with h1 | h1
      · rw [List.getElem?_append_left h1] at hp2
        rw [List.getElem?_append_left (by omega)] at hn2
        exact (h.kid _ m i p n hm hp2 hn2).imp fun g hg => popOw_keep hg (by omega)
      · obtain rfl : i = m.ps.length := by
          have := (List.getElem?_eq_some_iff.1 hp2).1
          simp only [List.length_append, List.length_singleton] at this
          omega
        rw [List.getElem?_append_right (Nat.le_refl _), Nat.sub_self] at hp2
        rw [hlen, List.getElem?_append_right (Nat.le_refl _), Nat.sub_self] at hn2
        cases hp2
        cases hn2
        have hfb := h.blk _ f hf
        have hfr := h.row _ f hf
        rw [ptrs_last (by simp)] at hfr
        refine .mk f.ps hfb.2 (popOw_turn hfb.1) (h.att _ f hf) (hfr.1.imp fun g _ hg => popOw_turn hg) (fun e => hfr.2 ?_) (h.len _ f hf) fun i q k hq hk => (h.kid _ f i q k hf hq hk).imp fun g hg => popOw_turn hg
        have := h.len _ f hf
        rw [e] at this
        exact List.eq_nil_of_length_eq_zero this
  · rcases hsplit j x hj with ⟨h1, h2⟩ | ⟨rfl, rfl⟩
    · exact h.len j x h2
    · show (m.ps ++ [f.q]).length = (m.f.kids ++ [f.f.node]).length
      simp [hlen]
  · rcases hsplit j x hj with ⟨h1, h2⟩ | ⟨rfl, rfl⟩
    · exact h.att j x h2
    · exact h.att _ m hm
end
def zOf (l : List FrM) : ZS := (l.map FrM.f).reverse
theorem zOf_len (l : List FrM) : (zOf l).length = l.length := by unfold zOf; simp
theorem zOf_snoc (l : List FrM) (m : FrM) : zOf (l ++ [m]) = m.f :: zOf l := by unfold zOf; simp
theorem BAt.popN {g0 w : World} : ∀ (n : Nat) (own : Ow) (l : List FrM), BAt g0 w own l → n < l.length → ∃ own' l', BAt g0 w own' l' ∧ (∀ g, own' g ≠ none ↔ own g ≠ none) ∧ zOf l' = popN n (zOf l) ∧ l'.map FrM.q = (l.map FrM.q).take (l.length - n)
  | 0, own, l, h, _ => ⟨own, l, h, fun _ => Iff.rfl, rfl, by rw [Nat.sub_zero, List.take_of_length_le (by simp)]⟩
  | n + 1, own, l, h, hn => by
    obtain ⟨r, f, rfl⟩ : ∃ r f, l = r ++ [f] := ⟨l.dropLast, l.getLast (by intro e; rw [e] at hn; simp at hn), (List.dropLast_concat_getLast _).symm⟩
    have hr : r ≠ [] := by intro e; rw [e] at hn; simp at hn
    obtain ⟨s, m, rfl⟩ : ∃ s m, r = s ++ [m] := ⟨r.dropLast, r.getLast hr, (List.dropLast_concat_getLast _).symm⟩
    have e1 : s ++ [m] ++ [f] = s ++ [m, f] := by simp
    rw [e1] at h hn ⊢
    have h2 := h.pop
    have hn2 : n < (s ++ [(⟨m.q, m.f.put f.f.node, m.av, m.kv, m.ps ++ [f.q]⟩ : FrM)]).length := by simp at hn ⊢; omega
    obtain ⟨own', l', a1, a2, a3, a4⟩ := BAt.popN n _ _ h2 hn2
    refine ⟨own', l', a1, fun g => (a2 g).trans popOw_none, ?_, ?_⟩
    · rw [a3, zOf_snoc, ← e1, zOf_snoc, zOf_snoc]
      rfl
    · have em : (s ++ [(⟨m.q, m.f.put f.f.node, m.av, m.kv, m.ps ++ [f.q]⟩ : FrM)]).map FrM.q = s.map FrM.q ++ [m.q] := by simp
      have ef : (s ++ [m, f]).map FrM.q = (s.map FrM.q ++ [m.q]) ++ [f.q] := by simp
      have e2 : (s ++ [(⟨m.q, m.f.put f.f.node, m.av, m.kv, m.ps ++ [f.q]⟩ : FrM)]).length - n = (s ++ [m, f]).length - (n + 1) := by simp only [List.length_append, List.length_cons, List.length_nil]; omega
      rw [a4, em, ef, e2]
      exact (List.take_append_of_le_length (by simp only [List.length_append, List.length_cons, List.length_nil, List.length_map]; omega)).symm
structure BB (g0 w : World) (F : Nat → Prop) (bb : Nat) (b : BZ) : Prop where
  out : ∃ (own : Ow) (l : List FrM) (ov : Value) (ob : Option Nat), BAt g0 w own l ∧ w.heap[bb]? = some (.cells #[ov, .int .i64 (b.cnt : Int)] 53 (0, 0)) ∧ own bb = none ∧
    RowP w (fun g => ob = some g) 48 1 ov l.length (l.map fun m => ptrV m.q) ∧ (∀ g, ob = some g → own g = none ∧ g ≠ bb ∧ g0.heap.size ≤ g ∧ g < w.heap.size ∧ F g) ∧ b.z = zOf l ∧ l ≠ [] ∧ (∀ g, own g ≠ none → F g) ∧ F bb ∧ g0.heap.size ≤ bb
  old : Ext g0 w
end Go.Proofs.YtalaajbajgdglaaGreatDoor
namespace Go.Proofs.YtalaajbajgdglaaGreatDoor
open Go Go.RowKit Go.BigFrame Go.Maps Go.WideMaps Go.IntWalk
theorem intN {j : Nat} (h : j ≤ 1000000) : Value.int .i64 (wrap64 ((j : Int) + 1)) = .int .i64 ((j + 1 : Nat) : Int) := by rw [wrap64_in _ (by omega)]; rfl
theorem growOf {w w' : World} {row : Option Nat} (x : Ext w w') : w.grownBy w' row := ⟨Below.os x, Below.tape x, Below.output x, Ext.size x, fun k hk _ => Below.block x k hk⟩
def headZ (t : Int) : Int := if 3 ≤ t ∧ t ≤ 5 then t - 2 else 0
theorem Heading_any (t : Int) (w : World) : Calls Tryz.prog 104 #[.int .i64 t] w (RVal (.int .i64 (headZ t)) w) := by
  have x := Ext.refl w
  have h : t = 3 ∨ t = 4 ∨ t = 5 ∨ t < 3 ∨ 5 < t := by omega
  rcases h with rfl | rfl | rfl | h | h
  · go_enter Tryz.func104, Tryz.ntmps104
    go_wp2
    go_ret
    exact ⟨rfl, x⟩
  · go_enter Tryz.func104, Tryz.ntmps104
    go_wp2
    go_ret
    exact ⟨rfl, x⟩
  · go_enter Tryz.func104, Tryz.ntmps104
    go_wp2
    go_ret
    exact ⟨rfl, x⟩
  · have e : headZ t = 0 := if_neg (by omega)
    rw [e]
    have d1 : decide ((3 : Int) ≤ t) = false := decide_eq_false (by omega)
    clear e
    go_enter Tryz.func104, Tryz.ntmps104
    go_wp2
    go_ret
    exact ⟨rfl, x⟩
  · have e : headZ t = 0 := if_neg (by omega)
    rw [e]
    have d1 : decide ((3 : Int) ≤ t) = true := decide_eq_true (by omega)
    have d2 : decide (t ≤ (5 : Int)) = false := decide_eq_false (by omega)
    clear e
    go_enter Tryz.func104, Tryz.ntmps104
    go_wp2
    go_ret
    exact ⟨rfl, x⟩
theorem low1_any (c : UInt8) (hc : c.toNat < 65 ∨ 90 < c.toNat) (w : World) : Calls Tryz.prog 145 #[.int .i32 (c.toNat : Int)] w (RVal (.int .i32 (c.toNat : Int)) w) := by
  have x := Ext.refl w
  rcases hc with h | h
  · have d1 : decide ((65 : Int) ≤ (c.toNat : Int)) = false := decide_eq_false (by omega)
    go_enter Tryz.func145, Tryz.ntmps145
    go_wp2
    go_ret
    exact ⟨rfl, x⟩
  · have d1 : decide ((65 : Int) ≤ (c.toNat : Int)) = true := decide_eq_true (by omega)
    have d2 : decide ((c.toNat : Int) ≤ (90 : Int)) = false := decide_eq_false (by omega)
    go_enter Tryz.func145, Tryz.ntmps145
    go_wp2
    go_ret
    exact ⟨rfl, x⟩
theorem cap_none (b : Nat) (w : World) (p : Option Addr) (n cap : Nat) (c1 : w.cell? ⟨b, 1, none⟩ = some (.slice p n cap)) : Calls Tryz.prog 176 #[.pointer (some ⟨b, 0, none⟩)] w (RVal (.int .i64 cap) w) := by
  have x := Ext.refl w
  go_enter Tryz.func176, Tryz.ntmps176
  go_wp2
  go_ret
  exact ⟨rfl, x⟩
theorem map_low (s : ByteArray) (hs : ∀ c ∈ s.data.toList, c.toNat < 128 ∧ (c.toNat < 65 ∨ 90 < c.toNat)) (w : World) :
    Calls Tryz.prog 144 #[.func (.func 145) #[] #[], .string s] w (RVal (.string s) w) := by
  have HS := qh hs
  have eg : ∀ args w, (callFunc 145 args).run Tryz.prog w = .ok (.enter 145 args) w := enters_of Tryz.func145 (by kernel_rfl) rfl
  clear hs
  go_enter Tryz.func144, Tryz.ntmps144
  go_wp2_with fail
  go_loopg [1] s.size (fun gk s1 wr => s1 = .string s ∧ ∃ pos : Nat, wr.heap[w.heap.size]? = some (.cells #[.pointer none, .slice none 0 0] 82 (0, 0)) ∧ wr.heap[w.heap.size + 1]? = some (.stringIter s pos) ∧ Ext w wr ∧ s.size ≤ pos + gk ∧ pos ≤ s.size)
  case atStart =>
    refine ⟨rfl, 0, ?_, ?_, ((Ext.refl w).alloc _).alloc _, by omega, by omega⟩
    · have h1 := heap_alloc_new w (.cells #[.pointer none, .slice none 0 0] 82)
      exact (Below.heap_alloc _ _ _ (by simp)).trans h1
    · have := World.iter_heap (w.alloc (.cells #[.pointer none, .slice none 0 0] 82)) s 0
      simpa using this
  case round =>
    obtain ⟨rfl, pos, hb, hit, hx, hg, hp⟩ := hrel
    by_cases hlt : pos < s.size
    · obtain ⟨g', rfl⟩ : ∃ g', gk = g' + 1 := ⟨gk - 1, by omega⟩
      have hnx : ∀ ty, (Instr.next (.pointer (some ⟨w.heap.size + 1, 0, none⟩)) true ty).run Tryz.prog wr = _ := fun ty => Lib.run_next_any_at wr (w.heap.size + 1) s pos ty hit hlt
      obtain ⟨c, hc⟩ : ∃ c, s[pos]'hlt = c := ⟨_, rfl⟩
      have hcc := HS.out c (by rw [← hc]; exact byte_mem.2 ⟨pos, hlt, rfl⟩)
      have hdl : Utf8.decode s pos = (c.toNat, 1) := by
        have h1 := Lib.decodeL_drop s pos
        have h2 : s.data.toList.drop pos = c :: s.data.toList.drop (pos + 1) := by rw [← hc]; exact List.drop_eq_getElem_cons (by simpa using hlt)
        rw [h2, Lib.decodeL_ascii _ _ hcc.1] at h1
        exact h1.symm
      rw [hdl] at hnx
      have hit2 := Lib.iterAt_heap wr (w.heap.size + 1) s pos (pos + 1) hit
      have hx2 := Lib.below_iterAt hx (k := w.heap.size + 1) (by omega) s (pos + 1)
      have hb2 : (wr.iterAt (w.heap.size + 1) s (pos + 1)).heap[w.heap.size]? = _ := (Lib.iterAt_other wr (w.heap.size + 1) w.heap.size s (pos + 1) (by omega)).trans hb
      obtain ⟨W, hWd⟩ : ∃ W, wr.iterAt (w.heap.size + 1) s (pos + 1) = W := ⟨_, rfl⟩
      rw [hWd] at hnx hit2 hx2 hb2
      have c5 : (((c.toNat : Nat) : Int) != 65533) = true := by simp; omega
      have HC := qh hcc.2
      have HX2 := qh hx2
      have HIT := qh hit2
      have HB2 := qh hb2
      clear hit hx hb hWd hc hcc hdl hx2 hit2 hb2
      go_wp2_with (go_at_fn 145; refine (low1_any c HC.out _).mono ?_)
      rintro e W1 ⟨rfl, x1⟩
      go_wp2_with fail
      go_roundg g'
      case measure => omega
      case rel => exact ⟨rfl, pos + 1, Ext.block x1 HB2.out, Ext.block x1 HIT.out, (show Ext w W from HX2.out).trans x1, by omega, hlt⟩
    · obtain rfl : pos = s.size := by omega
      have hnx : ∀ ty, (Instr.next (.pointer (some ⟨w.heap.size + 1, 0, none⟩)) true ty).run Tryz.prog wr = _ := fun ty => Lib.run_next_end_at wr (w.heap.size + 1) s s.size ty hit (by omega)
      have c1 := cellOf hb (i := 1) (v := .slice none 0 0) rfl
      have HX := qh hx
      clear hit hx hb
      go_wp2_with (go_at_call 176; refine (cap_none _ _ none 0 0 c1).mono ?_)
      rintro e W1 ⟨rfl, x1⟩
      go_wp2_with fail
      go_ret
      exact ⟨rfl, HX.out.trans x1⟩
theorem low_any (s : ByteArray) (hs : ∀ c ∈ s.data.toList, c.toNat < 128 ∧ (c.toNat < 65 ∨ 90 < c.toNat)) (w : World) : Calls Tryz.prog 96 #[.string s] w (RVal (.string s) w) := by
  have HM := qh (fun W => map_low s hs W)
  clear hs
  go_enter Tryz.func96, Tryz.ntmps96
  go_wp2_with (go_at_call 144; refine (HM.out _).mono ?_)
  rintro e W1 ⟨rfl, x1⟩
  go_wp2_with fail
  go_ret
  exact ⟨rfl, x1⟩

def nmsT : List (List (List UInt8)) := [[], [[100, 105, 118]], [[112]], [[104, 49]], [[104, 50]], [[104, 51]], [[98, 108, 111, 99, 107, 113, 117, 111, 116, 101]], [[117, 108]], [[111, 108]], [[108, 105]], [[97]], [[98], [115, 116, 114, 111, 110, 103]], [[105], [101, 109]], [[117], [105, 110, 115]], [[115], [115, 116, 114, 105, 107, 101], [100, 101, 108]], [[115, 112, 97, 110]], [[98, 114]]]
def nmT (k : Nat) : List (List UInt8) := (nmsT[k]?).getD []
def TabF (w : World) (e : Ending) (w' : World) : Prop := ∃ (T : Array Value) (nv : Nat → Value), e = .returned (.agg T) ∧ Ext w w' ∧ ∀ k : Nat, k < 17 → (∀ W : World, (Instr.index 172 (.agg T) (.int .i64 (k : Int))).run Tryz.prog W = .ok (.agg #[nv k, .int .i64 (clsT k)]) W) ∧
  ((nmT k = [] ∧ nv k = .slice none 0 0) ∨ ∃ g, nv k = .slice (some ⟨g, 0, none⟩) (nmT k).length (nmT k).length ∧ ∀ (j : Nat) s, (nmT k)[j]? = some s → w'.cell? ⟨g, j, none⟩ = some (.string (bs s)))
theorem table_rows (w : World) : Calls Tryz.prog 143 #[] w (TabF w) := by
  refine (table_any w).mono ?_
  rintro e w2 ⟨B, g1, g2, g3, g4, g5, g6, g7, g8, g9, g10, g11, g12, g13, g14, g15, g16, rfl, HH, HX⟩
  have C := fun (g : Nat) (cs : Array Value) (hm) (j : Nat) (v : Value) (hv : cs[j]? = some v) => cellOf (w := w2) (HH (g, cs) hm).2 hv
  refine ⟨_, fun k => match k with
    | 0 => .slice none 0 0
    | 1 => .slice (some ⟨g1, 0, none⟩) 1 1
    | 2 => .slice (some ⟨g2, 0, none⟩) 1 1
    | 3 => .slice (some ⟨g3, 0, none⟩) 1 1
    | 4 => .slice (some ⟨g4, 0, none⟩) 1 1
    | 5 => .slice (some ⟨g5, 0, none⟩) 1 1
    | 6 => .slice (some ⟨g6, 0, none⟩) 1 1
    | 7 => .slice (some ⟨g7, 0, none⟩) 1 1
    | 8 => .slice (some ⟨g8, 0, none⟩) 1 1
    | 9 => .slice (some ⟨g9, 0, none⟩) 1 1
    | 10 => .slice (some ⟨g10, 0, none⟩) 1 1
    | 11 => .slice (some ⟨g11, 0, none⟩) 2 2
    | 12 => .slice (some ⟨g12, 0, none⟩) 2 2
    | 13 => .slice (some ⟨g13, 0, none⟩) 2 2
    | 14 => .slice (some ⟨g14, 0, none⟩) 3 3
    | 15 => .slice (some ⟨g15, 0, none⟩) 1 1
    | _ => .slice (some ⟨g16, 0, none⟩) 1 1
    , rfl, HX, fun k hk => ?_⟩
  have h : k = 0 ∨ k = 1 ∨ k = 2 ∨ k = 3 ∨ k = 4 ∨ k = 5 ∨ k = 6 ∨ k = 7 ∨ k = 8 ∨ k = 9 ∨ k = 10 ∨ k = 11 ∨ k = 12 ∨ k = 13 ∨ k = 14 ∨ k = 15 ∨ k = 16 := by omega
  clear hk
  rcases h with rfl | rfl | rfl | rfl | rfl | rfl | rfl | rfl | rfl | rfl | rfl | rfl | rfl | rfl | rfl | rfl | rfl
  · exact ⟨fun _ => by kernel_rfl, .inl ⟨rfl, rfl⟩⟩
  · refine ⟨fun _ => by kernel_rfl, .inr ⟨g1, rfl, fun j s hj => ?_⟩⟩
    rcases j with _ | j
    · cases hj; exact C g1 #[.string ⟨#[100, 105, 118]⟩] (by simp) 0 _ rfl
    · exact absurd (List.getElem?_eq_some_iff.1 hj).1 (by show ¬ j + 1 < 1; omega)
  · refine ⟨fun _ => by kernel_rfl, .inr ⟨g2, rfl, fun j s hj => ?_⟩⟩
    rcases j with _ | j
    · cases hj; exact C g2 #[.string ⟨#[112]⟩] (by simp) 0 _ rfl
    · exact absurd (List.getElem?_eq_some_iff.1 hj).1 (by show ¬ j + 1 < 1; omega)
  · refine ⟨fun _ => by kernel_rfl, .inr ⟨g3, rfl, fun j s hj => ?_⟩⟩
    rcases j with _ | j
    · cases hj; exact C g3 #[.string ⟨#[104, 49]⟩] (by simp) 0 _ rfl
    · exact absurd (List.getElem?_eq_some_iff.1 hj).1 (by show ¬ j + 1 < 1; omega)
  · refine ⟨fun _ => by kernel_rfl, .inr ⟨g4, rfl, fun j s hj => ?_⟩⟩
    rcases j with _ | j
    · cases hj; exact C g4 #[.string ⟨#[104, 50]⟩] (by simp) 0 _ rfl
    · exact absurd (List.getElem?_eq_some_iff.1 hj).1 (by show ¬ j + 1 < 1; omega)
  · refine ⟨fun _ => by kernel_rfl, .inr ⟨g5, rfl, fun j s hj => ?_⟩⟩
    rcases j with _ | j
    · cases hj; exact C g5 #[.string ⟨#[104, 51]⟩] (by simp) 0 _ rfl
    · exact absurd (List.getElem?_eq_some_iff.1 hj).1 (by show ¬ j + 1 < 1; omega)
  · refine ⟨fun _ => by kernel_rfl, .inr ⟨g6, rfl, fun j s hj => ?_⟩⟩
    rcases j with _ | j
    · cases hj; exact C g6 #[.string ⟨#[98, 108, 111, 99, 107, 113, 117, 111, 116, 101]⟩] (by simp) 0 _ rfl
    · exact absurd (List.getElem?_eq_some_iff.1 hj).1 (by show ¬ j + 1 < 1; omega)
  · refine ⟨fun _ => by kernel_rfl, .inr ⟨g7, rfl, fun j s hj => ?_⟩⟩
    rcases j with _ | j
    · cases hj; exact C g7 #[.string ⟨#[117, 108]⟩] (by simp) 0 _ rfl
    · exact absurd (List.getElem?_eq_some_iff.1 hj).1 (by show ¬ j + 1 < 1; omega)
  · refine ⟨fun _ => by kernel_rfl, .inr ⟨g8, rfl, fun j s hj => ?_⟩⟩
    rcases j with _ | j
    · cases hj; exact C g8 #[.string ⟨#[111, 108]⟩] (by simp) 0 _ rfl
    · exact absurd (List.getElem?_eq_some_iff.1 hj).1 (by show ¬ j + 1 < 1; omega)
  · refine ⟨fun _ => by kernel_rfl, .inr ⟨g9, rfl, fun j s hj => ?_⟩⟩
    rcases j with _ | j
    · cases hj; exact C g9 #[.string ⟨#[108, 105]⟩] (by simp) 0 _ rfl
    · exact absurd (List.getElem?_eq_some_iff.1 hj).1 (by show ¬ j + 1 < 1; omega)
  · refine ⟨fun _ => by kernel_rfl, .inr ⟨g10, rfl, fun j s hj => ?_⟩⟩
    rcases j with _ | j
    · cases hj; exact C g10 #[.string ⟨#[97]⟩] (by simp) 0 _ rfl
    · exact absurd (List.getElem?_eq_some_iff.1 hj).1 (by show ¬ j + 1 < 1; omega)
  · refine ⟨fun _ => by kernel_rfl, .inr ⟨g11, rfl, fun j s hj => ?_⟩⟩
    rcases j with _ | j
    · cases hj; exact C g11 #[.string ⟨#[98]⟩, .string ⟨#[115, 116, 114, 111, 110, 103]⟩] (by simp) 0 _ rfl
    rcases j with _ | j
    · cases hj; exact C g11 #[.string ⟨#[98]⟩, .string ⟨#[115, 116, 114, 111, 110, 103]⟩] (by simp) 1 _ rfl
    · exact absurd (List.getElem?_eq_some_iff.1 hj).1 (by show ¬ j + 2 < 2; omega)
  · refine ⟨fun _ => by kernel_rfl, .inr ⟨g12, rfl, fun j s hj => ?_⟩⟩
    rcases j with _ | j
    · cases hj; exact C g12 #[.string ⟨#[105]⟩, .string ⟨#[101, 109]⟩] (by simp) 0 _ rfl
    rcases j with _ | j
    · cases hj; exact C g12 #[.string ⟨#[105]⟩, .string ⟨#[101, 109]⟩] (by simp) 1 _ rfl
    · exact absurd (List.getElem?_eq_some_iff.1 hj).1 (by show ¬ j + 2 < 2; omega)
  · refine ⟨fun _ => by kernel_rfl, .inr ⟨g13, rfl, fun j s hj => ?_⟩⟩
    rcases j with _ | j
    · cases hj; exact C g13 #[.string ⟨#[117]⟩, .string ⟨#[105, 110, 115]⟩] (by simp) 0 _ rfl
    rcases j with _ | j
    · cases hj; exact C g13 #[.string ⟨#[117]⟩, .string ⟨#[105, 110, 115]⟩] (by simp) 1 _ rfl
    · exact absurd (List.getElem?_eq_some_iff.1 hj).1 (by show ¬ j + 2 < 2; omega)
  · refine ⟨fun _ => by kernel_rfl, .inr ⟨g14, rfl, fun j s hj => ?_⟩⟩
    rcases j with _ | j
    · cases hj; exact C g14 #[.string ⟨#[115]⟩, .string ⟨#[115, 116, 114, 105, 107, 101]⟩, .string ⟨#[100, 101, 108]⟩] (by simp) 0 _ rfl
    rcases j with _ | j
    · cases hj; exact C g14 #[.string ⟨#[115]⟩, .string ⟨#[115, 116, 114, 105, 107, 101]⟩, .string ⟨#[100, 101, 108]⟩] (by simp) 1 _ rfl
    rcases j with _ | j
    · cases hj; exact C g14 #[.string ⟨#[115]⟩, .string ⟨#[115, 116, 114, 105, 107, 101]⟩, .string ⟨#[100, 101, 108]⟩] (by simp) 2 _ rfl
    · exact absurd (List.getElem?_eq_some_iff.1 hj).1 (by show ¬ j + 3 < 3; omega)
  · refine ⟨fun _ => by kernel_rfl, .inr ⟨g15, rfl, fun j s hj => ?_⟩⟩
    rcases j with _ | j
    · cases hj; exact C g15 #[.string ⟨#[115, 112, 97, 110]⟩] (by simp) 0 _ rfl
    · exact absurd (List.getElem?_eq_some_iff.1 hj).1 (by show ¬ j + 1 < 1; omega)
  · refine ⟨fun _ => by kernel_rfl, .inr ⟨g16, rfl, fun j s hj => ?_⟩⟩
    rcases j with _ | j
    · cases hj; exact C g16 #[.string ⟨#[98, 114]⟩] (by simp) 0 _ rfl
    · exact absurd (List.getElem?_eq_some_iff.1 hj).1 (by show ¬ j + 1 < 1; omega)
def putsD (L : List (List UInt8 × Int)) : DataW Unit := L.foldl (fun d p => d.put (.string p.1) (.lit (.int .i64 p.2))) (.map [])
theorem snoc_rec {α : Type} {P : List α → Prop} (h0 : P []) (h1 : ∀ l a, P l → P (l ++ [a])) : ∀ l, P l := fun l => by
  have h : ∀ r : List α, P r.reverse := by
    intro r
    induction r with
    | nil => exact h0
    | cons a r ih => rw [List.reverse_cons]; exact h1 _ _ ih
  have := h l.reverse
  rwa [List.reverse_reverse] at this
theorem putsD_snoc (L : List (List UInt8 × Int)) (p : List UInt8 × Int) : putsD (L ++ [p]) = (putsD L).put (.string p.1) (.lit (.int .i64 p.2)) := by unfold putsD; rw [List.foldl_append]; rfl
theorem putsD_map (L : List (List UInt8 × Int)) : IsMap (putsD L) := by
  revert L
  exact snoc_rec isMap_empty fun l p ih => by rw [putsD_snoc]; exact ih.put _ _
theorem putsD_find (L : List (List UInt8 × Int)) (hn : (L.map Prod.fst).Nodup) (n : List UInt8) (z : Int) :
    has (putsD L) (.string n) = (L.find? (·.1 == n)).isSome ∧ (putsD L).atKey (.string n) (.lit (.int .i64 z)) = .lit (.int .i64 (((L.find? (·.1 == n)).map Prod.snd).getD z)) := by
  revert L
  refine snoc_rec (fun _ => ⟨rfl, rfl⟩) fun l p ih hn => ?_
  · rw [List.map_append] at hn
    obtain ⟨h1, h2, h3⟩ := List.nodup_append.1 hn
    obtain ⟨i1, i2⟩ := ih h1
    rw [putsD_snoc, List.find?_append]
    by_cases hp : p.1 = n
    · have hnone : l.find? (·.1 == n) = none := by
        rw [List.find?_eq_none]
        intro q hq he
        have he : q.1 = n := by simpa using he
        exact h3 q.1 (List.mem_map.2 ⟨q, hq, rfl⟩) p.1 (by simp) (by rw [he, hp])
      rw [hnone]
      subst hp
      rw [has_put_same (putsD_map l) (show WideAt.IsKeyLit (Lit.string p.1) from trivial), atKey_put_same (putsD_map l) (show WideAt.IsKeyLit (Lit.string p.1) from trivial)]
      simp
    · have hne : (Lit.string n) ≠ Lit.string p.1 := fun e => hp (by injection e with e; exact e.symm)
      rw [has_put_other hne, atKey_put_other hne, i1, i2]
      have hq : ([p].find? (·.1 == n)) = none := by simp [hp]
      rw [hq]
      simp
def firstT (k : Nat) : List (List UInt8 × Int) := (List.range k).flatMap fun i => (nmT i).map fun n => (n, (i : Int))
theorem firstT_all : firstT 17 = namesT := by decide +kernel
theorem firstT_succ (k : Nat) : firstT (k + 1) = firstT k ++ (nmT k).map fun n => (n, (k : Int)) := by unfold firstT; rw [List.range_succ, List.flatMap_append]; simp
theorem firstT_len (k : Nat) (hk : k ≤ 17) : (firstT k).length ≤ 100 := by
  have h : ∀ k : Fin 18, (firstT k.val).length ≤ 100 := by decide +kernel
  exact h ⟨k, by omega⟩
theorem nmT_len (k : Nat) (hk : k < 17) : (nmT k).length ≤ 3 := by
  have h : ∀ k : Fin 17, (nmT k.val).length ≤ 3 := by decide +kernel
  exact h ⟨k, by omega⟩
theorem nmT_size (k : Nat) (hk : k < 17) {s : List UInt8} (hs : s ∈ nmT k) : s.length ≤ 20 := by
  have h : ∀ k : Fin 17, ∀ s ∈ nmT k.val, s.length ≤ 20 := by decide +kernel
  exact h ⟨k, hk⟩ s hs
def TagNamesIs (w : World) (e : Ending) (w' : World) : Prop := ∃ B, e = .returned (.map (some B)) ∧ Ext w w' ∧ w'.ownsMap Tryz.prog 9 (plainElem (H := Unit) Tryz.prog 3) B 200 (putsD namesT)
theorem names_any (w : World) : Calls Tryz.prog 95 #[] w (TagNamesIs w) := by
  have hmm := @run_makeMap Tryz.prog
  have x0 := (Ext.refl w).alloc (.map #[] 0)
  have o0 := World.ownsMap_made w Tryz.prog 9 (plainElem (H := Unit) Tryz.prog 3)
  go_enter Tryz.func95, Tryz.ntmps95
  go_upto_region 2 with fail
  obtain ⟨w1, hw1⟩ : ∃ w1 : World, w1 = w.alloc (.map #[] 0) := ⟨_, rfl⟩
  rw [← hw1] at x0 o0 ⊢
  clear hw1
  obtain ⟨B, hB⟩ : ∃ B, w.heap.size = B := ⟨_, rfl⟩
  have HB := qh (show w.heap.size ≤ B from hB ▸ Nat.le_refl _)
  rw [hB] at o0 ⊢
  clear hB
  have X0 := qh x0
  have O0 := qh o0
  clear x0 o0
  go_wp2_with (go_at_call 143; refine (table_rows _).mono ?_)
  rintro e w2 ⟨T, nv, rfl, x2, hT⟩
  have O2 : Hid (w2.ownsMap Tryz.prog 9 (plainElem (H := Unit) Tryz.prog 3) B 0 (.map [])) := qh (O0.out.kept (row := none) (growOf x2) (by simp))
  have X2 := qh (X0.out.trans x2)
  have HT := qh hT
  have HRW : Hid (∀ k, k < 17 → ∃ a, nv k = .slice a (nmT k).length (nmT k).length ∧ ∀ (j : Nat) s, (nmT k)[j]? = some s → ∃ g, a = some ⟨g, 0, none⟩ ∧ ∀ W, w2.grownBy W (some B) → W.cell? ⟨g, j, none⟩ = some (.string (bs s))) := qh fun k hk => by
    rcases (HT.out k hk).2 with ⟨h1, h2⟩ | ⟨g, h1, h2⟩
    · exact ⟨none, by rw [h1, h2]; rfl, fun j s hj => by rw [h1] at hj; simp at hj⟩
    · refine ⟨_, h1, fun j s hj => ⟨g, rfl, fun W hW => hW.cell (h2 j s hj) ?_⟩⟩
      have hc := h2 j s hj
      intro e
      have e2 : g = B := by injection e
      obtain ⟨es, clock, hb, _⟩ := O2.out
      rw [e2] at hc
      simp [World.cell?, hb] at hc
  clear x2 hT
  go_wp2_with fail
  go_loopg [8] 17 (fun gk s8 wr => ∃ k : Nat, s8 = .int .i64 (k : Int) ∧ k + gk = 17 ∧ Hid (wr.ownsMap Tryz.prog 9 (plainElem (H := Unit) Tryz.prog 3) B (firstT k).length (putsD (firstT k)) ∧ w2.grownBy wr (some B) ∧ Ext w wr))
  case atStart => exact ⟨0, rfl, rfl, qh ⟨O2.out, World.grownBy.refl _ _, X2.out⟩⟩
  case round =>
    obtain ⟨k, rfl, hk, hr⟩ := hrel
    by_cases hlt : k < 17
    · obtain ⟨g', rfl⟩ : ∃ g', gk = g' + 1 := ⟨gk - 1, by omega⟩
      have d1 : decide ((k : Int) < 17) = true := decide_eq_true (by omega)
      have d1n : decide (k < 17) = true := decide_eq_true hlt
      have hix := (HT.out k hlt).1
      obtain ⟨c, hc⟩ : ∃ c, clsT (k : Int) = c := ⟨_, rfl⟩
      rw [hc] at hix
      clear hc
      obtain ⟨a, hv, hcell⟩ := HRW.out k hlt
      rw [hv] at hix
      clear hv
      have HL := qh hlt
      have HK := qh hk
      have HCELL := qh hcell
      obtain ⟨n, hn⟩ : ∃ n, (nmT k).length = n := ⟨_, rfl⟩
      rw [hn] at hix
      have HN := qh hn
      clear hlt hk hcell hn
      have hb := heap_alloc_new wr (.cells #[.slice none 0 0, .int .i64 0] 150)
      have c0 := cellOf hb (i := 0) (v := .slice none 0 0) rfl
      have c1 := cellOf hb (i := 1) (v := .int .i64 0) rfl
      have f0 := freeOf hb 0
      have f1 := freeOf hb 1
      have hb2 := qh (box_row (v := .slice a n n) (u := .int .i64 c) hb)
      clear hb
      go_upto_region 5 with fail
      clear c0 c1 f0 f1 hb2
      have hb2 := qh (heap_alloc_new wr (.cells #[.slice a n n, .int .i64 c] 150))
      have HR2 : Hid ((wr.alloc (.cells #[.slice a n n, .int .i64 c] 150)).ownsMap Tryz.prog 9 (plainElem (H := Unit) Tryz.prog 3) B (firstT k).length (putsD (firstT k)) ∧ w2.grownBy (wr.alloc (.cells #[.slice a n n, .int .i64 c] 150)) (some B) ∧ Ext w (wr.alloc (.cells #[.slice a n n, .int .i64 c] 150))) := qh (by
        obtain ⟨h1, h2, h3⟩ := hr.out
        have hlt := h1.lt
        have hxx : Ext wr (wr.alloc (.cells #[.slice a n n, .int .i64 c] 150)) := (Ext.refl wr).alloc _
        exact ⟨h1.kept (row := none) (growOf hxx) (by simp), h2.trans (growOf hxx), h3.trans hxx⟩)
      generalize wr.alloc (.cells #[.slice a n n, .int .i64 c] 150) = wA at hb2 HR2 ⊢
      have cA := cellOf hb2.out (i := 0) (v := .slice a n n) rfl
      clear hb2 hr
      go_wp2_with fail
      go_loopg [15] n (fun gj s15 wr => ∃ j : Nat, s15 = .int .i64 (j : Int) ∧ j + gj = n ∧ Hid (wr.ownsMap Tryz.prog 9 (plainElem (H := Unit) Tryz.prog 3) B ((firstT k).length + j) (putsD (firstT k ++ ((nmT k).take j).map fun n => (n, (k : Int)))) ∧ w2.grownBy wr (some B) ∧ Ext w wr))
      case atStart => exact ⟨0, rfl, by omega, qh ⟨by simpa using HR2.out.1, HR2.out.2.1, HR2.out.2.2⟩⟩
      case round =>
        obtain ⟨j, rfl, hj, hr⟩ := hrel
        by_cases hjn : j < n
        · obtain ⟨gj', rfl⟩ : ∃ g', gk = g' + 1 := ⟨gk - 1, by omega⟩
          have e1 : decide ((j : Int) < (n : Int)) = true := decide_eq_true (by omega)
          have e2 : decide (j < n) = true := decide_eq_true hjn
          obtain ⟨s, hs⟩ : ∃ s, (nmT k)[j]? = some s := ⟨(nmT k)[j]'(by have := HN.out; omega), by simp⟩
          obtain ⟨g, rfl, hg⟩ := HCELL.out j s hs
          have hcj := hg _ hr.out.2.1
          have hown := hr.out.1
          have HSZ := qh (nmT_size k HL.out (List.mem_of_getElem? hs))
          have hkey : keyOf Tryz.prog 9 (.string (bs s)) = some (.string s) := by
            have h := keyOf_string_mk (P := Tryz.prog) (k := 9) Tryz.underlying9 (s := bs s) (by have h := HSZ.out; show s.toArray.size ≤ _; rw [List.size_toArray]; unfold maxLen; omega)
            simpa [bs] using h
          have hroom : (firstT k).length + j < maxLen := by
            have h1 := firstT_len k (by have := HL.out; omega)
            have h2 := nmT_len k HL.out
            have h3 := HN.out
            unfold maxLen
            omega
          have HG := qh hr.out.2.1
          have HX := qh hr.out.2.2
          have HS := qh hs
          have HJ := qh (And.intro hj hjn)
          clear hs hg hr hj
          have wfk : (Lit.int .i64 (k : Int)).wf = true := WalkArith.wf_i64 (by have := HL.out; omega)
          go_wp2_with (at_mapUpdate; refine wpList_mapUpdate_own _ rfl _ _ _ 141 rfl 9 3 (string_keyed Tryz.underlying9) Tryz.underlying141 _ B _ _ rfl hown hroom _ _ _ rfl rfl hkey _ [] (plainElem_int Tryz.underlying3 wfk) ?_; intro w1 hown1 hgrow1)
          have HF : Hid (w1.ownsMap Tryz.prog 9 (plainElem (H := Unit) Tryz.prog 3) B ((firstT k).length + (j + 1)) (putsD (firstT k ++ ((nmT k).take (j + 1)).map fun n => (n, (k : Int)))) ∧ w2.grownBy w1 (some B) ∧ Ext w w1) := qh (by
            refine ⟨?_, HG.out.trans hgrow1, ?_⟩
            · have e : (nmT k).take (j + 1) = (nmT k).take j ++ [s] := by rw [List.take_add_one, HS.out]; rfl
              rw [e, List.map_append, ← List.append_assoc]
              show w1.ownsMap _ _ _ _ _ (putsD (_ ++ [(s, (k : Int))]))
              rw [putsD_snoc]
              exact hown1
            · exact HX.out.grown hgrow1 (fun k e => by cases e; exact HB.out))
          clear hown1 hgrow1 hown
          go_wp2_with fail
          go_roundg gj'
          case measure => omega
          case rel => exact ⟨j + 1, intN (by have h1 := HJ.out.2; have h2 := HN.out; have h3 := nmT_len k HL.out; omega), by have := HJ.out.1; omega, HF⟩
        · have hje : j = n := by omega
          have e1 : decide ((j : Int) < (n : Int)) = false := decide_eq_false (by omega)
          have e2 : decide (j < n) = false := decide_eq_false hjn
          have HR3 : Hid (wr.ownsMap Tryz.prog 9 (plainElem (H := Unit) Tryz.prog 3) B (firstT (k + 1)).length (putsD (firstT (k + 1))) ∧ w2.grownBy wr (some B) ∧ Ext w wr) := qh (by
            refine ⟨?_, hr.out.2⟩
            have h1 := hr.out.1
            rw [hje, ← HN.out, List.take_length] at h1
            rw [firstT_succ, List.length_append, List.length_map]
            exact h1)
          clear hr hj hje hjn
          go_wp2_with fail
          go_roundg g'
          case measure => omega
          case rel => exact ⟨k + 1, intN (by have h1 := HL.out; omega), by have := HK.out; omega, HR3⟩
    · have hke : k = 17 := by omega
      subst hke
      have HF := qh hr.out
      clear hr hk hlt
      go_wp2_with fail
      go_ret
      refine ⟨B, rfl, HF.out.2.2, ?_⟩
      have h := HF.out.1
      rw [firstT_all] at h
      exact h.mono (by decide)
def FindIs (n : List UInt8) (w : World) (e : Ending) (w' : World) : Prop := e = .returned (.tuple #[.int .i64 ((findT n).getD 0), .bool (findT n).isSome]) ∧ Ext w w'
theorem Find_any (n : List UInt8) (hn : ∀ c ∈ n, c.toNat < 128 ∧ (c.toNat < 65 ∨ 90 < c.toNat)) (hl : n.length ≤ 100000) (w : World) : Calls Tryz.prog 56 #[.string (bs n)] w (FindIs n w) := by
  have HL := qh (fun W => low_any (bs n) (by simpa [bs] using hn) W)
  have HF := qh (putsD_find namesT (by decide +kernel) n 0)
  have hkey : keyOf Tryz.prog 9 (.string (bs n)) = some (.string n) := by
    have h := keyOf_string_mk (P := Tryz.prog) (k := 9) Tryz.underlying9 (s := bs n) (by show n.toArray.size ≤ _; rw [List.size_toArray]; unfold maxLen; omega)
    simpa [bs] using h
  have HFT : Hid (∀ c : Int, (putsD namesT).atKey (.string n) (.lit (.int .i64 0)) = .lit (.int .i64 c) → c = (findT n).getD 0 ∧ has (putsD namesT) (.string n) = (findT n).isSome) := qh fun c hc => by
    obtain ⟨h1, h2⟩ := HF.out
    rw [h2] at hc
    have e : c = ((namesT.find? (·.1 == n)).map Prod.snd).getD 0 := by injection hc with hc; injection hc with _ hc; exact hc.symm
    exact ⟨e, by rw [h1]; unfold findT; rw [Option.isSome_map]⟩
  unfold FindIs
  obtain ⟨z, hz⟩ : ∃ z, (findT n).getD 0 = z := ⟨_, rfl⟩
  obtain ⟨ok, hok⟩ : ∃ ok, (findT n).isSome = ok := ⟨_, rfl⟩
  rw [hz, hok] at HFT ⊢
  clear hn hl hz hok HF
  go_enter Tryz.func56, Tryz.ntmps56
  go_wp2_with (first
    | (go_at_call 95; refine (names_any _).mono ?_; rintro e w2 ⟨B, rfl, x2, hown⟩)
    | (go_at_call 96; refine (HL.out _).mono ?_; rintro e w3 ⟨rfl, x3⟩; replace hown := hown.kept (row := none) (growOf x3) (by simp))
    | (at_lookup; refine wpList_lookup_own_ok_int _ rfl _ _ 141 rfl 9 3 .i64 (string_keyed Tryz.underlying9) Tryz.underlying141 Tryz.underlying3 (Tryz.zeroValue3 _) B 200 _ rfl hown _ _ rfl hkey ?_; intro c hat hwc; obtain ⟨rfl, hhas⟩ := HFT.out c hat; rw [hhas]; clear hhas hat hwc))
  go_ret2
  exact ⟨rfl, x2.trans x3⟩
end Go.Proofs.YtalaajbajgdglaaGreatDoor
namespace Go.Proofs.YtalaajbajgdglaaGreatDoor
open Go Go.RowKit Go.BigFrame
def IsF (p : Int → Bool) (fv : Value) (w : World) : Prop :=
  ∃ (g : Nat) (lb : Array Value), fv = .func (.func g) #[] lb ∧ (∀ args w, (callFunc g args).run Tryz.prog w = .ok (.enter g args) w) ∧
    ∀ (W : World) (x : Int), Ext w W → Calls Tryz.prog g (#[.int .i64 x] ++ lb) W (RBool (p x) W)
theorem box_any (x : Int) (w : World) : Calls Tryz.prog 102 #[.int .i64 x] w (RBool (boxT x) w) := by
  unfold boxT
  have HC := qh (fun W => Class_any W x)
  obtain ⟨c, hc⟩ : ∃ c, clsT x = c := ⟨_, rfl⟩
  rw [hc] at HC ⊢
  clear hc
  go_enter Tryz.func102, Tryz.ntmps102
  go_wp2_with (go_at_call 64; refine (HC.out _).mono ?_)
  rintro e w1 ⟨rfl, x1⟩
  go_wp2_with fail
  go_ret
  exact ⟨rfl, x1⟩
theorem isPH_any (x : Int) (w : World) : Calls Tryz.prog 103 #[.int .i64 x] w (RBool (isPH x) w) := by
  have x0 := Ext.refl w
  by_cases h2 : x = 2
  · subst h2
    go_enter Tryz.func103, Tryz.ntmps103
    go_wp2
    go_ret
    exact ⟨rfl, x0⟩
  · have d1 : (x == 2) = false := by simpa using h2
    have HC := qh (fun W => Heading_any x W)
    have e : isPH x = decide (0 < headZ x) := by
      unfold isPH headT headZ
      rw [d1]
      by_cases h : 3 ≤ x ∧ x ≤ 5
      · rw [if_pos h, decide_eq_true h.1, decide_eq_true h.2, decide_eq_true (by omega)]; rfl
      · rw [if_neg h]
        by_cases h3 : 3 ≤ x
        · rw [decide_eq_true h3, decide_eq_false (show ¬ x ≤ 5 by omega)]; rfl
        · rw [decide_eq_false h3]; rfl
    rw [e]
    obtain ⟨c, hc⟩ : ∃ c, headZ x = c := ⟨_, rfl⟩
    rw [hc] at HC ⊢
    clear hc e h2
    go_enter Tryz.func103, Tryz.ntmps103
    go_wp2_with (go_at_call 104; refine (HC.out _).mono ?_)
    rintro e w1 ⟨rfl, x1⟩
    go_wp2_with fail
    go_ret
    exact ⟨rfl, x1⟩
theorem stPH_any (x : Int) (b : Nat) (w : World) (hb : w.cell? ⟨b, 0, none⟩ = some (.func (.func 102) #[] #[])) : Calls Tryz.prog 105 #[.int .i64 x, .pointer (some ⟨b, 0, none⟩)] w (RBool (stPH x) w) := by
  have HC := qh (fun W => box_any x W)
  have eg : ∀ args w, (callFunc 102 args).run Tryz.prog w = .ok (.enter 102 args) w := enters_of Tryz.func102 (by kernel_rfl) rfl
  cases hl : boxT x with
  | true =>
    have e : stPH x = true := by unfold stPH; rw [hl]; rfl
    rw [hl] at HC
    rw [e]
    clear e hl
    go_enter Tryz.func105, Tryz.ntmps105
    go_wp2_with (go_at_fn 102; refine (HC.out _).mono ?_)
    rintro e w1 ⟨rfl, x1⟩
    go_wp2_with fail
    go_ret
    exact ⟨rfl, x1⟩
  | false =>
    have e : stPH x = (x == 9) := by unfold stPH; rw [hl]; rfl
    rw [hl] at HC
    rw [e]
    clear e hl
    go_enter Tryz.func105, Tryz.ntmps105
    go_wp2_with (go_at_fn 102; refine (HC.out _).mono ?_)
    rintro e w1 ⟨rfl, x1⟩
    go_wp2_with fail
    go_ret
    exact ⟨rfl, x1⟩
theorem isLi_any (x : Int) (w : World) : Calls Tryz.prog 106 #[.int .i64 x] w (RBool (isLi x) w) := by
  have x0 := Ext.refl w
  unfold isLi
  go_enter Tryz.func106, Tryz.ntmps106
  go_wp2
  go_ret
  exact ⟨rfl, x0⟩
theorem stLi_any (x : Int) (w : World) : Calls Tryz.prog 107 #[.int .i64 x] w (RBool (stLi x) w) := by
  have x0 := Ext.refl w
  by_cases h : x = 7
  · subst h
    go_enter Tryz.func107, Tryz.ntmps107
    go_wp2
    go_ret
    exact ⟨rfl, x0⟩
  · have d1 : (x == 7) = false := by simpa using h
    have e : stLi x = (x == 8) := by unfold stLi; rw [d1]; rfl
    rw [e]
    clear e h
    go_enter Tryz.func107, Tryz.ntmps107
    go_wp2
    go_ret
    exact ⟨rfl, x0⟩
theorem tok1_any (x tag : Int) (b : Nat) (w : World) (hb : w.cell? ⟨b, 0, none⟩ = some (.int .i64 tag)) : Calls Tryz.prog 59 #[.int .i64 x, .pointer (some ⟨b, 0, none⟩)] w (RBool (x == tag) w) := by
  have x0 := Ext.refl w
  go_enter Tryz.func59, Tryz.ntmps59
  go_wp2
  go_ret
  exact ⟨rfl, x0⟩
theorem tok2_any (x : Int) (w : World) : Calls Tryz.prog 60 #[.int .i64 x] w (RBool false w) := by
  have x0 := Ext.refl w
  go_enter Tryz.func60, Tryz.ntmps60
  go_wp2
  go_ret
  exact ⟨rfl, x0⟩
theorem fn_PH (w : World) : IsF isPH (.func (.func 103) #[] #[]) w := ⟨_, _, rfl, enters_of Tryz.func103 (by kernel_rfl) rfl, fun W x _ => isPH_any x W⟩
theorem fn_stPH {w : World} {b : Nat} (hb : w.cell? ⟨b, 0, none⟩ = some (.func (.func 102) #[] #[])) : IsF stPH (.func (.func 105) #[] #[.pointer (some ⟨b, 0, none⟩)]) w :=
  ⟨_, _, rfl, enters_of Tryz.func105 (by kernel_rfl) rfl, fun W x hx => stPH_any x b W (hx.cell hb)⟩
theorem fn_Li (w : World) : IsF isLi (.func (.func 106) #[] #[]) w := ⟨_, _, rfl, enters_of Tryz.func106 (by kernel_rfl) rfl, fun W x _ => isLi_any x W⟩
theorem fn_stLi (w : World) : IsF stLi (.func (.func 107) #[] #[]) w := ⟨_, _, rfl, enters_of Tryz.func107 (by kernel_rfl) rfl, fun W x _ => stLi_any x W⟩
theorem fn_tok {w : World} {b : Nat} {tag : Int} (hb : w.cell? ⟨b, 0, none⟩ = some (.int .i64 tag)) : IsF (· == tag) (.func (.func 59) #[] #[.pointer (some ⟨b, 0, none⟩)]) w :=
  ⟨_, _, rfl, enters_of Tryz.func59 (by kernel_rfl) rfl, fun W x hx => tok1_any x tag b W (hx.cell hb)⟩
theorem fn_none (w : World) : IsF (fun _ => false) (.func (.func 60) #[] #[]) w := ⟨_, _, rfl, enters_of Tryz.func60 (by kernel_rfl) rfl, fun W x _ => tok2_any x W⟩
end Go.Proofs.YtalaajbajgdglaaGreatDoor
namespace Go.Proofs.YtalaajbajgdglaaGreatDoor
open Go Go.RowKit Go.BigFrame Go.Shelf We
attribute [local go_sem] Oper.semAt_some

section
variable {F : Fence} {n : Nat} {P : Program}
theorem wpIn_inRound (hro : F.round = none) (l : Nat) {o : Oper} {a : Act} {w : World} {K K' : Act → World → Prop} {Q : Exit → Act → World → Prop} (hd : ∀ c, o.op ≠ .defer c) (hKK : ∀ a w, K a w → K' a w) (h : o.wpIn F n P a w K Q) : o.wpIn (F.inRound l) n P a w K' Q := by
  have h := Oper.wpIn_mono hKK h
  unfold Oper.wpIn at h ⊢
  rw [hro, Oper.semAt_none] at h
  rw [show (F.inRound l).round = some l from rfl, Oper.semAt_some l _ o hd]
  exact h
theorem wpAnyIn_inRound (hro : F.round = none) (l : Nat) {md : Region.Mode} {ops : Array Oper} {Q : Exit → Act → World → Prop} (hd : ∀ (i : Nat) (o : Oper), ops[i]? = some o → ∀ c, o.op ≠ .defer c) : ∀ (fuel : Nat) (listed : Array Bool) (a : Act) (w : World),
    wpAnyIn F n P md ops Q fuel listed a w → wpAnyIn (F.inRound l) n P md ops Q fuel listed a w
  | 0, _, _, _, h => h
  | fuel + 1, listed, a, w, h => ⟨h.1, fun i hi => by
    have h2 := h.2 i hi
    unfold wpOpIn at h2 ⊢
    cases ho : ops[i]? with
    | none => rw [ho] at h2; exact wpAnyIn_inRound hro l hd fuel _ a w h2
    | some o =>
      rw [ho] at h2
      simp only at h2 ⊢
      split at h2
      · rename_i hw
        rw [if_pos hw]
        exact wpIn_inRound hro l (hd i o ho) (fun a w h => wpAnyIn_inRound hro l hd fuel _ a w h) h2
      · rename_i hw
        rw [if_neg hw]
        exact ⟨h2.1, wpAnyIn_inRound hro l hd fuel _ _ w h2.2⟩⟩
def noDefer (o : Oper) : Bool := match o.op with | .defer _ => false | _ => true
theorem noDefer_ne {o : Oper} (h : noDefer o = true) : ∀ c, o.op ≠ .defer c := fun c e => by unfold noDefer at h; rw [e] at h; cases h
theorem wpIn_region_round {l id : Nat} {Q : Exit → Act → World → Prop} {a : Act} {w : World} {ops : List Oper} (hro : F.round = none) (hm : P.follows .mixedOrders = true) (hB : Region.lexB .any ops.toArray = true) (hd : ops.all noDefer = true)
    (h : wpQuietIn F n P ops.toArray (fun w' => ∃ u : ExtOf w, w' = u.val) (fun a' => ∀ w', (∃ u : ExtOf w, w' = u.val) → Q .normal a' w') ops a) : (Code.region id ops.toArray true).wpIn (F.inRound l) n P Q a w := by
  simp only [Region.lexB, Bool.and_eq_true] at hB
  refine wpIn_region_any hm (wpAnyIn_inRound hro l (fun i o ho => noDefer_ne (List.all_eq_true.1 hd o (by rw [List.getElem?_toArray] at ho; exact List.mem_of_getElem? ho))) _ _ _ _ (wpAnyIn_of_quiet (C := fun w' => ∃ u : ExtOf w, w' = u.val) (Q := fun a' => ∀ w', (∃ u : ExtOf w, w' = u.val) → Q .normal a' w') hro (fun _ w' hw' h => h w' hw') _ _ _ _ ⟨⟨w.drew, (Ext.refl w).drew⟩, rfl⟩ ?_))
  have := wpAnyQIn_lex (F := F) (n := n) (C := fun w' => ∃ u : ExtOf w, w' = u.val) (md := .any) hB.1 ops 0 (Array.replicate ops.toArray.size false) a (by simp) (by simpa using hB.2) h
  simpa using this
theorem wide_fn (f : FuncId) : Fence.wide.fn f = True := rfl
theorem inExtIn {f : FuncId} {args : Array Value} {w : World} {u : ExtOf w} {v : Value} (h : CallsIn F n P f args u.val fun e w' => e = .returned v ∧ Ext u.val w') :
    CallsIn F n P f args u.val fun e w' => e = .returned v ∧ ∃ u' : ExtOf w, w' = u'.val :=
  h.mono fun _ w' hh => ⟨hh.1, ⟨w', u.ext.trans hh.2⟩, rfl⟩
end

abbrev AX (qs : List Nat) (tags : List Int) := { x : Nat × Nat × Int // qs[x.1]? = some x.2.1 ∧ tags[x.1]? = some x.2.2 }
def axs {qs : List Nat} {tags : List Int} (x : AX qs tags) : Array Value := #[.int .i64 (x.1.1 : Int), .pointer (some ⟨x.1.2.1, 0, none⟩)]
def backX (qs : List Nat) (tags : List Int) (h : tags.length = qs.length) : List (AX qs tags) := List.ofFn fun k : Fin qs.length => ⟨(qs.length - 1 - k.val, qs[qs.length - 1 - k.val]'(by have := k.isLt; omega), tags[qs.length - 1 - k.val]'(by have := k.isLt; omega)), by have := k.isLt; exact ⟨List.getElem?_eq_getElem _, List.getElem?_eq_getElem _⟩⟩
theorem backX_len {qs : List Nat} {tags : List Int} (h : tags.length = qs.length) : (backX qs tags h).length = qs.length := by unfold backX; simp
theorem backX_get {qs : List Nat} {tags : List Int} (h : tags.length = qs.length) {k : Nat} (hk : k < qs.length) : ∃ x, (backX qs tags h)[k]? = some x ∧ x.1.1 = qs.length - 1 - k := by
  have h1 : k < (backX qs tags h).length := by rw [backX_len]; exact hk
  exact ⟨(backX qs tags h)[k]'h1, List.getElem?_eq_getElem h1, by simp [backX]⟩
theorem take_get {α : Type} {L : List α} {k : Nat} {x : α} (h : L[k]? = some x) : L.take (k + 1) = L.take k ++ [x] := by rw [List.take_add_one, h]; rfl
theorem back1_in (qs : List Nat) (tags : List Int) (ht : tags.length = qs.length) (hq : qs.length ≤ 60000) (n : Nat) (hn : 1 ≤ n) (l Bs n₀ g cap : Nat) (hg : g < n₀) (hB : Bs < n₀) (J Jx : List (AX qs tags) → World → Prop)
    (hY : ∀ pre x W, J pre W → pre.length < qs.length → YieldAt Fence.wide (n - 1) Tryz.prog l (axs x) W fun e W' =>
      (e = .returned (.bool true) ∧ J (pre ++ [x]) W' ∧ Below n₀ W W') ∨ (e = .returned (.bool false) ∧ Jx (pre ++ [x]) W'))
    (W : World) (hBs : W.cell? ⟨Bs, 0, none⟩ = some (.slice (some ⟨g, 0, none⟩) qs.length cap)) (hc : ∀ (j : Nat) q, qs[j]? = some q → W.cell? ⟨g, j, none⟩ = some (ptrV q)) (h0 : J [] W) :
    CallsIn Fence.wide n Tryz.prog 153 #[.func (.yield l) #[] #[], .pointer (some ⟨Bs, 0, none⟩)] W fun e W' => (∃ v, e = .returned v) ∧
      ((∃ ys, ys = backX qs tags ht ∧ J ys W') ∨ (∃ pre, (∃ k, k ≤ qs.length ∧ pre = (backX qs tags ht).take k) ∧ Jx pre W')) := by
  obtain ⟨N, hN⟩ : ∃ N, qs.length = N := ⟨_, rfl⟩
  rw [hN] at hBs hq
  refine callsIn_of_wp Tryz.func153 rfl trivial ?_ rfl
  simp only [Tryz.ntmps153, List.size_toArray, List.length_cons, List.length_nil, Nat.reduceAdd, Nat.reduceSub, Array.replicate_succ, Array.replicate_zero, List.push_toArray, List.append_toArray, List.nil_append, List.cons_append]
  gi_wp2
  gi_loopw [3] (fun i wr => ∃ k : Nat, k ≤ N ∧ i = .int .i64 ((N : Int) - 1 - (k : Int)) ∧ J ((backX qs tags ht).take k) wr ∧ Below n₀ W wr)
    (fun i _ => (intOf i + 1).toNat)
  case atStart => exact ⟨0, Nat.zero_le _, by simp, h0, Below.refl _ _⟩
  case round =>
    obtain ⟨k, hk, rfl, hJs, hnx⟩ := hrel
    have hcs : wr.cell? ⟨Bs, 0, none⟩ = some (.slice (some ⟨g, 0, none⟩) N cap) := (hnx.cell (p := ⟨Bs, 0, none⟩) hB).trans hBs
    by_cases hlt : k < N
    · obtain ⟨x, hx, hx1⟩ := backX_get ht (k := k) (by omega)
      have hxq := x.2.1
      obtain ⟨fn, tmps, assign, body, hy, hR⟩ := hY _ x wr hJs (by rw [List.length_take, backX_len]; omega)
      have hcx : wr.cell? ⟨g, x.1.1, none⟩ = some (ptrV x.1.2.1) := (hnx.cell (p := ⟨g, x.1.1, none⟩) hg).trans (hc _ _ hxq)
      have hix : (x.1.1 : Int) = (N : Int) - 1 - (k : Int) := by rw [hx1]; omega
      obtain ⟨i, hi⟩ : ∃ i : Nat, x.1.1 = i := ⟨_, rfl⟩
      obtain ⟨q, hqq⟩ : ∃ q : Nat, x.1.2.1 = q := ⟨_, rfl⟩
      unfold axs at hy
      rw [hi, hqq] at hy hcx
      rw [hi] at hix
      have HX := qh hx
      have HNX := qh hnx
      rw [← hix]
      have d0 : decide ((0 : Int) ≤ (i : Int)) = true := decide_eq_true (by omega)
      have hiN : i < N := by omega
      have HI := qh (And.intro hix hiN)
      have HJS := qh hJs
      clear hx hx1 hxq hnx hi hqq hix hJs
      unfold ptrV at hcx
      gi_wp2
      refine hR.mono ?_
      rintro e W3 (⟨rfl, hJ3, hk3⟩ | ⟨rfl, hJx3⟩)
      · gi_wp2
        go_roundw
        case rel => exact ⟨k + 1, by omega, by have := HI.out.1; first | (congr 1; done) | (congr 1; omega), by rw [take_get HX.out]; exact hJ3, HNX.out.trans hk3⟩
        case measure => have := HI.out.1; (first | (simp [intOf]; done) | (simp [intOf]; omega))
      · gi_wp2
        refine bodyPost_ret (results_none rfl _ _ _) rfl ?_
        exact ⟨⟨_, rfl⟩, .inr ⟨_, ⟨k + 1, by omega, (take_get HX.out).symm⟩, hJx3⟩⟩
    · obtain rfl : k = N := by omega
      have d0 : decide ((0 : Int) ≤ (k : Int) - 1 - (k : Int)) = false := decide_eq_false (by omega)
      gi_wp2
      go_end0
      exact ⟨⟨_, rfl⟩, .inl ⟨(backX qs tags ht).take k, List.take_of_length_le (by rw [backX_len]; omega), hJs⟩⟩
theorem backward_any (a : Option Addr) (len cap : Nat) (w : World) :
    Calls Tryz.prog 100 #[.slice a len cap] w fun e w' => e = .returned (.func (.func 153) #[] #[.pointer (some ⟨w.heap.size, 0, none⟩)]) ∧ w' = w.alloc (.cells #[.slice a len cap] 49) := by
  go_enter Tryz.func100, Tryz.ntmps100
  go_wp2
  go_ret
  exact ⟨rfl, rfl⟩
end Go.Proofs.YtalaajbajgdglaaGreatDoor
