/- what of ZP Z1 Z2 Z3 BA BB BC BD BE BF BG BH BI BJ BK BL BM BN BO BP BQ BR NA NC NB ND NE NF BS BT ZY BV BW BY Z4 CA CB CC CD TA TB TC TD TE TF TG TK TH TI is leant on -/
import Derived.Test.YtalaajbajgdglaaGreatDoorLBhh
set_option linter.unusedVariables false
set_option linter.unusedSimpArgs false
set_option maxRecDepth 1000000
set_option maxHeartbeats 8000000
namespace Go.Proofs.YtalaajbajgdglaaGreatDoor
open Go Go.RowKit Go.BigFrame
structure DL (B G : Nat) (L : List TkA) (lv : Value) (gb : Option Nat) (w : World) : Prop where
  row : RowP w (fun g => gb = some g ∧ B ≤ g ∧ g ≠ G) 55 7 lv L.length (tkCells L)
  blk : ∀ z, gb = some z → z < w.heap.size ∧ B ≤ z ∧ z ≠ G
  att : ∀ p ∈ L, RowP w (fun g => B ≤ g ∧ g ≠ G ∧ gb ≠ some g ∧ g < w.heap.size) 104 2 p.2 p.1.attrs.length (attrCells p.1.attrs)
section
variable {B G : Nat} {L : List TkA} {lv : Value} {gb : Option Nat} {w w' : World}
theorem DL.mv {S : Nat → Prop} (h : DL B G L lv gb w) (k : Mv S w w') (hS : ∀ g, S g → g = G ∨ g < B) : DL B G L lv gb w' :=
  ⟨h.row.mv k fun g hg hs => by rcases hS g hs with e | e; exact hg.2.2 e; have := hg.2.1; omega, fun z hz => ⟨Nat.lt_of_lt_of_le (h.blk z hz).1 k.size, (h.blk z hz).2⟩,
   fun p hp => RowP.imp ((h.att p hp).mv k fun g hg hs => by rcases hS g hs with e | e; exact hg.2.1 e; have := hg.1; omega) fun g _ hg => ⟨hg.1, hg.2.1, hg.2.2.1, Nat.lt_of_lt_of_le hg.2.2.2 k.size⟩⟩
theorem DL.ext (h : DL B G L lv gb w) (k : Ext w w') : DL B G L lv gb w' := h.mv (S := fun _ => False) (Mv.ofExt k) (fun _ h => h.elim)
theorem DL.other (h : DL B G L lv gb w) {G' : Nat} (hG : G' = G ∨ w.heap.size ≤ G') : DL B G' L lv gb w := by
  rcases hG with rfl | hG
  · exact h
  refine ⟨RowP.imp h.row fun g _ hg => ⟨hg.1, hg.2.1, ?_⟩, fun z hz => ⟨(h.blk z hz).1, (h.blk z hz).2.1, ?_⟩, fun p hp => RowP.imp (h.att p hp) fun g _ hg => ⟨hg.1, ?_, hg.2.2⟩⟩
  · rintro rfl; have := (h.blk g hg.1).1; omega
  · rintro rfl; have := (h.blk z hz).1; omega
  · rintro rfl; have := hg.2.2.2; omega
theorem DL.oth (h : DL B G L lv gb w) {n c : Nat} {v' : Value} (ho : Oth (.slice (some ⟨G, 0, none⟩) n c) v' w w') {G' n' c' : Nat} (hv : v' = .slice (some ⟨G', 0, none⟩) n' c') : DL B G' L lv gb w' := by
  obtain ⟨h1, h2, h3⟩ := ho G n c rfl
  have hG := h3 G' n' c' hv
  have hd := h.other hG
  have keep : ∀ {p : Nat → Prop} {e size : Nat} {v : Value} {n : Nat} {xs : List Value}, RowP w p e size v n xs → (∀ g, p g → g ≠ G) → RowP w' p e size v n xs := by
    intro p e size v n xs hr hp
    refine ⟨hr.1, ?_⟩
    rcases hr.2 with h0 | ⟨g, cap, cur, e1, e2, e3, e4⟩
    · exact .inl h0
    · exact .inr ⟨g, cap, cur, e1, e2, by rw [h1 g (Array.getElem?_eq_some_iff.1 e3).1 (hp g e2)]; exact e3, e4⟩
  refine ⟨?_, fun z hz => ⟨Nat.lt_of_lt_of_le (h.blk z hz).1 h2, (h.blk z hz).2.1, (hd.blk z hz).2.2⟩, fun p hp => ?_⟩
  · have := keep (RowP.imp h.row (q := fun g => (gb = some g ∧ B ≤ g ∧ g ≠ G) ∧ g ≠ G') fun g _ hg => ⟨hg, (hd.blk g hg.1).2.2⟩) fun g hg => hg.1.2.2
    exact RowP.imp this fun g _ hg => ⟨hg.1.1, hg.1.2.1, hg.2⟩
  · have := keep (RowP.imp (h.att p hp) (q := fun g => (B ≤ g ∧ g ≠ G ∧ gb ≠ some g ∧ g < w.heap.size) ∧ g ≠ G') fun g _ hg => ⟨hg, by rintro rfl; rcases hG with e | e; exact hg.2.1 e; have := hg.2.2.2; omega⟩) fun g hg => hg.1.2.1
    exact RowP.imp this fun g _ hg => ⟨hg.1.1, hg.2, hg.1.2.2.1, by have := hg.1.2.2.2; omega⟩
theorem DL.push (h : DL B G L lv gb w) (hlen : L.length ≤ 1000000) (hG : G < w.heap.size) (hB : B ≤ w.heap.size) (p : TkA) (hone : p.2.oneCell' = true)
    (hav : RowP w (fun g => B ≤ g ∧ g ≠ G ∧ gb ≠ some g ∧ g < w.heap.size) 104 2 p.2 p.1.attrs.length (attrCells p.1.attrs)) {cs : Array Value} (hcs : cs.toList = tkC p) :
    ∃ (a : Option Addr) (cap : Nat) (wB : World), (Builtin.append_ #[44, 44] 44 #[lv, .slice (some ⟨w.heap.size, 0, none⟩) 1 1]).run Tryz.prog (w.alloc (.cells cs 55)) = .ok (.slice a (L.length + 1) cap) wB ∧
      Mv (fun g => gb = some g) w wB ∧ ∃ gb', DL B G (L ++ [p]) (.slice a (L.length + 1) cap) gb' wB ∧ ∀ g, gb' = some g → gb = some g ∨ w.heap.size ≤ g := by
  obtain ⟨i0, hi, hz0, hz1, hz2⟩ := info_parts infoTok
  have hxa := (Ext.refl w).alloc (.cells cs 55)
  have hA := h.ext hxa
  have hna := heap_alloc_new w (.cells cs 55)
  have hszA : (w.alloc (.cells cs 55)).heap.size = w.heap.size + 1 := by simp
  obtain ⟨v', wB, row, hrun, hr, hg, hrow⟩ := run_append_row (P := Tryz.prog) (w.alloc (.cells cs 55)) 44 44 55 i0 _ 7 88 Tryz.underlying44 hi hz0 hz1 hz2 (by kernel_rfl) (by decide)
    hA.row ⟨w.heap.size, 0, none⟩ 1 1 (tkC p) rfl (by
      intro j u hj
      rw [Addr.add_lit, Nat.zero_add]
      refine cellOf hna ?_
      rw [← Array.getElem?_toList, hcs]; exact hj) (tkC_one p hone) (by decide) (by unfold maxLen; omega) (by omega)
  obtain ⟨a, cap, e, _⟩ := hr.rd.len_of
  subst e
  have hmB : Mv (fun g => gb = some g) w wB := (Mv.ofExt hxa).grown hg fun k hk _ => (hrow k hk).1
  have hsw := hmB.size
  have hnew : ∀ g, (Value.slice a (L.length + 1) cap).ownBlock = some g → (gb = some g ∧ B ≤ g ∧ g ≠ G) ∨ (w.alloc (.cells cs 55)).heap.size ≤ g := by
    intro g hgo
    rcases hr.2 with ⟨h0, _⟩ | ⟨g', cap', cur, h1, h2, h3, _⟩
    · omega
    · rw [h1] at hgo
      cases hgo
      exact h2
  have hnew2 : ∀ g, (Value.slice a (L.length + 1) cap).ownBlock = some g → g < wB.heap.size := by
    intro g hgo
    rcases hr.2 with ⟨h0, _⟩ | ⟨g', cap', cur, h1, h2, h3, _⟩
    · omega
    · rw [h1] at hgo
      cases hgo
      exact (Array.getElem?_eq_some_iff.1 h3).1
  have hok : ∀ g, (Value.slice a (L.length + 1) cap).ownBlock = some g → B ≤ g ∧ g ≠ G := by
    intro g hgo
    rcases hnew g hgo with h1 | h1
    · exact h1.2
    · exact ⟨by omega, fun hn => by omega⟩
  refine ⟨a, cap, wB, hrun, hmB, (Value.slice a (L.length + 1) cap).ownBlock, ⟨?_, fun z hz => ⟨hnew2 z hz, hok z hz⟩, fun q hq => ?_⟩, fun g hgo => (hnew g hgo).imp And.left fun h => by omega⟩
  · rw [List.length_append, tkCells_append]
    have hr2 : RowP wB (fun g => (Value.slice a (L.length + 1) cap).ownBlock = some g ∧ B ≤ g ∧ g ≠ G) 55 7 (.slice a (L.length + 1) cap) (L.length + 1) (tkCells L ++ tkC p) := RowP.imp hr fun g hgo _ => ⟨hgo, hok g hgo⟩
    have e1 : tkCells [p] = tkC p := by show tkC p ++ [] = _; rw [List.append_nil]
    rw [e1]
    exact hr2
  · have hq0 : RowP w (fun g => B ≤ g ∧ g ≠ G ∧ gb ≠ some g ∧ g < w.heap.size) 104 2 q.2 q.1.attrs.length (attrCells q.1.attrs) := by
      rcases List.mem_append.1 hq with hq | hq
      · exact h.att q hq
      · have : q = p := by simpa using hq
        rw [this]; exact hav
    have h1 := hq0.mv hmB fun g hg2 e => hg2.2.2.1 e
    refine RowP.imp h1 fun g _ hg2 => ⟨hg2.1, hg2.2.1, fun hgo => ?_, by have := hg2.2.2.2; omega⟩
    rcases hnew g hgo with h3 | h3
    · exact hg2.2.2.1 h3.1
    · have := hg2.2.2.2; omega
theorem DL.rd (h : DL B G L lv gb w) : TkRd w lv (L.map Prod.fst) := ⟨L, rfl, RowP.imp h.row fun _ _ _ => trivial, fun p hp => (h.att p hp).rd⟩
end
theorem Buf.mv {W0 w w' : World} {S : Nat → Prop} {G n cap : Nat} {l : List UInt8} (h : Buf W0 (.slice (some ⟨G, 0, none⟩) n cap) l w) (k : Mv S w w') (hG : ¬ S G) (hS : ∀ g, S g → W0.heap.size ≤ g) : Buf W0 (.slice (some ⟨G, 0, none⟩) n cap) l w' := by
  obtain ⟨g, cap', cur, fz, h1, h2, h3, h4, h5, h6, h7, h8, h9, h10⟩ := h
  cases h1
  have hb : Mv (fun g => W0.heap.size ≤ g) W0 w' := Mv.over (S := fun g => W0.heap.size ≤ g) (⟨h9.os, h9.tape, h9.output, h10, fun x hx _ => h9.block x hx⟩) k fun x _ hx => hS x hx
  exact ⟨G, cap, cur, fz, rfl, h2, k.block h3 hG, h4, h5, h6, h7, h8, ⟨hb.os, hb.tape, hb.output, hb.size, fun x hx => hb.rest x hx (by omega)⟩, Nat.le_trans h10 k.size⟩
section
variable {ops : Array Oper} {rest : List Oper} {o : Oper} {a : Act} {Q : Exit → Act → World → Prop}
theorem wpB_byte2 {w : World} (hgd : o.guard = none) (sl x : Operand) (ho : o.op = .call { callee := .builtin .append, args := #[sl, x], argTypes := #[71, 71] })
    (v : Value) (l : List UInt8) (hs : a.eval sl = v) (W0 : World) (hb : Buf W0 v l w) (c : UInt8) (z : Int) (hz : z = (c.toNat : Int)) (hx : a.eval x = .slice (some ⟨w.heap.size, 0, none⟩) 1 1) (hlen : l.length + 1 ≤ 140737488355328)
    (h : ∀ v' w', Buf W0 v' (l ++ [c]) w' → Oth v v' (w.alloc (.cells #[.int .u8 z] 5)) w' → wpList Tryz.prog ops Q rest (a.put o.dst v') w') : wpList Tryz.prog ops Q (o :: rest) a (w.alloc (.cells #[.int .u8 z] 5)) := by
  subst hz
  have hna := heap_alloc_new w (.cells #[.int .u8 (c.toNat : Int)] 5)
  refine wpList_plain hgd fun K hK => ?_
  obtain ⟨v', w', hr, hb', ho'⟩ := run_buf2 (hb.ext ((Ext.refl w).alloc (.cells #[.int .u8 (c.toNat : Int)] 5))) (x := .slice (some ⟨w.heap.size, 0, none⟩) 1 1) (l2 := [c]) o.type (by
    refine Src.ofSlice _ Tryz.underlying71 ⟨w.heap.size, 0, none⟩ 1 1 (Lib.byteCells [c]) rfl ?_ ?_
    · intro j u hj
      rw [Addr.add_lit, Nat.zero_add]
      exact cellOf hna (by simpa [Lib.byteCells] using hj)
    · intro u hu
      simp only [Lib.byteCells, List.mem_map] at hu
      obtain ⟨c', _, rfl⟩ := hu
      rfl) hlen
  unfold Oper.wp execOp
  simp only [ho, resolve, invoke, builtin, Sem.run_bind, Sem.run_pure, Result.andThen_ok, List.map_toArray, List.map_cons, List.map_nil, hs, hx, hr]
  exact hK _ _ (h v' w' hb' ho')
end
structure DS (w1 : World) (raw : List UInt8) (L : List TkA) (G cap : Nat) (lv : Value) (gb : Option Nat) (w : World) : Prop where
  buf : Buf w1 (.slice (some ⟨G, 0, none⟩) raw.length cap) raw w
  row : DL w1.heap.size G L lv gb w
section
variable {w1 w w' : World} {raw : List UInt8} {L : List TkA} {G cap : Nat} {lv : Value} {gb : Option Nat}
theorem DS.sz (h : DS w1 raw L G cap lv gb w) : w1.heap.size ≤ w.heap.size := h.buf.ex.size
theorem DS.lt (h : DS w1 raw L G cap lv gb w) : w1.heap.size ≤ G ∧ G < w.heap.size := by
  obtain ⟨g, c, cur, fz, e, h1, h2, _⟩ := h.buf.at
  cases e
  exact ⟨h1, (Array.getElem?_eq_some_iff.1 h2).1⟩
theorem DS.ext (h : DS w1 raw L G cap lv gb w) (k : Ext w w') : DS w1 raw L G cap lv gb w' := ⟨h.buf.ext k, h.row.ext k⟩
theorem DS.push (h : DS w1 raw L G cap lv gb w) (hlen : L.length ≤ 1000000) (p : TkA) (hone : p.2.oneCell' = true)
    (hav : RowP w (fun g => w1.heap.size ≤ g ∧ g ≠ G ∧ gb ≠ some g ∧ g < w.heap.size) 104 2 p.2 p.1.attrs.length (attrCells p.1.attrs)) {cs : Array Value} (hcs : cs.toList = tkC p) :
    ∃ (v : Value) (wB : World) (gb' : Option Nat), (Builtin.append_ #[44, 44] 44 #[lv, .slice (some ⟨w.heap.size, 0, none⟩) 1 1]).run Tryz.prog (w.alloc (.cells cs 55)) = .ok v wB ∧
      Mv (fun g => gb = some g) w wB ∧ DS w1 raw (L ++ [p]) G cap v gb' wB ∧ ∀ g, gb' = some g → gb = some g ∨ w.heap.size ≤ g := by
  obtain ⟨a, c, wB, hr, hm, gb', hd, hg⟩ := h.row.push hlen h.lt.2 h.sz p hone hav hcs
  exact ⟨_, wB, gb', hr, hm, ⟨h.buf.mv hm (fun e => (h.row.blk _ e).2.2 rfl) (fun g e => (h.row.blk _ e).2.1), hd⟩, hg⟩
theorem DS.fresh (h : DS w1 raw L G cap lv gb w) : DS w1 [] L w.heap.size 0 lv gb (w.alloc (.cells #[] 5)) :=
  ⟨(Buf.new w).base h.buf.ex, (h.row.other (.inr (Nat.le_refl _))).ext ((Ext.refl w).alloc _)⟩
theorem DS.byte (h : DS w1 raw L G cap lv gb w) {o : Obj} {c : UInt8} {G' cap' : Nat} (hb : Buf w1 (.slice (some ⟨G', 0, none⟩) (raw ++ [c]).length cap') (raw ++ [c]) w')
    (ho : Oth (.slice (some ⟨G, 0, none⟩) raw.length cap) (.slice (some ⟨G', 0, none⟩) (raw ++ [c]).length cap') (w.alloc o) w') : DS w1 (raw ++ [c]) L G' cap' lv gb w' :=
  ⟨hb, (h.row.ext ((Ext.refl w).alloc o)).oth ho rfl⟩
theorem DS.av (h : DS w1 raw L G cap lv gb w) {e size : Nat} {v : Value} {n : Nat} {xs : List Value} (hr : RowP w' (fun g => w.heap.size ≤ g) e size v n xs) : RowP w' (fun g => w1.heap.size ≤ g ∧ g ≠ G ∧ gb ≠ some g ∧ g < w'.heap.size) e size v n xs :=
  RowP.imp hr.full fun g _ hg => ⟨Nat.le_trans h.sz hg.1, fun e => by have := h.lt.2; have := hg.1; omega, fun e => by have := (h.row.blk g e).1; have := hg.1; omega, hg.2⟩
end
def DRel (w1 : World) (t : ByteArray) (gf : Nat) (lv rv fv tv av : Value) (wr : World) : Prop :=
  ∃ (raw : List UInt8) (a b j : Nat) (L : List TkA) (gb : Option Nat) (G cap : Nat), j ≤ t.size ∧ rv = .slice (some ⟨G, 0, none⟩) raw.length cap ∧ fv = .int .i64 (a : Int) ∧ tv = .int .i64 (b : Int) ∧ av = .int .i64 (j : Int) ∧
    DS w1 raw L G cap lv gb wr ∧ t.size + 1 - j ≤ gf ∧ L.map Prod.fst ++ (lexL t.size raw a b (t.data.toList.drop j)).map Tk.fin = tokens t.data.toList ∧
    L.length + (t.size - j) + (if raw = [] then 0 else 1) ≤ t.size ∧ raw.length + (t.size - j) ≤ t.size
theorem fin_text (raw : List UInt8) (a b : Nat) : Tk.fin ⟨1, [], raw, [], false, a, b⟩ = ⟨1, [], decT raw, [], false, a, b⟩ := rfl
theorem tagL_hi {N : Nat} {r e : List UInt8} {t : Tk} (h : tagL N r = some (t, e)) : t.hi = N - e.length ∧ t.attrs.length ≤ r.length := by
  have h1 := (suf_drop alnumB (tagR r)).trans (tagR_suf r)
  have h2 := h1.length_le
  rw [List.length_drop] at h2
  unfold tagL at h
  by_cases hl0 : headP letterB (tagR r) = true
  · rw [if_pos hl0] at h
    by_cases hcl : closeB r = true
    · rw [if_pos hcl] at h
      unfold closeL at h
      split at h
      · cases h
      · cases h; exact ⟨rfl, Nat.zero_le _⟩
    · rw [if_neg hcl] at h
      unfold openL at h
      cases hx : partsL ((tagR r).dropWhile alnumB) with
      | none => rw [hx] at h; cases h
      | some x =>
        rw [hx] at h
        have h3 := (partsL_ok _ _ _ (Nat.le_refl _) hx).2
        have h4 := ownedF_len x.1 []
        cases h
        refine ⟨rfl, ?_⟩
        show (ownedF [] x.1).length ≤ r.length
        omega
  · rw [if_neg hl0] at h
    cases h
theorem rAll_any (s : ByteArray) (hs : s.size ≤ 50000) (w : World) : Calls Tryz.prog 27 #[.string s] w (RAll (anewB s) w) := by
  have HA := qh (Anew_big s (by omega) w)
  obtain ⟨t, ht⟩ : ∃ t, anewB s = t := ⟨_, rfl⟩
  rw [ht] at HA ⊢
  clear ht hs
  go_enter Tryz.func27, Tryz.ntmps27
  go_wp2_with (go_at_call 65; refine HA.out.mono ?_)
  rintro e w1 ⟨rfl, x1⟩
  have X1 := qh x1
  clear x1 HA
  by_cases hlong : 8192 < t.size
  · have hli : decide ((8192 : Int) < (t.size : Int)) = true := decide_eq_true (by omega)
    have hln : decide (8192 < t.size) = true := decide_eq_true hlong
    have HLO := qh hlong
    clear hlong
    go_wp2_with fail
    go_ret2
    exact .inl ⟨HLO.out, rfl, X1.out⟩
  have hli : decide ((8192 : Int) < (t.size : Int)) = false := decide_eq_false (by omega)
  have hln : decide (8192 < t.size) = false := decide_eq_false hlong
  have h81 : t.size ≤ 8192 := by omega
  have H81 := qh h81
  have hds0 : DS w1 [] [] w1.heap.size 0 (.slice none 0 0) none (w1.alloc (.cells #[] 5)) :=
    ⟨Buf.new w1, ⟨⟨rfl, .inl ⟨rfl, none, rfl⟩⟩, fun z hz => (by cases hz), fun p hp => (by cases hp)⟩⟩
  have HDS0 := qh hds0
  clear hlong hds0
  go_upto_region 6 with fail
  obtain ⟨w2, hw2⟩ : ∃ w' : World, w' = w1.alloc (.cells #[] 5) := ⟨_, rfl⟩
  rw [← hw2] at HDS0 ⊢
  clear hw2 hli hln
  go_wp2_with fail
  go_loopg [4, 5, 6, 7, 8, 9, 10, 11] (t.size + 2) (fun gf lv rv fv tv av _ _ _ wr => DRel w1 t gf lv rv fv tv av wr)
  case atStart => exact ⟨[], 0, 0, 0, [], none, w1.heap.size, 0, Nat.zero_le _, rfl, rfl, rfl, rfl, HDS0.out, by omega, rfl, by rw [if_pos rfl, List.length_nil]; omega, by rw [List.length_nil]; omega⟩
  case round =>
    obtain ⟨raw, a, b, j, L, gb, G, cap, hj, rfl, rfl, rfl, rfl, hds, hgf, hlex, hll, hrl⟩ := hrel
    have HDS := qh hds
    have HGF := qh hgf
    have HLEX := qh hlex
    have HLL := qh hll
    have HRL := qh hrl
    obtain ⟨rl, hrle⟩ : ∃ n, raw.length = n := ⟨_, rfl⟩
    rw [hrle]
    have HRLE := qh hrle
    have HJ := qh hj
    have ej : decide ((j : Int) ≤ (t.size : Int)) = true := decide_eq_true (by omega)
    have ejn : decide (j ≤ t.size) = true := decide_eq_true hj
    clear hds hgf hlex hll hrl hrle
    have x9 := (Ext.refl wr).alloc (.cells #[.int .i64 0, .string ⟨#[]⟩, .string ⟨#[]⟩, .slice none 0 0, .int .i64 0, .int .i64 0, .int .i64 0] 55)
    have hb9 := heap_alloc_new wr (.cells #[.int .i64 0, .string ⟨#[]⟩, .string ⟨#[]⟩, .slice none 0 0, .int .i64 0, .int .i64 0, .int .i64 0] 55)
    go_upto_region 10 with fail
    obtain ⟨w9, hw9⟩ : ∃ w' : World, w' = wr.alloc (.cells #[.int .i64 0, .string ⟨#[]⟩, .string ⟨#[]⟩, .slice none 0 0, .int .i64 0, .int .i64 0, .int .i64 0] 55) := ⟨_, rfl⟩
    rw [← hw9] at x9 hb9 ⊢
    clear hw9
    obtain ⟨tb, htb⟩ : ∃ z, wr.heap.size = z := ⟨_, rfl⟩
    rw [htb] at hb9 ⊢
    have HTB := qh htb
    have B9 := qh hb9
    have HDS9 := qh (HDS.out.ext x9)
    have X9 := qh x9
    clear x9 hb9 htb
    by_cases hjs : j < t.size
    · obtain ⟨c, hcl, -⟩ := at_idx t j hjs
      have hix := idx_of t j c hcl
      have HDR := qh (drop_at hcl)
      have HCL := qh hcl
      have e0 : decide ((j : Int) < (t.size : Int)) = true := decide_eq_true (by omega)
      have e0n : decide (j < t.size) = true := decide_eq_true hjs
      have e1 : ((j : Int) == (t.size : Int)) = false := by rw [beq_eq_false_iff_ne]; omega
      have e1n : (j == t.size) = false := by rw [beq_eq_false_iff_ne]; omega
      have hw1 : IntKind.i64.wrap ((j : Int) + 1) = (j : Int) + 1 := IntWalk.i64_in _ (by omega)
      clear hcl
      by_cases hc : c = 60
      · subst hc
        have HNOTE := qh (fun W => rNote_any t j (by omega) (by omega) W)
        have HTAG := qh (fun W => rTag_any t j W (by omega) HCL.out)
        cases hno : noteL (t.data.toList.drop j) with
        | some e5 =>
          have h1 := noteL_suf hno
          have hdl : (t.data.toList.drop j).length = t.size - j := List.length_drop
          obtain ⟨j2, hj2⟩ : ∃ n, t.size - e5.length = n := ⟨_, rfl⟩
          have hsuf : e5 = t.data.toList.drop j2 := by
            have h := List.suffix_iff_eq_drop.1 (h1.1.trans (List.drop_suffix j _))
            rw [show t.data.toList.length = t.size from rfl, hj2] at h
            exact h
          have hjj : j < j2 ∧ j2 ≤ t.size := by have := h1.2; omega
          have HLX : Hid (lexL t.size raw a b (t.data.toList.drop j) = lexL t.size raw a b (t.data.toList.drop j2)) := qh (by
            rw [← hsuf, HDR.out]
            exact lexL_note (by rw [← HDR.out]; exact hno))
          have hz : noteZ t (some e5) = (j2 : Int) := by
            show ((t.size - e5.length : Nat) : Int) = _
            rw [hj2]
          rw [hno, hz] at HNOTE
          have k0 : decide ((0 : Int) ≤ (j2 : Int)) = true := decide_eq_true (by omega)
          have HJJ := qh hjj
          clear h1 hdl hj2 hsuf hjj hz hno HTAG
          go_wp2_with (go_at_call 66; refine (HNOTE.out _).mono ?_)
          rintro e w3 ⟨rfl, x3⟩
          have D3 := qh (HDS9.out.ext x3)
          clear x3
          go_wp2_with fail
          obtain ⟨g', rfl⟩ : ∃ g', gk = g' + 1 := ⟨gk - 1, by have := HGF.out; omega⟩
          go_roundg g'
          case measure => omega
          case rel =>
            have h1 := HJJ.out; have h2 := HGF.out; have h3 := HLL.out; have h4 := HRL.out
            exact ⟨raw, a, b, j2, L, gb, G, cap, h1.2, by rw [HRLE.out], rfl, rfl, rfl, D3.out, by omega, by rw [← HLX.out]; exact HLEX.out, by omega, by omega⟩
        | none =>
          rw [hno] at HNOTE
          have hz : noteZ t none = -1 := rfl
          rw [hz] at HNOTE
          clear hz
          go_wp2_with (go_at_call 66; refine (HNOTE.out _).mono ?_)
          rintro e w3 ⟨rfl, x3⟩
          have X3 := qh (X9.out.trans x3)
          have B3 := qh (x3.block B9.out)
          clear x3 HNOTE
          cases hta : tagL t.size (t.data.toList.drop j) with
          | some te =>
            obtain ⟨tk, e5⟩ := te
            have h1 := tagL_len hta
            have h2 := tagL_hi hta
            have h3 := tagL_text hta
            have hdl : (t.data.toList.drop j).length = t.size - j := List.length_drop
            have hsuf : e5 = t.data.toList.drop tk.hi := by
              have h := List.suffix_iff_eq_drop.1 (h1.1.trans (List.drop_suffix j _))
              rw [show t.data.toList.length = t.size from rfl, ← h2.1] at h
              exact h
            have HHI := qh (show j < tk.hi ∧ tk.hi ≤ t.size by have := h1.2; omega)
            have HLX : Hid (lexL t.size raw a b (t.data.toList.drop j) = flushT raw a b ++ tk :: lexL t.size [] a b (t.data.toList.drop tk.hi)) := qh (by
              rw [← hsuf, HDR.out]
              exact lexL_tag (by rw [← HDR.out]; exact hno) (by rw [← HDR.out]; exact hta))
            have HTX : Hid (tk.fin = tk) := qh (by unfold Tk.fin; rw [if_neg h3.2])
            rw [hta] at HTAG
            clear h1 h2 h3 hdl hsuf hno hta
            go_wp2_with (go_at_call 67; refine (HTAG.out _).mono ?_)
            rintro e w8 ⟨av, rfl, m8, row8⟩
            unfold tkV
            obtain ⟨ava, avc, rfl, _⟩ := row8.rd.len_of
            obtain ⟨sz, hsz⟩ : ∃ z : Int, (if tk.self then (1 : Int) else 0) = z := ⟨_, rfl⟩
            rw [hsz]
            have HSZ := qh (show selfZ tk.self = sz from hsz)
            have b8 := m8.block B3.out (fun h => h)
            have x8 := Mv.toExt X3.out m8 (fun _ h => h.elim)
            have mS := Mv.setRow (S := (· = tb)) (Mv.refl (· = tb) w8) (b := tb) (fun _ => rfl) #[.int .i64 tk.kind, .string (bs tk.name), .string (bs tk.text), (.slice ava tk.attrs.length avc), .int .i64 sz, .int .i64 (tk.lo : Int), .int .i64 (tk.hi : Int)]
            have XR := qh (Mv.toExt x8 mS (fun g hg => by have hg' : g = tb := hg; have := HTB.out; omega))
            have BT := qh (heap_setRow_same (vs := #[.int .i64 tk.kind, .string (bs tk.name), .string (bs tk.text), (.slice ava tk.attrs.length avc), .int .i64 sz, .int .i64 (tk.lo : Int), .int .i64 (tk.hi : Int)]) b8)
            have HAV := qh ((HDS.out.ext X3.out).av (row8.mv mS (fun g hg => by have hg' : w3.heap.size ≤ g := hg; have := (Array.getElem?_eq_some_iff.1 B3.out).1; show ¬ g = tb; omega)))
            clear hsz x8 mS m8 row8
            go_upto_region 15 with (refine wpList_storeRow rfl rfl rfl rfl b8 sizeTok rfl (tkOne _ _ _ _ _ _ _ rfl rfl rfl rfl rfl rfl rfl) ?_)
            obtain ⟨wc, hwc⟩ : ∃ W : World, W = w8.setRow tb #[.int .i64 tk.kind, .string (bs tk.name), .string (bs tk.text), (.slice ava tk.attrs.length avc), .int .i64 sz, .int .i64 (tk.lo : Int), .int .i64 (tk.hi : Int)] := ⟨_, rfl⟩
            rw [← hwc] at XR BT HAV ⊢
            clear hwc b8
            by_cases hraw : raw = []
            · have HLL0 : Hid (L.length + (t.size - j) ≤ t.size) := qh (by have h := HLL.out; rw [if_pos hraw] at h; exact h)
              subst hraw
              obtain rfl : rl = 0 := HRLE.out.symm
              have HRAW := qh (rfl : ([] : List UInt8) = [])
              have D2 := qh (HDS.out.ext XR.out)
              have B2 := BT
              have AV2 := HAV
              have NT : Hid (¬ gb = some tb) := qh (fun e => by have := (HDS.out.row.blk tb e).1; have := HTB.out; omega)
              have d0 := cellOf B2.out (i := 0) (v := .int .i64 tk.kind) rfl
              have d1 := cellOf B2.out (i := 1) (v := .string (bs tk.name)) rfl
              have d2 := cellOf B2.out (i := 2) (v := .string (bs tk.text)) rfl
              have d3 := cellOf B2.out (i := 3) (v := .slice ava tk.attrs.length avc) rfl
              have d4 := cellOf B2.out (i := 4) (v := .int .i64 sz) rfl
              have d5 := cellOf B2.out (i := 5) (v := .int .i64 (tk.lo : Int)) rfl
              have d6 := cellOf B2.out (i := 6) (v := .int .i64 (tk.hi : Int)) rfl
              obtain ⟨lv3, wC, gb3, hrun3, hm3, D3, -⟩ := D2.out.push (by have := HLL.out; have := H81.out; first | omega | (rw [List.length_append, List.length_cons, List.length_nil]; omega)) (tk, .slice ava tk.attrs.length avc) rfl AV2.out (cs := #[.int .i64 tk.kind, .string (bs tk.name), .string (bs tk.text), (.slice ava tk.attrs.length avc), .int .i64 sz, .int .i64 (tk.lo : Int), .int .i64 (tk.hi : Int)]) (by rw [← HSZ.out]; rfl)
              have dC := cellOf (hm3.block B2.out NT.out) (i := 6) (v := .int .i64 (tk.hi : Int)) rfl
              have HRUN3 := qh hrun3
              have HD3 := qh D3
              clear hrun3 hm3 D3
              go_wp2_with (at_builtin; refine wpList_append_run _ rfl _ _ 44 rfl _ _ rfl rfl _ _ HRUN3.out ?_)
              obtain ⟨g', rfl⟩ : ∃ g', gk = g' + 1 := ⟨gk - 1, by have := HGF.out; omega⟩
              go_roundg g'
              case measure => omega
              case rel =>
                have h1 := HHI.out; have h2 := HGF.out; have h3 := HLL0.out; have h4 := HRL.out; have h5 := HRAW.out
                refine ⟨[], a, b, tk.hi, _, gb3, _, _, by omega, rfl, rfl, rfl, rfl, HD3.out, by omega, ?_, ?_, ?_⟩
                · have h := HLEX.out
                  rw [HLX.out, flush_nil, List.nil_append] at h
                  rw [← h]
                  simp [HTX.out, fin_text]
                · rw [if_pos rfl, List.length_append, List.length_cons, List.length_nil]
                  omega
                · rw [List.length_nil]
                  omega
            · have r0 : decide ((0 : Int) < (rl : Int)) = true := decide_eq_true (by have := List.length_pos_iff.2 hraw; rw [HRLE.out] at this; omega)
              have r0n : decide (0 < rl) = true := decide_eq_true (by have := List.length_pos_iff.2 hraw; rw [HRLE.out] at this; omega)
              have HRAW := qh hraw
              have HLL0 : Hid (L.length + (t.size - j) + 1 ≤ t.size) := qh (by have h := HLL.out; rw [if_neg hraw] at h; exact h)
              clear hraw
              have D0 := qh (HDS.out.ext XR.out)
              have HCV := qh (show (Go.convert 71 9 (.slice (some ⟨G, 0, none⟩) rl cap)).run Tryz.prog wc = .ok (.string (bs raw)) wc by have h := run_ofBytes D0.out.buf; rw [HRLE.out] at h; exact h)
              have HDE := qh (fun W => rdecode_bs raw (by have := HRL.out; have := H81.out; omega) W)
              go_upto_region 16 with fail
              go_wp2_with fail
              rw [HCV.out]
              go_wp2_with (go_at_call 68; refine (HDE.out _).mono ?_)
              rintro e w10 ⟨rfl, x10⟩
              have D10 := D0.out.ext x10
              have B10 := x10.block BT.out
              have S10 := x10.size
              have hgbt : ∀ g, gb = some g → g < wr.heap.size := fun g hg => (HDS.out.row.blk g hg).1
              obtain ⟨lv2, wB, gb2, hrun, hm, D11, hgb2⟩ := D10.push (by have := HLL.out; have := H81.out; omega) (⟨1, [], decT raw, [], false, a, b⟩, .slice none 0 0) rfl ⟨rfl, .inl ⟨rfl, none, rfl⟩⟩ (cs := #[.int .i64 1, .string ⟨#[]⟩, .string (bs (decT raw)), .slice none 0 0, .int .i64 0, .int .i64 (a : Int), .int .i64 (b : Int)]) rfl
              have BB := hm.block B10 (fun e => by have := hgbt tb e; have := HTB.out; omega)
              have SB := hm.size
              have D12 := D11.fresh
              have B12 := ((Ext.refl wB).alloc (.cells #[] 5)).block BB
              have AV12 := RowP.imp ((((HAV.out.ext x10).mv hm (fun g hg e => hg.2.2.1 e)).ext ((Ext.refl wB).alloc (.cells #[] 5))).full) (q := fun g => w1.heap.size ≤ g ∧ g ≠ wB.heap.size ∧ gb2 ≠ some g ∧ g < (wB.alloc (.cells #[] 5)).heap.size) (fun g _ hg => ⟨hg.1.1, by have := hg.1.2.2.2; omega, fun e => by rcases hgb2 g e with h | h; exact hg.1.2.2.1 h; have := hg.1.2.2.2; omega, hg.2⟩)
              obtain ⟨w12, hw12⟩ : ∃ W : World, W = wB.alloc (.cells #[] 5) := ⟨_, rfl⟩
              rw [← hw12] at D12 B12 AV12
              have HW12 := qh hw12
              obtain ⟨G2, hG2⟩ : ∃ g, wB.heap.size = g := ⟨_, rfl⟩
              rw [hG2] at D12 AV12
              have HG2 := qh hG2
              have HRUN := qh hrun
              have D2 := qh D12
              have B2 := qh B12
              have AV2 := qh AV12
              have NT : Hid (¬ gb2 = some tb) := qh (fun e => by have h9 := (Array.getElem?_eq_some_iff.1 B10).1; rcases hgb2 tb e with h | h; have := hgbt tb h; have := HTB.out; omega; omega)
              clear AV12
              clear x10 D10 B10 S10 hrun hm D11 hgb2 hgbt BB SB D12 B12 hw12 hG2
              go_upto_region 18 with (at_builtin; refine wpList_append_run _ rfl _ _ 44 rfl _ _ rfl rfl _ _ HRUN.out ?_)
              rw [HG2.out, ← HW12.out]
              have d0 := cellOf B2.out (i := 0) (v := .int .i64 tk.kind) rfl
              have d1 := cellOf B2.out (i := 1) (v := .string (bs tk.name)) rfl
              have d2 := cellOf B2.out (i := 2) (v := .string (bs tk.text)) rfl
              have d3 := cellOf B2.out (i := 3) (v := .slice ava tk.attrs.length avc) rfl
              have d4 := cellOf B2.out (i := 4) (v := .int .i64 sz) rfl
              have d5 := cellOf B2.out (i := 5) (v := .int .i64 (tk.lo : Int)) rfl
              have d6 := cellOf B2.out (i := 6) (v := .int .i64 (tk.hi : Int)) rfl
              obtain ⟨lv3, wC, gb3, hrun3, hm3, D3, -⟩ := D2.out.push (by have := HLL.out; have := H81.out; first | omega | (rw [List.length_append, List.length_cons, List.length_nil]; omega)) (tk, .slice ava tk.attrs.length avc) rfl AV2.out (cs := #[.int .i64 tk.kind, .string (bs tk.name), .string (bs tk.text), (.slice ava tk.attrs.length avc), .int .i64 sz, .int .i64 (tk.lo : Int), .int .i64 (tk.hi : Int)]) (by rw [← HSZ.out]; rfl)
              have dC := cellOf (hm3.block B2.out NT.out) (i := 6) (v := .int .i64 (tk.hi : Int)) rfl
              have HRUN3 := qh hrun3
              have HD3 := qh D3
              clear hrun3 hm3 D3
              go_wp2_with (at_builtin; refine wpList_append_run _ rfl _ _ 44 rfl _ _ rfl rfl _ _ HRUN3.out ?_)
              obtain ⟨g', rfl⟩ : ∃ g', gk = g' + 1 := ⟨gk - 1, by have := HGF.out; omega⟩
              go_roundg g'
              case measure => omega
              case rel =>
                have h1 := HHI.out; have h2 := HGF.out; have h3 := HLL0.out; have h4 := HRL.out; have h5 := HRAW.out
                refine ⟨[], a, b, tk.hi, _, gb3, _, _, by omega, rfl, rfl, rfl, rfl, HD3.out, by omega, ?_, ?_, ?_⟩
                · have h := HLEX.out
                  rw [HLX.out, flush_some h5] at h
                  rw [← h]
                  simp [HTX.out, fin_text]
                · rw [if_pos rfl, List.length_append, List.length_cons, List.length_nil, List.length_append, List.length_cons, List.length_nil]
                  omega
                · rw [List.length_nil]
                  omega
          | none =>
            rw [hta] at HTAG
            have HCH := qh (lexL_char (N := t.size) (raw := raw) (a := a) (b := b) (c := 60) (q := t.data.toList.drop (j + 1)) (.inr ⟨by rw [← HDR.out]; exact hno, by rw [← HDR.out]; exact hta⟩))
            clear hno hta
            go_wp2_with (go_at_call 67; refine (HTAG.out _).mono ?_)
            rintro e w8 ⟨kd, nm, tx, aa, ac, z, lo, hi, rfl, m8⟩
            unfold tkV
            have b8 := m8.block B3.out (fun h => h)
            have x8 := Mv.toExt X3.out m8 (fun _ h => h.elim)
            have mS := Mv.setRow (S := (· = tb)) (Mv.refl (· = tb) w8) (b := tb) (fun _ => rfl) #[.int .i64 kd, .string (bs nm), .string (bs tx), (.slice aa 0 ac), .int .i64 z, .int .i64 lo, .int .i64 hi]
            have XR := qh (Mv.toExt x8 mS (fun g hg => by have hg' : g = tb := hg; have := HTB.out; omega))
            clear x8 mS m8
            go_upto_region 15 with (refine wpList_storeRow rfl rfl rfl rfl b8 sizeTok rfl (tkOne _ _ _ _ _ _ _ rfl rfl rfl rfl rfl rfl rfl) ?_)
            obtain ⟨wc, hwc⟩ : ∃ W : World, W = w8.setRow tb #[.int .i64 kd, .string (bs nm), .string (bs tx), (.slice aa 0 ac), .int .i64 z, .int .i64 lo, .int .i64 hi] := ⟨_, rfl⟩
            rw [← hwc] at XR ⊢
            clear hwc b8
            by_cases hraw : raw = []
            · obtain rfl : rl = 0 := by rw [← HRLE.out, hraw]; rfl
              have HRAW := qh hraw
              clear hraw
              have D0 := qh (HDS.out.ext XR.out)
              have HB0 : Hid (Buf w1 (.slice (some ⟨G, 0, none⟩) 0 cap) raw wc) := qh (by have h := D0.out.buf; rw [HRLE.out] at h; exact h)
              have HLEN : Hid (raw.length + 1 ≤ 140737488355328) := qh (by have := HRL.out; have := H81.out; omega)
              go_wp2_with (at_builtin; refine wpB_byte2 rfl _ _ rfl (.slice (some ⟨G, 0, none⟩) 0 cap) raw rfl w1 HB0.out 60 _ rfl rfl HLEN.out ?_)
              intro v' w' hb' ho'
              obtain ⟨G', cap', _, _, rfl, _, _, _⟩ := hb'.at
              have D2 := qh (D0.out.byte hb' (by rw [HRLE.out]; exact ho'))
              clear hb' ho'
              go_wp2_with fail
              obtain ⟨g', rfl⟩ : ∃ g', gk = g' + 1 := ⟨gk - 1, by have := HGF.out; omega⟩
              go_roundg g'
              case measure => omega
              case rel =>
                have h1 := HJ.out; have h2 := HGF.out; have h3 := HLL.out; have h4 := HRL.out; have h5 := HRAW.out
                refine ⟨raw ++ [60], j, j + 1, j + 1, L, gb, G', cap', by omega, rfl, by first | rfl | (push_cast; rfl), by first | rfl | (push_cast; rfl), by first | rfl | (push_cast; rfl), D2.out, by omega, ?_, ?_, ?_⟩
                · have h := HLEX.out
                  rw [HDR.out, HCH.out, List.length_drop, show t.data.toList.length = t.size from rfl, show t.size - (t.size - (j + 1) + 1) = j by omega, show t.size - (t.size - (j + 1)) = j + 1 by omega, if_pos h5] at h
                  exact h
                · rw [if_neg (by simp)]
                  rw [if_pos h5] at h3
                  omega
                · rw [List.length_append, List.length_cons, List.length_nil]
                  omega
            · have r0 : decide ((0 : Int) < (rl : Int)) = true := decide_eq_true (by have := List.length_pos_iff.2 hraw; rw [HRLE.out] at this; omega)
              have r0n : decide (0 < rl) = true := decide_eq_true (by have := List.length_pos_iff.2 hraw; rw [HRLE.out] at this; omega)
              have r1 : ((rl : Int) == 0) = false := by rw [beq_eq_false_iff_ne]; have := List.length_pos_iff.2 hraw; rw [HRLE.out] at this; omega
              have r1n : (rl == 0) = false := by rw [beq_eq_false_iff_ne]; have := List.length_pos_iff.2 hraw; rw [HRLE.out] at this; omega
              have HRAW := qh hraw
              clear hraw
              have D0 := qh (HDS.out.ext XR.out)
              have HB0 : Hid (Buf w1 (.slice (some ⟨G, 0, none⟩) rl cap) raw wc) := qh (by have h := D0.out.buf; rw [HRLE.out] at h; exact h)
              have HLEN : Hid (raw.length + 1 ≤ 140737488355328) := qh (by have := HRL.out; have := H81.out; omega)
              go_wp2_with (at_builtin; refine wpB_byte2 rfl _ _ rfl (.slice (some ⟨G, 0, none⟩) rl cap) raw rfl w1 HB0.out 60 _ rfl rfl HLEN.out ?_)
              intro v' w' hb' ho'
              obtain ⟨G', cap', _, _, rfl, _, _, _⟩ := hb'.at
              have D2 := qh (D0.out.byte hb' (by rw [HRLE.out]; exact ho'))
              clear hb' ho'
              go_wp2_with fail
              obtain ⟨g', rfl⟩ : ∃ g', gk = g' + 1 := ⟨gk - 1, by have := HGF.out; omega⟩
              go_roundg g'
              case measure => omega
              case rel =>
                have h1 := HJ.out; have h2 := HGF.out; have h3 := HLL.out; have h4 := HRL.out; have h5 := HRAW.out
                refine ⟨raw ++ [60], a, j + 1, j + 1, L, gb, G', cap', by omega, rfl, by first | rfl | (push_cast; rfl), by first | rfl | (push_cast; rfl), by first | rfl | (push_cast; rfl), D2.out, by omega, ?_, ?_, ?_⟩
                · have h := HLEX.out
                  rw [HDR.out, HCH.out, List.length_drop, show t.data.toList.length = t.size from rfl, show t.size - (t.size - (j + 1) + 1) = j by omega, show t.size - (t.size - (j + 1)) = j + 1 by omega, if_neg h5] at h
                  exact h
                · rw [if_neg (by simp)]
                  rw [if_neg h5] at h3
                  omega
                · rw [List.length_append, List.length_cons, List.length_nil]
                  omega
      · have f60 : ((c.toNat : Int) == 60) = false := (u8_eq c 60).trans (beq_eq_false_iff_ne.2 hc)
        have HCH := qh (lexL_char (N := t.size) (raw := raw) (a := a) (b := b) (q := t.data.toList.drop (j + 1)) (.inl hc))
        clear hc
        have XR := X9
        obtain ⟨wc, hwc⟩ : ∃ W : World, W = w9 := ⟨_, rfl⟩
        rw [← hwc] at XR ⊢
        clear hwc
        by_cases hraw : raw = []
        · obtain rfl : rl = 0 := by rw [← HRLE.out, hraw]; rfl
          have HRAW := qh hraw
          clear hraw
          have D0 := qh (HDS.out.ext XR.out)
          have HB0 : Hid (Buf w1 (.slice (some ⟨G, 0, none⟩) 0 cap) raw wc) := qh (by have h := D0.out.buf; rw [HRLE.out] at h; exact h)
          have HLEN : Hid (raw.length + 1 ≤ 140737488355328) := qh (by have := HRL.out; have := H81.out; omega)
          go_wp2_with (at_builtin; refine wpB_byte2 rfl _ _ rfl (.slice (some ⟨G, 0, none⟩) 0 cap) raw rfl w1 HB0.out c _ rfl rfl HLEN.out ?_)
          intro v' w' hb' ho'
          obtain ⟨G', cap', _, _, rfl, _, _, _⟩ := hb'.at
          have D2 := qh (D0.out.byte hb' (by rw [HRLE.out]; exact ho'))
          clear hb' ho'
          go_wp2_with fail
          obtain ⟨g', rfl⟩ : ∃ g', gk = g' + 1 := ⟨gk - 1, by have := HGF.out; omega⟩
          go_roundg g'
          case measure => omega
          case rel =>
            have h1 := HJ.out; have h2 := HGF.out; have h3 := HLL.out; have h4 := HRL.out; have h5 := HRAW.out
            refine ⟨raw ++ [c], j, j + 1, j + 1, L, gb, G', cap', by omega, rfl, by first | rfl | (push_cast; rfl), by first | rfl | (push_cast; rfl), by first | rfl | (push_cast; rfl), D2.out, by omega, ?_, ?_, ?_⟩
            · have h := HLEX.out
              rw [HDR.out, HCH.out, List.length_drop, show t.data.toList.length = t.size from rfl, show t.size - (t.size - (j + 1) + 1) = j by omega, show t.size - (t.size - (j + 1)) = j + 1 by omega, if_pos h5] at h
              exact h
            · rw [if_neg (by simp)]
              rw [if_pos h5] at h3
              omega
            · rw [List.length_append, List.length_cons, List.length_nil]
              omega
        · have r0 : decide ((0 : Int) < (rl : Int)) = true := decide_eq_true (by have := List.length_pos_iff.2 hraw; rw [HRLE.out] at this; omega)
          have r0n : decide (0 < rl) = true := decide_eq_true (by have := List.length_pos_iff.2 hraw; rw [HRLE.out] at this; omega)
          have r1 : ((rl : Int) == 0) = false := by rw [beq_eq_false_iff_ne]; have := List.length_pos_iff.2 hraw; rw [HRLE.out] at this; omega
          have r1n : (rl == 0) = false := by rw [beq_eq_false_iff_ne]; have := List.length_pos_iff.2 hraw; rw [HRLE.out] at this; omega
          have HRAW := qh hraw
          clear hraw
          have D0 := qh (HDS.out.ext XR.out)
          have HB0 : Hid (Buf w1 (.slice (some ⟨G, 0, none⟩) rl cap) raw wc) := qh (by have h := D0.out.buf; rw [HRLE.out] at h; exact h)
          have HLEN : Hid (raw.length + 1 ≤ 140737488355328) := qh (by have := HRL.out; have := H81.out; omega)
          go_wp2_with (at_builtin; refine wpB_byte2 rfl _ _ rfl (.slice (some ⟨G, 0, none⟩) rl cap) raw rfl w1 HB0.out c _ rfl rfl HLEN.out ?_)
          intro v' w' hb' ho'
          obtain ⟨G', cap', _, _, rfl, _, _, _⟩ := hb'.at
          have D2 := qh (D0.out.byte hb' (by rw [HRLE.out]; exact ho'))
          clear hb' ho'
          go_wp2_with fail
          obtain ⟨g', rfl⟩ : ∃ g', gk = g' + 1 := ⟨gk - 1, by have := HGF.out; omega⟩
          go_roundg g'
          case measure => omega
          case rel =>
            have h1 := HJ.out; have h2 := HGF.out; have h3 := HLL.out; have h4 := HRL.out; have h5 := HRAW.out
            refine ⟨raw ++ [c], a, j + 1, j + 1, L, gb, G', cap', by omega, rfl, by first | rfl | (push_cast; rfl), by first | rfl | (push_cast; rfl), by first | rfl | (push_cast; rfl), D2.out, by omega, ?_, ?_, ?_⟩
            · have h := HLEX.out
              rw [HDR.out, HCH.out, List.length_drop, show t.data.toList.length = t.size from rfl, show t.size - (t.size - (j + 1) + 1) = j by omega, show t.size - (t.size - (j + 1)) = j + 1 by omega, if_neg h5] at h
              exact h
            · rw [if_neg (by simp)]
              rw [if_neg h5] at h3
              omega
            · rw [List.length_append, List.length_cons, List.length_nil]
              omega
    · have hje : j = t.size := by omega
      have e0 : decide ((j : Int) < (t.size : Int)) = false := decide_eq_false (by omega)
      have e0n : decide (j < t.size) = false := decide_eq_false hjs
      have HFIN : Hid (L.map Prod.fst ++ (flushT raw a b).map Tk.fin = tokens t.data.toList) := qh (by
        have h := HLEX.out
        rw [hje, show t.data.toList.drop t.size = [] from List.drop_eq_nil_of_le (Nat.le_refl _), lexL_nil] at h
        exact h)
      have e1 : ((j : Int) == (t.size : Int)) = true := by rw [hje]; exact beq_self_eq_true _
      have e1n : (j == t.size) = true := by rw [hje]; exact beq_self_eq_true _
      have XR := X9
      have BT := B9
      obtain ⟨wc, hwc⟩ : ∃ W : World, W = w9 := ⟨_, rfl⟩
      rw [← hwc] at XR BT ⊢
      clear hwc hje hjs
      by_cases hraw : raw = []
      · obtain rfl : rl = 0 := by rw [← HRLE.out, hraw]; rfl
        have HRAW := qh hraw
        clear hraw
        have D2 := qh (HDS.out.ext XR.out)
        go_wp2_with fail
        go_ret2
        refine .inr ⟨H81.out, _, rfl, X1.out.trans D2.out.buf.ex, ?_⟩
        have h := HFIN.out
        rw [HRAW.out, flush_nil, List.map_nil, List.append_nil] at h
        rw [← h]
        exact D2.out.row.rd
      · have r0 : decide ((0 : Int) < (rl : Int)) = true := decide_eq_true (by have := List.length_pos_iff.2 hraw; rw [HRLE.out] at this; omega)
        have r0n : decide (0 < rl) = true := decide_eq_true (by have := List.length_pos_iff.2 hraw; rw [HRLE.out] at this; omega)
        have HRAW := qh hraw
        clear hraw
        have D0 := qh (HDS.out.ext XR.out)
        have HCV := qh (show (Go.convert 71 9 (.slice (some ⟨G, 0, none⟩) rl cap)).run Tryz.prog wc = .ok (.string (bs raw)) wc by have h := run_ofBytes D0.out.buf; rw [HRLE.out] at h; exact h)
        have HDE := qh (fun W => rdecode_bs raw (by have := HRL.out; have := H81.out; omega) W)
        go_upto_region 16 with fail
        go_wp2_with fail
        rw [HCV.out]
        go_wp2_with (go_at_call 68; refine (HDE.out _).mono ?_)
        rintro e w10 ⟨rfl, x10⟩
        have D10 := D0.out.ext x10
        have B10 := x10.block BT.out
        have S10 := x10.size
        have hgbt : ∀ g, gb = some g → g < wr.heap.size := fun g hg => (HDS.out.row.blk g hg).1
        obtain ⟨lv2, wB, gb2, hrun, hm, D11, hgb2⟩ := D10.push (by have := HLL.out; have := H81.out; omega) (⟨1, [], decT raw, [], false, a, b⟩, .slice none 0 0) rfl ⟨rfl, .inl ⟨rfl, none, rfl⟩⟩ (cs := #[.int .i64 1, .string ⟨#[]⟩, .string (bs (decT raw)), .slice none 0 0, .int .i64 0, .int .i64 (a : Int), .int .i64 (b : Int)]) rfl
        have BB := hm.block B10 (fun e => by have := hgbt tb e; have := HTB.out; omega)
        have SB := hm.size
        have D12 := D11.fresh
        have B12 := ((Ext.refl wB).alloc (.cells #[] 5)).block BB
        obtain ⟨w12, hw12⟩ : ∃ W : World, W = wB.alloc (.cells #[] 5) := ⟨_, rfl⟩
        rw [← hw12] at D12 B12
        have HW12 := qh hw12
        obtain ⟨G2, hG2⟩ : ∃ g, wB.heap.size = g := ⟨_, rfl⟩
        rw [hG2] at D12
        have HG2 := qh hG2
        have HRUN := qh hrun
        have D2 := qh D12
        have B2 := qh B12
        clear x10 D10 B10 S10 hrun hm D11 hgb2 hgbt BB SB D12 B12 hw12 hG2
        go_upto_region 18 with (at_builtin; refine wpList_append_run _ rfl _ _ 44 rfl _ _ rfl rfl _ _ HRUN.out ?_)
        rw [HG2.out, ← HW12.out]
        go_wp2_with fail
        go_ret2
        refine .inr ⟨H81.out, _, rfl, X1.out.trans D2.out.buf.ex, ?_⟩
        have h := HFIN.out
        rw [flush_some HRAW.out] at h
        rw [← h]
        have h2 := D2.out.row.rd
        rw [List.map_append] at h2
        exact h2
end Go.Proofs.YtalaajbajgdglaaGreatDoor
namespace Go.Proofs.YtalaajbajgdglaaGreatDoor
open Go
theorem named_ne {m x : List UInt8} (h : namedL m = some x) : x ≠ [] := by
  unfold namedL at h
  repeat' split at h
  all_goals (first | (cases h; decide) | cases h)
theorem entityL_ne (l : List UInt8) : (entityL l).1 ≠ [] := by
  unfold entityL
  dsimp only
  split
  · decide
  · split
    · rename_i x hx
      unfold meansL at hx
      split at hx
      · rename_i y hy; cases hx; exact named_ne hy
      · split at hx
        · unfold codedL at hx
          rename_i hcode hh
          cases hc : codeL ((l.drop 2).take ((Lib.indexByte (l.take 12) 59).toNat - 2)) with
          | none => rw [hc] at hx; cases hx
          | some n =>
            rw [hc] at hx
            have e := Option.some.inj hx
            have := (encode_len (n : Int)).1
            intro he
            have he' : x = [] := he
            rw [he'] at e
            rw [show (Utf8.encode (n : Int)).data.toList = [] from e] at this
            simp at this
        · cases hx
    · decide
theorem decL_ne {l : List UInt8} (h : l ≠ []) : decL l ≠ [] := by
  cases l with
  | nil => exact absurd rfl h
  | cons c q =>
    by_cases hc : c = 38
    · subst hc
      rw [decL_amp]
      intro he
      exact entityL_ne _ (List.append_eq_nil_iff.1 he).1
    · rw [decL_cons hc]; simp
theorem decodeL_encode {n : Nat} (h : n < 55296 ∨ 57344 ≤ n ∧ n ≤ 1114111) (X : List UInt8) : Lib.decodeL ((Utf8.encode (n : Int)).data.toList ++ X) = (n, (Utf8.encode (n : Int)).data.toList.length) := by
  rw [encode_nat h]
  by_cases h1 : n < 128
  · rw [if_pos h1]
    have e : (UInt8.ofNat n).toNat = n := ofNat_nat (by omega)
    exact (Lib.decodeL_ascii (UInt8.ofNat n) X (by omega)).trans (by rw [e]; rfl)
  · rw [if_neg h1]
    by_cases h2 : n < 2048
    · rw [if_pos h2, Lib.decodeL_N]
      have e0 : (UInt8.ofNat (192 + n / 64)).toNat = 192 + n / 64 := ofNat_nat (by omega)
      have e1 : (UInt8.ofNat (128 + n % 64)).toNat = 128 + n % 64 := ofNat_nat (by omega)
      simp only [List.cons_append, List.nil_append, List.getD_cons_zero, List.getD_cons_succ, List.length_cons, List.length_nil, e0, e1]
      unfold Lib.decodeN
      rw [if_neg (by omega), if_pos ⟨by omega, by omega, by omega⟩, if_pos (by omega)]
      exact Prod.ext (by dsimp only; omega) rfl
    · rw [if_neg h2]
      by_cases h3 : n < 65536
      · rw [if_pos h3, Lib.decodeL_N]
        have e0 : (UInt8.ofNat (224 + n / 4096)).toNat = 224 + n / 4096 := ofNat_nat (by omega)
        have e1 : (UInt8.ofNat (128 + n / 64 % 64)).toNat = 128 + n / 64 % 64 := ofNat_nat (by omega)
        have e2 : (UInt8.ofNat (128 + n % 64)).toNat = 128 + n % 64 := ofNat_nat (by omega)
        simp only [List.cons_append, List.nil_append, List.getD_cons_zero, List.getD_cons_succ, List.length_cons, List.length_nil, e0, e1, e2]
        have ev : (224 + n / 4096) % 16 * 4096 + (128 + n / 64 % 64) % 64 * 64 + (128 + n % 64) % 64 = n := by omega
        unfold Lib.decodeN
        rw [if_neg (by omega), if_neg (by omega), if_pos ⟨by omega, ⟨by omega, by omega⟩, by omega, by omega⟩, ev, if_pos (by omega)]
      · rw [if_neg h3, Lib.decodeL_N]
        have e0 : (UInt8.ofNat (240 + n / 262144)).toNat = 240 + n / 262144 := ofNat_nat (by omega)
        have e1 : (UInt8.ofNat (128 + n / 4096 % 64)).toNat = 128 + n / 4096 % 64 := ofNat_nat (by omega)
        have e2 : (UInt8.ofNat (128 + n / 64 % 64)).toNat = 128 + n / 64 % 64 := ofNat_nat (by omega)
        have e3 : (UInt8.ofNat (128 + n % 64)).toNat = 128 + n % 64 := ofNat_nat (by omega)
        simp only [List.cons_append, List.nil_append, List.getD_cons_zero, List.getD_cons_succ, List.length_cons, List.length_nil, e0, e1, e2, e3]
        have ev : (240 + n / 262144) % 8 * 262144 + (128 + n / 4096 % 64) % 64 * 4096 + (128 + n / 64 % 64) % 64 * 64 + (128 + n % 64) % 64 = n := by omega
        unfold Lib.decodeN
        rw [if_neg (by omega), if_neg (by omega), if_neg (by omega), if_pos ⟨by omega, ⟨by omega, by omega⟩, ⟨by omega, by omega⟩, by omega, by omega⟩, ev, if_pos (by omega)]
theorem valid_runes : ∀ l : List Int, (∀ r ∈ l, Utf8.valid r = true) → Lib.validD (l.flatMap fun r => (Utf8.encode r).data.toList) = true := by
  intro l
  induction l with
  | nil => intro _; rfl
  | cons r l ih =>
    intro h
    obtain ⟨n, rfl, hn⟩ := valid_cases (h r (by simp))
    have hl := (encode_len (n : Int)).1
    have hd := decodeL_encode hn (l.flatMap fun r => (Utf8.encode r).data.toList)
    have hne : (Utf8.encode (n : Int)).data.toList ++ (l.flatMap fun r => (Utf8.encode r).data.toList) ≠ [] := fun he => by
      have := congrArg List.length he
      rw [List.length_append, List.length_nil] at this
      omega
    rw [List.flatMap_cons, Lib.validD_step _ hne, hd, if_neg, List.drop_left' rfl]
    · exact ih fun x hx => h x (by simp [hx])
    · rintro ⟨h1, h2⟩
      dsimp only at h1 h2
      subst h1
      exact absurd h2 (by decide)
theorem anew_pos {s : ByteArray} (h : 0 < s.size) : (anewB s).data.toList ≠ [] := by
  unfold anewB
  rw [runesBytes_list]
  obtain ⟨n, hn⟩ : ∃ n, s.size = n + 1 := ⟨s.size - 1, by omega⟩
  rw [hn, runeList, if_pos (by omega), List.flatMap_cons]
  have hl := (encode_len (Int.ofNat (Utf8.decode s 0).1)).1
  intro he
  have := congrArg List.length he
  rw [List.length_append, List.length_nil] at this
  omega
theorem decT_ne {x : List UInt8} (h : x ≠ []) : decT x ≠ [] := by
  unfold decT
  refine decL_ne (anew_pos ?_)
  rw [bs_size]
  exact List.length_pos_iff.2 h
/-! the tags that were printed -/
def IsR (l : List UInt8) : Prop := ∃ rs : List Int, (∀ r ∈ rs, Utf8.valid r = true) ∧ l = rs.flatMap fun r => (Utf8.encode r).data.toList
theorem IsR.nil : IsR [] := ⟨[], (fun _ h => nomatch h), rfl⟩
theorem IsR.app {a b : List UInt8} (ha : IsR a) (hb : IsR b) : IsR (a ++ b) := by
  obtain ⟨x, hx, rfl⟩ := ha
  obtain ⟨y, hy, rfl⟩ := hb
  exact ⟨x ++ y, fun r hr => (List.mem_append.1 hr).elim (hx r) (hy r), by rw [List.flatMap_append]⟩
theorem IsR.one {r : Int} (h : Utf8.valid r = true) : IsR (Utf8.encode r).data.toList := ⟨[r], fun x hx => by simp at hx; rw [hx]; exact h, by simp⟩
theorem IsR.byte {c : UInt8} (h : c.toNat < 128) : IsR [c] := by
  have h1 := IsR.one (r := (c.toNat : Int)) (by unfold Utf8.valid; simp; omega)
  rw [encode_nat (by omega), if_pos h] at h1
  simpa using h1
theorem IsR.ascii {l : List UInt8} (h : ∀ c ∈ l, c.toNat < 128) : IsR l := by
  induction l with
  | nil => exact IsR.nil
  | cons c l ih => exact (IsR.byte (h c (by simp))).app (ih fun c hc => h c (by simp [hc]))
theorem IsR.valid {l : List UInt8} (h : IsR l) : Lib.validD l = true := by
  obtain ⟨x, hx, rfl⟩ := h
  exact valid_runes x hx
theorem IsR.anew {l : List UInt8} (h : IsR l) : anewB (bs l) = bs l := by
  have h1 := valid_anew (bs l)
  rw [bs_data, h.valid] at h1
  exact of_decide_eq_true h1.symm
theorem IsR.of (s : ByteArray) : IsR (anewB s).data.toList := ⟨_, runeList_valid s s.size 0, by unfold anewB; exact runesBytes_list _⟩
theorem IsR.of_anew {s : ByteArray} (h : anewB s = s) : IsR s.data.toList := h ▸ IsR.of s
/-! opening tags -/
theorem boxT_iff (t : Int) : boxT t = true ↔ clsT t = 2 := by unfold boxT; rw [beq_iff_eq]
theorem isPH_iff (t : Int) : isPH t = true ↔ 2 ≤ t ∧ t ≤ 5 := by
  unfold isPH headT
  simp only [Bool.or_eq_true, beq_iff_eq, Bool.and_eq_true, decide_eq_true_eq]
  omega
theorem stPH_iff (t : Int) : stPH t = true ↔ clsT t = 2 ∨ t = 9 := by
  unfold stPH
  rw [Bool.or_eq_true, boxT_iff, beq_iff_eq]
theorem closeC_step (is stops : Int → Bool) (t : Int) {l : List Int} (hl : l ≠ []) : closeC is stops (t :: l) = if stops t && !is t then 0 else if is t then 1 else match closeC is stops l with
    | 0 => 0
    | n + 1 => n + 2 := by
  cases l with
  | nil => exact absurd rfl hl
  | cons u r => rw [closeC]; rfl
theorem lastText_snoc (l : List PN) (k : PN) : lastText (l ++ [k]) = if k.tag = 0 then some k else none := by
  unfold lastText
  rw [List.getLast?_append]
  rfl
theorem cls_cases {t : Int} (h : clsT t ≠ 0) (h0 : t ≠ 0) : clsT t = 2 ∨ clsT t = 3 ∨ clsT t = 4 ∨ clsT t = 5 := by
  rcases name_cases h h0 with rfl | rfl | rfl | rfl | rfl | rfl | rfl | rfl | rfl | rfl | rfl | rfl | rfl | rfl | rfl | rfl <;> decide
end Go.Proofs.YtalaajbajgdglaaGreatDoor
namespace Go.Proofs.YtalaajbajgdglaaGreatDoor
open Go Go.RowKit Go.BigFrame
theorem unsafeString_none (w : World) (p : Option Addr) : (Builtin.unsafeString_ #[121, 3] 9 #[.pointer p, .int .i64 0]).run Tryz.prog w = .ok (.string ⟨#[]⟩) w := Lib.run_unsafeString_none _ _ _ _ p
theorem String_nil (B b : Nat) (p : Value) (w : World) (hbk : w.heap[b]? = some (.cells #[p, .slice none 0 0] 84 (0, 0))) :
    Calls Tryz.prog 38 #[.pointer (some ⟨b, 0, none⟩)] w fun e w' => e = .returned (.string ⟨#[]⟩) ∧ Below B w w' := by
  have hUS := unsafeString_none
  have c1 : w.drew.cell? ⟨b, 1, none⟩ = some (.slice none 0 0) := by
    have : w.drew.heap[b]? = some (.cells #[p, .slice none 0 0] 84 (0, 0)) := hbk
    rw [Lib.cell_of_heap this]; rfl
  have hSD : (Builtin.unsafeSliceData_ #[71] 121 #[.slice none 0 0]).run Tryz.prog w.drew = .ok (.pointer none) w.drew := rfl
  have mixed : Tryz.prog.follows .mixedOrders = true := by kernel_rfl
  go_enter Tryz.func38, Tryz.ntmps38
  go_wp2
  go_region_o
  all_goals (go_wp2; go_ret; exact ⟨rfl, Below.drew (Below.refl B w)⟩)
theorem String_noroom (B b g : Nat) (p : Value) (cur : Array Value) (w : World) (hBw : B ≤ w.heap.size) (hbk : w.heap[b]? = some (.cells #[p, .slice (some ⟨g, 0, none⟩) 0 0] 84 (0, 0))) (fz : Nat × Nat) (hg : w.heap[g]? = some (.cells cur 5 fz)) :
    Calls Tryz.prog 38 #[.pointer (some ⟨b, 0, none⟩)] w fun e w' => e = .returned (.string ⟨#[]⟩) ∧ Below B w w' := by
  have hUS := unsafeString_none
  have hlt : b < w.heap.size := (Array.getElem?_eq_some_iff.1 hbk).1
  have c1 : w.drew.cell? ⟨b, 1, none⟩ = some (.slice (some ⟨g, 0, none⟩) 0 0) := by
    have : w.drew.heap[b]? = some (.cells #[p, .slice (some ⟨g, 0, none⟩) 0 0] 84 (0, 0)) := hbk
    rw [Lib.cell_of_heap this]; rfl
  have hSD : (Builtin.unsafeSliceData_ #[71] 121 #[.slice (some ⟨g, 0, none⟩) 0 0]).run Tryz.prog w.drew = .ok (.pointer (some ⟨w.drew.heap.size, 0, none⟩)) (w.drew.alloc (.view ⟨g, 0, none⟩ 5)) :=
    Lib.run_unsafeSliceData_zero w.drew _ _ 5 Tryz.underlying121 ⟨g, 0, none⟩ 0 (5, cur.size) (by have hg' : w.drew.heap[g]? = some (.cells cur 5 fz) := hg; simp [World.shape?, hg'])
  have c2 : (w.drew.alloc (.view ⟨g, 0, none⟩ 5)).cell? ⟨b, 1, none⟩ = some (.slice (some ⟨g, 0, none⟩) 0 0) := by
    have : (w.drew.alloc (.view ⟨g, 0, none⟩ 5)).heap[b]? = _ := (Lib.alloc_old w.drew _ b hlt).trans hbk
    rw [Lib.cell_of_heap this]; rfl
  have c3 : (w.alloc (.view ⟨g, 0, none⟩ 5)).drew.cell? ⟨b, 1, none⟩ = some (.slice (some ⟨g, 0, none⟩) 0 0) := c2
  have c0 : w.cell? ⟨b, 1, none⟩ = some (.slice (some ⟨g, 0, none⟩) 0 0) := c1
  have mixed : Tryz.prog.follows .mixedOrders = true := by kernel_rfl
  go_enter Tryz.func38, Tryz.ntmps38
  go_wp2
  go_region_o
  all_goals (go_wp2; go_ret; exact ⟨rfl, (Below.drew (Below.refl B w)).alloc hBw _⟩)
theorem String_room (B b g cap : Nat) (p : Value) (w : World) (hc0 : cap ≠ 0) (hbk : w.heap[b]? = some (.cells #[p, .slice (some ⟨g, 0, none⟩) 0 cap] 84 (0, 0))) :
    Calls Tryz.prog 38 #[.pointer (some ⟨b, 0, none⟩)] w fun e w' => e = .returned (.string ⟨#[]⟩) ∧ Below B w w' := by
  have hUS := unsafeString_none
  have c1 : w.drew.cell? ⟨b, 1, none⟩ = some (.slice (some ⟨g, 0, none⟩) 0 cap) := by
    have : w.drew.heap[b]? = some (.cells #[p, .slice (some ⟨g, 0, none⟩) 0 cap] 84 (0, 0)) := hbk
    rw [Lib.cell_of_heap this]; rfl
  have hSD : (Builtin.unsafeSliceData_ #[71] 121 #[.slice (some ⟨g, 0, none⟩) 0 cap]).run Tryz.prog w.drew = .ok (.pointer (some ⟨g, 0, none⟩)) w.drew :=
    Lib.run_unsafeSliceData_row _ _ _ _ _ _ hc0
  clear hc0
  have mixed : Tryz.prog.follows .mixedOrders = true := by kernel_rfl
  go_enter Tryz.func38, Tryz.ntmps38
  go_wp2
  go_region_o
  all_goals (go_wp2; go_ret; exact ⟨rfl, Below.drew (Below.refl B w)⟩)
theorem String_any (B b : Nat) (l : List UInt8) (w : World) (h : PrF B b (Lib.byteCells l) w) (hBw : B ≤ w.heap.size) :
    Calls Tryz.prog 38 #[.pointer (some ⟨b, 0, none⟩)] w fun e w' => e = .returned (.string ⟨l.toArray⟩) ∧ Below B w w' := by
  cases l with
  | cons x r => exact String_k B b (x :: r) w h (by simp)
  | nil =>
    obtain ⟨p, hA⟩ : ∃ p, PrA B b p [] w := by
      rcases h with h | h
      · exact ⟨_, h⟩
      · exact ⟨_, h⟩
    obtain ⟨hB, v, hbk, hown, hne⟩ := hA
    rcases hown.2 with ⟨rfl, _⟩ | ⟨g, cap, cur, fz, rfl, hbg, hg, _, _, _, _, _⟩
    · exact String_nil B b p w hbk
    · by_cases hc0 : cap = 0
      · subst hc0
        exact String_noroom B b g p cur w hBw hbk fz hg
      · exact String_room B b g cap p w hc0 hbk
theorem emptyRow0 (w : World) : RowRd w 2 (.slice none 0 0) 0 (attrCells []) := ⟨rfl, none, 0, rfl, Nat.le_refl _, fun _ => ⟨rfl, rfl⟩, fun a ha => by cases ha⟩
theorem RdN.leaf (w : World) (t : Int) (s : ByteArray) : RdN w (.mk t [] s []) (.agg #[.int .i64 t, .slice none 0 0, .string s, .slice none 0 0]) :=
  RdN.mk' (n := .mk t [] s []) (emptyRow0 w) ⟨none, 0, rfl, Nat.le_refl _, Nat.zero_le _, fun _ => ⟨rfl, rfl⟩, fun a h => by cases h⟩
end Go.Proofs.YtalaajbajgdglaaGreatDoor
namespace Go.Proofs.YtalaajbajgdglaaGreatDoor
open Go Go.RowKit Go.BigFrame We
end Go.Proofs.YtalaajbajgdglaaGreatDoor
namespace Go.Proofs.YtalaajbajgdglaaGreatDoor
open Go
theorem IsR.drop1 {c : UInt8} {q : List UInt8} (h : IsR (c :: q)) (hc : c.toNat < 128) : IsR q := by
  obtain ⟨rs, hr, e⟩ := h
  cases rs with
  | nil => cases e
  | cons r rs =>
    obtain ⟨n, rfl, hn⟩ := valid_cases (hr r (by simp))
    rw [List.flatMap_cons, encode_nat hn] at e
    have hh : ∀ x ∈ encL n, x = UInt8.ofNat n ∧ n < 128 ∨ 128 ≤ x.toNat := fun x hx => encL_mem (by omega) hx
    have e : c :: q = encL n ++ rs.flatMap fun r => (Utf8.encode r).data.toList := e
    by_cases h1 : n < 128
    · have e2 : encL n = [UInt8.ofNat n] := by unfold encL; rw [if_pos h1]
      rw [e2] at e
      simp only [List.cons_append, List.nil_append, List.cons.injEq] at e
      rw [e.2]
      exact ⟨rs, fun x hx => hr x (by simp [hx]), rfl⟩
    · exfalso
      cases hE : encL n with
      | nil =>
        have hl := (encode_len (n : Int)).1
        rw [encode_nat hn] at hl
        have : (encL n).length ≥ 1 := hl
        rw [hE] at this
        simp at this
      | cons x y =>
        rw [hE] at e
        simp only [List.cons_append, List.cons.injEq] at e
        rcases hh x (by rw [hE]; simp) with ⟨_, h2⟩ | h2
        · exact h1 h2
        · rw [← e.1] at h2; omega
theorem IsR.drop : ∀ (k : Nat) {l : List UInt8}, IsR l → (∀ c ∈ l.take k, c.toNat < 128) → IsR (l.drop k)
  | 0, l, h, _ => h
  | k + 1, [], h, _ => h
  | k + 1, c :: q, h, hk => by
    rw [List.take_succ_cons] at hk
    exact IsR.drop k (h.drop1 (hk c (by simp))) fun x hx => hk x (by simp [hx])
theorem digV_low {c : UInt8} (h : digV c < 16) : c.toNat < 128 := by
  revert c
  exact fun {c} => all_bytes (p := fun c => digV c < 16 → c.toNat < 128) (by decide +kernel) c
theorem numL_low {base : Nat} (hb : base ≤ 16) : ∀ (l : List UInt8) (n v : Nat), numL base n l = some v → ∀ c ∈ l, c.toNat < 128 := by
  intro l
  induction l with
  | nil => intro n v _ c hc; cases hc
  | cons x r ih =>
    intro n v h c hc
    unfold numL at h
    split at h
    · cases h
    · rename_i hx
      rcases List.mem_cons.1 hc with rfl | hc
      · exact digV_low (by omega)
      · exact ih _ _ h c hc
theorem codeN_low {base most : Nat} (hb : base ≤ 16) {l : List UInt8} {n : Nat} (h : codeN base most l = some n) : l ≠ [] ∧ (∀ c ∈ l, c.toNat < 128) ∧ Utf8.valid (n : Int) = true := by
  unfold codeN at h
  split at h
  · cases h
  · rename_i hl
    obtain ⟨h1, h2⟩ := Option.filter_eq_some_iff.1 h
    refine ⟨fun e => hl (.inl e), numL_low hb l 0 n h1, ?_⟩
    unfold runeN at h2
    rw [decide_eq_true_eq] at h2
    unfold Utf8.valid
    simp
    omega
theorem coded_low {l x : List UInt8} (h : codedL l = some x) : l ≠ [] ∧ (∀ c ∈ l, c.toNat < 128) ∧ IsR x ∧ x.length ≤ 4 := by
  unfold codedL at h
  cases hc : codeL l with
  | none => rw [hc] at h; cases h
  | some n =>
    rw [hc, Option.map_some] at h
    have h := Option.some.inj h
    subst h
    have key : l ≠ [] ∧ (∀ c ∈ l, c.toNat < 128) ∧ Utf8.valid (n : Int) = true := by
      unfold codeL at hc
      split at hc
      · rename_i hh
        obtain ⟨h1, h2, h3⟩ := codeN_low (by decide) hc
        cases l with
        | nil => cases hh
        | cons a q =>
          obtain rfl : a = 120 := by simpa using hh
          exact ⟨by simp, fun c hc => (List.mem_cons.1 hc).elim (fun e => by rw [e]; decide) (h2 c), h3⟩
      · exact codeN_low (by decide) hc
    exact ⟨key.1, key.2.1, IsR.one key.2.2, (encode_len _).2⟩
theorem named_low {m x : List UInt8} (h : namedL m = some x) : (∀ c ∈ m, c.toNat < 128) ∧ IsR x ∧ x.length ≤ m.length := by
  have nb : IsR [194, 160] := by
    have := IsR.one (r := 160) (by decide)
    rw [show (160 : Int) = ((160 : Nat) : Int) from rfl, encode_nat (by decide)] at this
    exact this
  unfold namedL at h
  by_cases h1 : m = [97, 109, 112]
  · rw [if_pos h1] at h; cases h; rw [h1]; exact ⟨by decide, IsR.ascii (by decide), by decide⟩
  rw [if_neg h1] at h
  by_cases h1 : m = [108, 116]
  · rw [if_pos h1] at h; cases h; rw [h1]; exact ⟨by decide, IsR.ascii (by decide), by decide⟩
  rw [if_neg h1] at h
  by_cases h1 : m = [103, 116]
  · rw [if_pos h1] at h; cases h; rw [h1]; exact ⟨by decide, IsR.ascii (by decide), by decide⟩
  rw [if_neg h1] at h
  by_cases h1 : m = [113, 117, 111, 116]
  · rw [if_pos h1] at h; cases h; rw [h1]; exact ⟨by decide, IsR.ascii (by decide), by decide⟩
  rw [if_neg h1] at h
  by_cases h1 : m = [97, 112, 111, 115]
  · rw [if_pos h1] at h; cases h; rw [h1]; exact ⟨by decide, IsR.ascii (by decide), by decide⟩
  rw [if_neg h1] at h
  by_cases h1 : m = [110, 98, 115, 112]
  · rw [if_pos h1] at h; cases h; rw [h1]; exact ⟨by decide, nb, by decide⟩
  rw [if_neg h1] at h
  cases h
theorem entity_good {q : List UInt8} : IsR (entityL (38 :: q)).1 ∧ (entityL (38 :: q)).1.length ≤ (entityL (38 :: q)).2 ∧ (∀ c ∈ (38 :: q).take (entityL (38 :: q)).2, c.toNat < 128) ∧ (entityL (38 :: q)).2 ≤ q.length + 1 := by
  have base : IsR ([38] : List UInt8) ∧ ([38] : List UInt8).length ≤ 1 ∧ (∀ c ∈ ((38 : UInt8) :: q).take 1, c.toNat < 128) ∧ 1 ≤ q.length + 1 :=
    ⟨IsR.byte (by decide), Nat.le_refl _, fun c hc => by simp at hc; rw [hc]; decide, Nat.le_add_left _ _⟩
  unfold entityL
  dsimp only
  by_cases he : Lib.indexByte ((38 :: q).take 12) 59 < 0
  · rw [if_pos he]; exact base
  · rw [if_neg he]
    obtain ⟨k, hk, h1, _⟩ := indexByte_some he
    rw [hk, Int.toNat_natCast]
    cases hm : meansL (38 :: q) k with
    | none => exact base
    | some x =>
      dsimp only
      have h59 : (38 :: q)[k]? = some 59 := by
        rw [List.getElem?_take] at h1
        split at h1
        · exact h1
        · cases h1
      have hkl : k < (38 :: q).length := (List.getElem?_eq_some_iff.1 h59).1
      have hk0 : k ≠ 0 := by rintro rfl; simp at h59
      obtain ⟨j, rfl⟩ : ∃ j, k = j + 1 := ⟨k - 1, by omega⟩
      have htk : (38 :: q).take (j + 1 + 1) = 38 :: (q.take j ++ [59]) := by
        rw [List.take_succ_cons]
        have : q[j]? = some 59 := by simpa using h59
        rw [List.take_add_one, this]
        rfl
      have hjl : j < q.length := by simpa using hkl
      unfold meansL at hm
      have hd1 : ((38 :: q).drop 1).take (j + 1 - 1) = q.take j := rfl
      rw [hd1] at hm
      have key : (∀ c ∈ q.take j, c.toNat < 128) ∧ IsR x ∧ x.length ≤ j + 2 := by
        cases hn : namedL (q.take j) with
        | some y =>
          rw [hn] at hm
          cases hm
          obtain ⟨a1, a2, a3⟩ := named_low hn
          rw [List.length_take] at a3
          exact ⟨a1, a2, by omega⟩
        | none =>
          rw [hn] at hm
          dsimp only at hm
          split at hm
          · rename_i h2
            obtain ⟨a1, a2, a3, a4⟩ := coded_low hm
            cases q with
            | nil => simp at hjl
            | cons b q =>
              obtain rfl : b = 35 := by simpa using h2
              have e3 : ((38 :: 35 :: q).drop 2).take (j + 1 - 2) = q.take (j - 1) := rfl
              rw [e3] at a1 a2
              have hj : 2 ≤ j := by
                rcases Nat.lt_or_ge j 2 with h | h
                · exfalso; apply a1; rw [show j - 1 = 0 by omega]; rfl
                · exact h
              refine ⟨fun c hc => ?_, a3, by omega⟩
              rw [show j = (j - 1) + 1 by omega, List.take_succ_cons] at hc
              exact (List.mem_cons.1 hc).elim (fun e => by rw [e]; decide) (a2 c)
          · cases hm
      refine ⟨key.2.1, key.2.2, fun c hc => ?_, by omega⟩
      rw [htk] at hc
      rcases List.mem_cons.1 hc with rfl | hc
      · decide
      · rcases List.mem_append.1 hc with hc | hc
        · exact key.1 c hc
        · simp at hc; rw [hc]; decide
theorem decL_good : ∀ (n : Nat) (l : List UInt8), l.length ≤ n → (decL l).length ≤ l.length ∧ (IsR l → IsR (decL l)) := by
  intro n
  induction n with
  | zero =>
    intro l h
    obtain rfl : l = [] := List.eq_nil_of_length_eq_zero (by omega)
    exact ⟨Nat.le_refl _, id⟩
  | succ n ih =>
    intro l h
    cases l with
    | nil => exact ⟨Nat.le_refl _, id⟩
    | cons c q =>
      simp only [List.length_cons] at h
      by_cases hc : c = 38
      · subst hc
        obtain ⟨g1, g2, g3, g4⟩ := @entity_good q
        have hp := entityL_pos (38 :: q)
        obtain ⟨i1, i2⟩ := ih ((38 :: q).drop (entityL (38 :: q)).2) (by rw [List.length_drop, List.length_cons]; omega)
        rw [decL_amp]
        refine ⟨?_, fun hr => g1.app (i2 (hr.drop _ g3))⟩
        rw [List.length_append]
        rw [List.length_drop, List.length_cons] at i1
        rw [List.length_cons]
        omega
      · rw [decL_cons hc]
        obtain ⟨i1, _⟩ := ih q (by omega)
        refine ⟨by rw [List.length_cons, List.length_cons]; omega, fun hr => ?_⟩
        obtain ⟨rs, hv, e⟩ := hr
        cases rs with
        | nil => cases e
        | cons r rs =>
          obtain ⟨k, rfl, hk⟩ := valid_cases (hv r (by simp))
          have hX : IsR (rs.flatMap fun r => (Utf8.encode r).data.toList) := ⟨rs, fun x hx => hv x (by simp [hx]), rfl⟩
          rw [← decL_cons hc, e, List.flatMap_cons]
          have hne : ∀ x ∈ (Utf8.encode (k : Int)).data.toList, x ≠ 38 := by
            rw [encode_nat hk]
            intro x hx e2
            rcases encL_mem (n := k) (by omega) hx with ⟨h1, h2⟩ | h1
            · rw [List.flatMap_cons, encode_nat hk, if_pos h2] at e
              simp only [List.cons_append, List.cons.injEq] at e
              exact hc (by rw [e.1, ← h1, e2])
            · rw [e2] at h1; exact absurd h1 (by decide)
          rw [decL_front hne]
          have hlen := (encode_len (k : Int)).1
          have hle : (rs.flatMap fun r => (Utf8.encode r).data.toList).length ≤ n := by
            have := congrArg List.length e
            rw [List.flatMap_cons, List.length_append, List.length_cons] at this
            omega
          exact (IsR.one (hv _ (by simp))).app ((ih _ hle).2 hX)
theorem decT_good (l : List UInt8) : IsR (decT l) ∧ (decT l).length ≤ 4 * l.length := by
  unfold decT
  obtain ⟨h1, h2⟩ := decL_good _ (anewB (bs l)).data.toList (Nat.le_refl _)
  refine ⟨h2 (IsR.of _), ?_⟩
  have h3 := anewB_size (bs l)
  rw [bs_size l] at h3
  have h4 : (anewB (bs l)).data.toList.length = (anewB (bs l)).size := rfl
  rw [h4] at h1
  omega
theorem owned_keep : ∀ (l : List Part) (seen : List (List UInt8)), (∀ a ∈ ownedF seen l, nameOk a.1 = true ∧ valueOk a.2 = true ∧ a.1.data.toList ∉ seen) ∧ (ownedF seen l).Pairwise (fun a b => a.1 ≠ b.1) := by
  intro l
  induction l with
  | nil => intro seen; exact ⟨fun a ha => (nomatch ha), List.Pairwise.nil⟩
  | cons p l ih =>
    intro seen
    obtain ⟨n, v⟩ := p
    obtain ⟨h1, h2⟩ := ih (seen ++ [n.map smallC])
    unfold ownedF
    have h1' : ∀ a ∈ ownedF (seen ++ [n.map smallC]) l, nameOk a.1 = true ∧ valueOk a.2 = true ∧ a.1.data.toList ∉ seen := fun a ha => ⟨(h1 a ha).1, (h1 a ha).2.1, fun hm => (h1 a ha).2.2 (List.mem_append_left _ hm)⟩
    split
    · rename_i hk
      simp only [Bool.and_eq_true, Bool.not_eq_true', Bool.eq_false_iff] at hk
      refine ⟨fun a ha => ?_, ?_⟩
      · rcases List.mem_cons.1 ha with rfl | ha
        · exact ⟨hk.1.1, hk.1.2, fun hm => hk.2 (by rw [List.contains_iff_mem]; rw [bs_data] at hm; exact hm)⟩
        · exact h1' a ha
      · refine List.Pairwise.cons (fun a ha e => ?_) h2
        refine (h1 a ha).2.2 (List.mem_append_right _ ?_)
        rw [← e]
        simp
    · exact ⟨h1', h2⟩
theorem attrAt_of : ∀ (l : List AttrB), l.Pairwise (fun a b => a.1 ≠ b.1) → ∀ (i : Nat) (a : AttrB), l[i]? = some a → attrAt l a.1 = (i : Int) := by
  intro l hp i a hi
  unfold attrAt
  have : l.findIdx? (fun x => decide (x.1 = a.1)) = some i := by
    obtain ⟨hl, e⟩ := List.getElem?_eq_some_iff.1 hi
    rw [List.findIdx?_eq_some_iff_getElem]
    refine ⟨hl, by simp [e], fun j hj => ?_⟩
    have := List.pairwise_iff_getElem.1 hp j i (by omega) hl hj
    rw [e] at this
    simpa using this
  rw [this]
theorem owned_may (l : List Part) : attrsMay (ownedL l) = true ∧ (ownedL l).length ≤ l.length := by
  obtain ⟨h1, h2⟩ := owned_keep l []
  refine ⟨?_, ownedF_len l []⟩
  unfold attrsMay
  rw [List.all_eq_true]
  rintro ⟨a, i⟩ hm
  have hi : (ownedL l)[i]? = some a := by simpa using (List.mk_mem_zipIdx_iff_getElem? (l := ownedL l) (x := a) (i := i)).1 hm
  obtain ⟨g1, g2, _⟩ := h1 a (List.mem_of_getElem? hi)
  dsimp only
  rw [g1, g2, show attrAt (ownedL l) a.1 = (i : Int) from attrAt_of _ h2 i a hi]
  simp
structure TkGood (M : Nat) (t : Tk) : Prop where
  text : t.kind = 1 → IsR t.text ∧ t.text ≠ []
  none : t.kind ≠ 1 → t.text = []
  attrs : attrsMay t.attrs = true
  len : t.attrs.length ≤ M
theorem tagL_good {N : Nat} {r e : List UInt8} {t : Tk} (h : tagL N r = some (t, e)) : t.kind ≠ 1 ∧ t.text = [] ∧ attrsMay t.attrs = true ∧ t.attrs.length ≤ r.length := by
  unfold tagL at h
  split at h
  · split at h
    · unfold closeL at h
      split at h
      · cases h
      · cases h; exact ⟨(by decide : (3 : Int) ≠ 1), rfl, rfl, Nat.zero_le _⟩
    · unfold openL at h
      cases hx : partsL ((tagR r).dropWhile alnumB) with
      | none => rw [hx] at h; cases h
      | some x =>
        rw [hx] at h
        cases h
        obtain ⟨h1, h2⟩ := owned_may x.1
        have h3 := (partsL_ok _ _ x (Nat.le_refl _) hx).2
        have h4 := (suf_drop alnumB (tagR r)).length_le
        have h5 := (tagR_suf r).length_le
        rw [List.length_drop] at h5
        exact ⟨(by decide : (2 : Int) ≠ 1), rfl, h1, by show (ownedL x.1).length ≤ _; omega⟩
  · cases h
def sumT (l : List Tk) : Nat := (l.map fun t => t.text.length).sum
theorem lexL_good (N M : Nat) : ∀ (n : Nat) (r raw : List UInt8) (a b : Nat), r.length ≤ n → r.length ≤ M →
    (∀ t ∈ lexL N raw a b r, (t.kind = 1 → t.text ≠ [] ∧ t.attrs = []) ∧ (t.kind ≠ 1 → t.text = []) ∧ attrsMay t.attrs = true ∧ t.attrs.length ≤ M) ∧ sumT (lexL N raw a b r) ≤ raw.length + r.length := by
  have hfl : ∀ raw a b, (∀ t ∈ flushT raw a b, (t.kind = 1 → t.text ≠ [] ∧ t.attrs = []) ∧ (t.kind ≠ 1 → t.text = []) ∧ attrsMay t.attrs = true ∧ t.attrs.length ≤ M) ∧ sumT (flushT raw a b) ≤ raw.length := by
    intro raw a b
    unfold flushT
    split
    · exact ⟨fun t ht => (nomatch ht), Nat.zero_le _⟩
    · rename_i h
      refine ⟨fun t ht => ?_, by simp [sumT]⟩
      rw [List.mem_singleton.1 ht]
      exact ⟨fun _ => ⟨h, rfl⟩, fun e => absurd rfl e, rfl, Nat.zero_le _⟩
  intro n
  induction n with
  | zero =>
    intro r raw a b hn _
    obtain rfl : r = [] := List.eq_nil_of_length_eq_zero (by omega)
    rw [lexL_nil]
    exact ⟨(hfl raw a b).1, by have := (hfl raw a b).2; simpa using this⟩
  | succ n ih =>
    intro r raw a b hn hM
    cases r with
    | nil => rw [lexL_nil]; exact ⟨(hfl raw a b).1, by have := (hfl raw a b).2; simpa using this⟩
    | cons c q =>
      simp only [List.length_cons] at hn hM ⊢
      have hch : (c ≠ 60 ∨ noteL (c :: q) = none ∧ tagL N (c :: q) = none) → (∀ t ∈ lexL N raw a b (c :: q), (t.kind = 1 → t.text ≠ [] ∧ t.attrs = []) ∧ (t.kind ≠ 1 → t.text = []) ∧ attrsMay t.attrs = true ∧ t.attrs.length ≤ M) ∧ sumT (lexL N raw a b (c :: q)) ≤ raw.length + (q.length + 1) := by
        intro h
        rw [lexL_char h]
        obtain ⟨h1, h2⟩ := ih q (raw ++ [c]) (if raw = [] then N - (q.length + 1) else a) (N - q.length) (by omega) (by omega)
        rw [List.length_append] at h2
        exact ⟨h1, by simp only [List.length_cons, List.length_nil] at h2; omega⟩
      by_cases hc : c = 60
      · subst hc
        cases hno : noteL (60 :: q) with
        | some e =>
          rw [lexL_note hno]
          have h2 := (noteL_suf hno).2
          simp only [List.length_cons] at h2
          obtain ⟨g1, g2⟩ := ih e raw a b (by omega) (by omega)
          exact ⟨g1, by omega⟩
        | none =>
          cases ht : tagL N (60 :: q) with
          | none => exact hch (.inr ⟨hno, ht⟩)
          | some x =>
            obtain ⟨t, e⟩ := x
            rw [lexL_tag hno ht]
            have h2 := (tagL_len ht).2
            simp only [List.length_cons] at h2
            obtain ⟨g1, g2⟩ := ih e [] a b (by omega) (by omega)
            obtain ⟨f1, f2⟩ := hfl raw a b
            obtain ⟨k1, k2, k3, k4⟩ := tagL_good ht
            simp only [List.length_cons] at k4
            refine ⟨fun u hu => ?_, ?_⟩
            · rcases List.mem_append.1 hu with hu | hu
              · exact f1 u hu
              · rcases List.mem_cons.1 hu with rfl | hu
                · exact ⟨fun e => absurd e k1, fun _ => k2, k3, by omega⟩
                · exact g1 u hu
            · unfold sumT at f2 g2 ⊢
              rw [List.map_append, List.sum_append, List.map_cons, List.sum_cons, k2]
              simp only [List.length_nil] at g2 ⊢
              omega
      · exact hch (.inl hc)
theorem tokens_good {L : List UInt8} {M : Nat} (h : L.length ≤ M) : (∀ t ∈ tokens L, TkGood M t) ∧ sumT (tokens L) ≤ 4 * L.length := by
  obtain ⟨h1, h2⟩ := lexL_good L.length M L.length L [] 0 0 (Nat.le_refl _) h
  unfold tokens
  refine ⟨fun t ht => ?_, ?_⟩
  · obtain ⟨u, hu, rfl⟩ := List.mem_map.1 ht
    obtain ⟨g1, g2, g3, g4⟩ := h1 u hu
    unfold Tk.fin
    split
    · rename_i hk
      exact ⟨fun _ => ⟨(decT_good _).1, decT_ne (g1 hk).1⟩, fun e => absurd hk e, g3, g4⟩
    · rename_i hk
      exact ⟨fun e => absurd e hk, g2, g3, g4⟩
  · have key : ∀ l : List Tk, sumT (l.map Tk.fin) ≤ 4 * sumT l := by
      intro l
      induction l with
      | nil => exact Nat.le_refl _
      | cons t l ih =>
        unfold sumT at ih ⊢
        simp only [List.map_cons, List.sum_cons]
        have : t.fin.text.length ≤ 4 * t.text.length := by
          unfold Tk.fin
          split
          · exact (decT_good _).2
          · omega
        omega
    have := key (lexL L.length [] 0 0 L)
    simp only [List.length_nil, Nat.zero_add] at h2
    omega
def tsZ (z : ZS) : List Int := (tagsZ z).dropLast
theorem tsZ_cons (f g : ZF) (r : ZS) : tsZ (f :: g :: r) = f.tag :: tsZ (g :: r) := rfl
def GoodTs : List Int → Prop
  | [] => True
  | t :: r => (clsT t = 2 ∨ clsT t = 3 → lineIn r = false ∧ (t = 9 → liIn r = false)) ∧ GoodTs r
theorem line_drop : ∀ ts : List Int, GoodTs ts → lineIn (ts.drop (closeC isPH stPH (ts ++ [1]))) = false := by
  intro ts
  induction ts with
  | nil => intro _; rfl
  | cons t r ih =>
    intro ⟨h, hr⟩
    rw [List.cons_append, closeC_step _ _ _ (by simp)]
    by_cases h2 : 2 ≤ t ∧ t ≤ 5
    · have h3 : isPH t = true := (isPH_iff t).2 h2
      rw [h3, Bool.not_true, Bool.and_false, if_neg Bool.false_ne_true, if_pos rfl, List.drop_succ_cons]
      have hc : clsT t = 3 := by
        unfold clsT
        rw [if_neg (by omega), if_neg (by omega), if_neg (by omega), if_pos (by omega)]
      exact (h (.inr hc)).1
    · have h3 : isPH t = false := Bool.eq_false_iff.2 fun e => h2 ((isPH_iff t).1 e)
      rw [h3, Bool.not_false, Bool.and_true]
      by_cases h4 : clsT t = 2 ∨ t = 9
      · rw [(stPH_iff t).2 h4, if_pos rfl, List.drop_zero]
        unfold lineIn
        rw [if_neg h2, if_pos h4]
      · have h5 : stPH t = false := Bool.eq_false_iff.2 fun e => h4 ((stPH_iff t).1 e)
        rw [h5, if_neg Bool.false_ne_true, if_neg Bool.false_ne_true]
        have i := ih hr
        generalize closeC isPH stPH (r ++ [1]) = n at i ⊢
        cases n with
        | zero =>
          show lineIn ((t :: r).drop 0) = false
          rw [List.drop_zero] at i ⊢
          unfold lineIn
          rw [if_neg h2, if_neg h4]
          exact i
        | succ n => exact i
theorem li_drop : ∀ ts : List Int, GoodTs ts → liIn (ts.drop (closeC isLi stLi (ts ++ [1]))) = false ∧ (∀ n, closeC isLi stLi (ts ++ [1]) = n + 1 → lineIn (ts.drop (n + 1)) = false) := by
  intro ts
  induction ts with
  | nil => intro _; exact ⟨rfl, fun n h => by cases h⟩
  | cons t r ih =>
    intro ⟨h, hr⟩
    rw [List.cons_append, closeC_step _ _ _ (by simp)]
    by_cases h2 : t = 9
    · have h3 : isLi t = true := by rw [h2]; rfl
      rw [h3, Bool.not_true, Bool.and_false, if_neg Bool.false_ne_true, if_pos rfl]
      obtain ⟨a, b⟩ := h (.inr (by rw [h2]; rfl))
      exact ⟨b h2, fun n hn => by cases hn; exact a⟩
    · have h3 : isLi t = false := by unfold isLi; rw [beq_eq_false_iff_ne]; exact h2
      rw [h3, Bool.not_false, Bool.and_true]
      by_cases h4 : t = 7 ∨ t = 8
      · have h5 : stLi t = true := by unfold stLi; rcases h4 with rfl | rfl <;> rfl
        rw [h5, if_pos rfl]
        refine ⟨?_, fun n hn => by cases hn⟩
        show liIn (t :: r) = false
        unfold liIn
        rw [if_pos h4]
      · have h5 : stLi t = false := by unfold stLi; rw [Bool.or_eq_false_iff, beq_eq_false_iff_ne, beq_eq_false_iff_ne]; omega
        rw [h5, if_neg Bool.false_ne_true, if_neg Bool.false_ne_true]
        obtain ⟨i, j⟩ := ih hr
        generalize closeC isLi stLi (r ++ [1]) = n at i j ⊢
        cases n with
        | zero =>
          refine ⟨?_, fun n hn => by cases hn⟩
          show liIn (t :: r) = false
          rw [List.drop_zero] at i
          unfold liIn
          rw [if_neg h4, if_neg h2]
          exact i
        | succ n => exact ⟨i, fun m hm => by
            have hm : n + 2 = m + 1 := hm
            obtain rfl : m = n + 1 := by omega
            exact j n rfl⟩
def lastP (p : Bool) : List PN → Bool
  | [] => p
  | k :: r => lastP (k.tag == 0) r
theorem lastP_snoc : ∀ (ks : List PN) (p : Bool) (k : PN), lastP p (ks ++ [k]) = (k.tag == 0)
  | [], _, _ => rfl
  | x :: ks, p, k => lastP_snoc ks (x.tag == 0) k
theorem norms_snoc (d : Int) (b l i : Bool) (k : PN) : ∀ (ks : List PN) (p : Bool), PN.norms d b l i p (ks ++ [k]) = (PN.norms d b l i p ks && (!(lastP p ks && k.tag == 0) && PN.norm d b l i k))
  | [], p => by
    show PN.norms d b l i p [k] = _
    simp only [PN.norms, lastP, Bool.and_true, Bool.true_and]
  | x :: ks, p => by
    rw [List.cons_append]
    simp only [PN.norms, lastP]
    rw [norms_snoc d b l i k ks (x.tag == 0)]
    simp only [Bool.and_assoc]
theorem lastP_text {ks : List PN} (h : lastText ks = none) : lastP false ks = false := by
  rcases List.eq_nil_or_concat ks with rfl | ⟨l, k, rfl⟩
  · rfl
  · rw [List.concat_eq_append] at h ⊢
    rw [lastText_snoc] at h
    rw [lastP_snoc]
    split at h
    · cases h
    · rename_i hk; rw [beq_eq_false_iff_ne]; exact hk
mutual
def PN.bulk (T : Nat) : PN → Bool
  | .mk _ a s ks => decide (s.size ≤ T) && decide (a.length ≤ 8192) && PN.bulks T ks
def PN.bulks (T : Nat) : List PN → Bool
  | [] => true
  | k :: r => PN.bulk T k && PN.bulks T r
end
theorem PN.bulk_eq (T : Nat) (n : PN) : n.bulk T = (decide (n.text.size ≤ T) && decide (n.attrs.length ≤ 8192) && PN.bulks T n.kids) := by cases n; rfl
theorem PN.bulk_mk {T : Nat} {t : Int} {a : List AttrB} {s : ByteArray} {ks : List PN} (h1 : s.size ≤ T) (h2 : a.length ≤ 8192) (h3 : PN.bulks T ks = true) : (PN.mk t a s ks).bulk T = true := by
  show (decide (s.size ≤ T) && decide (a.length ≤ 8192) && PN.bulks T ks) = true
  rw [decide_eq_true h1, decide_eq_true h2, h3]
  rfl
theorem PN.bulks_iff {T : Nat} {l : List PN} : PN.bulks T l = true ↔ ∀ k ∈ l, k.bulk T = true := by
  induction l with
  | nil => simp [PN.bulks]
  | cons k r ih => simp only [PN.bulks, Bool.and_eq_true, ih, List.mem_cons, forall_eq_or_imp]
theorem PN.bulk_mono {T M : Nat} (h : T ≤ M) : ∀ n : PN, n.bulk T = true → n.bulk M = true := by
  refine PN.induct _ fun n ih hn => ?_
  rw [PN.bulk_eq] at hn ⊢
  simp only [Bool.and_eq_true, decide_eq_true_eq] at hn ⊢
  exact ⟨⟨Nat.le_trans hn.1.1 h, hn.1.2⟩, PN.bulks_iff.2 fun k hk => ih k hk (PN.bulks_iff.1 hn.2 k hk)⟩
theorem PN.bulks_mono {T M : Nat} (h : T ≤ M) {l : List PN} (hl : PN.bulks T l = true) : PN.bulks M l = true := PN.bulks_iff.2 fun k hk => PN.bulk_mono h k (PN.bulks_iff.1 hl k hk)
def KidsOk (T : Nat) (d : Int) (ts : List Int) (f : ZF) : Prop := PN.norms d (boxT f.tag) (lineIn ts) (liIn ts) false f.kids = true ∧ PN.bulks T f.kids = true
def ZN (T : Nat) : ZS → Prop
  | [] => False
  | [f] => f.tag = 1 ∧ f.attrs = [] ∧ KidsOk T 1 [] f
  | f :: g :: r => (clsT f.tag = 2 ∨ clsT f.tag = 3 ∨ clsT f.tag = 4) ∧ attrsMay f.attrs = true ∧ f.attrs.length ≤ 8192 ∧ (g :: r).length ≤ 40 ∧
      (clsT f.tag = 2 ∨ clsT f.tag = 3 → lineIn (tsZ (g :: r)) = false ∧ (f.tag = 9 → liIn (tsZ (g :: r)) = false)) ∧ KidsOk T (((g :: r).length : Int) + 1) (f.tag :: tsZ (g :: r)) f ∧ ZN T (g :: r)
theorem ZN.ne {T : Nat} : ∀ {z : ZS}, ZN T z → z ≠ []
  | [], h => h.elim
  | _ :: _, _ => by simp
theorem ZN.tags {T : Nat} : ∀ {z : ZS}, ZN T z → tagsZ z = tsZ z ++ [1] ∧ GoodTs (tsZ z)
  | [], h => h.elim
  | [f], h => ⟨by show [f.tag] = _; rw [h.1]; rfl, trivial⟩
  | f :: g :: r, h => by
    obtain ⟨_, _, _, _, h1, _, h2⟩ := h
    obtain ⟨i, j⟩ := ZN.tags h2
    refine ⟨?_, h1, j⟩
    rw [tsZ_cons, List.cons_append, ← i]
    rfl
theorem ZN.kids {T : Nat} : ∀ {f : ZF} {r : ZS}, ZN T (f :: r) → KidsOk T ((r.length : Int) + 1) (tsZ (f :: r)) f
  | _, [], h => h.2.2
  | _, _ :: _, h => h.2.2.2.2.2.1
theorem ZN.put {T M : Nat} {f : ZF} {ks : List PN} : ∀ {r : ZS}, ZN T (f :: r) → (∀ {z : ZS}, ZN T z → ZN M z) → KidsOk M ((r.length : Int) + 1) (tsZ (f :: r)) ⟨f.tag, f.attrs, ks⟩ → ZN M (⟨f.tag, f.attrs, ks⟩ :: r)
  | [], h, _, hk => ⟨h.1, h.2.1, hk⟩
  | _ :: _, h, hm, hk => ⟨h.1, h.2.1, h.2.2.1, h.2.2.2.1, h.2.2.2.2.1, hk, hm h.2.2.2.2.2.2⟩
theorem ZN.mono {T M : Nat} (h : T ≤ M) : ∀ {z : ZS}, ZN T z → ZN M z
  | [], hz => hz.elim
  | [f], hz => ⟨hz.1, hz.2.1, hz.2.2.1, PN.bulks_mono h hz.2.2.2⟩
  | f :: g :: r, hz => ⟨hz.1, hz.2.1, hz.2.2.1, hz.2.2.2.1, hz.2.2.2.2.1, ⟨hz.2.2.2.2.2.1.1, PN.bulks_mono h hz.2.2.2.2.2.1.2⟩, ZN.mono h hz.2.2.2.2.2.2⟩
theorem node_norm {f : ZF} {ts : List Int} {d : Int} {box : Bool} (hc : clsT f.tag = 2 ∨ clsT f.tag = 3 ∨ clsT f.tag = 4) (ha : attrsMay f.attrs = true) (hd : d ≤ 40)
    (hl : clsT f.tag = 2 ∨ clsT f.tag = 3 → lineIn ts = false ∧ (f.tag = 9 → liIn ts = false)) (hk : PN.norms (d + 1) (boxT f.tag) (lineIn (f.tag :: ts)) (liIn (f.tag :: ts)) false f.kids = true) : PN.norm d box (lineIn ts) (liIn ts) f.node = true := by
  rw [PN.norm_eq]
  show (decide (d ≤ 40) && (if clsT f.tag = 0 then false else if clsT f.tag = 1 then textOk box f.node
      else if clsT f.tag = 5 then (⟨#[]⟩ : ByteArray).size == 0 && attrsMay f.attrs && f.kids.isEmpty
      else if clsT f.tag = 4 then (⟨#[]⟩ : ByteArray).size == 0 && attrsMay f.attrs && PN.norms (d + 1) false (lineIn ts) (liIn ts) false f.kids
      else !(lineIn ts || f.tag == 9 && liIn ts) && ((⟨#[]⟩ : ByteArray).size == 0 && attrsMay f.attrs && PN.norms (d + 1) (clsT f.tag == 2) (clsT f.tag == 3 && f.tag != 9) (f.tag == 9 || liIn ts && f.tag != 7 && f.tag != 8) false f.kids))) = true
  rw [if_neg (by omega), if_neg (by omega), if_neg (by omega), ha, show ((⟨#[]⟩ : ByteArray).size == 0) = true from rfl, decide_eq_true hd]
  by_cases c4 : clsT f.tag = 4
  · rw [if_pos c4]
    obtain ⟨a, b⟩ := lineIn_inline (.inl c4) ts
    rw [a, b, show boxT f.tag = false by unfold boxT; rw [c4]; rfl] at hk
    rw [hk]; rfl
  · rw [if_neg c4]
    have hc2 : clsT f.tag = 2 ∨ clsT f.tag = 3 := by omega
    obtain ⟨a, b⟩ := lineIn_big hc2 ts
    obtain ⟨h1, h2⟩ := hl hc2
    rw [a, b] at hk
    have e9 : (f.tag == 9 && liIn ts) = false := by
      by_cases h9 : f.tag = 9
      · rw [h2 h9, Bool.and_false]
      · rw [show (f.tag == 9) = false from beq_eq_false_iff_ne.2 h9, Bool.false_and]
    rw [h1, e9, show PN.norms (d + 1) (clsT f.tag == 2) _ _ false f.kids = true from hk]
    rfl
theorem ZN.pop1 {T : Nat} : ∀ {z : ZS}, ZN T z → 2 ≤ z.length → ZN T (Go.Proofs.YtalaajbajgdglaaGreatDoor.pop1 z)
  | [], h, _ => h.elim
  | [_], _, h => by simp at h
  | f :: g :: r, h, _ => by
    obtain ⟨h1, h2, h3, h4, h5, ⟨h6, h6b⟩, h7⟩ := h
    obtain ⟨k1, k2⟩ := h7.kids
    refine ZN.put h7 (fun h => h) ⟨?_, ?_⟩
    · show PN.norms _ (boxT g.tag) _ _ false (g.kids ++ [f.node]) = true
      rw [norms_snoc, k1]
      have ht : (f.node.tag == 0) = false := by
        rw [beq_eq_false_iff_ne]
        intro e
        have e : f.tag = 0 := e
        rw [e] at h1
        rcases h1 with h1 | h1 | h1 <;> exact absurd h1 (by decide)
      rw [ht, Bool.and_false, Bool.not_false, Bool.true_and, Bool.true_and]
      have e : (((g :: r).length : Nat) : Int) = (r.length : Int) + 1 := by simp
      rw [e] at h6
      exact node_norm h1 h2 (by simp only [List.length_cons] at h4; omega) h5 h6
    · show PN.bulks T (g.kids ++ [f.node]) = true
      rw [PN.bulks_iff] at k2 ⊢
      intro k hk
      rcases List.mem_append.1 hk with hk | hk
      · exact k2 k hk
      · obtain rfl : k = f.node := by simpa using hk
        rw [PN.bulk_eq]
        simp only [Bool.and_eq_true, decide_eq_true_eq]
        exact ⟨⟨Nat.zero_le _, h3⟩, h6b⟩
theorem ZN.popN {T : Nat} : ∀ (n : Nat) {z : ZS}, ZN T z → n < z.length → ZN T (Go.Proofs.YtalaajbajgdglaaGreatDoor.popN n z)
  | 0, z, h, _ => h
  | n + 1, z, h, hn => ZN.popN n (h.pop1 (by omega)) (by have := pop1_len z; rw [if_pos (by omega)] at this; omega)
theorem tsZ_popN (n : Nat) {z : ZS} (h : n < z.length) : tsZ (popN n z) = (tsZ z).drop n := by
  unfold tsZ
  rw [popN_tags n z h, List.dropLast_eq_take, List.dropLast_eq_take, List.length_drop, List.drop_take]
  congr 1
  omega
theorem ZN.ahead {T : Nat} {z : ZS} (h : ZN T z) (t : Int) : ZN T (aheadZ t z) ∧ (lineT t = true → lineIn (tsZ (aheadZ t z)) = false) ∧ (t = 9 → liIn (tsZ (aheadZ t z)) = false) := by
  unfold aheadZ
  dsimp only
  have a1 : ZN T (if lineT t = true then closeZ isPH stPH z else z) ∧ (lineT t = true → lineIn (tsZ (if lineT t = true then closeZ isPH stPH z else z)) = false) := by
    split
    · rename_i hl
      have hlt := (closeZ_len isPH stPH z h.ne).2
      refine ⟨h.popN _ hlt, fun _ => ?_⟩
      unfold closeZ
      rw [tsZ_popN _ hlt]
      have := line_drop (tsZ z) h.tags.2
      rw [← h.tags.1] at this
      exact this
    · exact ⟨h, fun e => absurd e (by assumption)⟩
  obtain ⟨a1, a2⟩ := a1
  generalize (if lineT t = true then closeZ isPH stPH z else z) = z1 at a1 a2 ⊢
  split
  · rename_i h9
    have hlt := (closeZ_len isLi stLi z1 a1.ne).2
    obtain ⟨b1, b2⟩ := li_drop (tsZ z1) a1.tags.2
    rw [← a1.tags.1] at b1 b2
    refine ⟨a1.popN _ hlt, fun hl => ?_, fun _ => ?_⟩
    · unfold closeZ
      rw [tsZ_popN _ hlt]
      cases hn : closeC isLi stLi (tagsZ z1) with
      | zero => rw [List.drop_zero]; exact a2 hl
      | succ n => exact b2 n hn
    · unfold closeZ
      rw [tsZ_popN _ hlt]
      exact b1
  · exact ⟨a1, a2, fun e => absurd e (by assumption)⟩
theorem ZN.leaf {T M : Nat} {f : ZF} {r : ZS} (h : ZN T (f :: r)) (hm : T ≤ M) {k : PN} (h1 : PN.norm ((r.length : Int) + 1) (boxT f.tag) (lineIn (tsZ (f :: r))) (liIn (tsZ (f :: r))) k = true) (h2 : lastText f.kids = none ∨ k.tag ≠ 0) (h3 : k.bulk M = true) : ZN M (f.put k :: r) := by
  obtain ⟨k1, k2⟩ := h.kids
  refine ZN.put h (ZN.mono hm) ⟨?_, ?_⟩
  · show PN.norms _ (boxT f.tag) _ _ false (f.kids ++ [k]) = true
    rw [norms_snoc, k1, h1]
    have : (lastP false f.kids && k.tag == 0) = false := by
      rcases h2 with h2 | h2
      · rw [lastP_text h2, Bool.false_and]
      · rw [show (k.tag == 0) = false from beq_eq_false_iff_ne.2 h2, Bool.and_false]
    rw [this]; rfl
  · show PN.bulks M (f.kids ++ [k]) = true
    rw [PN.bulks_iff]
    intro x hx
    rcases List.mem_append.1 hx with hx | hx
    · exact PN.bulk_mono hm x (PN.bulks_iff.1 k2 x hx)
    · obtain rfl : x = k := by simpa using hx
      exact h3
theorem text_norm {d : Int} {box line li : Bool} {s : ByteArray} (hd : d ≤ 40) (h1 : s.size ≠ 0) (h2 : anewB s = s) (h3 : (box && s.data.toList.all blankB) = false) : PN.norm d box line li (.mk 0 [] s []) = true := by
  rw [PN.norm_eq]
  show (decide (d ≤ 40) && textOk box (.mk 0 [] s [])) = true
  unfold textOk
  show (decide (d ≤ 40) && (true && true && decide (s.size ≠ 0) && decide (anewB s = s) && !(box && s.data.toList.all blankB))) = true
  rw [h3, decide_eq_true hd, decide_eq_true h1, decide_eq_true h2]
  rfl
theorem ZN.text {T : Nat} {b : BZ} (h : ZN T b.z) {s : List UInt8} (hs : IsR s) (hne : s ≠ []) : ZN (T + s.length) (textZ s b).z := by
  obtain ⟨z, c⟩ := b
  have hM : ∀ {z : ZS}, ZN T z → ZN (T + s.length) z := ZN.mono (Nat.le_add_right _ _)
  match z, h with
  | [], h => exact h.elim
  | f :: r, h =>
    unfold textZ
    dsimp only
    split
    · exact hM h
    · rename_i hb
      have hb : (boxT f.tag && s.all blankB) = false := by simpa using hb
      split
      · rename_i k hk
        obtain ⟨ks, hks, hkt⟩ := lastText_some hk
        have hdl : f.kids.dropLast = ks := by rw [hks]; simp
        obtain ⟨k1, k2⟩ := h.kids
        rw [hks, norms_snoc] at k1
        simp only [Bool.and_eq_true] at k1
        obtain ⟨k1, k3, k4⟩ := k1
        rcases norm_is k4 with ⟨_, x, rfl, hx1, hx2⟩ | ⟨hne, _⟩
        · refine ZN.put h hM ⟨?_, ?_⟩
          · show PN.norms _ (boxT f.tag) _ _ false (f.kids.dropLast ++ [.mk 0 [] (bs (x.data.toList ++ s)) []]) = true
            rw [hdl, norms_snoc, k1]
            have e : (!(lastP false ks && (PN.mk 0 [] (bs (x.data.toList ++ s)) []).tag == 0)) = true := k3
            rw [e]
            rw [PN.norm_eq] at k4
            simp only [Bool.and_eq_true, decide_eq_true_eq] at k4
            have k5 : textOk (boxT f.tag) (.mk 0 [] x []) = true := k4.2
            refine text_norm k4.1 ?_ ?_ ?_
            · rw [bs_size, List.length_append]
              have : x.data.toList.length = x.size := rfl
              omega
            · exact ((IsR.of_anew hx2).app hs).anew
            · rw [bs_data, List.all_append]
              cases hbx : boxT f.tag with
              | false => rfl
              | true =>
                rw [hbx] at hb
                rw [Bool.true_and] at hb
                rw [hb, Bool.and_false, Bool.and_false]
          · show PN.bulks _ (f.kids.dropLast ++ [.mk 0 [] (bs (x.data.toList ++ s)) []]) = true
            rw [hdl]
            rw [hks] at k2
            rw [PN.bulks_iff] at k2 ⊢
            intro y hy
            rcases List.mem_append.1 hy with hy | hy
            · exact PN.bulk_mono (Nat.le_add_right _ _) y (k2 y (by simp [hy]))
            · obtain rfl : y = _ := by simpa using hy
              have := k2 (.mk 0 [] x []) (by simp)
              rw [PN.bulk_eq] at this
              simp only [Bool.and_eq_true] at this
              have h8 : x.size ≤ T := of_decide_eq_true this.1.1
              refine PN.bulk_mk ?_ (Nat.zero_le _) rfl
              rw [bs_size, List.length_append]
              have e : x.data.toList.length = x.size := rfl
              omega
        · exact absurd hkt hne
      · rename_i hl
        split
        · rename_i hr
          obtain ⟨_, hr⟩ := roomB_at hr
          refine ZN.leaf h (Nat.le_add_right _ _) ?_ (.inl hl) ?_
          · refine text_norm (by simp only [List.length_cons] at hr; omega) ?_ hs.anew ?_
            · rw [bs_size]
              have := List.length_pos_iff.2 hne
              omega
            · rw [bs_data]; exact hb
          · exact PN.bulk_mk (by rw [bs_size]; omega) (Nat.zero_le _) rfl
        · exact hM h
theorem cls_tag {t : Int} (h : 1 ≤ t ∧ t ≤ 16) : clsT t = 2 ∨ clsT t = 3 ∨ clsT t = 4 ∨ clsT t = 5 :=
  cls_cases (by intro e; unfold clsT at e; repeat' split at e <;> omega) (by omega)
theorem ZN.token {T : Nat} {b : BZ} (h : ZN T b.z) {t : Tk} (ht : TkGood 8192 t) : ZN (T + t.text.length) (tokenZ t b).z := by
  have hM : ∀ {z : ZS}, ZN T z → ZN (T + t.text.length) z := ZN.mono (Nat.le_add_right _ _)
  unfold tokenZ
  split
  · rename_i hk
    exact h.text (ht.text hk).1 (ht.text hk).2
  · split
    · exact hM h
    · rename_i tag hf
      have hft := findT_tag hf
      split
      · exact hM (h.popN _ (closeZ_len _ _ _ h.ne).2)
      · split
        · rename_i hr
          obtain ⟨_, hr⟩ := roomB_at hr
          obtain ⟨a1, a2, a3⟩ := h.ahead tag
          unfold openZ
          generalize aheadZ tag b.z = z at a1 a2 a3 hr ⊢
          split
          · rename_i c5
            refine hM ?_
            match z, a1, hr with
            | [], a1, _ => exact a1.elim
            | f :: r, a1, hr =>
              refine ZN.leaf (k := .mk tag t.attrs ⟨#[]⟩ []) a1 (Nat.le_refl _) ?_ (.inr (by show tag ≠ 0; omega)) ?_
              · rw [PN.norm_eq]
                show (decide ((r.length : Int) + 1 ≤ 40) && (if clsT tag = 0 then false else if clsT tag = 1 then _ else if clsT tag = 5 then (⟨#[]⟩ : ByteArray).size == 0 && attrsMay t.attrs && ([] : List PN).isEmpty else _)) = true
                rw [if_neg (by omega), if_neg (by omega), if_pos c5, ht.attrs, decide_eq_true (by simp only [List.length_cons] at hr; omega)]
                rfl
              · exact PN.bulk_mk (Nat.zero_le _) ht.len rfl
          · rename_i c5
            refine hM ?_
            match z, a1, a2, a3, hr with
            | [], a1, _, _, _ => exact a1.elim
            | f :: r, a1, a2, a3, hr =>
              refine ⟨by have := cls_tag hft; show clsT tag = 2 ∨ clsT tag = 3 ∨ clsT tag = 4; omega, ht.attrs, ht.len, hr, fun hc => ⟨a2 ?_, a3⟩, ⟨rfl, rfl⟩, a1⟩
              unfold lineT
              simp only [Bool.or_eq_true, beq_iff_eq]
              exact hc.symm
        · exact hM h
theorem ZN.run : ∀ (L : List Tk) {T : Nat} {b : BZ}, ZN T b.z → (∀ t ∈ L, TkGood 8192 t) → ZN (T + sumT L) (L.foldl (fun b t => tokenZ t b) b).z
  | [], T, b, h, _ => h
  | t :: L, T, b, h, hL => by
    have h1 := ZN.run L (h.token (hL t (by simp))) (fun t ht => hL t (by simp [ht]))
    rw [List.foldl_cons]
    have e : T + t.text.length + sumT L = T + sumT (t :: L) := by unfold sumT; rw [List.map_cons, List.sum_cons]; omega
    rw [e] at h1
    exact h1
theorem ZN.top {T : Nat} {z : ZS} (h : ZN T z) : ∃ f, popAll z = [f] ∧ topN z = .mk 1 [] ⟨#[]⟩ f.kids ∧ KidsOk T 1 [] f ∧ f.tag = 1 := by
  have hp := List.length_pos_iff.2 h.ne
  have h1 : ZN T (popAll z) := h.popN (z.length - 1) (by omega)
  have h2 : (popAll z).length = 1 := by have := popN_len (z.length - 1) z (by omega); unfold popAll; omega
  match hz : popAll z, h1, h2 with
  | [f], h1, _ =>
    refine ⟨f, rfl, ?_, h1.2.2, h1.1⟩
    unfold topN
    rw [hz]
    show PN.mk f.tag f.attrs ⟨#[]⟩ f.kids = _
    rw [h1.1, h1.2.1]
theorem host_norm {L : List UInt8} (hL : L.length ≤ 8192) : ∃ ks, hostZ (tokens L) = .mk 1 [] ⟨#[]⟩ ks ∧ PN.norms 1 true false false false ks = true ∧ PN.sizes ks + 1 ≤ 2000 ∧ PN.bulks 32768 ks = true := by
  obtain ⟨h1, h2⟩ := tokens_good hL
  have h0 : ZN 0 startZ.z := ⟨rfl, rfl, rfl, rfl⟩
  have h3 := (ZN.run (tokens L) h0 h1).mono (M := 32768) (by omega)
  obtain ⟨f, e1, e2, ⟨k1, k2⟩, e3⟩ := ZN.top h3
  have hok := runZ_ok (L := tokens L) (M := 131072) (fun t ht => ((tokens_small hL).2 t ht).1) (tokens L).length
  rw [List.take_length] at hok
  have h4 := hok.popN ((runZ (tokens L)).z.length - 1) (by have := List.length_pos_iff.2 hok.ne; omega)
  have h5 : (List.map (fun f : ZF => 1 + PN.sizes f.kids) (popN ((runZ (tokens L)).z.length - 1) (runZ (tokens L)).z)).sum ≤ (runZ (tokens L)).cnt := h4.sum
  have h6 : (runZ (tokens L)).cnt ≤ 2000 := h4.cnt
  have e1 : popN ((runZ (tokens L)).z.length - 1) (runZ (tokens L)).z = [f] := e1
  rw [e1] at h5
  simp only [List.map_cons, List.map_nil, List.sum_cons, List.sum_nil] at h5
  refine ⟨f.kids, e2, ?_, by omega, k2⟩
  rw [e3] at k1
  exact k1
end Go.Proofs.YtalaajbajgdglaaGreatDoor
namespace Go.Proofs.YtalaajbajgdglaaGreatDoor
open Go Go.RowKit Go.BigFrame We
theorem bulk_fair : ∀ n : PN, n.bulk 32768 = true → n.fair = true := by
  refine PN.induct _ fun n ih hl => ?_
  rw [PN.bulk_eq] at hl
  simp only [Bool.and_eq_true, decide_eq_true_eq] at hl
  rw [PN.fair_eq, decide_eq_true (by omega), Bool.true_and]
  have h2 := PN.bulks_iff.1 hl.2
  clear hl
  obtain ⟨t, a, s, ks⟩ := n
  simp only [PN.kids] at ih h2 ⊢
  induction ks with
  | nil => rfl
  | cons k r ih2 =>
    unfold PN.fairs
    rw [ih k (by simp) (h2 k (by simp)), ih2 (fun k hk => ih k (by simp [hk])) fun k hk => h2 k (by simp [hk])]
    rfl
structure Built (n : PN) : Prop where
  norm : PN.norms 1 true false false false n.kids = true
  size : PN.sizes n.kids + 1 ≤ 2000
  bulk : PN.bulks 32768 n.kids = true
  tag : n = .mk 1 [] ⟨#[]⟩ n.kids
theorem Built.of {L : List UInt8} (hL : L.length ≤ 8192) : Built (hostZ (tokens L)) := by
  obtain ⟨ks, h1, h2, h3, h4⟩ := host_norm hL
  rw [h1]
  exact ⟨h2, h3, h4, rfl⟩
theorem Built.fair {n : PN} (h : Built n) : n.fair = true := bulk_fair n (by
  rw [h.tag]
  exact PN.bulk_mk (Nat.zero_le _) (Nat.zero_le _) h.bulk)
theorem cells4 {w : World} {bk : Nat} {c0 c1 c2 c3 : Value} {t : TypeId} (h : w.heap[bk]? = some (.cells #[c0, c1, c2, c3] t (0, 0))) : w.cell? ⟨bk, 0, none⟩ = some c0 ∧ w.cell? ⟨bk, 1, none⟩ = some c1 ∧ w.cell? ⟨bk, 2, none⟩ = some c2 ∧ w.cell? ⟨bk, 3, none⟩ = some c3 :=
  ⟨cellOf h (i := 0) (v := c0) rfl, cellOf h (i := 1) (v := c1) rfl, cellOf h (i := 2) (v := c2) rfl, cellOf h (i := 3) (v := c3) rfl⟩
end Go.Proofs.YtalaajbajgdglaaGreatDoor
namespace Go.Proofs.YtalaajbajgdglaaGreatDoor
open Go
structure RR where
  tag : Int
  attrs : List AttrB
  text : List UInt8
  up : Int
abbrev RL := List RR
def kidsI (all : RL) (i : Nat) : List Nat := (List.range all.length).filter fun j => decide (i < j) && (match all[j]? with | none => false | some r => r.up == (i : Int))
def plainF : Nat → RL → Nat → PN
  | 0, _, _ => .mk 0 [] ⟨#[]⟩ []
  | f + 1, all, i => match all[i]? with
    | none => .mk 0 [] ⟨#[]⟩ []
    | some r => .mk r.tag r.attrs (bs r.text) ((kidsI all i).map (plainF f all))
def plainR (all : RL) (i : Nat) : PN := plainF (all.length - i) all i
theorem kidsI_mem {all : RL} {i j : Nat} : j ∈ kidsI all i ↔ i < j ∧ ∃ r, all[j]? = some r ∧ r.up = i := by
  unfold kidsI
  rw [List.mem_filter, List.mem_range, Bool.and_eq_true, decide_eq_true_iff]
  constructor
  · rintro ⟨h1, h2, h3⟩
    rw [List.getElem?_eq_getElem h1] at h3 ⊢
    exact ⟨h2, _, rfl, by simpa using h3⟩
  · rintro ⟨h1, r, h2, h3⟩
    refine ⟨(List.getElem?_eq_some_iff.1 h2).1, h1, ?_⟩
    rw [h2]
    simpa using h3
theorem plainF_fuel (all : RL) : ∀ (f g i : Nat), all.length - i ≤ f → all.length - i ≤ g → i < all.length → plainF f all i = plainF g all i
  | 0, _, i, h, _, hi => by omega
  | _ + 1, 0, i, _, h, hi => by omega
  | f + 1, g + 1, i, h1, h2, hi => by
    unfold plainF
    rw [List.getElem?_eq_getElem hi]
    dsimp only
    congr 1
    refine List.map_congr_left fun j hj => ?_
    obtain ⟨a, r, b, c⟩ := kidsI_mem.1 hj
    have := (List.getElem?_eq_some_iff.1 b).1
    exact plainF_fuel all f g j (by omega) (by omega) this
theorem plainR_eq {all : RL} {i : Nat} {r : RR} (h : all[i]? = some r) : plainR all i = .mk r.tag r.attrs (bs r.text) ((kidsI all i).map (plainR all)) := by
  have hi := (List.getElem?_eq_some_iff.1 h).1
  obtain ⟨f, hf⟩ : ∃ f, all.length - i = f + 1 := ⟨all.length - i - 1, by omega⟩
  unfold plainR
  rw [hf]
  show (match all[i]? with
    | none => PN.mk 0 [] ⟨#[]⟩ []
    | some r => .mk r.tag r.attrs (bs r.text) ((kidsI all i).map (plainF f all))) = _
  rw [h]
  dsimp only
  congr 1
  refine List.map_congr_left fun j hj => ?_
  obtain ⟨a, r, b, c⟩ := kidsI_mem.1 hj
  have := (List.getElem?_eq_some_iff.1 b).1
  exact plainF_fuel all _ _ j (by omega) (by omega) this
theorem kidsI_app (all : RL) (r : RR) {i : Nat} (hi : i < all.length) : kidsI (all ++ [r]) i = kidsI all i ++ (if r.up = (i : Int) then [all.length] else []) := by
  unfold kidsI
  rw [List.length_append, List.length_cons, List.length_nil, List.range_succ, List.filter_append]
  congr 1
  · refine List.filter_congr fun j hj => ?_
    rw [List.getElem?_append_left (List.mem_range.1 hj)]
  · simp only [List.filter_cons, List.filter_nil, List.getElem?_concat_length]
    by_cases h : r.up = (i : Int)
    · simp [h, hi]
    · simp [h]
theorem kidsI_end (all : RL) (r : RR) : kidsI (all ++ [r]) all.length = [] := by
  refine List.eq_nil_iff_forall_not_mem.2 fun j hj => ?_
  obtain ⟨a, q, b, _⟩ := kidsI_mem.1 hj
  have := (List.getElem?_eq_some_iff.1 b).1
  simp at this
  omega
theorem plain_app {all : RL} {r : RR} {S : Nat → Prop} (h1 : ∀ i, S i → r.up ≠ (i : Int)) (h2 : ∀ i, S i → ∀ j ∈ kidsI all i, S j) {i : Nat} (hi : i < all.length) (hs : S i) : plainR (all ++ [r]) i = plainR all i := by
  have key : ∀ (f i : Nat), i < all.length → S i → plainF f (all ++ [r]) i = plainF f all i := by
    intro f
    induction f with
    | zero => intro i _ _; rfl
    | succ f ih =>
      intro i hi hs
      unfold plainF
      rw [List.getElem?_append_left hi, kidsI_app all r hi, if_neg (h1 i hs), List.append_nil]
      have : (kidsI all i).map (plainF f (all ++ [r])) = (kidsI all i).map (plainF f all) := List.map_congr_left fun j hj => by
        obtain ⟨_, q, b, _⟩ := kidsI_mem.1 hj
        exact ih j (List.getElem?_eq_some_iff.1 b).1 (h2 i hs j hj)
      rw [this]
  unfold plainR
  rw [key _ i hi hs, List.length_append, List.length_cons, List.length_nil]
  exact plainF_fuel all _ _ i (by omega) (by omega) hi
theorem kidsI_set {all : RL} {k : Nat} {r r2 : RR} (hk : all[k]? = some r) (hu : r2.up = r.up) (i : Nat) : kidsI (all.set k r2) i = kidsI all i := by
  unfold kidsI
  rw [List.length_set]
  refine List.filter_congr fun j hj => ?_
  by_cases e : k = j
  · subst e
    rw [List.getElem?_set_self (List.mem_range.1 hj), hk]
    dsimp only
    rw [hu]
  · rw [List.getElem?_set_ne e]
theorem plain_set {all : RL} {k : Nat} {r r2 : RR} (hk : all[k]? = some r) (hu : r2.up = r.up) {S : Nat → Prop} (h1 : ¬ S k) (h2 : ∀ i, S i → ∀ j ∈ kidsI all i, S j) {i : Nat} (hs : S i) : plainR (all.set k r2) i = plainR all i := by
  have key : ∀ (f i : Nat), S i → plainF f (all.set k r2) i = plainF f all i := by
    intro f
    induction f with
    | zero => intro i _; rfl
    | succ f ih =>
      intro i hs
      have hne : k ≠ i := fun e => h1 (e ▸ hs)
      unfold plainF
      rw [List.getElem?_set_ne hne, kidsI_set hk hu i]
      have : (kidsI all i).map (plainF f (all.set k r2)) = (kidsI all i).map (plainF f all) := List.map_congr_left fun j hj => ih j (h2 i hs j hj)
      rw [this]
  unfold plainR
  rw [key _ i hs, List.length_set]
def upOf : List Nat → Int
  | [] => -1
  | p :: _ => p
structure RelO (all : RL) (F pd : List Nat) (o : Nat) (os : List Nat) (f : ZF) : Prop where
  nd : ∃ r, all[o]? = some r ∧ r.tag = f.tag ∧ r.attrs = f.attrs ∧ r.text = [] ∧ r.up = upOf os
  kids : ∃ cs, kidsI all o = cs ++ pd ∧ cs.map (plainR all) = f.kids ∧ ∀ c ∈ cs, c ∉ F
  low : ∀ p ∈ os, p < o
def RelK (all : RL) (F : List Nat) : List Nat → List Nat → ZS → Prop
  | _, [], [] => True
  | pd, o :: os, f :: z => RelO all F pd o os f ∧ RelK all F [o] os z
  | _, _, _ => False
theorem RelK.mono {all : RL} {F F2 : List Nat} (hs : ∀ c ∈ F2, c ∈ F) : ∀ {pd O : List Nat} {z : ZS}, RelK all F pd O z → RelK all F2 pd O z
  | _, [], [], _ => trivial
  | pd, o :: os, f :: z, h => by
    obtain ⟨⟨h1, ⟨cs, h2, h3, h4⟩, h5⟩, h6⟩ := h
    exact ⟨⟨h1, ⟨cs, h2, h3, fun c hc hf => h4 c hc (hs c hf)⟩, h5⟩, h6.mono hs⟩
theorem RelK.len {all : RL} {F : List Nat} : ∀ {pd O : List Nat} {z : ZS}, RelK all F pd O z → O.length = z.length
  | _, [], [], _ => rfl
  | pd, o :: os, f :: z, h => by rw [List.length_cons, List.length_cons, h.2.len]
theorem RelK.lt {all : RL} {F : List Nat} : ∀ {pd O : List Nat} {z : ZS}, RelK all F pd O z → ∀ o ∈ O, o < all.length
  | _, [], [], _, o, h => nomatch h
  | pd, q :: os, f :: z, h, o, ho => by
    rcases List.mem_cons.1 ho with rfl | ho
    · obtain ⟨r, h1, _⟩ := h.1.nd
      exact (List.getElem?_eq_some_iff.1 h1).1
    · exact h.2.lt o ho
theorem RelK.up {all : RL} {F : List Nat} : ∀ {pd O : List Nat} {z : ZS}, RelK all F pd O z → ∀ o ∈ O, ∃ r, all[o]? = some r ∧ (r.up = -1 ∨ ∃ p ∈ O, r.up = (p : Nat))
  | _, [], [], _, o, h => nomatch h
  | pd, q :: os, f :: z, h, o, ho => by
    rcases List.mem_cons.1 ho with rfl | ho
    · obtain ⟨r, h1, _, _, _, h2⟩ := h.1.nd
      refine ⟨r, h1, ?_⟩
      cases os with
      | nil => exact .inl h2
      | cons p os => exact .inr ⟨p, by simp, h2⟩
    · obtain ⟨r, h1, h2⟩ := h.2.up o ho
      refine ⟨r, h1, h2.imp id ?_⟩
      rintro ⟨p, hp, e⟩
      exact ⟨p, List.mem_cons_of_mem _ hp, e⟩
theorem RelK.closed {all : RL} {pd O : List Nat} {F : List Nat} {z : ZS} (h : RelK all F pd O z) {i : Nat} (hi : i ∉ O) : ∀ j ∈ kidsI all i, j ∉ O := by
  intro j hj hO
  obtain ⟨_, r, h1, h2⟩ := kidsI_mem.1 hj
  obtain ⟨r2, h3, h4⟩ := h.up j hO
  rw [h1] at h3
  obtain rfl : r = r2 := by simpa using h3
  rcases h4 with h4 | ⟨p, hp, h4⟩
  · omega
  · exact hi (by rw [show i = p by omega]; exact hp)
theorem RelO.node {all : RL} {F : List Nat} {o : Nat} {os : List Nat} {f : ZF} (h : RelO all F [] o os f) : plainR all o = f.node := by
  obtain ⟨⟨r, h1, h2, h3, h4, _⟩, ⟨cs, h5, h6, _⟩, _⟩ := h
  rw [plainR_eq h1, h2, h3, h4, h5, List.append_nil, h6]
  rfl
theorem RelK.pop1 {all : RL} {o p : Nat} {os : List Nat} {z : ZS} (h : RelK all (o :: p :: os) [] (o :: p :: os) z) : RelK all (p :: os) [] (p :: os) (pop1 z) := by
  match z, h with
  | f :: g :: z, h =>
    have hn := h.1.node
    have hlow := h.1.low
    obtain ⟨⟨h1, ⟨cs, h2, h3, h4⟩, h5⟩, h6⟩ := h.2
    refine ⟨⟨h1, ⟨cs ++ [o], by rw [h2, List.append_nil], by rw [List.map_append, h3, List.map_cons, List.map_nil, hn]; rfl, fun c hc hF => ?_⟩, h5⟩, h6.mono fun c hc => List.mem_cons_of_mem _ hc⟩
    rcases List.mem_append.1 hc with hc | hc
    · exact h4 c hc (List.mem_cons_of_mem _ hF)
    · obtain rfl : c = o := by simpa using hc
      exact absurd (hlow c hF) (Nat.lt_irrefl _)
  | [], h => exact h.elim
  | [f], h => exact h.2.elim
theorem RelK.popN {all : RL} : ∀ {n : Nat} {O : List Nat} {z : ZS}, RelK all O [] O z → n < O.length → RelK all (O.drop n) [] (O.drop n) (popN n z)
  | 0, O, z, h, _ => h
  | n + 1, [], z, h, hn => absurd hn (by simp)
  | n + 1, [o], z, h, hn => absurd hn (by simp)
  | n + 1, o :: p :: os, z, h, hn => by
    have h1 := h.pop1
    exact RelK.popN (n := n) h1 (by simpa using hn)
theorem RelK.grow {all : RL} {r : RR} {F F2 : List Nat} (hF : ∀ i, i ∉ F → r.up ≠ (i : Int) ∧ ∀ j ∈ kidsI all i, j ∉ F) (hF2 : ∀ c ∈ F2, c ∈ F ∨ c = all.length) : ∀ {pd O : List Nat} {z : ZS}, RelK all F pd O z → (∀ o ∈ O, r.up ≠ (o : Int)) → RelK (all ++ [r]) F2 pd O z
  | _, [], [], _, _ => trivial
  | pd, o :: os, f :: z, h, hu => by
    obtain ⟨⟨⟨q, h1, h1'⟩, ⟨cs, h2, h3, h4⟩, h5⟩, h6⟩ := h
    have hlt := (List.getElem?_eq_some_iff.1 h1).1
    have hcl : ∀ c ∈ cs, c < all.length := fun c hc => by
      have hck : c ∈ kidsI all o := by rw [h2]; exact List.mem_append_left _ hc
      obtain ⟨_, rc, hr, _⟩ := kidsI_mem.1 hck
      exact (List.getElem?_eq_some_iff.1 hr).1
    refine ⟨⟨⟨q, by rw [List.getElem?_append_left hlt, h1], h1'⟩, ⟨cs, by rw [kidsI_app all r hlt, if_neg (hu o (by simp)), List.append_nil, h2], ?_, fun c hc hf => ?_⟩, h5⟩, h6.grow hF hF2 fun x hx => hu x (List.mem_cons_of_mem _ hx)⟩
    · rw [← h3]
      refine List.map_congr_left fun c hc => ?_
      exact plain_app (S := fun i => i ∉ F) (fun i hi => (hF i hi).1) (fun i hi => (hF i hi).2) (hcl c hc) (h4 c hc)
    · rcases hF2 c hf with hf | hf
      · exact h4 c hc hf
      · have := hcl c hc; omega
theorem RelK.fill {all : RL} {k : Nat} {r r2 : RR} (hk : all[k]? = some r) (hu : r2.up = r.up) {F : List Nat} (hkF : k ∉ F) (hF : ∀ i, i ∉ F → i ≠ k → ∀ j ∈ kidsI all i, j ∉ F ∧ j ≠ k) : ∀ {pd O : List Nat} {z : ZS}, RelK all F pd O z → (∀ o ∈ O, o ∈ F ∧ r.up ≠ (o : Int)) → RelK (all.set k r2) F pd O z
  | _, [], [], _, _ => trivial
  | pd, o :: os, f :: z, h, hO => by
    obtain ⟨⟨⟨q, h1, h1'⟩, ⟨cs, h2, h3, h4⟩, h5⟩, h6⟩ := h
    have hok : k ≠ o := fun e => hkF (e ▸ (hO o (by simp)).1)
    refine ⟨⟨⟨q, by rw [List.getElem?_set_ne hok, h1], h1'⟩, ⟨cs, by rw [kidsI_set hk hu, h2], ?_, h4⟩, h5⟩, h6.fill hk hu hkF hF fun x hx => hO x (List.mem_cons_of_mem _ hx)⟩
    rw [← h3]
    refine List.map_congr_left fun c hc => ?_
    have hck : c ∈ kidsI all o := by rw [h2]; exact List.mem_append_left _ hc
    refine plain_set hk hu (S := fun i => i ∉ F ∧ i ≠ k) (fun h => h.2 rfl) (fun i hi => hF i hi.1 hi.2) ⟨h4 c hc, ?_⟩
    rintro rfl
    obtain ⟨_, rc, hr, he⟩ := kidsI_mem.1 hck
    rw [hk] at hr
    obtain rfl : r = rc := by simpa using hr
    exact (hO o (by simp)).2 he
structure RZ where
  all : RL
  op : List Nat
def tagQ (all : RL) (o : Nat) : Int := match all[o]? with
  | none => 0
  | some r => r.tag
def RZ.tags (r : RZ) : List Int := r.op.map (tagQ r.all)
structure Rel (r : RZ) (b : BZ) : Prop where
  rel : RelK r.all r.op [] r.op b.z
  cnt : r.all.length = b.cnt
  ne : r.op ≠ []
  zero : r.op.getLast? = some 0
theorem RelK.tags {all : RL} {F : List Nat} : ∀ {pd O : List Nat} {z : ZS}, RelK all F pd O z → O.map (tagQ all) = tagsZ z
  | _, [], [], _ => rfl
  | pd, o :: os, f :: z, h => by
    have h1 : os.map (tagQ all) = tagsZ z := h.2.tags
    obtain ⟨r, h2, h3, _⟩ := h.1.nd
    show tagQ all o :: os.map (tagQ all) = f.tag :: tagsZ z
    rw [h1]
    unfold tagQ
    rw [h2]
    dsimp only
    rw [h3]
theorem Rel.tags {r : RZ} {b : BZ} (h : Rel r b) : r.tags = tagsZ b.z := h.rel.tags
theorem Rel.drop {r : RZ} {b : BZ} (h : Rel r b) {n : Nat} (hn : n < r.op.length) : Rel ⟨r.all, r.op.drop n⟩ ⟨popN n b.z, b.cnt⟩ := ⟨h.rel.popN hn, h.cnt, fun e => by
  have := congrArg List.length e
  simp only [List.length_drop, List.length_nil] at this
  omega, by
  show (r.op.drop n).getLast? = _
  rw [List.getLast?_drop, if_neg (by omega)]
  exact h.zero⟩
def RZ.put (r : RZ) (tag : Int) (attrs : List AttrB) (text : List UInt8) : RL := r.all ++ [⟨tag, attrs, text, upOf r.op⟩]
theorem Rel.put {r : RZ} {b : BZ} (h : Rel r b) (tag : Int) (attrs : List AttrB) (text : List UInt8) : Rel ⟨r.put tag attrs text, r.op⟩ (b.add (.mk tag attrs (bs text) [])) := by
  obtain ⟨all, op⟩ := r
  obtain ⟨z, cnt⟩ := b
  obtain ⟨hr, hc, hne, hz0⟩ := h
  dsimp only at hr hc hne hz0
  match op, z, hr, hne, hz0 with
  | o :: os, f :: z, hr, hne, hz0 =>
    have hup : ∀ i, i ∉ (o :: os) → (o : Int) ≠ (i : Int) ∧ ∀ j ∈ kidsI all i, j ∉ (o :: os) := fun i hi => ⟨fun e => hi (by rw [show i = o by omega]; simp), hr.closed hi⟩
    obtain ⟨⟨⟨q, h1, h1'⟩, ⟨cs, h2, h3, h4⟩, h5⟩, h6⟩ := hr
    have hlt := (List.getElem?_eq_some_iff.1 h1).1
    refine ⟨⟨⟨⟨q, by show (all ++ _)[o]? = _; rw [List.getElem?_append_left hlt, h1], h1'⟩, ⟨cs ++ [all.length], ?_, ?_, ?_⟩, h5⟩, h6.grow (r := ⟨tag, attrs, text, (o : Int)⟩) hup (fun c hc => .inl hc) fun p hp e => ?_⟩, ?_, List.cons_ne_nil _ _, hz0⟩
    · show kidsI (all ++ [⟨tag, attrs, text, (o : Int)⟩]) o = _
      rw [kidsI_app all _ hlt, if_pos rfl, h2, List.append_nil, List.append_nil]
    · show (cs ++ [all.length]).map (plainR (all ++ [⟨tag, attrs, text, (o : Int)⟩])) = f.kids ++ [_]
      rw [List.map_append, List.map_cons, List.map_nil, plainR_eq (r := ⟨tag, attrs, text, (o : Int)⟩) (List.getElem?_concat_length ..), kidsI_end, ← h3]
      congr 1
      refine List.map_congr_left fun c hc => ?_
      have hck : c ∈ kidsI all o := by rw [h2]; exact List.mem_append_left _ hc
      obtain ⟨_, rc, hrc, _⟩ := kidsI_mem.1 hck
      exact plain_app (S := fun i => i ∉ (o :: os)) (fun i hi => (hup i hi).1) (fun i hi => (hup i hi).2) (List.getElem?_eq_some_iff.1 hrc).1 (h4 c hc)
    · intro c hc hF
      rcases List.mem_append.1 hc with hc | hc
      · exact h4 c hc hF
      · obtain rfl : c = all.length := by simpa using hc
        rcases List.mem_cons.1 hF with e | e
        · omega
        · have := h5 _ e; omega
    · have := h5 p hp
      have e : (o : Int) = (p : Int) := e
      omega
    · show (all ++ [_]).length = cnt + 1
      rw [List.length_append, List.length_cons, List.length_nil, ← hc]
theorem Rel.open {r : RZ} {b : BZ} (h : Rel r b) (tag : Int) (attrs : List AttrB) : Rel ⟨r.put tag attrs [], r.all.length :: r.op⟩ ⟨⟨tag, attrs, []⟩ :: b.z, b.cnt + 1⟩ := by
  obtain ⟨all, op⟩ := r
  obtain ⟨z, cnt⟩ := b
  obtain ⟨hr, hc, hne, hz0⟩ := h
  dsimp only at hr hc hne hz0
  have hl := hr.lt
  match op, z, hr, hne, hz0 with
  | o :: os, f :: z, hr, hne, hz0 =>
    have hup : ∀ i, i ∉ (o :: os) → (o : Int) ≠ (i : Int) ∧ ∀ j ∈ kidsI all i, j ∉ (o :: os) := fun i hi => ⟨fun e => hi (by rw [show i = o by omega]; simp), hr.closed hi⟩
    obtain ⟨⟨⟨q, h1, h1'⟩, ⟨cs, h2, h3, h4⟩, h5⟩, h6⟩ := hr
    have hlt := (List.getElem?_eq_some_iff.1 h1).1
    have hcl : ∀ c ∈ cs, c < all.length := fun c hc => by
      have hck : c ∈ kidsI all o := by rw [h2]; exact List.mem_append_left _ hc
      obtain ⟨_, rc, hr, _⟩ := kidsI_mem.1 hck
      exact (List.getElem?_eq_some_iff.1 hr).1
    refine ⟨⟨⟨⟨⟨tag, attrs, [], (o : Int)⟩, List.getElem?_concat_length .., rfl, rfl, rfl, rfl⟩, ⟨[], ?_, rfl, fun c hc => nomatch hc⟩, hl⟩, ⟨⟨q, by show (all ++ _)[o]? = _; rw [List.getElem?_append_left hlt, h1], h1'⟩, ⟨cs, ?_, ?_, ?_⟩, h5⟩, h6.grow (r := ⟨tag, attrs, [], (o : Int)⟩) hup (fun c hc => (List.mem_cons.1 hc).symm) fun p hp e => ?_⟩, ?_, List.cons_ne_nil _ _, by show (all.length :: o :: os).getLast? = _; rw [List.getLast?_cons_cons]; exact hz0⟩
    · exact kidsI_end _ _
    · show kidsI (all ++ [⟨tag, attrs, [], (o : Int)⟩]) o = cs ++ [all.length]
      rw [kidsI_app all _ hlt, if_pos rfl, h2, List.append_nil]
    · show cs.map (plainR (all ++ [⟨tag, attrs, [], (o : Int)⟩])) = f.kids
      rw [← h3]
      refine List.map_congr_left fun c hc => ?_
      exact plain_app (S := fun i => i ∉ (o :: os)) (fun i hi => (hup i hi).1) (fun i hi => (hup i hi).2) (hcl c hc) (h4 c hc)
    · intro c hc hF
      rcases List.mem_cons.1 hF with e | hF
      · exact absurd (hcl c hc) (by rw [e]; exact Nat.lt_irrefl _)
      · exact h4 c hc hF
    · have := h5 p hp
      have e : (o : Int) = (p : Int) := e
      omega
    · show (all ++ [_]).length = cnt + 1
      rw [List.length_append, List.length_cons, List.length_nil, ← hc]
def lastI (all : RL) (o : Nat) : Option Nat := (kidsI all o).getLast?
def setText (all : RL) (k : Nat) (s : List UInt8) : RL := match all[k]? with
  | none => all
  | some r => all.set k ⟨r.tag, r.attrs, r.text ++ s, r.up⟩
def lastTextI (all : RL) (o : Nat) : Option Nat := match lastI all o with
  | none => none
  | some k => if tagQ all k = 0 then some k else none
def textQ (s : List UInt8) (r : RZ) : RZ := match r.op with
  | [] => r
  | o :: os => if boxT (tagQ r.all o) && s.all blankB then r else
    match lastTextI r.all o with
    | some k => ⟨setText r.all k s, r.op⟩
    | none => if roomB r.all.length r.op.length then ⟨r.put 0 [] s, r.op⟩ else r
def beginQ (tag : Int) (attrs : List AttrB) (r : RZ) : RZ :=
  let q : RZ := ⟨r.all, r.op.drop (aheadC tag r.tags)⟩
  if roomB q.all.length q.op.length then ⟨q.put tag attrs [], if clsT tag = 5 then q.op else q.all.length :: q.op⟩ else r
def tokenQ (t : Tk) (r : RZ) : RZ :=
  if t.kind = 1 then textQ t.text r else match findT t.name with
  | none => r
  | some tag => if t.kind = 2 then beginQ tag t.attrs r else ⟨r.all, r.op.drop (closeC (· == tag) (fun _ => false) r.tags)⟩
def startQ : RZ := ⟨[⟨1, [], [], -1⟩], [0]⟩
def runQ (l : List Tk) : RZ := l.foldl (fun b t => tokenQ t b) startQ
theorem Rel.start : Rel startQ startZ := ⟨⟨⟨⟨_, rfl, rfl, rfl, rfl, rfl⟩, ⟨[], rfl, rfl, fun c h => nomatch h⟩, fun p h => nomatch h⟩, trivial⟩, rfl, List.cons_ne_nil _ _, rfl⟩
theorem Rel.text {r : RZ} {b : BZ} (h : Rel r b) (h0 : ∀ o ∈ r.op, tagQ r.all o ≠ 0) (s : List UInt8) : Rel (textQ s r) (textZ s b) := by
  have hput := h.put 0 [] s
  obtain ⟨all, op⟩ := r
  obtain ⟨z, cnt⟩ := b
  have hlen := h.rel.len
  have hcn := h.cnt
  obtain ⟨hr, hc, hne, hz0⟩ := h
  dsimp only at hr hc hne hz0
  match op, z, hr, hne, hz0, hlen, hput, h0 with
  | o :: os, f :: z, hr, hne, hz0, hlen, hput, h0 =>
    have ht : tagQ all o = f.tag := by
      obtain ⟨r, h2, h3, _⟩ := hr.1.nd
      unfold tagQ
      rw [h2]
      exact h3
    unfold textQ textZ
    dsimp only
    rw [ht]
    split
    · exact ⟨hr, hc, hne, hz0⟩
    · have hroom : Rel (if roomB all.length (o :: os).length then ⟨RZ.put ⟨all, o :: os⟩ 0 [] s, o :: os⟩ else ⟨all, o :: os⟩) (if roomB cnt (f :: z).length then BZ.add ⟨f :: z, cnt⟩ (.mk 0 [] (bs s) []) else ⟨f :: z, cnt⟩) := by
        have hcn : all.length = cnt := hcn
        rw [hcn, hlen]
        split
        · exact hput
        · exact ⟨hr, hcn, hne, hz0⟩
      have hcl := fun i hi => hr.closed (i := i) hi
      have hup := hr.up
      obtain ⟨⟨⟨q, h1, q1, q2, q3, q4⟩, ⟨cs, h2, h3, h4⟩, h5⟩, h6⟩ := hr
      rw [List.append_nil] at h2
      rcases List.eq_nil_or_concat cs with rfl | ⟨ds, k, rfl⟩
      · have e1 : lastTextI all o = none := by unfold lastTextI lastI; rw [h2]; rfl
        have e2 : lastText f.kids = none := by rw [← h3]; rfl
        rw [e1, e2]
        exact hroom
      · rw [List.concat_eq_append] at h2 h3 h4
        have e1 : lastI all o = some k := by unfold lastI; rw [h2]; simp
        have hkO : k ∉ (o :: os) := h4 k (by simp)
        obtain ⟨hok, rk, hrk, hku⟩ := kidsI_mem.1 (show k ∈ kidsI all o by rw [h2]; simp)
        have hpk := plainR_eq hrk
        have e2 : f.kids = ds.map (plainR all) ++ [plainR all k] := by rw [← h3, List.map_append]; rfl
        have e3 : lastText f.kids = if rk.tag = 0 then some (plainR all k) else none := by
          unfold lastText
          rw [e2]
          simp only [List.getLast?_concat]
          rw [hpk]
          rfl
        have e4 : tagQ all k = rk.tag := by unfold tagQ; rw [hrk]
        have e5 : lastTextI all o = if rk.tag = 0 then some k else none := by unfold lastTextI; rw [e1]; dsimp only; rw [e4]
        rw [e5, e3]
        by_cases hk0 : rk.tag = 0
        · rw [if_pos hk0, if_pos hk0]
          dsimp only
          have es : setText all k s = all.set k ⟨rk.tag, rk.attrs, rk.text ++ s, rk.up⟩ := by unfold setText; rw [hrk]
          rw [es]
          have hF : ∀ i, i ∉ (o :: os) → i ≠ k → ∀ j ∈ kidsI all i, j ∉ (o :: os) ∧ j ≠ k := by
            intro i hi _ j hj
            refine ⟨hcl i hi j hj, ?_⟩
            rintro rfl
            obtain ⟨_, rc, hrc, he⟩ := kidsI_mem.1 hj
            rw [hrk] at hrc
            obtain rfl : rk = rc := by simpa using hrc
            exact hi (by rw [show i = o by omega]; simp)
          have hko : k ≠ o := fun e => hkO (by rw [e]; simp)
          refine ⟨⟨⟨⟨q, by show (all.set k _)[o]? = _; rw [List.getElem?_set_ne hko, h1], q1, q2, q3, q4⟩, ⟨ds ++ [k], ?_, ?_, fun c hc => h4 c hc⟩, h5⟩, h6.fill (r2 := ⟨rk.tag, rk.attrs, rk.text ++ s, rk.up⟩) hrk rfl hkO hF fun p hp => ⟨List.mem_cons_of_mem _ hp, ?_⟩⟩, by rw [List.length_set]; exact hc, List.cons_ne_nil _ _, hz0⟩
          · show kidsI (all.set k _) o = _
            rw [kidsI_set (r2 := ⟨rk.tag, rk.attrs, rk.text ++ s, rk.up⟩) hrk rfl, h2, List.append_nil]
          · show (ds ++ [k]).map (plainR (all.set k ⟨rk.tag, rk.attrs, rk.text ++ s, rk.up⟩)) = f.kids.dropLast ++ [_]
            rw [List.map_append, List.map_cons, List.map_nil, e2, List.dropLast_concat]
            have hkl := (List.getElem?_eq_some_iff.1 hrk).1
            have hnk : ∀ c ∈ ds, c ≠ k := by
              intro c hc e
              have hnd : (kidsI all o).Nodup := List.Pairwise.filter _ List.nodup_range
              rw [h2, List.nodup_append] at hnd
              exact hnd.2.2 c hc k (by simp) e
            have g1 : ds.map (plainR (all.set k ⟨rk.tag, rk.attrs, rk.text ++ s, rk.up⟩)) = ds.map (plainR all) := List.map_congr_left fun c hc =>
              plain_set (r2 := ⟨rk.tag, rk.attrs, rk.text ++ s, rk.up⟩) hrk rfl (S := fun i => i ∉ (o :: os) ∧ i ≠ k) (fun h => h.2 rfl) (fun i hi => hF i hi.1 hi.2) ⟨h4 c (List.mem_append_left _ hc), hnk c hc⟩
            have g2 : plainR (all.set k ⟨rk.tag, rk.attrs, rk.text ++ s, rk.up⟩) k = .mk rk.tag rk.attrs (bs (rk.text ++ s)) ((kidsI all k).map (plainR all)) := by
              rw [plainR_eq (r := ⟨rk.tag, rk.attrs, rk.text ++ s, rk.up⟩) (List.getElem?_set_self hkl), kidsI_set (r2 := ⟨rk.tag, rk.attrs, rk.text ++ s, rk.up⟩) hrk rfl]
              congr 1
              refine List.map_congr_left fun c hc => ?_
              have hck := kidsI_mem.1 hc
              refine plain_set (r2 := ⟨rk.tag, rk.attrs, rk.text ++ s, rk.up⟩) hrk rfl (S := fun i => i ∉ (o :: os) ∧ i ≠ k) (fun h => h.2 rfl) (fun i hi => hF i hi.1 hi.2) ⟨hcl k hkO c hc, by omega⟩
            rw [g1, g2, hpk, hk0]
            rfl
          · have := h5 p hp
            omega
        · rw [if_neg hk0, if_neg hk0]
          exact hroom
theorem Rel.ahead {r : RZ} {b : BZ} (h : Rel r b) (tag : Int) : Rel ⟨r.all, r.op.drop (aheadC tag r.tags)⟩ ⟨aheadZ tag b.z, b.cnt⟩ := by
  have hl := h.rel.len
  have hz : b.z ≠ [] := fun e => by
    rw [e] at hl
    exact h.ne (List.eq_nil_of_length_eq_zero hl)
  obtain ⟨e1, e2⟩ := aheadZ_eq tag b.z hz
  rw [e1, h.tags]
  exact h.drop (by omega)
theorem Rel.begin {r : RZ} {b : BZ} (h : Rel r b) (tag : Int) (attrs : List AttrB) : Rel (beginQ tag attrs r) (if roomB b.cnt (aheadZ tag b.z).length then openZ tag attrs ⟨aheadZ tag b.z, b.cnt⟩ else b) := by
  have ha := h.ahead tag
  have hl := ha.rel.len
  have hcn := h.cnt
  unfold beginQ
  dsimp only at hl ⊢
  have e : roomB r.all.length (r.op.drop (aheadC tag r.tags)).length = roomB b.cnt (aheadZ tag b.z).length := by rw [hl, hcn]
  rw [e]
  split
  · unfold openZ
    split
    · exact ha.put tag attrs []
    · exact ha.open tag attrs
  · exact h
theorem Rel.close {r : RZ} {b : BZ} (h : Rel r b) (tag : Int) : Rel ⟨r.all, r.op.drop (closeC (· == tag) (fun _ => false) r.tags)⟩ ⟨closeZ (· == tag) (fun _ => false) b.z, b.cnt⟩ := by
  have hl := h.rel.len
  have hz : b.z ≠ [] := fun e => by
    rw [e] at hl
    exact h.ne (List.eq_nil_of_length_eq_zero hl)
  have h2 := closeZ_len (· == tag) (fun _ => false) b.z hz
  rw [h.tags]
  exact h.drop (by omega)
def BZ.NoT (b : BZ) : Prop := ∀ t ∈ tagsZ b.z, t ≠ 0
theorem Rel.token {r : RZ} {b : BZ} (h : Rel r b) (h0 : b.NoT) {t : Tk} (hk : t.kind = 1 ∨ t.kind = 2 ∨ t.kind = 3) : Rel (tokenQ t r) (tokenZ t b) := by
  unfold tokenQ tokenZ
  by_cases h1 : t.kind = 1
  · rw [if_pos h1, if_pos h1]
    refine h.text (fun o ho => h0 _ ?_) _
    rw [← h.tags]
    exact List.mem_map.2 ⟨o, ho, rfl⟩
  · rw [if_neg h1, if_neg h1]
    cases findT t.name with
    | none => exact h
    | some tag =>
      dsimp only
      rcases hk with hk | hk | hk
      · exact absurd hk h1
      · rw [if_pos hk, if_neg (by omega)]
        exact h.begin tag t.attrs
      · rw [if_neg (by omega), if_pos hk]
        exact h.close tag
theorem Rel.top {r : RZ} {b : BZ} (h : Rel r b) : plainR r.all 0 = topN b.z := by
  have hl := h.rel.len
  have hp : 0 < r.op.length := List.length_pos_iff.2 h.ne
  have h1 := h.drop (n := r.op.length - 1) (by omega)
  obtain ⟨h2, _, _, h3⟩ := h1
  have hd : ∃ o, r.op.drop (r.op.length - 1) = [o] := by
    obtain ⟨o, ho⟩ := List.length_eq_one_iff.1 (show (r.op.drop (r.op.length - 1)).length = 1 by rw [List.length_drop]; omega)
    exact ⟨o, ho⟩
  obtain ⟨o, ho⟩ := hd
  dsimp only at h2 h3
  rw [ho] at h2 h3
  obtain rfl : o = 0 := by simpa using h3
  unfold topN popAll
  rw [← hl]
  obtain ⟨z, hz⟩ : ∃ z, popN (r.op.length - 1) b.z = z := ⟨_, rfl⟩
  rw [hz] at h2 ⊢
  match z, h2 with
  | f :: z, h2 => exact h2.1.node
theorem findT_ne {n : List UInt8} {tag : Int} (h : findT n = some tag) : tag ≠ 0 := by
  unfold findT at h
  rw [Option.map_eq_some_iff] at h
  obtain ⟨p, hp, rfl⟩ := h
  have := List.mem_of_find?_eq_some hp
  revert this
  have : ∀ p ∈ namesT, p.2 ≠ 0 := by decide
  exact this p
theorem NoT.mono {b : BZ} (h : b.NoT) {n : Nat} (hn : n < b.z.length) (c : Nat) : BZ.NoT ⟨popN n b.z, c⟩ := by
  intro t ht
  have e : tagsZ (popN n b.z) = (tagsZ b.z).drop n := popN_tags n b.z hn
  rw [show tagsZ (BZ.mk (popN n b.z) c).z = (tagsZ b.z).drop n from e] at ht
  exact h t (List.mem_of_mem_drop ht)
theorem NoT.add {b : BZ} (h : b.NoT) (n : PN) : (b.add n).NoT := by
  obtain ⟨z, c⟩ := b
  cases z with
  | nil => exact h
  | cons f z => exact h
theorem NoT.token {b : BZ} (h : b.NoT) (hne : b.z ≠ []) (t : Tk) : (tokenZ t b).NoT := by
  unfold tokenZ
  split
  · unfold textZ
    obtain ⟨z, c⟩ := b
    cases z with
    | nil => exact h
    | cons f z =>
      dsimp only
      split
      · exact h
      · split
        · exact h
        · split
          · exact NoT.add h _
          · exact h
  · cases hf : findT t.name with
    | none => exact h
    | some tag =>
      dsimp only
      split
      · have h2 := closeZ_len (· == tag) (fun _ => false) b.z hne
        exact NoT.mono h h2.2 _
      · split
        · obtain ⟨e1, e2⟩ := aheadZ_eq tag b.z hne
          have h3 : BZ.NoT ⟨aheadZ tag b.z, b.cnt⟩ := by rw [e1]; exact NoT.mono h e2 _
          unfold openZ
          split
          · exact NoT.add h3 _
          · intro x hx
            rcases List.mem_cons.1 (show x ∈ tag :: tagsZ (aheadZ tag b.z) from hx) with rfl | hx
            · exact findT_ne hf
            · exact h3 x hx
        · exact h
theorem rel_run {L : List Tk} (hk : ∀ t ∈ L, t.kind = 1 ∨ t.kind = 2 ∨ t.kind = 3) : Rel (runQ L) (runZ L) ∧ (runZ L).NoT := by
  have key : ∀ (L : List Tk) (r : RZ) (b : BZ), (∀ t ∈ L, t.kind = 1 ∨ t.kind = 2 ∨ t.kind = 3) → Rel r b → b.NoT → Rel (L.foldl (fun b t => tokenQ t b) r) (L.foldl (fun b t => tokenZ t b) b) ∧ (L.foldl (fun b t => tokenZ t b) b).NoT := by
    intro L
    induction L with
    | nil => intro r b _ h h0; exact ⟨h, h0⟩
    | cons t L ih =>
      intro r b hk h h0
      have hl := h.rel.len
      exact ih _ _ (fun x hx => hk x (List.mem_cons_of_mem _ hx)) (h.token h0 (hk t (by simp))) (NoT.token h0 (fun e => by rw [e] at hl; exact h.ne (List.eq_nil_of_length_eq_zero hl)) t)
  exact key L _ _ hk Rel.start (by intro t ht; rcases List.mem_cons.1 (show t ∈ [(1 : Int)] from ht) with rfl | h; · decide
                                   · cases h)
theorem rel_host {L : List Tk} (hk : ∀ t ∈ L, t.kind = 1 ∨ t.kind = 2 ∨ t.kind = 3) : plainR (runQ L).all 0 = hostZ L := (rel_run hk).1.top
end Go.Proofs.YtalaajbajgdglaaGreatDoor
namespace Go.Proofs.YtalaajbajgdglaaGreatDoor
open Go Go.RowKit Go.BigFrame We
abbrev RRA := RR × Value
def rrC (p : RRA) : List Value := [.int .i64 p.1.tag, p.2, .string (bs p.1.text), .slice none 0 0, .int .i64 p.1.up]
theorem rrC_len (p : RRA) : (rrC p).length = 5 := rfl
def rrCells (L : List RRA) : List Value := L.flatMap rrC
theorem rrCells_len (L : List RRA) : (rrCells L).length = L.length * 5 := by
  induction L with
  | nil => rfl
  | cons p L ih =>
    show (rrC p ++ rrCells L).length = _
    rw [List.length_append, ih, rrC_len, List.length_cons]
    omega
theorem rrCells_append (a b : List RRA) : rrCells (a ++ b) = rrCells a ++ rrCells b := List.flatMap_append
theorem rrCells_get {L : List RRA} {i f : Nat} {p : RRA} {v : Value} (h : L[i]? = some p) (hv : (rrC p)[f]? = some v) : (rrCells L)[i * 5 + f]? = some v := by
  have hf := (List.getElem?_eq_some_iff.1 hv).1
  rw [rrC_len] at hf
  induction L generalizing i with
  | nil => cases h
  | cons q L ih =>
    show (rrC q ++ rrCells L)[i * 5 + f]? = _
    cases i with
    | zero =>
      have : q = p := by simpa using h
      subst this
      rw [Nat.zero_mul, Nat.zero_add, List.getElem?_append_left (by rw [rrC_len]; exact hf)]
      exact hv
    | succ i =>
      rw [List.getElem?_append_right (by rw [rrC_len]; omega), rrC_len, show (i + 1) * 5 + f - 5 = i * 5 + f by omega]
      exact ih (by simpa using h)
theorem rrCells_set {L : List RRA} {i f : Nat} {p p' : RRA} {v : Value} (h : L[i]? = some p) (hf : f < 5) (hv : (rrC p).set f v = rrC p') : (rrCells L).set (i * 5 + f) v = rrCells (L.set i p') := by
  induction L generalizing i with
  | nil => cases h
  | cons q L ih =>
    cases i with
    | zero =>
      have : q = p := by simpa using h
      subst this
      show (rrC q ++ rrCells L).set (0 * 5 + f) v = rrC p' ++ rrCells L
      rw [Nat.zero_mul, Nat.zero_add, List.set_append_left _ _ (by rw [rrC_len]; exact hf), hv]
    | succ i =>
      show (rrC q ++ rrCells L).set ((i + 1) * 5 + f) v = rrC q ++ rrCells (L.set i p')
      rw [List.set_append_right _ _ (by rw [rrC_len]; omega), rrC_len, show (i + 1) * 5 + f - 5 = i * 5 + f by omega, ih (by simpa using h)]
def intsO (O : List Nat) : List Value := O.map fun (o : Nat) => .int .i64 (o : Int)
structure SM (g0 : World) (bb : Nat) (L : List RRA) (O : List Nat) (lv ov : Value) (gb : Option Nat) (w : World) : Prop where
  box : w.heap[bb]? = some (.cells #[lv, ov] 64 (0, 0))
  row : RowP w (fun g => gb = some g ∧ g0.heap.size ≤ g ∧ g ≠ bb) 60 5 lv L.length (rrCells L)
  opn : RowP w (fun g => g0.heap.size ≤ g ∧ g ≠ bb ∧ gb ≠ some g ∧ g < w.heap.size) 3 1 ov O.length (intsO O)
  blk : ∀ z, gb = some z → z < w.heap.size ∧ g0.heap.size ≤ z ∧ z ≠ bb
  att : ∀ p ∈ L, RowRd g0 2 p.2 p.1.attrs.length (attrCells p.1.attrs)
  low : g0.heap.size ≤ bb
  ext : Ext g0 w
section
variable {g0 : World} {bb : Nat} {L : List RRA} {O : List Nat} {lv ov : Value} {gb : Option Nat} {w w' : World}
theorem SM.to (h : SM g0 bb L O lv ov gb w) (k : Ext w w') : SM g0 bb L O lv ov gb w' :=
  ⟨k.block h.box, h.row.ext k, (h.opn.ext k).imp fun g _ hg => ⟨hg.1, hg.2.1, hg.2.2.1, Nat.lt_of_lt_of_le hg.2.2.2 k.size⟩, fun z hz => ⟨Nat.lt_of_lt_of_le (h.blk z hz).1 k.size, (h.blk z hz).2⟩, h.att, h.low, h.ext.trans k⟩
theorem SM.some_ (h : SM g0 bb L O lv ov gb w) (hL : 0 < L.length) : ∃ g cap cur, gb = some g ∧ g0.heap.size ≤ g ∧ g ≠ bb ∧ lv = .slice (some ⟨g, 0, none⟩) L.length cap ∧ w.heap[g]? = some (.cells cur 60 (0, 0)) ∧ L.length ≤ cap ∧ cap ≤ maxLen ∧ cur.size = cap * 5 ∧ cur.toList.take (L.length * 5) = rrCells L := by
  rcases h.row.2 with ⟨h0, _⟩ | ⟨g, cap, cur, h1, h2, h3, h4, h5, h6, h7⟩
  · omega
  · exact ⟨g, cap, cur, h2.1, h2.2.1, h2.2.2, h1, h3, h4, h5, h6, h7⟩
theorem rr_cell {g : Nat} {cur : Array Value} {T : TypeId} {n : Nat} (h3 : w.heap[g]? = some (.cells cur T (0, 0))) (h7 : cur.toList.take (n * 5) = rrCells L) {i f : Nat} {p : RRA} {v : Value} (hp : L[i]? = some p) (hv : (rrC p)[f]? = some v) :
    w.cell? ⟨g, i * 5 + f, none⟩ = some v := by
  refine cellOf h3 ?_
  have h := rrCells_get hp hv
  rw [← h7, List.getElem?_take] at h
  split at h
  · rw [← Array.getElem?_toList]; exact h
  · cases h
theorem SM.nd (h : SM g0 bb L O lv ov gb w) {i : Nat} {p : RRA} (hp : L[i]? = some p) : ∃ g cap, lv = .slice (some ⟨g, 0, none⟩) L.length cap ∧ gb = some g ∧ w.cell? ⟨g, i * 5, none⟩ = some (.int .i64 p.1.tag) ∧ w.cell? ⟨g, i * 5 + 1, none⟩ = some p.2 ∧
    w.cell? ⟨g, i * 5 + 2, none⟩ = some (.string (bs p.1.text)) ∧ w.cell? ⟨g, i * 5 + 3, none⟩ = some (.slice none 0 0) ∧ w.cell? ⟨g, i * 5 + 4, none⟩ = some (.int .i64 p.1.up) := by
  have hlt := (List.getElem?_eq_some_iff.1 hp).1
  obtain ⟨g, cap, cur, e1, _, _, e2, h3, _, _, _, h7⟩ := h.some_ (by omega)
  have c0 := rr_cell (f := 0) h3 h7 hp (v := .int .i64 p.1.tag) rfl
  rw [Nat.add_zero] at c0
  exact ⟨g, cap, e2, e1, c0, rr_cell (f := 1) h3 h7 hp (v := p.2) rfl, rr_cell (f := 2) h3 h7 hp (v := .string (bs p.1.text)) rfl, rr_cell (f := 3) h3 h7 hp (v := .slice none 0 0) rfl, rr_cell (f := 4) h3 h7 hp (v := .int .i64 p.1.up) rfl⟩
theorem SM.at (h : SM g0 bb L O lv ov gb w) (hO : 0 < O.length) : ∃ g cap cur, ov = .slice (some ⟨g, 0, none⟩) O.length cap ∧ (g0.heap.size ≤ g ∧ g ≠ bb ∧ gb ≠ some g ∧ g < w.heap.size) ∧ w.heap[g]? = some (.cells cur 3 (0, 0)) ∧ O.length ≤ cap ∧ cap ≤ maxLen ∧ cur.size = cap ∧ cur.toList.take O.length = intsO O ∧ ∀ (i o : Nat), O[i]? = some o → w.cell? ⟨g, i, none⟩ = some (.int .i64 (o : Int)) := by
  rcases h.opn.2 with ⟨h0, _⟩ | ⟨g, cap, cur, h1, h2, h3, h4, h5, h6, h7⟩
  · omega
  · rw [Nat.mul_one] at h6 h7
    refine ⟨g, cap, cur, h1, h2, h3, h4, h5, h6, h7, fun i o ho => cellOf h3 ?_⟩
    have hj : (intsO O)[i]? = some (.int .i64 (o : Int)) := by unfold intsO; rw [List.getElem?_map, ho]; rfl
    rw [← h7, List.getElem?_take] at hj
    split at hj
    · rw [← Array.getElem?_toList]; exact hj
    · cases hj
theorem SM.boxes (h : SM g0 bb L O lv ov gb w) : w.cell? ⟨bb, 0, none⟩ = some lv ∧ w.cell? ⟨bb, 1, none⟩ = some ov := ⟨cellOf h.box (i := 0) rfl, cellOf h.box (i := 1) rfl⟩
end
theorem rtag_any {g0 w : World} {bb : Nat} {L : List RRA} {O : List Nat} {lv ov : Value} {gb : Option Nat} (h : SM g0 bb L O lv ov gb w) (hs : L.length ≤ 100000 ∧ O.length ≤ 100000) {i o : Nat} {p : RRA} (hi : O[i]? = some o) (hp : L[o]? = some p) :
    Calls Tryz.prog 73 #[.pointer (some ⟨bb, 0, none⟩), .int .i64 i] w (RVal (.int .i64 p.1.tag) w) := by
  have hil := (List.getElem?_eq_some_iff.1 hi).1
  have hol := (List.getElem?_eq_some_iff.1 hp).1
  obtain ⟨b0, b1⟩ := h.boxes
  obtain ⟨g, cap, rfl, _, c0, _⟩ := h.nd hp
  obtain ⟨go, oc, _, rfl, _, _, _, _, _, _, hc⟩ := h.at (by omega)
  have o0 := hc i o hi
  have b0' := fun u : ExtOf w => u.ext.cells _ _ b0
  have b1' := fun u : ExtOf w => u.ext.cells _ _ b1
  have c0' := fun u : ExtOf w => u.ext.cells _ _ c0
  have o0' := fun u : ExtOf w => u.ext.cells _ _ o0
  obtain ⟨s1, s2⟩ := hs
  clear h hc hi hp b0 b1 c0 o0
  go_enter Tryz.func73, Tryz.ntmps73
  go_wp2_with fail
  refine wp_region_ext (by kernel_rfl) (by kernel_rfl) ?_
  repeat (go_big_quiet_step (fail))
  refine wpQuiet_nil ?_
  rintro _ ⟨u, rfl⟩
  go_wp2_with fail
  go_ret
  exact ⟨rfl, u.ext⟩
theorem rblanks_any (s : ByteArray) (hs : s.size ≤ 10000000) (w : World) : Calls Tryz.prog 69 #[.string s] w (RBool (s.data.toList.all blankB) w) := by
  obtain ⟨b, hb⟩ : ∃ b, s.data.toList.all blankB = b := ⟨_, rfl⟩
  rw [hb]
  have HB := qh hb
  clear hb
  go_enter Tryz.func69, Tryz.ntmps69
  go_wp2_with fail
  go_loopw [3] (fun i wr => ∃ k : Nat, k ≤ s.size ∧ i = .int .i64 k ∧ Ext w wr ∧ (s.data.toList.drop k).all blankB = b) (fun i _ => s.size - (intOf i).toNat)
  case atStart => exact ⟨0, Nat.zero_le _, rfl, Ext.refl _, HB.out⟩
  case round =>
    obtain ⟨k, hk, rfl, xr, hd⟩ := hrel
    have XR := qh xr
    have HD := qh hd
    clear xr hd
    by_cases hlt : k < s.size
    · obtain ⟨c, hc, hix⟩ := at_idx s k hlt
      have hdr : s.data.toList.drop k = c :: s.data.toList.drop (k + 1) := by
        obtain ⟨h1, h2⟩ := List.getElem?_eq_some_iff.1 hc
        rw [← h2]; exact List.drop_eq_getElem_cons h1
      have h3 := HD.out
      rw [hdr, List.all_cons] at h3
      have H3 := qh h3
      have e0 : decide ((k : Int) < (s.size : Int)) = true := decide_eq_true (by omega)
      have HBL := qh (fun W => rBlank_any c W)
      clear hdr h3 hc
      rcases bcases (blankB c) with e | e
      · rw [e] at HBL H3
        clear e
        go_wp2_with (go_at_call 117; refine (HBL.out _).mono ?_)
        rintro e w1 ⟨rfl, x1⟩
        have X1 := qh (XR.out.trans x1)
        clear x1
        go_wp2_with fail
        go_roundw
        case rel => exact ⟨k + 1, by omega, by go_num, X1.out, by simpa using H3.out⟩
        case measure => simp [intOf]; omega
      · rw [e] at HBL H3
        clear e
        go_wp2_with (go_at_call 117; refine (HBL.out _).mono ?_)
        rintro e w1 ⟨rfl, x1⟩
        have X1 := qh (XR.out.trans x1)
        have eb : b = false := by simpa using H3.out.symm
        subst eb
        clear x1
        go_wp2_with fail
        go_ret
        exact ⟨rfl, X1.out⟩
    · have e0 : decide ((k : Int) < (s.size : Int)) = false := decide_eq_false (by omega)
      have eb : b = true := by
        have := HD.out
        rw [List.drop_eq_nil_of_le (by have : s.data.toList.length = s.size := rfl; omega)] at this
        exact this.symm
      subst eb
      go_wp2_with fail
      go_ret
      exact ⟨rfl, XR.out⟩
end Go.Proofs.YtalaajbajgdglaaGreatDoor
