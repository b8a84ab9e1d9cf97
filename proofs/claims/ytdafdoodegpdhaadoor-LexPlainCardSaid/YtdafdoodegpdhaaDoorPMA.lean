/- A byte slice in new memory that holds a list, and what is appended to it. No conditions. -/
import Derived.Test.YtdafdoodegpdhaaDoorPE
import Derived.Test.YtdafdoodegpdhaaDoorPH
import Derived.Test.YtdafdoodegpdhaaDoorPX
import Derived.Deep.AppendSrc
import Derived.Deep.Upon
import Derived.Lib.ConvBytes
namespace Go.Proofs.YtdafdoodegpdhaaDoor
open Go Go.RowKit Go.BigFrame
set_option linter.unusedVariables false
set_option linter.unusedSimpArgs false

theorem setCells_row {e : TypeId} (g : Nat) : ∀ (news : List Value) (o : Nat) (w : World) (cur : Array Value) (fz : Nat × Nat), w.heap[g]? = some (.cells cur e fz) → o + news.length ≤ cur.size →
    ∃ cur', (w.setCells g o news).heap[g]? = some (.cells cur' e fz) ∧ cur'.size = cur.size ∧ cur'.toList.take (o + news.length) = cur.toList.take o ++ news := by
  intro news
  induction news with
  | nil => intro o w cur fz h hl; exact ⟨cur, h, rfl, by simp⟩
  | cons v r ih =>
    intro o w cur fz h hl
    simp only [List.length_cons] at hl
    have h1 := heap_setCell_same (i := o) h v
    obtain ⟨cur', h2, h3, h4⟩ := ih (o + 1) (w.setCell ⟨g, o, none⟩ v) _ fz h1 (by simp; omega)
    refine ⟨cur', h2, by rw [h3]; simp, ?_⟩
    rw [List.length_cons, show o + (r.length + 1) = o + 1 + r.length by omega, h4]
    have hlt : o < cur.toList.length := by simpa using (show o < cur.size by omega)
    have : (cur.setIfInBounds o v).toList.take (o + 1) = cur.toList.take o ++ [v] := by
      have hlt2 : o < cur.size := by simpa using hlt
      have hmin : min o cur.size = o := Nat.min_eq_left (Nat.le_of_lt hlt2)
      rw [Array.toList_setIfInBounds, List.take_set, List.take_succ_eq_append_getElem hlt, List.set_append_right _ _ (by simp; omega)]
      simp [hmin]
    rw [this]; simp
theorem below_sc {B : Nat} {a : World} (b : Nat) (hb : B ≤ b) : ∀ (vs : List Value) (o : Nat) {w : World}, Below B a w → Below B a (w.setCells b o vs)
  | [], _, _, h => h
  | v :: vs, o, w, h => below_sc b hb vs (o + 1) (h.setCell (p := ⟨b, o, none⟩) hb v)
theorem size_sc (b : Nat) : ∀ (vs : List Value) (o : Nat) (w : World), (w.setCells b o vs).heap.size = w.heap.size
  | [], _, _ => rfl
  | v :: vs, o, w => by
    show ((w.setCell ⟨b, o, none⟩ v).setCells b (o + 1) vs).heap.size = _
    rw [size_sc b vs (o + 1)]; simp
/-- a slice of new memory that holds these bytes; what lies behind them may be written -/
def Buf (W0 : World) (v : Value) (l : List UInt8) (w : World) : Prop := ∃ (g cap : Nat) (cur : Array Value) (fz : Nat × Nat), v = .slice (some ⟨g, 0, none⟩) l.length cap ∧ W0.heap.size ≤ g ∧ w.heap[g]? = some (.cells cur 5 fz) ∧
  (fz.2 ≤ l.length ∨ cap ≤ fz.1) ∧ l.length ≤ cap ∧ cap ≤ maxLen ∧ cur.size = cap ∧ cur.toList.take l.length = Lib.byteCells l ∧ Below W0.heap.size W0 w ∧ W0.heap.size ≤ w.heap.size
theorem Buf.at {W0 w : World} {v : Value} {l : List UInt8} (h : Buf W0 v l w) : ∃ g cap cur fz, v = .slice (some ⟨g, 0, none⟩) l.length cap ∧ W0.heap.size ≤ g ∧ w.heap[g]? = some (.cells cur 5 fz) ∧ cur.toList.take l.length = Lib.byteCells l := by
  obtain ⟨g, cap, cur, fz, h1, h2, h3, _, _, _, _, h8, _⟩ := h
  exact ⟨g, cap, cur, fz, h1, h2, h3, h8⟩
theorem Buf.cells {W0 w : World} {v : Value} {l : List UInt8} (h : Buf W0 v l w) {g n cap : Nat} (hv : v = .slice (some ⟨g, 0, none⟩) n cap) : ∀ j u, (Lib.byteCells l)[j]? = some u → w.cell? ((⟨g, 0, none⟩ : Addr).add j) = some u := by
  obtain ⟨g', cap', cur, fz, h1, h2, h3, _, _, _, _, h8, _⟩ := h
  rw [hv] at h1
  cases h1
  intro j u hj
  rw [Addr.add_lit, Nat.zero_add]
  refine cellOf h3 ?_
  rw [← h8, List.getElem?_take] at hj
  split at hj
  · rw [← Array.getElem?_toList]; exact hj
  · cases hj
theorem Buf.ex {W0 w : World} {v : Value} {l : List UInt8} (h : Buf W0 v l w) : Ext W0 w := by
  obtain ⟨g, cap, cur, fz, _, _, _, _, _, _, _, _, h9, _⟩ := h; exact h9
theorem Buf.ext {W0 w w' : World} {v : Value} {l : List UInt8} (h : Buf W0 v l w) (k : Ext w w') : Buf W0 v l w' := by
  obtain ⟨g, cap, cur, fz, h1, h2, h3, h4, h5, h6, h7, h8, h9, h10⟩ := h
  exact ⟨g, cap, cur, fz, h1, h2, k.block h3, h4, h5, h6, h7, h8, Below.trans h9 (Below.mono k h10), Nat.le_trans h10 k.size⟩
theorem Buf.new (w : World) : Buf w (.slice (some ⟨w.heap.size, 0, none⟩) 0 0) [] (w.alloc (.cells #[] 5)) :=
  ⟨w.heap.size, 0, #[], (0, 0), rfl, Nat.le_refl _, heap_alloc_new w _, .inl (Nat.le_refl _), Nat.le_refl _, Nat.zero_le _, rfl, rfl, (Ext.refl w).alloc _, by simp⟩
theorem Buf.base {W0 W w : World} {v : Value} {l : List UInt8} (h : Buf W v l w) (k : Ext W0 W) : Buf W0 v l w := by
  obtain ⟨g, cap, cur, fz, h1, h2, h3, h4, h5, h6, h7, h8, h9, h10⟩ := h
  exact ⟨g, cap, cur, fz, h1, Nat.le_trans k.size h2, h3, h4, h5, h6, h7, h8, Below.trans k (Below.mono h9 k.size), Nat.le_trans k.size h10⟩
def RBuf (l : List UInt8) (w : World) (e : Ending) (w' : World) : Prop := ∃ v, e = .returned v ∧ Buf w v l w'
/-- bytes appended -/
theorem run_buf {W0 w : World} {v : Value} {l : List UInt8} (h : Buf W0 v l w) {tx : TypeId} {x : Value} {l2 : List UInt8} (ty : TypeId) (hs : Src Tryd.prog 1 tx x l2.length (Lib.byteCells l2) w) (hlen : l.length + l2.length ≤ 140737488355328) :
    ∃ v' w', (Builtin.append_ #[30, tx] ty #[v, x]).run Tryd.prog w = .ok v' w' ∧ Buf W0 v' (l ++ l2) w' := by
  have hcells : ∀ g n cap, v = .slice (some ⟨g, 0, none⟩) n cap → ∀ j u, (Lib.byteCells l)[j]? = some u → w.cell? ((⟨g, 0, none⟩ : Addr).add j) = some u := fun g n cap hv => h.cells hv
  obtain ⟨g, cap, cur, fz, rfl, h2, h3, h4, h5, h6, h7, h8, h9, h10⟩ := h
  obtain ⟨i0, hi, hz0, hz1, hz2⟩ := info_parts infoByte
  have hl2 : (Lib.byteCells l2).length = l2.length := Lib.byteCells_length l2
  have hl1 : (Lib.byteCells l).length = l.length := Lib.byteCells_length l
  have hlt : g < w.heap.size := (Array.getElem?_eq_some_iff.1 h3).1
  by_cases hroom : l.length + l2.length ≤ cap
  · have hr := run_append_room_src (P := Tryd.prog) (w := w) 30 tx ty 5 i0 Tryd.underlying30 hi g 0 l.length cap x l2.length (Lib.byteCells l2) (by rw [hz1]; exact hs) hroom
      (by
        intro j hj
        rw [hz1, Nat.zero_add, Nat.mul_one]
        have : l.length + j < cur.size := by omega
        rw [cellOf h3 (i := l.length + j) (v := cur[l.length + j]) (by simp [this])]; rfl)
      (by
        intro j hj
        rw [hz1, Nat.zero_add, Nat.mul_one]
        unfold World.frozen?
        simp only [h3]
        rcases h4 with h4 | h4 <;> simp <;> omega)
    rw [hz1, Nat.mul_one, Nat.zero_add] at hr
    obtain ⟨cur', q1, q2, q3⟩ := setCells_row g (Lib.byteCells l2) l.length w cur fz h3 (by omega)
    refine ⟨_, _, hr, g, cap, cur', fz, by rw [List.length_append], h2, q1, ?_, by rw [List.length_append]; exact hroom, h6, by omega, ?_, ?_, ?_⟩
    · rw [List.length_append]; omega
    · rw [List.length_append, Lib.byteCells_append, ← h8, ← q3, hl2]
    · exact below_sc g h2 _ _ h9
    · rw [size_sc]; exact h10
  · have hold : (Builtin.firstCells i0.size l.length (.slice (some ⟨g, 0, none⟩) l.length cap)).run Tryd.prog w.drew = .ok (Lib.byteCells l).toArray w.drew := by
      rw [hz1]
      exact run_firstCells_some w.drew 1 l.length ⟨g, 0, none⟩ l.length cap (Lib.byteCells l) (by omega) (by simpa using hcells g _ _ rfl)
    have hr := run_append_grow_src (P := Tryd.prog) (w := w) 30 tx ty 5 i0 (.int .u8 0) Tryd.underlying30 hi hz0 (some ⟨g, 0, none⟩) l.length cap (Lib.byteCells l) hold x l2.length (Lib.byteCells l2) (by rw [hz1]; exact hs) (by omega) (by omega) (by rw [hz2]; exact growslice_fits (by omega) (by omega))
    have hge := grownCap_ge w (l.length + l2.length) cap 5
    have hcm2 : grownCap w (l.length + l2.length) cap 5 ≤ maxLen := grownCap_le_maxLen w (l.length + l2.length) cap 5 (by unfold maxLen; omega)
    refine ⟨_, _, hr, w.heap.size, _, _, (0, 0), by rw [List.length_append], h10, heap_alloc_new w.drew _, .inl (Nat.zero_le _), by rw [List.length_append]; exact hge, hcm2, ?_, ?_, Below.alloc (Below.drew h9) (by simpa using h10) _, by simp; omega⟩
    · simp only [Array.size_append, List.size_toArray, size_zeroCells, List.length_append, hl1, hl2]
      simp [Value.cells]
      omega
    · rw [Array.toList_append, List.length_append, Lib.byteCells_append]
      exact List.take_left' (by rw [List.length_append, hl1, hl2])
section
variable {ops : Array Oper} {rest : List Oper} {o : Oper} {a : Act} {Q : Exit → Act → World → Prop}
theorem wpB_text {w : World} (hgd : o.guard = none) (sl x : Operand) (ho : o.op = .call { callee := .builtin .append, args := #[sl, x], argTypes := #[30, 9] })
    (v : Value) (l : List UInt8) (hs : a.eval sl = v) (W0 : World) (hb : Buf W0 v l w) (s : ByteArray) (hx : a.eval x = .string s) (hlen : l.length + s.size ≤ 140737488355328)
    (l' : List UInt8) (hl : l ++ s.data.toList = l') (h : ∀ v' w', Buf W0 v' l' w' → wpList Tryd.prog ops Q rest (a.put o.dst v') w') : wpList Tryd.prog ops Q (o :: rest) a w := by
  refine wpList_plain hgd fun K hK => ?_
  obtain ⟨v', w', hr, hb'⟩ := run_buf hb (x := .string s) (l2 := s.data.toList) o.type (Src.ofString w Tryd.underlying9 s) hlen
  subst hl
  unfold Oper.wp execOp
  simp only [ho, resolve, invoke, builtin, Sem.run_bind, Sem.run_pure, Result.andThen_ok, List.map_toArray, List.map_cons, List.map_nil, hs, hx, hr]
  exact hK _ _ (h v' w' hb')
theorem wpB_buf {w : World} (hgd : o.guard = none) (sl x : Operand) (ho : o.op = .call { callee := .builtin .append, args := #[sl, x], argTypes := #[30, 30] })
    (v : Value) (l : List UInt8) (hs : a.eval sl = v) (W0 W1 : World) (hb : Buf W0 v l w) (v2 : Value) (l2 : List UInt8) (hb2 : Buf W1 v2 l2 w) (hx : a.eval x = v2) (hlen : l.length + l2.length ≤ 140737488355328)
    (l' : List UInt8) (hl : l ++ l2 = l') (h : ∀ v' w', Buf W0 v' l' w' → wpList Tryd.prog ops Q rest (a.put o.dst v') w') : wpList Tryd.prog ops Q (o :: rest) a w := by
  obtain ⟨g, cap, cur, fz, hv, _, _, _⟩ := hb2.at
  refine wpList_plain hgd fun K hK => ?_
  obtain ⟨v', w', hr, hb'⟩ := run_buf hb (x := v2) (l2 := l2) o.type (by
    rw [hv]
    refine Src.ofSlice w Tryd.underlying30 ⟨g, 0, none⟩ l2.length cap (Lib.byteCells l2) (by rw [Lib.byteCells_length, Nat.mul_one]) (hb2.cells hv) ?_
    intro u hu
    simp only [Lib.byteCells, List.mem_map] at hu
    obtain ⟨c, _, rfl⟩ := hu
    rfl) hlen
  subst hl
  unfold Oper.wp execOp
  simp only [ho, resolve, invoke, builtin, Sem.run_bind, Sem.run_pure, Result.andThen_ok, List.map_toArray, List.map_cons, List.map_nil, hs, hx, hr]
  exact hK _ _ (h v' w' hb')
theorem wpB_byte {w : World} (hgd : o.guard = none) (sl x : Operand) (ho : o.op = .call { callee := .builtin .append, args := #[sl, x], argTypes := #[30, 30] })
    (v : Value) (l : List UInt8) (hs : a.eval sl = v) (W0 : World) (hb : Buf W0 v l w) (c : UInt8) (z : Int) (hz : z = (c.toNat : Int)) (hx : a.eval x = .slice (some ⟨w.heap.size, 0, none⟩) 1 1) (hlen : l.length + 1 ≤ 140737488355328)
    (l' : List UInt8) (hl : l ++ [c] = l') (h : ∀ v' w', Buf W0 v' l' w' → wpList Tryd.prog ops Q rest (a.put o.dst v') w') : wpList Tryd.prog ops Q (o :: rest) a (w.alloc (.cells #[.int .u8 z] 5)) := by
  subst hz
  have hbw : Buf w (.slice (some ⟨w.heap.size, 0, none⟩) 1 1) [c] (w.alloc (.cells #[.int .u8 (c.toNat : Int)] 5)) :=
    ⟨w.heap.size, 1, _, (0, 0), rfl, Nat.le_refl _, heap_alloc_new w _, .inl (Nat.zero_le _), Nat.le_refl _, by decide, rfl, rfl, (Ext.refl w).alloc _, by simp⟩
  exact wpB_buf hgd sl x ho v l hs W0 w (hb.ext ((Ext.refl w).alloc _)) _ [c] hbw hx hlen l' hl h
end
end Go.Proofs.YtdafdoodegpdhaaDoor
