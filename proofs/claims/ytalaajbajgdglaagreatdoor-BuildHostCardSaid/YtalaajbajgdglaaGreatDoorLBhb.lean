/- what of ZP Z1 Z2 Z3 BA BB BC BD BE BF BG BH BI BJ BK BL BM BN BO BP BQ BR NA NC NB ND NE NF BS BT ZY BV BW BY Z4 CA CB CC CD TA TB TC TD TE TF TG TK TH TI is leant on -/
import Derived.Test.YtalaajbajgdglaaGreatDoorLBha
set_option linter.unusedVariables false
set_option linter.unusedSimpArgs false
set_option maxRecDepth 1000000
set_option maxHeartbeats 8000000
namespace Go.Proofs.YtalaajbajgdglaaGreatDoor
open Go Go.RowKit Go.BigFrame
theorem RowRd.attr {w : World} {a : Addr} {l : List (ByteArray × ByteArray)} {cap n : Nat} (h : RowRd w 2 (.slice (some a) n cap) n (attrCells l)) {k : Nat} {p : ByteArray × ByteArray} (hk : l[k]? = some p) :
    w.cell? (a.add (k * 2)) = some (.string p.1) ∧ w.cell? (a.add (k * 2 + 1)) = some (.string p.2) := by
  obtain ⟨_, ao, cap', e, _, _, hc⟩ := h
  cases e
  obtain ⟨e1, e2⟩ := attrCells_at l k p hk
  exact ⟨hc _ rfl _ _ e1, hc _ rfl _ _ e2⟩
def Wrote (B b : Nat) (l : List UInt8) (w : World) (e : Ending) (w' : World) : Prop := ∃ m : Nat, e = .returned (.tuple #[.int .i64 m, .nilIface]) ∧ Printed B b l w (.returned (.tuple #[])) w'
theorem Write_any (B b : Nat) (acc : List UInt8) (s : ByteArray) (l : List UInt8) (hs : acc ++ s.data.toList = l) (w : World) (h : PrF B b (Lib.byteCells acc) w) (hlen : acc.length + s.size ≤ 140737488355328) (hBw : B ≤ w.heap.size) :
    Calls Tryz.prog 93 #[.pointer (some ⟨b, 0, none⟩), .string s] w (Wrote B b l w) :=
  (WriteString_k B b _ s w h (by rw [Lib.byteCells_length]; exact hlen) hBw).mono fun e w' hh => ⟨s.size, hh.1, rfl, by rw [← hs, Lib.byteCells_append]; exact .inr hh.2.1, hh.2.2.1, hh.2.2.2⟩
end Go.Proofs.YtalaajbajgdglaaGreatDoor
namespace Go.Proofs.YtalaajbajgdglaaGreatDoor
open Go
theorem byte_mem {s : ByteArray} {c : UInt8} : c ∈ s.data.toList ↔ ∃ (j : Nat) (h : j < s.size), s[j]'h = c := by
  rw [List.mem_iff_getElem]
  constructor
  · rintro ⟨j, h, e⟩; exact ⟨j, h, e⟩
  · rintro ⟨j, h, e⟩; exact ⟨j, h, e⟩
theorem nameOk_iff (s : ByteArray) : nameOk s = true ↔ (1 ≤ s.size ∧ s.size ≤ 16) ∧ ∀ j (h : j < s.size), nameR (decide (j = 0)) ((s[j]'h).toNat : Int) = true := by
  unfold nameOk
  simp only [Bool.and_eq_true, decide_eq_true_eq, List.all_eq_true]
  have hh : ∀ h : 0 < s.size, s.data.toList.head? = some (s[0]'h) := fun h => by
    rw [List.head?_eq_getElem?, List.getElem?_eq_getElem (by exact h)]; rfl
  constructor
  · rintro ⟨⟨h1, h2⟩, h3⟩
    refine ⟨h1, fun j hj => ?_⟩
    have a := h3 _ (byte_mem.2 ⟨j, hj, rfl⟩)
    rw [hh (by omega)] at h2
    simp only [Option.any_some, decide_eq_true_eq] at h2
    unfold nameR
    by_cases hz : j = 0
    · subst hz
      simp only [decide_true, Bool.or_eq_true, decide_eq_true_eq]
      exact .inl (by omega)
    · simp only [hz, decide_false, Bool.or_eq_true, Bool.not_false, Bool.true_and, decide_eq_true_eq]
      omega
  · rintro ⟨h1, h2⟩
    refine ⟨⟨h1, ?_⟩, fun c hc => ?_⟩
    · rw [hh (by omega)]
      have := h2 0 (by omega)
      unfold nameR at this
      simp only [decide_true, Bool.not_true, Bool.false_and, Bool.or_false, decide_eq_true_eq] at this
      simp only [Option.any_some, decide_eq_true_eq]
      omega
    · obtain ⟨j, hj, rfl⟩ := byte_mem.1 hc
      have := h2 j hj
      unfold nameR at this
      simp only [Bool.or_eq_true, Bool.and_eq_true, decide_eq_true_eq] at this
      omega
theorem name_step {s : ByteArray} (h : nameOk s = true) {pos : Nat} (hp : pos < s.size) : nameR (decide (pos = 0)) (Int.ofNat (Utf8.decode s pos).1) = true := by
  have a := ((nameOk_iff s).1 h).2 pos hp
  have b := nameR_small a
  rw [decode_ascii s pos hp (by omega)]
  exact a
theorem name_next {s : ByteArray} {pos : Nat} (hp : pos < s.size) (h : nameR (decide (pos = 0)) (Int.ofNat (Utf8.decode s pos).1) = true) :
    (Utf8.decode s pos).2 = 1 ∧ nameR (decide (pos = 0)) ((s[pos]'hp).toNat : Int) = true := by
  have b := nameR_small h
  have c := (decode_small s hp (by have := b.2; simp at this; omega)).1
  rw [c] at h ⊢
  exact ⟨rfl, h⟩
end Go.Proofs.YtalaajbajgdglaaGreatDoor
namespace Go.Proofs.YtalaajbajgdglaaGreatDoor
open Go Go.RowKit Go.BigFrame
theorem setCells_row {e : TypeId} (g : Nat) : ∀ (news : List Value) (o : Nat) (w : World) (cur : Array Value) (fz : Nat × Nat), w.heap[g]? = some (.cells cur e fz) → o + news.length ≤ cur.size →
    ∃ cur', (w.setCells g o news).heap[g]? = some (.cells cur' e fz) ∧ cur'.size = cur.size ∧ cur'.toList.take (o + news.length) = cur.toList.take o ++ news := by
  intro news
  induction news with
  | nil => intro o w cur fz h hl; exact ⟨cur, h, rfl, by simp⟩
  | cons v r ih =>
    intro o w cur fz h hl
    simp only [List.length_cons] at hl
    have h1 := heap_setCell_same (i := o) h v
    obtain ⟨cur', h2, h3, h4⟩ := ih (o + 1) (w.setCell ⟨g, o, none⟩ v) _ fz h1 (by simp; omega)
    refine ⟨cur', h2, by rw [h3]; simp, ?_⟩
    rw [List.length_cons, show o + (r.length + 1) = o + 1 + r.length by omega, h4]
    have hlt : o < cur.toList.length := by simpa using (show o < cur.size by omega)
    have : (cur.setIfInBounds o v).toList.take (o + 1) = cur.toList.take o ++ [v] := by
      have hlt2 : o < cur.size := by simpa using hlt
      have hmin : min o cur.size = o := Nat.min_eq_left (Nat.le_of_lt hlt2)
      rw [Array.toList_setIfInBounds, List.take_set, List.take_succ_eq_append_getElem hlt, List.set_append_right _ _ (by simp; omega)]
      simp [hmin]
    rw [this]; simp
theorem below_sc {B : Nat} {a : World} (b : Nat) (hb : B ≤ b) : ∀ (vs : List Value) (o : Nat) {w : World}, Below B a w → Below B a (w.setCells b o vs)
  | [], _, _, h => h
  | v :: vs, o, w, h => below_sc b hb vs (o + 1) (h.setCell (p := ⟨b, o, none⟩) hb v)
theorem size_sc (b : Nat) : ∀ (vs : List Value) (o : Nat) (w : World), (w.setCells b o vs).heap.size = w.heap.size
  | [], _, _ => rfl
  | v :: vs, o, w => by
    show ((w.setCell ⟨b, o, none⟩ v).setCells b (o + 1) vs).heap.size = _
    rw [size_sc b vs (o + 1)]; simp
def Buf (W0 : World) (v : Value) (l : List UInt8) (w : World) : Prop := ∃ (g cap : Nat) (cur : Array Value) (fz : Nat × Nat), v = .slice (some ⟨g, 0, none⟩) l.length cap ∧ W0.heap.size ≤ g ∧ w.heap[g]? = some (.cells cur 5 fz) ∧
  (fz.2 ≤ l.length ∨ cap ≤ fz.1) ∧ l.length ≤ cap ∧ cap ≤ maxLen ∧ cur.size = cap ∧ cur.toList.take l.length = Lib.byteCells l ∧ Below W0.heap.size W0 w ∧ W0.heap.size ≤ w.heap.size
theorem Buf.at {W0 w : World} {v : Value} {l : List UInt8} (h : Buf W0 v l w) : ∃ g cap cur fz, v = .slice (some ⟨g, 0, none⟩) l.length cap ∧ W0.heap.size ≤ g ∧ w.heap[g]? = some (.cells cur 5 fz) ∧ cur.toList.take l.length = Lib.byteCells l := by
  obtain ⟨g, cap, cur, fz, h1, h2, h3, _, _, _, _, h8, _⟩ := h
  exact ⟨g, cap, cur, fz, h1, h2, h3, h8⟩
theorem Buf.cells {W0 w : World} {v : Value} {l : List UInt8} (h : Buf W0 v l w) {g n cap : Nat} (hv : v = .slice (some ⟨g, 0, none⟩) n cap) : ∀ j u, (Lib.byteCells l)[j]? = some u → w.cell? ((⟨g, 0, none⟩ : Addr).add j) = some u := by
  obtain ⟨g', cap', cur, fz, h1, h2, h3, _, _, _, _, h8, _⟩ := h
  rw [hv] at h1
  cases h1
  intro j u hj
  rw [Addr.add_lit, Nat.zero_add]
  refine cellOf h3 ?_
  rw [← h8, List.getElem?_take] at hj
  split at hj
  · rw [← Array.getElem?_toList]; exact hj
  · cases hj
theorem Buf.ex {W0 w : World} {v : Value} {l : List UInt8} (h : Buf W0 v l w) : Ext W0 w := by
  obtain ⟨g, cap, cur, fz, _, _, _, _, _, _, _, _, h9, _⟩ := h; exact h9
theorem Buf.ext {W0 w w' : World} {v : Value} {l : List UInt8} (h : Buf W0 v l w) (k : Ext w w') : Buf W0 v l w' := by
  obtain ⟨g, cap, cur, fz, h1, h2, h3, h4, h5, h6, h7, h8, h9, h10⟩ := h
  exact ⟨g, cap, cur, fz, h1, h2, k.block h3, h4, h5, h6, h7, h8, Below.trans h9 (Below.mono k h10), Nat.le_trans h10 k.size⟩
theorem Buf.new (w : World) : Buf w (.slice (some ⟨w.heap.size, 0, none⟩) 0 0) [] (w.alloc (.cells #[] 5)) :=
  ⟨w.heap.size, 0, #[], (0, 0), rfl, Nat.le_refl _, heap_alloc_new w _, .inl (Nat.le_refl _), Nat.le_refl _, Nat.zero_le _, rfl, rfl, (Ext.refl w).alloc _, by simp⟩
theorem Buf.base {W0 W w : World} {v : Value} {l : List UInt8} (h : Buf W v l w) (k : Ext W0 W) : Buf W0 v l w := by
  obtain ⟨g, cap, cur, fz, h1, h2, h3, h4, h5, h6, h7, h8, h9, h10⟩ := h
  exact ⟨g, cap, cur, fz, h1, Nat.le_trans k.size h2, h3, h4, h5, h6, h7, h8, Below.trans k (Below.mono h9 k.size), Nat.le_trans k.size h10⟩
theorem run_buf {W0 w : World} {v : Value} {l : List UInt8} (h : Buf W0 v l w) {tx : TypeId} {x : Value} {l2 : List UInt8} (ty : TypeId) (hs : Src Tryz.prog 1 tx x l2.length (Lib.byteCells l2) w) (hlen : l.length + l2.length ≤ 140737488355328) :
    ∃ v' w', (Builtin.append_ #[71, tx] ty #[v, x]).run Tryz.prog w = .ok v' w' ∧ Buf W0 v' (l ++ l2) w' := by
  have hcells : ∀ g n cap, v = .slice (some ⟨g, 0, none⟩) n cap → ∀ j u, (Lib.byteCells l)[j]? = some u → w.cell? ((⟨g, 0, none⟩ : Addr).add j) = some u := fun g n cap hv => h.cells hv
  obtain ⟨g, cap, cur, fz, rfl, h2, h3, h4, h5, h6, h7, h8, h9, h10⟩ := h
  obtain ⟨i0, hi, hz0, hz1, hz2⟩ := info_parts infoByte
  have hl2 : (Lib.byteCells l2).length = l2.length := Lib.byteCells_length l2
  have hl1 : (Lib.byteCells l).length = l.length := Lib.byteCells_length l
  have hlt : g < w.heap.size := (Array.getElem?_eq_some_iff.1 h3).1
  by_cases hroom : l.length + l2.length ≤ cap
  · have hr := run_append_room_src (P := Tryz.prog) (w := w) 71 tx ty 5 i0 Tryz.underlying71 hi g 0 l.length cap x l2.length (Lib.byteCells l2) (by rw [hz1]; exact hs) hroom
      (by
        intro j hj
        rw [hz1, Nat.zero_add, Nat.mul_one]
        have : l.length + j < cur.size := by omega
        rw [cellOf h3 (i := l.length + j) (v := cur[l.length + j]) (by simp [this])]; rfl)
      (by
        intro j hj
        rw [hz1, Nat.zero_add, Nat.mul_one]
        unfold World.frozen?
        simp only [h3]
        rcases h4 with h4 | h4 <;> simp <;> omega)
    rw [hz1, Nat.mul_one, Nat.zero_add] at hr
    obtain ⟨cur', q1, q2, q3⟩ := setCells_row g (Lib.byteCells l2) l.length w cur fz h3 (by omega)
    refine ⟨_, _, hr, g, cap, cur', fz, by rw [List.length_append], h2, q1, ?_, by rw [List.length_append]; exact hroom, h6, by omega, ?_, ?_, ?_⟩
    · rw [List.length_append]; omega
    · rw [List.length_append, Lib.byteCells_append, ← h8, ← q3, hl2]
    · exact below_sc g h2 _ _ h9
    · rw [size_sc]; exact h10
  · have hold : (Builtin.firstCells i0.size l.length (.slice (some ⟨g, 0, none⟩) l.length cap)).run Tryz.prog w.drew = .ok (Lib.byteCells l).toArray w.drew := by
      rw [hz1]
      exact run_firstCells_some w.drew 1 l.length ⟨g, 0, none⟩ l.length cap (Lib.byteCells l) (by omega) (by simpa using hcells g _ _ rfl)
    have hr := run_append_grow_src (P := Tryz.prog) (w := w) 71 tx ty 5 i0 (.int .u8 0) Tryz.underlying71 hi hz0 (some ⟨g, 0, none⟩) l.length cap (Lib.byteCells l) hold x l2.length (Lib.byteCells l2) (by rw [hz1]; exact hs) (by omega) (by omega) (by rw [hz2]; exact growslice_fits (by omega) (by omega))
    have hge := grownCap_ge w (l.length + l2.length) cap 5
    have hcm2 : grownCap w (l.length + l2.length) cap 5 ≤ maxLen := grownCap_le_maxLen w (l.length + l2.length) cap 5 (by unfold maxLen; omega)
    refine ⟨_, _, hr, w.heap.size, _, _, (0, 0), by rw [List.length_append], h10, heap_alloc_new w.drew _, .inl (Nat.zero_le _), by rw [List.length_append]; exact hge, hcm2, ?_, ?_, Below.alloc (Below.drew h9) (by simpa using h10) _, by simp; omega⟩
    · simp only [Array.size_append, List.size_toArray, size_zeroCells, List.length_append, hl1, hl2]
      simp [Value.cells]
      omega
    · rw [Array.toList_append, List.length_append, Lib.byteCells_append]
      exact List.take_left' (by rw [List.length_append, hl1, hl2])
section
variable {ops : Array Oper} {rest : List Oper} {o : Oper} {a : Act} {Q : Exit → Act → World → Prop}
theorem wpB_buf {w : World} (hgd : o.guard = none) (sl x : Operand) (ho : o.op = .call { callee := .builtin .append, args := #[sl, x], argTypes := #[71, 71] })
    (v : Value) (l : List UInt8) (hs : a.eval sl = v) (W0 W1 : World) (hb : Buf W0 v l w) (v2 : Value) (l2 : List UInt8) (hb2 : Buf W1 v2 l2 w) (hx : a.eval x = v2) (hlen : l.length + l2.length ≤ 140737488355328)
    (l' : List UInt8) (hl : l ++ l2 = l') (h : ∀ v' w', Buf W0 v' l' w' → wpList Tryz.prog ops Q rest (a.put o.dst v') w') : wpList Tryz.prog ops Q (o :: rest) a w := by
  obtain ⟨g, cap, cur, fz, hv, _, _, _⟩ := hb2.at
  refine wpList_plain hgd fun K hK => ?_
  obtain ⟨v', w', hr, hb'⟩ := run_buf hb (x := v2) (l2 := l2) o.type (by
    rw [hv]
    refine Src.ofSlice w Tryz.underlying71 ⟨g, 0, none⟩ l2.length cap (Lib.byteCells l2) (by rw [Lib.byteCells_length, Nat.mul_one]) (hb2.cells hv) ?_
    intro u hu
    simp only [Lib.byteCells, List.mem_map] at hu
    obtain ⟨c, _, rfl⟩ := hu
    rfl) hlen
  subst hl
  unfold Oper.wp execOp
  simp only [ho, resolve, invoke, builtin, Sem.run_bind, Sem.run_pure, Result.andThen_ok, List.map_toArray, List.map_cons, List.map_nil, hs, hx, hr]
  exact hK _ _ (h v' w' hb')
theorem wpB_byte {w : World} (hgd : o.guard = none) (sl x : Operand) (ho : o.op = .call { callee := .builtin .append, args := #[sl, x], argTypes := #[71, 71] })
    (v : Value) (l : List UInt8) (hs : a.eval sl = v) (W0 : World) (hb : Buf W0 v l w) (c : UInt8) (z : Int) (hz : z = (c.toNat : Int)) (hx : a.eval x = .slice (some ⟨w.heap.size, 0, none⟩) 1 1) (hlen : l.length + 1 ≤ 140737488355328)
    (l' : List UInt8) (hl : l ++ [c] = l') (h : ∀ v' w', Buf W0 v' l' w' → wpList Tryz.prog ops Q rest (a.put o.dst v') w') : wpList Tryz.prog ops Q (o :: rest) a (w.alloc (.cells #[.int .u8 z] 5)) := by
  subst hz
  have hbw : Buf w (.slice (some ⟨w.heap.size, 0, none⟩) 1 1) [c] (w.alloc (.cells #[.int .u8 (c.toNat : Int)] 5)) :=
    ⟨w.heap.size, 1, _, (0, 0), rfl, Nat.le_refl _, heap_alloc_new w _, .inl (Nat.zero_le _), Nat.le_refl _, by decide, rfl, rfl, (Ext.refl w).alloc _, by simp⟩
  exact wpB_buf hgd sl x ho v l hs W0 w (hb.ext ((Ext.refl w).alloc _)) _ [c] hbw hx hlen l' hl h
end
theorem Anew_big (s : ByteArray) (hs : s.size ≤ 1000000000000) (w : World) : Calls Tryz.prog 65 #[.string s] w (RVal (.string (anewB s)) w) := by
  have h1 := run_runes_of_string (P := Tryz.prog) w 9 125 21 s Tryz.underlying9 Tryz.underlying125 Tryz.underlying21 (by have := size_runesFrom s s.size 0 #[]; simp at this; omega)
  have e1 : Conv.runesFrom s s.size 0 #[] = ((runeList s s.size 0).map (Value.int .i32)).toArray := by rw [runesFrom_eq]; simp
  have hz : anewB s = runesBytes (runeList s s.size 0) := rfl
  have HZ := qh hz
  rw [e1] at h1
  clear hz e1 hs
  generalize runeList s s.size 0 = l at *
  generalize hk : grownCap w (List.map (Value.int IntKind.i32) l).toArray.size 0 21 = K at *
  have hge := grownCap_ge w (List.map (Value.int IntKind.i32) l).toArray.size 0 21
  rw [hk] at hge
  clear hk
  generalize hC : (List.map (Value.int IntKind.i32) l).toArray ++ Array.replicate (K - (List.map (Value.int IntKind.i32) l).toArray.size) (Value.int IntKind.i32 0) = C at *
  have h2 := run_convert_runes (P := Tryz.prog) (w.drew.alloc (.cells C 21)) 125 9 21 ⟨w.heap.size, 0, none⟩ l.length K l (Nat.le_refl _) Tryz.underlying125 Tryz.underlying21 Tryz.underlying9
    (by
      intro j hj
      have hb : (w.drew.alloc (.cells C 21)).heap[w.heap.size]? = some (.cells C 21 (0, 0)) := heap_alloc_new w.drew _
      rw [Addr.add_lit, Nat.zero_add]
      refine cellOf hb ?_
      rw [← hC, Array.getElem?_append_left (by simpa using hj)]
      simp [hj])
  rw [List.take_length] at h2
  simp only [List.size_toArray, List.length_map] at h1
  clear hC hge
  have HH1 := qh h1
  have HH2 := qh h2
  clear h1 h2
  go_enter Tryz.func65, Tryz.ntmps65
  go_wp2_with fail
  rw [HH1.out]
  go_wp2_with fail
  have h2' : Sem.run Tryz.prog (convert 125 9 (Value.slice (some { block := w.heap.size, off := 0 }) l.length K)) (w.alloc (Obj.cells C 21)).drew = Result.ok (Value.string (runesBytes l)) (w.alloc (Obj.cells C 21)).drew := HH2.out
  rw [h2']
  clear h2'
  go_wp2_with fail
  go_ret
  exact ⟨by rw [HZ.out]; rfl, ((Ext.refl _).alloc _).drew⟩
theorem rClass_any (w : World) (t : Int) : Calls Tryz.prog 39 #[.int .i64 t] w (RVal (.int .i64 (clsT t)) w) := by
  have x := Ext.refl w
  have h : t = 0 ∨ t = 1 ∨ t = 2 ∨ t = 3 ∨ t = 4 ∨ t = 5 ∨ t = 6 ∨ t = 7 ∨ t = 8 ∨ t = 9 ∨ t = 10 ∨ t = 11 ∨ t = 12 ∨ t = 13 ∨ t = 14 ∨ t = 15 ∨ t = 16 ∨ t < 0 ∨ 16 < t := by omega
  rcases h with rfl | rfl | rfl | rfl | rfl | rfl | rfl | rfl | rfl | rfl | rfl | rfl | rfl | rfl | rfl | rfl | rfl | h | h
  · go_enter Tryz.func39, Tryz.ntmps39
    go_wp2
    go_ret
    exact ⟨rfl, x⟩
  · go_enter Tryz.func39, Tryz.ntmps39
    go_wp2
    go_ret
    exact ⟨rfl, x⟩
  · go_enter Tryz.func39, Tryz.ntmps39
    go_wp2
    go_ret
    exact ⟨rfl, x⟩
  · go_enter Tryz.func39, Tryz.ntmps39
    go_wp2
    go_ret
    exact ⟨rfl, x⟩
  · go_enter Tryz.func39, Tryz.ntmps39
    go_wp2
    go_ret
    exact ⟨rfl, x⟩
  · go_enter Tryz.func39, Tryz.ntmps39
    go_wp2
    go_ret
    exact ⟨rfl, x⟩
  · go_enter Tryz.func39, Tryz.ntmps39
    go_wp2
    go_ret
    exact ⟨rfl, x⟩
  · go_enter Tryz.func39, Tryz.ntmps39
    go_wp2
    go_ret
    exact ⟨rfl, x⟩
  · go_enter Tryz.func39, Tryz.ntmps39
    go_wp2
    go_ret
    exact ⟨rfl, x⟩
  · go_enter Tryz.func39, Tryz.ntmps39
    go_wp2
    go_ret
    exact ⟨rfl, x⟩
  · go_enter Tryz.func39, Tryz.ntmps39
    go_wp2
    go_ret
    exact ⟨rfl, x⟩
  · go_enter Tryz.func39, Tryz.ntmps39
    go_wp2
    go_ret
    exact ⟨rfl, x⟩
  · go_enter Tryz.func39, Tryz.ntmps39
    go_wp2
    go_ret
    exact ⟨rfl, x⟩
  · go_enter Tryz.func39, Tryz.ntmps39
    go_wp2
    go_ret
    exact ⟨rfl, x⟩
  · go_enter Tryz.func39, Tryz.ntmps39
    go_wp2
    go_ret
    exact ⟨rfl, x⟩
  · go_enter Tryz.func39, Tryz.ntmps39
    go_wp2
    go_ret
    exact ⟨rfl, x⟩
  · go_enter Tryz.func39, Tryz.ntmps39
    go_wp2
    go_ret
    exact ⟨rfl, x⟩
  · have e1 : clsT t = 0 := if_pos (.inl h)
    rw [e1]
    clear e1
    go_enter Tryz.func39, Tryz.ntmps39
    go_wp2
    go_ret
    exact ⟨rfl, x⟩
  · have e1 : clsT t = 0 := if_pos (.inr h)
    have h0 : ¬ t < 0 := by omega
    rw [e1]
    clear e1
    go_enter Tryz.func39, Tryz.ntmps39
    go_wp2
    go_ret
    exact ⟨rfl, x⟩
def TabN (w : World) (v : Value) (w' : World) : Prop := ∃ T B g1 g2 g3 g4 g5 g6 g7 g8 g9 g10 g11 g12 g13 g14 g15 g16 : Nat, v = .slice (some ⟨T, 0, none⟩) 17 17 ∧ w'.heap[T]? = some (.cells #[.slice none 0 0, .slice (some ⟨g1, 0, none⟩) 1 1, .slice (some ⟨g2, 0, none⟩) 1 1, .slice (some ⟨g3, 0, none⟩) 1 1, .slice (some ⟨g4, 0, none⟩) 1 1, .slice (some ⟨g5, 0, none⟩) 1 1, .slice (some ⟨g6, 0, none⟩) 1 1, .slice (some ⟨g7, 0, none⟩) 1 1, .slice (some ⟨g8, 0, none⟩) 1 1, .slice (some ⟨g9, 0, none⟩) 1 1, .slice (some ⟨g10, 0, none⟩) 1 1, .slice (some ⟨g11, 0, none⟩) 2 2, .slice (some ⟨g12, 0, none⟩) 2 2, .slice (some ⟨g13, 0, none⟩) 2 2, .slice (some ⟨g14, 0, none⟩) 3 3, .slice (some ⟨g15, 0, none⟩) 1 1, .slice (some ⟨g16, 0, none⟩) 1 1] 119 (0, 0)) ∧ Has B [(g16, #[.string ⟨#[98, 114]⟩]), (g15, #[.string ⟨#[115, 112, 97, 110]⟩]), (g14, #[.string ⟨#[115]⟩, .string ⟨#[115, 116, 114, 105, 107, 101]⟩, .string ⟨#[100, 101, 108]⟩]), (g13, #[.string ⟨#[117]⟩, .string ⟨#[105, 110, 115]⟩]), (g12, #[.string ⟨#[105]⟩, .string ⟨#[101, 109]⟩]), (g11, #[.string ⟨#[98]⟩, .string ⟨#[115, 116, 114, 111, 110, 103]⟩]), (g10, #[.string ⟨#[97]⟩]), (g9, #[.string ⟨#[108, 105]⟩]), (g8, #[.string ⟨#[111, 108]⟩]), (g7, #[.string ⟨#[117, 108]⟩]), (g6, #[.string ⟨#[98, 108, 111, 99, 107, 113, 117, 111, 116, 101]⟩]), (g5, #[.string ⟨#[104, 51]⟩]), (g4, #[.string ⟨#[104, 50]⟩]), (g3, #[.string ⟨#[104, 49]⟩]), (g2, #[.string ⟨#[112]⟩]), (g1, #[.string ⟨#[100, 105, 118]⟩])] w' ∧ Ext w w'
theorem run_toBytes (w : World) (s : ByteArray) (hs : s.size ≤ 140737488355328) : ∃ v w', (Go.convert 9 71 (.string s)).run Tryz.prog w = .ok v w' ∧ Buf w v s.data.toList w' := by
  have hsz : s.data.toList.length = s.size := rfl
  have hge := grownCap_ge w s.size 0 5
  have hcm := grownCap_le_maxLen w s.size 0 5 (by unfold maxLen; omega)
  have hcs : (Lib.bytesCells w 5 s).size = grownCap w s.size 0 5 := by
    unfold Lib.bytesCells
    simp
    show s.size + _ = _
    omega
  refine ⟨_, _, Lib.run_convert_string_bytes w 9 71 5 s Tryz.underlying9 Tryz.underlying71 Tryz.underlying5, w.heap.size, _, _, _, rfl, Nat.le_refl _, Lib.bytesWorld_at_new w 5 s, .inr ?_, ?_, hcm, hcs, ?_, Joins.below_bytesWorld _ w _ s (Nat.le_refl _), ?_⟩
  · exact Nat.le_of_eq hcs.symm
  · rw [hsz]; exact hge
  · unfold Lib.bytesCells Lib.byteCells
    simp
  · rw [Lib.bytesWorld_size]; omega
theorem run_ofBytes {W0 w : World} {v : Value} {l : List UInt8} (h : Buf W0 v l w) : (Go.convert 71 9 v).run Tryz.prog w = .ok (.string ⟨l.toArray⟩) w := by
  obtain ⟨g, cap, cur, fz, hv, _, _, _⟩ := h.at
  rw [hv]
  refine run_convert_bytes_back w 71 9 5 ⟨g, 0, none⟩ cap l Tryz.underlying71 Tryz.underlying5 Tryz.underlying9 fun j hj => ?_
  refine h.cells hv j _ ?_
  unfold Lib.byteCells
  simp [hj]
theorem Ext.iterAt {w wr : World} (h : Ext w wr) {k : Nat} (hk : w.heap.size ≤ k) (s : ByteArray) (pos : Nat) : Ext w (wr.iterAt k s pos) := Lib.below_iterAt h hk s pos
theorem ValidRune_ok (r : Int) (h : Utf8.valid r = true) (w : World) : Calls Tryz.prog 172 #[.int .i32 r] w (RBool true w) := by
  obtain ⟨n, rfl, hn⟩ := valid_cases h
  have h0 : (0 : Int) ≤ (n : Int) := by omega
  have x := Ext.refl w
  clear h
  by_cases h1 : n < 55296
  · have h2 : (n : Int) < 55296 := by omega
    clear hn h1
    go_enter Tryz.func172, Tryz.ntmps172
    go_wp2
    go_ret
    exact ⟨rfl, x⟩
  · have h2 : ¬ (n : Int) < 55296 := by omega
    have h3 : (57343 : Int) < (n : Int) := by omega
    have h4 : (n : Int) ≤ 1114111 := by omega
    clear hn h1
    go_enter Tryz.func172, Tryz.ntmps172
    go_wp2
    go_ret
    exact ⟨rfl, x⟩
def ClassIs (r : Int) (w : World) (e : Ending) (w' : World) : Prop := ∃ k : Int, e = .returned (.int .i64 k) ∧ decide (1 < k) = mayR r ∧ Ext w w'
theorem CClass_any (r : Int) (h : Utf8.valid r = true) (w : World) : Calls Tryz.prog 187 #[.int .i32 r] w (ClassIs r w) := by
  have hv := ValidRune_ok r h w
  obtain ⟨n, rfl, hn⟩ := valid_cases h
  have HV := qh hv
  have fin : ∀ (k : Int) (w' : World), decide (1 < k) = mayR (n : Int) → Ext w w' → ClassIs (n : Int) w (.returned (.int .i64 k)) w' := fun k w' h1 h2 => ⟨k, rfl, h1, h2⟩
  have FIN := qh fin
  have HN := qh hn
  clear h hv hn fin
  go_enter Tryz.func187, Tryz.ntmps187
  go_wp2_with fail
  refine HV.out.mono ?_
  rintro e w1 ⟨rfl, x1⟩
  have X1 := qh x1
  clear x1
  by_cases a1 : (n : Int) < 32
  · go_wp2_with fail
    go_ret
    exact FIN.out _ _ (by unfold mayR; simp; omega) X1.out
  by_cases a2 : (n : Int) = 127
  · have b2 : ((n : Int) == 127) = true := by simpa using a2
    have A2 := qh a2
    clear a2
    go_wp2_with fail
    go_ret
    exact FIN.out _ _ (by unfold mayR; have := A2.out; simp; omega) X1.out
  have b2 : ((n : Int) == 127) = false := by simpa using a2
  have hm : mayR (n : Int) = true := by unfold mayR; simp; omega
  rw [hm] at FIN
  have A1 := qh a1
  by_cases a3 : (n : Int) = 32
  · have b3 : ((n : Int) == 32) = true := by simpa using a3
    clear a3 a2
    go_wp2_with fail
    go_ret
    exact FIN.out _ _ rfl X1.out
  have b3 : ((n : Int) == 32) = false := by simpa using a3
  by_cases a4 : (n : Int) = 160
  · have b4 : ((n : Int) == 160) = true := by simpa using a4
    clear a4 a3 a2
    go_wp2_with fail
    go_ret
    exact FIN.out _ _ rfl X1.out
  have b4 : ((n : Int) == 160) = false := by simpa using a4
  by_cases a5 : (n : Int) = 65533
  · have b5 : ((n : Int) == 65533) = true := by simpa using a5
    clear a5 a4 a3 a2
    go_wp2_with fail
    go_ret
    exact FIN.out _ _ rfl X1.out
  have b5 : ((n : Int) == 65533) = false := by simpa using a5
  clear a5 a4 a3 a2
  by_cases a6 : (128 : Int) ≤ (n : Int)
  · have c1 : (97 : Int) ≤ (n : Int) := by omega
    have c2 : ¬ (n : Int) ≤ 122 := by omega
    have c3 : (65 : Int) ≤ (n : Int) := by omega
    have c4 : ¬ (n : Int) ≤ 90 := by omega
    go_wp2_with fail
    go_ret
    exact FIN.out _ _ rfl X1.out
  by_cases a7 : (97 : Int) ≤ (n : Int)
  · by_cases a8 : (n : Int) ≤ 122
    · go_wp2_with fail
      go_ret
      exact FIN.out _ _ rfl X1.out
    · have c3 : (65 : Int) ≤ (n : Int) := by omega
      have c4 : ¬ (n : Int) ≤ 90 := by omega
      have c5 : (48 : Int) ≤ (n : Int) := by omega
      have c6 : ¬ (n : Int) ≤ 57 := by omega
      go_wp2_with fail
      go_ret
      exact FIN.out _ _ rfl X1.out
  by_cases a9 : (65 : Int) ≤ (n : Int)
  · by_cases a8 : (n : Int) ≤ 90
    · go_wp2_with fail
      go_ret
      exact FIN.out _ _ rfl X1.out
    · have c5 : (48 : Int) ≤ (n : Int) := by omega
      have c6 : ¬ (n : Int) ≤ 57 := by omega
      go_wp2_with fail
      go_ret
      exact FIN.out _ _ rfl X1.out
  by_cases a8 : (48 : Int) ≤ (n : Int)
  · by_cases a10 : (n : Int) ≤ 57
    · go_wp2_with fail
      go_ret
      exact FIN.out _ _ rfl X1.out
    · go_wp2_with fail
      go_ret
      exact FIN.out _ _ rfl X1.out
  · go_wp2_with fail
    go_ret
    exact FIN.out _ _ rfl X1.out
theorem CMay_any (r : Int) (h : Utf8.valid r = true) (w : World) : Calls Tryz.prog 166 #[.int .i32 r] w (RBool (mayR r) w) := by
  have HC := qh (CClass_any r h w)
  clear h
  obtain ⟨b, hb⟩ : ∃ b, mayR r = b := ⟨_, rfl⟩
  rw [hb]
  have HB := qh hb
  clear hb
  go_enter Tryz.func166, Tryz.ntmps166
  go_wp2_with fail
  refine HC.out.mono ?_
  rintro e w1 ⟨k, rfl, hk, x1⟩
  have HK := qh hk
  clear hk
  go_wp2_with fail
  go_ret
  exact ⟨by rw [← HB.out, ← HK.out]; rfl, x1⟩
theorem AName_any (s : ByteArray) (w : World) : Calls Tryz.prog 137 #[.string s] w (RBool (nameOk s) w) := by
  have x0 := Ext.refl w
  obtain ⟨b, hb⟩ : ∃ b, nameOk s = b := ⟨_, rfl⟩
  rw [hb]
  have HB := qh hb
  clear hb
  by_cases h1 : s.size < 1
  · have e : b = false := by
      cases hb : b
      · rfl
      · have := ((nameOk_iff s).1 (HB.out.trans hb)).1; omega
    subst e
    have h1' : (s.size : Int) < 1 := by omega
    clear h1
    go_enter Tryz.func137, Tryz.ntmps137
    go_wp2
    go_ret
    exact ⟨rfl, x0⟩
  have h1' : ¬ (s.size : Int) < 1 := by omega
  by_cases h2 : 16 < s.size
  · have e : b = false := by
      cases hb : b
      · rfl
      · have := ((nameOk_iff s).1 (HB.out.trans hb)).1; omega
    subst e
    have h2' : (16 : Int) < (s.size : Int) := by omega
    clear h1 h2
    go_enter Tryz.func137, Tryz.ntmps137
    go_wp2
    go_ret
    exact ⟨rfl, x0⟩
  have h2' : ¬ (16 : Int) < (s.size : Int) := by omega
  have HS := qh (show 1 ≤ s.size ∧ s.size ≤ 16 by omega)
  clear h1 h2
  go_enter Tryz.func137, Tryz.ntmps137
  go_wp2_with fail
  clear h1' h2'
  go_loopw [] (fun wr => ∃ pos : Nat, wr.heap[w.heap.size]? = some (.stringIter s pos) ∧ Ext w wr ∧ pos ≤ s.size ∧ ∀ j (h : j < s.size), j < pos → nameR (decide (j = 0)) ((s[j]'h).toNat : Int) = true) (fun wr => s.size - wr.iterPos w.heap.size)
  case atStart => exact ⟨0, by have := World.iter_heap w s 0; simpa using this, (Ext.refl w).alloc _, Nat.zero_le _, fun j _ hj => absurd hj (Nat.not_lt_zero _)⟩
  case round =>
    obtain ⟨pos, hit, xr, hle, hpre⟩ := hrel
    have hsz : w.heap.size < wr.heap.size := (Array.getElem?_eq_some_iff.1 hit).1
    have HPRE := qh hpre
    clear hpre
    by_cases hp : pos < s.size
    · have hnx : ∀ ty, (Instr.next (.pointer (some ⟨w.heap.size, 0, none⟩)) true ty).run Tryz.prog wr = _ := fun ty => Lib.run_next_any_at wr w.heap.size s pos ty hit hp
      have HST := qh (fun h : nameOk s = true => name_step h hp)
      have HNX := qh (fun h => name_next (s := s) (pos := pos) hp h)
      have HDL := qh (decode_le s pos)
      have hit2 := Lib.iterAt_heap wr w.heap.size s pos (pos + (Utf8.decode s pos).2) hit
      have xr2 := xr.iterAt (Nat.le_refl _) s (pos + (Utf8.decode s pos).2)
      have HIT2 := qh hit2
      have XR2 := qh xr2
      have HIT := qh hit
      clear hit hit2 xr xr2
      generalize Utf8.decode s pos = D at *
      obtain ⟨rn, wd⟩ := D
      dsimp only at *
      have good : nameR (decide (pos = 0)) (Int.ofNat rn) = true → ∃ wx : World, wx = wr.iterAt w.heap.size s (pos + wd) ∧ (∃ pos : Nat, wx.heap[w.heap.size]? = some (.stringIter s pos) ∧ Ext w wx ∧ pos ≤ s.size ∧ ∀ j (h : j < s.size), j < pos → nameR (decide (j = 0)) ((s[j]'h).toNat : Int) = true) ∧ s.size - wx.iterPos w.heap.size < s.size - wr.iterPos w.heap.size := by
        intro h
        obtain ⟨e1, e2⟩ := HNX.out h
        refine ⟨_, rfl, ⟨pos + wd, HIT2.out, XR2.out, by omega, fun j hj hlt => ?_⟩, ?_⟩
        · by_cases hjp : j = pos
          · subst hjp; exact e2
          · exact HPRE.out j hj (by omega)
        · simp only [World.iterPos, HIT2.out, HIT.out]; omega
      have bad : nameR (decide (pos = 0)) (Int.ofNat rn) = false → b = false := by
        intro h
        cases hb : b
        · rfl
        · have := HST.out (HB.out.trans hb); rw [h] at this; cases this
      have GOOD := qh good
      have BAD := qh bad
      clear good bad
      by_cases l1 : (97 : Int) ≤ (rn : Int) ∧ (rn : Int) ≤ 122
      · obtain ⟨wx, hwx, r1, r2⟩ := GOOD.out (by unfold nameR; simp; omega)
        obtain ⟨l1, l2⟩ := l1
        go_wp2_with fail
        go_roundw
        case rel => rw [← hwx]; exact r1
        case measure => rw [← hwx]; exact r2
      · by_cases hz : pos = 0
        · have hb : b = false := BAD.out (by unfold nameR; subst hz; simp; omega)
          subst hb
          subst hz
          by_cases l2 : (97 : Int) ≤ (rn : Int)
          · have l3 : ¬ (rn : Int) ≤ 122 := by omega
            clear l1
            go_wp2_with fail
            go_ret
            exact ⟨rfl, by have := XR2.out; rw [Nat.zero_add] at this; exact this⟩
          · clear l1
            go_wp2_with fail
            go_ret
            exact ⟨rfl, by have := XR2.out; rw [Nat.zero_add] at this; exact this⟩
        · have hz1 : ((pos : Int) == 0) = false := by simpa using hz
          have hz2 : ¬ (pos : Int) = 0 := by omega
          by_cases d1 : (48 : Int) ≤ (rn : Int) ∧ (rn : Int) ≤ 57
          · obtain ⟨wx, hwx, r1, r2⟩ := GOOD.out (by unfold nameR; simp [hz]; omega)
            have d2 : ¬ (rn : Int) < 48 := by omega
            have d3 : ¬ (57 : Int) < (rn : Int) := by omega
            have d4 : ¬ (97 : Int) ≤ (rn : Int) := by omega
            clear d1 l1 hz
            go_wp2_with fail
            go_roundw
            case rel => rw [← hwx]; exact r1
            case measure => rw [← hwx]; exact r2
          · by_cases d5 : (rn : Int) = 45
            · obtain ⟨wx, hwx, r1, r2⟩ := GOOD.out (by unfold nameR; simp [hz]; omega)
              have d2 : (rn : Int) < 48 := by omega
              have d4 : ¬ (97 : Int) ≤ (rn : Int) := by omega
              have d6 : ((rn : Int) == 45) = true := by simpa using d5
              clear d1 l1 hz d5
              go_wp2_with fail
              go_roundw
              case rel => rw [← hwx]; exact r1
              case measure => rw [← hwx]; exact r2
            · have hb : b = false := BAD.out (by unfold nameR; simp [hz]; omega)
              subst hb
              have d6 : ((rn : Int) == 45) = false := by simpa using d5
              by_cases l2 : (97 : Int) ≤ (rn : Int)
              · have l3 : ¬ (rn : Int) ≤ 122 := by omega
                have d2 : ¬ (rn : Int) < 48 := by omega
                have d3 : (57 : Int) < (rn : Int) := by omega
                clear l1 d1 d5 hz
                go_wp2_with fail
                go_ret
                exact ⟨rfl, XR2.out⟩
              · by_cases d2 : (rn : Int) < 48
                · clear l1 d1 d5 hz
                  go_wp2_with fail
                  go_ret
                  exact ⟨rfl, XR2.out⟩
                · have d3 : (57 : Int) < (rn : Int) := by omega
                  clear l1 d1 d5 hz
                  go_wp2_with fail
                  go_ret
                  exact ⟨rfl, XR2.out⟩
    · have hnx : ∀ ty, (Instr.next (.pointer (some ⟨w.heap.size, 0, none⟩)) true ty).run Tryz.prog wr = _ := fun ty => Lib.run_next_end_at wr w.heap.size s pos ty hit hp
      have hb : b = true := by
        rw [← HB.out]
        exact (nameOk_iff s).2 ⟨HS.out, fun j hj => HPRE.out j hj (by omega)⟩
      subst hb
      go_wp2
      go_ret
      exact ⟨rfl, xr⟩
def Tabs (w : World) : Prop := Lib.Utf8Tabs 1 2 w
theorem Tabs.ext {w w' : World} (h : Tabs w) (x : Ext w w') : Tabs w' := ⟨fun c hc => x.cell (h.1 c hc), fun i hi => ⟨x.cell (h.2 i hi).1, x.cell (h.2 i hi).2⟩⟩
theorem AValue_any (s : ByteArray) (w : World) (hT : Tabs w) : Calls Tryz.prog 138 #[.string s] w (RBool (valueOk s) w) := by
  obtain ⟨b, hb⟩ : ∃ b, valueOk s = b := ⟨_, rfl⟩
  rw [hb]
  have HB := qh hb
  have HT := qh hT
  clear hb hT
  go_enter Tryz.func138, Tryz.ntmps138
  go_wp2_with fail
  go_loopw [] (fun wr => ∃ pos fuel : Nat, wr.heap[w.heap.size]? = some (.stringIter s pos) ∧ Ext w wr ∧ s.size ≤ pos + fuel ∧ (runeList s s.size 0).all mayR = (runeList s fuel pos).all mayR) (fun wr => s.size - wr.iterPos w.heap.size)
  case atStart => exact ⟨0, s.size, by have := World.iter_heap w s 0; simpa using this, (Ext.refl w).alloc _, by omega, rfl⟩
  case round =>
    obtain ⟨pos, fuel, hit, xr, hfu, hall⟩ := hrel
    have hsz : w.heap.size < wr.heap.size := (Array.getElem?_eq_some_iff.1 hit).1
    by_cases hp : pos < s.size
    · have hnx : ∀ ty, (Instr.next (.pointer (some ⟨w.heap.size, 0, none⟩)) true ty).run Tryz.prog wr = _ := fun ty => Lib.run_next_any_at wr w.heap.size s pos ty hit hp
      have hwd := width_pos s pos hp
      have hva := decode_valid s pos
      have hit2 := Lib.iterAt_heap wr w.heap.size s pos (pos + (Utf8.decode s pos).2) hit
      have xr2 := xr.iterAt (Nat.le_refl _) s (pos + (Utf8.decode s pos).2)
      obtain ⟨f, rfl⟩ : ∃ f, fuel = f + 1 := ⟨fuel - 1, by omega⟩
      have hrl : runeList s (f + 1) pos = Int.ofNat (Utf8.decode s pos).1 :: runeList s f (pos + (Utf8.decode s pos).2) := by rw [runeList, if_pos hp]
      rw [hrl, List.all_cons] at hall
      clear hrl
      generalize Utf8.decode s pos = D at *
      obtain ⟨rn, wd⟩ := D
      dsimp only at *
      have HC := qh (CMay_any (Int.ofNat rn) hva (wr.iterAt w.heap.size s (pos + wd)))
      have HIT2 := qh hit2
      have XR2 := qh xr2
      have HIT := qh hit
      have HALL := qh hall
      clear hit hit2 xr xr2 hva hall
      have hm : mayR (Int.ofNat rn) = true ∨ mayR (Int.ofNat rn) = false := by cases mayR (Int.ofNat rn); exact .inr rfl; exact .inl rfl
      rcases hm with hm | hm
      · rw [hm] at HC
        go_wp2_with fail
        refine HC.out.mono ?_
        rintro e w2 ⟨rfl, x2⟩
        have hi2 := x2.block HIT2.out
        have r1 : ∃ pos fuel : Nat, w2.heap[w.heap.size]? = some (.stringIter s pos) ∧ Ext w w2 ∧ s.size ≤ pos + fuel ∧ (runeList s s.size 0).all mayR = (runeList s fuel pos).all mayR :=
          ⟨pos + wd, f, hi2, XR2.out.trans x2, by omega, by rw [HALL.out, hm, Bool.true_and]⟩
        have r2 : s.size - w2.iterPos w.heap.size < s.size - wr.iterPos w.heap.size := by
          simp only [World.iterPos, hi2, HIT.out]; omega
        have R1 := qh r1
        have R2 := qh r2
        clear r1 r2 hi2 x2
        go_wp2_with fail
        go_roundw
        case rel => exact R1.out
        case measure => exact R2.out
      · rw [hm] at HC
        have hb : b = false := by rw [← HB.out]; unfold valueOk; rw [HALL.out, hm]; simp
        subst hb
        go_wp2_with fail
        refine HC.out.mono ?_
        rintro e w2 ⟨rfl, x2⟩
        have X2 := qh (XR2.out.trans x2)
        clear x2
        go_wp2_with fail
        go_ret
        exact ⟨rfl, X2.out⟩
    · have hnx : ∀ ty, (Instr.next (.pointer (some ⟨w.heap.size, 0, none⟩)) true ty).run Tryz.prog wr = _ := fun ty => Lib.run_next_end_at wr w.heap.size s pos ty hit hp
      have e : runeList s fuel pos = [] := by cases fuel with | zero => rfl | succ f => rw [runeList, if_neg hp]
      rw [e] at hall
      have hb2 : b = (decide (s.size ≤ 200) && Lib.validD s.data.toList) := by rw [← HB.out, valid_anew]; unfold valueOk; rw [hall]; simp
      have XR := qh xr
      have HB2 := qh hb2
      clear hall hb2 xr hit e
      by_cases h2 : s.size ≤ 200
      · have h2' : (s.size : Int) ≤ 200 := by omega
        have HV := qh (ValidString_any s wr (by omega) (HT.out.ext XR.out))
        have hb3 : b = Lib.validD s.data.toList := by rw [HB2.out]; simp [h2]
        rw [← hb3] at HV
        have h2 := qh h2
        clear hb3
        go_wp2_with fail
        refine HV.out.mono ?_
        rintro e w2 ⟨rfl, x2⟩
        have X2 := qh (XR.out.trans x2)
        clear x2
        go_wp2_with fail
        go_ret
        exact ⟨rfl, X2.out⟩
      · have h2' : ¬ (s.size : Int) ≤ 200 := by omega
        have hb3 : b = false := by rw [HB2.out]; simp [h2]
        subst hb3
        clear h2
        go_wp2_with fail
        go_ret
        exact ⟨rfl, XR.out⟩
theorem str_eq (a b : ByteArray) : (a.toList == b.toList) = decide (a = b) := by
  rw [Bool.eq_iff_iff, beq_iff_eq, decide_eq_true_eq, ByteArray.toList_eq, ByteArray.toList_eq]
  exact ⟨bytes_ext, fun e => by rw [e]⟩
theorem r1Class_any_fin {r : Int} {w : World} (k : Int) (w' : World) (h1 : decide (1 < k) = mayR r) (h2 : Ext w w') : ClassIs r w (.returned (.int .i64 k)) w' := ⟨k, rfl, h1, h2⟩
theorem r1Class_any (r : Int) (h : Utf8.valid r = true) (w : World) : Calls Tryz.prog 181 #[.int .i32 r] w (ClassIs r w) := by
  obtain ⟨n, rfl, hn⟩ := valid_cases h
  have FIN := qh (fun (k : Int) (w' : World) (h1 : decide (1 < k) = mayR (n : Int)) (h2 : Ext w w') => r1Class_any_fin (r := (n : Int)) k w' h1 h2)
  have x := Ext.refl w
  have z0 : ¬ (n : Int) < 0 := by omega
  have z1 : ¬ (1114111 : Int) < (n : Int) := by omega
  have z2 : (55296 : Int) ≤ (n : Int) ∧ ¬ (n : Int) ≤ 57343 ∨ ¬ (55296 : Int) ≤ (n : Int) := by omega
  clear h hn
  have go : ∀ {P : Prop}, P → P := fun p => p
  by_cases a1 : (n : Int) < 32
  · have a2 : ¬ (55296 : Int) ≤ (n : Int) := by omega
    go_enter Tryz.func181, Tryz.ntmps181
    go_wp2_with fail
    go_ret
    exact FIN.out _ _ (by unfold mayR; simp; omega) x
  by_cases a2 : (n : Int) = 127
  · have b2 : ((n : Int) == 127) = true := by simpa using a2
    have A2 := qh a2
    have a3 : ¬ (55296 : Int) ≤ (n : Int) := by omega
    clear a2
    go_enter Tryz.func181, Tryz.ntmps181
    go_wp2_with fail
    go_ret
    exact FIN.out _ _ (by unfold mayR; have := A2.out; simp; omega) x
  have b2 : ((n : Int) == 127) = false := by simpa using a2
  have hm : mayR (n : Int) = true := by unfold mayR; simp; omega
  rw [hm] at FIN
  have A1 := qh a1
  clear a2 hm
  by_cases a3 : (n : Int) = 32
  · have b3 : ((n : Int) == 32) = true := by simpa using a3
    have a4 : ¬ (55296 : Int) ≤ (n : Int) := by omega
    clear a3 A1
    go_enter Tryz.func181, Tryz.ntmps181
    go_wp2_with fail
    go_ret
    exact FIN.out _ _ rfl x
  have b3 : ((n : Int) == 32) = false := by simpa using a3
  by_cases a4 : (n : Int) = 160
  · have b4 : ((n : Int) == 160) = true := by simpa using a4
    have a5 : ¬ (55296 : Int) ≤ (n : Int) := by omega
    clear a4 a3
    go_enter Tryz.func181, Tryz.ntmps181
    go_wp2_with fail
    go_ret
    exact FIN.out _ _ rfl x
  have b4 : ((n : Int) == 160) = false := by simpa using a4
  clear a4 a3
  rcases z2 with ⟨y1, y2⟩ | y1
  · have c1 : (97 : Int) ≤ (n : Int) := by omega
    have c2 : ¬ (n : Int) ≤ 122 := by omega
    have c3 : (65 : Int) ≤ (n : Int) := by omega
    have c4 : ¬ (n : Int) ≤ 90 := by omega
    have c5 : (128 : Int) ≤ (n : Int) := by omega
    have c6 : (48 : Int) ≤ (n : Int) := by omega
    have c7 : ¬ (n : Int) ≤ 57 := by omega
    have b5 : ((n : Int) == 65533) = true ∨ ((n : Int) == 65533) = false := by cases ((n : Int) == 65533); exact .inr rfl; exact .inl rfl
    rcases b5 with b5 | b5
    · go_enter Tryz.func181, Tryz.ntmps181
      go_wp2_with fail
      go_ret
      exact FIN.out _ _ rfl x
    · go_enter Tryz.func181, Tryz.ntmps181
      go_wp2_with fail
      go_ret
      exact FIN.out _ _ rfl x
  · have b5 : ((n : Int) == 65533) = false := by rw [beq_eq_false_iff_ne]; omega
    by_cases c1 : (97 : Int) ≤ (n : Int)
    · have c3 : (65 : Int) ≤ (n : Int) := by omega
      have c4 : ¬ (n : Int) ≤ 90 := by omega
      have c6 : (48 : Int) ≤ (n : Int) := by omega
      have c7 : ¬ (n : Int) ≤ 57 := by omega
      by_cases c2 : (n : Int) ≤ 122
      · go_enter Tryz.func181, Tryz.ntmps181
        go_wp2_with fail
        go_ret
        exact FIN.out _ _ rfl x
      · by_cases c5 : (128 : Int) ≤ (n : Int)
        · go_enter Tryz.func181, Tryz.ntmps181
          go_wp2_with fail
          go_ret
          exact FIN.out _ _ rfl x
        · go_enter Tryz.func181, Tryz.ntmps181
          go_wp2_with fail
          go_ret
          exact FIN.out _ _ rfl x
    · have c5 : ¬ (128 : Int) ≤ (n : Int) := by omega
      by_cases c3 : (65 : Int) ≤ (n : Int)
      · have c6 : (48 : Int) ≤ (n : Int) := by omega
        have c7 : ¬ (n : Int) ≤ 57 := by omega
        by_cases c4 : (n : Int) ≤ 90
        · go_enter Tryz.func181, Tryz.ntmps181
          go_wp2_with fail
          go_ret
          exact FIN.out _ _ rfl x
        · go_enter Tryz.func181, Tryz.ntmps181
          go_wp2_with fail
          go_ret
          exact FIN.out _ _ rfl x
      · by_cases c6 : (48 : Int) ≤ (n : Int)
        · by_cases c7 : (n : Int) ≤ 57
          · go_enter Tryz.func181, Tryz.ntmps181
            go_wp2_with fail
            go_ret
            exact FIN.out _ _ rfl x
          · go_enter Tryz.func181, Tryz.ntmps181
            go_wp2_with fail
            go_ret
            exact FIN.out _ _ rfl x
        · go_enter Tryz.func181, Tryz.ntmps181
          go_wp2_with fail
          go_ret
          exact FIN.out _ _ rfl x
theorem r1May_any (r : Int) (h : Utf8.valid r = true) (w : World) : Calls Tryz.prog 155 #[.int .i32 r] w (RBool (mayR r) w) := by
  have HC := qh (r1Class_any r h w)
  clear h
  obtain ⟨b, hb⟩ : ∃ b, mayR r = b := ⟨_, rfl⟩
  rw [hb]
  have HB := qh hb
  clear hb
  go_enter Tryz.func155, Tryz.ntmps155
  go_wp2_with fail
  refine HC.out.mono ?_
  rintro e w1 ⟨k, rfl, hk, x1⟩
  have HK := qh hk
  clear hk
  go_wp2_with fail
  go_ret
  refine ⟨?_, x1⟩
  have e : decide ((2 : Int) ≤ k) = b := by rw [← HB.out, ← HK.out]; exact decide_eq_decide.2 ⟨fun h => by omega, fun h => by omega⟩
  rw [← e]
  rfl
def RRunes (s : ByteArray) (w : World) (e : Ending) (w' : World) : Prop := ∃ v, e = .returned v ∧ Ext w w' ∧ RowRd w' 1 v (runeList s s.size 0).length ((runeList s s.size 0).map (.int .i32)) ∧ ∀ u, Ext w' u → (Go.convert 125 9 v).run Tryz.prog u = .ok (.string (anewB s)) u
theorem runes_run (s : ByteArray) (hs : s.size ≤ 1000000000000) (w : World) : ∃ (v : Value) (w' : World), (Go.convert 9 125 (.string s)).run Tryz.prog w = .ok v w' ∧ RRunes s w (.returned v) w' := by
  have h1 := run_runes_of_string (P := Tryz.prog) w 9 125 21 s Tryz.underlying9 Tryz.underlying125 Tryz.underlying21 (by have := size_runesFrom s s.size 0 #[]; simp at this; omega)
  have e1 : Conv.runesFrom s s.size 0 #[] = ((runeList s s.size 0).map (Value.int .i32)).toArray := by rw [runesFrom_eq]; simp
  have hz : anewB s = runesBytes (runeList s s.size 0) := rfl
  rw [e1] at h1
  unfold RRunes
  rw [hz]
  clear hz e1 hs
  generalize runeList s s.size 0 = l at *
  generalize hk : grownCap w (List.map (Value.int IntKind.i32) l).toArray.size 0 21 = K at *
  have hge := grownCap_ge w (List.map (Value.int IntKind.i32) l).toArray.size 0 21
  rw [hk] at hge
  clear hk
  generalize hC : (List.map (Value.int IntKind.i32) l).toArray ++ Array.replicate (K - (List.map (Value.int IntKind.i32) l).toArray.size) (Value.int IntKind.i32 0) = C at *
  have hcells : ∀ u, Ext (w.drew.alloc (.cells C 21)) u → ∀ j (hj : j < l.length), u.cell? ((⟨w.heap.size, 0, none⟩ : Addr).add j) = some (.int .i32 l[j]) := by
    intro u hu j hj
    have hb : u.heap[w.heap.size]? = some (.cells C 21 (0, 0)) := hu.block (heap_alloc_new w.drew _)
    rw [Addr.add_lit, Nat.zero_add]
    refine cellOf hb ?_
    rw [← hC, Array.getElem?_append_left (by simpa using hj)]
    simp [hj]
  simp only [List.size_toArray, List.length_map] at h1 hge
  refine ⟨_, _, h1, _, rfl, (Ext.refl w).drew.alloc _, ⟨by simp, _, _, rfl, hge, (fun e => by cases e), fun a e j x hx => ?_⟩, fun u hu => ?_⟩
  · cases e
    obtain ⟨hj, e⟩ := List.getElem?_eq_some_iff.1 hx
    rw [List.getElem_map] at e
    rw [← e]
    exact hcells _ (Ext.refl _) j (by simpa using hj)
  · have h2 := run_convert_runes (P := Tryz.prog) u 125 9 21 ⟨w.heap.size, 0, none⟩ l.length K l (Nat.le_refl _) Tryz.underlying125 Tryz.underlying21 Tryz.underlying9 (fun j hj => by rw [hcells u hu j hj]; simp [List.getD, hj])
    rw [List.take_length] at h2
    exact h2
theorem Runes_any (s : ByteArray) (hs : s.size ≤ 1000000000000) (w : World) : Calls Tryz.prog 154 #[.string s] w (RRunes s w) := by
  obtain ⟨v, w', h1, h2⟩ := runes_run s hs w
  have HR := qh h2
  have H1 := qh h1
  clear h1 h2 hs
  go_enter Tryz.func154, Tryz.ntmps154
  go_wp2_with fail
  rw [H1.out]
  go_wp2_with fail
  go_ret
  exact HR.out
theorem r3Name_any (s : ByteArray) (w : World) : Calls Tryz.prog 114 #[.string s] w (RBool (nameOk s) w) := by
  have x0 := Ext.refl w
  obtain ⟨b, hb⟩ : ∃ b, nameOk s = b := ⟨_, rfl⟩
  rw [hb]
  have HB := qh hb
  clear hb
  have bad : ¬ ((1 ≤ s.size ∧ s.size ≤ 16) ∧ ∀ j (h : j < s.size), nameR (decide (j = 0)) ((s[j]'h).toNat : Int) = true) → b = false := by
    intro h
    cases hb : b
    · rfl
    · exact absurd ((nameOk_iff s).1 (HB.out.trans hb)) h
  have BAD := qh bad
  clear bad
  by_cases h1 : s.size = 0
  · have e : b = false := BAD.out fun h => by omega
    subst e
    have h1' : ((s.size : Int) == 0) = true := by simpa using h1
    clear h1
    go_enter Tryz.func114, Tryz.ntmps114
    go_wp2
    go_ret
    exact ⟨rfl, x0⟩
  have h1' : ((s.size : Int) == 0) = false := by simpa using h1
  by_cases h2 : 16 < s.size
  · have e : b = false := BAD.out fun h => by omega
    subst e
    have h2' : (16 : Int) < (s.size : Int) := by omega
    clear h1 h2
    go_enter Tryz.func114, Tryz.ntmps114
    go_wp2
    go_ret
    exact ⟨rfl, x0⟩
  have h2' : ¬ (16 : Int) < (s.size : Int) := by omega
  have HS := qh (show 1 ≤ s.size ∧ s.size ≤ 16 by omega)
  have hpos : 0 < s.size := by omega
  obtain ⟨c, hc⟩ : ∃ c, s[0]'hpos = c := ⟨_, rfl⟩
  have hix : ∀ W : World, (Instr.index 9 (.string s) (.int .i64 0)).run Tryz.prog W = .ok (.int .u8 (c.toNat : Int)) W := by
    intro W
    rw [run_index_string W 9 s .i64 0 Tryz.underlying9, dif_pos ⟨by omega, by omega⟩]
    simp only [Int.toNat_zero, hc]
  have HC0 := qh hc
  have HP := qh hpos
  clear h1 h2 hc
  have bad0 : ¬ (97 ≤ c.toNat ∧ c.toNat ≤ 122) → b = false := fun h => BAD.out fun g => h (by
    have := g.2 0 HP.out
    rw [HC0.out] at this
    unfold nameR at this
    simp at this
    omega)
  by_cases l1 : (c.toNat : Int) < 97
  · have e : b = false := bad0 (by omega)
    subst e
    go_enter Tryz.func114, Tryz.ntmps114
    go_wp2
    go_ret
    exact ⟨rfl, x0⟩
  by_cases l2 : (122 : Int) < (c.toNat : Int)
  · have e : b = false := bad0 (by omega)
    subst e
    go_enter Tryz.func114, Tryz.ntmps114
    go_wp2
    go_ret
    exact ⟨rfl, x0⟩
  have H0 := qh (show 97 ≤ c.toNat ∧ c.toNat ≤ 122 by omega)
  clear bad0
  go_enter Tryz.func114, Tryz.ntmps114
  go_wp2_with fail
  clear h1' h2' l1 l2 hix
  go_loopw [3] (fun i wr => ∃ k : Nat, i = .int .i64 k ∧ k ≤ s.size ∧ wr = w ∧ ∀ j (h : j < s.size), j < k → nameR (decide (j = 0)) ((s[j]'h).toNat : Int) = true) (fun i _ => s.size - (intOf i).toNat)
  case atStart => exact ⟨0, rfl, Nat.zero_le _, rfl, fun j _ hj => absurd hj (Nat.not_lt_zero _)⟩
  case round =>
    obtain ⟨k, rfl, hk, rfl, hpre⟩ := hrel
    have HPRE := qh hpre
    have hs16 : s.size ≤ 16 := HS.out.2
    clear hpre
    by_cases hlt : k < s.size
    · obtain ⟨d, hd⟩ : ∃ d, s[k]'hlt = d := ⟨_, rfl⟩
      have hix : ∀ W : World, (Instr.index 9 (.string s) (.int .i64 (k : Int))).run Tryz.prog W = .ok (.int .u8 (d.toNat : Int)) W := by
        intro W
        rw [run_index_string W 9 s .i64 (k : Int) Tryz.underlying9, dif_pos ⟨by omega, by omega⟩]
        simp only [Int.toNat_natCast, hd]
      have good : nameR (decide (k = 0)) (d.toNat : Int) = true → ∀ j (h : j < s.size), j < k + 1 → nameR (decide (j = 0)) ((s[j]'h).toNat : Int) = true := by
        intro h j hj hjk
        by_cases hjp : j = k
        · subst hjp; rw [hd]; exact h
        · exact HPRE.out j hj (by omega)
      have bad : nameR (decide (k = 0)) (d.toNat : Int) = false → b = false := fun h => BAD.out fun g => by
        have := g.2 k hlt
        rw [hd, h] at this
        cases this
      have k0 : ¬ (97 ≤ d.toNat ∧ d.toNat ≤ 122) → k ≠ 0 := by
        rintro h rfl
        have := HC0.out
        rw [hd] at this
        exact h (this ▸ H0.out)
      have GOOD := qh good
      have BADK := qh bad
      have K0 := qh k0
      clear good bad k0 hd
      by_cases m1 : (97 : Int) ≤ (d.toNat : Int) ∧ (d.toNat : Int) ≤ 122
      · have HG := qh (GOOD.out (by unfold nameR; simp; omega))
        obtain ⟨m1, m2⟩ := m1
        go_wp2_with fail
        go_roundw
        case rel => exact ⟨k + 1, by go_num, by omega, by first | rfl | trivial, HG.out⟩
        case measure => simp [intOf]; omega
      · have hk0 := K0.out (by omega)
        have HK0 := qh hk0
        clear hk0
        have m2 : ¬ (97 : Int) ≤ (d.toNat : Int) ∨ ((97 : Int) ≤ (d.toNat : Int) ∧ ¬ (d.toNat : Int) ≤ 122) := by omega
        by_cases d1 : (48 : Int) ≤ (d.toNat : Int) ∧ (d.toNat : Int) ≤ 57
        · have HG := qh (GOOD.out (by unfold nameR; simp [HK0.out]; omega))
          have d4 : ¬ (97 : Int) ≤ (d.toNat : Int) := by omega
          obtain ⟨d1, d2⟩ := d1
          clear m1 m2
          go_wp2_with fail
          go_roundw
          case rel => exact ⟨k + 1, by go_num, by omega, by first | rfl | trivial, HG.out⟩
          case measure => simp [intOf]; omega
        · by_cases d5 : (d.toNat : Int) = 45
          · have HG := qh (GOOD.out (by unfold nameR; simp [HK0.out]; omega))
            have d4 : ¬ (97 : Int) ≤ (d.toNat : Int) := by omega
            have d3 : ¬ (48 : Int) ≤ (d.toNat : Int) := by omega
            have d6 : ((d.toNat : Int) == 45) = true := by simpa using d5
            clear m1 m2 d1 d5
            go_wp2_with fail
            go_roundw
            case rel => exact ⟨k + 1, by go_num, by omega, by first | rfl | trivial, HG.out⟩
            case measure => simp [intOf]; omega
          · have hb : b = false := BADK.out (by unfold nameR; simp [HK0.out]; omega)
            subst hb
            have d6 : ((d.toNat : Int) == 45) = false := by simpa using d5
            have d2 : ¬ (48 : Int) ≤ (d.toNat : Int) ∨ ((48 : Int) ≤ (d.toNat : Int) ∧ ¬ (d.toNat : Int) ≤ 57) := by omega
            clear m1 d1 d5
            rcases m2 with m2 | ⟨m2, m3⟩
            · rcases d2 with d2 | ⟨d2, d3⟩
              · go_wp2_with fail
                go_ret
                exact ⟨rfl, x0⟩
              · go_wp2_with fail
                go_ret
                exact ⟨rfl, x0⟩
            · rcases d2 with d2 | ⟨d2, d3⟩
              · go_wp2_with fail
                go_ret
                exact ⟨rfl, x0⟩
              · go_wp2_with fail
                go_ret
                exact ⟨rfl, x0⟩
    · have hb : b = true := by
        rw [← HB.out]
        exact (nameOk_iff s).2 ⟨HS.out, fun j hj => HPRE.out j hj (by omega)⟩
      subst hb
      go_wp2
      go_ret
      exact ⟨rfl, x0⟩
theorem r3Value_any (s : ByteArray) (hs : s.size ≤ 1000000000000) (w : World) : Calls Tryz.prog 115 #[.string s] w (RBool (valueOk s) w) := by
  obtain ⟨b, hb⟩ : ∃ b, valueOk s = b := ⟨_, rfl⟩
  rw [hb]
  have HB := qh hb
  have HR := qh (Runes_any s hs w)
  have HVAL := qh (runeList_valid s s.size 0)
  clear hb hs
  go_enter Tryz.func115, Tryz.ntmps115
  go_wp2_with fail
  refine HR.out.mono ?_
  rintro e w1 ⟨v, rfl, x1, hr, hcv⟩
  obtain ⟨ao, cap, rfl, hcap⟩ := hr.len_of
  have X1 := qh x1
  have HRW := qh hr
  have HCV := qh (hcv w1 (Ext.refl _))
  clear x1 hr hcv
  by_cases h1 : 200 < s.size
  · have e : b = false := by rw [← HB.out]; unfold valueOk; rw [decide_eq_false (by omega)]; simp
    subst e
    have h1' : (200 : Int) < (s.size : Int) := by omega
    clear h1
    go_wp2_with fail
    go_ret
    exact ⟨rfl, X1.out⟩
  have h1' : ¬ (200 : Int) < (s.size : Int) := by omega
  have H1 := qh (show s.size ≤ 200 by omega)
  clear h1
  by_cases h2 : anewB s = s
  case neg =>
    have e : b = false := by rw [← HB.out]; unfold valueOk; rw [decide_eq_false h2]; simp
    subst e
    have h2' : ((anewB s).toList == s.toList) = false := by rw [str_eq]; exact decide_eq_false h2
    clear h2
    go_wp2_with fail
    rw [HCV.out]
    go_wp2_with fail
    go_ret
    exact ⟨rfl, X1.out⟩
  have h2' : ((anewB s).toList == s.toList) = true := by rw [str_eq]; exact decide_eq_true h2
  have H2 := qh h2
  clear h2
  have hlen : (runeList s s.size 0).length ≤ 1000000000000 := by
    have := runeList_len s s.size 0
    have := H1.out
    omega
  go_wp2_with fail
  rw [HCV.out]
  go_wp2_with fail
  have hall : b = (runeList s s.size 0).all mayR := by
    rw [← HB.out]; unfold valueOk; rw [decide_eq_true H1.out, decide_eq_true H2.out]; rfl
  have HALL := qh hall
  clear hall h1' h2'
  generalize runeList s s.size 0 = l at *
  go_loopw [4] (fun i wr => ∃ k : Nat, i = .int .i64 k ∧ k ≤ l.length ∧ Ext w1 wr ∧ ∀ (j : Nat) (r : Int), j < k → l[j]? = some r → mayR r = true) (fun i _ => l.length - (intOf i).toNat)
  case atStart => exact ⟨0, rfl, Nat.zero_le _, Ext.refl _, fun j r hj => absurd hj (Nat.not_lt_zero _)⟩
  case round =>
    obtain ⟨k, rfl, hk, xr, hpre⟩ := hrel
    have HPRE := qh hpre
    have XR := qh xr
    clear hpre
    by_cases hlt : k < l.length
    · obtain ⟨r, hr⟩ : ∃ r, l[k]? = some r := ⟨l[k], by simp [hlt]⟩
      obtain ⟨_, ao', cap', e, _, h0, hc⟩ := HRW.out
      cases e
      cases ao with
      | none => exact absurd (h0 rfl).1 (by omega)
      | some a =>
        have q := xr.cells _ _ (hc a rfl k (.int .i32 r) (by rw [List.getElem?_map, hr]; rfl))
        have HM := qh (r1May_any r (HVAL.out r (List.mem_of_getElem? hr)) wr)
        have HRR := qh hr
        obtain ⟨m, hm⟩ : ∃ m, mayR r = m := ⟨_, rfl⟩
        rw [hm] at HM
        have HMM := qh hm
        clear hr hc h0 hm xr
        cases m with
        | true =>
          go_wp2_with (go_at_call 155; refine HM.out.mono ?_)
          rintro e w3 ⟨rfl, x3⟩
          go_wp2_with fail
          go_roundw
          case rel =>
            refine ⟨k + 1, by go_num, by omega, XR.out.trans x3, fun j y hj hy => ?_⟩
            by_cases hjk : j = k
            · subst hjk
              rw [HRR.out] at hy
              cases hy
              exact HMM.out
            · exact HPRE.out j y (by omega) hy
          case measure => simp [intOf]; omega
        | false =>
          have hb : b = false := by
            rw [HALL.out, Bool.eq_false_iff]
            intro h
            rw [List.all_eq_true] at h
            have := h r (List.mem_of_getElem? HRR.out)
            rw [HMM.out] at this
            cases this
          subst hb
          go_wp2_with (go_at_call 155; refine HM.out.mono ?_)
          rintro e w3 ⟨rfl, x3⟩
          go_wp2_with fail
          go_ret
          exact ⟨rfl, (X1.out.trans XR.out).trans x3⟩
    · have hb : b = true := by
        rw [HALL.out, List.all_eq_true]
        intro r hr
        obtain ⟨j, hj, e⟩ := List.getElem_of_mem hr
        exact HPRE.out j r (by omega) (by rw [List.getElem?_eq_getElem hj, e])
      subst hb
      clear xr
      go_wp2
      go_ret
      exact ⟨rfl, X1.out.trans XR.out⟩
theorem rBlank_any (c : UInt8) (w : World) : Calls Tryz.prog 117 #[.int .u8 (c.toNat : Int)] w (RBool (blankB c) w) := by
  obtain ⟨b, hb⟩ : ∃ b, blankB c = b := ⟨_, rfl⟩
  rw [hb]
  have HB := qh hb
  have x := Ext.refl w
  have ne : ∀ m : UInt8, c ≠ m → ((c.toNat : Int) == (m.toNat : Int)) = false := by
    intro m h
    rw [beq_eq_false_iff_ne]
    intro e
    exact h (UInt8.toNat_inj.1 (by omega))
  have NE := qh ne
  clear hb ne
  by_cases h1 : c = 9
  · have e : b = true := by rw [← HB.out, h1]; rfl
    have e1 : ((c.toNat : Int) == 9) = true := by rw [h1]; rfl
    subst e
    clear h1
    go_enter Tryz.func117, Tryz.ntmps117
    go_wp2
    go_ret
    exact ⟨rfl, x⟩
  have e1 : ((c.toNat : Int) == 9) = false := NE.out 9 h1
  by_cases h2 : c = 10
  · have e : b = true := by rw [← HB.out, h2]; rfl
    have e2 : ((c.toNat : Int) == 10) = true := by rw [h2]; rfl
    subst e
    clear h1 h2
    go_enter Tryz.func117, Tryz.ntmps117
    go_wp2
    go_ret
    exact ⟨rfl, x⟩
  have e2 : ((c.toNat : Int) == 10) = false := NE.out 10 h2
  by_cases h3 : c = 12
  · have e : b = true := by rw [← HB.out, h3]; rfl
    have e3 : ((c.toNat : Int) == 12) = true := by rw [h3]; rfl
    subst e
    clear h1 h2 h3
    go_enter Tryz.func117, Tryz.ntmps117
    go_wp2
    go_ret
    exact ⟨rfl, x⟩
  have e3 : ((c.toNat : Int) == 12) = false := NE.out 12 h3
  by_cases h4 : c = 13
  · have e : b = true := by rw [← HB.out, h4]; rfl
    have e4 : ((c.toNat : Int) == 13) = true := by rw [h4]; rfl
    subst e
    clear h1 h2 h3 h4
    go_enter Tryz.func117, Tryz.ntmps117
    go_wp2
    go_ret
    exact ⟨rfl, x⟩
  have e4 : ((c.toNat : Int) == 13) = false := NE.out 13 h4
  by_cases h5 : c = 32
  · have e : b = true := by rw [← HB.out, h5]; rfl
    have e5 : ((c.toNat : Int) == 32) = true := by rw [h5]; rfl
    subst e
    clear h1 h2 h3 h4 h5
    go_enter Tryz.func117, Tryz.ntmps117
    go_wp2
    go_ret
    exact ⟨rfl, x⟩
  have e5 : ((c.toNat : Int) == 32) = false := NE.out 32 h5
  have e : b = false := by rw [← HB.out]; unfold blankB; simp [h1, h2, h3, h4, h5]
  subst e
  clear h1 h2 h3 h4 h5
  go_enter Tryz.func117, Tryz.ntmps117
  go_wp2
  go_ret
  exact ⟨rfl, x⟩
end Go.Proofs.YtalaajbajgdglaaGreatDoor
namespace Go.Proofs.YtalaajbajgdglaaGreatDoor
open Go
abbrev bs (l : List UInt8) : ByteArray := ⟨l.toArray⟩
theorem bs_list (s : ByteArray) : bs s.data.toList = s := by cases s; simp
theorem bs_data (l : List UInt8) : (bs l).data.toList = l := by simp
theorem bs_size (l : List UInt8) : (bs l).size = l.length := by simp [bs, ByteArray.size]
theorem bs_inj {a b : List UInt8} : bs a = bs b ↔ a = b := by
  constructor
  · intro h; have := congrArg (fun s : ByteArray => s.data.toList) h; simpa using this
  · rintro rfl; rfl
theorem bs_cut (l : List UInt8) (i j : Nat) : (bs l).extract i j = bs ((l.drop i).take (j - i)) := ByteArray.extract_mk l i j
theorem bs_add (a b : List UInt8) : bs a ++ bs b = bs (a ++ b) := by
  have h : (bs a ++ bs b).data.toList = (bs (a ++ b)).data.toList := by rw [ByteArray.data_append, Array.toList_append]
  have h2 := congrArg bs h
  rw [bs_list, bs_list] at h2
  exact h2
def smallC (c : UInt8) : UInt8 := if 65 ≤ c.toNat ∧ c.toNat ≤ 90 then c ||| 32 else c
def letterB (c : UInt8) : Bool := decide (97 ≤ (c ||| 32).toNat ∧ (c ||| 32).toNat ≤ 122)
def digitB (c : UInt8) : Bool := decide (48 ≤ c.toNat ∧ c.toNat ≤ 57)
def alnumB (c : UInt8) : Bool := letterB c || digitB c
theorem all_bytes {p : UInt8 → Prop} (h : ∀ n : Fin 256, p (UInt8.ofNat n.val)) (c : UInt8) : p c := by
  have := h ⟨c.toNat, c.toNat_lt⟩
  have e : UInt8.ofNat c.toNat = c := by simp
  rw [e] at this
  exact this
theorem letter_iff (c : UInt8) : letterB c = decide (97 ≤ c.toNat ∧ c.toNat ≤ 122 ∨ 65 ≤ c.toNat ∧ c.toNat ≤ 90) := by
  revert c
  exact all_bytes (p := fun c => letterB c = decide (97 ≤ c.toNat ∧ c.toNat ≤ 122 ∨ 65 ≤ c.toNat ∧ c.toNat ≤ 90)) (by decide +kernel)
theorem small_add (c : UInt8) : smallC c = if 65 ≤ c.toNat ∧ c.toNat ≤ 90 then c + 32 else c := by
  revert c
  exact all_bytes (p := fun c => smallC c = if 65 ≤ c.toNat ∧ c.toNat ≤ 90 then c + 32 else c) (by decide +kernel)
def namedL (l : List UInt8) : Option (List UInt8) :=
  if l = [97, 109, 112] then some [38] else if l = [108, 116] then some [60] else if l = [103, 116] then some [62] else if l = [113, 117, 111, 116] then some [34]
  else if l = [97, 112, 111, 115] then some [39] else if l = [110, 98, 115, 112] then some [194, 160] else none
def digV (c : UInt8) : Nat := if 48 ≤ c.toNat ∧ c.toNat ≤ 57 then c.toNat - 48 else if 97 ≤ c.toNat ∧ c.toNat ≤ 102 then c.toNat - 87 else if 65 ≤ c.toNat ∧ c.toNat ≤ 70 then c.toNat - 55 else 99
def numL (base : Nat) : Nat → List UInt8 → Option Nat
  | n, [] => some n
  | n, c :: r => if base ≤ digV c then none else numL base (n * base + digV c) r
def runeN (n : Nat) : Bool := decide (n ≠ 0 ∧ n ≤ 1114111 ∧ ¬ (55296 ≤ n ∧ n ≤ 57343))
def codeN (base most : Nat) (l : List UInt8) : Option Nat := if l = [] ∨ most < l.length then none else (numL base 0 l).filter runeN
def codeL (l : List UInt8) : Option Nat := if l.head? = some 120 then codeN 16 6 l.tail else codeN 10 7 l
def codedL (l : List UInt8) : Option (List UInt8) := (codeL l).map fun (n : Nat) => (Utf8.encode (n : Int)).data.toList
def meansL (l : List UInt8) (e : Nat) : Option (List UInt8) := match namedL ((l.drop 1).take (e - 1)) with
  | some x => some x
  | none => if l.take 2 = [38, 35] then codedL ((l.drop 2).take (e - 2)) else none
def entityL (l : List UInt8) : List UInt8 × Nat :=
  let e := Lib.indexByte (l.take 12) 59
  if e < 0 then ([38], 1) else match meansL l e.toNat with
    | some x => (x, e.toNat + 1)
    | none => ([38], 1)
theorem entityL_pos (l : List UInt8) : 1 ≤ (entityL l).2 := by
  unfold entityL
  dsimp only
  split
  · exact Nat.le_refl _
  · split
    · exact Nat.succ_le_succ (Nat.zero_le _)
    · exact Nat.le_refl _
def decF : Nat → List UInt8 → List UInt8
  | 0, _ => []
  | f + 1, [] => []
  | f + 1, c :: r => if c = 38 then (entityL (c :: r)).1 ++ decF f ((c :: r).drop (entityL (c :: r)).2) else c :: decF f r
def decL (l : List UInt8) : List UInt8 := decF l.length l
theorem decF_more : ∀ (f : Nat) (l : List UInt8), l.length ≤ f → decF f l = decL l := by
  intro f
  induction f using Nat.strongRecOn with
  | ind f ih =>
    intro l hl
    unfold decL
    cases l with
    | nil => cases f <;> rfl
    | cons c r =>
      cases f with
      | zero => simp at hl
      | succ f =>
        simp only [List.length_cons] at hl ⊢
        simp only [decF]
        have hp := entityL_pos (c :: r)
        have hd : ((c :: r).drop (entityL (c :: r)).2).length ≤ r.length := by rw [List.length_drop]; simp; omega
        split
        · rw [ih f (by omega) _ (by omega)]
          rcases Nat.lt_or_ge r.length (f + 1) with h | h
          · rw [ih r.length (by omega) _ hd]
          · omega
        · rw [ih f (by omega) _ (by omega), ih r.length (by omega) _ (Nat.le_refl _)]
theorem decL_nil : decL [] = [] := rfl
theorem decL_amp (r : List UInt8) : decL (38 :: r) = (entityL (38 :: r)).1 ++ decL ((38 :: r).drop (entityL (38 :: r)).2) := by
  have h1 : decL (38 :: r) = (entityL (38 :: r)).1 ++ decF r.length ((38 :: r).drop (entityL (38 :: r)).2) := by
    show decF (r.length + 1) (38 :: r) = _
    simp [decF]
  rw [h1, decF_more]
  have hp := entityL_pos (38 :: r)
  rw [List.length_drop, List.length_cons]
  omega
theorem decL_cons {c : UInt8} (h : c ≠ 38) (r : List UInt8) : decL (c :: r) = c :: decL r := by
  show decF (r.length + 1) (c :: r) = _
  simp [decF, h]
  rfl
theorem decL_front {p : List UInt8} (h : ∀ c ∈ p, c ≠ 38) (r : List UInt8) : decL (p ++ r) = p ++ decL r := by
  induction p with
  | nil => rfl
  | cons c p ih =>
    rw [List.cons_append, decL_cons (h c (by simp)), ih fun c hc => h c (by simp [hc])]
    rfl
theorem indexByte_some {l : List UInt8} {c : UInt8} (h : ¬ Lib.indexByte l c < 0) : ∃ k : Nat, Lib.indexByte l c = (k : Int) ∧ l[k]? = some c ∧ ∀ j x, j < k → l[j]? = some x → x ≠ c := by
  induction l with
  | nil => exact absurd (by decide : (-1 : Int) < 0) h
  | cons b r ih =>
    unfold Lib.indexByte at h ⊢
    by_cases hb : (b == c) = true
    · rw [if_pos hb] at h ⊢
      have e : b = c := by simpa using hb
      exact ⟨0, rfl, by simp [e], fun j x hj => absurd hj (Nat.not_lt_zero _)⟩
    · rw [if_neg hb] at h ⊢
      by_cases hm : (Lib.indexByte r c == -1) = true
      · rw [if_pos hm] at h; exact absurd (by decide : (-1 : Int) < 0) h
      · rw [if_neg hm] at h ⊢
        have hge := Lib.indexByte_ge r c
        have hne : Lib.indexByte r c ≠ -1 := by simpa using hm
        obtain ⟨k, e, h1, h2⟩ := ih (by omega)
        refine ⟨k + 1, by rw [e]; rfl, by simpa using h1, fun j x hj hx => ?_⟩
        cases j with
        | zero => simp at hx; subst hx; simpa using hb
        | succ j => exact h2 j x (by omega) (by simpa using hx)
theorem indexByte_none {l : List UInt8} {c : UInt8} (h : Lib.indexByte l c < 0) : ∀ x ∈ l, x ≠ c := by
  induction l with
  | nil => intro x hx; cases hx
  | cons b r ih =>
    unfold Lib.indexByte at h
    by_cases hb : (b == c) = true
    · rw [if_pos hb] at h; exact absurd h (by decide)
    · rw [if_neg hb] at h
      by_cases hm : (Lib.indexByte r c == -1) = true
      · have hne : Lib.indexByte r c = -1 := by simpa using hm
        intro x hx
        rcases List.mem_cons.1 hx with rfl | hx
        · simpa using hb
        · exact ih (by omega) x hx
      · rw [if_neg hm] at h
        have hge := Lib.indexByte_ge r c
        have hne : Lib.indexByte r c ≠ -1 := by simpa using hm
        omega
end Go.Proofs.YtalaajbajgdglaaGreatDoor
namespace Go.Proofs.YtalaajbajgdglaaGreatDoor
open Go Go.RowKit Go.BigFrame
def layPre_ren : Go.Shelf.Ren := ⟨fun | 99 => 84 | 206 => 124 | n => n, fun | 3 => 3 | 4 => 4 | 9 => 9 | n => n, fun | n => n⟩
theorem layPre : Go.Proofs.Lays.n99 Tryz.prog layPre_ren := {
  mixed := by kernel_rfl
  f99 := Tryz.func84.trans (congrArg some (by kernel_rfl))
  f206 := Tryz.func124.trans (congrArg some (by kernel_rfl))
  t3 := Tryz.underlying3
  a3 := Tryz.isAgg3
  z3 := Tryz.sizeOf3
  v3 := Tryz.zeroValue3
  t4 := Tryz.underlying4
  a4 := Tryz.isAgg4
  z4 := Tryz.sizeOf4
  v4 := Tryz.zeroValue4
  t9 := Tryz.underlying9
  a9 := Tryz.isAgg9
  z9 := Tryz.sizeOf9
  v9 := Tryz.zeroValue9 }
def laySuf_ren : Go.Shelf.Ren := ⟨fun | 100 => 132 | 207 => 162 | n => n, fun | 3 => 3 | 4 => 4 | 9 => 9 | n => n, fun | n => n⟩
theorem laySuf : Go.Proofs.Lays.n100 Tryz.prog laySuf_ren := {
  mixed := by kernel_rfl
  f100 := Tryz.func132.trans (congrArg some (by kernel_rfl))
  f207 := Tryz.func162.trans (congrArg some (by kernel_rfl))
  t3 := Tryz.underlying3
  a3 := Tryz.isAgg3
  z3 := Tryz.sizeOf3
  v3 := Tryz.zeroValue3
  t4 := Tryz.underlying4
  a4 := Tryz.isAgg4
  z4 := Tryz.sizeOf4
  v4 := Tryz.zeroValue4
  t9 := Tryz.underlying9
  a9 := Tryz.isAgg9
  z9 := Tryz.sizeOf9
  v9 := Tryz.zeroValue9 }
def layIB_ren : Go.Shelf.Ren := ⟨fun | 137 => 92 | 217 => 139 | 266 => 168 | n => n, fun | 3 => 3 | 5 => 5 | 9 => 9 | n => n, fun | n => n⟩
theorem layIB : Go.Proofs.Lays.n137 Tryz.prog layIB_ren := {
  mixed := by kernel_rfl
  f137 := Tryz.func92.trans (congrArg some (by kernel_rfl))
  f217 := Tryz.func139.trans (congrArg some (by kernel_rfl))
  f266 := Tryz.func168.trans (congrArg some (by kernel_rfl))
  t3 := Tryz.underlying3
  a3 := Tryz.isAgg3
  z3 := Tryz.sizeOf3
  v3 := Tryz.zeroValue3
  t5 := Tryz.underlying5
  a5 := Tryz.isAgg5
  z5 := Tryz.sizeOf5
  v5 := Tryz.zeroValue5
  t9 := Tryz.underlying9
  a9 := Tryz.isAgg9
  z9 := Tryz.sizeOf9
  v9 := Tryz.zeroValue9 }
def layIx_ren : Go.Shelf.Ren := ⟨fun | 143 => 85 | 217 => 139 | 219 => 125 | 224 => 160 | 225 => 159 | 266 => 168 | 267 => 161 | 314 => 186 | n => n, fun | 3 => 3 | 4 => 4 | 5 => 5 | 9 => 9 | 46 => 188 | 51 => 204 | 146 => 205 | n => n, fun | 1 => 0 | n => n⟩
theorem layIx : Go.Proofs.Lays.n143 Tryz.prog layIx_ren := {
  mixed := by kernel_rfl
  f143 := Tryz.func85.trans (congrArg some (by kernel_rfl))
  f217 := Tryz.func139.trans (congrArg some (by kernel_rfl))
  f219 := Tryz.func125.trans (congrArg some (by kernel_rfl))
  f224 := Tryz.func160.trans (congrArg some (by kernel_rfl))
  f225 := Tryz.func159.trans (congrArg some (by kernel_rfl))
  f266 := Tryz.func168.trans (congrArg some (by kernel_rfl))
  f267 := Tryz.func161.trans (congrArg some (by kernel_rfl))
  f314 := Tryz.func186.trans (congrArg some (by kernel_rfl))
  t3 := Tryz.underlying3
  a3 := Tryz.isAgg3
  z3 := Tryz.sizeOf3
  v3 := Tryz.zeroValue3
  t4 := Tryz.underlying4
  a4 := Tryz.isAgg4
  z4 := Tryz.sizeOf4
  v4 := Tryz.zeroValue4
  t5 := Tryz.underlying5
  a5 := Tryz.isAgg5
  z5 := Tryz.sizeOf5
  v5 := Tryz.zeroValue5
  t9 := Tryz.underlying9
  a9 := Tryz.isAgg9
  z9 := Tryz.sizeOf9
  v9 := Tryz.zeroValue9
  t46 := Tryz.underlying188
  a46 := Tryz.isAgg188
  z46 := Tryz.sizeOf188
  v46 := Tryz.zeroValue188
  t51 := Tryz.underlying204
  a51 := Tryz.isAgg204
  z51 := Tryz.sizeOf204
  v51 := Tryz.zeroValue204
  t146 := Tryz.underlying205
  a146 := Tryz.isAgg205
  z146 := Tryz.sizeOf205
  v146 := Tryz.zeroValue205
  g1 := by kernel_rfl }

theorem HasPrefix_any (s p : ByteArray) (w : World) : Calls Tryz.prog 84 #[.string s, .string p] w (RVal (.bool (Lib.hasPrefix s.data.toList p.data.toList)) w) :=
  (Any.strings_HasPrefix layPre s p w).mono fun _ _ ⟨h1, h2⟩ => ⟨h1, h2 ▸ Ext.refl w⟩
theorem HasSuffix_any (s p : ByteArray) (w : World) (hs : s.size ≤ 9223372036854775807) : Calls Tryz.prog 132 #[.string s, .string p] w (RVal (.bool (Lib.hasSuffix s.data.toList p.data.toList)) w) :=
  (Any.strings_HasSuffix laySuf s p w hs).mono fun _ _ ⟨h1, h2⟩ => ⟨h1, h2 ▸ Ext.refl w⟩
theorem IndexByte_any (s : ByteArray) (c : UInt8) (z : Int) (hz : z = (c.toNat : Int)) (w : World) : Calls Tryz.prog 92 #[.string s, .int .u8 z] w (RVal (.int .i64 (Lib.indexByte s.data.toList c)) w) := by
  subst hz
  refine (Any.strings_IndexByte layIB s (c.toNat : Int) w).mono fun _ _ ⟨h1, h2⟩ => ⟨h1.trans ?_, h2 ▸ Ext.refl w⟩
  have e : ((c.toNat : Int)).toNat.toUInt8 = c := by simp
  rw [e]
theorem Index_any (s sub : ByteArray) (m : Int) (w : World) (hs : s.size < 4294967281) (hm : w.cell? ⟨0, 0, none⟩ = some (.int .i64 m)) : Calls Tryz.prog 85 #[.string s, .string sub] w (RVal (.int .i64 (Lib.index s.data.toList sub.data.toList)) w) :=
  (Any.strings_Index layIx s sub m w hs hm).mono fun _ _ ⟨h1, h2⟩ => ⟨h1, h2 ▸ Ext.refl w⟩

theorem xdigit_any (c : UInt8) (w : World) : Calls Tryz.prog 129 #[.int .u8 (c.toNat : Int)] w (RBool (digitB c) w) := by
  have x := Ext.refl w
  obtain ⟨b, hb⟩ : ∃ b, digitB c = b := ⟨_, rfl⟩
  rw [hb]
  unfold digitB at hb
  have HB := qh hb
  clear hb
  by_cases h1 : (48 : Int) ≤ (c.toNat : Int)
  · by_cases h2 : (c.toNat : Int) ≤ 57
    · have e : b = true := by rw [← HB.out]; exact decide_eq_true (by omega)
      subst e
      go_enter Tryz.func129, Tryz.ntmps129
      go_wp2
      go_ret
      exact ⟨rfl, x⟩
    · have e : b = false := by rw [← HB.out]; exact decide_eq_false (by omega)
      subst e
      go_enter Tryz.func129, Tryz.ntmps129
      go_wp2
      go_ret
      exact ⟨rfl, x⟩
  · have e : b = false := by rw [← HB.out]; exact decide_eq_false (by omega)
    subst e
    go_enter Tryz.func129, Tryz.ntmps129
    go_wp2
    go_ret
    exact ⟨rfl, x⟩
theorem xblank_any (c : UInt8) (w : World) : Calls Tryz.prog 131 #[.int .u8 (c.toNat : Int)] w (RBool (blankB c) w) := by
  have x := Ext.refl w
  obtain ⟨b, hb⟩ : ∃ b, blankB c = b := ⟨_, rfl⟩
  rw [hb]
  have hbi : ∀ c : UInt8, blankB c = decide (c.toNat = 32 ∨ 9 ≤ c.toNat ∧ c.toNat ≤ 13 ∧ c.toNat ≠ 11) := by
    exact all_bytes (p := fun c => blankB c = decide (c.toNat = 32 ∨ 9 ≤ c.toNat ∧ c.toNat ≤ 13 ∧ c.toNat ≠ 11)) (by decide +kernel)
  have HB := qh ((hbi c).symm.trans hb)
  clear hb hbi
  by_cases h0 : c.toNat = 32
  · have e : b = true := by rw [← HB.out]; exact decide_eq_true (.inl h0)
    have e0 : ((c.toNat : Int) == 32) = true := by rw [h0]; rfl
    subst e
    clear h0
    go_enter Tryz.func131, Tryz.ntmps131
    go_wp2
    go_ret
    exact ⟨rfl, x⟩
  have e0 : ((c.toNat : Int) == 32) = false := by rw [beq_eq_false_iff_ne]; omega
  by_cases h1 : (9 : Int) ≤ (c.toNat : Int)
  · by_cases h2 : (c.toNat : Int) ≤ 13
    · by_cases h3 : c.toNat = 11
      · have e : b = false := by rw [← HB.out]; exact decide_eq_false (by omega)
        have e1 : ((c.toNat : Int) == 11) = true := by rw [h3]; rfl
        have e2 : ((c.toNat : Int) != 11) = false := by simp [bne, e1]
        subst e
        clear h3 h0
        go_enter Tryz.func131, Tryz.ntmps131
        go_wp2
        go_ret
        exact ⟨by first | rfl | (rw [e2]), x⟩
      · have e : b = true := by rw [← HB.out]; exact decide_eq_true (by omega)
        have e1 : ((c.toNat : Int) == 11) = false := by rw [beq_eq_false_iff_ne]; omega
        have e2 : ((c.toNat : Int) != 11) = true := by simp [bne, e1]
        subst e
        clear h3 h0
        go_enter Tryz.func131, Tryz.ntmps131
        go_wp2
        go_ret
        exact ⟨by first | rfl | (rw [e2]), x⟩
    · have e : b = false := by rw [← HB.out]; exact decide_eq_false (by omega)
      subst e
      go_enter Tryz.func131, Tryz.ntmps131
      go_wp2
      go_ret
      exact ⟨rfl, x⟩
  · have e : b = false := by rw [← HB.out]; exact decide_eq_false (by omega)
    subst e
    go_enter Tryz.func131, Tryz.ntmps131
    go_wp2
    go_ret
    exact ⟨rfl, x⟩
def optV (o : Option (List UInt8)) : Value := .tuple #[.string (bs (o.getD [])), .bool o.isSome]
theorem list_beq (a b : List UInt8) : ((bs a).toList == (bs b).toList) = decide (a = b) := by
  rw [ByteArray.toList_eq, ByteArray.toList_eq]
  have e1 : (bs a).data.toList = a := by simp
  have e2 : (bs b).data.toList = b := by simp
  rw [e1, e2, Bool.eq_iff_iff, beq_iff_eq, decide_eq_true_eq]
theorem named_any (s : ByteArray) (w : World) : Calls Tryz.prog 141 #[.string s] w (RVal (optV (namedL s.data.toList)) w) := by
  have x := Ext.refl w
  obtain ⟨r, hr⟩ : ∃ r, namedL s.data.toList = r := ⟨_, rfl⟩
  rw [hr]
  unfold namedL at hr
  have HR := qh hr
  clear hr
  by_cases h0 : s.data.toList = [97, 109, 112]
  · have e : r = some [38] := by rw [← HR.out, if_pos h0]
    have e0 : (s.toList == ([97, 109, 112] : List UInt8)) = true := by rw [ByteArray.toList_eq, h0]; rfl
    subst e
    clear  h0
    go_enter Tryz.func141, Tryz.ntmps141
    go_wp2
    go_ret2
    exact ⟨rfl, x⟩
  have e0 : (s.toList == ([97, 109, 112] : List UInt8)) = false := by rw [ByteArray.toList_eq, beq_eq_false_iff_ne]; exact h0
  by_cases h1 : s.data.toList = [108, 116]
  · have e : r = some [60] := by rw [← HR.out, if_neg h0, if_pos h1]
    have e1 : (s.toList == ([108, 116] : List UInt8)) = true := by rw [ByteArray.toList_eq, h1]; rfl
    subst e
    clear h0 h1
    go_enter Tryz.func141, Tryz.ntmps141
    go_wp2
    go_ret2
    exact ⟨rfl, x⟩
  have e1 : (s.toList == ([108, 116] : List UInt8)) = false := by rw [ByteArray.toList_eq, beq_eq_false_iff_ne]; exact h1
  by_cases h2 : s.data.toList = [103, 116]
  · have e : r = some [62] := by rw [← HR.out, if_neg h0, if_neg h1, if_pos h2]
    have e2 : (s.toList == ([103, 116] : List UInt8)) = true := by rw [ByteArray.toList_eq, h2]; rfl
    subst e
    clear h0 h1 h2
    go_enter Tryz.func141, Tryz.ntmps141
    go_wp2
    go_ret2
    exact ⟨rfl, x⟩
  have e2 : (s.toList == ([103, 116] : List UInt8)) = false := by rw [ByteArray.toList_eq, beq_eq_false_iff_ne]; exact h2
  by_cases h3 : s.data.toList = [113, 117, 111, 116]
  · have e : r = some [34] := by rw [← HR.out, if_neg h0, if_neg h1, if_neg h2, if_pos h3]
    have e3 : (s.toList == ([113, 117, 111, 116] : List UInt8)) = true := by rw [ByteArray.toList_eq, h3]; rfl
    subst e
    clear h0 h1 h2 h3
    go_enter Tryz.func141, Tryz.ntmps141
    go_wp2
    go_ret2
    exact ⟨rfl, x⟩
  have e3 : (s.toList == ([113, 117, 111, 116] : List UInt8)) = false := by rw [ByteArray.toList_eq, beq_eq_false_iff_ne]; exact h3
  by_cases h4 : s.data.toList = [97, 112, 111, 115]
  · have e : r = some [39] := by rw [← HR.out, if_neg h0, if_neg h1, if_neg h2, if_neg h3, if_pos h4]
    have e4 : (s.toList == ([97, 112, 111, 115] : List UInt8)) = true := by rw [ByteArray.toList_eq, h4]; rfl
    subst e
    clear h0 h1 h2 h3 h4
    go_enter Tryz.func141, Tryz.ntmps141
    go_wp2
    go_ret2
    exact ⟨rfl, x⟩
  have e4 : (s.toList == ([97, 112, 111, 115] : List UInt8)) = false := by rw [ByteArray.toList_eq, beq_eq_false_iff_ne]; exact h4
  by_cases h5 : s.data.toList = [110, 98, 115, 112]
  · have e : r = some [194, 160] := by rw [← HR.out, if_neg h0, if_neg h1, if_neg h2, if_neg h3, if_neg h4, if_pos h5]
    have e5 : (s.toList == ([110, 98, 115, 112] : List UInt8)) = true := by rw [ByteArray.toList_eq, h5]; rfl
    subst e
    clear h0 h1 h2 h3 h4 h5
    go_enter Tryz.func141, Tryz.ntmps141
    go_wp2
    go_ret2
    exact ⟨rfl, x⟩
  have e5 : (s.toList == ([110, 98, 115, 112] : List UInt8)) = false := by rw [ByteArray.toList_eq, beq_eq_false_iff_ne]; exact h5
  have e : r = none := by rw [← HR.out, if_neg h0, if_neg h1, if_neg h2, if_neg h3, if_neg h4, if_neg h5]
  subst e
  clear h0 h1 h2 h3 h4 h5
  go_enter Tryz.func141, Tryz.ntmps141
  go_wp2
  go_ret2
  exact ⟨rfl, x⟩
theorem bits_or32 (c : UInt8) : bits BinOp.or IntKind.u8 (c.toNat : Int) 32 = ((c ||| 32).toNat : Int) := by
  revert c
  exact all_bytes (p := fun c => bits BinOp.or IntKind.u8 (c.toNat : Int) 32 = ((c ||| 32).toNat : Int)) (by decide +kernel)
theorem xletter_any (c : UInt8) (w : World) : Calls Tryz.prog 87 #[.int .u8 (c.toNat : Int)] w (RBool (letterB c) w) := by
  have x := Ext.refl w
  obtain ⟨b, hb⟩ : ∃ b, letterB c = b := ⟨_, rfl⟩
  rw [hb]
  unfold letterB at hb
  have hor := bits_or32 c
  generalize c ||| 32 = d at *
  have HB := qh hb
  clear hb
  by_cases h1 : (97 : Int) ≤ (d.toNat : Int)
  · by_cases h2 : (d.toNat : Int) ≤ 122
    · have e : b = true := by rw [← HB.out]; exact decide_eq_true (by omega)
      subst e
      go_enter Tryz.func87, Tryz.ntmps87
      go_wp2
      go_ret
      exact ⟨rfl, x⟩
    · have e : b = false := by rw [← HB.out]; exact decide_eq_false (by omega)
      subst e
      go_enter Tryz.func87, Tryz.ntmps87
      go_wp2
      go_ret
      exact ⟨rfl, x⟩
  · have e : b = false := by rw [← HB.out]; exact decide_eq_false (by omega)
    subst e
    go_enter Tryz.func87, Tryz.ntmps87
    go_wp2
    go_ret
    exact ⟨rfl, x⟩
theorem xanew_any (s : ByteArray) (hs : s.size ≤ 1000000000000) (w : World) : Calls Tryz.prog 49 #[.string s] w (RVal (.string (anewB s)) w) := by
  obtain ⟨v, w', h1, v2, hv, hx, hr, hc⟩ := runes_run s hs w
  cases hv
  have H1 := qh h1
  have H2 := qh (hc w' (Ext.refl w'))
  have HX := qh hx
  clear h1 hr hc hx hs
  go_enter Tryz.func49, Tryz.ntmps49
  go_wp2_with fail
  rw [H1.out]
  go_wp2_with fail
  rw [H2.out]
  go_wp2_with fail
  go_ret
  exact ⟨rfl, HX.out⟩
def Fr (g cap : Nat) (w : World) : Prop := ∃ cur fz, w.heap[g]? = some (.cells cur 5 fz) ∧ cap ≤ fz.1
theorem run_toBytesF (w : World) (s : ByteArray) (hs : s.size ≤ 140737488355328) : ∃ g cap w', (Go.convert 9 71 (.string s)).run Tryz.prog w = .ok (.slice (some ⟨g, 0, none⟩) s.size cap) w' ∧ Buf w (.slice (some ⟨g, 0, none⟩) s.size cap) s.data.toList w' ∧ Fr g cap w' := by
  obtain ⟨v, w', h1, h2⟩ := run_toBytes w s hs
  have h3 := Lib.run_convert_string_bytes (P := Tryz.prog) w 9 71 5 s Tryz.underlying9 Tryz.underlying71 Tryz.underlying5
  rw [h3] at h1
  injection h1 with e1 e2
  subst e1
  subst e2
  refine ⟨_, _, _, h3, h2, _, _, Lib.bytesWorld_at_new w 5 s, ?_⟩
  have hge := grownCap_ge w s.size 0 5
  have : (Lib.bytesCells w 5 s).size = grownCap w s.size 0 5 := by
    unfold Lib.bytesCells
    simp
    show s.size + _ = _
    omega
  exact Nat.le_of_eq this.symm
theorem Buf.set {W0 w : World} {l : List UInt8} {g n cap : Nat} (h : Buf W0 (.slice (some ⟨g, 0, none⟩) n cap) l w) (hf : Fr g cap w) {k : Nat} (hk : k < l.length) (c : UInt8) :
    w.frozen? ⟨g, k, none⟩ = false ∧ Buf W0 (.slice (some ⟨g, 0, none⟩) n cap) (l.set k c) (w.setCell ⟨g, k, none⟩ (.int .u8 (c.toNat : Int))) ∧ Fr g cap (w.setCell ⟨g, k, none⟩ (.int .u8 (c.toNat : Int))) := by
  obtain ⟨g', cap', cur, fz, h1, h2, h3, h4, h5, h6, h7, h8, h9, h10⟩ := h
  cases h1
  obtain ⟨cur2, fz2, h11, h12⟩ := hf
  rw [h3] at h11
  cases h11
  refine ⟨?_, ⟨g, cap, _, fz, by rw [List.length_set], h2, heap_setCell_same (i := k) h3 _, by rw [List.length_set]; exact h4, by rw [List.length_set]; exact h5, h6, by simpa using h7, ?_, h9.setCell (p := ⟨g, k, none⟩) h2 _, by simpa using h10⟩, _, fz, heap_setCell_same (i := k) h3 _, h12⟩
  · unfold World.frozen?
    simp only [h3]
    simp
    omega
  · rw [Array.toList_setIfInBounds, List.length_set, List.take_set, h8]
    unfold Lib.byteCells
    rw [List.map_set]
theorem part_step {l : List UInt8} {k : Nat} {c : UInt8} (h : l[k]? = some c) : (l.take (k + 1)).map smallC ++ l.drop (k + 1) = ((l.take k).map smallC ++ l.drop k).set k (smallC c) := by
  obtain ⟨hk, e⟩ := List.getElem?_eq_some_iff.1 h
  have hm : min k l.length = k := Nat.min_eq_left (Nat.le_of_lt hk)
  rw [List.take_succ_eq_append_getElem hk, List.map_append, List.drop_eq_getElem_cons hk, e, List.set_append_right _ _ (by simp; omega)]
  simp [hm]
theorem part_same {l : List UInt8} {k : Nat} {c : UInt8} (h : l[k]? = some c) (hc : smallC c = c) : (l.take (k + 1)).map smallC ++ l.drop (k + 1) = (l.take k).map smallC ++ l.drop k := by
  obtain ⟨hk, e⟩ := List.getElem?_eq_some_iff.1 h
  rw [List.take_succ_eq_append_getElem hk, List.map_append, List.drop_eq_getElem_cons hk, e]
  simp [hc]
theorem small_any (s : ByteArray) (hs : s.size ≤ 1000000000000) (w : World) : Calls Tryz.prog 127 #[.string s] w (RVal (.string (bs (s.data.toList.map smallC))) w) := by
  obtain ⟨g, cap, w1, h1, hb1, hf1⟩ := run_toBytesF w s (by omega)
  have hsz : s.data.toList.length = s.size := rfl
  obtain ⟨l, hl⟩ : ∃ l, s.data.toList = l := ⟨_, rfl⟩
  obtain ⟨N, hN⟩ : ∃ N, s.size = N := ⟨_, rfl⟩
  rw [hl] at hb1 hsz ⊢
  rw [hN] at hsz hb1 h1 hs
  have H1 := qh h1
  have HB1 := qh hb1
  have HF1 := qh hf1
  clear h1 hb1 hf1 hl hN
  go_enter Tryz.func127, Tryz.ntmps127
  go_wp2_with fail
  rw [H1.out]
  go_wp2_with fail
  go_loopw [4, 5, 10] (fun _ _ i wr => ∃ k : Nat, k ≤ N ∧ i = .int .i64 k ∧ Buf w (.slice (some ⟨g, 0, none⟩) N cap) ((l.take k).map smallC ++ l.drop k) wr ∧ Fr g cap wr) (fun _ _ i _ => N - (intOf i).toNat)
  case atStart => exact ⟨0, Nat.zero_le _, rfl, by simpa using HB1.out, HF1.out⟩
  case round =>
    obtain ⟨k, hk, rfl, hbr, hfr⟩ := hrel
    have HBR := qh hbr
    have HFR := qh hfr
    by_cases hlt : k < N
    · obtain ⟨c, hc⟩ : ∃ c, l[k]? = some c := ⟨l[k]'(by omega), List.getElem?_eq_getElem (by omega)⟩
      have hlen : ((l.take k).map smallC ++ l.drop k).length = N := by simp; omega
      have hcur : ((l.take k).map smallC ++ l.drop k)[k]? = some c := by
        rw [List.getElem?_append_right (by simp; omega)]
        have hm : min k l.length = k := Nat.min_eq_left (by omega)
        simp [hm, hc]
      have q := hbr.cells rfl k (.int .u8 (c.toNat : Int)) (by unfold Lib.byteCells; rw [List.getElem?_map, hcur]; rfl)
      rw [Addr.add_lit, Nat.zero_add] at q
      obtain ⟨fq, hset, hfs⟩ := hbr.set hfr (k := k) (by omega) (smallC c)
      rw [← part_step hc] at hset
      have HSET := qh (And.intro hset hfs)
      have HSAME := qh (fun h : smallC c = c => part_same hc h)
      have hor := bits_or32 c
      clear hset hbr hcur hlen hc hfr hfs
      by_cases b1 : (65 : Int) ≤ (c.toNat : Int)
      · by_cases b2 : (c.toNat : Int) ≤ 90
        · have e : smallC c = c ||| 32 := by unfold smallC; rw [if_pos ⟨by omega, by omega⟩]
          rw [e] at HSET
          clear e
          go_wp2_with fail
          go_roundw
          case rel => exact ⟨k + 1, by omega, by go_num, HSET.out.1, HSET.out.2⟩
          case measure => simp [intOf]; omega
        · have e := HSAME.out (by unfold smallC; rw [if_neg (by omega)])
          have HSM := qh e
          clear e
          go_wp2_with fail
          go_roundw
          case rel => exact ⟨k + 1, by omega, by go_num, by rw [HSM.out]; exact HBR.out, HFR.out⟩
          case measure => simp [intOf]; omega
      · have e := HSAME.out (by unfold smallC; rw [if_neg (by omega)])
        have HSM := qh e
        clear e
        go_wp2_with fail
        go_roundw
        case rel => exact ⟨k + 1, by omega, by go_num, by rw [HSM.out]; exact HBR.out, HFR.out⟩
        case measure => simp [intOf]; omega
    · obtain rfl : k = N := by omega
      have e : (l.take k).map smallC ++ l.drop k = l.map smallC := by rw [List.take_of_length_le (by omega), List.drop_eq_nil_of_le (by omega), List.append_nil]
      rw [e] at hbr HBR
      have hcv := run_ofBytes hbr
      have HCV := qh hcv
      clear hbr hcv e
      go_wp2_with fail
      rw [HCV.out]
      go_wp2_with fail
      go_ret
      exact ⟨rfl, HBR.out.ex⟩
theorem lower_any (c : UInt8) (w : World) : Calls Tryz.prog 204 #[.int .u8 (c.toNat : Int)] w (fun e w' => e = .returned (.int .u8 ((c ||| 32).toNat : Int)) ∧ w' = w) := by
  have hor := bits_or32 c
  go_enter Tryz.func204, Tryz.ntmps204
  go_wp2_with fail
  go_ret
  exact ⟨by first | rw [hor] | (rw [UInt8.toNat_or]; rfl), rfl⟩
def pdig (c : UInt8) : Nat := if 48 ≤ c.toNat ∧ c.toNat ≤ 57 then c.toNat - 48 else if 97 ≤ (c ||| 32).toNat ∧ (c ||| 32).toNat ≤ 122 then (c ||| 32).toNat - 87 else 99
theorem pdig_digV (b : Nat) (hb : b ≤ 16) (c : UInt8) : (pdig c < b ↔ digV c < b) ∧ (digV c < b → pdig c = digV c) := by
  have h : ∀ c : UInt8, (pdig c < 16 ↔ digV c < 16) ∧ (digV c < 16 → pdig c = digV c) := all_bytes (p := fun c => (pdig c < 16 ↔ digV c < 16) ∧ (digV c < 16 → pdig c = digV c)) (by decide +kernel)
  obtain ⟨h1, h2⟩ := h c
  refine ⟨⟨fun h3 => ?_, fun h3 => ?_⟩, fun h3 => h2 (by omega)⟩
  · have := h2 (h1.1 (by omega)); omega
  · have := h2 (by omega); omega
def PUis (r : Option Nat) (w : World) (e : Ending) (w' : World) : Prop := e = .returned (.tuple #[.int .u64 (r.getD 0 : Nat), match r with | some _ => .nilIface | none => .iface 215 (.int .i64 2)]) ∧ Ext w w'
theorem pow_le7 {k : Nat} (h : k ≤ 7) : 16 ^ k ≤ 268435456 := Nat.pow_le_pow_right (by decide) h
theorem pu10_any (s : ByteArray) (h0 : s.size ≠ 0) (h7 : s.size ≤ 7) (w : World) : Calls Tryz.prog 198 #[.string s, .int .i64 10, .int .i64 32] w (PUis (numL 10 0 s.data.toList) w) := by
  obtain ⟨g, cap, w1, h1, hb1, hf1⟩ := run_toBytesF w s (by omega)
  have e0 : (s.toList == ([] : List UInt8)) = false := by rw [ByteArray.toList_eq, beq_eq_false_iff_ne]; intro h; exact h0 (by show s.data.size = 0; have := congrArg List.length h; simpa using this)
  have hsz : s.data.toList.length = s.size := rfl
  obtain ⟨l, hl⟩ : ∃ l, s.data.toList = l := ⟨_, rfl⟩
  obtain ⟨N, hN⟩ : ∃ N, s.size = N := ⟨_, rfl⟩
  rw [hl] at hb1 hsz ⊢
  rw [hN] at hsz hb1 h1 h7
  obtain ⟨r, hr⟩ : ∃ r, numL 10 0 l = r := ⟨_, rfl⟩
  rw [hr]
  have HR := qh hr
  have H1 := qh h1
  have HB1 := qh hb1
  clear h1 hb1 hf1 hl hN hr h0
  go_enter Tryz.func198, Tryz.ntmps198
  go_wp2_with fail
  rw [H1.out]
  go_wp2_with fail
  go_loopw [12, 13, 15, 16, 17, 101] (fun u n _ _ _ i wr => ∃ (k m : Nat), k ≤ N ∧ i = .int .i64 k ∧ u = .bool false ∧ n = .int .u64 m ∧ numL 10 m (l.drop k) = r ∧ m < 16 ^ k ∧ Ext w1 wr) (fun _ _ _ _ _ i _ => N - (intOf i).toNat)
  case atStart => exact ⟨0, 0, Nat.zero_le _, rfl, rfl, rfl, by simpa using HR.out, by decide, Ext.refl _⟩
  case round =>
    obtain ⟨k, m, hk, rfl, rfl, rfl, hnum, hm, xr⟩ := hrel
    have hp7 := pow_le7 (k := k) (by omega)
    have HNUM := qh hnum
    have XR := qh xr
    clear hnum
    by_cases hlt : k < N
    · obtain ⟨c, hc⟩ : ∃ c, l[k]? = some c := ⟨l[k]'(by omega), List.getElem?_eq_getElem (by omega)⟩
      have q := (HB1.out.ext xr).cells rfl k (.int .u8 (c.toNat : Int)) (by unfold Lib.byteCells; rw [List.getElem?_map, hc]; rfl)
      rw [Addr.add_lit, Nat.zero_add] at q
      have hdrop : l.drop k = c :: l.drop (k + 1) := by
        obtain ⟨hk2, e⟩ := List.getElem?_eq_some_iff.1 hc
        rw [List.drop_eq_getElem_cons hk2, e]
      have hn := HNUM.out
      rw [hdrop, numL] at hn
      obtain ⟨p1, p2⟩ := pdig_digV 10 (by decide) c
      have bad : ¬ pdig c < 10 → r = none := fun h => by rw [← hn, if_pos (by omega)]
      have good : pdig c < 10 → numL 10 (m * 10 + pdig c) (l.drop (k + 1)) = r := fun h => by
        rw [p2 (p1.1 h), ← hn, if_neg (by have := p1.1 h; omega)]
      have pw : 16 ^ (k + 1) = 16 ^ k * 16 := Nat.pow_succ 16 k
      have BAD := qh bad
      have GOOD := qh good
      have HLOW := qh (lower_any c)
      have PW := qh pw
      have PD := qh (show pdig c = if 48 ≤ c.toNat ∧ c.toNat ≤ 57 then c.toNat - 48 else if 97 ≤ (c ||| 32).toNat ∧ (c ||| 32).toNat ≤ 122 then (c ||| 32).toNat - 87 else 99 from rfl)
      obtain ⟨P, hP⟩ : ∃ P, 16 ^ k = P := ⟨_, rfl⟩
      rw [hP] at hm hp7 PW
      obtain ⟨d, hd⟩ : ∃ d, pdig c = d := ⟨_, rfl⟩
      rw [hd] at BAD GOOD PD
      obtain ⟨lo, hlo⟩ : ∃ lo, (c ||| 32).toNat = lo := ⟨_, rfl⟩
      rw [hlo] at HLOW PD
      have hl256 : lo < 256 := by rw [← hlo]; exact (c ||| 32).toNat_lt
      have hc256 : c.toNat < 256 := c.toNat_lt
      have b95 : ((c.toNat : Int) == 95) = true ∨ ((c.toNat : Int) == 95) = false := by cases ((c.toNat : Int) == 95); exact .inr rfl; exact .inl rfl
      clear hc hdrop hn p1 p2 bad good pw hP hd hlo xr
      have hcut : ¬ (1844674407370955162 : Int) ≤ (m : Int) := by omega
      have hcuti : decide ((1844674407370955162 : Int) ≤ (m : Int)) = false := decide_eq_false hcut
      have hcutn : decide (1844674407370955162 ≤ m) = false := decide_eq_false (by omega)
      rcases b95 with b95 | b95
      · by_cases c1 : (48 : Int) ≤ (c.toNat : Int)
        · by_cases c2 : (c.toNat : Int) ≤ 57
          · have hd : d = c.toNat - 48 := by rw [PD.out, if_pos ⟨by omega, by omega⟩]
            have hw1 : IntKind.u8.wrap ((c.toNat : Int) - 48) = (d : Int) := by rw [IntWalk.u8_in _ (by omega)]; omega
            by_cases hdb : d < 10
            · have G := qh (GOOD.out hdb)
              have h3 : ¬ (10 : Int) ≤ (d : Int) := by omega
              have h3d : decide (10 ≤ d) = false := decide_eq_false (by omega)
              have h3i : decide ((10 : Int) ≤ (d : Int)) = false := decide_eq_false h3
              have hm1 : IntKind.u64.wrap ((m : Int) * 10) = (m : Int) * 10 := IntWalk.u64_in _ (by omega)
              have hm2 : IntKind.u64.wrap ((m : Int) * 10 + (d : Int)) = (m : Int) * 10 + (d : Int) := IntWalk.u64_in _ (by omega)
              have h4 : ¬ (m : Int) * 10 + (d : Int) < (m : Int) * 10 := by omega
              have h4i : decide ((m : Int) * 10 + (d : Int) < (m : Int) * 10) = false := decide_eq_false h4
              have h5 : ¬ (4294967295 : Int) < (m : Int) * 10 + (d : Int) := by omega
              have h5i : decide ((4294967295 : Int) < (m : Int) * 10 + (d : Int)) = false := decide_eq_false h5
              have hpw : m * 10 + d < 16 ^ (k + 1) := by rw [PW.out]; omega
              have HPW := qh hpw
              clear hpw hdb hd
              go_wp2_with fail
              go_roundw
              case rel => exact ⟨k + 1, m * 10 + d, by omega, by go_num, rfl, by push_cast; rfl, G.out, HPW.out, XR.out⟩
              case measure => simp [intOf]; omega
            · have hr0 : r = none := BAD.out hdb
              have h3 : (10 : Int) ≤ (d : Int) := by omega
              subst hr0
              clear hdb hd
              go_wp2_with fail
              go_ret2
              exact ⟨rfl, HB1.out.ex.trans XR.out⟩
          · skip
            by_cases l1 : (97 : Int) ≤ (lo : Int)
            · have j1 : decide (97 ≤ lo) = true := decide_eq_true (by omega)
              have j1i : decide ((97 : Int) ≤ (lo : Int)) = true := decide_eq_true l1
              by_cases l2 : (lo : Int) ≤ 122
              · have j2 : decide (lo ≤ 122) = true := decide_eq_true (by omega)
                have j2i : decide ((lo : Int) ≤ 122) = true := decide_eq_true l2
                have hd : d = lo - 87 := by rw [PD.out, if_neg (by omega), if_pos ⟨by omega, by omega⟩]
                have hw1 : IntKind.u8.wrap ((lo : Int) - 97) = (lo : Int) - 97 := IntWalk.u8_in _ (by omega)
                have hw2 : IntKind.u8.wrap ((lo : Int) - 97 + 10) = (d : Int) := by rw [IntWalk.u8_in _ (by omega)]; omega
                by_cases hdb : d < 10
                · exact absurd hdb (by omega)
                · have hr0 : r = none := BAD.out hdb
                  have h3 : (10 : Int) ≤ (d : Int) := by omega
                  subst hr0
                  clear hdb hd
                  go_wp2_with (go_at_call 204; refine (HLOW.out _).mono ?_; rintro e wx ⟨rfl, hwx⟩; rw [hwx]; clear hwx)
                  go_ret2
                  exact ⟨rfl, HB1.out.ex.trans XR.out⟩
              · have j2 : decide (lo ≤ 122) = false := decide_eq_false (by omega)
                have j2i : decide ((lo : Int) ≤ 122) = false := decide_eq_false l2
                have hr0 : r = none := BAD.out (by rw [PD.out, if_neg (by omega), if_neg (by omega)]; decide)
                subst hr0
                go_wp2_with (go_at_call 204; refine (HLOW.out _).mono ?_; rintro e wx ⟨rfl, hwx⟩; rw [hwx]; clear hwx)
                go_ret2
                exact ⟨rfl, HB1.out.ex.trans XR.out⟩
            · have j1 : decide (97 ≤ lo) = false := decide_eq_false (by omega)
              have j1i : decide ((97 : Int) ≤ (lo : Int)) = false := decide_eq_false l1
              have hr0 : r = none := BAD.out (by rw [PD.out, if_neg (by omega), if_neg (by omega)]; decide)
              subst hr0
              go_wp2_with (go_at_call 204; refine (HLOW.out _).mono ?_; rintro e wx ⟨rfl, hwx⟩; rw [hwx]; clear hwx)
              go_ret2
              exact ⟨rfl, HB1.out.ex.trans XR.out⟩
        · skip
          by_cases l1 : (97 : Int) ≤ (lo : Int)
          · have j1 : decide (97 ≤ lo) = true := decide_eq_true (by omega)
            have j1i : decide ((97 : Int) ≤ (lo : Int)) = true := decide_eq_true l1
            by_cases l2 : (lo : Int) ≤ 122
            · have j2 : decide (lo ≤ 122) = true := decide_eq_true (by omega)
              have j2i : decide ((lo : Int) ≤ 122) = true := decide_eq_true l2
              have hd : d = lo - 87 := by rw [PD.out, if_neg (by omega), if_pos ⟨by omega, by omega⟩]
              have hw1 : IntKind.u8.wrap ((lo : Int) - 97) = (lo : Int) - 97 := IntWalk.u8_in _ (by omega)
              have hw2 : IntKind.u8.wrap ((lo : Int) - 97 + 10) = (d : Int) := by rw [IntWalk.u8_in _ (by omega)]; omega
              by_cases hdb : d < 10
              · exact absurd hdb (by omega)
              · have hr0 : r = none := BAD.out hdb
                have h3 : (10 : Int) ≤ (d : Int) := by omega
                subst hr0
                clear hdb hd
                go_wp2_with (go_at_call 204; refine (HLOW.out _).mono ?_; rintro e wx ⟨rfl, hwx⟩; rw [hwx]; clear hwx)
                go_ret2
                exact ⟨rfl, HB1.out.ex.trans XR.out⟩
            · have j2 : decide (lo ≤ 122) = false := decide_eq_false (by omega)
              have j2i : decide ((lo : Int) ≤ 122) = false := decide_eq_false l2
              have hr0 : r = none := BAD.out (by rw [PD.out, if_neg (by omega), if_neg (by omega)]; decide)
              subst hr0
              go_wp2_with (go_at_call 204; refine (HLOW.out _).mono ?_; rintro e wx ⟨rfl, hwx⟩; rw [hwx]; clear hwx)
              go_ret2
              exact ⟨rfl, HB1.out.ex.trans XR.out⟩
          · have j1 : decide (97 ≤ lo) = false := decide_eq_false (by omega)
            have j1i : decide ((97 : Int) ≤ (lo : Int)) = false := decide_eq_false l1
            have hr0 : r = none := BAD.out (by rw [PD.out, if_neg (by omega), if_neg (by omega)]; decide)
            subst hr0
            go_wp2_with (go_at_call 204; refine (HLOW.out _).mono ?_; rintro e wx ⟨rfl, hwx⟩; rw [hwx]; clear hwx)
            go_ret2
            exact ⟨rfl, HB1.out.ex.trans XR.out⟩
      · by_cases c1 : (48 : Int) ≤ (c.toNat : Int)
        · by_cases c2 : (c.toNat : Int) ≤ 57
          · have hd : d = c.toNat - 48 := by rw [PD.out, if_pos ⟨by omega, by omega⟩]
            have hw1 : IntKind.u8.wrap ((c.toNat : Int) - 48) = (d : Int) := by rw [IntWalk.u8_in _ (by omega)]; omega
            by_cases hdb : d < 10
            · have G := qh (GOOD.out hdb)
              have h3 : ¬ (10 : Int) ≤ (d : Int) := by omega
              have h3d : decide (10 ≤ d) = false := decide_eq_false (by omega)
              have h3i : decide ((10 : Int) ≤ (d : Int)) = false := decide_eq_false h3
              have hm1 : IntKind.u64.wrap ((m : Int) * 10) = (m : Int) * 10 := IntWalk.u64_in _ (by omega)
              have hm2 : IntKind.u64.wrap ((m : Int) * 10 + (d : Int)) = (m : Int) * 10 + (d : Int) := IntWalk.u64_in _ (by omega)
              have h4 : ¬ (m : Int) * 10 + (d : Int) < (m : Int) * 10 := by omega
              have h4i : decide ((m : Int) * 10 + (d : Int) < (m : Int) * 10) = false := decide_eq_false h4
              have h5 : ¬ (4294967295 : Int) < (m : Int) * 10 + (d : Int) := by omega
              have h5i : decide ((4294967295 : Int) < (m : Int) * 10 + (d : Int)) = false := decide_eq_false h5
              have hpw : m * 10 + d < 16 ^ (k + 1) := by rw [PW.out]; omega
              have HPW := qh hpw
              clear hpw hdb hd
              go_wp2_with fail
              go_roundw
              case rel => exact ⟨k + 1, m * 10 + d, by omega, by go_num, rfl, by push_cast; rfl, G.out, HPW.out, XR.out⟩
              case measure => simp [intOf]; omega
            · have hr0 : r = none := BAD.out hdb
              have h3 : (10 : Int) ≤ (d : Int) := by omega
              subst hr0
              clear hdb hd
              go_wp2_with fail
              go_ret2
              exact ⟨rfl, HB1.out.ex.trans XR.out⟩
          · skip
            by_cases l1 : (97 : Int) ≤ (lo : Int)
            · have j1 : decide (97 ≤ lo) = true := decide_eq_true (by omega)
              have j1i : decide ((97 : Int) ≤ (lo : Int)) = true := decide_eq_true l1
              by_cases l2 : (lo : Int) ≤ 122
              · have j2 : decide (lo ≤ 122) = true := decide_eq_true (by omega)
                have j2i : decide ((lo : Int) ≤ 122) = true := decide_eq_true l2
                have hd : d = lo - 87 := by rw [PD.out, if_neg (by omega), if_pos ⟨by omega, by omega⟩]
                have hw1 : IntKind.u8.wrap ((lo : Int) - 97) = (lo : Int) - 97 := IntWalk.u8_in _ (by omega)
                have hw2 : IntKind.u8.wrap ((lo : Int) - 97 + 10) = (d : Int) := by rw [IntWalk.u8_in _ (by omega)]; omega
                by_cases hdb : d < 10
                · exact absurd hdb (by omega)
                · have hr0 : r = none := BAD.out hdb
                  have h3 : (10 : Int) ≤ (d : Int) := by omega
                  subst hr0
                  clear hdb hd
                  go_wp2_with (go_at_call 204; refine (HLOW.out _).mono ?_; rintro e wx ⟨rfl, hwx⟩; rw [hwx]; clear hwx)
                  go_ret2
                  exact ⟨rfl, HB1.out.ex.trans XR.out⟩
              · have j2 : decide (lo ≤ 122) = false := decide_eq_false (by omega)
                have j2i : decide ((lo : Int) ≤ 122) = false := decide_eq_false l2
                have hr0 : r = none := BAD.out (by rw [PD.out, if_neg (by omega), if_neg (by omega)]; decide)
                subst hr0
                go_wp2_with (go_at_call 204; refine (HLOW.out _).mono ?_; rintro e wx ⟨rfl, hwx⟩; rw [hwx]; clear hwx)
                go_ret2
                exact ⟨rfl, HB1.out.ex.trans XR.out⟩
            · have j1 : decide (97 ≤ lo) = false := decide_eq_false (by omega)
              have j1i : decide ((97 : Int) ≤ (lo : Int)) = false := decide_eq_false l1
              have hr0 : r = none := BAD.out (by rw [PD.out, if_neg (by omega), if_neg (by omega)]; decide)
              subst hr0
              go_wp2_with (go_at_call 204; refine (HLOW.out _).mono ?_; rintro e wx ⟨rfl, hwx⟩; rw [hwx]; clear hwx)
              go_ret2
              exact ⟨rfl, HB1.out.ex.trans XR.out⟩
        · skip
          by_cases l1 : (97 : Int) ≤ (lo : Int)
          · have j1 : decide (97 ≤ lo) = true := decide_eq_true (by omega)
            have j1i : decide ((97 : Int) ≤ (lo : Int)) = true := decide_eq_true l1
            by_cases l2 : (lo : Int) ≤ 122
            · have j2 : decide (lo ≤ 122) = true := decide_eq_true (by omega)
              have j2i : decide ((lo : Int) ≤ 122) = true := decide_eq_true l2
              have hd : d = lo - 87 := by rw [PD.out, if_neg (by omega), if_pos ⟨by omega, by omega⟩]
              have hw1 : IntKind.u8.wrap ((lo : Int) - 97) = (lo : Int) - 97 := IntWalk.u8_in _ (by omega)
              have hw2 : IntKind.u8.wrap ((lo : Int) - 97 + 10) = (d : Int) := by rw [IntWalk.u8_in _ (by omega)]; omega
              by_cases hdb : d < 10
              · exact absurd hdb (by omega)
              · have hr0 : r = none := BAD.out hdb
                have h3 : (10 : Int) ≤ (d : Int) := by omega
                subst hr0
                clear hdb hd
                go_wp2_with (go_at_call 204; refine (HLOW.out _).mono ?_; rintro e wx ⟨rfl, hwx⟩; rw [hwx]; clear hwx)
                go_ret2
                exact ⟨rfl, HB1.out.ex.trans XR.out⟩
            · have j2 : decide (lo ≤ 122) = false := decide_eq_false (by omega)
              have j2i : decide ((lo : Int) ≤ 122) = false := decide_eq_false l2
              have hr0 : r = none := BAD.out (by rw [PD.out, if_neg (by omega), if_neg (by omega)]; decide)
              subst hr0
              go_wp2_with (go_at_call 204; refine (HLOW.out _).mono ?_; rintro e wx ⟨rfl, hwx⟩; rw [hwx]; clear hwx)
              go_ret2
              exact ⟨rfl, HB1.out.ex.trans XR.out⟩
          · have j1 : decide (97 ≤ lo) = false := decide_eq_false (by omega)
            have j1i : decide ((97 : Int) ≤ (lo : Int)) = false := decide_eq_false l1
            have hr0 : r = none := BAD.out (by rw [PD.out, if_neg (by omega), if_neg (by omega)]; decide)
            subst hr0
            go_wp2_with (go_at_call 204; refine (HLOW.out _).mono ?_; rintro e wx ⟨rfl, hwx⟩; rw [hwx]; clear hwx)
            go_ret2
            exact ⟨rfl, HB1.out.ex.trans XR.out⟩
    · obtain rfl : k = N := by omega
      have hr1 : r = some m := by rw [← HNUM.out, List.drop_eq_nil_of_le (by omega)]; rfl
      subst hr1
      clear xr
      go_wp2_with fail
      go_ret2
      exact ⟨rfl, HB1.out.ex.trans XR.out⟩
theorem pu16_any (s : ByteArray) (h0 : s.size ≠ 0) (h7 : s.size ≤ 7) (w : World) : Calls Tryz.prog 198 #[.string s, .int .i64 16, .int .i64 32] w (PUis (numL 16 0 s.data.toList) w) := by
  obtain ⟨g, cap, w1, h1, hb1, hf1⟩ := run_toBytesF w s (by omega)
  have e0 : (s.toList == ([] : List UInt8)) = false := by rw [ByteArray.toList_eq, beq_eq_false_iff_ne]; intro h; exact h0 (by show s.data.size = 0; have := congrArg List.length h; simpa using this)
  have hsz : s.data.toList.length = s.size := rfl
  obtain ⟨l, hl⟩ : ∃ l, s.data.toList = l := ⟨_, rfl⟩
  obtain ⟨N, hN⟩ : ∃ N, s.size = N := ⟨_, rfl⟩
  rw [hl] at hb1 hsz ⊢
  rw [hN] at hsz hb1 h1 h7
  obtain ⟨r, hr⟩ : ∃ r, numL 16 0 l = r := ⟨_, rfl⟩
  rw [hr]
  have HR := qh hr
  have H1 := qh h1
  have HB1 := qh hb1
  clear h1 hb1 hf1 hl hN hr h0
  go_enter Tryz.func198, Tryz.ntmps198
  go_wp2_with fail
  rw [H1.out]
  go_wp2_with fail
  go_loopw [12, 13, 15, 16, 17, 101] (fun u n _ _ _ i wr => ∃ (k m : Nat), k ≤ N ∧ i = .int .i64 k ∧ u = .bool false ∧ n = .int .u64 m ∧ numL 16 m (l.drop k) = r ∧ m < 16 ^ k ∧ Ext w1 wr) (fun _ _ _ _ _ i _ => N - (intOf i).toNat)
  case atStart => exact ⟨0, 0, Nat.zero_le _, rfl, rfl, rfl, by simpa using HR.out, by decide, Ext.refl _⟩
  case round =>
    obtain ⟨k, m, hk, rfl, rfl, rfl, hnum, hm, xr⟩ := hrel
    have hp7 := pow_le7 (k := k) (by omega)
    have HNUM := qh hnum
    have XR := qh xr
    clear hnum
    by_cases hlt : k < N
    · obtain ⟨c, hc⟩ : ∃ c, l[k]? = some c := ⟨l[k]'(by omega), List.getElem?_eq_getElem (by omega)⟩
      have q := (HB1.out.ext xr).cells rfl k (.int .u8 (c.toNat : Int)) (by unfold Lib.byteCells; rw [List.getElem?_map, hc]; rfl)
      rw [Addr.add_lit, Nat.zero_add] at q
      have hdrop : l.drop k = c :: l.drop (k + 1) := by
        obtain ⟨hk2, e⟩ := List.getElem?_eq_some_iff.1 hc
        rw [List.drop_eq_getElem_cons hk2, e]
      have hn := HNUM.out
      rw [hdrop, numL] at hn
      obtain ⟨p1, p2⟩ := pdig_digV 16 (by decide) c
      have bad : ¬ pdig c < 16 → r = none := fun h => by rw [← hn, if_pos (by omega)]
      have good : pdig c < 16 → numL 16 (m * 16 + pdig c) (l.drop (k + 1)) = r := fun h => by
        rw [p2 (p1.1 h), ← hn, if_neg (by have := p1.1 h; omega)]
      have pw : 16 ^ (k + 1) = 16 ^ k * 16 := Nat.pow_succ 16 k
      have BAD := qh bad
      have GOOD := qh good
      have HLOW := qh (lower_any c)
      have PW := qh pw
      have PD := qh (show pdig c = if 48 ≤ c.toNat ∧ c.toNat ≤ 57 then c.toNat - 48 else if 97 ≤ (c ||| 32).toNat ∧ (c ||| 32).toNat ≤ 122 then (c ||| 32).toNat - 87 else 99 from rfl)
      obtain ⟨P, hP⟩ : ∃ P, 16 ^ k = P := ⟨_, rfl⟩
      rw [hP] at hm hp7 PW
      obtain ⟨d, hd⟩ : ∃ d, pdig c = d := ⟨_, rfl⟩
      rw [hd] at BAD GOOD PD
      obtain ⟨lo, hlo⟩ : ∃ lo, (c ||| 32).toNat = lo := ⟨_, rfl⟩
      rw [hlo] at HLOW PD
      have hl256 : lo < 256 := by rw [← hlo]; exact (c ||| 32).toNat_lt
      have hc256 : c.toNat < 256 := c.toNat_lt
      have b95 : ((c.toNat : Int) == 95) = true ∨ ((c.toNat : Int) == 95) = false := by cases ((c.toNat : Int) == 95); exact .inr rfl; exact .inl rfl
      clear hc hdrop hn p1 p2 bad good pw hP hd hlo xr
      have hcut : ¬ (1152921504606846976 : Int) ≤ (m : Int) := by omega
      have hcuti : decide ((1152921504606846976 : Int) ≤ (m : Int)) = false := decide_eq_false hcut
      have hcutn : decide (1152921504606846976 ≤ m) = false := decide_eq_false (by omega)
      rcases b95 with b95 | b95
      · by_cases c1 : (48 : Int) ≤ (c.toNat : Int)
        · by_cases c2 : (c.toNat : Int) ≤ 57
          · have hd : d = c.toNat - 48 := by rw [PD.out, if_pos ⟨by omega, by omega⟩]
            have hw1 : IntKind.u8.wrap ((c.toNat : Int) - 48) = (d : Int) := by rw [IntWalk.u8_in _ (by omega)]; omega
            by_cases hdb : d < 16
            · have G := qh (GOOD.out hdb)
              have h3 : ¬ (16 : Int) ≤ (d : Int) := by omega
              have h3d : decide (16 ≤ d) = false := decide_eq_false (by omega)
              have h3i : decide ((16 : Int) ≤ (d : Int)) = false := decide_eq_false h3
              have hm1 : IntKind.u64.wrap ((m : Int) * 16) = (m : Int) * 16 := IntWalk.u64_in _ (by omega)
              have hm2 : IntKind.u64.wrap ((m : Int) * 16 + (d : Int)) = (m : Int) * 16 + (d : Int) := IntWalk.u64_in _ (by omega)
              have h4 : ¬ (m : Int) * 16 + (d : Int) < (m : Int) * 16 := by omega
              have h4i : decide ((m : Int) * 16 + (d : Int) < (m : Int) * 16) = false := decide_eq_false h4
              have h5 : ¬ (4294967295 : Int) < (m : Int) * 16 + (d : Int) := by omega
              have h5i : decide ((4294967295 : Int) < (m : Int) * 16 + (d : Int)) = false := decide_eq_false h5
              have hpw : m * 16 + d < 16 ^ (k + 1) := by rw [PW.out]; omega
              have HPW := qh hpw
              clear hpw hdb hd
              go_wp2_with fail
              go_roundw
              case rel => exact ⟨k + 1, m * 16 + d, by omega, by go_num, rfl, by push_cast; rfl, G.out, HPW.out, XR.out⟩
              case measure => simp [intOf]; omega
            · have hr0 : r = none := BAD.out hdb
              have h3 : (16 : Int) ≤ (d : Int) := by omega
              subst hr0
              clear hdb hd
              go_wp2_with fail
              go_ret2
              exact ⟨rfl, HB1.out.ex.trans XR.out⟩
          · skip
            by_cases l1 : (97 : Int) ≤ (lo : Int)
            · have j1 : decide (97 ≤ lo) = true := decide_eq_true (by omega)
              have j1i : decide ((97 : Int) ≤ (lo : Int)) = true := decide_eq_true l1
              by_cases l2 : (lo : Int) ≤ 122
              · have j2 : decide (lo ≤ 122) = true := decide_eq_true (by omega)
                have j2i : decide ((lo : Int) ≤ 122) = true := decide_eq_true l2
                have hd : d = lo - 87 := by rw [PD.out, if_neg (by omega), if_pos ⟨by omega, by omega⟩]
                have hw1 : IntKind.u8.wrap ((lo : Int) - 97) = (lo : Int) - 97 := IntWalk.u8_in _ (by omega)
                have hw2 : IntKind.u8.wrap ((lo : Int) - 97 + 10) = (d : Int) := by rw [IntWalk.u8_in _ (by omega)]; omega
                by_cases hdb : d < 16
                · have G := qh (GOOD.out hdb)
                  have h3 : ¬ (16 : Int) ≤ (d : Int) := by omega
                  have h3d : decide (16 ≤ d) = false := decide_eq_false (by omega)
                  have h3i : decide ((16 : Int) ≤ (d : Int)) = false := decide_eq_false h3
                  have hm1 : IntKind.u64.wrap ((m : Int) * 16) = (m : Int) * 16 := IntWalk.u64_in _ (by omega)
                  have hm2 : IntKind.u64.wrap ((m : Int) * 16 + (d : Int)) = (m : Int) * 16 + (d : Int) := IntWalk.u64_in _ (by omega)
                  have h4 : ¬ (m : Int) * 16 + (d : Int) < (m : Int) * 16 := by omega
                  have h4i : decide ((m : Int) * 16 + (d : Int) < (m : Int) * 16) = false := decide_eq_false h4
                  have h5 : ¬ (4294967295 : Int) < (m : Int) * 16 + (d : Int) := by omega
                  have h5i : decide ((4294967295 : Int) < (m : Int) * 16 + (d : Int)) = false := decide_eq_false h5
                  have hpw : m * 16 + d < 16 ^ (k + 1) := by rw [PW.out]; omega
                  have HPW := qh hpw
                  clear hpw hdb hd
                  go_wp2_with (go_at_call 204; refine (HLOW.out _).mono ?_; rintro e wx ⟨rfl, hwx⟩; rw [hwx]; clear hwx)
                  go_roundw
                  case rel => exact ⟨k + 1, m * 16 + d, by omega, by go_num, rfl, by push_cast; rfl, G.out, HPW.out, XR.out⟩
                  case measure => simp [intOf]; omega
                · have hr0 : r = none := BAD.out hdb
                  have h3 : (16 : Int) ≤ (d : Int) := by omega
                  subst hr0
                  clear hdb hd
                  go_wp2_with (go_at_call 204; refine (HLOW.out _).mono ?_; rintro e wx ⟨rfl, hwx⟩; rw [hwx]; clear hwx)
                  go_ret2
                  exact ⟨rfl, HB1.out.ex.trans XR.out⟩
              · have j2 : decide (lo ≤ 122) = false := decide_eq_false (by omega)
                have j2i : decide ((lo : Int) ≤ 122) = false := decide_eq_false l2
                have hr0 : r = none := BAD.out (by rw [PD.out, if_neg (by omega), if_neg (by omega)]; decide)
                subst hr0
                go_wp2_with (go_at_call 204; refine (HLOW.out _).mono ?_; rintro e wx ⟨rfl, hwx⟩; rw [hwx]; clear hwx)
                go_ret2
                exact ⟨rfl, HB1.out.ex.trans XR.out⟩
            · have j1 : decide (97 ≤ lo) = false := decide_eq_false (by omega)
              have j1i : decide ((97 : Int) ≤ (lo : Int)) = false := decide_eq_false l1
              have hr0 : r = none := BAD.out (by rw [PD.out, if_neg (by omega), if_neg (by omega)]; decide)
              subst hr0
              go_wp2_with (go_at_call 204; refine (HLOW.out _).mono ?_; rintro e wx ⟨rfl, hwx⟩; rw [hwx]; clear hwx)
              go_ret2
              exact ⟨rfl, HB1.out.ex.trans XR.out⟩
        · skip
          by_cases l1 : (97 : Int) ≤ (lo : Int)
          · have j1 : decide (97 ≤ lo) = true := decide_eq_true (by omega)
            have j1i : decide ((97 : Int) ≤ (lo : Int)) = true := decide_eq_true l1
            by_cases l2 : (lo : Int) ≤ 122
            · have j2 : decide (lo ≤ 122) = true := decide_eq_true (by omega)
              have j2i : decide ((lo : Int) ≤ 122) = true := decide_eq_true l2
              have hd : d = lo - 87 := by rw [PD.out, if_neg (by omega), if_pos ⟨by omega, by omega⟩]
              have hw1 : IntKind.u8.wrap ((lo : Int) - 97) = (lo : Int) - 97 := IntWalk.u8_in _ (by omega)
              have hw2 : IntKind.u8.wrap ((lo : Int) - 97 + 10) = (d : Int) := by rw [IntWalk.u8_in _ (by omega)]; omega
              by_cases hdb : d < 16
              · have G := qh (GOOD.out hdb)
                have h3 : ¬ (16 : Int) ≤ (d : Int) := by omega
                have h3d : decide (16 ≤ d) = false := decide_eq_false (by omega)
                have h3i : decide ((16 : Int) ≤ (d : Int)) = false := decide_eq_false h3
                have hm1 : IntKind.u64.wrap ((m : Int) * 16) = (m : Int) * 16 := IntWalk.u64_in _ (by omega)
                have hm2 : IntKind.u64.wrap ((m : Int) * 16 + (d : Int)) = (m : Int) * 16 + (d : Int) := IntWalk.u64_in _ (by omega)
                have h4 : ¬ (m : Int) * 16 + (d : Int) < (m : Int) * 16 := by omega
                have h4i : decide ((m : Int) * 16 + (d : Int) < (m : Int) * 16) = false := decide_eq_false h4
                have h5 : ¬ (4294967295 : Int) < (m : Int) * 16 + (d : Int) := by omega
                have h5i : decide ((4294967295 : Int) < (m : Int) * 16 + (d : Int)) = false := decide_eq_false h5
                have hpw : m * 16 + d < 16 ^ (k + 1) := by rw [PW.out]; omega
                have HPW := qh hpw
                clear hpw hdb hd
                go_wp2_with (go_at_call 204; refine (HLOW.out _).mono ?_; rintro e wx ⟨rfl, hwx⟩; rw [hwx]; clear hwx)
                go_roundw
                case rel => exact ⟨k + 1, m * 16 + d, by omega, by go_num, rfl, by push_cast; rfl, G.out, HPW.out, XR.out⟩
                case measure => simp [intOf]; omega
              · have hr0 : r = none := BAD.out hdb
                have h3 : (16 : Int) ≤ (d : Int) := by omega
                subst hr0
                clear hdb hd
                go_wp2_with (go_at_call 204; refine (HLOW.out _).mono ?_; rintro e wx ⟨rfl, hwx⟩; rw [hwx]; clear hwx)
                go_ret2
                exact ⟨rfl, HB1.out.ex.trans XR.out⟩
            · have j2 : decide (lo ≤ 122) = false := decide_eq_false (by omega)
              have j2i : decide ((lo : Int) ≤ 122) = false := decide_eq_false l2
              have hr0 : r = none := BAD.out (by rw [PD.out, if_neg (by omega), if_neg (by omega)]; decide)
              subst hr0
              go_wp2_with (go_at_call 204; refine (HLOW.out _).mono ?_; rintro e wx ⟨rfl, hwx⟩; rw [hwx]; clear hwx)
              go_ret2
              exact ⟨rfl, HB1.out.ex.trans XR.out⟩
          · have j1 : decide (97 ≤ lo) = false := decide_eq_false (by omega)
            have j1i : decide ((97 : Int) ≤ (lo : Int)) = false := decide_eq_false l1
            have hr0 : r = none := BAD.out (by rw [PD.out, if_neg (by omega), if_neg (by omega)]; decide)
            subst hr0
            go_wp2_with (go_at_call 204; refine (HLOW.out _).mono ?_; rintro e wx ⟨rfl, hwx⟩; rw [hwx]; clear hwx)
            go_ret2
            exact ⟨rfl, HB1.out.ex.trans XR.out⟩
      · by_cases c1 : (48 : Int) ≤ (c.toNat : Int)
        · by_cases c2 : (c.toNat : Int) ≤ 57
          · have hd : d = c.toNat - 48 := by rw [PD.out, if_pos ⟨by omega, by omega⟩]
            have hw1 : IntKind.u8.wrap ((c.toNat : Int) - 48) = (d : Int) := by rw [IntWalk.u8_in _ (by omega)]; omega
            by_cases hdb : d < 16
            · have G := qh (GOOD.out hdb)
              have h3 : ¬ (16 : Int) ≤ (d : Int) := by omega
              have h3d : decide (16 ≤ d) = false := decide_eq_false (by omega)
              have h3i : decide ((16 : Int) ≤ (d : Int)) = false := decide_eq_false h3
              have hm1 : IntKind.u64.wrap ((m : Int) * 16) = (m : Int) * 16 := IntWalk.u64_in _ (by omega)
              have hm2 : IntKind.u64.wrap ((m : Int) * 16 + (d : Int)) = (m : Int) * 16 + (d : Int) := IntWalk.u64_in _ (by omega)
              have h4 : ¬ (m : Int) * 16 + (d : Int) < (m : Int) * 16 := by omega
              have h4i : decide ((m : Int) * 16 + (d : Int) < (m : Int) * 16) = false := decide_eq_false h4
              have h5 : ¬ (4294967295 : Int) < (m : Int) * 16 + (d : Int) := by omega
              have h5i : decide ((4294967295 : Int) < (m : Int) * 16 + (d : Int)) = false := decide_eq_false h5
              have hpw : m * 16 + d < 16 ^ (k + 1) := by rw [PW.out]; omega
              have HPW := qh hpw
              clear hpw hdb hd
              go_wp2_with fail
              go_roundw
              case rel => exact ⟨k + 1, m * 16 + d, by omega, by go_num, rfl, by push_cast; rfl, G.out, HPW.out, XR.out⟩
              case measure => simp [intOf]; omega
            · have hr0 : r = none := BAD.out hdb
              have h3 : (16 : Int) ≤ (d : Int) := by omega
              subst hr0
              clear hdb hd
              go_wp2_with fail
              go_ret2
              exact ⟨rfl, HB1.out.ex.trans XR.out⟩
          · skip
            by_cases l1 : (97 : Int) ≤ (lo : Int)
            · have j1 : decide (97 ≤ lo) = true := decide_eq_true (by omega)
              have j1i : decide ((97 : Int) ≤ (lo : Int)) = true := decide_eq_true l1
              by_cases l2 : (lo : Int) ≤ 122
              · have j2 : decide (lo ≤ 122) = true := decide_eq_true (by omega)
                have j2i : decide ((lo : Int) ≤ 122) = true := decide_eq_true l2
                have hd : d = lo - 87 := by rw [PD.out, if_neg (by omega), if_pos ⟨by omega, by omega⟩]
                have hw1 : IntKind.u8.wrap ((lo : Int) - 97) = (lo : Int) - 97 := IntWalk.u8_in _ (by omega)
                have hw2 : IntKind.u8.wrap ((lo : Int) - 97 + 10) = (d : Int) := by rw [IntWalk.u8_in _ (by omega)]; omega
                by_cases hdb : d < 16
                · have G := qh (GOOD.out hdb)
                  have h3 : ¬ (16 : Int) ≤ (d : Int) := by omega
                  have h3d : decide (16 ≤ d) = false := decide_eq_false (by omega)
                  have h3i : decide ((16 : Int) ≤ (d : Int)) = false := decide_eq_false h3
                  have hm1 : IntKind.u64.wrap ((m : Int) * 16) = (m : Int) * 16 := IntWalk.u64_in _ (by omega)
                  have hm2 : IntKind.u64.wrap ((m : Int) * 16 + (d : Int)) = (m : Int) * 16 + (d : Int) := IntWalk.u64_in _ (by omega)
                  have h4 : ¬ (m : Int) * 16 + (d : Int) < (m : Int) * 16 := by omega
                  have h4i : decide ((m : Int) * 16 + (d : Int) < (m : Int) * 16) = false := decide_eq_false h4
                  have h5 : ¬ (4294967295 : Int) < (m : Int) * 16 + (d : Int) := by omega
                  have h5i : decide ((4294967295 : Int) < (m : Int) * 16 + (d : Int)) = false := decide_eq_false h5
                  have hpw : m * 16 + d < 16 ^ (k + 1) := by rw [PW.out]; omega
                  have HPW := qh hpw
                  clear hpw hdb hd
                  go_wp2_with (go_at_call 204; refine (HLOW.out _).mono ?_; rintro e wx ⟨rfl, hwx⟩; rw [hwx]; clear hwx)
                  go_roundw
                  case rel => exact ⟨k + 1, m * 16 + d, by omega, by go_num, rfl, by push_cast; rfl, G.out, HPW.out, XR.out⟩
                  case measure => simp [intOf]; omega
                · have hr0 : r = none := BAD.out hdb
                  have h3 : (16 : Int) ≤ (d : Int) := by omega
                  subst hr0
                  clear hdb hd
                  go_wp2_with (go_at_call 204; refine (HLOW.out _).mono ?_; rintro e wx ⟨rfl, hwx⟩; rw [hwx]; clear hwx)
                  go_ret2
                  exact ⟨rfl, HB1.out.ex.trans XR.out⟩
              · have j2 : decide (lo ≤ 122) = false := decide_eq_false (by omega)
                have j2i : decide ((lo : Int) ≤ 122) = false := decide_eq_false l2
                have hr0 : r = none := BAD.out (by rw [PD.out, if_neg (by omega), if_neg (by omega)]; decide)
                subst hr0
                go_wp2_with (go_at_call 204; refine (HLOW.out _).mono ?_; rintro e wx ⟨rfl, hwx⟩; rw [hwx]; clear hwx)
                go_ret2
                exact ⟨rfl, HB1.out.ex.trans XR.out⟩
            · have j1 : decide (97 ≤ lo) = false := decide_eq_false (by omega)
              have j1i : decide ((97 : Int) ≤ (lo : Int)) = false := decide_eq_false l1
              have hr0 : r = none := BAD.out (by rw [PD.out, if_neg (by omega), if_neg (by omega)]; decide)
              subst hr0
              go_wp2_with (go_at_call 204; refine (HLOW.out _).mono ?_; rintro e wx ⟨rfl, hwx⟩; rw [hwx]; clear hwx)
              go_ret2
              exact ⟨rfl, HB1.out.ex.trans XR.out⟩
        · skip
          by_cases l1 : (97 : Int) ≤ (lo : Int)
          · have j1 : decide (97 ≤ lo) = true := decide_eq_true (by omega)
            have j1i : decide ((97 : Int) ≤ (lo : Int)) = true := decide_eq_true l1
            by_cases l2 : (lo : Int) ≤ 122
            · have j2 : decide (lo ≤ 122) = true := decide_eq_true (by omega)
              have j2i : decide ((lo : Int) ≤ 122) = true := decide_eq_true l2
              have hd : d = lo - 87 := by rw [PD.out, if_neg (by omega), if_pos ⟨by omega, by omega⟩]
              have hw1 : IntKind.u8.wrap ((lo : Int) - 97) = (lo : Int) - 97 := IntWalk.u8_in _ (by omega)
              have hw2 : IntKind.u8.wrap ((lo : Int) - 97 + 10) = (d : Int) := by rw [IntWalk.u8_in _ (by omega)]; omega
              by_cases hdb : d < 16
              · have G := qh (GOOD.out hdb)
                have h3 : ¬ (16 : Int) ≤ (d : Int) := by omega
                have h3d : decide (16 ≤ d) = false := decide_eq_false (by omega)
                have h3i : decide ((16 : Int) ≤ (d : Int)) = false := decide_eq_false h3
                have hm1 : IntKind.u64.wrap ((m : Int) * 16) = (m : Int) * 16 := IntWalk.u64_in _ (by omega)
                have hm2 : IntKind.u64.wrap ((m : Int) * 16 + (d : Int)) = (m : Int) * 16 + (d : Int) := IntWalk.u64_in _ (by omega)
                have h4 : ¬ (m : Int) * 16 + (d : Int) < (m : Int) * 16 := by omega
                have h4i : decide ((m : Int) * 16 + (d : Int) < (m : Int) * 16) = false := decide_eq_false h4
                have h5 : ¬ (4294967295 : Int) < (m : Int) * 16 + (d : Int) := by omega
                have h5i : decide ((4294967295 : Int) < (m : Int) * 16 + (d : Int)) = false := decide_eq_false h5
                have hpw : m * 16 + d < 16 ^ (k + 1) := by rw [PW.out]; omega
                have HPW := qh hpw
                clear hpw hdb hd
                go_wp2_with (go_at_call 204; refine (HLOW.out _).mono ?_; rintro e wx ⟨rfl, hwx⟩; rw [hwx]; clear hwx)
                go_roundw
                case rel => exact ⟨k + 1, m * 16 + d, by omega, by go_num, rfl, by push_cast; rfl, G.out, HPW.out, XR.out⟩
                case measure => simp [intOf]; omega
              · have hr0 : r = none := BAD.out hdb
                have h3 : (16 : Int) ≤ (d : Int) := by omega
                subst hr0
                clear hdb hd
                go_wp2_with (go_at_call 204; refine (HLOW.out _).mono ?_; rintro e wx ⟨rfl, hwx⟩; rw [hwx]; clear hwx)
                go_ret2
                exact ⟨rfl, HB1.out.ex.trans XR.out⟩
            · have j2 : decide (lo ≤ 122) = false := decide_eq_false (by omega)
              have j2i : decide ((lo : Int) ≤ 122) = false := decide_eq_false l2
              have hr0 : r = none := BAD.out (by rw [PD.out, if_neg (by omega), if_neg (by omega)]; decide)
              subst hr0
              go_wp2_with (go_at_call 204; refine (HLOW.out _).mono ?_; rintro e wx ⟨rfl, hwx⟩; rw [hwx]; clear hwx)
              go_ret2
              exact ⟨rfl, HB1.out.ex.trans XR.out⟩
          · have j1 : decide (97 ≤ lo) = false := decide_eq_false (by omega)
            have j1i : decide ((97 : Int) ≤ (lo : Int)) = false := decide_eq_false l1
            have hr0 : r = none := BAD.out (by rw [PD.out, if_neg (by omega), if_neg (by omega)]; decide)
            subst hr0
            go_wp2_with (go_at_call 204; refine (HLOW.out _).mono ?_; rintro e wx ⟨rfl, hwx⟩; rw [hwx]; clear hwx)
            go_ret2
            exact ⟨rfl, HB1.out.ex.trans XR.out⟩
    · obtain rfl : k = N := by omega
      have hr1 : r = some m := by rw [← HNUM.out, List.drop_eq_nil_of_le (by omega)]; rfl
      subst hr1
      clear xr
      go_wp2_with fail
      go_ret2
      exact ⟨rfl, HB1.out.ex.trans XR.out⟩
end Go.Proofs.YtalaajbajgdglaaGreatDoor
