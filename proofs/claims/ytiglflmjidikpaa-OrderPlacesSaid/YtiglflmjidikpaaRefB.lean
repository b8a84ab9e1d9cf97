/- quillworkref08: the document's tree in memory when a record is turned, or one more comes: laws without any walk. -/
import Derived.Test.YtiglflmjidikpaaRefA
import Derived.Test.YtiglflmjidikpaaTurn
namespace Go.Proofs.Ytiglflmjidikpaa
open Go Go.RowKit Go.BigFrame
set_option linter.unusedVariables false
set_option linter.unusedSimpArgs false

/-- what ga tells, and what came since lo, but block g -/
def joinG (ga w : World) (lo g : Nat) : World := { w with heap := w.heap.mapIdx fun b x => if lo ≤ b ∧ b ≠ g then x else (ga.heap[b]?).getD (.cells #[] 0 (0, 0)) }
theorem joinG_get (ga w : World) (lo g b : Nat) : (joinG ga w lo g).heap[b]? = (w.heap[b]?).map fun x => if lo ≤ b ∧ b ≠ g then x else (ga.heap[b]?).getD (.cells #[] 0 (0, 0)) := by
  show (w.heap.mapIdx _)[b]? = _
  rw [Array.getElem?_mapIdx]
theorem joinG_new {ga w : World} {lo g b : Nat} (h1 : lo ≤ b) (h2 : b ≠ g) : (joinG ga w lo g).heap[b]? = w.heap[b]? := by
  rw [joinG_get]
  cases w.heap[b]? with
  | none => rfl
  | some x => simp [h1, h2]
theorem joinG_old {ga w : World} {lo g b : Nat} (h : b < lo ∨ b = g) (hs : b < w.heap.size) {o : Obj} (ho : ga.heap[b]? = some o) : (joinG ga w lo g).heap[b]? = some o := by
  rw [joinG_get]
  have hn : ¬ (lo ≤ b ∧ b ≠ g) := by rintro ⟨h1, h2⟩; rcases h with h | h; omega; exact h2 h
  simp [hs, hn, ho]
theorem joinG_of {ga w : World} {lo g : Nat} {q : Addr} {y : Value} (h : (joinG ga w lo g).cell? q = some y) : ga.cell? q = some y ∨ (lo ≤ q.block ∧ q.block ≠ g ∧ w.cell? q = some y) := by
  by_cases hq : lo ≤ q.block ∧ q.block ≠ g
  · exact .inr ⟨hq.1, hq.2, by rw [← h]; exact (World.cell?_of_block (joinG_new hq.1 hq.2)).symm⟩
  · left
    have hg := joinG_get ga w lo g q.block
    have hl := World.block_lt_of_cell? _ _ h
    cases hw : w.heap[q.block]? with
    | none => rw [hw] at hg; simp [World.cell?, hg] at h
    | some x =>
      rw [hw] at hg
      simp [hq] at hg
      cases hga : ga.heap[q.block]? with
      | none => rw [hga] at hg; simp [World.cell?, hg] at h
      | some o =>
        rw [hga] at hg
        rw [← h]
        exact World.cell?_of_block (by rw [hga, hg]; rfl)
theorem joinG_keeps {ga w' : World} {lo g : Nat} (h : ∀ q y, ga.cell? q = some y → w'.cell? q = some y ∧ (q.block < lo ∨ q.block = g)) : Cells ga (joinG ga w' lo g) := by
  intro q y hq
  obtain ⟨h1, h2⟩ := h q y hq
  have hl := World.block_lt_of_cell? _ _ h1
  have hl2 := World.block_lt_of_cell? _ _ hq
  rw [← hq]
  obtain ⟨o, ho⟩ : ∃ o, ga.heap[q.block]? = some o := ⟨ga.heap[q.block], by simp [hl2]⟩
  exact World.cell?_of_block ((joinG_old h2 hl ho).trans ho.symm)
/-- a row in new memory is told -/
theorem RowP.join {ga w : World} {lo g e size n : Nat} {v : Value} {xs : List Value} {p : Nat → Prop} (h : RowP w p e size v n xs) (hp : ∀ b, p b → lo ≤ b ∧ b ≠ g) : RowRd (joinG ga w lo g) size v n xs :=
  RowP.rd (RowP.move h (p' := p) fun b hb => ⟨joinG_new (hp b hb).1 (hp b hb).2, hb⟩)
theorem RecAt.keep {ga ga' : World} {cur cur' : Array Value} {j : Nat} {o : Option Nd} (h : RecAt ga cur j o) (hc : Cells ga ga') (he : ∀ i, i < 6 → cur'[j * 6 + i]? = cur[j * 6 + i]?) : RecAt ga' cur' j o := by
  obtain ⟨av, kv, r0, r1, r2, r3, r4, r5, r6, r7⟩ := h.out
  exact ⟨av, kv, (he 0 (by decide)).trans r0, (he 1 (by decide)).trans r1, (he 2 (by decide)).trans r2, (he 3 (by decide)).trans r3, (he 4 (by decide)).trans r4, (he 5 (by decide)).trans r5, r6.cells hc, r7.cells hc⟩
/-- the document's tree, all whose blocks lie in F -/
structure RefOn (w : World) (F : Nat → Prop) (rb : Nat) (T : Tr) : Prop where
  out : ∃ ga g, RefAt w ga rb g T ∧ F rb ∧ F g ∧ ∀ q y, ga.cell? q = some y → F q.block
theorem RefOn.at {w : World} {F : Nat → Prop} {rb : Nat} {T : Tr} (h : RefOn w F rb T) : RAt w rb T := by
  obtain ⟨ga, g, h, _⟩ := h.out
  exact ⟨ga, g, h⟩
theorem RefOn.wide {w : World} {F F' : Nat → Prop} {rb : Nat} {T : Tr} (h : RefOn w F rb T) (k : ∀ b, F b → F' b) : RefOn w F' rb T := by
  obtain ⟨ga, g, h, h1, h2, h3⟩ := h.out
  exact ⟨ga, g, h, k _ h1, k _ h2, fun q y hq => k _ (h3 q y hq)⟩
theorem RefOn.keep {w w' : World} {F : Nat → Prop} {rb : Nat} {T : Tr} (h : RefOn w F rb T) (k : ∀ b, F b → b < w.heap.size → w'.heap[b]? = w.heap[b]?) : RefOn w' F rb T := by
  obtain ⟨ga, g, h, h1, h2, h3⟩ := h.out
  obtain ⟨cap, cur, b1, b2, b3, b4, b5, b6⟩ := h.row
  exact ⟨ga, g, h.keep (k rb h1 (Array.getElem?_eq_some_iff.1 b1).1) (k g h2 (Array.getElem?_eq_some_iff.1 b4).1) fun q y hq => by
    have hw := (h.told q y hq).1
    exact (World.cell?_of_block (k q.block (h3 q y hq) (World.block_lt_of_cell? _ _ hw))).trans hw, h1, h2, h3⟩
theorem RefOn.ext {w w' : World} {F : Nat → Prop} {rb : Nat} {T : Tr} (h : RefOn w F rb T) (x : Ext w w') : RefOn w' F rb T := h.keep fun b _ hb => Below.block x b hb
/-- behind a call: only blocks of F were turned; the tree lies in F and in new blocks -/
structure RAft (F : Nat → Prop) (w : World) (rb : Nat) (T : Tr) (w' : World) : Prop where
  on : RefOn w' (fun b => F b ∨ w.heap.size ≤ b) rb T
  chg : Chg F w w'
theorem RAft.refl {F : Nat → Prop} {w : World} {rb : Nat} {T : Tr} (h : RefOn w F rb T) : RAft F w rb T w := ⟨h.wide fun b hb => .inl hb, Chg.refl _ _⟩
theorem Chg.thru {F : Nat → Prop} {a b c : World} (h : Chg F a b) (k : Chg (fun x => F x ∨ a.heap.size ≤ x) b c) : Chg F a c :=
  ⟨k.os.trans h.os, k.tape.trans h.tape, k.output.trans h.output, Nat.le_trans h.size k.size, fun x hx hn => (k.rest x (Nat.lt_of_lt_of_le hx h.size) (fun hf => by rcases hf with hf | hf; exact hn hf; omega)).trans (h.rest x hx hn)⟩
theorem RAft.trans {F : Nat → Prop} {a b c : World} {rb : Nat} {T T' : Tr} (h : RAft F a rb T b) (k : RAft (fun x => F x ∨ a.heap.size ≤ x) b rb T' c) : RAft F a rb T' c :=
  ⟨k.on.wide fun x hx => by rcases hx with hx | hx; exact hx; exact .inr (Nat.le_trans h.chg.size hx), h.chg.thru k.chg⟩
theorem RAft.ext {F : Nat → Prop} {a b c : World} {rb : Nat} {T : Tr} (h : RAft F a rb T b) (x : Ext b c) : RAft F a rb T c := ⟨h.on.ext x, h.chg.trans (Chg.ext x)⟩
theorem RAft.after {F : Nat → Prop} {a b c : World} {rb : Nat} {T : Tr} (x : Ext a b) (h : RAft F b rb T c) : RAft F a rb T c :=
  ⟨h.on.wide fun y hy => by rcases hy with hy | hy; exact .inl hy; exact .inr (Nat.le_trans x.size hy), (Chg.ext x).trans h.chg⟩
/-- one record is turned -/
theorem RefAt.aft {w ga : World} {rb g : Nat} {T : Tr} {F : Nat → Prop} (h : RefAt w ga rb g T) (h1 : F rb) (h2 : F g) (h3 : ∀ q y, ga.cell? q = some y → F q.block) {w' : World} {T' : Tr} {j : Nat} {o o' : Option Nd}
    (hc : Chg (fun b => b = g) w w') (t1 : T'.cap = T.cap) (t2 : T'.deep = T.deep) (t3 : T'.nodes = T.nodes.set j o') (hj : T.nodes[j]? = some o)
    (hcur : ∀ cur cap, w.heap[g]? = some (.cells cur 132 (0, 0)) → cur.size = cap * 6 → j < cap → ∃ cur', w'.heap[g]? = some (.cells cur' 132 (0, 0)) ∧ cur'.size = cur.size ∧ (∀ i, ¬ (j * 6 ≤ i ∧ i < j * 6 + 6) → cur'[i]? = cur[i]?) ∧
      (Cells ga (joinG ga w' w.heap.size g) → RecAt ga cur j o → RecAt (joinG ga w' w.heap.size g) cur' j o')) : RAft F w rb T' w' := by
  obtain ⟨cap, cur, b1, b2, b3, b4, b5, b6⟩ := h.row
  have hjl := (List.getElem?_eq_some_iff.1 hj).1
  obtain ⟨cur', c1, c2, c3, c4⟩ := hcur cur cap b4 b5 (by omega)
  have hrl := (Array.getElem?_eq_some_iff.1 b1).1
  have hgl := (Array.getElem?_eq_some_iff.1 b4).1
  have hga : ∀ q y, ga.cell? q = some y → w'.cell? q = some y ∧ (q.block < w.heap.size ∨ q.block = g) := fun q y hq => by
    obtain ⟨e1, e2, e3⟩ := h.told q y hq
    exact ⟨hc.cell e1 e3, .inl (World.block_lt_of_cell? _ _ e1)⟩
  have hcells := joinG_keeps hga
  have hlen : T'.nodes.length = T.nodes.length := by rw [t3]; simp
  refine ⟨⟨joinG ga w' w.heap.size g, g, ⟨h.ne, ⟨cap, cur', ?_, by omega, b3, c1, by omega, fun i x hi => ?_⟩, fun q y hq => ?_⟩, .inl h1, .inl h2, fun q y hq => ?_⟩, hc.wide fun b hb => hb ▸ h2⟩
  · rw [t1, t2, hlen]; exact hc.block b1 (fun e => h.ne e)
  · rw [t3] at hi
    by_cases e : i = j
    · subst e
      rw [List.getElem?_set_self hjl] at hi
      cases hi
      exact c4 hcells (b6 _ _ hj)
    · rw [List.getElem?_set_ne (Ne.symm e)] at hi
      exact (b6 i x hi).keep hcells fun m hm => c3 _ (by omega)
  · rcases joinG_of hq with hq | ⟨q1, q2, q3⟩
    · exact ⟨(hga q y hq).1, (h.told q y hq).2⟩
    · exact ⟨q3, by omega, q2⟩
  · rcases joinG_of hq with hq | ⟨q1, q2, q3⟩
    · exact .inl (h3 q y hq)
    · exact .inr q1
/-- the six cells of a record -/
def recVals (tag up : Int) (av : Value) (text : ByteArray) (kv : Value) : List Value := [.int .i64 1, .int .i64 tag, .int .i64 up, av, .string text, kv]
/-- one more record comes: the row may have moved -/
theorem RefAt.more {w ga : World} {rb g : Nat} {T : Tr} {F : Nat → Prop} (h : RefAt w ga rb g T) (h1 : F rb) (h2 : F g) (h3 : ∀ q y, ga.cell? q = some y → F q.block) {w' : World} {T' : Tr} {nd : Nd}
    (hc : Chg (fun b => b = rb ∨ b = g) w w') (t1 : T'.cap = T.cap) (t2 : T'.deep = T.deep) (t3 : T'.nodes = T.nodes ++ [some nd]) {g' cap' : Nat} {cur' : Array Value}
    (k1 : w'.heap[rb]? = some (.cells #[.int .i64 T.cap, .int .i64 T.deep, .slice (some ⟨g', 0, none⟩) (T.nodes.length + 1) cap'] 94 (0, 0)))
    (k2 : w'.heap[g']? = some (.cells cur' 132 (0, 0))) (k3 : T.nodes.length + 1 ≤ cap') (k4 : cap' ≤ maxLen) (k5 : cur'.size = cap' * 6) (k6 : g' = g ∨ w.heap.size ≤ g')
    {av kv : Value} (k7 : ∀ cur, w.heap[g]? = some (.cells cur 132 (0, 0)) → cur'.toList.take ((T.nodes.length + 1) * 6) = cur.toList.take (T.nodes.length * 6) ++ recVals nd.tag nd.parent av nd.text kv)
    (k8 : Cells ga (joinG ga w' w.heap.size g') → RowRd (joinG ga w' w.heap.size g') 2 av nd.attrs.length (attrCells nd.attrs) ∧ RowRd (joinG ga w' w.heap.size g') 1 kv nd.kids.length (nd.kids.map (Value.int .i64))) : RAft F w rb T' w' := by
  obtain ⟨cap, cur, b1, b2, b3, b4, b5, b6⟩ := h.row
  have hrl := (Array.getElem?_eq_some_iff.1 b1).1
  have hgl := (Array.getElem?_eq_some_iff.1 b4).1
  have hne : rb ≠ g' := by rcases k6 with e | e; rw [e]; exact h.ne; omega
  have hga : ∀ q y, ga.cell? q = some y → w'.cell? q = some y ∧ (q.block < w.heap.size ∨ q.block = g') := fun q y hq => by
    obtain ⟨e1, e2, e3⟩ := h.told q y hq
    exact ⟨hc.cell e1 (fun e => by rcases e with e | e; exact e2 e; exact e3 e), .inl (World.block_lt_of_cell? _ _ e1)⟩
  have hcells := joinG_keeps hga
  have hlen : T'.nodes.length = T.nodes.length + 1 := by rw [t3]; simp
  obtain ⟨r1, r2⟩ := k8 hcells
  have hk := k7 cur b4
  have hold : ∀ i, i < T.nodes.length * 6 → cur'[i]? = cur[i]? := fun i hi => by
    have e := congrArg (·[i]?) hk
    simp only [List.getElem?_take_of_lt (show i < (T.nodes.length + 1) * 6 by omega)] at e
    rw [List.getElem?_append_left (by simp; omega), List.getElem?_take_of_lt hi] at e
    simpa using e
  have hnew : ∀ i, i < 6 → cur'[T.nodes.length * 6 + i]? = (recVals nd.tag nd.parent av nd.text kv)[i]? := fun i hi => by
    have e := congrArg (·[T.nodes.length * 6 + i]?) hk
    simp only [List.getElem?_take_of_lt (show T.nodes.length * 6 + i < (T.nodes.length + 1) * 6 by omega)] at e
    have hl : (cur.toList.take (T.nodes.length * 6)).length = T.nodes.length * 6 := by simp; omega
    rw [List.getElem?_append_right (by omega), hl, Nat.add_sub_cancel_left] at e
    simpa using e
  refine ⟨⟨joinG ga w' w.heap.size g', g', ⟨hne, ⟨cap', cur', ?_, by omega, k4, k2, k5, fun i x hi => ?_⟩, fun q y hq => ?_⟩, .inl h1, ?_, fun q y hq => ?_⟩, hc.wide fun b hb => by rcases hb with hb | hb; exact hb ▸ h1; exact hb ▸ h2⟩
  · rw [t1, t2, hlen]; exact k1
  · rw [t3] at hi
    by_cases e : i < T.nodes.length
    · rw [List.getElem?_append_left e] at hi
      exact (b6 i x hi).keep hcells fun m hm => hold _ (by omega)
    · have hil : i < T'.nodes.length := by rw [t3]; exact (List.getElem?_eq_some_iff.1 hi).1
      obtain rfl : i = T.nodes.length := by omega
      simp at hi
      subst hi
      exact ⟨av, kv, hnew 0 (by decide), hnew 1 (by decide), hnew 2 (by decide), hnew 3 (by decide), hnew 4 (by decide), hnew 5 (by decide), r1, r2⟩
  · rcases joinG_of hq with hq | ⟨q1, q2, q3⟩
    · refine ⟨(hga q y hq).1, (h.told q y hq).2.1, fun e => ?_⟩
      obtain ⟨e1, e2, e3⟩ := h.told q y hq
      have := World.block_lt_of_cell? _ _ e1
      rcases k6 with k6 | k6
      · exact e3 (e.trans k6)
      · omega
    · exact ⟨q3, by omega, q2⟩
  · rcases k6 with k6 | k6
    · exact .inl (k6 ▸ h2)
    · exact .inr k6
  · rcases joinG_of hq with hq | ⟨q1, q2, q3⟩
    · exact .inl (h3 q y hq)
    · exact .inr q1
/-- six cells are written -/
def put6 (w : World) (b o : Nat) (z0 z1 z2 z3 z4 z5 : Value) : World := (((((w.setCell ⟨b, o, none⟩ z0).setCell ⟨b, o + 1, none⟩ z1).setCell ⟨b, o + 2, none⟩ z2).setCell ⟨b, o + 3, none⟩ z3).setCell ⟨b, o + 4, none⟩ z4).setCell ⟨b, o + 5, none⟩ z5
def set6 (cs : Array Value) (o : Nat) (z0 z1 z2 z3 z4 z5 : Value) : Array Value := (((((cs.setIfInBounds o z0).setIfInBounds (o + 1) z1).setIfInBounds (o + 2) z2).setIfInBounds (o + 3) z3).setIfInBounds (o + 4) z4).setIfInBounds (o + 5) z5
theorem put6_same {w : World} {b o : Nat} {cs : Array Value} {t : TypeId} {fr : Nat × Nat} (h : w.heap[b]? = some (.cells cs t fr)) (z0 z1 z2 z3 z4 z5 : Value) : (put6 w b o z0 z1 z2 z3 z4 z5).heap[b]? = some (.cells (set6 cs o z0 z1 z2 z3 z4 z5) t fr) :=
  heap_setCell_same (heap_setCell_same (heap_setCell_same (heap_setCell_same (heap_setCell_same (heap_setCell_same h _) _) _) _) _) _
theorem put6_chg {F : Nat → Prop} {a b : World} (h : Chg F a b) {x : Nat} (hx : x < a.heap.size → F x) (o : Nat) (z0 z1 z2 z3 z4 z5 : Value) : Chg F a (put6 b x o z0 z1 z2 z3 z4 z5) :=
  (((((h.set (p := ⟨x, o, none⟩) hx _).set (p := ⟨x, o + 1, none⟩) hx _).set (p := ⟨x, o + 2, none⟩) hx _).set (p := ⟨x, o + 3, none⟩) hx _).set (p := ⟨x, o + 4, none⟩) hx _).set (p := ⟨x, o + 5, none⟩) hx _
theorem set6_size (cs : Array Value) (o : Nat) (z0 z1 z2 z3 z4 z5 : Value) : (set6 cs o z0 z1 z2 z3 z4 z5).size = cs.size := by simp [set6]
theorem set6_other {cs : Array Value} {o i : Nat} (h : ¬ (o ≤ i ∧ i < o + 6)) (z0 z1 z2 z3 z4 z5 : Value) : (set6 cs o z0 z1 z2 z3 z4 z5)[i]? = cs[i]? := by
  unfold set6
  simp only [Array.getElem?_setIfInBounds]
  have e0 : o ≠ i := by omega
  have e1 : o + 1 ≠ i := by omega
  have e2 : o + 2 ≠ i := by omega
  have e3 : o + 3 ≠ i := by omega
  have e4 : o + 4 ≠ i := by omega
  have e5 : o + 5 ≠ i := by omega
  simp [e0, e1, e2, e3, e4, e5]
theorem set6_in {cs : Array Value} {o : Nat} (h : o + 6 ≤ cs.size) (z0 z1 z2 z3 z4 z5 : Value) : ∀ i, i < 6 → (set6 cs o z0 z1 z2 z3 z4 z5)[o + i]? = [z0, z1, z2, z3, z4, z5][i]? := by
  intro i hi
  have h0 : o < cs.size := by omega
  have h1 : o + 1 < cs.size := by omega
  have h2 : o + 2 < cs.size := by omega
  have h3 : o + 3 < cs.size := by omega
  have h4 : o + 4 < cs.size := by omega
  have h5 : o + 5 < cs.size := by omega
  unfold set6
  match i, hi with
  | 0, _ => simp [Array.getElem?_setIfInBounds, h0]
  | 1, _ => simp [Array.getElem?_setIfInBounds, h1]
  | 2, _ => simp [Array.getElem?_setIfInBounds, h2]
  | 3, _ => simp [Array.getElem?_setIfInBounds, h3]
  | 4, _ => simp [Array.getElem?_setIfInBounds, h4]
  | 5, _ => simp [Array.getElem?_setIfInBounds, h5]
/-- a whole record is written -/
theorem RefAt.put6 {w w1 ga : World} {rb g : Nat} {T : Tr} {F : Nat → Prop} (h : RefAt w ga rb g T) (h1 : F rb) (h2 : F g) (h3 : ∀ q y, ga.cell? q = some y → F q.block) {T' : Tr} {j : Nat} {o o' : Option Nd}
    (x : Ext w w1) (t1 : T'.cap = T.cap) (t2 : T'.deep = T.deep) (t3 : T'.nodes = T.nodes.set j o') (hj : T.nodes[j]? = some o) {av kv : Value}
    (ha : ∀ G : World, Cells ga G → (∀ b, w.heap.size ≤ b → G.heap[b]? = w1.heap[b]?) → RowRd G 2 av (ndOf o').attrs.length (attrCells (ndOf o').attrs))
    (hk : ∀ G : World, Cells ga G → (∀ b, w.heap.size ≤ b → G.heap[b]? = w1.heap[b]?) → RowRd G 1 kv (ndOf o').kids.length ((ndOf o').kids.map (Value.int .i64))) :
    RAft F w rb T' (put6 w1 g (j * 6) (.int .i64 (isN o')) (.int .i64 (ndOf o').tag) (.int .i64 (ndOf o').parent) av (.string (ndOf o').text) kv) := by
  have hgl : g < w.heap.size := by obtain ⟨_, _, _, _, _, b4, _⟩ := h.row; exact (Array.getElem?_eq_some_iff.1 b4).1
  refine h.aft h1 h2 h3 (put6_chg (F := fun b => b = g) (Chg.ext x) (fun _ => rfl) _ _ _ _ _ _ _) t1 t2 t3 hj fun cur cap hcur hs hjc => ⟨_, put6_same (x.block hcur) _ _ _ _ _ _, set6_size .., fun i hi => set6_other hi .., fun hG hr => ?_⟩
  have hz := set6_in (cs := cur) (o := j * 6) (by omega) (.int .i64 (isN o')) (.int .i64 (ndOf o').tag) (.int .i64 (ndOf o').parent) av (.string (ndOf o').text) kv
  have hnew : ∀ b, w.heap.size ≤ b → (joinG ga (Go.Proofs.Ytiglflmjidikpaa.put6 w1 g (j * 6) (.int .i64 (isN o')) (.int .i64 (ndOf o').tag) (.int .i64 (ndOf o').parent) av (.string (ndOf o').text) kv) w.heap.size g).heap[b]? = w1.heap[b]? := fun b hb => by
    rw [joinG_new hb (by omega)]
    have hne : b ≠ g := by omega
    unfold Go.Proofs.Ytiglflmjidikpaa.put6
    rw [heap_setCell_other (p := ⟨g, j * 6 + 5, none⟩) _ hne, heap_setCell_other (p := ⟨g, j * 6 + 4, none⟩) _ hne, heap_setCell_other (p := ⟨g, j * 6 + 3, none⟩) _ hne, heap_setCell_other (p := ⟨g, j * 6 + 2, none⟩) _ hne, heap_setCell_other (p := ⟨g, j * 6 + 1, none⟩) _ hne, heap_setCell_other (p := ⟨g, j * 6, none⟩) _ hne]
  exact ⟨av, kv, hz 0 (by decide), hz 1 (by decide), hz 2 (by decide), hz 3 (by decide), hz 4 (by decide), hz 5 (by decide), ha _ hG hnew, hk _ hG hnew⟩
/-- one field of a record is written -/
theorem RefAt.put1 {w w1 ga : World} {rb g : Nat} {T : Tr} {F : Nat → Prop} (h : RefAt w ga rb g T) (h1 : F rb) (h2 : F g) (h3 : ∀ q y, ga.cell? q = some y → F q.block) {T' : Tr} {j m : Nat} {o o' : Option Nd} {v : Value}
    (x : Ext w w1) (t1 : T'.cap = T.cap) (t2 : T'.deep = T.deep) (t3 : T'.nodes = T.nodes.set j o') (hj : T.nodes[j]? = some o) (hm : m < 6)
    (hr : ∀ (G : World) (cur : Array Value), Cells ga G → (∀ b, w.heap.size ≤ b → G.heap[b]? = w1.heap[b]?) → j * 6 + m < cur.size → RecAt ga cur j o → RecAt G (cur.setIfInBounds (j * 6 + m) v) j o') : RAft F w rb T' (w1.setCell ⟨g, j * 6 + m, none⟩ v) := by
  have hgl : g < w.heap.size := by obtain ⟨_, _, _, _, _, b4, _⟩ := h.row; exact (Array.getElem?_eq_some_iff.1 b4).1
  refine h.aft h1 h2 h3 (Chg.set (F := fun b => b = g) (Chg.ext x) (p := ⟨g, j * 6 + m, none⟩) (fun _ => rfl) v) t1 t2 t3 hj fun cur cap hcur hs hjc => ⟨_, heap_setCell_same (x.block hcur) v, by simp, fun i hi => ?_, fun hG hrc => ?_⟩
  · simp only [Array.getElem?_setIfInBounds]
    rw [if_neg (by omega)]
  · refine hr _ _ hG (fun b hb => ?_) (by omega) hrc
    rw [joinG_new hb (by omega)]
    exact heap_setCell_other (p := ⟨g, j * 6 + m, none⟩) _ (show b ≠ g by omega)
theorem recAt_set {ga G : World} {cur : Array Value} {j m : Nat} {nd nd' : Nd} {v : Value} (h : RecAt ga cur j (some nd)) (hc : Cells ga G) (hm : m < 6) (hl : j * 6 + m < cur.size)
    (h1 : if m = 1 then v = .int .i64 nd'.tag else nd'.tag = nd.tag) (h2 : if m = 2 then v = .int .i64 nd'.parent else nd'.parent = nd.parent) (h3 : if m = 3 then RowRd G 2 v nd'.attrs.length (attrCells nd'.attrs) else nd'.attrs = nd.attrs)
    (h4 : if m = 4 then v = .string nd'.text else nd'.text = nd.text) (h5 : if m = 5 then RowRd G 1 v nd'.kids.length (nd'.kids.map (Value.int .i64)) else nd'.kids = nd.kids) (h0 : m ≠ 0) : RecAt G (cur.setIfInBounds (j * 6 + m) v) j (some nd') := by
  obtain ⟨av, kv, r0, r1, r2, r3, r4, r5, r6, r7⟩ := h.out
  simp only [ndOf, isN, Option.getD_some, Option.isSome_some] at r0 r1 r2 r3 r4 r5 r6 r7
  have hself : (cur.setIfInBounds (j * 6 + m) v)[j * 6 + m]? = some v := by simp [Array.getElem?_setIfInBounds, hl]
  have hoth : ∀ i, i ≠ m → (cur.setIfInBounds (j * 6 + m) v)[j * 6 + i]? = cur[j * 6 + i]? := fun i hi => by
    simp only [Array.getElem?_setIfInBounds]; rw [if_neg (by omega)]
  have q6 := r6.cells hc
  have q7 := r7.cells hc
  match m, hm, h0 with
  | 1, _, _ =>
    simp at h1 h2 h3 h4 h5
    refine ⟨av, kv, ?_, ?_, ?_, ?_, ?_, ?_, ?_, ?_⟩ <;> try simp only [ndOf, isN, Option.getD_some, Option.isSome_some, h2, h3, h4, h5]
    · exact (hoth 0 (by decide)).trans r0
    · exact hself.trans (by rw [h1])
    · exact (hoth 2 (by decide)).trans r2
    · exact (hoth 3 (by decide)).trans r3
    · exact (hoth 4 (by decide)).trans r4
    · exact (hoth 5 (by decide)).trans r5
    · exact q6
    · exact q7
  | 2, _, _ =>
    simp at h1 h2 h3 h4 h5
    refine ⟨av, kv, ?_, ?_, ?_, ?_, ?_, ?_, ?_, ?_⟩ <;> try simp only [ndOf, isN, Option.getD_some, Option.isSome_some, h1, h3, h4, h5]
    · exact (hoth 0 (by decide)).trans r0
    · exact (hoth 1 (by decide)).trans r1
    · exact hself.trans (by rw [h2])
    · exact (hoth 3 (by decide)).trans r3
    · exact (hoth 4 (by decide)).trans r4
    · exact (hoth 5 (by decide)).trans r5
    · exact q6
    · exact q7
  | 3, _, _ =>
    simp at h1 h2 h3 h4 h5
    refine ⟨v, kv, ?_, ?_, ?_, ?_, ?_, ?_, ?_, ?_⟩ <;> try simp only [ndOf, isN, Option.getD_some, Option.isSome_some, h1, h2, h4, h5]
    · exact (hoth 0 (by decide)).trans r0
    · exact (hoth 1 (by decide)).trans r1
    · exact (hoth 2 (by decide)).trans r2
    · exact hself
    · exact (hoth 4 (by decide)).trans r4
    · exact (hoth 5 (by decide)).trans r5
    · exact h3
    · exact q7
  | 4, _, _ =>
    simp at h1 h2 h3 h4 h5
    refine ⟨av, kv, ?_, ?_, ?_, ?_, ?_, ?_, ?_, ?_⟩ <;> try simp only [ndOf, isN, Option.getD_some, Option.isSome_some, h1, h2, h3, h5]
    · exact (hoth 0 (by decide)).trans r0
    · exact (hoth 1 (by decide)).trans r1
    · exact (hoth 2 (by decide)).trans r2
    · exact (hoth 3 (by decide)).trans r3
    · exact hself.trans (by rw [h4])
    · exact (hoth 5 (by decide)).trans r5
    · exact q6
    · exact q7
  | 5, _, _ =>
    simp at h1 h2 h3 h4 h5
    refine ⟨av, v, ?_, ?_, ?_, ?_, ?_, ?_, ?_, ?_⟩ <;> try simp only [ndOf, isN, Option.getD_some, Option.isSome_some, h1, h2, h3, h4]
    · exact (hoth 0 (by decide)).trans r0
    · exact (hoth 1 (by decide)).trans r1
    · exact (hoth 2 (by decide)).trans r2
    · exact (hoth 3 (by decide)).trans r3
    · exact (hoth 4 (by decide)).trans r4
    · exact hself
    · exact q6
    · exact h5
end Go.Proofs.Ytiglflmjidikpaa
