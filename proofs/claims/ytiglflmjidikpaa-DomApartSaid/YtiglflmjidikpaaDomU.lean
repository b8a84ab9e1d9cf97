/- A row of numbers that is written in place: slices.Delete of one, slices.Insert of one, whatever the room. Conditions: at most 60000 elements. -/
import Derived.Test.YtiglflmjidikpaaShelfA
namespace Go.Proofs.Ytiglflmjidikpaa
open Go Go.RowKit Go.BigFrame
set_option linter.unusedVariables false
set_option linter.unusedSimpArgs false

/-- cells of a row, set one by one -/
def putMany (cur : Array Value) : Nat → List Value → Array Value
  | _, [] => cur
  | o, v :: r => putMany (cur.setIfInBounds o v) (o + 1) r
theorem putMany_size : ∀ (vs : List Value) (o : Nat) (cur : Array Value), (putMany cur o vs).size = cur.size
  | [], _, _ => rfl
  | v :: r, o, cur => by rw [putMany, putMany_size r]; simp
theorem putMany_get : ∀ (vs : List Value) (o : Nat) (cur : Array Value) (j : Nat), j < cur.size → (putMany cur o vs)[j]? = if o ≤ j ∧ j < o + vs.length then vs[j - o]? else cur[j]?
  | [], o, cur, j, hj => by rw [putMany, if_neg (by simp <;> omega)]
  | v :: r, o, cur, j, hj => by
    rw [putMany, putMany_get r (o + 1) _ j (by simpa using hj)]
    by_cases h1 : o + 1 ≤ j ∧ j < o + 1 + r.length
    · rw [if_pos h1, if_pos ⟨by omega, by simp; omega⟩]
      obtain ⟨k, rfl⟩ : ∃ k, j = o + 1 + k := ⟨j - (o + 1), by omega⟩
      rw [show o + 1 + k - (o + 1) = k by omega, show o + 1 + k - o = k + 1 by omega, List.getElem?_cons_succ]
    · rw [if_neg h1, Array.getElem?_setIfInBounds]
      by_cases h2 : o = j
      · subst h2
        rw [if_pos rfl, if_pos hj, if_pos ⟨Nat.le_refl _, by simp⟩, Nat.sub_self]; rfl
      · rw [if_neg h2, if_neg (by simp; omega)]
theorem heap_setCells_same {b : Nat} {t : TypeId} {fr : Nat × Nat} : ∀ (vs : List Value) (o : Nat) (w : World) (cur : Array Value), w.heap[b]? = some (.cells cur t fr) → (w.setCells b o vs).heap[b]? = some (.cells (putMany cur o vs) t fr)
  | [], _, _, _, h => h
  | v :: r, o, w, cur, h => heap_setCells_same r (o + 1) _ _ (heap_setCell_same h v)
theorem heap_setCells_far {b k : Nat} (hk : k ≠ b) : ∀ (vs : List Value) (o : Nat) (w : World), (w.setCells b o vs).heap[k]? = w.heap[k]?
  | [], _, _ => rfl
  | v :: r, o, w => (heap_setCells_far hk r (o + 1) _).trans (heap_setCell_other (p := ⟨b, o, none⟩) v hk)
theorem setCells_parts (b : Nat) : ∀ (vs : List Value) (o : Nat) (w : World), (w.setCells b o vs).os = w.os ∧ (w.setCells b o vs).tape = w.tape ∧ (w.setCells b o vs).output = w.output ∧ (w.setCells b o vs).heap.size = w.heap.size
  | [], _, _ => ⟨rfl, rfl, rfl, rfl⟩
  | v :: r, o, w => by
    have h := setCells_parts b r (o + 1) (w.setCell ⟨b, o, none⟩ v)
    refine ⟨h.1, h.2.1, h.2.2.1, h.2.2.2.trans ?_⟩
    simp [World.setCell]
theorem grown_setCells (b o : Nat) (vs : List Value) (w : World) : w.grownBy (w.setCells b o vs) (some b) := by
  obtain ⟨h1, h2, h3, h4⟩ := setCells_parts b vs o w
  exact ⟨h1, h2, h3, Nat.le_of_eq h4.symm, fun k _ hk => heap_setCells_far (fun e => hk (by rw [e])) vs o w⟩
theorem grown_trans {a b c : World} {row : Option Nat} (h : a.grownBy b row) (k : b.grownBy c row) : a.grownBy c row :=
  ⟨k.os.trans h.os, k.tape.trans h.tape, k.output.trans h.output, Nat.le_trans h.size k.size, fun x hx hr => (k.block x (Nat.lt_of_lt_of_le hx h.size) hr).trans (h.block x hx hr)⟩
theorem grown_drewN (w : World) (n : Nat) (row : Option Nat) : w.grownBy (w.drewN n) row := ⟨rfl, rfl, rfl, Nat.le_refl _, fun _ _ _ => rfl⟩
theorem grown_alloc (w : World) (o : Obj) (row : Option Nat) : w.grownBy (w.alloc o) row := ⟨rfl, rfl, rfl, by simp, fun k hk _ => Below.heap_alloc _ _ _ hk⟩
/-- a row of some numbers is a block of its own -/
theorem RowP.some_ {w : World} {p : Nat → Prop} {e : TypeId} {v : Value} {n : Nat} {xs : List Value} (h : RowP w p e 1 v n xs) (hn : 0 < n) :
    ∃ g cap cur, v = .slice (some ⟨g, 0, none⟩) n cap ∧ p g ∧ w.heap[g]? = some (.cells cur e (0, 0)) ∧ n ≤ cap ∧ cap ≤ maxLen ∧ cur.size = cap ∧ xs.length = n ∧ ∀ j, j < n → cur[j]? = xs[j]? := by
  rcases h.2 with ⟨h0, _⟩ | ⟨g, cap, cur, h1, h2, h3, h4, h5, h6, h7⟩
  · omega
  · have hl := h.1
    rw [Nat.mul_one] at h6 h7 hl
    refine ⟨g, cap, cur, h1, h2, h3, h4, h5, h6, hl, fun j hj => ?_⟩
    rw [← h7, List.getElem?_take, if_pos hj]
    simp
theorem RowP.of_some {w : World} {p : Nat → Prop} {e g n cap : Nat} {cur : Array Value} {xs : List Value} (h2 : p g) (h3 : w.heap[g]? = some (.cells cur e (0, 0))) (h4 : n ≤ cap) (h5 : cap ≤ maxLen) (h6 : cur.size = cap) (hl : xs.length = n)
    (h7 : ∀ j, j < n → cur[j]? = xs[j]?) : RowP w p e 1 (.slice (some ⟨g, 0, none⟩) n cap) n xs := by
  refine ⟨by rw [Nat.mul_one]; exact hl, .inr ⟨g, cap, cur, rfl, h2, h3, h4, h5, by rw [Nat.mul_one]; exact h6, ?_⟩⟩
  rw [Nat.mul_one]
  apply List.ext_getElem?
  intro j
  rw [List.getElem?_take]
  by_cases hj : j < n
  · rw [if_pos hj, ← h7 j hj]; simp
  · rw [if_neg hj, List.getElem?_eq_none (by omega)]
/-- a row is answered, written in place or made anew -/
def RRowP (p : Nat → Prop) (w : World) (n : Nat) (ys : List Value) (e : Ending) (w' : World) : Prop :=
  ∃ v' row, e = .returned v' ∧ RowP w' p 3 1 v' n ys ∧ w.grownBy w' row ∧ ∀ k, row = some k → p k

theorem delete_any {w : World} {p : Nat → Prop} {v : Value} {l : List Int} (hr : RowP w p 3 1 v l.length (l.map (Value.int .i64))) (hn : l.length ≤ 60000) {i : Nat} (hi : i < l.length) (j : Int) (hj : j = (i : Int) + 1) :
    Calls Try.prog 86 #[v, .int .i64 i, .int .i64 j] w (RRowP p w (l.length - 1) ((l.eraseIdx i).map (Value.int .i64))) := by
  obtain ⟨g, cap, cur, rfl, h2, h3, h4, h5, h6, h7, h8⟩ := hr.some_ (by omega)
  obtain rfl : j = ((i + 1 : Nat) : Int) := by omega
  unfold maxLen at h5
  have hc := Any.slices_Delete_int_cells laysDel g 0 l.length cap i (i + 1) l w (Nat.le_refl _) h4 (by omega) (by omega) (by omega)
    (fun j hj => by
      rw [Nat.zero_add]
      refine cellOf h3 ?_
      rw [h8 j hj, List.getElem?_map, List.getElem?_eq_getElem hj]
      simp [List.getD_eq_getElem?_getD, List.getElem?_eq_getElem hj])
    (fun j _ => freeOf h3 _)
  refine Calls.mono (P := Try.prog) (f := 86) hc ?_
  rintro e w' ⟨rfl, q, rfl⟩
  have hh : (w.drewN q).heap[g]? = some (.cells cur 3 (0, 0)) := h3
  refine ⟨_, some g, rfl, ?_, grown_trans (grown_drewN w q _) (grown_setCells _ _ _ _), fun k hk => by cases hk; exact h2⟩
  rw [show l.length - (i + 1 - i) = l.length - 1 by omega]
  refine RowP.of_some h2 (heap_setCells_same _ _ _ _ hh) (by omega) (by unfold maxLen; omega) (by rw [putMany_size]; exact h6) (by simp [List.length_eraseIdx, hi]) fun j hj => ?_
  rw [putMany_get _ _ _ _ (by omega), if_pos ⟨Nat.zero_le _, by simp; omega⟩, Nat.sub_zero, List.getElem?_map, List.getElem?_map, List.take_of_length_le (Nat.le_refl _), List.eraseIdx_eq_take_drop_succ, List.getElem?_append_left (by simp; omega)]

/-- what becomes of the cells when one is put in between -/
theorem put_two (l : List Int) (cur : Array Value) (i : Nat) (x : Int) (hi : i < l.length) (hs : l.length + 1 ≤ cur.size) (h8 : ∀ j, j < i → cur[j]? = (l.map (Value.int .i64))[j]?) :
    ∀ j, j < l.length + 1 → (putMany (putMany cur (i + 1) ((l.map (Value.int .i64)).drop i)) i [.int .i64 x])[j]? = ((l.take i ++ [x] ++ l.drop i).map (Value.int .i64))[j]? := by
  intro j hj
  rw [putMany_get _ _ _ _ (by rw [putMany_size]; omega)]
  have e : (l.take i ++ [x] ++ l.drop i).map (Value.int .i64) = (l.map (Value.int .i64)).take i ++ (.int .i64 x :: (l.map (Value.int .i64)).drop i) := by simp
  rw [e]
  rcases Nat.lt_trichotomy j i with h | h | h
  · rw [if_neg (by simp; omega), putMany_get _ _ _ _ (by omega), if_neg (by omega), List.getElem?_append_left (by simp; omega), List.getElem?_take, if_pos h, h8 j h]
  · subst h
    rw [if_pos ⟨Nat.le_refl _, by simp⟩, Nat.sub_self, List.getElem?_append_right (by simp; omega)]
    have : j - ((l.map (Value.int .i64)).take j).length = 0 := by simp; omega
    rw [this]; rfl
  · rw [if_neg (by simp; omega), putMany_get _ _ _ _ (by omega), if_pos ⟨by omega, by simp; omega⟩, List.getElem?_append_right (by simp; omega)]
    have : j - ((l.map (Value.int .i64)).take i).length = j - (i + 1) + 1 := by simp; omega
    rw [this, List.getElem?_cons_succ]
theorem put_three (l : List Int) (i : Nat) (x : Int) (Z : Array Value) (hi : i < l.length) (hz : ((l.map (Value.int .i64)).take i).length + (l.length + 1 - i) ≤ (((l.map (Value.int .i64)).take i).toArray ++ Z).size) :
    ∀ j, j < l.length + 1 → (putMany (putMany (((l.map (Value.int .i64)).take i).toArray ++ Z) i [.int .i64 x]) (i + 1) ((l.map (Value.int .i64)).drop i))[j]? = ((l.take i ++ [x] ++ l.drop i).map (Value.int .i64))[j]? := by
  intro j hj
  have hz' : l.length + 1 ≤ (((l.map (Value.int .i64)).take i).toArray ++ Z).size := by
    have : ((l.map (Value.int .i64)).take i).length = i := by simp; omega
    omega
  rw [putMany_get _ _ _ _ (by rw [putMany_size]; omega)]
  have e : (l.take i ++ [x] ++ l.drop i).map (Value.int .i64) = (l.map (Value.int .i64)).take i ++ (.int .i64 x :: (l.map (Value.int .i64)).drop i) := by simp
  rw [e]
  rcases Nat.lt_trichotomy j i with h | h | h
  · rw [if_neg (by omega), putMany_get _ _ _ _ (by omega), if_neg (by simp; omega), List.getElem?_append_left (by simp; omega), Array.getElem?_append_left (by simp; omega)]
    simp
  · subst h
    rw [if_neg (by omega), putMany_get _ _ _ _ (by omega), if_pos ⟨Nat.le_refl _, by simp⟩, Nat.sub_self, List.getElem?_append_right (by simp; omega)]
    have : j - ((l.map (Value.int .i64)).take j).length = 0 := by simp; omega
    rw [this]; rfl
  · rw [if_pos ⟨by omega, by simp; omega⟩, List.getElem?_append_right (by simp; omega)]
    have : j - ((l.map (Value.int .i64)).take i).length = j - (i + 1) + 1 := by simp; omega
    rw [this, List.getElem?_cons_succ]
theorem insertsAt_mid (l : List Int) (i : Nat) (hi : i < l.length) : InsertsAt i l := by
  intro W p v b x hr hl _ hx hpb
  obtain ⟨g, cap, cur, rfl, h2, h3, h4, h5, h6, h7, h8⟩ := hr.some_ (by omega)
  unfold maxLen at h5
  have hbg : b ≠ g := fun e => hpb (e ▸ h2)
  have hgl := (Array.getElem?_eq_some_iff.1 h3).1
  have hcell : ∀ (j : Nat) (v : Value), (l.map (Value.int .i64))[j]? = some v → W.cell? ⟨g, 0 + j, none⟩ = some v := fun j v hv => by
    rw [Nat.zero_add]
    refine cellOf h3 ?_
    have hjl := (List.getElem?_eq_some_iff.1 hv).1
    rw [h8 j (by simpa using hjl)]; exact hv
  have hvx : ∀ (j : Nat) (v : Value), [Value.int .i64 x][j]? = some v → W.cell? ⟨b, 0 + j, none⟩ = some v := fun j v hv => by
    match j, hv with
    | 0, hv => cases hv; exact cellOf hx rfl
  by_cases hroom : l.length + 1 ≤ cap
  · have hc := Any2.slices_Insert_int_shift laysIns g 0 l.length cap i b 0 1 1 (l.map (Value.int .i64)) [.int .i64 x] W hi (by omega) hroom (by omega) hbg (by simp) rfl hcell
      (fun j hj => by rw [Nat.zero_add, cellOf h3 (Array.getElem?_eq_getElem (by omega))]; rfl) (fun j _ => freeOf h3 _) hvx (ints_one l) (by simp [Value.oneCell'])
      3 3 1 cur.size (by simp [World.shape?, hx]) (by simp [World.shape?, h3]) (by omega) (freeOf hx _) (freeOf hx _)
    refine Calls.mono (P := Try.prog) (f := 84) hc ?_
    rintro e w' ⟨rfl, rfl⟩
    have hh : W.drew.heap[g]? = some (.cells cur 3 (0, 0)) := h3
    refine ⟨_, some g, rfl, ?_, grown_trans (grown_drewN W 1 _) (grown_trans (grown_setCells _ _ _ _) (grown_setCells _ _ _ _)), fun k hk => by cases hk; exact h2⟩
    rw [Nat.zero_add, Nat.zero_add]
    exact RowP.of_some (.inl h2) (heap_setCells_same _ _ _ _ (heap_setCells_same _ _ _ _ hh)) hroom (by unfold maxLen; omega) (by rw [putMany_size, putMany_size]; exact h6) (by simp; omega)
      (put_two l cur i x hi (by omega) fun j hj => h8 j (by omega))
  · have hc := Any2.slices_Insert_int_grow laysIns g 0 l.length cap i b 0 1 1 (l.map (Value.int .i64)) [.int .i64 x] W hi (by omega) h4 (by omega) (by omega) (by simp) rfl hcell hvx (ints_one l) (by simp [Value.oneCell'])
    refine Calls.mono (P := Try.prog) (f := 84) hc ?_
    rintro e w' ⟨rfl, rfl⟩
    have hG := grownCap_ge W (l.length + 1) cap (laysIns_ren.t 3)
    have hGm := grownCap_le_maxLen W (l.length + 1) cap (laysIns_ren.t 3) (by unfold maxLen; omega)
    generalize grownCap W (l.length + 1) cap (laysIns_ren.t 3) = G at hG hGm ⊢
    refine ⟨_, none, rfl, ?_, ?_, fun k hk => by cases hk⟩
    · have hsz : ∀ k, (Builtin.zeroCells (Value.int .i64 0).cells k).size = k := fun k => by simp [Builtin.zeroCells, Value.cells]
      have e : ((l.map (Value.int .i64)).take i).toArray ++ Builtin.zeroCells (Value.int .i64 0).cells (l.length + 1 - i) ++ Builtin.zeroCells (Value.int .i64 0).cells (G - (l.length + 1)) = ((l.map (Value.int .i64)).take i).toArray ++ (Builtin.zeroCells (Value.int .i64 0).cells (l.length + 1 - i) ++ Builtin.zeroCells (Value.int .i64 0).cells (G - (l.length + 1))) := by simp
      rw [e]
      have hh := heap_alloc_new W (.cells (((l.map (Value.int .i64)).take i).toArray ++ (Builtin.zeroCells (Value.int .i64 0).cells (l.length + 1 - i) ++ Builtin.zeroCells (Value.int .i64 0).cells (G - (l.length + 1)))) 3)
      have hs : (((l.map (Value.int .i64)).take i).toArray ++ (Builtin.zeroCells (Value.int .i64 0).cells (l.length + 1 - i) ++ Builtin.zeroCells (Value.int .i64 0).cells (G - (l.length + 1)))).size = G := by
        simp only [Array.size_append, hsz, List.size_toArray, List.length_take, List.length_map]; omega
      refine RowP.of_some (.inr (Nat.le_refl _)) (heap_setCells_same _ _ _ _ (show _ = _ from heap_setCells_same _ _ _ _ (show _ = _ from hh))) hG hGm (by rw [putMany_size, putMany_size]; exact hs) (by simp; omega) ?_
      exact put_three l i x _ hi (by rw [hs]; simp; omega)
    · have hA := fun (k : Nat) (hk : k < W.heap.size) => Below.heap_alloc W (.cells (((l.map (Value.int .i64)).take i).toArray ++ Builtin.zeroCells (Value.int .i64 0).cells (l.length + 1 - i) ++ Builtin.zeroCells (Value.int .i64 0).cells (G - (l.length + 1))) (laysIns_ren.t 3)) k hk
      have hne : ∀ k, k < W.heap.size → k ≠ W.heap.size := fun k hk => by omega
      refine ⟨?_, ?_, ?_, ?_, fun k hk _ => ?_⟩
      · exact (setCells_parts _ _ _ _).1.trans (show _ = _ from (setCells_parts _ _ _ _).1)
      · exact (setCells_parts _ _ _ _).2.1.trans (show _ = _ from (setCells_parts _ _ _ _).2.1)
      · exact (setCells_parts _ _ _ _).2.2.1.trans (show _ = _ from (setCells_parts _ _ _ _).2.2.1)
      · rw [(setCells_parts _ _ _ _).2.2.2]
        show _ ≤ ((World.setCells _ _ _ _)).heap.size
        rw [(setCells_parts _ _ _ _).2.2.2]
        show _ ≤ (World.alloc _ _).heap.size
        simp
      · exact (heap_setCells_far (hne k hk) _ _ _).trans (show _ = _ from (heap_setCells_far (hne k hk) _ _ _).trans (hA k hk))
theorem insertsAt_any (l : List Int) (i : Nat) : InsertsAt i l := by
  intro W p v b x hr hl hi hx hpb
  rcases Nat.lt_or_ge i l.length with h | h
  · exact insertsAt_mid l i h W p v b x hr hl hi hx hpb
  · obtain rfl : i = l.length := by omega
    exact insertsAt_end l W p v b x hr hl hi hx hpb
end Go.Proofs.Ytiglflmjidikpaa
