/- A row of numbers that is written in place: slices.Delete of one, slices.Insert of one, whatever the room. Conditions: at most 60000 elements.
Package dom: Remove: the errors, and the tree behind it.
Package dom: Drop: the errors, and the tree behind it.
Package dom: Drop, whole. -/
import Derived.Test.YtiglflmjidikpaaD4
import Derived.Test.YtiglflmjidikpaaD3
import Derived.Laws.EntriesVeiled
namespace Go.Proofs.Ytiglflmjidikpaa
open Go Go.RowKit Go.BigFrame
set_option linter.unusedVariables false
set_option linter.unusedSimpArgs false

/-- cells of a row, set one by one -/
def putMany (cur : Array Value) : Nat → List Value → Array Value
  | _, [] => cur
  | o, v :: r => putMany (cur.setIfInBounds o v) (o + 1) r
theorem putMany_size : ∀ (vs : List Value) (o : Nat) (cur : Array Value), (putMany cur o vs).size = cur.size
  | [], _, _ => rfl
  | v :: r, o, cur => by rw [putMany, putMany_size r]; simp
theorem putMany_get : ∀ (vs : List Value) (o : Nat) (cur : Array Value) (j : Nat), j < cur.size → (putMany cur o vs)[j]? = if o ≤ j ∧ j < o + vs.length then vs[j - o]? else cur[j]?
  | [], o, cur, j, hj => by rw [putMany, if_neg (by simp <;> omega)]
  | v :: r, o, cur, j, hj => by
    rw [putMany, putMany_get r (o + 1) _ j (by simpa using hj)]
    by_cases h1 : o + 1 ≤ j ∧ j < o + 1 + r.length
    · rw [if_pos h1, if_pos ⟨by omega, by simp; omega⟩]
      obtain ⟨k, rfl⟩ : ∃ k, j = o + 1 + k := ⟨j - (o + 1), by omega⟩
      rw [show o + 1 + k - (o + 1) = k by omega, show o + 1 + k - o = k + 1 by omega, List.getElem?_cons_succ]
    · rw [if_neg h1, Array.getElem?_setIfInBounds]
      by_cases h2 : o = j
      · subst h2
        rw [if_pos rfl, if_pos hj, if_pos ⟨Nat.le_refl _, by simp⟩, Nat.sub_self]; rfl
      · rw [if_neg h2, if_neg (by simp; omega)]
theorem heap_setCells_same {b : Nat} {t : TypeId} {fr : Nat × Nat} : ∀ (vs : List Value) (o : Nat) (w : World) (cur : Array Value), w.heap[b]? = some (.cells cur t fr) → (w.setCells b o vs).heap[b]? = some (.cells (putMany cur o vs) t fr)
  | [], _, _, _, h => h
  | v :: r, o, w, cur, h => heap_setCells_same r (o + 1) _ _ (heap_setCell_same h v)
theorem heap_setCells_far {b k : Nat} (hk : k ≠ b) : ∀ (vs : List Value) (o : Nat) (w : World), (w.setCells b o vs).heap[k]? = w.heap[k]?
  | [], _, _ => rfl
  | v :: r, o, w => (heap_setCells_far hk r (o + 1) _).trans (heap_setCell_other (p := ⟨b, o, none⟩) v hk)
theorem setCells_parts (b : Nat) : ∀ (vs : List Value) (o : Nat) (w : World), (w.setCells b o vs).os = w.os ∧ (w.setCells b o vs).tape = w.tape ∧ (w.setCells b o vs).output = w.output ∧ (w.setCells b o vs).heap.size = w.heap.size
  | [], _, _ => ⟨rfl, rfl, rfl, rfl⟩
  | v :: r, o, w => by
    have h := setCells_parts b r (o + 1) (w.setCell ⟨b, o, none⟩ v)
    refine ⟨h.1, h.2.1, h.2.2.1, h.2.2.2.trans ?_⟩
    simp [World.setCell]
theorem grown_setCells (b o : Nat) (vs : List Value) (w : World) : w.grownBy (w.setCells b o vs) (some b) := by
  obtain ⟨h1, h2, h3, h4⟩ := setCells_parts b vs o w
  exact ⟨h1, h2, h3, Nat.le_of_eq h4.symm, fun k _ hk => heap_setCells_far (fun e => hk (by rw [e])) vs o w⟩
theorem grown_trans {a b c : World} {row : Option Nat} (h : a.grownBy b row) (k : b.grownBy c row) : a.grownBy c row :=
  ⟨k.os.trans h.os, k.tape.trans h.tape, k.output.trans h.output, Nat.le_trans h.size k.size, fun x hx hr => (k.block x (Nat.lt_of_lt_of_le hx h.size) hr).trans (h.block x hx hr)⟩
theorem grown_drewN (w : World) (n : Nat) (row : Option Nat) : w.grownBy (w.drewN n) row := ⟨rfl, rfl, rfl, Nat.le_refl _, fun _ _ _ => rfl⟩
theorem grown_alloc (w : World) (o : Obj) (row : Option Nat) : w.grownBy (w.alloc o) row := ⟨rfl, rfl, rfl, by simp, fun k hk _ => Below.heap_alloc _ _ _ hk⟩
/-- a row of some numbers is a block of its own -/
theorem RowP.some_ {w : World} {p : Nat → Prop} {e : TypeId} {v : Value} {n : Nat} {xs : List Value} (h : RowP w p e 1 v n xs) (hn : 0 < n) :
    ∃ g cap cur, v = .slice (some ⟨g, 0, none⟩) n cap ∧ p g ∧ w.heap[g]? = some (.cells cur e (0, 0)) ∧ n ≤ cap ∧ cap ≤ maxLen ∧ cur.size = cap ∧ xs.length = n ∧ ∀ j, j < n → cur[j]? = xs[j]? := by
  rcases h.2 with ⟨h0, _⟩ | ⟨g, cap, cur, h1, h2, h3, h4, h5, h6, h7⟩
  · omega
  · have hl := h.1
    rw [Nat.mul_one] at h6 h7 hl
    refine ⟨g, cap, cur, h1, h2, h3, h4, h5, h6, hl, fun j hj => ?_⟩
    rw [← h7, List.getElem?_take, if_pos hj]
    simp
theorem RowP.of_some {w : World} {p : Nat → Prop} {e g n cap : Nat} {cur : Array Value} {xs : List Value} (h2 : p g) (h3 : w.heap[g]? = some (.cells cur e (0, 0))) (h4 : n ≤ cap) (h5 : cap ≤ maxLen) (h6 : cur.size = cap) (hl : xs.length = n)
    (h7 : ∀ j, j < n → cur[j]? = xs[j]?) : RowP w p e 1 (.slice (some ⟨g, 0, none⟩) n cap) n xs := by
  refine ⟨by rw [Nat.mul_one]; exact hl, .inr ⟨g, cap, cur, rfl, h2, h3, h4, h5, by rw [Nat.mul_one]; exact h6, ?_⟩⟩
  rw [Nat.mul_one]
  apply List.ext_getElem?
  intro j
  rw [List.getElem?_take]
  by_cases hj : j < n
  · rw [if_pos hj, ← h7 j hj]; simp
  · rw [if_neg hj, List.getElem?_eq_none (by omega)]
/-- a row is answered, written in place or made anew -/
def RRowP (p : Nat → Prop) (w : World) (n : Nat) (ys : List Value) (e : Ending) (w' : World) : Prop :=
  ∃ v' row, e = .returned v' ∧ RowP w' p 3 1 v' n ys ∧ w.grownBy w' row ∧ ∀ k, row = some k → p k

theorem delete_any {w : World} {p : Nat → Prop} {v : Value} {l : List Int} (hr : RowP w p 3 1 v l.length (l.map (Value.int .i64))) (hn : l.length ≤ 60000) {i : Nat} (hi : i < l.length) (j : Int) (hj : j = (i : Int) + 1) :
    Calls Try.prog 86 #[v, .int .i64 i, .int .i64 j] w (RRowP p w (l.length - 1) ((l.eraseIdx i).map (Value.int .i64))) := by
  obtain ⟨g, cap, cur, rfl, h2, h3, h4, h5, h6, h7, h8⟩ := hr.some_ (by omega)
  obtain rfl : j = ((i + 1 : Nat) : Int) := by omega
  unfold maxLen at h5
  have hc := Any.slices_Delete_int_cells laysDel g 0 l.length cap i (i + 1) l w (Nat.le_refl _) h4 (by omega) (by omega) (by omega)
    (fun j hj => by
      rw [Nat.zero_add]
      refine cellOf h3 ?_
      rw [h8 j hj, List.getElem?_map, List.getElem?_eq_getElem hj]
      simp [List.getD_eq_getElem?_getD, List.getElem?_eq_getElem hj])
    (fun j _ => freeOf h3 _)
  refine Calls.mono (P := Try.prog) (f := 86) hc ?_
  rintro e w' ⟨rfl, q, rfl⟩
  have hh : (w.drewN q).heap[g]? = some (.cells cur 3 (0, 0)) := h3
  refine ⟨_, some g, rfl, ?_, grown_trans (grown_drewN w q _) (grown_setCells _ _ _ _), fun k hk => by cases hk; exact h2⟩
  rw [show l.length - (i + 1 - i) = l.length - 1 by omega]
  refine RowP.of_some h2 (heap_setCells_same _ _ _ _ hh) (by omega) (by unfold maxLen; omega) (by rw [putMany_size]; exact h6) (by simp [List.length_eraseIdx, hi]) fun j hj => ?_
  rw [putMany_get _ _ _ _ (by omega), if_pos ⟨Nat.zero_le _, by simp; omega⟩, Nat.sub_zero, List.getElem?_map, List.getElem?_map, List.take_of_length_le (Nat.le_refl _), List.eraseIdx_eq_take_drop_succ, List.getElem?_append_left (by simp; omega)]

/-- what becomes of the cells when one is put in between -/
theorem put_two (l : List Int) (cur : Array Value) (i : Nat) (x : Int) (hi : i < l.length) (hs : l.length + 1 ≤ cur.size) (h8 : ∀ j, j < i → cur[j]? = (l.map (Value.int .i64))[j]?) :
    ∀ j, j < l.length + 1 → (putMany (putMany cur (i + 1) ((l.map (Value.int .i64)).drop i)) i [.int .i64 x])[j]? = ((l.take i ++ [x] ++ l.drop i).map (Value.int .i64))[j]? := by
  intro j hj
  rw [putMany_get _ _ _ _ (by rw [putMany_size]; omega)]
  have e : (l.take i ++ [x] ++ l.drop i).map (Value.int .i64) = (l.map (Value.int .i64)).take i ++ (.int .i64 x :: (l.map (Value.int .i64)).drop i) := by simp
  rw [e]
  rcases Nat.lt_trichotomy j i with h | h | h
  · rw [if_neg (by simp; omega), putMany_get _ _ _ _ (by omega), if_neg (by omega), List.getElem?_append_left (by simp; omega), List.getElem?_take, if_pos h, h8 j h]
  · subst h
    rw [if_pos ⟨Nat.le_refl _, by simp⟩, Nat.sub_self, List.getElem?_append_right (by simp; omega)]
    have : j - ((l.map (Value.int .i64)).take j).length = 0 := by simp; omega
    rw [this]; rfl
  · rw [if_neg (by simp; omega), putMany_get _ _ _ _ (by omega), if_pos ⟨by omega, by simp; omega⟩, List.getElem?_append_right (by simp; omega)]
    have : j - ((l.map (Value.int .i64)).take i).length = j - (i + 1) + 1 := by simp; omega
    rw [this, List.getElem?_cons_succ]
theorem put_three (l : List Int) (i : Nat) (x : Int) (Z : Array Value) (hi : i < l.length) (hz : ((l.map (Value.int .i64)).take i).length + (l.length + 1 - i) ≤ (((l.map (Value.int .i64)).take i).toArray ++ Z).size) :
    ∀ j, j < l.length + 1 → (putMany (putMany (((l.map (Value.int .i64)).take i).toArray ++ Z) i [.int .i64 x]) (i + 1) ((l.map (Value.int .i64)).drop i))[j]? = ((l.take i ++ [x] ++ l.drop i).map (Value.int .i64))[j]? := by
  intro j hj
  have hz' : l.length + 1 ≤ (((l.map (Value.int .i64)).take i).toArray ++ Z).size := by
    have : ((l.map (Value.int .i64)).take i).length = i := by simp; omega
    omega
  rw [putMany_get _ _ _ _ (by rw [putMany_size]; omega)]
  have e : (l.take i ++ [x] ++ l.drop i).map (Value.int .i64) = (l.map (Value.int .i64)).take i ++ (.int .i64 x :: (l.map (Value.int .i64)).drop i) := by simp
  rw [e]
  rcases Nat.lt_trichotomy j i with h | h | h
  · rw [if_neg (by omega), putMany_get _ _ _ _ (by omega), if_neg (by simp; omega), List.getElem?_append_left (by simp; omega), Array.getElem?_append_left (by simp; omega)]
    simp
  · subst h
    rw [if_neg (by omega), putMany_get _ _ _ _ (by omega), if_pos ⟨Nat.le_refl _, by simp⟩, Nat.sub_self, List.getElem?_append_right (by simp; omega)]
    have : j - ((l.map (Value.int .i64)).take j).length = 0 := by simp; omega
    rw [this]; rfl
  · rw [if_pos ⟨by omega, by simp; omega⟩, List.getElem?_append_right (by simp; omega)]
    have : j - ((l.map (Value.int .i64)).take i).length = j - (i + 1) + 1 := by simp; omega
    rw [this, List.getElem?_cons_succ]
theorem insertsAt_mid (l : List Int) (i : Nat) (hi : i < l.length) : InsertsAt i l := by
  intro W p v b x hr hl _ hx hpb
  obtain ⟨g, cap, cur, rfl, h2, h3, h4, h5, h6, h7, h8⟩ := hr.some_ (by omega)
  unfold maxLen at h5
  have hbg : b ≠ g := fun e => hpb (e ▸ h2)
  have hgl := (Array.getElem?_eq_some_iff.1 h3).1
  have hcell : ∀ (j : Nat) (v : Value), (l.map (Value.int .i64))[j]? = some v → W.cell? ⟨g, 0 + j, none⟩ = some v := fun j v hv => by
    rw [Nat.zero_add]
    refine cellOf h3 ?_
    have hjl := (List.getElem?_eq_some_iff.1 hv).1
    rw [h8 j (by simpa using hjl)]; exact hv
  have hvx : ∀ (j : Nat) (v : Value), [Value.int .i64 x][j]? = some v → W.cell? ⟨b, 0 + j, none⟩ = some v := fun j v hv => by
    match j, hv with
    | 0, hv => cases hv; exact cellOf hx rfl
  by_cases hroom : l.length + 1 ≤ cap
  · have hc := Any2.slices_Insert_int_shift laysIns g 0 l.length cap i b 0 1 1 (l.map (Value.int .i64)) [.int .i64 x] W hi (by omega) hroom (by omega) hbg (by simp) rfl hcell
      (fun j hj => by rw [Nat.zero_add, cellOf h3 (Array.getElem?_eq_getElem (by omega))]; rfl) (fun j _ => freeOf h3 _) hvx (ints_one l) (by simp [Value.oneCell'])
      3 3 1 cur.size (by simp [World.shape?, hx]) (by simp [World.shape?, h3]) (by omega) (freeOf hx _) (freeOf hx _)
    refine Calls.mono (P := Try.prog) (f := 84) hc ?_
    rintro e w' ⟨rfl, rfl⟩
    have hh : W.drew.heap[g]? = some (.cells cur 3 (0, 0)) := h3
    refine ⟨_, some g, rfl, ?_, grown_trans (grown_drewN W 1 _) (grown_trans (grown_setCells _ _ _ _) (grown_setCells _ _ _ _)), fun k hk => by cases hk; exact h2⟩
    rw [Nat.zero_add, Nat.zero_add]
    exact RowP.of_some (.inl h2) (heap_setCells_same _ _ _ _ (heap_setCells_same _ _ _ _ hh)) hroom (by unfold maxLen; omega) (by rw [putMany_size, putMany_size]; exact h6) (by simp; omega)
      (put_two l cur i x hi (by omega) fun j hj => h8 j (by omega))
  · have hc := Any2.slices_Insert_int_grow laysIns g 0 l.length cap i b 0 1 1 (l.map (Value.int .i64)) [.int .i64 x] W hi (by omega) h4 (by omega) (by omega) (by simp) rfl hcell hvx (ints_one l) (by simp [Value.oneCell'])
    refine Calls.mono (P := Try.prog) (f := 84) hc ?_
    rintro e w' ⟨rfl, rfl⟩
    have hG := grownCap_ge W (l.length + 1) cap (laysIns_ren.t 3)
    have hGm := grownCap_le_maxLen W (l.length + 1) cap (laysIns_ren.t 3) (by unfold maxLen; omega)
    generalize grownCap W (l.length + 1) cap (laysIns_ren.t 3) = G at hG hGm ⊢
    refine ⟨_, none, rfl, ?_, ?_, fun k hk => by cases hk⟩
    · have hsz : ∀ k, (Builtin.zeroCells (Value.int .i64 0).cells k).size = k := fun k => by simp [Builtin.zeroCells, Value.cells]
      have e : ((l.map (Value.int .i64)).take i).toArray ++ Builtin.zeroCells (Value.int .i64 0).cells (l.length + 1 - i) ++ Builtin.zeroCells (Value.int .i64 0).cells (G - (l.length + 1)) = ((l.map (Value.int .i64)).take i).toArray ++ (Builtin.zeroCells (Value.int .i64 0).cells (l.length + 1 - i) ++ Builtin.zeroCells (Value.int .i64 0).cells (G - (l.length + 1))) := by simp
      rw [e]
      have hh := heap_alloc_new W (.cells (((l.map (Value.int .i64)).take i).toArray ++ (Builtin.zeroCells (Value.int .i64 0).cells (l.length + 1 - i) ++ Builtin.zeroCells (Value.int .i64 0).cells (G - (l.length + 1)))) 3)
      have hs : (((l.map (Value.int .i64)).take i).toArray ++ (Builtin.zeroCells (Value.int .i64 0).cells (l.length + 1 - i) ++ Builtin.zeroCells (Value.int .i64 0).cells (G - (l.length + 1)))).size = G := by
        simp only [Array.size_append, hsz, List.size_toArray, List.length_take, List.length_map]; omega
      refine RowP.of_some (.inr (Nat.le_refl _)) (heap_setCells_same _ _ _ _ (show _ = _ from heap_setCells_same _ _ _ _ (show _ = _ from hh))) hG hGm (by rw [putMany_size, putMany_size]; exact hs) (by simp; omega) ?_
      exact put_three l i x _ hi (by rw [hs]; simp; omega)
    · have hA := fun (k : Nat) (hk : k < W.heap.size) => Below.heap_alloc W (.cells (((l.map (Value.int .i64)).take i).toArray ++ Builtin.zeroCells (Value.int .i64 0).cells (l.length + 1 - i) ++ Builtin.zeroCells (Value.int .i64 0).cells (G - (l.length + 1))) (laysIns_ren.t 3)) k hk
      have hne : ∀ k, k < W.heap.size → k ≠ W.heap.size := fun k hk => by omega
      refine ⟨?_, ?_, ?_, ?_, fun k hk _ => ?_⟩
      · exact (setCells_parts _ _ _ _).1.trans (show _ = _ from (setCells_parts _ _ _ _).1)
      · exact (setCells_parts _ _ _ _).2.1.trans (show _ = _ from (setCells_parts _ _ _ _).2.1)
      · exact (setCells_parts _ _ _ _).2.2.1.trans (show _ = _ from (setCells_parts _ _ _ _).2.2.1)
      · rw [(setCells_parts _ _ _ _).2.2.2]
        show _ ≤ ((World.setCells _ _ _ _)).heap.size
        rw [(setCells_parts _ _ _ _).2.2.2]
        show _ ≤ (World.alloc _ _).heap.size
        simp
      · exact (heap_setCells_far (hne k hk) _ _ _).trans (show _ = _ from (heap_setCells_far (hne k hk) _ _ _).trans (hA k hk))
theorem insertsAt_any (l : List Int) (i : Nat) : InsertsAt i l := by
  intro W p v b x hr hl hi hx hpb
  rcases Nat.lt_or_ge i l.length with h | h
  · exact insertsAt_mid l i h W p v b x hr hl hi hx hpb
  · obtain rfl : i = l.length := by omega
    exact insertsAt_end l W p v b x hr hl hi hx hpb
end Go.Proofs.Ytiglflmjidikpaa

namespace Go.Proofs.Ytiglflmjidikpaa
open Go Go.RowKit Go.BigFrame
set_option linter.unusedVariables false
set_option linter.unusedSimpArgs false

set_option maxRecDepth 100000 in
set_option maxHeartbeats 1000000 in
theorem Remove_none {w : World} {own : Ow} {ptr : Nat → Nat} {tb : Nat} {T : Tr} (hT : TreeAt w own ptr tb T) {id : Int} (h : T.get? id = none) :
    Calls Try.prog 22 #[.pointer (some ⟨tb, 0, none⟩), .int .i64 id] w (RVal (.int .i64 2) w) := by
  have H := Lib.hid h
  clear h
  go_enter Try.func22, Try.ntmps22
  go_wp2_with (go_at_call 80; refine (get_none hT H.out).mono ?_; rintro e w' ⟨rfl, rfl⟩)
  go_ret
  exact ⟨rfl, Ext.refl _⟩
set_option maxRecDepth 100000 in
set_option maxHeartbeats 1000000 in
theorem Remove_root {w : World} {own : Ow} {ptr : Nat → Nat} {tb : Nat} {T : Tr} (hT : TreeAt w own ptr tb T) {id : Int} {nd : Nd} (h : T.get? id = some nd) (hp : nd.parent < 0) :
    Calls Try.prog 22 #[.pointer (some ⟨tb, 0, none⟩), .int .i64 id] w (RVal (.int .i64 1) w) := by
  have H := Lib.hid h
  have hn := (Tr.get_lt h).2.2
  obtain ⟨av, kv, hb, _⟩ := hT.node _ _ hn
  have c := cellOf hb (i := 4) (v := .int .i64 nd.parent) rfl
  clear h hb hn
  go_enter Try.func22, Try.ntmps22
  go_wp2_with (go_at_call 80; refine (get_some hT H.out).mono ?_; rintro e w' ⟨rfl, rfl⟩)
  go_ret
  exact ⟨rfl, Ext.refl _⟩
theorem posOf_mem {l : List Int} {x : Int} (h : x ∈ l) : posOf l x = ((l.idxOf x : Nat) : Int) ∧ l.idxOf x < l.length ∧ l.eraseIdx (l.idxOf x) = l.erase x := by
  refine ⟨if_pos h, List.idxOf_lt_length_iff.2 h, ?_⟩
  induction l with
  | nil => cases h
  | cons y r ih =>
    by_cases e : y = x
    · subst e; simp
    · have hr : x ∈ r := by rcases List.mem_cons.1 h with h | h; exact absurd h.symm e; exact h
      have h2 : (y :: r).idxOf x = r.idxOf x + 1 := by
        rw [List.idxOf_cons]
        have : (y == x) = false := by simpa using e
        rw [this]; rfl
      rw [h2, List.eraseIdx_cons_succ, ih hr, List.erase_cons_tail (by simpa using e)]

set_option maxRecDepth 100000 in
set_option maxHeartbeats 4000000 in
theorem Remove_ok {w : World} {own : Ow} {ptr : Nat → Nat} {tb : Nat} {T : Tr} (hT : TreeAt w own ptr tb T) (hO : Owned own w) {p k : Nat} {pd kd : Nd} (hp : T.nodes[p]? = some (some pd)) (hk : T.nodes[k]? = some (some kd))
    (hpar : kd.parent = (p : Int)) (hpk : p ≠ k) (hkl : pd.kids.length ≤ 60000) (hin : (k : Int) ∈ pd.kids) :
    Calls Try.prog 22 #[.pointer (some ⟨tb, 0, none⟩), .int .i64 k] w (ErrAfter own w tb 0 (T.unlink p k pd kd)) := by
  obtain ⟨hps, hil, her⟩ := posOf_mem hin
  obtain ⟨avp, kvp, bp, op, _, hkp⟩ := hT.node p pd hp
  obtain ⟨avk, kvk, bk, ok, _, _⟩ := hT.node k kd hk
  obtain ⟨g, gcap, _, _, c3, cg, _⟩ := hT.at hp
  obtain ⟨ka, kcap, rfl, kc1, kc2⟩ := hkp.len
  have cp3 := cellOf bp (i := 3) (v := .slice ka pd.kids.length kcap) rfl
  have ck4 := cellOf bk (i := 4) (v := .int .i64 (p : Int)) (by rw [← hpar]; rfl)
  have hpb : (p : Int) < T.nodes.length := by have := (List.getElem?_eq_some_iff.1 hp).1; omega
  have hpkb : ptr p ≠ ptr k := fun e => by rw [e, ok] at op; simp at op; omega
  have HK := Lib.hid (Tr.get_of hk)
  have HNP := Lib.hid hp
  have HNK := Lib.hid hk
  have HT := Lib.hid hT
  have HO := Lib.hid hO
  have HBP := Lib.hid bp
  have HBK := Lib.hid bk
  have HOP := Lib.hid op
  have HOK := Lib.hid ok
  have HKP := Lib.hid hkp
  have HPK := Lib.hid hpk
  have HPKB := Lib.hid hpkb
  have HPS := Lib.hid hps
  have HER := Lib.hid her
  have HPAR := Lib.hid hpar
  have c3' := fun u : ExtOf w => u.ext.cell c3
  have cg' := fun u : ExtOf w => u.ext.cell cg
  have ck' := fun u : ExtOf w => u.ext.cell ck4
  have hil' : ((pd.kids.idxOf (k : Int) : Nat) : Int) ≤ 60000 := by omega
  clear hp hk hT hO bp bk hkp hpar kc2 op ok hpk hpkb hps her hin
  go_enter Try.func22, Try.ntmps22
  go_wp2_with fail
  refine (get_some HT.out HK.out).mono ?_
  rintro e w' ⟨rfl, rfl⟩
  go_wp2_with fail
  refine wp_region_ext (by kernel_rfl) (by kernel_rfl) ?_
  repeat (go_big_quiet_step (fail))
  refine wpQuiet_nil ?_
  rintro _ ⟨u, rfl⟩
  obtain ⟨wu, xu⟩ := u
  show Exit.then _ _ Exit.normal _ wu
  clear c3' cg' ck'
  replace cp3 := xu.cell cp3
  have XU := Lib.hid xu
  clear xu c3 cg ck4
  go_wp2_with fail
  have hOu : Owned own wu := fun b hb => Nat.lt_of_lt_of_le (HO.out b hb) XU.out.size
  have hTu := HT.out.keep (XU.out.keep HO.out)
  have hrow : RowP wu (fun g => own g = some (4, p)) 3 1 (.slice ka pd.kids.length kcap) pd.kids.length (pd.kids.map (Value.int .i64)) :=
    RowP.move HKP.out fun g hg => ⟨XU.out.keep HO.out g (by simp [hg]), hg⟩
  have HROW := Lib.hid hrow
  clear hrow
  refine (index_any HROW.out.rd hkl _).mono ?_
  rintro e w' ⟨rfl, rfl⟩
  rw [HPS.out]
  go_wp2_with fail
  have hdel := delete_any HROW.out hkl hil (((pd.kids.idxOf (k : Int) : Nat) : Int) + 1) rfl
  refine hdel.mono ?_
  clear hdel
  rintro e w3 ⟨v', row, rfl, hr, hg, hrow⟩
  replace hrow : ∀ b, row = some b → own b = some (4, p) := hrow
  rw [HER.out] at hr
  have hlen : (pd.kids.erase (k : Int)).length = pd.kids.length - 1 := by rw [← HER.out, List.length_eraseIdx, if_pos hil]
  rw [← hlen] at hr
  obtain ⟨own1, hs1, hT1, hsame⟩ := kids_plain (XU.out.step HO.out) hTu HNP.out (pd.kids.erase (k : Int)) (fun _ => by rw [HOP.out]; simp) (fun b _ hb => by rw [hb]; simp) (hr.imp fun _ _ h => .inl h) hg hrow
  have hkd : (T.nodes.set p (some { pd with kids := pd.kids.erase (k : Int) }))[k]? = some (some kd) := by
    rw [List.getElem?_set, if_neg HPK.out]; exact HNK.out
  have hT2 := hT1.setParent hkd (-1)
  have hs2 := hs1.setCell (p := ⟨ptr k, 4, none⟩) (fun _ => by show own (ptr k) ≠ none; rw [HOK.out]; simp) (.int .i64 (-1))
  have hsame3 : ∀ b x, own b = some x → x ≠ (4, p) → w3.heap[b]? = w.heap[b]? := fun b x hb hx => by
    have hbl := HO.out b (by simp [hb])
    have hsz := XU.out.size
    rw [hg.block b (by omega) (fun h => by have := hrow b h.symm; rw [hb] at this; exact hx (Option.some.inj this))]
    exact Below.block XU.out b hbl
  have bp3 := (hsame3 _ _ HOP.out (by simp)).trans HBP.out
  have bk3 := (hsame3 _ _ HOK.out (by simp)).trans HBK.out
  have cp3' := cellOf bp3 (i := 3) (v := .slice ka pd.kids.length kcap) rfl
  have fp3 := freeOf bp3 3
  have ck4' := cellOf bk3 (i := 4) (v := .int .i64 kd.parent) rfl
  have fk4 := freeOf bk3 4
  have n1 := HPKB.out
  have n2 := Ne.symm HPKB.out
  obtain ⟨va, vcap, hv, _⟩ := hr.rd.len_of
  have HS2 := Lib.hid hs2
  have HT2 := Lib.hid hT2
  clear hs1 hT1 hsame hkd hT2 hs2 hsame3 bp3 bk3 hr hg hrow hTu hOu cp3 hlen
  rw [hv] at HS2 HT2 ⊢
  clear hv
  go_wp2
  go_ret
  exact ⟨rfl, own1, ptr, HT2.out, HS2.out⟩
end Go.Proofs.Ytiglflmjidikpaa

namespace Go.Proofs.Ytiglflmjidikpaa
open Go Go.RowKit Go.BigFrame
set_option linter.unusedVariables false
set_option linter.unusedSimpArgs false

/-- nothing but the tree's head and its row of nodes has turned -/
structure Top (own : Ow) (w w' : World) : Prop where
  os : w'.os = w.os
  tape : w'.tape = w.tape
  output : w'.output = w.output
  size : w'.heap.size = w.heap.size
  rest : ∀ b, own b ≠ some (0, 0) → own b ≠ some (1, 0) → w'.heap[b]? = w.heap[b]?
theorem Top.refl (own : Ow) (w : World) : Top own w w := ⟨rfl, rfl, rfl, rfl, fun _ _ _ => rfl⟩
theorem Top.trans {own : Ow} {a b c : World} (h : Top own a b) (k : Top own b c) : Top own a c :=
  ⟨k.os.trans h.os, k.tape.trans h.tape, k.output.trans h.output, k.size.trans h.size, fun x h0 h1 => (k.rest x h0 h1).trans (h.rest x h0 h1)⟩
theorem Top.setCell {own : Ow} {a b : World} (h : Top own a b) {p : Addr} (hp : own p.block = some (0, 0) ∨ own p.block = some (1, 0)) (u : Value) : Top own a (b.setCell p u) :=
  ⟨h.os, h.tape, h.output, by have := h.size; simpa [World.setCell] using this, fun x h0 h1 => (heap_setCell_other _ (fun e => by subst e; rcases hp with hp | hp; exact h0 hp; exact h1 hp)).trans (h.rest x h0 h1)⟩
theorem Top.cell {own : Ow} {w w' : World} (h : Top own w w') {b o : Nat} {v : Value} (hb : own b = none) (hc : w.cell? ⟨b, o, none⟩ = some v) : w'.cell? ⟨b, o, none⟩ = some v :=
  (World.cell?_of_block (a := ⟨b, o, none⟩) (h.rest b (by rw [hb]; simp) (by rw [hb]; simp))).trans hc
theorem Top.step {own : Ow} {w w' : World} (h : Top own w w') (hO : Owned own w) : Step own w own w' :=
  ⟨h.os, h.tape, h.output, Nat.le_of_eq h.size.symm, fun b _ hn => h.rest b (by rw [hn]; simp) (by rw [hn]; simp), fun _ _ => rfl, fun b hb => by rw [h.size]; exact hO b hb⟩
/-- a place of the row of nodes is made empty -/
theorem TreeAt.setNone {w : World} {own : Ow} {ptr : Nat → Nat} {tb : Nat} {T : Tr} (h : TreeAt w own ptr tb T) {i g cap : Nat} (hi : i < T.nodes.length)
    (hg : w.heap[tb]? = some (.cells #[.int .i64 T.cap, .int .i64 T.deep, .int .i64 T.count, .slice (some ⟨g, 0, none⟩) T.nodes.length cap] 119 (0, 0))) :
    TreeAt (w.setCell ⟨g, i, none⟩ (.pointer none)) own ptr tb { T with nodes := T.nodes.set i none } := by
  obtain ⟨nv, h1, h2, h3⟩ := h.head
  rw [hg] at h1
  obtain rfl : nv = .slice (some ⟨g, 0, none⟩) T.nodes.length cap := by simp at h1; exact h1.symm
  rcases h3.2 with ⟨h0, _⟩ | ⟨g', cap', cur, q1, q2, q3, q4, q5, q6, q7⟩
  · omega
  obtain ⟨rfl, rfl⟩ : g = g' ∧ cap = cap' := by simp at q1; exact q1
  have k' : ∀ b, own b ≠ own g → (w.setCell ⟨g, i, none⟩ (.pointer none)).heap[b]? = w.heap[b]? := fun b hb => heap_setCell_other _ (fun (e : b = g) => hb (by rw [e]))
  constructor
  · refine ⟨_, (k' tb (by rw [q2, h2]; simp)).trans hg, h2, ?_⟩
    refine ⟨by simp [nodeVals], .inr ⟨g, cap, cur.setIfInBounds i (.pointer none), by simp, q2, by rw [heap_setCell_same q3], by simpa using q4, q5, by simpa using q6, ?_⟩⟩
    apply List.ext_getElem?
    intro j
    have hq : (cur.toList.take (T.nodes.length * 1))[j]? = (nodeVals ptr T.nodes)[j]? := by rw [q7]
    simp only [nodeVals, List.getElem?_mapIdx, List.getElem?_take, List.length_set, Array.toList_setIfInBounds, List.getElem?_set, Nat.mul_one] at hq ⊢
    by_cases hj : i = j
    · subst hj
      rw [if_pos hi, if_pos rfl, if_pos rfl, if_pos (by simp; omega), if_pos hi]
      simp [nodeVal]
    · rw [if_neg hj, if_neg hj, hq]
  · intro j md hj
    rw [List.getElem?_set] at hj
    split at hj
    · try split at hj
      all_goals simp at hj
    · refine (h.nodeAt hj).move fun b x hb hx => ?_
      exact ⟨k' b (by rw [hb, q2]; simp; omega), rfl⟩
/-- the kids' row of a node, whatever top has turned -/
theorem TreeAt.kidCell {w : World} {own : Ow} {i : Nat} {kv : Value} {l : List Int} (hr : RowAt w own 3 1 (4, i) kv l.length (l.map (Value.int .i64))) {wr : World} (ht : Top own w wr) {j : Nat} {x : Int} (hx : l[j]? = some x) :
    ∃ g cap, kv = .slice (some ⟨g, 0, none⟩) l.length cap ∧ wr.cell? ⟨g, j, none⟩ = some (.int .i64 x) :=
  RowAt.cell (RowP.move hr fun g hg => ⟨ht.rest g (by rw [hg]; simp) (by rw [hg]; simp), hg⟩) (i := j) (x := .int .i64 x) (by rw [List.getElem?_map, hx]; rfl)

/-- what a drop of a node's tree leaves -/
def DropIs (own : Ow) (w : World) (ptr : Nat → Nat) (tb : Nat) (T' : Tr) (e : Ending) (w' : World) : Prop := e = .returned (.tuple #[]) ∧ TreeAt w' own ptr tb T' ∧ Top own w w'
abbrev dropF (tc dc : Nat) : Value := .func (.func 88) #[] #[.pointer (some ⟨tc, 0, none⟩), .pointer (some ⟨dc, 0, none⟩)]
theorem inAny_take (T : Tr) (ks : List Int) (k : Nat) (x : Int) (h : ks[k]? = some x) (j : Nat) : T.inAny (ks.take (k + 1)) j = (T.within j x || T.inAny (ks.take k) j) := by
  obtain ⟨hlt, rfl⟩ := List.getElem?_eq_some_iff.1 h
  unfold Tr.inAny
  rw [List.take_succ_eq_append_getElem hlt, List.any_append, Bool.or_comm]
  simp
set_option maxRecDepth 100000 in
set_option maxHeartbeats 4000000 in
theorem drop_fuel {T : Tr} {d : Nat → Nat} (hw : WF T d) {own : Ow} {ptr : Nat → Nat} {tb tc dc : Nat} (htc : own tc = none) (hdc : own dc = none) :
    ∀ (f i : Nat) (nd : Nd) (q : Nat → Bool) (w : World), T.nodes[i]? = some (some nd) → 41 ≤ d i + f → (∀ (j : Nat) (jd : Nd), T.nodes[j]? = some (some jd) → T.within j i = true → q j = false) →
      TreeAt w own ptr tb (T.rid q) → Owned own w → w.cell? ⟨tc, 0, none⟩ = some (.pointer (some ⟨tb, 0, none⟩)) → w.cell? ⟨dc, 0, none⟩ = some (dropF tc dc) →
      Calls Try.prog 88 #[.int .i64 i, .pointer (some ⟨tc, 0, none⟩), .pointer (some ⟨dc, 0, none⟩)] w (DropIs own w ptr tb (T.rid fun j => T.within j i || q j)) := by
  intro f
  induction f with
  | zero => intro i nd q w h h1; have := hw.deep i nd h; have := hw.small.deep1; omega
  | succ f ih =>
    intro i nd q w h h1 hq hT hO ctc cdc
    have hqi := hq i nd h (hw.within_self h)
    have hi' : (T.rid q).nodes[i]? = some (some nd) := Tr.rid_some.2 ⟨hqi, h⟩
    obtain ⟨av, kv, bi, oi, _, hkr⟩ := hT.node i nd hi'
    obtain ⟨ka, kcap, rfl, kc1, kc2⟩ := hkr.len
    obtain ⟨g, gcap, _, _, c3, cg, _⟩ := hT.at hi'
    have ck3 := cellOf bi (i := 3) (v := .slice ka nd.kids.length kcap) rfl
    have hlen := hw.small.len
    have hil := (List.getElem?_eq_some_iff.1 h).1
    rw [Tr.rid_len] at c3
    have HW := Lib.hid hw
    have HT := Lib.hid hT
    have HO := Lib.hid hO
    have HH := Lib.hid h
    have HQ := Lib.hid hq
    have HQI := Lib.hid hqi
    have IH := Lib.hid ih
    have HKR := Lib.hid hkr
    have HTC := Lib.hid htc
    have HDC := Lib.hid hdc
    have HTCC := Lib.hid ctc
    have HDCC := Lib.hid cdc
    have HII := Lib.hid hi'
    unfold maxLen at kc2
    have hw0 : Top own w w := Top.refl own w
    clear hw hT hO h hq hqi ih hkr htc hdc bi hi' oi cdc
    go_enter Try.func88, Try.ntmps88
    go_wp2_with fail
    have hstart : TreeAt w own ptr tb (T.rid fun j => T.inAny (nd.kids.take 0) j || q j) := by
      have e : (fun j => T.inAny (nd.kids.take 0) j || q j) = q := by funext j; simp [Tr.inAny]
      rw [e]; exact HT.out
    have HS := Lib.hid hstart
    clear hstart ctc c3 cg ck3
    go_loopw [5, 17] (fun _ n wr => ∃ k : Nat, k ≤ nd.kids.length ∧ n = .int .i64 k ∧ Top own w wr ∧ TreeAt wr own ptr tb (T.rid fun j => T.inAny (nd.kids.take k) j || q j)) (fun _ n _ => nd.kids.length - (intOf n).toNat)
    case atStart => exact ⟨0, Nat.zero_le _, rfl, hw0, HS.out⟩
    case round =>
      obtain ⟨k, hk, rfl, htop, htr⟩ := hrel
      have HTR := Lib.hid htr
      have HTOP := Lib.hid htop
      clear htr htop
      by_cases hlt : k < nd.kids.length
      · obtain ⟨x, hx⟩ : ∃ x, nd.kids[k]? = some x := ⟨nd.kids[k], by simp [hlt]⟩
        obtain ⟨gk, gkc, e, hc⟩ := TreeAt.kidCell HKR.out HTOP.out hx
        cases e
        obtain ⟨j, kd, h3, h4, h5, h6⟩ := HW.out.kid HH.out hx
        subst h3
        have hd := HTOP.out.cell HDC.out HDCC.out
        have ht := HTOP.out.cell HTC.out HTCC.out
        have HX := Lib.hid hx
        have H4 := Lib.hid h4
        have hmem : (j : Int) ∈ nd.kids := List.mem_of_getElem? hx
        have hqj : ∀ (m : Nat) (md : Nd), T.nodes[m]? = some (some md) → T.within m j = true → (T.inAny (nd.kids.take k) m || q m) = false := fun m md hm hin => by
          rw [HQ.out m md hm (HW.out.kid_within HH.out hmem m md hm hin), Bool.or_false]
          unfold Tr.inAny
          rw [Bool.eq_false_iff]
          intro hany
          obtain ⟨y, hy, hyin⟩ := List.any_eq_true.1 hany
          obtain ⟨jy, yd, rfl, hyn, _⟩ := (HW.out.kids i nd HH.out).2 y (List.mem_of_mem_take hy)
          refine HW.out.kids_apart HH.out (List.mem_of_mem_take hy) hmem (fun e => ?_) m md hm hyin hin
          subst e
          have hnd := (HW.out.kids i nd HH.out).1
          obtain ⟨hlt', he⟩ := List.getElem?_eq_some_iff.1 hx
          rw [← List.take_append_drop k nd.kids, List.nodup_append] at hnd
          refine hnd.2.2 _ hy _ ?_ rfl
          rw [List.drop_eq_getElem_cons hlt', he]
          exact List.mem_cons_self
        have HQJ := Lib.hid hqj
        have hOr : Owned own wr := fun b hb => by rw [HTOP.out.size]; exact HO.out b hb
        have HOR := Lib.hid hOr
        have h41 : 41 ≤ d j + f := by omega
        have hrec := IH.out j kd _ wr H4.out h41 HQJ.out HTR.out HOR.out ht hd
        have HREC := Lib.hid hrec
        clear hx h4 h5 h6 hqj hOr hrec hmem
        go_wp2_with (go_at_call 88; refine HREC.out.mono ?_; rintro e w' ⟨rfl, hT', htop'⟩)
        go_roundw
        case rel =>
          refine ⟨k + 1, by omega, by go_num, HTOP.out.trans htop', ?_⟩
          have e : (fun m : Nat => T.inAny (nd.kids.take (k + 1)) m || q m) = fun m : Nat => T.within m j || (T.inAny (nd.kids.take k) m || q m) := by
            funext m; rw [inAny_take T nd.kids k j HX.out, Bool.or_assoc]
          rw [e]; exact hT'
        case measure => simp [intOf]; omega
      · have hkl : k = nd.kids.length := by omega
        have ht := HTOP.out.cell HTC.out HTCC.out
        have htr := HTR.out
        rw [hkl, List.take_length] at htr
        have hany : T.inAny nd.kids i = false := by
          unfold Tr.inAny
          rw [Bool.eq_false_iff]
          intro hany
          obtain ⟨y, hy, hyin⟩ := List.any_eq_true.1 hany
          obtain ⟨n, hn⟩ := List.getElem?_of_mem hy
          obtain ⟨jy, yd, rfl, hyn, _, hyd⟩ := HW.out.kid HH.out hn
          have := (HW.out.within_depth i nd HH.out hyin).1
          omega
        have hi2 : (T.rid fun j => T.inAny nd.kids j || q j).nodes[i]? = some (some nd) := Tr.rid_some.2 ⟨by rw [hany, HQI.out]; rfl, HH.out⟩
        obtain ⟨nv, hbt, hot, hrow⟩ := htr.head
        obtain ⟨g', gcap', hnv, hcell⟩ := hrow.cell (i := i) (x := .pointer (some ⟨ptr i, 0, none⟩)) (by simp [nodeVals, List.getElem?_mapIdx, hi2, nodeVal])
        subst hnv
        obtain ⟨hog, hfg⟩ : own g' = some (1, 0) ∧ wr.frozen? ⟨g', i, none⟩ = false := by
          rcases hrow.2 with ⟨h0, _⟩ | ⟨g2, cap2, cur, q1, q2, q3, _⟩
          · rw [Tr.rid_len] at h0; omega
          · cases q1; exact ⟨q2, freeOf q3 i⟩
        obtain ⟨_, _, e0, hc1, hc2⟩ := hrow.len
        cases e0
        have hs1 := htr.setNone (i := i) (by rw [Tr.rid_len]; exact hil) hbt
        have hs2 := hs1.setCount ((T.rid fun j => T.inAny nd.kids j || q j).count - 1)
        have hs3 : TreeAt ((wr.setCell ⟨g', i, none⟩ (.pointer none)).setCell ⟨tb, 2, none⟩ (.int .i64 ((T.rid fun j => T.inAny nd.kids j || q j).count - 1))) own ptr tb (T.rid fun j => T.within j i || q j) := by
          have e1 := Tr.rid_set (q := fun j => T.inAny nd.kids j || q j) HH.out (by rw [hany, HQI.out]; rfl)
          have e2 : (T.rid fun j => decide (j = i) || (T.inAny nd.kids j || q j)) = T.rid fun j => T.within j i || q j := Tr.rid_congr fun j jd hj => by
            rw [← Bool.or_assoc, HW.out.inAny_kids HH.out hj]
          rw [← e2, ← e1]
          exact hs2
        have hs4 : Top own w ((wr.setCell ⟨g', i, none⟩ (.pointer none)).setCell ⟨tb, 2, none⟩ (.int .i64 ((T.rid fun j => T.inAny nd.kids j || q j).count - 1))) := (HTOP.out.setCell (.inr hog) _).setCell (.inl hot) _
        have ngt : g' ≠ tb := fun e => by rw [e, hot] at hog; cases hog
        have ngt' := Ne.symm ngt
        have ct3 := cellOf hbt (i := 3) (v := .slice (some ⟨g', 0, none⟩) (T.rid fun j => T.inAny nd.kids j || q j).nodes.length gcap') rfl
        have ct2 := cellOf hbt (i := 2) (v := .int .i64 (T.rid fun j => T.inAny nd.kids j || q j).count) rfl
        have ft2 := freeOf hbt 2
        have hcnt : 0 ≤ (T.rid fun j => T.inAny nd.kids j || q j).count ∧ (T.rid fun j => T.inAny nd.kids j || q j).count ≤ 2000 := by
          have h1 : (T.rid fun j => T.inAny nd.kids j || q j).nodes.countP Option.isSome ≤ (T.rid fun j => T.inAny nd.kids j || q j).nodes.length := List.countP_le_length
          rw [Tr.rid_len] at h1
          show 0 ≤ (((T.rid fun j => T.inAny nd.kids j || q j).nodes.countP Option.isSome : Nat) : Int) ∧ (((T.rid fun j => T.inAny nd.kids j || q j).nodes.countP Option.isSome : Nat) : Int) ≤ 2000
          omega
        rw [Tr.rid_len] at ct3 hc1
        have HS3 := Lib.hid hs3
        have HS4 := Lib.hid hs4
        have ntc : tc ≠ g' := fun e => by have := HTC.out; rw [e, hog] at this; cases this
        have ntc' : tc ≠ tb := fun e => by have := HTC.out; rw [e, hot] at this; cases this
        generalize (T.rid fun j => T.inAny nd.kids j || q j).count = C at *
        obtain ⟨hcn0, hcn1⟩ := hcnt
        have ntc2 := Ne.symm ntc
        have ntc3 := Ne.symm ntc'
        clear hs1 hs2 hs3 hs4 htr hrow hbt hot hog hi2 hany hkl
        go_wp2
        go_end0
        exact ⟨rfl, HS3.out, HS4.out⟩
end Go.Proofs.Ytiglflmjidikpaa

namespace Go.Proofs.Ytiglflmjidikpaa
open Go Go.RowKit Go.BigFrame
set_option linter.unusedVariables false
set_option linter.unusedSimpArgs false

set_option maxRecDepth 100000 in
set_option maxHeartbeats 1000000 in
theorem Drop_none {w : World} {own : Ow} {ptr : Nat → Nat} {tb : Nat} {T : Tr} (hT : TreeAt w own ptr tb T) (hO : Owned own w) {id : Int} (h : T.get? id = none) :
    Calls Try.prog 25 #[.pointer (some ⟨tb, 0, none⟩), .int .i64 id] w (RVal (.int .i64 2) w) := by
  have H := Lib.hid h
  have HT := Lib.hid (hT.keep (((Ext.refl w).alloc (.cells #[.pointer (some ⟨tb, 0, none⟩)] 25)).keep hO))
  clear h hT
  go_enter Try.func25, Try.ntmps25
  go_wp2_with (go_at_call 80; refine (get_none HT.out H.out).mono ?_; rintro e w' ⟨rfl, rfl⟩)
  go_ret
  exact ⟨rfl, (Ext.refl _).alloc _⟩
set_option maxRecDepth 100000 in
set_option maxHeartbeats 1000000 in
theorem Drop_arg {w : World} {own : Ow} {ptr : Nat → Nat} {tb : Nat} {T : Tr} (hT : TreeAt w own ptr tb T) (hO : Owned own w) {id : Int} {nd : Nd} (h : T.get? id = some nd) (ha : id = 0 ∨ 0 ≤ nd.parent) :
    Calls Try.prog 25 #[.pointer (some ⟨tb, 0, none⟩), .int .i64 id] w (RVal (.int .i64 1) w) := by
  have x1 := (Ext.refl w).alloc (.cells #[.pointer (some ⟨tb, 0, none⟩)] 25)
  have H := Lib.hid h
  have hT1 := hT.keep (x1.keep hO)
  have hn := (Tr.get_lt h).2.2
  obtain ⟨av, kv, hb, _⟩ := hT1.node _ _ hn
  have c := cellOf hb (i := 4) (v := .int .i64 nd.parent) rfl
  have HT := Lib.hid hT1
  clear h hT hT1 hn hb
  by_cases h0 : id = 0
  · have b0 : (id == 0) = true := by simp [h0]
    clear ha h0
    go_enter Try.func25, Try.ntmps25
    go_wp2_with (go_at_call 80; refine (get_some HT.out H.out).mono ?_; rintro e w' ⟨rfl, rfl⟩)
    go_ret
    exact ⟨rfl, x1⟩
  · have b0 : (id == 0) = false := by simpa using h0
    have h1 : 0 ≤ nd.parent := by rcases ha with h | h; exact absurd h h0; exact h
    clear ha h0
    go_enter Try.func25, Try.ntmps25
    go_wp2_with (go_at_call 80; refine (get_some HT.out H.out).mono ?_; rintro e w' ⟨rfl, rfl⟩)
    go_ret
    exact ⟨rfl, x1⟩
set_option maxRecDepth 100000 in
set_option maxHeartbeats 2000000 in
theorem Drop_ok {w : World} {own : Ow} {ptr : Nat → Nat} {tb : Nat} {T : Tr} (hT : TreeAt w own ptr tb T) (hO : Owned own w) {d : Nat → Nat} (hw : WF T d) {i : Nat} {nd : Nd} (hi : T.nodes[i]? = some (some nd)) (h0 : i ≠ 0) (hp : nd.parent = -1) :
    Calls Try.prog 25 #[.pointer (some ⟨tb, 0, none⟩), .int .i64 i] w (ErrAfter own w tb 0 (T.rid fun j => T.within j i)) := by
  have x1 := (Ext.refl w).alloc (.cells #[.pointer (some ⟨tb, 0, none⟩)] 25)
  have x2 : Ext w ((w.alloc (.cells #[.pointer (some ⟨tb, 0, none⟩)] 25)).alloc (.cells #[dropF w.heap.size (w.heap.size + 1)] 126)) := x1.alloc _
  have hT1 := hT.keep (x1.keep hO)
  obtain ⟨av, kv, hb, _⟩ := hT1.node _ _ hi
  have c := cellOf hb (i := 4) (v := .int .i64 (-1)) (by rw [← hp]; rfl)
  have hT2 := hT.keep (x2.keep hO)
  rw [← Tr.rid_none hw.count] at hT2
  have hO2 : Owned own ((w.alloc (.cells #[.pointer (some ⟨tb, 0, none⟩)] 25)).alloc (.cells #[dropF w.heap.size (w.heap.size + 1)] 126)) := fun b hb => Nat.lt_of_lt_of_le (hO b hb) x2.size
  have htc : own w.heap.size = none := by
    cases ho : own w.heap.size with
    | none => rfl
    | some x => have := hO w.heap.size (by simp [ho]); omega
  have hdc : own (w.heap.size + 1) = none := by
    cases ho : own (w.heap.size + 1) with
    | none => rfl
    | some x => have := hO (w.heap.size + 1) (by simp [ho]); omega
  have hd := drop_fuel hw htc hdc 50 i nd (fun _ => false) _ hi (by omega) (fun _ _ _ _ => rfl) hT2 hO2 (by simp [go_sem]) (by simp [go_sem])
  have hib : ((i : Int) == 0) = false := by simp; omega
  have H := Lib.hid (Tr.get_of hi)
  have HT1 := Lib.hid hT1
  have HD := Lib.hid hd
  have HX := Lib.hid x2
  have HO := Lib.hid hO
  have e : (T.rid fun j => T.within j i || false) = T.rid fun j => T.within j i := by simp
  have HE := Lib.hid e
  clear hT hO hw hi h0 hp x1 x2 hT1 hb hT2 hO2 htc hdc hd e
  go_enter Try.func25, Try.ntmps25
  go_wp2_with (first
    | (go_at_call 80; refine (get_some HT1.out H.out).mono ?_; rintro e w' ⟨rfl, rfl⟩)
    | (go_at_call 88; refine HD.out.mono ?_; rintro e w' ⟨rfl, hT', htop⟩))
  go_ret
  rw [HE.out] at hT'
  have hs := HX.out.step HO.out
  exact ⟨rfl, own, ptr, hT', hs.trans (htop.step hs.owned)⟩
end Go.Proofs.Ytiglflmjidikpaa
