/- Package dom: Copy: what a node more makes of the copy that is being built. -/
import Derived.Test.YtiglflmjidikpaaDomZd
namespace Go.Proofs.Ytiglflmjidikpaa
open Go Go.RowKit Go.BigFrame
set_option linter.unusedVariables false
set_option linter.unusedSimpArgs false

/-- a node at block M with rows of its own behind it -/
def NodeNew (w : World) (M : Nat) (nd : Nd) : Prop :=
  ∃ va vk, w.heap[M]? = some (.cells #[.int .i64 nd.tag, va, .string nd.text, vk, .int .i64 nd.parent] 115 (0, 0)) ∧
    RowP w (fun g => M < g) 44 2 va nd.attrs.length (attrCells nd.attrs) ∧ RowP w (fun g => M < g) 3 1 vk nd.kids.length (nd.kids.map (Value.int .i64))
theorem NodeNew.ext {w w' : World} {M : Nat} {nd : Nd} (h : NodeNew w M nd) (k : Ext w w') : NodeNew w' M nd := by
  obtain ⟨va, vk, h1, h2, h3⟩ := h
  exact ⟨va, vk, k.block h1, h2.ext k, h3.ext k⟩
theorem NodeNew.of {w : World} {M : Nat} {nd : Nd} {x1 x3 va vk : Value} (h : w.heap[M]? = some (.cells #[.int .i64 nd.tag, x1, .string nd.text, x3, .int .i64 nd.parent] 115 (0, 0)))
    (ha : RowP w (fun g => M < g) 44 2 va nd.attrs.length (attrCells nd.attrs)) (hk : RowP w (fun g => M < g) 3 1 vk nd.kids.length (nd.kids.map (Value.int .i64))) :
    NodeNew ((w.setCell ⟨M, 1, none⟩ va).setCell ⟨M, 3, none⟩ vk) M nd ∧ NodeNew ((w.setCell ⟨M, 3, none⟩ vk).setCell ⟨M, 1, none⟩ va) M nd := by
  have far : ∀ g, M < g → g ≠ M := fun g h => by omega
  exact ⟨⟨va, vk, by rw [heap_setCell_same (heap_setCell_same h va) vk]; rfl, RowP.move ha fun g hg => ⟨(heap_setCell_other _ (far g hg)).trans (heap_setCell_other _ (far g hg)), hg⟩, RowP.move hk fun g hg => ⟨(heap_setCell_other _ (far g hg)).trans (heap_setCell_other _ (far g hg)), hg⟩⟩,
    ⟨va, vk, by rw [heap_setCell_same (heap_setCell_same h vk) va]; rfl, RowP.move ha fun g hg => ⟨(heap_setCell_other _ (far g hg)).trans (heap_setCell_other _ (far g hg)), hg⟩, RowP.move hk fun g hg => ⟨(heap_setCell_other _ (far g hg)).trans (heap_setCell_other _ (far g hg)), hg⟩⟩⟩
theorem RowP.blk {w : World} {p : Nat → Prop} {e : TypeId} {size : Nat} {v : Value} {n : Nat} {xs : List Value} (h : RowP w p e size v n xs) :
    ∃ rb : Option Nat, RowP w (fun g => rb = some g) e size v n xs ∧ ∀ k, rb = some k → p k ∧ ∃ cur, w.heap[k]? = some (.cells cur e (0, 0)) := by
  rcases h.2 with h0 | ⟨g, cap, cur, h1, h2, h3, h4⟩
  · exact ⟨none, ⟨h.1, .inl h0⟩, fun k hk => by cases hk⟩
  · exact ⟨some g, ⟨h.1, .inr ⟨g, cap, cur, h1, rfl, h3, h4⟩⟩, fun k hk => by cases hk; exact ⟨h2, cur, h3⟩⟩
/-- what is known of a copy under way -/
def CopyAt (w : World) (tb' : Nat) (T : Tr) (k : Nat) (wr : World) : Prop :=
  Ext w wr ∧ ∃ own ptr, TreeAt wr own ptr tb' { T with nodes := T.nodes.take k } ∧ Owned own wr ∧ ∀ b, own b ≠ none → w.heap.size ≤ b
def newVal (M : Nat) : Option Nd → Value
  | some _ => .pointer (some ⟨M, 0, none⟩)
  | none => .pointer none
/-- one node more, or none -/
theorem copy_step {w wr W wA : World} {tb' : Nat} {T : Tr} {k : Nat} (hx : Ext w wr) {own : Ow} {ptr : Nat → Nat} (hT : TreeAt wr own ptr tb' { T with nodes := T.nodes.take k }) (hO : Owned own wr) (hf : ∀ b, own b ≠ none → w.heap.size ≤ b)
    {y : Option Nd} (hy : T.nodes[k]? = some y) (M : Nat) (hxW : Ext wr W) (hM : ∀ nd, y = some nd → wr.heap.size ≤ M ∧ NodeNew W M nd)
    {v : Value} {row : Option Nat} (hr : RowP wA (fun g => own g = some (1, 0) ∨ W.heap.size ≤ g) 110 1 v (k + 1) (nodeVals ptr (T.nodes.take k) ++ [newVal M y])) (hg : W.grownBy wA row) (hrow : ∀ b, row = some b → own b = some (1, 0)) :
    CopyAt w tb' T (k + 1) (wA.setCell ⟨tb', 3, none⟩ v) := by
  have hkl := (List.getElem?_eq_some_iff.1 hy).1
  have hlk : (T.nodes.take k).length = k := by rw [List.length_take]; omega
  obtain ⟨nv, b1, b2, b3⟩ := hT.head
  have hszW := hxW.size
  have hszA := hg.size
  have htl := hO tb' (by simp [b2])
  obtain ⟨rg, hrg, hrg2⟩ := RowP.blk hr
  -- the new node's rows
  obtain ⟨ra, rk, hN⟩ : ∃ ra rk : Option Nat, ∀ nd, y = some nd → (∀ b, ra = some b → M < b ∧ ∃ cur, W.heap[b]? = some (.cells cur 44 (0, 0))) ∧ (∀ b, rk = some b → M < b ∧ ∃ cur, W.heap[b]? = some (.cells cur 3 (0, 0))) ∧
      ∃ va vk, W.heap[M]? = some (.cells #[.int .i64 nd.tag, va, .string nd.text, vk, .int .i64 nd.parent] 115 (0, 0)) ∧ RowP W (fun g => ra = some g) 44 2 va nd.attrs.length (attrCells nd.attrs) ∧ RowP W (fun g => rk = some g) 3 1 vk nd.kids.length (nd.kids.map (Value.int .i64)) := by
    cases y with
    | none => exact ⟨none, none, fun nd h => by cases h⟩
    | some nd =>
      obtain ⟨_, va, vk, q1, q2, q3⟩ := hM nd rfl
      obtain ⟨ra, r1, r2⟩ := RowP.blk q2
      obtain ⟨rk, r3, r4⟩ := RowP.blk q3
      exact ⟨ra, rk, fun nd' h => by cases h; exact ⟨r2, r4, va, vk, q1, r1, r3⟩⟩
  let own1 : Ow := fun b => if b < wr.heap.size then own b else if y.isSome && decide (b = M) then some (2, k) else if y.isSome && decide (ra = some b) then some (3, k) else if y.isSome && decide (rk = some b) then some (4, k) else if rg = some b then some (1, 0) else none
  have e1 : ∀ b, b < wr.heap.size → own1 b = own b := fun b hb => if_pos hb
  have e2 : ∀ b x, own b = some x → own1 b = some x := fun b x hb => (e1 b (hO b (by simp [hb]))).trans hb
  have hrow' : ∀ b, row = some b → b < wr.heap.size := fun b hb => hO b (by simp [hrow b hb])
  have farW : ∀ b, wr.heap.size ≤ b → b < W.heap.size → (wA.setCell ⟨tb', 3, none⟩ v).heap[b]? = W.heap[b]? := fun b h1 h2 => by
    rw [heap_setCell_other _ (by show b ≠ tb'; omega)]
    exact hg.block b h2 (fun e => by have := hrow' b e.symm; omega)
  have old : ∀ b x, own b = some x → x ≠ (1, 0) → b ≠ tb' → (wA.setCell ⟨tb', 3, none⟩ v).heap[b]? = wr.heap[b]? := fun b x hb hx hn => by
    have hbl := hO b (by simp [hb])
    rw [heap_setCell_other _ hn, hg.block b (by omega) (fun e => by have := hrow b e.symm; rw [hb] at this; exact hx (Option.some.inj this))]
    exact Below.block hxW b hbl
  have hbt : wA.heap[tb']? = _ := ((hg.block tb' (by omega) (fun e => by have := hrow tb' e.symm; rw [b2] at this; cases this)).trans (Below.block hxW tb' htl)).trans b1
  have hrgW : ∀ b, rg = some b → wr.heap.size ≤ b → W.heap.size ≤ b := fun b hb hge => by
    rcases (hrg2 b hb).1 with h | h
    · have := hO b (by simp [h]); omega
    · exact h
  refine ⟨?_, own1, (fun j => if j = k then M else ptr j), ⟨?_, ?_⟩, ?_, ?_⟩
  · have h0 : Ext w W := hx.trans hxW
    refine (h0.grown hg (fun b hb => hf b (by rw [hrow b hb]; simp))).setCell (hf tb' (by rw [b2]; simp)) _
  · refine ⟨v, by rw [heap_setCell_same hbt]; rfl, e2 _ _ b2, ?_⟩
    show RowAt _ own1 _ 1 (1, 0) v (T.nodes.take (k + 1)).length (nodeVals _ (T.nodes.take (k + 1)))
    have hl1 : (T.nodes.take (k + 1)).length = k + 1 := by rw [List.length_take]; omega
    have hv : nodeVals (fun j => if j = k then M else ptr j) (T.nodes.take (k + 1)) = nodeVals ptr (T.nodes.take k) ++ [newVal M y] := by
      apply List.ext_getElem?
      intro j
      rw [List.getElem?_append]
      simp only [nodeVals, List.getElem?_mapIdx, List.length_mapIdx, hlk, List.getElem?_take]
      rcases Nat.lt_trichotomy j k with h | h | h
      · rw [if_pos h, if_pos (by omega), if_pos h]
        cases T.nodes[j]? with
        | none => rfl
        | some z => cases z <;> simp [nodeVal, Nat.ne_of_lt h]
      · subst h
        rw [if_pos (by omega), if_neg (by omega), hy, Nat.sub_self]
        cases y <;> simp [nodeVal, newVal]
      · rw [if_neg (by omega), if_neg (by omega), List.getElem?_eq_none (by simp; omega)]; rfl
    rw [hl1, hv]
    refine RowP.move hrg fun b hb => ⟨?_, ?_⟩
    · refine heap_setCell_other _ (fun (e : b = tb') => ?_)
      rcases (hrg2 b hb).1 with h | h
      · rw [e, b2] at h; cases h
      · omega
    · rcases (hrg2 b hb).1 with h | h
      · exact e2 _ _ h
      · show (if b < wr.heap.size then _ else _) = _
        rw [if_neg (by omega)]
        cases hyy : y with
        | none => simp [hb]
        | some nd =>
          obtain ⟨n1, n2, va, vk, n3, n4, n5⟩ := hN nd hyy
          have hMl : M < W.heap.size := (Array.getElem?_eq_some_iff.1 n3).1
          have h2 : ra ≠ some b := fun e => by obtain ⟨_, cur, hc⟩ := n1 b e; have := (Array.getElem?_eq_some_iff.1 hc).1; omega
          have h3 : rk ≠ some b := fun e => by obtain ⟨_, cur, hc⟩ := n2 b e; have := (Array.getElem?_eq_some_iff.1 hc).1; omega
          rw [if_neg (by simp; omega), if_neg (by simp [h2]), if_neg (by simp [h3]), if_pos hb]
  · intro j nd hj
    rw [List.getElem?_take] at hj
    split at hj
    · rename_i hjk
      rcases Nat.lt_or_ge j k with h | h
      · show NodeAt _ own1 j (if j = k then M else ptr j) nd
        rw [if_neg (by omega)]
        have hj' : (T.nodes.take k)[j]? = some (some nd) := by rw [List.getElem?_take, if_pos h]; exact hj
        refine (hT.nodeAt hj').move fun b x hb hx2 => ⟨old b _ hb (by simp; omega) (fun e => by rw [e, b2] at hb; simp at hb; omega), (e2 b _ hb).trans hb.symm⟩
      · obtain rfl : j = k := by omega
        rw [hy] at hj
        injection hj with hj
        subst hj
        show NodeAt _ own1 j (if j = j then M else ptr j) nd
        rw [if_pos rfl]
        obtain ⟨hM1, _⟩ := hM nd rfl
        obtain ⟨n1, n2, va, vk, n3, n4, n5⟩ := hN nd rfl
        have hMl : M < W.heap.size := (Array.getElem?_eq_some_iff.1 n3).1
        refine ⟨va, vk, (farW M hM1 hMl).trans n3, ?_, RowP.move n4 fun b hb => ?_, RowP.move n5 fun b hb => ?_⟩
        · show (if M < wr.heap.size then _ else _) = _
          rw [if_neg (by omega), if_pos (by simp)]
        · obtain ⟨q1, cur, q2⟩ := n1 b hb
          have hbl := (Array.getElem?_eq_some_iff.1 q2).1
          refine ⟨farW b (by omega) hbl, ?_⟩
          show (if b < wr.heap.size then _ else _) = _
          rw [if_neg (by omega), if_neg (by simp; omega), if_pos (by simp [hb])]
        · obtain ⟨q1, cur, q2⟩ := n2 b hb
          have hbl := (Array.getElem?_eq_some_iff.1 q2).1
          refine ⟨farW b (by omega) hbl, ?_⟩
          have hne : ra ≠ some b := fun e => by
            obtain ⟨_, cur', q3⟩ := n1 b e
            rw [q2] at q3; cases q3
          show (if b < wr.heap.size then _ else _) = _
          rw [if_neg (by omega), if_neg (by simp; omega), if_neg (by simp [hne]), if_pos (by simp [hb])]
    · cases hj
  · intro b hb
    have hb' : (if b < wr.heap.size then own b else if y.isSome && decide (b = M) then some (2, k) else if y.isSome && decide (ra = some b) then some (3, k) else if y.isSome && decide (rk = some b) then some (4, k) else if rg = some b then some (1, 0) else none) ≠ none := hb
    have hfin : ∀ c, c < wA.heap.size → c < (wA.setCell ⟨tb', 3, none⟩ v).heap.size := fun c hc => by simpa [World.setCell] using hc
    refine hfin b ?_
    cases hyy : y with
    | none =>
      rw [hyy] at hb'
      simp at hb'
      by_cases h : b < wr.heap.size
      · omega
      · rw [if_neg h] at hb'
        by_cases hr' : rg = some b
        · obtain ⟨_, cur, hc⟩ := hrg2 b hr'
          exact (Array.getElem?_eq_some_iff.1 hc).1
        · rw [if_neg hr'] at hb'; exact absurd rfl hb'
    | some nd =>
      obtain ⟨n1, n2, va, vk, n3, n4, n5⟩ := hN nd hyy
      have hMl : M < W.heap.size := (Array.getElem?_eq_some_iff.1 n3).1
      rw [hyy] at hb'
      simp at hb'
      by_cases h : b < wr.heap.size
      · omega
      · rw [if_neg h] at hb'
        by_cases h2 : b = M
        · omega
        · rw [if_neg h2] at hb'
          by_cases h3 : ra = some b
          · obtain ⟨_, cur, hc⟩ := n1 b h3
            have := (Array.getElem?_eq_some_iff.1 hc).1; omega
          · rw [if_neg h3] at hb'
            by_cases h4 : rk = some b
            · obtain ⟨_, cur, hc⟩ := n2 b h4
              have := (Array.getElem?_eq_some_iff.1 hc).1; omega
            · rw [if_neg h4] at hb'
              by_cases hr' : rg = some b
              · obtain ⟨_, cur, hc⟩ := hrg2 b hr'
                exact (Array.getElem?_eq_some_iff.1 hc).1
              · rw [if_neg hr'] at hb'; exact absurd rfl hb'
  · intro b hb
    by_cases h : b < wr.heap.size
    · rw [e1 b h] at hb; exact hf b hb
    · have := hx.size; omega
end Go.Proofs.Ytiglflmjidikpaa
