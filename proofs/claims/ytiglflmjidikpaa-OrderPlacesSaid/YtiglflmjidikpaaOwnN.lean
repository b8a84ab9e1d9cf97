/- A plain tree in memory of its own: its rows of kids lie in blocks that are told (the footprint), each kid's apart from the others'; its attributes are told by a reading world. No program in sight. -/
import Derived.Test.YtiglflmjidikpaaD11
namespace Go.Proofs.Ytiglflmjidikpaa
open Go Go.RowKit Go.BigFrame
set_option linter.unusedVariables false
set_option linter.unusedSimpArgs false

/-- the four cells of kid number j -/
def four (cur : Array Value) (j : Nat) : Value := .agg #[cur[j * 4]?.getD undef, cur[j * 4 + 1]?.getD undef, cur[j * 4 + 2]?.getD undef, cur[j * 4 + 3]?.getD undef]
inductive OwnN (ga w : World) : PN → Value → (Nat → Prop) → Prop
  | leaf (n : PN) (av kv : Value) (F : Nat → Prop) (ha : RowRd ga 2 av n.attrs.length (attrCells n.attrs)) (h0 : n.kids = []) (hk : ∃ a, kv = .slice a 0 0) : OwnN ga w n (.agg #[.int .i64 n.tag, av, .string n.text, kv]) F
  | node (n : PN) (av : Value) (b cap : Nat) (cur : Array Value) (F : Nat → Prop) (G : Nat → Nat → Prop) (ha : RowRd ga 2 av n.attrs.length (attrCells n.attrs)) (hb : w.heap[b]? = some (.cells cur 30 (0, 0))) (hl : n.kids.length ≤ cap) (hm : cap ≤ maxLen) (hs : cur.size = cap * 4)
      (hk : ∀ (j : Nat) (k : PN), n.kids[j]? = some k → OwnN ga w k (four cur j) (G j)) (hFb : F b) (hG : ∀ j x, j < n.kids.length → G j x → F x ∧ x ≠ b) (hd : ∀ i j x, i < n.kids.length → j < n.kids.length → i ≠ j → G i x → ¬ G j x) : OwnN ga w n (.agg #[.int .i64 n.tag, av, .string n.text, .slice (some ⟨b, 0, none⟩) n.kids.length cap]) F
theorem OwnN.keep {ga w w' : World} {n : PN} {v : Value} {F : Nat → Prop} (h : OwnN ga w n v F) : (∀ b o, F b → w.heap[b]? = some o → w'.heap[b]? = some o) → OwnN ga w' n v F := by
  induction h with
  | leaf n av kv F ha h0 hk => exact fun _ => .leaf n av kv F ha h0 hk
  | node n av b cap cur F G ha hb hl hm hs hk hFb hG hd ih =>
    intro k
    exact .node n av b cap cur F G ha (k b _ hFb hb) hl hm hs (fun j x hx => ih j x hx fun b o hb => k b o (hG j b (List.getElem?_eq_some_iff.1 hx).1 hb).1) hFb hG hd
theorem OwnN.more {ga ga' w : World} {n : PN} {v : Value} {F : Nat → Prop} (h : OwnN ga w n v F) (k : Cells ga ga') : OwnN ga' w n v F := by
  induction h with
  | leaf n av kv F ha h0 hk => exact .leaf n av kv F (ha.cells k) h0 hk
  | node n av b cap cur F G ha hb hl hm hs hk hFb hG hd ih => exact .node n av b cap cur F G (ha.cells k) hb hl hm hs (fun j x hx => ih j x hx) hFb hG hd
theorem OwnN.wide {ga w : World} {n : PN} {v : Value} {F F' : Nat → Prop} (h : OwnN ga w n v F) (k : ∀ x, F x → F' x) : OwnN ga w n v F' := by
  cases h with
  | leaf n av kv F ha h0 hk => exact .leaf n av _ F' ha h0 hk
  | node n av b cap cur F G ha hb hl hm hs hk hFb hG hd => exact .node n av b cap cur F' G ha hb hl hm hs hk (k _ hFb) (fun j x hj hx => ⟨k _ (hG j x hj hx).1, (hG j x hj hx).2⟩) hd
theorem four_at {cur : Array Value} {cap j : Nat} (hs : cur.size = cap * 4) (hj : j < cap) : ∃ c0 c1 c2 c3, four cur j = .agg #[c0, c1, c2, c3] ∧ cur[j * 4]? = some c0 ∧ cur[j * 4 + 1]? = some c1 ∧ cur[j * 4 + 2]? = some c2 ∧ cur[j * 4 + 3]? = some c3 := by
  have h0 : j * 4 < cur.size := by omega
  have h1 : j * 4 + 1 < cur.size := by omega
  have h2 : j * 4 + 2 < cur.size := by omega
  have h3 : j * 4 + 3 < cur.size := by omega
  refine ⟨cur[j * 4], cur[j * 4 + 1], cur[j * 4 + 2], cur[j * 4 + 3], ?_, ?_, ?_, ?_, ?_⟩
  · unfold four
    rw [Array.getElem?_eq_getElem h0, Array.getElem?_eq_getElem h1, Array.getElem?_eq_getElem h2, Array.getElem?_eq_getElem h3]; rfl
  · exact Array.getElem?_eq_getElem h0
  · exact Array.getElem?_eq_getElem h1
  · exact Array.getElem?_eq_getElem h2
  · exact Array.getElem?_eq_getElem h3
/-- it reads as the plain tree -/
theorem OwnN.rd {ga w g : World} {B : Nat} {n : PN} {v : Value} {F : Nat → Prop} (h : OwnN ga w n v F) (hga : Cells ga g) (hc : ∀ q y, w.cell? q = some y → B ≤ q.block → g.cell? q = some y) : (∀ x, F x → B ≤ x) → RdN g n v := by
  induction h with
  | leaf n av kv F ha h0 hk =>
    intro _
    obtain ⟨a, rfl⟩ := hk
    refine RdN.mk' (ha.cells hga) ⟨a, 0, by rw [h0]; rfl, by rw [h0]; exact Nat.le_refl _, Nat.zero_le _, fun _ => ⟨by rw [h0]; rfl, rfl⟩, fun a ha j k hk => ?_⟩
    rw [h0] at hk; simp at hk
  | node n av b cap cur F G ha hb hl hm hs hk hFb hG hd ih =>
    intro hF
    refine RdN.mk' (ha.cells hga) ⟨_, cap, rfl, hl, hm, (fun e => by cases e), fun a ha' j k hk' => ?_⟩
    cases ha'
    have hj := (List.getElem?_eq_some_iff.1 hk').1
    obtain ⟨c0, c1, c2, c3, e, q0, q1, q2, q3⟩ := four_at hs (show j < cap by omega)
    have hr := ih j k hk' fun x hx => hF x (hG j x hj hx).1
    rw [e] at hr
    have cell : ∀ (m : Nat) z, cur[m]? = some z → g.cell? (Addr.add ⟨b, 0, none⟩ m) = some z := fun m z hz => by
      rw [Addr.add_lit, Nat.zero_add]
      exact hc ⟨b, m, none⟩ z (cellOf hb hz) (hF b hFb)
    exact ⟨c0, c1, c2, c3, cell _ _ q0, cell _ _ q1, cell _ _ q2, cell _ _ q3, hr⟩
theorem OwnN.shape {ga w : World} {n : PN} {v : Value} {F : Nat → Prop} (h : OwnN ga w n v F) : ∃ a ac k kc, v = .agg #[.int .i64 n.tag, .slice a n.attrs.length ac, .string n.text, .slice k n.kids.length kc] := by
  cases h with
  | leaf n av kv F ha h0 hk =>
    obtain ⟨a, ac, rfl, _⟩ := ha.len_of
    obtain ⟨k, rfl⟩ := hk
    exact ⟨a, ac, k, 0, by rw [h0]; rfl⟩
  | node n av b cap cur F G ha hb hl hm hs hk hFb hG hd =>
    obtain ⟨a, ac, rfl, _⟩ := ha.len_of
    exact ⟨a, ac, _, cap, rfl⟩
/-- what is copied into new memory -/
def CopyNIs (n : PN) (w : World) (e : Ending) (w' : World) : Prop :=
  ∃ v F ga, e = .returned v ∧ OwnN ga w' n v F ∧ Ext w w' ∧ (∀ x, F x → w.heap.size ≤ x ∧ x < w'.heap.size) ∧ ∀ q y, ga.cell? q = some y → w'.cell? q = some y ∧ w.heap.size ≤ q.block ∧ ¬ F q.block
theorem CopyNIs.plain {n : PN} {w w' : World} {e : Ending} (h : CopyNIs n w e w') : PlainIs n w e w' := by
  obtain ⟨v, F, ga, rfl, ho, hx, hF, hg⟩ := h
  refine ⟨v, hide (fun x => if x < w.heap.size then some (0, 0) else none) w', rfl, ho.rd (B := w.heap.size) (fun q y hq => hide_cell (hg q y hq).1 (if_neg (by have := (hg q y hq).2.1; omega))) (fun q y hq hb => hide_cell hq (if_neg (by omega))) (fun x hx => (hF x hx).1), hx, fun q y hq => ?_⟩
  obtain ⟨h1, h2⟩ := hide_apart _ _ q y hq
  dsimp only at h2
  split at h2
  · cases h2
  · exact ⟨h1, by omega⟩
/-- the loop of CopyNode: k kids are copied -/
structure CopNAt (w1 wr : World) (n : PN) (av lv : Value) (k : Nat) : Prop where
  ext : Ext w1 wr
  row : ∃ (xs : List Value) (ga : World) (G : Nat → Nat → Prop), RowP wr (fun x => w1.heap.size ≤ x) 30 4 lv k xs ∧ (∀ y, lv.ownBlock = some y → w1.heap.size ≤ y ∧ y < wr.heap.size) ∧ RowRd ga 2 av n.attrs.length (attrCells n.attrs) ∧
    (∀ (j : Nat) (x : PN), j < k → n.kids[j]? = some x → ∃ c0 c1 c2 c3, xs[j * 4]? = some c0 ∧ xs[j * 4 + 1]? = some c1 ∧ xs[j * 4 + 2]? = some c2 ∧ xs[j * 4 + 3]? = some c3 ∧ OwnN ga wr x (.agg #[c0, c1, c2, c3]) (G j)) ∧
    (∀ j x, j < k → G j x → w1.heap.size ≤ x ∧ x < wr.heap.size ∧ lv.ownBlock ≠ some x) ∧ (∀ i j x, i < k → j < k → i ≠ j → G i x → ¬ G j x) ∧
    ∀ q y, ga.cell? q = some y → wr.cell? q = some y ∧ w1.heap.size ≤ q.block ∧ lv.ownBlock ≠ some q.block ∧ ∀ j, j < k → ¬ G j q.block
theorem CopNAt.init {w1 wr : World} {n : PN} {av : Value} (hx : Ext w1 wr) (h : RowP wr (fun x => w1.heap.size ≤ x) 44 2 av n.attrs.length (attrCells n.attrs)) : CopNAt w1 wr n av (.slice none 0 0) 0 := by
  have hr := h.rd
  refine ⟨hx, [], hide (fun y => if w1.heap.size ≤ y then none else some (0, 0)) wr, fun _ _ => False, ⟨rfl, .inl ⟨rfl, none, rfl⟩⟩, (fun y e => by cases e), ?_, fun j x hj => by omega, fun j x hj => by omega, fun i j x hi => by omega, fun q y hq => ?_⟩
  · obtain ⟨h3, ao, cap, h4, h5, h6, h7⟩ := hr
    refine ⟨h3, ao, cap, h4, h5, h6, fun a ha j x hx => hide_cell (h7 a ha j x hx) ?_⟩
    rcases h.2 with ⟨h8, a8, h9⟩ | ⟨g, cap', cur, h8, h9, _⟩
    · have h0 : attrCells n.attrs = [] := List.eq_nil_of_length_eq_zero (by omega)
      rw [h0] at hx; simp at hx
    · rw [h4] at h8
      cases h8
      cases ha
      rw [Addr.add_lit]
      exact if_pos h9
  · obtain ⟨h1, h2⟩ := hide_apart _ _ q y hq
    dsimp only at h2
    split at h2
    · rename_i h3
      exact ⟨h1, h3, (fun e => by cases e), fun j hj => by omega⟩
    · cases h2
open Classical in
theorem CopNAt.step {w1 wr wk cw wA : World} {n : PN} {av lv v' : Value} {k : Nat} {xs : List Value} {ga ga' : World} {G : Nat → Nat → Prop} {F' : Nat → Prop} {x : PN} {c0 c1 c2 c3 : Value} {row : Option Nat}
    (hx : Ext w1 wr) (hr : RowP wr (fun x => w1.heap.size ≤ x) 30 4 lv k xs) (hlb : ∀ y, lv.ownBlock = some y → w1.heap.size ≤ y ∧ y < wr.heap.size) (ha : RowRd ga 2 av n.attrs.length (attrCells n.attrs))
    (hk : ∀ (j : Nat) (x : PN), j < k → n.kids[j]? = some x → ∃ c0 c1 c2 c3, xs[j * 4]? = some c0 ∧ xs[j * 4 + 1]? = some c1 ∧ xs[j * 4 + 2]? = some c2 ∧ xs[j * 4 + 3]? = some c3 ∧ OwnN ga wr x (.agg #[c0, c1, c2, c3]) (G j))
    (hG : ∀ j x, j < k → G j x → w1.heap.size ≤ x ∧ x < wr.heap.size ∧ lv.ownBlock ≠ some x) (hd : ∀ i j x, i < k → j < k → i ≠ j → G i x → ¬ G j x)
    (hg : ∀ q y, ga.cell? q = some y → wr.cell? q = some y ∧ w1.heap.size ≤ q.block ∧ lv.ownBlock ≠ some q.block ∧ ∀ j, j < k → ¬ G j q.block)
    (hn : n.kids[k]? = some x) (hxk : Ext wr wk) (ho : OwnN ga' wk x (.agg #[c0, c1, c2, c3]) F') (hF : ∀ x, F' x → wr.heap.size ≤ x ∧ x < wk.heap.size) (hg' : ∀ q y, ga'.cell? q = some y → wk.cell? q = some y ∧ wr.heap.size ≤ q.block ∧ ¬ F' q.block)
    (hxc : Ext wk cw) (hA : RowP wA (fun y => (w1.heap.size ≤ y ∧ lv.ownBlock = some y) ∨ cw.heap.size ≤ y) 30 4 v' (k + 1) (xs ++ [c0, c1, c2, c3])) (hgA : cw.grownBy wA row) (hrow : ∀ z, row = some z → w1.heap.size ≤ z ∧ lv.ownBlock = some z) :
    CopNAt w1 wA n av v' (k + 1) := by
  have hs1 := Ext.size hx
  have hs2 := Ext.size hxk
  have hs3 := Ext.size hxc
  have hs4 := hgA.size
  have hlen : xs.length = k * 4 := hr.1
  have vown : ∀ y, v'.ownBlock = some y → (w1.heap.size ≤ y ∧ lv.ownBlock = some y) ∨ cw.heap.size ≤ y := fun y hy => by
    rcases hA.2 with ⟨h0, _⟩ | ⟨gb, cap, cur, h8, h9, _⟩
    · omega
    · rw [h8] at hy; cases hy; exact h9
  have kb : ∀ (y : Nat) (o : Obj), cw.heap[y]? = some o → lv.ownBlock ≠ some y → wA.heap[y]? = some o := fun y o hy hn => by
    rw [hgA.block y (Array.getElem?_eq_some_iff.1 hy).1 (fun e => hn (hrow y e.symm).2)]; exact hy
  have kc : ∀ q y, cw.cell? q = some y → lv.ownBlock ≠ some q.block → wA.cell? q = some y := fun q y hq h2 =>
    (World.cell?_of_block (hgA.block q.block (World.block_lt_of_cell? cw q hq) (fun e => h2 (hrow q.block e.symm).2))).trans hq
  have nol : ∀ y, wr.heap.size ≤ y → lv.ownBlock ≠ some y := fun y hy e => by have := hlb y e; omega
  let G2 : Nat → Nat → Prop := fun j => if j < k then G j else F'
  have e1 : ∀ j, j < k → G2 j = G j := fun j hj => if_pos hj
  have e2 : G2 k = F' := if_neg (by omega)
  have hG2 : ∀ j x, j < k + 1 → G2 j x → w1.heap.size ≤ x ∧ x < cw.heap.size ∧ lv.ownBlock ≠ some x := fun j y hj hy => by
    by_cases h : j < k
    · rw [e1 j h] at hy
      have := hG j y h hy
      exact ⟨this.1, by omega, this.2.2⟩
    · obtain rfl : j = k := by omega
      rw [e2] at hy
      have := hF y hy
      exact ⟨by omega, by omega, nol y this.1⟩
  have hd2 : ∀ i j x, i < k + 1 → j < k + 1 → i ≠ j → G2 i x → ¬ G2 j x := fun i j y hi hj hij h1 h2 => by
    by_cases ei : i < k
    · by_cases ej : j < k
      · rw [e1 i ei] at h1; rw [e1 j ej] at h2
        exact hd i j y ei ej hij h1 h2
      · obtain rfl : j = k := by omega
        rw [e1 i ei] at h1; rw [e2] at h2
        have := hG i y ei h1; have := hF y h2; omega
    · obtain rfl : i = k := by omega
      by_cases ej : j < i
      · rw [e1 j ej] at h2; rw [e2] at h1
        have := hG j y ej h2; have := hF y h1; omega
      · omega
  let ow : Ow := fun y => if w1.heap.size ≤ y ∧ v'.ownBlock ≠ some y ∧ ∀ j, j < k + 1 → ¬ G2 j y then none else some (0, 0)
  have cg : Cells ga (hide ow wA) := fun q y hq => by
    obtain ⟨h1, h2, h3, h4⟩ := hg q y hq
    have hl := World.block_lt_of_cell? wr q h1
    refine hide_cell (kc q y ((hxk.trans hxc).cells _ _ h1) h3) (if_pos ⟨h2, fun e => ?_, fun j hj hy => ?_⟩)
    · rcases vown _ e with h | h
      · exact h3 h.2
      · omega
    · by_cases h : j < k
      · rw [e1 j h] at hy; exact h4 j h hy
      · obtain rfl : j = k := by omega
        rw [e2] at hy; have := hF _ hy; omega
  have cg' : Cells ga' (hide ow wA) := fun q y hq => by
    obtain ⟨h1, h2, h3⟩ := hg' q y hq
    have hl := World.block_lt_of_cell? wk q h1
    refine hide_cell (kc q y (hxc.cells _ _ h1) (nol _ h2)) (if_pos ⟨by omega, fun e => ?_, fun j hj hy => ?_⟩)
    · rcases vown _ e with h | h
      · exact nol _ h2 h.2
      · omega
    · by_cases h : j < k
      · rw [e1 j h] at hy; have := hG j _ h hy; omega
      · obtain rfl : j = k := by omega
        rw [e2] at hy; exact h3 hy
  refine ⟨(hx.trans (hxk.trans hxc)).grown hgA fun z hz => (hrow z hz).1, xs ++ [c0, c1, c2, c3], hide ow wA, G2, ?_, fun y hy => ?_, ha.cells cg, fun j z hj hz => ?_, fun j y hj hy => ?_, hd2, fun q y hq => ?_⟩
  · exact RowP.imp hA fun gb _ hgb => by
      rcases hgb with h | h
      · exact h.1
      · show w1.heap.size ≤ gb; omega
  · rcases hA.2 with ⟨h0, _⟩ | ⟨gb, cap, cur, h8, h9, h10, _⟩
    · omega
    · rw [h8] at hy; cases hy
      refine ⟨?_, (Array.getElem?_eq_some_iff.1 h10).1⟩
      show w1.heap.size ≤ gb
      rcases h9 with h | h
      · exact h.1
      · omega
  · by_cases e : j < k
    · obtain ⟨d0, d1, d2, d3, q0, q1, q2, q3, hq⟩ := hk j z e hz
      refine ⟨d0, d1, d2, d3, by rw [List.getElem?_append_left (by omega)]; exact q0, by rw [List.getElem?_append_left (by omega)]; exact q1, by rw [List.getElem?_append_left (by omega)]; exact q2, by rw [List.getElem?_append_left (by omega)]; exact q3, ?_⟩
      rw [e1 j e]
      exact (hq.more cg).keep fun b o hb hw => kb b o ((hxk.trans hxc).block hw) (hG j b e hb).2.2
    · obtain rfl : j = k := by omega
      rw [hn] at hz
      cases hz
      refine ⟨c0, c1, c2, c3, ?_, ?_, ?_, ?_, ?_⟩
      · simp [← hlen]
      · simp [← hlen]
      · simp [← hlen]
      · simp [← hlen]
      · rw [e2]
        exact (ho.more cg').keep fun b o hb hw => kb b o (hxc.block hw) (nol b (hF b hb).1)
  · obtain ⟨h1, h2, h3⟩ := hG2 j y hj hy
    refine ⟨h1, by omega, fun e => ?_⟩
    rcases vown _ e with h | h
    · exact h3 h.2
    · omega
  · obtain ⟨h1, h2⟩ := hide_apart _ _ q y hq
    by_cases h : w1.heap.size ≤ q.block ∧ v'.ownBlock ≠ some q.block ∧ ∀ j, j < k + 1 → ¬ G2 j q.block
    · exact ⟨h1, h.1, h.2.1, h.2.2⟩
    · have h3 : (if w1.heap.size ≤ q.block ∧ v'.ownBlock ≠ some q.block ∧ ∀ j, j < k + 1 → ¬ G2 j q.block then none else some (0, 0)) = (none : Option (Nat × Nat)) := h2
      rw [if_neg h] at h3; cases h3
theorem CopNAt.fin {w w1 wr w3 : World} {n : PN} {av lv : Value} (h : CopNAt w1 wr n av lv n.kids.length) (hw : w.heap.size ≤ w1.heap.size) (hx3 : Ext w w3) (hs : w3.heap.size = wr.heap.size) (hk : ∀ x, w1.heap.size ≤ x → w3.heap[x]? = wr.heap[x]?) :
    CopyNIs n w (.returned (.agg #[.int .i64 n.tag, av, .string n.text, lv])) w3 := by
  obtain ⟨hx, xs, ga, G, hr, hlb, ha, hkx, hG, hd, hg⟩ := h
  have hs1 := Ext.size hx
  have kc : ∀ q y, wr.cell? q = some y → w1.heap.size ≤ q.block → w3.cell? q = some y := fun q y hq hl => (World.cell?_of_block (hk q.block hl)).trans hq
  refine ⟨_, fun x => lv.ownBlock = some x ∨ ∃ j, j < n.kids.length ∧ G j x, ga, rfl, ?_, hx3, fun x hx => ?_, fun q y hq => ?_⟩
  · rcases hr.2 with ⟨h0, a, rfl⟩ | ⟨g, cap, cur, rfl, h3, h4, h5, h6, h7, h8⟩
    · exact .leaf n av _ _ ha (List.eq_nil_of_length_eq_zero h0) ⟨a, rfl⟩
    · refine .node n av g cap cur _ G ha (by rw [hk g h3]; exact h4) h5 h6 h7 (fun j x hj => ?_) (.inl rfl) (fun j x hj hx => ⟨.inr ⟨j, hj, hx⟩, fun e => (hG j x hj hx).2.2 (by rw [e]; rfl)⟩) hd
      have hjl := (List.getElem?_eq_some_iff.1 hj).1
      obtain ⟨c0, c1, c2, c3, q0, q1, q2, q3, ho⟩ := hkx j x hjl hj
      have cell : ∀ (m : Nat) z, xs[m]? = some z → cur[m]? = some z := fun m z hz => by
        rw [← h8, List.getElem?_take] at hz
        split at hz
        · simpa using hz
        · cases hz
      have e : four cur j = .agg #[c0, c1, c2, c3] := by
        unfold four
        rw [cell _ _ q0, cell _ _ q1, cell _ _ q2, cell _ _ q3]; rfl
      rw [e]
      exact ho.keep fun b o hb hw => by rw [hk b (hG j b hjl hb).1]; exact hw
  · rcases hx with h | ⟨j, hj, h⟩
    · have h1 := hlb x h
      exact ⟨by omega, by omega⟩
    · have := hG j x hj h
      exact ⟨by omega, by omega⟩
  · obtain ⟨h1, h2, h3, h4⟩ := hg q y hq
    exact ⟨kc q y h1 h2, by omega, fun h => by
      rcases h with h | ⟨j, hj, h⟩
      · exact h3 h
      · exact h4 j hj h⟩
end Go.Proofs.Ytiglflmjidikpaa
