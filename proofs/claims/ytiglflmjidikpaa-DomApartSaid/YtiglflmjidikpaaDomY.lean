/- Package dom: measure of a plain tree: how many nodes, how high, the error. Conditions: at most 100000 bytes a text, 100000 nodes. -/
import Derived.Test.YtiglflmjidikpaaTrD
import Derived.Test.YtiglflmjidikpaaDomX
namespace Go.Proofs.Ytiglflmjidikpaa
open Go Go.RowKit Go.BigFrame
set_option linter.unusedVariables false
set_option linter.unusedSimpArgs false

/-- what measure has in hand -/
structure Ms where
  count : Int
  height : Int
  e : Int
def Ms.one (n : PN) (deep : Int) (m : Ms) : Ms := ⟨m.count + 1, max m.height deep, if n.bad then 1 else if 8192 < (anewB n.text).size ∧ m.e = 0 then 10 else m.e⟩
mutual
def PN.look (deep : Int) (m : Ms) : PN → Ms
  | .mk t a s ks => PN.looks (deep + 1) (Ms.one (.mk t a s ks) deep m) ks
def PN.looks (deep : Int) (m : Ms) : List PN → Ms
  | [] => m
  | k :: r => PN.looks deep (PN.look deep m k) r
end
theorem PN.look_eq (deep : Int) (m : Ms) (n : PN) : PN.look deep m n = PN.looks (deep + 1) (Ms.one n deep m) n.kids := by cases n; rfl
mutual
/-- all texts are short -/
def PN.short : PN → Bool
  | .mk _ a s ks => decide (s.size ≤ 100000) && decide (a.length ≤ 60000) && PN.shorts ks
def PN.shorts : List PN → Bool
  | [] => true
  | k :: r => PN.short k && PN.shorts r
end
theorem PN.short_eq (n : PN) : n.short = (decide (n.text.size ≤ 100000) && decide (n.attrs.length ≤ 60000) && PN.shorts n.kids) := by cases n; rfl
theorem PN.shorts_mem {l : List PN} (h : PN.shorts l = true) {k : PN} (hk : k ∈ l) : k.short = true := by
  induction l with
  | nil => cases hk
  | cons x r ih =>
    simp only [PN.shorts, Bool.and_eq_true] at h
    rcases List.mem_cons.1 hk with rfl | hk
    · exact h.1
    · exact ih h.2 hk
theorem looks_snoc (deep : Int) : ∀ (l : List PN) (m : Ms) (k : PN), PN.looks deep m (l ++ [k]) = PN.look deep (PN.looks deep m l) k := by
  intro l
  induction l with
  | nil => intro m k; rfl
  | cons x r ih => intro m k; simp only [List.cons_append, PN.looks]; exact ih _ _
theorem looks_take (deep : Int) (m : Ms) (l : List PN) (i : Nat) (k : PN) (h : l[i]? = some k) : PN.looks deep m (l.take (i + 1)) = PN.look deep (PN.looks deep m (l.take i)) k := by
  obtain ⟨hlt, rfl⟩ := List.getElem?_eq_some_iff.1 h
  rw [List.take_succ_eq_append_getElem hlt, looks_snoc]
/-- what comes of it -/
theorem looks_spec : ∀ (l : List PN), (∀ k ∈ l, ∀ (deep : Int) (m : Ms), (PN.look deep m k).count = m.count + k.size ∧ (PN.look deep m k).height = max m.height (deep + k.high) ∧ ((PN.look deep m k).e = 0 ↔ m.e = 0 ∧ k.ok = true)) →
    ∀ (deep : Int) (m : Ms), (PN.looks deep m l).count = m.count + PN.sizes l ∧ (max (PN.looks deep m l).height (deep - 1)) = max m.height (deep - 1 + PN.highs l) ∧ m.height ≤ (PN.looks deep m l).height ∧ ((PN.looks deep m l).e = 0 ↔ m.e = 0 ∧ PN.oks l = true) := by
  intro l
  induction l with
  | nil => intro _ deep m; simp [PN.looks, PN.sizes, PN.highs, PN.oks]
  | cons k r ih =>
    intro h deep m
    obtain ⟨h1, h2, h3⟩ := h k (by simp) deep m
    obtain ⟨g1, g2, g3, g4⟩ := ih (fun x hx => h x (by simp [hx])) deep (PN.look deep m k)
    simp only [PN.looks, PN.sizes, PN.highs, PN.oks]
    refine ⟨by rw [g1, h1]; push_cast; omega, by omega, by omega, ?_⟩
    rw [g4, h3, Bool.and_eq_true, and_assoc]
theorem look_spec : ∀ (n : PN) (deep : Int) (m : Ms), (PN.look deep m n).count = m.count + n.size ∧ (PN.look deep m n).height = max m.height (deep + n.high) ∧ ((PN.look deep m n).e = 0 ↔ m.e = 0 ∧ n.ok = true) := by
  refine PN.induct _ fun n ih deep m => ?_
  obtain ⟨g1, g2, g3, g4⟩ := looks_spec n.kids ih (deep + 1) (Ms.one n deep m)
  rw [PN.look_eq, PN.size_eq, PN.high_eq, PN.ok_eq]
  have e1 : (Ms.one n deep m).count = m.count + 1 := rfl
  have e2 : (Ms.one n deep m).height = max m.height deep := rfl
  rw [e1] at g1
  rw [e2] at g2 g3
  refine ⟨by rw [g1]; push_cast; omega, by omega, ?_⟩
  rw [g4]
  show (if n.bad then (1 : Int) else if 8192 < (anewB n.text).size ∧ m.e = 0 then 10 else m.e) = 0 ∧ _ ↔ _
  cases hb : n.bad with
  | true => simp
  | false =>
    simp only [Bool.false_eq_true, if_false, Bool.not_false, Bool.true_and, Bool.and_eq_true, decide_eq_true_eq]
    by_cases hl : 8192 < (anewB n.text).size
    · by_cases he : m.e = 0
      · rw [if_pos ⟨hl, he⟩]
        constructor
        · intro h; exact absurd h.1 (by decide)
        · intro h; omega
      · rw [if_neg (fun h => he h.2)]
        constructor
        · intro h; exact absurd h.1 he
        · intro h; exact absurd h.1 he
    · rw [if_neg (fun h => hl h.1)]
      constructor
      · intro h; exact ⟨h.1, by omega, h.2⟩
      · intro h; exact ⟨h.1, h.2.2⟩
theorem sizes_append : ∀ (l r : List PN), PN.sizes (l ++ r) = PN.sizes l + PN.sizes r := by
  intro l
  induction l with
  | nil => intro r; simp [PN.sizes]
  | cons x l ih => intro r; simp only [List.cons_append, PN.sizes, ih]; omega
theorem sizes_take (l : List PN) (k : Nat) : PN.sizes (l.take k) ≤ PN.sizes l := by
  have := sizes_append (l.take k) (l.drop k)
  rw [List.take_append_drop] at this; omega
theorem sizes_take_succ {l : List PN} {i : Nat} {k : PN} (h : l[i]? = some k) : PN.sizes (l.take i) + k.size ≤ PN.sizes l := by
  obtain ⟨hlt, rfl⟩ := List.getElem?_eq_some_iff.1 h
  have h1 := sizes_take l (i + 1)
  rw [List.take_succ_eq_append_getElem hlt, sizes_append] at h1
  simp only [PN.sizes] at h1; omega
theorem high_lt : ∀ n : PN, n.high < n.size := by
  refine PN.induct _ fun n ih => ?_
  rw [PN.high_eq, PN.size_eq]
  have : ∀ l : List PN, (∀ k ∈ l, k.high < k.size) → PN.highs l ≤ PN.sizes l := by
    intro l
    induction l with
    | nil => intro _; simp [PN.highs]
    | cons x r ih2 => intro h; simp only [PN.highs, PN.sizes]; have := h x (by simp); have := ih2 fun k hk => h k (by simp [hk]); omega
  have := this n.kids ih; omega
theorem highs_le (l : List PN) : PN.highs l ≤ PN.sizes l := by
  induction l with
  | nil => simp [PN.highs]
  | cons x r ih => simp only [PN.highs, PN.sizes]; have := high_lt x; omega
theorem one_e (n : PN) (deep : Int) (m : Ms) (h0 : 0 ≤ m.e) (h1 : m.e ≤ 100) : 0 ≤ (Ms.one n deep m).e ∧ (Ms.one n deep m).e ≤ 100 := by
  unfold Ms.one
  simp only
  split
  · omega
  · split <;> omega
theorem looks_e : ∀ (l : List PN), (∀ k ∈ l, ∀ (deep : Int) (m : Ms), 0 ≤ m.e → m.e ≤ 100 → 0 ≤ (PN.look deep m k).e ∧ (PN.look deep m k).e ≤ 100) → ∀ (deep : Int) (m : Ms), 0 ≤ m.e → m.e ≤ 100 → 0 ≤ (PN.looks deep m l).e ∧ (PN.looks deep m l).e ≤ 100 := by
  intro l
  induction l with
  | nil => intro _ deep m h0 h1; exact ⟨h0, h1⟩
  | cons k r ih =>
    intro h deep m h0 h1
    have := h k (by simp) deep m h0 h1
    exact ih (fun x hx => h x (by simp [hx])) deep _ this.1 this.2
theorem look_e : ∀ (n : PN) (deep : Int) (m : Ms), 0 ≤ m.e → m.e ≤ 100 → 0 ≤ (PN.look deep m n).e ∧ (PN.look deep m n).e ≤ 100 := by
  refine PN.induct _ fun n ih deep m h0 h1 => ?_
  rw [PN.look_eq]
  have := one_e n deep m h0 h1
  exact looks_e n.kids ih (deep + 1) _ this.1 this.2
/-- the bounds of a round -/
theorem looks_bounds (n : PN) (deep : Int) (m : Ms) (d0 : 0 ≤ deep) (d1 : deep + n.size ≤ 100000) (c0 : 0 ≤ m.count) (c1 : m.count + n.size ≤ 100000) (h0 : 0 ≤ m.height) (h1 : m.height ≤ 100000) (e0 : 0 ≤ m.e) (e1 : m.e ≤ 100) {i : Nat} {k : PN} (hk : n.kids[i]? = some k) :
    deep + 1 + k.size ≤ 100000 ∧ 0 ≤ (PN.looks (deep + 1) (Ms.one n deep m) (n.kids.take i)).count ∧ (PN.looks (deep + 1) (Ms.one n deep m) (n.kids.take i)).count + k.size ≤ 100000 ∧
      0 ≤ (PN.looks (deep + 1) (Ms.one n deep m) (n.kids.take i)).height ∧ (PN.looks (deep + 1) (Ms.one n deep m) (n.kids.take i)).height ≤ 100000 ∧ 0 ≤ (PN.looks (deep + 1) (Ms.one n deep m) (n.kids.take i)).e ∧ (PN.looks (deep + 1) (Ms.one n deep m) (n.kids.take i)).e ≤ 100 := by
  have hs := PN.size_eq n
  have ht := sizes_take_succ hk
  have hh := highs_le (n.kids.take i)
  obtain ⟨g1, g2, g3, g4⟩ := looks_spec (n.kids.take i) (fun k _ => look_spec k) (deep + 1) (Ms.one n deep m)
  have o := one_e n deep m e0 e1
  have oe := looks_e (n.kids.take i) (fun k _ => look_e k) (deep + 1) (Ms.one n deep m) o.1 o.2
  have q1 : (Ms.one n deep m).count = m.count + 1 := rfl
  have q2 : (Ms.one n deep m).height = max m.height deep := rfl
  rw [q1] at g1
  rw [q2] at g2 g3
  refine ⟨by omega, by omega, by omega, by omega, by omega, oe.1, oe.2⟩
theorem bad_attrs {n : PN} (ht : n.tag = 0) (h : 0 < n.attrs.length) : n.bad = true := by
  unfold PN.bad
  rw [if_pos ht]
  cases ha : n.attrs with
  | nil => rw [ha] at h; simp at h
  | cons a b => rfl
theorem bad_kids {n : PN} (ht : n.tag = 0) (h : 0 < n.kids.length) : n.bad = true := by
  unfold PN.bad
  rw [if_pos ht]
  cases ha : n.kids with
  | nil => rw [ha] at h; simp at h
  | cons a b => cases n.attrs <;> rfl
theorem bad_text {n : PN} (ht : n.tag = 0) (h : ¬ 0 < n.attrs.length) (k : ¬ 0 < n.kids.length) : n.bad = false := by
  unfold PN.bad
  rw [if_pos ht, List.eq_nil_of_length_eq_zero (by omega : n.attrs.length = 0), List.eq_nil_of_length_eq_zero (by omega : n.kids.length = 0)]; rfl
theorem bad_tag' {n : PN} (ht : n.tag ≠ 0) (h : ¬ (1 ≤ n.tag ∧ n.tag ≤ 16)) : n.bad = true := by
  unfold PN.bad
  rw [if_neg ht, decide_eq_false h]; rfl
theorem bad_said {n : PN} (ht : n.tag ≠ 0) (h : n.text.size ≠ 0) : n.bad = true := by
  unfold PN.bad
  rw [if_neg ht]
  have : (n.text.size == 0) = false := by simpa using h
  rw [this]; simp
theorem bad_fine {n : PN} (ht : n.tag ≠ 0) (h : 1 ≤ n.tag ∧ n.tag ≤ 16) (k : n.text.size = 0) : n.bad = false := by
  unfold PN.bad
  rw [if_neg ht, decide_eq_true h, k]; rfl
theorem text_none {s : ByteArray} (h : s.size = 0) : s = ByteArray.empty := by
  cases s with
  | mk d =>
    have : d.size = 0 := h
    simp at this; subst this; rfl
theorem text_some {s : ByteArray} (h : s.size ≠ 0) : s.toList.isEmpty = false := by
  rw [ByteArray.toList_eq]
  cases hd : s.data.toList with
  | nil =>
    exfalso; apply h
    show s.data.size = 0
    rw [← Array.length_toList, hd]; rfl
  | cons a b => rfl
/-- a block of one cell -/
def One (w : World) (b : Nat) (v : Value) (t : TypeId) : Prop := w.heap[b]? = some (.cells #[v] t (0, 0))
theorem One.cell {w : World} {b : Nat} {v : Value} {t : TypeId} (h : One w b v t) : w.cell? ⟨b, 0, none⟩ = some v := cellOf h rfl
theorem One.free {w : World} {b : Nat} {v : Value} {t : TypeId} (h : One w b v t) : w.frozen? ⟨b, 0, none⟩ = false := freeOf h 0
theorem One.lt {w : World} {b : Nat} {v : Value} {t : TypeId} (h : One w b v t) : b < w.heap.size := (Array.getElem?_eq_some_iff.1 h).1
theorem One.alloc {w : World} {b : Nat} {v : Value} {t : TypeId} (h : One w b v t) (o : Obj) : One (w.alloc o) b v t := (Below.heap_alloc _ _ _ h.lt).trans h
theorem One.set {w : World} {b : Nat} {v : Value} {t : TypeId} (h : One w b v t) (u : Value) : One (w.setCell ⟨b, 0, none⟩ u) b u t := heap_setCell_same h u
theorem One.far {w : World} {b : Nat} {v : Value} {t : TypeId} (h : One w b v t) {p : Addr} (hp : b ≠ p.block) (u : Value) : One (w.setCell p u) b v t := (heap_setCell_other u hp).trans h
theorem One.ext {w w' : World} {b : Nat} {v : Value} {t : TypeId} (h : One w b v t) (k : Ext w w') : One w' b v t := (Below.block k b h.lt).trans h
theorem One.new (w : World) (v : Value) (t : TypeId) : One (w.alloc (.cells #[v] t)) w.heap.size v t := heap_alloc_new w _
/-- the four variables that look has captured -/
structure Held4 (w : World) (bc bh be bl : Nat) (m : Ms) : Prop where
  c : One w bc (.int .i64 m.count) 3
  h : One w bh (.int .i64 m.height) 3
  e : One w be (.int .i64 m.e) 36
  l : One w bl (.func (.func 124) #[] #[.pointer (some ⟨bc, 0, none⟩), .pointer (some ⟨bh, 0, none⟩), .pointer (some ⟨be, 0, none⟩), .pointer (some ⟨bl, 0, none⟩)]) 146
end Go.Proofs.Ytiglflmjidikpaa
