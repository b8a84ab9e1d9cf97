/- Package dom: measure of a plain tree: how many nodes, how high, the error. Conditions: at most 100000 bytes a text, 100000 nodes.
Package dom: measure's inner function, walked.
Package dom: measure, whole.
Package dom: Graft's inner function: a plain tree is put into the tree, node by node. -/
import Derived.Test.YtiglflmjidikpaaD4
import Derived.Test.YtiglflmjidikpaaD5
import Derived.Laws.EntriesVeiled
import Derived.Deep.CutBlock
import Derived.BigRegion
import Derived.RegionTactic
import Derived.ChangeAlike
namespace Go.Proofs.Ytiglflmjidikpaa
open Go Go.RowKit Go.BigFrame
set_option linter.unusedVariables false
set_option linter.unusedSimpArgs false

/-- what measure has in hand -/
structure Ms where
  count : Int
  height : Int
  e : Int
def Ms.one (n : PN) (deep : Int) (m : Ms) : Ms := ⟨m.count + 1, max m.height deep, if n.bad then 1 else if 8192 < (anewB n.text).size ∧ m.e = 0 then 10 else m.e⟩
mutual
def PN.look (deep : Int) (m : Ms) : PN → Ms
  | .mk t a s ks => PN.looks (deep + 1) (Ms.one (.mk t a s ks) deep m) ks
def PN.looks (deep : Int) (m : Ms) : List PN → Ms
  | [] => m
  | k :: r => PN.looks deep (PN.look deep m k) r
end
theorem PN.look_eq (deep : Int) (m : Ms) (n : PN) : PN.look deep m n = PN.looks (deep + 1) (Ms.one n deep m) n.kids := by cases n; rfl
mutual
/-- all texts are short -/
def PN.short : PN → Bool
  | .mk _ a s ks => decide (s.size ≤ 100000) && decide (a.length ≤ 60000) && PN.shorts ks
def PN.shorts : List PN → Bool
  | [] => true
  | k :: r => PN.short k && PN.shorts r
end
theorem PN.short_eq (n : PN) : n.short = (decide (n.text.size ≤ 100000) && decide (n.attrs.length ≤ 60000) && PN.shorts n.kids) := by cases n; rfl
theorem PN.shorts_mem {l : List PN} (h : PN.shorts l = true) {k : PN} (hk : k ∈ l) : k.short = true := by
  induction l with
  | nil => cases hk
  | cons x r ih =>
    simp only [PN.shorts, Bool.and_eq_true] at h
    rcases List.mem_cons.1 hk with rfl | hk
    · exact h.1
    · exact ih h.2 hk
theorem looks_snoc (deep : Int) : ∀ (l : List PN) (m : Ms) (k : PN), PN.looks deep m (l ++ [k]) = PN.look deep (PN.looks deep m l) k := by
  intro l
  induction l with
  | nil => intro m k; rfl
  | cons x r ih => intro m k; simp only [List.cons_append, PN.looks]; exact ih _ _
theorem looks_take (deep : Int) (m : Ms) (l : List PN) (i : Nat) (k : PN) (h : l[i]? = some k) : PN.looks deep m (l.take (i + 1)) = PN.look deep (PN.looks deep m (l.take i)) k := by
  obtain ⟨hlt, rfl⟩ := List.getElem?_eq_some_iff.1 h
  rw [List.take_succ_eq_append_getElem hlt, looks_snoc]
/-- what comes of it -/
theorem looks_spec : ∀ (l : List PN), (∀ k ∈ l, ∀ (deep : Int) (m : Ms), (PN.look deep m k).count = m.count + k.size ∧ (PN.look deep m k).height = max m.height (deep + k.high) ∧ ((PN.look deep m k).e = 0 ↔ m.e = 0 ∧ k.ok = true)) →
    ∀ (deep : Int) (m : Ms), (PN.looks deep m l).count = m.count + PN.sizes l ∧ (max (PN.looks deep m l).height (deep - 1)) = max m.height (deep - 1 + PN.highs l) ∧ m.height ≤ (PN.looks deep m l).height ∧ ((PN.looks deep m l).e = 0 ↔ m.e = 0 ∧ PN.oks l = true) := by
  intro l
  induction l with
  | nil => intro _ deep m; simp [PN.looks, PN.sizes, PN.highs, PN.oks]
  | cons k r ih =>
    intro h deep m
    obtain ⟨h1, h2, h3⟩ := h k (by simp) deep m
    obtain ⟨g1, g2, g3, g4⟩ := ih (fun x hx => h x (by simp [hx])) deep (PN.look deep m k)
    simp only [PN.looks, PN.sizes, PN.highs, PN.oks]
    refine ⟨by rw [g1, h1]; push_cast; omega, by omega, by omega, ?_⟩
    rw [g4, h3, Bool.and_eq_true, and_assoc]
theorem look_spec : ∀ (n : PN) (deep : Int) (m : Ms), (PN.look deep m n).count = m.count + n.size ∧ (PN.look deep m n).height = max m.height (deep + n.high) ∧ ((PN.look deep m n).e = 0 ↔ m.e = 0 ∧ n.ok = true) := by
  refine PN.induct _ fun n ih deep m => ?_
  obtain ⟨g1, g2, g3, g4⟩ := looks_spec n.kids ih (deep + 1) (Ms.one n deep m)
  rw [PN.look_eq, PN.size_eq, PN.high_eq, PN.ok_eq]
  have e1 : (Ms.one n deep m).count = m.count + 1 := rfl
  have e2 : (Ms.one n deep m).height = max m.height deep := rfl
  rw [e1] at g1
  rw [e2] at g2 g3
  refine ⟨by rw [g1]; push_cast; omega, by omega, ?_⟩
  rw [g4]
  show (if n.bad then (1 : Int) else if 8192 < (anewB n.text).size ∧ m.e = 0 then 10 else m.e) = 0 ∧ _ ↔ _
  cases hb : n.bad with
  | true => simp
  | false =>
    simp only [Bool.false_eq_true, if_false, Bool.not_false, Bool.true_and, Bool.and_eq_true, decide_eq_true_eq]
    by_cases hl : 8192 < (anewB n.text).size
    · by_cases he : m.e = 0
      · rw [if_pos ⟨hl, he⟩]
        constructor
        · intro h; exact absurd h.1 (by decide)
        · intro h; omega
      · rw [if_neg (fun h => he h.2)]
        constructor
        · intro h; exact absurd h.1 he
        · intro h; exact absurd h.1 he
    · rw [if_neg (fun h => hl h.1)]
      constructor
      · intro h; exact ⟨h.1, by omega, h.2⟩
      · intro h; exact ⟨h.1, h.2.2⟩
theorem sizes_append : ∀ (l r : List PN), PN.sizes (l ++ r) = PN.sizes l + PN.sizes r := by
  intro l
  induction l with
  | nil => intro r; simp [PN.sizes]
  | cons x l ih => intro r; simp only [List.cons_append, PN.sizes, ih]; omega
theorem sizes_take (l : List PN) (k : Nat) : PN.sizes (l.take k) ≤ PN.sizes l := by
  have := sizes_append (l.take k) (l.drop k)
  rw [List.take_append_drop] at this; omega
theorem sizes_take_succ {l : List PN} {i : Nat} {k : PN} (h : l[i]? = some k) : PN.sizes (l.take i) + k.size ≤ PN.sizes l := by
  obtain ⟨hlt, rfl⟩ := List.getElem?_eq_some_iff.1 h
  have h1 := sizes_take l (i + 1)
  rw [List.take_succ_eq_append_getElem hlt, sizes_append] at h1
  simp only [PN.sizes] at h1; omega
theorem high_lt : ∀ n : PN, n.high < n.size := by
  refine PN.induct _ fun n ih => ?_
  rw [PN.high_eq, PN.size_eq]
  have : ∀ l : List PN, (∀ k ∈ l, k.high < k.size) → PN.highs l ≤ PN.sizes l := by
    intro l
    induction l with
    | nil => intro _; simp [PN.highs]
    | cons x r ih2 => intro h; simp only [PN.highs, PN.sizes]; have := h x (by simp); have := ih2 fun k hk => h k (by simp [hk]); omega
  have := this n.kids ih; omega
theorem highs_le (l : List PN) : PN.highs l ≤ PN.sizes l := by
  induction l with
  | nil => simp [PN.highs]
  | cons x r ih => simp only [PN.highs, PN.sizes]; have := high_lt x; omega
theorem one_e (n : PN) (deep : Int) (m : Ms) (h0 : 0 ≤ m.e) (h1 : m.e ≤ 100) : 0 ≤ (Ms.one n deep m).e ∧ (Ms.one n deep m).e ≤ 100 := by
  unfold Ms.one
  simp only
  split
  · omega
  · split <;> omega
theorem looks_e : ∀ (l : List PN), (∀ k ∈ l, ∀ (deep : Int) (m : Ms), 0 ≤ m.e → m.e ≤ 100 → 0 ≤ (PN.look deep m k).e ∧ (PN.look deep m k).e ≤ 100) → ∀ (deep : Int) (m : Ms), 0 ≤ m.e → m.e ≤ 100 → 0 ≤ (PN.looks deep m l).e ∧ (PN.looks deep m l).e ≤ 100 := by
  intro l
  induction l with
  | nil => intro _ deep m h0 h1; exact ⟨h0, h1⟩
  | cons k r ih =>
    intro h deep m h0 h1
    have := h k (by simp) deep m h0 h1
    exact ih (fun x hx => h x (by simp [hx])) deep _ this.1 this.2
theorem look_e : ∀ (n : PN) (deep : Int) (m : Ms), 0 ≤ m.e → m.e ≤ 100 → 0 ≤ (PN.look deep m n).e ∧ (PN.look deep m n).e ≤ 100 := by
  refine PN.induct _ fun n ih deep m h0 h1 => ?_
  rw [PN.look_eq]
  have := one_e n deep m h0 h1
  exact looks_e n.kids ih (deep + 1) _ this.1 this.2
/-- the bounds of a round -/
theorem looks_bounds (n : PN) (deep : Int) (m : Ms) (d0 : 0 ≤ deep) (d1 : deep + n.size ≤ 100000) (c0 : 0 ≤ m.count) (c1 : m.count + n.size ≤ 100000) (h0 : 0 ≤ m.height) (h1 : m.height ≤ 100000) (e0 : 0 ≤ m.e) (e1 : m.e ≤ 100) {i : Nat} {k : PN} (hk : n.kids[i]? = some k) :
    deep + 1 + k.size ≤ 100000 ∧ 0 ≤ (PN.looks (deep + 1) (Ms.one n deep m) (n.kids.take i)).count ∧ (PN.looks (deep + 1) (Ms.one n deep m) (n.kids.take i)).count + k.size ≤ 100000 ∧
      0 ≤ (PN.looks (deep + 1) (Ms.one n deep m) (n.kids.take i)).height ∧ (PN.looks (deep + 1) (Ms.one n deep m) (n.kids.take i)).height ≤ 100000 ∧ 0 ≤ (PN.looks (deep + 1) (Ms.one n deep m) (n.kids.take i)).e ∧ (PN.looks (deep + 1) (Ms.one n deep m) (n.kids.take i)).e ≤ 100 := by
  have hs := PN.size_eq n
  have ht := sizes_take_succ hk
  have hh := highs_le (n.kids.take i)
  obtain ⟨g1, g2, g3, g4⟩ := looks_spec (n.kids.take i) (fun k _ => look_spec k) (deep + 1) (Ms.one n deep m)
  have o := one_e n deep m e0 e1
  have oe := looks_e (n.kids.take i) (fun k _ => look_e k) (deep + 1) (Ms.one n deep m) o.1 o.2
  have q1 : (Ms.one n deep m).count = m.count + 1 := rfl
  have q2 : (Ms.one n deep m).height = max m.height deep := rfl
  rw [q1] at g1
  rw [q2] at g2 g3
  refine ⟨by omega, by omega, by omega, by omega, by omega, oe.1, oe.2⟩
theorem bad_attrs {n : PN} (ht : n.tag = 0) (h : 0 < n.attrs.length) : n.bad = true := by
  unfold PN.bad
  rw [if_pos ht]
  cases ha : n.attrs with
  | nil => rw [ha] at h; simp at h
  | cons a b => rfl
theorem bad_kids {n : PN} (ht : n.tag = 0) (h : 0 < n.kids.length) : n.bad = true := by
  unfold PN.bad
  rw [if_pos ht]
  cases ha : n.kids with
  | nil => rw [ha] at h; simp at h
  | cons a b => cases n.attrs <;> rfl
theorem bad_text {n : PN} (ht : n.tag = 0) (h : ¬ 0 < n.attrs.length) (k : ¬ 0 < n.kids.length) : n.bad = false := by
  unfold PN.bad
  rw [if_pos ht, List.eq_nil_of_length_eq_zero (by omega : n.attrs.length = 0), List.eq_nil_of_length_eq_zero (by omega : n.kids.length = 0)]; rfl
theorem bad_tag' {n : PN} (ht : n.tag ≠ 0) (h : ¬ (1 ≤ n.tag ∧ n.tag ≤ 16)) : n.bad = true := by
  unfold PN.bad
  rw [if_neg ht, decide_eq_false h]; rfl
theorem bad_said {n : PN} (ht : n.tag ≠ 0) (h : n.text.size ≠ 0) : n.bad = true := by
  unfold PN.bad
  rw [if_neg ht]
  have : (n.text.size == 0) = false := by simpa using h
  rw [this]; simp
theorem bad_fine {n : PN} (ht : n.tag ≠ 0) (h : 1 ≤ n.tag ∧ n.tag ≤ 16) (k : n.text.size = 0) : n.bad = false := by
  unfold PN.bad
  rw [if_neg ht, decide_eq_true h, k]; rfl
theorem text_none {s : ByteArray} (h : s.size = 0) : s = ByteArray.empty := by
  cases s with
  | mk d =>
    have : d.size = 0 := h
    simp at this; subst this; rfl
theorem text_some {s : ByteArray} (h : s.size ≠ 0) : s.toList.isEmpty = false := by
  rw [ByteArray.toList_eq]
  cases hd : s.data.toList with
  | nil =>
    exfalso; apply h
    show s.data.size = 0
    rw [← Array.length_toList, hd]; rfl
  | cons a b => rfl
/-- a block of one cell -/
def One (w : World) (b : Nat) (v : Value) (t : TypeId) : Prop := w.heap[b]? = some (.cells #[v] t (0, 0))
theorem One.cell {w : World} {b : Nat} {v : Value} {t : TypeId} (h : One w b v t) : w.cell? ⟨b, 0, none⟩ = some v := cellOf h rfl
theorem One.free {w : World} {b : Nat} {v : Value} {t : TypeId} (h : One w b v t) : w.frozen? ⟨b, 0, none⟩ = false := freeOf h 0
theorem One.lt {w : World} {b : Nat} {v : Value} {t : TypeId} (h : One w b v t) : b < w.heap.size := (Array.getElem?_eq_some_iff.1 h).1
theorem One.alloc {w : World} {b : Nat} {v : Value} {t : TypeId} (h : One w b v t) (o : Obj) : One (w.alloc o) b v t := (Below.heap_alloc _ _ _ h.lt).trans h
theorem One.set {w : World} {b : Nat} {v : Value} {t : TypeId} (h : One w b v t) (u : Value) : One (w.setCell ⟨b, 0, none⟩ u) b u t := heap_setCell_same h u
theorem One.far {w : World} {b : Nat} {v : Value} {t : TypeId} (h : One w b v t) {p : Addr} (hp : b ≠ p.block) (u : Value) : One (w.setCell p u) b v t := (heap_setCell_other u hp).trans h
theorem One.ext {w w' : World} {b : Nat} {v : Value} {t : TypeId} (h : One w b v t) (k : Ext w w') : One w' b v t := (Below.block k b h.lt).trans h
theorem One.new (w : World) (v : Value) (t : TypeId) : One (w.alloc (.cells #[v] t)) w.heap.size v t := heap_alloc_new w _
/-- the four variables that look has captured -/
structure Held4 (w : World) (bc bh be bl : Nat) (m : Ms) : Prop where
  c : One w bc (.int .i64 m.count) 3
  h : One w bh (.int .i64 m.height) 3
  e : One w be (.int .i64 m.e) 36
  l : One w bl (.func (.func 124) #[] #[.pointer (some ⟨bc, 0, none⟩), .pointer (some ⟨bh, 0, none⟩), .pointer (some ⟨be, 0, none⟩), .pointer (some ⟨bl, 0, none⟩)]) 146
end Go.Proofs.Ytiglflmjidikpaa

namespace Go.Proofs.Ytiglflmjidikpaa
open Go Go.RowKit Go.BigFrame
set_option linter.unusedVariables false
set_option linter.unusedSimpArgs false

def LookIs (w0 : World) (bc bh be bl : Nat) (m : Ms) (e : Ending) (w' : World) : Prop := e = .returned (.tuple #[]) ∧ Ext w0 w' ∧ Held4 w' bc bh be bl m
set_option maxRecDepth 100000 in
set_option maxHeartbeats 4000000 in
theorem look_any {w0 : World} {bc bh be bl : Nat} (n1 : bc ≠ bh) (n2 : bc ≠ be) (n3 : bc ≠ bl) (n4 : bh ≠ be) (n5 : bh ≠ bl) (n6 : be ≠ bl) (b1 : w0.heap.size ≤ bc) (b2 : w0.heap.size ≤ bh) (b3 : w0.heap.size ≤ be) (b4 : w0.heap.size ≤ bl) :
    ∀ (n : PN), n.short = true → ∀ (nv : Value) (deep : Int) (m : Ms) (w : World), RdN w0 n nv → 0 ≤ deep → deep + n.size ≤ 100000 → 0 ≤ m.count → m.count + n.size ≤ 100000 → 0 ≤ m.height → m.height ≤ 100000 → 0 ≤ m.e → m.e ≤ 100 → Ext w0 w → Held4 w bc bh be bl m →
      Calls Try.prog 124 #[nv, .int .i64 deep, .pointer (some ⟨bc, 0, none⟩), .pointer (some ⟨bh, 0, none⟩), .pointer (some ⟨be, 0, none⟩), .pointer (some ⟨bl, 0, none⟩)] w (LookIs w0 bc bh be bl (PN.look deep m n)) := by
  refine PN.induct _ fun n ih hsh nv deep m w hr d0 d1 c0 c1 h0 h1 e0 e1 hx hh => ?_
  obtain ⟨av, kv, rfl, ha, hk⟩ := hr.open
  obtain ⟨aa, acap, rfl, hac⟩ := ha.len_of
  obtain ⟨ka, kcap, rfl, hkc, hkm, hkn, hkr⟩ := hk
  have n1' := Ne.symm n1
  have n2' := Ne.symm n2
  have n3' := Ne.symm n3
  have n4' := Ne.symm n4
  have n5' := Ne.symm n5
  have n6' := Ne.symm n6
  have hbox := heap_alloc_new w (.cells #[.int .i64 n.tag, .slice aa n.attrs.length acap, .string n.text, .slice ka n.kids.length kcap] 30)
  have hh1 : Held4 (w.alloc (.cells #[.int .i64 n.tag, .slice aa n.attrs.length acap, .string n.text, .slice ka n.kids.length kcap] 30)) bc bh be bl m := ⟨hh.c.alloc _, hh.h.alloc _, hh.e.alloc _, hh.l.alloc _⟩
  have x1 := hx.alloc (.cells #[.int .i64 n.tag, .slice aa n.attrs.length acap, .string n.text, .slice ka n.kids.length kcap] 30)
  have sz : (w.alloc (.cells #[.int .i64 n.tag, .slice aa n.attrs.length acap, .string n.text, .slice ka n.kids.length kcap] 30)).heap.size = w.heap.size + 1 := by simp
  have lc : bc ≠ w.heap.size := Nat.ne_of_lt hh.c.lt
  have lh : bh ≠ w.heap.size := Nat.ne_of_lt hh.h.lt
  have le : be ≠ w.heap.size := Nat.ne_of_lt hh.e.lt
  have lc' := Ne.symm lc
  have lh' := Ne.symm lh
  have le' := Ne.symm le
  have HA := Lib.hid ha
  have HKR := Lib.hid hkr
  have HKN := Lib.hid hkn
  have HX := Lib.hid hx
  have HH := Lib.hid hh
  have HSH := Lib.hid hsh
  have IH := Lib.hid ih
  unfold maxLen at hkm
  clear ha hkr hkn hx hh hsh ih hr
  go_enter Try.func124, Try.ntmps124
  go_upto_region 1 with fail
  obtain ⟨wb, hwb⟩ : ∃ wb : World, wb = w.alloc (.cells #[.int .i64 n.tag, .slice aa n.attrs.length acap, .string n.text, .slice ka n.kids.length kcap] 30) := ⟨_, rfl⟩
  rw [← hwb] at hbox hh1 x1 sz ⊢
  clear hwb
  have cc := hh1.c.cell
  have ch := hh1.h.cell
  have ce := hh1.e.cell
  have fc := hh1.c.free
  have fh := hh1.h.free
  have fe := hh1.e.free
  have k0 := cellOf hbox (i := 0) (v := .int .i64 n.tag) rfl
  have k1 := cellOf hbox (i := 1) (v := .slice aa n.attrs.length acap) rfl
  have k2 := cellOf hbox (i := 2) (v := .string n.text) rfl
  have k3 := cellOf hbox (i := 3) (v := .slice ka n.kids.length kcap) rfl
  have HB := Lib.hid hbox
  have HH1 := Lib.hid hh1
  have HX1 := Lib.hid x1
  have SZ := Lib.hid sz
  clear hbox hh1 x1 sz
  have hz1 : Held4 ((wb.setCell ⟨bc, 0, none⟩ (.int .i64 (m.count + 1))).setCell ⟨bh, 0, none⟩ (.int .i64 (max m.height deep))) bc bh be bl ⟨m.count + 1, max m.height deep, m.e⟩ :=
    ⟨(HH1.out.c.set _).far n1 _, (HH1.out.h.far n1' _).set _, (HH1.out.e.far n2' _).far n4' _, (HH1.out.l.far n3' _).far n5' _⟩
  have hz2 : Ext w0 ((wb.setCell ⟨bc, 0, none⟩ (.int .i64 (m.count + 1))).setCell ⟨bh, 0, none⟩ (.int .i64 (max m.height deep))) := (HX1.out.setCell b1 _).setCell b2 _
  have hz3 : ((wb.setCell ⟨bc, 0, none⟩ (.int .i64 (m.count + 1))).setCell ⟨bh, 0, none⟩ (.int .i64 (max m.height deep))).heap[w.heap.size]? = some (.cells #[.int .i64 n.tag, .slice aa n.attrs.length acap, .string n.text, .slice ka n.kids.length kcap] 30 (0, 0)) :=
    (heap_setCell_other _ lh').trans ((heap_setCell_other _ lc').trans HB.out)
  have HZ1 := Lib.hid hz1
  have HZ2 := Lib.hid hz2
  have HZ3 := Lib.hid hz3
  clear hz1 hz2 hz3
  go_upto_block 0 with fail
  obtain ⟨wz, hwz⟩ : ∃ wz : World, wz = (wb.setCell ⟨bc, 0, none⟩ (.int .i64 (m.count + 1))).setCell ⟨bh, 0, none⟩ (.int .i64 (max m.height deep)) := ⟨_, rfl⟩
  rw [← hwz] at HZ1 HZ2 HZ3 ⊢
  clear hwz cc ch ce fc fh fe k0 k1 k2 k3
  go_cut [8] (fun _ wx => Ext w0 wx ∧ Held4 wx bc bh be bl (Ms.one n deep m) ∧ wx.cell? ⟨w.heap.size, 3, none⟩ = some (.slice ka n.kids.length kcap))
  case first =>
    have ce : wz.cell? ⟨be, 0, none⟩ = some (.int .i64 m.e) := HZ1.out.e.cell
    have fe := HZ1.out.e.free
    have k0 := cellOf HZ3.out (i := 0) (v := .int .i64 n.tag) rfl
    have k1 := cellOf HZ3.out (i := 1) (v := .slice aa n.attrs.length acap) rfl
    have k2 := cellOf HZ3.out (i := 2) (v := .string n.text) rfl
    have k3 := cellOf HZ3.out (i := 3) (v := .slice ka n.kids.length kcap) rfl
    have hbad1 : n.bad = true → Ext w0 (wz.setCell ⟨be, 0, none⟩ (.int .i64 1)) ∧ Held4 (wz.setCell ⟨be, 0, none⟩ (.int .i64 1)) bc bh be bl (Ms.one n deep m) ∧ (wz.setCell ⟨be, 0, none⟩ (.int .i64 1)).cell? ⟨w.heap.size, 3, none⟩ = some (.slice ka n.kids.length kcap) := fun hb => by
      refine ⟨HZ2.out.setCell b3 _, ?_, cellOf ((heap_setCell_other _ le').trans HZ3.out) rfl⟩
      have e : Ms.one n deep m = ⟨m.count + 1, max m.height deep, 1⟩ := by unfold Ms.one; rw [if_pos hb]
      rw [e]
      exact ⟨HZ1.out.c.far n2 _, HZ1.out.h.far n4 _, HZ1.out.e.set _, HZ1.out.l.far n6' _⟩
    have hlong1 : ∀ wy, n.bad = false → 8192 < (anewB n.text).size → m.e = 0 → Ext wz wy → Ext w0 (wy.setCell ⟨be, 0, none⟩ (.int .i64 10)) ∧ Held4 (wy.setCell ⟨be, 0, none⟩ (.int .i64 10)) bc bh be bl (Ms.one n deep m) ∧ (wy.setCell ⟨be, 0, none⟩ (.int .i64 10)).cell? ⟨w.heap.size, 3, none⟩ = some (.slice ka n.kids.length kcap) := fun wy hb hl he hy => by
      refine ⟨(HZ2.out.trans hy).setCell b3 _, ?_, cellOf ((heap_setCell_other _ le').trans (hy.block HZ3.out)) rfl⟩
      have e : Ms.one n deep m = ⟨m.count + 1, max m.height deep, 10⟩ := by unfold Ms.one; rw [if_neg (by rw [hb]; decide), if_pos ⟨hl, he⟩]
      rw [e]
      exact ⟨(HZ1.out.c.ext hy).far n2 _, (HZ1.out.h.ext hy).far n4 _, (HZ1.out.e.ext hy).set _, (HZ1.out.l.ext hy).far n6' _⟩
    have hfine1 : ∀ wy, n.bad = false → ¬ (8192 < (anewB n.text).size ∧ m.e = 0) → Ext wz wy → Ext w0 wy ∧ Held4 wy bc bh be bl (Ms.one n deep m) ∧ wy.cell? ⟨w.heap.size, 3, none⟩ = some (.slice ka n.kids.length kcap) := fun wy hb hl hy => by
      refine ⟨HZ2.out.trans hy, ?_, cellOf (hy.block HZ3.out) rfl⟩
      have e : Ms.one n deep m = ⟨m.count + 1, max m.height deep, m.e⟩ := by unfold Ms.one; rw [if_neg (by rw [hb]; decide), if_neg hl]
      rw [e]
      exact ⟨HZ1.out.c.ext hy, HZ1.out.h.ext hy, HZ1.out.e.ext hy, HZ1.out.l.ext hy⟩
    have HB1 := Lib.hid hbad1
    have HL1 := Lib.hid hlong1
    have HF1 := Lib.hid hfine1
    have hts : n.text.size ≤ 100000 := by have := HSH.out; rw [PN.short_eq] at this; simp at this; exact this.1.1
    have has : n.attrs.length ≤ 60000 := by have := HSH.out; rw [PN.short_eq] at this; simp at this; exact this.1.2
    have hbs : (anewB n.text).size ≤ 400000 := by have := anewB_size n.text; omega
    have HTS := Lib.hid hts
    have hbb : n.bad = (if n.tag = 0 then !(n.attrs.isEmpty && n.kids.isEmpty) else !(decide (1 ≤ n.tag ∧ n.tag ≤ 16) && n.text.size == 0)) := rfl
    have HBB := Lib.hid hbb
    clear hbad1 hlong1 hfine1 hbb hts
    -- what is left of the ways where the node itself may be
    have hfine : n.bad = false → ∀ wy, Ext wz wy → (if 8192 < (anewB n.text).size ∧ m.e = 0 then True else True) := fun _ _ _ => by split <;> trivial
    clear hfine
    by_cases ht : n.tag = 0
    · have tb : (n.tag == 0) = true := by simp [ht]
      have HT := Lib.hid ht
      by_cases hA : 0 < n.attrs.length
      · have HBAD : Hid (n.bad = true) := Lib.hid (bad_attrs ht hA)
        clear ht
        go_wp2_with (fail)
        go_meet
        exact HB1.out HBAD.out
      · have hA0 : n.attrs.length = 0 := by omega
        by_cases hK : 0 < n.kids.length
        · have HBAD : Hid (n.bad = true) := Lib.hid (bad_kids ht hK)
          clear ht hA0
          go_wp2_with (fail)
          go_meet
          exact HB1.out HBAD.out
        · have HBAD : Hid (n.bad = false) := Lib.hid (bad_text ht hA hK)
          clear ht hA0
          by_cases hl : 8192 < (anewB n.text).size
          · by_cases he : m.e = 0
            · have eb : (m.e == 0) = true := by simp [he]
              have HE := Lib.hid he
              clear he
              go_wp2_with (go_at_call 87; refine (anew_any _ HTS.out _).mono ?_; rintro e w' ⟨rfl, hy⟩; have ce : _ = some (Value.int IntKind.i64 m.e) := (HZ1.out.e.ext hy).cell; have fe := (HZ1.out.e.ext hy).free)
              go_meet
              exact HL1.out _ HBAD.out hl HE.out hy
            · have eb : (m.e == 0) = false := by simpa using he
              have HE := Lib.hid he
              clear he
              go_wp2_with (go_at_call 87; refine (anew_any _ HTS.out _).mono ?_; rintro e w' ⟨rfl, hy⟩; have ce : _ = some (Value.int IntKind.i64 m.e) := (HZ1.out.e.ext hy).cell; have fe := (HZ1.out.e.ext hy).free)
              go_meet
              exact HF1.out _ HBAD.out (fun h => HE.out h.2) hy
          · go_wp2_with (go_at_call 87; refine (anew_any _ HTS.out _).mono ?_; rintro e w' ⟨rfl, hy⟩; have ce : _ = some (Value.int IntKind.i64 m.e) := (HZ1.out.e.ext hy).cell; have fe := (HZ1.out.e.ext hy).free)
            go_meet
            exact HF1.out _ HBAD.out (fun h => hl h.1) hy
    · have tb : (n.tag == 0) = false := by simpa using ht
      have HT := Lib.hid ht
      by_cases hE : 1 ≤ n.tag ∧ n.tag ≤ 16
      · by_cases hS : n.text.size = 0
        · have HBAD : Hid (n.bad = false) := Lib.hid (bad_fine ht hE hS)
          have hemp := text_none hS
          have hanew : (anewB n.text).size = 0 := by rw [hemp]; rfl
          have hsb : n.text.toList.isEmpty = true := by rw [hemp, ByteArray.toList_eq]; rfl
          have hl : ¬ 8192 < (anewB n.text).size := by omega
          obtain ⟨E1, E2⟩ := hE
          have hst : n.text.toList = [] := by rw [hemp, ByteArray.toList_eq]; rfl
          clear ht hS hemp hanew
          go_wp2_with (first
            | (go_at_call 90; refine (element_yes _ E1 E2 _).mono ?_; rintro e w' ⟨rfl, rfl⟩)
            | (go_at_call 87; refine (anew_any _ HTS.out _).mono ?_; rintro e w' ⟨rfl, hy⟩; have ce : _ = some (Value.int IntKind.i64 m.e) := (HZ1.out.e.ext hy).cell; have fe := (HZ1.out.e.ext hy).free))
          go_meet
          exact HF1.out _ HBAD.out (fun h => hl h.1) hy
        · have HBAD : Hid (n.bad = true) := Lib.hid (bad_said ht hS)
          have hsb := text_some hS
          have hst : !n.text.toList.isEmpty := by rw [hsb]; rfl
          obtain ⟨E1, E2⟩ := hE
          clear ht hS
          go_wp2_with (go_at_call 90; refine (element_yes _ E1 E2 _).mono ?_; rintro e w' ⟨rfl, rfl⟩)
          go_meet
          exact HB1.out HBAD.out
      · have HBAD : Hid (n.bad = true) := Lib.hid (bad_tag' ht hE)
        have HEE := Lib.hid hE
        clear ht hE
        go_wp2_with (go_at_call 90; refine (element_no _ HEE.out _).mono ?_; rintro e w' ⟨rfl, rfl⟩)
        go_meet
        exact HB1.out HBAD.out
  case rest =>
    obtain ⟨x2, h2, k3⟩ := hcut
    have hkl : (n.kids.length : Int) ≤ 9223372036854775807 := by omega
    have HX2 := Lib.hid x2
    have HH2 := Lib.hid h2
    clear x2 h2
    go_wp2_with fail
    go_loopw [10, 61] (fun _ i wr => ∃ k : Nat, k ≤ n.kids.length ∧ i = .int .i64 k ∧ Ext w0 wr ∧ Held4 wr bc bh be bl (PN.looks (deep + 1) (Ms.one n deep m) (n.kids.take k))) (fun _ i _ => n.kids.length - (intOf i).toNat)
    case atStart => exact ⟨0, Nat.zero_le _, rfl, HX2.out, by simpa [PN.looks] using HH2.out⟩
    case round =>
      obtain ⟨k, hk, rfl, xr, hr⟩ := hrel
      have HXR := Lib.hid xr
      have HHR := Lib.hid hr
      have cl := hr.l.cell
      clear xr hr
      by_cases hlt : k < n.kids.length
      · obtain ⟨x, hx⟩ : ∃ x, n.kids[k]? = some x := ⟨n.kids[k], by simp [hlt]⟩
        cases ka with
        | none => exact absurd (HKN.out rfl).1 (by omega)
        | some a =>
          obtain ⟨b, off, sp⟩ := a
          obtain ⟨c0', c1', c2', c3', q0, q1, q2, q3, hrd⟩ := HKR.out _ rfl k x hx
          obtain ⟨av', kv', e, ha', hk'⟩ := hrd.open
          obtain ⟨aa', acap', e2, _⟩ := ha'.len_of
          obtain ⟨ka', kcap', e3, _⟩ := hk'
          subst e2 e3
          cases e
          clear ha'
          replace q0 := HXR.out.cells _ _ q0
          replace q1 := HXR.out.cells _ _ q1
          replace q2 := HXR.out.cells _ _ q2
          replace q3 := HXR.out.cells _ _ q3
          rw [add_later _ _ _ (by decide)] at q1 q2 q3
          obtain ⟨g1, g2, g3, g4, g5, g6, g7⟩ := looks_bounds n deep m d0 d1 c0 c1 h0 h1 e0 e1 hx
          have hmem : x ∈ n.kids := List.mem_of_getElem? hx
          have hshx : x.short = true := by
            have := HSH.out; rw [PN.short_eq] at this; simp at this
            exact PN.shorts_mem this.2 hmem
          have cl' := (HHR.out.l.alloc (.cells #[.int .i64 x.tag, .slice aa' x.attrs.length acap', .string x.text, .slice ka' x.kids.length kcap'] 30)).cell
          have hrec := (fun w' hw' hh' => IH.out x hmem hshx _ (deep + 1) _ w' hrd (by omega) g1 g2 g3 g4 g5 g6 g7 hw' hh') (wr.alloc (.cells #[.int .i64 x.tag, .slice aa' x.attrs.length acap', .string x.text, .slice ka' x.kids.length kcap'] 30)) (HXR.out.alloc _) ⟨HHR.out.c.alloc _, HHR.out.h.alloc _, HHR.out.e.alloc _, HHR.out.l.alloc _⟩
          have HREC := Lib.hid hrec
          have HXX := Lib.hid hx
          have ndl : deep + 1 ≤ 9223372036854775807 := by omega
          clear hx hrec hrd hmem hshx g1 g2 g3 g4 g5 g6 g7
          go_wp2_with fail
          refine HREC.out.mono ?_
          rintro e w' ⟨rfl, hx', hh'⟩
          go_wp2_with fail
          go_roundw
          case rel =>
            refine ⟨k + 1, by omega, by go_num, hx', ?_⟩
            rw [looks_take _ _ _ _ _ HXX.out]
            exact hh'
          case measure => simp [intOf]; omega
      · go_wp2_with fail
        go_end0
        refine ⟨rfl, HXR.out, ?_⟩
        have e : n.kids.take k = n.kids := List.take_of_length_le (by omega)
        have h := HHR.out
        rw [e, ← PN.look_eq] at h
        exact h
end Go.Proofs.Ytiglflmjidikpaa

namespace Go.Proofs.Ytiglflmjidikpaa
open Go Go.RowKit Go.BigFrame
set_option linter.unusedVariables false
set_option linter.unusedSimpArgs false

theorem One.at (w : World) (b : Nat) (v : Value) (t : TypeId) (hb : b = w.heap.size) : One (w.alloc (.cells #[v] t)) b v t := by subst hb; exact One.new w v t
def RThree (a b c : Value) (w : World) (e : Ending) (w' : World) : Prop := e = .returned (.tuple #[a, b, c]) ∧ Ext w w'
abbrev lookF (b : Nat) : Value := .func (.func 124) #[] #[.pointer (some ⟨b + 1, 0, none⟩), .pointer (some ⟨b + 2, 0, none⟩), .pointer (some ⟨b + 3, 0, none⟩), .pointer (some ⟨b + 4, 0, none⟩)]
set_option maxRecDepth 100000 in
set_option maxHeartbeats 4000000 in
theorem measure_any {w : World} {n : PN} {nv : Value} (hr : RdN w n nv) (hsh : n.short = true) (hs : n.size ≤ 90000) :
    Calls Try.prog 91 #[nv] w (RThree (.int .i64 n.size) (.int .i64 n.high) (.int .i64 (PN.look 0 ⟨0, 0, 0⟩ n).e) w) := by
  obtain ⟨av, kv, rfl, ha, hk⟩ := hr.open
  obtain ⟨aa, acap, rfl, hac⟩ := ha.len_of
  obtain ⟨ka, kcap, rfl, hkc, hkm, hkn, hkr⟩ := hk
  have hz := fun x : World => (show Ext w x → Held4 x (w.heap.size + 1) (w.heap.size + 2) (w.heap.size + 3) (w.heap.size + 4) ⟨0, 0, 0⟩ → Calls Try.prog 124 #[.agg #[.int .i64 n.tag, .slice aa n.attrs.length acap, .string n.text, .slice ka n.kids.length kcap], .int .i64 0, .pointer (some ⟨w.heap.size + 1, 0, none⟩), .pointer (some ⟨w.heap.size + 2, 0, none⟩), .pointer (some ⟨w.heap.size + 3, 0, none⟩), .pointer (some ⟨w.heap.size + 4, 0, none⟩)] x (LookIs w (w.heap.size + 1) (w.heap.size + 2) (w.heap.size + 3) (w.heap.size + 4) (PN.look 0 ⟨0, 0, 0⟩ n)) from
    look_any (by omega) (by omega) (by omega) (by omega) (by omega) (by omega) (by omega) (by omega) (by omega) (by omega) n hsh _ 0 ⟨0, 0, 0⟩ x hr (Int.le_refl 0) (by omega) (Int.le_refl 0) (by show (0 : Int) + n.size ≤ 100000; omega) (Int.le_refl 0) (by decide) (Int.le_refl 0) (by decide))
  have hl := look_spec n 0 ⟨0, 0, 0⟩
  have HZ := Lib.hid hz
  have HL := Lib.hid hl
  clear hz hl hkr hkn ha hr
  go_enter Try.func91, Try.ntmps91
  go_wp2_with fail
  refine (HZ.out _ ?_ ?_).mono ?_
  · exact ((((((Ext.refl w).alloc _).alloc _).alloc _).alloc _).alloc _)
  · exact ⟨(((One.at (w.alloc _) _ (.int .i64 0) 3 (by simp)).alloc _).alloc _).alloc _, ((One.at ((w.alloc _).alloc _) _ (.int .i64 0) 3 (by simp)).alloc _).alloc _, (One.at (((w.alloc _).alloc _).alloc _) _ (.int .i64 0) 36 (by simp)).alloc _,
      One.at ((((w.alloc _).alloc _).alloc _).alloc _) _ (lookF w.heap.size) 146 (by simp)⟩
  rintro e w1 ⟨rfl, hx, hh⟩
  obtain ⟨l1, l2, l3⟩ := HL.out
  have q1 : (PN.look 0 ⟨0, 0, 0⟩ n).count = (n.size : Int) := by rw [l1]; simp
  have q2 : (PN.look 0 ⟨0, 0, 0⟩ n).height = (n.high : Int) := by rw [l2]; show max (0 : Int) (0 + (n.high : Int)) = _; omega
  obtain ⟨hc, hh', he, hf⟩ := hh
  rw [q1] at hc
  rw [q2] at hh'
  have cc := hc.cell
  have ch := hh'.cell
  have ce := he.cell
  have fc := hc.free
  have fh := hh'.free
  have fe := he.free
  clear l1 l2 l3 q1 q2 HL hc hh' he hf HZ
  generalize (PN.look 0 ⟨0, 0, 0⟩ n).e = E at *
  go_wp2_with fail
  go_region
  go_wp2
  refine bodyPost_ret (v := .tuple #[.int .i64 n.size, .int .i64 n.high, .int .i64 E]) (by simp [results, Try.results91, go_sem, cc, ch, ce]) rfl ⟨rfl, ?_⟩
  exact (((hx.setCell (by show w.heap.size ≤ _; simp <;> omega) _).setCell (by show w.heap.size ≤ _; simp <;> omega) _).setCell (by show w.heap.size ≤ _; simp <;> omega) _).drew
end Go.Proofs.Ytiglflmjidikpaa

namespace Go.Proofs.Ytiglflmjidikpaa
open Go Go.RowKit Go.BigFrame
set_option linter.unusedVariables false
set_option linter.unusedSimpArgs false

/-- 'append(xs, ys..)' onto a row, as one step of a region that draws -/
theorem step_append_row {P : Program} {ops : Array Oper} {o : Oper} {a : Act} {w : World} {K : Act → World → Prop} {Q : Exit → Act → World → Prop} {E : Prop}
    (hg : o.guard = none) (s x : Operand) (t : TypeId) (hop : o.op = Op.call { callee := Callee.builtin Builtin.append, args := #[s, x], argTypes := #[t, t] })
    (e : TypeId) (i : TypeInfo) (z : Value) (size bytes : Nat) (ht : P.underlying t = some (.slice e)) (hi : P.info? e = some i) (hz : i.zero = some z)
    (hsize : i.size = size) (hby : i.bytes = bytes) (hzs : z.cells.size = size) (hsz : 0 < size) (p : Nat → Prop)
    (v : Value) (n : Nat) (xs : List Value) (hs : a.eval s = v) (hr : RowP w p e size v n xs)
    (ad : Addr) (m c : Nat) (news : List Value) (hx : a.eval x = .slice (some ad) m c) (hl : news.length = m * size) (hnews : ∀ j u, news[j]? = some u → w.cell? (ad.add j) = some u) (h1 : ∀ u ∈ news, u.oneCell' = true)
    (hm : 0 < m) (h63 : n + m ≤ maxLen) (hbytes : (n + m) * bytes ≤ 140737488355328)
    (hK : ∀ v' w' row, RowP w' (fun g => p g ∨ w.heap.size ≤ g) e size v' (n + m) (xs ++ news) → w.grownBy w' row → (∀ k, row = some k → p k) → K (a.put o.dst v') w') :
    if Region.wanted o (yielded ops a.tmps) = true then Oper.wp P o a w K Q else E := by
  have hw : Region.wanted o (yielded ops a.tmps) = true := by simp [Region.wanted, hg]
  rw [if_pos hw]
  obtain ⟨v', w', row, h2, h3, h4, h5⟩ := run_append_row (P := P) w t o.type e i z size bytes ht hi hz hsize hby hzs hsz hr ad m c news hl hnews h1 hm h63 hbytes
  unfold Oper.wp
  simp [execOp, hop, resolve, invoke, builtin, hs, hx, h2, Result.andThen]
  exact hK _ _ row h3 h4 h5
/-- an append whose run is known, as one step of a region that draws -/
theorem step_append_run {P : Program} {ops : Array Oper} {o : Oper} {a : Act} {w : World} {K : Act → World → Prop} {Q : Exit → Act → World → Prop} {E : Prop}
    (hg : o.guard = none) (s x : Operand) (t : TypeId) (hop : o.op = Op.call { callee := Callee.builtin Builtin.append, args := #[s, x], argTypes := #[t, t] })
    (v u : Value) (hs : a.eval s = v) (hx : a.eval x = u) (v' : Value) (w' : World) (hr : (Builtin.append_ #[t, t] o.type #[v, u]).run P w = .ok v' w') (hK : K (a.put o.dst v') w') :
    if Region.wanted o (yielded ops a.tmps) = true then Oper.wp P o a w K Q else E := by
  have hw : Region.wanted o (yielded ops a.tmps) = true := by simp [Region.wanted, hg]
  rw [if_pos hw]
  unfold Oper.wp
  simp [execOp, hop, resolve, invoke, builtin, hs, hx, hr, Result.andThen]
  exact hK
/-- what a reading world tells lies apart from the tree -/
def Apart (g : World) (own : Ow) (w : World) : Prop := ∀ p v, g.cell? p = some v → w.cell? p = some v ∧ own p.block = none
theorem Apart.step {g : World} {own own' : Ow} {w w' : World} (h : Apart g own w) (k : Step own w own' w') : Apart g own' w' := fun p v hp => by
  obtain ⟨h1, h2⟩ := h p v hp
  have hl := World.block_lt_of_cell? w _ h1
  exact ⟨(World.cell?_of_block (k.rest _ hl h2)).trans h1, (k.same _ hl).trans h2⟩
theorem Apart.cells {g : World} {own : Ow} {w : World} (h : Apart g own w) : Cells g w := fun p v hp => (h p v hp).1
theorem Apart.ext {g : World} {own : Ow} {w w' : World} (h : Apart g own w) (k : Ext w w') : Apart g own w' := fun p v hp => ⟨k.cells _ _ (h p v hp).1, (h p v hp).2⟩
theorem After.trans {own : Ow} {w w1 w2 : World} {tb : Nat} {T1 T2 : Tr} {own1 : Ow} (h : Step own w own1 w1) (k : After own1 w1 tb T2 w2) : After own w tb T2 w2 := by
  obtain ⟨own', ptr', h1, h2⟩ := k
  exact ⟨own', ptr', h1, h.trans h2⟩
theorem intos_take (i : Int) (T : Tr) : ∀ (l : List PN) (k : Nat) (x : PN), l[k]? = some x → PN.intos i T (l.take (k + 1)) = (PN.into (PN.intos i T (l.take k)) x).join i (PN.intos i T (l.take k)).newId := by
  intro l
  induction l generalizing T with
  | nil => intro k x h; simp at h
  | cons y r ih =>
    intro k x h
    cases k with
    | zero => simp at h; subst h; simp [PN.intos]
    | succ k => simp at h; simp only [List.take_succ_cons, PN.intos]; exact ih _ k x h
abbrev putF (tc pc : Nat) : Value := .func (.func 93) #[] #[.pointer (some ⟨tc, 0, none⟩), .pointer (some ⟨pc, 0, none⟩)]
/-- what is known of the tree before kid number k is put -/
theorem put_round {n : PN} (hok : n.ok = true) {T : Tr} {d : Nat → Nat} (hw : WF T d) (hc : T.count + n.size ≤ T.cap) (hh : (n.high : Int) ≤ T.deep) :
    ∃ i : Nat, T.newId = (i : Int) ∧ i ≠ 0 ∧ (∀ x : Nd, T.nodes[i]? ≠ some (some x)) ∧ ∀ k, ∃ (d' : Nat → Nat) (nd : Nd), WF (PN.intos i (T.put ⟨n.tag, n.attrs, anewB n.text, [], -1⟩) (n.kids.take k)) d' ∧
      (PN.intos i (T.put ⟨n.tag, n.attrs, anewB n.text, [], -1⟩) (n.kids.take k)).nodes[i]? = some (some nd) ∧ nd.parent = -1 ∧ nd.kids.length ≤ n.size ∧
      ∀ x, n.kids[k]? = some x → (PN.intos i (T.put ⟨n.tag, n.attrs, anewB n.text, [], -1⟩) (n.kids.take k)).count + x.size ≤ (PN.intos i (T.put ⟨n.tag, n.attrs, anewB n.text, [], -1⟩) (n.kids.take k)).cap ∧
        (x.high : Int) ≤ (PN.intos i (T.put ⟨n.tag, n.attrs, anewB n.text, [], -1⟩) (n.kids.take k)).deep := by
  have hb := PN.ok_bad hok
  have hkids := PN.ok_kids hok
  obtain ⟨b0, b1, b2, b3⟩ := PN.bad_tag hb
  have hs := PN.size_eq n
  have hi := PN.high_eq n
  obtain ⟨d1, i, h1, h0, h2, h3, hP⟩ := hw.put_one hb (by omega)
  refine ⟨i, h1, h0, h2, fun k => ?_⟩
  have hst := sizes_take n.kids k
  have hht : PN.highs (n.kids.take k) ≤ PN.highs n.kids := by
    have : ∀ (l : List PN) (k : Nat), PN.highs (l.take k) ≤ PN.highs l := by
      intro l
      induction l with
      | nil => intro k; simp
      | cons y r ih => intro k; cases k with
        | zero => simp [PN.highs]
        | succ k => simp only [List.take_succ_cons, PN.highs]; have := ih k; omega
    exact this _ _
  obtain ⟨d2, nd2, hn2, hP2⟩ := intos_ok (n.kids.take k) (fun x hx => into_ok x (PN.oks_mem hkids (List.mem_of_mem_take hx))) _ d1 i _ hP.wf h3 rfl (by
    by_cases e : n.tag = 0
    · right; rw [(b2 e).1]; simp
    · exact .inl e) (by rw [hP.count, hP.cap]; omega) (by rw [hP.deep]; omega) (fun x hx => by cases hx)
  obtain ⟨nd', q1, q2⟩ := hP2.node
  obtain rfl := some_inj2 hn2 q1
  refine ⟨d2, nd2, hP2.wf, hn2, q2, ?_, fun x hx => ?_⟩
  · have hp := hP2.plain
    rw [hP2.wf.plain_eq hn2] at hp
    have hlen := congrArg List.length (PN.mk.inj hp).2.2.2
    rw [List.length_map, List.length_append, PN.anews_eq, List.length_map, List.length_map, List.length_take] at hlen
    have hkl : n.kids.length ≤ PN.sizes n.kids := by
      have : ∀ l : List PN, l.length ≤ PN.sizes l := by
        intro l
        induction l with
        | nil => simp
        | cons y r ih => simp only [List.length_cons, PN.sizes]; have := y.size_pos; omega
      exact this _
    simp at hlen
    omega
  · have hsx := sizes_take_succ hx
    have hxx : x.high + 1 ≤ PN.highs n.kids := by
      have : ∀ (l : List PN), x ∈ l → x.high + 1 ≤ PN.highs l := by
        intro l
        induction l with
        | nil => intro h; cases h
        | cons y r ih => intro h; simp only [PN.highs]; rcases List.mem_cons.1 h with rfl | h; omega; have := ih h; omega
      exact this _ (List.mem_of_getElem? hx)
    rw [hP2.count, hP2.cap, hP2.deep, hP.count, hP.cap, hP.deep]
    exact ⟨by omega, by omega⟩
end Go.Proofs.Ytiglflmjidikpaa
