/- what of V1 V2 V2b V3 VQ VA VB VC VD VE VF VG VH VI VJ VK VL VR VS VU VV VT VW VX VY VAA VM VN VTB VTC VTD VTE W1 W2 W3 W4 D0 DB DA DC DD DE DF DG DH DI DJ DK DL DM DN DO DP EA EB EC ED EE EF EFa EFb EFc EFd EFe EG EH EJ EI EM EN EO EP EQ is leant on -/
import Derived.Test.YthgnbbbdcebjhaaGreatLOa
set_option linter.unusedVariables false
set_option linter.unusedSimpArgs false
set_option maxRecDepth 100000
set_option maxHeartbeats 4000000
namespace Go.Proofs.YthgnbbbdcebjhaaGreat
open Go Go.RowKit Go.BigFrame
theorem Drop_none {w : World} {own : Ow} {ptr : Nat → Nat} {tb : Nat} {T : Tr} (hT : TreeAt w own ptr tb T) (hO : Owned own w) {id : Int} (h : T.get? id = none) :
    Calls Tryz.prog 95 #[.pointer (some ⟨tb, 0, none⟩), .int .i64 id] w (RVal (.int .i64 2) w) := by
  have H := qh h
  have HT := qh (hT.keep (((Ext.refl w).alloc (.cells #[.pointer (some ⟨tb, 0, none⟩)] 47)).keep hO))
  clear h hT
  go_enter Tryz.func95, Tryz.ntmps95
  go_wp2_with (go_at_call 70; refine (get_none HT.out H.out).mono ?_; rintro e w' ⟨rfl, rfl⟩)
  go_ret
  exact ⟨rfl, (Ext.refl _).alloc _⟩
theorem Drop_arg {w : World} {own : Ow} {ptr : Nat → Nat} {tb : Nat} {T : Tr} (hT : TreeAt w own ptr tb T) (hO : Owned own w) {id : Int} {nd : Nd} (h : T.get? id = some nd) (ha : id = 0 ∨ 0 ≤ nd.parent) :
    Calls Tryz.prog 95 #[.pointer (some ⟨tb, 0, none⟩), .int .i64 id] w (RVal (.int .i64 1) w) := by
  have x1 := (Ext.refl w).alloc (.cells #[.pointer (some ⟨tb, 0, none⟩)] 47)
  have H := qh h
  have hT1 := hT.keep (x1.keep hO)
  have hn := (Tr.get_lt h).2.2
  obtain ⟨av, kv, hb, _⟩ := hT1.node _ _ hn
  have c := cellOf hb (i := 4) (v := .int .i64 nd.parent) rfl
  have HT := qh hT1
  clear h hT hT1 hn hb
  by_cases h0 : id = 0
  · have b0 : (id == 0) = true := by simp [h0]
    clear ha h0
    go_enter Tryz.func95, Tryz.ntmps95
    go_wp2_with (go_at_call 70; refine (get_some HT.out H.out).mono ?_; rintro e w' ⟨rfl, rfl⟩)
    go_ret
    exact ⟨rfl, x1⟩
  · have b0 : (id == 0) = false := by simpa using h0
    have h1 : 0 ≤ nd.parent := by rcases ha with h | h; exact absurd h h0; exact h
    clear ha h0
    go_enter Tryz.func95, Tryz.ntmps95
    go_wp2_with (go_at_call 70; refine (get_some HT.out H.out).mono ?_; rintro e w' ⟨rfl, rfl⟩)
    go_ret
    exact ⟨rfl, x1⟩
theorem Drop_ok {w : World} {own : Ow} {ptr : Nat → Nat} {tb : Nat} {T : Tr} (hT : TreeAt w own ptr tb T) (hO : Owned own w) {d : Nat → Nat} (hw : WF T d) {i : Nat} {nd : Nd} (hi : T.nodes[i]? = some (some nd)) (h0 : i ≠ 0) (hp : nd.parent = -1) :
    Calls Tryz.prog 95 #[.pointer (some ⟨tb, 0, none⟩), .int .i64 i] w (ErrAfter own w tb 0 (T.rid fun j => T.within j i)) := by
  have x1 := (Ext.refl w).alloc (.cells #[.pointer (some ⟨tb, 0, none⟩)] 47)
  have x2 : Ext w ((w.alloc (.cells #[.pointer (some ⟨tb, 0, none⟩)] 47)).alloc (.cells #[dropF w.heap.size (w.heap.size + 1)] 158)) := x1.alloc _
  have hT1 := hT.keep (x1.keep hO)
  obtain ⟨av, kv, hb, _⟩ := hT1.node _ _ hi
  have c := cellOf hb (i := 4) (v := .int .i64 (-1)) (by rw [← hp]; rfl)
  have hT2 := hT.keep (x2.keep hO)
  rw [← Tr.rid_none hw.count] at hT2
  have hO2 : Owned own ((w.alloc (.cells #[.pointer (some ⟨tb, 0, none⟩)] 47)).alloc (.cells #[dropF w.heap.size (w.heap.size + 1)] 158)) := fun b hb => Nat.lt_of_lt_of_le (hO b hb) x2.size
  have htc : own w.heap.size = none := by
    cases ho : own w.heap.size with
    | none => rfl
    | some x => have := hO w.heap.size (by simp [ho]); omega
  have hdc : own (w.heap.size + 1) = none := by
    cases ho : own (w.heap.size + 1) with
    | none => rfl
    | some x => have := hO (w.heap.size + 1) (by simp [ho]); omega
  have hd := drop_fuel hw htc hdc 50 i nd (fun _ => false) _ hi (by omega) (fun _ _ _ _ => rfl) hT2 hO2 (by simp [go_sem]) (by simp [go_sem])
  have hib : ((i : Int) == 0) = false := by simp; omega
  have H := qh (Tr.get_of hi)
  have HT1 := qh hT1
  have HD := qh hd
  have HX := qh x2
  have HO := qh hO
  have e : (T.rid fun j => T.within j i || false) = T.rid fun j => T.within j i := by simp
  have HE := qh e
  clear hT hO hw hi h0 hp x1 x2 hT1 hb hT2 hO2 htc hdc hd e
  go_enter Tryz.func95, Tryz.ntmps95
  go_wp2_with (first
    | (go_at_call 70; refine (get_some HT1.out H.out).mono ?_; rintro e w' ⟨rfl, rfl⟩)
    | (go_at_call 137; refine HD.out.mono ?_; rintro e w' ⟨rfl, hT', htop⟩))
  go_ret
  rw [HE.out] at hT'
  have hs := HX.out.step HO.out
  exact ⟨rfl, own, ptr, hT', hs.trans (htop.step hs.owned)⟩
structure Ms where
  count : Int
  height : Int
  e : Int
def Ms.one (n : PN) (deep : Int) (m : Ms) : Ms := ⟨m.count + 1, max m.height deep, if n.bad then 1 else if 8192 < (anewB n.text).size ∧ m.e = 0 then 10 else m.e⟩
mutual
def PN.look (deep : Int) (m : Ms) : PN → Ms
  | .mk t a s ks => PN.looks (deep + 1) (Ms.one (.mk t a s ks) deep m) ks
def PN.looks (deep : Int) (m : Ms) : List PN → Ms
  | [] => m
  | k :: r => PN.looks deep (PN.look deep m k) r
end
theorem PN.look_eq (deep : Int) (m : Ms) (n : PN) : PN.look deep m n = PN.looks (deep + 1) (Ms.one n deep m) n.kids := by cases n; rfl
mutual
def PN.short : PN → Bool
  | .mk _ a s ks => decide (s.size ≤ 100000) && decide (a.length ≤ 60000) && PN.shorts ks
def PN.shorts : List PN → Bool
  | [] => true
  | k :: r => PN.short k && PN.shorts r
end
theorem PN.short_eq (n : PN) : n.short = (decide (n.text.size ≤ 100000) && decide (n.attrs.length ≤ 60000) && PN.shorts n.kids) := by cases n; rfl
theorem PN.shorts_mem {l : List PN} (h : PN.shorts l = true) {k : PN} (hk : k ∈ l) : k.short = true := by
  induction l with
  | nil => cases hk
  | cons x r ih =>
    simp only [PN.shorts, Bool.and_eq_true] at h
    rcases List.mem_cons.1 hk with rfl | hk
    · exact h.1
    · exact ih h.2 hk
theorem looks_snoc (deep : Int) : ∀ (l : List PN) (m : Ms) (k : PN), PN.looks deep m (l ++ [k]) = PN.look deep (PN.looks deep m l) k := by
  intro l
  induction l with
  | nil => intro m k; rfl
  | cons x r ih => intro m k; simp only [List.cons_append, PN.looks]; exact ih _ _
theorem looks_take (deep : Int) (m : Ms) (l : List PN) (i : Nat) (k : PN) (h : l[i]? = some k) : PN.looks deep m (l.take (i + 1)) = PN.look deep (PN.looks deep m (l.take i)) k := by
  obtain ⟨hlt, rfl⟩ := List.getElem?_eq_some_iff.1 h
  rw [List.take_succ_eq_append_getElem hlt, looks_snoc]
theorem looks_spec : ∀ (l : List PN), (∀ k ∈ l, ∀ (deep : Int) (m : Ms), (PN.look deep m k).count = m.count + k.size ∧ (PN.look deep m k).height = max m.height (deep + k.high) ∧ ((PN.look deep m k).e = 0 ↔ m.e = 0 ∧ k.ok = true)) →
    ∀ (deep : Int) (m : Ms), (PN.looks deep m l).count = m.count + PN.sizes l ∧ (max (PN.looks deep m l).height (deep - 1)) = max m.height (deep - 1 + PN.highs l) ∧ m.height ≤ (PN.looks deep m l).height ∧ ((PN.looks deep m l).e = 0 ↔ m.e = 0 ∧ PN.oks l = true) := by
  intro l
  induction l with
  | nil => intro _ deep m; simp [PN.looks, PN.sizes, PN.highs, PN.oks]
  | cons k r ih =>
    intro h deep m
    obtain ⟨h1, h2, h3⟩ := h k (by simp) deep m
    obtain ⟨g1, g2, g3, g4⟩ := ih (fun x hx => h x (by simp [hx])) deep (PN.look deep m k)
    simp only [PN.looks, PN.sizes, PN.highs, PN.oks]
    refine ⟨by rw [g1, h1]; push_cast; omega, by omega, by omega, ?_⟩
    rw [g4, h3, Bool.and_eq_true, and_assoc]
theorem look_spec : ∀ (n : PN) (deep : Int) (m : Ms), (PN.look deep m n).count = m.count + n.size ∧ (PN.look deep m n).height = max m.height (deep + n.high) ∧ ((PN.look deep m n).e = 0 ↔ m.e = 0 ∧ n.ok = true) := by
  refine PN.induct _ fun n ih deep m => ?_
  obtain ⟨g1, g2, g3, g4⟩ := looks_spec n.kids ih (deep + 1) (Ms.one n deep m)
  rw [PN.look_eq, PN.size_eq, PN.high_eq, PN.ok_eq]
  have e1 : (Ms.one n deep m).count = m.count + 1 := rfl
  have e2 : (Ms.one n deep m).height = max m.height deep := rfl
  rw [e1] at g1
  rw [e2] at g2 g3
  refine ⟨by rw [g1]; push_cast; omega, by omega, ?_⟩
  rw [g4]
  show (if n.bad then (1 : Int) else if 8192 < (anewB n.text).size ∧ m.e = 0 then 10 else m.e) = 0 ∧ _ ↔ _
  cases hb : n.bad with
  | true => simp
  | false =>
    simp only [Bool.false_eq_true, if_false, Bool.not_false, Bool.true_and, Bool.and_eq_true, decide_eq_true_eq]
    by_cases hl : 8192 < (anewB n.text).size
    · by_cases he : m.e = 0
      · rw [if_pos ⟨hl, he⟩]
        constructor
        · intro h; exact absurd h.1 (by decide)
        · intro h; omega
      · rw [if_neg (fun h => he h.2)]
        constructor
        · intro h; exact absurd h.1 he
        · intro h; exact absurd h.1 he
    · rw [if_neg (fun h => hl h.1)]
      constructor
      · intro h; exact ⟨h.1, by omega, h.2⟩
      · intro h; exact ⟨h.1, h.2.2⟩
theorem sizes_append : ∀ (l r : List PN), PN.sizes (l ++ r) = PN.sizes l + PN.sizes r := by
  intro l
  induction l with
  | nil => intro r; simp [PN.sizes]
  | cons x l ih => intro r; simp only [List.cons_append, PN.sizes, ih]; omega
theorem sizes_take (l : List PN) (k : Nat) : PN.sizes (l.take k) ≤ PN.sizes l := by
  have := sizes_append (l.take k) (l.drop k)
  rw [List.take_append_drop] at this; omega
theorem sizes_take_succ {l : List PN} {i : Nat} {k : PN} (h : l[i]? = some k) : PN.sizes (l.take i) + k.size ≤ PN.sizes l := by
  obtain ⟨hlt, rfl⟩ := List.getElem?_eq_some_iff.1 h
  have h1 := sizes_take l (i + 1)
  rw [List.take_succ_eq_append_getElem hlt, sizes_append] at h1
  simp only [PN.sizes] at h1; omega
theorem high_lt : ∀ n : PN, n.high < n.size := by
  refine PN.induct _ fun n ih => ?_
  rw [PN.high_eq, PN.size_eq]
  have : ∀ l : List PN, (∀ k ∈ l, k.high < k.size) → PN.highs l ≤ PN.sizes l := by
    intro l
    induction l with
    | nil => intro _; simp [PN.highs]
    | cons x r ih2 => intro h; simp only [PN.highs, PN.sizes]; have := h x (by simp); have := ih2 fun k hk => h k (by simp [hk]); omega
  have := this n.kids ih; omega
theorem highs_le (l : List PN) : PN.highs l ≤ PN.sizes l := by
  induction l with
  | nil => simp [PN.highs]
  | cons x r ih => simp only [PN.highs, PN.sizes]; have := high_lt x; omega
theorem one_e (n : PN) (deep : Int) (m : Ms) (h0 : 0 ≤ m.e) (h1 : m.e ≤ 100) : 0 ≤ (Ms.one n deep m).e ∧ (Ms.one n deep m).e ≤ 100 := by
  unfold Ms.one
  simp only
  split
  · omega
  · split <;> omega
theorem looks_e : ∀ (l : List PN), (∀ k ∈ l, ∀ (deep : Int) (m : Ms), 0 ≤ m.e → m.e ≤ 100 → 0 ≤ (PN.look deep m k).e ∧ (PN.look deep m k).e ≤ 100) → ∀ (deep : Int) (m : Ms), 0 ≤ m.e → m.e ≤ 100 → 0 ≤ (PN.looks deep m l).e ∧ (PN.looks deep m l).e ≤ 100 := by
  intro l
  induction l with
  | nil => intro _ deep m h0 h1; exact ⟨h0, h1⟩
  | cons k r ih =>
    intro h deep m h0 h1
    have := h k (by simp) deep m h0 h1
    exact ih (fun x hx => h x (by simp [hx])) deep _ this.1 this.2
theorem look_e : ∀ (n : PN) (deep : Int) (m : Ms), 0 ≤ m.e → m.e ≤ 100 → 0 ≤ (PN.look deep m n).e ∧ (PN.look deep m n).e ≤ 100 := by
  refine PN.induct _ fun n ih deep m h0 h1 => ?_
  rw [PN.look_eq]
  have := one_e n deep m h0 h1
  exact looks_e n.kids ih (deep + 1) _ this.1 this.2
theorem looks_bounds (n : PN) (deep : Int) (m : Ms) (d0 : 0 ≤ deep) (d1 : deep + n.size ≤ 100000) (c0 : 0 ≤ m.count) (c1 : m.count + n.size ≤ 100000) (h0 : 0 ≤ m.height) (h1 : m.height ≤ 100000) (e0 : 0 ≤ m.e) (e1 : m.e ≤ 100) {i : Nat} {k : PN} (hk : n.kids[i]? = some k) :
    deep + 1 + k.size ≤ 100000 ∧ 0 ≤ (PN.looks (deep + 1) (Ms.one n deep m) (n.kids.take i)).count ∧ (PN.looks (deep + 1) (Ms.one n deep m) (n.kids.take i)).count + k.size ≤ 100000 ∧
      0 ≤ (PN.looks (deep + 1) (Ms.one n deep m) (n.kids.take i)).height ∧ (PN.looks (deep + 1) (Ms.one n deep m) (n.kids.take i)).height ≤ 100000 ∧ 0 ≤ (PN.looks (deep + 1) (Ms.one n deep m) (n.kids.take i)).e ∧ (PN.looks (deep + 1) (Ms.one n deep m) (n.kids.take i)).e ≤ 100 := by
  have hs := PN.size_eq n
  have ht := sizes_take_succ hk
  have hh := highs_le (n.kids.take i)
  obtain ⟨g1, g2, g3, g4⟩ := looks_spec (n.kids.take i) (fun k _ => look_spec k) (deep + 1) (Ms.one n deep m)
  have o := one_e n deep m e0 e1
  have oe := looks_e (n.kids.take i) (fun k _ => look_e k) (deep + 1) (Ms.one n deep m) o.1 o.2
  have q1 : (Ms.one n deep m).count = m.count + 1 := rfl
  have q2 : (Ms.one n deep m).height = max m.height deep := rfl
  rw [q1] at g1
  rw [q2] at g2 g3
  refine ⟨by omega, by omega, by omega, by omega, by omega, oe.1, oe.2⟩
theorem bad_attrs {n : PN} (ht : n.tag = 0) (h : 0 < n.attrs.length) : n.bad = true := by
  unfold PN.bad
  rw [if_pos ht]
  cases ha : n.attrs with
  | nil => rw [ha] at h; simp at h
  | cons a b => rfl
theorem bad_kids {n : PN} (ht : n.tag = 0) (h : 0 < n.kids.length) : n.bad = true := by
  unfold PN.bad
  rw [if_pos ht]
  cases ha : n.kids with
  | nil => rw [ha] at h; simp at h
  | cons a b => cases n.attrs <;> rfl
theorem bad_text {n : PN} (ht : n.tag = 0) (h : ¬ 0 < n.attrs.length) (k : ¬ 0 < n.kids.length) : n.bad = false := by
  unfold PN.bad
  rw [if_pos ht, List.eq_nil_of_length_eq_zero (by omega : n.attrs.length = 0), List.eq_nil_of_length_eq_zero (by omega : n.kids.length = 0)]; rfl
theorem bad_tag' {n : PN} (ht : n.tag ≠ 0) (h : ¬ (1 ≤ n.tag ∧ n.tag ≤ 16)) : n.bad = true := by
  unfold PN.bad
  rw [if_neg ht, decide_eq_false h]; rfl
theorem bad_said {n : PN} (ht : n.tag ≠ 0) (h : n.text.size ≠ 0) : n.bad = true := by
  unfold PN.bad
  rw [if_neg ht]
  have : (n.text.size == 0) = false := by simpa using h
  rw [this]; simp
theorem bad_fine {n : PN} (ht : n.tag ≠ 0) (h : 1 ≤ n.tag ∧ n.tag ≤ 16) (k : n.text.size = 0) : n.bad = false := by
  unfold PN.bad
  rw [if_neg ht, decide_eq_true h, k]; rfl
theorem text_none {s : ByteArray} (h : s.size = 0) : s = ByteArray.empty := by
  cases s with
  | mk d =>
    have : d.size = 0 := h
    simp at this; subst this; rfl
theorem text_some {s : ByteArray} (h : s.size ≠ 0) : s.toList.isEmpty = false := by
  rw [ByteArray.toList_eq]
  cases hd : s.data.toList with
  | nil =>
    exfalso; apply h
    show s.data.size = 0
    rw [← Array.length_toList, hd]; rfl
  | cons a b => rfl
def One (w : World) (b : Nat) (v : Value) (t : TypeId) : Prop := w.heap[b]? = some (.cells #[v] t (0, 0))
theorem One.cell {w : World} {b : Nat} {v : Value} {t : TypeId} (h : One w b v t) : w.cell? ⟨b, 0, none⟩ = some v := cellOf h rfl
theorem One.free {w : World} {b : Nat} {v : Value} {t : TypeId} (h : One w b v t) : w.frozen? ⟨b, 0, none⟩ = false := freeOf h 0
theorem One.lt {w : World} {b : Nat} {v : Value} {t : TypeId} (h : One w b v t) : b < w.heap.size := (Array.getElem?_eq_some_iff.1 h).1
theorem One.alloc {w : World} {b : Nat} {v : Value} {t : TypeId} (h : One w b v t) (o : Obj) : One (w.alloc o) b v t := (Below.heap_alloc _ _ _ h.lt).trans h
theorem One.set {w : World} {b : Nat} {v : Value} {t : TypeId} (h : One w b v t) (u : Value) : One (w.setCell ⟨b, 0, none⟩ u) b u t := heap_setCell_same h u
theorem One.far {w : World} {b : Nat} {v : Value} {t : TypeId} (h : One w b v t) {p : Addr} (hp : b ≠ p.block) (u : Value) : One (w.setCell p u) b v t := (heap_setCell_other u hp).trans h
theorem One.ext {w w' : World} {b : Nat} {v : Value} {t : TypeId} (h : One w b v t) (k : Ext w w') : One w' b v t := (Below.block k b h.lt).trans h
theorem One.new (w : World) (v : Value) (t : TypeId) : One (w.alloc (.cells #[v] t)) w.heap.size v t := heap_alloc_new w _
structure Held4 (w : World) (bc bh be bl : Nat) (m : Ms) : Prop where
  c : One w bc (.int .i64 m.count) 3
  h : One w bh (.int .i64 m.height) 3
  e : One w be (.int .i64 m.e) 26
  l : One w bl (.func (.func 148) #[] #[.pointer (some ⟨bc, 0, none⟩), .pointer (some ⟨bh, 0, none⟩), .pointer (some ⟨be, 0, none⟩), .pointer (some ⟨bl, 0, none⟩)]) 164
def LookIs (w0 : World) (bc bh be bl : Nat) (m : Ms) (e : Ending) (w' : World) : Prop := e = .returned (.tuple #[]) ∧ Ext w0 w' ∧ Held4 w' bc bh be bl m
theorem look_any {w0 : World} {bc bh be bl : Nat} (n1 : bc ≠ bh) (n2 : bc ≠ be) (n3 : bc ≠ bl) (n4 : bh ≠ be) (n5 : bh ≠ bl) (n6 : be ≠ bl) (b1 : w0.heap.size ≤ bc) (b2 : w0.heap.size ≤ bh) (b3 : w0.heap.size ≤ be) (b4 : w0.heap.size ≤ bl) :
    ∀ (n : PN), n.short = true → ∀ (nv : Value) (deep : Int) (m : Ms) (w : World), RdN w0 n nv → 0 ≤ deep → deep + n.size ≤ 100000 → 0 ≤ m.count → m.count + n.size ≤ 100000 → 0 ≤ m.height → m.height ≤ 100000 → 0 ≤ m.e → m.e ≤ 100 → Ext w0 w → Held4 w bc bh be bl m →
      Calls Tryz.prog 148 #[nv, .int .i64 deep, .pointer (some ⟨bc, 0, none⟩), .pointer (some ⟨bh, 0, none⟩), .pointer (some ⟨be, 0, none⟩), .pointer (some ⟨bl, 0, none⟩)] w (LookIs w0 bc bh be bl (PN.look deep m n)) := by
  refine PN.induct _ fun n ih hsh nv deep m w hr d0 d1 c0 c1 h0 h1 e0 e1 hx hh => ?_
  obtain ⟨av, kv, rfl, ha, hk⟩ := hr.open
  obtain ⟨aa, acap, rfl, hac⟩ := ha.len_of
  obtain ⟨ka, kcap, rfl, hkc, hkm, hkn, hkr⟩ := hk
  have n1' := Ne.symm n1
  have n2' := Ne.symm n2
  have n3' := Ne.symm n3
  have n4' := Ne.symm n4
  have n5' := Ne.symm n5
  have n6' := Ne.symm n6
  have hbox := heap_alloc_new w (.cells #[.int .i64 n.tag, .slice aa n.attrs.length acap, .string n.text, .slice ka n.kids.length kcap] 35)
  have hh1 : Held4 (w.alloc (.cells #[.int .i64 n.tag, .slice aa n.attrs.length acap, .string n.text, .slice ka n.kids.length kcap] 35)) bc bh be bl m := ⟨hh.c.alloc _, hh.h.alloc _, hh.e.alloc _, hh.l.alloc _⟩
  have x1 := hx.alloc (.cells #[.int .i64 n.tag, .slice aa n.attrs.length acap, .string n.text, .slice ka n.kids.length kcap] 35)
  have sz : (w.alloc (.cells #[.int .i64 n.tag, .slice aa n.attrs.length acap, .string n.text, .slice ka n.kids.length kcap] 35)).heap.size = w.heap.size + 1 := by simp
  have lc : bc ≠ w.heap.size := Nat.ne_of_lt hh.c.lt
  have lh : bh ≠ w.heap.size := Nat.ne_of_lt hh.h.lt
  have le : be ≠ w.heap.size := Nat.ne_of_lt hh.e.lt
  have lc' := Ne.symm lc
  have lh' := Ne.symm lh
  have le' := Ne.symm le
  have HA := qh ha
  have HKR := qh hkr
  have HKN := qh hkn
  have HX := qh hx
  have HH := qh hh
  have HSH := qh hsh
  have IH := qh ih
  unfold maxLen at hkm
  clear ha hkr hkn hx hh hsh ih hr
  go_enter Tryz.func148, Tryz.ntmps148
  go_upto_region 1 with fail
  obtain ⟨wb, hwb⟩ : ∃ wb : World, wb = w.alloc (.cells #[.int .i64 n.tag, .slice aa n.attrs.length acap, .string n.text, .slice ka n.kids.length kcap] 35) := ⟨_, rfl⟩
  rw [← hwb] at hbox hh1 x1 sz ⊢
  clear hwb
  have cc := hh1.c.cell
  have ch := hh1.h.cell
  have ce := hh1.e.cell
  have fc := hh1.c.free
  have fh := hh1.h.free
  have fe := hh1.e.free
  have k0 := cellOf hbox (i := 0) (v := .int .i64 n.tag) rfl
  have k1 := cellOf hbox (i := 1) (v := .slice aa n.attrs.length acap) rfl
  have k2 := cellOf hbox (i := 2) (v := .string n.text) rfl
  have k3 := cellOf hbox (i := 3) (v := .slice ka n.kids.length kcap) rfl
  have HB := qh hbox
  have HH1 := qh hh1
  have HX1 := qh x1
  have SZ := qh sz
  clear hbox hh1 x1 sz
  have hz1 : Held4 ((wb.setCell ⟨bc, 0, none⟩ (.int .i64 (m.count + 1))).setCell ⟨bh, 0, none⟩ (.int .i64 (max m.height deep))) bc bh be bl ⟨m.count + 1, max m.height deep, m.e⟩ :=
    ⟨(HH1.out.c.set _).far n1 _, (HH1.out.h.far n1' _).set _, (HH1.out.e.far n2' _).far n4' _, (HH1.out.l.far n3' _).far n5' _⟩
  have hz2 : Ext w0 ((wb.setCell ⟨bc, 0, none⟩ (.int .i64 (m.count + 1))).setCell ⟨bh, 0, none⟩ (.int .i64 (max m.height deep))) := (HX1.out.setCell b1 _).setCell b2 _
  have hz3 : ((wb.setCell ⟨bc, 0, none⟩ (.int .i64 (m.count + 1))).setCell ⟨bh, 0, none⟩ (.int .i64 (max m.height deep))).heap[w.heap.size]? = some (.cells #[.int .i64 n.tag, .slice aa n.attrs.length acap, .string n.text, .slice ka n.kids.length kcap] 35 (0, 0)) :=
    (heap_setCell_other _ lh').trans ((heap_setCell_other _ lc').trans HB.out)
  have HZ1 := qh hz1
  have HZ2 := qh hz2
  have HZ3 := qh hz3
  clear hz1 hz2 hz3
  go_upto_block 0 with fail
  obtain ⟨wz, hwz⟩ : ∃ wz : World, wz = (wb.setCell ⟨bc, 0, none⟩ (.int .i64 (m.count + 1))).setCell ⟨bh, 0, none⟩ (.int .i64 (max m.height deep)) := ⟨_, rfl⟩
  rw [← hwz] at HZ1 HZ2 HZ3 ⊢
  clear hwz cc ch ce fc fh fe k0 k1 k2 k3
  go_cut [8] (fun _ wx => Ext w0 wx ∧ Held4 wx bc bh be bl (Ms.one n deep m) ∧ wx.cell? ⟨w.heap.size, 3, none⟩ = some (.slice ka n.kids.length kcap))
  case first =>
    have ce : wz.cell? ⟨be, 0, none⟩ = some (.int .i64 m.e) := HZ1.out.e.cell
    have fe := HZ1.out.e.free
    have k0 := cellOf HZ3.out (i := 0) (v := .int .i64 n.tag) rfl
    have k1 := cellOf HZ3.out (i := 1) (v := .slice aa n.attrs.length acap) rfl
    have k2 := cellOf HZ3.out (i := 2) (v := .string n.text) rfl
    have k3 := cellOf HZ3.out (i := 3) (v := .slice ka n.kids.length kcap) rfl
    have hbad1 : n.bad = true → Ext w0 (wz.setCell ⟨be, 0, none⟩ (.int .i64 1)) ∧ Held4 (wz.setCell ⟨be, 0, none⟩ (.int .i64 1)) bc bh be bl (Ms.one n deep m) ∧ (wz.setCell ⟨be, 0, none⟩ (.int .i64 1)).cell? ⟨w.heap.size, 3, none⟩ = some (.slice ka n.kids.length kcap) := fun hb => by
      refine ⟨HZ2.out.setCell b3 _, ?_, cellOf ((heap_setCell_other _ le').trans HZ3.out) rfl⟩
      have e : Ms.one n deep m = ⟨m.count + 1, max m.height deep, 1⟩ := by unfold Ms.one; rw [if_pos hb]
      rw [e]
      exact ⟨HZ1.out.c.far n2 _, HZ1.out.h.far n4 _, HZ1.out.e.set _, HZ1.out.l.far n6' _⟩
    have hlong1 : ∀ wy, n.bad = false → 8192 < (anewB n.text).size → m.e = 0 → Ext wz wy → Ext w0 (wy.setCell ⟨be, 0, none⟩ (.int .i64 10)) ∧ Held4 (wy.setCell ⟨be, 0, none⟩ (.int .i64 10)) bc bh be bl (Ms.one n deep m) ∧ (wy.setCell ⟨be, 0, none⟩ (.int .i64 10)).cell? ⟨w.heap.size, 3, none⟩ = some (.slice ka n.kids.length kcap) := fun wy hb hl he hy => by
      refine ⟨(HZ2.out.trans hy).setCell b3 _, ?_, cellOf ((heap_setCell_other _ le').trans (hy.block HZ3.out)) rfl⟩
      have e : Ms.one n deep m = ⟨m.count + 1, max m.height deep, 10⟩ := by unfold Ms.one; rw [if_neg (by rw [hb]; decide), if_pos ⟨hl, he⟩]
      rw [e]
      exact ⟨(HZ1.out.c.ext hy).far n2 _, (HZ1.out.h.ext hy).far n4 _, (HZ1.out.e.ext hy).set _, (HZ1.out.l.ext hy).far n6' _⟩
    have hfine1 : ∀ wy, n.bad = false → ¬ (8192 < (anewB n.text).size ∧ m.e = 0) → Ext wz wy → Ext w0 wy ∧ Held4 wy bc bh be bl (Ms.one n deep m) ∧ wy.cell? ⟨w.heap.size, 3, none⟩ = some (.slice ka n.kids.length kcap) := fun wy hb hl hy => by
      refine ⟨HZ2.out.trans hy, ?_, cellOf (hy.block HZ3.out) rfl⟩
      have e : Ms.one n deep m = ⟨m.count + 1, max m.height deep, m.e⟩ := by unfold Ms.one; rw [if_neg (by rw [hb]; decide), if_neg hl]
      rw [e]
      exact ⟨HZ1.out.c.ext hy, HZ1.out.h.ext hy, HZ1.out.e.ext hy, HZ1.out.l.ext hy⟩
    have HB1 := qh hbad1
    have HL1 := qh hlong1
    have HF1 := qh hfine1
    have hts : n.text.size ≤ 100000 := by have := HSH.out; rw [PN.short_eq] at this; simp at this; exact this.1.1
    have has : n.attrs.length ≤ 60000 := by have := HSH.out; rw [PN.short_eq] at this; simp at this; exact this.1.2
    have hbs : (anewB n.text).size ≤ 400000 := by have := anewB_size n.text; omega
    have HTS := qh hts
    have hbb : n.bad = (if n.tag = 0 then !(n.attrs.isEmpty && n.kids.isEmpty) else !(decide (1 ≤ n.tag ∧ n.tag ≤ 16) && n.text.size == 0)) := rfl
    have HBB := qh hbb
    clear hbad1 hlong1 hfine1 hbb hts
    -- what is left of the ways where the node itself may be
    have hfine : n.bad = false → ∀ wy, Ext wz wy → (if 8192 < (anewB n.text).size ∧ m.e = 0 then True else True) := fun _ _ _ => by split <;> trivial
    clear hfine
    by_cases ht : n.tag = 0
    · have tb : (n.tag == 0) = true := by simp [ht]
      have HT := qh ht
      by_cases hA : 0 < n.attrs.length
      · have HBAD : Hid (n.bad = true) := qh (bad_attrs ht hA)
        clear ht
        go_wp2_with (fail)
        go_meet
        exact HB1.out HBAD.out
      · have hA0 : n.attrs.length = 0 := by omega
        by_cases hK : 0 < n.kids.length
        · have HBAD : Hid (n.bad = true) := qh (bad_kids ht hK)
          clear ht hA0
          go_wp2_with (fail)
          go_meet
          exact HB1.out HBAD.out
        · have HBAD : Hid (n.bad = false) := qh (bad_text ht hA hK)
          clear ht hA0
          by_cases hl : 8192 < (anewB n.text).size
          · by_cases he : m.e = 0
            · have eb : (m.e == 0) = true := by simp [he]
              have HE := qh he
              clear he
              go_wp2_with (go_at_call 83; refine (anew_any _ HTS.out _).mono ?_; rintro e w' ⟨rfl, hy⟩; have ce : _ = some (Value.int IntKind.i64 m.e) := (HZ1.out.e.ext hy).cell; have fe := (HZ1.out.e.ext hy).free)
              go_meet
              exact HL1.out _ HBAD.out hl HE.out hy
            · have eb : (m.e == 0) = false := by simpa using he
              have HE := qh he
              clear he
              go_wp2_with (go_at_call 83; refine (anew_any _ HTS.out _).mono ?_; rintro e w' ⟨rfl, hy⟩; have ce : _ = some (Value.int IntKind.i64 m.e) := (HZ1.out.e.ext hy).cell; have fe := (HZ1.out.e.ext hy).free)
              go_meet
              exact HF1.out _ HBAD.out (fun h => HE.out h.2) hy
          · go_wp2_with (go_at_call 83; refine (anew_any _ HTS.out _).mono ?_; rintro e w' ⟨rfl, hy⟩; have ce : _ = some (Value.int IntKind.i64 m.e) := (HZ1.out.e.ext hy).cell; have fe := (HZ1.out.e.ext hy).free)
            go_meet
            exact HF1.out _ HBAD.out (fun h => hl h.1) hy
    · have tb : (n.tag == 0) = false := by simpa using ht
      have HT := qh ht
      by_cases hE : 1 ≤ n.tag ∧ n.tag ≤ 16
      · by_cases hS : n.text.size = 0
        · have HBAD : Hid (n.bad = false) := qh (bad_fine ht hE hS)
          have hemp := text_none hS
          have hanew : (anewB n.text).size = 0 := by rw [hemp]; rfl
          have hsb : n.text.toList.isEmpty = true := by rw [hemp, ByteArray.toList_eq]; rfl
          have hl : ¬ 8192 < (anewB n.text).size := by omega
          obtain ⟨E1, E2⟩ := hE
          have hst : n.text.toList = [] := by rw [hemp, ByteArray.toList_eq]; rfl
          clear ht hS hemp hanew
          go_wp2_with (first
            | (go_at_call 103; refine (element_yes _ E1 E2 _).mono ?_; rintro e w' ⟨rfl, rfl⟩)
            | (go_at_call 83; refine (anew_any _ HTS.out _).mono ?_; rintro e w' ⟨rfl, hy⟩; have ce : _ = some (Value.int IntKind.i64 m.e) := (HZ1.out.e.ext hy).cell; have fe := (HZ1.out.e.ext hy).free))
          go_meet
          exact HF1.out _ HBAD.out (fun h => hl h.1) hy
        · have HBAD : Hid (n.bad = true) := qh (bad_said ht hS)
          have hsb := text_some hS
          have hst : !n.text.toList.isEmpty := by rw [hsb]; rfl
          obtain ⟨E1, E2⟩ := hE
          clear ht hS
          go_wp2_with (go_at_call 103; refine (element_yes _ E1 E2 _).mono ?_; rintro e w' ⟨rfl, rfl⟩)
          go_meet
          exact HB1.out HBAD.out
      · have HBAD : Hid (n.bad = true) := qh (bad_tag' ht hE)
        have HEE := qh hE
        clear ht hE
        go_wp2_with (go_at_call 103; refine (element_no _ HEE.out _).mono ?_; rintro e w' ⟨rfl, rfl⟩)
        go_meet
        exact HB1.out HBAD.out
  case rest =>
    obtain ⟨x2, h2, k3⟩ := hcut
    have hkl : (n.kids.length : Int) ≤ 9223372036854775807 := by omega
    have HX2 := qh x2
    have HH2 := qh h2
    clear x2 h2
    go_wp2_with fail
    go_loopw [10, 61] (fun _ i wr => ∃ k : Nat, k ≤ n.kids.length ∧ i = .int .i64 k ∧ Ext w0 wr ∧ Held4 wr bc bh be bl (PN.looks (deep + 1) (Ms.one n deep m) (n.kids.take k))) (fun _ i _ => n.kids.length - (intOf i).toNat)
    case atStart => exact ⟨0, Nat.zero_le _, rfl, HX2.out, by simpa [PN.looks] using HH2.out⟩
    case round =>
      obtain ⟨k, hk, rfl, xr, hr⟩ := hrel
      have HXR := qh xr
      have HHR := qh hr
      have cl := hr.l.cell
      clear xr hr
      by_cases hlt : k < n.kids.length
      · obtain ⟨x, hx⟩ : ∃ x, n.kids[k]? = some x := ⟨n.kids[k], by simp [hlt]⟩
        cases ka with
        | none => exact absurd (HKN.out rfl).1 (by omega)
        | some a =>
          obtain ⟨b, off, sp⟩ := a
          obtain ⟨c0', c1', c2', c3', q0, q1, q2, q3, hrd⟩ := HKR.out _ rfl k x hx
          obtain ⟨av', kv', e, ha', hk'⟩ := hrd.open
          obtain ⟨aa', acap', e2, _⟩ := ha'.len_of
          obtain ⟨ka', kcap', e3, _⟩ := hk'
          subst e2 e3
          cases e
          clear ha'
          replace q0 := HXR.out.cells _ _ q0
          replace q1 := HXR.out.cells _ _ q1
          replace q2 := HXR.out.cells _ _ q2
          replace q3 := HXR.out.cells _ _ q3
          rw [add_later _ _ _ (by decide)] at q1 q2 q3
          obtain ⟨g1, g2, g3, g4, g5, g6, g7⟩ := looks_bounds n deep m d0 d1 c0 c1 h0 h1 e0 e1 hx
          have hmem : x ∈ n.kids := List.mem_of_getElem? hx
          have hshx : x.short = true := by
            have := HSH.out; rw [PN.short_eq] at this; simp at this
            exact PN.shorts_mem this.2 hmem
          have cl' := (HHR.out.l.alloc (.cells #[.int .i64 x.tag, .slice aa' x.attrs.length acap', .string x.text, .slice ka' x.kids.length kcap'] 35)).cell
          have hrec := (fun w' hw' hh' => IH.out x hmem hshx _ (deep + 1) _ w' hrd (by omega) g1 g2 g3 g4 g5 g6 g7 hw' hh') (wr.alloc (.cells #[.int .i64 x.tag, .slice aa' x.attrs.length acap', .string x.text, .slice ka' x.kids.length kcap'] 35)) (HXR.out.alloc _) ⟨HHR.out.c.alloc _, HHR.out.h.alloc _, HHR.out.e.alloc _, HHR.out.l.alloc _⟩
          have HREC := qh hrec
          have HXX := qh hx
          have ndl : deep + 1 ≤ 9223372036854775807 := by omega
          clear hx hrec hrd hmem hshx g1 g2 g3 g4 g5 g6 g7
          go_wp2_with fail
          refine HREC.out.mono ?_
          rintro e w' ⟨rfl, hx', hh'⟩
          go_wp2_with fail
          go_roundw
          case rel =>
            refine ⟨k + 1, by omega, by go_num, hx', ?_⟩
            rw [looks_take _ _ _ _ _ HXX.out]
            exact hh'
          case measure => simp [intOf]; omega
      · go_wp2_with fail
        go_end0
        refine ⟨rfl, HXR.out, ?_⟩
        have e : n.kids.take k = n.kids := List.take_of_length_le (by omega)
        have h := HHR.out
        rw [e, ← PN.look_eq] at h
        exact h
theorem One.at (w : World) (b : Nat) (v : Value) (t : TypeId) (hb : b = w.heap.size) : One (w.alloc (.cells #[v] t)) b v t := by subst hb; exact One.new w v t
def RThree (a b c : Value) (w : World) (e : Ending) (w' : World) : Prop := e = .returned (.tuple #[a, b, c]) ∧ Ext w w'
abbrev lookF (b : Nat) : Value := .func (.func 148) #[] #[.pointer (some ⟨b + 1, 0, none⟩), .pointer (some ⟨b + 2, 0, none⟩), .pointer (some ⟨b + 3, 0, none⟩), .pointer (some ⟨b + 4, 0, none⟩)]
theorem measure_any {w : World} {n : PN} {nv : Value} (hr : RdN w n nv) (hsh : n.short = true) (hs : n.size ≤ 90000) :
    Calls Tryz.prog 130 #[nv] w (RThree (.int .i64 n.size) (.int .i64 n.high) (.int .i64 (PN.look 0 ⟨0, 0, 0⟩ n).e) w) := by
  obtain ⟨av, kv, rfl, ha, hk⟩ := hr.open
  obtain ⟨aa, acap, rfl, hac⟩ := ha.len_of
  obtain ⟨ka, kcap, rfl, hkc, hkm, hkn, hkr⟩ := hk
  have hz := fun x : World => (show Ext w x → Held4 x (w.heap.size + 1) (w.heap.size + 2) (w.heap.size + 3) (w.heap.size + 4) ⟨0, 0, 0⟩ → Calls Tryz.prog 148 #[.agg #[.int .i64 n.tag, .slice aa n.attrs.length acap, .string n.text, .slice ka n.kids.length kcap], .int .i64 0, .pointer (some ⟨w.heap.size + 1, 0, none⟩), .pointer (some ⟨w.heap.size + 2, 0, none⟩), .pointer (some ⟨w.heap.size + 3, 0, none⟩), .pointer (some ⟨w.heap.size + 4, 0, none⟩)] x (LookIs w (w.heap.size + 1) (w.heap.size + 2) (w.heap.size + 3) (w.heap.size + 4) (PN.look 0 ⟨0, 0, 0⟩ n)) from
    look_any (by omega) (by omega) (by omega) (by omega) (by omega) (by omega) (by omega) (by omega) (by omega) (by omega) n hsh _ 0 ⟨0, 0, 0⟩ x hr (Int.le_refl 0) (by omega) (Int.le_refl 0) (by show (0 : Int) + n.size ≤ 100000; omega) (Int.le_refl 0) (by decide) (Int.le_refl 0) (by decide))
  have hl := look_spec n 0 ⟨0, 0, 0⟩
  have HZ := qh hz
  have HL := qh hl
  clear hz hl hkr hkn ha hr
  go_enter Tryz.func130, Tryz.ntmps130
  go_wp2_with fail
  refine (HZ.out _ ?_ ?_).mono ?_
  · exact ((((((Ext.refl w).alloc _).alloc _).alloc _).alloc _).alloc _)
  · exact ⟨(((One.at (w.alloc _) _ (.int .i64 0) 3 (by simp)).alloc _).alloc _).alloc _, ((One.at ((w.alloc _).alloc _) _ (.int .i64 0) 3 (by simp)).alloc _).alloc _, (One.at (((w.alloc _).alloc _).alloc _) _ (.int .i64 0) 26 (by simp)).alloc _,
      One.at ((((w.alloc _).alloc _).alloc _).alloc _) _ (lookF w.heap.size) 164 (by simp)⟩
  rintro e w1 ⟨rfl, hx, hh⟩
  obtain ⟨l1, l2, l3⟩ := HL.out
  have q1 : (PN.look 0 ⟨0, 0, 0⟩ n).count = (n.size : Int) := by rw [l1]; simp
  have q2 : (PN.look 0 ⟨0, 0, 0⟩ n).height = (n.high : Int) := by rw [l2]; show max (0 : Int) (0 + (n.high : Int)) = _; omega
  obtain ⟨hc, hh', he, hf⟩ := hh
  rw [q1] at hc
  rw [q2] at hh'
  have cc := hc.cell
  have ch := hh'.cell
  have ce := he.cell
  have fc := hc.free
  have fh := hh'.free
  have fe := he.free
  clear l1 l2 l3 q1 q2 HL hc hh' he hf HZ
  generalize (PN.look 0 ⟨0, 0, 0⟩ n).e = E at *
  go_wp2_with fail
  go_region
  go_wp2
  refine bodyPost_ret (v := .tuple #[.int .i64 n.size, .int .i64 n.high, .int .i64 E]) (by simp [results, Tryz.results130, go_sem, cc, ch, ce]) rfl ⟨rfl, ?_⟩
  exact (((hx.setCell (by show w.heap.size ≤ _; simp <;> omega) _).setCell (by show w.heap.size ≤ _; simp <;> omega) _).setCell (by show w.heap.size ≤ _; simp <;> omega) _).drew
theorem step_append_run {P : Program} {ops : Array Oper} {o : Oper} {a : Act} {w : World} {K : Act → World → Prop} {Q : Exit → Act → World → Prop} {E : Prop}
    (hg : o.guard = none) (s x : Operand) (t : TypeId) (hop : o.op = Op.call { callee := Callee.builtin Builtin.append, args := #[s, x], argTypes := #[t, t] })
    (v u : Value) (hs : a.eval s = v) (hx : a.eval x = u) (v' : Value) (w' : World) (hr : (Builtin.append_ #[t, t] o.type #[v, u]).run P w = .ok v' w') (hK : K (a.put o.dst v') w') :
    if Region.wanted o (yielded ops a.tmps) = true then Oper.wp P o a w K Q else E := by
  have hw : Region.wanted o (yielded ops a.tmps) = true := by simp [Region.wanted, hg]
  rw [if_pos hw]
  unfold Oper.wp
  simp [execOp, hop, resolve, invoke, builtin, hs, hx, hr, Result.andThen]
  exact hK
def Apart (g : World) (own : Ow) (w : World) : Prop := ∀ p v, g.cell? p = some v → w.cell? p = some v ∧ own p.block = none
theorem Apart.step {g : World} {own own' : Ow} {w w' : World} (h : Apart g own w) (k : Step own w own' w') : Apart g own' w' := fun p v hp => by
  obtain ⟨h1, h2⟩ := h p v hp
  have hl := World.block_lt_of_cell? w _ h1
  exact ⟨(World.cell?_of_block (k.rest _ hl h2)).trans h1, (k.same _ hl).trans h2⟩
theorem Apart.cells {g : World} {own : Ow} {w : World} (h : Apart g own w) : Cells g w := fun p v hp => (h p v hp).1
theorem Apart.ext {g : World} {own : Ow} {w w' : World} (h : Apart g own w) (k : Ext w w') : Apart g own w' := fun p v hp => ⟨k.cells _ _ (h p v hp).1, (h p v hp).2⟩
theorem intos_take (i : Int) (T : Tr) : ∀ (l : List PN) (k : Nat) (x : PN), l[k]? = some x → PN.intos i T (l.take (k + 1)) = (PN.into (PN.intos i T (l.take k)) x).join i (PN.intos i T (l.take k)).newId := by
  intro l
  induction l generalizing T with
  | nil => intro k x h; simp at h
  | cons y r ih =>
    intro k x h
    cases k with
    | zero => simp at h; subst h; simp [PN.intos]
    | succ k => simp at h; simp only [List.take_succ_cons, PN.intos]; exact ih _ k x h
abbrev putF (tc pc : Nat) : Value := .func (.func 131) #[] #[.pointer (some ⟨tc, 0, none⟩), .pointer (some ⟨pc, 0, none⟩)]
theorem put_round {n : PN} (hok : n.ok = true) {T : Tr} {d : Nat → Nat} (hw : WF T d) (hc : T.count + n.size ≤ T.cap) (hh : (n.high : Int) ≤ T.deep) :
    ∃ i : Nat, T.newId = (i : Int) ∧ i ≠ 0 ∧ (∀ x : Nd, T.nodes[i]? ≠ some (some x)) ∧ ∀ k, ∃ (d' : Nat → Nat) (nd : Nd), WF (PN.intos i (T.put ⟨n.tag, n.attrs, anewB n.text, [], -1⟩) (n.kids.take k)) d' ∧
      (PN.intos i (T.put ⟨n.tag, n.attrs, anewB n.text, [], -1⟩) (n.kids.take k)).nodes[i]? = some (some nd) ∧ nd.parent = -1 ∧ nd.kids.length ≤ n.size ∧
      ∀ x, n.kids[k]? = some x → (PN.intos i (T.put ⟨n.tag, n.attrs, anewB n.text, [], -1⟩) (n.kids.take k)).count + x.size ≤ (PN.intos i (T.put ⟨n.tag, n.attrs, anewB n.text, [], -1⟩) (n.kids.take k)).cap ∧
        (x.high : Int) ≤ (PN.intos i (T.put ⟨n.tag, n.attrs, anewB n.text, [], -1⟩) (n.kids.take k)).deep := by
  have hb := PN.ok_bad hok
  have hkids := PN.ok_kids hok
  obtain ⟨b0, b1, b2, b3⟩ := PN.bad_tag hb
  have hs := PN.size_eq n
  have hi := PN.high_eq n
  obtain ⟨d1, i, h1, h0, h2, h3, hP⟩ := hw.put_one hb (by omega)
  refine ⟨i, h1, h0, h2, fun k => ?_⟩
  have hst := sizes_take n.kids k
  have hht : PN.highs (n.kids.take k) ≤ PN.highs n.kids := by
    have : ∀ (l : List PN) (k : Nat), PN.highs (l.take k) ≤ PN.highs l := by
      intro l
      induction l with
      | nil => intro k; simp
      | cons y r ih => intro k; cases k with
        | zero => simp [PN.highs]
        | succ k => simp only [List.take_succ_cons, PN.highs]; have := ih k; omega
    exact this _ _
  obtain ⟨d2, nd2, hn2, hP2⟩ := intos_ok (n.kids.take k) (fun x hx => into_ok x (PN.oks_mem hkids (List.mem_of_mem_take hx))) _ d1 i _ hP.wf h3 rfl (by
    by_cases e : n.tag = 0
    · right; rw [(b2 e).1]; simp
    · exact .inl e) (by rw [hP.count, hP.cap]; omega) (by rw [hP.deep]; omega) (fun x hx => by cases hx)
  obtain ⟨nd', q1, q2⟩ := hP2.node
  obtain rfl := some_inj2 hn2 q1
  refine ⟨d2, nd2, hP2.wf, hn2, q2, ?_, fun x hx => ?_⟩
  · have hp := hP2.plain
    rw [hP2.wf.plain_eq hn2] at hp
    have hlen := congrArg List.length (PN.mk.inj hp).2.2.2
    rw [List.length_map, List.length_append, PN.anews_eq, List.length_map, List.length_map, List.length_take] at hlen
    have hkl : n.kids.length ≤ PN.sizes n.kids := by
      have : ∀ l : List PN, l.length ≤ PN.sizes l := by
        intro l
        induction l with
        | nil => simp
        | cons y r ih => simp only [List.length_cons, PN.sizes]; have := y.size_pos; omega
      exact this _
    simp at hlen
    omega
  · have hsx := sizes_take_succ hx
    have hxx : x.high + 1 ≤ PN.highs n.kids := by
      have : ∀ (l : List PN), x ∈ l → x.high + 1 ≤ PN.highs l := by
        intro l
        induction l with
        | nil => intro h; cases h
        | cons y r ih => intro h; simp only [PN.highs]; rcases List.mem_cons.1 h with rfl | h; omega; have := ih h; omega
      exact this _ (List.mem_of_getElem? hx)
    rw [hP2.count, hP2.cap, hP2.deep, hP.count, hP.cap, hP.deep]
    exact ⟨by omega, by omega⟩
end Go.Proofs.YthgnbbbdcebjhaaGreat
namespace Go.Proofs.YthgnbbbdcebjhaaGreat
open Go Go.RowKit
section
variable {P : Program} {ops : Array Oper} {Q : Exit → Act → World → Prop} {md : Region.Mode} {S : World → Prop} {n : Nat}
def wpE (P : Program) (md : Region.Mode) (ops : Array Oper) (Q : Exit → Act → World → Prop) (S : World → Prop) (n : Nat) : Nat → Array Bool → Act → World → Prop
  | 0, l, a, w => Region.ready md ops l = [] ∧ Q .normal a w
  | f + 1, l, a, w => (Region.ready md ops l = [] → Q .normal a w) ∧ ∀ i ∈ Region.ready md ops l, wpOp P ops Q i (fun a' w' => (i = n ∨ S w') ∧ wpE P md ops Q S n f (l.setIfInBounds i true) a' w') a w
theorem wpE_any : ∀ (f : Nat) (l : Array Bool) (a : Act) (w : World), wpE P md ops Q S n f l a w → wpAny P md ops Q f l a w := by
  intro f
  induction f with
  | zero => exact fun l a w h => h
  | succ f ih => exact fun l a w h => ⟨h.1, fun i hi => wpOp_mono (fun a' w' k => ih _ a' w' k.2) (h.2 i hi)⟩
def waits (md : Region.Mode) (ops : Array Oper) (n i : Nat) : Bool := match ops[n]? with
  | some o => o.after.toList.any fun e => Region.binds md e && e.on == i
  | none => true
theorem unlisted {l : Array Bool} {i : Nat} (h : l.getD i true = false) (k : l.getD i false = true) : False := by
  rcases Nat.lt_or_ge i l.size with hi | hi
  · simp [hi] at h k; rw [h] at k; cases k
  · simp [Array.getElem?_eq_none hi] at h
theorem ready_waits {l : Array Bool} {i j : Nat} (hi : i ∈ Region.ready md ops l) (hj : j ∈ Region.ready md ops l) (hw : waits md ops n i = true) : j ≠ n := by
  rintro rfl
  obtain ⟨_, o, ho, hall⟩ := mem_ready.1 hj
  unfold waits at hw
  rw [ho] at hw
  obtain ⟨e, he, hb⟩ := List.any_eq_true.1 hw
  simp only [Bool.and_eq_true, beq_iff_eq] at hb
  have h1 := hall e (Array.mem_toList_iff.1 he) hb.1
  rw [hb.2] at h1
  exact unlisted (mem_ready.1 hi).1 h1
theorem wpE_first {i : Nat} {o : Oper} {v : Value} (ho : ops[i]? = some o) (hs : Region.noSelect ops = true) (hw : waits md ops n i = true) (hQ : ∀ c a w, Q (.panic c) (a.put o.dst v) w → Q (.panic c) a w) :
    ∀ (f : Nat) (l : Array Bool) (a : Act) (w : World), (∀ (j : Nat) (oj : Oper), ops[j]? = some oj → j ≠ i → l.getD j true = false → (∀ e ∈ oj.after, Region.binds md e = true → e.on ≠ i) → o.apart ops oj = true) →
      i ∈ Region.ready md ops l → YieldsIf P ops S o v a → S w → wpE P md ops Q S n f (l.setIfInBounds i true) (a.put o.dst v) w → wpE P md ops Q S n (f + 1) l a w := by
  have hsel := Region.noSelect_spec hs
  intro f
  induction f with
  | zero =>
    intro l a w _ hr hy hS H
    refine ⟨fun h => (by rw [h] at hr; cases hr), fun j hj => ?_⟩
    rcases Classical.em (j = i) with rfl | hji
    · exact hy.wpOp ho hS ⟨.inr hS, H⟩
    · have h0 := ready_mono hj hji
      rw [H.1] at h0; cases h0
  | succ f ih =>
    intro l a w hfree hr hy hS H
    refine ⟨fun h => (by rw [h] at hr; cases hr), fun j hj => ?_⟩
    rcases Classical.em (j = i) with rfl | hji
    · exact hy.wpOp ho hS ⟨.inr hS, H⟩
    · obtain ⟨hun, oj, hoj, hall⟩ := mem_ready.1 hj
      have hno : ∀ e ∈ oj.after, Region.binds md e = true → e.on ≠ i := fun e he hb e2 => unlisted (mem_ready.1 hr).1 (e2 ▸ hall e he hb)
      have hjn := ready_waits hr hj hw
      have step := wpOp_putIf hoj (hfree j oj hoj hji hun hno) (fun cs b => hsel i o cs b ho) (fun cs b => hsel j oj cs b hoj) hQ hy (H.2 j (ready_mono hj hji))
      refine wpOp_mono (fun a' w' k => ?_) step
      have hS' : S w' := k.2.1.resolve_left hjn
      refine ⟨.inr hS', ih (l.setIfInBounds j true) a' w' (fun m om hm hmi hmu hmn => hfree m om hm hmi ?_ hmn) (ready_mono hr (Ne.symm hji)) k.1 hS' ?_⟩
      · rcases Classical.em (j = m) with rfl | hjm
        · exact hun
        · rw [getD_set_ne true hjm] at hmu; exact hmu
      · rw [Array.setIfInBounds_comm _ _ hji]; exact k.2.2
theorem wpE_take {i : Nat} {o : Oper} {v : Value} {f : Nat} {l : Array Bool} {a : Act} {w : World} (ho : ops[i]? = some o) (hs : Region.noSelect ops = true) (hf : Region.free md ops l i = true) (hr : (Region.ready md ops l).contains i = true) (hw : waits md ops n i = true)
    (hQ : ∀ c a w, Q (.panic c) (a.put o.dst v) w → Q (.panic c) a w) (hy : YieldsIf P ops S o v a) (hS : S w) (h : wpE P md ops Q S n f (l.setIfInBounds i true) (a.put o.dst v) w) : wpE P md ops Q S n (f + 1) l a w :=
  wpE_first ho hs hw hQ f l a w (Region.free_spec ho hf) (by simpa using hr) hy hS h
theorem wpE_one {i : Nat} {o : Oper} {f : Nat} {l : Array Bool} {a : Act} {w : World} (hr : Region.ready md ops l = [i]) (ho : ops[i]? = some o)
    (h : ∀ K : Act → World → Prop, Shut (∀ a w, (i = n ∨ S w) → wpE P md ops Q S n f (l.setIfInBounds i true) a w → K a w) → if Region.wanted o (yielded ops a.tmps) = true then Oper.wp P o a w K Q else K (a.put o.dst undef) w) : wpE P md ops Q S n (f + 1) l a w := by
  refine ⟨fun h => (by rw [hr] at h; cases h), fun j hj => ?_⟩
  rw [hr] at hj
  obtain rfl : j = i := by simpa using hj
  exact wpOp_step ho fun K hK => h K fun a w h1 h2 => hK a w ⟨h1, h2⟩
theorem wpE_tk {f : Nat} {l : Array Bool} {a : Act} {w : World} {op : _} {ty : _} {pos : _} {af : _} (i s : Nat) (v : Value) (ho : ops[i]? = some { dst := some s, op := op, type := ty, pos := pos, after := af, guard := none }) (hy : YieldsIf P ops S { dst := some s, op := op, type := ty, pos := pos, after := af, guard := none } v a) (hS : S w) (h : wpE P md ops Q S n f (l.setIfInBounds i true) (a.put (some s) v) w)
    (hs : Region.noSelect ops = true := by kernel_rfl) (hf : Region.free md ops l i = true := by kernel_rfl) (hr : (Region.ready md ops l).contains i = true := by kernel_rfl) (hw : waits md ops n i = true := by kernel_rfl) (hQ : ∀ c a w, Q (.panic c) (a.put (some s) v) w → Q (.panic c) a w := by exact fun _ _ _ h => h) : wpE P md ops Q S n (f + 1) l a w :=
  wpE_take ho hs hf hr hw hQ hy hS h
theorem wpE_on {f : Nat} {l : Array Bool} {a : Act} {w : World} {op : _} {ty : _} {pos : _} {af : _} (i : Nat) (dst : Option Nat) (ho : ops[i]? = some { dst := dst, op := op, type := ty, pos := pos, after := af, guard := none })
    (h : ∀ K : Act → World → Prop, Shut (∀ a w, (i = n ∨ S w) → wpE P md ops Q S n f (l.setIfInBounds i true) a w → K a w) → if Region.wanted ({ dst := dst, op := op, type := ty, pos := pos, after := af, guard := none } : Oper) (yielded ops a.tmps) = true then Oper.wp P { dst := dst, op := op, type := ty, pos := pos, after := af, guard := none } a w K Q else K (a.put dst undef) w)
    (hr : Region.ready md ops l = [i] := by kernel_rfl) : wpE P md ops Q S n (f + 1) l a w :=
  wpE_one hr ho h
theorem wpE_done {f : Nat} {l : Array Bool} {a : Act} {w : World} (hr : Region.ready md ops l = []) (h : Q .normal a w) : wpE P md ops Q S n f l a w := by
  cases f with
  | zero => exact ⟨hr, h⟩
  | succ f => exact ⟨fun _ => h, fun i hi => by rw [hr] at hi; cases hi⟩
theorem wp_region_E {id : Nat} {a : Act} {w : World} (hm : P.follows .mixedOrders = true) (h : wpE P .any ops Q S n ops.size (Array.replicate ops.size false) a w.drew) : (Code.region id ops true).wp P Q a w :=
  wp_region_any hm (wpE_any _ _ _ _ h)
end
end Go.Proofs.YthgnbbbdcebjhaaGreat
namespace Go.Proofs.YthgnbbbdcebjhaaGreat
open Go Go.RowKit Go.BigFrame
theorem Step.cellOld {own own' : Ow} {w w' : World} (h : Step own w own' w') {b o : Nat} {v : Value} (hn : own b = none) (hc : w.cell? ⟨b, o, none⟩ = some v) : w'.cell? ⟨b, o, none⟩ = some v :=
  (World.cell?_of_block (a := ⟨b, o, none⟩) (h.rest b (World.block_lt_of_cell? w _ hc) hn)).trans hc
theorem TreeAt.rowOwn {w : World} {own : Ow} {ptr : Nat → Nat} {tb : Nat} {T : Tr} (hT : TreeAt w own ptr tb T) {g cap : Nat} {i : Nat} {nd : Nd} (h : T.nodes[i]? = some (some nd))
    (hc : w.cell? ⟨tb, 3, none⟩ = some (.slice (some ⟨g, 0, none⟩) T.nodes.length cap)) : own g = some (1, 0) ∧ own tb = some (0, 0) := by
  obtain ⟨nv, hb, hot, hrow⟩ := hT.head
  have h3 := cellOf hb (i := 3) (v := nv) rfl
  rw [hc] at h3
  obtain rfl : nv = .slice (some ⟨g, 0, none⟩) T.nodes.length cap := by injection h3 with h3; exact h3.symm
  rcases hrow.2 with ⟨h0, _⟩ | ⟨g', cap', cur, q1, q2, _⟩
  · have := (List.getElem?_eq_some_iff.1 h).1; omega
  · cases q1; exact ⟨q2, hot⟩
theorem grownCell {w cw wA : World} {row : Option Nat} (hx : Ext w cw) (hg : cw.grownBy wA row) {b o : Nat} {v : Value} (hc : w.cell? ⟨b, o, none⟩ = some v) (hne : ∀ k, row = some k → k ≠ b) : wA.cell? ⟨b, o, none⟩ = some v := by
  have h1 := hx.cell hc
  exact (World.cell?_of_block (a := ⟨b, o, none⟩) (hg.block b (World.block_lt_of_cell? cw _ h1) (fun e => hne b e.symm rfl))).trans h1
theorem grownFree {w cw wA : World} {row : Option Nat} (hx : Ext w cw) (hg : cw.grownBy wA row) {b o : Nat} (hl : b < w.heap.size) (hc : w.frozen? ⟨b, o, none⟩ = false) (hne : ∀ k, row = some k → k ≠ b) : wA.frozen? ⟨b, o, none⟩ = false := by
  have h1 := hx.free hl hc
  exact (World.frozen?_of_block (a := ⟨b, o, none⟩) (hg.block b (Nat.lt_of_lt_of_le hl hx.size) (fun e => hne b e.symm rfl))).trans h1
theorem join_plain {w cw wA : World} {own0 own : Ow} {ptr : Nat → Nat} {tb : Nat} {T : Tr} (h0 : Step own0 w own cw) (hT : TreeAt cw own ptr tb T) {p k : Nat} {pd kd : Nd} (hp : T.nodes[p]? = some (some pd)) (hk : T.nodes[k]? = some (some kd)) (hpk : p ≠ k)
    (hpw : ∀ x, x < w.heap.size → own x ≠ none → own0 x ≠ none)
    {v : Value} {row : Option Nat} (hr : RowP wA (fun g => own g = some (4, p) ∨ cw.heap.size ≤ g) 3 1 v (pd.kids.length + 1) (pd.kids.map (Value.int .i64) ++ [.int .i64 k])) (hg : cw.grownBy wA row) (hrow : ∀ b, row = some b → own b = some (4, p)) :
    ∃ own1, Step own0 w own1 (wA.setCell ⟨ptr p, 3, none⟩ v) ∧ TreeAt (wA.setCell ⟨ptr p, 3, none⟩ v) own1 ptr tb { T with nodes := T.nodes.set p (some { pd with kids := pd.kids ++ [(k : Int)] }) } ∧
      Step own0 w own1 ((wA.setCell ⟨ptr p, 3, none⟩ v).setCell ⟨ptr k, 4, none⟩ (.int .i64 p)) ∧ TreeAt ((wA.setCell ⟨ptr p, 3, none⟩ v).setCell ⟨ptr k, 4, none⟩ (.int .i64 p)) own1 ptr tb (T.attach p k pd kd) := by
  obtain ⟨av, kv, b1, b2, b3, b4⟩ := hT.node p pd hp
  obtain ⟨avk, kvk, c1, c2, c3, c4⟩ := hT.node k kd hk
  have hr' : RowP wA (fun g => own g = some (4, p) ∨ cw.heap.size ≤ g) 3 1 v (pd.kids ++ [(k : Int)]).length ((pd.kids ++ [(k : Int)]).map (Value.int .i64)) := by
    simpa using hr
  obtain ⟨own1, hs1, hT1, hsame⟩ := kids_plain h0 hT hp (pd.kids ++ [(k : Int)]) (fun hx => hpw _ hx (by rw [b2]; simp)) (fun b hb hb2 => hpw _ hb (by rw [hb2]; simp)) hr' hg hrow
  have hkd : (T.nodes.set p (some { pd with kids := pd.kids ++ [(k : Int)] }))[k]? = some (some kd) := by
    rw [List.getElem?_set, if_neg hpk]; exact hk
  have hT2 := hT1.setParent hkd (p : Int)
  exact ⟨own1, hs1, hT1, hs1.setCell (p := ⟨ptr k, 4, none⟩) (fun hx => hpw _ hx (by rw [c2]; simp)) _, hT2⟩

theorem put_any {g : World} {tb tc pc : Nat} (htc : g.cell? ⟨tc, 0, none⟩ = some (.pointer (some ⟨tb, 0, none⟩))) (hpc : g.cell? ⟨pc, 0, none⟩ = some (putF tc pc)) :
    ∀ n : PN, n.ok = true → n.short = true → ∀ (nv : Value) (T : Tr) (d : Nat → Nat) (own : Ow) (ptr : Nat → Nat) (w : World), RdN g n nv → Apart g own w → TreeAt w own ptr tb T → Owned own w → WF T d → T.count + n.size ≤ T.cap → (n.high : Int) ≤ T.deep →
      Calls Tryz.prog 131 #[nv, .pointer (some ⟨tc, 0, none⟩), .pointer (some ⟨pc, 0, none⟩)] w (AddIs own w tb T.newId (PN.into T n)) := by
  refine PN.induct _ fun n ih hok hsh nv T d own ptr w hr hap hT hO hw hc hh => ?_
  obtain ⟨i, hi1, hi0, hi2, hround⟩ := put_round hok hw hc hh
  obtain ⟨av, kv, rfl, ha, hk⟩ := hr.open
  obtain ⟨aa, acap, rfl, hac⟩ := ha.len_of
  obtain ⟨ka, kcap, rfl, hkc, hkm, hkn, hkr⟩ := hk
  have x1 := (Ext.refl w).alloc (.cells #[.int .i64 n.tag, .slice aa n.attrs.length acap, .string n.text, .slice ka n.kids.length kcap] 35)
  have hbox := heap_alloc_new w (.cells #[.int .i64 n.tag, .slice aa n.attrs.length acap, .string n.text, .slice ka n.kids.length kcap] 35)
  have hob : own w.heap.size = none := by
    cases ho : own w.heap.size with
    | none => rfl
    | some x => have := hO w.heap.size (by simp [ho]); omega
  have hts : n.text.size ≤ 100000 := by have := hsh; rw [PN.short_eq] at this; simp at this; exact this.1.1
  have has : n.attrs.length ≤ 60000 := by have := hsh; rw [PN.short_eq] at this; simp at this; exact this.1.2
  have hroom : ∀ (T' : Tr), T' = T → (∀ x ∈ T.nodes, x ≠ none) → T.nodes.length ≤ 1999 := fun _ _ hall => by
    have := hw.len_full hall; have := hw.small.cap1; have := n.size_pos; omega
  have HX := qh x1
  have HA := qh ha
  have HKR := qh hkr
  have HKN := qh hkn
  have HAP := qh hap
  have HT := qh hT
  have HO := qh hO
  have HW := qh hw
  have HC := qh hc
  have HH := qh hh
  have HSH := qh hsh
  have HOK := qh hok
  have IH := qh ih
  have HI1 := qh hi1
  have HI2 := qh hi2
  have HRD := qh hround
  have HOB := qh hob
  have HTS := qh hts
  have HAS := qh has
  have HRM := qh hroom
  have HTC := qh htc
  have HPC := qh hpc
  unfold maxLen at hkm
  clear x1 ha hkr hkn hap hT hO hw hc hh hsh hok ih hi1 hi2 hround hr hob hts has hroom
  go_enter Tryz.func131, Tryz.ntmps131
  go_upto_region 1 with fail
  obtain ⟨wb, hwb⟩ : ∃ wb : World, wb = w.alloc (.cells #[.int .i64 n.tag, .slice aa n.attrs.length acap, .string n.text, .slice ka n.kids.length kcap] 35) := ⟨_, rfl⟩
  rw [← hwb] at hbox HX ⊢
  clear hwb
  have k0 := cellOf hbox (i := 0) (v := .int .i64 n.tag) rfl
  have k1 := cellOf hbox (i := 1) (v := .slice aa n.attrs.length acap) rfl
  have k2 := cellOf hbox (i := 2) (v := .string n.text) rfl
  have k3 := cellOf hbox (i := 3) (v := .slice ka n.kids.length kcap) rfl
  have ct := (HAP.out.ext HX.out).cells _ _ htc
  clear hbox htc hpc
  go_region_held3 (fun w' => w'.cell? ⟨tc, 0, none⟩ = some (.pointer (some ⟨tb, 0, none⟩)) ∧ w'.cell? ⟨w.heap.size, 0, none⟩ = some (.int .i64 n.tag) ∧ w'.cell? ⟨w.heap.size, 1, none⟩ = some (.slice aa n.attrs.length acap) ∧ w'.cell? ⟨w.heap.size, 2, none⟩ = some (.string n.text))
    (first | exact ⟨ct, k0, k1, k2⟩ | exact hkeep | go_keep)
    (first
    | (go_at_call 83; refine (anew_any _ HTS.out _).mono ?_; rintro e w' ⟨rfl, hy⟩; replace hy := Ext.undrew hy; have hkeep := (show _ ∧ _ ∧ _ ∧ _ from ⟨hy.cell ct, hy.cell k0, hy.cell k1, hy.cell k2⟩))
    | (go_at_call 82; refine (add_any (HT.out.keep ((HX.out.trans hy).keep HO.out)) (fun b hb => Nat.lt_of_lt_of_le (HO.out b hb) (HX.out.trans hy).size) HW.out.small (HRM.out _ rfl) n.tag (anewB n.text) _ n.attrs (HA.out.cells (HAP.out.ext (HX.out.trans hy)).cells) HAS.out (attrCells_one _)).mono ?_; rintro e w2 ⟨rfl, own2, ptr2, hT2, hS2⟩; have hkeep := (show _ ∧ _ ∧ _ ∧ _ from ⟨hS2.cellOld (HAP.out _ _ HTC.out).2 (hy.cell ct), hS2.cellOld HOB.out (hy.cell k0), hS2.cellOld HOB.out (hy.cell k1), hS2.cellOld HOB.out (hy.cell k2)⟩); have k3' := hS2.cellOld HOB.out (hy.cell k3)))
  replace hS2 := ((HX.out.trans hy).step HO.out).trans hS2
  rw [HI1.out]
  have HS2 := qh hS2
  have HT2 := qh hT2
  clear hkeep hS2 hT2 hy k0 k1 k2 k3 ct
  go_wp2_with fail
  go_loopw [7, 8, 22] (fun _ _ j wr => ∃ k : Nat, k ≤ n.kids.length ∧ j = .int .i64 k ∧ After own w tb (PN.intos i (T.put ⟨n.tag, n.attrs, anewB n.text, [], -1⟩) (n.kids.take k)) wr) (fun _ _ j _ => n.kids.length - (intOf j).toNat)
  case atStart => exact ⟨0, Nat.zero_le _, rfl, own2, ptr2, by simpa [PN.intos] using HT2.out, HS2.out⟩
  case round =>
    obtain ⟨k, hk, rfl, own3, ptr3, hT3, hS3⟩ := hrel
    have HT3 := qh hT3
    have HS3 := qh hS3
    clear hT3 hS3
    by_cases hlt : k < n.kids.length
    · obtain ⟨x, hx⟩ : ∃ x, n.kids[k]? = some x := ⟨n.kids[k], by simp [hlt]⟩
      have hap3 := HAP.out.step HS3.out
      cases ka with
      | none => exact absurd (HKN.out rfl).1 (by omega)
      | some a =>
        obtain ⟨b, off, sp⟩ := a
        obtain ⟨c0', c1', c2', c3', q0, q1, q2, q3, hrd⟩ := HKR.out _ rfl k x hx
        obtain ⟨av', kv', e, ha', hk'⟩ := hrd.open
        obtain ⟨aa', acap', e2, _⟩ := ha'.len_of
        obtain ⟨ka', kcap', e3, _⟩ := hk'
        subst e2 e3
        cases e
        clear ha'
        replace q0 := hap3.cells _ _ q0
        replace q1 := hap3.cells _ _ q1
        replace q2 := hap3.cells _ _ q2
        replace q3 := hap3.cells _ _ q3
        rw [add_later _ _ _ (by decide)] at q1 q2 q3
        obtain ⟨d3, nd3, hw3, hn3, hp3, hl3, hx3⟩ := HRD.out k
        obtain ⟨hc3, hh3⟩ := hx3 x hx
        have hmem : x ∈ n.kids := List.mem_of_getElem? hx
        have hshx : x.short = true := by
          have := HSH.out; rw [PN.short_eq] at this; simp at this
          exact PN.shorts_mem this.2 hmem
        have hokx : x.ok = true := PN.oks_mem (PN.ok_kids HOK.out) hmem
        have y1 := (Ext.refl wr).alloc (.cells #[.int .i64 x.tag, .slice aa' x.attrs.length acap', .string x.text, .slice ka' x.kids.length kcap'] 35)
        have hpc' := (hap3.ext y1).cells _ _ HPC.out
        have hrec := IH.out x hmem hokx hshx _ _ d3 own3 ptr3 (wr.alloc (.cells #[.int .i64 x.tag, .slice aa' x.attrs.length acap', .string x.text, .slice ka' x.kids.length kcap'] 35)) hrd (hap3.ext y1) (HT3.out.keep (y1.keep HS3.out.owned)) (fun b hb => Nat.lt_of_lt_of_le (HS3.out.owned b hb) y1.size) hw3 hc3 hh3
        obtain ⟨dz, m, hm1, hm0, hm2, hP⟩ := into_ok x hokx _ d3 hw3 hc3 hh3
        have HREC := qh hrec
        have HXX := qh hx
        have HY1 := qh y1
        have HW3 := qh hw3
        have HN3 := qh hn3
        have HM1 := qh hm1
        have HM2 := qh hm2
        have HP := qh hP
        have HL3 := qh hl3
        clear hx hrec hrd hmem hshx hokx y1 hw3 hn3 hx3 hc3 hh3 hap3 hm1 hm2 hP hl3 hp3
        go_wp2_with fail
        refine HREC.out.mono ?_
        rintro e w4 ⟨rfl, own4, ptr4, hT4, hS4⟩
        rw [HM1.out]
        replace hS4 := (HS3.out.ext HY1.out).trans hS4
        have hap4 := HAP.out.step hS4
        have ct := hap4.cells _ _ HTC.out
        have him : i ≠ m := fun e => HM2.out nd3 (e ▸ HN3.out)
        have hi4 := HP.out.old i nd3 him HN3.out
        obtain ⟨kd, hk1, hk2⟩ := HP.out.node
        obtain ⟨g4, gcap4, _, _, c3, cg, _⟩ := hT4.at hi4
        have cgm := hT4.nv hk1 c3
        obtain ⟨av5, kv5, bi, oi, _, hki⟩ := hT4.node i nd3 hi4
        obtain ⟨avm, kvm, bm, om, _, _⟩ := hT4.node m kd hk1
        obtain ⟨ka5, kcap5, e5, _, hkm5⟩ := hki.len
        subst e5
        have ci3 := cellOf bi (i := 3) (v := .slice ka5 nd3.kids.length kcap5) rfl
        have hil : (i : Int) < ((PN.into (PN.intos i (T.put ⟨n.tag, n.attrs, anewB n.text, [], -1⟩) (n.kids.take k)) x).nodes.length : Int) := by have := (List.getElem?_eq_some_iff.1 hi4).1; omega
        have hml : (m : Int) < ((PN.into (PN.intos i (T.put ⟨n.tag, n.attrs, anewB n.text, [], -1⟩) (n.kids.take k)) x).nodes.length : Int) := by have := (List.getElem?_eq_some_iff.1 hk1).1; omega
        have hlen5 := HP.out.wf.small.len
        have hnl : nd3.kids.length ≤ 60000 := by
          have := (HP.out.wf.small.len)
          have h1 := HL3.out
          have h2 := HC.out
          have h3 := HW.out.small.cap1
          have h4 := HW.out.small.count0
          omega
        have notc := (hap4 _ _ HTC.out).2
        obtain ⟨hog4, hotb4⟩ := hT4.rowOwn hi4 c3
        obtain ⟨i0, hii, hz0, hz1, hz2⟩ := info_parts infoI
        have npi : ptr4 m ≠ ptr4 i := fun e => by rw [e, oi] at om; simp at om; omega
        have fi3 := freeOf bi 3
        have fm4 := freeOf bm 4
        have cm4 := cellOf bm (i := 4) (v := .int .i64 kd.parent) rfl
        have lpi := cell_lt ci3
        have lpm := cell_lt cm4
        have n1 : ∀ z, own4 z = some (4, i) → z ≠ tc := fun z hz e => by rw [e, notc] at hz; cases hz
        have n2 : ∀ z, own4 z = some (4, i) → z ≠ tb := fun z hz e => by rw [e, hotb4] at hz; cases hz
        have n3 : ∀ z, own4 z = some (4, i) → z ≠ g4 := fun z hz e => by rw [e, hog4] at hz; cases hz
        have n4 : ∀ z, own4 z = some (4, i) → z ≠ ptr4 i := fun z hz e => by rw [e, oi] at hz; cases hz
        have n5 : ∀ z, own4 z = some (4, i) → z ≠ ptr4 m := fun z hz e => by rw [e, om] at hz; cases hz
        have m1 : tc ≠ ptr4 i := fun e => by rw [e, oi] at notc; cases notc
        have m2 : tb ≠ ptr4 i := fun e => by rw [e, oi] at hotb4; cases hotb4
        have m3 : g4 ≠ ptr4 i := fun e => by rw [e, oi] at hog4; cases hog4
        have hpw : ∀ x, x < w.heap.size → own4 x ≠ none → own x ≠ none := fun x hx hn => by rw [← hS4.same x hx]; exact hn
        have Hi := qh hii
        have Hz0 := qh hz0
        have Hz1 := qh hz1
        have Hz2 := qh hz2
        have HT4 := qh hT4
        have HS4 := qh hS4
        have HI4 := qh hi4
        have HK1 := qh hk1
        have HIM := qh him
        have HKI := qh hki
        have HPW := qh hpw
        have N1 := qh n1
        have N2 := qh n2
        have N3 := qh n3
        have N4 := qh n4
        have N5 := qh n5
        have FI3 := qh fi3
        have FM4 := qh fm4
        have CM4 := qh cm4
        have CGM := qh cgm
        have HK2 := qh hk2
        have HW4 := qh HP.out.wf
        generalize hTG : PN.into (PN.intos i (T.put ⟨n.tag, n.attrs, anewB n.text, [], -1⟩) (n.kids.take k)) x = TG at *
        have HTG := qh hTG
        have hi0' : (0 : Int) ≤ (i : Int) := Int.natCast_nonneg _
        have hm0' : (0 : Int) ≤ (m : Int) := Int.natCast_nonneg _
        have npz : ptr4 i ≠ w4.heap.size := Nat.ne_of_lt lpi
        have npz' := Ne.symm npz
        have ct' := fun (p : Addr) (v : Value) (h : w4.cell? p = some v) => ((Ext.refl w4).alloc (.cells #[.int .i64 m] 3)).cells p v h
        have ci3' : (w4.alloc (.cells #[.int .i64 m] 3)).cell? ⟨ptr4 i, 3, none⟩ = some (.slice ka5 nd3.kids.length kcap5) := ct' _ _ ci3
        have c3' := ct' _ _ c3
        have cg' := ct' _ _ cg
        replace ct' := ct' _ _ ct
        unfold maxLen at hkm5
        clear hii hz0 hz1 hz2 hT4 hS4 hi4 hk1 him hki hpw n1 n2 n3 n4 n5 fi3 fm4 cm4 cgm hk2 hTG bi bm notc hog4 hotb4 oi om hap4 HREC HW3 HN3 HM2 HP q0 q1 q2 q3 hpc'
        have xA : Ext w4 (w4.alloc (.cells #[.int .i64 m] 3)).drew := ((Ext.refl w4).alloc _).drew
        obtain ⟨v', wA, row, hrunA, hrA, hgA, hrowA⟩ := run_append_row (P := Tryz.prog) ((w4.alloc (.cells #[.int .i64 m] 3)).drew) 40 40 3 i0 (.int .i64 0) 1 8 Tryz.underlying40 Hi.out Hz0.out Hz1.out Hz2.out rfl (by decide) (p := fun b => own4 b = some (4, i)) (RowP.ext HKI.out xA) ⟨w4.heap.size, 0, none⟩ 1 1 [.int .i64 m] rfl (cell_one_new' (show (w4.alloc (.cells #[.int .i64 m] 3)).drew.cell? ⟨w4.heap.size, 0, none⟩ = some (.int .i64 m) from cellOf (heap_alloc_new w4 _) rfl)) (by simp [Value.oneCell']) (by decide) (by unfold maxLen; omega) (by omega)
        have ctA := grownCell xA hgA ct fun z hz => N1.out z (hrowA z hz)
        have c3A := grownCell xA hgA c3 fun z hz => N2.out z (hrowA z hz)
        have cgA := grownCell xA hgA cg fun z hz => N3.out z (hrowA z hz)
        have ciA := grownCell xA hgA ci3 fun z hz => N4.out z (hrowA z hz)
        have fA := grownFree xA hgA lpi FI3.out fun z hz => N4.out z (hrowA z hz)
        have fM := grownFree xA hgA lpm FM4.out fun z hz => N5.out z (hrowA z hz)
        have cM := grownCell xA hgA CM4.out fun z hz => N5.out z (hrowA z hz)
        have cG := grownCell xA hgA CGM.out fun z hz => N3.out z (hrowA z hz)
        have HJ := qh (join_plain (HS4.out.ext xA) (HT4.out.keep (xA.keep HS4.out.owned)) HI4.out HK1.out HIM.out HPW.out hrA hgA hrowA)
        obtain ⟨a7, cap7, e7, _⟩ := hrA.rd.len_of
        subst e7
        have HRA := qh hrunA
        clear hrA hgA hrowA hrunA
        go_upto_region 6 with fail
        go_cut [] (fun wx => wx = wA.setCell ⟨ptr4 i, 3, none⟩ (.slice a7 (nd3.kids.length + 1) cap7))
        case first =>
         as_aux_lemma =>
          refine wp_region_E (S := fun w' => w'.cell? ⟨tc, 0, none⟩ = some (.pointer (some ⟨tb, 0, none⟩)) ∧ w'.cell? ⟨tb, 3, none⟩ = some (.slice (some ⟨g4, 0, none⟩) TG.nodes.length gcap4) ∧ w'.cell? ⟨g4, i, none⟩ = some (.pointer (some ⟨ptr4 i, 0, none⟩)) ∧ w'.cell? ⟨ptr4 i, 3, none⟩ = some (.slice ka5 nd3.kids.length kcap5)) (n := 22) (by kernel_rfl) ?_
          have hS : w4.drew.cell? ⟨tc, 0, none⟩ = some (.pointer (some ⟨tb, 0, none⟩)) ∧ w4.drew.cell? ⟨tb, 3, none⟩ = some (.slice (some ⟨g4, 0, none⟩) TG.nodes.length gcap4) ∧ w4.drew.cell? ⟨g4, i, none⟩ = some (.pointer (some ⟨ptr4 i, 0, none⟩)) ∧ w4.drew.cell? ⟨ptr4 i, 3, none⟩ = some (.slice ka5 nd3.kids.length kcap5) := ⟨ct, c3, cg, ci3⟩
          show wpE _ _ _ _ _ 22 23 (Array.replicate 23 false) _ _
          refine wpE_tk 0 29 (.pointer (some ⟨tb, 0, none⟩)) rfl (.inl ⟨by rfl, fun w' hSw => ?_⟩) hS ?_
          · (obtain ⟨s1, s2, s3, s4⟩ := hSw; clear hS; go_simp)
          try simp only [Act.put, zA, zB, zC]
          refine wpE_tk 1 30 (.pointer (some ⟨tb, 0, none⟩)) rfl (.inl ⟨by rfl, fun w' hSw => ?_⟩) hS ?_
          · (obtain ⟨s1, s2, s3, s4⟩ := hSw; clear hS; go_simp)
          try simp only [Act.put, zA, zB, zC]
          refine wpE_tk 2 31 (.pointer (some ⟨tb, 3, none⟩)) rfl (.inl ⟨by rfl, fun w' hSw => ?_⟩) hS ?_
          · (obtain ⟨s1, s2, s3, s4⟩ := hSw; clear hS; go_simp)
          try simp only [Act.put, zA, zB, zC]
          refine wpE_tk 3 32 (.slice (some ⟨g4, 0, none⟩) TG.nodes.length gcap4) rfl (.inl ⟨by rfl, fun w' hSw => ?_⟩) hS ?_
          · (obtain ⟨s1, s2, s3, s4⟩ := hSw; clear hS; go_simp)
          try simp only [Act.put, zA, zB, zC]
          refine wpE_tk 4 33 (.int .i64 i) rfl (.inl ⟨by rfl, fun w' hSw => ?_⟩) hS ?_
          · (obtain ⟨s1, s2, s3, s4⟩ := hSw; clear hS; go_simp)
          try simp only [Act.put, zA, zB, zC]
          refine wpE_tk 5 34 (.pointer (some ⟨g4, i, none⟩)) rfl (.inl ⟨by rfl, fun w' hSw => ?_⟩) hS ?_
          · (obtain ⟨s1, s2, s3, s4⟩ := hSw; clear hS; go_simp)
          try simp only [Act.put, zA, zB, zC]
          refine wpE_tk 6 35 (.pointer (some ⟨ptr4 i, 0, none⟩)) rfl (.inl ⟨by rfl, fun w' hSw => ?_⟩) hS ?_
          · (obtain ⟨s1, s2, s3, s4⟩ := hSw; clear hS; go_simp)
          try simp only [Act.put, zA, zB, zC]
          refine wpE_tk 7 36 (.pointer (some ⟨tb, 0, none⟩)) rfl (.inl ⟨by rfl, fun w' hSw => ?_⟩) hS ?_
          · (obtain ⟨s1, s2, s3, s4⟩ := hSw; clear hS; go_simp)
          try simp only [Act.put, zA, zB, zC]
          refine wpE_tk 8 37 (.pointer (some ⟨tb, 0, none⟩)) rfl (.inl ⟨by rfl, fun w' hSw => ?_⟩) hS ?_
          · (obtain ⟨s1, s2, s3, s4⟩ := hSw; clear hS; go_simp)
          try simp only [Act.put, zA, zB, zC]
          refine wpE_tk 9 38 (.pointer (some ⟨tb, 3, none⟩)) rfl (.inl ⟨by rfl, fun w' hSw => ?_⟩) hS ?_
          · (obtain ⟨s1, s2, s3, s4⟩ := hSw; clear hS; go_simp)
          try simp only [Act.put, zA, zB, zC]
          refine wpE_tk 10 39 (.slice (some ⟨g4, 0, none⟩) TG.nodes.length gcap4) rfl (.inl ⟨by rfl, fun w' hSw => ?_⟩) hS ?_
          · (obtain ⟨s1, s2, s3, s4⟩ := hSw; clear hS; go_simp)
          try simp only [Act.put, zA, zB, zC]
          refine wpE_tk 11 40 (.int .i64 i) rfl (.inl ⟨by rfl, fun w' hSw => ?_⟩) hS ?_
          · (obtain ⟨s1, s2, s3, s4⟩ := hSw; clear hS; go_simp)
          try simp only [Act.put, zA, zB, zC]
          refine wpE_tk 12 41 (.pointer (some ⟨g4, i, none⟩)) rfl (.inl ⟨by rfl, fun w' hSw => ?_⟩) hS ?_
          · (obtain ⟨s1, s2, s3, s4⟩ := hSw; clear hS; go_simp)
          try simp only [Act.put, zA, zB, zC]
          refine wpE_tk 13 42 (.pointer (some ⟨ptr4 i, 0, none⟩)) rfl (.inl ⟨by rfl, fun w' hSw => ?_⟩) hS ?_
          · (obtain ⟨s1, s2, s3, s4⟩ := hSw; clear hS; go_simp)
          try simp only [Act.put, zA, zB, zC]
          refine wpE_tk 14 43 (.pointer (some ⟨ptr4 i, 0, none⟩)) rfl (.inl ⟨by rfl, fun w' hSw => ?_⟩) hS ?_
          · (obtain ⟨s1, s2, s3, s4⟩ := hSw; clear hS; go_simp)
          try simp only [Act.put, zA, zB, zC]
          refine wpE_tk 15 44 (.pointer (some ⟨ptr4 i, 3, none⟩)) rfl (.inl ⟨by rfl, fun w' hSw => ?_⟩) hS ?_
          · (obtain ⟨s1, s2, s3, s4⟩ := hSw; clear hS; go_simp)
          try simp only [Act.put, zA, zB, zC]
          refine wpE_tk 16 45 (.slice ka5 nd3.kids.length kcap5) rfl (.inl ⟨by rfl, fun w' hSw => ?_⟩) hS ?_
          · (obtain ⟨s1, s2, s3, s4⟩ := hSw; clear hS; go_simp)
          try simp only [Act.put, zA, zB, zC]
          refine wpE_tk 17 46 (.int .i64 m) rfl (.inl ⟨by rfl, fun w' hSw => ?_⟩) hS ?_
          · (obtain ⟨s1, s2, s3, s4⟩ := hSw; clear hS; go_simp)
          try simp only [Act.put, zA, zB, zC]
          refine wpE_on 18 (some 47) rfl (fun K hK => ?_)
          go_simp
          refine hK.out _ _ (.inr ⟨ct', c3', cg', ci3'⟩) ?_
          clear hK K
          try simp only [Act.put, zA, zB, zC]
          refine wpE_on 19 (some 48) rfl (fun K hK => ?_)
          refine step_append_run (by rfl) _ _ 40 (by rfl) (.slice ka5 nd3.kids.length kcap5) (.slice (some ⟨w4.heap.size, 0, none⟩) 1 1) (by rfl) (by rfl) (.slice a7 (nd3.kids.length + 1) cap7) wA HRA.out ?_
          refine hK.out _ _ (.inr ⟨ctA, c3A, cgA, ciA⟩) ?_
          clear hK K
          try simp only [Act.put, zA, zB, zC]
          refine wpE_on 20 (some 49) rfl (fun K hK => ?_)
          go_simp
          refine hK.out _ _ (.inr ⟨ctA, c3A, cgA, ciA⟩) ?_
          clear hK K
          try simp only [Act.put, zA, zB, zC]
          refine wpE_on 21 (some 50) rfl (fun K hK => ?_)
          go_simp
          refine hK.out _ _ (.inr ⟨ctA, c3A, cgA, ciA⟩) ?_
          clear hK K
          try simp only [Act.put, zA, zB, zC]
          refine wpE_on 22 (none) rfl (fun K hK => ?_)
          go_simp
          refine hK.out _ _ (.inl rfl) ?_
          clear hK K
          refine wpE_done (by kernel_rfl) ?_
          go_wp2_with fail
          go_meet
          rfl
        case rest =>
          subst hcut
          have m1' := Ne.symm m1
          have m2' := Ne.symm m2
          have m3' := Ne.symm m3
          have npi' := Ne.symm npi
          have ctB : (wA.setCell ⟨ptr4 i, 3, none⟩ (.slice a7 (nd3.kids.length + 1) cap7)).cell? ⟨tc, 0, none⟩ = some (.pointer (some ⟨tb, 0, none⟩)) := (World.cell?_of_block (a := ⟨tc, 0, none⟩) (heap_setCell_other _ m1)).trans ctA
          have c3B : (wA.setCell ⟨ptr4 i, 3, none⟩ (.slice a7 (nd3.kids.length + 1) cap7)).cell? ⟨tb, 3, none⟩ = some (.slice (some ⟨g4, 0, none⟩) TG.nodes.length gcap4) := (World.cell?_of_block (a := ⟨tb, 3, none⟩) (heap_setCell_other _ m2)).trans c3A
          have cgB : (wA.setCell ⟨ptr4 i, 3, none⟩ (.slice a7 (nd3.kids.length + 1) cap7)).cell? ⟨g4, m, none⟩ = some (.pointer (some ⟨ptr4 m, 0, none⟩)) := (World.cell?_of_block (a := ⟨g4, m, none⟩) (heap_setCell_other _ m3)).trans cG
          have cmB : (wA.setCell ⟨ptr4 i, 3, none⟩ (.slice a7 (nd3.kids.length + 1) cap7)).cell? ⟨ptr4 m, 4, none⟩ = some (.int .i64 kd.parent) := (World.cell?_of_block (a := ⟨ptr4 m, 4, none⟩) (heap_setCell_other _ npi)).trans cM
          have fmB : (wA.setCell ⟨ptr4 i, 3, none⟩ (.slice a7 (nd3.kids.length + 1) cap7)).frozen? ⟨ptr4 m, 4, none⟩ = false := (World.frozen?_of_block (a := ⟨ptr4 m, 4, none⟩) (heap_setCell_other _ npi)).trans fM
          obtain ⟨wB, hwB⟩ : ∃ wB : World, wB = wA.setCell ⟨ptr4 i, 3, none⟩ (.slice a7 (nd3.kids.length + 1) cap7) := ⟨_, rfl⟩
          rw [← hwB] at ctB c3B cgB cmB fmB HJ ⊢
          clear hwB ctA c3A cgA ciA fA fM cM cG ct c3 cg ci3 ct' c3' cg' ci3' HRA
          go_wp2_with fail
          go_roundw
          case rel =>
            obtain ⟨own1, _, _, j3, j4⟩ := HJ.out
            refine ⟨k + 1, by omega, by go_num, own1, ptr4, ?_, j3⟩
            rw [intos_take _ _ _ _ _ HXX.out, HTG.out, HM1.out]
            have e : TG.join i m = TG.attach i m nd3 kd := by
              unfold Tr.join
              rw [Int.toNat_natCast, Int.toNat_natCast, look_of HI4.out, look_of HK1.out]
            rw [e]; exact j4
          case measure => simp [intOf]; omega
    · go_wp2_with fail
      go_ret
      refine ⟨by rw [HI1.out]; rfl, own3, ptr3, ?_, HS3.out⟩
      have h := HT3.out
      rw [List.take_of_length_le (by omega)] at h
      rw [PN.into_eq, HI1.out]
      exact h
theorem nodup_le {l m : List Int} (hn : l.Nodup) (h : ∀ x ∈ l, x ∈ m) : l.length ≤ m.length := by
  induction l generalizing m with
  | nil => simp
  | cons a r ih =>
    have ha := h a (by simp)
    have hr := List.nodup_cons.1 hn
    have := ih (m := m.erase a) hr.2 fun x hx => (List.mem_erase_of_ne (fun e => hr.1 (by rw [← e]; exact hx))).2 (h x (by simp [hx]))
    rw [List.length_erase_of_mem ha] at this
    have := List.length_pos_of_mem ha
    simp only [List.length_cons]; omega
theorem WF.kids_len {T : Tr} {d : Nat → Nat} (hw : WF T d) {i : Nat} {nd : Nd} (h : T.nodes[i]? = some (some nd)) : nd.kids.length ≤ 2000 := by
  have h1 := nodup_le (m := (List.range T.nodes.length).map Int.ofNat) (hw.kids i nd h).1 fun x hx => by
    obtain ⟨j, kd, rfl, hj, _⟩ := (hw.kids i nd h).2 x hx
    exact List.mem_map.2 ⟨j, List.mem_range.2 (List.getElem?_eq_some_iff.1 hj).1, rfl⟩
  simp at h1
  have := hw.small.len
  omega
def hide (own : Ow) (w : World) : World := { w with heap := w.heap.mapIdx fun b x => if (own b).isNone then x else .cells #[] 0 (0, 0) }
theorem hide_cell {own : Ow} {w : World} {p : Addr} {v : Value} (h : w.cell? p = some v) (hn : own p.block = none) : (hide own w).cell? p = some v := by
  rw [← h]
  refine World.cell?_of_block ?_
  show (w.heap.mapIdx _)[p.block]? = _
  rw [Array.getElem?_mapIdx, hn]
  cases w.heap[p.block]? <;> rfl
theorem hide_apart (own : Ow) (w : World) : Apart (hide own w) own w := by
  intro p v h
  have hn : own p.block = none := by
    cases ho : own p.block with
    | none => rfl
    | some x =>
      exfalso
      have hb : (hide own w).heap[p.block]? = (w.heap[p.block]?).map fun _ => (.cells #[] 0 (0, 0) : Obj) := by
        show (w.heap.mapIdx _)[p.block]? = _
        rw [Array.getElem?_mapIdx, ho]; rfl
      cases hw : w.heap[p.block]? with
      | none => rw [hw] at hb; simp [World.cell?, hb] at h
      | some o => rw [hw] at hb; simp [World.cell?, hb] at h
  refine ⟨?_, hn⟩
  rw [← h]
  refine (World.cell?_of_block ?_).symm
  show (w.heap.mapIdx _)[p.block]? = _
  rw [Array.getElem?_mapIdx, hn]
  cases w.heap[p.block]? <;> rfl
theorem Apart.hide {g : World} {own : Ow} {w : World} (h : Apart g own w) : Cells g (hide own w) := fun p v hp => hide_cell (h p v hp).1 (h p v hp).2
theorem Put.apart {T T' : Tr} {d d' : Nat → Nat} {i : Nat} {n : PN} {sz hi : Nat} (hP : Put T T' d' i n sz hi) (hw : WF T d) (hi2 : ∀ x : Nd, T.nodes[i]? ≠ some (some x)) :
    ∀ (j : Nat) (jd : Nd), T.nodes[j]? = some (some jd) → T'.within j i = false ∧ d' j = d j := by
  refine hw.induct _ (fun j jd h hp hd => ?_) (fun j jd p pd h hp hpd hd ih => ?_)
  · have hji : j ≠ i := fun e => hi2 jd (e ▸ h)
    have h' := hP.old j jd hji h
    refine ⟨by rw [hP.wf.within_root h' hp]; simp; omega, ?_⟩
    rcases hP.wf.up j jd h' with ⟨h3, h4⟩ | ⟨q, qd, h3, h4, h5, h6⟩
    · omega
    · omega
  · have hji : j ≠ i := fun e => hi2 jd (e ▸ h)
    have h' := hP.old j jd hji h
    refine ⟨by rw [hP.wf.within_step h', if_neg (by omega), hp]; exact ih.1, ?_⟩
    rcases hP.wf.up j jd h' with ⟨h3, h4⟩ | ⟨q, qd, h3, h4, h5, h6⟩
    · omega
    · obtain rfl : q = p := by omega
      omega
theorem Graft_none {w : World} {own : Ow} {ptr : Nat → Nat} {tb : Nat} {T : Tr} (hT : TreeAt w own ptr tb T) (hO : Owned own w) {p at' : Int} (h : T.get? p = none) (x y z u : Value) :
    Calls Tryz.prog 80 #[.pointer (some ⟨tb, 0, none⟩), .int .i64 p, .int .i64 at', .agg #[x, y, z, u]] w (RTwo (.int .i64 0) (.int .i64 2) w) := by
  have x1 := ((Ext.refl w).alloc (.cells #[.pointer (some ⟨tb, 0, none⟩)] 47)).alloc (.cells #[x, y, z, u] 35)
  have HT := qh (hT.keep (x1.keep hO))
  have H := qh h
  have HX := qh x1
  clear h hT x1
  go_enter Tryz.func80, Tryz.ntmps80
  go_wp2_with (go_at_call 70; refine (get_none HT.out H.out).mono ?_; rintro e w' ⟨rfl, rfl⟩)
  go_ret2
  exact ⟨rfl, HX.out⟩
theorem Graft_kind {w : World} {own : Ow} {ptr : Nat → Nat} {tb : Nat} {T : Tr} (hT : TreeAt w own ptr tb T) (hO : Owned own w) {p at' : Int} {pd : Nd} (h : T.get? p = some pd) (ht : (pd.tag == 0) = true) (x y z u : Value) :
    Calls Tryz.prog 80 #[.pointer (some ⟨tb, 0, none⟩), .int .i64 p, .int .i64 at', .agg #[x, y, z, u]] w (RTwo (.int .i64 0) (.int .i64 6) w) := by
  have x1 := ((Ext.refl w).alloc (.cells #[.pointer (some ⟨tb, 0, none⟩)] 47)).alloc (.cells #[x, y, z, u] 35)
  have hT1 := hT.keep (x1.keep hO)
  obtain ⟨avp, kvp, bp, _, _, hkp⟩ := hT1.node _ _ (Tr.get_lt h).2.2
  have cp0 := cellOf bp (i := 0) (v := .int .i64 pd.tag) rfl
  have HT := qh hT1
  have H := qh h
  have HX := qh x1
  clear h hT x1 hT1 bp hkp
  go_enter Tryz.func80, Tryz.ntmps80
  go_wp2_with (go_at_call 70; refine (get_some HT.out H.out).mono ?_; rintro e w' ⟨rfl, rfl⟩)
  go_ret2
  exact ⟨rfl, HX.out⟩
theorem Graft_arg {w : World} {own : Ow} {ptr : Nat → Nat} {tb : Nat} {T : Tr} (hT : TreeAt w own ptr tb T) (hO : Owned own w) {p at' : Int} {pd : Nd} (h : T.get? p = some pd) (ht : (pd.tag == 0) = false) (ha : at' < 0 ∨ (pd.kids.length : Int) < at') (x y z u : Value) :
    Calls Tryz.prog 80 #[.pointer (some ⟨tb, 0, none⟩), .int .i64 p, .int .i64 at', .agg #[x, y, z, u]] w (RTwo (.int .i64 0) (.int .i64 1) w) := by
  have x1 := ((Ext.refl w).alloc (.cells #[.pointer (some ⟨tb, 0, none⟩)] 47)).alloc (.cells #[x, y, z, u] 35)
  have hT1 := hT.keep (x1.keep hO)
  obtain ⟨avp, kvp, bp, _, _, hkp⟩ := hT1.node _ _ (Tr.get_lt h).2.2
  obtain ⟨ka, kcap, rfl, kc1, kc2⟩ := hkp.len
  have cp0 := cellOf bp (i := 0) (v := .int .i64 pd.tag) rfl
  have cp3 := cellOf bp (i := 3) (v := .slice ka pd.kids.length kcap) rfl
  have HT := qh hT1
  have H := qh h
  have HX := qh x1
  clear h hT x1 hT1 bp hkp kc1 kc2
  by_cases h1 : at' < 0
  · clear ha
    go_enter Tryz.func80, Tryz.ntmps80
    go_wp2_with (go_at_call 70; refine (get_some HT.out H.out).mono ?_; rintro e w' ⟨rfl, rfl⟩)
    go_ret2
    exact ⟨rfl, HX.out⟩
  · have h2 : (pd.kids.length : Int) < at' := by rcases ha with h | h; exact absurd h h1; exact h
    clear ha
    go_enter Tryz.func80, Tryz.ntmps80
    go_wp2_with (go_at_call 70; refine (get_some HT.out H.out).mono ?_; rintro e w' ⟨rfl, rfl⟩)
    go_ret2
    exact ⟨rfl, HX.out⟩
theorem Graft_bad {g w : World} {own : Ow} {ptr : Nat → Nat} {tb : Nat} {T : Tr} (hT : TreeAt w own ptr tb T) (hO : Owned own w) {d : Nat → Nat} (hw : WF T d) {p at' : Nat} {pd : Nd} (hp : T.nodes[p]? = some (some pd)) (ht : (pd.tag == 0) = false) (hat : at' ≤ pd.kids.length)
    {n : PN} {nv : Value} (hr : RdN g n nv) (hap : Apart g own w) (hsh : n.short = true) (hsz : n.size ≤ 90000) (he : (PN.look 0 ⟨0, 0, 0⟩ n).e ≠ 0) :
    Calls Tryz.prog 80 #[.pointer (some ⟨tb, 0, none⟩), .int .i64 p, .int .i64 at', nv] w (RTwo (.int .i64 0) (.int .i64 (PN.look 0 ⟨0, 0, 0⟩ n).e) w) := by
  obtain ⟨av, kv, rfl, ha, hk⟩ := hr.open
  obtain ⟨aa, acap, rfl, hac⟩ := ha.len_of
  obtain ⟨ka', kcap', rfl, hkc, hkm, hkn, hkr⟩ := hk
  have x1 := ((Ext.refl w).alloc (.cells #[.pointer (some ⟨tb, 0, none⟩)] 47)).alloc (.cells #[.int .i64 n.tag, .slice aa n.attrs.length acap, .string n.text, .slice ka' n.kids.length kcap'] 35)
  have hT1 := hT.keep (x1.keep hO)
  obtain ⟨avp, kvp, bp, op, _, hkp⟩ := hT1.node _ _ hp
  obtain ⟨ka, kcap, rfl, kc1, kc2⟩ := hkp.len
  have cp0 := cellOf bp (i := 0) (v := .int .i64 pd.tag) rfl
  have cp3 := cellOf bp (i := 3) (v := .slice ka pd.kids.length kcap) rfl
  have hms := measure_any (hr.cells (hap.ext x1).cells) hsh hsz
  have HMS := qh hms
  have HP := qh (Tr.get_of hp)
  have HNP := qh hp
  have HT := qh hT
  have HT1 := qh hT1
  have HO := qh hO
  have HW := qh hw
  have HX := qh x1
  have HR := qh hr
  have HAP := qh hap
  have hszb : (n.size : Int) ≤ 90000 := by omega
  have hpb : (p : Int) ≤ 2000 := by have := (List.getElem?_eq_some_iff.1 hp).1; have := hw.small.len; omega
  have hd1 := hw.deep p pd hp
  have hd2 := hw.small.deep1
  have hkl := hw.kids_len hp
  have hhn : (n.high : Int) ≤ 90000 := by have := high_lt n; omega
  have heb : ((PN.look 0 ⟨0, 0, 0⟩ n).e != 0) = true := by simpa using he
  clear he
  clear hr hap hT hO hw hp x1 hT1 bp hkp op hms hkr hkn ha kc2
  go_enter Tryz.func80, Tryz.ntmps80
  go_wp2_with fail
  refine (get_some HT1.out HP.out).mono ?_
  rintro e w' ⟨rfl, rfl⟩
  go_wp2_with fail
  refine HMS.out.mono ?_
  rintro e w2 ⟨rfl, hx2⟩
  go_wp2_with fail
  go_ret2
  exact ⟨rfl, HX.out.trans hx2⟩
theorem Graft_deep {g w : World} {own : Ow} {ptr : Nat → Nat} {tb : Nat} {T : Tr} (hT : TreeAt w own ptr tb T) (hO : Owned own w) {d : Nat → Nat} (hw : WF T d) {p at' : Nat} {pd : Nd} (hp : T.nodes[p]? = some (some pd)) (ht : (pd.tag == 0) = false) (hat : at' ≤ pd.kids.length)
    {n : PN} {nv : Value} (hr : RdN g n nv) (hap : Apart g own w) (hsh : n.short = true) (hsz : n.size ≤ 90000) (hok : n.ok = true) (hdp : T.deep < (d p : Int) + 1 + n.high) :
    Calls Tryz.prog 80 #[.pointer (some ⟨tb, 0, none⟩), .int .i64 p, .int .i64 at', nv] w (RTwo (.int .i64 0) (.int .i64 4) w) := by
  obtain ⟨av, kv, rfl, ha, hk⟩ := hr.open
  obtain ⟨aa, acap, rfl, hac⟩ := ha.len_of
  obtain ⟨ka', kcap', rfl, hkc, hkm, hkn, hkr⟩ := hk
  have x1 := ((Ext.refl w).alloc (.cells #[.pointer (some ⟨tb, 0, none⟩)] 47)).alloc (.cells #[.int .i64 n.tag, .slice aa n.attrs.length acap, .string n.text, .slice ka' n.kids.length kcap'] 35)
  have hT1 := hT.keep (x1.keep hO)
  obtain ⟨avp, kvp, bp, op, _, hkp⟩ := hT1.node _ _ hp
  obtain ⟨ka, kcap, rfl, kc1, kc2⟩ := hkp.len
  have cp0 := cellOf bp (i := 0) (v := .int .i64 pd.tag) rfl
  have cp3 := cellOf bp (i := 3) (v := .slice ka pd.kids.length kcap) rfl
  have hms := measure_any (hr.cells (hap.ext x1).cells) hsh hsz
  have HMS := qh hms
  have HP := qh (Tr.get_of hp)
  have HNP := qh hp
  have HT := qh hT
  have HT1 := qh hT1
  have HO := qh hO
  have HW := qh hw
  have HX := qh x1
  have HR := qh hr
  have HAP := qh hap
  have hszb : (n.size : Int) ≤ 90000 := by omega
  have hpb : (p : Int) ≤ 2000 := by have := (List.getElem?_eq_some_iff.1 hp).1; have := hw.small.len; omega
  have hd1 := hw.deep p pd hp
  have hd2 := hw.small.deep1
  have hkl := hw.kids_len hp
  have hhn : (n.high : Int) ≤ 90000 := by have := high_lt n; omega
  have heb : ((PN.look 0 ⟨0, 0, 0⟩ n).e != 0) = false := by
    have := ((look_spec n 0 ⟨0, 0, 0⟩).2.2).2 ⟨rfl, hok⟩
    simp [this]
  clear hr hap hT hO hw hp x1 hT1 bp hkp op hms hkr hkn ha kc2
  go_enter Tryz.func80, Tryz.ntmps80
  go_wp2_with fail
  refine (get_some HT1.out HP.out).mono ?_
  rintro e w' ⟨rfl, rfl⟩
  go_wp2_with fail
  refine HMS.out.mono ?_
  rintro e w2 ⟨rfl, hx2⟩
  have c0 := hx2.cell (b := w.heap.size) (o := 0) (v := .pointer (some ⟨tb, 0, none⟩)) (by simp [go_sem])
  have hT2 := HT.out.keep ((HX.out.trans hx2).keep HO.out)
  have hO2 : Owned own w2 := fun b hb => Nat.lt_of_lt_of_le (HO.out b hb) (HX.out.trans hx2).size
  obtain ⟨nv2, hb2, hot, _⟩ := hT2.head
  have ct1 := cellOf hb2 (i := 1) (v := .int .i64 T.deep) rfl
  have c0' := fun u : ExtOf w2 => u.ext.cell c0
  have ct1' := fun u : ExtOf w2 => u.ext.cell ct1
  have HT2 := qh hT2
  have HO2 := qh hO2
  have HX2 := qh hx2
  have hq1 : IntKind.i64.wrap ((d p : Int) + 1) = (d p : Int) + 1 := IntWalk.i64_in _ (by omega)
  have hq2 : IntKind.i64.wrap ((d p : Int) + 1 + (n.high : Int)) = (d p : Int) + 1 + (n.high : Int) := IntWalk.i64_in _ (by omega)
  clear hT2 hO2 hx2 hb2 hot
  go_wp2_with fail
  refine wp_region_ext (by kernel_rfl) (by kernel_rfl) ?_
  repeat (go_big_quiet_step ((go_at_call 116; exact inExt (RSame.val (Depth_some (HT2.out.keep (ExtOf.ext _ |>.keep HO2.out)) HW.out HNP.out)))))
  refine wpQuiet_nil ?_
  rintro _ ⟨u, rfl⟩
  obtain ⟨wu, xu⟩ := u
  show Exit.then _ _ Exit.normal _ wu
  clear c0' ct1' hq1 hq2
  go_wp2_with fail
  go_ret2
  exact ⟨rfl, (HX.out.trans HX2.out).trans xu⟩
theorem Graft_full {g w : World} {own : Ow} {ptr : Nat → Nat} {tb : Nat} {T : Tr} (hT : TreeAt w own ptr tb T) (hO : Owned own w) {d : Nat → Nat} (hw : WF T d) {p at' : Nat} {pd : Nd} (hp : T.nodes[p]? = some (some pd)) (ht : (pd.tag == 0) = false) (hat : at' ≤ pd.kids.length)
    {n : PN} {nv : Value} (hr : RdN g n nv) (hap : Apart g own w) (hsh : n.short = true) (hsz : n.size ≤ 90000) (hok : n.ok = true) (hdp : (d p : Int) + 1 + n.high ≤ T.deep) (hf : ¬ (n.size : Int) ≤ T.cap - T.count) :
    Calls Tryz.prog 80 #[.pointer (some ⟨tb, 0, none⟩), .int .i64 p, .int .i64 at', nv] w (RTwo (.int .i64 0) (.int .i64 3) w) := by
  obtain ⟨av, kv, rfl, ha, hk⟩ := hr.open
  obtain ⟨aa, acap, rfl, hac⟩ := ha.len_of
  obtain ⟨ka', kcap', rfl, hkc, hkm, hkn, hkr⟩ := hk
  have x1 := ((Ext.refl w).alloc (.cells #[.pointer (some ⟨tb, 0, none⟩)] 47)).alloc (.cells #[.int .i64 n.tag, .slice aa n.attrs.length acap, .string n.text, .slice ka' n.kids.length kcap'] 35)
  have hT1 := hT.keep (x1.keep hO)
  obtain ⟨avp, kvp, bp, op, _, hkp⟩ := hT1.node _ _ hp
  obtain ⟨ka, kcap, rfl, kc1, kc2⟩ := hkp.len
  have cp0 := cellOf bp (i := 0) (v := .int .i64 pd.tag) rfl
  have cp3 := cellOf bp (i := 3) (v := .slice ka pd.kids.length kcap) rfl
  have hms := measure_any (hr.cells (hap.ext x1).cells) hsh hsz
  have HMS := qh hms
  have HP := qh (Tr.get_of hp)
  have HNP := qh hp
  have HT := qh hT
  have HT1 := qh hT1
  have HO := qh hO
  have HW := qh hw
  have HX := qh x1
  have HR := qh hr
  have HAP := qh hap
  have hszb : (n.size : Int) ≤ 90000 := by omega
  have hpb : (p : Int) ≤ 2000 := by have := (List.getElem?_eq_some_iff.1 hp).1; have := hw.small.len; omega
  have hd1 := hw.deep p pd hp
  have hd2 := hw.small.deep1
  have hkl := hw.kids_len hp
  have hhn : (n.high : Int) ≤ 90000 := by have := high_lt n; omega
  have heb : ((PN.look 0 ⟨0, 0, 0⟩ n).e != 0) = false := by
    have := ((look_spec n 0 ⟨0, 0, 0⟩).2.2).2 ⟨rfl, hok⟩
    simp [this]
  have HF := qh hf
  clear hf
  clear hr hap hT hO hw hp x1 hT1 bp hkp op hms hkr hkn ha kc2
  go_enter Tryz.func80, Tryz.ntmps80
  go_wp2_with fail
  refine (get_some HT1.out HP.out).mono ?_
  rintro e w' ⟨rfl, rfl⟩
  go_wp2_with fail
  refine HMS.out.mono ?_
  rintro e w2 ⟨rfl, hx2⟩
  have c0 := hx2.cell (b := w.heap.size) (o := 0) (v := .pointer (some ⟨tb, 0, none⟩)) (by simp [go_sem])
  have hT2 := HT.out.keep ((HX.out.trans hx2).keep HO.out)
  have hO2 : Owned own w2 := fun b hb => Nat.lt_of_lt_of_le (HO.out b hb) (HX.out.trans hx2).size
  obtain ⟨nv2, hb2, hot, _⟩ := hT2.head
  have ct1 := cellOf hb2 (i := 1) (v := .int .i64 T.deep) rfl
  have c0' := fun u : ExtOf w2 => u.ext.cell c0
  have ct1' := fun u : ExtOf w2 => u.ext.cell ct1
  have HT2 := qh hT2
  have HO2 := qh hO2
  have HX2 := qh hx2
  have hq1 : IntKind.i64.wrap ((d p : Int) + 1) = (d p : Int) + 1 := IntWalk.i64_in _ (by omega)
  have hq2 : IntKind.i64.wrap ((d p : Int) + 1 + (n.high : Int)) = (d p : Int) + 1 + (n.high : Int) := IntWalk.i64_in _ (by omega)
  clear hT2 hO2 hx2 hb2 hot
  go_wp2_with fail
  refine wp_region_ext (by kernel_rfl) (by kernel_rfl) ?_
  repeat (go_big_quiet_step ((go_at_call 116; exact inExt (RSame.val (Depth_some (HT2.out.keep (ExtOf.ext _ |>.keep HO2.out)) HW.out HNP.out)))))
  refine wpQuiet_nil ?_
  rintro _ ⟨u, rfl⟩
  obtain ⟨wu, xu⟩ := u
  show Exit.then _ _ Exit.normal _ wu
  clear c0' ct1' hq1 hq2
  replace c0 := xu.cell c0
  go_wp2_with fail
  refine (room_no (HT2.out.keep (xu.keep HO2.out)) HW.out.small n.size (by omega) (by omega) (by have := HF.out; omega)).mono ?_
  rintro e w5 ⟨rfl, hx5⟩
  go_wp2_with fail
  go_ret2
  exact ⟨rfl, ((HX.out.trans HX2.out).trans xu).trans hx5⟩
def Tr.grafted (T : Tr) (p at' : Nat) (pd : Nd) (n : PN) : Tr := (PN.into T n).link p at' T.newId.toNat pd ((PN.into T n).look T.newId)
theorem Graft_ok {g w : World} {own : Ow} {ptr : Nat → Nat} {tb : Nat} {T : Tr} (hT : TreeAt w own ptr tb T) (hO : Owned own w) {d : Nat → Nat} (hw : WF T d) {p at' : Nat} {pd : Nd} (hp : T.nodes[p]? = some (some pd)) (ht : (pd.tag == 0) = false) (hat : at' ≤ pd.kids.length)
    {n : PN} {nv : Value} (hr : RdN g n nv) (hap : Apart g own w) (hsh : n.short = true) (hsz : n.size ≤ 90000) (hok : n.ok = true) (hdp : (d p : Int) + 1 + n.high ≤ T.deep) (hf : (n.size : Int) ≤ T.cap - T.count) :
    Calls Tryz.prog 80 #[.pointer (some ⟨tb, 0, none⟩), .int .i64 p, .int .i64 at', nv] w (TwoAfter own w tb T.newId (T.grafted p at' pd n)) := by
  obtain ⟨av, kv, rfl, ha, hk⟩ := hr.open
  obtain ⟨aa, acap, rfl, hac⟩ := ha.len_of
  obtain ⟨ka', kcap', rfl, hkc, hkm, hkn, hkr⟩ := hk
  have x1 := ((Ext.refl w).alloc (.cells #[.pointer (some ⟨tb, 0, none⟩)] 47)).alloc (.cells #[.int .i64 n.tag, .slice aa n.attrs.length acap, .string n.text, .slice ka' n.kids.length kcap'] 35)
  have hT1 := hT.keep (x1.keep hO)
  obtain ⟨avp, kvp, bp, op, _, hkp⟩ := hT1.node _ _ hp
  obtain ⟨ka, kcap, rfl, kc1, kc2⟩ := hkp.len
  have cp0 := cellOf bp (i := 0) (v := .int .i64 pd.tag) rfl
  have cp3 := cellOf bp (i := 3) (v := .slice ka pd.kids.length kcap) rfl
  have hms := measure_any (hr.cells (hap.ext x1).cells) hsh hsz
  have HMS := qh hms
  have HP := qh (Tr.get_of hp)
  have HNP := qh hp
  have HT := qh hT
  have HT1 := qh hT1
  have HO := qh hO
  have HW := qh hw
  have HX := qh x1
  have HR := qh hr
  have HAP := qh hap
  have hszb : (n.size : Int) ≤ 90000 := by omega
  have hpb : (p : Int) ≤ 2000 := by have := (List.getElem?_eq_some_iff.1 hp).1; have := hw.small.len; omega
  have hd1 := hw.deep p pd hp
  have hd2 := hw.small.deep1
  have hkl := hw.kids_len hp
  have hhn : (n.high : Int) ≤ 90000 := by have := high_lt n; omega
  have heb : ((PN.look 0 ⟨0, 0, 0⟩ n).e != 0) = false := by
    have := ((look_spec n 0 ⟨0, 0, 0⟩).2.2).2 ⟨rfl, hok⟩
    simp [this]
  obtain ⟨dz, m, hm1, hm0, hm2, hPut⟩ := into_ok n hok T d hw (by omega) (by omega)
  obtain ⟨kd, hk1, hk2⟩ := hPut.node
  have hpm : p ≠ m := fun e => hm2 pd (e ▸ hp)
  have hp2 := hPut.old p pd hpm hp
  obtain ⟨hap1, hap2⟩ := hPut.apart hw hm2 p pd hp
  have hgr : T.grafted p at' pd n = (PN.into T n).link p at' m pd kd := by
    unfold Tr.grafted; rw [hm1, Int.toNat_natCast, look_of hk1]
  have hdz : (dz p : Int) + 1 + (PN.into T n).hgt 50 m ≤ (PN.into T n).deep := by
    have h1 : (PN.into T n).hgt 50 m = n.high := hPut.high
    rw [h1, hPut.deep, hap2]; exact hdp
  have HF := qh hf
  have HM1 := qh hm1
  have HM0 := qh hm0
  have HPUT := qh hPut
  have HK1 := qh hk1
  have HK2 := qh hk2
  have HP2 := qh hp2
  have HA1 := qh hap1
  have HGR := qh hgr
  have HDZ := qh hdz
  have HOK := qh hok
  have HSH := qh hsh
  have HDP := qh hdp
  clear hf hm1 hm0 hPut hk1 hk2 hp2 hap1 hgr hdz hm2 hap2
  clear hr hap hT hO hw hp x1 hT1 bp hkp op hms hkr hkn ha kc2
  go_enter Tryz.func80, Tryz.ntmps80
  go_wp2_with fail
  refine (get_some HT1.out HP.out).mono ?_
  rintro e w' ⟨rfl, rfl⟩
  go_wp2_with fail
  refine HMS.out.mono ?_
  rintro e w2 ⟨rfl, hx2⟩
  have c0 := hx2.cell (b := w.heap.size) (o := 0) (v := .pointer (some ⟨tb, 0, none⟩)) (by simp [go_sem])
  have hT2 := HT.out.keep ((HX.out.trans hx2).keep HO.out)
  have hO2 : Owned own w2 := fun b hb => Nat.lt_of_lt_of_le (HO.out b hb) (HX.out.trans hx2).size
  obtain ⟨nv2, hb2, hot, _⟩ := hT2.head
  have ct1 := cellOf hb2 (i := 1) (v := .int .i64 T.deep) rfl
  have c0' := fun u : ExtOf w2 => u.ext.cell c0
  have ct1' := fun u : ExtOf w2 => u.ext.cell ct1
  have HT2 := qh hT2
  have HO2 := qh hO2
  have HX2 := qh hx2
  have hq1 : IntKind.i64.wrap ((d p : Int) + 1) = (d p : Int) + 1 := IntWalk.i64_in _ (by omega)
  have hq2 : IntKind.i64.wrap ((d p : Int) + 1 + (n.high : Int)) = (d p : Int) + 1 + (n.high : Int) := IntWalk.i64_in _ (by omega)
  clear hT2 hO2 hx2 hb2 hot
  go_wp2_with fail
  refine wp_region_ext (by kernel_rfl) (by kernel_rfl) ?_
  repeat (go_big_quiet_step ((go_at_call 116; exact inExt (RSame.val (Depth_some (HT2.out.keep (ExtOf.ext _ |>.keep HO2.out)) HW.out HNP.out)))))
  refine wpQuiet_nil ?_
  rintro _ ⟨u, rfl⟩
  obtain ⟨wu, xu⟩ := u
  show Exit.then _ _ Exit.normal _ wu
  clear c0' ct1' hq1 hq2
  replace c0 := xu.cell c0
  have c7 : wu.cell? ⟨w.heap.size + 1, 0, none⟩ = some (.int .i64 n.tag) ∧ wu.cell? ⟨w.heap.size + 1, 1, none⟩ = some (.slice aa n.attrs.length acap) ∧ wu.cell? ⟨w.heap.size + 1, 2, none⟩ = some (.string n.text) ∧ wu.cell? ⟨w.heap.size + 1, 3, none⟩ = some (.slice ka' n.kids.length kcap') :=
    ⟨(HX2.out.trans xu).cell (by simp [go_sem]), (HX2.out.trans xu).cell (by simp [go_sem]), (HX2.out.trans xu).cell (by simp [go_sem]), (HX2.out.trans xu).cell (by simp [go_sem])⟩
  have XU := qh xu
  clear xu
  go_wp2_with fail
  refine (room_yes (HT2.out.keep (XU.out.keep HO2.out)) HW.out.small n.size (by omega) HF.out).mono ?_
  rintro e w5 ⟨rfl, hx5⟩
  have x25 := XU.out.trans hx5
  have x05 := (HX.out.trans HX2.out).trans x25
  have y6 := (Ext.refl w5).alloc (.cells #[putF w.heap.size w5.heap.size] 61)
  have hT6 := HT.out.keep ((x05.trans y6).keep HO.out)
  have hO6 : Owned own (w5.alloc (.cells #[putF w.heap.size w5.heap.size] 61)) := fun b hb => Nat.lt_of_lt_of_le (HO.out b hb) (x05.trans y6).size
  have fresh : ∀ b, w.heap.size ≤ b → own b = none := fun b hb => by
    cases ho : own b with
    | none => rfl
    | some x => have := HO.out b (by simp [ho]); omega
  have c0w := (hx5.trans y6).cell c0
  have hs5 := x05.size
  have hpcell : (w5.alloc (.cells #[putF w.heap.size w5.heap.size] 61)).cell? ⟨w5.heap.size, 0, none⟩ = some (putF w.heap.size w5.heap.size) := cellOf (heap_alloc_new w5 _) rfl
  have hput := put_any (hide_cell (own := own) c0w (fresh _ (Nat.le_refl _))) (hide_cell (own := own) hpcell (fresh _ hs5)) n HOK.out HSH.out _ T d own ptr _ (HR.out.cells (HAP.out.ext (x05.trans y6)).hide) (hide_apart own _) hT6 hO6 HW.out (by have := HF.out; omega) (by have := HDP.out; omega)
  have d0 := c0w
  have d1 := (hx5.trans y6).cell c7.1
  have d2 := (hx5.trans y6).cell c7.2.1
  have d3 := (hx5.trans y6).cell c7.2.2.1
  have d4 := (hx5.trans y6).cell c7.2.2.2
  have HPT := qh hput
  have X6 := qh (x05.trans y6)
  have FR := qh fresh
  clear hput hT6 hO6 fresh c0w hpcell x05 y6 c0 c7 hx5 x25
  go_wp2_with fail
  refine HPT.out.mono ?_
  rintro e w7 ⟨rfl, own7, ptr7, hT7, hS7⟩
  rw [HM1.out]
  have e0 := hS7.cellOld (FR.out _ (Nat.le_refl _)) d0
  have hS7' := (X6.out.step HO.out).trans hS7
  have hins := Insert_ok (at' := at') hT7 hS7.owned HPUT.out.wf HP2.out HK1.out ht HM0.out HK2.out hat (by omega) HA1.out HDZ.out (insertsAt_any _ _)
  have HINS := qh hins
  have HS7 := qh hS7'
  clear hins hT7 hS7 hS7' d0 d1 d2 d3 d4
  go_wp2_with fail
  refine HINS.out.mono ?_
  rintro e w8 ⟨rfl, own8, ptr8, hT8, hS8⟩
  go_wp2_with fail
  go_ret2
  refine ⟨by rw [HM1.out]; rfl, own8, ptr8, ?_, HS7.out.trans hS8⟩
  rw [HGR.out]; exact hT8
theorem RowP.blk {w : World} {p : Nat → Prop} {e : TypeId} {size : Nat} {v : Value} {n : Nat} {xs : List Value} (h : RowP w p e size v n xs) :
    ∃ rb : Option Nat, RowP w (fun g => rb = some g) e size v n xs ∧ ∀ k, rb = some k → p k ∧ ∃ cur, w.heap[k]? = some (.cells cur e (0, 0)) := by
  rcases h.2 with h0 | ⟨g, cap, cur, h1, h2, h3, h4⟩
  · exact ⟨none, ⟨h.1, .inl h0⟩, fun k hk => by cases hk⟩
  · exact ⟨some g, ⟨h.1, .inr ⟨g, cap, cur, h1, rfl, h3, h4⟩⟩, fun k hk => by cases hk; exact ⟨h2, cur, h3⟩⟩
end Go.Proofs.YthgnbbbdcebjhaaGreat
namespace Go.Proofs.YthgnbbbdcebjhaaGreat
open Go Go.RowKit Go.BigFrame Go.ChangeShapes Go.WideShapes Go.Deep
structure Cl where
  what : Int
  a : Int
  b : Int
  c : Int
  s : ByteArray
  attrs : List (ByteArray × ByteArray)
  n : PN
def ClAt (w : World) (A : Addr) (c : Cl) : Prop := ∃ av c6 c7 c8 c9, w.cell? A = some (.int .i64 c.what) ∧ w.cell? (A.add 1) = some (.int .i64 c.a) ∧ w.cell? (A.add 2) = some (.int .i64 c.b) ∧ w.cell? (A.add 3) = some (.int .i64 c.c) ∧
  w.cell? (A.add 4) = some (.string c.s) ∧ w.cell? (A.add 5) = some av ∧ w.cell? (A.add 6) = some c6 ∧ w.cell? (A.add 7) = some c7 ∧ w.cell? (A.add 8) = some c8 ∧ w.cell? (A.add 9) = some c9 ∧
  RowRd w 2 av c.attrs.length (attrCells c.attrs) ∧ RdN w c.n (.agg #[c6, c7, c8, c9])
def CallsRd (w : World) (l : List Cl) (v : Value) : Prop :=
  ∃ ao cap, v = .slice ao l.length cap ∧ l.length ≤ cap ∧ cap ≤ maxLen ∧ (ao = none → l.length = 0) ∧ ∀ a, ao = some a → ∀ (k : Nat) c, l[k]? = some c → ClAt w (a.add (k * 10)) c
end Go.Proofs.YthgnbbbdcebjhaaGreat
namespace Go.Proofs.YthgnbbbdcebjhaaGreat
open Go Go.RowKit Go.BigFrame
mutual
def PN.light : PN → Bool
  | .mk _ a s ks => decide (s.size ≤ 20000) && decide (a.length ≤ 200) && PN.lights ks
def PN.lights : List PN → Bool
  | [] => true
  | k :: r => PN.light k && PN.lights r
end
theorem PN.light_eq (n : PN) : n.light = (decide (n.text.size ≤ 20000) && decide (n.attrs.length ≤ 200) && PN.lights n.kids) := by cases n; rfl
theorem lights_snoc (l : List PN) (k : PN) : PN.lights (l ++ [k]) = (PN.lights l && PN.light k) := by
  induction l with
  | nil => simp [PN.lights]
  | cons x r ih => simp only [List.cons_append, PN.lights, ih, Bool.and_assoc]
mutual
def PN.weigh (left : Int) : PN → Int
  | .mk _ a s ks => if 20000 < s.size ∨ 200 < a.length then -1 else PN.weighs (left - 1 - a.length - (s.size : Int) / 64) ks
def PN.weighs (left : Int) : List PN → Int
  | [] => left
  | k :: r => if 0 ≤ left then PN.weighs (PN.weigh left k) r else left
end
theorem PN.weigh_eq (left : Int) (n : PN) : PN.weigh left n = if 20000 < n.text.size ∨ 200 < n.attrs.length then -1 else PN.weighs (left - 1 - n.attrs.length - (n.text.size : Int) / 64) n.kids := by cases n; rfl
theorem weighs_neg (l : List PN) {r : Int} (h : r < 0) : PN.weighs r l = r := by
  cases l with
  | nil => rfl
  | cons x l => simp only [PN.weighs]; rw [if_neg (by omega)]
theorem weighs_append : ∀ (l r : List PN) (z : Int), PN.weighs z (l ++ r) = PN.weighs (PN.weighs z l) r := by
  intro l
  induction l with
  | nil => intro r z; rfl
  | cons x l ih =>
    intro r z
    simp only [List.cons_append, PN.weighs]
    split
    · exact ih r _
    · rw [weighs_neg r (by omega)]
def WeighIs (n : PN) (left : Int) (w : World) (e : Ending) (w' : World) : Prop := ∃ r : Int, r = n.weigh left ∧ e = .returned (.int .i64 r) ∧ -1000000 ≤ r ∧ r ≤ 10000 ∧ (0 ≤ r → n.light = true ∧ r + n.size ≤ left) ∧ Ext w w'
theorem weigh_any {w0 : World} : ∀ (n : PN) (nv : Value) (left : Int) (w : World), RdN w0 n nv → Ext w0 w → -10000 ≤ left → left ≤ 10000 →
    Calls Tryz.prog 79 #[nv, .int .i64 left] w (WeighIs n left w) := by
  refine PN.induct _ fun n ih nv left w hr hx h0 h1 => ?_
  obtain ⟨av, kv, rfl, ha, hk⟩ := hr.open
  obtain ⟨aa, acap, rfl, hac⟩ := ha.len_of
  obtain ⟨ka, kcap, rfl, hkc, hkm, hkn, hkr⟩ := hk
  have x1 := (Ext.refl w).alloc (.cells #[.int .i64 n.tag, .slice aa n.attrs.length acap, .string n.text, .slice ka n.kids.length kcap] 35)
  have hbox := heap_alloc_new w (.cells #[.int .i64 n.tag, .slice aa n.attrs.length acap, .string n.text, .slice ka n.kids.length kcap] 35)
  have HKR := qh hkr
  have HKN := qh hkn
  have HX := qh hx
  have HX1 := qh x1
  have IH := qh ih
  unfold maxLen at hkm
  clear hkr hkn hx ih hr ha x1
  have hq1 : IntKind.i64.wrap (left - 1) = left - 1 := IntWalk.i64_in _ (by omega)
  go_enter Tryz.func79, Tryz.ntmps79
  go_upto_region 1 with fail
  obtain ⟨wb, hwb⟩ : ∃ wb : World, wb = w.alloc (.cells #[.int .i64 n.tag, .slice aa n.attrs.length acap, .string n.text, .slice ka n.kids.length kcap] 35) := ⟨_, rfl⟩
  rw [← hwb] at hbox HX1 ⊢
  clear hwb hq1
  have k1 := cellOf hbox (i := 1) (v := .slice aa n.attrs.length acap) rfl
  have k2 := cellOf hbox (i := 2) (v := .string n.text) rfl
  have k3 := cellOf hbox (i := 3) (v := .slice ka n.kids.length kcap) rfl
  clear hbox
  by_cases hbig : 20000 < n.text.size
  · go_wp2
    go_ret
    exact ⟨-1, by rw [PN.weigh_eq, if_pos (by omega)], rfl, by omega, by omega, fun h => by omega, HX1.out⟩
  · by_cases hbg2 : 200 < n.attrs.length
    · go_wp2
      go_ret
      exact ⟨-1, by rw [PN.weigh_eq, if_pos (by omega)], rfl, by omega, by omega, fun h => by omega, HX1.out⟩
    · have hd : (n.text.size : Int) / 64 ≤ 400 := by omega
      have hd0 : 0 ≤ (n.text.size : Int) / 64 := by omega
      have hkl : (n.kids.length : Int) ≤ 9223372036854775807 := by omega
      go_wp2_with fail
      go_loopw [1, 5] (fun l i wr => ∃ (k : Nat) (r : Int), k ≤ n.kids.length ∧ i = .int .i64 k ∧ l = .int .i64 r ∧ r = PN.weighs (left - 1 - n.attrs.length - (n.text.size : Int) / 64) (n.kids.take k) ∧ -1000000 ≤ r ∧ r ≤ 10000 ∧ Ext wb wr ∧ (0 ≤ r → PN.lights (n.kids.take k) = true ∧ r + 1 + PN.sizes (n.kids.take k) ≤ left)) (fun _ i _ => n.kids.length - (intOf i).toNat)
      case atStart => exact ⟨0, _, Nat.zero_le _, rfl, rfl, by simp [PN.weighs], by omega, by omega, Ext.refl _, fun _ => ⟨by simp [PN.lights], by simp [PN.sizes]; omega⟩⟩
      case round =>
        obtain ⟨k, r, hk, rfl, rfl, hw, r0, r1, xr, hlt⟩ := hrel
        have HWW := qh hw
        clear hw
        have HLT := qh hlt
        have HXR := qh xr
        replace k3 := xr.cell k3
        clear hlt xr
        have hfin : (r < 0 ∨ k = n.kids.length) → 0 ≤ r → n.light = true ∧ r + n.size ≤ left := fun hc hr0 => by
          have h := HLT.out hr0
          have hk' : k = n.kids.length := by rcases hc with hc | hc; omega; exact hc
          rw [hk', List.take_length] at h
          rw [PN.light_eq, PN.size_eq]
          simp [h.1]
          exact ⟨⟨by omega, by omega⟩, by push_cast; omega⟩
        have HFIN := qh hfin
        clear hfin
        by_cases hkk : k < n.kids.length
        · by_cases hr0 : 0 ≤ r
          · obtain ⟨x, hx⟩ : ∃ x, n.kids[k]? = some x := ⟨n.kids[k], by simp [hkk]⟩
            cases ka with
            | none => exact absurd (HKN.out rfl).1 (by omega)
            | some a =>
              obtain ⟨b, off, sp⟩ := a
              obtain ⟨c0', c1', c2', c3', q0, q1, q2, q3, hrd⟩ := HKR.out _ rfl k x hx
              have hxx : Ext w0 wr := (HX.out.trans HX1.out).trans HXR.out
              replace q0 := hxx.cells _ _ q0
              replace q1 := hxx.cells _ _ q1
              replace q2 := hxx.cells _ _ q2
              replace q3 := hxx.cells _ _ q3
              rw [add_later _ _ _ (by decide)] at q1 q2 q3
              have hrec := IH.out x (List.mem_of_getElem? hx) _ r wr hrd hxx (by omega) (by omega)
              have HREC := qh hrec
              have HXV := qh hx
              clear hx hrd hrec hxx
              go_wp2_with fail
              refine HREC.out.mono ?_
              rintro e w' ⟨r', hw', rfl, p1, p2, p3, p4⟩
              have HW' := qh hw'
              clear hw'
              have P3 := qh p3
              clear p3
              go_wp2_with fail
              go_roundw
              case rel =>
                refine ⟨k + 1, r', by omega, by go_num, rfl, ?_, by omega, by omega, HXR.out.trans p4, fun hr' => ?_⟩
                · obtain ⟨hlt', hxe⟩ := List.getElem?_eq_some_iff.1 HXV.out
                  rw [List.take_succ_eq_append_getElem hlt', hxe, weighs_append, ← HWW.out, HW'.out]
                  simp only [PN.weighs]
                  rw [if_pos hr0]
                obtain ⟨g1, g2⟩ := P3.out hr'
                obtain ⟨g3, g4⟩ := HLT.out hr0
                obtain ⟨hlt', hxe⟩ := List.getElem?_eq_some_iff.1 HXV.out
                rw [List.take_succ_eq_append_getElem hlt', hxe, lights_snoc, sizes_append]
                refine ⟨by rw [g3, g1]; rfl, ?_⟩
                simp only [PN.sizes]
                push_cast; omega
              case measure => simp [intOf]; omega
          · go_wp2_with fail
            go_ret
            refine ⟨r, ?_, rfl, r0, by omega, HFIN.out (.inl (by omega)), HX1.out.trans HXR.out⟩
            rw [PN.weigh_eq, if_neg (by omega), ← List.take_append_drop k n.kids, weighs_append, ← HWW.out, weighs_neg _ (by omega)]
        · go_wp2_with fail
          go_ret
          refine ⟨r, ?_, rfl, r0, by omega, HFIN.out (.inr (by omega)), HX1.out.trans HXR.out⟩
          rw [PN.weigh_eq, if_neg (by omega), HWW.out, List.take_of_length_le (by omega)]
theorem weighs_spec : ∀ (l : List PN), (∀ k ∈ l, ∀ left : Int, -10000 ≤ left → left ≤ 10000 → -1000000 ≤ k.weigh left ∧ (k.weigh left ≤ left ∨ k.weigh left = -1) ∧ (0 ≤ k.weigh left → k.light = true ∧ k.weigh left + k.size ≤ left)) →
    ∀ left : Int, -11000 ≤ left → left ≤ 10000 → -1000000 ≤ PN.weighs left l ∧ (PN.weighs left l ≤ left ∨ PN.weighs left l = -1) ∧ (0 ≤ PN.weighs left l → PN.lights l = true ∧ PN.weighs left l + PN.sizes l ≤ left) := by
  intro l
  induction l with
  | nil => intro _ left h0 h1; simp [PN.weighs, PN.lights, PN.sizes]; omega
  | cons k r ih =>
    intro h left h0 h1
    simp only [PN.weighs, PN.lights, PN.sizes]
    by_cases hl : 0 ≤ left
    · rw [if_pos hl]
      obtain ⟨a1, a2, a3⟩ := h k (by simp) left (by omega) h1
      by_cases hk : k.weigh left < 0
      · rw [weighs_neg r hk]
        exact ⟨a1, a2, fun h => by omega⟩
      · obtain ⟨b1, b2, b3⟩ := ih (fun x hx => h x (by simp [hx])) (k.weigh left) (by omega) (by omega)
        refine ⟨b1, by omega, fun hw => ?_⟩
        obtain ⟨q1, q2⟩ := b3 hw
        obtain ⟨q3, q4⟩ := a3 (by omega)
        exact ⟨by rw [q3, q1]; rfl, by push_cast; omega⟩
    · rw [if_neg hl]
      exact ⟨by omega, .inl (by omega), fun h => by omega⟩
theorem weigh_spec : ∀ (n : PN) (left : Int), -10000 ≤ left → left ≤ 10000 → -1000000 ≤ n.weigh left ∧ (n.weigh left ≤ left ∨ n.weigh left = -1) ∧ (0 ≤ n.weigh left → n.light = true ∧ n.weigh left + n.size ≤ left) := by
  refine PN.induct _ fun n ih left h0 h1 => ?_
  rw [PN.weigh_eq, PN.light_eq, PN.size_eq]
  by_cases hb : 20000 < n.text.size ∨ 200 < n.attrs.length
  · rw [if_pos hb]
    exact ⟨by omega, .inr rfl, fun h => by omega⟩
  · rw [if_neg hb]
    have hd : (n.text.size : Int) / 64 ≤ 400 := by omega
    have hd0 : 0 ≤ (n.text.size : Int) / 64 := by omega
    obtain ⟨b1, b2, b3⟩ := weighs_spec n.kids ih (left - 1 - n.attrs.length - (n.text.size : Int) / 64) (by omega) (by omega)
    refine ⟨b1, by omega, fun hw => ?_⟩
    obtain ⟨q1, q2⟩ := b3 hw
    simp [q1]
    exact ⟨⟨by omega, by omega⟩, by omega⟩
def LightCl (c : Cl) : Prop := c.s.size ≤ 20000 ∧ c.attrs.length ≤ 200 ∧ c.n.light = true ∧ c.n.size ≤ 4000
def Light (l : List Cl) : Prop := l.length ≤ 200 ∧ ∀ c ∈ l, LightCl c
def HeavyIs (l : List Cl) (w : World) (e : Ending) (w' : World) : Prop := ∃ b : Bool, e = .returned (.bool b) ∧ Ext w w' ∧ (b = false → Light l)
theorem add_pos (a : Addr) (j : Nat) (hj : 0 < j) : a.add j = ⟨a.block, a.off + j, none⟩ := by unfold Addr.add; rw [if_neg (by omega)]
theorem weigh_any' {w0 : World} (n : PN) (nv : Value) (left : Int) (w : World) (h1 : RdN w0 n nv) (h2 : Ext w0 w) (h3 : -10000 ≤ left) (h4 : left ≤ 10000) :
    Calls Tryz.prog 79 #[nv, .int .i64 left] w (RVal (.int .i64 (n.weigh left)) w) :=
  (weigh_any n nv left w h1 h2 h3 h4).mono fun e w' ⟨r, hr, he, _, _, _, hx⟩ => ⟨hr ▸ he, hx⟩
theorem Heavy_any {w : World} {l : List Cl} {v : Value} (hl : CallsRd w l v) : Calls Tryz.prog 27 #[v] w (HeavyIs l w) := by
  obtain ⟨ao, cap, rfl, hc1, hc2, hno, hcl⟩ := hl
  have HNO := qh hno
  have HCL := qh hcl
  unfold maxLen at hc2
  clear hno hcl
  by_cases hbig : 200 < l.length
  · go_enter Tryz.func27, Tryz.ntmps27
    go_wp2_with fail
    go_ret
    exact ⟨true, rfl, Ext.refl _, fun h => by cases h⟩
  · go_enter Tryz.func27, Tryz.ntmps27
    go_wp2_with fail
    go_loopw [3, 4] (fun z i wr => ∃ (k : Nat) (r : Int), k ≤ l.length ∧ i = .int .i64 k ∧ z = .int .i64 r ∧ -1000000 ≤ r ∧ r ≤ 4000 ∧ Ext w wr ∧ (0 ≤ r → ∀ c ∈ l.take k, LightCl c)) (fun _ i _ => l.length - (intOf i).toNat)
    case atStart => exact ⟨0, 4000, Nat.zero_le _, rfl, rfl, by omega, by omega, Ext.refl _, fun _ c hc => by simp at hc⟩
    case round =>
      obtain ⟨k, r, hk, rfl, rfl, r0, r1, xr, hlt⟩ := hrel
      have HLT := qh hlt
      have HXR := qh xr
      clear hlt xr
      by_cases hkk : k < l.length
      · by_cases hr0 : 0 ≤ r
        · obtain ⟨c, hc⟩ : ∃ c, l[k]? = some c := ⟨l[k], by simp [hkk]⟩
          cases ao with
          | none => exact absurd (HNO.out rfl) (by omega)
          | some a =>
            obtain ⟨b, off, sp⟩ := a
            obtain ⟨av, c6, c7, c8, c9, q0, q1, q2, q3, q4, q5, q6, q7, q8, q9, hra, hrn⟩ := HCL.out _ rfl k c hc
            obtain ⟨aa, acap, rfl, hac⟩ := hra.len_of
            obtain ⟨n0, n1, en, hna, hnk⟩ := hrn.open
            obtain ⟨naa, nac, en0, _⟩ := hna.len_of
            obtain ⟨nka, nkc, en1, _⟩ := hnk
            subst en0 en1
            cases en
            have X := HXR.out.cells
            replace q4 := X _ _ q4
            replace q5 := X _ _ q5
            replace q6 := X _ _ q6
            replace q7 := X _ _ q7
            replace q8 := X _ _ q8
            replace q9 := X _ _ q9
            rw [add_pos _ _ (by decide)] at q4 q5 q6 q7 q8 q9
            have HRN := qh hrn
            have HC := qh hc
            clear q0 q1 q2 q3 X hra hrn hna hc
            by_cases hs1 : 20000 < c.s.size
            · go_wp2_with fail
              go_ret
              exact ⟨true, rfl, HXR.out, fun h => by cases h⟩
            · by_cases hs2 : 200 < c.attrs.length
              · go_wp2_with fail
                go_ret
                exact ⟨true, rfl, HXR.out, fun h => by cases h⟩
              · have hd : (c.s.size : Int) / 64 ≤ 400 := by omega
                have hd0 : 0 ≤ (c.s.size : Int) / 64 := by omega
                have d4 := fun u : ExtOf wr => u.ext.cells _ _ q4
                have d5 := fun u : ExtOf wr => u.ext.cells _ _ q5
                have d6 := fun u : ExtOf wr => u.ext.cells _ _ q6
                have d7 := fun u : ExtOf wr => u.ext.cells _ _ q7
                have d8 := fun u : ExtOf wr => u.ext.cells _ _ q8
                have d9 := fun u : ExtOf wr => u.ext.cells _ _ q9
                have e1 : IntKind.i64.wrap (r - (c.attrs.length : Int)) = r - c.attrs.length := IntWalk.i64_in _ (by omega)
                have e2 : IntKind.i64.wrap (r - (c.attrs.length : Int) - (c.s.size : Int) / 64) = r - c.attrs.length - (c.s.size : Int) / 64 := IntWalk.i64_in _ (by omega)
                have e3 : (c.s.size : Int).tdiv 64 = (c.s.size : Int) / 64 := Int.tdiv_eq_ediv_of_nonneg (by omega)
                have e4 : IntKind.i64.wrap ((c.s.size : Int) / 64) = (c.s.size : Int) / 64 := IntWalk.i64_in _ (by omega)
                go_upto_region 9 with fail
                refine wp_region_ext (by kernel_rfl) (by kernel_rfl) ?_
                repeat (go_big_quiet_step ((go_at_call 79; exact inExt (weigh_any' c.n _ (r - c.attrs.length - (c.s.size : Int) / 64) _ HRN.out (HXR.out.trans (ExtOf.ext _)) (by omega) (by omega)))))
                refine wpQuiet_nil ?_
                rintro _ ⟨u, rfl⟩
                clear d4 d5 d6 d7 d8 d9 e1 e2 e3 e4
                obtain ⟨p1, p2, p3⟩ := weigh_spec c.n (r - c.attrs.length - (c.s.size : Int) / 64) (by omega) (by omega)
                have P1 := qh p1
                have P2 := qh p2
                have P3 := qh p3
                clear p1 p2 p3
                go_wp2_with fail
                go_roundw
                case rel =>
                  have p1 := P1.out
                  have p2 := P2.out
                  refine ⟨k + 1, _, by omega, by go_num, rfl, by omega, by omega, HXR.out.trans u.ext, fun hr' c' hc' => ?_⟩
                  obtain ⟨g1, g2⟩ := P3.out hr'
                  obtain ⟨hlt', hxe⟩ := List.getElem?_eq_some_iff.1 HC.out
                  rw [List.take_succ_eq_append_getElem hlt', hxe] at hc'
                  rcases List.mem_append.1 hc' with h | h
                  · exact HLT.out hr0 c' h
                  · simp at h
                    subst h
                    exact ⟨by omega, by omega, g1, by omega⟩
                case measure => simp [intOf]; omega
        · go_wp2_with fail
          go_ret
          exact ⟨_, rfl, HXR.out, fun h => by simp at h <;> omega⟩
      · go_wp2_with fail
        go_ret
        refine ⟨_, rfl, HXR.out, fun h => ⟨by omega, fun c hc => ?_⟩⟩
        have h0 : 0 ≤ r := by simpa using h
        exact HLT.out h0 c (by rw [List.take_of_length_le (by omega)]; exact hc)
def NdOk (nd : Nd) : Prop := nd.attrs.length ≤ 60000 ∧ nd.text.size ≤ 8192
def AttrsOk (T : Tr) : Prop := ∀ (i : Nat) (nd : Nd), T.nodes[i]? = some (some nd) → NdOk nd
def GoodT (T : Tr) : Prop := (∃ d, WF T d) ∧ AttrsOk T
theorem After.same {own : Ow} {w w' : World} {ptr : Nat → Nat} {tb : Nat} {T : Tr} (hT : TreeAt w own ptr tb T) (hO : Owned own w) (x : Ext w w') : After own w tb T w' := ⟨own, ptr, hT.keep (x.keep hO), x.step hO⟩
theorem set_get {l : List (Option Nd)} {i : Nat} {x : Option Nd} {j : Nat} {nd : Nd} (h : (l.set i x)[j]? = some (some nd)) : x = some nd ∨ l[j]? = some (some nd) := by
  rw [List.getElem?_set] at h
  split at h
  · split at h
    · injection h with h; exact .inl h
    · cases h
  · exact .inr h
theorem AttrsOk.put {T : Tr} (h : AttrsOk T) (nd : Nd) (hn : NdOk nd) : AttrsOk (T.put nd) := by
  intro j x hj
  obtain ⟨n, _, h2, _, _, h5, _⟩ := T.put_at nd
  by_cases e : j = n
  · subst e
    obtain rfl := some_inj2 h2 hj
    exact hn
  · exact h j x (h5 j x e hj)
theorem AttrsOk.set2 {T : Tr} (h : AttrsOk T) {p k : Nat} {pd kd : Nd} (h1 : NdOk pd) (h2 : NdOk kd) : AttrsOk (T.set2 p k pd kd) := by
  intro j x hj
  rcases set_get hj with e | hj
  · injection e with e; subst e; exact h2
  · rcases set_get hj with e | hj
    · injection e with e; subst e; exact h1
    · exact h j x hj
theorem AttrsOk.look {T : Tr} (h : AttrsOk T) (i : Int) : NdOk (T.look i) := by
  unfold Tr.look
  cases hg : T.get? i with
  | none => simp [NdOk]
  | some nd => exact h _ nd (Tr.get_lt hg).2.2
theorem AttrsOk.join {T : Tr} (h : AttrsOk T) (p k : Int) : AttrsOk (T.join p k) := h.set2 (h.look p) (h.look k)
theorem intos_attrs (id : Int) : ∀ (l : List PN), (∀ k ∈ l, ∀ T, AttrsOk T → AttrsOk (PN.into T k)) → ∀ T, AttrsOk T → AttrsOk (PN.intos id T l) := by
  intro l
  induction l with
  | nil => intro _ T h; exact h
  | cons k r ih => intro hk T h; exact ih (fun x hx => hk x (by simp [hx])) _ ((hk k (by simp) T h).join _ _)
theorem into_attrs : ∀ n : PN, n.ok = true → n.short = true → ∀ T, AttrsOk T → AttrsOk (PN.into T n) := by
  refine PN.induct _ fun n ih ho hs T h => ?_
  rw [PN.short_eq] at hs
  simp at hs
  have ho' := ho
  rw [PN.ok_eq] at ho'
  simp at ho'
  rw [PN.into_eq]
  exact intos_attrs _ _ (fun k hk => ih k hk (PN.oks_mem (PN.ok_kids ho) hk) (PN.shorts_mem hs.2 hk)) _ (h.put _ ⟨hs.1.2, ho'.1.2⟩)
theorem AttrsOk.rid {T : Tr} (h : AttrsOk T) (q : Nat → Bool) : AttrsOk (T.rid q) := fun i nd hi => h i nd (Tr.rid_some.1 hi).2
theorem AttrsOk.setAt {T : Tr} (h : AttrsOk T) {i : Nat} {nd : Nd} (hn : NdOk nd) : AttrsOk (T.setAt i nd) := fun j x hj => by
  rcases set_get hj with e | hj
  · injection e with e; subst e; exact hn
  · exact h j x hj
section
variable {w : World} {own : Ow} {ptr : Nat → Nat} {tb : Nat} {T : Tr}
theorem nat_of {id : Int} {nd : Nd} (h : T.get? id = some nd) : ∃ i : Nat, id = (i : Int) ∧ T.nodes[i]? = some (some nd) := by
  obtain ⟨h0, _, h2⟩ := Tr.get_lt h
  exact ⟨id.toNat, by omega, h2⟩
theorem tag_b {x : Int} : (x == 0) = true ∨ (x == 0) = false := by cases h : (x == 0); exact .inr rfl; exact .inl rfl
theorem WF.parent_cases {d : Nat → Nat} (hw : WF T d) {i : Nat} {nd : Nd} (h : T.nodes[i]? = some (some nd)) : nd.parent = -1 ∨ ∃ (p : Nat) (pd : Nd), nd.parent = (p : Int) ∧ T.nodes[p]? = some (some pd) ∧ (i : Int) ∈ pd.kids ∧ p ≠ i := by
  rcases hw.up i nd h with h | ⟨p, pd, h1, h2, h3, h4⟩
  · exact .inl h.1
  · exact .inr ⟨p, pd, h1, h2, h4, fun e => by subst e; omega⟩
end
def d3 (i : Nat) : Nat := if i = 1 then 1 else 0
theorem emptyRow (w : World) : RowRd w 2 (.slice none 0 0) ([] : List (ByteArray × ByteArray)).length (attrCells []) := ⟨rfl, none, 0, rfl, Nat.le_refl _, fun _ => ⟨rfl, rfl⟩, fun a h => by cases h⟩
abbrev noNode0 : Value := .agg #[.int .i64 0, .slice none 0 0, .string ⟨#[]⟩, .slice none 0 0]
def PlainIs (n : PN) (w : World) (e : Ending) (w' : World) : Prop := ∃ v g, e = .returned v ∧ RdN g n v ∧ Ext w w' ∧ ∀ q x, g.cell? q = some x → w'.cell? q = some x ∧ w.heap.size ≤ q.block
def PlainBox (w0 wx : World) (b : Nat) (tag : Int) (attrs : List (ByteArray × ByteArray)) (text : ByteArray) : Prop := ∃ aa acap, wx.heap[b]? = some (.cells #[.int .i64 tag, .slice aa attrs.length acap, .string text, .slice none 0 0] 35 (0, 0)) ∧
  RowP wx (fun g => w0.heap.size ≤ g ∧ g ≠ b) 110 2 (.slice aa attrs.length acap) attrs.length (attrCells attrs)
theorem RowP.below {w : World} {p : Nat → Prop} {e size : Nat} {v : Value} {n : Nat} {xs : List Value} (h : RowP w p e size v n xs) : RowP w (fun g => p g ∧ g < w.heap.size) e size v n xs := by
  obtain ⟨h1, h2 | ⟨g, cap, cur, rfl, h3, h4, h5⟩⟩ := h
  · exact ⟨h1, .inl h2⟩
  · refine ⟨h1, .inr ⟨g, cap, cur, rfl, ⟨h3, ?_⟩, h4, h5⟩⟩
    rcases Nat.lt_or_ge g w.heap.size with h | h
    · exact h
    · rw [Array.getElem?_eq_none h] at h4; cases h4
theorem plainBox_new {w1 w5 : World} {B : Nat} {tag : Int} {attrs : List (ByteArray × ByteArray)} {text : ByteArray} {aa : Option Addr} {acap : Nat} (hB : w1.heap.size ≤ B) (x : Ext w1 w5) (h : RowIn w5 B 110 2 (.slice aa attrs.length acap) attrs.length (attrCells attrs)) :
    PlainBox w1 (w5.alloc (.cells #[.int .i64 tag, .slice aa attrs.length acap, .string text, .slice none 0 0] 35)) w5.heap.size tag attrs text :=
  ⟨aa, acap, heap_alloc_new _ _, RowP.imp (RowP.ext (RowP.below h) ((Ext.refl w5).alloc _)) fun g _ hg => ⟨Nat.le_trans hB hg.1, Nat.ne_of_lt hg.2⟩⟩
theorem plainBox_old {w1 w5 : World} {B b : Nat} {tag : Int} {attrs : List (ByteArray × ByteArray)} {text : ByteArray} {aa : Option Addr} {acap : Nat} (hB : w1.heap.size ≤ B) (hb : b < B) (h : RowIn w5 B 110 2 (.slice aa attrs.length acap) attrs.length (attrCells attrs))
    {cs : Array Value} (hs : cs.size = 4) (hx : w5.heap[b]? = some (.cells cs 35 (0, 0))) :
    PlainBox w1 ((((w5.setCell ⟨b, 0, none⟩ (.int .i64 tag)).setCell ⟨b, 1, none⟩ (.slice aa attrs.length acap)).setCell ⟨b, 2, none⟩ (.string text)).setCell ⟨b, 3, none⟩ (.slice none 0 0)) b tag attrs text := by
  have e := heap_setCell_same (i := 3) (heap_setCell_same (i := 2) (heap_setCell_same (i := 1) (heap_setCell_same (i := 0) hx (.int .i64 tag)) (.slice aa attrs.length acap)) (.string text)) (.slice none 0 0)
  refine ⟨aa, acap, ?_, RowP.move h fun g hg => ⟨?_, Nat.le_trans hB hg, by have : B ≤ g := hg; omega⟩⟩
  · rw [e]
    obtain ⟨l⟩ := cs
    match l, hs with
    | [c0, c1, c2, c3], _ => rfl
  · have hne : g ≠ b := by have : B ≤ g := hg; omega
    rw [heap_setCell_other (p := ⟨b, 3, none⟩) _ hne, heap_setCell_other (p := ⟨b, 2, none⟩) _ hne, heap_setCell_other (p := ⟨b, 1, none⟩) _ hne, heap_setCell_other (p := ⟨b, 0, none⟩) _ hne]
structure PlainAt (w1 wr : World) (b : Nat) (nd : Nd) (F : Int → PN) (aa : Option Addr) (acap k : Nat) : Prop where
  ext : Ext w1 wr
  row : ∃ kv xs g, wr.heap[b]? = some (.cells #[.int .i64 nd.tag, .slice aa nd.attrs.length acap, .string nd.text, kv] 35 (0, 0)) ∧ RowP wr (fun x => w1.heap.size ≤ x ∧ x ≠ b) 35 4 kv k xs ∧ (∀ y, kv.ownBlock = some y → y < wr.heap.size) ∧
    RowRd g 2 (.slice aa nd.attrs.length acap) nd.attrs.length (attrCells nd.attrs) ∧
    (∀ (j : Nat) (x : Int), j < k → nd.kids[j]? = some x → ∃ c0 c1 c2 c3, xs[j * 4]? = some c0 ∧ xs[j * 4 + 1]? = some c1 ∧ xs[j * 4 + 2]? = some c2 ∧ xs[j * 4 + 3]? = some c3 ∧ RdN g (F x) (.agg #[c0, c1, c2, c3])) ∧
    ∀ q x, g.cell? q = some x → wr.cell? q = some x ∧ w1.heap.size ≤ q.block ∧ q.block ≠ b ∧ kv.ownBlock ≠ some q.block
theorem PlainBox.at {w1 wx : World} {b : Nat} {nd : Nd} (F : Int → PN) (h : PlainBox w1 wx b nd.tag nd.attrs nd.text) (x : Ext w1 wx) :
    ∃ aa acap, PlainAt w1 wx b nd F aa acap 0 := by
  obtain ⟨aa, acap, hb, hr⟩ := h
  refine ⟨aa, acap, x, .slice none 0 0, [], hide (fun y => if w1.heap.size ≤ y ∧ y ≠ b then none else some (0, 0)) wx, hb, ⟨rfl, .inl ⟨rfl, none, rfl⟩⟩, (fun y e => by cases e), ?_, fun j x hj => by omega, fun q y hq => ?_⟩
  · have hr' := hr
    obtain ⟨h1, h2⟩ := hr
    obtain ⟨h3, ao, cap, h4, h5, h6, h7⟩ := hr'.rd
    refine ⟨h3, ao, cap, h4, h5, h6, fun a ha j x hx => ?_⟩
    refine hide_cell (h7 a ha j x hx) ?_
    rcases h2 with ⟨h8, a8, h9⟩ | ⟨g, cap', cur, h8, h9, _⟩
    · rw [h8] at h1
      have h0 : attrCells nd.attrs = [] := List.eq_nil_of_length_eq_zero (by omega)
      rw [h0] at hx
      simp at hx
    · rw [h4] at h8
      cases h8
      cases ha
      rw [Addr.add_lit]
      exact if_pos h9
  · obtain ⟨h1, h2⟩ := hide_apart _ _ q y hq
    dsimp only at h2
    split at h2
    · rename_i h3
      exact ⟨h1, h3.1, h3.2, fun e => by cases e⟩
    · cases h2
theorem PlainAt.step {w1 wr wk cw wA : World} {b : Nat} {nd : Nd} {F : Int → PN} {aa : Option Addr} {acap k : Nat} {kv v' : Value} {xs : List Value} {g g' : World} {x : Int} {c0 c1 c2 c3 : Value} {row : Option Nat}
    (hx : Ext w1 wr) (hb : wr.heap[b]? = some (.cells #[.int .i64 nd.tag, .slice aa nd.attrs.length acap, .string nd.text, kv] 35 (0, 0))) (hb1 : w1.heap.size ≤ b)
    (hr : RowP wr (fun x => w1.heap.size ≤ x ∧ x ≠ b) 35 4 kv k xs) (hkb : ∀ y, kv.ownBlock = some y → y < wr.heap.size) (ha : RowRd g 2 (.slice aa nd.attrs.length acap) nd.attrs.length (attrCells nd.attrs))
    (hk : ∀ (j : Nat) (x : Int), j < k → nd.kids[j]? = some x → ∃ c0 c1 c2 c3, xs[j * 4]? = some c0 ∧ xs[j * 4 + 1]? = some c1 ∧ xs[j * 4 + 2]? = some c2 ∧ xs[j * 4 + 3]? = some c3 ∧ RdN g (F x) (.agg #[c0, c1, c2, c3]))
    (hg : ∀ q x, g.cell? q = some x → wr.cell? q = some x ∧ w1.heap.size ≤ q.block ∧ q.block ≠ b ∧ kv.ownBlock ≠ some q.block)
    (hn : nd.kids[k]? = some x) (hxk : Ext wr wk) (hr' : RdN g' (F x) (.agg #[c0, c1, c2, c3])) (hg' : ∀ q y, g'.cell? q = some y → wk.cell? q = some y ∧ wr.heap.size ≤ q.block)
    (hxc : Ext wk cw) (hA : RowP wA (fun y => (w1.heap.size ≤ y ∧ y ≠ b ∧ kv.ownBlock = some y) ∨ cw.heap.size ≤ y) 35 4 v' (k + 1) (xs ++ [c0, c1, c2, c3])) (hgA : cw.grownBy wA row) (hrow : ∀ z, row = some z → w1.heap.size ≤ z ∧ z ≠ b ∧ kv.ownBlock = some z) :
    PlainAt w1 (wA.setCell ⟨b, 3, none⟩ v') b nd F aa acap (k + 1) := by
  have hbl : b < wr.heap.size := (Array.getElem?_eq_some_iff.1 hb).1
  have hxc2 : Ext wr cw := hxk.trans hxc
  have hs1 := Ext.size hx
  have hs2 := Ext.size hxk
  have hs3 := Ext.size hxc
  have hlen : xs.length = k * 4 := hr.1
  have hbA : wA.heap[b]? = some (.cells #[.int .i64 nd.tag, .slice aa nd.attrs.length acap, .string nd.text, kv] 35 (0, 0)) := by
    rw [hgA.block b (by omega) (fun e => (hrow b e.symm).2.1 rfl)]
    exact hxc2.block hb
  -- a cell of a block that is neither b nor the rows' own
  have keep : ∀ q y, cw.cell? q = some y → q.block ≠ b → kv.ownBlock ≠ some q.block → (wA.setCell ⟨b, 3, none⟩ v').cell? q = some y := fun q y hq h1 h2 => by
    have hl := World.block_lt_of_cell? cw q hq
    have e1 : wA.cell? q = some y := (World.cell?_of_block (hgA.block q.block hl (fun e => h2 (hrow q.block e.symm).2.2))).trans hq
    exact (World.cell?_of_block (heap_setCell_other (p := ⟨b, 3, none⟩) _ h1)).trans e1
  have vown : ∀ y, v'.ownBlock = some y → (w1.heap.size ≤ y ∧ y ≠ b ∧ kv.ownBlock = some y) ∨ cw.heap.size ≤ y := fun y hy => by
    rcases hA.2 with ⟨h0, _⟩ | ⟨gb, cap, cur, h8, h9, _⟩
    · omega
    · rw [h8] at hy; cases hy; exact h9
  have hkey : ∀ q y, cw.cell? q = some y → w1.heap.size ≤ q.block → q.block ≠ b → kv.ownBlock ≠ some q.block → (hide (fun y => if w1.heap.size ≤ y ∧ y ≠ b ∧ v'.ownBlock ≠ some y then none else some (0, 0)) (wA.setCell ⟨b, 3, none⟩ v')).cell? q = some y := fun q y hq h0 h1 h2 => by
    refine hide_cell (keep q y hq h1 h2) (if_pos ⟨h0, h1, fun e => ?_⟩)
    rcases vown _ e with h | h
    · exact h2 h.2.2
    · have := World.block_lt_of_cell? cw q hq; omega
  have cg : Cells g (hide (fun y => if w1.heap.size ≤ y ∧ y ≠ b ∧ v'.ownBlock ≠ some y then none else some (0, 0)) (wA.setCell ⟨b, 3, none⟩ v')) := fun q y hq => by
    obtain ⟨h1, h2, h3, h4⟩ := hg q y hq
    exact hkey q y (hxc2.cells _ _ h1) h2 h3 h4
  have cg' : Cells g' (hide (fun y => if w1.heap.size ≤ y ∧ y ≠ b ∧ v'.ownBlock ≠ some y then none else some (0, 0)) (wA.setCell ⟨b, 3, none⟩ v')) := fun q y hq => by
    obtain ⟨h1, h2⟩ := hg' q y hq
    exact hkey q y (hxc.cells _ _ h1) (by omega) (by omega) fun e => by have := hkb _ e; omega
  refine ⟨?_, v', xs ++ [c0, c1, c2, c3], _, ?_, ?_, fun y hy => ?_, ha.cells cg, fun j z hj hz => ?_, fun q y hq => ?_⟩
  · refine Ext.setCell ((hx.trans hxc2).grown hgA fun z hz => (hrow z hz).1) hb1 _
  · have e := heap_setCell_same (i := 3) hbA v'
    rw [e]; rfl
  · refine RowP.move hA fun gb hgb => ⟨heap_setCell_other (p := ⟨b, 3, none⟩) _ ?_, ?_⟩
    · rcases hgb with h | h
      · exact h.2.1
      · show gb ≠ b; omega
    · rcases hgb with h | h
      · exact ⟨h.1, h.2.1⟩
      · exact ⟨by omega, by omega⟩
  · rcases hA.2 with ⟨h0, _⟩ | ⟨gb, cap, cur, h8, h9, h10, _⟩
    · omega
    · rw [h8] at hy; cases hy
      have := (Array.getElem?_eq_some_iff.1 h10).1
      simpa [World.setCell] using this
  · by_cases e : j = k
    · subst e
      rw [hn] at hz
      cases hz
      refine ⟨c0, c1, c2, c3, ?_, ?_, ?_, ?_, hr'.cells cg'⟩ <;> simp [← hlen]
    · obtain ⟨d0, d1, d2, d3, q0, q1, q2, q3, hq⟩ := hk j z (by omega) hz
      exact ⟨d0, d1, d2, d3, by rw [List.getElem?_append_left (by omega)]; exact q0, by rw [List.getElem?_append_left (by omega)]; exact q1, by rw [List.getElem?_append_left (by omega)]; exact q2, by rw [List.getElem?_append_left (by omega)]; exact q3, hq.cells cg⟩
  · obtain ⟨h1, h2⟩ := hide_apart _ _ q y hq
    dsimp only at h2
    split at h2
    · rename_i h3
      exact ⟨h1, h3.1, h3.2.1, h3.2.2⟩
    · cases h2
theorem infoN : (Tryz.prog.info? 35).map (fun i => (i.zero, i.size, i.bytes)) = some (some noNode0, 4, 72) := by kernel_rfl
theorem cells_four {w : World} {b : Nat} {c0 c1 c2 c3 : Value} {t : TypeId} (h : w.heap[b]? = some (.cells #[c0, c1, c2, c3] t (0, 0))) : ∀ (j : Nat) u, [c0, c1, c2, c3][j]? = some u → w.cell? (Addr.add ⟨b, 0, none⟩ j) = some u := by
  intro j u hu
  rw [Addr.add_lit, Nat.zero_add]
  refine cellOf h ?_
  simpa using hu
theorem plain_fin {u w1 wr : World} {b : Nat} {nd : Nd} {F : Int → PN} {aa ak : Option Addr} {acap ck : Nat} {xs : List Value} {g : World} (hu : Ext u w1) (hB : u.heap.size < w1.heap.size) (hx : Ext w1 wr)
    (hb : wr.heap[b]? = some (.cells #[.int .i64 nd.tag, .slice aa nd.attrs.length acap, .string nd.text, .slice ak nd.kids.length ck] 35 (0, 0)))
    (hr : RowP wr (fun x => w1.heap.size ≤ x ∧ x ≠ b) 35 4 (.slice ak nd.kids.length ck) nd.kids.length xs) (ha : RowRd g 2 (.slice aa nd.attrs.length acap) nd.attrs.length (attrCells nd.attrs))
    (hk : ∀ (j : Nat) (x : Int), j < nd.kids.length → nd.kids[j]? = some x → ∃ c0 c1 c2 c3, xs[j * 4]? = some c0 ∧ xs[j * 4 + 1]? = some c1 ∧ xs[j * 4 + 2]? = some c2 ∧ xs[j * 4 + 3]? = some c3 ∧ RdN g (F x) (.agg #[c0, c1, c2, c3]))
    (hg : ∀ q x, g.cell? q = some x → wr.cell? q = some x ∧ w1.heap.size ≤ q.block ∧ q.block ≠ b ∧ (Value.slice ak nd.kids.length ck).ownBlock ≠ some q.block) (c0 c1 c2 c3 : Value) :
    PlainIs (.mk nd.tag nd.attrs nd.text (nd.kids.map F)) u (.returned (.agg #[.int .i64 nd.tag, .slice aa nd.attrs.length acap, .string nd.text, .slice ak nd.kids.length ck]))
      ((((wr.setCell ⟨u.heap.size, 0, none⟩ c0).setCell ⟨u.heap.size, 1, none⟩ c1).setCell ⟨u.heap.size, 2, none⟩ c2).setCell ⟨u.heap.size, 3, none⟩ c3) := by
  have hux : Ext u wr := hu.trans hx
  obtain ⟨w3, hw3⟩ : ∃ w3 : World, w3 = (((wr.setCell ⟨u.heap.size, 0, none⟩ c0).setCell ⟨u.heap.size, 1, none⟩ c1).setCell ⟨u.heap.size, 2, none⟩ c2).setCell ⟨u.heap.size, 3, none⟩ c3 := ⟨_, rfl⟩
  have e3 : Ext u w3 := hw3 ▸ (((hux.setCell (Nat.le_refl _) _).setCell (Nat.le_refl _) _).setCell (Nat.le_refl _) _).setCell (Nat.le_refl _) _
  have k3 : ∀ q y, wr.cell? q = some y → q.block ≠ u.heap.size → w3.cell? q = some y := fun q y hq hn => by
    rw [hw3, ← hq]
    refine World.cell?_of_block ?_
    rw [heap_setCell_other (p := ⟨u.heap.size, 3, none⟩) _ hn, heap_setCell_other (p := ⟨u.heap.size, 2, none⟩) _ hn, heap_setCell_other (p := ⟨u.heap.size, 1, none⟩) _ hn, heap_setCell_other (p := ⟨u.heap.size, 0, none⟩) _ hn]
  rw [← hw3]
  clear hw3
  have kk : ∀ q y, wr.cell? q = some y → w1.heap.size ≤ q.block → (hide (fun y => if w1.heap.size ≤ y then none else some (0, 0)) w3).cell? q = some y := fun q y hq hl => hide_cell (k3 q y hq (by omega)) (if_pos hl)
  have cg : Cells g (hide (fun y => if w1.heap.size ≤ y then none else some (0, 0)) w3) := fun q y hq => by
    obtain ⟨h1, h2, _⟩ := hg q y hq
    exact kk q y h1 h2
  refine ⟨_, hide (fun y => if w1.heap.size ≤ y then none else some (0, 0)) w3, rfl, RdN.mk' (n := .mk nd.tag nd.attrs nd.text (nd.kids.map F)) (ha.cells cg) ?_, e3, fun q y hq => ?_⟩
  · show KidsRd _ (nd.kids.map F) _
    obtain ⟨h1, h2 | ⟨gb, cap, cur, h8, h9, h10, h11, h12, h13, h14⟩⟩ := id hr
    · obtain ⟨h0, a0, h9⟩ := h2
      injection h9 with e1 e2 e3
      refine ⟨ak, ck, by rw [List.length_map], by rw [List.length_map]; omega, by omega, fun _ => ⟨by rw [List.length_map]; exact h0, e3⟩, fun a ha' j x hx' => ?_⟩
      have := (List.getElem?_eq_some_iff.1 hx').1
      rw [List.length_map] at this; omega
    · cases h8
      refine ⟨_, ck, by rw [List.length_map], by rw [List.length_map]; exact h11, h12, (fun e => by cases e), fun a ha' j x hx' => ?_⟩
      cases ha'
      rw [List.getElem?_map] at hx'
      obtain ⟨y, hy, rfl⟩ := Option.map_eq_some_iff.1 hx'
      obtain ⟨d0, d1, d2, d3, q0, q1, q2, q3, hq⟩ := hk j y (List.getElem?_eq_some_iff.1 hy).1 hy
      have cell : ∀ (m : Nat) z, xs[m]? = some z → (hide (fun y => if w1.heap.size ≤ y then none else some (0, 0)) w3).cell? (Addr.add ⟨gb, 0, none⟩ m) = some z := fun m z hz => by
        rw [Addr.add_lit, Nat.zero_add]
        refine kk ⟨gb, m, none⟩ z (cellOf h10 ?_) h9.1
        rw [← h14, List.getElem?_take] at hz
        split at hz
        · simpa using hz
        · cases hz
      exact ⟨d0, d1, d2, d3, cell _ _ q0, cell _ _ q1, cell _ _ q2, cell _ _ q3, hq.cells cg⟩
  · obtain ⟨h1, h2⟩ := hide_apart _ _ q y hq
    dsimp only at h2
    split at h2
    · rename_i h3
      exact ⟨h1, by omega⟩
    · cases h2
theorem set_same {α : Type} {l : List α} {i : Nat} {x : α} (h : l[i]? = some x) : l.set i x = l := by
  obtain ⟨hlt, rfl⟩ := List.getElem?_eq_some_iff.1 h
  exact List.set_getElem_self hlt
theorem Tr.set2_set2 (T : Tr) {p k : Nat} (hpk : p ≠ k) (pd kd pd' kd' : Nd) : (T.set2 p k pd' kd').set2 p k pd kd = T.set2 p k pd kd := by
  unfold Tr.set2
  simp only [Tr.mk.injEq, true_and]
  rw [List.set_comm _ _ (Ne.symm hpk), List.set_set, List.set_set]
theorem Tr.set2_self {T : Tr} {p k : Nat} (hpk : p ≠ k) {pd kd : Nd} (hp : T.nodes[p]? = some (some pd)) (hk : T.nodes[k]? = some (some kd)) : T.set2 p k pd kd = T := by
  show { T with nodes := (T.nodes.set p (some pd)).set k (some kd) } = T
  rw [set_same hp, set_same hk]
theorem erase_mid {l : List Int} {x : Int} (hx : x ∉ l) (i : Nat) : (l.take i ++ [x] ++ l.drop i).erase x = l := by
  rw [List.append_assoc, List.erase_append_right _ (fun h => hx (List.mem_of_mem_take h))]
  simp
theorem mid_erase {l : List Int} (hn : l.Nodup) {x : Int} (hx : x ∈ l) : (l.erase x).take (l.idxOf x) ++ [x] ++ (l.erase x).drop (l.idxOf x) = l := by
  have hlt : l.idxOf x < l.length := List.idxOf_lt_length_of_mem hx
  rw [List.erase_eq_eraseIdx_of_idxOf rfl, List.eraseIdx_eq_take_drop_succ]
  generalize hi : l.idxOf x = i at *
  have hx : l[i] = x := by subst hi; exact List.getElem_idxOf hlt
  have ht : (l.take i).length = i := by rw [List.length_take]; omega
  rw [List.take_append_of_le_length (by omega), List.take_of_length_le (by omega), List.drop_append_of_le_length (by omega), List.drop_of_length_le (by omega), List.nil_append, ← hx, List.append_assoc]
  simp
theorem Tr.unlink_link {T : Tr} {p k at' : Nat} {pd kd : Nd} (hp : T.nodes[p]? = some (some pd)) (hk : T.nodes[k]? = some (some kd)) (hpk : p ≠ k) (hpar : kd.parent = -1) (hno : (k : Int) ∉ pd.kids) :
    (T.link p at' k pd kd).unlink p k { pd with kids := pd.kids.take at' ++ [(k : Int)] ++ pd.kids.drop at' } { kd with parent := p } = T := by
  rw [Tr.link_eq]
  unfold Tr.unlink
  rw [Tr.set2_set2 _ hpk]
  have e1 : ({ pd with kids := (pd.kids.take at' ++ [(k : Int)] ++ pd.kids.drop at').erase (k : Int) } : Nd) = pd := by rw [erase_mid hno]
  have e2 : ({ kd with parent := -1 } : Nd) = kd := by rw [← hpar]
  show T.set2 p k { pd with kids := (pd.kids.take at' ++ [(k : Int)] ++ pd.kids.drop at').erase (k : Int) } { kd with parent := -1 } = T
  rw [e1, e2]
  exact Tr.set2_self hpk hp hk
theorem Tr.link_unlink {T : Tr} {p k : Nat} {pd kd : Nd} (hp : T.nodes[p]? = some (some pd)) (hk : T.nodes[k]? = some (some kd)) (hpk : p ≠ k) (hpar : kd.parent = (p : Int)) (hn : pd.kids.Nodup) (hin : (k : Int) ∈ pd.kids) :
    (T.unlink p k pd kd).link p (pd.kids.idxOf (k : Int)) k { pd with kids := pd.kids.erase (k : Int) } { kd with parent := -1 } = T := by
  rw [Tr.link_eq]
  unfold Tr.unlink
  rw [Tr.set2_set2 _ hpk]
  have e1 : ({ pd with kids := (pd.kids.erase (k : Int)).take (pd.kids.idxOf (k : Int)) ++ [(k : Int)] ++ (pd.kids.erase (k : Int)).drop (pd.kids.idxOf (k : Int)) } : Nd) = pd := by rw [mid_erase hn hin]
  have e2 : ({ kd with parent := (p : Int) } : Nd) = kd := by rw [← hpar]
  show T.set2 p k { pd with kids := (pd.kids.erase (k : Int)).take (pd.kids.idxOf (k : Int)) ++ [(k : Int)] ++ (pd.kids.erase (k : Int)).drop (pd.kids.idxOf (k : Int)) } { kd with parent := (p : Int) } = T
  rw [e1, e2]
  exact Tr.set2_self hpk hp hk
theorem WF.plain_set2 {T : Tr} {d : Nat → Nat} (hw : WF T d) {p k : Nat} {pd kd pd' : Nd} {q : Int} (hp : T.nodes[p]? = some (some pd)) (hk : T.nodes[k]? = some (some kd)) (hin : T.within p k = false) :
    (T.set2 p k pd' { kd with parent := q }).plain k = T.plain k ∧ (T.set2 p k pd' { kd with parent := q }).height k = T.height k := by
  refine pln_same hw (o := k) (fun j jd hj hjk => ?_) hk 50 k kd hk (hw.within_self hk)
  rw [Tr.set2_get hp hk]
  by_cases h1 : j = k
  · subst h1
    obtain rfl := some_inj2 hk hj
    exact ⟨_, if_pos rfl, rfl, rfl, rfl, rfl⟩
  · rw [if_neg h1]
    by_cases h2 : j = p
    · subst h2; rw [hjk] at hin; cases hin
    · rw [if_neg h2]; exact ⟨jd, hj, rfl, rfl, rfl, rfl⟩
def four (cur : Array Value) (j : Nat) : Value := .agg #[cur[j * 4]?.getD undef, cur[j * 4 + 1]?.getD undef, cur[j * 4 + 2]?.getD undef, cur[j * 4 + 3]?.getD undef]
theorem plain_fuel {w : World} {own : Ow} {ptr : Nat → Nat} {tb : Nat} {T : Tr} (hT : TreeAt w own ptr tb T) (hO : Owned own w) {d : Nat → Nat} (hw : WF T d) (hA : AttrsOk T) :
    ∀ (f i : Nat) (nd : Nd) (u : World), T.nodes[i]? = some (some nd) → 41 ≤ d i + f → Ext w u → Calls Tryz.prog 23 #[.pointer (some ⟨tb, 0, none⟩), .int .i64 i] u (PlainIs (T.pln f i) u) := by
  intro f
  induction f with
  | zero => intro i nd u h h1; have := hw.deep i nd h; have := hw.small.deep1; omega
  | succ f ih =>
    intro i nd u h h1 hx
    rw [pln_step T f h]
    have xu := (Ext.refl u).alloc (.cells #[.int .i64 0, .slice none 0 0, .string ⟨#[]⟩, .slice none 0 0] 35)
    have bu := heap_alloc_new u (.cells #[.int .i64 0, .slice none 0 0, .string ⟨#[]⟩, .slice none 0 0] 35)
    have HT := qh hT
    have HO := qh hO
    have HW := qh hw
    have HH := qh h
    have HG := qh (Tr.get_of h)
    have IH := qh ih
    have HLA := qh (hA i nd h).1
    have hkl := hw.kids_len h
    clear hT hO hw hA h ih
    go_enter Tryz.func23, Tryz.ntmps23
    go_upto_region 1 with fail
    obtain ⟨w1, hw1⟩ : ∃ w1 : World, w1 = u.alloc (.cells #[.int .i64 0, .slice none 0 0, .string ⟨#[]⟩, .slice none 0 0] 35) := ⟨_, rfl⟩
    try rw [← hw1] at xu bu
    rw [← hw1]
    clear hw1
    have hx1 := hx.trans xu
    obtain ⟨av, kv, bi, _, hav, hkv⟩ := (HT.out.keep (hx1.keep HO.out)).node i nd HH.out
    obtain ⟨aa, acap, rfl, hac⟩ := RowP.len_of' hav
    obtain ⟨ka, kcap, rfl, hkc⟩ := RowP.len_of' hkv
    have n0 := cellOf bi (i := 0) (v := .int .i64 nd.tag) rfl
    have n1 := cellOf bi (i := 1) (v := .slice aa nd.attrs.length acap) rfl
    have n2 := cellOf bi (i := 2) (v := .string nd.text) rfl
    have n3 := cellOf bi (i := 3) (v := .slice ka nd.kids.length kcap) rfl
    have HAV := qh (RowP.rd hav)
    have HKV := qh hkv
    have HX1 := qh hx1
    have HXU := qh xu
    have HBU := qh bu
    have N3 := qh n3
    clear hav hkv hx1 xu bu bi n3
    go_upto_region 4 with (go_at_call 70; refine (get_some (HT.out.keep (HX1.out.keep HO.out)) HG.out).mono ?_; rintro e w' ⟨rfl, rfl⟩)
    have np := Nat.ne_of_lt (cell_lt n0)
    have np' := Ne.symm np
    go_cut [6] (fun s wx => ∃ b, s = .pointer (some ⟨b, 0, none⟩) ∧ w1.heap.size ≤ b ∧ PlainBox w1 wx b nd.tag nd.attrs nd.text ∧ Ext w1 wx)
    case first =>
      go_region_held3 (fun w' => w'.cell? ⟨ptr i, 0, none⟩ = some (.int .i64 nd.tag) ∧ w'.cell? ⟨ptr i, 1, none⟩ = some (.slice aa nd.attrs.length acap) ∧ w'.cell? ⟨ptr i, 2, none⟩ = some (.string nd.text))
        (first | exact ⟨n0, n1, n2⟩ | exact hkeep | go_keep)
        ((go_at_call 71; refine (cloneA_any (RowRd.ext HAV.out (by first | exact (Ext.refl w1).drew | exact ((Ext.refl w1).drew).alloc _ | exact ((Ext.refl w1).alloc _).drew)) HLA.out (attrCells_one _)).mono ?_; rintro e w5 ⟨va, rfl, hra, hxA⟩; obtain ⟨a8, cap8, e8, _⟩ := RowP.len_of' hra; subst e8; (try (have BX : w5.heap[w1.heap.size]? = some (.cells #[.int .i64 0, .slice none 0 0, .string ⟨#[]⟩, .slice none 0 0] 35) := hxA.block (heap_alloc_new w1.drew (.cells #[.int .i64 0, .slice none 0 0, .string ⟨#[]⟩, .slice none 0 0] 35)); have q0 := cellOf BX (i := 0) (v := .int .i64 0) rfl; have q1 := cellOf BX (i := 1) (v := .slice none 0 0) rfl; have q2 := cellOf BX (i := 2) (v := .string ⟨#[]⟩) rfl; have q3 := cellOf BX (i := 3) (v := .slice none 0 0) rfl; have r0 := freeOf BX 0; have r1 := freeOf BX 1; have r2 := freeOf BX 2; have r3 := freeOf BX 3)); have hkeep := And.intro (hxA.cell (Ext.cell (by first | exact (Ext.refl w1).drew | exact ((Ext.refl w1).drew).alloc _) n0)) (And.intro (hxA.cell (Ext.cell (by first | exact (Ext.refl w1).drew | exact ((Ext.refl w1).drew).alloc _) n1)) (hxA.cell (Ext.cell (by first | exact (Ext.refl w1).drew | exact ((Ext.refl w1).drew).alloc _) n2)))))
      all_goals go_wp2_with fail
      all_goals go_meet
      · have x15 : Ext w1 w5 := (Ext.refl w1).drew.trans hxA
        exact ⟨_, rfl, x15.size, plainBox_new (Nat.le_refl _) x15 hra, x15.alloc _⟩
      · have x15 : Ext w1 w5 := (((Ext.refl w1).drew).alloc _).trans hxA
        refine ⟨_, rfl, Nat.le_refl _, plainBox_old (B := w1.heap.size + 1) (by omega) (by omega) (by simpa using hra) rfl BX, (((x15.setCell (Nat.le_refl _) _).setCell (Nat.le_refl _) _).setCell (Nat.le_refl _) _).setCell (Nat.le_refl _) _⟩
    case rest =>
      obtain ⟨b, rfl, hb1, ⟨a8, cap8, hbox, hra⟩, hx8⟩ := hcut
      have n3 := hx8.cell N3.out
      have BX := qh hbox
      have HX8 := qh hx8
      have HRA := qh hra
      obtain ⟨ab, bcap, hat⟩ := PlainBox.at (T.pln f) ⟨a8, cap8, hbox, hra⟩ hx8
      have HAT := qh hat
      clear hbox hx8 hra n0 n1 n2 hat
      go_wp2_with fail
      go_loopw [37, 8] (fun j _ wr => ∃ k : Nat, k ≤ nd.kids.length ∧ j = .int .i64 k ∧ PlainAt w1 wr b nd (T.pln f) ab bcap k) (fun j _ _ => nd.kids.length - (intOf j).toNat)
      case atStart => exact ⟨0, Nat.zero_le _, rfl, HAT.out⟩
      case round =>
        obtain ⟨k, hk, rfl, hxr, kv, xs, g, hb, hr, hkb, hga, hkx, hgc⟩ := hrel
        clear HAT BX HX8 HRA n3
        by_cases hlt : k < nd.kids.length
        · obtain ⟨x, hxi⟩ : ∃ x, nd.kids[k]? = some x := ⟨nd.kids[k], by simp [hlt]⟩
          obtain ⟨j, kd, rfl, hj, hjp, hjd⟩ := HW.out.kid HH.out hxi
          obtain ⟨g0, cap0, e0, hc0⟩ := RowAt.cell HKV.out (i := k) (x := .int .i64 j) (by rw [List.getElem?_map, hxi]; rfl)
          cases e0
          replace hc0 := hxr.cell hc0
          obtain ⟨ak, ck, rfl, hck⟩ := hr.rd.len_of
          have cb := cellOf hb (i := 3) (v := .slice ak k ck) rfl
          have fb := freeOf hb 3
          have REC := qh (fun (z : World) (hz : Ext wr z) => IH.out j kd z hj (by omega) (hx.trans (HXU.out.trans (hxr.trans hz))))
          have HXR := qh hxr
          have HB := qh hb
          have HR := qh hr
          have HKB := qh hkb
          have HGA := qh hga
          have HKX := qh hkx
          have HGC := qh hgc
          have HXX := qh hxi
          clear hxr hb hr hkb hga hkx hgc hj hjp hjd hxi
          go_upto_region 8 with fail
          refine wp_region_E (S := fun w' => w'.cell? ⟨b, 3, none⟩ = some (.slice ak k ck)) (n := 8) (by kernel_rfl) ?_
          have hS : wr.drew.cell? ⟨b, 3, none⟩ = some (.slice ak k ck) := cb
          have hxd : Ext wr wr.drew := (Ext.refl wr).drew
          obtain ⟨wd, hwd⟩ : ∃ wd : World, wd = wr.drew := ⟨_, rfl⟩
          rw [← hwd] at hS hxd ⊢
          clear hwd
          show wpE _ _ _ _ _ 8 9 (Array.replicate 9 false) _ _
          refine wpE_tk 0 41 (.pointer (some ⟨b, 3, none⟩)) rfl (.inl ⟨by rfl, fun w' hSw => ?_⟩) hS ?_
          · (clear hS; go_simp)
          try simp only [Act.put, zA, zB, zC]
          refine wpE_tk 1 42 (.slice ak k ck) rfl (.inl ⟨by rfl, fun w' hSw => ?_⟩) hS ?_
          · (clear hS; go_simp)
          try simp only [Act.put, zA, zB, zC]
          refine wpE_tk 2 43 (.pointer (some ⟨tb, 0, none⟩)) rfl (.inl ⟨by rfl, fun w' hSw => ?_⟩) hS ?_
          · (clear hS; go_simp)
          try simp only [Act.put, zA, zB, zC]
          refine wpE_tk 3 44 (.int .i64 j) rfl (.inl ⟨by rfl, fun w' hSw => ?_⟩) hS ?_
          · (clear hS; go_simp)
          try simp only [Act.put, zA, zB, zC]
          refine wpE_on 4 (some 45) rfl (fun K hK => ?_)
          go_simp
          go_at_call 23
          refine (REC.out wd hxd).mono ?_
          rintro e wk ⟨v, g', rfl, hr', hxk, hg'⟩
          obtain ⟨av2, kv2, e2, ha2, hk2⟩ := hr'.open
          obtain ⟨aa2, acap2, e3, _⟩ := ha2.len_of
          obtain ⟨ka2, kcap2, e4, _⟩ := hk2
          subst e3 e4 e2
          have hR := qh hr'
          have hG := qh hg'
          have hcb := hxk.cells _ _ (hxd.cells _ _ cb)
          refine hK.out _ _ (.inr hcb) ?_
          clear ha2 hr' hg'
          clear hK K
          try simp only [Act.put, zA, zB, zC]
          refine wpE_on 5 (some 46) rfl (fun K hK => ?_)
          go_simp
          have hcc := ((Ext.refl wk).alloc (.cells #[.int .i64 (T.pln f j).tag, .slice aa2 (T.pln f j).attrs.length acap2, .string (T.pln f j).text, .slice ka2 (T.pln f j).kids.length kcap2] 35)).cells _ _ hcb
          have xc := (Ext.refl wk).alloc (.cells #[.int .i64 (T.pln f j).tag, .slice aa2 (T.pln f j).attrs.length acap2, .string (T.pln f j).text, .slice ka2 (T.pln f j).kids.length kcap2] 35)
          have hnew := cells_four (heap_alloc_new wk (.cells #[.int .i64 (T.pln f j).tag, .slice aa2 (T.pln f j).attrs.length acap2, .string (T.pln f j).text, .slice ka2 (T.pln f j).kids.length kcap2] 35))
          obtain ⟨cw, hcw⟩ : ∃ cw : World, cw = wk.alloc (.cells #[.int .i64 (T.pln f j).tag, .slice aa2 (T.pln f j).attrs.length acap2, .string (T.pln f j).text, .slice ka2 (T.pln f j).kids.length kcap2] 35) := ⟨_, rfl⟩
          rw [← hcw] at hcc xc hnew ⊢
          clear hcw
          refine hK.out _ _ (.inr hcc) ?_
          obtain ⟨i0, hii, hz0, hz1, hz2⟩ := info_parts infoN
          obtain ⟨v', wA, row, hrunA, hrA, hgA, hrowA⟩ := run_append_row (P := Tryz.prog) cw 33 33 35 i0 noNode0 4 72 Tryz.underlying33 hii hz0 hz1 hz2 (by kernel_rfl) (by decide)
            (p := fun y => w1.heap.size ≤ y ∧ y ≠ b ∧ (Value.slice ak k ck).ownBlock = some y) (RowP.imp (RowP.ext HR.out ((hxd.trans hxk).trans xc)) (fun y hy hp => ⟨hp.1, hp.2, hy⟩)) ⟨wk.heap.size, 0, none⟩ 1 1 _ rfl hnew (by simp [Value.oneCell']) (by decide) (by unfold maxLen; omega) (by omega)
          have FIN := qh (PlainAt.step HXR.out HB.out hb1 HR.out HKB.out HGA.out HKX.out HGC.out HXX.out (hxd.trans hxk) hR.out (fun q y hq => ⟨(hG.out q y hq).1, Nat.le_trans hxd.size (hG.out q y hq).2⟩) xc hrA hgA hrowA)
          obtain ⟨a7, cap7, e7, _⟩ := hrA.rd.len_of
          subst e7
          have hcA : wA.cell? ⟨b, 3, none⟩ = some (.slice ak k ck) := (World.cell?_of_block (a := ⟨b, 3, none⟩) (hgA.block b (cell_lt hcc) (fun e => (hrowA b e.symm).2.1 rfl))).trans hcc
          have hfA : wA.frozen? ⟨b, 3, none⟩ = false := (World.frozen?_of_block (a := ⟨b, 3, none⟩) (hgA.block b (cell_lt hcc) (fun e => (hrowA b e.symm).2.1 rfl))).trans (Ext.free (((hxd.trans hxk).trans xc)) (cell_lt cb) fb)
          have HRA := qh hrunA
          clear hrA hgA hrowA hrunA hii hz0 hz1 hz2 hnew
          clear hK K
          try simp only [Act.put, zA, zB, zC]
          refine wpE_on 6 (some 47) rfl (fun K hK => ?_)
          refine step_append_run (by rfl) _ _ 33 (by rfl) (.slice ak k ck) (.slice (some ⟨wk.heap.size, 0, none⟩) 1 1) (by rfl) (by rfl) (.slice a7 (k + 1) cap7) wA HRA.out ?_
          refine hK.out _ _ (.inr hcA) ?_
          clear hK K
          try simp only [Act.put, zA, zB, zC]
          refine wpE_on 7 (some 48) rfl (fun K hK => ?_)
          go_simp
          refine hK.out _ _ (.inr hcA) ?_
          clear hK K
          try simp only [Act.put, zA, zB, zC]
          refine wpE_on 8 (none) rfl (fun K hK => ?_)
          go_simp
          refine hK.out _ _ (.inl rfl) ?_
          clear hK K
          refine wpE_done (by kernel_rfl) ?_
          clear hcA hfA hcc hcb hS cb fb
          obtain ⟨wz, hwz⟩ : ∃ wz : World, wz = wA.setCell ⟨b, 3, none⟩ (.slice a7 (k + 1) cap7) := ⟨_, rfl⟩
          rw [← hwz] at FIN ⊢
          clear hwz
          go_wp2_with fail
          go_roundw
          case rel => exact ⟨k + 1, by omega, by go_num, FIN.out⟩
          case measure => simp [intOf]; omega
        · obtain rfl : k = nd.kids.length := by omega
          have hB0 : u.heap.size < w1.heap.size := (Array.getElem?_eq_some_iff.1 HBU.out).1
          have hbn : b ≠ u.heap.size := by omega
          have hbn' := Ne.symm hbn
          obtain ⟨ak, ck, rfl, hck⟩ := hr.rd.len_of
          have b0 := cellOf hb (i := 0) (v := .int .i64 nd.tag) rfl
          have b1 := cellOf hb (i := 1) (v := .slice ab nd.attrs.length bcap) rfl
          have b2 := cellOf hb (i := 2) (v := .string nd.text) rfl
          have b3 := cellOf hb (i := 3) (v := .slice ak nd.kids.length ck) rfl
          have hr0 := hxr.block HBU.out
          have r0 := cellOf hr0 (i := 0) (v := .int .i64 0) rfl
          have r1 := cellOf hr0 (i := 1) (v := .slice none 0 0) rfl
          have r2 := cellOf hr0 (i := 2) (v := .string ⟨#[]⟩) rfl
          have r3 := cellOf hr0 (i := 3) (v := .slice none 0 0) rfl
          have f0 := freeOf hr0 0
          have f1 := freeOf hr0 1
          have f2 := freeOf hr0 2
          have f3 := freeOf hr0 3
          have FIN := qh (plain_fin HXU.out hB0 hxr hb hr hga hkx hgc)
          clear hxr hb hr hkb hga hkx hgc hr0
          go_wp2_with fail
          exact bodyPost_ret (v := .agg #[.int .i64 nd.tag, .slice ab nd.attrs.length bcap, .string nd.text, .slice ak nd.kids.length ck]) (by simp [results, Tryz.results23, go_sem, r0, r1, r2, r3]) rfl (FIN.out _ _ _ _)
theorem Plain_some {w : World} {own : Ow} {ptr : Nat → Nat} {tb : Nat} {T : Tr} (hT : TreeAt w own ptr tb T) (hO : Owned own w) {d : Nat → Nat} (hw : WF T d) (hA : AttrsOk T) {i : Nat} {nd : Nd} (h : T.nodes[i]? = some (some nd)) :
    Calls Tryz.prog 23 #[.pointer (some ⟨tb, 0, none⟩), .int .i64 i] w (PlainIs (T.plain i) w) :=
  plain_fuel hT hO hw hA 50 i nd w h (by omega) (Ext.refl w)
section
variable {w u : World} {own : Ow} {ptr : Nat → Nat} {tb : Nat} {T : Tr} {d : Nat → Nat} {i : Nat} {nd : Nd}
variable {p z h : Int} {b : Bool}
theorem nodup_pos {l : List Int} (hn : l.Nodup) {k : Nat} {x : Int} (h : l[k]? = some x) : posOf l x = k := by
  refine posOf_at h fun hm => ?_
  obtain ⟨hlt, rfl⟩ := List.getElem?_eq_some_iff.1 h
  rw [← List.take_append_drop k l, List.nodup_append] at hn
  refine hn.2.2 _ hm _ ?_ rfl
  rw [List.mem_iff_getElem?]
  exact ⟨0, by simp⟩
theorem cnt_snoc (l : List (Option Nd)) (k : Nat) (x : Option Nd) (h : l[k]? = some x) : (l.take (k + 1)).countP Option.isSome = (l.take k).countP Option.isSome + (if x.isSome then 1 else 0) := by
  obtain ⟨hlt, rfl⟩ := List.getElem?_eq_some_iff.1 h
  rw [List.take_succ_eq_append_getElem hlt, List.countP_append, List.countP_singleton]
theorem cnt_le (l : List (Option Nd)) (k : Nat) : (l.take k).countP Option.isSome ≤ l.countP Option.isSome := by
  have := congrArg (List.countP Option.isSome) (List.take_append_drop k l)
  rw [List.countP_append] at this
  omega
end
section
variable {w0 w : World} {tb : Nat} {T : Tr} {g : World}
def Box4 (g : World) (b : Nat) (c0 c1 c2 c3 : Value) : Prop := g.cell? ⟨b, 0, none⟩ = some c0 ∧ g.cell? ⟨b, 1, none⟩ = some c1 ∧ g.cell? ⟨b, 2, none⟩ = some c2 ∧ g.cell? ⟨b, 3, none⟩ = some c3
end
theorem WF.on {T : Tr} {d : Nat → Nat} (hw : WF T d) (hA : AttrsOk T) {i p a : Nat} {nd pd : Nd} (hi : T.nodes[i]? = some (some nd)) (hp : T.nodes[p]? = some (some pd)) (hpar : nd.parent = -1) (ht : pd.tag ≠ 0) (h0 : i ≠ 0) (ha : a ≤ pd.kids.length) (hin : T.within p i = false)
    (hdp : (d p : Int) + 1 + T.height i ≤ T.deep) :
    ∃ (T1 : Tr) (d1 : Nat → Nat), T.link p a i pd nd = T1 ∧ WF T1 d1 ∧ AttrsOk T1 ∧ T1.nodes[i]? = some (some { nd with parent := p }) ∧ T1.nodes[p]? = some (some { pd with kids := pd.kids.take a ++ [(i : Int)] ++ pd.kids.drop a }) ∧ T1.plain i = T.plain i ∧
      posOf (pd.kids.take a ++ [(i : Int)] ++ pd.kids.drop a) i = (a : Int) ∧
      T1.unlink p i { pd with kids := pd.kids.take a ++ [(i : Int)] ++ pd.kids.drop a } { nd with parent := p } = T := by
  have hpi : p ≠ i := fun e => by subst e; rw [hw.within_self hp] at hin; cases hin
  have hno : (i : Int) ∉ pd.kids := fun hm => by
    have := hw.kid_parent hp hm hi; omega
  have hw1 := hw.link (at' := a) hp hi ht h0 hpar hin hdp
  have hg := fun j => Tr.set2_get (pd' := { pd with kids := pd.kids.take a ++ [(i : Int)] ++ pd.kids.drop a }) (kd' := { nd with parent := p }) hp hi j
  refine ⟨T.link p a i pd nd, _, rfl, hw1, ?_, ?_, ?_, ?_, ?_, Tr.unlink_link hp hi hpi hpar hno⟩
  · rw [Tr.link_eq]; exact hA.set2 (show NdOk pd from hA _ _ hp) (show NdOk nd from hA _ _ hi)
  · rw [Tr.link_eq, hg, if_pos rfl]
  · rw [Tr.link_eq, hg, if_neg hpi, if_pos rfl]
  · rw [Tr.link_eq]; exact (hw.plain_set2 (q := (p : Int)) hp hi hin).1
  · refine posOf_at (k := a) ?_ ?_
    · rw [List.append_assoc, List.getElem?_append_right (by rw [List.length_take]; omega), List.length_take, show a - min a pd.kids.length = 0 by omega]; rfl
    · rw [List.append_assoc, List.take_append_of_le_length (by rw [List.length_take]; omega), List.take_take]
      exact fun h => hno (List.mem_of_mem_take h)
theorem plain_root {T T' : Tr} {d : Nat → Nat} (hw : WF T d) (h : ∀ (j : Nat) (jd : Nd), T.nodes[j]? = some (some jd) → T.within j 0 = true → T'.nodes[j]? = some (some jd)) : T'.plain ((0 : Nat) : Int) = T.plain ((0 : Nat) : Int) := by
  obtain ⟨rd, r0, _, _⟩ := hw.root
  exact (plain_same hw r0 fun j jd hj hin => ⟨jd, h j jd hj hin, rfl, rfl, rfl, rfl⟩).1
theorem wpList_append_run {P : Program} (w : World) {ops : Array Oper} {rest : List Oper} {o : Oper} {a : Act} {Q : Exit → Act → World → Prop}
    (hg : o.guard = none) (s x : Operand) (t : TypeId) (hop : o.op = Op.call { callee := Callee.builtin Builtin.append, args := #[s, x], argTypes := #[t, t] })
    (v u : Value) (hs : a.eval s = v) (hx : a.eval x = u) (v' : Value) (w' : World) (hr : (Builtin.append_ #[t, t] o.type #[v, u]).run P w = .ok v' w') (hK : wpList P ops Q rest (a.put o.dst v') w') :
    wpList P ops Q (o :: rest) a w := by
  refine wpList_plain hg fun K hK' => ?_
  unfold Oper.wp
  simp [execOp, hop, resolve, invoke, builtin, hs, hx, hr, Result.andThen]
  exact hK' _ _ hK
theorem append_empty {w : World} {b : Nat} {v : Value} {n : Nat} {xs : List Value} (h : RowRd w 2 v n xs) (hn : n ≤ 60000) (h1 : ∀ u ∈ xs, u.oneCell' = true) :
    ∃ v' w', (Builtin.append_ #[32, 32] 32 #[.slice (some ⟨b, 0, none⟩) 0 0, v]).run Tryz.prog w = .ok v' w' ∧ RowP w' (fun g => w.heap.size ≤ g) 110 2 v' n xs ∧ Ext w w' := by
  obtain ⟨hl, ao, cap, rfl, hcap, hnone, hc⟩ := h
  rcases Nat.eq_zero_or_pos n with rfl | hpos
  · obtain rfl : xs = [] := List.eq_nil_of_length_eq_zero (by simpa using hl)
    refine ⟨.slice (some ⟨b, 0, none⟩) 0 0, w, ?_, ⟨rfl, .inl ⟨rfl, _, rfl⟩⟩, Ext.refl _⟩
    cases ao with
    | none => obtain ⟨_, rfl⟩ := hnone rfl; go_simp
    | some a => go_simp
  · cases ao with
    | none => exact absurd (hnone rfl).1 (by omega)
    | some a =>
      obtain ⟨i0, hi, hz0, hz1, hz2⟩ := info_parts infoA
      obtain ⟨v', w', h2, h3, h4⟩ := run_append_arg_grows (P := Tryz.prog) w 32 32 110 i0 _ 2 _ Tryz.underlying32 hi hz0 hz1 hz2 (by kernel_rfl) (by decide) ⟨b, 0, none⟩ 0 0 [] (by simp) (by simp) a n cap xs hl (hc a rfl) (by omega) (by unfold maxLen; omega) (by omega)
      refine ⟨v', w', h2, (by have := RowP.of_owns h3; simpa using this : RowIn w' w.heap.size 110 2 v' n xs), (Ext.refl w).grown h4 (fun k hk => by cases hk)⟩
theorem Ext.heapSame {w w3 wr : World} (h : Ext w wr) (hos : w3.os = wr.os) (ht : w3.tape = wr.tape) (ho : w3.output = wr.output) (hs : w3.heap.size = wr.heap.size) (hk : ∀ x, x < w.heap.size → w3.heap[x]? = wr.heap[x]?) : Ext w w3 :=
  ⟨hos.trans h.os, ht.trans h.tape, ho.trans h.output, hs ▸ h.size, fun k hk' => (hk k hk').trans (Below.block h k hk')⟩
theorem PN.len_sizes (l : List PN) : l.length ≤ PN.sizes l := by
  induction l with
  | nil => exact Nat.le_refl _
  | cons k r ih => simp only [PN.sizes, List.length_cons]; have := k.size_pos; omega
theorem PN.len_size (n : PN) : n.kids.length < n.size := by
  rw [PN.size_eq]; have := PN.len_sizes n.kids; omega
theorem WF.rid_count {T : Tr} {d : Nat → Nat} (hw : WF T d) : ∀ (f i : Nat) (nd : Nd), T.nodes[i]? = some (some nd) → 41 ≤ d i + f → ∀ q : Nat → Bool, (∀ (j : Nat) (jd : Nd), T.nodes[j]? = some (some jd) → T.within j i = true → q j = false) →
    (T.rid fun j => T.within j i || q j).count = (T.rid q).count - ((T.plain i).size : Int) := by
  intro f
  induction f with
  | zero =>
    intro i nd hi hd
    have h1 := hw.deep i nd hi
    have h2 := hw.small.deep1
    omega
  | succ f ih =>
    intro i nd hi hd q hq
    have hkids := hw.kids i nd hi
    have hdep : ∀ (m : Nat) (kd : Nd), T.nodes[m]? = some (some kd) → kd.parent = (i : Int) → d m = d i + 1 := fun m kd hm hp => by
      rcases hw.up m kd hm with ⟨h3, h4⟩ | ⟨p, pd, h3, h4, h5, h6⟩
      · omega
      · obtain rfl : p = i := by omega
        exact h5
    have key : ∀ ks : List Int, ks.Nodup → (∀ k ∈ ks, k ∈ nd.kids) → (T.rid fun j => T.inAny ks j || q j).count = (T.rid q).count - ((PN.sizes (ks.map T.plain) : Nat) : Int) := by
      intro ks
      induction ks with
      | nil => intro _ _; simp [Tr.inAny, PN.sizes]
      | cons k r ihr =>
        intro hn hin
        obtain ⟨hkr, hnr⟩ := List.nodup_cons.1 hn
        obtain ⟨m, kd, ek, hm, hmp⟩ := hkids.2 k (hin k (by simp))
        subst ek
        have hdm := hdep m kd hm hmp
        have hmk : (m : Int) ∈ nd.kids := hin _ (by simp)
        have h1 := ih m kd hm (by omega) (fun j => T.inAny r j || q j) fun j jd hj hjm => by
          have h3 : q j = false := hq j jd hj (hw.kid_within hi hmk j jd hj hjm)
          show (T.inAny r j || q j) = false
          rw [h3, Bool.or_false]
          cases hr : T.inAny r j with
          | false => rfl
          | true =>
            obtain ⟨x, hx, hxj⟩ := List.any_eq_true.1 hr
            have hxk := hin x (by simp [hx])
            obtain ⟨y, yd, ey, _, _⟩ := hkids.2 x hxk
            subst ey
            exact (hw.kids_apart hi hmk hxk (fun e => hkr (by rw [e]; exact hx)) j jd hj hjm hxj).elim
        have h2 := ihr hnr fun x hx => hin x (by simp [hx])
        have e : (T.rid fun j => T.inAny ((m : Int) :: r) j || q j) = T.rid fun j => T.within j m || (T.inAny r j || q j) := Tr.rid_congr fun j jd _ => by
          simp [Tr.inAny, Bool.or_assoc]
        rw [e, h1, h2, List.map_cons, PN.sizes]
        push_cast
        omega
    have hself : T.inAny nd.kids i = false := by
      cases hr : T.inAny nd.kids i with
      | false => rfl
      | true =>
        obtain ⟨x, hx, hxi⟩ := List.any_eq_true.1 hr
        obtain ⟨y, yd, ey, hy, hyp⟩ := hkids.2 x hx
        subst ey
        have h1 := hdep y yd hy hyp
        have h2 := (hw.within_depth i nd hi hxi).1
        omega
    have hqi : (T.inAny nd.kids i || q i) = false := by rw [hself, hq i nd hi (hw.within_self hi)]; rfl
    have e : (T.rid fun j => T.within j i || q j) = T.rid fun j => decide (j = i) || (T.inAny nd.kids j || q j) := Tr.rid_congr fun j jd hj => by
      rw [← hw.inAny_kids hi hj, Bool.or_assoc]
    have h1 := Tr.rid_set (T := T) (q := fun j => T.inAny nd.kids j || q j) hi hqi
    have h2 := congrArg Tr.count h1
    have h3 := key nd.kids hkids.1 fun x hx => hx
    rw [e, ← h2, hw.plain_eq hi, PN.size_eq]
    show (T.rid fun j => T.inAny nd.kids j || q j).count - 1 = _
    rw [h3]
    simp only [PN.kids]
    push_cast
    omega
theorem WF.rid_size {T : Tr} {d : Nat → Nat} (hw : WF T d) {i : Nat} {nd : Nd} (hi : T.nodes[i]? = some (some nd)) : (T.rid fun j => T.within j i).count = T.count - ((T.plain i).size : Int) := by
  have h := hw.rid_count 41 i nd hi (by omega) (fun _ => false) fun _ _ _ _ => rfl
  rw [Tr.rid_none hw.count] at h
  rw [← h]
  exact congrArg Tr.count (Tr.rid_congr fun j jd _ => by simp)
theorem PN.anew_size : ∀ n : PN, n.anew.size = n.size := by
  refine PN.induct _ fun n ih => ?_
  rw [PN.anew_eq, PN.size_eq, PN.size_eq]
  show PN.sizes (PN.anews n.kids) + 1 = _
  rw [PN.anews_eq]
  have : ∀ l : List PN, (∀ k ∈ l, k.anew.size = k.size) → PN.sizes (l.map PN.anew) = PN.sizes l := by
    intro l
    induction l with
    | nil => intro _; rfl
    | cons k r ihr => intro h; simp only [List.map_cons, PN.sizes]; rw [h k (by simp), ihr fun x hx => h x (by simp [hx])]
  rw [this _ ih]
structure GraftLaw (T : Tr) (p a : Nat) (n : PN) (T1 T2 T3 : Tr) (d1 d2 d3 : Nat → Nat) (i : Nat) (nd pd kd : Nd) : Prop where
  ne : i ≠ 0
  wf1 : WF T1 d1
  ok1 : AttrsOk T1
  node1 : T1.nodes[i]? = some (some nd)
  up : nd.parent = (p : Int)
  par1 : T1.nodes[p]? = some (some pd)
  pos : posOf pd.kids i = (a : Int)
  plain1 : T1.plain i = n.anew
  count1 : T1.count = T.count + n.size
  off : T1.unlink p i pd nd = T2
  wf2 : WF T2 d2
  ok2 : AttrsOk T2
  node2 : T2.nodes[i]? = some (some kd)
  root2 : kd.parent = -1
  plain2 : T2.plain i = n.anew
  rid : (T2.rid fun j => T2.within j i) = T3
  wf3 : WF T3 d3
  ok3 : AttrsOk T3
  none3 : T3.get? i = none
  count3 : T3.count = T.count
  plain3 : T3.plain ((0 : Nat) : Int) = T.plain ((0 : Nat) : Int)
theorem WF.graft {T : Tr} {d : Nat → Nat} (hw : WF T d) (hA : AttrsOk T) {p a : Nat} {pd : Nd} (hp : T.nodes[p]? = some (some pd)) (ht : pd.tag ≠ 0) (ha : a ≤ pd.kids.length) {n : PN} (hsh : n.short = true) (hok : n.ok = true) (hdp : (d p : Int) + 1 + n.high ≤ T.deep) (hf : (n.size : Int) ≤ T.cap - T.count) :
    ∃ (T1 T2 T3 : Tr) (d1 d2 d3 : Nat → Nat) (i : Nat) (nd pd1 kd : Nd), T.newId = (i : Int) ∧ T.grafted p a pd n = T1 ∧ GraftLaw T p a n T1 T2 T3 d1 d2 d3 i nd pd1 kd := by
  obtain ⟨d2, i, hi1, hi0, hi2, hP⟩ := into_ok n hok T d hw (by omega) (by omega)
  obtain ⟨kd, hk1, hk2⟩ := hP.node
  have hpi : p ≠ i := fun e => hi2 pd (e ▸ hp)
  obtain ⟨hap1, hap2⟩ := hP.apart hw hi2 p pd hp
  have hA2 := into_attrs n hok hsh T hA
  obtain ⟨T1, d1, hT1, hw1, hA1, h1, h2, h3, h4, h5⟩ := hP.wf.on hA2 hk1 (hP.old p pd hpi hp) hk2 ht hi0 ha hap1 (by rw [hap2, hP.deep, hP.high]; omega)
  have hgr : T.grafted p a pd n = T1 := by
    unfold Tr.grafted; rw [hi1, Int.toNat_natCast, look_of hk1]; exact hT1
  have hc1 : T1.count = (PN.into T n).count := by rw [← hT1, Tr.link_eq]; rfl
  refine ⟨T1, PN.into T n, (PN.into T n).rid fun j => (PN.into T n).within j i, d1, d2, d2, i, _, _, kd, hi1, hgr, ⟨hi0, hw1, hA1, h1, rfl, h2, h4, h3.trans hP.plain, hc1.trans hP.count, h5, hP.wf, hA2, hk1, hk2, hP.plain, rfl, hP.wf.rid hk1 hk2 hi0, hA2.rid _, ?_, ?_, ?_⟩⟩
  · rw [Tr.get_nat, Tr.rid_get, hk1]
    simp [hP.wf.within_self hk1]
  · rw [hP.wf.rid_size hk1, hP.plain, PN.anew_size, hP.count]; omega
  · refine plain_root hw fun j jd hj _ => ?_
    have hji : j ≠ i := fun e => hi2 jd (e ▸ hj)
    exact Tr.rid_some.2 ⟨(hP.apart hw hi2 j jd hj).1, hP.old j jd hji hj⟩
structure TAt (w : World) (tb : Nat) (T : Tr) : Prop where
  out : ∃ own ptr, TreeAt w own ptr tb T ∧ Owned own w
theorem TAt.ext {w w' : World} {tb : Nat} {T : Tr} (h : TAt w tb T) (x : Ext w w') : TAt w' tb T := by
  obtain ⟨own, ptr, hT, hO⟩ := h.out
  exact ⟨own, ptr, hT.keep (x.keep hO), fun b hb => Nat.lt_of_lt_of_le (hO b hb) x.size⟩
def Tr.up (T : Tr) (id : Int) : Int := match T.get? id with | none => -1 | some nd => nd.parent
def Tr.kidsOf (T : Tr) (id : Int) : List Int := match T.get? id with | none => [] | some nd => nd.kids
def Tr.idx (T : Tr) (id : Int) : Int := match T.get? id with | none => -1 | some nd => match T.get? nd.parent with | none => -1 | some pd => posOf pd.kids id
def Tr.tagOf (T : Tr) (id : Int) : Int := match T.get? id with | none => -1 | some nd => nd.tag
def Tr.txt (T : Tr) (id : Int) : ByteArray := match T.get? id with | none => ByteArray.empty | some nd => nd.text
def IntsIs (l : List Int) (w : World) (e : Ending) (w' : World) : Prop :=
  ∃ ao cap, e = .returned (.slice ao l.length cap) ∧ l.length ≤ cap ∧ (l ≠ [] → ∃ g, ao = some ⟨g, 0, none⟩ ∧ ∀ (j : Nat) x, l[j]? = some x → w'.cell? ⟨g, j, none⟩ = some (.int .i64 x)) ∧ Ext w w'
theorem IntsIs.of_row {l : List Int} {w w' : World} {e : Ending} (h : RRow 3 1 l.length (l.map (Value.int .i64)) w e w') : IntsIs l w e w' := by
  obtain ⟨v, rfl, hr, hx⟩ := h
  rcases hr.2 with ⟨h0, a, rfl⟩ | ⟨g, cap, cur, rfl, h2, h3, h4, h5, h6, h7⟩
  · exact ⟨a, 0, by rw [h0], by omega, fun hn => absurd (List.eq_nil_of_length_eq_zero h0) hn, hx⟩
  · refine ⟨_, cap, rfl, h4, fun _ => ⟨g, rfl, fun j x hj => cellOf h3 ?_⟩, hx⟩
    have hl := (List.getElem?_eq_some_iff.1 hj).1
    have e : (cur.toList.take (l.length * 1))[j]? = some (Value.int .i64 x) := by rw [h7, List.getElem?_map, hj]; rfl
    rw [List.getElem?_take_of_lt (by omega)] at e
    simpa using e
section
variable {w : World} {tb : Nat} {T : Tr}
theorem at_has (h : TAt w tb T) (id : Int) : Calls Tryz.prog 75 #[.pointer (some ⟨tb, 0, none⟩), .int .i64 id] w (RVal (.bool (T.get? id).isSome) w) := by
  obtain ⟨own, ptr, hT, hO⟩ := h.out
  cases hg : T.get? id with
  | none => exact RSame.val (Has_none hT hg)
  | some nd => exact RSame.val (Has_some hT hg)
theorem at_up (h : TAt w tb T) (id : Int) : Calls Tryz.prog 53 #[.pointer (some ⟨tb, 0, none⟩), .int .i64 id] w (RVal (.int .i64 (T.up id)) w) := by
  obtain ⟨own, ptr, hT, hO⟩ := h.out
  unfold Tr.up
  cases hg : T.get? id with
  | none => exact RSame.val (Parent_none hT hg)
  | some nd => exact RSame.val (Parent_some hT hg)
theorem at_tag (h : TAt w tb T) (id : Int) : Calls Tryz.prog 76 #[.pointer (some ⟨tb, 0, none⟩), .int .i64 id] w (RVal (.int .i64 (T.tagOf id)) w) := by
  obtain ⟨own, ptr, hT, hO⟩ := h.out
  unfold Tr.tagOf
  cases hg : T.get? id with
  | none => exact RSame.val (Tag_none hT hg)
  | some nd => exact RSame.val (Tag_some hT hg)
theorem at_told (h : TAt w tb T) (id : Int) : Calls Tryz.prog 77 #[.pointer (some ⟨tb, 0, none⟩), .int .i64 id] w (RVal (.string (T.txt id)) w) := by
  obtain ⟨own, ptr, hT, hO⟩ := h.out
  unfold Tr.txt
  cases hg : T.get? id with
  | none => exact RSame.val (Told_none hT hg)
  | some nd => exact RSame.val (Told_some hT hg)
theorem at_kids (h : TAt w tb T) {d : Nat → Nat} (hw : WF T d) (id : Int) : Calls Tryz.prog 104 #[.pointer (some ⟨tb, 0, none⟩), .int .i64 id] w (IntsIs (T.kidsOf id) w) := by
  obtain ⟨own, ptr, hT, hO⟩ := h.out
  unfold Tr.kidsOf
  cases hg : T.get? id with
  | none => exact (Kids_none hT hg).mono fun e w' hh => ⟨none, 0, hh.1, Nat.le_refl _, fun h => absurd rfl h, hh.2⟩
  | some nd => exact (Kids_some hT hg (by have := hw.kids_len (Tr.get_lt hg).2.2; omega)).mono fun e w' hh => IntsIs.of_row hh
theorem at_idx (h : TAt w tb T) {d : Nat → Nat} (hw : WF T d) (id : Int) : Calls Tryz.prog 54 #[.pointer (some ⟨tb, 0, none⟩), .int .i64 id] w (RVal (.int .i64 (T.idx id)) w) := by
  obtain ⟨own, ptr, hT, hO⟩ := h.out
  unfold Tr.idx
  cases hg : T.get? id with
  | none => exact Index_root hT (.inl hg)
  | some nd =>
    cases hp : T.get? nd.parent with
    | none => simp only [hp]; exact Index_root hT (.inr ⟨nd, hg, hp⟩)
    | some pd => simp only [hp]; exact Index_kid hT hg hp (by have := hw.kids_len (Tr.get_lt hp).2.2; omega)
end
def Tr.goUpF {α : Type} (T : Tr) (F : Int → α → α) (stop : Int → α) : Nat → Int → α
  | 0, id => stop id
  | f + 1, id => if 0 ≤ T.up id then F id (T.goUpF F stop f (T.up id)) else stop id
def Tr.goUp {α : Type} (T : Tr) (F : Int → α → α) (stop : Int → α) (id : Int) : α := T.goUpF F stop 50 id
def Tr.rank (T : Tr) (d : Nat → Nat) (id : Int) : Nat := match T.get? id with | none => 0 | some _ => d id.toNat + 1
section
variable {T : Tr} {d : Nat → Nat}
theorem WF.up_pos (hw : WF T d) {id : Int} (h : 0 ≤ T.up id) : ∃ (i p : Nat) (nd pd : Nd), id = (i : Int) ∧ T.nodes[i]? = some (some nd) ∧ nd.parent = (p : Int) ∧ T.up id = (p : Int) ∧ T.nodes[p]? = some (some pd) ∧ d i = d p + 1 ∧ (i : Int) ∈ pd.kids := by
  unfold Tr.up at h ⊢
  cases hg : T.get? id with
  | none => rw [hg] at h; simp at h
  | some nd =>
    rw [hg] at h
    obtain ⟨i, rfl, hi⟩ := nat_of hg
    rcases hw.up i nd hi with ⟨h1, h2⟩ | ⟨p, pd, h1, h2, h3, h4⟩
    · have h' : 0 ≤ nd.parent := h; omega
    · exact ⟨i, p, nd, pd, rfl, hi, h1, h1, h2, h3, h4⟩
theorem WF.rank_up (hw : WF T d) {id : Int} (h : 0 ≤ T.up id) : T.rank d id = T.rank d (T.up id) + 1 := by
  obtain ⟨i, p, nd, pd, rfl, h1, h2, h3, h4, h5, h6⟩ := hw.up_pos h
  unfold Tr.rank
  rw [h3, Tr.get_of h1, Tr.get_of h4]
  simp [h5]
theorem WF.rank_le (hw : WF T d) (id : Int) : T.rank d id ≤ 41 := by
  unfold Tr.rank
  cases hg : T.get? id with
  | none => simp
  | some nd =>
    obtain ⟨i, rfl, hi⟩ := nat_of hg
    have h1 := hw.deep i nd hi
    have h2 := hw.small.deep1
    simp; omega
theorem WF.goUp_more (hw : WF T d) {α : Type} (F : Int → α → α) (stop : Int → α) : ∀ (f g : Nat) (id : Int), T.rank d id ≤ f → T.rank d id ≤ g → T.goUpF F stop f id = T.goUpF F stop g id := by
  intro f
  induction f with
  | zero =>
    intro g id h1 h2
    have hn : ¬ 0 ≤ T.up id := fun h => by have := hw.rank_up h; omega
    cases g with
    | zero => rfl
    | succ g => show stop id = if _ then _ else _; rw [if_neg hn]
  | succ f ih =>
    intro g id h1 h2
    by_cases h : 0 ≤ T.up id
    · have hr := hw.rank_up h
      cases g with
      | zero => omega
      | succ g =>
        show (if _ then _ else _) = if _ then _ else _
        rw [if_pos h, if_pos h, ih g (T.up id) (by omega) (by omega)]
    · cases g with
      | zero => show (if _ then _ else _) = stop id; rw [if_neg h]
      | succ g => show (if _ then _ else _) = if _ then _ else _; rw [if_neg h, if_neg h]
theorem WF.goUp_step (hw : WF T d) {α : Type} (F : Int → α → α) (stop : Int → α) (id : Int) : T.goUp F stop id = if 0 ≤ T.up id then F id (T.goUp F stop (T.up id)) else stop id := by
  show (if _ then _ else _) = _
  by_cases h : 0 ≤ T.up id
  · rw [if_pos h, if_pos h]
    have hr := hw.rank_up h
    have := hw.rank_le id
    exact congrArg (F id) (hw.goUp_more F stop 49 50 (T.up id) (by omega) (by omega))
  · rw [if_neg h, if_neg h]
end
def Tr.rootOf (T : Tr) (id : Int) : Int := T.goUp (fun _ r => r) (fun x => x) id
theorem root_any {w : World} {tb : Nat} {T : Tr} (hT : TAt w tb T) {d : Nat → Nat} (hw : WF T d) (id : Int) : Calls Tryz.prog 63 #[.pointer (some ⟨tb, 0, none⟩), .int .i64 id] w (RVal (.int .i64 (T.rootOf id)) w) := by
  go_enter Tryz.func63, Tryz.ntmps63
  go_wp2_with fail
  go_loopw [1] (fun s wr => ∃ x : Int, s = .int .i64 x ∧ Ext w wr ∧ Hid (T.rootOf x = T.rootOf id)) (fun s _ => T.rank d (intOf s))
  case atStart => exact ⟨id, rfl, Ext.refl _, qh rfl⟩
  case round =>
    obtain ⟨x, rfl, hx, hr⟩ := hrel
    have hs := hw.goUp_step (fun _ r => r) (fun x => x) x
    go_wp2_with fail
    refine (at_up (hT.ext hx) x).mono ?_
    rintro e w1 ⟨rfl, hx1⟩
    by_cases h : 0 ≤ T.up x
    · have HS := qh hs
      clear hs
      go_wp2_with fail
      refine (at_up (hT.ext (hx.trans hx1)) x).mono ?_
      rintro e w2 ⟨rfl, hx2⟩
      go_wp2_with fail
      go_roundw
      case rel =>
        refine ⟨T.up x, rfl, (hx.trans hx1).trans hx2, qh ?_⟩
        have h2 : T.rootOf x = _ := HS.out
        rw [if_pos h] at h2
        rw [← hr.out, h2]; rfl
      case measure => have := hw.rank_up h; simp [intOf]; omega
    · have HS := qh hs
      clear hs
      go_wp2_with fail
      go_ret
      refine ⟨?_, hx.trans hx1⟩
      have h2 : T.rootOf x = _ := HS.out
      rw [if_neg (by omega)] at h2
      rw [← hr.out, h2]; rfl
section
variable {w : World} {tb : Nat} {T : Tr}
theorem at_has_no (h : TAt w tb T) {id : Int} (hg : T.get? id = none) : Calls Tryz.prog 75 #[.pointer (some ⟨tb, 0, none⟩), .int .i64 id] w (RVal (.bool false) w) := by
  have := at_has h id; rw [hg] at this; exact this
theorem at_has_yes (h : TAt w tb T) {id : Int} {nd : Nd} (hg : T.get? id = some nd) : Calls Tryz.prog 75 #[.pointer (some ⟨tb, 0, none⟩), .int .i64 id] w (RVal (.bool true) w) := by
  have := at_has h id; rw [hg] at this; exact this
theorem at_up' (h : TAt w tb T) (id : Int) {z : Int} (hz : T.up id = z) : Calls Tryz.prog 53 #[.pointer (some ⟨tb, 0, none⟩), .int .i64 id] w (RVal (.int .i64 z) w) := hz ▸ at_up h id
theorem at_idx' (h : TAt w tb T) {d : Nat → Nat} (hw : WF T d) (id : Int) {z : Int} (hz : T.idx id = z) : Calls Tryz.prog 54 #[.pointer (some ⟨tb, 0, none⟩), .int .i64 id] w (RVal (.int .i64 z) w) := hz ▸ at_idx h hw id
theorem at_kids' (h : TAt w tb T) {d : Nat → Nat} (hw : WF T d) (id : Int) {l : List Int} (hl : T.kidsOf id = l) : Calls Tryz.prog 104 #[.pointer (some ⟨tb, 0, none⟩), .int .i64 id] w (IntsIs l w) := hl ▸ at_kids h hw id
theorem at_tag' (h : TAt w tb T) (id : Int) {z : Int} (hz : T.tagOf id = z) : Calls Tryz.prog 76 #[.pointer (some ⟨tb, 0, none⟩), .int .i64 id] w (RVal (.int .i64 z) w) := hz ▸ at_tag h id
end
section
variable {T : Tr} {d : Nat → Nat}
theorem Tr.up_none {T : Tr} {id : Int} (hg : T.get? id = none) : T.up id = -1 := by unfold Tr.up; rw [hg]
theorem Tr.up_some {T : Tr} {id : Int} {nd : Nd} (hg : T.get? id = some nd) : T.up id = nd.parent := by unfold Tr.up; rw [hg]
theorem Tr.get_neg (T : Tr) {id : Int} (h : id < 0) : T.get? id = none := by unfold Tr.get?; rw [if_pos h]
theorem WF.up_neg (hw : WF T d) {id : Int} (h : ¬ 0 ≤ T.up id) : T.up id = -1 := by
  unfold Tr.up at h ⊢
  cases hg : T.get? id with
  | none => rfl
  | some nd =>
    rw [hg] at h
    obtain ⟨i, rfl, hi⟩ := nat_of hg
    rcases hw.up i nd hi with ⟨h1, h2⟩ | ⟨p, pd, h1, h2, h3, h4⟩
    · exact h1
    · have h' : ¬ 0 ≤ nd.parent := h; omega
theorem WF.rank_step (hw : WF T d) {id : Int} {nd : Nd} (hg : T.get? id = some nd) : T.rank d (T.up id) < T.rank d id := by
  by_cases h : 0 ≤ T.up id
  · have := hw.rank_up h; omega
  · rw [hw.up_neg h]
    unfold Tr.rank
    rw [Tr.get_neg T (show (-1 : Int) < 0 by omega), hg]; simp
theorem WF.idx_kid (hw : WF T d) {id : Int} (h : 0 ≤ T.up id) : ∃ j : Nat, T.idx id = (j : Int) ∧ (T.kidsOf (T.up id))[j]? = some id ∧ j < (T.kidsOf (T.up id)).length ∧ (T.kidsOf (T.up id)).length ≤ 2000 := by
  obtain ⟨i, p, nd, pd, rfl, h1, h2, h3, h4, h5, h6⟩ := hw.up_pos h
  obtain ⟨k1, k2, k3⟩ := posOf_mem h6
  have e : T.kidsOf (T.up (i : Int)) = pd.kids := by unfold Tr.kidsOf; rw [h3, Tr.get_of h4]
  have e2 : T.idx (i : Int) = posOf pd.kids i := by unfold Tr.idx; rw [Tr.get_of h1]; simp only [h2, Tr.get_of h4]
  rw [e, e2]
  refine ⟨_, k1, ?_, k2, by have := hw.kids_len h4; omega⟩
  rw [List.getElem?_eq_getElem k2]
  simp
theorem WF.kidsOf_len (hw : WF T d) (id : Int) : (T.kidsOf id).length ≤ 2000 := by
  unfold Tr.kidsOf
  cases hg : T.get? id with
  | none => simp
  | some nd => exact hw.kids_len (Tr.get_lt hg).2.2
theorem WF.kid_rank (hw : WF T d) {id k : Int} (hk : k ∈ T.kidsOf id) : T.up k = id ∧ 0 ≤ id ∧ T.rank d k = T.rank d id + 1 ∧ ∃ kd, T.get? k = some kd := by
  unfold Tr.kidsOf at hk
  cases hg : T.get? id with
  | none => rw [hg] at hk; simp at hk
  | some nd =>
    rw [hg] at hk
    obtain ⟨i, rfl, hi⟩ := nat_of hg
    obtain ⟨j, kd, rfl, hj, hjp⟩ := (hw.kids i nd hi).2 k hk
    have hu : T.up (j : Int) = (i : Int) := by rw [Tr.up_some (Tr.get_of hj)]; exact hjp
    refine ⟨hu, by omega, ?_, kd, Tr.get_of hj⟩
    have := hw.rank_up (id := (j : Int)) (by omega)
    rw [this, hu]
end
def Tr.win (T : Tr) (id outer : Int) : Bool := T.goUp (fun x r => decide (x = outer) || r) (fun x => (T.get? x).isSome && decide (x = outer)) id
theorem WF.win_none {T : Tr} {d : Nat → Nat} (hw : WF T d) {x outer : Int} (hg : T.get? x = none) : T.win x outer = false := by
  unfold Tr.win
  rw [hw.goUp_step, if_neg (by rw [Tr.up_none hg]; omega), hg]; rfl
theorem WF.win_step {T : Tr} {d : Nat → Nat} (hw : WF T d) {x outer : Int} {nd : Nd} (hg : T.get? x = some nd) : T.win x outer = (decide (x = outer) || T.win (T.up x) outer) := by
  have h := hw.goUp_step (fun x r => decide (x = outer) || r) (fun x => (T.get? x).isSome && decide (x = outer)) x
  by_cases hu : 0 ≤ T.up x
  · rw [if_pos hu] at h; exact h
  · rw [if_neg hu, hg] at h
    rw [hw.win_none (x := T.up x) (Tr.get_neg T (by omega)), Bool.or_false]
    exact h.trans (Bool.true_and _)
theorem Within_any {w : World} {tb : Nat} {T : Tr} (hT : TAt w tb T) {d : Nat → Nat} (hw : WF T d) (id outer : Int) : Calls Tryz.prog 59 #[.pointer (some ⟨tb, 0, none⟩), .int .i64 id, .int .i64 outer] w (RVal (.bool (T.win id outer)) w) := by
  go_enter Tryz.func59, Tryz.ntmps59
  go_wp2_with fail
  go_loopw [1] (fun s wr => ∃ x : Int, s = .int .i64 x ∧ Ext w wr ∧ Hid (T.win x outer = T.win id outer)) (fun s _ => T.rank d (intOf s))
  case atStart => exact ⟨id, rfl, Ext.refl _, qh rfl⟩
  case round =>
    obtain ⟨x, rfl, hx, hr⟩ := hrel
    cases hg : T.get? x with
    | none =>
      have HG := qh hg
      clear hg
      go_wp2_with fail
      refine (at_has_no (hT.ext hx) HG.out).mono ?_
      rintro e w1 ⟨rfl, hx1⟩
      go_wp2_with fail
      refine (at_has_no (hT.ext (hx.trans hx1)) HG.out).mono ?_
      rintro e w2 ⟨rfl, hx2⟩
      go_wp2_with fail
      go_ret
      exact ⟨by rw [← hr.out, hw.win_none HG.out]; rfl, (hx.trans hx1).trans hx2⟩
    | some nd =>
      have HG := qh hg
      have HS := qh (hw.win_step (outer := outer) hg)
      clear hg
      go_wp2_with fail
      refine (at_has_yes (hT.ext hx) HG.out).mono ?_
      rintro e w1 ⟨rfl, hx1⟩
      by_cases he : x = outer
      · subst he
        go_wp2_with fail
        refine (at_has_yes (hT.ext (hx.trans hx1)) HG.out).mono ?_
        rintro e w2 ⟨rfl, hx2⟩
        go_wp2_with fail
        go_ret
        exact ⟨by rw [← hr.out, HS.out]; simp, (hx.trans hx1).trans hx2⟩
      · go_wp2_with fail
        refine (at_up (hT.ext (hx.trans hx1)) x).mono ?_
        rintro e w2 ⟨rfl, hx2⟩
        go_wp2_with fail
        go_roundw
        case rel => exact ⟨T.up x, rfl, (hx.trans hx1).trans hx2, qh (by rw [← hr.out, HS.out]; simp [he])⟩
        case measure => have := hw.rank_step HG.out; simp [intOf]; omega
def Tr.kidTo (T : Tr) (id outer : Int) : Int := T.goUp (fun x r => if T.up x = outer then x else r) (fun x => x) id
theorem kid_any {w : World} {tb : Nat} {T : Tr} (hT : TAt w tb T) {d : Nat → Nat} (hw : WF T d) (id outer : Int) (hin : T.win id outer = true) (hne : id ≠ outer) : Calls Tryz.prog 65 #[.pointer (some ⟨tb, 0, none⟩), .int .i64 id, .int .i64 outer] w (RVal (.int .i64 (T.kidTo id outer)) w) := by
  have HIN := qh hin
  have HNE := qh hne
  clear hin hne
  go_enter Tryz.func65, Tryz.ntmps65
  go_wp2_with fail
  go_loopw [1] (fun s wr => ∃ x : Int, s = .int .i64 x ∧ Ext w wr ∧ Hid (T.win x outer = true ∧ x ≠ outer ∧ T.kidTo x outer = T.kidTo id outer)) (fun s _ => T.rank d (intOf s))
  case atStart => exact ⟨id, rfl, Ext.refl _, qh ⟨HIN.out, HNE.out, rfl⟩⟩
  case round =>
    obtain ⟨x, rfl, hx, hr⟩ := hrel
    have h0 : 0 ≤ T.up x ∧ T.win (T.up x) outer = true ∧ T.kidTo x outer = if T.up x = outer then x else T.kidTo (T.up x) outer := by
      obtain ⟨h1, h2, h3⟩ := hr.out
      cases hg : T.get? x with
      | none => rw [hw.win_none hg] at h1; cases h1
      | some nd =>
        rw [hw.win_step hg] at h1
        simp [h2] at h1
        have hu : 0 ≤ T.up x := by
          cases hgu : T.get? (T.up x) with
          | none => rw [hw.win_none hgu] at h1; cases h1
          | some ud => exact (Tr.get_lt hgu).1
        refine ⟨hu, h1, ?_⟩
        have h := hw.goUp_step (fun x r => if T.up x = outer then x else r) (fun x => x) x
        rw [if_pos hu] at h; exact h
    have H0 := qh h0
    clear h0
    go_wp2_with fail
    refine (at_up (hT.ext hx) x).mono ?_
    rintro e w1 ⟨rfl, hx1⟩
    obtain ⟨z, hz⟩ : ∃ z, T.up x = z := ⟨_, rfl⟩
    have HZ := qh hz
    rw [hz]
    clear hz
    by_cases he : z = outer
    · subst he
      have HE := HZ
      go_wp2_with fail
      go_ret
      refine ⟨?_, hx.trans hx1⟩
      rw [← hr.out.2.2, H0.out.2.2, if_pos HE.out]; rfl
    · have HE := qh (show ¬ T.up x = outer by rw [HZ.out]; exact he)
      go_wp2_with fail
      refine (at_up (hT.ext (hx.trans hx1)) x).mono ?_
      rintro e w2 ⟨rfl, hx2⟩
      go_wp2_with fail
      go_roundw
      case rel =>
        refine ⟨T.up x, rfl, (hx.trans hx1).trans hx2, qh ⟨H0.out.2.1, HE.out, ?_⟩⟩
        rw [← hr.out.2.2, H0.out.2.2, if_neg HE.out]
      case measure => have := hw.rank_up H0.out.1; simp [intOf]; omega
def Tr.sib (T : Tr) (x : Int) : Option Int := (T.kidsOf (T.up x))[(T.idx x).toNat + 1]?
def Tr.behind (T : Tr) (id : Int) : Int := T.goUp (fun x r => (T.sib x).getD r) (fun _ => -1) id
theorem Behind_any {w : World} {tb : Nat} {T : Tr} (hT : TAt w tb T) {d : Nat → Nat} (hw : WF T d) (id : Int) : Calls Tryz.prog 151 #[.pointer (some ⟨tb, 0, none⟩), .int .i64 id] w (RVal (.int .i64 (T.behind id)) w) := by
  go_enter Tryz.func151, Tryz.ntmps151
  go_wp2_with fail
  go_loopw [1, 5, 6, 7] (fun s _ _ _ wr => ∃ x : Int, s = .int .i64 x ∧ Ext w wr ∧ Hid (T.behind x = T.behind id)) (fun s _ _ _ _ => T.rank d (intOf s))
  case atStart => exact ⟨id, rfl, Ext.refl _, qh rfl⟩
  case round =>
    obtain ⟨x, rfl, hx, hr⟩ := hrel
    have HS := qh (show T.behind x = if 0 ≤ T.up x then (T.sib x).getD (T.behind (T.up x)) else -1 from hw.goUp_step (fun x r => (T.sib x).getD r) (fun _ => -1) x)
    by_cases hu : 0 ≤ T.up x
    · obtain ⟨j, hj1, hj2, hj3, hj4⟩ := hw.idx_kid hu
      obtain ⟨nd, hg⟩ : ∃ nd, T.get? x = some nd := by
        cases hg : T.get? x with
        | none => rw [Tr.up_none hg] at hu; omega
        | some nd => exact ⟨nd, rfl⟩
      obtain ⟨p, hp⟩ : ∃ p, T.up x = p := ⟨_, rfl⟩
      obtain ⟨l, hl⟩ : ∃ l, T.kidsOf p = l := ⟨_, rfl⟩
      rw [hp] at hu hj2 hj3 hj4
      rw [hl] at hj2 hj3 hj4
      have HG := qh hg
      have HP := qh hp
      have HL := qh hl
      have HJ := qh hj1
      have hsib : T.sib x = l[j + 1]? := by unfold Tr.sib; rw [hp, hl, hj1]; rfl
      have HSB := qh hsib
      have HR := qh (show T.rank d x = T.rank d p + 1 by rw [← hp]; exact hw.rank_up (by rw [hp]; exact hu))
      clear hg hp hl hj1 hj2 hsib
      go_wp2_with fail
      refine (at_has_yes (hT.ext hx) HG.out).mono ?_
      rintro e w1 ⟨rfl, hx1⟩
      replace hx1 := hx.trans hx1
      go_wp2_with fail
      refine (at_up' (hT.ext hx1) x HP.out).mono ?_
      rintro e w2 ⟨rfl, hx2⟩
      replace hx2 := hx1.trans hx2
      go_wp2_with fail
      refine (at_up' (hT.ext hx2) x HP.out).mono ?_
      rintro e w3 ⟨rfl, hx3⟩
      replace hx3 := hx2.trans hx3
      go_wp2_with fail
      refine (at_kids' (hT.ext hx3) hw p HL.out).mono ?_
      rintro e w4 ⟨ao, cap, rfl, hcap, hcell, hx4⟩
      obtain ⟨g, rfl, hc⟩ := hcell (fun e => by rw [e] at hj3; simp at hj3)
      replace hx4 := hx3.trans hx4
      have HC := qh hc
      clear hcell hc
      go_wp2_with fail
      refine (at_idx' (hT.ext hx4) hw x HJ.out).mono ?_
      rintro e w5 ⟨rfl, hx5⟩
      by_cases hlt : j + 1 < l.length
      · obtain ⟨y, hy⟩ : ∃ y, l[j + 1]? = some y := ⟨l[j + 1], by simp [hlt]⟩
        have hc := hx5.cell (HC.out _ _ hy)
        have HY := qh hy
        clear hy
        go_wp2_with fail
        go_ret
        refine ⟨?_, hx4.trans hx5⟩
        rw [← hr.out, HS.out, if_pos (by rw [HP.out]; exact hu), HSB.out, HY.out]; rfl
      · have HY := qh (show l[j + 1]? = none from List.getElem?_eq_none (by omega))
        go_wp2_with fail
        go_roundw
        case rel =>
          refine ⟨p, rfl, hx4.trans hx5, qh ?_⟩
          rw [← hr.out, HS.out, if_pos (by rw [HP.out]; exact hu), HSB.out, HY.out, HP.out]; rfl
        case measure => have := HR.out; simp [intOf]; omega
    · have hum := hw.up_neg hu
      have HUM := qh hum
      clear hum
      cases hg : T.get? x with
      | none =>
        have HG := qh hg
        clear hg
        go_wp2_with fail
        refine (at_has_no (hT.ext hx) HG.out).mono ?_
        rintro e w1 ⟨rfl, hx1⟩
        go_wp2_with fail
        go_ret
        refine ⟨?_, hx.trans hx1⟩
        rw [← hr.out, HS.out, if_neg (by rw [HUM.out]; omega)]; rfl
      | some nd =>
        have HG := qh hg
        clear hg
        go_wp2_with fail
        refine (at_has_yes (hT.ext hx) HG.out).mono ?_
        rintro e w1 ⟨rfl, hx1⟩
        go_wp2_with fail
        refine (at_up' (hT.ext (hx.trans hx1)) x HUM.out).mono ?_
        rintro e w2 ⟨rfl, hx2⟩
        go_wp2_with fail
        go_ret
        refine ⟨?_, (hx.trans hx1).trans hx2⟩
        rw [← hr.out, HS.out, if_neg (by rw [HUM.out]; omega)]; rfl
def Tr.next (T : Tr) (id : Int) : Int := match T.kidsOf id with | k :: _ => k | [] => T.behind id
theorem Next_any {w : World} {tb : Nat} {T : Tr} (hT : TAt w tb T) {d : Nat → Nat} (hw : WF T d) (id : Int) : Calls Tryz.prog 152 #[.pointer (some ⟨tb, 0, none⟩), .int .i64 id] w (RVal (.int .i64 (T.next id)) w) := by
  have hlen := hw.kidsOf_len id
  unfold Tr.next
  cases hl : T.kidsOf id with
  | nil =>
    have HL := qh hl
    clear hl hlen
    go_enter Tryz.func152, Tryz.ntmps152
    go_wp2_with fail
    refine (at_kids' hT hw id HL.out).mono ?_
    rintro e w1 ⟨ao, cap, rfl, hcap, hcell, hx1⟩
    clear hcell
    go_wp2_with fail
    refine (Behind_any (hT.ext hx1) hw id).mono ?_
    rintro e w2 ⟨rfl, hx2⟩
    go_wp2_with fail
    go_ret
    exact ⟨rfl, hx1.trans hx2⟩
  | cons k r =>
    have HL := qh hl
    rw [hl] at hlen
    clear hl
    go_enter Tryz.func152, Tryz.ntmps152
    go_wp2_with fail
    refine (at_kids' hT hw id HL.out).mono ?_
    rintro e w1 ⟨ao, cap, rfl, hcap, hcell, hx1⟩
    obtain ⟨g, rfl, hc⟩ := hcell (by simp)
    have hc0 := hc 0 k rfl
    clear hcell hc
    go_wp2_with fail
    go_ret
    exact ⟨rfl, hx1⟩
def Tr.pathOf (T : Tr) (id : Int) : List Int := T.goUp (fun x r => r ++ [T.idx x]) (fun _ => []) id
def Tr.walk (T : Tr) (r : Int) : List Int → Option Int
  | [] => some r
  | i :: p => if i < 0 then none else match (T.kidsOf r)[i.toNat]? with
    | none => none
    | some k => T.walk k p
section
variable {T : Tr} {d : Nat → Nat}
theorem WF.path_step (hw : WF T d) (id : Int) : T.pathOf id = if 0 ≤ T.up id then T.pathOf (T.up id) ++ [T.idx id] else [] := hw.goUp_step (fun x r => r ++ [T.idx x]) (fun _ => []) id
theorem WF.root_step (hw : WF T d) (id : Int) : T.rootOf id = if 0 ≤ T.up id then T.rootOf (T.up id) else id := hw.goUp_step (fun _ r => r) (fun x => x) id
theorem WF.down (hw : WF T d) (P : Int → Prop) (h0 : ∀ id, ¬ 0 ≤ T.up id → P id) (h1 : ∀ id, 0 ≤ T.up id → P (T.up id) → P id) : ∀ id, P id := by
  have key : ∀ (n : Nat) (id : Int), T.rank d id ≤ n → P id := by
    intro n
    induction n with
    | zero =>
      intro id h
      refine h0 id fun hu => ?_
      have := hw.rank_up hu; omega
    | succ n ih =>
      intro id h
      by_cases hu : 0 ≤ T.up id
      · have := hw.rank_up hu
        exact h1 id hu (ih _ (by omega))
      · exact h0 id hu
  exact fun id => key _ id (Nat.le_refl _)
theorem Tr.walk_append (T : Tr) : ∀ (p q : List Int) (r : Int), T.walk r (p ++ q) = (T.walk r p).bind fun x => T.walk x q := by
  intro p
  induction p with
  | nil => intro q r; rfl
  | cons i p ih =>
    intro q r
    simp only [List.cons_append, Tr.walk]
    by_cases h : i < 0
    · rw [if_pos h, if_pos h]; rfl
    · rw [if_neg h, if_neg h]
      cases (T.kidsOf r)[i.toNat]? with
      | none => rfl
      | some k => exact ih q k
theorem WF.up_get (hw : WF T d) {id : Int} (h : 0 ≤ T.up id) : ∃ nd, T.get? (T.up id) = some nd := by
  obtain ⟨i, p, nd, pd, rfl, h1, h2, h3, h4, _⟩ := hw.up_pos h
  exact ⟨pd, by rw [h3]; exact Tr.get_of h4⟩
theorem WF.walk_path (hw : WF T d) : ∀ id, T.walk (T.rootOf id) (T.pathOf id) = some id := by
  refine hw.down _ (fun id h => ?_) (fun id h ih => ?_)
  · rw [hw.path_step, hw.root_step, if_neg h, if_neg h]; rfl
  · rw [hw.path_step, hw.root_step, if_pos h, if_pos h, Tr.walk_append, ih]
    obtain ⟨j, h1, h2, h3, _⟩ := hw.idx_kid h
    show T.walk (T.up id) [T.idx id] = some id
    simp only [Tr.walk]
    rw [h1, if_neg (by omega), Int.toNat_natCast, h2]
theorem WF.kid_idx (hw : WF T d) {r k : Int} {i : Nat} (h : (T.kidsOf r)[i]? = some k) : T.up k = r ∧ T.idx k = (i : Int) ∧ 0 ≤ r := by
  obtain ⟨h1, h2, h3, kd, h4⟩ := hw.kid_rank (List.mem_of_getElem? h)
  refine ⟨h1, ?_, h2⟩
  obtain ⟨j, j1, j2, j3, _⟩ := hw.idx_kid (id := k) (by omega)
  rw [h1] at j2 j3
  rw [j1]
  have hn : (T.kidsOf r).Nodup := by
    unfold Tr.kidsOf
    cases hg : T.get? r with
    | none => simp
    | some nd => exact (hw.kids _ nd (Tr.get_lt hg).2.2).1
  have hil := (List.getElem?_eq_some_iff.1 h).1
  have : j = i := (List.getElem?_inj j3 hn).1 (j2.trans h.symm)
  rw [this]
theorem WF.path_inj (hw : WF T d) {x y : Int} (h : T.pathOf x = T.pathOf y) (hr : T.rootOf x = T.rootOf y) : x = y := by
  have h1 := hw.walk_path x
  have h2 := hw.walk_path y
  rw [h, hr, h2] at h1
  injection h1 with h1
  exact h1.symm
theorem WF.win_iff (hw : WF T d) {outer : Int} {od : Nd} (ho : T.get? outer = some od) : ∀ id, (∃ nd, T.get? id = some nd) → (T.win id outer = true ↔ ∃ q, T.pathOf id = T.pathOf outer ++ q ∧ T.rootOf id = T.rootOf outer) := by
  refine hw.down _ (fun id h => ?_) (fun id h ih => ?_)
  · rintro ⟨nd, hg⟩
    rw [hw.win_step hg, hw.win_none (x := T.up id) (Tr.get_neg T (by omega)), Bool.or_false, decide_eq_true_eq]
    constructor
    · rintro rfl; exact ⟨[], by simp, rfl⟩
    · rintro ⟨q, h1, h2⟩
      rw [hw.path_step id, if_neg h] at h1
      have h3 : T.pathOf outer = [] := by
        cases hp : T.pathOf outer with
        | nil => rfl
        | cons a l => rw [hp] at h1; simp at h1
      exact hw.path_inj (by rw [h3, hw.path_step id, if_neg h]) h2
  · rintro ⟨nd, hg⟩
    rw [hw.win_step hg]
    simp only [Bool.or_eq_true, decide_eq_true_eq]
    rw [ih (hw.up_get h)]
    constructor
    · rintro (rfl | ⟨q, h1, h2⟩)
      · exact ⟨[], by simp, rfl⟩
      · refine ⟨q ++ [T.idx id], ?_, ?_⟩
        · rw [hw.path_step id, if_pos h, h1, List.append_assoc]
        · rw [hw.root_step id, if_pos h, h2]
    · rintro ⟨q, h1, h2⟩
      rcases List.eq_nil_or_concat q with rfl | ⟨q', z, rfl⟩
      · exact .inl (hw.path_inj (by simpa using h1) h2)
      · refine .inr ⟨q', ?_, ?_⟩
        · rw [hw.path_step id, if_pos h] at h1
          have h1' : T.pathOf (T.up id) ++ [T.idx id] = (T.pathOf outer ++ q') ++ [z] := by rw [h1]; simp
          exact (List.append_inj' h1' rfl).1
        · rw [hw.root_step id, if_pos h] at h2; exact h2
theorem WF.kidTo_path (hw : WF T d) {outer : Int} {od : Nd} (ho : T.get? outer = some od) : ∀ id, (∃ nd, T.get? id = some nd) → T.win id outer = true → id ≠ outer → T.up (T.kidTo id outer) = outer ∧ ∃ q, T.pathOf id = T.pathOf outer ++ T.idx (T.kidTo id outer) :: q := by
  have ks : ∀ id, T.kidTo id outer = if 0 ≤ T.up id then (if T.up id = outer then id else T.kidTo (T.up id) outer) else id := fun id => hw.goUp_step (fun x r => if T.up x = outer then x else r) (fun x => x) id
  refine hw.down _ (fun id h => ?_) (fun id h ih => ?_)
  · rintro ⟨nd, hg⟩ h1 h2
    rw [hw.win_step hg, hw.win_none (x := T.up id) (Tr.get_neg T (by omega)), Bool.or_false, decide_eq_true_eq] at h1
    exact absurd h1 h2
  · rintro ⟨nd, hg⟩ h1 h2
    rw [hw.win_step hg] at h1
    simp [h2] at h1
    rw [ks id, if_pos h]
    by_cases e : T.up id = outer
    · rw [if_pos e]
      exact ⟨e, [], by rw [hw.path_step id, if_pos h, e]⟩
    · rw [if_neg e]
      obtain ⟨i1, q, i2⟩ := ih (hw.up_get h) h1 e
      exact ⟨i1, q ++ [T.idx id], by rw [hw.path_step id, if_pos h, i2]; simp⟩
theorem WF.path_len (hw : WF T d) : ∀ id, (T.pathOf id).length ≤ T.rank d id := by
  refine hw.down _ (fun id h => ?_) (fun id h ih => ?_)
  · rw [hw.path_step, if_neg h]; simp
  · rw [hw.path_step, if_pos h, hw.rank_up h]; simp; exact ih
end
def cmpL : List Int → List Int → Int
  | x :: xs, y :: ys => if x < y then -1 else if y < x then 1 else cmpL xs ys
  | _, _ => 0
def rowL (p : List Int) (at' : Int) : List Int := p.map (fun i => 2 * i + 1) ++ [2 * at']
theorem cmpL_range : ∀ (x y : List Int), cmpL x y = -1 ∨ cmpL x y = 0 ∨ cmpL x y = 1 := by
  intro x
  induction x with
  | nil => intro y; exact .inr (.inl rfl)
  | cons a x ih =>
    intro y
    cases y with
    | nil => exact .inr (.inl rfl)
    | cons b y =>
      simp only [cmpL]
      by_cases h : a < b
      · rw [if_pos h]; exact .inl rfl
      · rw [if_neg h]
        by_cases h2 : b < a
        · rw [if_pos h2]; exact .inr (.inr rfl)
        · rw [if_neg h2]; exact ih y
theorem cmpL_anti : ∀ (x y : List Int), cmpL y x = - cmpL x y := by
  intro x
  induction x with
  | nil => intro y; cases y <;> rfl
  | cons a x ih =>
    intro y
    cases y with
    | nil => rfl
    | cons b y =>
      simp only [cmpL]
      by_cases h : a < b
      · rw [if_pos h, if_neg (by omega), if_pos h]; rfl
      · by_cases h2 : b < a
        · rw [if_pos h2, if_neg h, if_pos h2]
        · rw [if_neg h, if_neg h2, if_neg h2, if_neg h]; exact ih y
theorem cmpL_pre (p : List Int) (x y : List Int) : cmpL (p ++ x) (p ++ y) = cmpL x y := by
  induction p with
  | nil => rfl
  | cons a p ih => simp [cmpL, ih]
theorem cmp_same (p : List Int) (a b : Int) : cmpL (rowL p a) (rowL p b) = if a < b then -1 else if b < a then 1 else 0 := by
  unfold rowL
  rw [cmpL_pre]
  simp only [cmpL]
  by_cases h : a < b
  · rw [if_pos h, if_pos (by omega)]
  · rw [if_neg h, if_neg (by omega)]
    by_cases h2 : b < a
    · rw [if_pos h2, if_pos (by omega)]
    · rw [if_neg h2, if_neg (by omega)]
theorem cmp_in (p q : List Int) (i a b : Int) : cmpL (rowL p a) (rowL (p ++ i :: q) b) = if a ≤ i then -1 else 1 := by
  have e : rowL (p ++ i :: q) b = p.map (fun i => 2 * i + 1) ++ ((2 * i + 1) :: rowL q b) := by simp [rowL]
  rw [e]
  show cmpL (p.map _ ++ [2 * a]) _ = _
  rw [cmpL_pre]
  simp only [cmpL]
  by_cases h : a ≤ i
  · rw [if_pos h, if_pos (by omega)]
  · rw [if_neg h, if_neg (by omega), if_pos (by omega)]
def cmpS : List Int → List Int → Int
  | [], [] => 0
  | [], _ :: _ => -1
  | _ :: _, [] => 1
  | x :: xs, y :: ys => if x < y then -1 else if y < x then 1 else cmpS xs ys
theorem cmp_apart : ∀ (p q : List Int) (a b : Int), (¬ ∃ r, q = p ++ r) → (¬ ∃ r, p = q ++ r) → cmpL (rowL p a) (rowL q b) = cmpS p q := by
  intro p
  induction p with
  | nil => intro q a b h; exact absurd ⟨q, rfl⟩ h
  | cons i p ih =>
    intro q a b h1 h2
    cases q with
    | nil => exact absurd ⟨_, rfl⟩ h2
    | cons j q =>
      show cmpL ((2 * i + 1) :: rowL p a) ((2 * j + 1) :: rowL q b) = _
      simp only [cmpL, cmpS]
      by_cases h : i < j
      · rw [if_pos h, if_pos (by omega)]
      · rw [if_neg h, if_neg (by omega)]
        by_cases h3 : j < i
        · rw [if_pos h3, if_pos (by omega)]
        · rw [if_neg h3, if_neg (by omega)]
          obtain rfl : i = j := by omega
          exact ih q a b (fun ⟨r, e⟩ => h1 ⟨r, by rw [e]; rfl⟩) (fun ⟨r, e⟩ => h2 ⟨r, by rw [e]; rfl⟩)
def runes (s : ByteArray) : Nat := (runeList s s.size 0).length
def Tr.lengthOf (T : Tr) (id : Int) : Int := if T.tagOf id = -1 then -1 else if T.tagOf id = 0 then (runes (T.txt id) : Int) else ((T.kidsOf id).length : Int)
theorem AttrsOk.txt {T : Tr} (hA : AttrsOk T) (id : Int) : (T.txt id).size ≤ 8192 := by
  unfold Tr.txt
  cases hg : T.get? id with
  | none => simp
  | some nd => exact (hA _ nd (Tr.get_lt hg).2.2).2
theorem decode_wide (s : ByteArray) (pos : Nat) (h : pos < s.size) : 1 ≤ (Utf8.decode s pos).2 := by
  by_cases ha : (s[pos]'h).toNat < 128
  · rw [decode_ascii s pos h ha]; exact Nat.le_refl _
  · exact (decode_high s pos h (by omega)).2
theorem runes_le (s : ByteArray) : runes s ≤ s.size := runeList_len s s.size 0
theorem Length_any {w : World} {tb : Nat} {T : Tr} (hT : TAt w tb T) {d : Nat → Nat} (hw : WF T d) (hA : AttrsOk T) (id : Int) : Calls Tryz.prog 49 #[.pointer (some ⟨tb, 0, none⟩), .int .i64 id] w (RVal (.int .i64 (T.lengthOf id)) w) := by
  obtain ⟨z, hz⟩ : ∃ z, T.tagOf id = z := ⟨_, rfl⟩
  have HL := qh (show T.lengthOf id = if z = -1 then -1 else if z = 0 then (runes (T.txt id) : Int) else ((T.kidsOf id).length : Int) by unfold Tr.lengthOf; rw [hz])
  have HZ := qh hz
  clear hz
  by_cases h1 : z = -1
  · subst h1
    go_enter Tryz.func49, Tryz.ntmps49
    go_wp2_with fail
    refine (at_tag' hT id HZ.out).mono ?_
    rintro e w1 ⟨rfl, hx1⟩
    go_wp2_with fail
    go_ret
    exact ⟨by rw [HL.out]; rfl, hx1⟩
  · by_cases h0 : z = 0
    · subst h0
      obtain ⟨s, hs⟩ : ∃ s, T.txt id = s := ⟨_, rfl⟩
      have hsz := hA.txt id
      rw [hs] at hsz
      have hrl := runes_le s
      have HTX := qh (show ∀ (u : World), TAt u tb T → Calls Tryz.prog 77 #[.pointer (some ⟨tb, 0, none⟩), .int .i64 id] u (RVal (.string s) u) from fun u h => hs ▸ at_told h id)
      have HS := qh hs
      clear hs
      go_enter Tryz.func49, Tryz.ntmps49
      go_wp2_with fail
      refine (at_tag' hT id HZ.out).mono ?_
      rintro e w1 ⟨rfl, hx1⟩
      go_wp2_with fail
      refine (HTX.out _ (hT.ext hx1)).mono ?_
      rintro e w2 ⟨rfl, hx2⟩
      replace hx2 := hx1.trans hx2
      go_wp2_with fail
      go_loopw [5] (fun n wr => ∃ (pos b k : Nat), wr = w2.iter s pos ∧ n = .int .i64 k ∧ k ≤ 8192 ∧ Hid (k + (runeList s b pos).length = runes s ∧ s.size ≤ pos + b)) (fun _ wr => s.size - wr.iterPos w2.heap.size)
      case atStart => exact ⟨0, s.size, 0, rfl, rfl, by omega, qh ⟨by unfold runes; omega, by omega⟩⟩
      case round =>
        obtain ⟨pos, b, k, rfl, rfl, hk, hb⟩ := hrel
        by_cases hp : pos < s.size
        · have hnx : ∀ ty, (Instr.next (.pointer (some ⟨w2.heap.size, 0, none⟩)) true ty).run Tryz.prog (w2.iter s pos) = _ := fun ty => run_next_any w2 s pos ty hp
          have hwd := decode_wide s pos hp
          have hk2 : k + 1 ≤ runes s ∧ ∃ c, b = c + 1 ∧ (k + 1) + (runeList s c (pos + (Utf8.decode s pos).2)).length = runes s := by
            obtain ⟨h1, h2⟩ := hb.out
            cases b with
            | zero => omega
            | succ c =>
              unfold runeList at h1
              rw [if_pos hp] at h1
              simp at h1
              exact ⟨by omega, c, rfl, by omega⟩
          have HK2 := qh hk2
          have HWD := qh hwd
          clear hk2 hwd
          go_wp2_with fail
          go_roundw
          case rel =>
            obtain ⟨h1, c, rfl, h2⟩ := HK2.out
            have h3 := hb.out.2
            have h4 := HWD.out
            exact ⟨pos + (Utf8.decode s pos).2, c, k + 1, rfl, by go_num, by omega, qh ⟨h2, by omega⟩⟩
          case measure => have := HWD.out; simp; omega
        · have hnx : ∀ ty, (Instr.next (.pointer (some ⟨w2.heap.size, 0, none⟩)) true ty).run Tryz.prog (w2.iter s pos) = _ := fun ty => run_next_end w2 s pos ty hp
          go_wp2_with fail
          go_ret
          refine ⟨?_, hx2.alloc _⟩
          have hk3 : k = runes s := by
            obtain ⟨h1, h2⟩ := hb.out
            cases b with
            | zero => simpa [runeList] using h1
            | succ c => unfold runeList at h1; rw [if_neg hp] at h1; simpa using h1
          rw [HL.out, HS.out, hk3]; rfl
    · obtain ⟨l, hl⟩ : ∃ l, T.kidsOf id = l := ⟨_, rfl⟩
      have hlen := hw.kidsOf_len id
      rw [hl] at hlen
      have HK := qh hl
      clear hl
      go_enter Tryz.func49, Tryz.ntmps49
      go_wp2_with fail
      refine (at_tag' hT id HZ.out).mono ?_
      rintro e w1 ⟨rfl, hx1⟩
      go_wp2_with fail
      refine (at_kids' (hT.ext hx1) hw id HK.out).mono ?_
      rintro e w2 ⟨ao, cap, rfl, hcap, hcell, hx2⟩
      clear hcell
      go_wp2_with fail
      go_ret
      exact ⟨by rw [HL.out, if_neg h1, if_neg h0, HK.out]; rfl, hx1.trans hx2⟩
theorem lengthOf_bound {T : Tr} {d : Nat → Nat} (hw : WF T d) (hA : AttrsOk T) (id : Int) : -1 ≤ T.lengthOf id ∧ T.lengthOf id ≤ 8192 := by
  unfold Tr.lengthOf
  have h1 := hA.txt id
  have h2 := runes_le (T.txt id)
  have h3 := hw.kidsOf_len id
  split
  · omega
  · split
    · omega
    · omega
def Tr.may (T : Tr) (id at' : Int) : Bool := decide (0 ≤ at') && decide (at' ≤ T.lengthOf id)
theorem May_any {w : World} {tb : Nat} {T : Tr} (hT : TAt w tb T) {d : Nat → Nat} (hw : WF T d) (hA : AttrsOk T) (id at' : Int) : Calls Tryz.prog 13 #[.pointer (some ⟨tb, 0, none⟩), .agg #[.int .i64 id, .int .i64 at']] w (RVal (.bool (T.may id at')) w) := by
  have hm : T.may id at' = (decide (0 ≤ at') && decide (at' ≤ T.lengthOf id)) := rfl
  have hx1 := (Ext.refl w).alloc (.cells #[.int .i64 id, .int .i64 at'] 43)
  have h2 := Two.new w (.int .i64 id) (.int .i64 at') 43
  have HM := qh hm
  clear hm
  go_enter Tryz.func13, Tryz.ntmps13
  go_upto_region 1 with fail
  obtain ⟨wb, hwb⟩ : ∃ wb : World, wb = w.alloc (.cells #[.int .i64 id, .int .i64 at'] 43) := ⟨_, rfl⟩
  rw [← hwb] at hx1 h2 ⊢
  clear hwb
  obtain ⟨c0, c1, _, _⟩ := h2
  have c0' := fun u : ExtOf wb => u.ext.cell c0
  have c1' := fun u : ExtOf wb => u.ext.cell c1
  by_cases h0 : 0 ≤ at'
  · obtain ⟨z, hz⟩ : ∃ z, T.lengthOf id = z := ⟨_, rfl⟩
    have HLN := qh (show ∀ (u : World), TAt u tb T → Calls Tryz.prog 49 #[.pointer (some ⟨tb, 0, none⟩), .int .i64 id] u (RVal (.int .i64 z) u) from fun u h => hz ▸ Length_any h hw hA id)
    have HZ := qh hz
    clear hz
    refine wp_region_ext (by kernel_rfl) (by kernel_rfl) ?_
    repeat (go_big_quiet_step ((go_at_call 49; exact inExt (HLN.out _ (hT.ext (hx1.trans (ExtOf.ext _)))))))
    refine wpQuiet_nil ?_
    rintro _ ⟨u, rfl⟩
    go_wp2_with fail
    go_ret
    exact ⟨by rw [HM.out, HZ.out]; simp [h0], hx1.trans u.ext⟩
  · refine wp_region_ext (by kernel_rfl) (by kernel_rfl) ?_
    repeat (go_big_quiet_step (fail))
    refine wpQuiet_nil ?_
    rintro _ ⟨u, rfl⟩
    go_wp2_with fail
    go_ret
    exact ⟨by rw [HM.out]; simp; omega, hx1.trans u.ext⟩
theorem isNaN_int (x : Int) (w : World) : Calls Tryz.prog 123 #[.int .i64 x] w (RSame (.bool false) w) := by
  go_enter Tryz.func123, Tryz.ntmps123
  go_wp2_with fail
  go_ret
  exact ⟨rfl, rfl⟩
def cmpI (x y : Int) : Int := if x < y then -1 else if y < x then 1 else 0
theorem cmpI_any (x y : Int) (w : World) : Calls Tryz.prog 64 #[.int .i64 x, .int .i64 y] w (RSame (.int .i64 (cmpI x y)) w) := by
  by_cases h : x < y
  · have e := qh (show cmpI x y = -1 from if_pos h)
    go_enter Tryz.func64, Tryz.ntmps64
    go_wp2_with (go_at_call 123; refine (isNaN_int _ _).mono ?_; rintro e w' ⟨rfl, rfl⟩)
    go_ret
    exact ⟨by rw [e.out]; rfl, rfl⟩
  · by_cases h2 : y < x
    · have e := qh (show cmpI x y = 1 by unfold cmpI; rw [if_neg h, if_pos h2])
      go_enter Tryz.func64, Tryz.ntmps64
      go_wp2_with (go_at_call 123; refine (isNaN_int _ _).mono ?_; rintro e w' ⟨rfl, rfl⟩)
      go_ret
      exact ⟨by rw [e.out]; rfl, rfl⟩
    · have e := qh (show cmpI x y = 0 by unfold cmpI; rw [if_neg h, if_neg h2])
      go_enter Tryz.func64, Tryz.ntmps64
      go_wp2_with (go_at_call 123; refine (isNaN_int _ _).mono ?_; rintro e w' ⟨rfl, rfl⟩)
      go_ret
      exact ⟨by rw [e.out]; rfl, rfl⟩
theorem cmpS_take : ∀ (k : Nat) (p q : List Int), p.take k = q.take k → k ≤ p.length → k ≤ q.length → cmpS p q = cmpS (p.drop k) (q.drop k) := by
  intro k
  induction k with
  | zero => intro p q _ _ _; rfl
  | succ k ih =>
    intro p q h h1 h2
    cases p with
    | nil => simp at h1
    | cons a p =>
      cases q with
      | nil => simp at h2
      | cons b q =>
        simp at h h1 h2
        obtain ⟨rfl, h⟩ := h
        simp only [cmpS, List.drop_succ_cons]
        rw [if_neg (by omega), if_neg (by omega)]
        exact ih p q h h1 h2
theorem cmpI_range (x y : Int) : -1 ≤ cmpI x y ∧ cmpI x y ≤ 1 := by
  unfold cmpI
  split
  · omega
  · split <;> omega
theorem cmpS_any {w : World} {v v' : Value} {p q : List Int} (h : RowRd w 1 v p.length (p.map (Value.int .i64))) (h' : RowRd w 1 v' q.length (q.map (Value.int .i64))) (hp : p.length ≤ 60000) (hq : q.length ≤ 60000) :
    Calls Tryz.prog 66 #[v, v'] w (RSame (.int .i64 (cmpS p q)) w) := by
  obtain ⟨_, ao, cap, rfl, hc, hn, hr⟩ := h
  obtain ⟨_, ao', cap', rfl, hc', hn', hr'⟩ := h'
  have HN := qh hn
  have HR := qh hr
  have HN' := qh hn'
  have HR' := qh hr'
  clear hn hr hn' hr'
  go_enter Tryz.func66, Tryz.ntmps66
  go_wp2_with fail
  go_loopw [5, 6, 7, 8, 11] (fun _ _ _ _ i wr => ∃ k : Nat, wr = w ∧ k ≤ p.length ∧ k ≤ q.length ∧ i = .int .i64 k ∧ Hid (p.take k = q.take k)) (fun _ _ _ _ i _ => p.length - (intOf i).toNat)
  case atStart => exact ⟨0, rfl, Nat.zero_le _, Nat.zero_le _, rfl, qh rfl⟩
  case round =>
    obtain ⟨k, rfl, hk, hk', rfl, he⟩ := hrel
    by_cases hlt : k < p.length
    · obtain ⟨x, hx⟩ : ∃ x, p[k]? = some x := ⟨p[k], by simp [hlt]⟩
      cases ao with
      | none => exact absurd (HN.out rfl).1 (by omega)
      | some a =>
        obtain ⟨b, off, sp⟩ := a
        have c0 := HR.out _ rfl k (.int .i64 x) (by rw [List.getElem?_map, hx]; rfl)
        by_cases hlt' : k < q.length
        · obtain ⟨y, hy⟩ : ∃ y, q[k]? = some y := ⟨q[k], by simp [hlt']⟩
          cases ao' with
          | none => exact absurd (HN'.out rfl).1 (by omega)
          | some a' =>
            obtain ⟨b', off', sp'⟩ := a'
            have c1 := HR'.out _ rfl k (.int .i64 y) (by rw [List.getElem?_map, hy]; rfl)
            have hdrop : cmpS p q = cmpS (x :: p.drop (k + 1)) (y :: q.drop (k + 1)) := by
              rw [cmpS_take k p q he.out (by omega) (by omega)]
              obtain ⟨_, e1⟩ := List.getElem?_eq_some_iff.1 hx
              obtain ⟨_, e2⟩ := List.getElem?_eq_some_iff.1 hy
              rw [List.drop_eq_getElem_cons hlt, List.drop_eq_getElem_cons hlt', e1, e2]
            have hcr := cmpI_range x y
            have hcd : cmpI x y = if x < y then -1 else if y < x then 1 else 0 := rfl
            have hnx : x = y → p.take (k + 1) = q.take (k + 1) := fun e => by
              obtain ⟨_, e1⟩ := List.getElem?_eq_some_iff.1 hx
              obtain ⟨_, e2⟩ := List.getElem?_eq_some_iff.1 hy
              rw [List.take_succ_eq_append_getElem hlt, List.take_succ_eq_append_getElem hlt', he.out, e1, e2, e]
            obtain ⟨c, hcc⟩ : ∃ c, cmpI x y = c := ⟨_, rfl⟩
            have HD := qh hdrop
            have HNX := qh hnx
            have HCD := qh hcd
            have HCC := qh hcc
            rw [hcc] at hcr
            clear hx hy hdrop hnx hcd hcc
            go_wp2_with fail
            refine (cmpI_any x y _).mono ?_
            rintro e w' ⟨rfl, rfl⟩
            rw [HCC.out]
            by_cases hz : c = 0
            · subst hz
              go_wp2_with fail
              go_roundw
              case rel =>
                have hxy : x = y := by
                  have h1 := HCD.out
                  rw [HCC.out] at h1
                  by_cases h2 : x < y
                  · rw [if_pos h2] at h1; cases h1
                  · rw [if_neg h2] at h1
                    by_cases h3 : y < x
                    · rw [if_pos h3] at h1; cases h1
                    · omega
                exact ⟨k + 1, trivial, by omega, by omega, by go_num, qh (HNX.out hxy)⟩
              case measure => simp [intOf]; omega
            · go_wp2_with fail
              go_ret
              refine ⟨?_, rfl⟩
              have h1 := HCD.out
              rw [HCC.out] at h1
              rw [HD.out]
              simp only [cmpS]
              by_cases h2 : x < y
              · rw [if_pos h2] at h1 ⊢; rw [h1]; rfl
              · rw [if_neg h2] at h1 ⊢
                by_cases h3 : y < x
                · rw [if_pos h3] at h1 ⊢; rw [h1]; rfl
                · rw [if_neg h3] at h1; exact absurd h1 hz
        · go_wp2_with fail
          go_ret
          refine ⟨?_, rfl⟩
          obtain rfl : k = q.length := by omega
          rw [cmpS_take _ p q he.out (by omega) (by omega), List.drop_length]
          obtain ⟨_, e1⟩ := List.getElem?_eq_some_iff.1 hx
          rw [List.drop_eq_getElem_cons hlt]; rfl
    · obtain rfl : k = p.length := by omega
      by_cases hlt' : p.length < q.length
      · go_wp2_with fail
        go_ret
        refine ⟨?_, rfl⟩
        rw [cmpS_take _ p q he.out (by omega) (by omega), List.drop_length, List.drop_eq_getElem_cons hlt']; rfl
      · go_wp2_with fail
        go_ret
        refine ⟨?_, rfl⟩
        rw [cmpS_take _ p q he.out (by omega) (by omega), List.drop_length, List.drop_of_length_le (by omega)]; rfl
theorem heap_putRow {α : Type} [Inhabited α] (enc : α → Value) (w : World) (n blk off : Nat) (d : Array α) {b : Nat} (h : b ≠ blk) : (Sort.putRow enc (Sort.ahead w n) blk off d).heap[b]? = w.heap[b]? := by
  unfold Sort.putRow Sort.mapBlock Sort.ahead
  simp only [Array.getElem?_modify]
  rw [if_neg (Ne.symm h)]
theorem reverse_any {w0 w : World} {v : Value} {l : List Int} (h : RowP w (fun g => w0.heap.size ≤ g) 3 1 v l.length (l.map (Value.int .i64))) (hx : Ext w0 w) (hl : l.length ≤ 60000) :
    Calls Tryz.prog 124 #[v] w (fun e w' => e = .returned (.tuple #[]) ∧ Ext w0 w' ∧ RowRd w' 1 v l.length (l.reverse.map (Value.int .i64)) ∧ ∀ y, v.ownBlock = some y → l = [] ∨ w0.heap.size ≤ y) := by
  rcases h.2 with ⟨h0, a, rfl⟩ | ⟨g, cap, cur, rfl, h2, h3, h4, h5, h6, h7⟩
  · have he : l = [] := List.eq_nil_of_length_eq_zero h0
    subst he
    refine (Any.slices_Reverse_int_empty laysRev a 0 w).mono ?_
    rintro e w' ⟨rfl, rfl⟩
    exact ⟨rfl, hx, ⟨rfl, a, 0, rfl, Nat.le_refl _, fun _ => ⟨rfl, rfl⟩, fun a' _ j x hj => by simp at hj⟩, fun y _ => .inl rfl⟩
  · have cell : ∀ (j : Nat) (hj : j < l.length), w.cell? ⟨g, j, none⟩ = some (.int .i64 l[j]) := fun j hj => by
      refine cellOf h3 ?_
      have e : (cur.toList.take (l.length * 1))[j]? = some (Value.int .i64 l[j]) := by rw [h7, List.getElem?_map, List.getElem?_eq_getElem hj]; rfl
      rw [List.getElem?_take_of_lt (by omega)] at e
      simpa using e
    have hH : Sort.Holds (Value.int .i64) w g 0 l.toArray := fun j hj => by
      have hj' : j < l.length := by simpa using hj
      refine ⟨?_, ?_⟩
      · rw [Nat.zero_add, cell j hj']; simp [hj']
      · exact freeOf h3 _
    refine (Any.slices_Reverse_int laysRev g 0 cap l w hH (by omega)).mono ?_
    rintro e w' ⟨rfl, n, rfl⟩
    have hH2 : Sort.Holds (Value.int .i64) (Sort.putRow (Value.int .i64) (Sort.ahead w n) g 0 l.reverse.toArray) g 0 l.reverse.toArray := Sort.holds_putRow _ _ _ _ l.toArray _ hH (by simp)
    refine ⟨rfl, Ext.heapSame hx rfl rfl rfl ?_ fun b hb => heap_putRow _ _ _ _ _ _ (by omega), ?_, fun y hy => .inr (by cases hy; exact h2)⟩
    · simp [Sort.ahead]
    · refine ⟨by simp, _, cap, rfl, h4, (fun h => by cases h), fun a ha j x hj => ?_⟩
      cases ha
      have hjl : j < l.reverse.length := by have := (List.getElem?_eq_some_iff.1 hj).1; simpa using this
      have h8 := (hH2 j (by simpa using hjl)).1
      rw [Addr.add_lit, h8]
      rw [List.getElem?_map, List.getElem?_eq_getElem hjl] at hj
      injection hj with hj
      rw [← hj]
      have e : l.reverse.toArray[j]! = l.reverse[j] := by
        have h9 : j < l.reverse.toArray.size := by simpa using hjl
        rw [getElem!_pos l.reverse.toArray j h9]; simp
      rw [e]
def PathIs (l : List Int) (w : World) (e : Ending) (w' : World) : Prop := ∃ v, e = .returned v ∧ RowRd w' 1 v l.length (l.map (Value.int .i64)) ∧ Ext w w' ∧ ∀ y, v.ownBlock = some y → l = [] ∨ w.heap.size ≤ y
theorem WF.path_41 {T : Tr} {d : Nat → Nat} (hw : WF T d) (id : Int) : (T.pathOf id).length ≤ 41 := Nat.le_trans (hw.path_len id) (hw.rank_le id)
theorem Path_any {w : World} {tb : Nat} {T : Tr} (hT : TAt w tb T) {d : Nat → Nat} (hw : WF T d) (id : Int) : Calls Tryz.prog 67 #[.pointer (some ⟨tb, 0, none⟩), .int .i64 id] w (PathIs (T.pathOf id) w) := by
  go_enter Tryz.func67, Tryz.ntmps67
  go_wp2_with fail
  go_loopw [1, 5] (fun s v wr => ∃ (x : Int) (xs : List Int), s = .int .i64 x ∧ Ext w wr ∧ RowP wr (fun g => w.heap.size ≤ g) 3 1 v xs.length (xs.map (Value.int .i64)) ∧ Hid (T.pathOf x ++ xs.reverse = T.pathOf id)) (fun s _ _ => T.rank d (intOf s))
  case atStart => exact ⟨id, [], rfl, Ext.refl _, ⟨rfl, .inl ⟨rfl, none, rfl⟩⟩, qh (by simp)⟩
  case round =>
    obtain ⟨x, xs, rfl, hx, hrow, hr⟩ := hrel
    have hlen : xs.length ≤ 41 := by
      have h1 := hw.path_41 id
      have h2 := congrArg List.length hr.out
      simp at h2
      omega
    by_cases hu : 0 ≤ T.up x
    · obtain ⟨j, hj1, _⟩ := hw.idx_kid hu
      obtain ⟨p, hp⟩ : ∃ p, T.up x = p := ⟨_, rfl⟩
      have hst := hw.path_step x
      rw [if_pos hu, hp, hj1] at hst
      have hrk := hw.rank_up hu
      rw [hp] at hu hrk
      have HST := qh hst
      have HP := qh hp
      have HJ := qh hj1
      have HROW := qh hrow
      have HRK := qh hrk
      obtain ⟨al, cl, rfl, hcl⟩ := hrow.len_of'
      clear hst hp hj1 hrow hrk
      go_wp2_with fail
      refine (at_up' (hT.ext hx) x HP.out).mono ?_
      rintro e w1 ⟨rfl, hx1⟩
      go_wp2_with fail
      refine (at_idx' (hT.ext (hx.trans hx1)) hw x HJ.out).mono ?_
      rintro e w2 ⟨rfl, hx2⟩
      have xc := (Ext.refl w2).alloc (.cells #[.int .i64 j] 3)
      obtain ⟨i0, hii, hz0, hz1, hz2⟩ := info_parts infoI
      obtain ⟨v', wA, row, hrunA, hrA, hgA, hrowA⟩ := run_append_row (P := Tryz.prog) (w2.alloc (.cells #[.int .i64 j] 3)) 40 40 3 i0 (.int .i64 0) 1 8 Tryz.underlying40 hii hz0 hz1 hz2 rfl (by decide)
        (p := fun g => w.heap.size ≤ g) (RowP.ext HROW.out (hx1.trans (hx2.trans xc))) ⟨w2.heap.size, 0, none⟩ 1 1 [.int .i64 j] rfl (cell_one_new' (cellOf (heap_alloc_new w2 (.cells #[.int .i64 j] 3)) (i := 0) rfl)) (by simp [Value.oneCell']) (by decide) (by unfold maxLen; omega) (by omega)
      have hxA : Ext w wA := (hx.trans (hx1.trans (hx2.trans xc))).grown hgA hrowA
      have hrA' : RowP wA (fun g => w.heap.size ≤ g) 3 1 v' (xs ++ [(j : Int)]).length ((xs ++ [(j : Int)]).map (Value.int .i64)) := by
        have h1 := RowP.imp hrA (q := fun g => w.heap.size ≤ g) fun g _ hg => by
          rcases hg with h | h
          · exact h
          · exact Nat.le_trans (hx.trans (hx1.trans (hx2.trans xc))).size h
        rw [List.length_append, List.map_append]
        exact h1
      have HA := qh hrA'
      have HXA := qh hxA
      have HRUN := qh hrunA
      obtain ⟨a2, c2, ev, hc2⟩ := hrA.len_of'
      subst ev
      clear hrA hgA hrowA hrunA hii hz0 hz1 hz2 xc hxA hrA' hx1 hx2 hx
      go_wp2_with (at_builtin; refine wpList_append_run _ rfl _ _ 40 rfl _ _ rfl rfl _ _ HRUN.out ?_)
      refine (at_up' (hT.ext HXA.out) x HP.out).mono ?_
      rintro e w3 ⟨rfl, hx3⟩
      go_wp2_with fail
      go_roundw
      case rel =>
        refine ⟨p, xs ++ [(j : Int)], rfl, HXA.out.trans hx3, RowP.ext HA.out hx3, qh ?_⟩
        rw [← hr.out, HST.out]; simp
      case measure => have := HRK.out; simp [intOf]; omega
    · have hst := hw.path_step x
      rw [if_neg hu] at hst
      have hum := hw.up_neg hu
      have HUM := qh hum
      have HPE := qh (show T.pathOf id = xs.reverse by rw [← hr.out, hst]; rfl)
      have HROW := qh hrow
      obtain ⟨al, cl, rfl, hcl⟩ := hrow.len_of'
      clear hst hum hu hrow
      go_wp2_with fail
      refine (at_up' (hT.ext hx) x HUM.out).mono ?_
      rintro e w1 ⟨rfl, hx1⟩
      go_wp2_with fail
      refine (reverse_any (RowP.ext HROW.out hx1) (hx.trans hx1) (by omega)).mono ?_
      rintro e w2 ⟨rfl, hx2, hr2, hob⟩
      have HR2 := qh hr2
      clear hr2
      go_wp2_with fail
      go_ret
      refine ⟨_, rfl, ?_, hx2, fun y hy => (hob y hy).imp (fun h => by rw [HPE.out, h]; rfl) fun h => h⟩
      rw [HPE.out, List.length_reverse]
      exact HR2.out
def Tr.cmpOk (T : Tr) (an aat bn bat : Int) : Bool := T.may an aat && T.may bn bat && decide (T.rootOf an = T.rootOf bn)
def Tr.cmp (T : Tr) (an aat bn bat : Int) : Int := if T.cmpOk an aat bn bat then cmpL (rowL (T.pathOf an) aat) (rowL (T.pathOf bn) bat) else 0
structure MayIs (T : Tr) (x y : Int) (b : Bool) : Prop where
  out : T.may x y = b
structure RootIs (T : Tr) (x r : Int) : Prop where
  out : T.rootOf x = r
section
variable {w : World} {tb : Nat} {T : Tr} {d : Nat → Nat}
theorem at_may (h : TAt w tb T) (hw : WF T d) (hA : AttrsOk T) {x y : Int} {b : Bool} (m : MayIs T x y b) : Calls Tryz.prog 13 #[.pointer (some ⟨tb, 0, none⟩), .agg #[.int .i64 x, .int .i64 y]] w (RVal (.bool b) w) := m.out ▸ May_any h hw hA x y
theorem at_root (h : TAt w tb T) (hw : WF T d) {x r : Int} (m : RootIs T x r) : Calls Tryz.prog 63 #[.pointer (some ⟨tb, 0, none⟩), .int .i64 x] w (RVal (.int .i64 r) w) := m.out ▸ root_any h hw x
theorem may_get (T : Tr) {x y : Int} (h : T.may x y = true) : ∃ nd, T.get? x = some nd := by
  unfold Tr.may Tr.lengthOf Tr.tagOf at h
  cases hg : T.get? x with
  | none => rw [hg] at h; simp at h; omega
  | some nd => exact ⟨nd, rfl⟩
end

theorem Cmp_no1 {w : World} {tb : Nat} {T : Tr} (hT : TAt w tb T) {d : Nat → Nat} (hw : WF T d) (hA : AttrsOk T) (an aat bn bat : Int) (MA : MayIs T an aat false) : Calls Tryz.prog 20 #[.pointer (some ⟨tb, 0, none⟩), .agg #[.int .i64 an, .int .i64 aat], .agg #[.int .i64 bn, .int .i64 bat]] w (RTwo (.int .i64 0) (.bool false) w) := by
  have MB : True := trivial
  have RA : True := trivial
  have RB : True := trivial
  have hx1 := ((Ext.refl w).alloc (.cells #[.int .i64 an, .int .i64 aat] 43)).alloc (.cells #[.int .i64 bn, .int .i64 bat] 43)
  have ha := (Two.new w (.int .i64 an) (.int .i64 aat) 43).ext ((Ext.refl _).alloc (.cells #[.int .i64 bn, .int .i64 bat] 43))
  have hb := Two.new (w.alloc (.cells #[.int .i64 an, .int .i64 aat] 43)) (.int .i64 bn) (.int .i64 bat) 43
  rw [show (w.alloc (.cells #[.int .i64 an, .int .i64 aat] 43)).heap.size = w.heap.size + 1 by simp] at hb
  go_enter Tryz.func20, Tryz.ntmps20
  go_upto_region 1 with fail
  obtain ⟨wb, hwb⟩ : ∃ wb : World, wb = (w.alloc (.cells #[.int .i64 an, .int .i64 aat] 43)).alloc (.cells #[.int .i64 bn, .int .i64 bat] 43) := ⟨_, rfl⟩
  rw [← hwb] at hx1 ha hb ⊢
  clear hwb
  obtain ⟨c0, c1, _, _⟩ := ha
  obtain ⟨c2, c3, _, _⟩ := hb
  have c0' := fun u : ExtOf wb => u.ext.cell c0
  have c1' := fun u : ExtOf wb => u.ext.cell c1
  have c2' := fun u : ExtOf wb => u.ext.cell c2
  have c3' := fun u : ExtOf wb => u.ext.cell c3
  refine wp_region_ext (by kernel_rfl) (by kernel_rfl) ?_
  repeat (go_big_quiet_step (first
    | (go_at_call 13; exact inExt (at_may (hT.ext (hx1.trans (ExtOf.ext _))) hw hA (by first | exact MA | exact MB)))
    | (go_at_call 63; exact inExt (at_root (hT.ext (hx1.trans (ExtOf.ext _))) hw (by first | exact RA | exact RB)))))
  refine wpQuiet_nil ?_
  rintro _ ⟨u, rfl⟩
  clear c0' c1' c2' c3'
  replace c0 := u.ext.cell c0
  replace c1 := u.ext.cell c1
  replace c2 := u.ext.cell c2
  replace c3 := u.ext.cell c3
  replace hx1 := hx1.trans u.ext
  go_wp2_with fail
  go_ret2
  exact ⟨rfl, hx1⟩

theorem Cmp_no2 {w : World} {tb : Nat} {T : Tr} (hT : TAt w tb T) {d : Nat → Nat} (hw : WF T d) (hA : AttrsOk T) (an aat bn bat : Int) (MA : MayIs T an aat true) (MB : MayIs T bn bat false) : Calls Tryz.prog 20 #[.pointer (some ⟨tb, 0, none⟩), .agg #[.int .i64 an, .int .i64 aat], .agg #[.int .i64 bn, .int .i64 bat]] w (RTwo (.int .i64 0) (.bool false) w) := by
  have RA : True := trivial
  have RB : True := trivial
  have hx1 := ((Ext.refl w).alloc (.cells #[.int .i64 an, .int .i64 aat] 43)).alloc (.cells #[.int .i64 bn, .int .i64 bat] 43)
  have ha := (Two.new w (.int .i64 an) (.int .i64 aat) 43).ext ((Ext.refl _).alloc (.cells #[.int .i64 bn, .int .i64 bat] 43))
  have hb := Two.new (w.alloc (.cells #[.int .i64 an, .int .i64 aat] 43)) (.int .i64 bn) (.int .i64 bat) 43
  rw [show (w.alloc (.cells #[.int .i64 an, .int .i64 aat] 43)).heap.size = w.heap.size + 1 by simp] at hb
  go_enter Tryz.func20, Tryz.ntmps20
  go_upto_region 1 with fail
  obtain ⟨wb, hwb⟩ : ∃ wb : World, wb = (w.alloc (.cells #[.int .i64 an, .int .i64 aat] 43)).alloc (.cells #[.int .i64 bn, .int .i64 bat] 43) := ⟨_, rfl⟩
  rw [← hwb] at hx1 ha hb ⊢
  clear hwb
  obtain ⟨c0, c1, _, _⟩ := ha
  obtain ⟨c2, c3, _, _⟩ := hb
  have c0' := fun u : ExtOf wb => u.ext.cell c0
  have c1' := fun u : ExtOf wb => u.ext.cell c1
  have c2' := fun u : ExtOf wb => u.ext.cell c2
  have c3' := fun u : ExtOf wb => u.ext.cell c3
  refine wp_region_ext (by kernel_rfl) (by kernel_rfl) ?_
  repeat (go_big_quiet_step (first
    | (go_at_call 13; exact inExt (at_may (hT.ext (hx1.trans (ExtOf.ext _))) hw hA (by first | exact MA | exact MB)))
    | (go_at_call 63; exact inExt (at_root (hT.ext (hx1.trans (ExtOf.ext _))) hw (by first | exact RA | exact RB)))))
  refine wpQuiet_nil ?_
  rintro _ ⟨u, rfl⟩
  clear c0' c1' c2' c3'
  replace c0 := u.ext.cell c0
  replace c1 := u.ext.cell c1
  replace c2 := u.ext.cell c2
  replace c3 := u.ext.cell c3
  replace hx1 := hx1.trans u.ext
  go_wp2_with fail
  go_ret2
  exact ⟨rfl, hx1⟩

theorem Cmp_no3 {w : World} {tb : Nat} {T : Tr} (hT : TAt w tb T) {d : Nat → Nat} (hw : WF T d) (hA : AttrsOk T) (an aat bn bat : Int) (MA : MayIs T an aat true) (MB : MayIs T bn bat true) {ra rb : Int} (RA : RootIs T an ra) (RB : RootIs T bn rb) (hne : ra ≠ rb) : Calls Tryz.prog 20 #[.pointer (some ⟨tb, 0, none⟩), .agg #[.int .i64 an, .int .i64 aat], .agg #[.int .i64 bn, .int .i64 bat]] w (RTwo (.int .i64 0) (.bool false) w) := by
  have hx1 := ((Ext.refl w).alloc (.cells #[.int .i64 an, .int .i64 aat] 43)).alloc (.cells #[.int .i64 bn, .int .i64 bat] 43)
  have ha := (Two.new w (.int .i64 an) (.int .i64 aat) 43).ext ((Ext.refl _).alloc (.cells #[.int .i64 bn, .int .i64 bat] 43))
  have hb := Two.new (w.alloc (.cells #[.int .i64 an, .int .i64 aat] 43)) (.int .i64 bn) (.int .i64 bat) 43
  rw [show (w.alloc (.cells #[.int .i64 an, .int .i64 aat] 43)).heap.size = w.heap.size + 1 by simp] at hb
  go_enter Tryz.func20, Tryz.ntmps20
  go_upto_region 1 with fail
  obtain ⟨wb, hwb⟩ : ∃ wb : World, wb = (w.alloc (.cells #[.int .i64 an, .int .i64 aat] 43)).alloc (.cells #[.int .i64 bn, .int .i64 bat] 43) := ⟨_, rfl⟩
  rw [← hwb] at hx1 ha hb ⊢
  clear hwb
  obtain ⟨c0, c1, _, _⟩ := ha
  obtain ⟨c2, c3, _, _⟩ := hb
  have c0' := fun u : ExtOf wb => u.ext.cell c0
  have c1' := fun u : ExtOf wb => u.ext.cell c1
  have c2' := fun u : ExtOf wb => u.ext.cell c2
  have c3' := fun u : ExtOf wb => u.ext.cell c3
  refine wp_region_ext (by kernel_rfl) (by kernel_rfl) ?_
  repeat (go_big_quiet_step (first
    | (go_at_call 13; exact inExt (at_may (hT.ext (hx1.trans (ExtOf.ext _))) hw hA (by first | exact MA | exact MB)))
    | (go_at_call 63; exact inExt (at_root (hT.ext (hx1.trans (ExtOf.ext _))) hw (by first | exact RA | exact RB)))))
  refine wpQuiet_nil ?_
  rintro _ ⟨u, rfl⟩
  clear c0' c1' c2' c3'
  replace c0 := u.ext.cell c0
  replace c1 := u.ext.cell c1
  replace c2 := u.ext.cell c2
  replace c3 := u.ext.cell c3
  replace hx1 := hx1.trans u.ext
  go_wp2_with fail
  go_ret2
  exact ⟨rfl, hx1⟩

theorem Cmp_same {w : World} {tb : Nat} {T : Tr} (hT : TAt w tb T) {d : Nat → Nat} (hw : WF T d) (hA : AttrsOk T) (an aat bat : Int) (MA : MayIs T an aat true) (MB : MayIs T an bat true) {ra : Int} (RA : RootIs T an ra) (RB : RootIs T an ra) {z : Int} (hz : cmpI aat bat = z) : Calls Tryz.prog 20 #[.pointer (some ⟨tb, 0, none⟩), .agg #[.int .i64 an, .int .i64 aat], .agg #[.int .i64 an, .int .i64 bat]] w (RTwo (.int .i64 z) (.bool true) w) := by
  have HZ := qh hz
  clear hz
  have hx1 := ((Ext.refl w).alloc (.cells #[.int .i64 an, .int .i64 aat] 43)).alloc (.cells #[.int .i64 an, .int .i64 bat] 43)
  have ha := (Two.new w (.int .i64 an) (.int .i64 aat) 43).ext ((Ext.refl _).alloc (.cells #[.int .i64 an, .int .i64 bat] 43))
  have hb := Two.new (w.alloc (.cells #[.int .i64 an, .int .i64 aat] 43)) (.int .i64 an) (.int .i64 bat) 43
  rw [show (w.alloc (.cells #[.int .i64 an, .int .i64 aat] 43)).heap.size = w.heap.size + 1 by simp] at hb
  go_enter Tryz.func20, Tryz.ntmps20
  go_upto_region 1 with fail
  obtain ⟨wb, hwb⟩ : ∃ wb : World, wb = (w.alloc (.cells #[.int .i64 an, .int .i64 aat] 43)).alloc (.cells #[.int .i64 an, .int .i64 bat] 43) := ⟨_, rfl⟩
  rw [← hwb] at hx1 ha hb ⊢
  clear hwb
  obtain ⟨c0, c1, _, _⟩ := ha
  obtain ⟨c2, c3, _, _⟩ := hb
  have c0' := fun u : ExtOf wb => u.ext.cell c0
  have c1' := fun u : ExtOf wb => u.ext.cell c1
  have c2' := fun u : ExtOf wb => u.ext.cell c2
  have c3' := fun u : ExtOf wb => u.ext.cell c3
  refine wp_region_ext (by kernel_rfl) (by kernel_rfl) ?_
  repeat (go_big_quiet_step (first
    | (go_at_call 13; exact inExt (at_may (hT.ext (hx1.trans (ExtOf.ext _))) hw hA (by first | exact MA | exact MB)))
    | (go_at_call 63; exact inExt (at_root (hT.ext (hx1.trans (ExtOf.ext _))) hw (by first | exact RA | exact RB)))))
  refine wpQuiet_nil ?_
  rintro _ ⟨u, rfl⟩
  clear c0' c1' c2' c3'
  replace c0 := u.ext.cell c0
  replace c1 := u.ext.cell c1
  replace c2 := u.ext.cell c2
  replace c3 := u.ext.cell c3
  replace hx1 := hx1.trans u.ext
  go_wp2_with (go_at_call 64; refine (cmpI_any aat bat _).mono ?_; rintro e w' ⟨rfl, rfl⟩; rw [HZ.out])
  go_ret2
  exact ⟨rfl, hx1⟩

structure WinIs (T : Tr) (x y : Int) (b : Bool) : Prop where
  out : T.win x y = b
theorem at_win {w : World} {tb : Nat} {T : Tr} {d : Nat → Nat} (h : TAt w tb T) (hw : WF T d) {x y : Int} {b : Bool} (m : WinIs T x y b) : Calls Tryz.prog 59 #[.pointer (some ⟨tb, 0, none⟩), .int .i64 x, .int .i64 y] w (RVal (.bool b) w) := m.out ▸ Within_any h hw x y
theorem at_kid {w : World} {tb : Nat} {T : Tr} {d : Nat → Nat} (h : TAt w tb T) (hw : WF T d) {x y k : Int} (m : WinIs T x y true) (hne : x ≠ y) (hk : T.kidTo x y = k) : Calls Tryz.prog 65 #[.pointer (some ⟨tb, 0, none⟩), .int .i64 x, .int .i64 y] w (RVal (.int .i64 k) w) := hk ▸ kid_any h hw x y m.out hne

theorem Cmp_in {w : World} {tb : Nat} {T : Tr} (hT : TAt w tb T) {d : Nat → Nat} (hw : WF T d) (hA : AttrsOk T) (an aat bn bat : Int) (MA : MayIs T an aat true) (MB : MayIs T bn bat true) {ra : Int} (RA : RootIs T an ra) (RB : RootIs T bn ra) (hne : (an == bn) = false) (WB : WinIs T bn an true) {k : Int} {j : Nat} (hk : T.kidTo bn an = k) (hj : T.idx k = (j : Int)) (hj2 : j ≤ 2000) {z : Int} (hz : (if aat ≤ j then (-1 : Int) else 1) = z) : Calls Tryz.prog 20 #[.pointer (some ⟨tb, 0, none⟩), .agg #[.int .i64 an, .int .i64 aat], .agg #[.int .i64 bn, .int .i64 bat]] w (RTwo (.int .i64 z) (.bool true) w) := by
  have HZ := qh hz
  clear hz
  have HK := qh hk
  have HJ := qh hj
  have HNE := qh (show bn ≠ an by intro e; subst e; simp at hne)
  clear hk hj
  have hx1 := ((Ext.refl w).alloc (.cells #[.int .i64 an, .int .i64 aat] 43)).alloc (.cells #[.int .i64 bn, .int .i64 bat] 43)
  have ha := (Two.new w (.int .i64 an) (.int .i64 aat) 43).ext ((Ext.refl _).alloc (.cells #[.int .i64 bn, .int .i64 bat] 43))
  have hb := Two.new (w.alloc (.cells #[.int .i64 an, .int .i64 aat] 43)) (.int .i64 bn) (.int .i64 bat) 43
  rw [show (w.alloc (.cells #[.int .i64 an, .int .i64 aat] 43)).heap.size = w.heap.size + 1 by simp] at hb
  go_enter Tryz.func20, Tryz.ntmps20
  go_upto_region 1 with fail
  obtain ⟨wb, hwb⟩ : ∃ wb : World, wb = (w.alloc (.cells #[.int .i64 an, .int .i64 aat] 43)).alloc (.cells #[.int .i64 bn, .int .i64 bat] 43) := ⟨_, rfl⟩
  rw [← hwb] at hx1 ha hb ⊢
  clear hwb
  obtain ⟨c0, c1, _, _⟩ := ha
  obtain ⟨c2, c3, _, _⟩ := hb
  have c0' := fun u : ExtOf wb => u.ext.cell c0
  have c1' := fun u : ExtOf wb => u.ext.cell c1
  have c2' := fun u : ExtOf wb => u.ext.cell c2
  have c3' := fun u : ExtOf wb => u.ext.cell c3
  refine wp_region_ext (by kernel_rfl) (by kernel_rfl) ?_
  repeat (go_big_quiet_step (first
    | (go_at_call 13; exact inExt (at_may (hT.ext (hx1.trans (ExtOf.ext _))) hw hA (by first | exact MA | exact MB)))
    | (go_at_call 63; exact inExt (at_root (hT.ext (hx1.trans (ExtOf.ext _))) hw (by first | exact RA | exact RB)))))
  refine wpQuiet_nil ?_
  rintro _ ⟨u, rfl⟩
  clear c0' c1' c2' c3'
  replace c0 := u.ext.cell c0
  replace c1 := u.ext.cell c1
  replace c2 := u.ext.cell c2
  replace c3 := u.ext.cell c3
  replace hx1 := hx1.trans u.ext
  go_wp2_with fail
  refine (at_win (hT.ext hx1) hw WB).mono ?_
  rintro e w2 ⟨rfl, hx2⟩
  replace c0 := hx2.cell c0
  replace c1 := hx2.cell c1
  replace c2 := hx2.cell c2
  replace c3 := hx2.cell c3
  replace hx2 := hx1.trans hx2
  go_upto_region 6 with fail
  have c0' := fun u : ExtOf w2 => u.ext.cell c0
  have c1' := fun u : ExtOf w2 => u.ext.cell c1
  have c2' := fun u : ExtOf w2 => u.ext.cell c2
  have c3' := fun u : ExtOf w2 => u.ext.cell c3
  refine wp_region_ext (by kernel_rfl) (by kernel_rfl) ?_
  repeat (go_big_quiet_step (first
    | (go_at_call 65; exact inExt (at_kid (hT.ext (hx2.trans (ExtOf.ext _))) hw WB HNE.out HK.out))
    | (go_at_call 54; exact inExt (at_idx' (hT.ext (hx2.trans (ExtOf.ext _))) hw k HJ.out))))
  refine wpQuiet_nil ?_
  rintro _ ⟨u2, rfl⟩
  clear c0' c1' c2' c3'
  by_cases hle : aat ≤ j
  · have e := HZ.out
    rw [if_pos hle] at e
    subst e
    go_wp2_with fail
    go_ret2
    exact ⟨rfl, hx2.trans u2.ext⟩
  · have e := HZ.out
    rw [if_neg hle] at e
    subst e
    go_wp2_with fail
    go_ret2
    exact ⟨rfl, hx2.trans u2.ext⟩

theorem Cmp_out {w : World} {tb : Nat} {T : Tr} (hT : TAt w tb T) {d : Nat → Nat} (hw : WF T d) (hA : AttrsOk T) (an aat bn bat : Int) (MA : MayIs T an aat true) (MB : MayIs T bn bat true) {ra : Int} (RA : RootIs T an ra) (RB : RootIs T bn ra) (hne : (an == bn) = false) (WB : WinIs T bn an false) (WA : WinIs T an bn true) {c : Int} (hc1 : -1 ≤ c) (hc2 : c ≤ 1) (hrec : ∀ u, Ext w u → Calls Tryz.prog 20 #[.pointer (some ⟨tb, 0, none⟩), .agg #[.int .i64 bn, .int .i64 bat], .agg #[.int .i64 an, .int .i64 aat]] u (RTwo (.int .i64 c) (.bool true) u)) : Calls Tryz.prog 20 #[.pointer (some ⟨tb, 0, none⟩), .agg #[.int .i64 an, .int .i64 aat], .agg #[.int .i64 bn, .int .i64 bat]] w (RTwo (.int .i64 (-c)) (.bool true) w) := by
  have HREC := qh hrec
  clear hrec
  have hneg : IntKind.i64.wrap (-c) = -c := IntWalk.i64_in _ (by omega)
  have hx1 := ((Ext.refl w).alloc (.cells #[.int .i64 an, .int .i64 aat] 43)).alloc (.cells #[.int .i64 bn, .int .i64 bat] 43)
  have ha := (Two.new w (.int .i64 an) (.int .i64 aat) 43).ext ((Ext.refl _).alloc (.cells #[.int .i64 bn, .int .i64 bat] 43))
  have hb := Two.new (w.alloc (.cells #[.int .i64 an, .int .i64 aat] 43)) (.int .i64 bn) (.int .i64 bat) 43
  rw [show (w.alloc (.cells #[.int .i64 an, .int .i64 aat] 43)).heap.size = w.heap.size + 1 by simp] at hb
  go_enter Tryz.func20, Tryz.ntmps20
  go_upto_region 1 with fail
  obtain ⟨wb, hwb⟩ : ∃ wb : World, wb = (w.alloc (.cells #[.int .i64 an, .int .i64 aat] 43)).alloc (.cells #[.int .i64 bn, .int .i64 bat] 43) := ⟨_, rfl⟩
  rw [← hwb] at hx1 ha hb ⊢
  clear hwb
  obtain ⟨c0, c1, _, _⟩ := ha
  obtain ⟨c2, c3, _, _⟩ := hb
  have c0' := fun u : ExtOf wb => u.ext.cell c0
  have c1' := fun u : ExtOf wb => u.ext.cell c1
  have c2' := fun u : ExtOf wb => u.ext.cell c2
  have c3' := fun u : ExtOf wb => u.ext.cell c3
  refine wp_region_ext (by kernel_rfl) (by kernel_rfl) ?_
  repeat (go_big_quiet_step (first
    | (go_at_call 13; exact inExt (at_may (hT.ext (hx1.trans (ExtOf.ext _))) hw hA (by first | exact MA | exact MB)))
    | (go_at_call 63; exact inExt (at_root (hT.ext (hx1.trans (ExtOf.ext _))) hw (by first | exact RA | exact RB)))))
  refine wpQuiet_nil ?_
  rintro _ ⟨u, rfl⟩
  clear c0' c1' c2' c3'
  replace c0 := u.ext.cell c0
  replace c1 := u.ext.cell c1
  replace c2 := u.ext.cell c2
  replace c3 := u.ext.cell c3
  replace hx1 := hx1.trans u.ext
  go_wp2_with fail
  refine (at_win (hT.ext hx1) hw WB).mono ?_
  rintro e w2 ⟨rfl, hx2⟩
  replace c0 := hx2.cell c0
  replace c1 := hx2.cell c1
  replace c2 := hx2.cell c2
  replace c3 := hx2.cell c3
  replace hx2 := hx1.trans hx2
  go_wp2_with fail
  refine (at_win (hT.ext hx2) hw WA).mono ?_
  rintro e w3 ⟨rfl, hx3⟩
  replace c0 := hx3.cell c0
  replace c1 := hx3.cell c1
  replace c2 := hx3.cell c2
  replace c3 := hx3.cell c3
  replace hx3 := hx2.trans hx3
  go_wp2_with fail
  refine (HREC.out _ hx3).mono ?_
  rintro e w4 ⟨rfl, hx4⟩
  go_wp2_with fail
  go_ret2
  exact ⟨rfl, hx3.trans hx4⟩

structure PathTo (T : Tr) (x : Int) (p : List Int) : Prop where
  out : T.pathOf x = p
theorem at_path {w : World} {tb : Nat} {T : Tr} {d : Nat → Nat} (h : TAt w tb T) (hw : WF T d) {x : Int} {p : List Int} (m : PathTo T x p) : Calls Tryz.prog 67 #[.pointer (some ⟨tb, 0, none⟩), .int .i64 x] w (PathIs p w) := m.out ▸ Path_any h hw x

theorem Cmp_apart {w : World} {tb : Nat} {T : Tr} (hT : TAt w tb T) {d : Nat → Nat} (hw : WF T d) (hA : AttrsOk T) (an aat bn bat : Int) (MA : MayIs T an aat true) (MB : MayIs T bn bat true) {ra : Int} (RA : RootIs T an ra) (RB : RootIs T bn ra) (hne : (an == bn) = false) (WB : WinIs T bn an false) (WA : WinIs T an bn false) {p q : List Int} (PA : PathTo T an p) (PB : PathTo T bn q) {z : Int} (hz : cmpS p q = z) : Calls Tryz.prog 20 #[.pointer (some ⟨tb, 0, none⟩), .agg #[.int .i64 an, .int .i64 aat], .agg #[.int .i64 bn, .int .i64 bat]] w (RTwo (.int .i64 z) (.bool true) w) := by
  have hp := hw.path_41 an
  have hq := hw.path_41 bn
  rw [PA.out] at hp
  rw [PB.out] at hq
  replace hp : p.length ≤ 60000 := by omega
  replace hq : q.length ≤ 60000 := by omega
  have HZ := qh hz
  clear hz
  have hx1 := ((Ext.refl w).alloc (.cells #[.int .i64 an, .int .i64 aat] 43)).alloc (.cells #[.int .i64 bn, .int .i64 bat] 43)
  have ha := (Two.new w (.int .i64 an) (.int .i64 aat) 43).ext ((Ext.refl _).alloc (.cells #[.int .i64 bn, .int .i64 bat] 43))
  have hb := Two.new (w.alloc (.cells #[.int .i64 an, .int .i64 aat] 43)) (.int .i64 bn) (.int .i64 bat) 43
  rw [show (w.alloc (.cells #[.int .i64 an, .int .i64 aat] 43)).heap.size = w.heap.size + 1 by simp] at hb
  go_enter Tryz.func20, Tryz.ntmps20
  go_upto_region 1 with fail
  obtain ⟨wb, hwb⟩ : ∃ wb : World, wb = (w.alloc (.cells #[.int .i64 an, .int .i64 aat] 43)).alloc (.cells #[.int .i64 bn, .int .i64 bat] 43) := ⟨_, rfl⟩
  rw [← hwb] at hx1 ha hb ⊢
  clear hwb
  obtain ⟨c0, c1, _, _⟩ := ha
  obtain ⟨c2, c3, _, _⟩ := hb
  have c0' := fun u : ExtOf wb => u.ext.cell c0
  have c1' := fun u : ExtOf wb => u.ext.cell c1
  have c2' := fun u : ExtOf wb => u.ext.cell c2
  have c3' := fun u : ExtOf wb => u.ext.cell c3
  refine wp_region_ext (by kernel_rfl) (by kernel_rfl) ?_
  repeat (go_big_quiet_step (first
    | (go_at_call 13; exact inExt (at_may (hT.ext (hx1.trans (ExtOf.ext _))) hw hA (by first | exact MA | exact MB)))
    | (go_at_call 63; exact inExt (at_root (hT.ext (hx1.trans (ExtOf.ext _))) hw (by first | exact RA | exact RB)))))
  refine wpQuiet_nil ?_
  rintro _ ⟨u, rfl⟩
  clear c0' c1' c2' c3'
  replace c0 := u.ext.cell c0
  replace c1 := u.ext.cell c1
  replace c2 := u.ext.cell c2
  replace c3 := u.ext.cell c3
  replace hx1 := hx1.trans u.ext
  go_wp2_with fail
  refine (at_win (hT.ext hx1) hw WB).mono ?_
  rintro e w2 ⟨rfl, hx2⟩
  replace c0 := hx2.cell c0
  replace c1 := hx2.cell c1
  replace c2 := hx2.cell c2
  replace c3 := hx2.cell c3
  replace hx2 := hx1.trans hx2
  go_wp2_with fail
  refine (at_win (hT.ext hx2) hw WA).mono ?_
  rintro e w3 ⟨rfl, hx3⟩
  replace c0 := hx3.cell c0
  replace c1 := hx3.cell c1
  replace c2 := hx3.cell c2
  replace c3 := hx3.cell c3
  replace hx3 := hx2.trans hx3
  go_upto_region 12 with fail
  have HXD := qh (show Ext w w3.drew from hx3.drew)
  have HC := qh (And.intro c0 c2)
  have hk := And.intro c0 c2
  clear hx1 hx2 hx3 c1 c3
  go_region_held3 (fun w' => w'.cell? ⟨w.heap.size, 0, none⟩ = some (.int .i64 an) ∧ w'.cell? ⟨w.heap.size + 1, 0, none⟩ = some (.int .i64 bn))
    (first | exact hkeep | exact hk | go_keep)
    (first
    | (go_at_call 66; refine (cmpS_any HRA.out HRB.out hp hq).mono ?_; rintro e w6 ⟨rfl, rfl⟩; rw [HZ.out]; have hkeep := HC5.out)
    | (go_at_call_of 67 (Value.int IntKind.i64 bn); refine (at_path (hT.ext HX4.out) hw PB).mono ?_; rintro e w5 ⟨vb, rfl, hrb, hx5, _⟩; have hkeep := And.intro (hx5.cell HC4.out.1) (hx5.cell HC4.out.2); have HC5 := qh hkeep; have HRB := qh hrb; have HRA := qh (HRA4.out.ext hx5); have HX5 := qh (HX4.out.trans hx5); clear hrb hx5)
    | (go_at_call_of 67 (Value.int IntKind.i64 an); refine (at_path (hT.ext HXD.out) hw PA).mono ?_; rintro e w4 ⟨va, rfl, hra, hx4, _⟩; have hkeep := And.intro (hx4.cell HC.out.1) (hx4.cell HC.out.2); have HC4 := qh hkeep; have HRA4 := qh hra; have HX4 := qh (HXD.out.trans hx4); clear hra hx4))
  go_wp2_with fail
  go_ret2
  exact ⟨rfl, HX5.out⟩

theorem cmpL_one (x y : List Int) : -1 ≤ cmpL x y ∧ cmpL x y ≤ 1 := by rcases cmpL_range x y with h | h | h <;> omega
theorem Cmp_any {w : World} {tb : Nat} {T : Tr} (hT : TAt w tb T) {d : Nat → Nat} (hw : WF T d) (hA : AttrsOk T) (an aat bn bat : Int) : Calls Tryz.prog 20 #[.pointer (some ⟨tb, 0, none⟩), .agg #[.int .i64 an, .int .i64 aat], .agg #[.int .i64 bn, .int .i64 bat]] w (RTwo (.int .i64 (T.cmp an aat bn bat)) (.bool (T.cmpOk an aat bn bat)) w) := by
  cases ha : T.may an aat with
  | false =>
    have e : T.cmpOk an aat bn bat = false := by unfold Tr.cmpOk; rw [ha]; rfl
    have e2 : T.cmp an aat bn bat = 0 := by unfold Tr.cmp; rw [e]; rfl
    rw [e, e2]
    exact Cmp_no1 hT hw hA an aat bn bat ⟨ha⟩
  | true =>
    cases hb : T.may bn bat with
    | false =>
      have e : T.cmpOk an aat bn bat = false := by unfold Tr.cmpOk; rw [ha, hb]; rfl
      have e2 : T.cmp an aat bn bat = 0 := by unfold Tr.cmp; rw [e]; rfl
      rw [e, e2]
      exact Cmp_no2 hT hw hA an aat bn bat ⟨ha⟩ ⟨hb⟩
    | true =>
      by_cases hr : T.rootOf an = T.rootOf bn
      · have e : T.cmpOk an aat bn bat = true := by unfold Tr.cmpOk; rw [ha, hb]; simp [hr]
        have e2 : T.cmp an aat bn bat = cmpL (rowL (T.pathOf an) aat) (rowL (T.pathOf bn) bat) := by unfold Tr.cmp; rw [e]; rfl
        rw [e, e2]
        obtain ⟨ad, hga⟩ := may_get T ha
        obtain ⟨bd, hgb⟩ := may_get T hb
        by_cases hab : an = bn
        · subst hab
          rw [cmp_same]
          exact Cmp_same hT hw hA an aat bat ⟨ha⟩ ⟨hb⟩ ⟨rfl⟩ ⟨rfl⟩ rfl
        · have hne : (an == bn) = false := by simpa using hab
          have hne' : (bn == an) = false := by simpa using Ne.symm hab
          have inn : ∀ (w : World) (hT : TAt w tb T) (an aat bn bat : Int) (ad : Nd), T.get? an = some ad → (∃ bd, T.get? bn = some bd) → T.may an aat = true → T.may bn bat = true → T.rootOf an = T.rootOf bn → (an == bn) = false → T.win bn an = true →
              Calls Tryz.prog 20 #[.pointer (some ⟨tb, 0, none⟩), .agg #[.int .i64 an, .int .i64 aat], .agg #[.int .i64 bn, .int .i64 bat]] w (RTwo (.int .i64 (cmpL (rowL (T.pathOf an) aat) (rowL (T.pathOf bn) bat))) (.bool true) w) := by
            intro w hT an aat bn bat ad hga hgb ha hb hr hne hw1
            have hne2 : bn ≠ an := fun e => by subst e; simp at hne
            obtain ⟨k1, q, k2⟩ := hw.kidTo_path hga bn hgb hw1 hne2
            obtain ⟨j, j1, j2, j3, j4⟩ := hw.idx_kid (id := T.kidTo bn an) (by rw [k1]; exact (Tr.get_lt hga).1)
            rw [k2, cmp_in, j1]
            exact Cmp_in hT hw hA an aat bn bat ⟨ha⟩ ⟨hb⟩ ⟨rfl⟩ ⟨hr.symm⟩ hne ⟨hw1⟩ rfl j1 (by omega) rfl
          cases hw1 : T.win bn an with
          | true => exact inn w hT an aat bn bat ad hga ⟨bd, hgb⟩ ha hb hr hne hw1
          | false =>
            cases hw2 : T.win an bn with
            | true =>
              have h1 := cmpL_one (rowL (T.pathOf bn) bat) (rowL (T.pathOf an) aat)
              have h2 := Cmp_out hT hw hA an aat bn bat ⟨ha⟩ ⟨hb⟩ ⟨rfl⟩ ⟨hr.symm⟩ hne ⟨hw1⟩ ⟨hw2⟩ h1.1 h1.2 fun u hu => inn u (hT.ext hu) bn bat an aat bd hgb ⟨ad, hga⟩ hb ha hr.symm hne' hw2
              rw [cmpL_anti (rowL (T.pathOf bn) bat) (rowL (T.pathOf an) aat)]
              exact h2
            | false =>
              rw [cmp_apart]
              · exact Cmp_apart hT hw hA an aat bn bat ⟨ha⟩ ⟨hb⟩ ⟨rfl⟩ ⟨hr.symm⟩ hne ⟨hw1⟩ ⟨hw2⟩ ⟨rfl⟩ ⟨rfl⟩ rfl
              · rintro ⟨r, hq⟩
                rw [(hw.win_iff hga bn ⟨bd, hgb⟩).2 ⟨r, hq, hr.symm⟩] at hw1; cases hw1
              · rintro ⟨r, hq⟩
                rw [(hw.win_iff hgb an ⟨ad, hga⟩).2 ⟨r, hq, hr⟩] at hw2; cases hw2
      · have e : T.cmpOk an aat bn bat = false := by unfold Tr.cmpOk; rw [ha, hb]; simp [hr]
        have e2 : T.cmp an aat bn bat = 0 := by unfold Tr.cmp; rw [e]; rfl
        rw [e, e2]
        exact Cmp_no3 hT hw hA an aat bn bat ⟨ha⟩ ⟨hb⟩ ⟨rfl⟩ ⟨rfl⟩ hr
end Go.Proofs.YthgnbbbdcebjhaaGreat
