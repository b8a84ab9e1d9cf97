/- what of ZP Z1 Z2 Z3 BA BB BC BD BE BF BG BH BI BJ BK BL BM BN BO BP BQ BR BS BT ZY BV BW BY Z4 CA CB CC CD CE CF ZD CG CI CH is leant on -/
import Derived.Test.YtalaajbajgdglaaGreatDoorLSnh
set_option linter.unusedVariables false
set_option linter.unusedSimpArgs false
set_option maxRecDepth 1000000
set_option maxHeartbeats 8000000
namespace Go.Proofs.YtalaajbajgdglaaGreatDoor
open Go Go.RowKit Go.BigFrame We
theorem PN.look_eq (deep : Int) (m : Ms) (n : PN) : PN.look deep m n = PN.looks (deep + 1) (Ms.one n deep m) n.kids := by cases n; rfl
theorem PN.shorts_mem {l : List PN} (h : PN.shorts l = true) {k : PN} (hk : k ∈ l) : k.short = true := by
  induction l with
  | nil => cases hk
  | cons x r ih =>
    simp only [PN.shorts, Bool.and_eq_true] at h
    rcases List.mem_cons.1 hk with rfl | hk
    · exact h.1
    · exact ih h.2 hk
theorem looks_snoc (deep : Int) : ∀ (l : List PN) (m : Ms) (k : PN), PN.looks deep m (l ++ [k]) = PN.look deep (PN.looks deep m l) k := by
  intro l
  induction l with
  | nil => intro m k; rfl
  | cons x r ih => intro m k; simp only [List.cons_append, PN.looks]; exact ih _ _
theorem looks_take (deep : Int) (m : Ms) (l : List PN) (i : Nat) (k : PN) (h : l[i]? = some k) : PN.looks deep m (l.take (i + 1)) = PN.look deep (PN.looks deep m (l.take i)) k := by
  obtain ⟨hlt, rfl⟩ := List.getElem?_eq_some_iff.1 h
  rw [List.take_succ_eq_append_getElem hlt, looks_snoc]
theorem looks_spec : ∀ (l : List PN), (∀ k ∈ l, ∀ (deep : Int) (m : Ms), (PN.look deep m k).count = m.count + k.size ∧ (PN.look deep m k).height = max m.height (deep + k.high) ∧ ((PN.look deep m k).e = 0 ↔ m.e = 0 ∧ k.ok = true)) →
    ∀ (deep : Int) (m : Ms), (PN.looks deep m l).count = m.count + PN.sizes l ∧ (max (PN.looks deep m l).height (deep - 1)) = max m.height (deep - 1 + PN.highs l) ∧ m.height ≤ (PN.looks deep m l).height ∧ ((PN.looks deep m l).e = 0 ↔ m.e = 0 ∧ PN.oks l = true) := by
  intro l
  induction l with
  | nil => intro _ deep m; simp [PN.looks, PN.sizes, PN.highs, PN.oks]
  | cons k r ih =>
    intro h deep m
    obtain ⟨h1, h2, h3⟩ := h k (by simp) deep m
    obtain ⟨g1, g2, g3, g4⟩ := ih (fun x hx => h x (by simp [hx])) deep (PN.look deep m k)
    simp only [PN.looks, PN.sizes, PN.highs, PN.oks]
    refine ⟨by rw [g1, h1]; push_cast; omega, by omega, by omega, ?_⟩
    rw [g4, h3, Bool.and_eq_true, and_assoc]
theorem look_spec : ∀ (n : PN) (deep : Int) (m : Ms), (PN.look deep m n).count = m.count + n.size ∧ (PN.look deep m n).height = max m.height (deep + n.high) ∧ ((PN.look deep m n).e = 0 ↔ m.e = 0 ∧ n.ok = true) := by
  refine PN.induct _ fun n ih deep m => ?_
  obtain ⟨g1, g2, g3, g4⟩ := looks_spec n.kids ih (deep + 1) (Ms.one n deep m)
  rw [PN.look_eq, PN.size_eq, PN.high_eq, PN.ok_eq]
  have e1 : (Ms.one n deep m).count = m.count + 1 := rfl
  have e2 : (Ms.one n deep m).height = max m.height deep := rfl
  rw [e1] at g1
  rw [e2] at g2 g3
  refine ⟨by rw [g1]; push_cast; omega, by omega, ?_⟩
  rw [g4]
  show (if n.bad then (1 : Int) else if 8192 < (anewB n.text).size ∧ m.e = 0 then 10 else m.e) = 0 ∧ _ ↔ _
  cases hb : n.bad with
  | true => simp
  | false =>
    simp only [Bool.false_eq_true, if_false, Bool.not_false, Bool.true_and, Bool.and_eq_true, decide_eq_true_eq]
    by_cases hl : 8192 < (anewB n.text).size
    · by_cases he : m.e = 0
      · rw [if_pos ⟨hl, he⟩]
        constructor
        · intro h; exact absurd h.1 (by decide)
        · intro h; omega
      · rw [if_neg (fun h => he h.2)]
        constructor
        · intro h; exact absurd h.1 he
        · intro h; exact absurd h.1 he
    · rw [if_neg (fun h => hl h.1)]
      constructor
      · intro h; exact ⟨h.1, by omega, h.2⟩
      · intro h; exact ⟨h.1, h.2.2⟩
theorem high_lt : ∀ n : PN, n.high < n.size := by
  refine PN.induct _ fun n ih => ?_
  rw [PN.high_eq, PN.size_eq]
  have : ∀ l : List PN, (∀ k ∈ l, k.high < k.size) → PN.highs l ≤ PN.sizes l := by
    intro l
    induction l with
    | nil => intro _; simp [PN.highs]
    | cons x r ih2 => intro h; simp only [PN.highs, PN.sizes]; have := h x (by simp); have := ih2 fun k hk => h k (by simp [hk]); omega
  have := this n.kids ih; omega
theorem highs_le (l : List PN) : PN.highs l ≤ PN.sizes l := by
  induction l with
  | nil => simp [PN.highs]
  | cons x r ih => simp only [PN.highs, PN.sizes]; have := high_lt x; omega
theorem one_e (n : PN) (deep : Int) (m : Ms) (h0 : 0 ≤ m.e) (h1 : m.e ≤ 100) : 0 ≤ (Ms.one n deep m).e ∧ (Ms.one n deep m).e ≤ 100 := by
  unfold Ms.one
  simp only
  split
  · omega
  · split <;> omega
theorem looks_e : ∀ (l : List PN), (∀ k ∈ l, ∀ (deep : Int) (m : Ms), 0 ≤ m.e → m.e ≤ 100 → 0 ≤ (PN.look deep m k).e ∧ (PN.look deep m k).e ≤ 100) → ∀ (deep : Int) (m : Ms), 0 ≤ m.e → m.e ≤ 100 → 0 ≤ (PN.looks deep m l).e ∧ (PN.looks deep m l).e ≤ 100 := by
  intro l
  induction l with
  | nil => intro _ deep m h0 h1; exact ⟨h0, h1⟩
  | cons k r ih =>
    intro h deep m h0 h1
    have := h k (by simp) deep m h0 h1
    exact ih (fun x hx => h x (by simp [hx])) deep _ this.1 this.2
theorem look_e : ∀ (n : PN) (deep : Int) (m : Ms), 0 ≤ m.e → m.e ≤ 100 → 0 ≤ (PN.look deep m n).e ∧ (PN.look deep m n).e ≤ 100 := by
  refine PN.induct _ fun n ih deep m h0 h1 => ?_
  rw [PN.look_eq]
  have := one_e n deep m h0 h1
  exact looks_e n.kids ih (deep + 1) _ this.1 this.2
theorem looks_bounds (n : PN) (deep : Int) (m : Ms) (d0 : 0 ≤ deep) (d1 : deep + n.size ≤ 100000) (c0 : 0 ≤ m.count) (c1 : m.count + n.size ≤ 100000) (h0 : 0 ≤ m.height) (h1 : m.height ≤ 100000) (e0 : 0 ≤ m.e) (e1 : m.e ≤ 100) {i : Nat} {k : PN} (hk : n.kids[i]? = some k) :
    deep + 1 + k.size ≤ 100000 ∧ 0 ≤ (PN.looks (deep + 1) (Ms.one n deep m) (n.kids.take i)).count ∧ (PN.looks (deep + 1) (Ms.one n deep m) (n.kids.take i)).count + k.size ≤ 100000 ∧
      0 ≤ (PN.looks (deep + 1) (Ms.one n deep m) (n.kids.take i)).height ∧ (PN.looks (deep + 1) (Ms.one n deep m) (n.kids.take i)).height ≤ 100000 ∧ 0 ≤ (PN.looks (deep + 1) (Ms.one n deep m) (n.kids.take i)).e ∧ (PN.looks (deep + 1) (Ms.one n deep m) (n.kids.take i)).e ≤ 100 := by
  have hs := PN.size_eq n
  have ht := sizes_take_succ hk
  have hh := highs_le (n.kids.take i)
  obtain ⟨g1, g2, g3, g4⟩ := looks_spec (n.kids.take i) (fun k _ => look_spec k) (deep + 1) (Ms.one n deep m)
  have o := one_e n deep m e0 e1
  have oe := looks_e (n.kids.take i) (fun k _ => look_e k) (deep + 1) (Ms.one n deep m) o.1 o.2
  have q1 : (Ms.one n deep m).count = m.count + 1 := rfl
  have q2 : (Ms.one n deep m).height = max m.height deep := rfl
  rw [q1] at g1
  rw [q2] at g2 g3
  refine ⟨by omega, by omega, by omega, by omega, by omega, oe.1, oe.2⟩
theorem bad_attrs {n : PN} (ht : n.tag = 0) (h : 0 < n.attrs.length) : n.bad = true := by
  unfold PN.bad
  rw [if_pos ht]
  cases ha : n.attrs with
  | nil => rw [ha] at h; simp at h
  | cons a b => rfl
theorem bad_kids {n : PN} (ht : n.tag = 0) (h : 0 < n.kids.length) : n.bad = true := by
  unfold PN.bad
  rw [if_pos ht]
  cases ha : n.kids with
  | nil => rw [ha] at h; simp at h
  | cons a b => cases n.attrs <;> rfl
theorem bad_text {n : PN} (ht : n.tag = 0) (h : ¬ 0 < n.attrs.length) (k : ¬ 0 < n.kids.length) : n.bad = false := by
  unfold PN.bad
  rw [if_pos ht, List.eq_nil_of_length_eq_zero (by omega : n.attrs.length = 0), List.eq_nil_of_length_eq_zero (by omega : n.kids.length = 0)]; rfl
theorem bad_tag' {n : PN} (ht : n.tag ≠ 0) (h : ¬ (1 ≤ n.tag ∧ n.tag ≤ 16)) : n.bad = true := by
  unfold PN.bad
  rw [if_neg ht, decide_eq_false h]; rfl
theorem bad_said {n : PN} (ht : n.tag ≠ 0) (h : n.text.size ≠ 0) : n.bad = true := by
  unfold PN.bad
  rw [if_neg ht]
  have : (n.text.size == 0) = false := by simpa using h
  rw [this]; simp
theorem bad_fine {n : PN} (ht : n.tag ≠ 0) (h : 1 ≤ n.tag ∧ n.tag ≤ 16) (k : n.text.size = 0) : n.bad = false := by
  unfold PN.bad
  rw [if_neg ht, decide_eq_true h, k]; rfl
theorem text_none_d {s : ByteArray} (h : s.size = 0) : s = ByteArray.empty := by
  cases s with
  | mk d =>
    have : d.size = 0 := h
    simp at this; subst this; rfl
theorem text_some_d {s : ByteArray} (h : s.size ≠ 0) : s.toList.isEmpty = false := by
  rw [ByteArray.toList_eq]
  cases hd : s.data.toList with
  | nil =>
    exfalso; apply h
    show s.data.size = 0
    rw [← Array.length_toList, hd]; rfl
  | cons a b => rfl
theorem One.far {w : World} {b : Nat} {v : Value} {t : TypeId} (h : One w b v t) {p : Addr} (hp : b ≠ p.block) (u : Value) : One (w.setCell p u) b v t := (heap_setCell_other u hp).trans h
structure Held4 (w : World) (bc bh be bl : Nat) (m : Ms) : Prop where
  c : One w bc (.int .i64 m.count) 3
  h : One w bh (.int .i64 m.height) 3
  e : One w be (.int .i64 m.e) 27
  l : One w bl (.func (.func 78) #[] #[.pointer (some ⟨bc, 0, none⟩), .pointer (some ⟨bh, 0, none⟩), .pointer (some ⟨be, 0, none⟩), .pointer (some ⟨bl, 0, none⟩)]) 124
def LookIs (w0 : World) (bc bh be bl : Nat) (m : Ms) (e : Ending) (w' : World) : Prop := e = .returned (.tuple #[]) ∧ Ext w0 w' ∧ Held4 w' bc bh be bl m
theorem look_any {w0 : World} {bc bh be bl : Nat} (n1 : bc ≠ bh) (n2 : bc ≠ be) (n3 : bc ≠ bl) (n4 : bh ≠ be) (n5 : bh ≠ bl) (n6 : be ≠ bl) (b1 : w0.heap.size ≤ bc) (b2 : w0.heap.size ≤ bh) (b3 : w0.heap.size ≤ be) (b4 : w0.heap.size ≤ bl) :
    ∀ (n : PN), n.short = true → ∀ (nv : Value) (deep : Int) (m : Ms) (w : World), RdN w0 n nv → 0 ≤ deep → deep + n.size ≤ 100000 → 0 ≤ m.count → m.count + n.size ≤ 100000 → 0 ≤ m.height → m.height ≤ 100000 → 0 ≤ m.e → m.e ≤ 100 → Ext w0 w → Held4 w bc bh be bl m →
      Calls Tryz.prog 78 #[nv, .int .i64 deep, .pointer (some ⟨bc, 0, none⟩), .pointer (some ⟨bh, 0, none⟩), .pointer (some ⟨be, 0, none⟩), .pointer (some ⟨bl, 0, none⟩)] w (LookIs w0 bc bh be bl (PN.look deep m n)) := by
  refine PN.induct _ fun n ih hsh nv deep m w hr d0 d1 c0 c1 h0 h1 e0 e1 hx hh => ?_
  obtain ⟨av, kv, rfl, ha, hk⟩ := hr.open
  obtain ⟨aa, acap, rfl, hac⟩ := ha.len_of
  obtain ⟨ka, kcap, rfl, hkc, hkm, hkn, hkr⟩ := hk
  have n1' := Ne.symm n1
  have n2' := Ne.symm n2
  have n3' := Ne.symm n3
  have n4' := Ne.symm n4
  have n5' := Ne.symm n5
  have n6' := Ne.symm n6
  have hbox := heap_alloc_new w (.cells #[.int .i64 n.tag, .slice aa n.attrs.length acap, .string n.text, .slice ka n.kids.length kcap] 26)
  have hh1 : Held4 (w.alloc (.cells #[.int .i64 n.tag, .slice aa n.attrs.length acap, .string n.text, .slice ka n.kids.length kcap] 26)) bc bh be bl m := ⟨hh.c.alloc _, hh.h.alloc _, hh.e.alloc _, hh.l.alloc _⟩
  have x1 := hx.alloc (.cells #[.int .i64 n.tag, .slice aa n.attrs.length acap, .string n.text, .slice ka n.kids.length kcap] 26)
  have sz : (w.alloc (.cells #[.int .i64 n.tag, .slice aa n.attrs.length acap, .string n.text, .slice ka n.kids.length kcap] 26)).heap.size = w.heap.size + 1 := by simp
  have lc : bc ≠ w.heap.size := Nat.ne_of_lt hh.c.lt
  have lh : bh ≠ w.heap.size := Nat.ne_of_lt hh.h.lt
  have le : be ≠ w.heap.size := Nat.ne_of_lt hh.e.lt
  have lc' := Ne.symm lc
  have lh' := Ne.symm lh
  have le' := Ne.symm le
  have HA := qh ha
  have HKR := qh hkr
  have HKN := qh hkn
  have HX := qh hx
  have HH := qh hh
  have HSH := qh hsh
  have IH := qh ih
  unfold maxLen at hkm
  clear ha hkr hkn hx hh hsh ih hr
  go_enter Tryz.func78, Tryz.ntmps78
  go_upto_region 1 with fail
  obtain ⟨wb, hwb⟩ : ∃ wb : World, wb = w.alloc (.cells #[.int .i64 n.tag, .slice aa n.attrs.length acap, .string n.text, .slice ka n.kids.length kcap] 26) := ⟨_, rfl⟩
  rw [← hwb] at hbox hh1 x1 sz ⊢
  clear hwb
  have cc := hh1.c.cell
  have ch := hh1.h.cell
  have ce := hh1.e.cell
  have fc := hh1.c.free
  have fh := hh1.h.free
  have fe := hh1.e.free
  have k0 := cellOf hbox (i := 0) (v := .int .i64 n.tag) rfl
  have k1 := cellOf hbox (i := 1) (v := .slice aa n.attrs.length acap) rfl
  have k2 := cellOf hbox (i := 2) (v := .string n.text) rfl
  have k3 := cellOf hbox (i := 3) (v := .slice ka n.kids.length kcap) rfl
  have HB := qh hbox
  have HH1 := qh hh1
  have HX1 := qh x1
  have SZ := qh sz
  clear hbox hh1 x1 sz
  have hz1 : Held4 ((wb.setCell ⟨bc, 0, none⟩ (.int .i64 (m.count + 1))).setCell ⟨bh, 0, none⟩ (.int .i64 (max m.height deep))) bc bh be bl ⟨m.count + 1, max m.height deep, m.e⟩ :=
    ⟨(HH1.out.c.set _).far n1 _, (HH1.out.h.far n1' _).set _, (HH1.out.e.far n2' _).far n4' _, (HH1.out.l.far n3' _).far n5' _⟩
  have hz2 : Ext w0 ((wb.setCell ⟨bc, 0, none⟩ (.int .i64 (m.count + 1))).setCell ⟨bh, 0, none⟩ (.int .i64 (max m.height deep))) := (HX1.out.setCell b1 _).setCell b2 _
  have hz3 : ((wb.setCell ⟨bc, 0, none⟩ (.int .i64 (m.count + 1))).setCell ⟨bh, 0, none⟩ (.int .i64 (max m.height deep))).heap[w.heap.size]? = some (.cells #[.int .i64 n.tag, .slice aa n.attrs.length acap, .string n.text, .slice ka n.kids.length kcap] 26 (0, 0)) :=
    (heap_setCell_other _ lh').trans ((heap_setCell_other _ lc').trans HB.out)
  have HZ1 := qh hz1
  have HZ2 := qh hz2
  have HZ3 := qh hz3
  clear hz1 hz2 hz3
  go_upto_block 0 with fail
  obtain ⟨wz, hwz⟩ : ∃ wz : World, wz = (wb.setCell ⟨bc, 0, none⟩ (.int .i64 (m.count + 1))).setCell ⟨bh, 0, none⟩ (.int .i64 (max m.height deep)) := ⟨_, rfl⟩
  rw [← hwz] at HZ1 HZ2 HZ3 ⊢
  clear hwz cc ch ce fc fh fe k0 k1 k2 k3
  go_cut [8] (fun _ wx => Ext w0 wx ∧ Held4 wx bc bh be bl (Ms.one n deep m) ∧ wx.cell? ⟨w.heap.size, 3, none⟩ = some (.slice ka n.kids.length kcap))
  case first =>
    have ce : wz.cell? ⟨be, 0, none⟩ = some (.int .i64 m.e) := HZ1.out.e.cell
    have fe := HZ1.out.e.free
    have k0 := cellOf HZ3.out (i := 0) (v := .int .i64 n.tag) rfl
    have k1 := cellOf HZ3.out (i := 1) (v := .slice aa n.attrs.length acap) rfl
    have k2 := cellOf HZ3.out (i := 2) (v := .string n.text) rfl
    have k3 := cellOf HZ3.out (i := 3) (v := .slice ka n.kids.length kcap) rfl
    have hbad1 : n.bad = true → Ext w0 (wz.setCell ⟨be, 0, none⟩ (.int .i64 1)) ∧ Held4 (wz.setCell ⟨be, 0, none⟩ (.int .i64 1)) bc bh be bl (Ms.one n deep m) ∧ (wz.setCell ⟨be, 0, none⟩ (.int .i64 1)).cell? ⟨w.heap.size, 3, none⟩ = some (.slice ka n.kids.length kcap) := fun hb => by
      refine ⟨HZ2.out.setCell b3 _, ?_, cellOf ((heap_setCell_other _ le').trans HZ3.out) rfl⟩
      have e : Ms.one n deep m = ⟨m.count + 1, max m.height deep, 1⟩ := by unfold Ms.one; rw [if_pos hb]
      rw [e]
      exact ⟨HZ1.out.c.far n2 _, HZ1.out.h.far n4 _, HZ1.out.e.set _, HZ1.out.l.far n6' _⟩
    have hlong1 : ∀ wy, n.bad = false → 8192 < (anewB n.text).size → m.e = 0 → Ext wz wy → Ext w0 (wy.setCell ⟨be, 0, none⟩ (.int .i64 10)) ∧ Held4 (wy.setCell ⟨be, 0, none⟩ (.int .i64 10)) bc bh be bl (Ms.one n deep m) ∧ (wy.setCell ⟨be, 0, none⟩ (.int .i64 10)).cell? ⟨w.heap.size, 3, none⟩ = some (.slice ka n.kids.length kcap) := fun wy hb hl he hy => by
      refine ⟨(HZ2.out.trans hy).setCell b3 _, ?_, cellOf ((heap_setCell_other _ le').trans (hy.block HZ3.out)) rfl⟩
      have e : Ms.one n deep m = ⟨m.count + 1, max m.height deep, 10⟩ := by unfold Ms.one; rw [if_neg (by rw [hb]; decide), if_pos ⟨hl, he⟩]
      rw [e]
      exact ⟨(HZ1.out.c.ext hy).far n2 _, (HZ1.out.h.ext hy).far n4 _, (HZ1.out.e.ext hy).set _, (HZ1.out.l.ext hy).far n6' _⟩
    have hfine1 : ∀ wy, n.bad = false → ¬ (8192 < (anewB n.text).size ∧ m.e = 0) → Ext wz wy → Ext w0 wy ∧ Held4 wy bc bh be bl (Ms.one n deep m) ∧ wy.cell? ⟨w.heap.size, 3, none⟩ = some (.slice ka n.kids.length kcap) := fun wy hb hl hy => by
      refine ⟨HZ2.out.trans hy, ?_, cellOf (hy.block HZ3.out) rfl⟩
      have e : Ms.one n deep m = ⟨m.count + 1, max m.height deep, m.e⟩ := by unfold Ms.one; rw [if_neg (by rw [hb]; decide), if_neg hl]
      rw [e]
      exact ⟨HZ1.out.c.ext hy, HZ1.out.h.ext hy, HZ1.out.e.ext hy, HZ1.out.l.ext hy⟩
    have HB1 := qh hbad1
    have HL1 := qh hlong1
    have HF1 := qh hfine1
    have hts : n.text.size ≤ 100000 := by have := HSH.out; rw [PN.short_eq] at this; simp at this; exact this.1.1
    have has : n.attrs.length ≤ 60000 := by have := HSH.out; rw [PN.short_eq] at this; simp at this; exact this.1.2
    have hbs : (anewB n.text).size ≤ 400000 := by have := anewB_size n.text; omega
    have HTS := qh hts
    have hbb : n.bad = (if n.tag = 0 then !(n.attrs.isEmpty && n.kids.isEmpty) else !(decide (1 ≤ n.tag ∧ n.tag ≤ 16) && n.text.size == 0)) := rfl
    have HBB := qh hbb
    clear hbad1 hlong1 hfine1 hbb hts
    -- what is left of the ways where the node itself may be
    have hfine : n.bad = false → ∀ wy, Ext wz wy → (if 8192 < (anewB n.text).size ∧ m.e = 0 then True else True) := fun _ _ _ => by split <;> trivial
    clear hfine
    by_cases ht : n.tag = 0
    · have tb : (n.tag == 0) = true := by simp [ht]
      have HT := qh ht
      by_cases hA : 0 < n.attrs.length
      · have HBAD : Hid (n.bad = true) := qh (bad_attrs ht hA)
        clear ht
        go_wp2_with (fail)
        go_meet
        exact HB1.out HBAD.out
      · have hA0 : n.attrs.length = 0 := by omega
        by_cases hK : 0 < n.kids.length
        · have HBAD : Hid (n.bad = true) := qh (bad_kids ht hK)
          clear ht hA0
          go_wp2_with (fail)
          go_meet
          exact HB1.out HBAD.out
        · have HBAD : Hid (n.bad = false) := qh (bad_text ht hA hK)
          clear ht hA0
          by_cases hl : 8192 < (anewB n.text).size
          · by_cases he : m.e = 0
            · have eb : (m.e == 0) = true := by simp [he]
              have HE := qh he
              clear he
              go_wp2_with (go_at_call 46; refine (anew_any _ HTS.out _).mono ?_; rintro e w' ⟨rfl, hy⟩; have ce : _ = some (Value.int IntKind.i64 m.e) := (HZ1.out.e.ext hy).cell; have fe := (HZ1.out.e.ext hy).free)
              go_meet
              exact HL1.out _ HBAD.out hl HE.out hy
            · have eb : (m.e == 0) = false := by simpa using he
              have HE := qh he
              clear he
              go_wp2_with (go_at_call 46; refine (anew_any _ HTS.out _).mono ?_; rintro e w' ⟨rfl, hy⟩; have ce : _ = some (Value.int IntKind.i64 m.e) := (HZ1.out.e.ext hy).cell; have fe := (HZ1.out.e.ext hy).free)
              go_meet
              exact HF1.out _ HBAD.out (fun h => HE.out h.2) hy
          · go_wp2_with (go_at_call 46; refine (anew_any _ HTS.out _).mono ?_; rintro e w' ⟨rfl, hy⟩; have ce : _ = some (Value.int IntKind.i64 m.e) := (HZ1.out.e.ext hy).cell; have fe := (HZ1.out.e.ext hy).free)
            go_meet
            exact HF1.out _ HBAD.out (fun h => hl h.1) hy
    · have tb : (n.tag == 0) = false := by simpa using ht
      have HT := qh ht
      by_cases hE : 1 ≤ n.tag ∧ n.tag ≤ 16
      · by_cases hS : n.text.size = 0
        · have HBAD : Hid (n.bad = false) := qh (bad_fine ht hE hS)
          have hemp := text_none_d hS
          have hanew : (anewB n.text).size = 0 := by rw [hemp]; rfl
          have hsb : n.text.toList.isEmpty = true := by rw [hemp, ByteArray.toList_eq]; rfl
          have hl : ¬ 8192 < (anewB n.text).size := by omega
          obtain ⟨E1, E2⟩ := hE
          have hst : n.text.toList = [] := by rw [hemp, ByteArray.toList_eq]; rfl
          clear ht hS hemp hanew
          go_wp2_with (first
            | (go_at_call 79; refine (element_yes _ E1 E2 _).mono ?_; rintro e w' ⟨rfl, rfl⟩)
            | (go_at_call 46; refine (anew_any _ HTS.out _).mono ?_; rintro e w' ⟨rfl, hy⟩; have ce : _ = some (Value.int IntKind.i64 m.e) := (HZ1.out.e.ext hy).cell; have fe := (HZ1.out.e.ext hy).free))
          go_meet
          exact HF1.out _ HBAD.out (fun h => hl h.1) hy
        · have HBAD : Hid (n.bad = true) := qh (bad_said ht hS)
          have hsb := text_some_d hS
          have hst : !n.text.toList.isEmpty := by rw [hsb]; rfl
          obtain ⟨E1, E2⟩ := hE
          clear ht hS
          go_wp2_with (go_at_call 79; refine (element_yes _ E1 E2 _).mono ?_; rintro e w' ⟨rfl, rfl⟩)
          go_meet
          exact HB1.out HBAD.out
      · have HBAD : Hid (n.bad = true) := qh (bad_tag' ht hE)
        have HEE := qh hE
        clear ht hE
        go_wp2_with (go_at_call 79; refine (element_no _ HEE.out _).mono ?_; rintro e w' ⟨rfl, rfl⟩)
        go_meet
        exact HB1.out HBAD.out
  case rest =>
    obtain ⟨x2, h2, k3⟩ := hcut
    have hkl : (n.kids.length : Int) ≤ 9223372036854775807 := by omega
    have HX2 := qh x2
    have HH2 := qh h2
    clear x2 h2
    go_wp2_with fail
    go_loopw [10, 61] (fun _ i wr => ∃ k : Nat, k ≤ n.kids.length ∧ i = .int .i64 k ∧ Ext w0 wr ∧ Held4 wr bc bh be bl (PN.looks (deep + 1) (Ms.one n deep m) (n.kids.take k))) (fun _ i _ => n.kids.length - (intOf i).toNat)
    case atStart => exact ⟨0, Nat.zero_le _, rfl, HX2.out, by simpa [PN.looks] using HH2.out⟩
    case round =>
      obtain ⟨k, hk, rfl, xr, hr⟩ := hrel
      have HXR := qh xr
      have HHR := qh hr
      have cl := hr.l.cell
      clear xr hr
      by_cases hlt : k < n.kids.length
      · obtain ⟨x, hx⟩ : ∃ x, n.kids[k]? = some x := ⟨n.kids[k], by simp [hlt]⟩
        cases ka with
        | none => exact absurd (HKN.out rfl).1 (by omega)
        | some a =>
          obtain ⟨b, off, sp⟩ := a
          obtain ⟨c0', c1', c2', c3', q0, q1, q2, q3, hrd⟩ := HKR.out _ rfl k x hx
          obtain ⟨av', kv', e, ha', hk'⟩ := hrd.open
          obtain ⟨aa', acap', e2, _⟩ := ha'.len_of
          obtain ⟨ka', kcap', e3, _⟩ := hk'
          subst e2 e3
          cases e
          clear ha'
          replace q0 := HXR.out.cells _ _ q0
          replace q1 := HXR.out.cells _ _ q1
          replace q2 := HXR.out.cells _ _ q2
          replace q3 := HXR.out.cells _ _ q3
          rw [add_later _ _ _ (by decide)] at q1 q2 q3
          obtain ⟨g1, g2, g3, g4, g5, g6, g7⟩ := looks_bounds n deep m d0 d1 c0 c1 h0 h1 e0 e1 hx
          have hmem : x ∈ n.kids := List.mem_of_getElem? hx
          have hshx : x.short = true := by
            have := HSH.out; rw [PN.short_eq] at this; simp at this
            exact PN.shorts_mem this.2 hmem
          have cl' := (HHR.out.l.alloc (.cells #[.int .i64 x.tag, .slice aa' x.attrs.length acap', .string x.text, .slice ka' x.kids.length kcap'] 26)).cell
          have hrec := (fun w' hw' hh' => IH.out x hmem hshx _ (deep + 1) _ w' hrd (by omega) g1 g2 g3 g4 g5 g6 g7 hw' hh') (wr.alloc (.cells #[.int .i64 x.tag, .slice aa' x.attrs.length acap', .string x.text, .slice ka' x.kids.length kcap'] 26)) (HXR.out.alloc _) ⟨HHR.out.c.alloc _, HHR.out.h.alloc _, HHR.out.e.alloc _, HHR.out.l.alloc _⟩
          have HREC := qh hrec
          have HXX := qh hx
          have ndl : deep + 1 ≤ 9223372036854775807 := by omega
          clear hx hrec hrd hmem hshx g1 g2 g3 g4 g5 g6 g7
          go_wp2_with fail
          refine HREC.out.mono ?_
          rintro e w' ⟨rfl, hx', hh'⟩
          go_wp2_with fail
          go_roundw
          case rel =>
            refine ⟨k + 1, by omega, by go_num, hx', ?_⟩
            rw [looks_take _ _ _ _ _ HXX.out]
            exact hh'
          case measure => simp [intOf]; omega
      · go_wp2_with fail
        go_end0
        refine ⟨rfl, HXR.out, ?_⟩
        have e : n.kids.take k = n.kids := List.take_of_length_le (by omega)
        have h := HHR.out
        rw [e, ← PN.look_eq] at h
        exact h
def RThree (a b c : Value) (w : World) (e : Ending) (w' : World) : Prop := e = .returned (.tuple #[a, b, c]) ∧ Ext w w'
abbrev lookF (b : Nat) : Value := .func (.func 78) #[] #[.pointer (some ⟨b + 1, 0, none⟩), .pointer (some ⟨b + 2, 0, none⟩), .pointer (some ⟨b + 3, 0, none⟩), .pointer (some ⟨b + 4, 0, none⟩)]
theorem measure_any {w : World} {n : PN} {nv : Value} (hr : RdN w n nv) (hsh : n.short = true) (hs : n.size ≤ 90000) :
    Calls Tryz.prog 42 #[nv] w (RThree (.int .i64 n.size) (.int .i64 n.high) (.int .i64 (PN.look 0 ⟨0, 0, 0⟩ n).e) w) := by
  obtain ⟨av, kv, rfl, ha, hk⟩ := hr.open
  obtain ⟨aa, acap, rfl, hac⟩ := ha.len_of
  obtain ⟨ka, kcap, rfl, hkc, hkm, hkn, hkr⟩ := hk
  have hz := fun x : World => (show Ext w x → Held4 x (w.heap.size + 1) (w.heap.size + 2) (w.heap.size + 3) (w.heap.size + 4) ⟨0, 0, 0⟩ → Calls Tryz.prog 78 #[.agg #[.int .i64 n.tag, .slice aa n.attrs.length acap, .string n.text, .slice ka n.kids.length kcap], .int .i64 0, .pointer (some ⟨w.heap.size + 1, 0, none⟩), .pointer (some ⟨w.heap.size + 2, 0, none⟩), .pointer (some ⟨w.heap.size + 3, 0, none⟩), .pointer (some ⟨w.heap.size + 4, 0, none⟩)] x (LookIs w (w.heap.size + 1) (w.heap.size + 2) (w.heap.size + 3) (w.heap.size + 4) (PN.look 0 ⟨0, 0, 0⟩ n)) from
    look_any (by omega) (by omega) (by omega) (by omega) (by omega) (by omega) (by omega) (by omega) (by omega) (by omega) n hsh _ 0 ⟨0, 0, 0⟩ x hr (Int.le_refl 0) (by omega) (Int.le_refl 0) (by show (0 : Int) + n.size ≤ 100000; omega) (Int.le_refl 0) (by decide) (Int.le_refl 0) (by decide))
  have hl := look_spec n 0 ⟨0, 0, 0⟩
  have HZ := qh hz
  have HL := qh hl
  clear hz hl hkr hkn ha hr
  go_enter Tryz.func42, Tryz.ntmps42
  go_wp2_with fail
  refine (HZ.out _ ?_ ?_).mono ?_
  · exact ((((((Ext.refl w).alloc _).alloc _).alloc _).alloc _).alloc _)
  · exact ⟨(((One.at (w.alloc _) _ (.int .i64 0) 3 (by simp)).alloc _).alloc _).alloc _, ((One.at ((w.alloc _).alloc _) _ (.int .i64 0) 3 (by simp)).alloc _).alloc _, (One.at (((w.alloc _).alloc _).alloc _) _ (.int .i64 0) 27 (by simp)).alloc _,
      One.at ((((w.alloc _).alloc _).alloc _).alloc _) _ (lookF w.heap.size) 124 (by simp)⟩
  rintro e w1 ⟨rfl, hx, hh⟩
  obtain ⟨l1, l2, l3⟩ := HL.out
  have q1 : (PN.look 0 ⟨0, 0, 0⟩ n).count = (n.size : Int) := by rw [l1]; simp
  have q2 : (PN.look 0 ⟨0, 0, 0⟩ n).height = (n.high : Int) := by rw [l2]; show max (0 : Int) (0 + (n.high : Int)) = _; omega
  obtain ⟨hc, hh', he, hf⟩ := hh
  rw [q1] at hc
  rw [q2] at hh'
  have cc := hc.cell
  have ch := hh'.cell
  have ce := he.cell
  have fc := hc.free
  have fh := hh'.free
  have fe := he.free
  clear l1 l2 l3 q1 q2 HL hc hh' he hf HZ
  generalize (PN.look 0 ⟨0, 0, 0⟩ n).e = E at *
  go_wp2_with fail
  go_region
  go_wp2
  refine bodyPost_ret (v := .tuple #[.int .i64 n.size, .int .i64 n.high, .int .i64 E]) (by simp [results, Tryz.results42, go_sem, cc, ch, ce]) rfl ⟨rfl, ?_⟩
  exact (((hx.setCell (by show w.heap.size ≤ _; simp <;> omega) _).setCell (by show w.heap.size ≤ _; simp <;> omega) _).setCell (by show w.heap.size ≤ _; simp <;> omega) _).drew
theorem intos_take (i : Int) (T : Tr) : ∀ (l : List PN) (k : Nat) (x : PN), l[k]? = some x → PN.intos i T (l.take (k + 1)) = (PN.into (PN.intos i T (l.take k)) x).join i (PN.intos i T (l.take k)).newId := by
  intro l
  induction l generalizing T with
  | nil => intro k x h; simp at h
  | cons y r ih =>
    intro k x h
    cases k with
    | zero => simp at h; subst h; simp [PN.intos]
    | succ k => simp at h; simp only [List.take_succ_cons, PN.intos]; exact ih _ k x h
abbrev putF (tc pc : Nat) : Value := .func (.func 45) #[] #[.pointer (some ⟨tc, 0, none⟩), .pointer (some ⟨pc, 0, none⟩)]
theorem put_round {n : PN} (hok : n.ok = true) {T : Tr} {d : Nat → Nat} (hw : WF T d) (hc : T.count + n.size ≤ T.cap) (hh : (n.high : Int) ≤ T.deep) :
    ∃ i : Nat, T.newId = (i : Int) ∧ i ≠ 0 ∧ (∀ x : Nd, T.nodes[i]? ≠ some (some x)) ∧ ∀ k, ∃ (d' : Nat → Nat) (nd : Nd), WF (PN.intos i (T.put ⟨n.tag, n.attrs, anewB n.text, [], -1⟩) (n.kids.take k)) d' ∧
      (PN.intos i (T.put ⟨n.tag, n.attrs, anewB n.text, [], -1⟩) (n.kids.take k)).nodes[i]? = some (some nd) ∧ nd.parent = -1 ∧ nd.kids.length ≤ n.size ∧
      ∀ x, n.kids[k]? = some x → (PN.intos i (T.put ⟨n.tag, n.attrs, anewB n.text, [], -1⟩) (n.kids.take k)).count + x.size ≤ (PN.intos i (T.put ⟨n.tag, n.attrs, anewB n.text, [], -1⟩) (n.kids.take k)).cap ∧
        (x.high : Int) ≤ (PN.intos i (T.put ⟨n.tag, n.attrs, anewB n.text, [], -1⟩) (n.kids.take k)).deep := by
  have hb := PN.ok_bad hok
  have hkids := PN.ok_kids hok
  obtain ⟨b0, b1, b2, b3⟩ := PN.bad_tag hb
  have hs := PN.size_eq n
  have hi := PN.high_eq n
  obtain ⟨d1, i, h1, h0, h2, h3, hP⟩ := hw.put_one hb (by omega)
  refine ⟨i, h1, h0, h2, fun k => ?_⟩
  have hst := sizes_take n.kids k
  have hht : PN.highs (n.kids.take k) ≤ PN.highs n.kids := by
    have : ∀ (l : List PN) (k : Nat), PN.highs (l.take k) ≤ PN.highs l := by
      intro l
      induction l with
      | nil => intro k; simp
      | cons y r ih => intro k; cases k with
        | zero => simp [PN.highs]
        | succ k => simp only [List.take_succ_cons, PN.highs]; have := ih k; omega
    exact this _ _
  obtain ⟨d2, nd2, hn2, hP2⟩ := intos_ok (n.kids.take k) (fun x hx => into_ok x (PN.oks_mem hkids (List.mem_of_mem_take hx))) _ d1 i _ hP.wf h3 rfl (by
    by_cases e : n.tag = 0
    · right; rw [(b2 e).1]; simp
    · exact .inl e) (by rw [hP.count, hP.cap]; omega) (by rw [hP.deep]; omega) (fun x hx => by cases hx)
  obtain ⟨nd', q1, q2⟩ := hP2.node
  obtain rfl := some_inj2 hn2 q1
  refine ⟨d2, nd2, hP2.wf, hn2, q2, ?_, fun x hx => ?_⟩
  · have hp := hP2.plain
    rw [hP2.wf.plain_eq hn2] at hp
    have hlen := congrArg List.length (PN.mk.inj hp).2.2.2
    rw [List.length_map, List.length_append, PN.anews_eq, List.length_map, List.length_map, List.length_take] at hlen
    have hkl : n.kids.length ≤ PN.sizes n.kids := by
      have : ∀ l : List PN, l.length ≤ PN.sizes l := by
        intro l
        induction l with
        | nil => simp
        | cons y r ih => simp only [List.length_cons, PN.sizes]; have := y.size_pos; omega
      exact this _
    simp at hlen
    omega
  · have hsx := sizes_take_succ hx
    have hxx : x.high + 1 ≤ PN.highs n.kids := by
      have : ∀ (l : List PN), x ∈ l → x.high + 1 ≤ PN.highs l := by
        intro l
        induction l with
        | nil => intro h; cases h
        | cons y r ih => intro h; simp only [PN.highs]; rcases List.mem_cons.1 h with rfl | h; omega; have := ih h; omega
      exact this _ (List.mem_of_getElem? hx)
    rw [hP2.count, hP2.cap, hP2.deep, hP.count, hP.cap, hP.deep]
    exact ⟨by omega, by omega⟩
end Go.Proofs.YtalaajbajgdglaaGreatDoor
namespace Go.Proofs.YtalaajbajgdglaaGreatDoor
open Go Go.RowKit
end Go.Proofs.YtalaajbajgdglaaGreatDoor
namespace Go.Proofs.YtalaajbajgdglaaGreatDoor
open Go Go.RowKit Go.BigFrame We
theorem Step.cellOld {own own' : Ow} {w w' : World} (h : Step own w own' w') {b o : Nat} {v : Value} (hn : own b = none) (hc : w.cell? ⟨b, o, none⟩ = some v) : w'.cell? ⟨b, o, none⟩ = some v :=
  (World.cell?_of_block (a := ⟨b, o, none⟩) (h.rest b (World.block_lt_of_cell? w _ hc) hn)).trans hc
theorem TreeAt.rowOwn {w : World} {own : Ow} {ptr : Nat → Nat} {tb : Nat} {T : Tr} (hT : TreeAt w own ptr tb T) {g cap : Nat} {i : Nat} {nd : Nd} (h : T.nodes[i]? = some (some nd))
    (hc : w.cell? ⟨tb, 3, none⟩ = some (.slice (some ⟨g, 0, none⟩) T.nodes.length cap)) : own g = some (1, 0) ∧ own tb = some (0, 0) := by
  obtain ⟨nv, hb, hot, hrow⟩ := hT.head
  have h3 := cellOf hb (i := 3) (v := nv) rfl
  rw [hc] at h3
  obtain rfl : nv = .slice (some ⟨g, 0, none⟩) T.nodes.length cap := by injection h3 with h3; exact h3.symm
  rcases hrow.2 with ⟨h0, _⟩ | ⟨g', cap', cur, q1, q2, _⟩
  · have := (List.getElem?_eq_some_iff.1 h).1; omega
  · cases q1; exact ⟨q2, hot⟩
theorem grownCell {w cw wA : World} {row : Option Nat} (hx : Ext w cw) (hg : cw.grownBy wA row) {b o : Nat} {v : Value} (hc : w.cell? ⟨b, o, none⟩ = some v) (hne : ∀ k, row = some k → k ≠ b) : wA.cell? ⟨b, o, none⟩ = some v := by
  have h1 := hx.cell hc
  exact (World.cell?_of_block (a := ⟨b, o, none⟩) (hg.block b (World.block_lt_of_cell? cw _ h1) (fun e => hne b e.symm rfl))).trans h1
theorem grownFree {w cw wA : World} {row : Option Nat} (hx : Ext w cw) (hg : cw.grownBy wA row) {b o : Nat} (hl : b < w.heap.size) (hc : w.frozen? ⟨b, o, none⟩ = false) (hne : ∀ k, row = some k → k ≠ b) : wA.frozen? ⟨b, o, none⟩ = false := by
  have h1 := hx.free hl hc
  exact (World.frozen?_of_block (a := ⟨b, o, none⟩) (hg.block b (Nat.lt_of_lt_of_le hl hx.size) (fun e => hne b e.symm rfl))).trans h1
theorem join_plain {w cw wA : World} {own0 own : Ow} {ptr : Nat → Nat} {tb : Nat} {T : Tr} (h0 : Step own0 w own cw) (hT : TreeAt cw own ptr tb T) {p k : Nat} {pd kd : Nd} (hp : T.nodes[p]? = some (some pd)) (hk : T.nodes[k]? = some (some kd)) (hpk : p ≠ k)
    (hpw : ∀ x, x < w.heap.size → own x ≠ none → own0 x ≠ none)
    {v : Value} {row : Option Nat} (hr : RowP wA (fun g => own g = some (4, p) ∨ cw.heap.size ≤ g) 3 1 v (pd.kids.length + 1) (pd.kids.map (Value.int .i64) ++ [.int .i64 k])) (hg : cw.grownBy wA row) (hrow : ∀ b, row = some b → own b = some (4, p)) :
    ∃ own1, Step own0 w own1 (wA.setCell ⟨ptr p, 3, none⟩ v) ∧ TreeAt (wA.setCell ⟨ptr p, 3, none⟩ v) own1 ptr tb { T with nodes := T.nodes.set p (some { pd with kids := pd.kids ++ [(k : Int)] }) } ∧
      Step own0 w own1 ((wA.setCell ⟨ptr p, 3, none⟩ v).setCell ⟨ptr k, 4, none⟩ (.int .i64 p)) ∧ TreeAt ((wA.setCell ⟨ptr p, 3, none⟩ v).setCell ⟨ptr k, 4, none⟩ (.int .i64 p)) own1 ptr tb (T.attach p k pd kd) := by
  obtain ⟨av, kv, b1, b2, b3, b4⟩ := hT.node p pd hp
  obtain ⟨avk, kvk, c1, c2, c3, c4⟩ := hT.node k kd hk
  have hr' : RowP wA (fun g => own g = some (4, p) ∨ cw.heap.size ≤ g) 3 1 v (pd.kids ++ [(k : Int)]).length ((pd.kids ++ [(k : Int)]).map (Value.int .i64)) := by
    simpa using hr
  obtain ⟨own1, hs1, hT1, hsame⟩ := kids_plain h0 hT hp (pd.kids ++ [(k : Int)]) (fun hx => hpw _ hx (by rw [b2]; simp)) (fun b hb hb2 => hpw _ hb (by rw [hb2]; simp)) hr' hg hrow
  have hkd : (T.nodes.set p (some { pd with kids := pd.kids ++ [(k : Int)] }))[k]? = some (some kd) := by
    rw [List.getElem?_set, if_neg hpk]; exact hk
  have hT2 := hT1.setParent hkd (p : Int)
  exact ⟨own1, hs1, hT1, hs1.setCell (p := ⟨ptr k, 4, none⟩) (fun hx => hpw _ hx (by rw [c2]; simp)) _, hT2⟩

theorem put_any {g : World} {tb tc pc : Nat} (htc : g.cell? ⟨tc, 0, none⟩ = some (.pointer (some ⟨tb, 0, none⟩))) (hpc : g.cell? ⟨pc, 0, none⟩ = some (putF tc pc)) :
    ∀ n : PN, n.ok = true → n.short = true → ∀ (nv : Value) (T : Tr) (d : Nat → Nat) (own : Ow) (ptr : Nat → Nat) (w : World), RdN g n nv → Apart g own w → TreeAt w own ptr tb T → Owned own w → WF T d → T.count + n.size ≤ T.cap → (n.high : Int) ≤ T.deep →
      Calls Tryz.prog 45 #[nv, .pointer (some ⟨tc, 0, none⟩), .pointer (some ⟨pc, 0, none⟩)] w (AddIs own w tb T.newId (PN.into T n)) := by
  refine PN.induct _ fun n ih hok hsh nv T d own ptr w hr hap hT hO hw hc hh => ?_
  obtain ⟨i, hi1, hi0, hi2, hround⟩ := put_round hok hw hc hh
  obtain ⟨av, kv, rfl, ha, hk⟩ := hr.open
  obtain ⟨aa, acap, rfl, hac⟩ := ha.len_of
  obtain ⟨ka, kcap, rfl, hkc, hkm, hkn, hkr⟩ := hk
  have x1 := (Ext.refl w).alloc (.cells #[.int .i64 n.tag, .slice aa n.attrs.length acap, .string n.text, .slice ka n.kids.length kcap] 26)
  have hbox := heap_alloc_new w (.cells #[.int .i64 n.tag, .slice aa n.attrs.length acap, .string n.text, .slice ka n.kids.length kcap] 26)
  have hob : own w.heap.size = none := by
    cases ho : own w.heap.size with
    | none => rfl
    | some x => have := hO w.heap.size (by simp [ho]); omega
  have hts : n.text.size ≤ 100000 := by have := hsh; rw [PN.short_eq] at this; simp at this; exact this.1.1
  have has : n.attrs.length ≤ 60000 := by have := hsh; rw [PN.short_eq] at this; simp at this; exact this.1.2
  have hroom : ∀ (T' : Tr), T' = T → (∀ x ∈ T.nodes, x ≠ none) → T.nodes.length ≤ 1999 := fun _ _ hall => by
    have := hw.len_full hall; have := hw.small.cap1; have := n.size_pos; omega
  have HX := qh x1
  have HA := qh ha
  have HKR := qh hkr
  have HKN := qh hkn
  have HAP := qh hap
  have HT := qh hT
  have HO := qh hO
  have HW := qh hw
  have HC := qh hc
  have HH := qh hh
  have HSH := qh hsh
  have HOK := qh hok
  have IH := qh ih
  have HI1 := qh hi1
  have HI2 := qh hi2
  have HRD := qh hround
  have HOB := qh hob
  have HTS := qh hts
  have HAS := qh has
  have HRM := qh hroom
  have HTC := qh htc
  have HPC := qh hpc
  unfold maxLen at hkm
  clear x1 ha hkr hkn hap hT hO hw hc hh hsh hok ih hi1 hi2 hround hr hob hts has hroom
  go_enter Tryz.func45, Tryz.ntmps45
  go_upto_region 1 with fail
  obtain ⟨wb, hwb⟩ : ∃ wb : World, wb = w.alloc (.cells #[.int .i64 n.tag, .slice aa n.attrs.length acap, .string n.text, .slice ka n.kids.length kcap] 26) := ⟨_, rfl⟩
  rw [← hwb] at hbox HX ⊢
  clear hwb
  have k0 := cellOf hbox (i := 0) (v := .int .i64 n.tag) rfl
  have k1 := cellOf hbox (i := 1) (v := .slice aa n.attrs.length acap) rfl
  have k2 := cellOf hbox (i := 2) (v := .string n.text) rfl
  have k3 := cellOf hbox (i := 3) (v := .slice ka n.kids.length kcap) rfl
  have ct := (HAP.out.ext HX.out).cells _ _ htc
  clear hbox htc hpc
  go_region_held3 (fun w' => w'.cell? ⟨tc, 0, none⟩ = some (.pointer (some ⟨tb, 0, none⟩)) ∧ w'.cell? ⟨w.heap.size, 0, none⟩ = some (.int .i64 n.tag) ∧ w'.cell? ⟨w.heap.size, 1, none⟩ = some (.slice aa n.attrs.length acap) ∧ w'.cell? ⟨w.heap.size, 2, none⟩ = some (.string n.text))
    (first | exact ⟨ct, k0, k1, k2⟩ | exact hkeep | go_keep)
    (first
    | (go_at_call 46; refine (anew_any _ HTS.out _).mono ?_; rintro e w' ⟨rfl, hy⟩; replace hy := Ext.undrew hy; have hkeep := (show _ ∧ _ ∧ _ ∧ _ from ⟨hy.cell ct, hy.cell k0, hy.cell k1, hy.cell k2⟩))
    | (go_at_call 40; refine (add_any_d (HT.out.keep ((HX.out.trans hy).keep HO.out)) (fun b hb => Nat.lt_of_lt_of_le (HO.out b hb) (HX.out.trans hy).size) HW.out.small (HRM.out _ rfl) n.tag (anewB n.text) _ n.attrs (HA.out.cells (HAP.out.ext (HX.out.trans hy)).cells) HAS.out (attrCells_one _)).mono ?_; rintro e w2 ⟨rfl, own2, ptr2, hT2, hS2⟩; have hkeep := (show _ ∧ _ ∧ _ ∧ _ from ⟨hS2.cellOld (HAP.out _ _ HTC.out).2 (hy.cell ct), hS2.cellOld HOB.out (hy.cell k0), hS2.cellOld HOB.out (hy.cell k1), hS2.cellOld HOB.out (hy.cell k2)⟩); have k3' := hS2.cellOld HOB.out (hy.cell k3)))
  replace hS2 := ((HX.out.trans hy).step HO.out).trans hS2
  rw [HI1.out]
  have HS2 := qh hS2
  have HT2 := qh hT2
  clear hkeep hS2 hT2 hy k0 k1 k2 k3 ct
  go_wp2_with fail
  go_loopw [7, 8, 22] (fun _ _ j wr => ∃ k : Nat, k ≤ n.kids.length ∧ j = .int .i64 k ∧ After own w tb (PN.intos i (T.put ⟨n.tag, n.attrs, anewB n.text, [], -1⟩) (n.kids.take k)) wr) (fun _ _ j _ => n.kids.length - (intOf j).toNat)
  case atStart => exact ⟨0, Nat.zero_le _, rfl, own2, ptr2, by simpa [PN.intos] using HT2.out, HS2.out⟩
  case round =>
    obtain ⟨k, hk, rfl, own3, ptr3, hT3, hS3⟩ := hrel
    have HT3 := qh hT3
    have HS3 := qh hS3
    clear hT3 hS3
    by_cases hlt : k < n.kids.length
    · obtain ⟨x, hx⟩ : ∃ x, n.kids[k]? = some x := ⟨n.kids[k], by simp [hlt]⟩
      have hap3 := HAP.out.step HS3.out
      cases ka with
      | none => exact absurd (HKN.out rfl).1 (by omega)
      | some a =>
        obtain ⟨b, off, sp⟩ := a
        obtain ⟨c0', c1', c2', c3', q0, q1, q2, q3, hrd⟩ := HKR.out _ rfl k x hx
        obtain ⟨av', kv', e, ha', hk'⟩ := hrd.open
        obtain ⟨aa', acap', e2, _⟩ := ha'.len_of
        obtain ⟨ka', kcap', e3, _⟩ := hk'
        subst e2 e3
        cases e
        clear ha'
        replace q0 := hap3.cells _ _ q0
        replace q1 := hap3.cells _ _ q1
        replace q2 := hap3.cells _ _ q2
        replace q3 := hap3.cells _ _ q3
        rw [add_later _ _ _ (by decide)] at q1 q2 q3
        obtain ⟨d3, nd3, hw3, hn3, hp3, hl3, hx3⟩ := HRD.out k
        obtain ⟨hc3, hh3⟩ := hx3 x hx
        have hmem : x ∈ n.kids := List.mem_of_getElem? hx
        have hshx : x.short = true := by
          have := HSH.out; rw [PN.short_eq] at this; simp at this
          exact PN.shorts_mem this.2 hmem
        have hokx : x.ok = true := PN.oks_mem (PN.ok_kids HOK.out) hmem
        have y1 := (Ext.refl wr).alloc (.cells #[.int .i64 x.tag, .slice aa' x.attrs.length acap', .string x.text, .slice ka' x.kids.length kcap'] 26)
        have hpc' := (hap3.ext y1).cells _ _ HPC.out
        have hrec := IH.out x hmem hokx hshx _ _ d3 own3 ptr3 (wr.alloc (.cells #[.int .i64 x.tag, .slice aa' x.attrs.length acap', .string x.text, .slice ka' x.kids.length kcap'] 26)) hrd (hap3.ext y1) (HT3.out.keep (y1.keep HS3.out.owned)) (fun b hb => Nat.lt_of_lt_of_le (HS3.out.owned b hb) y1.size) hw3 hc3 hh3
        obtain ⟨dz, m, hm1, hm0, hm2, hP⟩ := into_ok x hokx _ d3 hw3 hc3 hh3
        have HREC := qh hrec
        have HXX := qh hx
        have HY1 := qh y1
        have HW3 := qh hw3
        have HN3 := qh hn3
        have HM1 := qh hm1
        have HM2 := qh hm2
        have HP := qh hP
        have HL3 := qh hl3
        clear hx hrec hrd hmem hshx hokx y1 hw3 hn3 hx3 hc3 hh3 hap3 hm1 hm2 hP hl3 hp3
        go_wp2_with fail
        refine HREC.out.mono ?_
        rintro e w4 ⟨rfl, own4, ptr4, hT4, hS4⟩
        rw [HM1.out]
        replace hS4 := (HS3.out.ext HY1.out).trans hS4
        have hap4 := HAP.out.step hS4
        have ct := hap4.cells _ _ HTC.out
        have him : i ≠ m := fun e => HM2.out nd3 (e ▸ HN3.out)
        have hi4 := HP.out.old i nd3 him HN3.out
        obtain ⟨kd, hk1, hk2⟩ := HP.out.node
        obtain ⟨g4, gcap4, _, _, c3, cg, _⟩ := hT4.at hi4
        have cgm := hT4.nv hk1 c3
        obtain ⟨av5, kv5, bi, oi, _, hki⟩ := hT4.node i nd3 hi4
        obtain ⟨avm, kvm, bm, om, _, _⟩ := hT4.node m kd hk1
        obtain ⟨ka5, kcap5, e5, _, hkm5⟩ := hki.len
        subst e5
        have ci3 := cellOf bi (i := 3) (v := .slice ka5 nd3.kids.length kcap5) rfl
        have hil : (i : Int) < ((PN.into (PN.intos i (T.put ⟨n.tag, n.attrs, anewB n.text, [], -1⟩) (n.kids.take k)) x).nodes.length : Int) := by have := (List.getElem?_eq_some_iff.1 hi4).1; omega
        have hml : (m : Int) < ((PN.into (PN.intos i (T.put ⟨n.tag, n.attrs, anewB n.text, [], -1⟩) (n.kids.take k)) x).nodes.length : Int) := by have := (List.getElem?_eq_some_iff.1 hk1).1; omega
        have hlen5 := HP.out.wf.small.len
        have hnl : nd3.kids.length ≤ 60000 := by
          have := (HP.out.wf.small.len)
          have h1 := HL3.out
          have h2 := HC.out
          have h3 := HW.out.small.cap1
          have h4 := HW.out.small.count0
          omega
        have notc := (hap4 _ _ HTC.out).2
        obtain ⟨hog4, hotb4⟩ := hT4.rowOwn hi4 c3
        obtain ⟨i0, hii, hz0, hz1, hz2⟩ := info_parts infoI
        have npi : ptr4 m ≠ ptr4 i := fun e => by rw [e, oi] at om; simp at om; omega
        have fi3 := freeOf bi 3
        have fm4 := freeOf bm 4
        have cm4 := cellOf bm (i := 4) (v := .int .i64 kd.parent) rfl
        have lpi := cell_lt ci3
        have lpm := cell_lt cm4
        have n1 : ∀ z, own4 z = some (4, i) → z ≠ tc := fun z hz e => by rw [e, notc] at hz; cases hz
        have n2 : ∀ z, own4 z = some (4, i) → z ≠ tb := fun z hz e => by rw [e, hotb4] at hz; cases hz
        have n3 : ∀ z, own4 z = some (4, i) → z ≠ g4 := fun z hz e => by rw [e, hog4] at hz; cases hz
        have n4 : ∀ z, own4 z = some (4, i) → z ≠ ptr4 i := fun z hz e => by rw [e, oi] at hz; cases hz
        have n5 : ∀ z, own4 z = some (4, i) → z ≠ ptr4 m := fun z hz e => by rw [e, om] at hz; cases hz
        have m1 : tc ≠ ptr4 i := fun e => by rw [e, oi] at notc; cases notc
        have m2 : tb ≠ ptr4 i := fun e => by rw [e, oi] at hotb4; cases hotb4
        have m3 : g4 ≠ ptr4 i := fun e => by rw [e, oi] at hog4; cases hog4
        have hpw : ∀ x, x < w.heap.size → own4 x ≠ none → own x ≠ none := fun x hx hn => by rw [← hS4.same x hx]; exact hn
        have Hi := qh hii
        have Hz0 := qh hz0
        have Hz1 := qh hz1
        have Hz2 := qh hz2
        have HT4 := qh hT4
        have HS4 := qh hS4
        have HI4 := qh hi4
        have HK1 := qh hk1
        have HIM := qh him
        have HKI := qh hki
        have HPW := qh hpw
        have N1 := qh n1
        have N2 := qh n2
        have N3 := qh n3
        have N4 := qh n4
        have N5 := qh n5
        have FI3 := qh fi3
        have FM4 := qh fm4
        have CM4 := qh cm4
        have CGM := qh cgm
        have HK2 := qh hk2
        have HW4 := qh HP.out.wf
        generalize hTG : PN.into (PN.intos i (T.put ⟨n.tag, n.attrs, anewB n.text, [], -1⟩) (n.kids.take k)) x = TG at *
        have HTG := qh hTG
        have hi0' : (0 : Int) ≤ (i : Int) := Int.natCast_nonneg _
        have hm0' : (0 : Int) ≤ (m : Int) := Int.natCast_nonneg _
        have npz : ptr4 i ≠ w4.heap.size := Nat.ne_of_lt lpi
        have npz' := Ne.symm npz
        have ct' := fun (p : Addr) (v : Value) (h : w4.cell? p = some v) => ((Ext.refl w4).alloc (.cells #[.int .i64 m] 3)).cells p v h
        have ci3' : (w4.alloc (.cells #[.int .i64 m] 3)).cell? ⟨ptr4 i, 3, none⟩ = some (.slice ka5 nd3.kids.length kcap5) := ct' _ _ ci3
        have c3' := ct' _ _ c3
        have cg' := ct' _ _ cg
        replace ct' := ct' _ _ ct
        unfold maxLen at hkm5
        clear hii hz0 hz1 hz2 hT4 hS4 hi4 hk1 him hki hpw n1 n2 n3 n4 n5 fi3 fm4 cm4 cgm hk2 hTG bi bm notc hog4 hotb4 oi om hap4 HREC HW3 HN3 HM2 HP q0 q1 q2 q3 hpc'
        have xA : Ext w4 (w4.alloc (.cells #[.int .i64 m] 3)).drew := ((Ext.refl w4).alloc _).drew
        obtain ⟨v', wA, row, hrunA, hrA, hgA, hrowA⟩ := run_append_row (P := Tryz.prog) ((w4.alloc (.cells #[.int .i64 m] 3)).drew) 62 62 3 i0 (.int .i64 0) 1 8 Tryz.underlying62 Hi.out Hz0.out Hz1.out Hz2.out rfl (by decide) (p := fun b => own4 b = some (4, i)) (RowP.ext HKI.out xA) ⟨w4.heap.size, 0, none⟩ 1 1 [.int .i64 m] rfl (cell_one_new' (show (w4.alloc (.cells #[.int .i64 m] 3)).drew.cell? ⟨w4.heap.size, 0, none⟩ = some (.int .i64 m) from cellOf (heap_alloc_new w4 _) rfl)) (by simp [Value.oneCell']) (by decide) (by unfold maxLen; omega) (by omega)
        have ctA := grownCell xA hgA ct fun z hz => N1.out z (hrowA z hz)
        have c3A := grownCell xA hgA c3 fun z hz => N2.out z (hrowA z hz)
        have cgA := grownCell xA hgA cg fun z hz => N3.out z (hrowA z hz)
        have ciA := grownCell xA hgA ci3 fun z hz => N4.out z (hrowA z hz)
        have fA := grownFree xA hgA lpi FI3.out fun z hz => N4.out z (hrowA z hz)
        have fM := grownFree xA hgA lpm FM4.out fun z hz => N5.out z (hrowA z hz)
        have cM := grownCell xA hgA CM4.out fun z hz => N5.out z (hrowA z hz)
        have cG := grownCell xA hgA CGM.out fun z hz => N3.out z (hrowA z hz)
        have HJ := qh (join_plain (HS4.out.ext xA) (HT4.out.keep (xA.keep HS4.out.owned)) HI4.out HK1.out HIM.out HPW.out hrA hgA hrowA)
        obtain ⟨a7, cap7, e7, _⟩ := hrA.rd.len_of
        subst e7
        have HRA := qh hrunA
        clear hrA hgA hrowA hrunA
        go_upto_region 6 with fail
        go_cut [] (fun wx => wx = wA.setCell ⟨ptr4 i, 3, none⟩ (.slice a7 (nd3.kids.length + 1) cap7))
        case first =>
         as_aux_lemma =>
          refine wp_region_E (S := fun w' => w'.cell? ⟨tc, 0, none⟩ = some (.pointer (some ⟨tb, 0, none⟩)) ∧ w'.cell? ⟨tb, 3, none⟩ = some (.slice (some ⟨g4, 0, none⟩) TG.nodes.length gcap4) ∧ w'.cell? ⟨g4, i, none⟩ = some (.pointer (some ⟨ptr4 i, 0, none⟩)) ∧ w'.cell? ⟨ptr4 i, 3, none⟩ = some (.slice ka5 nd3.kids.length kcap5)) (n := 22) (by kernel_rfl) ?_
          have hS : w4.drew.cell? ⟨tc, 0, none⟩ = some (.pointer (some ⟨tb, 0, none⟩)) ∧ w4.drew.cell? ⟨tb, 3, none⟩ = some (.slice (some ⟨g4, 0, none⟩) TG.nodes.length gcap4) ∧ w4.drew.cell? ⟨g4, i, none⟩ = some (.pointer (some ⟨ptr4 i, 0, none⟩)) ∧ w4.drew.cell? ⟨ptr4 i, 3, none⟩ = some (.slice ka5 nd3.kids.length kcap5) := ⟨ct, c3, cg, ci3⟩
          show wpE _ _ _ _ _ 22 23 (Array.replicate 23 false) _ _
          refine wpE_tk 0 29 (.pointer (some ⟨tb, 0, none⟩)) rfl (.inl ⟨by rfl, fun w' hSw => ?_⟩) hS ?_
          · (obtain ⟨s1, s2, s3, s4⟩ := hSw; clear hS; go_simp)
          try simp only [Act.put, zA, zB, zC]
          refine wpE_tk 1 30 (.pointer (some ⟨tb, 0, none⟩)) rfl (.inl ⟨by rfl, fun w' hSw => ?_⟩) hS ?_
          · (obtain ⟨s1, s2, s3, s4⟩ := hSw; clear hS; go_simp)
          try simp only [Act.put, zA, zB, zC]
          refine wpE_tk 2 31 (.pointer (some ⟨tb, 3, none⟩)) rfl (.inl ⟨by rfl, fun w' hSw => ?_⟩) hS ?_
          · (obtain ⟨s1, s2, s3, s4⟩ := hSw; clear hS; go_simp)
          try simp only [Act.put, zA, zB, zC]
          refine wpE_tk 3 32 (.slice (some ⟨g4, 0, none⟩) TG.nodes.length gcap4) rfl (.inl ⟨by rfl, fun w' hSw => ?_⟩) hS ?_
          · (obtain ⟨s1, s2, s3, s4⟩ := hSw; clear hS; go_simp)
          try simp only [Act.put, zA, zB, zC]
          refine wpE_tk 4 33 (.int .i64 i) rfl (.inl ⟨by rfl, fun w' hSw => ?_⟩) hS ?_
          · (obtain ⟨s1, s2, s3, s4⟩ := hSw; clear hS; go_simp)
          try simp only [Act.put, zA, zB, zC]
          refine wpE_tk 5 34 (.pointer (some ⟨g4, i, none⟩)) rfl (.inl ⟨by rfl, fun w' hSw => ?_⟩) hS ?_
          · (obtain ⟨s1, s2, s3, s4⟩ := hSw; clear hS; go_simp)
          try simp only [Act.put, zA, zB, zC]
          refine wpE_tk 6 35 (.pointer (some ⟨ptr4 i, 0, none⟩)) rfl (.inl ⟨by rfl, fun w' hSw => ?_⟩) hS ?_
          · (obtain ⟨s1, s2, s3, s4⟩ := hSw; clear hS; go_simp)
          try simp only [Act.put, zA, zB, zC]
          refine wpE_tk 7 36 (.pointer (some ⟨tb, 0, none⟩)) rfl (.inl ⟨by rfl, fun w' hSw => ?_⟩) hS ?_
          · (obtain ⟨s1, s2, s3, s4⟩ := hSw; clear hS; go_simp)
          try simp only [Act.put, zA, zB, zC]
          refine wpE_tk 8 37 (.pointer (some ⟨tb, 0, none⟩)) rfl (.inl ⟨by rfl, fun w' hSw => ?_⟩) hS ?_
          · (obtain ⟨s1, s2, s3, s4⟩ := hSw; clear hS; go_simp)
          try simp only [Act.put, zA, zB, zC]
          refine wpE_tk 9 38 (.pointer (some ⟨tb, 3, none⟩)) rfl (.inl ⟨by rfl, fun w' hSw => ?_⟩) hS ?_
          · (obtain ⟨s1, s2, s3, s4⟩ := hSw; clear hS; go_simp)
          try simp only [Act.put, zA, zB, zC]
          refine wpE_tk 10 39 (.slice (some ⟨g4, 0, none⟩) TG.nodes.length gcap4) rfl (.inl ⟨by rfl, fun w' hSw => ?_⟩) hS ?_
          · (obtain ⟨s1, s2, s3, s4⟩ := hSw; clear hS; go_simp)
          try simp only [Act.put, zA, zB, zC]
          refine wpE_tk 11 40 (.int .i64 i) rfl (.inl ⟨by rfl, fun w' hSw => ?_⟩) hS ?_
          · (obtain ⟨s1, s2, s3, s4⟩ := hSw; clear hS; go_simp)
          try simp only [Act.put, zA, zB, zC]
          refine wpE_tk 12 41 (.pointer (some ⟨g4, i, none⟩)) rfl (.inl ⟨by rfl, fun w' hSw => ?_⟩) hS ?_
          · (obtain ⟨s1, s2, s3, s4⟩ := hSw; clear hS; go_simp)
          try simp only [Act.put, zA, zB, zC]
          refine wpE_tk 13 42 (.pointer (some ⟨ptr4 i, 0, none⟩)) rfl (.inl ⟨by rfl, fun w' hSw => ?_⟩) hS ?_
          · (obtain ⟨s1, s2, s3, s4⟩ := hSw; clear hS; go_simp)
          try simp only [Act.put, zA, zB, zC]
          refine wpE_tk 14 43 (.pointer (some ⟨ptr4 i, 0, none⟩)) rfl (.inl ⟨by rfl, fun w' hSw => ?_⟩) hS ?_
          · (obtain ⟨s1, s2, s3, s4⟩ := hSw; clear hS; go_simp)
          try simp only [Act.put, zA, zB, zC]
          refine wpE_tk 15 44 (.pointer (some ⟨ptr4 i, 3, none⟩)) rfl (.inl ⟨by rfl, fun w' hSw => ?_⟩) hS ?_
          · (obtain ⟨s1, s2, s3, s4⟩ := hSw; clear hS; go_simp)
          try simp only [Act.put, zA, zB, zC]
          refine wpE_tk 16 45 (.slice ka5 nd3.kids.length kcap5) rfl (.inl ⟨by rfl, fun w' hSw => ?_⟩) hS ?_
          · (obtain ⟨s1, s2, s3, s4⟩ := hSw; clear hS; go_simp)
          try simp only [Act.put, zA, zB, zC]
          refine wpE_tk 17 46 (.int .i64 m) rfl (.inl ⟨by rfl, fun w' hSw => ?_⟩) hS ?_
          · (obtain ⟨s1, s2, s3, s4⟩ := hSw; clear hS; go_simp)
          try simp only [Act.put, zA, zB, zC]
          refine wpE_on 18 (some 47) rfl (fun K hK => ?_)
          go_simp
          refine hK.out _ _ (.inr ⟨ct', c3', cg', ci3'⟩) ?_
          clear hK K
          try simp only [Act.put, zA, zB, zC]
          refine wpE_on 19 (some 48) rfl (fun K hK => ?_)
          refine step_append_run (by rfl) _ _ 62 (by rfl) (.slice ka5 nd3.kids.length kcap5) (.slice (some ⟨w4.heap.size, 0, none⟩) 1 1) (by rfl) (by rfl) (.slice a7 (nd3.kids.length + 1) cap7) wA HRA.out ?_
          refine hK.out _ _ (.inr ⟨ctA, c3A, cgA, ciA⟩) ?_
          clear hK K
          try simp only [Act.put, zA, zB, zC]
          refine wpE_on 20 (some 49) rfl (fun K hK => ?_)
          go_simp
          refine hK.out _ _ (.inr ⟨ctA, c3A, cgA, ciA⟩) ?_
          clear hK K
          try simp only [Act.put, zA, zB, zC]
          refine wpE_on 21 (some 50) rfl (fun K hK => ?_)
          go_simp
          refine hK.out _ _ (.inr ⟨ctA, c3A, cgA, ciA⟩) ?_
          clear hK K
          try simp only [Act.put, zA, zB, zC]
          refine wpE_on 22 (none) rfl (fun K hK => ?_)
          go_simp
          refine hK.out _ _ (.inl rfl) ?_
          clear hK K
          refine wpE_done (by kernel_rfl) ?_
          go_wp2_with fail
          go_meet
          rfl
        case rest =>
          subst hcut
          have m1' := Ne.symm m1
          have m2' := Ne.symm m2
          have m3' := Ne.symm m3
          have npi' := Ne.symm npi
          have ctB : (wA.setCell ⟨ptr4 i, 3, none⟩ (.slice a7 (nd3.kids.length + 1) cap7)).cell? ⟨tc, 0, none⟩ = some (.pointer (some ⟨tb, 0, none⟩)) := (World.cell?_of_block (a := ⟨tc, 0, none⟩) (heap_setCell_other _ m1)).trans ctA
          have c3B : (wA.setCell ⟨ptr4 i, 3, none⟩ (.slice a7 (nd3.kids.length + 1) cap7)).cell? ⟨tb, 3, none⟩ = some (.slice (some ⟨g4, 0, none⟩) TG.nodes.length gcap4) := (World.cell?_of_block (a := ⟨tb, 3, none⟩) (heap_setCell_other _ m2)).trans c3A
          have cgB : (wA.setCell ⟨ptr4 i, 3, none⟩ (.slice a7 (nd3.kids.length + 1) cap7)).cell? ⟨g4, m, none⟩ = some (.pointer (some ⟨ptr4 m, 0, none⟩)) := (World.cell?_of_block (a := ⟨g4, m, none⟩) (heap_setCell_other _ m3)).trans cG
          have cmB : (wA.setCell ⟨ptr4 i, 3, none⟩ (.slice a7 (nd3.kids.length + 1) cap7)).cell? ⟨ptr4 m, 4, none⟩ = some (.int .i64 kd.parent) := (World.cell?_of_block (a := ⟨ptr4 m, 4, none⟩) (heap_setCell_other _ npi)).trans cM
          have fmB : (wA.setCell ⟨ptr4 i, 3, none⟩ (.slice a7 (nd3.kids.length + 1) cap7)).frozen? ⟨ptr4 m, 4, none⟩ = false := (World.frozen?_of_block (a := ⟨ptr4 m, 4, none⟩) (heap_setCell_other _ npi)).trans fM
          obtain ⟨wB, hwB⟩ : ∃ wB : World, wB = wA.setCell ⟨ptr4 i, 3, none⟩ (.slice a7 (nd3.kids.length + 1) cap7) := ⟨_, rfl⟩
          rw [← hwB] at ctB c3B cgB cmB fmB HJ ⊢
          clear hwB ctA c3A cgA ciA fA fM cM cG ct c3 cg ci3 ct' c3' cg' ci3' HRA
          go_wp2_with fail
          go_roundw
          case rel =>
            obtain ⟨own1, _, _, j3, j4⟩ := HJ.out
            refine ⟨k + 1, by omega, by go_num, own1, ptr4, ?_, j3⟩
            rw [intos_take _ _ _ _ _ HXX.out, HTG.out, HM1.out]
            have e : TG.join i m = TG.attach i m nd3 kd := by
              unfold Tr.join
              rw [Int.toNat_natCast, Int.toNat_natCast, look_of HI4.out, look_of HK1.out]
            rw [e]; exact j4
          case measure => simp [intOf]; omega
    · go_wp2_with fail
      go_ret
      refine ⟨by rw [HI1.out]; rfl, own3, ptr3, ?_, HS3.out⟩
      have h := HT3.out
      rw [List.take_of_length_le (by omega)] at h
      rw [PN.into_eq, HI1.out]
      exact h
theorem nodup_le {l m : List Int} (hn : l.Nodup) (h : ∀ x ∈ l, x ∈ m) : l.length ≤ m.length := by
  induction l generalizing m with
  | nil => simp
  | cons a r ih =>
    have ha := h a (by simp)
    have hr := List.nodup_cons.1 hn
    have := ih (m := m.erase a) hr.2 fun x hx => (List.mem_erase_of_ne (fun e => hr.1 (by rw [← e]; exact hx))).2 (h x (by simp [hx]))
    rw [List.length_erase_of_mem ha] at this
    have := List.length_pos_of_mem ha
    simp only [List.length_cons]; omega
theorem WF.kids_len {T : Tr} {d : Nat → Nat} (hw : WF T d) {i : Nat} {nd : Nd} (h : T.nodes[i]? = some (some nd)) : nd.kids.length ≤ 2000 := by
  have h1 := nodup_le (m := (List.range T.nodes.length).map Int.ofNat) (hw.kids i nd h).1 fun x hx => by
    obtain ⟨j, kd, rfl, hj, _⟩ := (hw.kids i nd h).2 x hx
    exact List.mem_map.2 ⟨j, List.mem_range.2 (List.getElem?_eq_some_iff.1 hj).1, rfl⟩
  simp at h1
  have := hw.small.len
  omega
theorem Put.apart {T T' : Tr} {d d' : Nat → Nat} {i : Nat} {n : PN} {sz hi : Nat} (hP : Put T T' d' i n sz hi) (hw : WF T d) (hi2 : ∀ x : Nd, T.nodes[i]? ≠ some (some x)) :
    ∀ (j : Nat) (jd : Nd), T.nodes[j]? = some (some jd) → T'.within j i = false ∧ d' j = d j := by
  refine hw.induct _ (fun j jd h hp hd => ?_) (fun j jd p pd h hp hpd hd ih => ?_)
  · have hji : j ≠ i := fun e => hi2 jd (e ▸ h)
    have h' := hP.old j jd hji h
    refine ⟨by rw [hP.wf.within_root h' hp]; simp; omega, ?_⟩
    rcases hP.wf.up j jd h' with ⟨h3, h4⟩ | ⟨q, qd, h3, h4, h5, h6⟩
    · omega
    · omega
  · have hji : j ≠ i := fun e => hi2 jd (e ▸ h)
    have h' := hP.old j jd hji h
    refine ⟨by rw [hP.wf.within_step h', if_neg (by omega), hp]; exact ih.1, ?_⟩
    rcases hP.wf.up j jd h' with ⟨h3, h4⟩ | ⟨q, qd, h3, h4, h5, h6⟩
    · omega
    · obtain rfl : q = p := by omega
      omega
def Tr.grafted (T : Tr) (p at' : Nat) (pd : Nd) (n : PN) : Tr := (PN.into T n).link p at' T.newId.toNat pd ((PN.into T n).look T.newId)
theorem Graft_ok {g w : World} {own : Ow} {ptr : Nat → Nat} {tb : Nat} {T : Tr} (hT : TreeAt w own ptr tb T) (hO : Owned own w) {d : Nat → Nat} (hw : WF T d) {p at' : Nat} {pd : Nd} (hp : T.nodes[p]? = some (some pd)) (ht : (pd.tag == 0) = false) (hat : at' ≤ pd.kids.length)
    {n : PN} {nv : Value} (hr : RdN g n nv) (hap : Apart g own w) (hsh : n.short = true) (hsz : n.size ≤ 90000) (hok : n.ok = true) (hdp : (d p : Int) + 1 + n.high ≤ T.deep) (hf : (n.size : Int) ≤ T.cap - T.count) :
    Calls Tryz.prog 22 #[.pointer (some ⟨tb, 0, none⟩), .int .i64 p, .int .i64 at', nv] w (TwoAfter own w tb T.newId (T.grafted p at' pd n)) := by
  obtain ⟨av, kv, rfl, ha, hk⟩ := hr.open
  obtain ⟨aa, acap, rfl, hac⟩ := ha.len_of
  obtain ⟨ka', kcap', rfl, hkc, hkm, hkn, hkr⟩ := hk
  have x1 := ((Ext.refl w).alloc (.cells #[.pointer (some ⟨tb, 0, none⟩)] 38)).alloc (.cells #[.int .i64 n.tag, .slice aa n.attrs.length acap, .string n.text, .slice ka' n.kids.length kcap'] 26)
  have hT1 := hT.keep (x1.keep hO)
  obtain ⟨avp, kvp, bp, op, _, hkp⟩ := hT1.node _ _ hp
  obtain ⟨ka, kcap, rfl, kc1, kc2⟩ := hkp.len
  have cp0 := cellOf bp (i := 0) (v := .int .i64 pd.tag) rfl
  have cp3 := cellOf bp (i := 3) (v := .slice ka pd.kids.length kcap) rfl
  have hms := measure_any (hr.cells (hap.ext x1).cells) hsh hsz
  have HMS := qh hms
  have HP := qh (Tr.get_of hp)
  have HNP := qh hp
  have HT := qh hT
  have HT1 := qh hT1
  have HO := qh hO
  have HW := qh hw
  have HX := qh x1
  have HR := qh hr
  have HAP := qh hap
  have hszb : (n.size : Int) ≤ 90000 := by omega
  have hpb : (p : Int) ≤ 2000 := by have := (List.getElem?_eq_some_iff.1 hp).1; have := hw.small.len; omega
  have hd1 := hw.deep p pd hp
  have hd2 := hw.small.deep1
  have hkl := hw.kids_len hp
  have hhn : (n.high : Int) ≤ 90000 := by have := high_lt n; omega
  have heb : ((PN.look 0 ⟨0, 0, 0⟩ n).e != 0) = false := by
    have := ((look_spec n 0 ⟨0, 0, 0⟩).2.2).2 ⟨rfl, hok⟩
    simp [this]
  obtain ⟨dz, m, hm1, hm0, hm2, hPut⟩ := into_ok n hok T d hw (by omega) (by omega)
  obtain ⟨kd, hk1, hk2⟩ := hPut.node
  have hpm : p ≠ m := fun e => hm2 pd (e ▸ hp)
  have hp2 := hPut.old p pd hpm hp
  obtain ⟨hap1, hap2⟩ := hPut.apart hw hm2 p pd hp
  have hgr : T.grafted p at' pd n = (PN.into T n).link p at' m pd kd := by
    unfold Tr.grafted; rw [hm1, Int.toNat_natCast, look_of hk1]
  have hdz : (dz p : Int) + 1 + (PN.into T n).hgt 50 m ≤ (PN.into T n).deep := by
    have h1 : (PN.into T n).hgt 50 m = n.high := hPut.high
    rw [h1, hPut.deep, hap2]; exact hdp
  have HF := qh hf
  have HM1 := qh hm1
  have HM0 := qh hm0
  have HPUT := qh hPut
  have HK1 := qh hk1
  have HK2 := qh hk2
  have HP2 := qh hp2
  have HA1 := qh hap1
  have HGR := qh hgr
  have HDZ := qh hdz
  have HOK := qh hok
  have HSH := qh hsh
  have HDP := qh hdp
  clear hf hm1 hm0 hPut hk1 hk2 hp2 hap1 hgr hdz hm2 hap2
  clear hr hap hT hO hw hp x1 hT1 bp hkp op hms hkr hkn ha kc2
  go_enter Tryz.func22, Tryz.ntmps22
  go_wp2_with fail
  refine (get_some HT1.out HP.out).mono ?_
  rintro e w' ⟨rfl, rfl⟩
  go_wp2_with fail
  refine HMS.out.mono ?_
  rintro e w2 ⟨rfl, hx2⟩
  have c0 := hx2.cell (b := w.heap.size) (o := 0) (v := .pointer (some ⟨tb, 0, none⟩)) (by simp [go_sem])
  have hT2 := HT.out.keep ((HX.out.trans hx2).keep HO.out)
  have hO2 : Owned own w2 := fun b hb => Nat.lt_of_lt_of_le (HO.out b hb) (HX.out.trans hx2).size
  obtain ⟨nv2, hb2, hot, _⟩ := hT2.head
  have ct1 := cellOf hb2 (i := 1) (v := .int .i64 T.deep) rfl
  have c0' := fun u : ExtOf w2 => u.ext.cell c0
  have ct1' := fun u : ExtOf w2 => u.ext.cell ct1
  have HT2 := qh hT2
  have HO2 := qh hO2
  have HX2 := qh hx2
  have hq1 : IntKind.i64.wrap ((d p : Int) + 1) = (d p : Int) + 1 := IntWalk.i64_in _ (by omega)
  have hq2 : IntKind.i64.wrap ((d p : Int) + 1 + (n.high : Int)) = (d p : Int) + 1 + (n.high : Int) := IntWalk.i64_in _ (by omega)
  clear hT2 hO2 hx2 hb2 hot
  go_wp2_with fail
  refine wp_region_ext (by kernel_rfl) (by kernel_rfl) ?_
  repeat (go_big_quiet_step ((go_at_call 43; exact inExt (RSame.val (Depth_some (HT2.out.keep (ExtOf.ext _ |>.keep HO2.out)) HW.out HNP.out)))))
  refine wpQuiet_nil ?_
  rintro _ ⟨u, rfl⟩
  obtain ⟨wu, xu⟩ := u
  show Exit.then _ _ Exit.normal _ wu
  clear c0' ct1' hq1 hq2
  replace c0 := xu.cell c0
  have c7 : wu.cell? ⟨w.heap.size + 1, 0, none⟩ = some (.int .i64 n.tag) ∧ wu.cell? ⟨w.heap.size + 1, 1, none⟩ = some (.slice aa n.attrs.length acap) ∧ wu.cell? ⟨w.heap.size + 1, 2, none⟩ = some (.string n.text) ∧ wu.cell? ⟨w.heap.size + 1, 3, none⟩ = some (.slice ka' n.kids.length kcap') :=
    ⟨(HX2.out.trans xu).cell (by simp [go_sem]), (HX2.out.trans xu).cell (by simp [go_sem]), (HX2.out.trans xu).cell (by simp [go_sem]), (HX2.out.trans xu).cell (by simp [go_sem])⟩
  have XU := qh xu
  clear xu
  go_wp2_with fail
  refine (room_yes (HT2.out.keep (XU.out.keep HO2.out)) HW.out.small n.size (by omega) HF.out).mono ?_
  rintro e w5 ⟨rfl, hx5⟩
  have x25 := XU.out.trans hx5
  have x05 := (HX.out.trans HX2.out).trans x25
  have y6 := (Ext.refl w5).alloc (.cells #[putF w.heap.size w5.heap.size] 36)
  have hT6 := HT.out.keep ((x05.trans y6).keep HO.out)
  have hO6 : Owned own (w5.alloc (.cells #[putF w.heap.size w5.heap.size] 36)) := fun b hb => Nat.lt_of_lt_of_le (HO.out b hb) (x05.trans y6).size
  have fresh : ∀ b, w.heap.size ≤ b → own b = none := fun b hb => by
    cases ho : own b with
    | none => rfl
    | some x => have := HO.out b (by simp [ho]); omega
  have c0w := (hx5.trans y6).cell c0
  have hs5 := x05.size
  have hpcell : (w5.alloc (.cells #[putF w.heap.size w5.heap.size] 36)).cell? ⟨w5.heap.size, 0, none⟩ = some (putF w.heap.size w5.heap.size) := cellOf (heap_alloc_new w5 _) rfl
  have hput := put_any (hide_cell (own := own) c0w (fresh _ (Nat.le_refl _))) (hide_cell (own := own) hpcell (fresh _ hs5)) n HOK.out HSH.out _ T d own ptr _ (HR.out.cells (HAP.out.ext (x05.trans y6)).hide) (hide_apart own _) hT6 hO6 HW.out (by have := HF.out; omega) (by have := HDP.out; omega)
  have d0 := c0w
  have d1 := (hx5.trans y6).cell c7.1
  have d2 := (hx5.trans y6).cell c7.2.1
  have d3 := (hx5.trans y6).cell c7.2.2.1
  have d4 := (hx5.trans y6).cell c7.2.2.2
  have HPT := qh hput
  have X6 := qh (x05.trans y6)
  have FR := qh fresh
  clear hput hT6 hO6 fresh c0w hpcell x05 y6 c0 c7 hx5 x25
  go_wp2_with fail
  refine HPT.out.mono ?_
  rintro e w7 ⟨rfl, own7, ptr7, hT7, hS7⟩
  rw [HM1.out]
  have e0 := hS7.cellOld (FR.out _ (Nat.le_refl _)) d0
  have hS7' := (X6.out.step HO.out).trans hS7
  have hins := Insert_ok (at' := at') hT7 hS7.owned HPUT.out.wf HP2.out HK1.out ht HM0.out HK2.out hat (by omega) HA1.out HDZ.out (insertsAt_any _ _)
  have HINS := qh hins
  have HS7 := qh hS7'
  clear hins hT7 hS7 hS7' d0 d1 d2 d3 d4
  go_wp2_with fail
  refine HINS.out.mono ?_
  rintro e w8 ⟨rfl, own8, ptr8, hT8, hS8⟩
  go_wp2_with fail
  go_ret2
  refine ⟨by rw [HM1.out]; rfl, own8, ptr8, ?_, HS7.out.trans hS8⟩
  rw [HGR.out]; exact hT8
end Go.Proofs.YtalaajbajgdglaaGreatDoor
namespace Go.Proofs.YtalaajbajgdglaaGreatDoor
open Go Go.RowKit Go.BigFrame Go.ChangeShapes Go.WideShapes Go.Deep We
end Go.Proofs.YtalaajbajgdglaaGreatDoor
namespace Go.Proofs.YtalaajbajgdglaaGreatDoor
open Go Go.RowKit Go.BigFrame We
theorem AttrsOk.look {T : Tr} (h : AttrsOk T) (i : Int) : NdOk (T.look i) := by
  unfold Tr.look
  cases hg : T.get? i with
  | none => simp [NdOk]
  | some nd => exact h _ nd (Tr.get_lt hg).2.2
theorem AttrsOk.join {T : Tr} (h : AttrsOk T) (p k : Int) : AttrsOk (T.join p k) := h.set2 (h.look p) (h.look k)
theorem intos_attrs (id : Int) : ∀ (l : List PN), (∀ k ∈ l, ∀ T, AttrsOk T → AttrsOk (PN.into T k)) → ∀ T, AttrsOk T → AttrsOk (PN.intos id T l) := by
  intro l
  induction l with
  | nil => intro _ T h; exact h
  | cons k r ih => intro hk T h; exact ih (fun x hx => hk x (by simp [hx])) _ ((hk k (by simp) T h).join _ _)
theorem into_attrs : ∀ n : PN, n.ok = true → n.short = true → ∀ T, AttrsOk T → AttrsOk (PN.into T n) := by
  refine PN.induct _ fun n ih ho hs T h => ?_
  rw [PN.short_eq] at hs
  simp at hs
  have ho' := ho
  rw [PN.ok_eq] at ho'
  simp at ho'
  rw [PN.into_eq]
  exact intos_attrs _ _ (fun k hk => ih k hk (PN.oks_mem (PN.ok_kids ho) hk) (PN.shorts_mem hs.2 hk)) _ (h.put _ ⟨hs.1.2, ho'.1.2⟩)
theorem Step.fresh {own own' : Ow} {w w1 w2 : World} (h : Step own w1 own' w2) (hx : Ext w w1) (hn : ∀ b, own b ≠ none → w.heap.size ≤ b) : Ext w w2 ∧ ∀ b, own' b ≠ none → w.heap.size ≤ b := by
  have hs := Ext.size hx
  refine ⟨Below.trans hx ⟨h.os, h.tape, h.output, h.size, fun k hk => h.rest k (Nat.lt_of_lt_of_le hk hs) (Classical.byContradiction fun e => by have := hn k e; omega)⟩, fun b hb => ?_⟩
  rcases Nat.lt_or_ge b w1.heap.size with hlt | hge
  · exact hn b (by rw [← h.same b hlt]; exact hb)
  · exact Nat.le_trans hs hge
theorem RowP.below {w : World} {p : Nat → Prop} {e size : Nat} {v : Value} {n : Nat} {xs : List Value} (h : RowP w p e size v n xs) : RowP w (fun g => p g ∧ g < w.heap.size) e size v n xs := by
  obtain ⟨h1, h2 | ⟨g, cap, cur, rfl, h3, h4, h5⟩⟩ := h
  · exact ⟨h1, .inl h2⟩
  · refine ⟨h1, .inr ⟨g, cap, cur, rfl, ⟨h3, ?_⟩, h4, h5⟩⟩
    rcases Nat.lt_or_ge g w.heap.size with h | h
    · exact h
    · rw [Array.getElem?_eq_none h] at h4; cases h4
theorem plainBox_new {w1 w5 : World} {B : Nat} {tag : Int} {attrs : List (ByteArray × ByteArray)} {text : ByteArray} {aa : Option Addr} {acap : Nat} (hB : w1.heap.size ≤ B) (x : Ext w1 w5) (h : RowIn w5 B 104 2 (.slice aa attrs.length acap) attrs.length (attrCells attrs)) :
    PlainBox w1 (w5.alloc (.cells #[.int .i64 tag, .slice aa attrs.length acap, .string text, .slice none 0 0] 26)) w5.heap.size tag attrs text :=
  ⟨aa, acap, heap_alloc_new _ _, RowP.imp (RowP.ext (RowP.below h) ((Ext.refl w5).alloc _)) fun g _ hg => ⟨Nat.le_trans hB hg.1, Nat.ne_of_lt hg.2⟩⟩
theorem plainBox_old {w1 w5 : World} {B b : Nat} {tag : Int} {attrs : List (ByteArray × ByteArray)} {text : ByteArray} {aa : Option Addr} {acap : Nat} (hB : w1.heap.size ≤ B) (hb : b < B) (h : RowIn w5 B 104 2 (.slice aa attrs.length acap) attrs.length (attrCells attrs))
    {cs : Array Value} (hs : cs.size = 4) (hx : w5.heap[b]? = some (.cells cs 26 (0, 0))) :
    PlainBox w1 ((((w5.setCell ⟨b, 0, none⟩ (.int .i64 tag)).setCell ⟨b, 1, none⟩ (.slice aa attrs.length acap)).setCell ⟨b, 2, none⟩ (.string text)).setCell ⟨b, 3, none⟩ (.slice none 0 0)) b tag attrs text := by
  have e := heap_setCell_same (i := 3) (heap_setCell_same (i := 2) (heap_setCell_same (i := 1) (heap_setCell_same (i := 0) hx (.int .i64 tag)) (.slice aa attrs.length acap)) (.string text)) (.slice none 0 0)
  refine ⟨aa, acap, ?_, RowP.move h fun g hg => ⟨?_, Nat.le_trans hB hg, by have : B ≤ g := hg; omega⟩⟩
  · rw [e]
    obtain ⟨l⟩ := cs
    match l, hs with
    | [c0, c1, c2, c3], _ => rfl
  · have hne : g ≠ b := by have : B ≤ g := hg; omega
    rw [heap_setCell_other (p := ⟨b, 3, none⟩) _ hne, heap_setCell_other (p := ⟨b, 2, none⟩) _ hne, heap_setCell_other (p := ⟨b, 1, none⟩) _ hne, heap_setCell_other (p := ⟨b, 0, none⟩) _ hne]
theorem plain_fin {u w1 wr : World} {b : Nat} {nd : Nd} {F : Int → PN} {aa ak : Option Addr} {acap ck : Nat} {xs : List Value} {g : World} (hu : Ext u w1) (hB : u.heap.size < w1.heap.size) (hx : Ext w1 wr)
    (hb : wr.heap[b]? = some (.cells #[.int .i64 nd.tag, .slice aa nd.attrs.length acap, .string nd.text, .slice ak nd.kids.length ck] 26 (0, 0)))
    (hr : RowP wr (fun x => w1.heap.size ≤ x ∧ x ≠ b) 26 4 (.slice ak nd.kids.length ck) nd.kids.length xs) (ha : RowRd g 2 (.slice aa nd.attrs.length acap) nd.attrs.length (attrCells nd.attrs))
    (hk : ∀ (j : Nat) (x : Int), j < nd.kids.length → nd.kids[j]? = some x → ∃ c0 c1 c2 c3, xs[j * 4]? = some c0 ∧ xs[j * 4 + 1]? = some c1 ∧ xs[j * 4 + 2]? = some c2 ∧ xs[j * 4 + 3]? = some c3 ∧ RdN g (F x) (.agg #[c0, c1, c2, c3]))
    (hg : ∀ q x, g.cell? q = some x → wr.cell? q = some x ∧ w1.heap.size ≤ q.block ∧ q.block ≠ b ∧ (Value.slice ak nd.kids.length ck).ownBlock ≠ some q.block) (c0 c1 c2 c3 : Value) :
    PlainIs (.mk nd.tag nd.attrs nd.text (nd.kids.map F)) u (.returned (.agg #[.int .i64 nd.tag, .slice aa nd.attrs.length acap, .string nd.text, .slice ak nd.kids.length ck]))
      ((((wr.setCell ⟨u.heap.size, 0, none⟩ c0).setCell ⟨u.heap.size, 1, none⟩ c1).setCell ⟨u.heap.size, 2, none⟩ c2).setCell ⟨u.heap.size, 3, none⟩ c3) := by
  have hux : Ext u wr := hu.trans hx
  obtain ⟨w3, hw3⟩ : ∃ w3 : World, w3 = (((wr.setCell ⟨u.heap.size, 0, none⟩ c0).setCell ⟨u.heap.size, 1, none⟩ c1).setCell ⟨u.heap.size, 2, none⟩ c2).setCell ⟨u.heap.size, 3, none⟩ c3 := ⟨_, rfl⟩
  have e3 : Ext u w3 := hw3 ▸ (((hux.setCell (Nat.le_refl _) _).setCell (Nat.le_refl _) _).setCell (Nat.le_refl _) _).setCell (Nat.le_refl _) _
  have k3 : ∀ q y, wr.cell? q = some y → q.block ≠ u.heap.size → w3.cell? q = some y := fun q y hq hn => by
    rw [hw3, ← hq]
    refine World.cell?_of_block ?_
    rw [heap_setCell_other (p := ⟨u.heap.size, 3, none⟩) _ hn, heap_setCell_other (p := ⟨u.heap.size, 2, none⟩) _ hn, heap_setCell_other (p := ⟨u.heap.size, 1, none⟩) _ hn, heap_setCell_other (p := ⟨u.heap.size, 0, none⟩) _ hn]
  rw [← hw3]
  clear hw3
  have kk : ∀ q y, wr.cell? q = some y → w1.heap.size ≤ q.block → (hide (fun y => if w1.heap.size ≤ y then none else some (0, 0)) w3).cell? q = some y := fun q y hq hl => hide_cell (k3 q y hq (by omega)) (if_pos hl)
  have cg : Cells g (hide (fun y => if w1.heap.size ≤ y then none else some (0, 0)) w3) := fun q y hq => by
    obtain ⟨h1, h2, _⟩ := hg q y hq
    exact kk q y h1 h2
  refine ⟨_, hide (fun y => if w1.heap.size ≤ y then none else some (0, 0)) w3, rfl, RdN.mk' (n := .mk nd.tag nd.attrs nd.text (nd.kids.map F)) (ha.cells cg) ?_, e3, fun q y hq => ?_⟩
  · show KidsRd _ (nd.kids.map F) _
    obtain ⟨h1, h2 | ⟨gb, cap, cur, h8, h9, h10, h11, h12, h13, h14⟩⟩ := id hr
    · obtain ⟨h0, a0, h9⟩ := h2
      injection h9 with e1 e2 e3
      refine ⟨ak, ck, by rw [List.length_map], by rw [List.length_map]; omega, by omega, fun _ => ⟨by rw [List.length_map]; exact h0, e3⟩, fun a ha' j x hx' => ?_⟩
      have := (List.getElem?_eq_some_iff.1 hx').1
      rw [List.length_map] at this; omega
    · cases h8
      refine ⟨_, ck, by rw [List.length_map], by rw [List.length_map]; exact h11, h12, (fun e => by cases e), fun a ha' j x hx' => ?_⟩
      cases ha'
      rw [List.getElem?_map] at hx'
      obtain ⟨y, hy, rfl⟩ := Option.map_eq_some_iff.1 hx'
      obtain ⟨d0, d1, d2, d3, q0, q1, q2, q3, hq⟩ := hk j y (List.getElem?_eq_some_iff.1 hy).1 hy
      have cell : ∀ (m : Nat) z, xs[m]? = some z → (hide (fun y => if w1.heap.size ≤ y then none else some (0, 0)) w3).cell? (Addr.add ⟨gb, 0, none⟩ m) = some z := fun m z hz => by
        rw [Addr.add_lit, Nat.zero_add]
        refine kk ⟨gb, m, none⟩ z (cellOf h10 ?_) h9.1
        rw [← h14, List.getElem?_take] at hz
        split at hz
        · simpa using hz
        · cases hz
      exact ⟨d0, d1, d2, d3, cell _ _ q0, cell _ _ q1, cell _ _ q2, cell _ _ q3, hq.cells cg⟩
  · obtain ⟨h1, h2⟩ := hide_apart _ _ q y hq
    dsimp only at h2
    split at h2
    · rename_i h3
      exact ⟨h1, by omega⟩
    · cases h2
theorem erase_mid {l : List Int} {x : Int} (hx : x ∉ l) (i : Nat) : (l.take i ++ [x] ++ l.drop i).erase x = l := by
  rw [List.append_assoc, List.erase_append_right _ (fun h => hx (List.mem_of_mem_take h))]
  simp
theorem Tr.unlink_link {T : Tr} {p k at' : Nat} {pd kd : Nd} (hp : T.nodes[p]? = some (some pd)) (hk : T.nodes[k]? = some (some kd)) (hpk : p ≠ k) (hpar : kd.parent = -1) (hno : (k : Int) ∉ pd.kids) :
    (T.link p at' k pd kd).unlink p k { pd with kids := pd.kids.take at' ++ [(k : Int)] ++ pd.kids.drop at' } { kd with parent := p } = T := by
  rw [Tr.link_eq]
  unfold Tr.unlink
  rw [Tr.set2_set2 _ hpk]
  have e1 : ({ pd with kids := (pd.kids.take at' ++ [(k : Int)] ++ pd.kids.drop at').erase (k : Int) } : Nd) = pd := by rw [erase_mid hno]
  have e2 : ({ kd with parent := -1 } : Nd) = kd := by rw [← hpar]
  show T.set2 p k { pd with kids := (pd.kids.take at' ++ [(k : Int)] ++ pd.kids.drop at').erase (k : Int) } { kd with parent := -1 } = T
  rw [e1, e2]
  exact Tr.set2_self hpk hp hk
theorem plain_fuel {w : World} {own : Ow} {ptr : Nat → Nat} {tb : Nat} {T : Tr} (hT : TreeAt w own ptr tb T) (hO : Owned own w) {d : Nat → Nat} (hw : WF T d) (hA : AttrsOk T) :
    ∀ (f i : Nat) (nd : Nd) (u : World), T.nodes[i]? = some (some nd) → 41 ≤ d i + f → Ext w u → Calls Tryz.prog 23 #[.pointer (some ⟨tb, 0, none⟩), .int .i64 i] u (PlainIs (T.pln f i) u) := by
  intro f
  induction f with
  | zero => intro i nd u h h1; have := hw.deep i nd h; have := hw.small.deep1; omega
  | succ f ih =>
    intro i nd u h h1 hx
    rw [pln_step T f h]
    have xu := (Ext.refl u).alloc (.cells #[.int .i64 0, .slice none 0 0, .string ⟨#[]⟩, .slice none 0 0] 26)
    have bu := heap_alloc_new u (.cells #[.int .i64 0, .slice none 0 0, .string ⟨#[]⟩, .slice none 0 0] 26)
    have HT := qh hT
    have HO := qh hO
    have HW := qh hw
    have HH := qh h
    have HG := qh (Tr.get_of h)
    have IH := qh ih
    have HLA := qh (hA i nd h).1
    have hkl := hw.kids_len h
    clear hT hO hw hA h ih
    go_enter Tryz.func23, Tryz.ntmps23
    go_upto_region 1 with fail
    obtain ⟨w1, hw1⟩ : ∃ w1 : World, w1 = u.alloc (.cells #[.int .i64 0, .slice none 0 0, .string ⟨#[]⟩, .slice none 0 0] 26) := ⟨_, rfl⟩
    try rw [← hw1] at xu bu
    rw [← hw1]
    clear hw1
    have hx1 := hx.trans xu
    obtain ⟨av, kv, bi, _, hav, hkv⟩ := (HT.out.keep (hx1.keep HO.out)).node i nd HH.out
    obtain ⟨aa, acap, rfl, hac⟩ := RowP.len_of' hav
    obtain ⟨ka, kcap, rfl, hkc⟩ := RowP.len_of' hkv
    have n0 := cellOf bi (i := 0) (v := .int .i64 nd.tag) rfl
    have n1 := cellOf bi (i := 1) (v := .slice aa nd.attrs.length acap) rfl
    have n2 := cellOf bi (i := 2) (v := .string nd.text) rfl
    have n3 := cellOf bi (i := 3) (v := .slice ka nd.kids.length kcap) rfl
    have HAV := qh (RowP.rd hav)
    have HKV := qh hkv
    have HX1 := qh hx1
    have HXU := qh xu
    have HBU := qh bu
    have N3 := qh n3
    clear hav hkv hx1 xu bu bi n3
    go_upto_region 4 with (go_at_call 41; refine (get_some (HT.out.keep (HX1.out.keep HO.out)) HG.out).mono ?_; rintro e w' ⟨rfl, rfl⟩)
    have np := Nat.ne_of_lt (cell_lt n0)
    have np' := Ne.symm np
    go_cut [6] (fun s wx => ∃ b, s = .pointer (some ⟨b, 0, none⟩) ∧ w1.heap.size ≤ b ∧ PlainBox w1 wx b nd.tag nd.attrs nd.text ∧ Ext w1 wx)
    case first =>
      go_region_held3 (fun w' => w'.cell? ⟨ptr i, 0, none⟩ = some (.int .i64 nd.tag) ∧ w'.cell? ⟨ptr i, 1, none⟩ = some (.slice aa nd.attrs.length acap) ∧ w'.cell? ⟨ptr i, 2, none⟩ = some (.string nd.text))
        (first | exact ⟨n0, n1, n2⟩ | exact hkeep | go_keep)
        ((go_at_call 48; refine (cloneA_any (RowRd.ext HAV.out (by first | exact (Ext.refl w1).drew | exact ((Ext.refl w1).drew).alloc _ | exact ((Ext.refl w1).alloc _).drew)) HLA.out (attrCells_one _)).mono ?_; rintro e w5 ⟨va, rfl, hra, hxA⟩; obtain ⟨a8, cap8, e8, _⟩ := RowP.len_of' hra; subst e8; (try (have BX : w5.heap[w1.heap.size]? = some (.cells #[.int .i64 0, .slice none 0 0, .string ⟨#[]⟩, .slice none 0 0] 26) := hxA.block (heap_alloc_new w1.drew (.cells #[.int .i64 0, .slice none 0 0, .string ⟨#[]⟩, .slice none 0 0] 26)); have q0 := cellOf BX (i := 0) (v := .int .i64 0) rfl; have q1 := cellOf BX (i := 1) (v := .slice none 0 0) rfl; have q2 := cellOf BX (i := 2) (v := .string ⟨#[]⟩) rfl; have q3 := cellOf BX (i := 3) (v := .slice none 0 0) rfl; have r0 := freeOf BX 0; have r1 := freeOf BX 1; have r2 := freeOf BX 2; have r3 := freeOf BX 3)); have hkeep := And.intro (hxA.cell (Ext.cell (by first | exact (Ext.refl w1).drew | exact ((Ext.refl w1).drew).alloc _) n0)) (And.intro (hxA.cell (Ext.cell (by first | exact (Ext.refl w1).drew | exact ((Ext.refl w1).drew).alloc _) n1)) (hxA.cell (Ext.cell (by first | exact (Ext.refl w1).drew | exact ((Ext.refl w1).drew).alloc _) n2)))))
      all_goals go_wp2_with fail
      all_goals go_meet
      · have x15 : Ext w1 w5 := (Ext.refl w1).drew.trans hxA
        exact ⟨_, rfl, x15.size, plainBox_new (Nat.le_refl _) x15 hra, x15.alloc _⟩
      · have x15 : Ext w1 w5 := (((Ext.refl w1).drew).alloc _).trans hxA
        refine ⟨_, rfl, Nat.le_refl _, plainBox_old (B := w1.heap.size + 1) (by omega) (by omega) (by simpa using hra) rfl BX, (((x15.setCell (Nat.le_refl _) _).setCell (Nat.le_refl _) _).setCell (Nat.le_refl _) _).setCell (Nat.le_refl _) _⟩
    case rest =>
      obtain ⟨b, rfl, hb1, ⟨a8, cap8, hbox, hra⟩, hx8⟩ := hcut
      have n3 := hx8.cell N3.out
      have BX := qh hbox
      have HX8 := qh hx8
      have HRA := qh hra
      obtain ⟨ab, bcap, hat⟩ := PlainBox.at (T.pln f) ⟨a8, cap8, hbox, hra⟩ hx8
      have HAT := qh hat
      clear hbox hx8 hra n0 n1 n2 hat
      go_wp2_with fail
      go_loopw [37, 8] (fun j _ wr => ∃ k : Nat, k ≤ nd.kids.length ∧ j = .int .i64 k ∧ PlainAt w1 wr b nd (T.pln f) ab bcap k) (fun j _ _ => nd.kids.length - (intOf j).toNat)
      case atStart => exact ⟨0, Nat.zero_le _, rfl, HAT.out⟩
      case round =>
        obtain ⟨k, hk, rfl, hxr, kv, xs, g, hb, hr, hkb, hga, hkx, hgc⟩ := hrel
        clear HAT BX HX8 HRA n3
        by_cases hlt : k < nd.kids.length
        · obtain ⟨x, hxi⟩ : ∃ x, nd.kids[k]? = some x := ⟨nd.kids[k], by simp [hlt]⟩
          obtain ⟨j, kd, rfl, hj, hjp, hjd⟩ := HW.out.kid HH.out hxi
          obtain ⟨g0, cap0, e0, hc0⟩ := RowAt.cell HKV.out (i := k) (x := .int .i64 j) (by rw [List.getElem?_map, hxi]; rfl)
          cases e0
          replace hc0 := hxr.cell hc0
          obtain ⟨ak, ck, rfl, hck⟩ := hr.rd.len_of
          have cb := cellOf hb (i := 3) (v := .slice ak k ck) rfl
          have fb := freeOf hb 3
          have REC := qh (fun (z : World) (hz : Ext wr z) => IH.out j kd z hj (by omega) (hx.trans (HXU.out.trans (hxr.trans hz))))
          have HXR := qh hxr
          have HB := qh hb
          have HR := qh hr
          have HKB := qh hkb
          have HGA := qh hga
          have HKX := qh hkx
          have HGC := qh hgc
          have HXX := qh hxi
          clear hxr hb hr hkb hga hkx hgc hj hjp hjd hxi
          go_upto_region 8 with fail
          refine wp_region_E (S := fun w' => w'.cell? ⟨b, 3, none⟩ = some (.slice ak k ck)) (n := 8) (by kernel_rfl) ?_
          have hS : wr.drew.cell? ⟨b, 3, none⟩ = some (.slice ak k ck) := cb
          have hxd : Ext wr wr.drew := (Ext.refl wr).drew
          obtain ⟨wd, hwd⟩ : ∃ wd : World, wd = wr.drew := ⟨_, rfl⟩
          rw [← hwd] at hS hxd ⊢
          clear hwd
          show wpE _ _ _ _ _ 8 9 (Array.replicate 9 false) _ _
          refine wpE_tk 0 41 (.pointer (some ⟨b, 3, none⟩)) rfl (.inl ⟨by rfl, fun w' hSw => ?_⟩) hS ?_
          · (clear hS; go_simp)
          try simp only [Act.put, zA, zB, zC]
          refine wpE_tk 1 42 (.slice ak k ck) rfl (.inl ⟨by rfl, fun w' hSw => ?_⟩) hS ?_
          · (clear hS; go_simp)
          try simp only [Act.put, zA, zB, zC]
          refine wpE_tk 2 43 (.pointer (some ⟨tb, 0, none⟩)) rfl (.inl ⟨by rfl, fun w' hSw => ?_⟩) hS ?_
          · (clear hS; go_simp)
          try simp only [Act.put, zA, zB, zC]
          refine wpE_tk 3 44 (.int .i64 j) rfl (.inl ⟨by rfl, fun w' hSw => ?_⟩) hS ?_
          · (clear hS; go_simp)
          try simp only [Act.put, zA, zB, zC]
          refine wpE_on 4 (some 45) rfl (fun K hK => ?_)
          go_simp
          go_at_call 23
          refine (REC.out wd hxd).mono ?_
          rintro e wk ⟨v, g', rfl, hr', hxk, hg'⟩
          obtain ⟨av2, kv2, e2, ha2, hk2⟩ := hr'.open
          obtain ⟨aa2, acap2, e3, _⟩ := ha2.len_of
          obtain ⟨ka2, kcap2, e4, _⟩ := hk2
          subst e3 e4 e2
          have hR := qh hr'
          have hG := qh hg'
          have hcb := hxk.cells _ _ (hxd.cells _ _ cb)
          refine hK.out _ _ (.inr hcb) ?_
          clear ha2 hr' hg'
          clear hK K
          try simp only [Act.put, zA, zB, zC]
          refine wpE_on 5 (some 46) rfl (fun K hK => ?_)
          go_simp
          have hcc := ((Ext.refl wk).alloc (.cells #[.int .i64 (T.pln f j).tag, .slice aa2 (T.pln f j).attrs.length acap2, .string (T.pln f j).text, .slice ka2 (T.pln f j).kids.length kcap2] 26)).cells _ _ hcb
          have xc := (Ext.refl wk).alloc (.cells #[.int .i64 (T.pln f j).tag, .slice aa2 (T.pln f j).attrs.length acap2, .string (T.pln f j).text, .slice ka2 (T.pln f j).kids.length kcap2] 26)
          have hnew := cells_four (heap_alloc_new wk (.cells #[.int .i64 (T.pln f j).tag, .slice aa2 (T.pln f j).attrs.length acap2, .string (T.pln f j).text, .slice ka2 (T.pln f j).kids.length kcap2] 26))
          obtain ⟨cw, hcw⟩ : ∃ cw : World, cw = wk.alloc (.cells #[.int .i64 (T.pln f j).tag, .slice aa2 (T.pln f j).attrs.length acap2, .string (T.pln f j).text, .slice ka2 (T.pln f j).kids.length kcap2] 26) := ⟨_, rfl⟩
          rw [← hcw] at hcc xc hnew ⊢
          clear hcw
          refine hK.out _ _ (.inr hcc) ?_
          obtain ⟨i0, hii, hz0, hz1, hz2⟩ := info_parts infoN
          obtain ⟨v', wA, row, hrunA, hrA, hgA, hrowA⟩ := run_append_row (P := Tryz.prog) cw 24 24 26 i0 noNode0 4 72 Tryz.underlying24 hii hz0 hz1 hz2 (by kernel_rfl) (by decide)
            (p := fun y => w1.heap.size ≤ y ∧ y ≠ b ∧ (Value.slice ak k ck).ownBlock = some y) (RowP.imp (RowP.ext HR.out ((hxd.trans hxk).trans xc)) (fun y hy hp => ⟨hp.1, hp.2, hy⟩)) ⟨wk.heap.size, 0, none⟩ 1 1 _ rfl hnew (by simp [Value.oneCell']) (by decide) (by unfold maxLen; omega) (by omega)
          have FIN := qh (PlainAt.step HXR.out HB.out hb1 HR.out HKB.out HGA.out HKX.out HGC.out HXX.out (hxd.trans hxk) hR.out (fun q y hq => ⟨(hG.out q y hq).1, Nat.le_trans hxd.size (hG.out q y hq).2⟩) xc hrA hgA hrowA)
          obtain ⟨a7, cap7, e7, _⟩ := hrA.rd.len_of
          subst e7
          have hcA : wA.cell? ⟨b, 3, none⟩ = some (.slice ak k ck) := (World.cell?_of_block (a := ⟨b, 3, none⟩) (hgA.block b (cell_lt hcc) (fun e => (hrowA b e.symm).2.1 rfl))).trans hcc
          have hfA : wA.frozen? ⟨b, 3, none⟩ = false := (World.frozen?_of_block (a := ⟨b, 3, none⟩) (hgA.block b (cell_lt hcc) (fun e => (hrowA b e.symm).2.1 rfl))).trans (Ext.free (((hxd.trans hxk).trans xc)) (cell_lt cb) fb)
          have HRA := qh hrunA
          clear hrA hgA hrowA hrunA hii hz0 hz1 hz2 hnew
          clear hK K
          try simp only [Act.put, zA, zB, zC]
          refine wpE_on 6 (some 47) rfl (fun K hK => ?_)
          refine step_append_run (by rfl) _ _ 24 (by rfl) (.slice ak k ck) (.slice (some ⟨wk.heap.size, 0, none⟩) 1 1) (by rfl) (by rfl) (.slice a7 (k + 1) cap7) wA HRA.out ?_
          refine hK.out _ _ (.inr hcA) ?_
          clear hK K
          try simp only [Act.put, zA, zB, zC]
          refine wpE_on 7 (some 48) rfl (fun K hK => ?_)
          go_simp
          refine hK.out _ _ (.inr hcA) ?_
          clear hK K
          try simp only [Act.put, zA, zB, zC]
          refine wpE_on 8 (none) rfl (fun K hK => ?_)
          go_simp
          refine hK.out _ _ (.inl rfl) ?_
          clear hK K
          refine wpE_done (by kernel_rfl) ?_
          clear hcA hfA hcc hcb hS cb fb
          obtain ⟨wz, hwz⟩ : ∃ wz : World, wz = wA.setCell ⟨b, 3, none⟩ (.slice a7 (k + 1) cap7) := ⟨_, rfl⟩
          rw [← hwz] at FIN ⊢
          clear hwz
          go_wp2_with fail
          go_roundw
          case rel => exact ⟨k + 1, by omega, by go_num, FIN.out⟩
          case measure => simp [intOf]; omega
        · obtain rfl : k = nd.kids.length := by omega
          have hB0 : u.heap.size < w1.heap.size := (Array.getElem?_eq_some_iff.1 HBU.out).1
          have hbn : b ≠ u.heap.size := by omega
          have hbn' := Ne.symm hbn
          obtain ⟨ak, ck, rfl, hck⟩ := hr.rd.len_of
          have b0 := cellOf hb (i := 0) (v := .int .i64 nd.tag) rfl
          have b1 := cellOf hb (i := 1) (v := .slice ab nd.attrs.length bcap) rfl
          have b2 := cellOf hb (i := 2) (v := .string nd.text) rfl
          have b3 := cellOf hb (i := 3) (v := .slice ak nd.kids.length ck) rfl
          have hr0 := hxr.block HBU.out
          have r0 := cellOf hr0 (i := 0) (v := .int .i64 0) rfl
          have r1 := cellOf hr0 (i := 1) (v := .slice none 0 0) rfl
          have r2 := cellOf hr0 (i := 2) (v := .string ⟨#[]⟩) rfl
          have r3 := cellOf hr0 (i := 3) (v := .slice none 0 0) rfl
          have f0 := freeOf hr0 0
          have f1 := freeOf hr0 1
          have f2 := freeOf hr0 2
          have f3 := freeOf hr0 3
          have FIN := qh (plain_fin HXU.out hB0 hxr hb hr hga hkx hgc)
          clear hxr hb hr hkb hga hkx hgc hr0
          go_wp2_with fail
          exact bodyPost_ret (v := .agg #[.int .i64 nd.tag, .slice ab nd.attrs.length bcap, .string nd.text, .slice ak nd.kids.length ck]) (by simp [results, Tryz.results23, go_sem, r0, r1, r2, r3]) rfl (FIN.out _ _ _ _)
theorem Plain_some {w : World} {own : Ow} {ptr : Nat → Nat} {tb : Nat} {T : Tr} (hT : TreeAt w own ptr tb T) (hO : Owned own w) {d : Nat → Nat} (hw : WF T d) (hA : AttrsOk T) {i : Nat} {nd : Nd} (h : T.nodes[i]? = some (some nd)) :
    Calls Tryz.prog 23 #[.pointer (some ⟨tb, 0, none⟩), .int .i64 i] w (PlainIs (T.plain i) w) :=
  plain_fuel hT hO hw hA 50 i nd w h (by omega) (Ext.refl w)
structure Sit (w0 w : World) (tb : Nat) (T : Tr) (g : World) : Prop where
  out : ∃ own ptr, TreeAt w own ptr tb T ∧ Owned own w ∧ Ext w0 w ∧ (∀ b, own b ≠ none → w0.heap.size ≤ b) ∧ Apart g own w
theorem Sit.cell {w0 w : World} {tb : Nat} {T : Tr} {g : World} (h : Sit w0 w tb T g) {p : Addr} {v : Value} (hp : g.cell? p = some v) : w.cell? p = some v := by
  obtain ⟨own, ptr, _, _, _, _, ha⟩ := h.out; exact (ha p v hp).1
theorem Sit.cells {w0 w : World} {tb : Nat} {T : Tr} {g : World} (h : Sit w0 w tb T g) : Cells g w := fun _ _ hp => h.cell hp
theorem Sit.ext {w0 w w' : World} {tb : Nat} {T : Tr} {g : World} (h : Sit w0 w tb T g) (x : Ext w w') : Sit w0 w' tb T g := by
  obtain ⟨own, ptr, hT, hO, hx, hf, ha⟩ := h.out
  exact ⟨own, ptr, hT.keep (x.keep hO), fun b hb => Nat.lt_of_lt_of_le (hO b hb) x.size, hx.trans x, hf, ha.ext x⟩
theorem Sit.after {w0 w w' : World} {tb : Nat} {T T' : Tr} {g : World} {own : Ow} (hx : Ext w0 w) (hf : ∀ b, own b ≠ none → w0.heap.size ≤ b) (ha : Apart g own w) (h : After own w tb T' w') : Sit w0 w' tb T' g := by
  obtain ⟨own', ptr', hT', hS⟩ := h
  obtain ⟨h1, h2⟩ := hS.fresh hx hf
  exact ⟨own', ptr', hT', hS.owned, h1, h2, ha.step hS⟩
theorem Sit.grow {w0 w w' : World} {tb : Nat} {T : Tr} {g : World} (h : Sit w0 w tb T g) (x : Ext w w') : ∃ g2, Sit w0 w' tb T g2 ∧ Cells g g2 ∧ ∀ q y, w'.cell? q = some y → w.heap.size ≤ q.block → g2.cell? q = some y := by
  obtain ⟨own, ptr, hT, hO, hx, hf, ha⟩ := h.out
  refine ⟨hide own w', ⟨own, ptr, hT.keep (x.keep hO), fun b hb => Nat.lt_of_lt_of_le (hO b hb) x.size, hx.trans x, hf, hide_apart _ _⟩, (ha.ext x).hide, fun q y hq hl => hide_cell hq ?_⟩
  cases ho : own q.block with
  | none => rfl
  | some z => have := hO q.block (by simp [ho]); omega
theorem WF.on {T : Tr} {d : Nat → Nat} (hw : WF T d) (hA : AttrsOk T) {i p a : Nat} {nd pd : Nd} (hi : T.nodes[i]? = some (some nd)) (hp : T.nodes[p]? = some (some pd)) (hpar : nd.parent = -1) (ht : pd.tag ≠ 0) (h0 : i ≠ 0) (ha : a ≤ pd.kids.length) (hin : T.within p i = false)
    (hdp : (d p : Int) + 1 + T.height i ≤ T.deep) :
    ∃ (T1 : Tr) (d1 : Nat → Nat), T.link p a i pd nd = T1 ∧ WF T1 d1 ∧ AttrsOk T1 ∧ T1.nodes[i]? = some (some { nd with parent := p }) ∧ T1.nodes[p]? = some (some { pd with kids := pd.kids.take a ++ [(i : Int)] ++ pd.kids.drop a }) ∧ T1.plain i = T.plain i ∧
      posOf (pd.kids.take a ++ [(i : Int)] ++ pd.kids.drop a) i = (a : Int) ∧
      T1.unlink p i { pd with kids := pd.kids.take a ++ [(i : Int)] ++ pd.kids.drop a } { nd with parent := p } = T := by
  have hpi : p ≠ i := fun e => by subst e; rw [hw.within_self hp] at hin; cases hin
  have hno : (i : Int) ∉ pd.kids := fun hm => by
    have := hw.kid_parent hp hm hi; omega
  have hw1 := hw.link (at' := a) hp hi ht h0 hpar hin hdp
  have hg := fun j => Tr.set2_get (pd' := { pd with kids := pd.kids.take a ++ [(i : Int)] ++ pd.kids.drop a }) (kd' := { nd with parent := p }) hp hi j
  refine ⟨T.link p a i pd nd, _, rfl, hw1, ?_, ?_, ?_, ?_, ?_, Tr.unlink_link hp hi hpi hpar hno⟩
  · rw [Tr.link_eq]; exact hA.set2 (show NdOk pd from hA _ _ hp) (show NdOk nd from hA _ _ hi)
  · rw [Tr.link_eq, hg, if_pos rfl]
  · rw [Tr.link_eq, hg, if_neg hpi, if_pos rfl]
  · rw [Tr.link_eq]; exact (hw.plain_set2 (q := (p : Int)) hp hi hin).1
  · refine posOf_at (k := a) ?_ ?_
    · rw [List.append_assoc, List.getElem?_append_right (by rw [List.length_take]; omega), List.length_take, show a - min a pd.kids.length = 0 by omega]; rfl
    · rw [List.append_assoc, List.take_append_of_le_length (by rw [List.length_take]; omega), List.take_take]
      exact fun h => hno (List.mem_of_mem_take h)
end Go.Proofs.YtalaajbajgdglaaGreatDoor
namespace Go.Proofs.YtalaajbajgdglaaGreatDoor
open Go Go.RowKit Go.BigFrame Go.ChangeShapes Go.WideShapes We
section
variable {w0 w : World} {tb : Nat} {T : Tr} {g : World}
def SitPlain2 (n : PN) (w0 w : World) (tb : Nat) (T : Tr) (g : World) (e : Ending) (w' : World) : Prop :=
  ∃ a ac k kc gp g2, e = .returned (.agg #[.int .i64 n.tag, .slice a n.attrs.length ac, .string n.text, .slice k n.kids.length kc]) ∧ RdN gp n (.agg #[.int .i64 n.tag, .slice a n.attrs.length ac, .string n.text, .slice k n.kids.length kc]) ∧ Sit w0 w' tb T g2 ∧ Cells g g2 ∧ Cells gp g2 ∧ ∀ q y, gp.cell? q = some y → w.heap.size ≤ q.block
theorem Sit.plain2 (h : Sit w0 w tb T g) {f : FuncId} {args : Array Value} {n : PN} (hc : Calls Tryz.prog f args w (PlainIs n w)) : Calls Tryz.prog f args w (SitPlain2 n w0 w tb T g) := by
  refine hc.mono ?_
  rintro e w' ⟨v, g', rfl, hr, x, hg'⟩
  obtain ⟨a, ac, k, kc, rfl⟩ := hr.shape
  obtain ⟨g2, h1, h2, h3⟩ := h.grow x
  exact ⟨a, ac, k, kc, g', g2, rfl, hr, h1, h2, fun q y hq => h3 q y (hg' q y hq).1 (hg' q y hq).2, fun q y hq => (hg' q y hq).2⟩
theorem sit_plain2 (h : Sit w0 w tb T g) {d : Nat → Nat} (hw : WF T d) (hA : AttrsOk T) {i : Nat} {nd : Nd} (hi : T.nodes[i]? = some (some nd)) {n : PN} (hn : T.plain i = n) {z : Int} (hz : (i : Int) = z) :
    Calls Tryz.prog 23 #[.pointer (some ⟨tb, 0, none⟩), .int .i64 z] w (SitPlain2 n w0 w tb T g) := by
  subst hz
  obtain ⟨own, ptr, hT, hO, _⟩ := h.out
  exact h.plain2 (hn ▸ Plain_some hT hO hw hA hi)
end
end Go.Proofs.YtalaajbajgdglaaGreatDoor
namespace Go.Proofs.YtalaajbajgdglaaGreatDoor
open Go Go.RowKit Go.BigFrame We
theorem highs_snoc : ∀ (l : List PN) (k : PN), PN.highs (l ++ [k]) = max (PN.highs l) (k.high + 1)
  | [], k => by show max (k.high + 1) 0 = max 0 (k.high + 1); omega
  | x :: l, k => by
    rw [List.cons_append]
    simp only [PN.highs]
    rw [highs_snoc l k]
    omega
theorem high_size : ∀ n : PN, n.high < n.size := by
  refine PN.induct _ fun n ih => ?_
  rw [PN.high_eq, PN.size_eq]
  have : ∀ l : List PN, (∀ k ∈ l, k.high < k.size) → PN.highs l ≤ PN.sizes l := by
    intro l
    induction l with
    | nil => intro _; exact Nat.le_refl _
    | cons k r ih2 =>
      intro h
      have h1 := h k (by simp)
      have h2 := ih2 fun x hx => h x (by simp [hx])
      simp only [PN.highs, PN.sizes]
      omega
  have := this n.kids ih
  omega
theorem highs_take {l : List PN} {k : Nat} : PN.highs (l.take k) ≤ PN.sizes l := by
  have h1 : ∀ l : List PN, PN.highs l ≤ PN.sizes l := by
    intro l
    induction l with
    | nil => exact Nat.le_refl _
    | cons k r ih2 => have := high_size k; simp only [PN.highs, PN.sizes]; omega
  exact Nat.le_trans (h1 _) (sizes_take l k)
theorem High_any {w0 : World} : ∀ (n : PN) (nv : Value) (w : World), n.size ≤ 100000 → RdN w0 n nv → Ext w0 w → Calls Tryz.prog 20 #[nv] w (RVal (.int .i64 n.high) w) := by
  refine PN.induct _ fun n ih nv w hsz hr hx => ?_
  have hnl := n.len_size
  have hse := n.size_eq
  obtain ⟨av, kv, rfl, ha, hk⟩ := hr.open
  obtain ⟨aa, acap, rfl, hac⟩ := ha.len_of
  obtain ⟨ka, kcap, rfl, hkc, hkm, hkn, hkr⟩ := hk
  have x1 := (Ext.refl w).alloc (.cells #[.int .i64 n.tag, .slice aa n.attrs.length acap, .string n.text, .slice ka n.kids.length kcap] 26)
  have hbox := heap_alloc_new w (.cells #[.int .i64 n.tag, .slice aa n.attrs.length acap, .string n.text, .slice ka n.kids.length kcap] 26)
  have HKR := qh hkr
  have HKN := qh hkn
  have HX := qh hx
  have HX1 := qh x1
  have IH := qh ih
  unfold maxLen at hkm
  clear hkr hkn hx ih hr ha x1
  have HSE := qh hse
  have HSZ := qh hsz
  replace hnl : n.kids.length ≤ 100000 := by omega
  clear hse hsz
  go_enter Tryz.func20, Tryz.ntmps20
  go_upto_region 1 with fail
  obtain ⟨wb, hwb⟩ : ∃ wb : World, wb = w.alloc (.cells #[.int .i64 n.tag, .slice aa n.attrs.length acap, .string n.text, .slice ka n.kids.length kcap] 26) := ⟨_, rfl⟩
  rw [← hwb] at hbox HX1 ⊢
  clear hwb
  have k3 := cellOf hbox (i := 3) (v := .slice ka n.kids.length kcap) rfl
  clear hbox
  go_wp2_with fail
  go_loopw [3, 4] (fun c i wr => ∃ k : Nat, k ≤ n.kids.length ∧ i = .int .i64 k ∧ c = .int .i64 ((PN.highs (n.kids.take k) : Nat) : Int) ∧ Ext wb wr) (fun _ i _ => n.kids.length - (intOf i).toNat)
  case atStart => exact ⟨0, Nat.zero_le _, rfl, by simp [PN.highs], Ext.refl _⟩
  case round =>
    obtain ⟨k, hk, rfl, rfl, xr⟩ := hrel
    have HXR := qh xr
    replace k3 := xr.cell k3
    clear xr
    by_cases hkk : k < n.kids.length
    · obtain ⟨x, hx⟩ : ∃ x, n.kids[k]? = some x := ⟨n.kids[k], by simp [hkk]⟩
      cases ka with
      | none => exact absurd (HKN.out rfl).1 (by omega)
      | some a =>
        obtain ⟨b, off, sp⟩ := a
        obtain ⟨c0', c1', c2', c3', q0, q1, q2, q3, hrd⟩ := HKR.out _ rfl k x hx
        have hxx : Ext w0 wr := (HX.out.trans HX1.out).trans HXR.out
        replace q0 := hxx.cells _ _ q0
        replace q1 := hxx.cells _ _ q1
        replace q2 := hxx.cells _ _ q2
        replace q3 := hxx.cells _ _ q3
        rw [add_later _ _ _ (by decide)] at q1 q2 q3
        have htk := sizes_take_succ hx
        have hle := sizes_take n.kids (k + 1)
        have htk2 : PN.highs (n.kids.take (k + 1)) = max (PN.highs (n.kids.take k)) (x.high + 1) := by
          obtain ⟨hlt', hxe⟩ := List.getElem?_eq_some_iff.1 hx
          rw [List.take_succ_eq_append_getElem hlt', hxe, highs_snoc]
        have h1 := HSE.out
        have h2 := HSZ.out
        have hrec := IH.out x (List.mem_of_getElem? hx) _ wr (by omega) hrd hxx
        have hb1 : PN.highs (n.kids.take k) ≤ 100000 := by have := highs_take (l := n.kids) (k := k); omega
        have hb2 : x.high ≤ 100000 := by have := high_size x; omega
        have HREC := qh hrec
        have HTK := qh htk2
        clear hx hrd hrec hxx htk hle htk2 h1 h2
        generalize hs : PN.highs (n.kids.take k) = S at *
        have HS := qh hs
        clear hs
        go_wp2_with fail
        refine HREC.out.mono ?_
        rintro e w' ⟨rfl, p4⟩
        generalize hs2 : x.high = X at *
        have HS2 := qh hs2
        clear hs2
        go_wp2_with fail
        go_roundw
        case rel => exact ⟨k + 1, by omega, by go_num, by rw [HTK.out]; congr 1; omega, HXR.out.trans p4⟩
        case measure => simp [intOf]; omega
    · obtain rfl : k = n.kids.length := by omega
      generalize hs : PN.highs (n.kids.take n.kids.length) = S at *
      have HS := qh hs
      clear hs
      go_wp2_with fail
      go_ret
      refine ⟨?_, HX1.out.trans HXR.out⟩
      have e : PN.highs (n.kids.take n.kids.length) = n.high := by rw [List.take_length, PN.high_eq]
      rw [← HS.out, e]
      rfl
theorem norms_kid {d : Int} {b l i : Bool} : ∀ (ks : List PN) (p : Bool), PN.norms d b l i p ks = true → ∀ (k : Nat) (x : PN), ks[k]? = some x → PN.norm d b l i x = true ∧ (x.tag = 0 → 0 < k → ∀ y, ks[k - 1]? = some y → y.tag ≠ 0)
  | [], _, _, k, x, hx => by simp at hx
  | z :: ks, p, h, k, x, hx => by
    simp only [PN.norms, Bool.and_eq_true] at h
    cases k with
    | zero =>
      obtain rfl : z = x := by simpa using hx
      exact ⟨h.1.2, fun _ h0 => absurd h0 (Nat.lt_irrefl 0)⟩
    | succ k =>
      have hx' : ks[k]? = some x := by simpa using hx
      obtain ⟨g1, g2⟩ := norms_kid ks (z.tag == 0) h.2 k x hx'
      refine ⟨g1, fun h0 _ y hy => ?_⟩
      cases k with
      | zero =>
        obtain rfl : z = y := by simpa using hy
        intro e
        cases ks with
        | nil => simp at hx'
        | cons q ks =>
          obtain rfl : q = x := by simpa using hx'
          have h2 := h.2
          simp only [PN.norms, Bool.and_eq_true, Bool.not_eq_true', Bool.and_eq_false_iff, beq_eq_false_iff_ne] at h2
          rcases h2.1.1 with h3 | h3
          · exact h3 e
          · exact h3 h0
      | succ k => exact g2 h0 (Nat.succ_pos k) y (by simpa using hy)
theorem sound_of {d : Int} {b l i : Bool} {n : PN} (h : PN.norm d b l i n = true) (ht : n.tag ≠ 0) : (clsT n.tag = 5 → n.kids = []) ∧ (clsT n.tag = 3 → n.tag ≠ 9 → l = false) ∧ ∃ (d' : Int) (b' i' : Bool), PN.norms d' b' (if clsT n.tag = 2 ∨ n.tag = 9 then false else if clsT n.tag = 3 then true else l) i' false n.kids = true := by
  obtain ⟨c0, ha, hs, h40, k5, k4, k23⟩ := norm_elem h ht
  refine ⟨k5, fun c _ => (k23 (.inr c)).1, ?_⟩
  rcases cls_cases c0 ht with c | c | c | c
  · rw [if_pos (.inl c)]
    have := (k23 (.inl c)).2.2
    rw [show (clsT n.tag == 3 && n.tag != 9) = false by rw [c]; rfl] at this
    exact ⟨_, _, _, this⟩
  · have := (k23 (.inr c)).2.2
    by_cases h9 : n.tag = 9
    · rw [if_pos (.inr h9)]
      rw [show (clsT n.tag == 3 && n.tag != 9) = false by rw [h9]; rfl] at this
      exact ⟨_, _, _, this⟩
    · rw [if_neg (by omega), if_pos c]
      rw [show (clsT n.tag == 3 && n.tag != 9) = true by rw [c, show (n.tag != 9) = true from bne_iff_ne.2 h9]; rfl] at this
      exact ⟨_, _, _, this⟩
  · rw [if_neg (by
      rintro (h | h)
      · omega
      · rw [h] at c; exact absurd c (by decide)), if_neg (by omega)]
    exact ⟨_, _, _, k4 c⟩
  · rw [k5 c]
    exact ⟨0, false, false, rfl⟩
theorem sound_any {w0 : World} : ∀ (n : PN) (nv : Value) (w : World) (d : Int) (b line li : Bool), PN.norm d b line li n = true → n.size ≤ 100000 → RdN w0 n nv → Ext w0 w → Calls Tryz.prog 19 #[nv, .bool line] w (RBool true w) := by
  refine PN.induct _ fun n ih nv w d b line li hn hsz hr hx => ?_
  have hnl := n.len_size
  have hr0 := hr
  obtain ⟨aa, acap, ka, kcap, rfl⟩ := hr.shape
  have x1 := (Ext.refl w).alloc (.cells #[.int .i64 n.tag, .slice aa n.attrs.length acap, .string n.text, .slice ka n.kids.length kcap] 26)
  have hbox := heap_alloc_new w (.cells #[.int .i64 n.tag, .slice aa n.attrs.length acap, .string n.text, .slice ka n.kids.length kcap] 26)
  have HR := qh hr0
  have HX := qh hx
  have HX1 := qh x1
  have IH := qh ih
  have HSZ := qh hsz
  have HN := qh hn
  replace hnl : n.kids.length ≤ 100000 := by omega
  clear hx ih hr hr0 x1 hsz hn
  go_enter Tryz.func19, Tryz.ntmps19
  go_upto_region 1 with fail
  obtain ⟨wb, hwb⟩ : ∃ wb : World, wb = w.alloc (.cells #[.int .i64 n.tag, .slice aa n.attrs.length acap, .string n.text, .slice ka n.kids.length kcap] 26) := ⟨_, rfl⟩
  rw [← hwb] at hbox HX1 ⊢
  clear hwb
  obtain ⟨ab, hab⟩ : ∃ ab, w.heap.size = ab := ⟨_, rfl⟩
  rw [hab] at hbox ⊢
  clear hab
  have HB := qh hbox
  clear hbox
  obtain ⟨k0, k1, k2, k3⟩ := cells4 HB.out
  by_cases ht : n.tag = 0
  · have t0 : (n.tag == 0) = true := beq_iff_eq.2 ht
    rcases norm_is HN.out with ⟨_, s, hs, hs1, _⟩ | ⟨hne, _⟩
    · have e3 : (n.text.toList == ([] : List UInt8)) = false := text_some (by rw [hs]; exact hs1)
      have e4 : ((n.kids.length : Int) == 0) = true := by rw [hs]; rfl
      clear hs hs1 ht
      go_wp2_with fail
      go_ret
      exact ⟨rfl, HX1.out⟩
    · exact absurd ht hne
  have t0 : (n.tag == 0) = false := beq_eq_false_iff_ne.2 ht
  obtain ⟨s5, s3, d', b', i', hks⟩ := sound_of HN.out ht
  obtain ⟨c, hc⟩ : ∃ c, clsT n.tag = c := ⟨_, rfl⟩
  have HCL := qh (rClass_any wb n.tag)
  rw [hc] at HCL s5 s3 hks
  obtain ⟨l2, hl2⟩ : ∃ l2, (if c = 2 ∨ n.tag = 9 then false else if c = 3 then true else line) = l2 := ⟨_, rfl⟩
  rw [hl2] at hks
  have HKS := qh hks
  have HL2 := qh hl2
  have S5 := qh s5
  have S3 := qh s3
  clear hks hl2 hc ht s5 s3
  go_upto_region 4 with (go_at_call 39; refine HCL.out.mono ?_; rintro e w3 ⟨rfl, x3⟩)
  clear k0 k1 k2 k3
  have X3 := qh (HX1.out.trans x3)
  have B3 := qh (x3.block HB.out)
  clear x3
  obtain ⟨k0, k1, k2, k3⟩ := cells4 B3.out
  go_cut [29] (fun q wx => q = .bool false ∧ wx = w3)
  case first =>
    rcases bcases (c == 5) with t5 | t5
    · have e5 : n.kids.length = 0 := by rw [S5.out (beq_iff_eq.1 t5)]; rfl
      have e6 : decide ((n.kids.length : Int) > 0) = false := decide_eq_false (by omega)
      have e7 : decide (0 < n.kids.length) = false := decide_eq_false (by omega)
      have e8 : decide (0 < (n.kids.length : Int)) = false := decide_eq_false (by omega)
      clear e5
      go_wp2_with fail
      go_meet
      exact ⟨rfl, rfl⟩
    · go_wp2_with fail
      go_meet
      exact ⟨rfl, rfl⟩
  case rest =>
    obtain ⟨rfl, rfl⟩ := hcut
    rename World => w3
    go_upto_region 6 with fail
    obtain ⟨bq, hbq⟩ : ∃ b, (c == 2 || n.tag == 9) = b := ⟨_, rfl⟩
    have HBQ := qh hbq
    clear hbq
    go_cut [36] (fun q wx => q = .bool bq ∧ wx = w3)
    case first =>
      rcases bcases (c == 2) with t5 | t5
      · go_wp2_with fail
        go_meet
        exact ⟨by rw [← HBQ.out, t5]; rfl, rfl⟩
      · rcases bcases (n.tag == 9) with t6 | t6
        · go_wp2_with fail
          go_meet
          exact ⟨by rw [← HBQ.out, t5, t6]; rfl, rfl⟩
        · go_wp2_with fail
          go_meet
          exact ⟨by rw [← HBQ.out, t5, t6]; rfl, rfl⟩
    case rest =>
      obtain ⟨rfl, rfl⟩ := hcut
      rename World => w3
      go_upto_if 36 with fail
      go_cut [1] from 37 to 39 (fun q wx => q = .bool l2 ∧ wx = w3)
      case first =>
        cases bq with
        | true =>
          have hq : c = 2 ∨ n.tag = 9 := by have := HBQ.out; simpa using this
          have HL := qh (show l2 = false by rw [← HL2.out, if_pos hq])
          clear hq
          go_wp2_with fail
          go_meet
          exact ⟨by rw [HL.out], rfl⟩
        | false =>
          have hq : ¬ (c = 2 ∨ n.tag = 9) := by have := HBQ.out; simpa using this
          rcases bcases (c == 3) with t7 | t7
          · have l0 : line = false := S3.out (beq_iff_eq.1 t7) (fun e => hq (.inr e))
            have HL := qh (show l2 = true by rw [← HL2.out, if_neg hq, if_pos (beq_iff_eq.1 t7)])
            subst l0
            clear hq
            go_wp2_with fail
            go_meet
            exact ⟨by rw [HL.out], rfl⟩
          · have HL := qh (show l2 = line by rw [← HL2.out, if_neg hq, if_neg (by simpa using t7)])
            clear hq
            go_wp2_with fail
            go_meet
            exact ⟨by rw [HL.out], rfl⟩
      case rest =>
        obtain ⟨rfl, rfl⟩ := hcut
        rename World => w3
        clear k0 k1 k2
        go_wp2_with fail
        go_loopw [6] (fun i wr => ∃ k : Nat, k ≤ n.kids.length ∧ i = .int .i64 k ∧ Ext w3 wr) (fun i _ => n.kids.length - (intOf i).toNat)
        case atStart => exact ⟨0, Nat.zero_le _, rfl, Ext.refl _⟩
        case round =>
          obtain ⟨k, hk, rfl, xr⟩ := hrel
          have HXR := qh xr
          replace k3 := xr.cell k3
          clear xr
          by_cases hkk : k < n.kids.length
          · have hkd : decide ((k : Int) < (n.kids.length : Int)) = true := decide_eq_true (by omega)
            obtain ⟨x, hx⟩ : ∃ x, n.kids[k]? = some x := ⟨n.kids[k], by simp [hkk]⟩
            obtain ⟨hnx, hpx⟩ := norms_kid _ _ HKS.out k x hx
            obtain ⟨kb, ko, kp, rfl, u1, u2, u3, u4, q0, q1, q2, q3, qx⟩ := kid4 HR.out hx
            have hxx : Ext w0 wr := (HX.out.trans X3.out).trans HXR.out
            replace q0 := hxx.cells _ _ q0
            replace q1 := hxx.cells _ _ q1
            replace q2 := hxx.cells _ _ q2
            replace q3 := hxx.cells _ _ q3
            have hsx : x.size ≤ 100000 := by
              have h1 := sizes_take_succ hx
              have h2 := sizes_take n.kids (k + 1)
              have h3 := n.size_eq
              have h4 := HSZ.out
              omega
            have HREC := qh (IH.out x (List.mem_of_getElem? hx) _ wr d' b' l2 i' hnx hsx qx hxx)
            have HPX := qh hpx
            have HXX := qh hxx
            clear hnx hpx qx hxx hsx
            by_cases h0 : k = 0
            · have g1 : decide ((k : Int) > 0) = false := decide_eq_false (by omega)
              have g2 : decide (0 < k) = false := decide_eq_false (by omega)
              have g3 : decide (0 < (k : Int)) = false := decide_eq_false (by omega)
              clear h0 hx
              go_wp2_with fail
              refine HREC.out.mono ?_
              rintro e w' ⟨rfl, p4⟩
              have P4 := qh (HXR.out.trans p4)
              replace k3 := p4.cell k3
              replace q0 := p4.cells _ _ q0
              clear p4
              go_wp2_with fail
              go_roundw
              case rel => exact ⟨k + 1, by omega, by go_num, P4.out⟩
              case measure => simp [intOf]; omega
            · have g1 : decide ((k : Int) > 0) = true := decide_eq_true (by omega)
              have g2 : decide (0 < k) = true := decide_eq_true (by omega)
              have g3 : decide (0 < (k : Int)) = true := decide_eq_true (by omega)
              obtain ⟨y, hy⟩ : ∃ y, n.kids[k - 1]? = some y := ⟨n.kids[k - 1]'(by omega), by simp⟩
              obtain ⟨jb, jo, jp, ej, _, _, _, _, p0, _, _, _, _⟩ := kid4 HR.out hy
              cases ej
              replace p0 := HXX.out.cells _ _ p0
              have hk1 : 1 ≤ (k : Int) ∧ (k : Int) - 1 < (n.kids.length : Int) := by omega
              have hty : (x.tag == 0) = true → (y.tag == 0) = false := fun e => beq_eq_false_iff_ne.2 (HPX.out (beq_iff_eq.1 e) (by omega) y hy)
              have HTY := qh hty
              clear h0 hx hy hty
              go_wp2_with fail
              refine HREC.out.mono ?_
              rintro e w' ⟨rfl, p4⟩
              have P4 := qh (HXR.out.trans p4)
              replace k3 := p4.cell k3
              replace q0 := p4.cells _ _ q0
              replace p0 := p4.cells _ _ p0
              clear p4
              rcases bcases (x.tag == 0) with tx | tx
              · have ty := HTY.out tx
                go_wp2_with fail
                go_roundw
                case rel => exact ⟨k + 1, by omega, by go_num, P4.out⟩
                case measure => simp [intOf]; omega
              · go_wp2_with fail
                go_roundw
                case rel => exact ⟨k + 1, by omega, by go_num, P4.out⟩
                case measure => simp [intOf]; omega
          · obtain rfl : k = n.kids.length := by omega
            have hkd : decide ((n.kids.length : Int) < (n.kids.length : Int)) = false := decide_eq_false (by omega)
            go_wp2_with fail
            go_ret
            exact ⟨rfl, X3.out.trans HXR.out⟩
theorem WF.root0 {T : Tr} {d : Nat → Nat} (hw : WF T d) {pd : Nd} (hp : T.nodes[0]? = some (some pd)) : pd.parent = -1 ∧ pd.tag = 1 ∧ d 0 = 0 := by
  obtain ⟨nd, h1, h2, h3⟩ := hw.root
  obtain rfl : pd = nd := by rw [hp] at h1; simpa using h1
  refine ⟨h2, h3, ?_⟩
  rcases hw.up 0 pd hp with ⟨_, h⟩ | ⟨p, _, h, _⟩
  · exact h
  · omega
theorem graft_next {T : Tr} {d : Nat → Nat} (hw : WF T d) (hA : AttrsOk T) {pd : Nd} (hp : T.nodes[0]? = some (some pd)) {n : PN} (hsh : n.short = true) (hok : n.ok = true) (hdp : 1 + (n.high : Int) ≤ T.deep) (hf : (n.size : Int) ≤ T.cap - T.count) :
    ∃ (T1 : Tr) (d1 : Nat → Nat) (pd1 : Nd) (i : Nat), T.newId = (i : Int) ∧ T.grafted 0 pd.kids.length pd n = T1 ∧ WF T1 d1 ∧ AttrsOk T1 ∧ T1.nodes[0]? = some (some pd1) ∧ pd1.kids.length = pd.kids.length + 1 ∧
      T1.plain ((0 : Nat) : Int) = .mk pd.tag pd.attrs pd.text (pd.kids.map T.plain ++ [n.anew]) ∧ T1.count = T.count + n.size ∧ T1.cap = T.cap ∧ T1.deep = T.deep := by
  obtain ⟨hpar, htag, hd0⟩ := hw.root0 hp
  obtain ⟨d2, i, hi1, hi0, hi2, hP⟩ := into_ok n hok T d hw (by omega) (by omega)
  obtain ⟨kd, hk1, hk2⟩ := hP.node
  have hpi : 0 ≠ i := fun e => hi2 pd (e ▸ hp)
  obtain ⟨hap1, hap2⟩ := hP.apart hw hi2 0 pd hp
  have hA2 := into_attrs n hok hsh T hA
  have hp2 := hP.old 0 pd hpi hp
  have hd2 := (hP.wf.root0 hp2).2.2
  obtain ⟨T1, d1, hT1, hw1, hA1, h1, h2, h3, h4, h5⟩ := hP.wf.on hA2 hk1 hp2 hk2 (by rw [htag]; decide) hi0 (Nat.le_refl pd.kids.length) hap1 (by rw [hd2, hP.deep, hP.high]; omega)
  have hgr : T.grafted 0 pd.kids.length pd n = T1 := by
    unfold Tr.grafted; rw [hi1, Int.toNat_natCast, look_of hk1]; exact hT1
  have hc1 : T1.count = (PN.into T n).count := by rw [← hT1, Tr.link_eq]; rfl
  have hnodes : ∀ (j : Nat) (jd : Nd), j ≠ 0 → j ≠ i → (PN.into T n).nodes[j]? = some (some jd) → T1.nodes[j]? = some (some jd) := by
    intro j jd hj0 hji hj
    rw [← hT1]
    show (((PN.into T n).nodes.set 0 _).set i _)[j]? = _
    rw [List.getElem?_set_ne (Ne.symm hji), List.getElem?_set_ne (Ne.symm hj0)]
    exact hj
  have hkl : pd.kids.take pd.kids.length ++ [(i : Int)] ++ pd.kids.drop pd.kids.length = pd.kids ++ [(i : Int)] := by rw [List.take_length, List.drop_length, List.append_nil]
  rw [hkl] at h2
  refine ⟨T1, d1, _, i, hi1, hgr, hw1, hA1, h2, by simp, ?_, hc1.trans hP.count, ?_, ?_⟩
  · rw [hw1.plain_eq h2]
    show PN.mk pd.tag pd.attrs pd.text ((pd.kids ++ [(i : Int)]).map T1.plain) = _
    rw [List.map_append, List.map_cons, List.map_nil, h3, hP.plain]
    congr 2
    refine List.map_congr_left fun k hk => ?_
    obtain ⟨j, jd, rfl, hj, hjp⟩ := (hw.kids 0 pd hp).2 k hk
    refine (plain_same hw hj fun m md hm hin => ?_).1
    have hm0 : m ≠ 0 := by
      rintro rfl
      have e1 := (hw.within_depth 0 pd hp hin).1
      rcases hw.up j jd hj with ⟨e2, _⟩ | ⟨p, _, e2, _, e3, _⟩
      · omega
      · omega
    have hmi : m ≠ i := fun e => hi2 md (e ▸ hm)
    exact ⟨md, hnodes m md hm0 hmi (hP.old m md hmi hm), rfl, rfl, rfl, rfl⟩
  · rw [← hT1]; exact hP.cap
  · rw [← hT1]; exact hP.deep
theorem oks_iff {l : List PN} : PN.oks l = true ↔ ∀ k ∈ l, k.ok = true := by
  induction l with
  | nil => simp [PN.oks]
  | cons k r ih => simp only [PN.oks, Bool.and_eq_true, ih, List.mem_cons, forall_eq_or_imp]
theorem shorts_iff {l : List PN} : PN.shorts l = true ↔ ∀ k ∈ l, k.short = true := by
  induction l with
  | nil => simp [PN.shorts]
  | cons k r ih => simp only [PN.shorts, Bool.and_eq_true, ih, List.mem_cons, forall_eq_or_imp]
theorem ok_eq (n : PN) : n.ok = (!n.bad && decide ((anewB n.text).size ≤ 8192) && PN.oks n.kids) := by cases n; rfl
theorem norms_graft : ∀ (m : Nat) (ks : List PN) (d : Int) (b l i p : Bool), PN.sizes ks ≤ m → PN.norms d b l i p ks = true → PN.bulks 8192 ks = true → ∀ k ∈ ks, k.ok = true ∧ k.short = true ∧ k.anew = k ∧ d + (k.high : Int) ≤ 40 := by
  intro m
  induction m with
  | zero =>
    intro ks d b l i p hm hn hb k hk
    cases ks with
    | nil => cases hk
    | cons x q => have := x.size_pos; simp only [PN.sizes] at hm; omega
  | succ m ih =>
    intro ks d b l i p hm hn hb k hk
    cases ks with
    | nil => cases hk
    | cons x q =>
      have hkp := x.size_pos
      have hse := x.size_eq
      simp only [PN.sizes] at hm
      simp only [PN.norms, PN.bulks, Bool.and_eq_true] at hn hb
      obtain ⟨⟨_, hx⟩, hq⟩ := hn
      obtain ⟨hb1, hb2⟩ := hb
      rcases List.mem_cons.1 hk with rfl | hk
      · rw [PN.bulk_eq] at hb1
        simp only [Bool.and_eq_true] at hb1
        obtain ⟨⟨b1, b2⟩, b3⟩ := hb1
        have b1 : k.text.size ≤ 8192 := of_decide_eq_true b1
        have b2 : k.attrs.length ≤ 8192 := of_decide_eq_true b2
        rw [ok_eq, PN.short_eq, PN.anew_eq, PN.anews_eq, PN.high_eq]
        by_cases ht : k.tag = 0
        · have hd : d ≤ 40 := by
            rw [PN.norm_eq] at hx
            simp only [Bool.and_eq_true, decide_eq_true_eq] at hx
            exact hx.1
          rcases norm_is hx with ⟨_, s, rfl, hs, hsv⟩ | ⟨hne, _⟩
          · simp only [PN.text, PN.attrs, PN.kids] at b1 b2 ⊢
            have a1 : decide ((anewB s).size ≤ 8192) = true := decide_eq_true (by rw [hsv]; exact b1)
            have a2 : decide (s.size ≤ 100000) = true := decide_eq_true (by omega)
            refine ⟨?_, ?_, ?_, by simpa [PN.highs] using hd⟩
            · exact (show (!(PN.mk 0 [] s []).bad && decide ((anewB s).size ≤ 8192) && PN.oks []) = true by rw [show (PN.mk 0 [] s []).bad = false from rfl, a1]; rfl)
            · exact (show (decide (s.size ≤ 100000) && decide (([] : List AttrB).length ≤ 60000) && PN.shorts []) = true by rw [a2]; rfl)
            · show PN.mk 0 [] (anewB s) [] = _; rw [hsv]
          · exact absurd ht hne
        · obtain ⟨c0, ha, hs, h40, k5, k4, k23⟩ := norm_elem hx ht
          have hkids : ∀ y ∈ k.kids, y.ok = true ∧ y.short = true ∧ y.anew = y ∧ d + 1 + (y.high : Int) ≤ 40 := by
            rcases cls_cases c0 ht with c | c | c | c
            · exact ih k.kids _ _ _ _ _ (by omega) (k23 (.inl c)).2.2 b3
            · exact ih k.kids _ _ _ _ _ (by omega) (k23 (.inr c)).2.2 b3
            · exact ih k.kids _ _ _ _ _ (by omega) (k4 c) b3
            · rw [k5 c]; exact fun y hy => (nomatch hy)
          have htg := name_cases c0 ht
          obtain ⟨t, a, s, ks⟩ := k
          obtain rfl : s = ⟨#[]⟩ := hs
          simp only [PN.tag, PN.text, PN.attrs, PN.kids] at ht b1 b2 hkids htg ⊢
          have hbad : (PN.mk t a ⟨#[]⟩ ks).bad = false := by
            unfold PN.bad
            refine (if_neg ht).trans ?_
            show (!(decide (1 ≤ t ∧ t ≤ 16) && true)) = false
            rw [decide_eq_true (by omega)]
            rfl
          have e0 : anewB (⟨#[]⟩ : ByteArray) = ⟨#[]⟩ := rfl
          have hmap : ks.map PN.anew = ks := by
            have : ∀ l : List PN, (∀ y ∈ l, y.anew = y) → l.map PN.anew = l := by
              intro l
              induction l with
              | nil => intro _; rfl
              | cons y r ih2 => intro h; rw [List.map_cons, h y (by simp), ih2 fun z hz => h z (by simp [hz])]
            exact this ks fun y hy => (hkids y hy).2.2.1
          have hhi : ∀ l : List PN, (∀ y ∈ l, d + 1 + (y.high : Int) ≤ 40) → d + (PN.highs l : Int) ≤ 40 := by
            intro l
            induction l with
            | nil => intro _; simpa [PN.highs] using h40
            | cons y r ih2 =>
              intro h
              have g1 := h y (by simp)
              have g2 := ih2 fun z hz => h z (by simp [hz])
              simp only [PN.highs]
              omega
          refine ⟨?_, ?_, ?_, hhi ks fun y hy => (hkids y hy).2.2.2⟩
          · exact (show (!(PN.mk t a ⟨#[]⟩ ks).bad && decide ((anewB ⟨#[]⟩).size ≤ 8192) && PN.oks ks) = true by rw [hbad, oks_iff.2 fun y hy => (hkids y hy).1]; rfl)
          · exact (show (decide ((⟨#[]⟩ : ByteArray).size ≤ 100000) && decide (a.length ≤ 60000) && PN.shorts ks) = true by rw [shorts_iff.2 fun y hy => (hkids y hy).2.1, decide_eq_true (show a.length ≤ 60000 by omega)]; rfl)
          · show PN.mk t a (anewB ⟨#[]⟩) (ks.map PN.anew) = _
            rw [e0, hmap]
      · exact ih q _ _ _ _ _ (by omega) hq hb2 k hk
theorem rest_len (s : ByteArray) : ∀ (f pos : Nat), (restB s f pos).length ≤ 3 * (s.size - pos) := by
  intro f
  induction f with
  | zero => intro pos; exact Nat.zero_le _
  | succ f ih =>
    intro pos
    by_cases hp : pos < s.size
    · have hne := drop_ne s hp
      have hw := Lib.decodeL_width (s.data.toList.drop pos)
      have hle := Lib.decodeL_le _ hne
      have hD := Lib.decodeL_drop s pos
      have er : restB s (f + 1) pos = (Utf8.encode (Int.ofNat (Utf8.decode s pos).1)).data.toList ++ restB s f (pos + (Utf8.decode s pos).2) := by
        unfold restB; rw [runeList, if_pos hp]; rfl
      have hva := decode_valid s pos
      have hi := ih (pos + (Utf8.decode s pos).2)
      rw [drop_len] at hle
      rw [er, List.length_append]
      have key : (Utf8.encode (Int.ofNat (Utf8.decode s pos).1)).data.toList.length ≤ 3 * (Utf8.decode s pos).2 := by
        by_cases hb : (Lib.decodeL (s.data.toList.drop pos)).1 = 65533 ∧ (Lib.decodeL (s.data.toList.drop pos)).2 = 1
        · rw [hD] at hb
          rw [hb.1, hb.2]
          decide
        · have h4 := Lib.encode_decode _ hne hb
          rw [hD] at h4
          have h5 : Lib.encodeRune (Int.ofNat (Utf8.decode s pos).1) = (s.data.toList.drop pos).take (Utf8.decode s pos).2 := h4
          rw [encode_rune hva, h5, List.length_take]
          omega
      rw [hD] at hle
      omega
    · have : restB s (f + 1) pos = [] := by unfold restB; rw [runeList, if_neg hp]; rfl
      rw [this]
      exact Nat.zero_le _
theorem anew_size3 (s : ByteArray) : (anewB s).size ≤ 3 * s.size := by
  have h := rest_len s s.size 0
  have e : (anewB s).data.toList = restB s s.size 0 := by unfold anewB restB; exact runesBytes_list _
  have e2 : (anewB s).size = (anewB s).data.toList.length := rfl
  rw [e2, e]
  omega
end Go.Proofs.YtalaajbajgdglaaGreatDoor
namespace Go.Proofs.YtalaajbajgdglaaGreatDoor
open Go Go.RowKit Go.BigFrame Go.ChangeShapes Go.WideShapes We
structure Grafts (n : PN) : Prop where
  bu : Built n
  norm : PN.norm 0 true false false n = true
  size : n.size ≤ 2000
  high : n.high ≤ 40
  kid : ∀ k ∈ n.kids, k.ok = true ∧ k.short = true ∧ k.anew = k ∧ (1 : Int) + (k.high : Int) ≤ 40
theorem Grafts.of {L : List UInt8} (hL : L.length ≤ 8192) (hv : IsR L) : Grafts (hostZ (tokens L)) := by
  have hb := Built.of hL
  have hk := host_bulk hL hv
  obtain ⟨n, hn⟩ : ∃ n, hostZ (tokens L) = n := ⟨_, rfl⟩
  rw [hn] at hb hk ⊢
  have hkid := norms_graft _ n.kids 1 true false false false (Nat.le_refl _) hb.norm hk
  have hhi : ∀ l : List PN, (∀ y ∈ l, (1 : Int) + (y.high : Int) ≤ 40) → PN.highs l ≤ 40 := by
    intro l
    induction l with
    | nil => intro _; simp [PN.highs]
    | cons y r ih =>
      intro h
      have g1 := h y (by simp)
      have g2 := ih fun z hz => h z (by simp [hz])
      simp only [PN.highs]
      omega
  refine ⟨hb, ?_, by have := hb.nsize; have := hb.size; omega, ?_, hkid⟩
  · have h1 := hb.norm
    rw [hb.tag]
    show (decide ((0 : Int) ≤ 40) && (!(false || (1 : Int) == 9 && false) && (decide (True) && true && PN.norms (0 + 1) true false false false n.kids))) = true
    rw [show (0 : Int) + 1 = 1 from rfl, h1]
    rfl
  · rw [PN.high_eq]
    exact hhi n.kids fun y hy => (hkid y hy).2.2.2
structure Hung (n : PN) (k : Nat) (T : Tr) : Prop where
  out : ∃ d pd, WF T d ∧ AttrsOk T ∧ T.nodes[0]? = some (some pd) ∧ (pd.tag == 0) = false ∧ pd.kids.length = k ∧ T.plain ((0 : Nat) : Int) = .mk 1 [] ⟨#[]⟩ (n.kids.take k) ∧ T.count = 1 + (PN.sizes (n.kids.take k) : Int) ∧ T.cap = 2000 ∧ T.deep = 40
theorem Hung.start (n : PN) : Hung n 0 (hostOf 2000 40) := by
  have hw := hostOf_wf 2000 40 (by decide) (by decide) (by decide) (by decide)
  refine ⟨_, _, hw, ?_, rfl, rfl, rfl, ?_, rfl, rfl, rfl⟩
  · intro i nd h
    have h' : [some (⟨1, [], ByteArray.empty, [], -1⟩ : Nd)][i]? = some (some nd) := h
    cases i with
    | zero =>
      obtain rfl : (⟨1, [], ByteArray.empty, [], -1⟩ : Nd) = nd := by simpa using h'
      simp [NdOk]
    | succ i => simp at h'
  · rw [hw.plain_eq (i := 0) (nd := ⟨1, [], ByteArray.empty, [], -1⟩) rfl]
    rfl
theorem graft_at {w0 w : World} {tb : Nat} {T : Tr} {g : World} {n : PN} {k : Nat} (h : Hung n k T) (gr : Grafts n) (S : Sit w0 w tb T g) {x : PN} {xv : Value} (hx : n.kids[k]? = some x) (hr : RdN g x xv) :
    Calls Tryz.prog 22 #[.pointer (some ⟨tb, 0, none⟩), .int .i64 0, .int .i64 k, xv] w (fun e w' => ∃ (i : Int) (T1 : Tr), e = .returned (.tuple #[.int .i64 i, .int .i64 0]) ∧ Hung n (k + 1) T1 ∧ Sit w0 w' tb T1 g) := by
  obtain ⟨d, pd, hw, hA, hp, ht, hkl, hpl, hc, hcap, hdeep⟩ := h.out
  obtain ⟨own, ptr, hT, hO, hxx, hfr, hap⟩ := S.out
  obtain ⟨o1, o2, o3, o4⟩ := gr.kid x (List.mem_of_getElem? hx)
  have hse := sizes_take_succ hx
  have hle := sizes_take n.kids (k + 1)
  have hsz := gr.size
  have hns := gr.bu.nsize
  obtain ⟨T1, d1, pd1, i, e1, e2, e3, e4, e5, e6, e7, e8, e9, e10⟩ := graft_next hw hA hp o2 o1 (by rw [hdeep]; omega) (by rw [hcap, hc]; omega)
  obtain ⟨_, htag, hd0⟩ := hw.root0 hp
  have hpe := hw.plain_eq hp
  rw [hpl] at hpe
  simp only [PN.mk.injEq] at hpe
  obtain ⟨p1, p2, p3, p4⟩ := hpe
  obtain ⟨_, htag1, _⟩ := e3.root0 e5
  have hlt := (List.getElem?_eq_some_iff.1 hx)
  obtain ⟨hlt', hxe⟩ := hlt
  have hG := Graft_ok hT hO hw hp ht (at' := k) (by omega) hr hap o2 (by omega) o1 (by rw [hd0, hdeep]; omega) (by rw [hcap, hc]; omega)
  rw [← hkl, e2] at hG
  rw [← hkl]
  refine hG.mono fun e w' hh => ⟨_, T1, hh.1, ⟨d1, pd1, e3, e4, e5, by rw [htag1]; rfl, by rw [e6], ?_, ?_, by rw [e9, hcap], by rw [e10, hdeep]⟩, Sit.after (T := T) hxx hfr hap hh.2⟩
  · rw [e7, ← p1, ← p2, ← p3, ← p4, o3, hkl, List.take_succ_eq_append_getElem hlt', hxe]
  · have h9 : PN.sizes (n.kids.take (k + 1)) = PN.sizes (n.kids.take k) + x.size := by
      rw [List.take_succ_eq_append_getElem hlt', hxe, sizes_append]
      rfl
    rw [e8, hc, hkl]; omega
theorem host_grafts (s : ByteArray) (hs : s.size ≤ 10000000000) (w : World) (hl : LW w) : Calls Tryz.prog 10 #[.string s] w (fun e w' => Ext w w' ∧
    ((2700 < s.size ∧ e = .returned (.tuple #[zeroNV, .int .i64 10])) ∨ ∃ n v, Grafts n ∧ e = .returned (.tuple #[v, .int .i64 0]) ∧ RdN w' n v)) := by
  refine (Host_any s hs w hl).mono fun e w' h => ?_
  rcases h with ⟨h0, h1, h2⟩ | ⟨h1, v, h2, h3, h4⟩
  · exact ⟨h2, .inl ⟨by have := anew_size3 s; omega, h1⟩⟩
  · exact ⟨h3, .inr ⟨_, v, Grafts.of h1 (IsR.of s), h2, h4⟩⟩
theorem box_ext {w w' : World} (x : Ext w w') {b : Nat} {c0 c1 c2 c3 : Value} (h : w.cell? ⟨b, 0, none⟩ = some c0 ∧ w.cell? ⟨b, 1, none⟩ = some c1 ∧ w.cell? ⟨b, 2, none⟩ = some c2 ∧ w.cell? ⟨b, 3, none⟩ = some c3) :
    w'.cell? ⟨b, 0, none⟩ = some c0 ∧ w'.cell? ⟨b, 1, none⟩ = some c1 ∧ w'.cell? ⟨b, 2, none⟩ = some c2 ∧ w'.cell? ⟨b, 3, none⟩ = some c3 := ⟨x.cells _ _ h.1, x.cells _ _ h.2.1, x.cells _ _ h.2.2.1, x.cells _ _ h.2.2.2⟩
theorem Sit.since {w0 w : World} {tb : Nat} {T : Tr} {g : World} (h : Sit w0 w tb T g) : Ext w0 w := by obtain ⟨own, ptr, _, _, hx, _, _⟩ := h.out; exact hx
theorem New_sit (w : World) : Calls Tryz.prog 21 #[.int .i64 2000, .int .i64 40] w (fun e w' => ∃ tb, e = .returned (.tuple #[.pointer (some ⟨tb, 0, none⟩), .int .i64 0]) ∧ Sit w w' tb (hostOf 2000 40) w) := by
  refine (New_ok 2000 40 (by decide) (by decide) (by decide) (by decide) w).mono ?_
  rintro e w' ⟨tb, own, ptr, rfl, hT, hO, hx, hf⟩
  refine ⟨tb, rfl, ⟨own, ptr, hT, hO, hx, hf, fun q y hq => ⟨hx.cells _ _ hq, ?_⟩⟩⟩
  cases ho : own q.block with
  | none => rfl
  | some z => have h1 := hf q.block (by simp [ho]); have h2 := World.block_lt_of_cell? w q hq; omega
theorem buildSound_walk (s : ByteArray) (w : World) (hl : LW w) : Calls Tryz.prog 8 #[.string s] w (RBool true w) := by
  have HAW := qh (fun W (hW : LW W) => awake15_any W hW)
  have HL := qh hl
  clear hl
  by_cases hbig : 50000 < s.size
  · have d1 : decide ((s.size : Int) > 50000) = true := decide_eq_true (by omega)
    clear hbig
    go_enter Tryz.func8, Tryz.ntmps8
    go_wp2_with (go_at_call 9; refine (HAW.out _ HL.out).mono ?_)
    rintro e w1 ⟨rfl, x1⟩
    go_wp2_with fail
    go_ret
    exact ⟨rfl, x1⟩
  have d1 : decide ((s.size : Int) > 50000) = false := decide_eq_false (by omega)
  have HH := qh (host_grafts s (by omega) w HL.out)
  clear hbig
  go_enter Tryz.func8, Tryz.ntmps8
  go_wp2_with (go_at_call 10; refine HH.out.mono ?_)
  rintro e w1 ⟨x1, (⟨hlong, rfl⟩ | ⟨n, v, hg, rfl, r1⟩)⟩
  · unfold zeroNV
    have d2 : decide ((s.size : Int) > 2700) = true := decide_eq_true (by omega)
    clear hlong
    have xa := x1.alloc (.cells #[.int .i64 0, .slice none 0 0, .string ⟨#[]⟩, .slice none 0 0] 26)
    have bb := heap_alloc_new w1 (.cells #[.int .i64 0, .slice none 0 0, .string ⟨#[]⟩, .slice none 0 0] 26)
    clear x1
    go_upto_region 5 with fail
    obtain ⟨w2, hw2⟩ : ∃ w2 : World, w2 = w1.alloc (.cells #[.int .i64 0, .slice none 0 0, .string ⟨#[]⟩, .slice none 0 0] 26) := ⟨_, rfl⟩
    rw [← hw2] at xa bb ⊢
    clear hw2
    obtain ⟨ab, hab⟩ : ∃ ab, w1.heap.size = ab := ⟨_, rfl⟩
    rw [hab] at bb ⊢
    clear hab
    obtain ⟨n0, n1, n2, n3⟩ := cells4 bb
    have X2 := qh xa
    have SN := qh (SameNode_eq (.mk 0 [] ⟨#[]⟩ []) (by decide) w2 _ _ (RdN.leaf w2 0 ⟨#[]⟩) (RdN.leaf w2 0 ⟨#[]⟩))
    clear xa bb
    go_wp2_with (go_at_call 12; refine SN.out.mono ?_)
    rintro e w3 ⟨rfl, x3⟩
    have X3 := qh (X2.out.trans x3)
    clear x3 n0 n1 n2 n3
    go_wp2_with (go_at_call 9; refine (HAW.out _ (HL.out.ext X3.out)).mono ?_)
    rintro e w4 ⟨rfl, x4⟩
    go_wp2_with fail
    go_ret
    exact ⟨rfl, X3.out.trans x4⟩
  obtain ⟨aa, ac, ka, kc, rfl⟩ := host_in r1
  have e0 := hg.bu.tag
  have et : n.tag = 1 := by rw [e0]; rfl
  have ea : n.attrs.length = 0 := by rw [e0]; rfl
  rw [et] at r1 ⊢
  have EA := qh ea
  clear et ea
  have HG := qh hg
  have R1 := qh r1
  have xa := x1.alloc (.cells #[.int .i64 1, .slice aa n.attrs.length ac, .string n.text, .slice ka n.kids.length kc] 26)
  have xa1 := (Ext.refl w1).alloc (.cells #[.int .i64 1, .slice aa n.attrs.length ac, .string n.text, .slice ka n.kids.length kc] 26)
  have bb := heap_alloc_new w1 (.cells #[.int .i64 1, .slice aa n.attrs.length ac, .string n.text, .slice ka n.kids.length kc] 26)
  clear hg r1 x1 e0
  go_upto_region 6 with fail
  obtain ⟨w2, hw2⟩ : ∃ w2 : World, w2 = w1.alloc (.cells #[.int .i64 1, .slice aa n.attrs.length ac, .string n.text, .slice ka n.kids.length kc] 26) := ⟨_, rfl⟩
  rw [← hw2] at xa xa1 bb ⊢
  clear hw2
  obtain ⟨ab, hab⟩ : ∃ ab, w1.heap.size = ab := ⟨_, rfl⟩
  rw [hab] at bb ⊢
  clear hab
  have X2 := qh xa
  have BX2 := qh (cells4 bb)
  have ea := EA.out
  have hnl := n.len_size
  have hns := HG.out.size
  have hhi := HG.out.high
  have R2 := qh (RdN.cells R1.out xa1.cells)
  have SD := qh (sound_any n _ w2 0 true false false HG.out.norm (by omega) R2.out (Ext.refl w2))
  have SZ := qh (fun W (x : Ext w2 W) => Size_any n _ W (by omega) R2.out x)
  have SH := qh (fun W (x : Ext w2 W) => High_any n _ W (by omega) R2.out x)
  obtain ⟨z, hz⟩ : ∃ z : Nat, n.size = z := ⟨_, rfl⟩
  obtain ⟨h, hh⟩ : ∃ h : Nat, n.high = h := ⟨_, rfl⟩
  rw [hz] at SZ hns
  rw [hh] at SH hhi
  have d2 : decide ((z : Int) > 2000) = false := decide_eq_false (by omega)
  have d3 : decide ((h : Int) > 40) = false := decide_eq_false (by omega)
  have t2 : decide ((n.attrs.length : Int) > 0) = false := decide_eq_false (by omega)
  have t3 : decide (0 < n.attrs.length) = false := decide_eq_false (by omega)
  have t4 : decide (0 < (n.attrs.length : Int)) = false := decide_eq_false (by omega)
  have HNL := qh (show n.kids.length ≤ 2000 by omega)
  clear xa xa1 bb R1 hz hh ea hnl
  obtain ⟨n0, n1, n2, n3⟩ := BX2.out
  go_wp2_with (go_at_call 19; refine SD.out.mono ?_)
  rintro e w3 ⟨rfl, x3⟩
  have X3 := qh x3
  clear x3 n0 n1 n2 n3
  obtain ⟨n0, n1, n2, n3⟩ := box_ext X3.out BX2.out
  go_wp2_with (go_at_call 18; refine (SZ.out _ X3.out).mono ?_)
  rintro e w4 ⟨rfl, x4⟩
  have X4 := qh (X3.out.trans x4)
  clear x4 n0 n1 n2 n3
  obtain ⟨n0, n1, n2, n3⟩ := box_ext X4.out BX2.out
  go_wp2_with (go_at_call 20; refine (SH.out _ X4.out).mono ?_)
  rintro e w5 ⟨rfl, x5⟩
  have X5 := qh (X4.out.trans x5)
  clear x5 n0 n1 n2 n3
  have B5 := qh (box_ext X5.out BX2.out)
  have R5 := qh (RdN.cells R2.out X5.out.cells)
  go_wp2_with (go_at_call 21; refine (New_sit _).mono ?_)
  rintro e w6 ⟨tb, rfl, hs⟩
  have HS6 := qh hs
  have HX6 := qh (X2.out.trans X5.out)
  clear hs SD SZ SH
  have hnl := HNL.out
  go_wp2_with fail
  go_loopw [7] (fun i wr => ∃ (k : Nat) (T : Tr), k ≤ n.kids.length ∧ i = .int .i64 k ∧ Hung n k T ∧ Sit w5 wr tb T w5) (fun i _ => n.kids.length - (intOf i).toNat)
  case atStart => exact ⟨0, _, Nat.zero_le _, rfl, Hung.start n, HS6.out⟩
  case round =>
    obtain ⟨k, T, hk, rfl, hu, hsr⟩ := hrel
    have HU := qh hu
    have HSR := qh hsr
    obtain ⟨n0, n1, n2, n3⟩ := box_ext hsr.since B5.out
    clear hu hsr
    by_cases hkk : k < n.kids.length
    · obtain ⟨x, hx⟩ : ∃ x, n.kids[k]? = some x := ⟨n.kids[k], by simp [hkk]⟩
      obtain ⟨kb, ko, kp, rfl, u1, u2, u3, u4, q0, q1, q2, q3, qx⟩ := kid4 R5.out hx
      replace q0 := HSR.out.since.cells _ _ q0
      replace q1 := HSR.out.since.cells _ _ q1
      replace q2 := HSR.out.since.cells _ _ q2
      replace q3 := HSR.out.since.cells _ _ q3
      have GA := qh (graft_at HU.out HG.out HSR.out hx qx)
      have hkd : decide ((k : Int) < (n.kids.length : Int)) = true := decide_eq_true (by omega)
      clear hx qx
      go_wp2_with (go_at_call 22; refine GA.out.mono ?_)
      rintro e w7 ⟨i, T1, rfl, hu1, hs1⟩
      have HU1 := qh hu1
      have HS1 := qh hs1
      clear hu1 hs1
      go_wp2_with fail
      go_roundw
      case rel => exact ⟨k + 1, T1, by omega, by go_num, HU1.out, HS1.out⟩
      case measure => simp [intOf]; omega
    · obtain rfl : k = n.kids.length := by omega
      have hkd : decide ((n.kids.length : Int) < (n.kids.length : Int)) = false := decide_eq_false (by omega)
      obtain ⟨d, pd, hw, hA, hp, ht, hkl, hpl, hc, hcap, hdeep⟩ := HU.out.out
      rw [List.take_length, ← HG.out.bu.tag] at hpl
      have HW := qh hw
      have HA := qh hA
      have HP := qh hp
      have HPL := qh hpl
      have FN := qh HG.out.bu.fair
      clear hw hA hp ht hkl hpl hc hcap hdeep
      go_upto_region 17 with fail
      have HS8 := qh (HSR.out.ext ((Ext.refl _).drew))
      have hk8 := box_ext HSR.out.since B5.out
      clear n0 n1 n2 n3
      go_region_held3 (fun w' => w'.cell? ⟨ab, 0, none⟩ = some (.int .i64 1) ∧ w'.cell? ⟨ab, 1, none⟩ = some (.slice aa n.attrs.length ac) ∧ w'.cell? ⟨ab, 2, none⟩ = some (.string n.text) ∧ w'.cell? ⟨ab, 3, none⟩ = some (.slice ka n.kids.length kc))
        (first | exact hkeep | exact hk8 | go_keep)
        (first
        | (go_at_call 9; refine (HAW.out _ (HL.out.ext (HX6.out.trans HX23.out))).mono ?_; rintro e w24 ⟨rfl, hx24⟩; have hkeep := box_ext (HX23.out.trans hx24) B5.out)
        | (go_at_call 12; refine (SameNode_eq n FN.out _ _ _ HR22.out HN22.out).mono ?_; rintro e w23 ⟨rfl, hx23⟩; have hkeep := box_ext (HX22.out.trans hx23) B5.out; have HX23 := qh (HX22.out.trans hx23); clear hx23)
        | (go_at_call 23; refine (sit_plain2 HS8.out HW.out HA.out HP.out HPL.out (z := 0) rfl).mono ?_; rintro e w22 ⟨a20, ac20, k20, kc20, gp, g22, rfl, hr20, hs22, hc20, hc21, _⟩; have hkeep := box_ext hs22.since B5.out; have HX22 := qh hs22.since; have HR22 := qh (hr20.cells fun q y hq => hs22.cells _ _ (hc21 _ _ hq)); have HN22 := qh (RdN.cells R5.out hs22.since.cells); clear hs22 hr20 hc20 hc21))
      go_wp2_with fail
      go_ret
      exact ⟨rfl, HX6.out.trans (HX23.out.trans hx24)⟩
end Go.Proofs.YtalaajbajgdglaaGreatDoor
