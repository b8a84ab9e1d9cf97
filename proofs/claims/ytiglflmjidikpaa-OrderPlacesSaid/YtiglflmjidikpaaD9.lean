/- What comes in, read as plain words: attributes, plain trees, calls of a tree. No conditions.
quillworklaw08: weigh, Heavy: what is not heavy is light. No conditions.
Package dom: each call in one contract: the tree behind it is a good one. Conditions: at most 100000 bytes, 60000 attributes, light plain trees.
The chapter's examples of package dom (awake) come true. No conditions. -/
import Derived.Test.YtiglflmjidikpaaD8
import Derived.Deep.Slices
import Derived.ChangeSame
import Derived.Test.YtiglflmjidikpaaD3
namespace Go.Proofs.Ytiglflmjidikpaa
open Go Go.RowKit Go.BigFrame Go.ChangeShapes Go.WideShapes Go.Deep
set_option linter.unusedVariables false
set_option linter.unusedSimpArgs false

theorem exists_row {α : Type} (n : Nat) (P : Nat → α → Prop) (h : ∀ i, i < n → ∃ x, P i x) : ∃ l : List α, l.length = n ∧ ∀ (i : Nat) x, l[i]? = some x → P i x := by
  induction n with
  | zero => exact ⟨[], rfl, fun i x hx => by simp at hx⟩
  | succ n ih =>
    obtain ⟨l, h1, h2⟩ := ih fun i hi => h i (by omega)
    obtain ⟨x, hx⟩ := h n (by omega)
    refine ⟨l ++ [x], by simp [h1], fun i y hy => ?_⟩
    rw [List.getElem?_append] at hy
    split at hy
    · exact h2 i y hy
    · rcases Nat.eq_zero_or_pos (i - l.length) with h0 | h0
      · rw [h0] at hy; simp at hy
        obtain rfl : i = n := by omega
        exact hy ▸ hx
      · rw [List.getElem?_eq_none (by simp; omega)] at hy; cases hy
theorem attrCells_get (l : List (ByteArray × ByteArray)) : ∀ (j : Nat) (x : Value), (attrCells l)[j]? = some x → ∃ p, l[j / 2]? = some p ∧ x = if j % 2 = 0 then .string p.1 else .string p.2 := by
  induction l with
  | nil => intro j x h; simp [attrCells] at h
  | cons q r ih =>
    obtain ⟨a, b⟩ := q
    intro j x h
    match j, h with
    | 0, h => simp [attrCells] at h; exact ⟨(a, b), by simp, by simp [h]⟩
    | 1, h => simp [attrCells] at h; exact ⟨(a, b), by simp, by simp [h]⟩
    | j + 2, h =>
      simp only [attrCells, List.getElem?_cons_succ] at h
      obtain ⟨p, h1, h2⟩ := ih j x h
      exact ⟨p, by rw [show (j + 2) / 2 = j / 2 + 1 by omega]; simpa using h1, by rw [show (j + 2) % 2 = j % 2 by omega]; exact h2⟩
section
variable {H : Type} {enc : TypeId × Value → H} {w : World} {base : Nat} {spare : Nat → Bool} {held : Bool}
theorem cells_at {a : Addr} {n : Nat} {cs : List Value} (h : w.cells? base a n = some cs) {i : Nat} {v : Value} (hi : cs[i]? = some v) : w.cell? (a.add i) = some v := by
  obtain ⟨_, hl, hg⟩ := World.cells?_some h
  have := (List.getElem?_eq_some_iff.1 hi).1
  rw [hg i (by omega)]; exact hi
theorem slice_elems {t e : TypeId} {fuel : Nat} {cs : List Value} {x : DataW H × List MemPlace} (ht : Try.prog.underlying t = some (.slice e)) (h : DataW.trod enc Try.prog w base spare held fuel t cs = some x) :
    cs = [.slice none 0 0] ∨ ∃ (a : Addr) (len cap n : Nat), fuel = n + 1 ∧ cs = [.slice (some a) len cap] ∧ len ≤ cap ∧ cap ≤ maxLen ∧
      ∀ i, i < len → ∃ cs' y, w.cells? base (a.add (i * Try.prog.cellsOf e)) (Try.prog.cellsOf e) = some cs' ∧ DataW.trod enc Try.prog w base spare held n e cs' = some y := by
  rcases DataW.trod_slice ht h with ⟨h0, _⟩ | ⟨a, len, cap, elems, rest, n, hn, hc, _, hb, hl, hm, hlen, hel, _⟩
  · exact .inl h0
  · refine .inr ⟨a, len, cap, n, hn, hc, hl, hm, fun i hi => ?_⟩
    have key := hel i hi
    rw [List.getElem?_eq_getElem (by omega)] at key
    obtain ⟨cs', h1, h2⟩ := Option.bind_eq_some_iff.1 key
    exact ⟨cs', _, h1, h2⟩
set_option maxRecDepth 20000 in
theorem read_attrs {fuel : Nat} {cs : List Value} {x : DataW H × List MemPlace} (h : DataW.trod enc Try.prog w base spare held fuel 27 cs = some x) :
    ∃ (v : Value) (l : List (ByteArray × ByteArray)), cs = [v] ∧ RowRd w 2 v l.length (attrCells l) := by
  rcases slice_elems Try.underlying27 h with rfl | ⟨a, len, cap, n, _, rfl, hl, hm, hi⟩
  · exact ⟨_, [], rfl, ⟨rfl, none, 0, rfl, Nat.le_refl _, fun _ => ⟨rfl, rfl⟩, fun a h => by cases h⟩⟩
  · have hC : Try.prog.cellsOf 44 = 2 := by kernel_rfl
    obtain ⟨l, h1, h2⟩ := exists_row len (fun i (p : ByteArray × ByteArray) => w.cell? (a.add (i * 2)) = some (.string p.1) ∧ w.cell? (a.add (i * 2 + 1)) = some (.string p.2)) fun i hil => by
      obtain ⟨cs', y, hc, ht⟩ := hi i (by omega)
      rw [hC] at hc
      obtain ⟨ys, n', rfl, _, hcl, hyl, hf⟩ := DataW.trod_struct Try.underlying44 ht
      rw [hC] at hcl
      have hS : Try.prog.cellsOf 9 = 1 := by kernel_rfl
      match cs', hcl with
      | [u0, u1], _ =>
        have g0 := hf 0 { name := _, type := 9, offset := 0, embedded := _, tag := _, pkgPath := _, byteOffset := _ } rfl
        have g1 := hf 1 { name := _, type := 9, offset := 1, embedded := _, tag := _, pkgPath := _, byteOffset := _ } rfl
        simp only [hS] at g0 g1
        match ys, hyl with
        | [y0, y1], _ =>
          obtain ⟨s0, e0, _⟩ := DataW.trod_string Try.underlying9 (x := y0) g0
          obtain ⟨s1, e1, _⟩ := DataW.trod_string Try.underlying9 (x := y1) g1
          simp at e0 e1
          subst e0 e1
          refine ⟨(s0, s1), cells_at hc (i := 0) rfl, ?_⟩
          have := cells_at hc (i := 1) (v := .string s1) rfl
          rw [Go.Deep.add_add] at this
          exact this
    refine ⟨_, l, rfl, ⟨by rw [attrCells_len], some a, cap, by rw [h1], by omega, (fun h => by cases h), fun a' ha j x hx => ?_⟩⟩
    cases ha
    obtain ⟨p, q1, q2⟩ := attrCells_get l j x hx
    have := h2 _ p q1
    rcases Nat.mod_two_eq_zero_or_one j with h0 | h0
    · rw [q2, if_pos h0, ← this.1, show j / 2 * 2 = j by omega]
    · rw [q2, if_neg (by omega), ← this.2, show j / 2 * 2 + 1 = j by omega]
set_option maxRecDepth 20000 in
theorem read_node : ∀ (fuel : Nat) (cs : List Value) (x : DataW H × List MemPlace), DataW.trod enc Try.prog w base spare held fuel 30 cs = some x →
    ∃ (c0 c1 c2 c3 : Value) (n : PN), cs = [c0, c1, c2, c3] ∧ RdN w n (.agg #[c0, c1, c2, c3]) := by
  intro fuel
  induction fuel using Nat.strongRecOn with
  | _ fuel ih =>
  intro cs x h
  have hC : Try.prog.cellsOf 30 = 4 := by kernel_rfl
  have hS : Try.prog.cellsOf 9 = 1 := by kernel_rfl
  have hI : Try.prog.cellsOf 3 = 1 := by kernel_rfl
  have hA : Try.prog.cellsOf 27 = 1 := by kernel_rfl
  have hK : Try.prog.cellsOf 28 = 1 := by kernel_rfl
  obtain ⟨ys, n, hfu, _, hcl, hyl, hf⟩ := DataW.trod_struct Try.underlying30 h
  rw [hC] at hcl
  match cs, hcl with
  | [c0, c1, c2, c3], _ =>
    have g0 := hf 0 { name := _, type := 3, offset := 0, embedded := _, tag := _, pkgPath := _, byteOffset := _ } rfl
    have g1 := hf 1 { name := _, type := 27, offset := 1, embedded := _, tag := _, pkgPath := _, byteOffset := _ } rfl
    have g2 := hf 2 { name := _, type := 9, offset := 2, embedded := _, tag := _, pkgPath := _, byteOffset := _ } rfl
    have g3 := hf 3 { name := _, type := 28, offset := 3, embedded := _, tag := _, pkgPath := _, byteOffset := _ } rfl
    simp only [hS, hI, hA, hK] at g0 g1 g2 g3
    match ys, hyl with
    | [y0, y1, y2, y3], _ =>
      obtain ⟨tag, e0, _⟩ := DataW.trod_int Try.underlying3 (x := y0) g0
      obtain ⟨av, attrs, e1, hattrs⟩ := read_attrs (x := y1) g1
      obtain ⟨s, e2, _⟩ := DataW.trod_string Try.underlying9 (x := y2) g2
      simp at e0 e1 e2
      subst e0 e1 e2
      have g3' : DataW.trod enc Try.prog w base spare held n 28 [c3] = some y3 := g3
      rcases slice_elems Try.underlying28 g3' with e3 | ⟨a, len, cap, n', hn', e3, hl, hm, hi⟩
      · simp at e3
        subst e3
        exact ⟨_, _, _, _, .mk tag attrs s [], rfl, RdN.mk' (n := .mk tag attrs s []) hattrs ⟨none, 0, rfl, Nat.le_refl _, Nat.zero_le _, fun _ => ⟨rfl, rfl⟩, fun a h => by cases h⟩⟩
      · simp at e3
        subst e3
        obtain ⟨l, h1, h2⟩ := exists_row len (fun i (k : PN) => ∃ c0 c1 c2 c3, w.cell? (a.add (i * 4)) = some c0 ∧ w.cell? (a.add (i * 4 + 1)) = some c1 ∧ w.cell? (a.add (i * 4 + 2)) = some c2 ∧ w.cell? (a.add (i * 4 + 3)) = some c3 ∧ RdN w k (.agg #[c0, c1, c2, c3])) fun i hil => by
          obtain ⟨cs', y, hc, ht⟩ := hi i (by omega)
          rw [hC] at hc
          obtain ⟨d0, d1, d2, d3, k, rfl, hk⟩ := ih n' (by omega) cs' _ ht
          refine ⟨k, d0, d1, d2, d3, cells_at hc (i := 0) rfl, ?_, ?_, ?_, hk⟩
          · have := cells_at hc (i := 1) (v := d1) rfl; rw [Go.Deep.add_add] at this; exact this
          · have := cells_at hc (i := 2) (v := d2) rfl; rw [Go.Deep.add_add] at this; exact this
          · have := cells_at hc (i := 3) (v := d3) rfl; rw [Go.Deep.add_add] at this; exact this
        exact ⟨_, _, _, _, .mk tag attrs s l, rfl, RdN.mk' (n := .mk tag attrs s l) hattrs ⟨some a, cap, by rw [show (PN.mk tag attrs s l).kids.length = len from h1], by rw [show (PN.mk tag attrs s l).kids.length = len from h1]; exact hl, hm, (fun h => by cases h), fun a' ha j k hk => (by cases ha; exact h2 j k hk)⟩⟩
end
/-- a call of a tree -/
structure Cl where
  what : Int
  a : Int
  b : Int
  c : Int
  s : ByteArray
  attrs : List (ByteArray × ByteArray)
  n : PN
/-- ten cells that read as a call -/
def ClAt (w : World) (A : Addr) (c : Cl) : Prop := ∃ av c6 c7 c8 c9, w.cell? A = some (.int .i64 c.what) ∧ w.cell? (A.add 1) = some (.int .i64 c.a) ∧ w.cell? (A.add 2) = some (.int .i64 c.b) ∧ w.cell? (A.add 3) = some (.int .i64 c.c) ∧
  w.cell? (A.add 4) = some (.string c.s) ∧ w.cell? (A.add 5) = some av ∧ w.cell? (A.add 6) = some c6 ∧ w.cell? (A.add 7) = some c7 ∧ w.cell? (A.add 8) = some c8 ∧ w.cell? (A.add 9) = some c9 ∧
  RowRd w 2 av c.attrs.length (attrCells c.attrs) ∧ RdN w c.n (.agg #[c6, c7, c8, c9])
def CallsRd (w : World) (l : List Cl) (v : Value) : Prop :=
  ∃ ao cap, v = .slice ao l.length cap ∧ l.length ≤ cap ∧ cap ≤ maxLen ∧ (ao = none → l.length = 0) ∧ ∀ a, ao = some a → ∀ (k : Nat) c, l[k]? = some c → ClAt w (a.add (k * 10)) c
section
variable {H : Type} {enc : TypeId × Value → H} {w : World} {base : Nat} {spare : Nat → Bool} {held : Bool}
set_option maxRecDepth 20000 in
theorem read_calls {v : Value} {d : DataW H} {p : List MemPlace} (h : DataW.Trod enc Try.prog w base spare held 22 v d p) (hv : v.cells.toList = [v]) : ∃ l, CallsRd w l v := by
  obtain ⟨fuel, h⟩ := h
  rw [hv] at h
  have hC : Try.prog.cellsOf 35 = 10 := by kernel_rfl
  have hS : Try.prog.cellsOf 9 = 1 := by kernel_rfl
  have hI : Try.prog.cellsOf 3 = 1 := by kernel_rfl
  have hA : Try.prog.cellsOf 27 = 1 := by kernel_rfl
  have hN : Try.prog.cellsOf 30 = 4 := by kernel_rfl
  rcases slice_elems Try.underlying22 h with e | ⟨a, len, cap, n, _, e, hl, hm, hi⟩
  · simp at e; subst e
    exact ⟨[], none, 0, rfl, Nat.le_refl _, Nat.zero_le _, fun _ => rfl, fun a h => by cases h⟩
  · simp at e; subst e
    obtain ⟨l, h1, h2⟩ := exists_row len (fun i (c : Cl) => ClAt w (a.add (i * 10)) c) fun i hil => by
      obtain ⟨cs', y, hc, ht⟩ := hi i hil
      rw [hC] at hc
      obtain ⟨ys, n', rfl, _, hcl, hyl, hf⟩ := DataW.trod_struct Try.underlying35 ht
      rw [hC] at hcl
      match cs', hcl with
      | [u0, u1, u2, u3, u4, u5, u6, u7, u8, u9], _ =>
        have g0 := hf 0 { name := _, type := 3, offset := 0, embedded := _, tag := _, pkgPath := _, byteOffset := _ } rfl
        have g1 := hf 1 { name := _, type := 3, offset := 1, embedded := _, tag := _, pkgPath := _, byteOffset := _ } rfl
        have g2 := hf 2 { name := _, type := 3, offset := 2, embedded := _, tag := _, pkgPath := _, byteOffset := _ } rfl
        have g3 := hf 3 { name := _, type := 3, offset := 3, embedded := _, tag := _, pkgPath := _, byteOffset := _ } rfl
        have g4 := hf 4 { name := _, type := 9, offset := 4, embedded := _, tag := _, pkgPath := _, byteOffset := _ } rfl
        have g5 := hf 5 { name := _, type := 27, offset := 5, embedded := _, tag := _, pkgPath := _, byteOffset := _ } rfl
        have g6 := hf 6 { name := _, type := 30, offset := 6, embedded := _, tag := _, pkgPath := _, byteOffset := _ } rfl
        simp only [hS, hI, hA, hN] at g0 g1 g2 g3 g4 g5 g6
        match ys, hyl with
        | [y0, y1, y2, y3, y4, y5, y6], _ =>
          obtain ⟨z0, e0, _⟩ := DataW.trod_int Try.underlying3 (x := y0) g0
          obtain ⟨z1, e1, _⟩ := DataW.trod_int Try.underlying3 (x := y1) g1
          obtain ⟨z2, e2, _⟩ := DataW.trod_int Try.underlying3 (x := y2) g2
          obtain ⟨z3, e3, _⟩ := DataW.trod_int Try.underlying3 (x := y3) g3
          obtain ⟨s4, e4, _⟩ := DataW.trod_string Try.underlying9 (x := y4) g4
          obtain ⟨v5, attrs, e5, hattrs⟩ := read_attrs (x := y5) g5
          obtain ⟨d0, d1, d2, d3, pn, e6, hpn⟩ := read_node n' _ y6 g6
          simp at e0 e1 e2 e3 e4 e5 e6
          obtain ⟨e6, e7, e8, e9⟩ := e6
          subst e0 e1 e2 e3 e4 e5 e6 e7 e8 e9
          exact ⟨⟨z0, z1, z2, z3, s4, attrs, pn⟩, _, _, _, _, _, cells_at hc (i := 0) rfl, cells_at hc (i := 1) rfl, cells_at hc (i := 2) rfl, cells_at hc (i := 3) rfl, cells_at hc (i := 4) rfl, cells_at hc (i := 5) rfl, cells_at hc (i := 6) rfl, cells_at hc (i := 7) rfl, cells_at hc (i := 8) rfl, cells_at hc (i := 9) rfl, hattrs, hpn⟩
    exact ⟨l, some a, cap, by rw [h1], by omega, hm, (fun h => by cases h), fun a' ha k c hk => (by cases ha; exact h2 k c hk)⟩
end
end Go.Proofs.Ytiglflmjidikpaa

namespace Go.Proofs.Ytiglflmjidikpaa
open Go Go.RowKit Go.BigFrame
set_option linter.unusedVariables false
set_option linter.unusedSimpArgs false

mutual
/-- what weigh leaves, if it looks at all of it -/
def PN.light : PN → Bool
  | .mk _ a s ks => decide (s.size ≤ 20000) && decide (a.length ≤ 200) && PN.lights ks
def PN.lights : List PN → Bool
  | [] => true
  | k :: r => PN.light k && PN.lights r
end
theorem PN.light_eq (n : PN) : n.light = (decide (n.text.size ≤ 20000) && decide (n.attrs.length ≤ 200) && PN.lights n.kids) := by cases n; rfl
theorem lights_snoc (l : List PN) (k : PN) : PN.lights (l ++ [k]) = (PN.lights l && PN.light k) := by
  induction l with
  | nil => simp [PN.lights]
  | cons x r ih => simp only [List.cons_append, PN.lights, ih, Bool.and_assoc]
theorem PN.light_short : ∀ n : PN, n.light = true → n.short = true := by
  refine PN.induct _ fun n ih h => ?_
  rw [PN.light_eq] at h
  simp at h
  rw [PN.short_eq]
  have : ∀ l : List PN, (∀ k ∈ l, k ∈ n.kids) → PN.lights l = true → PN.shorts l = true := by
    intro l
    induction l with
    | nil => intro _ _; rfl
    | cons x r ih2 =>
      intro hm hl
      simp only [PN.lights, Bool.and_eq_true] at hl
      simp only [PN.shorts, Bool.and_eq_true]
      exact ⟨ih x (hm x (by simp)) hl.1, ih2 (fun k hk => hm k (by simp [hk])) hl.2⟩
  simp
  exact ⟨⟨by omega, by omega⟩, this n.kids (fun k hk => hk) h.2⟩
mutual
def PN.weigh (left : Int) : PN → Int
  | .mk _ a s ks => if 20000 < s.size ∨ 200 < a.length then -1 else PN.weighs (left - 1 - a.length - (s.size : Int) / 64) ks
def PN.weighs (left : Int) : List PN → Int
  | [] => left
  | k :: r => if 0 ≤ left then PN.weighs (PN.weigh left k) r else left
end
theorem PN.weigh_eq (left : Int) (n : PN) : PN.weigh left n = if 20000 < n.text.size ∨ 200 < n.attrs.length then -1 else PN.weighs (left - 1 - n.attrs.length - (n.text.size : Int) / 64) n.kids := by cases n; rfl
theorem weighs_neg (l : List PN) {r : Int} (h : r < 0) : PN.weighs r l = r := by
  cases l with
  | nil => rfl
  | cons x l => simp only [PN.weighs]; rw [if_neg (by omega)]
theorem weighs_append : ∀ (l r : List PN) (z : Int), PN.weighs z (l ++ r) = PN.weighs (PN.weighs z l) r := by
  intro l
  induction l with
  | nil => intro r z; rfl
  | cons x l ih =>
    intro r z
    simp only [List.cons_append, PN.weighs]
    split
    · exact ih r _
    · rw [weighs_neg r (by omega)]
/-- weigh's answer: what is left; if anything is left, all is light -/
def WeighIs (n : PN) (left : Int) (w : World) (e : Ending) (w' : World) : Prop := ∃ r : Int, r = n.weigh left ∧ e = .returned (.int .i64 r) ∧ -1000000 ≤ r ∧ r ≤ 10000 ∧ (0 ≤ r → n.light = true ∧ r + n.size ≤ left) ∧ Ext w w'
set_option maxRecDepth 100000 in
set_option maxHeartbeats 4000000 in
theorem weigh_any {w0 : World} : ∀ (n : PN) (nv : Value) (left : Int) (w : World), RdN w0 n nv → Ext w0 w → -10000 ≤ left → left ≤ 10000 →
    Calls Try.prog 30 #[nv, .int .i64 left] w (WeighIs n left w) := by
  refine PN.induct _ fun n ih nv left w hr hx h0 h1 => ?_
  obtain ⟨av, kv, rfl, ha, hk⟩ := hr.open
  obtain ⟨aa, acap, rfl, hac⟩ := ha.len_of
  obtain ⟨ka, kcap, rfl, hkc, hkm, hkn, hkr⟩ := hk
  have x1 := (Ext.refl w).alloc (.cells #[.int .i64 n.tag, .slice aa n.attrs.length acap, .string n.text, .slice ka n.kids.length kcap] 30)
  have hbox := heap_alloc_new w (.cells #[.int .i64 n.tag, .slice aa n.attrs.length acap, .string n.text, .slice ka n.kids.length kcap] 30)
  have HKR := Lib.hid hkr
  have HKN := Lib.hid hkn
  have HX := Lib.hid hx
  have HX1 := Lib.hid x1
  have IH := Lib.hid ih
  unfold maxLen at hkm
  clear hkr hkn hx ih hr ha x1
  have hq1 : IntKind.i64.wrap (left - 1) = left - 1 := IntWalk.i64_in _ (by omega)
  go_enter Try.func30, Try.ntmps30
  go_upto_region 1 with fail
  obtain ⟨wb, hwb⟩ : ∃ wb : World, wb = w.alloc (.cells #[.int .i64 n.tag, .slice aa n.attrs.length acap, .string n.text, .slice ka n.kids.length kcap] 30) := ⟨_, rfl⟩
  rw [← hwb] at hbox HX1 ⊢
  clear hwb hq1
  have k1 := cellOf hbox (i := 1) (v := .slice aa n.attrs.length acap) rfl
  have k2 := cellOf hbox (i := 2) (v := .string n.text) rfl
  have k3 := cellOf hbox (i := 3) (v := .slice ka n.kids.length kcap) rfl
  clear hbox
  by_cases hbig : 20000 < n.text.size
  · go_wp2
    go_ret
    exact ⟨-1, by rw [PN.weigh_eq, if_pos (by omega)], rfl, by omega, by omega, fun h => by omega, HX1.out⟩
  · by_cases hbg2 : 200 < n.attrs.length
    · go_wp2
      go_ret
      exact ⟨-1, by rw [PN.weigh_eq, if_pos (by omega)], rfl, by omega, by omega, fun h => by omega, HX1.out⟩
    · have hd : (n.text.size : Int) / 64 ≤ 400 := by omega
      have hd0 : 0 ≤ (n.text.size : Int) / 64 := by omega
      have hkl : (n.kids.length : Int) ≤ 9223372036854775807 := by omega
      go_wp2_with fail
      go_loopw [1, 5] (fun l i wr => ∃ (k : Nat) (r : Int), k ≤ n.kids.length ∧ i = .int .i64 k ∧ l = .int .i64 r ∧ r = PN.weighs (left - 1 - n.attrs.length - (n.text.size : Int) / 64) (n.kids.take k) ∧ -1000000 ≤ r ∧ r ≤ 10000 ∧ Ext wb wr ∧ (0 ≤ r → PN.lights (n.kids.take k) = true ∧ r + 1 + PN.sizes (n.kids.take k) ≤ left)) (fun _ i _ => n.kids.length - (intOf i).toNat)
      case atStart => exact ⟨0, _, Nat.zero_le _, rfl, rfl, by simp [PN.weighs], by omega, by omega, Ext.refl _, fun _ => ⟨by simp [PN.lights], by simp [PN.sizes]; omega⟩⟩
      case round =>
        obtain ⟨k, r, hk, rfl, rfl, hw, r0, r1, xr, hlt⟩ := hrel
        have HWW := Lib.hid hw
        clear hw
        have HLT := Lib.hid hlt
        have HXR := Lib.hid xr
        replace k3 := xr.cell k3
        clear hlt xr
        have hfin : (r < 0 ∨ k = n.kids.length) → 0 ≤ r → n.light = true ∧ r + n.size ≤ left := fun hc hr0 => by
          have h := HLT.out hr0
          have hk' : k = n.kids.length := by rcases hc with hc | hc; omega; exact hc
          rw [hk', List.take_length] at h
          rw [PN.light_eq, PN.size_eq]
          simp [h.1]
          exact ⟨⟨by omega, by omega⟩, by push_cast; omega⟩
        have HFIN := Lib.hid hfin
        clear hfin
        by_cases hkk : k < n.kids.length
        · by_cases hr0 : 0 ≤ r
          · obtain ⟨x, hx⟩ : ∃ x, n.kids[k]? = some x := ⟨n.kids[k], by simp [hkk]⟩
            cases ka with
            | none => exact absurd (HKN.out rfl).1 (by omega)
            | some a =>
              obtain ⟨b, off, sp⟩ := a
              obtain ⟨c0', c1', c2', c3', q0, q1, q2, q3, hrd⟩ := HKR.out _ rfl k x hx
              have hxx : Ext w0 wr := (HX.out.trans HX1.out).trans HXR.out
              replace q0 := hxx.cells _ _ q0
              replace q1 := hxx.cells _ _ q1
              replace q2 := hxx.cells _ _ q2
              replace q3 := hxx.cells _ _ q3
              rw [add_later _ _ _ (by decide)] at q1 q2 q3
              have hrec := IH.out x (List.mem_of_getElem? hx) _ r wr hrd hxx (by omega) (by omega)
              have HREC := Lib.hid hrec
              have HXV := Lib.hid hx
              clear hx hrd hrec hxx
              go_wp2_with fail
              refine HREC.out.mono ?_
              rintro e w' ⟨r', hw', rfl, p1, p2, p3, p4⟩
              have HW' := Lib.hid hw'
              clear hw'
              have P3 := Lib.hid p3
              clear p3
              go_wp2_with fail
              go_roundw
              case rel =>
                refine ⟨k + 1, r', by omega, by go_num, rfl, ?_, by omega, by omega, HXR.out.trans p4, fun hr' => ?_⟩
                · obtain ⟨hlt', hxe⟩ := List.getElem?_eq_some_iff.1 HXV.out
                  rw [List.take_succ_eq_append_getElem hlt', hxe, weighs_append, ← HWW.out, HW'.out]
                  simp only [PN.weighs]
                  rw [if_pos hr0]
                obtain ⟨g1, g2⟩ := P3.out hr'
                obtain ⟨g3, g4⟩ := HLT.out hr0
                obtain ⟨hlt', hxe⟩ := List.getElem?_eq_some_iff.1 HXV.out
                rw [List.take_succ_eq_append_getElem hlt', hxe, lights_snoc, sizes_append]
                refine ⟨by rw [g3, g1]; rfl, ?_⟩
                simp only [PN.sizes]
                push_cast; omega
              case measure => simp [intOf]; omega
          · go_wp2_with fail
            go_ret
            refine ⟨r, ?_, rfl, r0, by omega, HFIN.out (.inl (by omega)), HX1.out.trans HXR.out⟩
            rw [PN.weigh_eq, if_neg (by omega), ← List.take_append_drop k n.kids, weighs_append, ← HWW.out, weighs_neg _ (by omega)]
        · go_wp2_with fail
          go_ret
          refine ⟨r, ?_, rfl, r0, by omega, HFIN.out (.inr (by omega)), HX1.out.trans HXR.out⟩
          rw [PN.weigh_eq, if_neg (by omega), HWW.out, List.take_of_length_le (by omega)]
theorem weighs_spec : ∀ (l : List PN), (∀ k ∈ l, ∀ left : Int, -10000 ≤ left → left ≤ 10000 → -1000000 ≤ k.weigh left ∧ (k.weigh left ≤ left ∨ k.weigh left = -1) ∧ (0 ≤ k.weigh left → k.light = true ∧ k.weigh left + k.size ≤ left)) →
    ∀ left : Int, -11000 ≤ left → left ≤ 10000 → -1000000 ≤ PN.weighs left l ∧ (PN.weighs left l ≤ left ∨ PN.weighs left l = -1) ∧ (0 ≤ PN.weighs left l → PN.lights l = true ∧ PN.weighs left l + PN.sizes l ≤ left) := by
  intro l
  induction l with
  | nil => intro _ left h0 h1; simp [PN.weighs, PN.lights, PN.sizes]; omega
  | cons k r ih =>
    intro h left h0 h1
    simp only [PN.weighs, PN.lights, PN.sizes]
    by_cases hl : 0 ≤ left
    · rw [if_pos hl]
      obtain ⟨a1, a2, a3⟩ := h k (by simp) left (by omega) h1
      by_cases hk : k.weigh left < 0
      · rw [weighs_neg r hk]
        exact ⟨a1, a2, fun h => by omega⟩
      · obtain ⟨b1, b2, b3⟩ := ih (fun x hx => h x (by simp [hx])) (k.weigh left) (by omega) (by omega)
        refine ⟨b1, by omega, fun hw => ?_⟩
        obtain ⟨q1, q2⟩ := b3 hw
        obtain ⟨q3, q4⟩ := a3 (by omega)
        exact ⟨by rw [q3, q1]; rfl, by push_cast; omega⟩
    · rw [if_neg hl]
      exact ⟨by omega, .inl (by omega), fun h => by omega⟩
theorem weigh_spec : ∀ (n : PN) (left : Int), -10000 ≤ left → left ≤ 10000 → -1000000 ≤ n.weigh left ∧ (n.weigh left ≤ left ∨ n.weigh left = -1) ∧ (0 ≤ n.weigh left → n.light = true ∧ n.weigh left + n.size ≤ left) := by
  refine PN.induct _ fun n ih left h0 h1 => ?_
  rw [PN.weigh_eq, PN.light_eq, PN.size_eq]
  by_cases hb : 20000 < n.text.size ∨ 200 < n.attrs.length
  · rw [if_pos hb]
    exact ⟨by omega, .inr rfl, fun h => by omega⟩
  · rw [if_neg hb]
    have hd : (n.text.size : Int) / 64 ≤ 400 := by omega
    have hd0 : 0 ≤ (n.text.size : Int) / 64 := by omega
    obtain ⟨b1, b2, b3⟩ := weighs_spec n.kids ih (left - 1 - n.attrs.length - (n.text.size : Int) / 64) (by omega) (by omega)
    refine ⟨b1, by omega, fun hw => ?_⟩
    obtain ⟨q1, q2⟩ := b3 hw
    simp [q1]
    exact ⟨⟨by omega, by omega⟩, by omega⟩
/-- a call is light -/
def LightCl (c : Cl) : Prop := c.s.size ≤ 20000 ∧ c.attrs.length ≤ 200 ∧ c.n.light = true ∧ c.n.size ≤ 4000
def Light (l : List Cl) : Prop := l.length ≤ 200 ∧ ∀ c ∈ l, LightCl c
def HeavyIs (l : List Cl) (w : World) (e : Ending) (w' : World) : Prop := ∃ b : Bool, e = .returned (.bool b) ∧ Ext w w' ∧ (b = false → Light l)
theorem add_pos (a : Addr) (j : Nat) (hj : 0 < j) : a.add j = ⟨a.block, a.off + j, none⟩ := by unfold Addr.add; rw [if_neg (by omega)]
theorem weigh_ok {w0 : World} (n : PN) (nv : Value) (left : Int) (w : World) (h1 : RdN w0 n nv) (h2 : Ext w0 w) (h3 : -10000 ≤ left) (h4 : left ≤ 10000) (P : Prop)
    (h : (-1000000 ≤ n.weigh left → n.weigh left ≤ 10000 → (0 ≤ n.weigh left → n.light = true ∧ n.weigh left + n.size ≤ left) → P)) : Calls Try.prog 30 #[nv, .int .i64 left] w (fun e w' => RVal (.int .i64 (n.weigh left)) w e w' ∧ P) :=
  (weigh_any n nv left w h1 h2 h3 h4).mono fun e w' ⟨r, hr, he, p1, p2, p3, hx⟩ => ⟨⟨hr ▸ he, hx⟩, h (hr ▸ p1) (hr ▸ p2) (by rw [← hr]; exact p3)⟩
theorem weigh_any' {w0 : World} (n : PN) (nv : Value) (left : Int) (w : World) (h1 : RdN w0 n nv) (h2 : Ext w0 w) (h3 : -10000 ≤ left) (h4 : left ≤ 10000) :
    Calls Try.prog 30 #[nv, .int .i64 left] w (RVal (.int .i64 (n.weigh left)) w) :=
  (weigh_any n nv left w h1 h2 h3 h4).mono fun e w' ⟨r, hr, he, _, _, _, hx⟩ => ⟨hr ▸ he, hx⟩
set_option maxRecDepth 100000 in
set_option maxHeartbeats 4000000 in
theorem Heavy_any {w : World} {l : List Cl} {v : Value} (hl : CallsRd w l v) : Calls Try.prog 15 #[v] w (HeavyIs l w) := by
  obtain ⟨ao, cap, rfl, hc1, hc2, hno, hcl⟩ := hl
  have HNO := Lib.hid hno
  have HCL := Lib.hid hcl
  unfold maxLen at hc2
  clear hno hcl
  by_cases hbig : 200 < l.length
  · go_enter Try.func15, Try.ntmps15
    go_wp2_with fail
    go_ret
    exact ⟨true, rfl, Ext.refl _, fun h => by cases h⟩
  · go_enter Try.func15, Try.ntmps15
    go_wp2_with fail
    go_loopw [3, 4] (fun z i wr => ∃ (k : Nat) (r : Int), k ≤ l.length ∧ i = .int .i64 k ∧ z = .int .i64 r ∧ -1000000 ≤ r ∧ r ≤ 4000 ∧ Ext w wr ∧ (0 ≤ r → ∀ c ∈ l.take k, LightCl c)) (fun _ i _ => l.length - (intOf i).toNat)
    case atStart => exact ⟨0, 4000, Nat.zero_le _, rfl, rfl, by omega, by omega, Ext.refl _, fun _ c hc => by simp at hc⟩
    case round =>
      obtain ⟨k, r, hk, rfl, rfl, r0, r1, xr, hlt⟩ := hrel
      have HLT := Lib.hid hlt
      have HXR := Lib.hid xr
      clear hlt xr
      by_cases hkk : k < l.length
      · by_cases hr0 : 0 ≤ r
        · obtain ⟨c, hc⟩ : ∃ c, l[k]? = some c := ⟨l[k], by simp [hkk]⟩
          cases ao with
          | none => exact absurd (HNO.out rfl) (by omega)
          | some a =>
            obtain ⟨b, off, sp⟩ := a
            obtain ⟨av, c6, c7, c8, c9, q0, q1, q2, q3, q4, q5, q6, q7, q8, q9, hra, hrn⟩ := HCL.out _ rfl k c hc
            obtain ⟨aa, acap, rfl, hac⟩ := hra.len_of
            obtain ⟨n0, n1, en, hna, hnk⟩ := hrn.open
            obtain ⟨naa, nac, en0, _⟩ := hna.len_of
            obtain ⟨nka, nkc, en1, _⟩ := hnk
            subst en0 en1
            cases en
            have X := HXR.out.cells
            replace q4 := X _ _ q4
            replace q5 := X _ _ q5
            replace q6 := X _ _ q6
            replace q7 := X _ _ q7
            replace q8 := X _ _ q8
            replace q9 := X _ _ q9
            rw [add_pos _ _ (by decide)] at q4 q5 q6 q7 q8 q9
            have HRN := Lib.hid hrn
            have HC := Lib.hid hc
            clear q0 q1 q2 q3 X hra hrn hna hc
            by_cases hs1 : 20000 < c.s.size
            · go_wp2_with fail
              go_ret
              exact ⟨true, rfl, HXR.out, fun h => by cases h⟩
            · by_cases hs2 : 200 < c.attrs.length
              · go_wp2_with fail
                go_ret
                exact ⟨true, rfl, HXR.out, fun h => by cases h⟩
              · have hd : (c.s.size : Int) / 64 ≤ 400 := by omega
                have hd0 : 0 ≤ (c.s.size : Int) / 64 := by omega
                have d4 := fun u : ExtOf wr => u.ext.cells _ _ q4
                have d5 := fun u : ExtOf wr => u.ext.cells _ _ q5
                have d6 := fun u : ExtOf wr => u.ext.cells _ _ q6
                have d7 := fun u : ExtOf wr => u.ext.cells _ _ q7
                have d8 := fun u : ExtOf wr => u.ext.cells _ _ q8
                have d9 := fun u : ExtOf wr => u.ext.cells _ _ q9
                have e1 : IntKind.i64.wrap (r - (c.attrs.length : Int)) = r - c.attrs.length := IntWalk.i64_in _ (by omega)
                have e2 : IntKind.i64.wrap (r - (c.attrs.length : Int) - (c.s.size : Int) / 64) = r - c.attrs.length - (c.s.size : Int) / 64 := IntWalk.i64_in _ (by omega)
                have e3 : (c.s.size : Int).tdiv 64 = (c.s.size : Int) / 64 := Int.tdiv_eq_ediv_of_nonneg (by omega)
                have e4 : IntKind.i64.wrap ((c.s.size : Int) / 64) = (c.s.size : Int) / 64 := IntWalk.i64_in _ (by omega)
                go_upto_region 9 with fail
                refine wp_region_ext (by kernel_rfl) (by kernel_rfl) ?_
                repeat (go_big_quiet_step ((go_at_call 30; exact inExt (weigh_any' c.n _ (r - c.attrs.length - (c.s.size : Int) / 64) _ HRN.out (HXR.out.trans (ExtOf.ext _)) (by omega) (by omega)))))
                refine wpQuiet_nil ?_
                rintro _ ⟨u, rfl⟩
                clear d4 d5 d6 d7 d8 d9 e1 e2 e3 e4
                obtain ⟨p1, p2, p3⟩ := weigh_spec c.n (r - c.attrs.length - (c.s.size : Int) / 64) (by omega) (by omega)
                have P1 := Lib.hid p1
                have P2 := Lib.hid p2
                have P3 := Lib.hid p3
                clear p1 p2 p3
                go_wp2_with fail
                go_roundw
                case rel =>
                  have p1 := P1.out
                  have p2 := P2.out
                  refine ⟨k + 1, _, by omega, by go_num, rfl, by omega, by omega, HXR.out.trans u.ext, fun hr' c' hc' => ?_⟩
                  obtain ⟨g1, g2⟩ := P3.out hr'
                  obtain ⟨hlt', hxe⟩ := List.getElem?_eq_some_iff.1 HC.out
                  rw [List.take_succ_eq_append_getElem hlt', hxe] at hc'
                  rcases List.mem_append.1 hc' with h | h
                  · exact HLT.out hr0 c' h
                  · simp at h
                    subst h
                    exact ⟨by omega, by omega, g1, by omega⟩
                case measure => simp [intOf]; omega
        · go_wp2_with fail
          go_ret
          exact ⟨_, rfl, HXR.out, fun h => by simp at h <;> omega⟩
      · go_wp2_with fail
        go_ret
        refine ⟨_, rfl, HXR.out, fun h => ⟨by omega, fun c hc => ?_⟩⟩
        have h0 : 0 ≤ r := by simpa using h
        exact HLT.out h0 c (by rw [List.take_of_length_le (by omega)]; exact hc)
end Go.Proofs.Ytiglflmjidikpaa

namespace Go.Proofs.Ytiglflmjidikpaa
open Go Go.RowKit Go.BigFrame
set_option linter.unusedVariables false
set_option linter.unusedSimpArgs false

def NdOk (nd : Nd) : Prop := nd.attrs.length ≤ 60000 ∧ nd.text.size ≤ 8192
def AttrsOk (T : Tr) : Prop := ∀ (i : Nat) (nd : Nd), T.nodes[i]? = some (some nd) → NdOk nd
def GoodT (T : Tr) : Prop := (∃ d, WF T d) ∧ AttrsOk T
/-- a call has come back, the tree is a good one -/
def PlayIs (own : Ow) (w : World) (tb : Nat) (e : Ending) (w' : World) : Prop := (∃ v, e = .returned v) ∧ ∃ T', GoodT T' ∧ After own w tb T' w'
theorem After.same {own : Ow} {w w' : World} {ptr : Nat → Nat} {tb : Nat} {T : Tr} (hT : TreeAt w own ptr tb T) (hO : Owned own w) (x : Ext w w') : After own w tb T w' := ⟨own, ptr, hT.keep (x.keep hO), x.step hO⟩
theorem set_get {l : List (Option Nd)} {i : Nat} {x : Option Nd} {j : Nat} {nd : Nd} (h : (l.set i x)[j]? = some (some nd)) : x = some nd ∨ l[j]? = some (some nd) := by
  rw [List.getElem?_set] at h
  split at h
  · split at h
    · injection h with h; exact .inl h
    · cases h
  · exact .inr h
theorem AttrsOk.put {T : Tr} (h : AttrsOk T) (nd : Nd) (hn : NdOk nd) : AttrsOk (T.put nd) := by
  intro j x hj
  obtain ⟨n, _, h2, _, _, h5, _⟩ := T.put_at nd
  by_cases e : j = n
  · subst e
    obtain rfl := some_inj2 h2 hj
    exact hn
  · exact h j x (h5 j x e hj)
theorem AttrsOk.set2 {T : Tr} (h : AttrsOk T) {p k : Nat} {pd kd : Nd} (h1 : NdOk pd) (h2 : NdOk kd) : AttrsOk (T.set2 p k pd kd) := by
  intro j x hj
  rcases set_get hj with e | hj
  · injection e with e; subst e; exact h2
  · rcases set_get hj with e | hj
    · injection e with e; subst e; exact h1
    · exact h j x hj
theorem AttrsOk.look {T : Tr} (h : AttrsOk T) (i : Int) : NdOk (T.look i) := by
  unfold Tr.look
  cases hg : T.get? i with
  | none => simp [NdOk]
  | some nd => exact h _ nd (Tr.get_lt hg).2.2
theorem AttrsOk.join {T : Tr} (h : AttrsOk T) (p k : Int) : AttrsOk (T.join p k) := h.set2 (h.look p) (h.look k)
theorem intos_attrs (id : Int) : ∀ (l : List PN), (∀ k ∈ l, ∀ T, AttrsOk T → AttrsOk (PN.into T k)) → ∀ T, AttrsOk T → AttrsOk (PN.intos id T l) := by
  intro l
  induction l with
  | nil => intro _ T h; exact h
  | cons k r ih => intro hk T h; exact ih (fun x hx => hk x (by simp [hx])) _ ((hk k (by simp) T h).join _ _)
theorem into_attrs : ∀ n : PN, n.ok = true → n.short = true → ∀ T, AttrsOk T → AttrsOk (PN.into T n) := by
  refine PN.induct _ fun n ih ho hs T h => ?_
  rw [PN.short_eq] at hs
  simp at hs
  have ho' := ho
  rw [PN.ok_eq] at ho'
  simp at ho'
  rw [PN.into_eq]
  exact intos_attrs _ _ (fun k hk => ih k hk (PN.oks_mem (PN.ok_kids ho) hk) (PN.shorts_mem hs.2 hk)) _ (h.put _ ⟨hs.1.2, ho'.1.2⟩)
theorem AttrsOk.rid {T : Tr} (h : AttrsOk T) (q : Nat → Bool) : AttrsOk (T.rid q) := fun i nd hi => h i nd (Tr.rid_some.1 hi).2
theorem AttrsOk.setAt {T : Tr} (h : AttrsOk T) {i : Nat} {nd : Nd} (hn : NdOk nd) : AttrsOk (T.setAt i nd) := fun j x hj => by
  rcases set_get hj with e | hj
  · injection e with e; subst e; exact hn
  · exact h j x hj
section
variable {w : World} {own : Ow} {ptr : Nat → Nat} {tb : Nat} {T : Tr}
theorem play_same (hT : TreeAt w own ptr tb T) (hO : Owned own w) (hG : GoodT T) {v : Value} {e : Ending} {w' : World} (h : RVal v w e w') : PlayIs own w tb e w' := ⟨⟨v, h.1⟩, T, hG, After.same hT hO h.2⟩
theorem play_two (hT : TreeAt w own ptr tb T) (hO : Owned own w) (hG : GoodT T) {v u : Value} {e : Ending} {w' : World} (h : RTwo v u w e w') : PlayIs own w tb e w' := ⟨⟨_, h.1⟩, T, hG, After.same hT hO h.2⟩
theorem Text_play (hT : TreeAt w own ptr tb T) (hO : Owned own w) (hG : GoodT T) (s : ByteArray) (hs : s.size ≤ 100000) : Calls Try.prog 41 #[.pointer (some ⟨tb, 0, none⟩), .string s] w (PlayIs own w tb) := by
  obtain ⟨⟨d, hw⟩, ha⟩ := hG
  by_cases h1 : 8192 < (anewB s).size
  · exact (Text_long tb s hs h1 w).mono fun e w' h => play_two hT hO ⟨⟨d, hw⟩, ha⟩ h
  · by_cases h2 : 1 ≤ T.cap - T.count
    · refine (Text_ok hT hO hw s hs (by omega) h2).mono fun e w' h => ⟨⟨_, h.1⟩, _, ⟨⟨_, hw.put _ rfl rfl (by show (0:Int) ≤ 0; decide) (by show (0:Int) ≤ 16; decide) (by omega) hw.newId_ne⟩, ha.put _ ⟨by simp, by show (anewB s).size ≤ 8192; omega⟩⟩, h.2⟩
    · exact (Text_full hT hO hw.small s hs (by omega) h2).mono fun e w' h => play_two hT hO ⟨⟨d, hw⟩, ha⟩ h
theorem Element_play (hT : TreeAt w own ptr tb T) (hO : Owned own w) (hG : GoodT T) (tag : Int) {av : Value} {attrs : List (ByteArray × ByteArray)} (hr : RowRd w 2 av attrs.length (attrCells attrs)) (hl : attrs.length ≤ 60000) :
    Calls Try.prog 44 #[.pointer (some ⟨tb, 0, none⟩), .int .i64 tag, av] w (PlayIs own w tb) := by
  obtain ⟨⟨d, hw⟩, ha⟩ := hG
  by_cases h1 : 1 ≤ tag ∧ tag ≤ 16
  · by_cases h2 : 1 ≤ T.cap - T.count
    · refine (Element_ok hT hO hw tag h1.1 h1.2 h2 hr hl).mono fun e w' h => ⟨⟨_, h.1⟩, _, ⟨⟨_, hw.put _ rfl rfl (by show 0 ≤ tag; omega) h1.2 (by omega) hw.newId_ne⟩, ha.put _ ⟨hl, by simp⟩⟩, h.2⟩
    · exact (Element_full hT hw.small tag h1.1 h1.2 h2 av).mono fun e w' h => play_two hT hO ⟨⟨d, hw⟩, ha⟩ h
  · exact (Element_arg tb tag h1 av w).mono fun e w' h => play_two hT hO ⟨⟨d, hw⟩, ha⟩ h
theorem nat_of {id : Int} {nd : Nd} (h : T.get? id = some nd) : ∃ i : Nat, id = (i : Int) ∧ T.nodes[i]? = some (some nd) := by
  obtain ⟨h0, _, h2⟩ := Tr.get_lt h
  exact ⟨id.toNat, by omega, h2⟩
theorem tag_b {x : Int} : (x == 0) = true ∨ (x == 0) = false := by cases h : (x == 0); exact .inr rfl; exact .inl rfl
theorem WF.parent_cases {d : Nat → Nat} (hw : WF T d) {i : Nat} {nd : Nd} (h : T.nodes[i]? = some (some nd)) : nd.parent = -1 ∨ ∃ (p : Nat) (pd : Nd), nd.parent = (p : Int) ∧ T.nodes[p]? = some (some pd) ∧ (i : Int) ∈ pd.kids ∧ p ≠ i := by
  rcases hw.up i nd h with h | ⟨p, pd, h1, h2, h3, h4⟩
  · exact .inl h.1
  · exact .inr ⟨p, pd, h1, h2, h4, fun e => by subst e; omega⟩
theorem Insert_play (hT : TreeAt w own ptr tb T) (hO : Owned own w) (hG : GoodT T) (p at' k : Int) : Calls Try.prog 21 #[.pointer (some ⟨tb, 0, none⟩), .int .i64 p, .int .i64 at', .int .i64 k] w (PlayIs own w tb) := by
  obtain ⟨⟨d, hw⟩, ha⟩ := hG
  cases hp : T.get? p with
  | none => exact (Insert_none hT (.inl hp)).mono fun e w' h => play_same hT hO ⟨⟨d, hw⟩, ha⟩ h
  | some pd =>
    cases hk : T.get? k with
    | none => exact (Insert_none hT (.inr hk)).mono fun e w' h => play_same hT hO ⟨⟨d, hw⟩, ha⟩ h
    | some kd =>
      rcases tag_b (x := pd.tag) with ht | ht
      · exact (Insert_kind hT hp hk ht).mono fun e w' h => play_same hT hO ⟨⟨d, hw⟩, ha⟩ h
      · by_cases harg : k = 0 ∨ 0 ≤ kd.parent ∨ at' < 0 ∨ (pd.kids.length : Int) < at'
        · exact (Insert_arg hT hp hk ht harg).mono fun e w' h => play_same hT hO ⟨⟨d, hw⟩, ha⟩ h
        · obtain ⟨p', rfl, hpn⟩ := nat_of hp
          obtain ⟨k', rfl, hkn⟩ := nat_of hk
          obtain ⟨a', rfl⟩ := Int.eq_ofNat_of_zero_le (show 0 ≤ at' by omega)
          have hpar : kd.parent = -1 := by
            rcases hw.parent_cases hkn with h | ⟨q, qd, h1, _⟩
            · exact h
            · omega
          have hal : a' ≤ pd.kids.length := by omega
          have hk0 : k' ≠ 0 := by omega
          have hkl := hw.kids_len hpn
          cases hin : T.within p' k' with
          | true => exact (Insert_loop hT hw hpn hkn ht hk0 hpar hal hin).mono fun e w' h => play_same hT hO ⟨⟨d, hw⟩, ha⟩ h
          | false =>
            by_cases hdp : T.deep < (d p' : Int) + 1 + T.hgt 50 k'
            · exact (Insert_deep hT hO hw hpn hkn ht hk0 hpar hal (by omega) hin hdp).mono fun e w' h => play_same hT hO ⟨⟨d, hw⟩, ha⟩ h
            · refine (Insert_ok hT hO hw hpn hkn ht hk0 hpar hal (by omega) hin (by omega) (insertsAt_any _ _)).mono fun e w' h => ⟨⟨_, h.1⟩, _, ⟨⟨_, hw.link hpn hkn (by simpa using ht) hk0 hpar hin (by show (d p' : Int) + 1 + T.hgt 50 k' ≤ T.deep; omega)⟩, ?_⟩, h.2⟩
              rw [Tr.link_eq]
              exact ha.set2 (show NdOk pd from ha _ _ hpn) (show NdOk kd from ha _ _ hkn)
theorem Remove_play (hT : TreeAt w own ptr tb T) (hO : Owned own w) (hG : GoodT T) (id : Int) : Calls Try.prog 22 #[.pointer (some ⟨tb, 0, none⟩), .int .i64 id] w (PlayIs own w tb) := by
  obtain ⟨⟨d, hw⟩, ha⟩ := hG
  cases hi : T.get? id with
  | none => exact (Remove_none hT hi).mono fun e w' h => play_same hT hO ⟨⟨d, hw⟩, ha⟩ h
  | some nd =>
    obtain ⟨i, rfl, hn⟩ := nat_of hi
    rcases hw.parent_cases hn with h | ⟨p, pd, h1, h2, h3, h4⟩
    · exact (Remove_root hT hi (by omega)).mono fun e w' h => play_same hT hO ⟨⟨d, hw⟩, ha⟩ h
    · have := hw.kids_len h2
      exact (Remove_ok hT hO h2 hn h1 h4 (by omega) h3).mono fun e w' h => ⟨⟨_, h.1⟩, _, ⟨⟨_, hw.unlink h2 hn h1⟩, ha.set2 (show NdOk pd from ha _ _ h2) (show NdOk nd from ha _ _ hn)⟩, h.2⟩
theorem Drop_play (hT : TreeAt w own ptr tb T) (hO : Owned own w) (hG : GoodT T) (id : Int) : Calls Try.prog 25 #[.pointer (some ⟨tb, 0, none⟩), .int .i64 id] w (PlayIs own w tb) := by
  obtain ⟨⟨d, hw⟩, ha⟩ := hG
  cases hi : T.get? id with
  | none => exact (Drop_none hT hO hi).mono fun e w' h => play_same hT hO ⟨⟨d, hw⟩, ha⟩ h
  | some nd =>
    by_cases harg : id = 0 ∨ 0 ≤ nd.parent
    · exact (Drop_arg hT hO hi harg).mono fun e w' h => play_same hT hO ⟨⟨d, hw⟩, ha⟩ h
    · obtain ⟨i, rfl, hn⟩ := nat_of hi
      have hp : nd.parent = -1 := by
        rcases hw.parent_cases hn with h | ⟨p, pd, h1, _⟩
        · exact h
        · omega
      exact (Drop_ok hT hO hw hn (by omega) hp).mono fun e w' h => ⟨⟨_, h.1⟩, _, ⟨⟨_, hw.rid hn hp (by omega)⟩, ha.rid _⟩, h.2⟩
theorem SetAttrs_play (hT : TreeAt w own ptr tb T) (hO : Owned own w) (hG : GoodT T) (id : Int) {av : Value} {attrs : List (ByteArray × ByteArray)} (hr : RowRd w 2 av attrs.length (attrCells attrs)) (hl : attrs.length ≤ 60000) :
    Calls Try.prog 24 #[.pointer (some ⟨tb, 0, none⟩), .int .i64 id, av] w (PlayIs own w tb) := by
  obtain ⟨⟨d, hw⟩, ha⟩ := hG
  cases hi : T.get? id with
  | none => exact (SetAttrs_none hT hi av).mono fun e w' h => play_same hT hO ⟨⟨d, hw⟩, ha⟩ h
  | some nd =>
    rcases tag_b (x := nd.tag) with ht | ht
    · exact (SetAttrs_kind hT hi ht av).mono fun e w' h => play_same hT hO ⟨⟨d, hw⟩, ha⟩ h
    · obtain ⟨i, rfl, hn⟩ := nat_of hi
      have hx := hw.text i nd hn
      exact (SetAttrs_ok hT hO hn ht hr hl).mono fun e w' h => ⟨⟨_, h.1⟩, T.setAt i { nd with attrs := attrs }, ⟨⟨_, hw.setAt (nd' := { nd with attrs := attrs }) hn rfl rfl hx.1 hx.2.1 (fun h => h) (fun _ => rfl)⟩, ha.setAt ⟨hl, (ha _ _ hn).2⟩⟩, h.2⟩
theorem SetText_play (hT : TreeAt w own ptr tb T) (hO : Owned own w) (hG : GoodT T) (id : Int) (s : ByteArray) (hs : s.size ≤ 100000) :
    Calls Try.prog 23 #[.pointer (some ⟨tb, 0, none⟩), .int .i64 id, .string s] w (PlayIs own w tb) := by
  obtain ⟨⟨d, hw⟩, ha⟩ := hG
  cases hi : T.get? id with
  | none => exact (SetText_none hT hO hi s hs).mono fun e w' h => play_same hT hO ⟨⟨d, hw⟩, ha⟩ h
  | some nd =>
    by_cases ht : nd.tag = 0
    · by_cases hl : 8192 < (anewB s).size
      · exact (SetText_long hT hO hi (by simp [ht]) s hs hl).mono fun e w' h => play_same hT hO ⟨⟨d, hw⟩, ha⟩ h
      · obtain ⟨i, rfl, hn⟩ := nat_of hi
        have hx := hw.text i nd hn
        exact (SetText_ok hT hO hn (by simp [ht]) s hs (by omega)).mono fun e w' h => ⟨⟨_, h.1⟩, T.setAt i { nd with text := anewB s }, ⟨⟨_, hw.setAt (nd' := { nd with text := anewB s }) hn rfl rfl hx.1 hx.2.1 (fun h => h) (fun _ => rfl)⟩, ha.setAt ⟨(ha _ _ hn).1, by show (anewB s).size ≤ 8192; omega⟩⟩, h.2⟩
    · exact (SetText_kind hT hO hi (by simpa using ht) s hs).mono fun e w' h => play_same hT hO ⟨⟨d, hw⟩, ha⟩ h
theorem SetTag_play (hT : TreeAt w own ptr tb T) (hO : Owned own w) (hG : GoodT T) (id tag : Int) : Calls Try.prog 29 #[.pointer (some ⟨tb, 0, none⟩), .int .i64 id, .int .i64 tag] w (PlayIs own w tb) := by
  obtain ⟨⟨d, hw⟩, ha⟩ := hG
  cases hi : T.get? id with
  | none => exact (SetTag_none hT hi tag).mono fun e w' h => play_same hT hO ⟨⟨d, hw⟩, ha⟩ h
  | some nd =>
    rcases tag_b (x := nd.tag) with ht | ht
    · exact (SetTag_kind hT hi ht tag).mono fun e w' h => play_same hT hO ⟨⟨d, hw⟩, ha⟩ h
    · by_cases harg : ¬ (1 ≤ tag ∧ tag ≤ 16) ∨ id = 0
      · exact (SetTag_arg hT hi ht tag harg).mono fun e w' h => play_same hT hO ⟨⟨d, hw⟩, ha⟩ h
      · obtain ⟨i, rfl, hn⟩ := nat_of hi
        have hx := hw.text i nd hn
        exact (SetTag_ok hT hO hn ht tag (by omega) (by omega) (by omega)).mono fun e w' h => ⟨⟨_, h.1⟩, T.setAt i { nd with tag := tag }, ⟨⟨_, hw.setAt (nd' := { nd with tag := tag }) hn rfl rfl (by show 0 ≤ tag; omega) (by show tag ≤ 16; omega) (fun h => by have h' : tag = 0 := h; omega) (fun h => by omega)⟩, ha.setAt (show NdOk nd from ha _ _ hn)⟩, h.2⟩
theorem Graft_play {g : World} (hT : TreeAt w own ptr tb T) (hO : Owned own w) (hG : GoodT T) (p at' : Int) {n : PN} {nv : Value} (hr : RdN g n nv) (hap : Apart g own w) (hsh : n.short = true) (hsz : n.size ≤ 90000) :
    Calls Try.prog 31 #[.pointer (some ⟨tb, 0, none⟩), .int .i64 p, .int .i64 at', nv] w (PlayIs own w tb) := by
  obtain ⟨⟨d, hw⟩, ha⟩ := hG
  have hr0 := hr
  obtain ⟨av, kv, rfl, _, _⟩ := hr0.open
  cases hp : T.get? p with
  | none => exact (Graft_none hT hO hp _ _ _ _).mono fun e w' h => play_two hT hO ⟨⟨d, hw⟩, ha⟩ h
  | some pd =>
    rcases tag_b (x := pd.tag) with ht | ht
    · exact (Graft_kind hT hO hp ht _ _ _ _).mono fun e w' h => play_two hT hO ⟨⟨d, hw⟩, ha⟩ h
    · by_cases harg : at' < 0 ∨ (pd.kids.length : Int) < at'
      · exact (Graft_arg hT hO hp ht harg _ _ _ _).mono fun e w' h => play_two hT hO ⟨⟨d, hw⟩, ha⟩ h
      · obtain ⟨p', rfl, hpn⟩ := nat_of hp
        obtain ⟨a', rfl⟩ := Int.eq_ofNat_of_zero_le (show 0 ≤ at' by omega)
        have hal : a' ≤ pd.kids.length := by omega
        by_cases he : (PN.look 0 ⟨0, 0, 0⟩ n).e = 0
        · have hok : n.ok = true := ((look_spec n 0 ⟨0, 0, 0⟩).2.2.1 he).2
          by_cases hdp : T.deep < (d p' : Int) + 1 + n.high
          · exact (Graft_deep hT hO hw hpn ht hal hr hap hsh hsz hok hdp).mono fun e w' h => play_two hT hO ⟨⟨d, hw⟩, ha⟩ h
          · by_cases hf : (n.size : Int) ≤ T.cap - T.count
            · obtain ⟨dz, m, hm1, hm0, hm2, hPut⟩ := into_ok n hok T d hw (by omega) (by omega)
              obtain ⟨kd, hk1, hk2⟩ := hPut.node
              have hpm : p' ≠ m := fun e => hm2 pd (e ▸ hpn)
              obtain ⟨hap1, hap2⟩ := hPut.apart hw hm2 p' pd hpn
              have hgr : T.grafted p' a' pd n = (PN.into T n).link p' a' m pd kd := by
                unfold Tr.grafted; rw [hm1, Int.toNat_natCast, look_of hk1]
              have hi := into_attrs n hok hsh T ha
              refine (Graft_ok hT hO hw hpn ht hal hr hap hsh hsz hok (by omega) hf).mono fun e w' h => ⟨⟨_, h.1⟩, _, ⟨⟨_, hgr ▸ hPut.wf.link (hPut.old p' pd hpm hpn) hk1 (by simpa using ht) hm0 hk2 hap1 (by rw [hap2, hPut.deep, hPut.high]; omega)⟩, ?_⟩, h.2⟩
              rw [hgr, Tr.link_eq]
              exact hi.set2 (show NdOk pd from ha _ _ hpn) (show NdOk kd from hi _ _ hk1)
            · exact (Graft_full hT hO hw hpn ht hal hr hap hsh hsz hok (by omega) hf).mono fun e w' h => play_two hT hO ⟨⟨d, hw⟩, ha⟩ h
        · exact (Graft_bad hT hO hw hpn ht hal hr hap hsh hsz he).mono fun e w' h => play_two hT hO ⟨⟨d, hw⟩, ha⟩ h
end
end Go.Proofs.Ytiglflmjidikpaa

namespace Go.Proofs.Ytiglflmjidikpaa
open Go Go.RowKit Go.BigFrame
set_option linter.unusedVariables false
set_option linter.unusedSimpArgs false

def strA : ByteArray := ⟨#[97]⟩
theorem anewA : (anewB strA).size ≤ 8192 := Nat.le_trans (anewB_size strA) (by decide)
abbrev eNd (k : List Int) (p : Int) : Nd := ⟨1, [], ByteArray.empty, k, p⟩
abbrev pNd (p : Int) : Nd := ⟨2, [], ByteArray.empty, [], p⟩
def aw1 : Tr := ⟨3, 1, 2, [some (eNd [] (-1)), some (pNd (-1))]⟩
def aw2 : Tr := ⟨3, 1, 3, [some (eNd [] (-1)), some (pNd (-1)), some ⟨0, [], anewB strA, [], -1⟩]⟩
def aw3 : Tr := ⟨3, 1, 3, [some (eNd [1] (-1)), some (pNd 0), some ⟨0, [], anewB strA, [], -1⟩]⟩
theorem aw1_put : (hostOf 3 1).put (pNd (-1)) = aw1 := rfl
theorem aw2_put : aw1.put ⟨0, [], anewB strA, [], -1⟩ = aw2 := rfl
theorem aw3_link : aw2.link 0 0 1 (eNd [] (-1)) (pNd (-1)) = aw3 := rfl
theorem hostOf_id : (hostOf 3 1).newId = 1 := rfl
theorem aw1_id : aw1.newId = 2 := rfl
theorem aw1_wf : WF aw1 (fun j => if (j : Int) = (hostOf 3 1).newId then 0 else 0) := by
  have h := WF.put (hostOf_wf 3 1 (by decide) (by decide) (by decide) (by decide)) (pNd (-1)) rfl rfl (by decide) (by decide) (by decide) (by rw [hostOf_id]; decide)
  exact h
theorem aw2_wf : WF aw2 (fun j => if (j : Int) = aw1.newId then 0 else if (j : Int) = (hostOf 3 1).newId then 0 else 0) := by
  have h := WF.put aw1_wf ⟨0, [], anewB strA, [], -1⟩ rfl rfl (by decide) (by decide) (by decide) (by rw [aw1_id]; decide)
  exact h
def d3 (i : Nat) : Nat := if i = 1 then 1 else 0
theorem aw3_wf : WF aw3 d3 := by
  have hz : ∀ (i : Nat) (nd : Nd), aw3.nodes[i]? = some (some nd) → i = 0 ∧ nd = eNd [1] (-1) ∨ i = 1 ∧ nd = pNd 0 ∨ i = 2 ∧ nd = ⟨0, [], anewB strA, [], -1⟩ := by
    intro i nd h
    match i, h with
    | 0, h => left; simp [aw3] at h; exact ⟨rfl, h.symm⟩
    | 1, h => right; left; simp [aw3] at h; exact ⟨rfl, h.symm⟩
    | 2, h => right; right; simp [aw3] at h; exact ⟨rfl, h.symm⟩
    | i + 3, h => simp [aw3] at h
  refine ⟨⟨by decide, by decide, by decide, by decide, by decide, by decide, by decide⟩, ⟨_, rfl, rfl, rfl⟩, fun i nd h => ?_, fun i nd h => ?_, fun i nd h => ?_, fun i nd h => ?_, rfl⟩
  · rcases hz i nd h with ⟨rfl, rfl⟩ | ⟨rfl, rfl⟩ | ⟨rfl, rfl⟩ <;> decide
  · rcases hz i nd h with ⟨rfl, rfl⟩ | ⟨rfl, rfl⟩ | ⟨rfl, rfl⟩
    · exact .inl ⟨rfl, rfl⟩
    · exact .inr ⟨0, eNd [1] (-1), rfl, rfl, rfl, by simp⟩
    · exact .inl ⟨rfl, rfl⟩
  · rcases hz i nd h with ⟨rfl, rfl⟩ | ⟨rfl, rfl⟩ | ⟨rfl, rfl⟩
    · exact ⟨by decide, fun k hk => ⟨1, pNd 0, by simpa using hk, rfl, rfl⟩⟩
    · exact ⟨List.nodup_nil, fun k hk => by simp at hk⟩
    · exact ⟨List.nodup_nil, fun k hk => by simp at hk⟩
  · rcases hz i nd h with ⟨rfl, rfl⟩ | ⟨rfl, rfl⟩ | ⟨rfl, rfl⟩
    · exact ⟨by decide, by decide, fun h => absurd h (by decide)⟩
    · exact ⟨by decide, by decide, fun h => absurd h (by decide)⟩
    · exact ⟨by decide, by decide, fun h => rfl⟩
theorem emptyRow (w : World) : RowRd w 2 (.slice none 0 0) ([] : List (ByteArray × ByteArray)).length (attrCells []) := ⟨rfl, none, 0, rfl, Nat.le_refl _, fun _ => ⟨rfl, rfl⟩, fun a h => by cases h⟩

theorem Step.fresh {own own' : Ow} {w w1 w2 : World} (h : Step own w1 own' w2) (hx : Ext w w1) (hn : ∀ b, own b ≠ none → w.heap.size ≤ b) : Ext w w2 ∧ ∀ b, own' b ≠ none → w.heap.size ≤ b := by
  have hs := Ext.size hx
  refine ⟨Below.trans hx ⟨h.os, h.tape, h.output, h.size, fun k hk => h.rest k (Nat.lt_of_lt_of_le hk hs) (Classical.byContradiction fun e => by have := hn k e; omega)⟩, fun b hb => ?_⟩
  rcases Nat.lt_or_ge b w1.heap.size with hlt | hge
  · exact hn b (by rw [← h.same b hlt]; exact hb)
  · exact Nat.le_trans hs hge

set_option maxRecDepth 100000 in
set_option maxHeartbeats 1000000 in
theorem awake_any (w : World) : Calls Try.prog 16 #[] w (RVal (.bool true) w) := by
  go_enter Try.func16, Try.ntmps16
  go_wp2_with fail
  refine (New_ok 3 1 (by decide) (by decide) (by decide) (by decide) _).mono ?_
  rintro e w1 ⟨tb, own, ptr, rfl, hT, hO, hx, hn⟩
  go_wp2_with fail
  refine (Element_ok hT hO (hostOf_wf 3 1 (by decide) (by decide) (by decide) (by decide)) 2 (by decide) (by decide) (by decide) (emptyRow w1) (by simp)).mono ?_
  rintro e w2 ⟨rfl, own2, ptr2, hT2, hS2⟩
  rw [hostOf_id]
  rw [aw1_put] at hT2
  clear hT
  go_wp2_with fail
  refine (Text_ok hT2 hS2.owned aw1_wf strA (by decide) anewA (by decide)).mono ?_
  rintro e w3 ⟨rfl, own3, ptr3, hT3, hS3⟩
  rw [aw1_id]
  rw [aw2_put] at hT3
  clear hT2
  go_wp2_with fail
  refine (Insert_ok hT3 hS3.owned aw2_wf (p := 0) (k := 1) (at' := 0) (pd := eNd [] (-1)) (kd := pNd (-1)) rfl rfl rfl (by decide) rfl (by decide) (by decide) (by rfl) (by decide) (insertsAt_end [])).mono ?_
  rintro e w4 ⟨rfl, own4, ptr4, hT4, hS4⟩
  rw [aw3_link] at hT4
  clear hT3
  go_wp2_with fail
  refine (Insert_deep hT4 hS4.owned aw3_wf (p := 1) (k := 2) (at' := 0) (pd := pNd 0) (kd := ⟨0, [], anewB strA, [], -1⟩) rfl rfl rfl (by decide) rfl (by decide) (by decide) (by rfl) (by decide)).mono ?_
  rintro e w5 ⟨rfl, hx5⟩
  have hT5 := hT4.keep (hx5.keep hS4.owned)
  obtain ⟨y2, m2⟩ := hS2.fresh hx hn
  obtain ⟨y3, m3⟩ := hS3.fresh y2 m2
  obtain ⟨y4, m4⟩ := hS4.fresh y3 m3
  have y5 := y4.trans hx5
  clear hT4 hS2 hS3 hS4 hx hn y2 y3 y4 m2 m3 m4 hx5 hO
  go_wp2_with fail
  refine (Count_any hT5).mono ?_
  rintro e w' ⟨rfl, rfl⟩
  go_wp2_with fail
  refine (Live_some hT5 aw3_wf (i := 1) (nd := pNd 0) rfl).mono ?_
  rintro e w' ⟨rfl, rfl⟩
  rw [show aw3.within ((1 : Nat) : Int) 0 = true from by decide]
  go_wp2_with fail
  refine (Live_some hT5 aw3_wf (i := 2) (nd := ⟨0, [], anewB strA, [], -1⟩) rfl).mono ?_
  rintro e w' ⟨rfl, rfl⟩
  rw [show aw3.within ((2 : Nat) : Int) 0 = false from by decide]
  go_wp2_with fail
  go_ret
  exact ⟨rfl, y5⟩
end Go.Proofs.Ytiglflmjidikpaa
