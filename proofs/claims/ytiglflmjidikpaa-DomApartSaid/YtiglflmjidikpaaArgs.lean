/- What comes in, read as plain words: attributes, plain trees, calls of a tree. No conditions. -/
import Derived.Test.YtiglflmjidikpaaDomC2
import Derived.Deep.Slices
import Derived.ChangeSame
namespace Go.Proofs.Ytiglflmjidikpaa
open Go Go.RowKit Go.BigFrame Go.ChangeShapes Go.WideShapes Go.Deep
set_option linter.unusedVariables false
set_option linter.unusedSimpArgs false

theorem exists_row {α : Type} (n : Nat) (P : Nat → α → Prop) (h : ∀ i, i < n → ∃ x, P i x) : ∃ l : List α, l.length = n ∧ ∀ (i : Nat) x, l[i]? = some x → P i x := by
  induction n with
  | zero => exact ⟨[], rfl, fun i x hx => by simp at hx⟩
  | succ n ih =>
    obtain ⟨l, h1, h2⟩ := ih fun i hi => h i (by omega)
    obtain ⟨x, hx⟩ := h n (by omega)
    refine ⟨l ++ [x], by simp [h1], fun i y hy => ?_⟩
    rw [List.getElem?_append] at hy
    split at hy
    · exact h2 i y hy
    · rcases Nat.eq_zero_or_pos (i - l.length) with h0 | h0
      · rw [h0] at hy; simp at hy
        obtain rfl : i = n := by omega
        exact hy ▸ hx
      · rw [List.getElem?_eq_none (by simp; omega)] at hy; cases hy
theorem attrCells_get (l : List (ByteArray × ByteArray)) : ∀ (j : Nat) (x : Value), (attrCells l)[j]? = some x → ∃ p, l[j / 2]? = some p ∧ x = if j % 2 = 0 then .string p.1 else .string p.2 := by
  induction l with
  | nil => intro j x h; simp [attrCells] at h
  | cons q r ih =>
    obtain ⟨a, b⟩ := q
    intro j x h
    match j, h with
    | 0, h => simp [attrCells] at h; exact ⟨(a, b), by simp, by simp [h]⟩
    | 1, h => simp [attrCells] at h; exact ⟨(a, b), by simp, by simp [h]⟩
    | j + 2, h =>
      simp only [attrCells, List.getElem?_cons_succ] at h
      obtain ⟨p, h1, h2⟩ := ih j x h
      exact ⟨p, by rw [show (j + 2) / 2 = j / 2 + 1 by omega]; simpa using h1, by rw [show (j + 2) % 2 = j % 2 by omega]; exact h2⟩
section
variable {H : Type} {enc : TypeId × Value → H} {w : World} {base : Nat} {spare : Nat → Bool} {held : Bool}
theorem cells_at {a : Addr} {n : Nat} {cs : List Value} (h : w.cells? base a n = some cs) {i : Nat} {v : Value} (hi : cs[i]? = some v) : w.cell? (a.add i) = some v := by
  obtain ⟨_, hl, hg⟩ := World.cells?_some h
  have := (List.getElem?_eq_some_iff.1 hi).1
  rw [hg i (by omega)]; exact hi
theorem slice_elems {t e : TypeId} {fuel : Nat} {cs : List Value} {x : DataW H × List MemPlace} (ht : Try.prog.underlying t = some (.slice e)) (h : DataW.trod enc Try.prog w base spare held fuel t cs = some x) :
    cs = [.slice none 0 0] ∨ ∃ (a : Addr) (len cap n : Nat), fuel = n + 1 ∧ cs = [.slice (some a) len cap] ∧ len ≤ cap ∧ cap ≤ maxLen ∧
      ∀ i, i < len → ∃ cs' y, w.cells? base (a.add (i * Try.prog.cellsOf e)) (Try.prog.cellsOf e) = some cs' ∧ DataW.trod enc Try.prog w base spare held n e cs' = some y := by
  rcases DataW.trod_slice ht h with ⟨h0, _⟩ | ⟨a, len, cap, elems, rest, n, hn, hc, _, hb, hl, hm, hlen, hel, _⟩
  · exact .inl h0
  · refine .inr ⟨a, len, cap, n, hn, hc, hl, hm, fun i hi => ?_⟩
    have key := hel i hi
    rw [List.getElem?_eq_getElem (by omega)] at key
    obtain ⟨cs', h1, h2⟩ := Option.bind_eq_some_iff.1 key
    exact ⟨cs', _, h1, h2⟩
set_option maxRecDepth 20000 in
theorem read_attrs {fuel : Nat} {cs : List Value} {x : DataW H × List MemPlace} (h : DataW.trod enc Try.prog w base spare held fuel 27 cs = some x) :
    ∃ (v : Value) (l : List (ByteArray × ByteArray)), cs = [v] ∧ RowRd w 2 v l.length (attrCells l) := by
  rcases slice_elems Try.underlying27 h with rfl | ⟨a, len, cap, n, _, rfl, hl, hm, hi⟩
  · exact ⟨_, [], rfl, ⟨rfl, none, 0, rfl, Nat.le_refl _, fun _ => ⟨rfl, rfl⟩, fun a h => by cases h⟩⟩
  · have hC : Try.prog.cellsOf 44 = 2 := by kernel_rfl
    obtain ⟨l, h1, h2⟩ := exists_row len (fun i (p : ByteArray × ByteArray) => w.cell? (a.add (i * 2)) = some (.string p.1) ∧ w.cell? (a.add (i * 2 + 1)) = some (.string p.2)) fun i hil => by
      obtain ⟨cs', y, hc, ht⟩ := hi i (by omega)
      rw [hC] at hc
      obtain ⟨ys, n', rfl, _, hcl, hyl, hf⟩ := DataW.trod_struct Try.underlying44 ht
      rw [hC] at hcl
      have hS : Try.prog.cellsOf 9 = 1 := by kernel_rfl
      match cs', hcl with
      | [u0, u1], _ =>
        have g0 := hf 0 { name := _, type := 9, offset := 0, embedded := _, tag := _, pkgPath := _, byteOffset := _ } rfl
        have g1 := hf 1 { name := _, type := 9, offset := 1, embedded := _, tag := _, pkgPath := _, byteOffset := _ } rfl
        simp only [hS] at g0 g1
        match ys, hyl with
        | [y0, y1], _ =>
          obtain ⟨s0, e0, _⟩ := DataW.trod_string Try.underlying9 (x := y0) g0
          obtain ⟨s1, e1, _⟩ := DataW.trod_string Try.underlying9 (x := y1) g1
          simp at e0 e1
          subst e0 e1
          refine ⟨(s0, s1), cells_at hc (i := 0) rfl, ?_⟩
          have := cells_at hc (i := 1) (v := .string s1) rfl
          rw [Go.Deep.add_add] at this
          exact this
    refine ⟨_, l, rfl, ⟨by rw [attrCells_len], some a, cap, by rw [h1], by omega, (fun h => by cases h), fun a' ha j x hx => ?_⟩⟩
    cases ha
    obtain ⟨p, q1, q2⟩ := attrCells_get l j x hx
    have := h2 _ p q1
    rcases Nat.mod_two_eq_zero_or_one j with h0 | h0
    · rw [q2, if_pos h0, ← this.1, show j / 2 * 2 = j by omega]
    · rw [q2, if_neg (by omega), ← this.2, show j / 2 * 2 + 1 = j by omega]
set_option maxRecDepth 20000 in
theorem read_node : ∀ (fuel : Nat) (cs : List Value) (x : DataW H × List MemPlace), DataW.trod enc Try.prog w base spare held fuel 30 cs = some x →
    ∃ (c0 c1 c2 c3 : Value) (n : PN), cs = [c0, c1, c2, c3] ∧ RdN w n (.agg #[c0, c1, c2, c3]) := by
  intro fuel
  induction fuel using Nat.strongRecOn with
  | _ fuel ih =>
  intro cs x h
  have hC : Try.prog.cellsOf 30 = 4 := by kernel_rfl
  have hS : Try.prog.cellsOf 9 = 1 := by kernel_rfl
  have hI : Try.prog.cellsOf 3 = 1 := by kernel_rfl
  have hA : Try.prog.cellsOf 27 = 1 := by kernel_rfl
  have hK : Try.prog.cellsOf 28 = 1 := by kernel_rfl
  obtain ⟨ys, n, hfu, _, hcl, hyl, hf⟩ := DataW.trod_struct Try.underlying30 h
  rw [hC] at hcl
  match cs, hcl with
  | [c0, c1, c2, c3], _ =>
    have g0 := hf 0 { name := _, type := 3, offset := 0, embedded := _, tag := _, pkgPath := _, byteOffset := _ } rfl
    have g1 := hf 1 { name := _, type := 27, offset := 1, embedded := _, tag := _, pkgPath := _, byteOffset := _ } rfl
    have g2 := hf 2 { name := _, type := 9, offset := 2, embedded := _, tag := _, pkgPath := _, byteOffset := _ } rfl
    have g3 := hf 3 { name := _, type := 28, offset := 3, embedded := _, tag := _, pkgPath := _, byteOffset := _ } rfl
    simp only [hS, hI, hA, hK] at g0 g1 g2 g3
    match ys, hyl with
    | [y0, y1, y2, y3], _ =>
      obtain ⟨tag, e0, _⟩ := DataW.trod_int Try.underlying3 (x := y0) g0
      obtain ⟨av, attrs, e1, hattrs⟩ := read_attrs (x := y1) g1
      obtain ⟨s, e2, _⟩ := DataW.trod_string Try.underlying9 (x := y2) g2
      simp at e0 e1 e2
      subst e0 e1 e2
      have g3' : DataW.trod enc Try.prog w base spare held n 28 [c3] = some y3 := g3
      rcases slice_elems Try.underlying28 g3' with e3 | ⟨a, len, cap, n', hn', e3, hl, hm, hi⟩
      · simp at e3
        subst e3
        exact ⟨_, _, _, _, .mk tag attrs s [], rfl, RdN.mk' (n := .mk tag attrs s []) hattrs ⟨none, 0, rfl, Nat.le_refl _, Nat.zero_le _, fun _ => ⟨rfl, rfl⟩, fun a h => by cases h⟩⟩
      · simp at e3
        subst e3
        obtain ⟨l, h1, h2⟩ := exists_row len (fun i (k : PN) => ∃ c0 c1 c2 c3, w.cell? (a.add (i * 4)) = some c0 ∧ w.cell? (a.add (i * 4 + 1)) = some c1 ∧ w.cell? (a.add (i * 4 + 2)) = some c2 ∧ w.cell? (a.add (i * 4 + 3)) = some c3 ∧ RdN w k (.agg #[c0, c1, c2, c3])) fun i hil => by
          obtain ⟨cs', y, hc, ht⟩ := hi i (by omega)
          rw [hC] at hc
          obtain ⟨d0, d1, d2, d3, k, rfl, hk⟩ := ih n' (by omega) cs' _ ht
          refine ⟨k, d0, d1, d2, d3, cells_at hc (i := 0) rfl, ?_, ?_, ?_, hk⟩
          · have := cells_at hc (i := 1) (v := d1) rfl; rw [Go.Deep.add_add] at this; exact this
          · have := cells_at hc (i := 2) (v := d2) rfl; rw [Go.Deep.add_add] at this; exact this
          · have := cells_at hc (i := 3) (v := d3) rfl; rw [Go.Deep.add_add] at this; exact this
        exact ⟨_, _, _, _, .mk tag attrs s l, rfl, RdN.mk' (n := .mk tag attrs s l) hattrs ⟨some a, cap, by rw [show (PN.mk tag attrs s l).kids.length = len from h1], by rw [show (PN.mk tag attrs s l).kids.length = len from h1]; exact hl, hm, (fun h => by cases h), fun a' ha j k hk => (by cases ha; exact h2 j k hk)⟩⟩
end
/-- a call of a tree -/
structure Cl where
  what : Int
  a : Int
  b : Int
  c : Int
  s : ByteArray
  attrs : List (ByteArray × ByteArray)
  n : PN
/-- ten cells that read as a call -/
def ClAt (w : World) (A : Addr) (c : Cl) : Prop := ∃ av c6 c7 c8 c9, w.cell? A = some (.int .i64 c.what) ∧ w.cell? (A.add 1) = some (.int .i64 c.a) ∧ w.cell? (A.add 2) = some (.int .i64 c.b) ∧ w.cell? (A.add 3) = some (.int .i64 c.c) ∧
  w.cell? (A.add 4) = some (.string c.s) ∧ w.cell? (A.add 5) = some av ∧ w.cell? (A.add 6) = some c6 ∧ w.cell? (A.add 7) = some c7 ∧ w.cell? (A.add 8) = some c8 ∧ w.cell? (A.add 9) = some c9 ∧
  RowRd w 2 av c.attrs.length (attrCells c.attrs) ∧ RdN w c.n (.agg #[c6, c7, c8, c9])
def CallsRd (w : World) (l : List Cl) (v : Value) : Prop :=
  ∃ ao cap, v = .slice ao l.length cap ∧ l.length ≤ cap ∧ cap ≤ maxLen ∧ (ao = none → l.length = 0) ∧ ∀ a, ao = some a → ∀ (k : Nat) c, l[k]? = some c → ClAt w (a.add (k * 10)) c
section
variable {H : Type} {enc : TypeId × Value → H} {w : World} {base : Nat} {spare : Nat → Bool} {held : Bool}
set_option maxRecDepth 20000 in
theorem read_calls {v : Value} {d : DataW H} {p : List MemPlace} (h : DataW.Trod enc Try.prog w base spare held 22 v d p) (hv : v.cells.toList = [v]) : ∃ l, CallsRd w l v := by
  obtain ⟨fuel, h⟩ := h
  rw [hv] at h
  have hC : Try.prog.cellsOf 35 = 10 := by kernel_rfl
  have hS : Try.prog.cellsOf 9 = 1 := by kernel_rfl
  have hI : Try.prog.cellsOf 3 = 1 := by kernel_rfl
  have hA : Try.prog.cellsOf 27 = 1 := by kernel_rfl
  have hN : Try.prog.cellsOf 30 = 4 := by kernel_rfl
  rcases slice_elems Try.underlying22 h with e | ⟨a, len, cap, n, _, e, hl, hm, hi⟩
  · simp at e; subst e
    exact ⟨[], none, 0, rfl, Nat.le_refl _, Nat.zero_le _, fun _ => rfl, fun a h => by cases h⟩
  · simp at e; subst e
    obtain ⟨l, h1, h2⟩ := exists_row len (fun i (c : Cl) => ClAt w (a.add (i * 10)) c) fun i hil => by
      obtain ⟨cs', y, hc, ht⟩ := hi i hil
      rw [hC] at hc
      obtain ⟨ys, n', rfl, _, hcl, hyl, hf⟩ := DataW.trod_struct Try.underlying35 ht
      rw [hC] at hcl
      match cs', hcl with
      | [u0, u1, u2, u3, u4, u5, u6, u7, u8, u9], _ =>
        have g0 := hf 0 { name := _, type := 3, offset := 0, embedded := _, tag := _, pkgPath := _, byteOffset := _ } rfl
        have g1 := hf 1 { name := _, type := 3, offset := 1, embedded := _, tag := _, pkgPath := _, byteOffset := _ } rfl
        have g2 := hf 2 { name := _, type := 3, offset := 2, embedded := _, tag := _, pkgPath := _, byteOffset := _ } rfl
        have g3 := hf 3 { name := _, type := 3, offset := 3, embedded := _, tag := _, pkgPath := _, byteOffset := _ } rfl
        have g4 := hf 4 { name := _, type := 9, offset := 4, embedded := _, tag := _, pkgPath := _, byteOffset := _ } rfl
        have g5 := hf 5 { name := _, type := 27, offset := 5, embedded := _, tag := _, pkgPath := _, byteOffset := _ } rfl
        have g6 := hf 6 { name := _, type := 30, offset := 6, embedded := _, tag := _, pkgPath := _, byteOffset := _ } rfl
        simp only [hS, hI, hA, hN] at g0 g1 g2 g3 g4 g5 g6
        match ys, hyl with
        | [y0, y1, y2, y3, y4, y5, y6], _ =>
          obtain ⟨z0, e0, _⟩ := DataW.trod_int Try.underlying3 (x := y0) g0
          obtain ⟨z1, e1, _⟩ := DataW.trod_int Try.underlying3 (x := y1) g1
          obtain ⟨z2, e2, _⟩ := DataW.trod_int Try.underlying3 (x := y2) g2
          obtain ⟨z3, e3, _⟩ := DataW.trod_int Try.underlying3 (x := y3) g3
          obtain ⟨s4, e4, _⟩ := DataW.trod_string Try.underlying9 (x := y4) g4
          obtain ⟨v5, attrs, e5, hattrs⟩ := read_attrs (x := y5) g5
          obtain ⟨d0, d1, d2, d3, pn, e6, hpn⟩ := read_node n' _ y6 g6
          simp at e0 e1 e2 e3 e4 e5 e6
          obtain ⟨e6, e7, e8, e9⟩ := e6
          subst e0 e1 e2 e3 e4 e5 e6 e7 e8 e9
          exact ⟨⟨z0, z1, z2, z3, s4, attrs, pn⟩, _, _, _, _, _, cells_at hc (i := 0) rfl, cells_at hc (i := 1) rfl, cells_at hc (i := 2) rfl, cells_at hc (i := 3) rfl, cells_at hc (i := 4) rfl, cells_at hc (i := 5) rfl, cells_at hc (i := 6) rfl, cells_at hc (i := 7) rfl, cells_at hc (i := 8) rfl, cells_at hc (i := 9) rfl, hattrs, hpn⟩
    exact ⟨l, some a, cap, by rw [h1], by omega, hm, (fun h => by cases h), fun a' ha k c hk => (by cases ha; exact h2 k c hk)⟩
end
end Go.Proofs.Ytiglflmjidikpaa
