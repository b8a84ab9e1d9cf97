/- Plain trees (api.Node) in plain words (PN), and how they lie in memory: four cells; the rows of attributes and of kids. -/
import Derived.Test.YtiglflmjidikpaaDomS
namespace Go.Proofs.Ytiglflmjidikpaa
open Go Go.RowKit Go.BigFrame
set_option linter.unusedVariables false
set_option linter.unusedSimpArgs false

inductive PN where
  | mk (tag : Int) (attrs : List (ByteArray × ByteArray)) (text : ByteArray) (kids : List PN)
def PN.tag : PN → Int | .mk t _ _ _ => t
def PN.attrs : PN → List (ByteArray × ByteArray) | .mk _ a _ _ => a
def PN.text : PN → ByteArray | .mk _ _ s _ => s
def PN.kids : PN → List PN | .mk _ _ _ k => k
mutual
/-- how many nodes -/
def PN.size : PN → Nat
  | .mk _ _ _ ks => PN.sizes ks + 1
def PN.sizes : List PN → Nat
  | [] => 0
  | k :: r => PN.size k + PN.sizes r
end
theorem PN.size_pos (n : PN) : 0 < n.size := by cases n; simp [PN.size]
theorem PN.sizes_mem {k : PN} {l : List PN} (h : k ∈ l) : k.size ≤ PN.sizes l := by
  induction l with
  | nil => cases h
  | cons x r ih =>
    simp only [PN.sizes]
    rcases List.mem_cons.1 h with rfl | h
    · omega
    · have := ih h; omega
theorem PN.size_kid {n k : PN} (h : k ∈ n.kids) : k.size < n.size := by
  cases n with
  | mk t a s ks => simp only [PN.size]; have := PN.sizes_mem (l := ks) h; omega
/-- induction over the kids -/
theorem PN.induct (P : PN → Prop) (h : ∀ n, (∀ k ∈ n.kids, P k) → P n) : ∀ n, P n := by
  have key : ∀ m n, PN.size n ≤ m → P n := by
    intro m
    induction m with
    | zero => intro n hn; have := n.size_pos; omega
    | succ m ih => exact fun n hn => h n fun k hk => ih k (by have := PN.size_kid hk; omega)
  exact fun n => key n.size n (Nat.le_refl _)

theorem add_later (a : Addr) (i j : Nat) (hj : 0 < j) : a.add (i + j) = ⟨(a.add i).block, (a.add i).off + j, none⟩ := by
  unfold Addr.add
  by_cases hi : i = 0
  · subst hi
    rw [if_neg (by omega), if_pos rfl, Nat.zero_add]
  · rw [if_neg (by omega), if_neg hi, Nat.add_assoc]
/-- four cells that read as a plain tree; with fuel -/
def rdN (w : World) : Nat → PN → Value → Prop
  | 0, _, _ => False
  | f + 1, n, v => ∃ av kv, v = .agg #[.int .i64 n.tag, av, .string n.text, kv] ∧ RowRd w 2 av n.attrs.length (attrCells n.attrs) ∧
      ∃ ao cap, kv = .slice ao n.kids.length cap ∧ n.kids.length ≤ cap ∧ cap ≤ maxLen ∧ (ao = none → n.kids.length = 0 ∧ cap = 0) ∧
        ∀ a, ao = some a → ∀ (j : Nat) k, n.kids[j]? = some k → ∃ c0 c1 c2 c3, w.cell? (a.add (j * 4)) = some c0 ∧ w.cell? (a.add (j * 4 + 1)) = some c1 ∧ w.cell? (a.add (j * 4 + 2)) = some c2 ∧ w.cell? (a.add (j * 4 + 3)) = some c3 ∧
          rdN w f k (.agg #[c0, c1, c2, c3])
/-- a value that reads as a plain tree -/
def RdN (w : World) (n : PN) (v : Value) : Prop := ∃ f, rdN w f n v
/-- what is kept where no cell that is there has turned -/
def Cells (w w' : World) : Prop := ∀ p v, w.cell? p = some v → w'.cell? p = some v
theorem RowRd.cells {w w' : World} {size : Nat} {v : Value} {n : Nat} {xs : List Value} (h : RowRd w size v n xs) (k : Cells w w') : RowRd w' size v n xs := by
  obtain ⟨h1, ao, cap, h2, h3, h4, h5⟩ := h
  exact ⟨h1, ao, cap, h2, h3, h4, fun a ha j x hx => k _ _ (h5 a ha j x hx)⟩
theorem rdN_cells {w w' : World} (k : Cells w w') : ∀ (f : Nat) (n : PN) (v : Value), rdN w f n v → rdN w' f n v := by
  intro f
  induction f with
  | zero => intro n v h; exact h
  | succ f ih =>
    intro n v h
    obtain ⟨av, kv, e, h1, ao, cap, h2, h3, h3', h4, h5⟩ := h
    refine ⟨av, kv, e, h1.cells k, ao, cap, h2, h3, h3', h4, fun a ha j x hx => ?_⟩
    obtain ⟨c0, c1, c2, c3, k0, k1, k2, k3, hr⟩ := h5 a ha j x hx
    exact ⟨c0, c1, c2, c3, k _ _ k0, k _ _ k1, k _ _ k2, k _ _ k3, ih _ _ hr⟩
theorem RdN.cells {w w' : World} {n : PN} {v : Value} (h : RdN w n v) (k : Cells w w') : RdN w' n v := by
  obtain ⟨f, h⟩ := h; exact ⟨f, rdN_cells k f n v h⟩
theorem Ext.cells {w w' : World} (h : Ext w w') : Cells w w' := fun p v hp => (Below.cell h (World.block_lt_of_cell? w p hp)).trans hp
theorem rdN_more {w : World} : ∀ (f : Nat) (n : PN) (v : Value), rdN w f n v → rdN w (f + 1) n v := by
  intro f
  induction f with
  | zero => intro n v h; exact absurd h id
  | succ f ih =>
    intro n v h
    obtain ⟨av, kv, e, h1, ao, cap, h2, h3, h3', h4, h5⟩ := h
    refine ⟨av, kv, e, h1, ao, cap, h2, h3, h3', h4, fun a ha j x hx => ?_⟩
    obtain ⟨c0, c1, c2, c3, k0, k1, k2, k3, hr⟩ := h5 a ha j x hx
    exact ⟨c0, c1, c2, c3, k0, k1, k2, k3, ih _ _ hr⟩
theorem rdN_le {w : World} {f g : Nat} {n : PN} {v : Value} (h : rdN w f n v) (hfg : f ≤ g) : rdN w g n v := by
  induction hfg with
  | refl => exact h
  | step _ ih => exact rdN_more _ _ _ ih
/-- a row of plain trees -/
def KidsRd (w : World) (ks : List PN) (kv : Value) : Prop :=
  ∃ ao cap, kv = .slice ao ks.length cap ∧ ks.length ≤ cap ∧ cap ≤ maxLen ∧ (ao = none → ks.length = 0 ∧ cap = 0) ∧
    ∀ a, ao = some a → ∀ (j : Nat) k, ks[j]? = some k → ∃ c0 c1 c2 c3, w.cell? (a.add (j * 4)) = some c0 ∧ w.cell? (a.add (j * 4 + 1)) = some c1 ∧ w.cell? (a.add (j * 4 + 2)) = some c2 ∧ w.cell? (a.add (j * 4 + 3)) = some c3 ∧ RdN w k (.agg #[c0, c1, c2, c3])
theorem RdN.open {w : World} {n : PN} {v : Value} (h : RdN w n v) : ∃ av kv, v = .agg #[.int .i64 n.tag, av, .string n.text, kv] ∧ RowRd w 2 av n.attrs.length (attrCells n.attrs) ∧ KidsRd w n.kids kv := by
  obtain ⟨f, h⟩ := h
  cases f with
  | zero => exact absurd h id
  | succ f =>
    obtain ⟨av, kv, e, h1, ao, cap, h2, h3, h3', h4, h5⟩ := h
    refine ⟨av, kv, e, h1, ao, cap, h2, h3, h3', h4, fun a ha j x hx => ?_⟩
    obtain ⟨c0, c1, c2, c3, k0, k1, k2, k3, hr⟩ := h5 a ha j x hx
    exact ⟨c0, c1, c2, c3, k0, k1, k2, k3, f, hr⟩
theorem fuel_all {l : List PN} {P : Nat → PN → Prop} (hm : ∀ f g k, P f k → f ≤ g → P g k) (h : ∀ k ∈ l, ∃ f, P f k) : ∃ f, ∀ k ∈ l, P f k := by
  induction l with
  | nil => exact ⟨0, fun k hk => by cases hk⟩
  | cons x r ih =>
    obtain ⟨f, hf⟩ := h x (by simp)
    obtain ⟨g, hg⟩ := ih fun k hk => h k (by simp [hk])
    refine ⟨max f g, fun k hk => ?_⟩
    rcases List.mem_cons.1 hk with rfl | hk
    · exact hm _ _ _ hf (Nat.le_max_left _ _)
    · exact hm _ _ _ (hg k hk) (Nat.le_max_right _ _)
theorem fuel_row {ks : List PN} {Q : Nat → Nat → PN → Prop} (hm : ∀ j f g k, Q j f k → f ≤ g → Q j g k) (h : ∀ (j : Nat) k, ks[j]? = some k → ∃ f, Q j f k) : ∃ f, ∀ (j : Nat) k, ks[j]? = some k → Q j f k := by
  induction ks generalizing Q with
  | nil => exact ⟨0, fun j k hk => by simp at hk⟩
  | cons x r ih =>
    obtain ⟨f, hf⟩ := h 0 x rfl
    obtain ⟨g, hg⟩ := ih (Q := fun j f k => Q (j + 1) f k) (fun j f g k => hm (j + 1) f g k) fun j k hk => h (j + 1) k (by simpa using hk)
    refine ⟨max f g, fun j k hk => ?_⟩
    cases j with
    | zero => simp at hk; subst hk; exact hm _ _ _ _ hf (Nat.le_max_left _ _)
    | succ j => exact hm _ _ _ _ (hg j k (by simpa using hk)) (Nat.le_max_right _ _)
theorem RdN.mk' {w : World} {n : PN} {av kv : Value} (h1 : RowRd w 2 av n.attrs.length (attrCells n.attrs)) (h2 : KidsRd w n.kids kv) : RdN w n (.agg #[.int .i64 n.tag, av, .string n.text, kv]) := by
  obtain ⟨ao, cap, rfl, h3, h3', h4, h5⟩ := h2
  cases ao with
  | none => exact ⟨1, av, _, rfl, h1, none, cap, rfl, h3, h3', h4, fun a ha => by cases ha⟩
  | some a =>
    obtain ⟨f, hf⟩ := fuel_row (ks := n.kids) (Q := fun j f k => ∃ c0 c1 c2 c3, w.cell? (a.add (j * 4)) = some c0 ∧ w.cell? (a.add (j * 4 + 1)) = some c1 ∧ w.cell? (a.add (j * 4 + 2)) = some c2 ∧ w.cell? (a.add (j * 4 + 3)) = some c3 ∧ rdN w f k (.agg #[c0, c1, c2, c3]))
      (fun j f g k ⟨c0, c1, c2, c3, k0, k1, k2, k3, hr⟩ hfg => ⟨c0, c1, c2, c3, k0, k1, k2, k3, rdN_le hr hfg⟩)
      (fun j k hk => by
        obtain ⟨c0, c1, c2, c3, k0, k1, k2, k3, f, hr⟩ := h5 a rfl j k hk
        exact ⟨f, c0, c1, c2, c3, k0, k1, k2, k3, hr⟩)
    exact ⟨f + 1, av, _, rfl, h1, some a, cap, rfl, h3, h3', h4, fun a' ha j k hk => by cases ha; exact hf j k hk⟩
theorem KidsRd.cells {w w' : World} {ks : List PN} {v : Value} (h : KidsRd w ks v) (k : Cells w w') : KidsRd w' ks v := by
  obtain ⟨ao, cap, h2, h3, h3', h4, h5⟩ := h
  refine ⟨ao, cap, h2, h3, h3', h4, fun a ha j x hx => ?_⟩
  obtain ⟨c0, c1, c2, c3, k0, k1, k2, k3, hr⟩ := h5 a ha j x hx
  exact ⟨c0, c1, c2, c3, k _ _ k0, k _ _ k1, k _ _ k2, k _ _ k3, hr.cells k⟩
end Go.Proofs.Ytiglflmjidikpaa
