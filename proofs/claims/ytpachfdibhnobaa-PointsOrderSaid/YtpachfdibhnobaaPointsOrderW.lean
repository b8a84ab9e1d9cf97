/- PointsOrder: the walk of the law answers true for small numbers, and for all others; one way of min and max at a time. No conditions beside that. -/
import Derived.Test.YtpachfdibhnobaaPtsE
import Derived.Deep.RegionHeld3
namespace Go.Proofs.Ytpachfdibhnobaa
open Go Go.RowKit
set_option linter.unusedVariables false
def smallI (z : Int) : Prop := 0 ≤ z ∧ z ≤ 10000
theorem okS {z : Int} (h : smallI z) : okI z := ⟨by have := h.1; omega, by have := h.2; omega⟩
theorem inserted_is {X n a p q m : Int} (w : World) (e : Hid (X = insA n a p q m)) (hn : okI n) (ha : okI a) (hp : okI p) (hq : okI q) (hm : okI m) :
    Calls Try.prog 9 #[pl n a, .int .i64 p, .int .i64 q, .int .i64 m] w (RPlace n X w) := by
  rw [e.out]; exact inserted_any n a p q m w hn ha hp hq hm
theorem removed_is {X n a p q : Int} (w : World) (e : Hid (X = remA n a p q)) (hn : okI n) (ha : okI a) (hp : okI p) (hq : okI q) :
    Calls Try.prog 10 #[pl n a, .int .i64 p, .int .i64 q, .bool false] w (RPlace n X w) := by
  rw [e.out]; exact removed_any n a p q w hn ha hp hq
theorem replaced_is {X n a p q c m : Int} (w : World) (e : Hid (X = repA n a p q c m)) (hn : okI n) (ha : okI a) (hp : okI p) (hq : okI q) (hc : okI c) (hm : okI m) :
    Calls Try.prog 11 #[pl n a, .int .i64 p, .int .i64 q, .int .i64 c, .int .i64 m] w (RPlace n X w) := by
  rw [e.out]; exact replaced_any n a p q c m w hn ha hp hq hc hm

/-- the six numbers that the law holds against each other -/
def OrderFacts (k c m P Q X Y V W R S : Int) : Prop :=
  X ≤ Y ∧ V ≤ W ∧ R ≤ S ∧ (P ≠ Q → X ≠ Y) ∧ (P ≠ Q → (V = W ↔ P = k ∧ Q = k + 1)) ∧ (P ≤ k → R = P) ∧ (k + c < Q → S = Q + m - c)
theorem order_facts (n k c m P Q : Int) (hk : smallI k) (hc : smallI c) (hm : smallI m) (hP : smallI P) (hQ : smallI Q) (h : P ≤ Q) :
    OrderFacts k c m P Q (insA n P n k m) (insA n Q n k m) (remA n P n k) (remA n Q n k) (repA n P n k c m) (repA n Q n k c m) := by
  obtain ⟨h1, h2⟩ := hk
  obtain ⟨h3, h4⟩ := hc
  obtain ⟨h5, h6⟩ := hm
  obtain ⟨h7, h8⟩ := hP
  obtain ⟨h9, h10⟩ := hQ
  unfold OrderFacts insA remA repA
  simp only [true_and]
  refine ⟨?_, ?_, ?_, ?_, ?_, ?_, ?_⟩ <;> split <;> (try split) <;> (try split) <;> omega
/-- two cells of a block hold a place -/
def At (w : World) (v : Value) (n a : Int) : Prop := ∃ g : Nat, v = .pointer (some ⟨g, 0, none⟩) ∧ w.cell? ⟨g, 0, none⟩ = some (.int .i64 n) ∧ w.cell? ⟨g, 1, none⟩ = some (.int .i64 a)
theorem At.ext {w w' : World} {v : Value} {n a : Int} (h : At w v n a) (x : Ext w w') : At w' v n a := by
  obtain ⟨g, e, h0, h1⟩ := h
  exact ⟨g, e, x.cell h0, x.cell h1⟩
theorem order_end {P Q X Y V W k : Int} (h1 : ¬ P = Q) (h2 : P = k) (f4 : P ≠ Q → X ≠ Y) (f5 : P ≠ Q → (V = W ↔ P = k ∧ Q = k + 1))
    (h : (k != Q) = true ∧ ((X == Y) = true ∨ (!(V == W) == (Q == k + 1)) = true)) : False := by
  have g4 := f4 h1
  have g5 := f5 h1
  rcases h.2 with h | h
  · exact g4 (by simpa using h)
  · cases hv : (V == W) <;> cases hq : (Q == k + 1) <;> rw [hv, hq] at h <;> simp at h hv hq <;> omega
theorem order_end2 {P Q X Y V W k : Int} (h1 : ¬ P = Q) (f4 : P ≠ Q → X ≠ Y) (f5 : P ≠ Q → (V = W ↔ P = k ∧ Q = k + 1)) (h2 : ¬ P = k)
    (h : (P != Q) = true ∧ ((X == Y) = true ∨ (V == W) = true)) : False := by
  have g4 := f4 h1
  have g5 := f5 h1
  rcases h.2 with h | h
  · exact g4 (by simpa using h)
  · exact h2 (g5.1 (by simpa using h)).1
theorem keep4 {wc : World} {a b c d : Nat} {i j k l : Nat} {x y z u : Value} (h1 : wc.cell? ⟨a, i, none⟩ = some x) (h2 : wc.cell? ⟨b, j, none⟩ = some y) (h3 : wc.cell? ⟨c, k, none⟩ = some z) (h4 : wc.cell? ⟨d, l, none⟩ = some u) {w' : World} (hx : Ext wc w') :
    Ext wc w' ∧ w'.cell? ⟨a, i, none⟩ = some x ∧ w'.cell? ⟨b, j, none⟩ = some y ∧ w'.cell? ⟨c, k, none⟩ = some z ∧ w'.cell? ⟨d, l, none⟩ = some u := ⟨hx, hx.cell h1, hx.cell h2, hx.cell h3, hx.cell h4⟩
set_option maxRecDepth 100000 in
set_option maxHeartbeats 40000000 in
theorem order_walk (n a b k c m P Q X Y V W R S : Int) (w : World) (hn : smallI n) (ha : smallI a) (hb : smallI b) (hk : smallI k) (hc : smallI c) (hm : smallI m) (hP : smallI P) (hQ : smallI Q)
    (hways : Hid (a < b ∧ P = a ∧ Q = b ∨ b < a ∧ P = b ∧ Q = a ∨ a = b ∧ P = a ∧ Q = a)) (hX : Hid (X = insA n P n k m)) (hY : Hid (Y = insA n Q n k m)) (hV : Hid (V = remA n P n k)) (hW : Hid (W = remA n Q n k)) (hR : Hid (R = repA n P n k c m)) (hS : Hid (S = repA n Q n k c m))
    (hf : Hid (OrderFacts k c m P Q X Y V W R S)) :
    Calls Try.prog 3 #[.int .i64 n, .int .i64 a, .int .i64 b, .int .i64 k, .int .i64 c, .int .i64 m] w (RBool true w) := by
  go_enter Try.func3, Try.ntmps3
  go_wp2_with fail
  refine (small_yes _ [n, a, b, k, c, m] _ _ _ rfl (by simp) ?_ ?_).mono ?_
  · intro z hz; simp at hz; rcases hz with rfl | rfl | rfl | rfl | rfl | rfl <;> assumption
  · intro j u h
    match j, h with
    | 0, h => simpa using h
    | 1, h => simpa using h
    | 2, h => simpa using h
    | 3, h => simpa using h
    | 4, h => simpa using h
    | 5, h => simpa using h
  rintro e w1 ⟨rfl, hx1⟩
  have x1 : Ext w w1 := Ext.trans ((Ext.refl w).alloc _) hx1
  clear hx1
  go_upto_region 3 with fail
  go_cut [13, 14] (fun s13 s14 wx => At wx s13 n P ∧ At wx s14 n Q ∧ Ext w wx)
  case first =>
    rcases hways.out with ⟨hlt, e1, e2⟩ | ⟨hlt, e1, e2⟩ | ⟨hlt, e1, e2⟩
    · subst e1 e2
      clear hways
      go_wp2_with (go_at_call 8; refine (lawAt_any _ _ _).mono ?_; rintro e w' ⟨rfl, hx⟩; replace x1 := x1.trans hx; clear hx)
      go_meet
      exact ⟨⟨_, rfl, by simp [go_sem], by simp [go_sem]⟩, ⟨_, rfl, by simp [go_sem], by simp [go_sem]⟩, (x1.alloc _).alloc _⟩
    · subst e1 e2
      clear hways
      go_wp2_with (go_at_call 8; refine (lawAt_any _ _ _).mono ?_; rintro e w' ⟨rfl, hx⟩; replace x1 := x1.trans hx; clear hx)
      go_meet
      exact ⟨⟨_, rfl, by simp [go_sem], by simp [go_sem]⟩, ⟨_, rfl, by simp [go_sem], by simp [go_sem]⟩, (x1.alloc _).alloc _⟩
    · subst hlt
      subst e1
      subst e2
      clear hways
      go_wp2_with (go_at_call 8; refine (lawAt_any _ _ _).mono ?_; rintro e w' ⟨rfl, hx⟩; replace x1 := x1.trans hx; clear hx)
      go_meet
      exact ⟨⟨_, rfl, by simp [go_sem], by simp [go_sem]⟩, ⟨_, rfl, by simp [go_sem], by simp [go_sem]⟩, (x1.alloc _).alloc _⟩
  case rest =>
    obtain ⟨⟨g, rfl, p0, p1⟩, ⟨h, rfl, q0, q1⟩, x2⟩ := hcut
    go_upto_region 4 with fail
    go_cut [15, 16] (fun s15 s16 wx => At wx s15 n X ∧ At wx s16 n Y ∧ Ext wc wx)
    case first =>
     as_aux_lemma =>
      have ng := Nat.ne_of_lt (cell_lt p0)
      have nh := Nat.ne_of_lt (cell_lt q0)
      have ng' := Ne.symm ng
      have nh' := Ne.symm nh
      have mg := Nat.ne_of_lt (Nat.lt_succ_of_lt (cell_lt p0))
      have mh := Nat.ne_of_lt (Nat.lt_succ_of_lt (cell_lt q0))
      have mg' := Ne.symm mg
      have mh' := Ne.symm mh
      have z0 : wc.heap.size ≤ wc.heap.size := Nat.le_refl _
      go_region_held3 (fun w' => Ext wc w' ∧ w'.cell? ⟨g, 0, none⟩ = some (.int .i64 n) ∧ w'.cell? ⟨g, 1, none⟩ = some (.int .i64 P) ∧ w'.cell? ⟨h, 0, none⟩ = some (.int .i64 n) ∧ w'.cell? ⟨h, 1, none⟩ = some (.int .i64 Q))
        (first | exact hheld | exact keep4 p0 p1 q0 q1 (by repeat (first | exact ‹Ext wc _ ∧ _›.1 | exact hheld.1 | exact Ext.refl _ | refine Ext.alloc ?_ _ | refine Ext.drew ?_ | refine Ext.setCell ?_ (by first | exact Nat.le_refl _ | exact Nat.le_succ _ | (dsimp only; omega)) _)))
        (first
        | (go_at_call_of 9 (Value.agg #[Value.int IntKind.i64 n, Value.int IntKind.i64 P]); refine (inserted_is _ hX (okS hn) (okS hP) (okS hn) (okS hk) (okS hm)).mono ?_; rintro e w' ⟨rfl, hx⟩; have hheld := keep4 p0 p1 q0 q1 (Ext.trans ‹Ext wc _ ∧ _›.1 hx); have z1 := Ext.size hheld.1; (try replace hx := Ext.undrew hx); (try have n1 := Two.ext (Two.new _ _ _ _) hx); (try have n2 := Two.ext ((Two.new _ _ _ _).ext ((Ext.refl _).alloc _)) hx); (try simp at n1); (try simp at n2); (try (have l1 := cell_lt n1.1; have e1 := Nat.ne_of_lt l1; have e1' := Ne.symm e1; have f1 := Nat.ne_of_lt (Nat.lt_succ_of_lt l1); have f1' := Ne.symm f1)); (try (have l2 := cell_lt n2.1; have e2 := Nat.ne_of_lt l2; have e2' := Ne.symm e2; have f2 := Nat.ne_of_lt (Nat.lt_succ_of_lt l2); have f2' := Ne.symm f2)); clear hx)
        | (go_at_call_of 9 (Value.agg #[Value.int IntKind.i64 n, Value.int IntKind.i64 Q]); refine (inserted_is _ hY (okS hn) (okS hQ) (okS hn) (okS hk) (okS hm)).mono ?_; rintro e w' ⟨rfl, hx⟩; have hheld := keep4 p0 p1 q0 q1 (Ext.trans ‹Ext wc _ ∧ _›.1 hx); have z1 := Ext.size hheld.1; (try replace hx := Ext.undrew hx); (try (first | replace n1 := n1.ext hx | replace n1 := n1.ext (((Ext.refl _).alloc _).trans hx) | replace n1 := n1.ext ((((Ext.refl _).alloc _).alloc _).trans hx))); (try (have l1 := cell_lt n1.1; have e1 := Nat.ne_of_lt l1; have e1' := Ne.symm e1; have f1 := Nat.ne_of_lt (Nat.lt_succ_of_lt l1); have f1' := Ne.symm f1)); (try (first | replace n2 := n2.ext hx | replace n2 := n2.ext (((Ext.refl _).alloc _).trans hx) | replace n2 := n2.ext ((((Ext.refl _).alloc _).alloc _).trans hx))); (try (have l2 := cell_lt n2.1; have e2 := Nat.ne_of_lt l2; have e2' := Ne.symm e2; have f2 := Nat.ne_of_lt (Nat.lt_succ_of_lt l2); have f2' := Ne.symm f2)); (try have n3 := Two.ext (Two.new _ _ _ _) hx); (try have n4 := Two.ext ((Two.new _ _ _ _).ext ((Ext.refl _).alloc _)) hx); (try simp at n3); (try simp at n4); (try (have l3 := cell_lt n3.1; have e3 := Nat.ne_of_lt l3; have e3' := Ne.symm e3; have f3 := Nat.ne_of_lt (Nat.lt_succ_of_lt l3); have f3' := Ne.symm f3)); (try (have l4 := cell_lt n4.1; have e4 := Nat.ne_of_lt l4; have e4' := Ne.symm e4; have f4 := Nat.ne_of_lt (Nat.lt_succ_of_lt l4); have f4' := Ne.symm f4)); clear hx))
      all_goals go_wp2_with fail
      all_goals go_meet
      all_goals (refine ⟨⟨_, rfl, ?_, ?_⟩, ⟨_, rfl, ?_, ?_⟩, And.left ‹Ext wc _ ∧ _›⟩ <;> simp [go_sem, *])
    case rest =>
    obtain ⟨⟨xg, rfl, xc0, xc1⟩, ⟨xh, rfl, xc2, xc3⟩, x4⟩ := hcut
    replace p0 := x4.cell p0
    replace p1 := x4.cell p1
    replace q0 := x4.cell q0
    replace q1 := x4.cell q1
    replace x2 := x2.trans x4
    clear x4
    go_upto_region 5 with fail
    go_cut [17, 18] (fun s17 s18 wx => At wx s17 n V ∧ At wx s18 n W ∧ Ext wc wx)
    case first =>
     as_aux_lemma =>
      have ng := Nat.ne_of_lt (cell_lt p0)
      have nh := Nat.ne_of_lt (cell_lt q0)
      have ng' := Ne.symm ng
      have nh' := Ne.symm nh
      have mg := Nat.ne_of_lt (Nat.lt_succ_of_lt (cell_lt p0))
      have mh := Nat.ne_of_lt (Nat.lt_succ_of_lt (cell_lt q0))
      have mg' := Ne.symm mg
      have mh' := Ne.symm mh
      have z0 : wc.heap.size ≤ wc.heap.size := Nat.le_refl _
      clear xc0 xc1 xc2 xc3
      go_region_held3 (fun w' => Ext wc w' ∧ w'.cell? ⟨g, 0, none⟩ = some (.int .i64 n) ∧ w'.cell? ⟨g, 1, none⟩ = some (.int .i64 P) ∧ w'.cell? ⟨h, 0, none⟩ = some (.int .i64 n) ∧ w'.cell? ⟨h, 1, none⟩ = some (.int .i64 Q))
        (first | exact hheld | exact keep4 p0 p1 q0 q1 (by repeat (first | exact ‹Ext wc _ ∧ _›.1 | exact hheld.1 | exact Ext.refl _ | refine Ext.alloc ?_ _ | refine Ext.drew ?_ | refine Ext.setCell ?_ (by first | exact Nat.le_refl _ | exact Nat.le_succ _ | (dsimp only; omega)) _)))
        (first
        | (go_at_call_of 10 (Value.agg #[Value.int IntKind.i64 n, Value.int IntKind.i64 P]); refine (removed_is _ hV (okS hn) (okS hP) (okS hn) (okS hk)).mono ?_; rintro e w' ⟨rfl, hx⟩; have hheld := keep4 p0 p1 q0 q1 (Ext.trans ‹Ext wc _ ∧ _›.1 hx); have z1 := Ext.size hheld.1; (try replace hx := Ext.undrew hx); (try have n1 := Two.ext (Two.new _ _ _ _) hx); (try have n2 := Two.ext ((Two.new _ _ _ _).ext ((Ext.refl _).alloc _)) hx); (try simp at n1); (try simp at n2); (try (have l1 := cell_lt n1.1; have e1 := Nat.ne_of_lt l1; have e1' := Ne.symm e1; have f1 := Nat.ne_of_lt (Nat.lt_succ_of_lt l1); have f1' := Ne.symm f1)); (try (have l2 := cell_lt n2.1; have e2 := Nat.ne_of_lt l2; have e2' := Ne.symm e2; have f2 := Nat.ne_of_lt (Nat.lt_succ_of_lt l2); have f2' := Ne.symm f2)); clear hx)
        | (go_at_call_of 10 (Value.agg #[Value.int IntKind.i64 n, Value.int IntKind.i64 Q]); refine (removed_is _ hW (okS hn) (okS hQ) (okS hn) (okS hk)).mono ?_; rintro e w' ⟨rfl, hx⟩; have hheld := keep4 p0 p1 q0 q1 (Ext.trans ‹Ext wc _ ∧ _›.1 hx); have z1 := Ext.size hheld.1; (try replace hx := Ext.undrew hx); (try (first | replace n1 := n1.ext hx | replace n1 := n1.ext (((Ext.refl _).alloc _).trans hx) | replace n1 := n1.ext ((((Ext.refl _).alloc _).alloc _).trans hx))); (try (have l1 := cell_lt n1.1; have e1 := Nat.ne_of_lt l1; have e1' := Ne.symm e1; have f1 := Nat.ne_of_lt (Nat.lt_succ_of_lt l1); have f1' := Ne.symm f1)); (try (first | replace n2 := n2.ext hx | replace n2 := n2.ext (((Ext.refl _).alloc _).trans hx) | replace n2 := n2.ext ((((Ext.refl _).alloc _).alloc _).trans hx))); (try (have l2 := cell_lt n2.1; have e2 := Nat.ne_of_lt l2; have e2' := Ne.symm e2; have f2 := Nat.ne_of_lt (Nat.lt_succ_of_lt l2); have f2' := Ne.symm f2)); (try have n3 := Two.ext (Two.new _ _ _ _) hx); (try have n4 := Two.ext ((Two.new _ _ _ _).ext ((Ext.refl _).alloc _)) hx); (try simp at n3); (try simp at n4); (try (have l3 := cell_lt n3.1; have e3 := Nat.ne_of_lt l3; have e3' := Ne.symm e3; have f3 := Nat.ne_of_lt (Nat.lt_succ_of_lt l3); have f3' := Ne.symm f3)); (try (have l4 := cell_lt n4.1; have e4 := Nat.ne_of_lt l4; have e4' := Ne.symm e4; have f4 := Nat.ne_of_lt (Nat.lt_succ_of_lt l4); have f4' := Ne.symm f4)); clear hx))
      all_goals go_wp2_with fail
      all_goals go_meet
      all_goals (refine ⟨⟨_, rfl, ?_, ?_⟩, ⟨_, rfl, ?_, ?_⟩, And.left ‹Ext wc _ ∧ _›⟩ <;> simp [go_sem, *])
    case rest =>
    obtain ⟨⟨vg, rfl, v0, v1⟩, ⟨vh, rfl, v2, v3⟩, x5⟩ := hcut
    replace p0 := x5.cell p0
    replace p1 := x5.cell p1
    replace q0 := x5.cell q0
    replace q1 := x5.cell q1
    replace xc0 := x5.cell xc0
    replace xc1 := x5.cell xc1
    replace xc2 := x5.cell xc2
    replace xc3 := x5.cell xc3
    replace x2 := x2.trans x5
    clear x5
    go_upto_region 6 with fail
    go_cut [19, 20] (fun s19 s20 wx => At wx s19 n R ∧ At wx s20 n S ∧ Ext wc wx)
    case first =>
     as_aux_lemma =>
      have ng := Nat.ne_of_lt (cell_lt p0)
      have nh := Nat.ne_of_lt (cell_lt q0)
      have ng' := Ne.symm ng
      have nh' := Ne.symm nh
      have mg := Nat.ne_of_lt (Nat.lt_succ_of_lt (cell_lt p0))
      have mh := Nat.ne_of_lt (Nat.lt_succ_of_lt (cell_lt q0))
      have mg' := Ne.symm mg
      have mh' := Ne.symm mh
      have z0 : wc.heap.size ≤ wc.heap.size := Nat.le_refl _
      clear xc0 xc1 xc2 xc3 v0 v1 v2 v3
      go_region_held3 (fun w' => Ext wc w' ∧ w'.cell? ⟨g, 0, none⟩ = some (.int .i64 n) ∧ w'.cell? ⟨g, 1, none⟩ = some (.int .i64 P) ∧ w'.cell? ⟨h, 0, none⟩ = some (.int .i64 n) ∧ w'.cell? ⟨h, 1, none⟩ = some (.int .i64 Q))
        (first | exact hheld | exact keep4 p0 p1 q0 q1 (by repeat (first | exact ‹Ext wc _ ∧ _›.1 | exact hheld.1 | exact Ext.refl _ | refine Ext.alloc ?_ _ | refine Ext.drew ?_ | refine Ext.setCell ?_ (by first | exact Nat.le_refl _ | exact Nat.le_succ _ | (dsimp only; omega)) _)))
        (first
        | (go_at_call_of 11 (Value.agg #[Value.int IntKind.i64 n, Value.int IntKind.i64 P]); refine (replaced_is _ hR (okS hn) (okS hP) (okS hn) (okS hk) (okS hc) (okS hm)).mono ?_; rintro e w' ⟨rfl, hx⟩; have hheld := keep4 p0 p1 q0 q1 (Ext.trans ‹Ext wc _ ∧ _›.1 hx); have z1 := Ext.size hheld.1; (try replace hx := Ext.undrew hx); (try have n1 := Two.ext (Two.new _ _ _ _) hx); (try have n2 := Two.ext ((Two.new _ _ _ _).ext ((Ext.refl _).alloc _)) hx); (try simp at n1); (try simp at n2); (try (have l1 := cell_lt n1.1; have e1 := Nat.ne_of_lt l1; have e1' := Ne.symm e1; have f1 := Nat.ne_of_lt (Nat.lt_succ_of_lt l1); have f1' := Ne.symm f1)); (try (have l2 := cell_lt n2.1; have e2 := Nat.ne_of_lt l2; have e2' := Ne.symm e2; have f2 := Nat.ne_of_lt (Nat.lt_succ_of_lt l2); have f2' := Ne.symm f2)); clear hx)
        | (go_at_call_of 11 (Value.agg #[Value.int IntKind.i64 n, Value.int IntKind.i64 Q]); refine (replaced_is _ hS (okS hn) (okS hQ) (okS hn) (okS hk) (okS hc) (okS hm)).mono ?_; rintro e w' ⟨rfl, hx⟩; have hheld := keep4 p0 p1 q0 q1 (Ext.trans ‹Ext wc _ ∧ _›.1 hx); have z1 := Ext.size hheld.1; (try replace hx := Ext.undrew hx); (try (first | replace n1 := n1.ext hx | replace n1 := n1.ext (((Ext.refl _).alloc _).trans hx) | replace n1 := n1.ext ((((Ext.refl _).alloc _).alloc _).trans hx))); (try (have l1 := cell_lt n1.1; have e1 := Nat.ne_of_lt l1; have e1' := Ne.symm e1; have f1 := Nat.ne_of_lt (Nat.lt_succ_of_lt l1); have f1' := Ne.symm f1)); (try (first | replace n2 := n2.ext hx | replace n2 := n2.ext (((Ext.refl _).alloc _).trans hx) | replace n2 := n2.ext ((((Ext.refl _).alloc _).alloc _).trans hx))); (try (have l2 := cell_lt n2.1; have e2 := Nat.ne_of_lt l2; have e2' := Ne.symm e2; have f2 := Nat.ne_of_lt (Nat.lt_succ_of_lt l2); have f2' := Ne.symm f2)); (try have n3 := Two.ext (Two.new _ _ _ _) hx); (try have n4 := Two.ext ((Two.new _ _ _ _).ext ((Ext.refl _).alloc _)) hx); (try simp at n3); (try simp at n4); (try (have l3 := cell_lt n3.1; have e3 := Nat.ne_of_lt l3; have e3' := Ne.symm e3; have f3 := Nat.ne_of_lt (Nat.lt_succ_of_lt l3); have f3' := Ne.symm f3)); (try (have l4 := cell_lt n4.1; have e4 := Nat.ne_of_lt l4; have e4' := Ne.symm e4; have f4 := Nat.ne_of_lt (Nat.lt_succ_of_lt l4); have f4' := Ne.symm f4)); clear hx))
      all_goals go_wp2_with fail
      all_goals go_meet
      all_goals (refine ⟨⟨_, rfl, ?_, ?_⟩, ⟨_, rfl, ?_, ?_⟩, And.left ‹Ext wc _ ∧ _›⟩ <;> simp [go_sem, *])
    case rest =>
    obtain ⟨⟨rg, rfl, r0, r1⟩, ⟨rh, rfl, r2, r3⟩, x6⟩ := hcut
    replace p0 := x6.cell p0
    replace p1 := x6.cell p1
    replace q0 := x6.cell q0
    replace q1 := x6.cell q1
    replace xc0 := x6.cell xc0
    replace xc1 := x6.cell xc1
    replace xc2 := x6.cell xc2
    replace xc3 := x6.cell xc3
    replace v0 := x6.cell v0
    replace v1 := x6.cell v1
    replace v2 := x6.cell v2
    replace v3 := x6.cell v3
    replace x2 := x2.trans x6
    clear x6
    have b1 := hk.1
    have b2 := hk.2
    have b3 := hc.1
    have b4 := hc.2
    have b5 := hm.1
    have b6 := hm.2
    have b7 := hQ.1
    have b8 := hQ.2
    obtain ⟨f1, f2, f3, f4, f5, f6, f7⟩ := hf.out
    have t1 : decide (Y < X) = false := by simp; omega
    have t2 : decide (W < V) = false := by simp; omega
    have t3 : decide (S < R) = false := by simp; omega
    clear hX hY hV hW hR hS hf
    go_wp2_with (go_at_call 7; refine (awake_any _).mono ?_; rintro e w' ⟨rfl, hx⟩; replace x2 := x2.trans hx; clear hx)
    all_goals first | (go_ret; exact ⟨rfl, x2⟩) | (exfalso; omega) | (exfalso; exact order_end (by assumption) (by assumption) f4 f5 (by assumption)) | (exfalso; exact order_end2 (by assumption) f4 f5 (by assumption) (by assumption))
end Go.Proofs.Ytpachfdibhnobaa
