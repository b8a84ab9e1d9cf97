/- The order of places, without a program: paths from a root, where they lead, rows of numbers that stand as places do. -/
import Derived.Test.YtiglflmjidikpaaOrdB
namespace Go.Proofs.Ytiglflmjidikpaa
open Go Go.RowKit Go.BigFrame
set_option linter.unusedVariables false
set_option linter.unusedSimpArgs false

def Tr.pathOf (T : Tr) (id : Int) : List Int := T.goUp (fun x r => r ++ [T.idx x]) (fun _ => []) id
def Tr.walk (T : Tr) (r : Int) : List Int → Option Int
  | [] => some r
  | i :: p => if i < 0 then none else match (T.kidsOf r)[i.toNat]? with
    | none => none
    | some k => T.walk k p
section
variable {T : Tr} {d : Nat → Nat}
theorem WF.path_step (hw : WF T d) (id : Int) : T.pathOf id = if 0 ≤ T.up id then T.pathOf (T.up id) ++ [T.idx id] else [] := hw.goUp_step (fun x r => r ++ [T.idx x]) (fun _ => []) id
theorem WF.root_step (hw : WF T d) (id : Int) : T.rootOf id = if 0 ≤ T.up id then T.rootOf (T.up id) else id := hw.goUp_step (fun _ r => r) (fun x => x) id
/-- from the root down -/
theorem WF.down (hw : WF T d) (P : Int → Prop) (h0 : ∀ id, ¬ 0 ≤ T.up id → P id) (h1 : ∀ id, 0 ≤ T.up id → P (T.up id) → P id) : ∀ id, P id := by
  have key : ∀ (n : Nat) (id : Int), T.rank d id ≤ n → P id := by
    intro n
    induction n with
    | zero =>
      intro id h
      refine h0 id fun hu => ?_
      have := hw.rank_up hu; omega
    | succ n ih =>
      intro id h
      by_cases hu : 0 ≤ T.up id
      · have := hw.rank_up hu
        exact h1 id hu (ih _ (by omega))
      · exact h0 id hu
  exact fun id => key _ id (Nat.le_refl _)
theorem Tr.walk_append (T : Tr) : ∀ (p q : List Int) (r : Int), T.walk r (p ++ q) = (T.walk r p).bind fun x => T.walk x q := by
  intro p
  induction p with
  | nil => intro q r; rfl
  | cons i p ih =>
    intro q r
    simp only [List.cons_append, Tr.walk]
    by_cases h : i < 0
    · rw [if_pos h, if_pos h]; rfl
    · rw [if_neg h, if_neg h]
      cases (T.kidsOf r)[i.toNat]? with
      | none => rfl
      | some k => exact ih q k
theorem WF.up_get (hw : WF T d) {id : Int} (h : 0 ≤ T.up id) : ∃ nd, T.get? (T.up id) = some nd := by
  obtain ⟨i, p, nd, pd, rfl, h1, h2, h3, h4, _⟩ := hw.up_pos h
  exact ⟨pd, by rw [h3]; exact Tr.get_of h4⟩
theorem Tr.get_up {T : Tr} {id : Int} (h : 0 ≤ T.up id) : ∃ nd, T.get? id = some nd := by
  cases hg : T.get? id with
  | none => rw [Tr.up_none hg] at h; omega
  | some nd => exact ⟨nd, rfl⟩
/-- the path of each node leads from its root to it -/
theorem WF.walk_path (hw : WF T d) : ∀ id, T.walk (T.rootOf id) (T.pathOf id) = some id := by
  refine hw.down _ (fun id h => ?_) (fun id h ih => ?_)
  · rw [hw.path_step, hw.root_step, if_neg h, if_neg h]; rfl
  · rw [hw.path_step, hw.root_step, if_pos h, if_pos h, Tr.walk_append, ih]
    obtain ⟨j, h1, h2, h3, _⟩ := hw.idx_kid h
    show T.walk (T.up id) [T.idx id] = some id
    simp only [Tr.walk]
    rw [h1, if_neg (by omega), Int.toNat_natCast, h2]
theorem WF.kid_idx (hw : WF T d) {r k : Int} {i : Nat} (h : (T.kidsOf r)[i]? = some k) : T.up k = r ∧ T.idx k = (i : Int) ∧ 0 ≤ r := by
  obtain ⟨h1, h2, h3, kd, h4⟩ := hw.kid_rank (List.mem_of_getElem? h)
  refine ⟨h1, ?_, h2⟩
  obtain ⟨j, j1, j2, j3, _⟩ := hw.idx_kid (id := k) (by omega)
  rw [h1] at j2 j3
  rw [j1]
  have hn : (T.kidsOf r).Nodup := by
    unfold Tr.kidsOf
    cases hg : T.get? r with
    | none => simp
    | some nd => exact (hw.kids _ nd (Tr.get_lt hg).2.2).1
  have hil := (List.getElem?_eq_some_iff.1 h).1
  have : j = i := (List.getElem?_inj j3 hn).1 (j2.trans h.symm)
  rw [this]
/-- where a path leads there it is -/
theorem WF.path_walk (hw : WF T d) : ∀ (p : List Int) (r x : Int), T.walk r p = some x → T.pathOf x = T.pathOf r ++ p ∧ T.rootOf x = T.rootOf r := by
  intro p
  induction p with
  | nil =>
    intro r x h
    simp only [Tr.walk] at h
    injection h with h
    subst h
    exact ⟨by simp, rfl⟩
  | cons i p ih =>
    intro r x h
    simp only [Tr.walk] at h
    by_cases hi : i < 0
    · rw [if_pos hi] at h; cases h
    · rw [if_neg hi] at h
      cases hk : (T.kidsOf r)[i.toNat]? with
      | none => rw [hk] at h; cases h
      | some k =>
        rw [hk] at h
        obtain ⟨h1, h2⟩ := ih k x h
        obtain ⟨k1, k2, k3⟩ := hw.kid_idx hk
        rw [h1, h2, hw.path_step k, hw.root_step k, k1, if_pos k3, if_pos k3, k2, List.append_assoc]
        refine ⟨?_, rfl⟩
        have : ((i.toNat : Nat) : Int) = i := by omega
        rw [this]; rfl
/-- one way in a tree: one node -/
theorem WF.path_inj (hw : WF T d) {x y : Int} (h : T.pathOf x = T.pathOf y) (hr : T.rootOf x = T.rootOf y) : x = y := by
  have h1 := hw.walk_path x
  have h2 := hw.walk_path y
  rw [h, hr, h2] at h1
  injection h1 with h1
  exact h1.symm
theorem WF.win_iff (hw : WF T d) {outer : Int} {od : Nd} (ho : T.get? outer = some od) : ∀ id, (∃ nd, T.get? id = some nd) → (T.win id outer = true ↔ ∃ q, T.pathOf id = T.pathOf outer ++ q ∧ T.rootOf id = T.rootOf outer) := by
  refine hw.down _ (fun id h => ?_) (fun id h ih => ?_)
  · rintro ⟨nd, hg⟩
    rw [hw.win_step hg, hw.win_none (x := T.up id) (Tr.get_neg T (by omega)), Bool.or_false, decide_eq_true_eq]
    constructor
    · rintro rfl; exact ⟨[], by simp, rfl⟩
    · rintro ⟨q, h1, h2⟩
      rw [hw.path_step id, if_neg h] at h1
      have h3 : T.pathOf outer = [] := by
        cases hp : T.pathOf outer with
        | nil => rfl
        | cons a l => rw [hp] at h1; simp at h1
      exact hw.path_inj (by rw [h3, hw.path_step id, if_neg h]) h2
  · rintro ⟨nd, hg⟩
    rw [hw.win_step hg]
    simp only [Bool.or_eq_true, decide_eq_true_eq]
    rw [ih (hw.up_get h)]
    constructor
    · rintro (rfl | ⟨q, h1, h2⟩)
      · exact ⟨[], by simp, rfl⟩
      · refine ⟨q ++ [T.idx id], ?_, ?_⟩
        · rw [hw.path_step id, if_pos h, h1, List.append_assoc]
        · rw [hw.root_step id, if_pos h, h2]
    · rintro ⟨q, h1, h2⟩
      rcases List.eq_nil_or_concat q with rfl | ⟨q', z, rfl⟩
      · exact .inl (hw.path_inj (by simpa using h1) h2)
      · refine .inr ⟨q', ?_, ?_⟩
        · rw [hw.path_step id, if_pos h] at h1
          have h1' : T.pathOf (T.up id) ++ [T.idx id] = (T.pathOf outer ++ q') ++ [z] := by rw [h1]; simp
          exact (List.append_inj' h1' rfl).1
        · rw [hw.root_step id, if_pos h] at h2; exact h2
/-- the step by which one is within another -/
theorem WF.kidTo_path (hw : WF T d) {outer : Int} {od : Nd} (ho : T.get? outer = some od) : ∀ id, (∃ nd, T.get? id = some nd) → T.win id outer = true → id ≠ outer → T.up (T.kidTo id outer) = outer ∧ ∃ q, T.pathOf id = T.pathOf outer ++ T.idx (T.kidTo id outer) :: q := by
  have ks : ∀ id, T.kidTo id outer = if 0 ≤ T.up id then (if T.up id = outer then id else T.kidTo (T.up id) outer) else id := fun id => hw.goUp_step (fun x r => if T.up x = outer then x else r) (fun x => x) id
  refine hw.down _ (fun id h => ?_) (fun id h ih => ?_)
  · rintro ⟨nd, hg⟩ h1 h2
    rw [hw.win_step hg, hw.win_none (x := T.up id) (Tr.get_neg T (by omega)), Bool.or_false, decide_eq_true_eq] at h1
    exact absurd h1 h2
  · rintro ⟨nd, hg⟩ h1 h2
    rw [hw.win_step hg] at h1
    simp [h2] at h1
    rw [ks id, if_pos h]
    by_cases e : T.up id = outer
    · rw [if_pos e]
      exact ⟨e, [], by rw [hw.path_step id, if_pos h, e]⟩
    · rw [if_neg e]
      obtain ⟨i1, q, i2⟩ := ih (hw.up_get h) h1 e
      exact ⟨i1, q ++ [T.idx id], by rw [hw.path_step id, if_pos h, i2]; simp⟩
theorem WF.path_nonneg (hw : WF T d) : ∀ id, ∀ i ∈ T.pathOf id, 0 ≤ i := by
  refine hw.down _ (fun id h => ?_) (fun id h ih => ?_)
  · intro i hi; rw [hw.path_step, if_neg h] at hi; cases hi
  · intro i hi
    rw [hw.path_step, if_pos h] at hi
    rcases List.mem_append.1 hi with hi | hi
    · exact ih i hi
    · simp at hi
      obtain ⟨j, h1, _⟩ := hw.idx_kid h
      omega
theorem WF.path_len (hw : WF T d) : ∀ id, (T.pathOf id).length ≤ T.rank d id := by
  refine hw.down _ (fun id h => ?_) (fun id h ih => ?_)
  · rw [hw.path_step, if_neg h]; simp
  · rw [hw.path_step, if_pos h, hw.rank_up h]; simp; exact ih
end
/-- rows of numbers, place by place -/
def cmpL : List Int → List Int → Int
  | x :: xs, y :: ys => if x < y then -1 else if y < x then 1 else cmpL xs ys
  | _, _ => 0
def isRow : List Int → Prop
  | [] => False
  | [x] => x % 2 = 0
  | x :: y :: r => x % 2 = 1 ∧ isRow (y :: r)
def rowL (p : List Int) (at' : Int) : List Int := p.map (fun i => 2 * i + 1) ++ [2 * at']
theorem isRow_row : ∀ (p : List Int) (a : Int), isRow (rowL p a) := by
  intro p
  induction p with
  | nil => intro a; show 2 * a % 2 = 0; omega
  | cons i p ih =>
    intro a
    have h := ih a
    show isRow ((2 * i + 1) :: rowL p a)
    cases hr : rowL p a with
    | nil => rw [hr] at h; exact h.elim
    | cons y r => rw [hr] at h; exact ⟨by omega, h⟩
theorem rowL_inj : ∀ (p q : List Int) (a b : Int), rowL p a = rowL q b → p = q ∧ a = b := by
  intro p
  induction p with
  | nil =>
    intro q a b h
    cases q with
    | nil => simp [rowL] at h; exact ⟨rfl, by omega⟩
    | cons j q => simp [rowL] at h
  | cons i p ih =>
    intro q a b h
    cases q with
    | nil => simp [rowL] at h
    | cons j q =>
      have h' : (2 * i + 1) :: rowL p a = (2 * j + 1) :: rowL q b := h
      injection h' with h1 h2
      obtain ⟨h3, h4⟩ := ih q a b h2
      exact ⟨by rw [h3, show i = j by omega], h4⟩
theorem cmpL_range : ∀ (x y : List Int), cmpL x y = -1 ∨ cmpL x y = 0 ∨ cmpL x y = 1 := by
  intro x
  induction x with
  | nil => intro y; exact .inr (.inl rfl)
  | cons a x ih =>
    intro y
    cases y with
    | nil => exact .inr (.inl rfl)
    | cons b y =>
      simp only [cmpL]
      by_cases h : a < b
      · rw [if_pos h]; exact .inl rfl
      · rw [if_neg h]
        by_cases h2 : b < a
        · rw [if_pos h2]; exact .inr (.inr rfl)
        · rw [if_neg h2]; exact ih y
theorem cmpL_anti : ∀ (x y : List Int), cmpL y x = - cmpL x y := by
  intro x
  induction x with
  | nil => intro y; cases y <;> rfl
  | cons a x ih =>
    intro y
    cases y with
    | nil => rfl
    | cons b y =>
      simp only [cmpL]
      by_cases h : a < b
      · rw [if_pos h, if_neg (by omega), if_pos h]; rfl
      · by_cases h2 : b < a
        · rw [if_pos h2, if_neg h, if_pos h2]
        · rw [if_neg h, if_neg h2, if_neg h2, if_neg h]; exact ih y
theorem cmpL_eq : ∀ (x y : List Int), isRow x → isRow y → cmpL x y = 0 → x = y := by
  intro x
  induction x with
  | nil => intro y h; exact h.elim
  | cons a x ih =>
    intro y hx hy h
    cases y with
    | nil => exact hy.elim
    | cons b y =>
      simp only [cmpL] at h
      by_cases h1 : a < b
      · rw [if_pos h1] at h; cases h
      · rw [if_neg h1] at h
        by_cases h2 : b < a
        · rw [if_pos h2] at h; cases h
        · rw [if_neg h2] at h
          obtain rfl : a = b := by omega
          cases x with
          | nil =>
            cases y with
            | nil => rfl
            | cons c y => have h3 : a % 2 = 0 := hx; have h4 := hy.1; omega
          | cons c x =>
            cases y with
            | nil => have h3 : a % 2 = 0 := hy; have h4 := hx.1; omega
            | cons e y => rw [ih (e :: y) hx.2 hy.2 h]
theorem cmpL_self : ∀ x : List Int, cmpL x x = 0 := by
  intro x
  induction x with
  | nil => rfl
  | cons a x ih => simp [cmpL, ih]
theorem cmpL_trans : ∀ (x y z : List Int), isRow x → isRow y → isRow z → cmpL x y ≤ 0 → cmpL y z ≤ 0 → cmpL x z ≤ 0 ∧ (cmpL x y < 0 → cmpL x z < 0) := by
  intro x
  induction x with
  | nil => intro y z h; exact h.elim
  | cons a x ih =>
    intro y z hx hy hz h1 h2
    cases y with
    | nil => exact hy.elim
    | cons b y =>
      cases z with
      | nil => exact hz.elim
      | cons c z =>
        simp only [cmpL] at h1 h2 ⊢
        by_cases e1 : a < b
        · rw [if_pos e1]
          by_cases e2 : b < c
          · rw [if_pos (by omega)]; exact ⟨by omega, fun _ => by omega⟩
          · rw [if_neg e2] at h2
            by_cases e3 : c < b
            · rw [if_pos e3] at h2; omega
            · rw [if_pos (by omega)]; exact ⟨by omega, fun _ => by omega⟩
        · rw [if_neg e1] at h1 ⊢
          by_cases e3 : b < a
          · rw [if_pos e3] at h1; omega
          · rw [if_neg e3] at h1 ⊢
            obtain rfl : a = b := by omega
            by_cases e2 : a < c
            · rw [if_pos e2]; exact ⟨by omega, fun _ => by omega⟩
            · rw [if_neg e2] at h2 ⊢
              by_cases e4 : c < a
              · rw [if_pos e4] at h2; omega
              · rw [if_neg e4] at h2 ⊢
                obtain rfl : a = c := by omega
                have tail : ∀ l : List Int, isRow (a :: l) → l = [] ∧ a % 2 = 0 ∨ (isRow l ∧ a % 2 = 1) := fun l hl => by
                  cases l with
                  | nil => exact .inl ⟨rfl, hl⟩
                  | cons u l => exact .inr ⟨hl.2, hl.1⟩
                rcases tail x hx with ⟨rfl, p1⟩ | ⟨p1, p1'⟩
                · exact ⟨by simp [cmpL], fun h => by simp [cmpL] at h⟩
                · rcases tail y hy with ⟨rfl, p2⟩ | ⟨p2, _⟩
                  · omega
                  · rcases tail z hz with ⟨rfl, p3⟩ | ⟨p3, _⟩
                    · omega
                    · exact ih y z p1 p2 p3 h1 h2
theorem cmpL_pre (p : List Int) (x y : List Int) : cmpL (p ++ x) (p ++ y) = cmpL x y := by
  induction p with
  | nil => rfl
  | cons a p ih => simp [cmpL, ih]
/-- in one node -/
theorem cmp_same (p : List Int) (a b : Int) : cmpL (rowL p a) (rowL p b) = if a < b then -1 else if b < a then 1 else 0 := by
  unfold rowL
  rw [cmpL_pre]
  simp only [cmpL]
  by_cases h : a < b
  · rw [if_pos h, if_pos (by omega)]
  · rw [if_neg h, if_neg (by omega)]
    by_cases h2 : b < a
    · rw [if_pos h2, if_pos (by omega)]
    · rw [if_neg h2, if_neg (by omega)]
/-- one is within the other -/
theorem cmp_in (p q : List Int) (i a b : Int) : cmpL (rowL p a) (rowL (p ++ i :: q) b) = if a ≤ i then -1 else 1 := by
  have e : rowL (p ++ i :: q) b = p.map (fun i => 2 * i + 1) ++ ((2 * i + 1) :: rowL q b) := by simp [rowL]
  rw [e]
  show cmpL (p.map _ ++ [2 * a]) _ = _
  rw [cmpL_pre]
  simp only [cmpL]
  by_cases h : a ≤ i
  · rw [if_pos h, if_pos (by omega)]
  · rw [if_neg h, if_neg (by omega), if_pos (by omega)]
/-- slices.Compare at ints -/
def cmpS : List Int → List Int → Int
  | [], [] => 0
  | [], _ :: _ => -1
  | _ :: _, [] => 1
  | x :: xs, y :: ys => if x < y then -1 else if y < x then 1 else cmpS xs ys
theorem cmp_apart : ∀ (p q : List Int) (a b : Int), (¬ ∃ r, q = p ++ r) → (¬ ∃ r, p = q ++ r) → cmpL (rowL p a) (rowL q b) = cmpS p q := by
  intro p
  induction p with
  | nil => intro q a b h; exact absurd ⟨q, rfl⟩ h
  | cons i p ih =>
    intro q a b h1 h2
    cases q with
    | nil => exact absurd ⟨_, rfl⟩ h2
    | cons j q =>
      show cmpL ((2 * i + 1) :: rowL p a) ((2 * j + 1) :: rowL q b) = _
      simp only [cmpL, cmpS]
      by_cases h : i < j
      · rw [if_pos h, if_pos (by omega)]
      · rw [if_neg h, if_neg (by omega)]
        by_cases h3 : j < i
        · rw [if_pos h3, if_pos (by omega)]
        · rw [if_neg h3, if_neg (by omega)]
          obtain rfl : i = j := by omega
          exact ih q a b (fun ⟨r, e⟩ => h1 ⟨r, by rw [e]; rfl⟩) (fun ⟨r, e⟩ => h2 ⟨r, by rw [e]; rfl⟩)
end Go.Proofs.Ytiglflmjidikpaa
