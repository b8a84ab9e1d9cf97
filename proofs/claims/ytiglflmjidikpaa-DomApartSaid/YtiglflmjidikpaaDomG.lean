/- Rows that are appended to; the first free number of a tree (slices.IndexFunc over its nodes). -/
import Derived.Test.YtiglflmjidikpaaDomF
namespace Go.Proofs.Ytiglflmjidikpaa
open Go Go.RowKit Go.BigFrame
set_option linter.unusedVariables false

theorem RowP.owns {w : World} {p : Nat → Prop} {e size : Nat} {v : Value} {n : Nat} {xs : List Value} (h : RowP w p e size v n xs) :
    (n = 0 ∧ xs = [] ∧ ∃ a, v = .slice (some a) 0 0) ∨ (w.ownsRow 0 e size v n xs ∧ ∀ k, v.ownBlock = some k → p k) := by
  rcases h.2 with ⟨h0, a, h1⟩ | ⟨g, cap, cur, h1, h2, h3, h4⟩
  · have hx : xs = [] := List.eq_nil_of_length_eq_zero (by rw [h.1, h0]; simp)
    cases a with
    | some a => exact .inl ⟨h0, hx, a, h1⟩
    | none => exact .inr ⟨⟨h.1, .inl ⟨h1, h0⟩⟩, by rw [h1]; intro k hk; cases hk⟩
  · exact .inr ⟨⟨h.1, .inr ⟨g, cap, cur, h1, Nat.zero_le _, h3, h4⟩⟩, by rw [h1]; intro k hk; cases hk; exact h2⟩
theorem RowP.of_owns0 {w' : World} {p : Nat → Prop} {B e size : Nat} {v : Value} {n : Nat} {xs : List Value} (h : w'.ownsRow B e size v n xs) (hp : ∀ k, v.ownBlock = some k → p k) : RowP w' p e size v n xs := by
  refine ⟨h.1, ?_⟩
  rcases h.2 with ⟨h1, h2⟩ | ⟨g, cap, cur, h1, h2, h3, h4⟩
  · exact .inl ⟨h2, none, h2 ▸ h1⟩
  · exact .inr ⟨g, cap, cur, h1, hp g (by rw [h1]; rfl), h3, h4⟩
/-- 'append(xs, ys..)' onto a row: it may grow; what may have been written is the row's own block -/
theorem run_append_row {P : Program} (w : World) (t ty e : TypeId) (i : TypeInfo) (z : Value) (size bytes : Nat) (ht : P.underlying t = some (.slice e)) (hi : P.info? e = some i) (hz : i.zero = some z)
    (hsize : i.size = size) (hby : i.bytes = bytes) (hzs : z.cells.size = size) (hsz : 0 < size) {p : Nat → Prop} {v : Value} {n : Nat} {xs : List Value} (hr : RowP w p e size v n xs)
    (a : Addr) (m c : Nat) (news : List Value) (hl : news.length = m * size) (hnews : ∀ j u, news[j]? = some u → w.cell? (a.add j) = some u) (h1 : ∀ u ∈ news, u.oneCell' = true)
    (hm : 0 < m) (h63 : n + m ≤ maxLen) (hbytes : (n + m) * bytes ≤ 140737488355328) :
    ∃ v' w' row, (Builtin.append_ #[t, t] ty #[v, .slice (some a) m c]).run P w = .ok v' w' ∧ RowP w' (fun g => p g ∨ w.heap.size ≤ g) e size v' (n + m) (xs ++ news) ∧ w.grownBy w' row ∧ ∀ k, row = some k → p k := by
  rcases hr.2 with ⟨rfl, ao, rfl⟩ | ⟨g, cap, cur, rfl, hpg, hg, hnc, hcm, hcs, htake⟩
  · obtain rfl : xs = [] := List.eq_nil_of_length_eq_zero (by rw [hr.1]; simp)
    cases ao with
    | some ad =>
      obtain ⟨v', w', h2, h3, h4⟩ := run_append_arg_grows (P := P) w t ty e i z size bytes ht hi hz hsize hby hzs hsz ad 0 0 [] (by simp) (by simp) a m c news hl hnews (by omega) h63 hbytes
      exact ⟨v', w', none, h2, (RowP.of_owns h3).imp fun g _ hg => .inr hg, h4, fun k hk => by cases hk⟩
    | none =>
      obtain ⟨v', w', h2, h3, h4, h5⟩ := run_append_own (P := P) w w.heap.size t ty e i z size bytes ht hi hz hsize hby hzs hsz (.slice none 0 0) 0 [] (World.ownsRow_nil w _ e size) a m c news hl hnews h1 h63 hbytes (Nat.le_refl _)
      exact ⟨v', w', none, h2, (RowP.of_owns h3).imp fun g _ hg => .inr hg, h4, fun k hk => by cases hk⟩
  · have hown : w.ownsRow 0 e size (.slice (some ⟨g, 0, none⟩) n cap) n xs := ⟨hr.1, .inr ⟨g, cap, cur, rfl, Nat.zero_le _, hg, hnc, hcm, hcs, htake⟩⟩
    by_cases hroom : n + m ≤ cap
    · obtain ⟨v', w', h2, h3, h4, h5⟩ := run_append_own (P := P) w 0 t ty e i z size bytes ht hi hz hsize hby hzs hsz _ n xs hown a m c news hl hnews h1 h63 hbytes (Nat.zero_le _)
      have hfit : n * i.size + news.length ≤ cur.size := by rw [hl, hcs, hsize, ← Nat.add_mul]; exact Nat.mul_le_mul_right _ hroom
      have hr2 := run_append_room (P := P) w t ty e i ht hi g n cap cur hg a m c news (by rw [hsize]; exact hl) hnews h1 hroom hfit
      rw [h2] at hr2
      have hv : v' = .slice (some ⟨g, 0, none⟩) (n + m) cap := by injection hr2
      refine ⟨v', w', some g, h2, RowP.of_owns0 h3 fun k hk => ?_, h4, fun k hk => by cases hk; exact hpg⟩
      rw [hv] at hk
      cases hk
      exact .inl hpg
    · have holds : ∀ j u, xs[j]? = some u → w.cell? ((⟨g, 0, none⟩ : Addr).add j) = some u := hown.cells (g := g) rfl
      obtain ⟨v', w', h2, h3, h4⟩ := run_append_arg_grows (P := P) w t ty e i z size bytes ht hi hz hsize hby hzs hsz ⟨g, 0, none⟩ n cap xs hr.1 holds a m c news hl hnews (by omega) h63 hbytes
      exact ⟨v', w', none, h2, (RowP.of_owns h3).imp fun g _ hg => .inr hg, h4, fun k hk => by cases hk⟩
theorem wpList_append_row {P : Program} {w : World} {ops : Array Oper} {rest : List Oper} {o : Oper} {a : Act} {Q : Exit → Act → World → Prop} (hgd : o.guard = none) (s x : Operand) (t : TypeId)
    (ho : o.op = .call { callee := .builtin .append, args := #[s, x], argTypes := #[t, t] })
    (e : TypeId) (i : TypeInfo) (z : Value) (size bytes : Nat) (ht : P.underlying t = some (.slice e)) (hi : P.info? e = some i) (hz : i.zero = some z)
    (hsize : i.size = size) (hby : i.bytes = bytes) (hzs : z.cells.size = size) (hsz : 0 < size) (p : Nat → Prop)
    (v : Value) (n : Nat) (xs : List Value) (hs : a.eval s = v) (hr : RowP w p e size v n xs)
    (ad : Addr) (m c : Nat) (news : List Value) (hx : a.eval x = .slice (some ad) m c) (hl : news.length = m * size) (hnews : ∀ j u, news[j]? = some u → w.cell? (ad.add j) = some u) (h1 : ∀ u ∈ news, u.oneCell' = true)
    (hm : 0 < m) (h63 : n + m ≤ maxLen) (hbytes : (n + m) * bytes ≤ 140737488355328)
    (h : ∀ v' w' row, RowP w' (fun g => p g ∨ w.heap.size ≤ g) e size v' (n + m) (xs ++ news) → w.grownBy w' row → (∀ k, row = some k → p k) → wpList P ops Q rest (a.put o.dst v') w') :
    wpList P ops Q (o :: rest) a w := by
  refine wpList_plain hgd fun K hK => ?_
  obtain ⟨v', w', row, h2, h3, h4, h5⟩ := run_append_row (P := P) w t o.type e i z size bytes ht hi hz hsize hby hzs hsz hr ad m c news hl hnews h1 hm h63 hbytes
  unfold Oper.wp execOp
  simp only [ho, resolve, invoke, builtin, Sem.run_bind, Sem.run_pure, Result.andThen_ok, List.map_toArray, List.map_cons, List.map_nil, hs, hx, h2]
  exact hK _ _ (h v' w' row h3 h4 h5)

set_option maxRecDepth 20000 in
set_option maxHeartbeats 400000 in
theorem isNil_no (b : Nat) (w : World) : Calls Try.prog 126 #[.pointer (some ⟨b, 0, none⟩)] w (RSame (.bool false) w) := by
  go_enter Try.func126, Try.ntmps126
  go_wp2
  go_ret
  exact ⟨rfl, rfl⟩
set_option maxRecDepth 20000 in
set_option maxHeartbeats 400000 in
theorem isNil_yes (w : World) : Calls Try.prog 126 #[.pointer none] w (RSame (.bool true) w) := by
  go_enter Try.func126, Try.ntmps126
  go_wp2
  go_ret
  exact ⟨rfl, rfl⟩
/-- the first free number; -1: there is none -/
def freeOf' (l : List (Option Nd)) : Int := if l.any Option.isNone then (l.findIdx Option.isNone : Int) else -1
theorem freeOf_at {l : List (Option Nd)} {k : Nat} (h : l[k]? = some none) (hno : ∀ (j : Nat) (x : Option Nd), j < k → l[j]? = some x → x ≠ none) : freeOf' l = k := by
  obtain ⟨hlt, hk⟩ := List.getElem?_eq_some_iff.1 h
  unfold freeOf'
  have ha : l.any Option.isNone = true := by rw [List.any_eq_true]; exact ⟨none, List.mem_of_getElem? h, rfl⟩
  rw [if_pos ha]
  congr 1
  rw [List.findIdx_eq hlt]
  refine ⟨by rw [hk]; rfl, fun j hj => ?_⟩
  have := hno j (l[j]'(by omega)) hj (by simp)
  cases hx : l[j]'(by omega) with
  | none => exact absurd hx this
  | some y => rfl
theorem freeOf_no {l : List (Option Nd)} (hno : ∀ (j : Nat) (x : Option Nd), l[j]? = some x → x ≠ none) : freeOf' l = -1 := by
  unfold freeOf'
  rw [if_neg]
  rw [List.any_eq_true]
  rintro ⟨x, hx, hn⟩
  obtain ⟨j, hj⟩ := List.getElem?_of_mem hx
  cases x with
  | none => exact hno j none hj rfl
  | some y => cases hn

set_option maxRecDepth 20000 in
set_option maxHeartbeats 1000000 in
theorem free_any {p : Nat → Prop} {ptr : Nat → Nat} {v : Value} {l : List (Option Nd)} {w : World} (h : RowP w p 110 1 v l.length (nodeVals ptr l)) (hn : l.length ≤ 60000) :
    Calls Try.prog 125 #[v, .func (.func 126) #[] #[]] w (RSame (.int .i64 (freeOf' l)) w) := by
  obtain ⟨_, ao, cap, rfl, hcap, hnone, hc⟩ := h.rd
  have HN := Lib.hid hnone
  have HC := Lib.hid hc
  clear hnone hc hcap h
  go_enter Try.func125, Try.ntmps125
  go_wp2
  go_loop [5, 8] (fun _ n => ∃ k : Nat, k ≤ l.length ∧ n = .int .i64 k ∧ ∀ (j : Nat) (x : Option Nd), j < k → l[j]? = some x → x ≠ none) (fun _ n => l.length - (intOf n).toNat)
  case atStart => exact ⟨0, Nat.zero_le _, rfl, fun j x hj => by omega⟩
  case round =>
    obtain ⟨k, hk, rfl, hno⟩ := hrel
    have HO := Lib.hid hno
    clear hno
    by_cases hlt : k < l.length
    · cases ao with
      | none => exact absurd (HN.out rfl).1 (by omega)
      | some a =>
        obtain ⟨b, off, sp⟩ := a
        obtain ⟨y, hy⟩ : ∃ y, l[k]? = some y := ⟨l[k], by simp [hlt]⟩
        have hcell := HC.out _ rfl k (nodeVal ptr k y) (by simp [nodeVals, List.getElem?_mapIdx, hy])
        have HY := Lib.hid hy
        clear hy
        cases y with
        | none =>
          simp only [nodeVal] at hcell
          go_wp2_with (go_at_call 126; refine (isNil_yes _).mono ?_; rintro e w' ⟨rfl, rfl⟩)
          go_ret
          exact ⟨ret_int (by rw [freeOf_at HY.out HO.out]), rfl⟩
        | some nd =>
          simp only [nodeVal] at hcell
          go_wp2_with (go_at_call 126; refine (isNil_no _ _).mono ?_; rintro e w' ⟨rfl, rfl⟩)
          go_round
          case rel =>
            refine ⟨k + 1, by omega, by go_num, fun j x hj hx => ?_⟩
            rcases Nat.lt_or_ge j k with h1 | h1
            · exact HO.out j x h1 hx
            · obtain rfl : j = k := by omega
              rw [HY.out] at hx
              cases hx
              exact fun h => by cases h
          case measure => simp [intOf]; omega
    · go_wp2
      go_ret
      refine ⟨ret_int ?_, rfl⟩
      rw [freeOf_no fun j x hx => HO.out j x (by have := (List.getElem?_eq_some_iff.1 hx).1; omega) hx]
end Go.Proofs.Ytiglflmjidikpaa
