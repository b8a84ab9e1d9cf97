/- Package order: the contracts of cmp.Compare and slices.Compare at ints, Path, Find, Cmp. No conditions beside a tree's own. -/
import Derived.Test.YtiglflmjidikpaaOrdC
import Derived.Test.YtiglflmjidikpaaCopyN
namespace Go.Proofs.Ytiglflmjidikpaa
open Go Go.RowKit Go.BigFrame
set_option linter.unusedVariables false
set_option linter.unusedSimpArgs false

theorem isNaN_int (x : Int) (w : World) : Calls Try.prog 134 #[.int .i64 x] w (RSame (.bool false) w) := by
  go_enter Try.func134, Try.ntmps134
  go_wp2_with fail
  go_ret
  exact ⟨rfl, rfl⟩
def cmpI (x y : Int) : Int := if x < y then -1 else if y < x then 1 else 0
theorem cmpI_any (x y : Int) (w : World) : Calls Try.prog 114 #[.int .i64 x, .int .i64 y] w (RSame (.int .i64 (cmpI x y)) w) := by
  by_cases h : x < y
  · have e := Lib.hid (show cmpI x y = -1 from if_pos h)
    go_enter Try.func114, Try.ntmps114
    go_wp2_with (go_at_call 134; refine (isNaN_int _ _).mono ?_; rintro e w' ⟨rfl, rfl⟩)
    go_ret
    exact ⟨by rw [e.out]; rfl, rfl⟩
  · by_cases h2 : y < x
    · have e := Lib.hid (show cmpI x y = 1 by unfold cmpI; rw [if_neg h, if_pos h2])
      go_enter Try.func114, Try.ntmps114
      go_wp2_with (go_at_call 134; refine (isNaN_int _ _).mono ?_; rintro e w' ⟨rfl, rfl⟩)
      go_ret
      exact ⟨by rw [e.out]; rfl, rfl⟩
    · have e := Lib.hid (show cmpI x y = 0 by unfold cmpI; rw [if_neg h, if_neg h2])
      go_enter Try.func114, Try.ntmps114
      go_wp2_with (go_at_call 134; refine (isNaN_int _ _).mono ?_; rintro e w' ⟨rfl, rfl⟩)
      go_ret
      exact ⟨by rw [e.out]; rfl, rfl⟩
theorem cmpS_take : ∀ (k : Nat) (p q : List Int), p.take k = q.take k → k ≤ p.length → k ≤ q.length → cmpS p q = cmpS (p.drop k) (q.drop k) := by
  intro k
  induction k with
  | zero => intro p q _ _ _; rfl
  | succ k ih =>
    intro p q h h1 h2
    cases p with
    | nil => simp at h1
    | cons a p =>
      cases q with
      | nil => simp at h2
      | cons b q =>
        simp at h h1 h2
        obtain ⟨rfl, h⟩ := h
        simp only [cmpS, List.drop_succ_cons]
        rw [if_neg (by omega), if_neg (by omega)]
        exact ih p q h h1 h2
theorem cmpI_range (x y : Int) : -1 ≤ cmpI x y ∧ cmpI x y ≤ 1 := by
  unfold cmpI
  split
  · omega
  · split <;> omega
set_option maxHeartbeats 2000000 in
theorem cmpS_any {w : World} {v v' : Value} {p q : List Int} (h : RowRd w 1 v p.length (p.map (Value.int .i64))) (h' : RowRd w 1 v' q.length (q.map (Value.int .i64))) (hp : p.length ≤ 60000) (hq : q.length ≤ 60000) :
    Calls Try.prog 116 #[v, v'] w (RSame (.int .i64 (cmpS p q)) w) := by
  obtain ⟨_, ao, cap, rfl, hc, hn, hr⟩ := h
  obtain ⟨_, ao', cap', rfl, hc', hn', hr'⟩ := h'
  have HN := Lib.hid hn
  have HR := Lib.hid hr
  have HN' := Lib.hid hn'
  have HR' := Lib.hid hr'
  clear hn hr hn' hr'
  go_enter Try.func116, Try.ntmps116
  go_wp2_with fail
  go_loopw [5, 6, 7, 8, 11] (fun _ _ _ _ i wr => ∃ k : Nat, wr = w ∧ k ≤ p.length ∧ k ≤ q.length ∧ i = .int .i64 k ∧ Hid (p.take k = q.take k)) (fun _ _ _ _ i _ => p.length - (intOf i).toNat)
  case atStart => exact ⟨0, rfl, Nat.zero_le _, Nat.zero_le _, rfl, Lib.hid rfl⟩
  case round =>
    obtain ⟨k, rfl, hk, hk', rfl, he⟩ := hrel
    by_cases hlt : k < p.length
    · obtain ⟨x, hx⟩ : ∃ x, p[k]? = some x := ⟨p[k], by simp [hlt]⟩
      cases ao with
      | none => exact absurd (HN.out rfl).1 (by omega)
      | some a =>
        obtain ⟨b, off, sp⟩ := a
        have c0 := HR.out _ rfl k (.int .i64 x) (by rw [List.getElem?_map, hx]; rfl)
        by_cases hlt' : k < q.length
        · obtain ⟨y, hy⟩ : ∃ y, q[k]? = some y := ⟨q[k], by simp [hlt']⟩
          cases ao' with
          | none => exact absurd (HN'.out rfl).1 (by omega)
          | some a' =>
            obtain ⟨b', off', sp'⟩ := a'
            have c1 := HR'.out _ rfl k (.int .i64 y) (by rw [List.getElem?_map, hy]; rfl)
            have hdrop : cmpS p q = cmpS (x :: p.drop (k + 1)) (y :: q.drop (k + 1)) := by
              rw [cmpS_take k p q he.out (by omega) (by omega)]
              obtain ⟨_, e1⟩ := List.getElem?_eq_some_iff.1 hx
              obtain ⟨_, e2⟩ := List.getElem?_eq_some_iff.1 hy
              rw [List.drop_eq_getElem_cons hlt, List.drop_eq_getElem_cons hlt', e1, e2]
            have hcr := cmpI_range x y
            have hcd : cmpI x y = if x < y then -1 else if y < x then 1 else 0 := rfl
            have hnx : x = y → p.take (k + 1) = q.take (k + 1) := fun e => by
              obtain ⟨_, e1⟩ := List.getElem?_eq_some_iff.1 hx
              obtain ⟨_, e2⟩ := List.getElem?_eq_some_iff.1 hy
              rw [List.take_succ_eq_append_getElem hlt, List.take_succ_eq_append_getElem hlt', he.out, e1, e2, e]
            obtain ⟨c, hcc⟩ : ∃ c, cmpI x y = c := ⟨_, rfl⟩
            have HD := Lib.hid hdrop
            have HNX := Lib.hid hnx
            have HCD := Lib.hid hcd
            have HCC := Lib.hid hcc
            rw [hcc] at hcr
            clear hx hy hdrop hnx hcd hcc
            go_wp2_with fail
            refine (cmpI_any x y _).mono ?_
            rintro e w' ⟨rfl, rfl⟩
            rw [HCC.out]
            by_cases hz : c = 0
            · subst hz
              go_wp2_with fail
              go_roundw
              case rel =>
                have hxy : x = y := by
                  have h1 := HCD.out
                  rw [HCC.out] at h1
                  by_cases h2 : x < y
                  · rw [if_pos h2] at h1; cases h1
                  · rw [if_neg h2] at h1
                    by_cases h3 : y < x
                    · rw [if_pos h3] at h1; cases h1
                    · omega
                exact ⟨k + 1, trivial, by omega, by omega, by go_num, Lib.hid (HNX.out hxy)⟩
              case measure => simp [intOf]; omega
            · go_wp2_with fail
              go_ret
              refine ⟨?_, rfl⟩
              have h1 := HCD.out
              rw [HCC.out] at h1
              rw [HD.out]
              simp only [cmpS]
              by_cases h2 : x < y
              · rw [if_pos h2] at h1 ⊢; rw [h1]; rfl
              · rw [if_neg h2] at h1 ⊢
                by_cases h3 : y < x
                · rw [if_pos h3] at h1 ⊢; rw [h1]; rfl
                · rw [if_neg h3] at h1; exact absurd h1 hz
        · go_wp2_with fail
          go_ret
          refine ⟨?_, rfl⟩
          obtain rfl : k = q.length := by omega
          rw [cmpS_take _ p q he.out (by omega) (by omega), List.drop_length]
          obtain ⟨_, e1⟩ := List.getElem?_eq_some_iff.1 hx
          rw [List.drop_eq_getElem_cons hlt]; rfl
    · obtain rfl : k = p.length := by omega
      by_cases hlt' : p.length < q.length
      · go_wp2_with fail
        go_ret
        refine ⟨?_, rfl⟩
        rw [cmpS_take _ p q he.out (by omega) (by omega), List.drop_length, List.drop_eq_getElem_cons hlt']; rfl
      · go_wp2_with fail
        go_ret
        refine ⟨?_, rfl⟩
        rw [cmpS_take _ p q he.out (by omega) (by omega), List.drop_length, List.drop_of_length_le (by omega)]; rfl
theorem heap_putRow {α : Type} [Inhabited α] (enc : α → Value) (w : World) (n blk off : Nat) (d : Array α) {b : Nat} (h : b ≠ blk) : (Sort.putRow enc (Sort.ahead w n) blk off d).heap[b]? = w.heap[b]? := by
  unfold Sort.putRow Sort.mapBlock Sort.ahead
  simp only [Array.getElem?_modify]
  rw [if_neg (Ne.symm h)]
/-- slices.Reverse of a row of one's own -/
theorem reverse_any {w0 w : World} {v : Value} {l : List Int} (h : RowP w (fun g => w0.heap.size ≤ g) 3 1 v l.length (l.map (Value.int .i64))) (hx : Ext w0 w) (hl : l.length ≤ 60000) :
    Calls Try.prog 118 #[v] w (fun e w' => e = .returned (.tuple #[]) ∧ Ext w0 w' ∧ RowRd w' 1 v l.length (l.reverse.map (Value.int .i64)) ∧ ∀ y, v.ownBlock = some y → l = [] ∨ w0.heap.size ≤ y) := by
  rcases h.2 with ⟨h0, a, rfl⟩ | ⟨g, cap, cur, rfl, h2, h3, h4, h5, h6, h7⟩
  · have he : l = [] := List.eq_nil_of_length_eq_zero h0
    subst he
    refine (Any.slices_Reverse_int_empty laysRev a 0 w).mono ?_
    rintro e w' ⟨rfl, rfl⟩
    exact ⟨rfl, hx, ⟨rfl, a, 0, rfl, Nat.le_refl _, fun _ => ⟨rfl, rfl⟩, fun a' _ j x hj => by simp at hj⟩, fun y _ => .inl rfl⟩
  · have cell : ∀ (j : Nat) (hj : j < l.length), w.cell? ⟨g, j, none⟩ = some (.int .i64 l[j]) := fun j hj => by
      refine cellOf h3 ?_
      have e : (cur.toList.take (l.length * 1))[j]? = some (Value.int .i64 l[j]) := by rw [h7, List.getElem?_map, List.getElem?_eq_getElem hj]; rfl
      rw [List.getElem?_take_of_lt (by omega)] at e
      simpa using e
    have hH : Sort.Holds (Value.int .i64) w g 0 l.toArray := fun j hj => by
      have hj' : j < l.length := by simpa using hj
      refine ⟨?_, ?_⟩
      · rw [Nat.zero_add, cell j hj']; simp [hj']
      · exact freeOf h3 _
    refine (Any.slices_Reverse_int laysRev g 0 cap l w hH (by omega)).mono ?_
    rintro e w' ⟨rfl, n, rfl⟩
    have hH2 : Sort.Holds (Value.int .i64) (Sort.putRow (Value.int .i64) (Sort.ahead w n) g 0 l.reverse.toArray) g 0 l.reverse.toArray := Sort.holds_putRow _ _ _ _ l.toArray _ hH (by simp)
    refine ⟨rfl, Ext.heapSame hx rfl rfl rfl ?_ fun b hb => heap_putRow _ _ _ _ _ _ (by omega), ?_, fun y hy => .inr (by cases hy; exact h2)⟩
    · simp [Sort.ahead]
    · refine ⟨by simp, _, cap, rfl, h4, (fun h => by cases h), fun a ha j x hj => ?_⟩
      cases ha
      have hjl : j < l.reverse.length := by have := (List.getElem?_eq_some_iff.1 hj).1; simpa using this
      have h8 := (hH2 j (by simpa using hjl)).1
      rw [Addr.add_lit, h8]
      rw [List.getElem?_map, List.getElem?_eq_getElem hjl] at hj
      injection hj with hj
      rw [← hj]
      have e : l.reverse.toArray[j]! = l.reverse[j] := by
        have h9 : j < l.reverse.toArray.size := by simpa using hjl
        rw [getElem!_pos l.reverse.toArray j h9]; simp
      rw [e]
theorem RowRd.other {w : World} {v : Value} {n : Nat} {xs : List Value} (h : RowRd w 1 v n xs) {p : Addr} (hp : n = 0 ∨ v.ownBlock ≠ some p.block) (u : Value) : RowRd (w.setCell p u) 1 v n xs := by
  obtain ⟨h1, ao, cap, rfl, h3, h4, h5⟩ := h
  refine ⟨h1, ao, cap, rfl, h3, h4, fun a ha j x hj => ?_⟩
  rcases hp with rfl | hp
  · have : xs = [] := List.eq_nil_of_length_eq_zero (by simpa using h1)
    rw [this] at hj; simp at hj
  · refine (World.cell?_of_block (heap_setCell_other u ?_)).trans (h5 a ha j x hj)
    intro e
    subst ha
    apply hp
    show some a.block = _
    rw [← e]
    rcases Nat.eq_zero_or_pos j with rfl | hj0
    · rfl
    · rw [add_pos _ _ hj0]
/-- a path is returned -/
def PathIs (l : List Int) (w : World) (e : Ending) (w' : World) : Prop := ∃ v, e = .returned v ∧ RowRd w' 1 v l.length (l.map (Value.int .i64)) ∧ Ext w w' ∧ ∀ y, v.ownBlock = some y → l = [] ∨ w.heap.size ≤ y
theorem WF.path_41 {T : Tr} {d : Nat → Nat} (hw : WF T d) (id : Int) : (T.pathOf id).length ≤ 41 := Nat.le_trans (hw.path_len id) (hw.rank_le id)
set_option maxRecDepth 100000 in
set_option maxHeartbeats 2000000 in
theorem Path_any {w : World} {tb : Nat} {T : Tr} (hT : TAt w tb T) {d : Nat → Nat} (hw : WF T d) (id : Int) : Calls Try.prog 64 #[.pointer (some ⟨tb, 0, none⟩), .int .i64 id] w (PathIs (T.pathOf id) w) := by
  go_enter Try.func64, Try.ntmps64
  go_wp2_with fail
  go_loopw [1, 5] (fun s v wr => ∃ (x : Int) (xs : List Int), s = .int .i64 x ∧ Ext w wr ∧ RowP wr (fun g => w.heap.size ≤ g) 3 1 v xs.length (xs.map (Value.int .i64)) ∧ Hid (T.pathOf x ++ xs.reverse = T.pathOf id)) (fun s _ _ => T.rank d (intOf s))
  case atStart => exact ⟨id, [], rfl, Ext.refl _, ⟨rfl, .inl ⟨rfl, none, rfl⟩⟩, Lib.hid (by simp)⟩
  case round =>
    obtain ⟨x, xs, rfl, hx, hrow, hr⟩ := hrel
    have hlen : xs.length ≤ 41 := by
      have h1 := hw.path_41 id
      have h2 := congrArg List.length hr.out
      simp at h2
      omega
    by_cases hu : 0 ≤ T.up x
    · obtain ⟨j, hj1, _⟩ := hw.idx_kid hu
      obtain ⟨p, hp⟩ : ∃ p, T.up x = p := ⟨_, rfl⟩
      have hst := hw.path_step x
      rw [if_pos hu, hp, hj1] at hst
      have hrk := hw.rank_up hu
      rw [hp] at hu hrk
      have HST := Lib.hid hst
      have HP := Lib.hid hp
      have HJ := Lib.hid hj1
      have HROW := Lib.hid hrow
      have HRK := Lib.hid hrk
      obtain ⟨al, cl, rfl, hcl⟩ := hrow.len_of'
      clear hst hp hj1 hrow hrk
      go_wp2_with fail
      refine (at_up' (hT.ext hx) x HP.out).mono ?_
      rintro e w1 ⟨rfl, hx1⟩
      go_wp2_with fail
      refine (at_idx' (hT.ext (hx.trans hx1)) hw x HJ.out).mono ?_
      rintro e w2 ⟨rfl, hx2⟩
      have xc := (Ext.refl w2).alloc (.cells #[.int .i64 j] 3)
      obtain ⟨i0, hii, hz0, hz1, hz2⟩ := info_parts infoI
      obtain ⟨v', wA, row, hrunA, hrA, hgA, hrowA⟩ := run_append_row (P := Try.prog) (w2.alloc (.cells #[.int .i64 j] 3)) 70 70 3 i0 (.int .i64 0) 1 8 Try.underlying70 hii hz0 hz1 hz2 rfl (by decide)
        (p := fun g => w.heap.size ≤ g) (RowP.ext HROW.out (hx1.trans (hx2.trans xc))) ⟨w2.heap.size, 0, none⟩ 1 1 [.int .i64 j] rfl (cell_one_new' (cellOf (heap_alloc_new w2 (.cells #[.int .i64 j] 3)) (i := 0) rfl)) (by simp [Value.oneCell']) (by decide) (by unfold maxLen; omega) (by omega)
      have hxA : Ext w wA := (hx.trans (hx1.trans (hx2.trans xc))).grown hgA hrowA
      have hrA' : RowP wA (fun g => w.heap.size ≤ g) 3 1 v' (xs ++ [(j : Int)]).length ((xs ++ [(j : Int)]).map (Value.int .i64)) := by
        have h1 := RowP.imp hrA (q := fun g => w.heap.size ≤ g) fun g _ hg => by
          rcases hg with h | h
          · exact h
          · exact Nat.le_trans (hx.trans (hx1.trans (hx2.trans xc))).size h
        rw [List.length_append, List.map_append]
        exact h1
      have HA := Lib.hid hrA'
      have HXA := Lib.hid hxA
      have HRUN := Lib.hid hrunA
      obtain ⟨a2, c2, ev, hc2⟩ := hrA.len_of'
      subst ev
      clear hrA hgA hrowA hrunA hii hz0 hz1 hz2 xc hxA hrA' hx1 hx2 hx
      go_wp2_with (at_builtin; refine wpList_append_run _ rfl _ _ 70 rfl _ _ rfl rfl _ _ HRUN.out ?_)
      refine (at_up' (hT.ext HXA.out) x HP.out).mono ?_
      rintro e w3 ⟨rfl, hx3⟩
      go_wp2_with fail
      go_roundw
      case rel =>
        refine ⟨p, xs ++ [(j : Int)], rfl, HXA.out.trans hx3, RowP.ext HA.out hx3, Lib.hid ?_⟩
        rw [← hr.out, HST.out]; simp
      case measure => have := HRK.out; simp [intOf]; omega
    · have hst := hw.path_step x
      rw [if_neg hu] at hst
      have hum := hw.up_neg hu
      have HUM := Lib.hid hum
      have HPE := Lib.hid (show T.pathOf id = xs.reverse by rw [← hr.out, hst]; rfl)
      have HROW := Lib.hid hrow
      obtain ⟨al, cl, rfl, hcl⟩ := hrow.len_of'
      clear hst hum hu hrow
      go_wp2_with fail
      refine (at_up' (hT.ext hx) x HUM.out).mono ?_
      rintro e w1 ⟨rfl, hx1⟩
      go_wp2_with fail
      refine (reverse_any (RowP.ext HROW.out hx1) (hx.trans hx1) (by omega)).mono ?_
      rintro e w2 ⟨rfl, hx2, hr2, hob⟩
      have HR2 := Lib.hid hr2
      clear hr2
      go_wp2_with fail
      go_ret
      refine ⟨_, rfl, ?_, hx2, fun y hy => (hob y hy).imp (fun h => by rw [HPE.out, h]; rfl) fun h => h⟩
      rw [HPE.out, List.length_reverse]
      exact HR2.out
end Go.Proofs.Ytiglflmjidikpaa
