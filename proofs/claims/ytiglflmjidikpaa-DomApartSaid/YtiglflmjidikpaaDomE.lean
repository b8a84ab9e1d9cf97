/- Package dom: Live, Height, slices.Index at ints, Index. -/
import Derived.Test.YtiglflmjidikpaaDomD
namespace Go.Proofs.Ytiglflmjidikpaa
open Go Go.RowKit Go.BigFrame
set_option linter.unusedVariables false

set_option maxRecDepth 20000 in
set_option maxHeartbeats 400000 in
theorem Live_nil (id : Int) (w : World) : Calls Try.prog 28 #[.pointer none, .int .i64 id] w (RSame (.bool false) w) := by
  go_enter Try.func28, Try.ntmps28
  go_wp2_with (go_at_call 80; refine (get_nil _ _).mono ?_; rintro e w' ⟨rfl, rfl⟩)
  go_ret
  exact ⟨rfl, rfl⟩
set_option maxRecDepth 20000 in
set_option maxHeartbeats 400000 in
theorem Live_none {w : World} {own : Ow} {ptr : Nat → Nat} {tb : Nat} {T : Tr} (hT : TreeAt w own ptr tb T) {id : Int} (h : T.get? id = none) :
    Calls Try.prog 28 #[.pointer (some ⟨tb, 0, none⟩), .int .i64 id] w (RSame (.bool false) w) := by
  have H := Lib.hid h
  clear h
  go_enter Try.func28, Try.ntmps28
  go_wp2_with (go_at_call 80; refine (get_none hT H.out).mono ?_; rintro e w' ⟨rfl, rfl⟩)
  go_ret
  exact ⟨rfl, rfl⟩
set_option maxRecDepth 20000 in
set_option maxHeartbeats 400000 in
theorem Live_some {w : World} {own : Ow} {ptr : Nat → Nat} {tb : Nat} {T : Tr} (hT : TreeAt w own ptr tb T) {d : Nat → Nat} (hw : WF T d) {i : Nat} {nd : Nd} (h : T.nodes[i]? = some (some nd)) :
    Calls Try.prog 28 #[.pointer (some ⟨tb, 0, none⟩), .int .i64 i] w (RSame (.bool (T.within i 0)) w) := by
  have H := Lib.hid h
  have HG := Lib.hid (Tr.get_of h)
  have HW := Lib.hid hw
  clear h hw
  go_enter Try.func28, Try.ntmps28
  go_wp2_with (first
    | (go_at_call 80; refine (get_some hT HG.out).mono ?_; rintro e w' ⟨rfl, rfl⟩)
    | (go_at_call 83; refine (within_any hT HW.out H.out (Int.le_refl 0)).mono ?_; rintro e w' ⟨rfl, rfl⟩))
  go_ret
  exact ⟨rfl, rfl⟩

/-- how high a node stands, with fuel -/
def Tr.hgt (T : Tr) : Nat → Int → Int
  | 0, _ => 0
  | f + 1, id => match T.get? id with
    | none => -1
    | some nd => nd.kids.foldl (fun h k => max h (T.hgt f k + 1)) 0
theorem fold_le (F : Int → Int) (b : Int) (h1 : ∀ k, F k ≤ b) (h0 : 0 ≤ b) : ∀ (l : List Int) (z : Int), 0 ≤ z → z ≤ b → 0 ≤ l.foldl (fun h k => max h (F k)) z ∧ l.foldl (fun h k => max h (F k)) z ≤ b := by
  intro l
  induction l with
  | nil => intro z hz hb; exact ⟨hz, hb⟩
  | cons k r ih =>
    intro z hz hb
    have := h1 k
    exact ih _ (show 0 ≤ max z (F k) by omega) (show max z (F k) ≤ b by omega)
theorem Tr.hgt_le (T : Tr) : ∀ (f : Nat) (id : Int), -1 ≤ T.hgt f id ∧ T.hgt f id ≤ f := by
  intro f
  induction f with
  | zero => intro id; simp [Tr.hgt]
  | succ f ih =>
    intro id
    unfold Tr.hgt
    split
    · omega
    · have := fold_le (fun k => T.hgt f k + 1) (f + 1) (fun k => by have := (ih k).2; omega) (by omega)
      rename_i nd _
      have := this nd.kids 0 (Int.le_refl 0) (by omega)
      constructor <;> push_cast <;> omega
theorem WF.kid {T : Tr} {d : Nat → Nat} (hw : WF T d) {i : Nat} {nd : Nd} (h : T.nodes[i]? = some (some nd)) {n : Nat} {k : Int} (hk : nd.kids[n]? = some k) :
    ∃ (j : Nat) (kd : Nd), k = (j : Int) ∧ T.nodes[j]? = some (some kd) ∧ kd.parent = (i : Int) ∧ d j = d i + 1 := by
  obtain ⟨j, kd, h1, h2, h3⟩ := (hw.kids i nd h).2 k (List.mem_of_getElem? hk)
  refine ⟨j, kd, h1, h2, h3, ?_⟩
  rcases hw.up j kd h2 with ⟨h4, h5⟩ | ⟨p, pd, h4, h5, h6, h7⟩
  · omega
  · obtain rfl : p = i := by omega
    exact h6
theorem fold_snoc (F : Int → Int → Int) (l : List Int) (n : Nat) (k : Int) (h : l[n]? = some k) (z : Int) : (l.take (n + 1)).foldl F z = F ((l.take n).foldl F z) k := by
  obtain ⟨hlt, rfl⟩ := List.getElem?_eq_some_iff.1 h
  rw [List.take_succ_eq_append_getElem hlt, List.foldl_append]; rfl

set_option maxRecDepth 20000 in
set_option maxHeartbeats 1000000 in
theorem Height_fuel {w : World} {own : Ow} {ptr : Nat → Nat} {tb : Nat} {T : Tr} (hT : TreeAt w own ptr tb T) {d : Nat → Nat} (hw : WF T d) :
    ∀ (f i : Nat) (nd : Nd), T.nodes[i]? = some (some nd) → 41 ≤ d i + f → f ≤ 100 → Calls Try.prog 50 #[.pointer (some ⟨tb, 0, none⟩), .int .i64 i] w (RSame (.int .i64 (T.hgt f i)) w) := by
  intro f
  induction f with
  | zero => intro i nd h h1; have := hw.deep i nd h; have := hw.small.deep1; omega
  | succ f ih =>
    intro i nd h h1 h2
    obtain ⟨av, kv, cb, _, _, hk⟩ := hT.node i nd h
    obtain ⟨a, cap, rfl, e2, e3⟩ := hk.len
    have ck := cellOf cb (i := 3) (v := .slice a nd.kids.length cap) rfl
    have HG := Lib.hid (Tr.get_of h)
    have HW := Lib.hid hw
    have HN := Lib.hid h
    have IH := Lib.hid ih
    have hval : T.hgt (f + 1) i = nd.kids.foldl (fun h k => max h (T.hgt f k + 1)) 0 := by
      show (match T.get? i with | none => -1 | some nd => nd.kids.foldl (fun h k => max h (T.hgt f k + 1)) 0) = _
      rw [Tr.get_of h]
    have HV := Lib.hid hval
    unfold maxLen at e3
    clear cb hval ih
    by_cases he : nd.kids = []
    · have hz : nd.kids.length = 0 := by rw [he]; rfl
      rw [hz] at ck
      have HE := Lib.hid he
      clear he hz hk h hw h1 h2 e2 e3
      go_enter Try.func50, Try.ntmps50
      go_wp2_with (go_at_call 80; refine (get_some hT HG.out).mono ?_; rintro e w' ⟨rfl, rfl⟩)
      go_loop [6, 8, 19] (fun v k n => n = .int .i64 0 ∧ v = .int .i64 0) (fun _ _ n => 0)
      case atStart => exact ⟨rfl, rfl⟩
      case round =>
        obtain ⟨rfl, rfl⟩ := hrel
        go_wp2
        go_ret
        exact ⟨ret_int (by rw [HV.out, HE.out]; rfl), rfl⟩
    · obtain ⟨g, cap', e, _⟩ := hk.cell (i := 0) (x := .int .i64 (nd.kids.headD 0)) (by cases hh : nd.kids with | nil => exact absurd hh he | cons x r => simp)
      cases e
      have HK := Lib.hid hk
      clear he hk h hw
      go_enter Try.func50, Try.ntmps50
      go_wp2_with (go_at_call 80; refine (get_some hT HG.out).mono ?_; rintro e w' ⟨rfl, rfl⟩)
      go_loop [6, 8, 19] (fun v _ n => ∃ (k : Nat) (z : Int), k ≤ nd.kids.length ∧ n = .int .i64 k ∧ v = .int .i64 z ∧ 0 ≤ z ∧ z ≤ 200 ∧ z = (nd.kids.take k).foldl (fun h k => max h (T.hgt f k + 1)) 0) (fun _ _ n => nd.kids.length - (intOf n).toNat)
      case atStart => exact ⟨0, 0, Nat.zero_le _, rfl, rfl, by omega, by omega, by simp⟩
      case round =>
        obtain ⟨k, z, hk, rfl, rfl, z0, z1, hz⟩ := hrel
        have HZ := Lib.hid hz
        clear hz
        by_cases hlt : k < nd.kids.length
        · obtain ⟨x, hx⟩ : ∃ x, nd.kids[k]? = some x := ⟨nd.kids[k], by simp [hlt]⟩
          obtain ⟨g', cap', e, hc⟩ := HK.out.cell (i := k) (x := .int .i64 x) (by simp [hx])
          cases e
          obtain ⟨j, kd, h3, h4, h5, h6⟩ := HW.out.kid HN.out hx
          obtain ⟨q0, q1⟩ := T.hgt_le f j
          have HX := Lib.hid hx
          have H3 := Lib.hid h3
          have H4 := Lib.hid h4
          rw [h3] at hc
          clear hx h3 h4 h5
          go_wp2_with (go_at_call 50; refine (IH.out j kd H4.out (by omega) (by omega)).mono ?_; rintro e w' ⟨rfl, rfl⟩)
          all_goals
            go_round
            case rel => exact ⟨k + 1, _, by omega, by go_num, rfl, by omega, by omega, by rw [fold_snoc _ _ _ _ HX.out, ← HZ.out, H3.out]; omega⟩
            case measure => simp [intOf]; omega
        · go_wp2
          go_ret
          refine ⟨ret_int ?_, rfl⟩
          rw [HV.out, HZ.out, List.take_of_length_le (by omega)]

/-- the first place of x; -1: there is none -/
def posOf (l : List Int) (x : Int) : Int := if x ∈ l then (l.idxOf x : Int) else -1
theorem posOf_at {l : List Int} {k : Nat} {x : Int} (h : l[k]? = some x) (hno : x ∉ l.take k) : posOf l x = k := by
  obtain ⟨hlt, rfl⟩ := List.getElem?_eq_some_iff.1 h
  unfold posOf
  rw [if_pos (List.getElem_mem hlt)]
  have h2 : l = l.take k ++ l[k] :: l.drop (k + 1) := by rw [← List.drop_eq_getElem_cons hlt, List.take_append_drop]
  have : l.idxOf l[k] = k := by
    conv => lhs; arg 2; rw [h2]
    rw [List.idxOf_append, if_neg hno, List.idxOf_cons_self, List.length_take]
    omega
  rw [this]
theorem posOf_no {l : List Int} {x : Int} (h : x ∉ l) : posOf l x = -1 := if_neg h

set_option maxRecDepth 20000 in
set_option maxHeartbeats 1000000 in
theorem index_any {v : Value} {l : List Int} {w : World} (h : RowRd w 1 v l.length (l.map (Value.int .i64))) (hn : l.length ≤ 60000) (x : Int) :
    Calls Try.prog 85 #[v, .int .i64 x] w (RSame (.int .i64 (posOf l x)) w) := by
  obtain ⟨_, ao, cap, rfl, hcap, hnone, hc⟩ := h
  have HN := Lib.hid hnone
  have HC := Lib.hid hc
  clear hnone hc hcap
  go_enter Try.func85, Try.ntmps85
  go_wp2
  go_loop [5, 8] (fun _ n => ∃ k : Nat, k ≤ l.length ∧ n = .int .i64 k ∧ x ∉ l.take k) (fun _ n => l.length - (intOf n).toNat)
  case atStart => exact ⟨0, Nat.zero_le _, rfl, by simp⟩
  case round =>
    obtain ⟨k, hk, rfl, hno⟩ := hrel
    have HO := Lib.hid hno
    clear hno
    by_cases hlt : k < l.length
    · cases ao with
      | none => exact absurd (HN.out rfl).1 (by omega)
      | some a =>
        obtain ⟨b, off, sp⟩ := a
        obtain ⟨y, hy⟩ : ∃ y, l[k]? = some y := ⟨l[k], by simp [hlt]⟩
        have hcell := HC.out _ rfl k (.int .i64 y) (by simp [hy])
        have HY := Lib.hid hy
        clear hy
        by_cases he : x = y
        · subst he
          go_wp2
          go_ret
          exact ⟨ret_int (by rw [posOf_at HY.out HO.out]), rfl⟩
        · have hb : (x == y) = false := by simpa using he
          have HE := Lib.hid he
          clear he
          go_wp2
          go_round
          case rel =>
            refine ⟨k + 1, by omega, by go_num, ?_⟩
            obtain ⟨hlt', hy⟩ := List.getElem?_eq_some_iff.1 HY.out
            rw [List.take_succ_eq_append_getElem hlt', List.mem_append, hy]
            intro hm
            rcases hm with hm | hm
            · exact HO.out hm
            · exact HE.out (by simpa using hm)
          case measure => simp [intOf]; omega
    · go_wp2
      go_ret
      refine ⟨ret_int ?_, rfl⟩
      have h := HO.out
      rw [List.take_of_length_le (by omega)] at h
      rw [posOf_no h]
end Go.Proofs.Ytiglflmjidikpaa
