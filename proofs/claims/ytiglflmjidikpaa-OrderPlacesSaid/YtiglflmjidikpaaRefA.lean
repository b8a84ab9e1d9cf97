/- quillworkref08: the document's tree in memory (a row of records), and the contracts of its functions that only read: Has, Count, Root, Depth, Height, within, Index. No conditions beside a tree's own. -/
import Derived.Test.YtiglflmjidikpaaOrdI
namespace Go.Proofs.Ytiglflmjidikpaa
open Go Go.RowKit Go.BigFrame
set_option linter.unusedVariables false
set_option linter.unusedSimpArgs false

def noNd : Nd := ⟨0, [], ByteArray.empty, [], -1⟩
def ndOf (o : Option Nd) : Nd := o.getD noNd
def isN (o : Option Nd) : Int := if o.isSome then 1 else 0
/-- six cells tell a record -/
structure RecAt (ga : World) (cur : Array Value) (j : Nat) (o : Option Nd) : Prop where
  out : ∃ av kv, cur[j * 6]? = some (.int .i64 (isN o)) ∧ cur[j * 6 + 1]? = some (.int .i64 (ndOf o).tag) ∧ cur[j * 6 + 2]? = some (.int .i64 (ndOf o).parent) ∧ cur[j * 6 + 3]? = some av ∧ cur[j * 6 + 4]? = some (.string (ndOf o).text) ∧ cur[j * 6 + 5]? = some kv ∧
    RowRd ga 2 av (ndOf o).attrs.length (attrCells (ndOf o).attrs) ∧ RowRd ga 1 kv (ndOf o).kids.length ((ndOf o).kids.map (Value.int .i64))
/-- the document's tree: its head in block rb, its records in block g; what they point to is told by ga -/
structure RefAt (w ga : World) (rb g : Nat) (T : Tr) : Prop where
  ne : rb ≠ g
  row : ∃ cap cur, w.heap[rb]? = some (.cells #[.int .i64 T.cap, .int .i64 T.deep, .slice (some ⟨g, 0, none⟩) T.nodes.length cap] 94 (0, 0)) ∧ T.nodes.length ≤ cap ∧ cap ≤ maxLen ∧
    w.heap[g]? = some (.cells cur 132 (0, 0)) ∧ cur.size = cap * 6 ∧ ∀ (j : Nat) o, T.nodes[j]? = some o → RecAt ga cur j o
  told : ∀ q y, ga.cell? q = some y → w.cell? q = some y ∧ q.block ≠ rb ∧ q.block ≠ g
theorem RefAt.keep {w w' ga : World} {rb g : Nat} {T : Tr} (h : RefAt w ga rb g T) (h1 : w'.heap[rb]? = w.heap[rb]?) (h2 : w'.heap[g]? = w.heap[g]?) (h3 : Cells ga w') : RefAt w' ga rb g T := by
  obtain ⟨cap, cur, b1, b2, b3, b4, b5, b6⟩ := h.row
  exact ⟨h.ne, ⟨cap, cur, h1.trans b1, b2, b3, h2.trans b4, b5, b6⟩, fun q y hq => ⟨h3 q y hq, (h.told q y hq).2⟩⟩
theorem RefAt.ext {w w' ga : World} {rb g : Nat} {T : Tr} (h : RefAt w ga rb g T) (x : Ext w w') : RefAt w' ga rb g T := by
  obtain ⟨cap, cur, b1, b2, b3, b4, b5, b6⟩ := h.row
  exact h.keep (Below.block x rb (Array.getElem?_eq_some_iff.1 b1).1) (Below.block x g (Array.getElem?_eq_some_iff.1 b4).1) fun q y hq => x.cells q y (h.told q y hq).1
structure RAt (w : World) (rb : Nat) (T : Tr) : Prop where
  out : ∃ ga g, RefAt w ga rb g T
theorem RAt.ext {w w' : World} {rb : Nat} {T : Tr} (h : RAt w rb T) (x : Ext w w') : RAt w' rb T := by
  obtain ⟨ga, g, h⟩ := h.out
  exact ⟨ga, g, h.ext x⟩
theorem RAt.slice {w : World} {rb : Nat} {T : Tr} (h : RAt w rb T) : ∃ g cap, w.cell? ⟨rb, 2, none⟩ = some (.slice (some ⟨g, 0, none⟩) T.nodes.length cap) ∧ T.nodes.length ≤ cap ∧ w.cell? ⟨rb, 0, none⟩ = some (.int .i64 T.cap) ∧ w.cell? ⟨rb, 1, none⟩ = some (.int .i64 T.deep) := by
  obtain ⟨ga, g, h⟩ := h.out
  obtain ⟨cap, cur, b1, b2, b3, b4, b5, b6⟩ := h.row
  exact ⟨g, cap, cellOf b1 rfl, b2, cellOf b1 rfl, cellOf b1 rfl⟩
theorem RAt.one {w : World} {rb : Nat} {T : Tr} (h : RAt w rb T) {j : Nat} {o : Option Nd} (hj : T.nodes[j]? = some o) : ∃ g cap aa ac ka kc, w.cell? ⟨rb, 2, none⟩ = some (.slice (some ⟨g, 0, none⟩) T.nodes.length cap) ∧
    w.cell? ⟨g, j * 6, none⟩ = some (.int .i64 (isN o)) ∧ w.cell? ⟨g, j * 6 + 1, none⟩ = some (.int .i64 (ndOf o).tag) ∧ w.cell? ⟨g, j * 6 + 2, none⟩ = some (.int .i64 (ndOf o).parent) ∧ w.cell? ⟨g, j * 6 + 3, none⟩ = some (.slice aa (ndOf o).attrs.length ac) ∧
    w.cell? ⟨g, j * 6 + 4, none⟩ = some (.string (ndOf o).text) ∧ w.cell? ⟨g, j * 6 + 5, none⟩ = some (.slice ka (ndOf o).kids.length kc) ∧ RowRd w 2 (.slice aa (ndOf o).attrs.length ac) (ndOf o).attrs.length (attrCells (ndOf o).attrs) ∧ RowRd w 1 (.slice ka (ndOf o).kids.length kc) (ndOf o).kids.length ((ndOf o).kids.map (Value.int .i64)) := by
  obtain ⟨ga, g, h⟩ := h.out
  obtain ⟨cap, cur, b1, b2, b3, b4, b5, b6⟩ := h.row
  obtain ⟨av, kv, r0, r1, r2, r3, r4, r5, r6, r7⟩ := (b6 j o hj).out
  obtain ⟨aa, ac, rfl, _⟩ := r6.len_of
  obtain ⟨ka, kc, rfl, _⟩ := r7.len_of
  have c : Cells ga w := fun q y hq => (h.told q y hq).1
  exact ⟨g, cap, aa, ac, ka, kc, cellOf b1 rfl, cellOf b4 r0, cellOf b4 r1, cellOf b4 r2, cellOf b4 r3, cellOf b4 r4, cellOf b4 r5, r6.cells c, r7.cells c⟩
section
variable {w : World} {rb : Nat} {T : Tr}
theorem nodes_some {id : Int} {nd : Nd} (hg : T.get? id = some nd) : ∃ i : Nat, id = (i : Int) ∧ T.nodes[i]? = some (some nd) ∧ i < T.nodes.length := by
  obtain ⟨i, rfl, hi⟩ := nat_of hg
  exact ⟨i, rfl, hi, (List.getElem?_eq_some_iff.1 hi).1⟩
set_option maxHeartbeats 1000000 in
theorem rHas_yes (h : RAt w rb T) {id : Int} {nd : Nd} (hg : T.get? id = some nd) : Calls Try.prog 105 #[.pointer (some ⟨rb, 0, none⟩), .int .i64 id] w (RSame (.bool true) w) := by
  obtain ⟨i, rfl, hi, hl⟩ := nodes_some hg
  obtain ⟨g, cap, aa, ac, ka, kc, c, c0, _⟩ := h.one hi
  clear hi hg
  have c0' : w.cell? ⟨g, i * 6, none⟩ = some (.int .i64 1) := c0
  clear c0
  go_enter Try.func105, Try.ntmps105
  go_wp2_with fail
  go_ret
  exact ⟨rfl, rfl⟩
set_option maxHeartbeats 1000000 in
theorem rHas_no (h : RAt w rb T) {id : Int} (hg : T.get? id = none) : Calls Try.prog 105 #[.pointer (some ⟨rb, 0, none⟩), .int .i64 id] w (RSame (.bool false) w) := by
  by_cases h0 : id < 0
  · clear hg
    go_enter Try.func105, Try.ntmps105
    go_wp2_with fail
    go_ret
    exact ⟨rfl, rfl⟩
  · obtain ⟨i, rfl⟩ := Int.eq_ofNat_of_zero_le (show 0 ≤ id by omega)
    by_cases hl : i < T.nodes.length
    · obtain ⟨o, ho⟩ : ∃ o, T.nodes[i]? = some o := ⟨T.nodes[i], by simp [hl]⟩
      have he : o = none := by rw [T.get_nat, ho] at hg; exact hg
      subst he
      obtain ⟨g, cap, aa, ac, ka, kc, c, c0, _⟩ := h.one ho
      have c0' : w.cell? ⟨g, i * 6, none⟩ = some (.int .i64 0) := c0
      clear c0 ho hg
      go_enter Try.func105, Try.ntmps105
      go_wp2_with fail
      go_ret
      exact ⟨rfl, rfl⟩
    · obtain ⟨g, cap, c, _⟩ := h.slice
      clear hg
      go_enter Try.func105, Try.ntmps105
      go_wp2_with fail
      go_ret
      exact ⟨rfl, rfl⟩
theorem rHas (h : RAt w rb T) (id : Int) : Calls Try.prog 105 #[.pointer (some ⟨rb, 0, none⟩), .int .i64 id] w (RSame (.bool (T.get? id).isSome) w) := by
  cases hg : T.get? id with
  | none => exact rHas_no h hg
  | some nd => exact rHas_yes h hg
set_option maxHeartbeats 1000000 in
theorem rCount (h : RAt w rb T) {d : Nat → Nat} (hw : WF T d) : Calls Try.prog 104 #[.pointer (some ⟨rb, 0, none⟩)] w (RSame (.int .i64 T.count) w) := by
  obtain ⟨g0, cap0, cs, _⟩ := h.slice
  have hlen := hw.small.len
  have HC := Lib.hid hw.count
  have H := Lib.hid h
  clear h hw
  go_enter Try.func104, Try.ntmps104
  go_wp2_with fail
  go_loopw [3, 4] (fun c i wr => ∃ k m : Nat, wr = w ∧ k ≤ T.nodes.length ∧ i = .int .i64 k ∧ c = .int .i64 m ∧ m ≤ 2000 ∧ Hid (m = (T.nodes.take k).countP Option.isSome)) (fun _ i _ => T.nodes.length - (intOf i).toNat)
  case atStart => exact ⟨0, 0, rfl, Nat.zero_le _, rfl, rfl, by omega, Lib.hid rfl⟩
  case round =>
    obtain ⟨k, m, rfl, hk, rfl, rfl, hm, he⟩ := hrel
    by_cases hlt : k < T.nodes.length
    · obtain ⟨o, ho⟩ : ∃ o, T.nodes[k]? = some o := ⟨T.nodes[k], by simp [hlt]⟩
      obtain ⟨g, cap, aa, ac, ka, kc, c, c0, _⟩ := H.out.one ho
      have hcnt := cnt_snoc T.nodes k o ho
      have hle := cnt_le T.nodes (k + 1)
      have hle2 : T.nodes.countP Option.isSome ≤ T.nodes.length := List.countP_le_length
      have e := he.out
      have HO := Lib.hid ho
      clear cs ho
      cases o with
      | none =>
        have c0' : wr.cell? ⟨g, k * 6, none⟩ = some (.int .i64 0) := c0
        have HN := Lib.hid (show m = (T.nodes.take (k + 1)).countP Option.isSome by rw [hcnt, ← e]; simp)
        clear c0 hcnt hle hle2 e
        go_wp2_with fail
        go_roundw
        case rel => exact ⟨k + 1, m, trivial, by omega, by go_num, by go_num, hm, HN⟩
        case measure => simp [intOf]; omega
      | some nd =>
        have c0' : wr.cell? ⟨g, k * 6, none⟩ = some (.int .i64 1) := c0
        have hm1 : m + 1 ≤ 2000 := by simp at hcnt; omega
        have HN := Lib.hid (show m + 1 = (T.nodes.take (k + 1)).countP Option.isSome by rw [hcnt, ← e]; simp)
        clear c0 hcnt hle hle2 e
        go_wp2_with fail
        go_roundw
        case rel => exact ⟨k + 1, m + 1, trivial, by omega, by go_num, by go_num, hm1, HN⟩
        case measure => simp [intOf]; omega
    · obtain rfl : k = T.nodes.length := by omega
      go_wp2_with fail
      go_ret
      refine ⟨?_, rfl⟩
      have e := he.out
      rw [List.take_length] at e
      rw [HC.out, ← e]
      rfl
theorem up_of {id : Int} {nd : Nd} (hg : T.get? id = some nd) : T.up id = nd.parent := Tr.up_some hg
set_option maxHeartbeats 1000000 in
theorem rRoot (h : RAt w rb T) {d : Nat → Nat} (hw : WF T d) {id : Int} {nd : Nd} (hg : T.get? id = some nd) : Calls Try.prog 106 #[.pointer (some ⟨rb, 0, none⟩), .int .i64 id] w (RSame (.int .i64 (T.rootOf id)) w) := by
  have H := Lib.hid h
  have HG := Lib.hid hg
  clear h hg
  go_enter Try.func106, Try.ntmps106
  go_wp2_with fail
  go_loopw [1] (fun s wr => ∃ x : Int, wr = w ∧ s = .int .i64 x ∧ Hid ((∃ xd, T.get? x = some xd) ∧ T.rootOf x = T.rootOf id)) (fun s _ => T.rank d (intOf s))
  case atStart => exact ⟨id, rfl, rfl, Lib.hid ⟨⟨nd, HG.out⟩, rfl⟩⟩
  case round =>
    obtain ⟨x, rfl, rfl, hr⟩ := hrel
    obtain ⟨⟨xd, hx⟩, hrt⟩ := hr.out
    obtain ⟨i, rfl, hi, hl⟩ := nodes_some hx
    obtain ⟨g, cap, aa, ac, ka, kc, c, c0, c1, c2, _⟩ := H.out.one hi
    replace c2 : wr.cell? ⟨g, i * 6 + 2, none⟩ = some (.int .i64 xd.parent) := c2
    have hst := hw.root_step (i : Int)
    have hup := up_of hx
    have HX := Lib.hid hx
    have HRT := Lib.hid hrt
    by_cases hu : 0 ≤ xd.parent
    · rw [hup, if_pos hu] at hst
      obtain ⟨ud, hud⟩ := hw.up_get (id := (i : Int)) (by rw [hup]; exact hu)
      have hrk := hw.rank_up (id := (i : Int)) (by rw [hup]; exact hu)
      rw [hup] at hud hrk
      have HS := Lib.hid hst
      have HUD := Lib.hid hud
      have HRK := Lib.hid hrk
      clear hst hup hx hrt hi c0 c1 hud hrk
      go_wp2_with fail
      go_roundw
      case rel => exact ⟨xd.parent, trivial, rfl, Lib.hid ⟨⟨ud, HUD.out⟩, by rw [← HRT.out, HS.out]⟩⟩
      case measure => have := HRK.out; simp [intOf]; omega
    · rw [hup, if_neg hu] at hst
      have HS := Lib.hid hst
      clear hst hup hx hrt hi c0 c1
      go_wp2_with fail
      go_ret
      exact ⟨by rw [← HRT.out, HS.out]; rfl, rfl⟩
set_option maxHeartbeats 1000000 in
theorem rDepth_no (h : RAt w rb T) {id : Int} (hg : T.get? id = none) : Calls Try.prog 109 #[.pointer (some ⟨rb, 0, none⟩), .int .i64 id] w (RSame (.int .i64 (-1)) w) := by
  go_enter Try.func109, Try.ntmps109
  have H := Lib.hid (rHas_no h hg)
  clear hg h
  go_wp2_with (go_at_call 105; refine H.out.mono ?_; rintro e w' ⟨rfl, rfl⟩)
  go_ret
  exact ⟨rfl, rfl⟩
set_option maxHeartbeats 1000000 in
theorem rDepth (h : RAt w rb T) {d : Nat → Nat} (hw : WF T d) {id : Int} {nd : Nd} (hg : T.get? id = some nd) : Calls Try.prog 109 #[.pointer (some ⟨rb, 0, none⟩), .int .i64 id] w (RSame (.int .i64 ((T.pathOf id).length : Int)) w) := by
  have H := Lib.hid h
  have HG := Lib.hid hg
  have hl41 := hw.path_41 id
  obtain ⟨m, hm⟩ : ∃ m, (T.pathOf id).length = m := ⟨_, rfl⟩
  rw [hm] at hl41 ⊢
  have HM := Lib.hid hm
  clear h hg hm
  go_enter Try.func109, Try.ntmps109
  go_wp2_with (go_at_call 105; refine (rHas_yes H.out HG.out).mono ?_; rintro e w' ⟨rfl, rfl⟩)
  go_loopw [1, 5] (fun s n wr => ∃ (x : Int) (k : Nat), wr = w ∧ s = .int .i64 x ∧ n = .int .i64 k ∧ k ≤ m ∧ Hid ((∃ xd, T.get? x = some xd) ∧ k + (T.pathOf x).length = m)) (fun s _ _ => T.rank d (intOf s))
  case atStart => exact ⟨id, 0, rfl, rfl, rfl, Nat.zero_le _, Lib.hid ⟨⟨nd, HG.out⟩, by rw [HM.out]; omega⟩⟩
  case round =>
    obtain ⟨x, k, rfl, rfl, rfl, hk, hr⟩ := hrel
    obtain ⟨⟨xd, hx⟩, hpl⟩ := hr.out
    obtain ⟨i, rfl, hi, hl⟩ := nodes_some hx
    obtain ⟨g, cap, aa, ac, ka, kc, c, c0, c1, c2, _⟩ := H.out.one hi
    replace c2 : wr.cell? ⟨g, i * 6 + 2, none⟩ = some (.int .i64 xd.parent) := c2
    have hst := hw.path_step (i : Int)
    have hup := up_of hx
    by_cases hu : 0 ≤ xd.parent
    · rw [hup, if_pos hu] at hst
      obtain ⟨ud, hud⟩ := hw.up_get (id := (i : Int)) (by rw [hup]; exact hu)
      have hrk := hw.rank_up (id := (i : Int)) (by rw [hup]; exact hu)
      rw [hup] at hud hrk
      have hpl2 : k + 1 + (T.pathOf xd.parent).length = m := by rw [hst] at hpl; simp at hpl; omega
      have HUD := Lib.hid hud
      have HRK := Lib.hid hrk
      have HPL := Lib.hid hpl2
      have hk1 : k + 1 ≤ m := by omega
      clear hst hup hx hpl hi c0 c1 hud hrk hpl2
      go_wp2_with fail
      go_roundw
      case rel => exact ⟨xd.parent, k + 1, trivial, rfl, by go_num, by omega, Lib.hid ⟨⟨ud, HUD.out⟩, HPL.out⟩⟩
      case measure => have := HRK.out; simp [intOf]; omega
    · rw [hup, if_neg hu] at hst
      have hkm : k = m := by rw [hst] at hpl; simpa using hpl
      subst hkm
      clear hst hup hx hpl hi c0 c1
      go_wp2_with fail
      go_ret
      exact ⟨rfl, rfl⟩
set_option maxHeartbeats 1000000 in
theorem rWithin (h : RAt w rb T) {d : Nat → Nat} (hw : WF T d) {id o : Int} {nd : Nd} (hg : T.get? id = some nd) : Calls Try.prog 129 #[.pointer (some ⟨rb, 0, none⟩), .int .i64 id, .int .i64 o] w (RSame (.bool (T.win id o)) w) := by
  have H := Lib.hid h
  have HG := Lib.hid hg
  obtain ⟨z, hz⟩ : ∃ z, T.win id o = z := ⟨_, rfl⟩
  rw [hz]
  have HZ := Lib.hid hz
  clear h hg hz
  go_enter Try.func129, Try.ntmps129
  go_wp2_with fail
  go_loopw [1] (fun s wr => ∃ x : Int, wr = w ∧ s = .int .i64 x ∧ Hid ((x < 0 ∨ ∃ xd, T.get? x = some xd) ∧ T.win x o = z)) (fun s _ => T.rank d (intOf s))
  case atStart => exact ⟨id, rfl, rfl, Lib.hid ⟨.inr ⟨nd, HG.out⟩, HZ.out⟩⟩
  case round =>
    obtain ⟨x, rfl, rfl, hr⟩ := hrel
    obtain ⟨hx, hwz⟩ := hr.out
    by_cases h0 : x < 0
    · have hz0 : z = false := by rw [← hwz]; exact hw.win_none (Tr.get_neg T h0)
      subst hz0
      clear hx hwz
      go_wp2_with fail
      go_ret
      exact ⟨rfl, rfl⟩
    · obtain ⟨xd, hx⟩ := hx.resolve_left h0
      obtain ⟨i, rfl, hi, hl⟩ := nodes_some hx
      obtain ⟨g, cap, aa, ac, ka, kc, c, c0, c1, c2, _⟩ := H.out.one hi
      replace c2 : wr.cell? ⟨g, i * 6 + 2, none⟩ = some (.int .i64 xd.parent) := c2
      have hst := hw.win_step (outer := o) hx
      have hup := up_of hx
      have hrk := hw.rank_step hx
      rw [hup] at hst hrk
      have hug : xd.parent < 0 ∨ ∃ ud, T.get? xd.parent = some ud := by
        by_cases hu : 0 ≤ xd.parent
        · obtain ⟨ud, hud⟩ := hw.up_get (id := (i : Int)) (by rw [hup]; exact hu)
          rw [hup] at hud
          exact .inr ⟨ud, hud⟩
        · exact .inl (by omega)
      have HUG := Lib.hid hug
      have HRK := Lib.hid hrk
      have HWZ := Lib.hid hwz
      have HS := Lib.hid hst
      clear hst hup hx hwz hi c0 c1 hug hrk h0
      cases hio : ((i : Int) == o) with
      | true =>
        have hz1 : z = true := by
          rw [← HWZ.out, HS.out]
          have : (i : Int) = o := by simpa using hio
          rw [decide_eq_true this]; rfl
        subst hz1
        go_wp2_with fail
        go_ret
        exact ⟨rfl, rfl⟩
      | false =>
        have HNE := Lib.hid (show ¬ (i : Int) = o by simpa using hio)
        go_wp2_with fail
        go_roundw
        case rel => exact ⟨xd.parent, trivial, rfl, Lib.hid ⟨HUG.out, by rw [← HWZ.out, HS.out, decide_eq_false HNE.out]; rfl⟩⟩
        case measure => have := HRK.out; simp [intOf]; omega
set_option maxHeartbeats 1000000 in
theorem rHeight_no (h : RAt w rb T) {id : Int} (hg : T.get? id = none) : Calls Try.prog 110 #[.pointer (some ⟨rb, 0, none⟩), .int .i64 id] w (RSame (.int .i64 (-1)) w) := by
  go_enter Try.func110, Try.ntmps110
  have H := Lib.hid (rHas_no h hg)
  clear hg h
  go_wp2_with (go_at_call 105; refine H.out.mono ?_; rintro e w' ⟨rfl, rfl⟩)
  go_ret
  exact ⟨rfl, rfl⟩
set_option maxRecDepth 100000 in
set_option maxHeartbeats 2000000 in
theorem rHeight (h : RAt w rb T) {d : Nat → Nat} (hw : WF T d) : ∀ id : Int, ∀ nd, T.get? id = some nd → Calls Try.prog 110 #[.pointer (some ⟨rb, 0, none⟩), .int .i64 id] w (RSame (.int .i64 (T.height id)) w) := by
  refine hw.rise _ fun id ih nd hg => ?_
  have HAS := Lib.hid (rHas_yes h hg)
  have hk : T.kidsOf id = nd.kids := by unfold Tr.kidsOf; rw [hg]
  rw [hk] at ih
  obtain ⟨i, rfl, hi, hl⟩ := nodes_some hg
  obtain ⟨g, cap, aa, ac, ka, kc, c, c0, c1, c2, c3, c4, c5, _, hrk⟩ := h.one hi
  replace c5 : w.cell? ⟨g, i * 6 + 5, none⟩ = some (.slice ka nd.kids.length kc) := c5
  replace hrk : RowRd w 1 (.slice ka nd.kids.length kc) nd.kids.length (nd.kids.map (Value.int .i64)) := hrk
  obtain ⟨_, _, _, e, hkc, hkn, hkr⟩ := hrk
  cases e
  have hkl := hw.kids_len hi
  have HKN := Lib.hid hkn
  have HKR := Lib.hid hkr
  have IH := Lib.hid ih
  have HW := Lib.hid hw
  have HI := Lib.hid hi
  have HV := Lib.hid (hw.height_eq hi)
  clear hkn hkr ih hw hi hg hk h c0 c1 c2 c3 c4
  go_enter Try.func110, Try.ntmps110
  go_wp2_with (go_at_call 105; refine HAS.out.mono ?_; rintro e w' ⟨rfl, rfl⟩)
  go_loopw [5, 6] (fun v n wr => ∃ (k : Nat) (z : Int), wr = w ∧ k ≤ nd.kids.length ∧ n = .int .i64 k ∧ v = .int .i64 z ∧ 0 ≤ z ∧ z ≤ 200 ∧ Hid (z = (nd.kids.take k).foldl (fun h k => max h (T.height k + 1)) 0)) (fun _ n _ => nd.kids.length - (intOf n).toNat)
  case atStart => exact ⟨0, 0, rfl, Nat.zero_le _, rfl, rfl, by omega, by omega, Lib.hid (by simp)⟩
  case round =>
    obtain ⟨k, z, rfl, hk, rfl, rfl, z0, z1, hz⟩ := hrel
    by_cases hlt : k < nd.kids.length
    · obtain ⟨x, hx⟩ : ∃ x, nd.kids[k]? = some x := ⟨nd.kids[k], by simp [hlt]⟩
      cases ka with
      | none => exact absurd (HKN.out rfl).1 (by omega)
      | some a =>
        obtain ⟨b, off, sp⟩ := a
        have cx := HKR.out _ rfl k (.int .i64 x) (by rw [List.getElem?_map, hx]; rfl)
        obtain ⟨j, kd, h3, h4, h5, h6⟩ := HW.out.kid HI.out hx
        obtain ⟨hh, hhe⟩ : ∃ hh, T.height x = hh := ⟨_, rfl⟩
        have hb := T.hgt_le 50 x
        have hb2 : -1 ≤ hh ∧ hh ≤ 50 := by rw [← hhe]; exact hb
        have HX := Lib.hid hx
        have REC := Lib.hid (show Calls Try.prog 110 #[.pointer (some ⟨rb, 0, none⟩), .int .i64 x] wr (RSame (.int .i64 hh) wr) from hhe ▸ IH.out x (List.mem_of_getElem? hx) kd (by rw [h3]; exact Tr.get_of h4))
        have HHE := Lib.hid hhe
        clear hx h3 h4 h5 h6 hb hhe
        go_wp2_with (go_at_call 110; refine REC.out.mono ?_; rintro e w' ⟨rfl, rfl⟩)
        all_goals
          go_roundw
          case rel => exact ⟨k + 1, _, trivial, by omega, by go_num, rfl, by omega, by omega, Lib.hid (by rw [fold_snoc _ _ _ _ HX.out, ← hz.out, HHE.out]; omega)⟩
          case measure => simp [intOf]; omega
    · obtain rfl : k = nd.kids.length := by omega
      go_wp2_with fail
      go_ret
      refine ⟨?_, rfl⟩
      have e := hz.out
      rw [List.take_length] at e
      rw [HV.out, ← e]; rfl
theorem rIndex_no (h : RAt w rb T) {id : Int} (hg : T.get? id = none) : Calls Try.prog 108 #[.pointer (some ⟨rb, 0, none⟩), .int .i64 id] w (RVal (.int .i64 (-1)) w) := by
  have H := Lib.hid (rHas_no h hg)
  clear hg h
  go_enter Try.func108, Try.ntmps108
  go_wp2_with (go_at_call 105; refine H.out.mono ?_; rintro e w' ⟨rfl, rfl⟩)
  go_ret
  exact ⟨rfl, Ext.refl _⟩
set_option maxHeartbeats 1000000 in
theorem rIndex_root (h : RAt w rb T) {id : Int} {nd : Nd} (hg : T.get? id = some nd) (hp : nd.parent < 0) : Calls Try.prog 108 #[.pointer (some ⟨rb, 0, none⟩), .int .i64 id] w (RVal (.int .i64 (-1)) w) := by
  have HAS := Lib.hid (rHas_yes h hg)
  obtain ⟨i, rfl, hi, hl⟩ := nodes_some hg
  obtain ⟨g, cap, aa, ac, ka, kc, c, c0, c1, c2, _⟩ := h.one hi
  replace c2 : w.cell? ⟨g, i * 6 + 2, none⟩ = some (.int .i64 nd.parent) := c2
  clear hg h hi c0 c1
  go_enter Try.func108, Try.ntmps108
  go_wp2_with (go_at_call 105; refine HAS.out.mono ?_; rintro e w' ⟨rfl, rfl⟩)
  go_ret
  exact ⟨rfl, Ext.refl _⟩
set_option maxRecDepth 100000 in
set_option maxHeartbeats 2000000 in
theorem rIndex_kid (h : RAt w rb T) {d : Nat → Nat} (hw : WF T d) {i p : Nat} {nd pd : Nd} (hi : T.nodes[i]? = some (some nd)) (hpar : nd.parent = (p : Int)) (hp : T.nodes[p]? = some (some pd)) {j : Nat} (hj : posOf pd.kids (i : Int) = (j : Int)) (hjk : pd.kids[j]? = some (i : Int)) (hno : (i : Int) ∉ pd.kids.take j) : Calls Try.prog 108 #[.pointer (some ⟨rb, 0, none⟩), .int .i64 i] w (RVal (.int .i64 j) w) := by
  have HAS := Lib.hid (rHas_yes h (Tr.get_of hi))
  obtain ⟨g, cap, aa, ac, ka, kc, c, c0, c1, c2, _⟩ := h.one hi
  obtain ⟨g', cap', aa', ac', ka', kc', c', d0, d1, d2, d3, d4, d5, _, hrk⟩ := h.one hp
  rw [c] at c'
  cases c'
  replace c2 : w.cell? ⟨g, i * 6 + 2, none⟩ = some (.int .i64 p) := by rw [← hpar]; exact c2
  replace d5 : w.cell? ⟨g, p * 6 + 5, none⟩ = some (.slice ka' pd.kids.length kc') := d5
  replace hrk : RowRd w 1 (.slice ka' pd.kids.length kc') pd.kids.length (pd.kids.map (Value.int .i64)) := hrk
  obtain ⟨_, _, _, e, hkc, hkn, hkr⟩ := hrk
  cases e
  have hkl := hw.kids_len hp
  have hil := (List.getElem?_eq_some_iff.1 hi).1
  have hpl := (List.getElem?_eq_some_iff.1 hp).1
  have hjl := (List.getElem?_eq_some_iff.1 hjk).1
  have HKN := Lib.hid hkn
  have HKR := Lib.hid hkr
  have HJK := Lib.hid hjk
  have HNO := Lib.hid hno
  clear hkn hkr hw hi hp hpar hj hjk hno h c0 c1 d0 d1 d2 d3 d4
  go_enter Try.func108, Try.ntmps108
  go_upto_region 3 with (go_at_call 105; refine HAS.out.mono ?_; rintro e w' ⟨rfl, rfl⟩)
  have e0 := fun u : ExtOf w => u.ext.cell c
  have e1 := fun u : ExtOf w => u.ext.cell c2
  have e2 := fun u : ExtOf w => u.ext.cell d5
  refine wp_region_ext (by kernel_rfl) (by kernel_rfl) ?_
  repeat (go_big_quiet_step (fail))
  refine wpQuiet_nil ?_
  rintro _ ⟨u, rfl⟩
  clear e0 e1 e2
  have HU := Lib.hid u.ext
  go_wp2_with fail
  go_loopw [6] (fun n wr => ∃ k : Nat, wr = u.val ∧ k ≤ j ∧ n = .int .i64 k) (fun n _ => pd.kids.length - (intOf n).toNat)
  case atStart => exact ⟨0, rfl, Nat.zero_le _, rfl⟩
  case round =>
    obtain ⟨k, rfl, hk, rfl⟩ := hrel
    obtain ⟨x, hx⟩ : ∃ x, pd.kids[k]? = some x := ⟨pd.kids[k], by simp [show k < pd.kids.length by omega]⟩
    cases ka' with
    | none => exact absurd (HKN.out rfl).1 (by omega)
    | some a =>
      obtain ⟨b, off, sp⟩ := a
      have cx := HU.out.cells _ _ (HKR.out _ rfl k (.int .i64 x) (by rw [List.getElem?_map, hx]; rfl))
      have hkl2 : k < pd.kids.length := by omega
      by_cases hkj : k = j
      · subst hkj
        have hxi : x = (i : Int) := by have := HJK.out; rw [hx] at this; injection this
        subst hxi
        clear hx
        go_wp2_with fail
        go_ret
        exact ⟨rfl, HU.out⟩
      · have hxi : (x == (i : Int)) = false := by
          have : x ≠ (i : Int) := fun e => HNO.out (by
            subst e
            exact List.mem_of_getElem? (i := k) (by rw [List.getElem?_take_of_lt (by omega)]; exact hx))
          simpa using this
        clear hx
        go_wp2_with fail
        go_roundw
        case rel => exact ⟨k + 1, trivial, by omega, by go_num⟩
        case measure => simp [intOf]; omega
theorem posOf_first {l : List Int} {x : Int} (h : x ∈ l) : ∃ j : Nat, posOf l x = (j : Int) ∧ l[j]? = some x ∧ x ∉ l.take j := by
  obtain ⟨k1, k2, k3⟩ := posOf_mem h
  refine ⟨_, k1, by rw [List.getElem?_eq_getElem k2]; simp, fun hm => ?_⟩
  obtain ⟨n, hn⟩ := List.getElem?_of_mem hm
  have hlt := (List.getElem?_eq_some_iff.1 hn).1
  simp at hlt
  rw [List.getElem?_take_of_lt (by omega)] at hn
  obtain ⟨hn1, hn2⟩ := List.getElem?_eq_some_iff.1 hn
  have h2 : l.idxOf x ≤ n := by
    have := List.idxOf_lt_length_iff.2 h
    rcases Nat.lt_or_ge n (l.idxOf x) with h3 | h3
    · have h4 := List.not_of_lt_findIdx (p := fun y => y == x) (xs := l) (i := n) h3
      simp at h4
      exact absurd hn2 h4
    · exact h3
  omega
theorem rIndex (h : RAt w rb T) {d : Nat → Nat} (hw : WF T d) (id : Int) : Calls Try.prog 108 #[.pointer (some ⟨rb, 0, none⟩), .int .i64 id] w (RVal (.int .i64 (T.idx id)) w) := by
  unfold Tr.idx
  cases hg : T.get? id with
  | none => exact rIndex_no h hg
  | some nd =>
    obtain ⟨i, rfl, hi⟩ := nat_of hg
    rcases hw.up i nd hi with ⟨h1, _⟩ | ⟨p, pd, h1, h2, _, h4⟩
    · simp only [h1, Tr.get_neg T (show (-1 : Int) < 0 by omega)]
      exact rIndex_root h hg (by omega)
    · simp only [h1, Tr.get_of h2]
      obtain ⟨j, j1, j2, j3⟩ := posOf_first h4
      rw [j1]
      exact rIndex_kid h hw hi h1 h2 j1 j2 j3
end
end Go.Proofs.Ytiglflmjidikpaa
