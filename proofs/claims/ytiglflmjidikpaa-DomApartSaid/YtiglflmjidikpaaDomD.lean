/- Package dom: what holds of every tree (WF), and the contracts of Depth, within, Live, Height, slices.Index, Index. -/
import Derived.Test.YtiglflmjidikpaaDomC
namespace Go.Proofs.Ytiglflmjidikpaa
open Go Go.RowKit Go.BigFrame
set_option linter.unusedVariables false

/-- what holds of every tree; d: how deep a node lies -/
structure WF (T : Tr) (d : Nat → Nat) : Prop where
  small : Small T
  root : ∃ nd, T.nodes[0]? = some (some nd) ∧ nd.parent = -1 ∧ nd.tag = 1
  deep : ∀ (i : Nat) (nd : Nd), T.nodes[i]? = some (some nd) → (d i : Int) ≤ T.deep
  up : ∀ (i : Nat) (nd : Nd), T.nodes[i]? = some (some nd) → nd.parent = -1 ∧ d i = 0 ∨ ∃ (p : Nat) (pd : Nd), nd.parent = (p : Int) ∧ T.nodes[p]? = some (some pd) ∧ d i = d p + 1 ∧ (i : Int) ∈ pd.kids
  kids : ∀ (i : Nat) (nd : Nd), T.nodes[i]? = some (some nd) → nd.kids.Nodup ∧ ∀ k ∈ nd.kids, ∃ (j : Nat) (kd : Nd), k = (j : Int) ∧ T.nodes[j]? = some (some kd) ∧ kd.parent = (i : Int)
  text : ∀ (i : Nat) (nd : Nd), T.nodes[i]? = some (some nd) → 0 ≤ nd.tag ∧ nd.tag ≤ 16 ∧ (nd.tag = 0 → nd.kids = [])
  count : T.count = ((T.nodes.countP Option.isSome : Nat) : Int)
theorem Tr.get_nat (T : Tr) (i : Nat) : T.get? (i : Int) = (T.nodes[i]?).join := by
  unfold Tr.get?; rw [if_neg (by omega), Int.toNat_natCast]
theorem Tr.get_of {T : Tr} {i : Nat} {nd : Nd} (h : T.nodes[i]? = some (some nd)) : T.get? (i : Int) = some nd := by
  rw [T.get_nat, h]; rfl
/-- the cell of the row of nodes, and the node's own cells -/
theorem TreeAt.at {w : World} {own : Ow} {ptr : Nat → Nat} {tb : Nat} {T : Tr} (hT : TreeAt w own ptr tb T) {i : Nat} {nd : Nd} (h : T.nodes[i]? = some (some nd)) :
    ∃ g cap av kv, w.cell? ⟨tb, 3, none⟩ = some (.slice (some ⟨g, 0, none⟩) T.nodes.length cap) ∧ w.cell? ⟨g, i, none⟩ = some (.pointer (some ⟨ptr i, 0, none⟩)) ∧
      w.heap[ptr i]? = some (.cells #[.int .i64 nd.tag, av, .string nd.text, kv, .int .i64 nd.parent] 115 (0, 0)) := by
  obtain ⟨nv, hb, _, hrow⟩ := hT.head
  obtain ⟨g, cap, rfl, hcell⟩ := hrow.cell (i := i) (x := .pointer (some ⟨ptr i, 0, none⟩)) (by simp [nodeVals, List.getElem?_mapIdx, h, nodeVal])
  obtain ⟨av, kv, h1, _⟩ := hT.node i nd h
  exact ⟨g, cap, av, kv, cellOf hb rfl, hcell, h1⟩
theorem TreeAt.nv {w : World} {own : Ow} {ptr : Nat → Nat} {tb : Nat} {T : Tr} (hT : TreeAt w own ptr tb T) {g cap : Nat} {i : Nat} {nd : Nd} (h : T.nodes[i]? = some (some nd))
    (hc : w.cell? ⟨tb, 3, none⟩ = some (.slice (some ⟨g, 0, none⟩) T.nodes.length cap)) : w.cell? ⟨g, i, none⟩ = some (.pointer (some ⟨ptr i, 0, none⟩)) := by
  obtain ⟨g', cap', _, _, h1, h2, _⟩ := hT.at h
  rw [hc] at h1
  cases h1
  exact h2
def up1 (d : Nat → Nat) (v : Value) : Nat := if intOf v < 0 then 0 else d (intOf v).toNat + 1

theorem up1_nat (d : Nat → Nat) (p : Nat) : up1 d (.int .i64 (p : Int)) = d p + 1 := by
  show (if (p : Int) < 0 then 0 else d ((p : Int)).toNat + 1) = d p + 1
  rw [if_neg (by omega), Int.toNat_natCast]
theorem up1_neg (d : Nat → Nat) : up1 d (.int .i64 (-1)) = 0 := rfl

set_option maxRecDepth 20000 in
set_option maxHeartbeats 1000000 in
theorem Depth_some {w : World} {own : Ow} {ptr : Nat → Nat} {tb : Nat} {T : Tr} (hT : TreeAt w own ptr tb T) {d : Nat → Nat} (hw : WF T d) {i : Nat} {nd : Nd} (h : T.nodes[i]? = some (some nd)) :
    Calls Try.prog 36 #[.pointer (some ⟨tb, 0, none⟩), .int .i64 i] w (RSame (.int .i64 (d i)) w) := by
  obtain ⟨g, cap, av, kv, c3, cn, cb⟩ := hT.at h
  have cp := cellOf cb (i := 4) (v := .int .i64 nd.parent) rfl
  have hlt := (List.getElem?_eq_some_iff.1 h).1
  have hlen := hw.small.len
  have HG := Lib.hid (Tr.get_of h)
  have HW := Lib.hid hw
  have HC := Lib.hid c3
  have HN := Lib.hid h
  clear cb h hw
  go_enter Try.func36, Try.ntmps36
  go_wp2_with (go_at_call 80; refine (get_some hT HG.out).mono ?_; rintro e w' ⟨rfl, rfl⟩)
  go_loop [5, 6] (fun v a => ∃ (j : Nat) (jd : Nd) (c : Nat), T.nodes[j]? = some (some jd) ∧ a = .int .i64 jd.parent ∧ v = .int .i64 c ∧ c + d j = d i ∧ c ≤ 40) (fun _ a => up1 d a)
  case atStart => exact ⟨i, nd, 0, HN.out, rfl, rfl, by omega, by omega⟩
  case round =>
    obtain ⟨j, jd, c, hj, rfl, rfl, hcd, hc40⟩ := hrel
    have HJ := Lib.hid hj
    have HCD := Lib.hid hcd
    clear hcd hj
    rcases HW.out.up j jd HJ.out with ⟨h0, h1⟩ | ⟨p, pd, h0, h1, h2, h3⟩
    · have hneg : jd.parent < 0 := by omega
      have H0 := Lib.hid h0
      have H1 := Lib.hid h1
      clear h0 h1
      go_wp2
      go_ret
      exact ⟨ret_int (by have := HCD.out; have := H1.out; omega), rfl⟩
    · obtain ⟨g', cap', av', kv', c3', cn', cb'⟩ := hT.at h1
      have cn'' := hT.nv h1 HC.out
      have cp' := cellOf cb' (i := 4) (v := .int .i64 pd.parent) rfl
      have hlt' := (List.getElem?_eq_some_iff.1 h1).1
      have H1 := Lib.hid h1
      have H2 := Lib.hid h2
      have hdeep := HW.out.deep i nd HN.out
      have hd1 := HW.out.small.deep1
      have hc39 : c ≤ 39 := by have := HCD.out; omega
      clear h1 h2 h3 cb' c3' cn' hdeep hd1
      rw [h0]
      clear h0
      go_wp2
      go_round
      case rel => exact ⟨p, pd, c + 1, H1.out, rfl, by go_num, by have := HCD.out; have := H2.out; omega, by omega⟩
      case measure =>
        have hu := HW.out.up p pd H1.out
        rcases hu with ⟨q0, q1⟩ | ⟨q, qd, q0, q1, q2, q3⟩
        · rw [q0, up1_neg, up1_nat]; omega
        · rw [q0, up1_nat, up1_nat]; omega

set_option maxRecDepth 20000 in
set_option maxHeartbeats 400000 in
theorem Depth_nil (id : Int) (w : World) : Calls Try.prog 36 #[.pointer none, .int .i64 id] w (RSame (.int .i64 (-1)) w) := by
  go_enter Try.func36, Try.ntmps36
  go_wp2_with (go_at_call 80; refine (get_nil _ _).mono ?_; rintro e w' ⟨rfl, rfl⟩)
  go_ret
  exact ⟨rfl, rfl⟩
set_option maxRecDepth 20000 in
set_option maxHeartbeats 400000 in
theorem Depth_none {w : World} {own : Ow} {ptr : Nat → Nat} {tb : Nat} {T : Tr} (hT : TreeAt w own ptr tb T) {id : Int} (h : T.get? id = none) :
    Calls Try.prog 36 #[.pointer (some ⟨tb, 0, none⟩), .int .i64 id] w (RSame (.int .i64 (-1)) w) := by
  have H := Lib.hid h
  clear h
  go_enter Try.func36, Try.ntmps36
  go_wp2_with (go_at_call 80; refine (get_none hT H.out).mono ?_; rintro e w' ⟨rfl, rfl⟩)
  go_ret
  exact ⟨rfl, rfl⟩

/-- is outer met on the way up from i? -/
def isIn (T : Tr) (outer : Int) : Nat → Int → Bool
  | 0, _ => false
  | f + 1, id => if id < 0 then false else if id = outer then true else match T.get? id with
    | some nd => isIn T outer f nd.parent
    | none => false
theorem isIn_step {T : Tr} (outer : Int) (f : Nat) {i : Nat} {nd : Nd} (h : T.nodes[i]? = some (some nd)) : isIn T outer (f + 1) i = if (i : Int) = outer then true else isIn T outer f nd.parent := by
  show (if (i : Int) < 0 then false else if (i : Int) = outer then true else match T.get? i with | some nd => isIn T outer f nd.parent | none => false) = _
  rw [if_neg (by omega), Tr.get_of h]
theorem isIn_neg (T : Tr) (outer : Int) (f : Nat) : isIn T outer f (-1) = false := by cases f <;> simp [isIn]
theorem isIn_more {T : Tr} {d : Nat → Nat} (hw : WF T d) (outer : Int) : ∀ (f g i : Nat) (nd : Nd), T.nodes[i]? = some (some nd) → d i < f → d i < g → isIn T outer f i = isIn T outer g i := by
  intro f
  induction f with
  | zero => intro g i nd h h1; omega
  | succ f ih =>
    intro g i nd h h1 h2
    cases g with
    | zero => omega
    | succ g =>
      rw [isIn_step outer f h, isIn_step outer g h]
      split
      · rfl
      · rcases hw.up i nd h with ⟨h3, h4⟩ | ⟨p, pd, h3, h4, h5, h6⟩
        · rw [h3, isIn_neg, isIn_neg]
        · rw [h3]; exact ih g p pd h4 (by omega) (by omega)
def Tr.within (T : Tr) (id outer : Int) : Bool := isIn T outer 50 id

set_option maxRecDepth 20000 in
set_option maxHeartbeats 1000000 in
theorem within_any {w : World} {own : Ow} {ptr : Nat → Nat} {tb : Nat} {T : Tr} (hT : TreeAt w own ptr tb T) {d : Nat → Nat} (hw : WF T d) {i : Nat} {nd : Nd} (h : T.nodes[i]? = some (some nd)) {outer : Int} (ho : 0 ≤ outer) :
    Calls Try.prog 83 #[.pointer (some ⟨tb, 0, none⟩), .int .i64 i, .int .i64 outer] w (RSame (.bool (T.within i outer)) w) := by
  obtain ⟨g, cap, av, kv, c3, cn, cb⟩ := hT.at h
  have hlt := (List.getElem?_eq_some_iff.1 h).1
  have hlen := hw.small.len
  have hd0 : d i < 50 := by have := hw.deep i nd h; have := hw.small.deep1; omega
  have HW := Lib.hid hw
  have HC := Lib.hid c3
  have HN := Lib.hid h
  clear cb h hw cn
  go_enter Try.func83, Try.ntmps83
  go_wp2_with fail
  go_loop [1] (fun a => a = .int .i64 (-1) ∧ T.within i outer = false ∨ ∃ (j : Nat) (jd : Nd) (f : Nat), T.nodes[j]? = some (some jd) ∧ a = .int .i64 j ∧ d j < f ∧ T.within i outer = isIn T outer f j) (fun a => up1 d a)
  case atStart => exact .inr ⟨i, nd, 50, HN.out, rfl, hd0, rfl⟩
  case round =>
    rcases hrel with ⟨rfl, hno⟩ | ⟨j, jd, f, hj, rfl, hf, hin⟩
    · have HO := Lib.hid hno
      clear hno
      have hne : ((-1 : Int) == outer) = false := by simp; omega
      go_wp2
      go_ret
      exact ⟨by rw [HO.out]; rfl, rfl⟩
    · have HJ := Lib.hid hj
      have HI := Lib.hid hin
      have hltj := (List.getElem?_eq_some_iff.1 hj).1
      clear hin hj
      by_cases he : (j : Int) = outer
      · have HE := Lib.hid he
        have hb : ((j : Int) != outer) = false := by simp [he]
        have hb' : ((j : Int) == outer) = true := by simp [he]
        clear he
        go_wp2
        go_ret
        refine ⟨?_, rfl⟩
        rw [HI.out]
        cases f with
        | zero => omega
        | succ f => unfold isIn; rw [if_neg (by omega), if_pos HE.out]; rfl
      · have hb : ((j : Int) != outer) = true := by simpa using he
        have HE := Lib.hid he
        clear he
        obtain ⟨g', cap', av', kv', c3', cn', cb'⟩ := hT.at HJ.out
        have cn'' := hT.nv HJ.out HC.out
        have cp' := cellOf cb' (i := 4) (v := .int .i64 jd.parent) rfl
        clear cb' c3' cn'
        go_wp2
        go_round
        case rel =>
          cases f with
          | zero => omega
          | succ f =>
            have hI := HI.out
            unfold isIn at hI
            rw [if_neg (by omega), if_neg HE.out, Tr.get_of HJ.out] at hI
            rcases HW.out.up j jd HJ.out with ⟨h3, h4⟩ | ⟨p, pd, h3, h4, h5, h6⟩
            · left
              simp only [h3] at hI
              exact ⟨by rw [h3], by rw [hI]; cases f <;> simp [isIn]⟩
            · right
              simp only [h3] at hI
              exact ⟨p, pd, f, h4, by rw [h3], by omega, hI⟩
        case measure =>
          rcases HW.out.up j jd HJ.out with ⟨h3, h4⟩ | ⟨p, pd, h3, h4, h5, h6⟩
          · rw [h3, up1_neg, up1_nat]; omega
          · rw [h3, up1_nat, up1_nat]; omega
end Go.Proofs.Ytiglflmjidikpaa
