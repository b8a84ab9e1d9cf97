/- Package dom: Drop: the errors, and the tree behind it. -/
import Derived.Test.YtiglflmjidikpaaDomV
namespace Go.Proofs.Ytiglflmjidikpaa
open Go Go.RowKit Go.BigFrame
set_option linter.unusedVariables false
set_option linter.unusedSimpArgs false

/-- nothing but the tree's head and its row of nodes has turned -/
structure Top (own : Ow) (w w' : World) : Prop where
  os : w'.os = w.os
  tape : w'.tape = w.tape
  output : w'.output = w.output
  size : w'.heap.size = w.heap.size
  rest : ∀ b, own b ≠ some (0, 0) → own b ≠ some (1, 0) → w'.heap[b]? = w.heap[b]?
theorem Top.refl (own : Ow) (w : World) : Top own w w := ⟨rfl, rfl, rfl, rfl, fun _ _ _ => rfl⟩
theorem Top.trans {own : Ow} {a b c : World} (h : Top own a b) (k : Top own b c) : Top own a c :=
  ⟨k.os.trans h.os, k.tape.trans h.tape, k.output.trans h.output, k.size.trans h.size, fun x h0 h1 => (k.rest x h0 h1).trans (h.rest x h0 h1)⟩
theorem Top.setCell {own : Ow} {a b : World} (h : Top own a b) {p : Addr} (hp : own p.block = some (0, 0) ∨ own p.block = some (1, 0)) (u : Value) : Top own a (b.setCell p u) :=
  ⟨h.os, h.tape, h.output, by have := h.size; simpa [World.setCell] using this, fun x h0 h1 => (heap_setCell_other _ (fun e => by subst e; rcases hp with hp | hp; exact h0 hp; exact h1 hp)).trans (h.rest x h0 h1)⟩
theorem Top.cell {own : Ow} {w w' : World} (h : Top own w w') {b o : Nat} {v : Value} (hb : own b = none) (hc : w.cell? ⟨b, o, none⟩ = some v) : w'.cell? ⟨b, o, none⟩ = some v :=
  (World.cell?_of_block (a := ⟨b, o, none⟩) (h.rest b (by rw [hb]; simp) (by rw [hb]; simp))).trans hc
theorem Top.step {own : Ow} {w w' : World} (h : Top own w w') (hO : Owned own w) : Step own w own w' :=
  ⟨h.os, h.tape, h.output, Nat.le_of_eq h.size.symm, fun b _ hn => h.rest b (by rw [hn]; simp) (by rw [hn]; simp), fun _ _ => rfl, fun b hb => by rw [h.size]; exact hO b hb⟩
/-- a place of the row of nodes is made empty -/
theorem TreeAt.setNone {w : World} {own : Ow} {ptr : Nat → Nat} {tb : Nat} {T : Tr} (h : TreeAt w own ptr tb T) {i g cap : Nat} (hi : i < T.nodes.length)
    (hg : w.heap[tb]? = some (.cells #[.int .i64 T.cap, .int .i64 T.deep, .int .i64 T.count, .slice (some ⟨g, 0, none⟩) T.nodes.length cap] 119 (0, 0))) :
    TreeAt (w.setCell ⟨g, i, none⟩ (.pointer none)) own ptr tb { T with nodes := T.nodes.set i none } := by
  obtain ⟨nv, h1, h2, h3⟩ := h.head
  rw [hg] at h1
  obtain rfl : nv = .slice (some ⟨g, 0, none⟩) T.nodes.length cap := by simp at h1; exact h1.symm
  rcases h3.2 with ⟨h0, _⟩ | ⟨g', cap', cur, q1, q2, q3, q4, q5, q6, q7⟩
  · omega
  obtain ⟨rfl, rfl⟩ : g = g' ∧ cap = cap' := by simp at q1; exact q1
  have k' : ∀ b, own b ≠ own g → (w.setCell ⟨g, i, none⟩ (.pointer none)).heap[b]? = w.heap[b]? := fun b hb => heap_setCell_other _ (fun (e : b = g) => hb (by rw [e]))
  constructor
  · refine ⟨_, (k' tb (by rw [q2, h2]; simp)).trans hg, h2, ?_⟩
    refine ⟨by simp [nodeVals], .inr ⟨g, cap, cur.setIfInBounds i (.pointer none), by simp, q2, by rw [heap_setCell_same q3], by simpa using q4, q5, by simpa using q6, ?_⟩⟩
    apply List.ext_getElem?
    intro j
    have hq : (cur.toList.take (T.nodes.length * 1))[j]? = (nodeVals ptr T.nodes)[j]? := by rw [q7]
    simp only [nodeVals, List.getElem?_mapIdx, List.getElem?_take, List.length_set, Array.toList_setIfInBounds, List.getElem?_set, Nat.mul_one] at hq ⊢
    by_cases hj : i = j
    · subst hj
      rw [if_pos hi, if_pos rfl, if_pos rfl, if_pos (by simp; omega), if_pos hi]
      simp [nodeVal]
    · rw [if_neg hj, if_neg hj, hq]
  · intro j md hj
    rw [List.getElem?_set] at hj
    split at hj
    · try split at hj
      all_goals simp at hj
    · refine (h.nodeAt hj).move fun b x hb hx => ?_
      exact ⟨k' b (by rw [hb, q2]; simp; omega), rfl⟩
/-- the kids' row of a node, whatever top has turned -/
theorem TreeAt.kidCell {w : World} {own : Ow} {i : Nat} {kv : Value} {l : List Int} (hr : RowAt w own 3 1 (4, i) kv l.length (l.map (Value.int .i64))) {wr : World} (ht : Top own w wr) {j : Nat} {x : Int} (hx : l[j]? = some x) :
    ∃ g cap, kv = .slice (some ⟨g, 0, none⟩) l.length cap ∧ wr.cell? ⟨g, j, none⟩ = some (.int .i64 x) :=
  RowAt.cell (RowP.move hr fun g hg => ⟨ht.rest g (by rw [hg]; simp) (by rw [hg]; simp), hg⟩) (i := j) (x := .int .i64 x) (by rw [List.getElem?_map, hx]; rfl)

/-- what a drop of a node's tree leaves -/
def DropIs (own : Ow) (w : World) (ptr : Nat → Nat) (tb : Nat) (T' : Tr) (e : Ending) (w' : World) : Prop := e = .returned (.tuple #[]) ∧ TreeAt w' own ptr tb T' ∧ Top own w w'
abbrev dropF (tc dc : Nat) : Value := .func (.func 88) #[] #[.pointer (some ⟨tc, 0, none⟩), .pointer (some ⟨dc, 0, none⟩)]
theorem inAny_take (T : Tr) (ks : List Int) (k : Nat) (x : Int) (h : ks[k]? = some x) (j : Nat) : T.inAny (ks.take (k + 1)) j = (T.within j x || T.inAny (ks.take k) j) := by
  obtain ⟨hlt, rfl⟩ := List.getElem?_eq_some_iff.1 h
  unfold Tr.inAny
  rw [List.take_succ_eq_append_getElem hlt, List.any_append, Bool.or_comm]
  simp
set_option maxRecDepth 100000 in
set_option maxHeartbeats 4000000 in
theorem drop_fuel {T : Tr} {d : Nat → Nat} (hw : WF T d) {own : Ow} {ptr : Nat → Nat} {tb tc dc : Nat} (htc : own tc = none) (hdc : own dc = none) :
    ∀ (f i : Nat) (nd : Nd) (q : Nat → Bool) (w : World), T.nodes[i]? = some (some nd) → 41 ≤ d i + f → (∀ (j : Nat) (jd : Nd), T.nodes[j]? = some (some jd) → T.within j i = true → q j = false) →
      TreeAt w own ptr tb (T.rid q) → Owned own w → w.cell? ⟨tc, 0, none⟩ = some (.pointer (some ⟨tb, 0, none⟩)) → w.cell? ⟨dc, 0, none⟩ = some (dropF tc dc) →
      Calls Try.prog 88 #[.int .i64 i, .pointer (some ⟨tc, 0, none⟩), .pointer (some ⟨dc, 0, none⟩)] w (DropIs own w ptr tb (T.rid fun j => T.within j i || q j)) := by
  intro f
  induction f with
  | zero => intro i nd q w h h1; have := hw.deep i nd h; have := hw.small.deep1; omega
  | succ f ih =>
    intro i nd q w h h1 hq hT hO ctc cdc
    have hqi := hq i nd h (hw.within_self h)
    have hi' : (T.rid q).nodes[i]? = some (some nd) := Tr.rid_some.2 ⟨hqi, h⟩
    obtain ⟨av, kv, bi, oi, _, hkr⟩ := hT.node i nd hi'
    obtain ⟨ka, kcap, rfl, kc1, kc2⟩ := hkr.len
    obtain ⟨g, gcap, _, _, c3, cg, _⟩ := hT.at hi'
    have ck3 := cellOf bi (i := 3) (v := .slice ka nd.kids.length kcap) rfl
    have hlen := hw.small.len
    have hil := (List.getElem?_eq_some_iff.1 h).1
    rw [Tr.rid_len] at c3
    have HW := Lib.hid hw
    have HT := Lib.hid hT
    have HO := Lib.hid hO
    have HH := Lib.hid h
    have HQ := Lib.hid hq
    have HQI := Lib.hid hqi
    have IH := Lib.hid ih
    have HKR := Lib.hid hkr
    have HTC := Lib.hid htc
    have HDC := Lib.hid hdc
    have HTCC := Lib.hid ctc
    have HDCC := Lib.hid cdc
    have HII := Lib.hid hi'
    unfold maxLen at kc2
    have hw0 : Top own w w := Top.refl own w
    clear hw hT hO h hq hqi ih hkr htc hdc bi hi' oi cdc
    go_enter Try.func88, Try.ntmps88
    go_wp2_with fail
    have hstart : TreeAt w own ptr tb (T.rid fun j => T.inAny (nd.kids.take 0) j || q j) := by
      have e : (fun j => T.inAny (nd.kids.take 0) j || q j) = q := by funext j; simp [Tr.inAny]
      rw [e]; exact HT.out
    have HS := Lib.hid hstart
    clear hstart ctc c3 cg ck3
    go_loopw [5, 17] (fun _ n wr => ∃ k : Nat, k ≤ nd.kids.length ∧ n = .int .i64 k ∧ Top own w wr ∧ TreeAt wr own ptr tb (T.rid fun j => T.inAny (nd.kids.take k) j || q j)) (fun _ n _ => nd.kids.length - (intOf n).toNat)
    case atStart => exact ⟨0, Nat.zero_le _, rfl, hw0, HS.out⟩
    case round =>
      obtain ⟨k, hk, rfl, htop, htr⟩ := hrel
      have HTR := Lib.hid htr
      have HTOP := Lib.hid htop
      clear htr htop
      by_cases hlt : k < nd.kids.length
      · obtain ⟨x, hx⟩ : ∃ x, nd.kids[k]? = some x := ⟨nd.kids[k], by simp [hlt]⟩
        obtain ⟨gk, gkc, e, hc⟩ := TreeAt.kidCell HKR.out HTOP.out hx
        cases e
        obtain ⟨j, kd, h3, h4, h5, h6⟩ := HW.out.kid HH.out hx
        subst h3
        have hd := HTOP.out.cell HDC.out HDCC.out
        have ht := HTOP.out.cell HTC.out HTCC.out
        have HX := Lib.hid hx
        have H4 := Lib.hid h4
        have hmem : (j : Int) ∈ nd.kids := List.mem_of_getElem? hx
        have hqj : ∀ (m : Nat) (md : Nd), T.nodes[m]? = some (some md) → T.within m j = true → (T.inAny (nd.kids.take k) m || q m) = false := fun m md hm hin => by
          rw [HQ.out m md hm (HW.out.kid_within HH.out hmem m md hm hin), Bool.or_false]
          unfold Tr.inAny
          rw [Bool.eq_false_iff]
          intro hany
          obtain ⟨y, hy, hyin⟩ := List.any_eq_true.1 hany
          obtain ⟨jy, yd, rfl, hyn, _⟩ := (HW.out.kids i nd HH.out).2 y (List.mem_of_mem_take hy)
          refine HW.out.kids_apart HH.out (List.mem_of_mem_take hy) hmem (fun e => ?_) m md hm hyin hin
          subst e
          have hnd := (HW.out.kids i nd HH.out).1
          obtain ⟨hlt', he⟩ := List.getElem?_eq_some_iff.1 hx
          rw [← List.take_append_drop k nd.kids, List.nodup_append] at hnd
          refine hnd.2.2 _ hy _ ?_ rfl
          rw [List.drop_eq_getElem_cons hlt', he]
          exact List.mem_cons_self
        have HQJ := Lib.hid hqj
        have hOr : Owned own wr := fun b hb => by rw [HTOP.out.size]; exact HO.out b hb
        have HOR := Lib.hid hOr
        have h41 : 41 ≤ d j + f := by omega
        have hrec := IH.out j kd _ wr H4.out h41 HQJ.out HTR.out HOR.out ht hd
        have HREC := Lib.hid hrec
        clear hx h4 h5 h6 hqj hOr hrec hmem
        go_wp2_with (go_at_call 88; refine HREC.out.mono ?_; rintro e w' ⟨rfl, hT', htop'⟩)
        go_roundw
        case rel =>
          refine ⟨k + 1, by omega, by go_num, HTOP.out.trans htop', ?_⟩
          have e : (fun m : Nat => T.inAny (nd.kids.take (k + 1)) m || q m) = fun m : Nat => T.within m j || (T.inAny (nd.kids.take k) m || q m) := by
            funext m; rw [inAny_take T nd.kids k j HX.out, Bool.or_assoc]
          rw [e]; exact hT'
        case measure => simp [intOf]; omega
      · have hkl : k = nd.kids.length := by omega
        have ht := HTOP.out.cell HTC.out HTCC.out
        have htr := HTR.out
        rw [hkl, List.take_length] at htr
        have hany : T.inAny nd.kids i = false := by
          unfold Tr.inAny
          rw [Bool.eq_false_iff]
          intro hany
          obtain ⟨y, hy, hyin⟩ := List.any_eq_true.1 hany
          obtain ⟨n, hn⟩ := List.getElem?_of_mem hy
          obtain ⟨jy, yd, rfl, hyn, _, hyd⟩ := HW.out.kid HH.out hn
          have := (HW.out.within_depth i nd HH.out hyin).1
          omega
        have hi2 : (T.rid fun j => T.inAny nd.kids j || q j).nodes[i]? = some (some nd) := Tr.rid_some.2 ⟨by rw [hany, HQI.out]; rfl, HH.out⟩
        obtain ⟨nv, hbt, hot, hrow⟩ := htr.head
        obtain ⟨g', gcap', hnv, hcell⟩ := hrow.cell (i := i) (x := .pointer (some ⟨ptr i, 0, none⟩)) (by simp [nodeVals, List.getElem?_mapIdx, hi2, nodeVal])
        subst hnv
        obtain ⟨hog, hfg⟩ : own g' = some (1, 0) ∧ wr.frozen? ⟨g', i, none⟩ = false := by
          rcases hrow.2 with ⟨h0, _⟩ | ⟨g2, cap2, cur, q1, q2, q3, _⟩
          · rw [Tr.rid_len] at h0; omega
          · cases q1; exact ⟨q2, freeOf q3 i⟩
        obtain ⟨_, _, e0, hc1, hc2⟩ := hrow.len
        cases e0
        have hs1 := htr.setNone (i := i) (by rw [Tr.rid_len]; exact hil) hbt
        have hs2 := hs1.setCount ((T.rid fun j => T.inAny nd.kids j || q j).count - 1)
        have hs3 : TreeAt ((wr.setCell ⟨g', i, none⟩ (.pointer none)).setCell ⟨tb, 2, none⟩ (.int .i64 ((T.rid fun j => T.inAny nd.kids j || q j).count - 1))) own ptr tb (T.rid fun j => T.within j i || q j) := by
          have e1 := Tr.rid_set (q := fun j => T.inAny nd.kids j || q j) HH.out (by rw [hany, HQI.out]; rfl)
          have e2 : (T.rid fun j => decide (j = i) || (T.inAny nd.kids j || q j)) = T.rid fun j => T.within j i || q j := Tr.rid_congr fun j jd hj => by
            rw [← Bool.or_assoc, HW.out.inAny_kids HH.out hj]
          rw [← e2, ← e1]
          exact hs2
        have hs4 : Top own w ((wr.setCell ⟨g', i, none⟩ (.pointer none)).setCell ⟨tb, 2, none⟩ (.int .i64 ((T.rid fun j => T.inAny nd.kids j || q j).count - 1))) := (HTOP.out.setCell (.inr hog) _).setCell (.inl hot) _
        have ngt : g' ≠ tb := fun e => by rw [e, hot] at hog; cases hog
        have ngt' := Ne.symm ngt
        have ct3 := cellOf hbt (i := 3) (v := .slice (some ⟨g', 0, none⟩) (T.rid fun j => T.inAny nd.kids j || q j).nodes.length gcap') rfl
        have ct2 := cellOf hbt (i := 2) (v := .int .i64 (T.rid fun j => T.inAny nd.kids j || q j).count) rfl
        have ft2 := freeOf hbt 2
        have hcnt : 0 ≤ (T.rid fun j => T.inAny nd.kids j || q j).count ∧ (T.rid fun j => T.inAny nd.kids j || q j).count ≤ 2000 := by
          have h1 : (T.rid fun j => T.inAny nd.kids j || q j).nodes.countP Option.isSome ≤ (T.rid fun j => T.inAny nd.kids j || q j).nodes.length := List.countP_le_length
          rw [Tr.rid_len] at h1
          show 0 ≤ (((T.rid fun j => T.inAny nd.kids j || q j).nodes.countP Option.isSome : Nat) : Int) ∧ (((T.rid fun j => T.inAny nd.kids j || q j).nodes.countP Option.isSome : Nat) : Int) ≤ 2000
          omega
        rw [Tr.rid_len] at ct3 hc1
        have HS3 := Lib.hid hs3
        have HS4 := Lib.hid hs4
        have ntc : tc ≠ g' := fun e => by have := HTC.out; rw [e, hog] at this; cases this
        have ntc' : tc ≠ tb := fun e => by have := HTC.out; rw [e, hot] at this; cases this
        generalize (T.rid fun j => T.inAny nd.kids j || q j).count = C at *
        obtain ⟨hcn0, hcn1⟩ := hcnt
        have ntc2 := Ne.symm ntc
        have ntc3 := Ne.symm ntc'
        clear hs1 hs2 hs3 hs4 htr hrow hbt hot hog hi2 hany hkl
        go_wp2
        go_end0
        exact ⟨rfl, HS3.out, HS4.out⟩
end Go.Proofs.Ytiglflmjidikpaa
