/- Package dom: Insert: the tree behind it, the errors. -/
import Derived.Test.YtiglflmjidikpaaDomN
namespace Go.Proofs.Ytiglflmjidikpaa
open Go Go.RowKit Go.BigFrame
set_option linter.unusedVariables false
set_option linter.unusedSimpArgs false

/-- a row of kids has been made anew or written in place, and stored into its node -/
theorem kids_plain {w W w3 : World} {own0 own : Ow} {ptr : Nat → Nat} {tb : Nat} {T : Tr} (h0 : Step own0 w own W) (hT : TreeAt W own ptr tb T) {p : Nat} {pd : Nd} (hp : T.nodes[p]? = some (some pd)) (ks : List Int)
    (hpw : ptr p < w.heap.size → own0 (ptr p) ≠ none) (h00 : ∀ b, b < w.heap.size → own b = some (4, p) → own0 b ≠ none)
    {v : Value} {row : Option Nat} (hr : RowP w3 (fun g => own g = some (4, p) ∨ W.heap.size ≤ g) 3 1 v ks.length (ks.map (Value.int .i64))) (hg : W.grownBy w3 row) (hrow : ∀ k, row = some k → own k = some (4, p)) :
    ∃ own1, Step own0 w own1 (w3.setCell ⟨ptr p, 3, none⟩ v) ∧ TreeAt (w3.setCell ⟨ptr p, 3, none⟩ v) own1 ptr tb { T with nodes := T.nodes.set p (some { pd with kids := ks }) } ∧ (∀ b x, own b = some x → own1 b = some x) := by
  have hO := h0.owned
  obtain ⟨av, kv, b1, b2, b3, b4⟩ := hT.node p pd hp
  have hsz := hg.size
  -- the row's own block
  obtain ⟨rb, hr1, hr2⟩ : ∃ rb : Option Nat, RowP w3 (fun g => rb = some g) 3 1 v ks.length (ks.map (Value.int .i64)) ∧ ∀ k, rb = some k → (own k = some (4, p) ∨ W.heap.size ≤ k) ∧ k < w3.heap.size := by
    rcases hr.2 with q | ⟨g, cap, cur, q1, q2, q3, q4⟩
    · exact ⟨none, ⟨hr.1, .inl q⟩, fun k hk => by cases hk⟩
    · exact ⟨some g, ⟨hr.1, .inr ⟨g, cap, cur, q1, rfl, q3, q4⟩⟩, fun k hk => by cases hk; exact ⟨q2, (Array.getElem?_eq_some_iff.1 q3).1⟩⟩
  let own1 : Ow := fun b => if b < W.heap.size then own b else if rb = some b then some (4, p) else none
  have e1 : ∀ b, b < W.heap.size → own1 b = own b := fun b hb => if_pos hb
  have e2 : ∀ b x, own b = some x → own1 b = some x := fun b x hb => (e1 b (hO b (by simp [hb]))).trans hb
  have hpl := hO (ptr p) (by simp [b2])
  have keep : ∀ b x, own b = some x → x ≠ (4, p) → w3.heap[b]? = W.heap[b]? := fun b x hb hx =>
    hg.block b (hO b (by simp [hb])) (fun h => by have := hrow b h.symm; rw [hb] at this; exact hx (Option.some.inj this))
  have hb3 : w3.heap[ptr p]? = _ := (keep _ _ b2 (by simp)).trans b1
  have other : ∀ b x, own b = some x → x ≠ (4, p) → b ≠ ptr p → (w3.setCell ⟨ptr p, 3, none⟩ v).heap[b]? = W.heap[b]? := fun b x hb hx hn =>
    (heap_setCell_other _ hn).trans (keep b x hb hx)
  refine ⟨own1, ?_, ?_, e2⟩
  · have hst : Step own0 w own1 w3 := by
      refine ⟨hg.os.trans h0.os, hg.tape.trans h0.tape, hg.output.trans h0.output, Nat.le_trans h0.size hg.size, fun b hb hn => ?_, fun b hb => (e1 b (Nat.lt_of_lt_of_le hb h0.size)).trans (h0.same b hb), fun b hb => ?_⟩
      · rw [hg.block b (Nat.lt_of_lt_of_le hb h0.size) (fun h => h00 b hb (hrow b h.symm) hn)]
        exact h0.rest b hb hn
      · have hb' : (if b < W.heap.size then own b else if rb = some b then some (4, p) else none) ≠ none := hb
        split at hb'
        · omega
        · split at hb'
          · rename_i h; exact (hr2 b h).2
          · exact absurd rfl hb'
    exact hst.setCell hpw _
  · refine hT.setNode (nd' := { pd with kids := ks }) hp ⟨av, v, by rw [heap_setCell_same hb3]; rfl, e2 _ _ b2, ?_, ?_⟩ ?_
    · exact RowP.move b3 fun g hg' => ⟨other g _ hg' (by simp) (fun e => by rw [e, b2] at hg'; cases hg'), e2 g _ hg'⟩
    · refine RowP.move hr1 fun g hg' => ?_
      obtain ⟨k1, k2⟩ := hr2 g hg'
      have hne : g ≠ ptr p := fun e => by
        rcases k1 with k1 | k1
        · rw [e, b2] at k1; cases k1
        · omega
      refine ⟨heap_setCell_other _ hne, ?_⟩
      show (if g < W.heap.size then _ else _) = _
      rcases k1 with k1 | k1
      · rw [if_pos (hO g (by simp [k1]))]; exact k1
      · rw [if_neg (by omega), if_pos hg']
    · intro b x hb hx
      have hx4 : x ≠ (4, p) := fun e => by rw [e] at hx; exact hx (by simp) rfl
      have hbp : b ≠ ptr p := fun e => by rw [e, b2] at hb; cases hb; exact hx (by simp) rfl
      exact ⟨other b x hb hx4 hbp, (e2 b x hb).trans hb.symm⟩
/-- a node's parent is stored -/
theorem TreeAt.setParent {w : World} {own : Ow} {ptr : Nat → Nat} {tb : Nat} {T : Tr} (hT : TreeAt w own ptr tb T) {k : Nat} {kd : Nd} (hk : T.nodes[k]? = some (some kd)) (q : Int) :
    TreeAt (w.setCell ⟨ptr k, 4, none⟩ (.int .i64 q)) own ptr tb { T with nodes := T.nodes.set k (some { kd with parent := q }) } := by
  obtain ⟨av, kv, b1, b2, b3, b4⟩ := hT.node k kd hk
  have other : ∀ b x, own b = some x → b ≠ ptr k → (w.setCell ⟨ptr k, 4, none⟩ (.int .i64 q)).heap[b]? = w.heap[b]? := fun b x hb hn => heap_setCell_other _ hn
  refine hT.setNode (nd' := { kd with parent := q }) hk ⟨av, kv, by rw [heap_setCell_same b1]; rfl, b2, RowP.move b3 fun g hg => ⟨other g _ hg (fun e => by rw [e, b2] at hg; cases hg), hg⟩, RowP.move b4 fun g hg => ⟨other g _ hg (fun e => by rw [e, b2] at hg; cases hg), hg⟩⟩ ?_
  intro b x hb hx
  exact ⟨other b x hb (fun e => by rw [e, b2] at hb; cases hb; exact hx (by simp) rfl), rfl⟩
/-- an error's number is answered, the tree is another -/
def ErrAfter (own : Ow) (w : World) (tb : Nat) (er : Int) (T' : Tr) (e : Ending) (w' : World) : Prop := e = .returned (.int .i64 er) ∧ After own w tb T' w'
/-- the tree behind an insert -/
def Tr.link (T : Tr) (p at' k : Nat) (pd kd : Nd) : Tr :=
  { T with nodes := (T.nodes.set p (some { pd with kids := pd.kids.take at' ++ [(k : Int)] ++ pd.kids.drop at' })).set k (some { kd with parent := p }) }
/-- what slices.Insert must be known to do -/
def InsertsAt (at' : Nat) (l : List Int) : Prop := ∀ (W : World) (p : Nat → Prop) (v : Value) (b : Nat) (x : Int), RowP W p 3 1 v l.length (l.map (Value.int .i64)) → l.length ≤ 60000 → at' ≤ l.length → W.heap[b]? = some (.cells #[.int .i64 x] 3 (0, 0)) → (¬ p b) →
  Calls Try.prog 84 #[v, .int .i64 at', .slice (some ⟨b, 0, none⟩) 1 1] W (RIns p W (l.length + 1) ((l.take at' ++ [x] ++ l.drop at').map (Value.int .i64)))

set_option maxRecDepth 100000 in
set_option maxHeartbeats 4000000 in
theorem Insert_deep {w : World} {own : Ow} {ptr : Nat → Nat} {tb : Nat} {T : Tr} (hT : TreeAt w own ptr tb T) (hO : Owned own w) {d : Nat → Nat} (hw : WF T d) {p k at' : Nat} {pd kd : Nd} (hp : T.nodes[p]? = some (some pd)) (hk : T.nodes[k]? = some (some kd))
    (htag : (pd.tag == 0) = false) (hk0 : k ≠ 0) (hpar : kd.parent = -1) (hat : at' ≤ pd.kids.length) (hkl : pd.kids.length ≤ 60000) (hin : T.within p k = false) (hdp : T.deep < (d p : Int) + 1 + T.hgt 50 k) :
    Calls Try.prog 21 #[.pointer (some ⟨tb, 0, none⟩), .int .i64 p, .int .i64 at', .int .i64 k] w (RVal (.int .i64 4) w) := by
  obtain ⟨avp, kvp, bp, _, _, hkp⟩ := hT.node p pd hp
  obtain ⟨avk, kvk, bk, _, _, _⟩ := hT.node k kd hk
  obtain ⟨nv, hb, _, _⟩ := hT.head
  obtain ⟨ka, kcap, rfl, kc1, kc2⟩ := hkp.len
  have cp0 := cellOf bp (i := 0) (v := .int .i64 pd.tag) rfl
  have cp3 := cellOf bp (i := 3) (v := .slice ka pd.kids.length kcap) rfl
  have ck4 := cellOf bk (i := 4) (v := .int .i64 (-1)) (by rw [← hpar]; rfl)
  have ct1 := cellOf hb (i := 1) (v := .int .i64 T.deep) rfl
  have hkb : ((k : Int) == 0) = false := by simp; omega
  have hpb : (p : Int) ≤ 2000 := by have := (List.getElem?_eq_some_iff.1 hp).1; have := hw.small.len; omega
  obtain ⟨hh1, hh2⟩ := T.hgt_le 50 k
  have hd1 := hw.deep p pd hp
  have hd2 := hw.small.deep1
  have hh : Calls Try.prog 50 #[.pointer (some ⟨tb, 0, none⟩), .int .i64 k] w (RSame (.int .i64 (T.hgt 50 k)) w) := Height_fuel hT hw 50 k kd hk (by omega) (by omega)
  clear hh
  have HP := Lib.hid (Tr.get_of hp)
  have HK := Lib.hid (Tr.get_of hk)
  have HNP := Lib.hid hp
  have HNK := Lib.hid hk
  have HW := Lib.hid hw
  have HT := Lib.hid hT
  have HO := Lib.hid hO
  have HIN := Lib.hid hin
  have ct1' := fun u : ExtOf w => u.ext.cell ct1
  clear hp hk hw hT hO hin bp bk hb hkp hpar hk0 kc2
  go_enter Try.func21, Try.ntmps21
  go_wp2_with fail
  refine (get_some HT.out HP.out).mono ?_
  rintro e w' ⟨rfl, rfl⟩
  go_wp2_with fail
  refine (get_some HT.out HK.out).mono ?_
  rintro e w' ⟨rfl, rfl⟩
  go_wp2_with fail
  refine (within_any HT.out HW.out HNP.out (by omega)).mono ?_
  rintro e w' ⟨rfl, rfl⟩
  rw [HIN.out]
  go_wp2_with fail
  refine wp_region_ext (by kernel_rfl) (by kernel_rfl) ?_
  repeat (go_big_quiet_step (first
    | (go_at_call 36; exact inExt (RSame.val (Depth_some (HT.out.keep (ExtOf.ext _ |>.keep HO.out)) HW.out HNP.out)))
    | (go_at_call 50; exact inExt (RSame.val (Height_fuel (HT.out.keep (ExtOf.ext _ |>.keep HO.out)) HW.out 50 k kd HNK.out (by omega) (by omega))))))
  refine wpQuiet_nil ?_
  rintro _ ⟨u, rfl⟩
  go_wp2
  go_ret
  exact ⟨rfl, u.ext⟩
end Go.Proofs.Ytiglflmjidikpaa
