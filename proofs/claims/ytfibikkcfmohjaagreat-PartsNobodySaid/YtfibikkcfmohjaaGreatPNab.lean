/- what of V1 V2 V2b V3 W1 W2 W3 W4 VQ VA VB VC VD VE VF VG VH VI VJ VK VL VR VS VU VV VT VW VX VY VAA VTB VTC VTD VTE D0 DB DA DC DD DE DF DG DH DI DJ DK DL DM DN DOa DP EY EA EB EC ED EE EF EFa EFb EFc EFd EFe EG EH EJ GA GP GN GB GC GD GE GF GG GH GI GJ GK GL GM GO GQ GR GS is leant on -/
import Derived.Test.YtfibikkcfmohjaaGreatPNaa
set_option linter.unusedVariables false
set_option linter.unusedSimpArgs false
set_option maxRecDepth 100000
set_option maxHeartbeats 4000000
namespace Go.Proofs.YtfibikkcfmohjaaGreat
open Go Go.RowKit Go.BigFrame
theorem step_append_run {P : Program} {ops : Array Oper} {o : Oper} {a : Act} {w : World} {K : Act → World → Prop} {Q : Exit → Act → World → Prop} {E : Prop}
    (hg : o.guard = none) (s x : Operand) (t : TypeId) (hop : o.op = Op.call { callee := Callee.builtin Builtin.append, args := #[s, x], argTypes := #[t, t] })
    (v u : Value) (hs : a.eval s = v) (hx : a.eval x = u) (v' : Value) (w' : World) (hr : (Builtin.append_ #[t, t] o.type #[v, u]).run P w = .ok v' w') (hK : K (a.put o.dst v') w') :
    if Region.wanted o (yielded ops a.tmps) = true then Oper.wp P o a w K Q else E := by
  have hw : Region.wanted o (yielded ops a.tmps) = true := by simp [Region.wanted, hg]
  rw [if_pos hw]
  unfold Oper.wp
  simp [execOp, hop, resolve, invoke, builtin, hs, hx, hr, Result.andThen]
  exact hK
def Apart (g : World) (own : Ow) (w : World) : Prop := ∀ p v, g.cell? p = some v → w.cell? p = some v ∧ own p.block = none
theorem Apart.step {g : World} {own own' : Ow} {w w' : World} (h : Apart g own w) (k : Step own w own' w') : Apart g own' w' := fun p v hp => by
  obtain ⟨h1, h2⟩ := h p v hp
  have hl := World.block_lt_of_cell? w _ h1
  exact ⟨(World.cell?_of_block (k.rest _ hl h2)).trans h1, (k.same _ hl).trans h2⟩
theorem Apart.cells {g : World} {own : Ow} {w : World} (h : Apart g own w) : Cells g w := fun p v hp => (h p v hp).1
theorem Apart.ext {g : World} {own : Ow} {w w' : World} (h : Apart g own w) (k : Ext w w') : Apart g own w' := fun p v hp => ⟨k.cells _ _ (h p v hp).1, (h p v hp).2⟩
theorem intos_take (i : Int) (T : Tr) : ∀ (l : List PN) (k : Nat) (x : PN), l[k]? = some x → PN.intos i T (l.take (k + 1)) = (PN.into (PN.intos i T (l.take k)) x).join i (PN.intos i T (l.take k)).newId := by
  intro l
  induction l generalizing T with
  | nil => intro k x h; simp at h
  | cons y r ih =>
    intro k x h
    cases k with
    | zero => simp at h; subst h; simp [PN.intos]
    | succ k => simp at h; simp only [List.take_succ_cons, PN.intos]; exact ih _ k x h
abbrev putF (tc pc : Nat) : Value := .func (.func 175) #[] #[.pointer (some ⟨tc, 0, none⟩), .pointer (some ⟨pc, 0, none⟩)]
theorem put_round {n : PN} (hok : n.ok = true) {T : Tr} {d : Nat → Nat} (hw : WF T d) (hc : T.count + n.size ≤ T.cap) (hh : (n.high : Int) ≤ T.deep) :
    ∃ i : Nat, T.newId = (i : Int) ∧ i ≠ 0 ∧ (∀ x : Nd, T.nodes[i]? ≠ some (some x)) ∧ ∀ k, ∃ (d' : Nat → Nat) (nd : Nd), WF (PN.intos i (T.put ⟨n.tag, n.attrs, anewB n.text, [], -1⟩) (n.kids.take k)) d' ∧
      (PN.intos i (T.put ⟨n.tag, n.attrs, anewB n.text, [], -1⟩) (n.kids.take k)).nodes[i]? = some (some nd) ∧ nd.parent = -1 ∧ nd.kids.length ≤ n.size ∧
      ∀ x, n.kids[k]? = some x → (PN.intos i (T.put ⟨n.tag, n.attrs, anewB n.text, [], -1⟩) (n.kids.take k)).count + x.size ≤ (PN.intos i (T.put ⟨n.tag, n.attrs, anewB n.text, [], -1⟩) (n.kids.take k)).cap ∧
        (x.high : Int) ≤ (PN.intos i (T.put ⟨n.tag, n.attrs, anewB n.text, [], -1⟩) (n.kids.take k)).deep := by
  have hb := PN.ok_bad hok
  have hkids := PN.ok_kids hok
  obtain ⟨b0, b1, b2, b3⟩ := PN.bad_tag hb
  have hs := PN.size_eq n
  have hi := PN.high_eq n
  obtain ⟨d1, i, h1, h0, h2, h3, hP⟩ := hw.put_one hb (by omega)
  refine ⟨i, h1, h0, h2, fun k => ?_⟩
  have hst := sizes_take n.kids k
  have hht : PN.highs (n.kids.take k) ≤ PN.highs n.kids := by
    have : ∀ (l : List PN) (k : Nat), PN.highs (l.take k) ≤ PN.highs l := by
      intro l
      induction l with
      | nil => intro k; simp
      | cons y r ih => intro k; cases k with
        | zero => simp [PN.highs]
        | succ k => simp only [List.take_succ_cons, PN.highs]; have := ih k; omega
    exact this _ _
  obtain ⟨d2, nd2, hn2, hP2⟩ := intos_ok (n.kids.take k) (fun x hx => into_ok x (PN.oks_mem hkids (List.mem_of_mem_take hx))) _ d1 i _ hP.wf h3 rfl (by
    by_cases e : n.tag = 0
    · right; rw [(b2 e).1]; simp
    · exact .inl e) (by rw [hP.count, hP.cap]; omega) (by rw [hP.deep]; omega) (fun x hx => by cases hx)
  obtain ⟨nd', q1, q2⟩ := hP2.node
  obtain rfl := some_inj2 hn2 q1
  refine ⟨d2, nd2, hP2.wf, hn2, q2, ?_, fun x hx => ?_⟩
  · have hp := hP2.plain
    rw [hP2.wf.plain_eq hn2] at hp
    have hlen := congrArg List.length (PN.mk.inj hp).2.2.2
    rw [List.length_map, List.length_append, PN.anews_eq, List.length_map, List.length_map, List.length_take] at hlen
    have hkl : n.kids.length ≤ PN.sizes n.kids := by
      have : ∀ l : List PN, l.length ≤ PN.sizes l := by
        intro l
        induction l with
        | nil => simp
        | cons y r ih => simp only [List.length_cons, PN.sizes]; have := y.size_pos; omega
      exact this _
    simp at hlen
    omega
  · have hsx := sizes_take_succ hx
    have hxx : x.high + 1 ≤ PN.highs n.kids := by
      have : ∀ (l : List PN), x ∈ l → x.high + 1 ≤ PN.highs l := by
        intro l
        induction l with
        | nil => intro h; cases h
        | cons y r ih => intro h; simp only [PN.highs]; rcases List.mem_cons.1 h with rfl | h; omega; have := ih h; omega
      exact this _ (List.mem_of_getElem? hx)
    rw [hP2.count, hP2.cap, hP2.deep, hP.count, hP.cap, hP.deep]
    exact ⟨by omega, by omega⟩
end Go.Proofs.YtfibikkcfmohjaaGreat
namespace Go.Proofs.YtfibikkcfmohjaaGreat
open Go Go.RowKit
section
variable {P : Program} {ops : Array Oper} {Q : Exit → Act → World → Prop} {md : Region.Mode} {S : World → Prop} {n : Nat}
def wpE (P : Program) (md : Region.Mode) (ops : Array Oper) (Q : Exit → Act → World → Prop) (S : World → Prop) (n : Nat) : Nat → Array Bool → Act → World → Prop
  | 0, l, a, w => Region.ready md ops l = [] ∧ Q .normal a w
  | f + 1, l, a, w => (Region.ready md ops l = [] → Q .normal a w) ∧ ∀ i ∈ Region.ready md ops l, wpOp P ops Q i (fun a' w' => (i = n ∨ S w') ∧ wpE P md ops Q S n f (l.setIfInBounds i true) a' w') a w
theorem wpE_any : ∀ (f : Nat) (l : Array Bool) (a : Act) (w : World), wpE P md ops Q S n f l a w → wpAny P md ops Q f l a w := by
  intro f
  induction f with
  | zero => exact fun l a w h => h
  | succ f ih => exact fun l a w h => ⟨h.1, fun i hi => wpOp_mono (fun a' w' k => ih _ a' w' k.2) (h.2 i hi)⟩
def waits (md : Region.Mode) (ops : Array Oper) (n i : Nat) : Bool := match ops[n]? with
  | some o => o.after.toList.any fun e => Region.binds md e && e.on == i
  | none => true
theorem unlisted {l : Array Bool} {i : Nat} (h : l.getD i true = false) (k : l.getD i false = true) : False := by
  rcases Nat.lt_or_ge i l.size with hi | hi
  · simp [hi] at h k; rw [h] at k; cases k
  · simp [Array.getElem?_eq_none hi] at h
theorem ready_waits {l : Array Bool} {i j : Nat} (hi : i ∈ Region.ready md ops l) (hj : j ∈ Region.ready md ops l) (hw : waits md ops n i = true) : j ≠ n := by
  rintro rfl
  obtain ⟨_, o, ho, hall⟩ := mem_ready.1 hj
  unfold waits at hw
  rw [ho] at hw
  obtain ⟨e, he, hb⟩ := List.any_eq_true.1 hw
  simp only [Bool.and_eq_true, beq_iff_eq] at hb
  have h1 := hall e (Array.mem_toList_iff.1 he) hb.1
  rw [hb.2] at h1
  exact unlisted (mem_ready.1 hi).1 h1
theorem wpE_first {i : Nat} {o : Oper} {v : Value} (ho : ops[i]? = some o) (hs : Region.noSelect ops = true) (hw : waits md ops n i = true) (hQ : ∀ c a w, Q (.panic c) (a.put o.dst v) w → Q (.panic c) a w) :
    ∀ (f : Nat) (l : Array Bool) (a : Act) (w : World), (∀ (j : Nat) (oj : Oper), ops[j]? = some oj → j ≠ i → l.getD j true = false → (∀ e ∈ oj.after, Region.binds md e = true → e.on ≠ i) → o.apart ops oj = true) →
      i ∈ Region.ready md ops l → YieldsIf P ops S o v a → S w → wpE P md ops Q S n f (l.setIfInBounds i true) (a.put o.dst v) w → wpE P md ops Q S n (f + 1) l a w := by
  have hsel := Region.noSelect_spec hs
  intro f
  induction f with
  | zero =>
    intro l a w _ hr hy hS H
    refine ⟨fun h => (by rw [h] at hr; cases hr), fun j hj => ?_⟩
    rcases Classical.em (j = i) with rfl | hji
    · exact hy.wpOp ho hS ⟨.inr hS, H⟩
    · have h0 := ready_mono hj hji
      rw [H.1] at h0; cases h0
  | succ f ih =>
    intro l a w hfree hr hy hS H
    refine ⟨fun h => (by rw [h] at hr; cases hr), fun j hj => ?_⟩
    rcases Classical.em (j = i) with rfl | hji
    · exact hy.wpOp ho hS ⟨.inr hS, H⟩
    · obtain ⟨hun, oj, hoj, hall⟩ := mem_ready.1 hj
      have hno : ∀ e ∈ oj.after, Region.binds md e = true → e.on ≠ i := fun e he hb e2 => unlisted (mem_ready.1 hr).1 (e2 ▸ hall e he hb)
      have hjn := ready_waits hr hj hw
      have step := wpOp_putIf hoj (hfree j oj hoj hji hun hno) (fun cs b => hsel i o cs b ho) (fun cs b => hsel j oj cs b hoj) hQ hy (H.2 j (ready_mono hj hji))
      refine wpOp_mono (fun a' w' k => ?_) step
      have hS' : S w' := k.2.1.resolve_left hjn
      refine ⟨.inr hS', ih (l.setIfInBounds j true) a' w' (fun m om hm hmi hmu hmn => hfree m om hm hmi ?_ hmn) (ready_mono hr (Ne.symm hji)) k.1 hS' ?_⟩
      · rcases Classical.em (j = m) with rfl | hjm
        · exact hun
        · rw [getD_set_ne true hjm] at hmu; exact hmu
      · rw [Array.setIfInBounds_comm _ _ hji]; exact k.2.2
theorem wpE_take {i : Nat} {o : Oper} {v : Value} {f : Nat} {l : Array Bool} {a : Act} {w : World} (ho : ops[i]? = some o) (hs : Region.noSelect ops = true) (hf : Region.free md ops l i = true) (hr : (Region.ready md ops l).contains i = true) (hw : waits md ops n i = true)
    (hQ : ∀ c a w, Q (.panic c) (a.put o.dst v) w → Q (.panic c) a w) (hy : YieldsIf P ops S o v a) (hS : S w) (h : wpE P md ops Q S n f (l.setIfInBounds i true) (a.put o.dst v) w) : wpE P md ops Q S n (f + 1) l a w :=
  wpE_first ho hs hw hQ f l a w (Region.free_spec ho hf) (by simpa using hr) hy hS h
theorem wpE_one {i : Nat} {o : Oper} {f : Nat} {l : Array Bool} {a : Act} {w : World} (hr : Region.ready md ops l = [i]) (ho : ops[i]? = some o)
    (h : ∀ K : Act → World → Prop, Shut (∀ a w, (i = n ∨ S w) → wpE P md ops Q S n f (l.setIfInBounds i true) a w → K a w) → if Region.wanted o (yielded ops a.tmps) = true then Oper.wp P o a w K Q else K (a.put o.dst undef) w) : wpE P md ops Q S n (f + 1) l a w := by
  refine ⟨fun h => (by rw [hr] at h; cases h), fun j hj => ?_⟩
  rw [hr] at hj
  obtain rfl : j = i := by simpa using hj
  exact wpOp_step ho fun K hK => h K fun a w h1 h2 => hK a w ⟨h1, h2⟩
theorem wpE_tk {f : Nat} {l : Array Bool} {a : Act} {w : World} {op : _} {ty : _} {pos : _} {af : _} (i s : Nat) (v : Value) (ho : ops[i]? = some { dst := some s, op := op, type := ty, pos := pos, after := af, guard := none }) (hy : YieldsIf P ops S { dst := some s, op := op, type := ty, pos := pos, after := af, guard := none } v a) (hS : S w) (h : wpE P md ops Q S n f (l.setIfInBounds i true) (a.put (some s) v) w)
    (hs : Region.noSelect ops = true := by kernel_rfl) (hf : Region.free md ops l i = true := by kernel_rfl) (hr : (Region.ready md ops l).contains i = true := by kernel_rfl) (hw : waits md ops n i = true := by kernel_rfl) (hQ : ∀ c a w, Q (.panic c) (a.put (some s) v) w → Q (.panic c) a w := by exact fun _ _ _ h => h) : wpE P md ops Q S n (f + 1) l a w :=
  wpE_take ho hs hf hr hw hQ hy hS h
theorem wpE_on {f : Nat} {l : Array Bool} {a : Act} {w : World} {op : _} {ty : _} {pos : _} {af : _} (i : Nat) (dst : Option Nat) (ho : ops[i]? = some { dst := dst, op := op, type := ty, pos := pos, after := af, guard := none })
    (h : ∀ K : Act → World → Prop, Shut (∀ a w, (i = n ∨ S w) → wpE P md ops Q S n f (l.setIfInBounds i true) a w → K a w) → if Region.wanted ({ dst := dst, op := op, type := ty, pos := pos, after := af, guard := none } : Oper) (yielded ops a.tmps) = true then Oper.wp P { dst := dst, op := op, type := ty, pos := pos, after := af, guard := none } a w K Q else K (a.put dst undef) w)
    (hr : Region.ready md ops l = [i] := by kernel_rfl) : wpE P md ops Q S n (f + 1) l a w :=
  wpE_one hr ho h
theorem wpE_done {f : Nat} {l : Array Bool} {a : Act} {w : World} (hr : Region.ready md ops l = []) (h : Q .normal a w) : wpE P md ops Q S n f l a w := by
  cases f with
  | zero => exact ⟨hr, h⟩
  | succ f => exact ⟨fun _ => h, fun i hi => by rw [hr] at hi; cases hi⟩
theorem wp_region_E {id : Nat} {a : Act} {w : World} (hm : P.follows .mixedOrders = true) (h : wpE P .any ops Q S n ops.size (Array.replicate ops.size false) a w.drew) : (Code.region id ops true).wp P Q a w :=
  wp_region_any hm (wpE_any _ _ _ _ h)
end
end Go.Proofs.YtfibikkcfmohjaaGreat
namespace Go.Proofs.YtfibikkcfmohjaaGreat
open Go Go.RowKit Go.BigFrame
theorem Step.cellOld {own own' : Ow} {w w' : World} (h : Step own w own' w') {b o : Nat} {v : Value} (hn : own b = none) (hc : w.cell? ⟨b, o, none⟩ = some v) : w'.cell? ⟨b, o, none⟩ = some v :=
  (World.cell?_of_block (a := ⟨b, o, none⟩) (h.rest b (World.block_lt_of_cell? w _ hc) hn)).trans hc
theorem TreeAt.rowOwn {w : World} {own : Ow} {ptr : Nat → Nat} {tb : Nat} {T : Tr} (hT : TreeAt w own ptr tb T) {g cap : Nat} {i : Nat} {nd : Nd} (h : T.nodes[i]? = some (some nd))
    (hc : w.cell? ⟨tb, 3, none⟩ = some (.slice (some ⟨g, 0, none⟩) T.nodes.length cap)) : own g = some (1, 0) ∧ own tb = some (0, 0) := by
  obtain ⟨nv, hb, hot, hrow⟩ := hT.head
  have h3 := cellOf hb (i := 3) (v := nv) rfl
  rw [hc] at h3
  obtain rfl : nv = .slice (some ⟨g, 0, none⟩) T.nodes.length cap := by injection h3 with h3; exact h3.symm
  rcases hrow.2 with ⟨h0, _⟩ | ⟨g', cap', cur, q1, q2, _⟩
  · have := (List.getElem?_eq_some_iff.1 h).1; omega
  · cases q1; exact ⟨q2, hot⟩
theorem grownCell {w cw wA : World} {row : Option Nat} (hx : Ext w cw) (hg : cw.grownBy wA row) {b o : Nat} {v : Value} (hc : w.cell? ⟨b, o, none⟩ = some v) (hne : ∀ k, row = some k → k ≠ b) : wA.cell? ⟨b, o, none⟩ = some v := by
  have h1 := hx.cell hc
  exact (World.cell?_of_block (a := ⟨b, o, none⟩) (hg.block b (World.block_lt_of_cell? cw _ h1) (fun e => hne b e.symm rfl))).trans h1
theorem grownFree {w cw wA : World} {row : Option Nat} (hx : Ext w cw) (hg : cw.grownBy wA row) {b o : Nat} (hl : b < w.heap.size) (hc : w.frozen? ⟨b, o, none⟩ = false) (hne : ∀ k, row = some k → k ≠ b) : wA.frozen? ⟨b, o, none⟩ = false := by
  have h1 := hx.free hl hc
  exact (World.frozen?_of_block (a := ⟨b, o, none⟩) (hg.block b (Nat.lt_of_lt_of_le hl hx.size) (fun e => hne b e.symm rfl))).trans h1
theorem join_plain {w cw wA : World} {own0 own : Ow} {ptr : Nat → Nat} {tb : Nat} {T : Tr} (h0 : Step own0 w own cw) (hT : TreeAt cw own ptr tb T) {p k : Nat} {pd kd : Nd} (hp : T.nodes[p]? = some (some pd)) (hk : T.nodes[k]? = some (some kd)) (hpk : p ≠ k)
    (hpw : ∀ x, x < w.heap.size → own x ≠ none → own0 x ≠ none)
    {v : Value} {row : Option Nat} (hr : RowP wA (fun g => own g = some (4, p) ∨ cw.heap.size ≤ g) 3 1 v (pd.kids.length + 1) (pd.kids.map (Value.int .i64) ++ [.int .i64 k])) (hg : cw.grownBy wA row) (hrow : ∀ b, row = some b → own b = some (4, p)) :
    ∃ own1, Step own0 w own1 (wA.setCell ⟨ptr p, 3, none⟩ v) ∧ TreeAt (wA.setCell ⟨ptr p, 3, none⟩ v) own1 ptr tb { T with nodes := T.nodes.set p (some { pd with kids := pd.kids ++ [(k : Int)] }) } ∧
      Step own0 w own1 ((wA.setCell ⟨ptr p, 3, none⟩ v).setCell ⟨ptr k, 4, none⟩ (.int .i64 p)) ∧ TreeAt ((wA.setCell ⟨ptr p, 3, none⟩ v).setCell ⟨ptr k, 4, none⟩ (.int .i64 p)) own1 ptr tb (T.attach p k pd kd) := by
  obtain ⟨av, kv, b1, b2, b3, b4⟩ := hT.node p pd hp
  obtain ⟨avk, kvk, c1, c2, c3, c4⟩ := hT.node k kd hk
  have hr' : RowP wA (fun g => own g = some (4, p) ∨ cw.heap.size ≤ g) 3 1 v (pd.kids ++ [(k : Int)]).length ((pd.kids ++ [(k : Int)]).map (Value.int .i64)) := by
    simpa using hr
  obtain ⟨own1, hs1, hT1, hsame⟩ := kids_plain h0 hT hp (pd.kids ++ [(k : Int)]) (fun hx => hpw _ hx (by rw [b2]; simp)) (fun b hb hb2 => hpw _ hb (by rw [hb2]; simp)) hr' hg hrow
  have hkd : (T.nodes.set p (some { pd with kids := pd.kids ++ [(k : Int)] }))[k]? = some (some kd) := by
    rw [List.getElem?_set, if_neg hpk]; exact hk
  have hT2 := hT1.setParent hkd (p : Int)
  exact ⟨own1, hs1, hT1, hs1.setCell (p := ⟨ptr k, 4, none⟩) (fun hx => hpw _ hx (by rw [c2]; simp)) _, hT2⟩

theorem put_any {g : World} {tb tc pc : Nat} (htc : g.cell? ⟨tc, 0, none⟩ = some (.pointer (some ⟨tb, 0, none⟩))) (hpc : g.cell? ⟨pc, 0, none⟩ = some (putF tc pc)) :
    ∀ n : PN, n.ok = true → n.short = true → ∀ (nv : Value) (T : Tr) (d : Nat → Nat) (own : Ow) (ptr : Nat → Nat) (w : World), RdN g n nv → Apart g own w → TreeAt w own ptr tb T → Owned own w → WF T d → T.count + n.size ≤ T.cap → (n.high : Int) ≤ T.deep →
      Calls Tryz.prog 175 #[nv, .pointer (some ⟨tc, 0, none⟩), .pointer (some ⟨pc, 0, none⟩)] w (AddIs own w tb T.newId (PN.into T n)) := by
  refine PN.induct _ fun n ih hok hsh nv T d own ptr w hr hap hT hO hw hc hh => ?_
  obtain ⟨i, hi1, hi0, hi2, hround⟩ := put_round hok hw hc hh
  obtain ⟨av, kv, rfl, ha, hk⟩ := hr.open
  obtain ⟨aa, acap, rfl, hac⟩ := ha.len_of
  obtain ⟨ka, kcap, rfl, hkc, hkm, hkn, hkr⟩ := hk
  have x1 := (Ext.refl w).alloc (.cells #[.int .i64 n.tag, .slice aa n.attrs.length acap, .string n.text, .slice ka n.kids.length kcap] 34)
  have hbox := heap_alloc_new w (.cells #[.int .i64 n.tag, .slice aa n.attrs.length acap, .string n.text, .slice ka n.kids.length kcap] 34)
  have hob : own w.heap.size = none := by
    cases ho : own w.heap.size with
    | none => rfl
    | some x => have := hO w.heap.size (by simp [ho]); omega
  have hts : n.text.size ≤ 100000 := by have := hsh; rw [PN.short_eq] at this; simp at this; exact this.1.1
  have has : n.attrs.length ≤ 60000 := by have := hsh; rw [PN.short_eq] at this; simp at this; exact this.1.2
  have hroom : ∀ (T' : Tr), T' = T → (∀ x ∈ T.nodes, x ≠ none) → T.nodes.length ≤ 1999 := fun _ _ hall => by
    have := hw.len_full hall; have := hw.small.cap1; have := n.size_pos; omega
  have HX := qh x1
  have HA := qh ha
  have HKR := qh hkr
  have HKN := qh hkn
  have HAP := qh hap
  have HT := qh hT
  have HO := qh hO
  have HW := qh hw
  have HC := qh hc
  have HH := qh hh
  have HSH := qh hsh
  have HOK := qh hok
  have IH := qh ih
  have HI1 := qh hi1
  have HI2 := qh hi2
  have HRD := qh hround
  have HOB := qh hob
  have HTS := qh hts
  have HAS := qh has
  have HRM := qh hroom
  have HTC := qh htc
  have HPC := qh hpc
  unfold maxLen at hkm
  clear x1 ha hkr hkn hap hT hO hw hc hh hsh hok ih hi1 hi2 hround hr hob hts has hroom
  go_enter Tryz.func175, Tryz.ntmps175
  go_upto_region 1 with fail
  obtain ⟨wb, hwb⟩ : ∃ wb : World, wb = w.alloc (.cells #[.int .i64 n.tag, .slice aa n.attrs.length acap, .string n.text, .slice ka n.kids.length kcap] 34) := ⟨_, rfl⟩
  rw [← hwb] at hbox HX ⊢
  clear hwb
  have k0 := cellOf hbox (i := 0) (v := .int .i64 n.tag) rfl
  have k1 := cellOf hbox (i := 1) (v := .slice aa n.attrs.length acap) rfl
  have k2 := cellOf hbox (i := 2) (v := .string n.text) rfl
  have k3 := cellOf hbox (i := 3) (v := .slice ka n.kids.length kcap) rfl
  have ct := (HAP.out.ext HX.out).cells _ _ htc
  clear hbox htc hpc
  go_region_held3 (fun w' => w'.cell? ⟨tc, 0, none⟩ = some (.pointer (some ⟨tb, 0, none⟩)) ∧ w'.cell? ⟨w.heap.size, 0, none⟩ = some (.int .i64 n.tag) ∧ w'.cell? ⟨w.heap.size, 1, none⟩ = some (.slice aa n.attrs.length acap) ∧ w'.cell? ⟨w.heap.size, 2, none⟩ = some (.string n.text))
    (first | exact ⟨ct, k0, k1, k2⟩ | exact hkeep | go_keep)
    (first
    | (go_at_call 118; refine (anew_any _ HTS.out _).mono ?_; rintro e w' ⟨rfl, hy⟩; replace hy := Ext.undrew hy; have hkeep := (show _ ∧ _ ∧ _ ∧ _ from ⟨hy.cell ct, hy.cell k0, hy.cell k1, hy.cell k2⟩))
    | (go_at_call 120; refine (add_any (HT.out.keep ((HX.out.trans hy).keep HO.out)) (fun b hb => Nat.lt_of_lt_of_le (HO.out b hb) (HX.out.trans hy).size) HW.out.small (HRM.out _ rfl) n.tag (anewB n.text) _ n.attrs (HA.out.cells (HAP.out.ext (HX.out.trans hy)).cells) HAS.out (attrCells_one _)).mono ?_; rintro e w2 ⟨rfl, own2, ptr2, hT2, hS2⟩; have hkeep := (show _ ∧ _ ∧ _ ∧ _ from ⟨hS2.cellOld (HAP.out _ _ HTC.out).2 (hy.cell ct), hS2.cellOld HOB.out (hy.cell k0), hS2.cellOld HOB.out (hy.cell k1), hS2.cellOld HOB.out (hy.cell k2)⟩); have k3' := hS2.cellOld HOB.out (hy.cell k3)))
  replace hS2 := ((HX.out.trans hy).step HO.out).trans hS2
  rw [HI1.out]
  have HS2 := qh hS2
  have HT2 := qh hT2
  clear hkeep hS2 hT2 hy k0 k1 k2 k3 ct
  go_wp2_with fail
  go_loopw [7, 8, 22] (fun _ _ j wr => ∃ k : Nat, k ≤ n.kids.length ∧ j = .int .i64 k ∧ After own w tb (PN.intos i (T.put ⟨n.tag, n.attrs, anewB n.text, [], -1⟩) (n.kids.take k)) wr) (fun _ _ j _ => n.kids.length - (intOf j).toNat)
  case atStart => exact ⟨0, Nat.zero_le _, rfl, own2, ptr2, by simpa [PN.intos] using HT2.out, HS2.out⟩
  case round =>
    obtain ⟨k, hk, rfl, own3, ptr3, hT3, hS3⟩ := hrel
    have HT3 := qh hT3
    have HS3 := qh hS3
    clear hT3 hS3
    by_cases hlt : k < n.kids.length
    · obtain ⟨x, hx⟩ : ∃ x, n.kids[k]? = some x := ⟨n.kids[k], by simp [hlt]⟩
      have hap3 := HAP.out.step HS3.out
      cases ka with
      | none => exact absurd (HKN.out rfl).1 (by omega)
      | some a =>
        obtain ⟨b, off, sp⟩ := a
        obtain ⟨c0', c1', c2', c3', q0, q1, q2, q3, hrd⟩ := HKR.out _ rfl k x hx
        obtain ⟨av', kv', e, ha', hk'⟩ := hrd.open
        obtain ⟨aa', acap', e2, _⟩ := ha'.len_of
        obtain ⟨ka', kcap', e3, _⟩ := hk'
        subst e2 e3
        cases e
        clear ha'
        replace q0 := hap3.cells _ _ q0
        replace q1 := hap3.cells _ _ q1
        replace q2 := hap3.cells _ _ q2
        replace q3 := hap3.cells _ _ q3
        rw [add_later _ _ _ (by decide)] at q1 q2 q3
        obtain ⟨d3, nd3, hw3, hn3, hp3, hl3, hx3⟩ := HRD.out k
        obtain ⟨hc3, hh3⟩ := hx3 x hx
        have hmem : x ∈ n.kids := List.mem_of_getElem? hx
        have hshx : x.short = true := by
          have := HSH.out; rw [PN.short_eq] at this; simp at this
          exact PN.shorts_mem this.2 hmem
        have hokx : x.ok = true := PN.oks_mem (PN.ok_kids HOK.out) hmem
        have y1 := (Ext.refl wr).alloc (.cells #[.int .i64 x.tag, .slice aa' x.attrs.length acap', .string x.text, .slice ka' x.kids.length kcap'] 34)
        have hpc' := (hap3.ext y1).cells _ _ HPC.out
        have hrec := IH.out x hmem hokx hshx _ _ d3 own3 ptr3 (wr.alloc (.cells #[.int .i64 x.tag, .slice aa' x.attrs.length acap', .string x.text, .slice ka' x.kids.length kcap'] 34)) hrd (hap3.ext y1) (HT3.out.keep (y1.keep HS3.out.owned)) (fun b hb => Nat.lt_of_lt_of_le (HS3.out.owned b hb) y1.size) hw3 hc3 hh3
        obtain ⟨dz, m, hm1, hm0, hm2, hP⟩ := into_ok x hokx _ d3 hw3 hc3 hh3
        have HREC := qh hrec
        have HXX := qh hx
        have HY1 := qh y1
        have HW3 := qh hw3
        have HN3 := qh hn3
        have HM1 := qh hm1
        have HM2 := qh hm2
        have HP := qh hP
        have HL3 := qh hl3
        clear hx hrec hrd hmem hshx hokx y1 hw3 hn3 hx3 hc3 hh3 hap3 hm1 hm2 hP hl3 hp3
        go_wp2_with fail
        refine HREC.out.mono ?_
        rintro e w4 ⟨rfl, own4, ptr4, hT4, hS4⟩
        rw [HM1.out]
        replace hS4 := (HS3.out.ext HY1.out).trans hS4
        have hap4 := HAP.out.step hS4
        have ct := hap4.cells _ _ HTC.out
        have him : i ≠ m := fun e => HM2.out nd3 (e ▸ HN3.out)
        have hi4 := HP.out.old i nd3 him HN3.out
        obtain ⟨kd, hk1, hk2⟩ := HP.out.node
        obtain ⟨g4, gcap4, _, _, c3, cg, _⟩ := hT4.at hi4
        have cgm := hT4.nv hk1 c3
        obtain ⟨av5, kv5, bi, oi, _, hki⟩ := hT4.node i nd3 hi4
        obtain ⟨avm, kvm, bm, om, _, _⟩ := hT4.node m kd hk1
        obtain ⟨ka5, kcap5, e5, _, hkm5⟩ := hki.len
        subst e5
        have ci3 := cellOf bi (i := 3) (v := .slice ka5 nd3.kids.length kcap5) rfl
        have hil : (i : Int) < ((PN.into (PN.intos i (T.put ⟨n.tag, n.attrs, anewB n.text, [], -1⟩) (n.kids.take k)) x).nodes.length : Int) := by have := (List.getElem?_eq_some_iff.1 hi4).1; omega
        have hml : (m : Int) < ((PN.into (PN.intos i (T.put ⟨n.tag, n.attrs, anewB n.text, [], -1⟩) (n.kids.take k)) x).nodes.length : Int) := by have := (List.getElem?_eq_some_iff.1 hk1).1; omega
        have hlen5 := HP.out.wf.small.len
        have hnl : nd3.kids.length ≤ 60000 := by
          have := (HP.out.wf.small.len)
          have h1 := HL3.out
          have h2 := HC.out
          have h3 := HW.out.small.cap1
          have h4 := HW.out.small.count0
          omega
        have notc := (hap4 _ _ HTC.out).2
        obtain ⟨hog4, hotb4⟩ := hT4.rowOwn hi4 c3
        obtain ⟨i0, hii, hz0, hz1, hz2⟩ := info_parts infoI
        have npi : ptr4 m ≠ ptr4 i := fun e => by rw [e, oi] at om; simp at om; omega
        have fi3 := freeOf bi 3
        have fm4 := freeOf bm 4
        have cm4 := cellOf bm (i := 4) (v := .int .i64 kd.parent) rfl
        have lpi := cell_lt ci3
        have lpm := cell_lt cm4
        have n1 : ∀ z, own4 z = some (4, i) → z ≠ tc := fun z hz e => by rw [e, notc] at hz; cases hz
        have n2 : ∀ z, own4 z = some (4, i) → z ≠ tb := fun z hz e => by rw [e, hotb4] at hz; cases hz
        have n3 : ∀ z, own4 z = some (4, i) → z ≠ g4 := fun z hz e => by rw [e, hog4] at hz; cases hz
        have n4 : ∀ z, own4 z = some (4, i) → z ≠ ptr4 i := fun z hz e => by rw [e, oi] at hz; cases hz
        have n5 : ∀ z, own4 z = some (4, i) → z ≠ ptr4 m := fun z hz e => by rw [e, om] at hz; cases hz
        have m1 : tc ≠ ptr4 i := fun e => by rw [e, oi] at notc; cases notc
        have m2 : tb ≠ ptr4 i := fun e => by rw [e, oi] at hotb4; cases hotb4
        have m3 : g4 ≠ ptr4 i := fun e => by rw [e, oi] at hog4; cases hog4
        have hpw : ∀ x, x < w.heap.size → own4 x ≠ none → own x ≠ none := fun x hx hn => by rw [← hS4.same x hx]; exact hn
        have Hi := qh hii
        have Hz0 := qh hz0
        have Hz1 := qh hz1
        have Hz2 := qh hz2
        have HT4 := qh hT4
        have HS4 := qh hS4
        have HI4 := qh hi4
        have HK1 := qh hk1
        have HIM := qh him
        have HKI := qh hki
        have HPW := qh hpw
        have N1 := qh n1
        have N2 := qh n2
        have N3 := qh n3
        have N4 := qh n4
        have N5 := qh n5
        have FI3 := qh fi3
        have FM4 := qh fm4
        have CM4 := qh cm4
        have CGM := qh cgm
        have HK2 := qh hk2
        have HW4 := qh HP.out.wf
        generalize hTG : PN.into (PN.intos i (T.put ⟨n.tag, n.attrs, anewB n.text, [], -1⟩) (n.kids.take k)) x = TG at *
        have HTG := qh hTG
        have hi0' : (0 : Int) ≤ (i : Int) := Int.natCast_nonneg _
        have hm0' : (0 : Int) ≤ (m : Int) := Int.natCast_nonneg _
        have npz : ptr4 i ≠ w4.heap.size := Nat.ne_of_lt lpi
        have npz' := Ne.symm npz
        have ct' := fun (p : Addr) (v : Value) (h : w4.cell? p = some v) => ((Ext.refl w4).alloc (.cells #[.int .i64 m] 3)).cells p v h
        have ci3' : (w4.alloc (.cells #[.int .i64 m] 3)).cell? ⟨ptr4 i, 3, none⟩ = some (.slice ka5 nd3.kids.length kcap5) := ct' _ _ ci3
        have c3' := ct' _ _ c3
        have cg' := ct' _ _ cg
        replace ct' := ct' _ _ ct
        unfold maxLen at hkm5
        clear hii hz0 hz1 hz2 hT4 hS4 hi4 hk1 him hki hpw n1 n2 n3 n4 n5 fi3 fm4 cm4 cgm hk2 hTG bi bm notc hog4 hotb4 oi om hap4 HREC HW3 HN3 HM2 HP q0 q1 q2 q3 hpc'
        have xA : Ext w4 (w4.alloc (.cells #[.int .i64 m] 3)).drew := ((Ext.refl w4).alloc _).drew
        obtain ⟨v', wA, row, hrunA, hrA, hgA, hrowA⟩ := run_append_row (P := Tryz.prog) ((w4.alloc (.cells #[.int .i64 m] 3)).drew) 50 50 3 i0 (.int .i64 0) 1 8 Tryz.underlying50 Hi.out Hz0.out Hz1.out Hz2.out rfl (by decide) (p := fun b => own4 b = some (4, i)) (RowP.ext HKI.out xA) ⟨w4.heap.size, 0, none⟩ 1 1 [.int .i64 m] rfl (cell_one_new' (show (w4.alloc (.cells #[.int .i64 m] 3)).drew.cell? ⟨w4.heap.size, 0, none⟩ = some (.int .i64 m) from cellOf (heap_alloc_new w4 _) rfl)) (by simp [Value.oneCell']) (by decide) (by unfold maxLen; omega) (by omega)
        have ctA := grownCell xA hgA ct fun z hz => N1.out z (hrowA z hz)
        have c3A := grownCell xA hgA c3 fun z hz => N2.out z (hrowA z hz)
        have cgA := grownCell xA hgA cg fun z hz => N3.out z (hrowA z hz)
        have ciA := grownCell xA hgA ci3 fun z hz => N4.out z (hrowA z hz)
        have fA := grownFree xA hgA lpi FI3.out fun z hz => N4.out z (hrowA z hz)
        have fM := grownFree xA hgA lpm FM4.out fun z hz => N5.out z (hrowA z hz)
        have cM := grownCell xA hgA CM4.out fun z hz => N5.out z (hrowA z hz)
        have cG := grownCell xA hgA CGM.out fun z hz => N3.out z (hrowA z hz)
        have HJ := qh (join_plain (HS4.out.ext xA) (HT4.out.keep (xA.keep HS4.out.owned)) HI4.out HK1.out HIM.out HPW.out hrA hgA hrowA)
        obtain ⟨a7, cap7, e7, _⟩ := hrA.rd.len_of
        subst e7
        have HRA := qh hrunA
        clear hrA hgA hrowA hrunA
        go_upto_region 6 with fail
        go_cut [] (fun wx => wx = wA.setCell ⟨ptr4 i, 3, none⟩ (.slice a7 (nd3.kids.length + 1) cap7))
        case first =>
         as_aux_lemma =>
          refine wp_region_E (S := fun w' => w'.cell? ⟨tc, 0, none⟩ = some (.pointer (some ⟨tb, 0, none⟩)) ∧ w'.cell? ⟨tb, 3, none⟩ = some (.slice (some ⟨g4, 0, none⟩) TG.nodes.length gcap4) ∧ w'.cell? ⟨g4, i, none⟩ = some (.pointer (some ⟨ptr4 i, 0, none⟩)) ∧ w'.cell? ⟨ptr4 i, 3, none⟩ = some (.slice ka5 nd3.kids.length kcap5)) (n := 22) (by kernel_rfl) ?_
          have hS : w4.drew.cell? ⟨tc, 0, none⟩ = some (.pointer (some ⟨tb, 0, none⟩)) ∧ w4.drew.cell? ⟨tb, 3, none⟩ = some (.slice (some ⟨g4, 0, none⟩) TG.nodes.length gcap4) ∧ w4.drew.cell? ⟨g4, i, none⟩ = some (.pointer (some ⟨ptr4 i, 0, none⟩)) ∧ w4.drew.cell? ⟨ptr4 i, 3, none⟩ = some (.slice ka5 nd3.kids.length kcap5) := ⟨ct, c3, cg, ci3⟩
          show wpE _ _ _ _ _ 22 23 (Array.replicate 23 false) _ _
          refine wpE_tk 0 29 (.pointer (some ⟨tb, 0, none⟩)) rfl (.inl ⟨by rfl, fun w' hSw => ?_⟩) hS ?_
          · (obtain ⟨s1, s2, s3, s4⟩ := hSw; clear hS; go_simp)
          try simp only [Act.put, zA, zB, zC]
          refine wpE_tk 1 30 (.pointer (some ⟨tb, 0, none⟩)) rfl (.inl ⟨by rfl, fun w' hSw => ?_⟩) hS ?_
          · (obtain ⟨s1, s2, s3, s4⟩ := hSw; clear hS; go_simp)
          try simp only [Act.put, zA, zB, zC]
          refine wpE_tk 2 31 (.pointer (some ⟨tb, 3, none⟩)) rfl (.inl ⟨by rfl, fun w' hSw => ?_⟩) hS ?_
          · (obtain ⟨s1, s2, s3, s4⟩ := hSw; clear hS; go_simp)
          try simp only [Act.put, zA, zB, zC]
          refine wpE_tk 3 32 (.slice (some ⟨g4, 0, none⟩) TG.nodes.length gcap4) rfl (.inl ⟨by rfl, fun w' hSw => ?_⟩) hS ?_
          · (obtain ⟨s1, s2, s3, s4⟩ := hSw; clear hS; go_simp)
          try simp only [Act.put, zA, zB, zC]
          refine wpE_tk 4 33 (.int .i64 i) rfl (.inl ⟨by rfl, fun w' hSw => ?_⟩) hS ?_
          · (obtain ⟨s1, s2, s3, s4⟩ := hSw; clear hS; go_simp)
          try simp only [Act.put, zA, zB, zC]
          refine wpE_tk 5 34 (.pointer (some ⟨g4, i, none⟩)) rfl (.inl ⟨by rfl, fun w' hSw => ?_⟩) hS ?_
          · (obtain ⟨s1, s2, s3, s4⟩ := hSw; clear hS; go_simp)
          try simp only [Act.put, zA, zB, zC]
          refine wpE_tk 6 35 (.pointer (some ⟨ptr4 i, 0, none⟩)) rfl (.inl ⟨by rfl, fun w' hSw => ?_⟩) hS ?_
          · (obtain ⟨s1, s2, s3, s4⟩ := hSw; clear hS; go_simp)
          try simp only [Act.put, zA, zB, zC]
          refine wpE_tk 7 36 (.pointer (some ⟨tb, 0, none⟩)) rfl (.inl ⟨by rfl, fun w' hSw => ?_⟩) hS ?_
          · (obtain ⟨s1, s2, s3, s4⟩ := hSw; clear hS; go_simp)
          try simp only [Act.put, zA, zB, zC]
          refine wpE_tk 8 37 (.pointer (some ⟨tb, 0, none⟩)) rfl (.inl ⟨by rfl, fun w' hSw => ?_⟩) hS ?_
          · (obtain ⟨s1, s2, s3, s4⟩ := hSw; clear hS; go_simp)
          try simp only [Act.put, zA, zB, zC]
          refine wpE_tk 9 38 (.pointer (some ⟨tb, 3, none⟩)) rfl (.inl ⟨by rfl, fun w' hSw => ?_⟩) hS ?_
          · (obtain ⟨s1, s2, s3, s4⟩ := hSw; clear hS; go_simp)
          try simp only [Act.put, zA, zB, zC]
          refine wpE_tk 10 39 (.slice (some ⟨g4, 0, none⟩) TG.nodes.length gcap4) rfl (.inl ⟨by rfl, fun w' hSw => ?_⟩) hS ?_
          · (obtain ⟨s1, s2, s3, s4⟩ := hSw; clear hS; go_simp)
          try simp only [Act.put, zA, zB, zC]
          refine wpE_tk 11 40 (.int .i64 i) rfl (.inl ⟨by rfl, fun w' hSw => ?_⟩) hS ?_
          · (obtain ⟨s1, s2, s3, s4⟩ := hSw; clear hS; go_simp)
          try simp only [Act.put, zA, zB, zC]
          refine wpE_tk 12 41 (.pointer (some ⟨g4, i, none⟩)) rfl (.inl ⟨by rfl, fun w' hSw => ?_⟩) hS ?_
          · (obtain ⟨s1, s2, s3, s4⟩ := hSw; clear hS; go_simp)
          try simp only [Act.put, zA, zB, zC]
          refine wpE_tk 13 42 (.pointer (some ⟨ptr4 i, 0, none⟩)) rfl (.inl ⟨by rfl, fun w' hSw => ?_⟩) hS ?_
          · (obtain ⟨s1, s2, s3, s4⟩ := hSw; clear hS; go_simp)
          try simp only [Act.put, zA, zB, zC]
          refine wpE_tk 14 43 (.pointer (some ⟨ptr4 i, 0, none⟩)) rfl (.inl ⟨by rfl, fun w' hSw => ?_⟩) hS ?_
          · (obtain ⟨s1, s2, s3, s4⟩ := hSw; clear hS; go_simp)
          try simp only [Act.put, zA, zB, zC]
          refine wpE_tk 15 44 (.pointer (some ⟨ptr4 i, 3, none⟩)) rfl (.inl ⟨by rfl, fun w' hSw => ?_⟩) hS ?_
          · (obtain ⟨s1, s2, s3, s4⟩ := hSw; clear hS; go_simp)
          try simp only [Act.put, zA, zB, zC]
          refine wpE_tk 16 45 (.slice ka5 nd3.kids.length kcap5) rfl (.inl ⟨by rfl, fun w' hSw => ?_⟩) hS ?_
          · (obtain ⟨s1, s2, s3, s4⟩ := hSw; clear hS; go_simp)
          try simp only [Act.put, zA, zB, zC]
          refine wpE_tk 17 46 (.int .i64 m) rfl (.inl ⟨by rfl, fun w' hSw => ?_⟩) hS ?_
          · (obtain ⟨s1, s2, s3, s4⟩ := hSw; clear hS; go_simp)
          try simp only [Act.put, zA, zB, zC]
          refine wpE_on 18 (some 47) rfl (fun K hK => ?_)
          go_simp
          refine hK.out _ _ (.inr ⟨ct', c3', cg', ci3'⟩) ?_
          clear hK K
          try simp only [Act.put, zA, zB, zC]
          refine wpE_on 19 (some 48) rfl (fun K hK => ?_)
          refine step_append_run (by rfl) _ _ 50 (by rfl) (.slice ka5 nd3.kids.length kcap5) (.slice (some ⟨w4.heap.size, 0, none⟩) 1 1) (by rfl) (by rfl) (.slice a7 (nd3.kids.length + 1) cap7) wA HRA.out ?_
          refine hK.out _ _ (.inr ⟨ctA, c3A, cgA, ciA⟩) ?_
          clear hK K
          try simp only [Act.put, zA, zB, zC]
          refine wpE_on 20 (some 49) rfl (fun K hK => ?_)
          go_simp
          refine hK.out _ _ (.inr ⟨ctA, c3A, cgA, ciA⟩) ?_
          clear hK K
          try simp only [Act.put, zA, zB, zC]
          refine wpE_on 21 (some 50) rfl (fun K hK => ?_)
          go_simp
          refine hK.out _ _ (.inr ⟨ctA, c3A, cgA, ciA⟩) ?_
          clear hK K
          try simp only [Act.put, zA, zB, zC]
          refine wpE_on 22 (none) rfl (fun K hK => ?_)
          go_simp
          refine hK.out _ _ (.inl rfl) ?_
          clear hK K
          refine wpE_done (by kernel_rfl) ?_
          go_wp2_with fail
          go_meet
          rfl
        case rest =>
          subst hcut
          have m1' := Ne.symm m1
          have m2' := Ne.symm m2
          have m3' := Ne.symm m3
          have npi' := Ne.symm npi
          have ctB : (wA.setCell ⟨ptr4 i, 3, none⟩ (.slice a7 (nd3.kids.length + 1) cap7)).cell? ⟨tc, 0, none⟩ = some (.pointer (some ⟨tb, 0, none⟩)) := (World.cell?_of_block (a := ⟨tc, 0, none⟩) (heap_setCell_other _ m1)).trans ctA
          have c3B : (wA.setCell ⟨ptr4 i, 3, none⟩ (.slice a7 (nd3.kids.length + 1) cap7)).cell? ⟨tb, 3, none⟩ = some (.slice (some ⟨g4, 0, none⟩) TG.nodes.length gcap4) := (World.cell?_of_block (a := ⟨tb, 3, none⟩) (heap_setCell_other _ m2)).trans c3A
          have cgB : (wA.setCell ⟨ptr4 i, 3, none⟩ (.slice a7 (nd3.kids.length + 1) cap7)).cell? ⟨g4, m, none⟩ = some (.pointer (some ⟨ptr4 m, 0, none⟩)) := (World.cell?_of_block (a := ⟨g4, m, none⟩) (heap_setCell_other _ m3)).trans cG
          have cmB : (wA.setCell ⟨ptr4 i, 3, none⟩ (.slice a7 (nd3.kids.length + 1) cap7)).cell? ⟨ptr4 m, 4, none⟩ = some (.int .i64 kd.parent) := (World.cell?_of_block (a := ⟨ptr4 m, 4, none⟩) (heap_setCell_other _ npi)).trans cM
          have fmB : (wA.setCell ⟨ptr4 i, 3, none⟩ (.slice a7 (nd3.kids.length + 1) cap7)).frozen? ⟨ptr4 m, 4, none⟩ = false := (World.frozen?_of_block (a := ⟨ptr4 m, 4, none⟩) (heap_setCell_other _ npi)).trans fM
          obtain ⟨wB, hwB⟩ : ∃ wB : World, wB = wA.setCell ⟨ptr4 i, 3, none⟩ (.slice a7 (nd3.kids.length + 1) cap7) := ⟨_, rfl⟩
          rw [← hwB] at ctB c3B cgB cmB fmB HJ ⊢
          clear hwB ctA c3A cgA ciA fA fM cM cG ct c3 cg ci3 ct' c3' cg' ci3' HRA
          go_wp2_with fail
          go_roundw
          case rel =>
            obtain ⟨own1, _, _, j3, j4⟩ := HJ.out
            refine ⟨k + 1, by omega, by go_num, own1, ptr4, ?_, j3⟩
            rw [intos_take _ _ _ _ _ HXX.out, HTG.out, HM1.out]
            have e : TG.join i m = TG.attach i m nd3 kd := by
              unfold Tr.join
              rw [Int.toNat_natCast, Int.toNat_natCast, look_of HI4.out, look_of HK1.out]
            rw [e]; exact j4
          case measure => simp [intOf]; omega
    · go_wp2_with fail
      go_ret
      refine ⟨by rw [HI1.out]; rfl, own3, ptr3, ?_, HS3.out⟩
      have h := HT3.out
      rw [List.take_of_length_le (by omega)] at h
      rw [PN.into_eq, HI1.out]
      exact h
theorem nodup_le {l m : List Int} (hn : l.Nodup) (h : ∀ x ∈ l, x ∈ m) : l.length ≤ m.length := by
  induction l generalizing m with
  | nil => simp
  | cons a r ih =>
    have ha := h a (by simp)
    have hr := List.nodup_cons.1 hn
    have := ih (m := m.erase a) hr.2 fun x hx => (List.mem_erase_of_ne (fun e => hr.1 (by rw [← e]; exact hx))).2 (h x (by simp [hx]))
    rw [List.length_erase_of_mem ha] at this
    have := List.length_pos_of_mem ha
    simp only [List.length_cons]; omega
theorem WF.kids_len {T : Tr} {d : Nat → Nat} (hw : WF T d) {i : Nat} {nd : Nd} (h : T.nodes[i]? = some (some nd)) : nd.kids.length ≤ 2000 := by
  have h1 := nodup_le (m := (List.range T.nodes.length).map Int.ofNat) (hw.kids i nd h).1 fun x hx => by
    obtain ⟨j, kd, rfl, hj, _⟩ := (hw.kids i nd h).2 x hx
    exact List.mem_map.2 ⟨j, List.mem_range.2 (List.getElem?_eq_some_iff.1 hj).1, rfl⟩
  simp at h1
  have := hw.small.len
  omega
def hide (own : Ow) (w : World) : World := { w with heap := w.heap.mapIdx fun b x => if (own b).isNone then x else .cells #[] 0 (0, 0) }
theorem hide_cell {own : Ow} {w : World} {p : Addr} {v : Value} (h : w.cell? p = some v) (hn : own p.block = none) : (hide own w).cell? p = some v := by
  rw [← h]
  refine World.cell?_of_block ?_
  show (w.heap.mapIdx _)[p.block]? = _
  rw [Array.getElem?_mapIdx, hn]
  cases w.heap[p.block]? <;> rfl
theorem hide_apart (own : Ow) (w : World) : Apart (hide own w) own w := by
  intro p v h
  have hn : own p.block = none := by
    cases ho : own p.block with
    | none => rfl
    | some x =>
      exfalso
      have hb : (hide own w).heap[p.block]? = (w.heap[p.block]?).map fun _ => (.cells #[] 0 (0, 0) : Obj) := by
        show (w.heap.mapIdx _)[p.block]? = _
        rw [Array.getElem?_mapIdx, ho]; rfl
      cases hw : w.heap[p.block]? with
      | none => rw [hw] at hb; simp [World.cell?, hb] at h
      | some o => rw [hw] at hb; simp [World.cell?, hb] at h
  refine ⟨?_, hn⟩
  rw [← h]
  refine (World.cell?_of_block ?_).symm
  show (w.heap.mapIdx _)[p.block]? = _
  rw [Array.getElem?_mapIdx, hn]
  cases w.heap[p.block]? <;> rfl
theorem Apart.hide {g : World} {own : Ow} {w : World} (h : Apart g own w) : Cells g (hide own w) := fun p v hp => hide_cell (h p v hp).1 (h p v hp).2
theorem Put.apart {T T' : Tr} {d d' : Nat → Nat} {i : Nat} {n : PN} {sz hi : Nat} (hP : Put T T' d' i n sz hi) (hw : WF T d) (hi2 : ∀ x : Nd, T.nodes[i]? ≠ some (some x)) :
    ∀ (j : Nat) (jd : Nd), T.nodes[j]? = some (some jd) → T'.within j i = false ∧ d' j = d j := by
  refine hw.induct _ (fun j jd h hp hd => ?_) (fun j jd p pd h hp hpd hd ih => ?_)
  · have hji : j ≠ i := fun e => hi2 jd (e ▸ h)
    have h' := hP.old j jd hji h
    refine ⟨by rw [hP.wf.within_root h' hp]; simp; omega, ?_⟩
    rcases hP.wf.up j jd h' with ⟨h3, h4⟩ | ⟨q, qd, h3, h4, h5, h6⟩
    · omega
    · omega
  · have hji : j ≠ i := fun e => hi2 jd (e ▸ h)
    have h' := hP.old j jd hji h
    refine ⟨by rw [hP.wf.within_step h', if_neg (by omega), hp]; exact ih.1, ?_⟩
    rcases hP.wf.up j jd h' with ⟨h3, h4⟩ | ⟨q, qd, h3, h4, h5, h6⟩
    · omega
    · obtain rfl : q = p := by omega
      omega
def Tr.grafted (T : Tr) (p at' : Nat) (pd : Nd) (n : PN) : Tr := (PN.into T n).link p at' T.newId.toNat pd ((PN.into T n).look T.newId)
theorem Graft_ok {g w : World} {own : Ow} {ptr : Nat → Nat} {tb : Nat} {T : Tr} (hT : TreeAt w own ptr tb T) (hO : Owned own w) {d : Nat → Nat} (hw : WF T d) {p at' : Nat} {pd : Nd} (hp : T.nodes[p]? = some (some pd)) (ht : (pd.tag == 0) = false) (hat : at' ≤ pd.kids.length)
    {n : PN} {nv : Value} (hr : RdN g n nv) (hap : Apart g own w) (hsh : n.short = true) (hsz : n.size ≤ 90000) (hok : n.ok = true) (hdp : (d p : Int) + 1 + n.high ≤ T.deep) (hf : (n.size : Int) ≤ T.cap - T.count) :
    Calls Tryz.prog 141 #[.pointer (some ⟨tb, 0, none⟩), .int .i64 p, .int .i64 at', nv] w (TwoAfter own w tb T.newId (T.grafted p at' pd n)) := by
  obtain ⟨av, kv, rfl, ha, hk⟩ := hr.open
  obtain ⟨aa, acap, rfl, hac⟩ := ha.len_of
  obtain ⟨ka', kcap', rfl, hkc, hkm, hkn, hkr⟩ := hk
  have x1 := ((Ext.refl w).alloc (.cells #[.pointer (some ⟨tb, 0, none⟩)] 46)).alloc (.cells #[.int .i64 n.tag, .slice aa n.attrs.length acap, .string n.text, .slice ka' n.kids.length kcap'] 34)
  have hT1 := hT.keep (x1.keep hO)
  obtain ⟨avp, kvp, bp, op, _, hkp⟩ := hT1.node _ _ hp
  obtain ⟨ka, kcap, rfl, kc1, kc2⟩ := hkp.len
  have cp0 := cellOf bp (i := 0) (v := .int .i64 pd.tag) rfl
  have cp3 := cellOf bp (i := 3) (v := .slice ka pd.kids.length kcap) rfl
  have hms := measure_any (hr.cells (hap.ext x1).cells) hsh hsz
  have HMS := qh hms
  have HP := qh (Tr.get_of hp)
  have HNP := qh hp
  have HT := qh hT
  have HT1 := qh hT1
  have HO := qh hO
  have HW := qh hw
  have HX := qh x1
  have HR := qh hr
  have HAP := qh hap
  have hszb : (n.size : Int) ≤ 90000 := by omega
  have hpb : (p : Int) ≤ 2000 := by have := (List.getElem?_eq_some_iff.1 hp).1; have := hw.small.len; omega
  have hd1 := hw.deep p pd hp
  have hd2 := hw.small.deep1
  have hkl := hw.kids_len hp
  have hhn : (n.high : Int) ≤ 90000 := by have := high_lt n; omega
  have heb : ((PN.look 0 ⟨0, 0, 0⟩ n).e != 0) = false := by
    have := ((look_spec n 0 ⟨0, 0, 0⟩).2.2).2 ⟨rfl, hok⟩
    simp [this]
  obtain ⟨dz, m, hm1, hm0, hm2, hPut⟩ := into_ok n hok T d hw (by omega) (by omega)
  obtain ⟨kd, hk1, hk2⟩ := hPut.node
  have hpm : p ≠ m := fun e => hm2 pd (e ▸ hp)
  have hp2 := hPut.old p pd hpm hp
  obtain ⟨hap1, hap2⟩ := hPut.apart hw hm2 p pd hp
  have hgr : T.grafted p at' pd n = (PN.into T n).link p at' m pd kd := by
    unfold Tr.grafted; rw [hm1, Int.toNat_natCast, look_of hk1]
  have hdz : (dz p : Int) + 1 + (PN.into T n).hgt 50 m ≤ (PN.into T n).deep := by
    have h1 : (PN.into T n).hgt 50 m = n.high := hPut.high
    rw [h1, hPut.deep, hap2]; exact hdp
  have HF := qh hf
  have HM1 := qh hm1
  have HM0 := qh hm0
  have HPUT := qh hPut
  have HK1 := qh hk1
  have HK2 := qh hk2
  have HP2 := qh hp2
  have HA1 := qh hap1
  have HGR := qh hgr
  have HDZ := qh hdz
  have HOK := qh hok
  have HSH := qh hsh
  have HDP := qh hdp
  clear hf hm1 hm0 hPut hk1 hk2 hp2 hap1 hgr hdz hm2 hap2
  clear hr hap hT hO hw hp x1 hT1 bp hkp op hms hkr hkn ha kc2
  go_enter Tryz.func141, Tryz.ntmps141
  go_wp2_with fail
  refine (get_some HT1.out HP.out).mono ?_
  rintro e w' ⟨rfl, rfl⟩
  go_wp2_with fail
  refine HMS.out.mono ?_
  rintro e w2 ⟨rfl, hx2⟩
  have c0 := hx2.cell (b := w.heap.size) (o := 0) (v := .pointer (some ⟨tb, 0, none⟩)) (by simp [go_sem])
  have hT2 := HT.out.keep ((HX.out.trans hx2).keep HO.out)
  have hO2 : Owned own w2 := fun b hb => Nat.lt_of_lt_of_le (HO.out b hb) (HX.out.trans hx2).size
  obtain ⟨nv2, hb2, hot, _⟩ := hT2.head
  have ct1 := cellOf hb2 (i := 1) (v := .int .i64 T.deep) rfl
  have c0' := fun u : ExtOf w2 => u.ext.cell c0
  have ct1' := fun u : ExtOf w2 => u.ext.cell ct1
  have HT2 := qh hT2
  have HO2 := qh hO2
  have HX2 := qh hx2
  have hq1 : IntKind.i64.wrap ((d p : Int) + 1) = (d p : Int) + 1 := IntWalk.i64_in _ (by omega)
  have hq2 : IntKind.i64.wrap ((d p : Int) + 1 + (n.high : Int)) = (d p : Int) + 1 + (n.high : Int) := IntWalk.i64_in _ (by omega)
  clear hT2 hO2 hx2 hb2 hot
  go_wp2_with fail
  refine wp_region_ext (by kernel_rfl) (by kernel_rfl) ?_
  repeat (go_big_quiet_step ((go_at_call 65; exact inExt (RSame.val (Depth_some (HT2.out.keep (ExtOf.ext _ |>.keep HO2.out)) HW.out HNP.out)))))
  refine wpQuiet_nil ?_
  rintro _ ⟨u, rfl⟩
  obtain ⟨wu, xu⟩ := u
  show Exit.then _ _ Exit.normal _ wu
  clear c0' ct1' hq1 hq2
  replace c0 := xu.cell c0
  have c7 : wu.cell? ⟨w.heap.size + 1, 0, none⟩ = some (.int .i64 n.tag) ∧ wu.cell? ⟨w.heap.size + 1, 1, none⟩ = some (.slice aa n.attrs.length acap) ∧ wu.cell? ⟨w.heap.size + 1, 2, none⟩ = some (.string n.text) ∧ wu.cell? ⟨w.heap.size + 1, 3, none⟩ = some (.slice ka' n.kids.length kcap') :=
    ⟨(HX2.out.trans xu).cell (by simp [go_sem]), (HX2.out.trans xu).cell (by simp [go_sem]), (HX2.out.trans xu).cell (by simp [go_sem]), (HX2.out.trans xu).cell (by simp [go_sem])⟩
  have XU := qh xu
  clear xu
  go_wp2_with fail
  refine (room_yes (HT2.out.keep (XU.out.keep HO2.out)) HW.out.small n.size (by omega) HF.out).mono ?_
  rintro e w5 ⟨rfl, hx5⟩
  have x25 := XU.out.trans hx5
  have x05 := (HX.out.trans HX2.out).trans x25
  have y6 := (Ext.refl w5).alloc (.cells #[putF w.heap.size w5.heap.size] 201)
  have hT6 := HT.out.keep ((x05.trans y6).keep HO.out)
  have hO6 : Owned own (w5.alloc (.cells #[putF w.heap.size w5.heap.size] 201)) := fun b hb => Nat.lt_of_lt_of_le (HO.out b hb) (x05.trans y6).size
  have fresh : ∀ b, w.heap.size ≤ b → own b = none := fun b hb => by
    cases ho : own b with
    | none => rfl
    | some x => have := HO.out b (by simp [ho]); omega
  have c0w := (hx5.trans y6).cell c0
  have hs5 := x05.size
  have hpcell : (w5.alloc (.cells #[putF w.heap.size w5.heap.size] 201)).cell? ⟨w5.heap.size, 0, none⟩ = some (putF w.heap.size w5.heap.size) := cellOf (heap_alloc_new w5 _) rfl
  have hput := put_any (hide_cell (own := own) c0w (fresh _ (Nat.le_refl _))) (hide_cell (own := own) hpcell (fresh _ hs5)) n HOK.out HSH.out _ T d own ptr _ (HR.out.cells (HAP.out.ext (x05.trans y6)).hide) (hide_apart own _) hT6 hO6 HW.out (by have := HF.out; omega) (by have := HDP.out; omega)
  have d0 := c0w
  have d1 := (hx5.trans y6).cell c7.1
  have d2 := (hx5.trans y6).cell c7.2.1
  have d3 := (hx5.trans y6).cell c7.2.2.1
  have d4 := (hx5.trans y6).cell c7.2.2.2
  have HPT := qh hput
  have X6 := qh (x05.trans y6)
  have FR := qh fresh
  clear hput hT6 hO6 fresh c0w hpcell x05 y6 c0 c7 hx5 x25
  go_wp2_with fail
  refine HPT.out.mono ?_
  rintro e w7 ⟨rfl, own7, ptr7, hT7, hS7⟩
  rw [HM1.out]
  have e0 := hS7.cellOld (FR.out _ (Nat.le_refl _)) d0
  have hS7' := (X6.out.step HO.out).trans hS7
  have hins := Insert_ok (at' := at') hT7 hS7.owned HPUT.out.wf HP2.out HK1.out ht HM0.out HK2.out hat (by omega) HA1.out HDZ.out (insertsAt_any _ _)
  have HINS := qh hins
  have HS7 := qh hS7'
  clear hins hT7 hS7 hS7' d0 d1 d2 d3 d4
  go_wp2_with fail
  refine HINS.out.mono ?_
  rintro e w8 ⟨rfl, own8, ptr8, hT8, hS8⟩
  go_wp2_with fail
  go_ret2
  refine ⟨by rw [HM1.out]; rfl, own8, ptr8, ?_, HS7.out.trans hS8⟩
  rw [HGR.out]; exact hT8
end Go.Proofs.YtfibikkcfmohjaaGreat
namespace Go.Proofs.YtfibikkcfmohjaaGreat
open Go Go.RowKit Go.BigFrame Go.ChangeShapes Go.WideShapes Go.Deep
end Go.Proofs.YtfibikkcfmohjaaGreat
namespace Go.Proofs.YtfibikkcfmohjaaGreat
open Go Go.RowKit Go.BigFrame
def NdOk (nd : Nd) : Prop := nd.attrs.length ≤ 60000 ∧ nd.text.size ≤ 8192
def AttrsOk (T : Tr) : Prop := ∀ (i : Nat) (nd : Nd), T.nodes[i]? = some (some nd) → NdOk nd
def GoodT (T : Tr) : Prop := (∃ d, WF T d) ∧ AttrsOk T
theorem set_get {l : List (Option Nd)} {i : Nat} {x : Option Nd} {j : Nat} {nd : Nd} (h : (l.set i x)[j]? = some (some nd)) : x = some nd ∨ l[j]? = some (some nd) := by
  rw [List.getElem?_set] at h
  split at h
  · split at h
    · injection h with h; exact .inl h
    · cases h
  · exact .inr h
theorem AttrsOk.put {T : Tr} (h : AttrsOk T) (nd : Nd) (hn : NdOk nd) : AttrsOk (T.put nd) := by
  intro j x hj
  obtain ⟨n, _, h2, _, _, h5, _⟩ := T.put_at nd
  by_cases e : j = n
  · subst e
    obtain rfl := some_inj2 h2 hj
    exact hn
  · exact h j x (h5 j x e hj)
theorem AttrsOk.set2 {T : Tr} (h : AttrsOk T) {p k : Nat} {pd kd : Nd} (h1 : NdOk pd) (h2 : NdOk kd) : AttrsOk (T.set2 p k pd kd) := by
  intro j x hj
  rcases set_get hj with e | hj
  · injection e with e; subst e; exact h2
  · rcases set_get hj with e | hj
    · injection e with e; subst e; exact h1
    · exact h j x hj
theorem AttrsOk.look {T : Tr} (h : AttrsOk T) (i : Int) : NdOk (T.look i) := by
  unfold Tr.look
  cases hg : T.get? i with
  | none => simp [NdOk]
  | some nd => exact h _ nd (Tr.get_lt hg).2.2
theorem AttrsOk.join {T : Tr} (h : AttrsOk T) (p k : Int) : AttrsOk (T.join p k) := h.set2 (h.look p) (h.look k)
theorem intos_attrs (id : Int) : ∀ (l : List PN), (∀ k ∈ l, ∀ T, AttrsOk T → AttrsOk (PN.into T k)) → ∀ T, AttrsOk T → AttrsOk (PN.intos id T l) := by
  intro l
  induction l with
  | nil => intro _ T h; exact h
  | cons k r ih => intro hk T h; exact ih (fun x hx => hk x (by simp [hx])) _ ((hk k (by simp) T h).join _ _)
theorem into_attrs : ∀ n : PN, n.ok = true → n.short = true → ∀ T, AttrsOk T → AttrsOk (PN.into T n) := by
  refine PN.induct _ fun n ih ho hs T h => ?_
  rw [PN.short_eq] at hs
  simp at hs
  have ho' := ho
  rw [PN.ok_eq] at ho'
  simp at ho'
  rw [PN.into_eq]
  exact intos_attrs _ _ (fun k hk => ih k hk (PN.oks_mem (PN.ok_kids ho) hk) (PN.shorts_mem hs.2 hk)) _ (h.put _ ⟨hs.1.2, ho'.1.2⟩)
theorem AttrsOk.rid {T : Tr} (h : AttrsOk T) (q : Nat → Bool) : AttrsOk (T.rid q) := fun i nd hi => h i nd (Tr.rid_some.1 hi).2
theorem AttrsOk.setAt {T : Tr} (h : AttrsOk T) {i : Nat} {nd : Nd} (hn : NdOk nd) : AttrsOk (T.setAt i nd) := fun j x hj => by
  rcases set_get hj with e | hj
  · injection e with e; subst e; exact hn
  · exact h j x hj
section
variable {w : World} {own : Ow} {ptr : Nat → Nat} {tb : Nat} {T : Tr}
theorem nat_of {id : Int} {nd : Nd} (h : T.get? id = some nd) : ∃ i : Nat, id = (i : Int) ∧ T.nodes[i]? = some (some nd) := by
  obtain ⟨h0, _, h2⟩ := Tr.get_lt h
  exact ⟨id.toNat, by omega, h2⟩
end
def d3 (i : Nat) : Nat := if i = 1 then 1 else 0
theorem emptyRow (w : World) : RowRd w 2 (.slice none 0 0) ([] : List (ByteArray × ByteArray)).length (attrCells []) := ⟨rfl, none, 0, rfl, Nat.le_refl _, fun _ => ⟨rfl, rfl⟩, fun a h => by cases h⟩
theorem set_same {α : Type} {l : List α} {i : Nat} {x : α} (h : l[i]? = some x) : l.set i x = l := by
  obtain ⟨hlt, rfl⟩ := List.getElem?_eq_some_iff.1 h
  exact List.set_getElem_self hlt
theorem Tr.set2_set2 (T : Tr) {p k : Nat} (hpk : p ≠ k) (pd kd pd' kd' : Nd) : (T.set2 p k pd' kd').set2 p k pd kd = T.set2 p k pd kd := by
  unfold Tr.set2
  simp only [Tr.mk.injEq, true_and]
  rw [List.set_comm _ _ (Ne.symm hpk), List.set_set, List.set_set]
theorem Tr.set2_self {T : Tr} {p k : Nat} (hpk : p ≠ k) {pd kd : Nd} (hp : T.nodes[p]? = some (some pd)) (hk : T.nodes[k]? = some (some kd)) : T.set2 p k pd kd = T := by
  show { T with nodes := (T.nodes.set p (some pd)).set k (some kd) } = T
  rw [set_same hp, set_same hk]
theorem erase_mid {l : List Int} {x : Int} (hx : x ∉ l) (i : Nat) : (l.take i ++ [x] ++ l.drop i).erase x = l := by
  rw [List.append_assoc, List.erase_append_right _ (fun h => hx (List.mem_of_mem_take h))]
  simp
theorem mid_erase {l : List Int} (hn : l.Nodup) {x : Int} (hx : x ∈ l) : (l.erase x).take (l.idxOf x) ++ [x] ++ (l.erase x).drop (l.idxOf x) = l := by
  have hlt : l.idxOf x < l.length := List.idxOf_lt_length_of_mem hx
  rw [List.erase_eq_eraseIdx_of_idxOf rfl, List.eraseIdx_eq_take_drop_succ]
  generalize hi : l.idxOf x = i at *
  have hx : l[i] = x := by subst hi; exact List.getElem_idxOf hlt
  have ht : (l.take i).length = i := by rw [List.length_take]; omega
  rw [List.take_append_of_le_length (by omega), List.take_of_length_le (by omega), List.drop_append_of_le_length (by omega), List.drop_of_length_le (by omega), List.nil_append, ← hx, List.append_assoc]
  simp
theorem Tr.unlink_link {T : Tr} {p k at' : Nat} {pd kd : Nd} (hp : T.nodes[p]? = some (some pd)) (hk : T.nodes[k]? = some (some kd)) (hpk : p ≠ k) (hpar : kd.parent = -1) (hno : (k : Int) ∉ pd.kids) :
    (T.link p at' k pd kd).unlink p k { pd with kids := pd.kids.take at' ++ [(k : Int)] ++ pd.kids.drop at' } { kd with parent := p } = T := by
  rw [Tr.link_eq]
  unfold Tr.unlink
  rw [Tr.set2_set2 _ hpk]
  have e1 : ({ pd with kids := (pd.kids.take at' ++ [(k : Int)] ++ pd.kids.drop at').erase (k : Int) } : Nd) = pd := by rw [erase_mid hno]
  have e2 : ({ kd with parent := -1 } : Nd) = kd := by rw [← hpar]
  show T.set2 p k { pd with kids := (pd.kids.take at' ++ [(k : Int)] ++ pd.kids.drop at').erase (k : Int) } { kd with parent := -1 } = T
  rw [e1, e2]
  exact Tr.set2_self hpk hp hk
theorem Tr.link_unlink {T : Tr} {p k : Nat} {pd kd : Nd} (hp : T.nodes[p]? = some (some pd)) (hk : T.nodes[k]? = some (some kd)) (hpk : p ≠ k) (hpar : kd.parent = (p : Int)) (hn : pd.kids.Nodup) (hin : (k : Int) ∈ pd.kids) :
    (T.unlink p k pd kd).link p (pd.kids.idxOf (k : Int)) k { pd with kids := pd.kids.erase (k : Int) } { kd with parent := -1 } = T := by
  rw [Tr.link_eq]
  unfold Tr.unlink
  rw [Tr.set2_set2 _ hpk]
  have e1 : ({ pd with kids := (pd.kids.erase (k : Int)).take (pd.kids.idxOf (k : Int)) ++ [(k : Int)] ++ (pd.kids.erase (k : Int)).drop (pd.kids.idxOf (k : Int)) } : Nd) = pd := by rw [mid_erase hn hin]
  have e2 : ({ kd with parent := (p : Int) } : Nd) = kd := by rw [← hpar]
  show T.set2 p k { pd with kids := (pd.kids.erase (k : Int)).take (pd.kids.idxOf (k : Int)) ++ [(k : Int)] ++ (pd.kids.erase (k : Int)).drop (pd.kids.idxOf (k : Int)) } { kd with parent := (p : Int) } = T
  rw [e1, e2]
  exact Tr.set2_self hpk hp hk
theorem WF.plain_set2 {T : Tr} {d : Nat → Nat} (hw : WF T d) {p k : Nat} {pd kd pd' : Nd} {q : Int} (hp : T.nodes[p]? = some (some pd)) (hk : T.nodes[k]? = some (some kd)) (hin : T.within p k = false) :
    (T.set2 p k pd' { kd with parent := q }).plain k = T.plain k ∧ (T.set2 p k pd' { kd with parent := q }).height k = T.height k := by
  refine pln_same hw (o := k) (fun j jd hj hjk => ?_) hk 50 k kd hk (hw.within_self hk)
  rw [Tr.set2_get hp hk]
  by_cases h1 : j = k
  · subst h1
    obtain rfl := some_inj2 hk hj
    exact ⟨_, if_pos rfl, rfl, rfl, rfl, rfl⟩
  · rw [if_neg h1]
    by_cases h2 : j = p
    · subst h2; rw [hjk] at hin; cases hin
    · rw [if_neg h2]; exact ⟨jd, hj, rfl, rfl, rfl, rfl⟩
section
variable {w u : World} {own : Ow} {ptr : Nat → Nat} {tb : Nat} {T : Tr} {d : Nat → Nat} {i : Nat} {nd : Nd}
variable {p z h : Int} {b : Bool}
theorem nodup_pos {l : List Int} (hn : l.Nodup) {k : Nat} {x : Int} (h : l[k]? = some x) : posOf l x = k := by
  refine posOf_at h fun hm => ?_
  obtain ⟨hlt, rfl⟩ := List.getElem?_eq_some_iff.1 h
  rw [← List.take_append_drop k l, List.nodup_append] at hn
  refine hn.2.2 _ hm _ ?_ rfl
  rw [List.mem_iff_getElem?]
  exact ⟨0, by simp⟩
end
section
variable {w0 w : World} {tb : Nat} {T : Tr} {g : World}
def Box4 (g : World) (b : Nat) (c0 c1 c2 c3 : Value) : Prop := g.cell? ⟨b, 0, none⟩ = some c0 ∧ g.cell? ⟨b, 1, none⟩ = some c1 ∧ g.cell? ⟨b, 2, none⟩ = some c2 ∧ g.cell? ⟨b, 3, none⟩ = some c3
end
theorem WF.on {T : Tr} {d : Nat → Nat} (hw : WF T d) (hA : AttrsOk T) {i p a : Nat} {nd pd : Nd} (hi : T.nodes[i]? = some (some nd)) (hp : T.nodes[p]? = some (some pd)) (hpar : nd.parent = -1) (ht : pd.tag ≠ 0) (h0 : i ≠ 0) (ha : a ≤ pd.kids.length) (hin : T.within p i = false)
    (hdp : (d p : Int) + 1 + T.height i ≤ T.deep) :
    ∃ (T1 : Tr) (d1 : Nat → Nat), T.link p a i pd nd = T1 ∧ WF T1 d1 ∧ AttrsOk T1 ∧ T1.nodes[i]? = some (some { nd with parent := p }) ∧ T1.nodes[p]? = some (some { pd with kids := pd.kids.take a ++ [(i : Int)] ++ pd.kids.drop a }) ∧ T1.plain i = T.plain i ∧
      posOf (pd.kids.take a ++ [(i : Int)] ++ pd.kids.drop a) i = (a : Int) ∧
      T1.unlink p i { pd with kids := pd.kids.take a ++ [(i : Int)] ++ pd.kids.drop a } { nd with parent := p } = T := by
  have hpi : p ≠ i := fun e => by subst e; rw [hw.within_self hp] at hin; cases hin
  have hno : (i : Int) ∉ pd.kids := fun hm => by
    have := hw.kid_parent hp hm hi; omega
  have hw1 := hw.link (at' := a) hp hi ht h0 hpar hin hdp
  have hg := fun j => Tr.set2_get (pd' := { pd with kids := pd.kids.take a ++ [(i : Int)] ++ pd.kids.drop a }) (kd' := { nd with parent := p }) hp hi j
  refine ⟨T.link p a i pd nd, _, rfl, hw1, ?_, ?_, ?_, ?_, ?_, Tr.unlink_link hp hi hpi hpar hno⟩
  · rw [Tr.link_eq]; exact hA.set2 (show NdOk pd from hA _ _ hp) (show NdOk nd from hA _ _ hi)
  · rw [Tr.link_eq, hg, if_pos rfl]
  · rw [Tr.link_eq, hg, if_neg hpi, if_pos rfl]
  · rw [Tr.link_eq]; exact (hw.plain_set2 (q := (p : Int)) hp hi hin).1
  · refine posOf_at (k := a) ?_ ?_
    · rw [List.append_assoc, List.getElem?_append_right (by rw [List.length_take]; omega), List.length_take, show a - min a pd.kids.length = 0 by omega]; rfl
    · rw [List.append_assoc, List.take_append_of_le_length (by rw [List.length_take]; omega), List.take_take]
      exact fun h => hno (List.mem_of_mem_take h)
theorem plain_root {T T' : Tr} {d : Nat → Nat} (hw : WF T d) (h : ∀ (j : Nat) (jd : Nd), T.nodes[j]? = some (some jd) → T.within j 0 = true → T'.nodes[j]? = some (some jd)) : T'.plain ((0 : Nat) : Int) = T.plain ((0 : Nat) : Int) := by
  obtain ⟨rd, r0, _, _⟩ := hw.root
  exact (plain_same hw r0 fun j jd hj hin => ⟨jd, h j jd hj hin, rfl, rfl, rfl, rfl⟩).1
theorem wpList_append_run {P : Program} (w : World) {ops : Array Oper} {rest : List Oper} {o : Oper} {a : Act} {Q : Exit → Act → World → Prop}
    (hg : o.guard = none) (s x : Operand) (t : TypeId) (hop : o.op = Op.call { callee := Callee.builtin Builtin.append, args := #[s, x], argTypes := #[t, t] })
    (v u : Value) (hs : a.eval s = v) (hx : a.eval x = u) (v' : Value) (w' : World) (hr : (Builtin.append_ #[t, t] o.type #[v, u]).run P w = .ok v' w') (hK : wpList P ops Q rest (a.put o.dst v') w') :
    wpList P ops Q (o :: rest) a w := by
  refine wpList_plain hg fun K hK' => ?_
  unfold Oper.wp
  simp [execOp, hop, resolve, invoke, builtin, hs, hx, hr, Result.andThen]
  exact hK' _ _ hK
theorem WF.rid_count {T : Tr} {d : Nat → Nat} (hw : WF T d) : ∀ (f i : Nat) (nd : Nd), T.nodes[i]? = some (some nd) → 41 ≤ d i + f → ∀ q : Nat → Bool, (∀ (j : Nat) (jd : Nd), T.nodes[j]? = some (some jd) → T.within j i = true → q j = false) →
    (T.rid fun j => T.within j i || q j).count = (T.rid q).count - ((T.plain i).size : Int) := by
  intro f
  induction f with
  | zero =>
    intro i nd hi hd
    have h1 := hw.deep i nd hi
    have h2 := hw.small.deep1
    omega
  | succ f ih =>
    intro i nd hi hd q hq
    have hkids := hw.kids i nd hi
    have hdep : ∀ (m : Nat) (kd : Nd), T.nodes[m]? = some (some kd) → kd.parent = (i : Int) → d m = d i + 1 := fun m kd hm hp => by
      rcases hw.up m kd hm with ⟨h3, h4⟩ | ⟨p, pd, h3, h4, h5, h6⟩
      · omega
      · obtain rfl : p = i := by omega
        exact h5
    have key : ∀ ks : List Int, ks.Nodup → (∀ k ∈ ks, k ∈ nd.kids) → (T.rid fun j => T.inAny ks j || q j).count = (T.rid q).count - ((PN.sizes (ks.map T.plain) : Nat) : Int) := by
      intro ks
      induction ks with
      | nil => intro _ _; simp [Tr.inAny, PN.sizes]
      | cons k r ihr =>
        intro hn hin
        obtain ⟨hkr, hnr⟩ := List.nodup_cons.1 hn
        obtain ⟨m, kd, ek, hm, hmp⟩ := hkids.2 k (hin k (by simp))
        subst ek
        have hdm := hdep m kd hm hmp
        have hmk : (m : Int) ∈ nd.kids := hin _ (by simp)
        have h1 := ih m kd hm (by omega) (fun j => T.inAny r j || q j) fun j jd hj hjm => by
          have h3 : q j = false := hq j jd hj (hw.kid_within hi hmk j jd hj hjm)
          show (T.inAny r j || q j) = false
          rw [h3, Bool.or_false]
          cases hr : T.inAny r j with
          | false => rfl
          | true =>
            obtain ⟨x, hx, hxj⟩ := List.any_eq_true.1 hr
            have hxk := hin x (by simp [hx])
            obtain ⟨y, yd, ey, _, _⟩ := hkids.2 x hxk
            subst ey
            exact (hw.kids_apart hi hmk hxk (fun e => hkr (by rw [e]; exact hx)) j jd hj hjm hxj).elim
        have h2 := ihr hnr fun x hx => hin x (by simp [hx])
        have e : (T.rid fun j => T.inAny ((m : Int) :: r) j || q j) = T.rid fun j => T.within j m || (T.inAny r j || q j) := Tr.rid_congr fun j jd _ => by
          simp [Tr.inAny, Bool.or_assoc]
        rw [e, h1, h2, List.map_cons, PN.sizes]
        push_cast
        omega
    have hself : T.inAny nd.kids i = false := by
      cases hr : T.inAny nd.kids i with
      | false => rfl
      | true =>
        obtain ⟨x, hx, hxi⟩ := List.any_eq_true.1 hr
        obtain ⟨y, yd, ey, hy, hyp⟩ := hkids.2 x hx
        subst ey
        have h1 := hdep y yd hy hyp
        have h2 := (hw.within_depth i nd hi hxi).1
        omega
    have hqi : (T.inAny nd.kids i || q i) = false := by rw [hself, hq i nd hi (hw.within_self hi)]; rfl
    have e : (T.rid fun j => T.within j i || q j) = T.rid fun j => decide (j = i) || (T.inAny nd.kids j || q j) := Tr.rid_congr fun j jd hj => by
      rw [← hw.inAny_kids hi hj, Bool.or_assoc]
    have h1 := Tr.rid_set (T := T) (q := fun j => T.inAny nd.kids j || q j) hi hqi
    have h2 := congrArg Tr.count h1
    have h3 := key nd.kids hkids.1 fun x hx => hx
    rw [e, ← h2, hw.plain_eq hi, PN.size_eq]
    show (T.rid fun j => T.inAny nd.kids j || q j).count - 1 = _
    rw [h3]
    simp only [PN.kids]
    push_cast
    omega
theorem WF.rid_size {T : Tr} {d : Nat → Nat} (hw : WF T d) {i : Nat} {nd : Nd} (hi : T.nodes[i]? = some (some nd)) : (T.rid fun j => T.within j i).count = T.count - ((T.plain i).size : Int) := by
  have h := hw.rid_count 41 i nd hi (by omega) (fun _ => false) fun _ _ _ _ => rfl
  rw [Tr.rid_none hw.count] at h
  rw [← h]
  exact congrArg Tr.count (Tr.rid_congr fun j jd _ => by simp)
theorem PN.anew_size : ∀ n : PN, n.anew.size = n.size := by
  refine PN.induct _ fun n ih => ?_
  rw [PN.anew_eq, PN.size_eq, PN.size_eq]
  show PN.sizes (PN.anews n.kids) + 1 = _
  rw [PN.anews_eq]
  have : ∀ l : List PN, (∀ k ∈ l, k.anew.size = k.size) → PN.sizes (l.map PN.anew) = PN.sizes l := by
    intro l
    induction l with
    | nil => intro _; rfl
    | cons k r ihr => intro h; simp only [List.map_cons, PN.sizes]; rw [h k (by simp), ihr fun x hx => h x (by simp [hx])]
  rw [this _ ih]
structure GraftLaw (T : Tr) (p a : Nat) (n : PN) (T1 T2 T3 : Tr) (d1 d2 d3 : Nat → Nat) (i : Nat) (nd pd kd : Nd) : Prop where
  ne : i ≠ 0
  wf1 : WF T1 d1
  ok1 : AttrsOk T1
  node1 : T1.nodes[i]? = some (some nd)
  up : nd.parent = (p : Int)
  par1 : T1.nodes[p]? = some (some pd)
  pos : posOf pd.kids i = (a : Int)
  plain1 : T1.plain i = n.anew
  count1 : T1.count = T.count + n.size
  off : T1.unlink p i pd nd = T2
  wf2 : WF T2 d2
  ok2 : AttrsOk T2
  node2 : T2.nodes[i]? = some (some kd)
  root2 : kd.parent = -1
  plain2 : T2.plain i = n.anew
  rid : (T2.rid fun j => T2.within j i) = T3
  wf3 : WF T3 d3
  ok3 : AttrsOk T3
  none3 : T3.get? i = none
  count3 : T3.count = T.count
  plain3 : T3.plain ((0 : Nat) : Int) = T.plain ((0 : Nat) : Int)
theorem WF.graft {T : Tr} {d : Nat → Nat} (hw : WF T d) (hA : AttrsOk T) {p a : Nat} {pd : Nd} (hp : T.nodes[p]? = some (some pd)) (ht : pd.tag ≠ 0) (ha : a ≤ pd.kids.length) {n : PN} (hsh : n.short = true) (hok : n.ok = true) (hdp : (d p : Int) + 1 + n.high ≤ T.deep) (hf : (n.size : Int) ≤ T.cap - T.count) :
    ∃ (T1 T2 T3 : Tr) (d1 d2 d3 : Nat → Nat) (i : Nat) (nd pd1 kd : Nd), T.newId = (i : Int) ∧ T.grafted p a pd n = T1 ∧ GraftLaw T p a n T1 T2 T3 d1 d2 d3 i nd pd1 kd := by
  obtain ⟨d2, i, hi1, hi0, hi2, hP⟩ := into_ok n hok T d hw (by omega) (by omega)
  obtain ⟨kd, hk1, hk2⟩ := hP.node
  have hpi : p ≠ i := fun e => hi2 pd (e ▸ hp)
  obtain ⟨hap1, hap2⟩ := hP.apart hw hi2 p pd hp
  have hA2 := into_attrs n hok hsh T hA
  obtain ⟨T1, d1, hT1, hw1, hA1, h1, h2, h3, h4, h5⟩ := hP.wf.on hA2 hk1 (hP.old p pd hpi hp) hk2 ht hi0 ha hap1 (by rw [hap2, hP.deep, hP.high]; omega)
  have hgr : T.grafted p a pd n = T1 := by
    unfold Tr.grafted; rw [hi1, Int.toNat_natCast, look_of hk1]; exact hT1
  have hc1 : T1.count = (PN.into T n).count := by rw [← hT1, Tr.link_eq]; rfl
  refine ⟨T1, PN.into T n, (PN.into T n).rid fun j => (PN.into T n).within j i, d1, d2, d2, i, _, _, kd, hi1, hgr, ⟨hi0, hw1, hA1, h1, rfl, h2, h4, h3.trans hP.plain, hc1.trans hP.count, h5, hP.wf, hA2, hk1, hk2, hP.plain, rfl, hP.wf.rid hk1 hk2 hi0, hA2.rid _, ?_, ?_, ?_⟩⟩
  · rw [Tr.get_nat, Tr.rid_get, hk1]
    simp [hP.wf.within_self hk1]
  · rw [hP.wf.rid_size hk1, hP.plain, PN.anew_size, hP.count]; omega
  · refine plain_root hw fun j jd hj _ => ?_
    have hji : j ≠ i := fun e => hi2 jd (e ▸ hj)
    exact Tr.rid_some.2 ⟨(hP.apart hw hi2 j jd hj).1, hP.old j jd hji hj⟩
structure TAt (w : World) (tb : Nat) (T : Tr) : Prop where
  out : ∃ own ptr, TreeAt w own ptr tb T ∧ Owned own w
theorem TAt.ext {w w' : World} {tb : Nat} {T : Tr} (h : TAt w tb T) (x : Ext w w') : TAt w' tb T := by
  obtain ⟨own, ptr, hT, hO⟩ := h.out
  exact ⟨own, ptr, hT.keep (x.keep hO), fun b hb => Nat.lt_of_lt_of_le (hO b hb) x.size⟩
def Tr.up (T : Tr) (id : Int) : Int := match T.get? id with | none => -1 | some nd => nd.parent
def Tr.kidsOf (T : Tr) (id : Int) : List Int := match T.get? id with | none => [] | some nd => nd.kids
def Tr.idx (T : Tr) (id : Int) : Int := match T.get? id with | none => -1 | some nd => match T.get? nd.parent with | none => -1 | some pd => posOf pd.kids id
def Tr.tagOf (T : Tr) (id : Int) : Int := match T.get? id with | none => -1 | some nd => nd.tag
def Tr.txt (T : Tr) (id : Int) : ByteArray := match T.get? id with | none => ByteArray.empty | some nd => nd.text
def IntsIs (l : List Int) (w : World) (e : Ending) (w' : World) : Prop :=
  ∃ ao cap, e = .returned (.slice ao l.length cap) ∧ l.length ≤ cap ∧ (l ≠ [] → ∃ g, ao = some ⟨g, 0, none⟩ ∧ ∀ (j : Nat) x, l[j]? = some x → w'.cell? ⟨g, j, none⟩ = some (.int .i64 x)) ∧ Ext w w'
theorem IntsIs.of_row {l : List Int} {w w' : World} {e : Ending} (h : RRow 3 1 l.length (l.map (Value.int .i64)) w e w') : IntsIs l w e w' := by
  obtain ⟨v, rfl, hr, hx⟩ := h
  rcases hr.2 with ⟨h0, a, rfl⟩ | ⟨g, cap, cur, rfl, h2, h3, h4, h5, h6, h7⟩
  · exact ⟨a, 0, by rw [h0], by omega, fun hn => absurd (List.eq_nil_of_length_eq_zero h0) hn, hx⟩
  · refine ⟨_, cap, rfl, h4, fun _ => ⟨g, rfl, fun j x hj => cellOf h3 ?_⟩, hx⟩
    have hl := (List.getElem?_eq_some_iff.1 hj).1
    have e : (cur.toList.take (l.length * 1))[j]? = some (Value.int .i64 x) := by rw [h7, List.getElem?_map, hj]; rfl
    rw [List.getElem?_take_of_lt (by omega)] at e
    simpa using e
section
variable {w : World} {tb : Nat} {T : Tr}
theorem at_has (h : TAt w tb T) (id : Int) : Calls Tryz.prog 26 #[.pointer (some ⟨tb, 0, none⟩), .int .i64 id] w (RVal (.bool (T.get? id).isSome) w) := by
  obtain ⟨own, ptr, hT, hO⟩ := h.out
  cases hg : T.get? id with
  | none => exact RSame.val (Has_none hT hg)
  | some nd => exact RSame.val (Has_some hT hg)
theorem at_up (h : TAt w tb T) (id : Int) : Calls Tryz.prog 27 #[.pointer (some ⟨tb, 0, none⟩), .int .i64 id] w (RVal (.int .i64 (T.up id)) w) := by
  obtain ⟨own, ptr, hT, hO⟩ := h.out
  unfold Tr.up
  cases hg : T.get? id with
  | none => exact RSame.val (Parent_none hT hg)
  | some nd => exact RSame.val (Parent_some hT hg)
theorem at_tag (h : TAt w tb T) (id : Int) : Calls Tryz.prog 47 #[.pointer (some ⟨tb, 0, none⟩), .int .i64 id] w (RVal (.int .i64 (T.tagOf id)) w) := by
  obtain ⟨own, ptr, hT, hO⟩ := h.out
  unfold Tr.tagOf
  cases hg : T.get? id with
  | none => exact RSame.val (Tag_none hT hg)
  | some nd => exact RSame.val (Tag_some hT hg)
theorem at_told (h : TAt w tb T) (id : Int) : Calls Tryz.prog 49 #[.pointer (some ⟨tb, 0, none⟩), .int .i64 id] w (RVal (.string (T.txt id)) w) := by
  obtain ⟨own, ptr, hT, hO⟩ := h.out
  unfold Tr.txt
  cases hg : T.get? id with
  | none => exact RSame.val (Told_none hT hg)
  | some nd => exact RSame.val (Told_some hT hg)
theorem at_kids (h : TAt w tb T) {d : Nat → Nat} (hw : WF T d) (id : Int) : Calls Tryz.prog 32 #[.pointer (some ⟨tb, 0, none⟩), .int .i64 id] w (IntsIs (T.kidsOf id) w) := by
  obtain ⟨own, ptr, hT, hO⟩ := h.out
  unfold Tr.kidsOf
  cases hg : T.get? id with
  | none => exact (Kids_none hT hg).mono fun e w' hh => ⟨none, 0, hh.1, Nat.le_refl _, fun h => absurd rfl h, hh.2⟩
  | some nd => exact (Kids_some hT hg (by have := hw.kids_len (Tr.get_lt hg).2.2; omega)).mono fun e w' hh => IntsIs.of_row hh
theorem at_idx (h : TAt w tb T) {d : Nat → Nat} (hw : WF T d) (id : Int) : Calls Tryz.prog 29 #[.pointer (some ⟨tb, 0, none⟩), .int .i64 id] w (RVal (.int .i64 (T.idx id)) w) := by
  obtain ⟨own, ptr, hT, hO⟩ := h.out
  unfold Tr.idx
  cases hg : T.get? id with
  | none => exact Index_root hT (.inl hg)
  | some nd =>
    cases hp : T.get? nd.parent with
    | none => simp only [hp]; exact Index_root hT (.inr ⟨nd, hg, hp⟩)
    | some pd => simp only [hp]; exact Index_kid hT hg hp (by have := hw.kids_len (Tr.get_lt hp).2.2; omega)
end
def Tr.goUpF {α : Type} (T : Tr) (F : Int → α → α) (stop : Int → α) : Nat → Int → α
  | 0, id => stop id
  | f + 1, id => if 0 ≤ T.up id then F id (T.goUpF F stop f (T.up id)) else stop id
def Tr.goUp {α : Type} (T : Tr) (F : Int → α → α) (stop : Int → α) (id : Int) : α := T.goUpF F stop 50 id
def Tr.rank (T : Tr) (d : Nat → Nat) (id : Int) : Nat := match T.get? id with | none => 0 | some _ => d id.toNat + 1
section
variable {T : Tr} {d : Nat → Nat}
theorem WF.up_pos (hw : WF T d) {id : Int} (h : 0 ≤ T.up id) : ∃ (i p : Nat) (nd pd : Nd), id = (i : Int) ∧ T.nodes[i]? = some (some nd) ∧ nd.parent = (p : Int) ∧ T.up id = (p : Int) ∧ T.nodes[p]? = some (some pd) ∧ d i = d p + 1 ∧ (i : Int) ∈ pd.kids := by
  unfold Tr.up at h ⊢
  cases hg : T.get? id with
  | none => rw [hg] at h; simp at h
  | some nd =>
    rw [hg] at h
    obtain ⟨i, rfl, hi⟩ := nat_of hg
    rcases hw.up i nd hi with ⟨h1, h2⟩ | ⟨p, pd, h1, h2, h3, h4⟩
    · have h' : 0 ≤ nd.parent := h; omega
    · exact ⟨i, p, nd, pd, rfl, hi, h1, h1, h2, h3, h4⟩
theorem WF.rank_up (hw : WF T d) {id : Int} (h : 0 ≤ T.up id) : T.rank d id = T.rank d (T.up id) + 1 := by
  obtain ⟨i, p, nd, pd, rfl, h1, h2, h3, h4, h5, h6⟩ := hw.up_pos h
  unfold Tr.rank
  rw [h3, Tr.get_of h1, Tr.get_of h4]
  simp [h5]
theorem WF.rank_le (hw : WF T d) (id : Int) : T.rank d id ≤ 41 := by
  unfold Tr.rank
  cases hg : T.get? id with
  | none => simp
  | some nd =>
    obtain ⟨i, rfl, hi⟩ := nat_of hg
    have h1 := hw.deep i nd hi
    have h2 := hw.small.deep1
    simp; omega
theorem WF.goUp_more (hw : WF T d) {α : Type} (F : Int → α → α) (stop : Int → α) : ∀ (f g : Nat) (id : Int), T.rank d id ≤ f → T.rank d id ≤ g → T.goUpF F stop f id = T.goUpF F stop g id := by
  intro f
  induction f with
  | zero =>
    intro g id h1 h2
    have hn : ¬ 0 ≤ T.up id := fun h => by have := hw.rank_up h; omega
    cases g with
    | zero => rfl
    | succ g => show stop id = if _ then _ else _; rw [if_neg hn]
  | succ f ih =>
    intro g id h1 h2
    by_cases h : 0 ≤ T.up id
    · have hr := hw.rank_up h
      cases g with
      | zero => omega
      | succ g =>
        show (if _ then _ else _) = if _ then _ else _
        rw [if_pos h, if_pos h, ih g (T.up id) (by omega) (by omega)]
    · cases g with
      | zero => show (if _ then _ else _) = stop id; rw [if_neg h]
      | succ g => show (if _ then _ else _) = if _ then _ else _; rw [if_neg h, if_neg h]
theorem WF.goUp_step (hw : WF T d) {α : Type} (F : Int → α → α) (stop : Int → α) (id : Int) : T.goUp F stop id = if 0 ≤ T.up id then F id (T.goUp F stop (T.up id)) else stop id := by
  show (if _ then _ else _) = _
  by_cases h : 0 ≤ T.up id
  · rw [if_pos h, if_pos h]
    have hr := hw.rank_up h
    have := hw.rank_le id
    exact congrArg (F id) (hw.goUp_more F stop 49 50 (T.up id) (by omega) (by omega))
  · rw [if_neg h, if_neg h]
end
def Tr.rootOf (T : Tr) (id : Int) : Int := T.goUp (fun _ r => r) (fun x => x) id
section
variable {w : World} {tb : Nat} {T : Tr}
theorem at_has_no (h : TAt w tb T) {id : Int} (hg : T.get? id = none) : Calls Tryz.prog 26 #[.pointer (some ⟨tb, 0, none⟩), .int .i64 id] w (RVal (.bool false) w) := by
  have := at_has h id; rw [hg] at this; exact this
theorem at_has_yes (h : TAt w tb T) {id : Int} {nd : Nd} (hg : T.get? id = some nd) : Calls Tryz.prog 26 #[.pointer (some ⟨tb, 0, none⟩), .int .i64 id] w (RVal (.bool true) w) := by
  have := at_has h id; rw [hg] at this; exact this
theorem at_up' (h : TAt w tb T) (id : Int) {z : Int} (hz : T.up id = z) : Calls Tryz.prog 27 #[.pointer (some ⟨tb, 0, none⟩), .int .i64 id] w (RVal (.int .i64 z) w) := hz ▸ at_up h id
theorem at_idx' (h : TAt w tb T) {d : Nat → Nat} (hw : WF T d) (id : Int) {z : Int} (hz : T.idx id = z) : Calls Tryz.prog 29 #[.pointer (some ⟨tb, 0, none⟩), .int .i64 id] w (RVal (.int .i64 z) w) := hz ▸ at_idx h hw id
theorem at_kids' (h : TAt w tb T) {d : Nat → Nat} (hw : WF T d) (id : Int) {l : List Int} (hl : T.kidsOf id = l) : Calls Tryz.prog 32 #[.pointer (some ⟨tb, 0, none⟩), .int .i64 id] w (IntsIs l w) := hl ▸ at_kids h hw id
theorem at_tag' (h : TAt w tb T) (id : Int) {z : Int} (hz : T.tagOf id = z) : Calls Tryz.prog 47 #[.pointer (some ⟨tb, 0, none⟩), .int .i64 id] w (RVal (.int .i64 z) w) := hz ▸ at_tag h id
end
section
variable {T : Tr} {d : Nat → Nat}
theorem Tr.up_none {T : Tr} {id : Int} (hg : T.get? id = none) : T.up id = -1 := by unfold Tr.up; rw [hg]
theorem Tr.up_some {T : Tr} {id : Int} {nd : Nd} (hg : T.get? id = some nd) : T.up id = nd.parent := by unfold Tr.up; rw [hg]
theorem Tr.get_neg (T : Tr) {id : Int} (h : id < 0) : T.get? id = none := by unfold Tr.get?; rw [if_pos h]
theorem WF.up_neg (hw : WF T d) {id : Int} (h : ¬ 0 ≤ T.up id) : T.up id = -1 := by
  unfold Tr.up at h ⊢
  cases hg : T.get? id with
  | none => rfl
  | some nd =>
    rw [hg] at h
    obtain ⟨i, rfl, hi⟩ := nat_of hg
    rcases hw.up i nd hi with ⟨h1, h2⟩ | ⟨p, pd, h1, h2, h3, h4⟩
    · exact h1
    · have h' : ¬ 0 ≤ nd.parent := h; omega
theorem WF.rank_step (hw : WF T d) {id : Int} {nd : Nd} (hg : T.get? id = some nd) : T.rank d (T.up id) < T.rank d id := by
  by_cases h : 0 ≤ T.up id
  · have := hw.rank_up h; omega
  · rw [hw.up_neg h]
    unfold Tr.rank
    rw [Tr.get_neg T (show (-1 : Int) < 0 by omega), hg]; simp
theorem WF.idx_kid (hw : WF T d) {id : Int} (h : 0 ≤ T.up id) : ∃ j : Nat, T.idx id = (j : Int) ∧ (T.kidsOf (T.up id))[j]? = some id ∧ j < (T.kidsOf (T.up id)).length ∧ (T.kidsOf (T.up id)).length ≤ 2000 := by
  obtain ⟨i, p, nd, pd, rfl, h1, h2, h3, h4, h5, h6⟩ := hw.up_pos h
  obtain ⟨k1, k2, k3⟩ := posOf_mem h6
  have e : T.kidsOf (T.up (i : Int)) = pd.kids := by unfold Tr.kidsOf; rw [h3, Tr.get_of h4]
  have e2 : T.idx (i : Int) = posOf pd.kids i := by unfold Tr.idx; rw [Tr.get_of h1]; simp only [h2, Tr.get_of h4]
  rw [e, e2]
  refine ⟨_, k1, ?_, k2, by have := hw.kids_len h4; omega⟩
  rw [List.getElem?_eq_getElem k2]
  simp
theorem WF.kidsOf_len (hw : WF T d) (id : Int) : (T.kidsOf id).length ≤ 2000 := by
  unfold Tr.kidsOf
  cases hg : T.get? id with
  | none => simp
  | some nd => exact hw.kids_len (Tr.get_lt hg).2.2
theorem WF.kid_rank (hw : WF T d) {id k : Int} (hk : k ∈ T.kidsOf id) : T.up k = id ∧ 0 ≤ id ∧ T.rank d k = T.rank d id + 1 ∧ ∃ kd, T.get? k = some kd := by
  unfold Tr.kidsOf at hk
  cases hg : T.get? id with
  | none => rw [hg] at hk; simp at hk
  | some nd =>
    rw [hg] at hk
    obtain ⟨i, rfl, hi⟩ := nat_of hg
    obtain ⟨j, kd, rfl, hj, hjp⟩ := (hw.kids i nd hi).2 k hk
    have hu : T.up (j : Int) = (i : Int) := by rw [Tr.up_some (Tr.get_of hj)]; exact hjp
    refine ⟨hu, by omega, ?_, kd, Tr.get_of hj⟩
    have := hw.rank_up (id := (j : Int)) (by omega)
    rw [this, hu]
end
def Tr.win (T : Tr) (id outer : Int) : Bool := T.goUp (fun x r => decide (x = outer) || r) (fun x => (T.get? x).isSome && decide (x = outer)) id
theorem WF.win_none {T : Tr} {d : Nat → Nat} (hw : WF T d) {x outer : Int} (hg : T.get? x = none) : T.win x outer = false := by
  unfold Tr.win
  rw [hw.goUp_step, if_neg (by rw [Tr.up_none hg]; omega), hg]; rfl
theorem WF.win_step {T : Tr} {d : Nat → Nat} (hw : WF T d) {x outer : Int} {nd : Nd} (hg : T.get? x = some nd) : T.win x outer = (decide (x = outer) || T.win (T.up x) outer) := by
  have h := hw.goUp_step (fun x r => decide (x = outer) || r) (fun x => (T.get? x).isSome && decide (x = outer)) x
  by_cases hu : 0 ≤ T.up x
  · rw [if_pos hu] at h; exact h
  · rw [if_neg hu, hg] at h
    rw [hw.win_none (x := T.up x) (Tr.get_neg T (by omega)), Bool.or_false]
    exact h.trans (Bool.true_and _)
theorem Within_any {w : World} {tb : Nat} {T : Tr} (hT : TAt w tb T) {d : Nat → Nat} (hw : WF T d) (id outer : Int) : Calls Tryz.prog 74 #[.pointer (some ⟨tb, 0, none⟩), .int .i64 id, .int .i64 outer] w (RVal (.bool (T.win id outer)) w) := by
  go_enter Tryz.func74, Tryz.ntmps74
  go_wp2_with fail
  go_loopw [1] (fun s wr => ∃ x : Int, s = .int .i64 x ∧ Ext w wr ∧ Hid (T.win x outer = T.win id outer)) (fun s _ => T.rank d (intOf s))
  case atStart => exact ⟨id, rfl, Ext.refl _, qh rfl⟩
  case round =>
    obtain ⟨x, rfl, hx, hr⟩ := hrel
    cases hg : T.get? x with
    | none =>
      have HG := qh hg
      clear hg
      go_wp2_with fail
      refine (at_has_no (hT.ext hx) HG.out).mono ?_
      rintro e w1 ⟨rfl, hx1⟩
      go_wp2_with fail
      refine (at_has_no (hT.ext (hx.trans hx1)) HG.out).mono ?_
      rintro e w2 ⟨rfl, hx2⟩
      go_wp2_with fail
      go_ret
      exact ⟨by rw [← hr.out, hw.win_none HG.out]; rfl, (hx.trans hx1).trans hx2⟩
    | some nd =>
      have HG := qh hg
      have HS := qh (hw.win_step (outer := outer) hg)
      clear hg
      go_wp2_with fail
      refine (at_has_yes (hT.ext hx) HG.out).mono ?_
      rintro e w1 ⟨rfl, hx1⟩
      by_cases he : x = outer
      · subst he
        go_wp2_with fail
        refine (at_has_yes (hT.ext (hx.trans hx1)) HG.out).mono ?_
        rintro e w2 ⟨rfl, hx2⟩
        go_wp2_with fail
        go_ret
        exact ⟨by rw [← hr.out, HS.out]; simp, (hx.trans hx1).trans hx2⟩
      · go_wp2_with fail
        refine (at_up (hT.ext (hx.trans hx1)) x).mono ?_
        rintro e w2 ⟨rfl, hx2⟩
        go_wp2_with fail
        go_roundw
        case rel => exact ⟨T.up x, rfl, (hx.trans hx1).trans hx2, qh (by rw [← hr.out, HS.out]; simp [he])⟩
        case measure => have := hw.rank_step HG.out; simp [intOf]; omega
def Tr.sib (T : Tr) (x : Int) : Option Int := (T.kidsOf (T.up x))[(T.idx x).toNat + 1]?
def Tr.behind (T : Tr) (id : Int) : Int := T.goUp (fun x r => (T.sib x).getD r) (fun _ => -1) id
theorem Behind_any {w : World} {tb : Nat} {T : Tr} (hT : TAt w tb T) {d : Nat → Nat} (hw : WF T d) (id : Int) : Calls Tryz.prog 168 #[.pointer (some ⟨tb, 0, none⟩), .int .i64 id] w (RVal (.int .i64 (T.behind id)) w) := by
  go_enter Tryz.func168, Tryz.ntmps168
  go_wp2_with fail
  go_loopw [1, 5, 6, 7] (fun s _ _ _ wr => ∃ x : Int, s = .int .i64 x ∧ Ext w wr ∧ Hid (T.behind x = T.behind id)) (fun s _ _ _ _ => T.rank d (intOf s))
  case atStart => exact ⟨id, rfl, Ext.refl _, qh rfl⟩
  case round =>
    obtain ⟨x, rfl, hx, hr⟩ := hrel
    have HS := qh (show T.behind x = if 0 ≤ T.up x then (T.sib x).getD (T.behind (T.up x)) else -1 from hw.goUp_step (fun x r => (T.sib x).getD r) (fun _ => -1) x)
    by_cases hu : 0 ≤ T.up x
    · obtain ⟨j, hj1, hj2, hj3, hj4⟩ := hw.idx_kid hu
      obtain ⟨nd, hg⟩ : ∃ nd, T.get? x = some nd := by
        cases hg : T.get? x with
        | none => rw [Tr.up_none hg] at hu; omega
        | some nd => exact ⟨nd, rfl⟩
      obtain ⟨p, hp⟩ : ∃ p, T.up x = p := ⟨_, rfl⟩
      obtain ⟨l, hl⟩ : ∃ l, T.kidsOf p = l := ⟨_, rfl⟩
      rw [hp] at hu hj2 hj3 hj4
      rw [hl] at hj2 hj3 hj4
      have HG := qh hg
      have HP := qh hp
      have HL := qh hl
      have HJ := qh hj1
      have hsib : T.sib x = l[j + 1]? := by unfold Tr.sib; rw [hp, hl, hj1]; rfl
      have HSB := qh hsib
      have HR := qh (show T.rank d x = T.rank d p + 1 by rw [← hp]; exact hw.rank_up (by rw [hp]; exact hu))
      clear hg hp hl hj1 hj2 hsib
      go_wp2_with fail
      refine (at_has_yes (hT.ext hx) HG.out).mono ?_
      rintro e w1 ⟨rfl, hx1⟩
      replace hx1 := hx.trans hx1
      go_wp2_with fail
      refine (at_up' (hT.ext hx1) x HP.out).mono ?_
      rintro e w2 ⟨rfl, hx2⟩
      replace hx2 := hx1.trans hx2
      go_wp2_with fail
      refine (at_up' (hT.ext hx2) x HP.out).mono ?_
      rintro e w3 ⟨rfl, hx3⟩
      replace hx3 := hx2.trans hx3
      go_wp2_with fail
      refine (at_kids' (hT.ext hx3) hw p HL.out).mono ?_
      rintro e w4 ⟨ao, cap, rfl, hcap, hcell, hx4⟩
      obtain ⟨g, rfl, hc⟩ := hcell (fun e => by rw [e] at hj3; simp at hj3)
      replace hx4 := hx3.trans hx4
      have HC := qh hc
      clear hcell hc
      go_wp2_with fail
      refine (at_idx' (hT.ext hx4) hw x HJ.out).mono ?_
      rintro e w5 ⟨rfl, hx5⟩
      by_cases hlt : j + 1 < l.length
      · obtain ⟨y, hy⟩ : ∃ y, l[j + 1]? = some y := ⟨l[j + 1], by simp [hlt]⟩
        have hc := hx5.cell (HC.out _ _ hy)
        have HY := qh hy
        clear hy
        go_wp2_with fail
        go_ret
        refine ⟨?_, hx4.trans hx5⟩
        rw [← hr.out, HS.out, if_pos (by rw [HP.out]; exact hu), HSB.out, HY.out]; rfl
      · have HY := qh (show l[j + 1]? = none from List.getElem?_eq_none (by omega))
        go_wp2_with fail
        go_roundw
        case rel =>
          refine ⟨p, rfl, hx4.trans hx5, qh ?_⟩
          rw [← hr.out, HS.out, if_pos (by rw [HP.out]; exact hu), HSB.out, HY.out, HP.out]; rfl
        case measure => have := HR.out; simp [intOf]; omega
    · have hum := hw.up_neg hu
      have HUM := qh hum
      clear hum
      cases hg : T.get? x with
      | none =>
        have HG := qh hg
        clear hg
        go_wp2_with fail
        refine (at_has_no (hT.ext hx) HG.out).mono ?_
        rintro e w1 ⟨rfl, hx1⟩
        go_wp2_with fail
        go_ret
        refine ⟨?_, hx.trans hx1⟩
        rw [← hr.out, HS.out, if_neg (by rw [HUM.out]; omega)]; rfl
      | some nd =>
        have HG := qh hg
        clear hg
        go_wp2_with fail
        refine (at_has_yes (hT.ext hx) HG.out).mono ?_
        rintro e w1 ⟨rfl, hx1⟩
        go_wp2_with fail
        refine (at_up' (hT.ext (hx.trans hx1)) x HUM.out).mono ?_
        rintro e w2 ⟨rfl, hx2⟩
        go_wp2_with fail
        go_ret
        refine ⟨?_, (hx.trans hx1).trans hx2⟩
        rw [← hr.out, HS.out, if_neg (by rw [HUM.out]; omega)]; rfl
def Tr.next (T : Tr) (id : Int) : Int := match T.kidsOf id with | k :: _ => k | [] => T.behind id
theorem Next_any {w : World} {tb : Nat} {T : Tr} (hT : TAt w tb T) {d : Nat → Nat} (hw : WF T d) (id : Int) : Calls Tryz.prog 169 #[.pointer (some ⟨tb, 0, none⟩), .int .i64 id] w (RVal (.int .i64 (T.next id)) w) := by
  have hlen := hw.kidsOf_len id
  unfold Tr.next
  cases hl : T.kidsOf id with
  | nil =>
    have HL := qh hl
    clear hl hlen
    go_enter Tryz.func169, Tryz.ntmps169
    go_wp2_with fail
    refine (at_kids' hT hw id HL.out).mono ?_
    rintro e w1 ⟨ao, cap, rfl, hcap, hcell, hx1⟩
    clear hcell
    go_wp2_with fail
    refine (Behind_any (hT.ext hx1) hw id).mono ?_
    rintro e w2 ⟨rfl, hx2⟩
    go_wp2_with fail
    go_ret
    exact ⟨rfl, hx1.trans hx2⟩
  | cons k r =>
    have HL := qh hl
    rw [hl] at hlen
    clear hl
    go_enter Tryz.func169, Tryz.ntmps169
    go_wp2_with fail
    refine (at_kids' hT hw id HL.out).mono ?_
    rintro e w1 ⟨ao, cap, rfl, hcap, hcell, hx1⟩
    obtain ⟨g, rfl, hc⟩ := hcell (by simp)
    have hc0 := hc 0 k rfl
    clear hcell hc
    go_wp2_with fail
    go_ret
    exact ⟨rfl, hx1⟩
def Tr.pathOf (T : Tr) (id : Int) : List Int := T.goUp (fun x r => r ++ [T.idx x]) (fun _ => []) id
def Tr.walk (T : Tr) (r : Int) : List Int → Option Int
  | [] => some r
  | i :: p => if i < 0 then none else match (T.kidsOf r)[i.toNat]? with
    | none => none
    | some k => T.walk k p
section
variable {T : Tr} {d : Nat → Nat}
theorem WF.path_step (hw : WF T d) (id : Int) : T.pathOf id = if 0 ≤ T.up id then T.pathOf (T.up id) ++ [T.idx id] else [] := hw.goUp_step (fun x r => r ++ [T.idx x]) (fun _ => []) id
theorem WF.root_step (hw : WF T d) (id : Int) : T.rootOf id = if 0 ≤ T.up id then T.rootOf (T.up id) else id := hw.goUp_step (fun _ r => r) (fun x => x) id
theorem WF.down (hw : WF T d) (P : Int → Prop) (h0 : ∀ id, ¬ 0 ≤ T.up id → P id) (h1 : ∀ id, 0 ≤ T.up id → P (T.up id) → P id) : ∀ id, P id := by
  have key : ∀ (n : Nat) (id : Int), T.rank d id ≤ n → P id := by
    intro n
    induction n with
    | zero =>
      intro id h
      refine h0 id fun hu => ?_
      have := hw.rank_up hu; omega
    | succ n ih =>
      intro id h
      by_cases hu : 0 ≤ T.up id
      · have := hw.rank_up hu
        exact h1 id hu (ih _ (by omega))
      · exact h0 id hu
  exact fun id => key _ id (Nat.le_refl _)
theorem Tr.walk_append (T : Tr) : ∀ (p q : List Int) (r : Int), T.walk r (p ++ q) = (T.walk r p).bind fun x => T.walk x q := by
  intro p
  induction p with
  | nil => intro q r; rfl
  | cons i p ih =>
    intro q r
    simp only [List.cons_append, Tr.walk]
    by_cases h : i < 0
    · rw [if_pos h, if_pos h]; rfl
    · rw [if_neg h, if_neg h]
      cases (T.kidsOf r)[i.toNat]? with
      | none => rfl
      | some k => exact ih q k
theorem WF.up_get (hw : WF T d) {id : Int} (h : 0 ≤ T.up id) : ∃ nd, T.get? (T.up id) = some nd := by
  obtain ⟨i, p, nd, pd, rfl, h1, h2, h3, h4, _⟩ := hw.up_pos h
  exact ⟨pd, by rw [h3]; exact Tr.get_of h4⟩
theorem WF.walk_path (hw : WF T d) : ∀ id, T.walk (T.rootOf id) (T.pathOf id) = some id := by
  refine hw.down _ (fun id h => ?_) (fun id h ih => ?_)
  · rw [hw.path_step, hw.root_step, if_neg h, if_neg h]; rfl
  · rw [hw.path_step, hw.root_step, if_pos h, if_pos h, Tr.walk_append, ih]
    obtain ⟨j, h1, h2, h3, _⟩ := hw.idx_kid h
    show T.walk (T.up id) [T.idx id] = some id
    simp only [Tr.walk]
    rw [h1, if_neg (by omega), Int.toNat_natCast, h2]
theorem WF.kid_idx (hw : WF T d) {r k : Int} {i : Nat} (h : (T.kidsOf r)[i]? = some k) : T.up k = r ∧ T.idx k = (i : Int) ∧ 0 ≤ r := by
  obtain ⟨h1, h2, h3, kd, h4⟩ := hw.kid_rank (List.mem_of_getElem? h)
  refine ⟨h1, ?_, h2⟩
  obtain ⟨j, j1, j2, j3, _⟩ := hw.idx_kid (id := k) (by omega)
  rw [h1] at j2 j3
  rw [j1]
  have hn : (T.kidsOf r).Nodup := by
    unfold Tr.kidsOf
    cases hg : T.get? r with
    | none => simp
    | some nd => exact (hw.kids _ nd (Tr.get_lt hg).2.2).1
  have hil := (List.getElem?_eq_some_iff.1 h).1
  have : j = i := (List.getElem?_inj j3 hn).1 (j2.trans h.symm)
  rw [this]
theorem WF.path_inj (hw : WF T d) {x y : Int} (h : T.pathOf x = T.pathOf y) (hr : T.rootOf x = T.rootOf y) : x = y := by
  have h1 := hw.walk_path x
  have h2 := hw.walk_path y
  rw [h, hr, h2] at h1
  injection h1 with h1
  exact h1.symm
theorem WF.win_iff (hw : WF T d) {outer : Int} {od : Nd} (ho : T.get? outer = some od) : ∀ id, (∃ nd, T.get? id = some nd) → (T.win id outer = true ↔ ∃ q, T.pathOf id = T.pathOf outer ++ q ∧ T.rootOf id = T.rootOf outer) := by
  refine hw.down _ (fun id h => ?_) (fun id h ih => ?_)
  · rintro ⟨nd, hg⟩
    rw [hw.win_step hg, hw.win_none (x := T.up id) (Tr.get_neg T (by omega)), Bool.or_false, decide_eq_true_eq]
    constructor
    · rintro rfl; exact ⟨[], by simp, rfl⟩
    · rintro ⟨q, h1, h2⟩
      rw [hw.path_step id, if_neg h] at h1
      have h3 : T.pathOf outer = [] := by
        cases hp : T.pathOf outer with
        | nil => rfl
        | cons a l => rw [hp] at h1; simp at h1
      exact hw.path_inj (by rw [h3, hw.path_step id, if_neg h]) h2
  · rintro ⟨nd, hg⟩
    rw [hw.win_step hg]
    simp only [Bool.or_eq_true, decide_eq_true_eq]
    rw [ih (hw.up_get h)]
    constructor
    · rintro (rfl | ⟨q, h1, h2⟩)
      · exact ⟨[], by simp, rfl⟩
      · refine ⟨q ++ [T.idx id], ?_, ?_⟩
        · rw [hw.path_step id, if_pos h, h1, List.append_assoc]
        · rw [hw.root_step id, if_pos h, h2]
    · rintro ⟨q, h1, h2⟩
      rcases List.eq_nil_or_concat q with rfl | ⟨q', z, rfl⟩
      · exact .inl (hw.path_inj (by simpa using h1) h2)
      · refine .inr ⟨q', ?_, ?_⟩
        · rw [hw.path_step id, if_pos h] at h1
          have h1' : T.pathOf (T.up id) ++ [T.idx id] = (T.pathOf outer ++ q') ++ [z] := by rw [h1]; simp
          exact (List.append_inj' h1' rfl).1
        · rw [hw.root_step id, if_pos h] at h2; exact h2
end
def runes (s : ByteArray) : Nat := (runeList s s.size 0).length
def Tr.lengthOf (T : Tr) (id : Int) : Int := if T.tagOf id = -1 then -1 else if T.tagOf id = 0 then (runes (T.txt id) : Int) else ((T.kidsOf id).length : Int)
theorem AttrsOk.txt {T : Tr} (hA : AttrsOk T) (id : Int) : (T.txt id).size ≤ 8192 := by
  unfold Tr.txt
  cases hg : T.get? id with
  | none => simp
  | some nd => exact (hA _ nd (Tr.get_lt hg).2.2).2
theorem decode_wide (s : ByteArray) (pos : Nat) (h : pos < s.size) : 1 ≤ (Utf8.decode s pos).2 := by
  by_cases ha : (s[pos]'h).toNat < 128
  · rw [decode_ascii s pos h ha]; exact Nat.le_refl _
  · exact (decode_high s pos h (by omega)).2
theorem runes_le (s : ByteArray) : runes s ≤ s.size := runeList_len s s.size 0
theorem Length_any {w : World} {tb : Nat} {T : Tr} (hT : TAt w tb T) {d : Nat → Nat} (hw : WF T d) (hA : AttrsOk T) (id : Int) : Calls Tryz.prog 44 #[.pointer (some ⟨tb, 0, none⟩), .int .i64 id] w (RVal (.int .i64 (T.lengthOf id)) w) := by
  obtain ⟨z, hz⟩ : ∃ z, T.tagOf id = z := ⟨_, rfl⟩
  have HL := qh (show T.lengthOf id = if z = -1 then -1 else if z = 0 then (runes (T.txt id) : Int) else ((T.kidsOf id).length : Int) by unfold Tr.lengthOf; rw [hz])
  have HZ := qh hz
  clear hz
  by_cases h1 : z = -1
  · subst h1
    go_enter Tryz.func44, Tryz.ntmps44
    go_wp2_with fail
    refine (at_tag' hT id HZ.out).mono ?_
    rintro e w1 ⟨rfl, hx1⟩
    go_wp2_with fail
    go_ret
    exact ⟨by rw [HL.out]; rfl, hx1⟩
  · by_cases h0 : z = 0
    · subst h0
      obtain ⟨s, hs⟩ : ∃ s, T.txt id = s := ⟨_, rfl⟩
      have hsz := hA.txt id
      rw [hs] at hsz
      have hrl := runes_le s
      have HTX := qh (show ∀ (u : World), TAt u tb T → Calls Tryz.prog 49 #[.pointer (some ⟨tb, 0, none⟩), .int .i64 id] u (RVal (.string s) u) from fun u h => hs ▸ at_told h id)
      have HS := qh hs
      clear hs
      go_enter Tryz.func44, Tryz.ntmps44
      go_wp2_with fail
      refine (at_tag' hT id HZ.out).mono ?_
      rintro e w1 ⟨rfl, hx1⟩
      go_wp2_with fail
      refine (HTX.out _ (hT.ext hx1)).mono ?_
      rintro e w2 ⟨rfl, hx2⟩
      replace hx2 := hx1.trans hx2
      go_wp2_with fail
      go_loopw [5] (fun n wr => ∃ (pos b k : Nat), wr = w2.iter s pos ∧ n = .int .i64 k ∧ k ≤ 8192 ∧ Hid (k + (runeList s b pos).length = runes s ∧ s.size ≤ pos + b)) (fun _ wr => s.size - wr.iterPos w2.heap.size)
      case atStart => exact ⟨0, s.size, 0, rfl, rfl, by omega, qh ⟨by unfold runes; omega, by omega⟩⟩
      case round =>
        obtain ⟨pos, b, k, rfl, rfl, hk, hb⟩ := hrel
        by_cases hp : pos < s.size
        · have hnx : ∀ ty, (Instr.next (.pointer (some ⟨w2.heap.size, 0, none⟩)) true ty).run Tryz.prog (w2.iter s pos) = _ := fun ty => run_next_any w2 s pos ty hp
          have hwd := decode_wide s pos hp
          have hk2 : k + 1 ≤ runes s ∧ ∃ c, b = c + 1 ∧ (k + 1) + (runeList s c (pos + (Utf8.decode s pos).2)).length = runes s := by
            obtain ⟨h1, h2⟩ := hb.out
            cases b with
            | zero => omega
            | succ c =>
              unfold runeList at h1
              rw [if_pos hp] at h1
              simp at h1
              exact ⟨by omega, c, rfl, by omega⟩
          have HK2 := qh hk2
          have HWD := qh hwd
          clear hk2 hwd
          go_wp2_with fail
          go_roundw
          case rel =>
            obtain ⟨h1, c, rfl, h2⟩ := HK2.out
            have h3 := hb.out.2
            have h4 := HWD.out
            exact ⟨pos + (Utf8.decode s pos).2, c, k + 1, rfl, by go_num, by omega, qh ⟨h2, by omega⟩⟩
          case measure => have := HWD.out; simp; omega
        · have hnx : ∀ ty, (Instr.next (.pointer (some ⟨w2.heap.size, 0, none⟩)) true ty).run Tryz.prog (w2.iter s pos) = _ := fun ty => run_next_end w2 s pos ty hp
          go_wp2_with fail
          go_ret
          refine ⟨?_, hx2.alloc _⟩
          have hk3 : k = runes s := by
            obtain ⟨h1, h2⟩ := hb.out
            cases b with
            | zero => simpa [runeList] using h1
            | succ c => unfold runeList at h1; rw [if_neg hp] at h1; simpa using h1
          rw [HL.out, HS.out, hk3]; rfl
    · obtain ⟨l, hl⟩ : ∃ l, T.kidsOf id = l := ⟨_, rfl⟩
      have hlen := hw.kidsOf_len id
      rw [hl] at hlen
      have HK := qh hl
      clear hl
      go_enter Tryz.func44, Tryz.ntmps44
      go_wp2_with fail
      refine (at_tag' hT id HZ.out).mono ?_
      rintro e w1 ⟨rfl, hx1⟩
      go_wp2_with fail
      refine (at_kids' (hT.ext hx1) hw id HK.out).mono ?_
      rintro e w2 ⟨ao, cap, rfl, hcap, hcell, hx2⟩
      clear hcell
      go_wp2_with fail
      go_ret
      exact ⟨by rw [HL.out, if_neg h1, if_neg h0, HK.out]; rfl, hx1.trans hx2⟩
def Tr.may (T : Tr) (id at' : Int) : Bool := decide (0 ≤ at') && decide (at' ≤ T.lengthOf id)
theorem May_any {w : World} {tb : Nat} {T : Tr} (hT : TAt w tb T) {d : Nat → Nat} (hw : WF T d) (hA : AttrsOk T) (id at' : Int) : Calls Tryz.prog 24 #[.pointer (some ⟨tb, 0, none⟩), .agg #[.int .i64 id, .int .i64 at']] w (RVal (.bool (T.may id at')) w) := by
  have hm : T.may id at' = (decide (0 ≤ at') && decide (at' ≤ T.lengthOf id)) := rfl
  have hx1 := (Ext.refl w).alloc (.cells #[.int .i64 id, .int .i64 at'] 53)
  have h2 := Two.new w (.int .i64 id) (.int .i64 at') 53
  have HM := qh hm
  clear hm
  go_enter Tryz.func24, Tryz.ntmps24
  go_upto_region 1 with fail
  obtain ⟨wb, hwb⟩ : ∃ wb : World, wb = w.alloc (.cells #[.int .i64 id, .int .i64 at'] 53) := ⟨_, rfl⟩
  rw [← hwb] at hx1 h2 ⊢
  clear hwb
  obtain ⟨c0, c1, _, _⟩ := h2
  have c0' := fun u : ExtOf wb => u.ext.cell c0
  have c1' := fun u : ExtOf wb => u.ext.cell c1
  by_cases h0 : 0 ≤ at'
  · obtain ⟨z, hz⟩ : ∃ z, T.lengthOf id = z := ⟨_, rfl⟩
    have HLN := qh (show ∀ (u : World), TAt u tb T → Calls Tryz.prog 44 #[.pointer (some ⟨tb, 0, none⟩), .int .i64 id] u (RVal (.int .i64 z) u) from fun u h => hz ▸ Length_any h hw hA id)
    have HZ := qh hz
    clear hz
    refine wp_region_ext (by kernel_rfl) (by kernel_rfl) ?_
    repeat (go_big_quiet_step ((go_at_call 44; exact inExt (HLN.out _ (hT.ext (hx1.trans (ExtOf.ext _)))))))
    refine wpQuiet_nil ?_
    rintro _ ⟨u, rfl⟩
    go_wp2_with fail
    go_ret
    exact ⟨by rw [HM.out, HZ.out]; simp [h0], hx1.trans u.ext⟩
  · refine wp_region_ext (by kernel_rfl) (by kernel_rfl) ?_
    repeat (go_big_quiet_step (fail))
    refine wpQuiet_nil ?_
    rintro _ ⟨u, rfl⟩
    go_wp2_with fail
    go_ret
    exact ⟨by rw [HM.out]; simp; omega, hx1.trans u.ext⟩
def PathIs (l : List Int) (w : World) (e : Ending) (w' : World) : Prop := ∃ v, e = .returned v ∧ RowRd w' 1 v l.length (l.map (Value.int .i64)) ∧ Ext w w' ∧ ∀ y, v.ownBlock = some y → l = [] ∨ w.heap.size ≤ y
def Tr.preF (T : Tr) : Nat → Int → List Int
  | 0, id => [id]
  | f + 1, id => id :: (T.kidsOf id).flatMap (T.preF f)
def Tr.pre (T : Tr) (id : Int) : List Int := T.preF 50 id
def Tr.allOf (T : Tr) (id : Int) : List Int := match T.get? id with | none => [] | some _ => T.pre id
theorem flatMap_congr' {α β : Type} {l : List α} {f g : α → List β} (h : ∀ x ∈ l, f x = g x) : l.flatMap f = l.flatMap g := by
  induction l with
  | nil => rfl
  | cons a l ih => rw [List.flatMap_cons, List.flatMap_cons, h a (by simp), ih fun x hx => h x (by simp [hx])]
section
variable {T : Tr} {d : Nat → Nat}
theorem WF.pre_more (hw : WF T d) : ∀ (f g : Nat) (id : Int), 42 ≤ T.rank d id + f → 42 ≤ T.rank d id + g → T.preF f id = T.preF g id := by
  intro f
  induction f with
  | zero => intro g id h; have := hw.rank_le id; omega
  | succ f ih =>
    intro g id h1 h2
    cases g with
    | zero => have := hw.rank_le id; omega
    | succ g =>
      simp only [Tr.preF]
      congr 1
      refine flatMap_congr' fun k hk => ?_
      obtain ⟨_, _, h3, _⟩ := hw.kid_rank hk
      exact ih g k (by omega) (by omega)
theorem WF.pre_step (hw : WF T d) (id : Int) : T.pre id = id :: (T.kidsOf id).flatMap T.pre := by
  show id :: (T.kidsOf id).flatMap (T.preF 49) = _
  congr 1
  exact flatMap_congr' fun k hk => hw.pre_more 49 50 k (by obtain ⟨_, _, h3, _⟩ := hw.kid_rank hk; omega) (by omega)
theorem WF.rise (hw : WF T d) (P : Int → Prop) (h : ∀ id, (∀ k ∈ T.kidsOf id, P k) → P id) : ∀ id, P id := by
  have key : ∀ (n : Nat) (id : Int), 42 ≤ T.rank d id + n → P id := by
    intro n
    induction n with
    | zero => intro id h1; have := hw.rank_le id; omega
    | succ n ih =>
      intro id h1
      refine h id fun k hk => ?_
      obtain ⟨_, _, h3, _⟩ := hw.kid_rank hk
      exact ih k (by omega)
  exact fun id => key 42 id (by omega)
def IsChain (T : Tr) (l : List Int) (z : Int) : Prop := ∀ (i : Nat) (x : Int), l[i]? = some x → T.next x = (l[i + 1]?).getD z
theorem IsChain.append {l1 l2 : List Int} {y z : Int} (h1 : IsChain T l1 y) (h2 : IsChain T l2 z) (hy : l2.head? = some y) : IsChain T (l1 ++ l2) z := by
  intro i x hx
  by_cases hi : i < l1.length
  · rw [List.getElem?_append_left hi] at hx
    rw [h1 i x hx]
    by_cases hi2 : i + 1 < l1.length
    · rw [List.getElem?_append_left hi2]
      rw [List.getElem?_eq_getElem hi2]; rfl
    · rw [List.getElem?_append_right (by omega), show i + 1 - l1.length = 0 by omega, ← List.head?_eq_getElem?, hy, List.getElem?_eq_none (by omega)]; rfl
  · rw [List.getElem?_append_right (by omega)] at hx
    rw [h2 _ x hx, List.getElem?_append_right (by omega), show i - l1.length + 1 = i + 1 - l1.length by omega]
theorem WF.behind_step (hw : WF T d) (id : Int) : T.behind id = if 0 ≤ T.up id then (T.sib id).getD (T.behind (T.up id)) else -1 := hw.goUp_step (fun x r => (T.sib x).getD r) (fun _ => -1) id
theorem WF.behind_kid (hw : WF T d) {id k : Int} {j : Nat} (h : (T.kidsOf id)[j]? = some k) : T.behind k = ((T.kidsOf id)[j + 1]?).getD (T.behind id) := by
  obtain ⟨h1, h2, h3⟩ := hw.kid_idx h
  rw [hw.behind_step k, h1, if_pos h3]
  have : T.sib k = (T.kidsOf id)[j + 1]? := by unfold Tr.sib; rw [h1, h2, Int.toNat_natCast]
  rw [this]
theorem WF.pre_head (hw : WF T d) (id : Int) : (T.pre id).head? = some id := by rw [hw.pre_step]; rfl
theorem WF.chain (hw : WF T d) : ∀ id, IsChain T (T.pre id) (T.behind id) := by
  refine hw.rise _ fun id ih => ?_
  have key : ∀ (ks : List Int) (j : Nat), T.kidsOf id = (T.kidsOf id).take j ++ ks → j + ks.length = (T.kidsOf id).length → IsChain T (ks.flatMap T.pre) (T.behind id) := by
    intro ks
    induction ks with
    | nil => intro j _ _ i x hx; simp at hx
    | cons k r ihr =>
      intro j he hl
      have hjk : (T.kidsOf id)[j]? = some k := by
        rw [he, List.getElem?_append_right (by rw [List.length_take]; omega), List.length_take, show j - min j (T.kidsOf id).length = 0 by simp at hl; omega]; rfl
      have hb := hw.behind_kid hjk
      have hk := ih k (List.mem_of_getElem? hjk)
      have hr := ihr (j + 1) (by
        have hlt := (List.getElem?_eq_some_iff.1 hjk).1
        have e2 := (List.getElem?_eq_some_iff.1 hjk).2
        rw [List.take_succ_eq_append_getElem hlt, e2, List.append_assoc]; exact he) (by simp at hl; omega)
      rw [List.flatMap_cons]
      cases r with
      | nil =>
        rw [List.getElem?_eq_none (by simp at hl; omega)] at hb
        rw [List.flatMap_nil, List.append_nil]
        have hb' : T.behind k = T.behind id := hb
        rw [← hb']; exact hk
      | cons k' r' =>
        have hjk' : (T.kidsOf id)[j + 1]? = some k' := by
          rw [he, List.getElem?_append_right (by rw [List.length_take]; omega), List.length_take, show j + 1 - min j (T.kidsOf id).length = 1 by simp at hl; omega]; rfl
        rw [hjk'] at hb
        have hb' : T.behind k = k' := hb
        rw [hb'] at hk
        refine hk.append hr ?_
        rw [List.flatMap_cons, List.head?_append, hw.pre_head k']; rfl
  have hrest := key (T.kidsOf id) 0 (by simp) (by simp)
  rw [hw.pre_step]
  intro i x hx
  cases i with
  | zero =>
    simp at hx
    subst hx
    unfold Tr.next
    cases hk : T.kidsOf id with
    | nil => rfl
    | cons k r =>
      show k = _
      simp only [List.getElem?_cons_succ, List.flatMap_cons]
      have := hw.pre_head k
      rw [hw.pre_step k]; rfl
  | succ i =>
    simp only [List.getElem?_cons_succ] at hx ⊢
    exact hrest i x hx
theorem WF.pre_in (hw : WF T d) : ∀ id, (∃ nd, T.get? id = some nd) → ∀ x ∈ T.pre id, (∃ xd, T.get? x = some xd) ∧ T.rootOf x = T.rootOf id ∧ ∃ q, T.pathOf x = T.pathOf id ++ q := by
  refine hw.rise _ fun id ih hg x hx => ?_
  rw [hw.pre_step] at hx
  rcases List.mem_cons.1 hx with rfl | hx
  · exact ⟨hg, rfl, [], by simp⟩
  · obtain ⟨k, hk, hxk⟩ := List.mem_flatMap.1 hx
    obtain ⟨h1, h2, _, hkg⟩ := hw.kid_rank hk
    obtain ⟨i1, i2, q, i3⟩ := ih k hk hkg x hxk
    refine ⟨i1, ?_, T.idx k :: q, ?_⟩
    · rw [i2, hw.root_step k, h1, if_pos h2]
    · rw [i3, hw.path_step k, h1, if_pos h2]; simp
theorem WF.behind_path (hw : WF T d) : ∀ id, T.behind id = -1 ∨ ∃ (p : List Int) (j : Int) (q : List Int), T.pathOf id = p ++ j :: q ∧ T.pathOf (T.behind id) = p ++ [j + 1] ∧ T.rootOf (T.behind id) = T.rootOf id ∧ ∃ nd, T.get? (T.behind id) = some nd := by
  refine hw.down _ (fun id h => ?_) (fun id h ih => ?_)
  · rw [hw.behind_step, if_neg h]; exact .inl rfl
  · obtain ⟨j, j1, j2, j3, j4⟩ := hw.idx_kid h
    have hb := hw.behind_kid j2
    cases hs : (T.kidsOf (T.up id))[j + 1]? with
    | some y =>
      rw [hs] at hb
      have hb' : T.behind id = y := hb
      obtain ⟨k1, k2, k3⟩ := hw.kid_idx hs
      obtain ⟨_, _, _, kg⟩ := hw.kid_rank (List.mem_of_getElem? hs)
      rw [hb']
      refine .inr ⟨T.pathOf (T.up id), j, [], ?_, ?_, ?_, kg⟩
      · rw [hw.path_step id, if_pos h, j1]
      · rw [hw.path_step y, k1, if_pos k3, k2]; simp
      · rw [hw.root_step y, k1, if_pos k3, hw.root_step id, if_pos h]
    | none =>
      rw [hs] at hb
      have hb' : T.behind id = T.behind (T.up id) := hb
      rw [hb']
      rcases ih with h1 | ⟨p, i, q, h1, h2, h3, h4⟩
      · exact .inl h1
      · refine .inr ⟨p, i, q ++ [T.idx id], ?_, h2, ?_, h4⟩
        · rw [hw.path_step id, if_pos h, h1]; simp
        · rw [h3, hw.root_step id, if_pos h]
theorem get_nonneg {T : Tr} {x : Int} (h : ∃ nd, T.get? x = some nd) : 0 ≤ x := by obtain ⟨nd, h⟩ := h; exact (Tr.get_lt h).1
theorem WF.pre_not (hw : WF T d) {id x : Int} (hg : ∃ nd, T.get? id = some nd) (hx : x ∈ T.pre id) : x ≠ T.behind id := by
  obtain ⟨h1, h2, r, h3⟩ := hw.pre_in id hg x hx
  rcases hw.behind_path id with h | ⟨p, j, q, h4, h5, _⟩
  · have := get_nonneg h1; omega
  · intro e
    rw [← e, h3, h4, List.append_assoc] at h5
    have h6 := List.append_cancel_left h5
    simp at h6
    omega
theorem WF.pre_nodup (hw : WF T d) {id : Int} (hg : ∃ nd, T.get? id = some nd) : (T.pre id).Nodup := by
  have hc := hw.chain id
  have step : ∀ (m i j : Nat) (x : Int), (T.pre id)[i]? = some x → (T.pre id)[j]? = some x → ((T.pre id)[i + m]?).getD (T.behind id) = ((T.pre id)[j + m]?).getD (T.behind id) := by
    intro m
    induction m with
    | zero => intro i j x h1 h2; rw [Nat.add_zero, Nat.add_zero, h1, h2]
    | succ m ih =>
      intro i j x h1 h2
      have e1 := hc i x h1
      have e2 := hc j x h2
      rw [e1] at e2
      cases hi : (T.pre id)[i + 1]? with
      | some y =>
        rw [hi] at e2
        have e3 : y = ((T.pre id)[j + 1]?).getD (T.behind id) := e2
        cases hj : (T.pre id)[j + 1]? with
        | some y' =>
          rw [hj] at e3
          have e4 : y = y' := e3
          subst e4
          have := ih (i + 1) (j + 1) y hi hj
          rw [show i + 1 + m = i + (m + 1) by omega, show j + 1 + m = j + (m + 1) by omega] at this
          exact this
        | none =>
          rw [hj] at e3
          exact absurd e3 (hw.pre_not hg (List.mem_of_getElem? hi))
      | none =>
        rw [hi] at e2
        have e3 : T.behind id = ((T.pre id)[j + 1]?).getD (T.behind id) := e2
        have hi' := List.getElem?_eq_none_iff.1 hi
        cases hj : (T.pre id)[j + 1]? with
        | some y' =>
          rw [hj] at e3
          have e4 : T.behind id = y' := e3
          exact absurd e4.symm (hw.pre_not hg (List.mem_of_getElem? hj))
        | none =>
          have hj' := List.getElem?_eq_none_iff.1 hj
          rw [List.getElem?_eq_none (by omega), List.getElem?_eq_none (by omega)]
  refine List.pairwise_iff_getElem.2 fun i j hi hj hij he => ?_
  obtain ⟨x, hx⟩ : ∃ x, (T.pre id)[j]? = some x := ⟨(T.pre id)[j], by simp [hj]⟩
  have hxi : (T.pre id)[i]? = some x := by
    rw [List.getElem?_eq_getElem hi, he, ← List.getElem?_eq_getElem hj]; exact hx
  have h1 := step ((T.pre id).length - j) i j x hxi hx
  rw [show j + ((T.pre id).length - j) = (T.pre id).length by omega, List.getElem?_eq_none (Nat.le_refl _)] at h1
  have hlt : i + ((T.pre id).length - j) < (T.pre id).length := by omega
  rw [List.getElem?_eq_getElem hlt] at h1
  exact absurd h1 (hw.pre_not hg (List.getElem_mem hlt))
theorem WF.pre_len (hw : WF T d) : ∀ id, (∃ nd, T.get? id = some nd) → (T.pre id).length = (T.plain id).size := by
  refine hw.rise _ fun id ih hg => ?_
  obtain ⟨nd, hg⟩ := hg
  obtain ⟨i, rfl, hi⟩ := nat_of hg
  have hk : T.kidsOf (i : Int) = nd.kids := by unfold Tr.kidsOf; rw [hg]
  rw [hw.pre_step, hw.plain_eq hi, PN.size_eq, hk, List.length_cons]
  congr 1
  have : ∀ l : List Int, (∀ k ∈ l, k ∈ nd.kids) → (l.flatMap T.pre).length = PN.sizes (l.map T.plain) := by
    intro l
    induction l with
    | nil => intro _; rfl
    | cons k r ihr =>
      intro h
      rw [List.flatMap_cons, List.length_append, List.map_cons, PN.sizes, ihr fun x hx => h x (by simp [hx])]
      have hkk : k ∈ T.kidsOf (i : Int) := by rw [hk]; exact h k (by simp)
      rw [ih k hkk (hw.kid_rank hkk).2.2.2]
  exact this nd.kids fun k hk => hk
theorem WF.pre_2000 (hw : WF T d) {id : Int} (hg : ∃ nd, T.get? id = some nd) : (T.pre id).length ≤ 2000 := by
  rw [hw.pre_len id hg]
  obtain ⟨nd, hg⟩ := hg
  obtain ⟨i, rfl, hi⟩ := nat_of hg
  have h1 := hw.rid_size hi
  have h2 : 0 ≤ (T.rid fun j => T.within j i).count := Int.natCast_nonneg _
  have h3 := hw.small.count1
  have h4 := hw.small.cap1
  omega
end
end Go.Proofs.YtfibikkcfmohjaaGreat
namespace Go.Proofs.YtfibikkcfmohjaaGreat
open Go Go.RowKit Go.BigFrame Go.Shelf
attribute [local go_sem] Oper.semAt_some

structure TLow (n₀ : Nat) (w : World) (tb : Nat) (T : Tr) : Prop where
  out : ∃ own ptr, TreeAt w own ptr tb T ∧ ∀ b, own b ≠ none → b < n₀
theorem TLow.below {n₀ : Nat} {w w' : World} {tb : Nat} {T : Tr} (h : TLow n₀ w tb T) (x : Below n₀ w w') : TLow n₀ w' tb T := by
  obtain ⟨own, ptr, hT, hO⟩ := h.out
  exact ⟨own, ptr, hT.keep fun b hb => Below.block x b (hO b hb), hO⟩
theorem TLow.tat {n₀ : Nat} {w : World} {tb : Nat} {T : Tr} (h : TLow n₀ w tb T) (hn : n₀ ≤ w.heap.size) : TAt w tb T := by
  obtain ⟨own, ptr, hT, hO⟩ := h.out
  exact ⟨own, ptr, hT, fun b hb => Nat.lt_of_lt_of_le (hO b hb) hn⟩
theorem TAt.low {w : World} {tb : Nat} {T : Tr} (h : TAt w tb T) : TLow w.heap.size w tb T := by
  obtain ⟨own, ptr, hT, hO⟩ := h.out
  exact ⟨own, ptr, hT, hO⟩
theorem Ext.grownBy {w w' : World} (x : Ext w w') : w.grownBy w' none := ⟨x.os, x.tape, x.output, x.size, fun k hk _ => Below.block x k hk⟩
theorem abides_ext {β : Type} {B : Nat} {J : β → World → Prop} (h : AbidesFrom B J) {s : β} {w w' : World} (hs : J s w) (x : Ext w w') : J s w' := h s w w' none hs x.grownBy fun r e => by cases e
def KpB (n₀ Bt Bi : Nat) (w w' : World) : Prop := Below n₀ w w' ∧ ∀ b, b = Bt ∨ b = Bi → b < w.heap.size → w'.heap[b]? = w.heap[b]?
theorem KpB.trans {n₀ Bt Bi : Nat} {a b c : World} (h : KpB n₀ Bt Bi a b) (k : KpB n₀ Bt Bi b c) : KpB n₀ Bt Bi a c :=
  ⟨h.1.trans k.1, fun x hx hl => (k.2 x hx (Nat.lt_of_lt_of_le hl (Below.size h.1))).trans (h.2 x hx hl)⟩
theorem KpB.cell {n₀ Bt Bi : Nat} {a b : World} (h : KpB n₀ Bt Bi a b) {x : Nat} (hx : x = Bt ∨ x = Bi) {v : Value} (hc : a.cell? ⟨x, 0, none⟩ = some v) : b.cell? ⟨x, 0, none⟩ = some v :=
  (World.cell?_of_block (a := ⟨x, 0, none⟩) (h.2 x hx (cell_lt hc))).trans hc
theorem idx_at {L : List Int} (hn : L.Nodup) {k : Nat} {x : Int} (h : L[k]? = some x) : L.idxOf x = k := by
  have h1 := nodup_pos hn h
  have h2 := (posOf_mem (List.mem_of_getElem? h)).1
  rw [h1] at h2
  omega
theorem within1_in {tb : Nat} {T : Tr} {d : Nat → Nat} (hw : WF T d) (id : Int) (n : Nat) (hn : 1 ≤ n) (l Bt Bi n₀ : Nat) (J Jx : List Int → World → Prop)
    (hY : ∀ pre x W, J pre W → pre.length < (T.allOf id).length → YieldAt Fence.wide (n - 1) Tryz.prog l #[.int .i64 x] W fun e W' =>
      (e = .returned (.bool true) ∧ J (pre ++ [x]) W' ∧ KpB n₀ Bt Bi W W') ∨ (e = .returned (.bool false) ∧ Jx (pre ++ [x]) W'))
    (W : World) (hJ : AbidesFrom W.heap.size J) (hct : W.cell? ⟨Bt, 0, none⟩ = some (.pointer (some ⟨tb, 0, none⟩))) (hci : W.cell? ⟨Bi, 0, none⟩ = some (.int .i64 id)) (hn0 : n₀ ≤ W.heap.size) (hL : TLow n₀ W tb T) (h0 : J [] W) :
    CallsIn Fence.wide n Tryz.prog 167 #[.func (.yield l) #[] #[], .pointer (some ⟨Bt, 0, none⟩), .pointer (some ⟨Bi, 0, none⟩)] W fun e W' => (∃ v, e = .returned v) ∧
      ((∃ ys, ys = T.allOf id ∧ J ys W') ∨ (∃ pre, pre <+: T.allOf id ∧ Jx pre W')) := by
  have HL := qh hL
  have HJ := qh hJ
  have HY := qh hY
  have H0 := qh h0
  clear hL hJ hY h0
  cases hg : T.get? id with
  | none =>
    have HE := qh (show T.allOf id = [] by unfold Tr.allOf; rw [hg])
    have HG := qh hg
    clear hg
    refine callsIn_of_wp Tryz.func167 rfl trivial ?_ rfl
    simp only [Tryz.ntmps167, List.size_toArray, List.length_cons, List.length_nil, Nat.reduceAdd, Nat.reduceSub, Array.replicate_succ, Array.replicate_zero, List.push_toArray, List.append_toArray, List.nil_append, List.cons_append]
    gi_wp2_with (refine ⟨trivial, ?_⟩; gi_at_call 26; refine (callsIn_wide.2 (at_has_no (HL.out.tat hn0) HG.out)).mono ?_; rintro e w2 ⟨rfl, hx2⟩)
    refine bodyPost_ret (results_none rfl _ _ _) rfl ?_
    exact ⟨⟨_, rfl⟩, .inl ⟨[], HE.out.symm, abides_ext HJ.out H0.out hx2⟩⟩
  | some nd =>
    obtain ⟨L, hLd⟩ : ∃ L, T.allOf id = L := ⟨_, rfl⟩
    have hpre : T.allOf id = T.pre id := by unfold Tr.allOf; rw [hg]
    rw [hLd] at hpre
    obtain ⟨z, hz⟩ : ∃ z, T.behind id = z := ⟨_, rfl⟩
    have hch : ∀ (i : Nat) (x : Int), L[i]? = some x → T.next x = (L[i + 1]?).getD z := by rw [hpre, ← hz]; exact hw.chain id
    have hin : ∀ x ∈ L, 0 ≤ x ∧ x ≠ z := fun x hx => by
      rw [hpre] at hx
      exact ⟨get_nonneg (hw.pre_in id ⟨nd, hg⟩ x hx).1, by rw [← hz]; exact hw.pre_not ⟨nd, hg⟩ hx⟩
    have hnd : L.Nodup := by rw [hpre]; exact hw.pre_nodup ⟨nd, hg⟩
    have hhd : L[0]? = some id := by rw [hpre, ← List.head?_eq_getElem?]; exact hw.pre_head id
    have HZ := qh hz
    have HG := qh hg
    have HCH := qh hch
    have HIN := qh hin
    have HND := qh hnd
    have HHD := qh hhd
    have HLD := qh hLd
    rw [hLd] at HY ⊢
    clear hg hLd hpre hz hch hin hnd hhd
    have HBH := qh (show ∀ u, TAt u tb T → Calls Tryz.prog 168 #[.pointer (some ⟨tb, 0, none⟩), .int .i64 id] u (RVal (.int .i64 z) u) from fun u h => HZ.out ▸ Behind_any h hw id)
    refine callsIn_of_wp Tryz.func167 rfl trivial ?_ rfl
    simp only [Tryz.ntmps167, List.size_toArray, List.length_cons, List.length_nil, Nat.reduceAdd, Nat.reduceSub, Array.replicate_succ, Array.replicate_zero, List.push_toArray, List.append_toArray, List.nil_append, List.cons_append]
    gi_wp2_with (first
      | (refine ⟨trivial, ?_⟩; gi_at_call 26; refine (callsIn_wide.2 (at_has_yes (HL.out.tat hn0) HG.out)).mono ?_; rintro e w2 ⟨rfl, hx2⟩; have hct2 := hx2.cell hct; have hci2 := hx2.cell hci)
      | (refine ⟨trivial, ?_⟩; gi_at_call 168; refine (callsIn_wide.2 (HBH.out _ ((HL.out.tat hn0).ext hx2))).mono ?_; rintro e w3 ⟨rfl, hx3⟩; have hct3 := hx3.cell hct2; have hci3 := hx3.cell hci2))
    have hx := hx2.trans hx3
    have HX := qh hx
    have H3 := qh (And.intro hct3 hci3)
    have HJ3 := qh (abides_ext HJ.out H0.out hx)
    clear hx2 hx3 hx hct hci hct2 hci2 hct3 hci3
    gi_loopw [5] (fun s wr => ∃ k : Nat, k ≤ L.length ∧ s = .int .i64 ((L[k]?).getD z) ∧ Hid (J (L.take k) wr ∧ TLow n₀ wr tb T ∧ n₀ ≤ wr.heap.size) ∧ wr.cell? ⟨Bt, 0, none⟩ = some (.pointer (some ⟨tb, 0, none⟩)) ∧ wr.cell? ⟨Bi, 0, none⟩ = some (.int .i64 id))
      (fun s wr => L.length - L.idxOf (intOf s))
    case atStart => exact ⟨0, Nat.zero_le _, by rw [HHD.out]; rfl, qh ⟨HJ3.out, HL.out.below (Below.mono HX.out hn0), Nat.le_trans hn0 HX.out.size⟩, H3.out.1, H3.out.2⟩
    case round =>
      obtain ⟨k, hk, rfl, hrest, hct, hci⟩ := hrel
      by_cases hlt : k < L.length
      · obtain ⟨x, hxk⟩ : ∃ x, L[k]? = some x := ⟨L[k], by simp [hlt]⟩
        obtain ⟨hx0, hxz⟩ := HIN.out x (List.mem_of_getElem? hxk)
        obtain ⟨nx, hnx⟩ : ∃ nx, (L[k + 1]?).getD z = nx := ⟨_, rfl⟩
        have hnext := HCH.out k x hxk
        rw [hnx] at hnext
        have HNX := qh hnx
        have HXK := qh hxk
        have HNT := qh (show ∀ u, TAt u tb T → Calls Tryz.prog 169 #[.pointer (some ⟨tb, 0, none⟩), .int .i64 x] u (RVal (.int .i64 nx) u) from fun u h => hnext ▸ Next_any h hw x)
        have hzx : (x != z) = true := by simpa using hxz
        obtain ⟨fn, tmps, assign, body, hy, hR⟩ := HY.out (L.take k) x wr hrest.out.1 (by rw [List.length_take]; omega)
        have htk : L.take k ++ [x] = L.take (k + 1) := by
          obtain ⟨_, e⟩ := List.getElem?_eq_some_iff.1 hxk
          rw [List.take_succ_eq_append_getElem hlt, e]
        rw [htk] at hR
        rw [hxk]
        have HTK := qh htk
        clear hnx hnext hxk htk
        simp only [Option.getD_some]
        have HMS := qh (show L.length - L.idxOf nx < L.length - L.idxOf x by
          rw [idx_at HND.out HXK.out]
          have h1 := HNX.out
          cases hk1 : L[k + 1]? with
          | some y =>
            rw [hk1] at h1
            have h2 : y = nx := h1
            subst h2
            rw [idx_at HND.out hk1]; omega
          | none =>
            rw [hk1] at h1
            have h2 : z = nx := h1
            subst h2
            rw [List.idxOf_eq_length (fun hm => (HIN.out z hm).2 rfl)]; omega)
        gi_wp2
        refine hR.mono ?_
        rintro e W3 (⟨rfl, hJ4, hk3⟩ | ⟨rfl, hJx3⟩)
        · have hct3 : W3.cell? ⟨Bt, 0, none⟩ = some (.pointer (some ⟨tb, 0, none⟩)) := hk3.cell (.inl rfl) hct
          have hci3 : W3.cell? ⟨Bi, 0, none⟩ = some (.int .i64 id) := hk3.cell (.inr rfl) hci
          have hlow := hrest.out.2.1.below hk3.1
          have hsz : n₀ ≤ W3.heap.size := Nat.le_trans hrest.out.2.2 (Below.size hk3.1)
          have HLW := qh (And.intro hlow hsz)
          have HJ4 := qh hJ4
          clear hlow hsz hk3 hJ4 hct hci
          gi_wp2_with (refine ⟨trivial, ?_⟩; gi_at_call 169; refine (callsIn_wide.2 (HNT.out _ (HLW.out.1.tat HLW.out.2))).mono ?_; rintro e w5 ⟨rfl, hx5⟩)
          go_roundw
          case rel =>
            have hs5 := hx5.size
            exact ⟨k + 1, by omega, by rw [HNX.out], qh ⟨abides_ext HJ.out HJ4.out hx5, HLW.out.1.below (Below.mono hx5 HLW.out.2), Nat.le_trans HLW.out.2 hs5⟩, hx5.cell hct3, hx5.cell hci3⟩
          case measure => simp only [intOf]; exact HMS.out
        · gi_wp2
          refine bodyPost_ret (results_none rfl _ _ _) rfl ?_
          exact ⟨⟨_, rfl⟩, .inr ⟨L.take (k + 1), List.take_prefix _ _, hJx3⟩⟩
      · obtain rfl : k = L.length := by omega
        have hnone : L[L.length]? = none := List.getElem?_eq_none (Nat.le_refl _)
        rw [hnone]
        simp only [Option.getD_none]
        have HJE := qh (show J L wr by have := hrest.out.1; rw [List.take_length] at this; exact this)
        clear hnone
        by_cases hz0 : 0 ≤ z
        · gi_wp2
          go_end0
          first | exact ⟨⟨_, rfl⟩, .inl ⟨L, rfl, HJE.out⟩⟩ | exact ⟨⟨_, rfl⟩, .inl HJE.out⟩
        · gi_wp2
          go_end0
          first | exact ⟨⟨_, rfl⟩, .inl ⟨L, rfl, HJE.out⟩⟩ | exact ⟨⟨_, rfl⟩, .inl HJE.out⟩
theorem within_any' (tb : Nat) (id : Int) (w : World) : Calls Tryz.prog 137 #[.pointer (some ⟨tb, 0, none⟩), .int .i64 id] w fun e w' => e = .returned (.func (.func 167) #[] #[.pointer (some ⟨w.heap.size, 0, none⟩), .pointer (some ⟨w.heap.size + 1, 0, none⟩)]) ∧ w' = (w.alloc (.cells #[.pointer (some ⟨tb, 0, none⟩)] 46)).alloc (.cells #[.int .i64 id] 3) := by
  go_enter Tryz.func137, Tryz.ntmps137
  go_wp2_with fail
  go_ret
  exact ⟨rfl, rfl⟩
theorem within_stops {tb : Nat} {T : Tr} {d : Nat → Nat} (hw : WF T d) (id : Int) (n : Nat) (hn : 1 ≤ n) (Bt Bi n₀ : Nat) (w : World) (hct : w.cell? ⟨Bt, 0, none⟩ = some (.pointer (some ⟨tb, 0, none⟩))) (hci : w.cell? ⟨Bi, 0, none⟩ = some (.int .i64 id)) (hn0 : n₀ ≤ w.heap.size) (hL : TLow n₀ w tb T) :
    SeqStopsK Fence.wide n Tryz.prog 167 #[.pointer (some ⟨Bt, 0, none⟩), .pointer (some ⟨Bi, 0, none⟩)] (fun x : Int => #[Value.int .i64 x]) (KpB n₀ Bt Bi) (fun ys => ys = T.allOf id) (fun pre => pre <+: T.allOf id) (T.allOf id).length w := fun l J Jx W hW hJ _ hY h0 =>
  within1_in hw id n hn l Bt Bi n₀ J Jx hY W hJ ((hW.cell (p := ⟨Bt, 0, none⟩) (cell_lt hct)).trans hct) ((hW.cell (p := ⟨Bi, 0, none⟩) (cell_lt hci)).trans hci) (Nat.le_trans hn0 hW.size) (hL.below (hW.mono hn0)) h0
theorem ownsRow_less {W : World} {base base' : Nat} {e : TypeId} {size : Nat} {v : Value} {k : Nat} {xs : List Value} (h : W.ownsRow base e size v k xs) (hb : base' ≤ base) : W.ownsRow base' e size v k xs := by
  obtain ⟨h1, h2 | ⟨g, cap, cur, h2, h3, h4⟩⟩ := h
  · exact ⟨h1, .inl h2⟩
  · exact ⟨h1, .inr ⟨g, cap, cur, h2, Nat.le_trans hb h3, h4⟩⟩
theorem ownsRow_base {W : World} {base : Nat} {e : TypeId} {size : Nat} {v : Value} {k : Nat} {xs : List Value} (h : W.ownsRow base e size v k xs) : ∀ y, v.ownBlock = some y → base ≤ y := by
  obtain ⟨h1, h2 | ⟨g, cap, cur, rfl, h3, h4⟩⟩ := h
  · intro y hy; rw [h2.1] at hy; cases hy
  · intro y hy; cases hy; exact h3
theorem allOf_2000 {T : Tr} {d : Nat → Nat} (hw : WF T d) (id : Int) : (T.allOf id).length ≤ 2000 := by
  unfold Tr.allOf
  cases hg : T.get? id with
  | none => simp
  | some nd => exact hw.pre_2000 ⟨nd, hg⟩
theorem All_any {w : World} {tb : Nat} {T : Tr} (hT : TAt w tb T) {d : Nat → Nat} (hw : WF T d) (id : Int) : Calls Tryz.prog 78 #[.pointer (some ⟨tb, 0, none⟩), .int .i64 id] w (RRow 3 1 (T.allOf id).length ((T.allOf id).map (Value.int .i64)) w) := by
  obtain ⟨L, hL⟩ : ∃ L, T.allOf id = L := ⟨_, rfl⟩
  have hlen := allOf_2000 hw id
  rw [hL] at hlen
  obtain ⟨i0, hi, hz0, hz1, hz2⟩ := info_parts infoI
  have HL := qh hL
  rw [hL]
  clear hL
  refine (callsIn_wide (n := 5)).1 ?_
  refine callsIn_of_wp_marks Tryz.func78 rfl trivial ?_ rfl
  simp only [Tryz.ntmps78, List.size_toArray, List.length_cons, List.length_nil, Nat.reduceAdd, Nat.reduceSub, Array.replicate_succ, Array.replicate_zero, List.push_toArray, List.append_toArray, List.nil_append, List.cons_append]
  gi_wp2_with (refine ⟨trivial, ?_⟩; gi_at_call 137; refine (callsIn_wide.2 (within_any' tb id _)).mono ?_; rintro e w2 ⟨rfl, rfl⟩)
  have bO := Boxed.new w 50 (.slice none 0 0)
  have bN := Boxed.new (w.alloc (.cells #[.slice none 0 0] 50)) 46 (.pointer (some ⟨tb, 0, none⟩))
  have bI := Boxed.new ((w.alloc (.cells #[.slice none 0 0] 50)).alloc (.cells #[.pointer (some ⟨tb, 0, none⟩)] 46)) 3 (.int .i64 id)
  rw [show (w.alloc (.cells #[.slice none 0 0] 50)).heap.size = w.heap.size + 1 by simp] at bN
  rw [show ((w.alloc (.cells #[.slice none 0 0] 50)).alloc (.cells #[.pointer (some ⟨tb, 0, none⟩)] 46)).heap.size = w.heap.size + 1 + 1 by simp] at bI
  have hB0 : Below w.heap.size w (((w.alloc (.cells #[.slice none 0 0] 50)).alloc (.cells #[.pointer (some ⟨tb, 0, none⟩)] 46)).alloc (.cells #[.int .i64 id] 3)) := (((Below.refl _ w).alloc (Nat.le_refl _) _).alloc (by simp) _).alloc (by simp; omega) _
  have hLow := hT.low.below hB0
  rw [← HL.out]
  refine wpIn_rangeFunc_ownG rfl (by omega) (gf := 167) (lb := #[.pointer (some ⟨w.heap.size + 1, 0, none⟩), .pointer (some ⟨w.heap.size + 1 + 1, 0, none⟩)]) rfl trivial (enters_of Tryz.func167 (by kernel_rfl) rfl)
    (within_stops hw id 4 (by omega) (w.heap.size + 1) (w.heap.size + 1 + 1) w.heap.size _ (bN.alloc _).cell bI.cell (by simp; omega) hLow) ?hKt ?hKb (Below.refl _ _) (fun _ => rfl)
    (fun pre W => (∃ v, Boxed W w.heap.size 50 v ∧ W.ownsRow (w.heap.size + 3) 3 1 v pre.length (pre.map (Value.int .i64)) ∧ True) ∧ Below w.heap.size (((w.alloc (.cells #[.slice none 0 0] 50)).alloc (.cells #[.pointer (some ⟨tb, 0, none⟩)] 46)).alloc (.cells #[.int .i64 id] 3)) W)
    (fun _ _ _ => False)
    (OwnFrom.and (Own.from (holdsRow_own (w.heap.size + 3) w.heap.size 50 3 1 (fun pre : List Int => pre.length) (fun pre : List Int => pre.map (Value.int .i64)) (fun (_ : List Int) _ => True)) _) (ownFrom_below (by simp; omega) (by simp; omega)))
    (fun _ _ _ _ _ hs _ _ => hs)
    ⟨⟨_, (bO.alloc _).alloc _, World.ownsRow_nil _ _ _ _, trivial⟩, Below.refl _ _⟩
    (fun x => { tmps := #[.pointer (some ⟨tb, 0, none⟩), .int .i64 id, undef, undef, .slice none 0 0, .pointer (some ⟨w.heap.size, 0, none⟩), .int .i64 x, .pointer (some ⟨tb, 0, none⟩), .int .i64 id, .func (.func 167) #[] #[.pointer (some ⟨w.heap.size + 1, 0, none⟩), .pointer (some ⟨w.heap.size + 1 + 1, 0, none⟩)], .int .i64 x, undef, undef, undef, undef, undef], defers := [] }) ?assign ?body ?done ?stop
  case hKt => exact fun h k => h.trans k
  case hKb =>
    intro W l o o' hl ho hc hwk
    refine ⟨belowK_b (w := ((w.alloc (.cells #[.slice none 0 0] 50)).alloc (.cells #[.pointer (some ⟨tb, 0, none⟩)] 46)).alloc (.cells #[.int .i64 id] 3)) (by simp; omega) W l o o' hl ho hc hwk, fun b hb hlt => ?_⟩
    simp at hl
    have hne : l ≠ b := by omega
    simp [World.putObj, Array.getElem?_setIfInBounds, hne]
  case assign =>
    intro l x W K hK
    gi_wp2
    exact hK
  case body =>
    rintro l pre x W ⟨⟨v, hv, hrow, _⟩, hB⟩ hlt
    have hc := hv.cell
    have hsz : w.heap.size + 3 ≤ W.heap.size := by have := hB.size; simp at this; omega
    have hrow0 : W.ownsRow w.heap.size 3 1 v pre.length (pre.map (Value.int .i64)) := ownsRow_less hrow (by omega)
    have hob : ∀ y, v.ownBlock = some y → w.heap.size + 3 ≤ y := ownsRow_base hrow
    rw [HL.out] at hlt
    have HOB := qh hob
    have HR0 := qh hrow0
    clear hrow0 hob
    gi_wp2_with (gi_at_builtin; refine wpListIn_append_own _ rfl _ _ 50 rfl (w.heap.size + 3) 3 i0 (.int .i64 0) 1 8 Tryz.underlying50 hi hz0 hz1 hz2 rfl (by decide) _ _ _ rfl (hrow.alloc _) ⟨W.heap.size, 0, none⟩ 1 1 [.int .i64 x] rfl rfl (cell_one_new _ _ _) (by simp [Value.oneCell']) (by unfold maxLen; omega) (by omega) (by simp; omega) ?_; intro v' w1 hown' hgrow _; obtain ⟨g', cap', rfl⟩ := ownsRow_succ hown'; obtain ⟨hv1, hv2, hr2, hk2, hb2⟩ := hv.appended (by decide) HR0.out (by omega) (Nat.le_refl _) (ownsRow_less hown' (by omega)) hgrow; have hc1 := hv1.cell; have hf1 := hv1.frozen)
    refine ⟨hk2.from _, ⟨hb2, fun b hb hlt' => ?_⟩, ⟨_, hv2, by simpa using hown'.kept (grownBy_setCell' w1 w.heap.size _) (.inr (hv1.not_row (by decide) hown').symm), trivial⟩, hB.trans hb2⟩
    rw [heap_setCell_other (p := ⟨w.heap.size, 0, none⟩) _ (show b ≠ w.heap.size by omega)]
    refine (hgrow.block b (by simp; omega) fun e => ?_).trans (Below.heap_alloc _ _ _ hlt')
    have h9 : v.ownBlock = some b := e.symm
    have := HOB.out b h9
    omega
  case done =>
    rintro D ys W hD rfl ⟨⟨v, hv, hrow, _⟩, hB⟩ hK
    have hc := hv.cell
    gi_wp2
    refine ⟨by simp, .inl ⟨_, _, rfl, run_takeDeferred hK, ?_⟩⟩
    have hrow' := ownsRow_putObj (ownsRow_less hrow (show w.heap.size ≤ w.heap.size + 3 by omega)) (.deferred none) hK rfl
    rw [HL.out] at hrow'
    exact ⟨_, results_tmp rfl _ _ _, v, rfl, RowP.of_owns hrow', (hB0.trans hB).trans (belowK_b (w := w) (Nat.le_refl _) W D _ _ (by simp at hD; omega) hK rfl rfl)⟩
  case stop =>
    rintro D c pre W _ _ h _
    exact h.elim
end Go.Proofs.YtfibikkcfmohjaaGreat
namespace Go.Proofs.YtfibikkcfmohjaaGreat
open Go Go.RowKit
abbrev pl (n a : Int) : Value := .agg #[.int .i64 n, .int .i64 a]
def okI (z : Int) : Prop := -1 ≤ z ∧ z ≤ 1073741824

theorem above_any (n a p q : Int) (w : World) :
    Calls Tryz.prog 129 #[pl n a, .int .i64 p, .int .i64 q] w (RBool (decide (n = p) && decide (q < a)) w) := by
  by_cases h1 : n = p
  · subst h1
    by_cases h2 : q < a
    · go_enter Tryz.func129, Tryz.ntmps129
      go_wp2
      go_ret
      exact ⟨by simp [h2], (Ext.refl _).alloc _⟩
    · go_enter Tryz.func129, Tryz.ntmps129
      go_wp2
      go_ret
      exact ⟨by simp [h2], (Ext.refl _).alloc _⟩
  · go_enter Tryz.func129, Tryz.ntmps129
    go_wp2
    go_ret
    exact ⟨by simp [h1], (Ext.refl _).alloc _⟩
theorem above_yes {n a p q : Int} (w : World) (h1 : n = p) (h2 : q < a) :
    Calls Tryz.prog 129 #[pl n a, .int .i64 p, .int .i64 q] w (RBool true w) := by
  have h := above_any n a p q w
  rw [show (decide (n = p) && decide (q < a)) = true from by simp [h1, h2]] at h
  exact h
theorem above_no {n a p q : Int} (w : World) (h : ¬ (n = p ∧ q < a)) :
    Calls Tryz.prog 129 #[pl n a, .int .i64 p, .int .i64 q] w (RBool false w) := by
  have k := above_any n a p q w
  rw [show (decide (n = p) && decide (q < a)) = false from by simpa using h] at k
  exact k

def badB (n : Int) : Bool := decide (n < -1) || decide (n > 1073741824)
def BadIs (b : Bool) (w : World) (e : Ending) (w' : World) : Prop := e = .returned (.bool b) ∧ w = w'

theorem bad_any (n : Int) (w : World) :
    Calls Tryz.prog 164 #[.int .i64 n] w (BadIs (badB n) w) := by
  by_cases h1 : n < -1
  · go_enter Tryz.func164, Tryz.ntmps164
    go_wp2
    go_ret
    exact ⟨by simp [badB, h1], rfl⟩
  · by_cases h2 : n > 1073741824
    · go_enter Tryz.func164, Tryz.ntmps164
      go_wp2
      go_ret
      exact ⟨by simp [badB, h2], rfl⟩
    · go_enter Tryz.func164, Tryz.ntmps164
      go_wp2
      go_ret
      exact ⟨by simp [badB]; omega, rfl⟩
theorem bad_yes (n : Int) (w : World) (h : badB n = true) : Calls Tryz.prog 164 #[.int .i64 n] w (BadIs true w) := by rw [← h]; exact bad_any n w
theorem bad_no (n : Int) (w : World) (h : badB n = false) : Calls Tryz.prog 164 #[.int .i64 n] w (BadIs false w) := by rw [← h]; exact bad_any n w

theorem any_take_yes {zs : List Int} {k : Nat} {z : Int} (hz : zs[k]? = some z) (hb : badB z = true) : zs.any badB = true := by
  rw [List.any_eq_true]; exact ⟨z, List.mem_of_getElem? hz, hb⟩
theorem any_take_no {zs : List Int} {k : Nat} {z : Int} (hz : zs[k]? = some z) (hb : badB z = false) (h : (zs.take k).any badB = false) : (zs.take (k + 1)).any badB = false := by
  obtain ⟨hlt, rfl⟩ := List.getElem?_eq_some_iff.1 hz
  rw [List.take_succ_eq_append_getElem hlt, List.any_append, h]; simp [hb]
def FirstBad (zs : List Int) (w : World) (e : Ending) (w' : World) : Prop := ∃ k : Int, -1 ≤ k ∧ k ≤ 100 ∧ e = .returned (.int .i64 k) ∧ Hid (0 ≤ k ↔ zs.any badB = true) ∧ w = w'

theorem badIndex_any (b : Nat) (zs : List Int) (cap : Nat) (w : World) (hl : zs.length ≤ 100) (hc : ∀ (i : Nat) z, zs[i]? = some z → w.cell? ⟨b, i, none⟩ = some (.int .i64 z)) :
    Calls Tryz.prog 202 #[.slice (some ⟨b, 0, none⟩) zs.length cap, .func (.func 164) #[] #[]] w (FirstBad zs w) := by
  have HC := qh hc
  clear hc
  go_enter Tryz.func202, Tryz.ntmps202
  go_wp2
  go_loop [5, 8] (fun _ i => ∃ k : Nat, k ≤ zs.length ∧ i = .int .i64 k ∧ (zs.take k).any badB = false) (fun _ i => zs.length - (intOf i).toNat)
  case atStart => exact ⟨0, Nat.zero_le _, rfl, by simp⟩
  case round =>
    obtain ⟨k, hk, rfl, hno⟩ := hrel
    have Hno := qh hno
    clear hno
    by_cases hlt : k < zs.length
    · obtain ⟨z, hz⟩ : ∃ z, zs[k]? = some z := ⟨zs[k], by simp [hlt]⟩
      have hcell := HC.out k z hz
      have HZ := qh hz
      clear hz
      cases hb : badB z
      · have HB := qh hb
        clear hb
        go_wp2_with (go_at_call 164; refine (bad_no _ _ HB.out).mono ?_; rintro e w' ⟨rfl, rfl⟩)
        go_round
        case rel => exact ⟨k + 1, by omega, by go_num, any_take_no HZ.out HB.out Hno.out⟩
        case measure => simp [intOf]; omega
      · have HB := qh hb
        clear hb
        go_wp2_with (go_at_call 164; refine (bad_yes _ _ HB.out).mono ?_; rintro e w' ⟨rfl, rfl⟩)
        go_ret
        exact ⟨k, by omega, by omega, rfl, by simp [any_take_yes HZ.out HB.out, Hid], rfl⟩
    · go_wp2
      go_ret
      refine ⟨-1, by omega, by omega, rfl, ?_, rfl⟩
      have h := Hno.out
      rw [List.take_of_length_le (by omega)] at h
      rw [h]; simp [Hid]

theorem contains_any (b : Nat) (zs : List Int) (len cap : Nat) (w : World) (hlen : len = zs.length) (hl : zs.length ≤ 100) (hc : ∀ (i : Nat) z, zs[i]? = some z → w.cell? ⟨b, i, none⟩ = some (.int .i64 z)) :
    Calls Tryz.prog 163 #[.slice (some ⟨b, 0, none⟩) len cap, .func (.func 164) #[] #[]] w (BadIs (zs.any badB) w) := by
  subst hlen
  have HC := qh hc
  clear hc
  go_enter Tryz.func163, Tryz.ntmps163
  go_wp2_with (go_at_call 202; refine (badIndex_any _ _ _ _ hl HC.out).mono ?_; rintro e w' ⟨k, h1, h2, rfl, hk, rfl⟩)
  go_ret
  exact ⟨by rw [show decide (0 ≤ k) = zs.any badB from by rw [Bool.eq_iff_iff, ← hk.out]; simp]; rfl, rfl⟩

theorem infoInt : (Tryz.prog.info? 3).map (fun i => (i.zero, i.size, i.bytes)) = some (some (.int .i64 0), 1, 8) := by kernel_rfl

theorem fit_any (n a : Int) (b : Nat) (zs : List Int) (w : World) (hl : zs.length ≤ 50) (hpos : 0 < zs.length) (hc : ∀ (i : Nat) z, zs[i]? = some z → w.cell? ⟨b, i, none⟩ = some (.int .i64 z)) :
    Calls Tryz.prog 126 #[pl n a, .slice (some ⟨b, 0, none⟩) zs.length zs.length] w (RBool (!(zs ++ [n, a]).any badB) w) := by
  have HC := qh hc
  clear hc
  obtain ⟨i0, hi, hz0, hz1, hz2⟩ := info_parts infoInt
  have Hi := qh hi
  have Hz0 := qh hz0
  have Hz1 := qh hz1
  have Hz2 := qh hz2
  clear hi hz0 hz1 hz2
  go_enter Tryz.func126, Tryz.ntmps126
  go_wp2_with (at_builtin; refine wpList_append_grows _ rfl _ _ 50 rfl 3 i0 (.int .i64 0) 1 8 Tryz.underlying50 Hi.out Hz0.out Hz1.out Hz2.out rfl (by decide) (some ⟨b, 0, none⟩) zs.length zs.length (zs.map (Value.int .i64)) rfl (by simp) (by simp) ?c1 ⟨w.heap.size + 1, 0, none⟩ 2 2 [.int .i64 n, .int .i64 a] rfl rfl ?c2 ?c3 (by omega) (by unfold maxLen; omega) (by omega) ?_)
  case c1 =>
    intro c hc j u hj
    obtain rfl : (⟨b, 0, none⟩ : Addr) = c := by simpa using hc
    rw [List.getElem?_map] at hj
    obtain ⟨z, hz, rfl⟩ := Option.map_eq_some_iff.1 hj
    rw [Addr.add_lit]
    simp only [Nat.zero_add]
    exact (((Ext.refl _).alloc _).alloc _).cell (HC.out j z hz)
  case c2 => exact cells2 (by simp) (by simp)
  case c3 => simp [Value.oneCell']
  intro v' w1 hown hg
  have hb : Ext w w1 := (((Ext.refl _).alloc _).alloc _).grown hg (by simp)
  clear hg
  obtain ⟨g, cap, hv, hbg, hgs, hcs⟩ := owned_ints (zs := zs ++ [n, a]) (by rw [List.map_append]; exact hown) (by omega)
  rw [hv]
  have HCS := qh hcs
  clear hown hcs hv
  go_wp2_with (go_at_call 163; refine (contains_any _ _ _ _ _ (by simp) (by simp; omega) HCS.out).mono ?_; rintro e w' ⟨rfl, rfl⟩)
  go_ret
  exact ⟨by simp, hb⟩

theorem bad_of {z : Int} (h : okI z) : badB z = false := by have h1 := h.1; have h2 := h.2; simp [badB]; omega
theorem fit_yes (n a : Int) (b : Nat) (zs : List Int) (len cap : Nat) (w : World) (hlen : len = zs.length) (hcap : cap = zs.length) (hl : zs.length ≤ 50) (hpos : 0 < zs.length) (hn : okI n) (ha : okI a) (hz : ∀ z ∈ zs, okI z) (hc : ∀ (i : Nat) z, zs[i]? = some z → w.cell? ⟨b, i, none⟩ = some (.int .i64 z)) :
    Calls Tryz.prog 126 #[pl n a, .slice (some ⟨b, 0, none⟩) len cap] w (RBool true w) := by
  subst hlen hcap
  have h := fit_any n a b zs w hl hpos hc
  have e : (!(zs ++ [n, a]).any badB) = true := by
    have : zs.any badB = false := by
      rw [List.any_eq_false]; intro z h; simp [bad_of (hz z h)]
    simp [this, bad_of hn, bad_of ha]
  rw [e] at h
  exact h

def RPlace (n a : Int) (w : World) (e : Ending) (w' : World) : Prop := e = .returned (pl n a) ∧ Ext w w'
theorem to_any (n a : Int) (w : World) :
    Calls Tryz.prog 130 #[.int .i64 n, .int .i64 a] w (RPlace n a w) := by
  go_enter Tryz.func130, Tryz.ntmps130
  go_wp2
  refine bodyPost_ret (v := .agg #[.int .i64 n, .int .i64 a]) (by simp [results, Tryz.results130, go_sem]) rfl ⟨rfl, ?_⟩
  exact (Ext.refl _).alloc _
theorem inserted_yes (n a p q m : Int) (w : World) (hn : okI n) (ha : okI a) (hp : okI p) (hq : okI q) (hm : okI m) (e0 : n = p) (e1 : q < a) :
    Calls Tryz.prog 125 #[pl n a, .int .i64 p, .int .i64 q, .int .i64 m] w (RPlace (n) (a + m) w) := by
  have kn := hn.1
  have mn := hn.2
  have ka := ha.1
  have ma := ha.2
  have kp := hp.1
  have mp := hp.2
  have kq := hq.1
  have mq := hq.2
  have km := hm.1
  have mm := hm.2
  have E0 := qh e0
  clear e0
  have E1 := qh e1
  clear e1
  go_enter Tryz.func125, Tryz.ntmps125
  go_wp2_with fail
  refine (fit_yes _ _ _ [p, q, m] _ _ _ rfl rfl (by simp) (by simp) hn ha ?_ (cells_3 ?_ ?_ ?_)).mono ?_
  rotate_right
  · rintro e w1 ⟨rfl, hx1⟩
    have c0 := hx1.cell (b := w.heap.size) (o := 0) (v := .int .i64 (n)) (by simp [go_sem])
    have f0 := hx1.free (b := w.heap.size) (o := 0) (by simp <;> omega) (by simp [go_sem])
    have c1 := hx1.cell (b := w.heap.size) (o := 1) (v := .int .i64 (a)) (by simp [go_sem])
    have f1 := hx1.free (b := w.heap.size) (o := 1) (by simp <;> omega) (by simp [go_sem])
    have c2 := hx1.cell (b := w.heap.size + 1) (o := 0) (v := .int .i64 (0)) (by simp [go_sem])
    have f2 := hx1.free (b := w.heap.size + 1) (o := 0) (by simp <;> omega) (by simp [go_sem])
    have c3 := hx1.cell (b := w.heap.size + 1) (o := 1) (v := .int .i64 (0)) (by simp [go_sem])
    have f3 := hx1.free (b := w.heap.size + 1) (o := 1) (by simp <;> omega) (by simp [go_sem])
    have l0 := cell_lt c0
    have l1 := cell_lt c2
    have x1 : Ext w w1 := Ext.trans (((Ext.refl w).alloc _).alloc _ |>.alloc _) hx1
    clear hx1
    go_wp2_with fail
    refine (above_yes _ E0.out E1.out).mono ?_
    rintro e w2 ⟨rfl, hx2⟩
    replace f0 := hx2.free (cell_lt c0) f0
    replace c0 := hx2.cell c0
    replace f1 := hx2.free (cell_lt c1) f1
    replace c1 := hx2.cell c1
    replace f2 := hx2.free (cell_lt c2) f2
    replace c2 := hx2.cell c2
    replace f3 := hx2.free (cell_lt c3) f3
    replace c3 := hx2.cell c3
    have l0 := cell_lt c0
    have l1 := cell_lt c2
    replace x1 := x1.trans hx2
    clear hx2
    go_wp2
    refine bodyPost_ret (v := pl (n) (a + m)) (by simp [results, Tryz.results125, go_sem, c0, c1, c2, c3]) rfl ⟨rfl, ?_⟩
    repeat (first | exact x1 | exact Ext.refl _ | refine Ext.setCell ?_ (by simp) _ | refine Ext.alloc ?_ _)
  all_goals simp [go_sem, hp, hq, hm]

theorem inserted_no (n a p q m : Int) (w : World) (hn : okI n) (ha : okI a) (hp : okI p) (hq : okI q) (hm : okI m) (e0 : ¬ (n = p ∧ q < a)) :
    Calls Tryz.prog 125 #[pl n a, .int .i64 p, .int .i64 q, .int .i64 m] w (RPlace (n) (a) w) := by
  have kn := hn.1
  have mn := hn.2
  have ka := ha.1
  have ma := ha.2
  have kp := hp.1
  have mp := hp.2
  have kq := hq.1
  have mq := hq.2
  have km := hm.1
  have mm := hm.2
  have E0 := qh e0
  clear e0
  go_enter Tryz.func125, Tryz.ntmps125
  go_wp2_with fail
  refine (fit_yes _ _ _ [p, q, m] _ _ _ rfl rfl (by simp) (by simp) hn ha ?_ (cells_3 ?_ ?_ ?_)).mono ?_
  rotate_right
  · rintro e w1 ⟨rfl, hx1⟩
    have c0 := hx1.cell (b := w.heap.size) (o := 0) (v := .int .i64 (n)) (by simp [go_sem])
    have f0 := hx1.free (b := w.heap.size) (o := 0) (by simp <;> omega) (by simp [go_sem])
    have c1 := hx1.cell (b := w.heap.size) (o := 1) (v := .int .i64 (a)) (by simp [go_sem])
    have f1 := hx1.free (b := w.heap.size) (o := 1) (by simp <;> omega) (by simp [go_sem])
    have c2 := hx1.cell (b := w.heap.size + 1) (o := 0) (v := .int .i64 (0)) (by simp [go_sem])
    have f2 := hx1.free (b := w.heap.size + 1) (o := 0) (by simp <;> omega) (by simp [go_sem])
    have c3 := hx1.cell (b := w.heap.size + 1) (o := 1) (v := .int .i64 (0)) (by simp [go_sem])
    have f3 := hx1.free (b := w.heap.size + 1) (o := 1) (by simp <;> omega) (by simp [go_sem])
    have l0 := cell_lt c0
    have l1 := cell_lt c2
    have x1 : Ext w w1 := Ext.trans (((Ext.refl w).alloc _).alloc _ |>.alloc _) hx1
    clear hx1
    go_wp2_with fail
    refine (above_no _ E0.out).mono ?_
    rintro e w2 ⟨rfl, hx2⟩
    replace f0 := hx2.free (cell_lt c0) f0
    replace c0 := hx2.cell c0
    replace f1 := hx2.free (cell_lt c1) f1
    replace c1 := hx2.cell c1
    replace f2 := hx2.free (cell_lt c2) f2
    replace c2 := hx2.cell c2
    replace f3 := hx2.free (cell_lt c3) f3
    replace c3 := hx2.cell c3
    have l0 := cell_lt c0
    have l1 := cell_lt c2
    replace x1 := x1.trans hx2
    clear hx2
    go_wp2
    refine bodyPost_ret (v := pl (n) (a)) (by simp [results, Tryz.results125, go_sem, c0, c1, c2, c3]) rfl ⟨rfl, ?_⟩
    repeat (first | exact x1 | exact Ext.refl _ | refine Ext.setCell ?_ (by simp) _ | refine Ext.alloc ?_ _)
  all_goals simp [go_sem, hp, hq, hm]

theorem removed_in (n a p q : Int) (w : World) (hn : okI n) (ha : okI a) (hp : okI p) (hq : okI q)  :
    Calls Tryz.prog 133 #[pl n a, .int .i64 p, .int .i64 q, .bool true] w (RPlace (p) (q) w) := by
  have kn := hn.1
  have mn := hn.2
  have ka := ha.1
  have ma := ha.2
  have kp := hp.1
  have mp := hp.2
  have kq := hq.1
  have mq := hq.2
  go_enter Tryz.func133, Tryz.ntmps133
  go_wp2_with fail
  refine (fit_yes _ _ _ [p, q] _ _ _ rfl rfl (by simp) (by simp) hn ha ?_ (cells_2 ?_ ?_)).mono ?_
  rotate_right
  · rintro e w1 ⟨rfl, hx1⟩
    have c0 := hx1.cell (b := w.heap.size) (o := 0) (v := .int .i64 (n)) (by simp [go_sem])
    have f0 := hx1.free (b := w.heap.size) (o := 0) (by simp <;> omega) (by simp [go_sem])
    have c1 := hx1.cell (b := w.heap.size) (o := 1) (v := .int .i64 (a)) (by simp [go_sem])
    have f1 := hx1.free (b := w.heap.size) (o := 1) (by simp <;> omega) (by simp [go_sem])
    have c2 := hx1.cell (b := w.heap.size + 1) (o := 0) (v := .int .i64 (0)) (by simp [go_sem])
    have f2 := hx1.free (b := w.heap.size + 1) (o := 0) (by simp <;> omega) (by simp [go_sem])
    have c3 := hx1.cell (b := w.heap.size + 1) (o := 1) (v := .int .i64 (0)) (by simp [go_sem])
    have f3 := hx1.free (b := w.heap.size + 1) (o := 1) (by simp <;> omega) (by simp [go_sem])
    have l0 := cell_lt c0
    have l1 := cell_lt c2
    have x1 : Ext w w1 := Ext.trans (((Ext.refl w).alloc _).alloc _ |>.alloc _) hx1
    clear hx1
    go_wp2_with fail
    refine (to_any _ _ _).mono ?_
    rintro e w2 ⟨rfl, hx2⟩
    replace f0 := hx2.free (cell_lt c0) f0
    replace c0 := hx2.cell c0
    replace f1 := hx2.free (cell_lt c1) f1
    replace c1 := hx2.cell c1
    replace f2 := hx2.free (cell_lt c2) f2
    replace c2 := hx2.cell c2
    replace f3 := hx2.free (cell_lt c3) f3
    replace c3 := hx2.cell c3
    have l0 := cell_lt c0
    have l1 := cell_lt c2
    replace x1 := x1.trans hx2
    clear hx2
    go_wp2
    refine bodyPost_ret (v := pl (p) (q)) (by simp [results, Tryz.results133, go_sem, c0, c1, c2, c3]) rfl ⟨rfl, ?_⟩
    repeat (first | exact x1 | exact Ext.refl _ | refine Ext.setCell ?_ (by simp) _ | refine Ext.alloc ?_ _)
  all_goals simp [go_sem, hp, hq]

theorem removed_yes (n a p q : Int) (w : World) (hn : okI n) (ha : okI a) (hp : okI p) (hq : okI q) (e0 : n = p) (e1 : q < a) :
    Calls Tryz.prog 133 #[pl n a, .int .i64 p, .int .i64 q, .bool false] w (RPlace (n) (a - 1) w) := by
  have kn := hn.1
  have mn := hn.2
  have ka := ha.1
  have ma := ha.2
  have kp := hp.1
  have mp := hp.2
  have kq := hq.1
  have mq := hq.2
  have E0 := qh e0
  clear e0
  have E1 := qh e1
  clear e1
  go_enter Tryz.func133, Tryz.ntmps133
  go_wp2_with fail
  refine (fit_yes _ _ _ [p, q] _ _ _ rfl rfl (by simp) (by simp) hn ha ?_ (cells_2 ?_ ?_)).mono ?_
  rotate_right
  · rintro e w1 ⟨rfl, hx1⟩
    have c0 := hx1.cell (b := w.heap.size) (o := 0) (v := .int .i64 (n)) (by simp [go_sem])
    have f0 := hx1.free (b := w.heap.size) (o := 0) (by simp <;> omega) (by simp [go_sem])
    have c1 := hx1.cell (b := w.heap.size) (o := 1) (v := .int .i64 (a)) (by simp [go_sem])
    have f1 := hx1.free (b := w.heap.size) (o := 1) (by simp <;> omega) (by simp [go_sem])
    have c2 := hx1.cell (b := w.heap.size + 1) (o := 0) (v := .int .i64 (0)) (by simp [go_sem])
    have f2 := hx1.free (b := w.heap.size + 1) (o := 0) (by simp <;> omega) (by simp [go_sem])
    have c3 := hx1.cell (b := w.heap.size + 1) (o := 1) (v := .int .i64 (0)) (by simp [go_sem])
    have f3 := hx1.free (b := w.heap.size + 1) (o := 1) (by simp <;> omega) (by simp [go_sem])
    have l0 := cell_lt c0
    have l1 := cell_lt c2
    have x1 : Ext w w1 := Ext.trans (((Ext.refl w).alloc _).alloc _ |>.alloc _) hx1
    clear hx1
    go_wp2_with fail
    refine (above_yes _ E0.out E1.out).mono ?_
    rintro e w2 ⟨rfl, hx2⟩
    replace f0 := hx2.free (cell_lt c0) f0
    replace c0 := hx2.cell c0
    replace f1 := hx2.free (cell_lt c1) f1
    replace c1 := hx2.cell c1
    replace f2 := hx2.free (cell_lt c2) f2
    replace c2 := hx2.cell c2
    replace f3 := hx2.free (cell_lt c3) f3
    replace c3 := hx2.cell c3
    have l0 := cell_lt c0
    have l1 := cell_lt c2
    replace x1 := x1.trans hx2
    clear hx2
    go_wp2
    refine bodyPost_ret (v := pl (n) (a - 1)) (by simp [results, Tryz.results133, go_sem, c0, c1, c2, c3]) rfl ⟨rfl, ?_⟩
    repeat (first | exact x1 | exact Ext.refl _ | refine Ext.setCell ?_ (by simp) _ | refine Ext.alloc ?_ _)
  all_goals simp [go_sem, hp, hq]

theorem removed_no (n a p q : Int) (w : World) (hn : okI n) (ha : okI a) (hp : okI p) (hq : okI q) (e0 : ¬ (n = p ∧ q < a)) :
    Calls Tryz.prog 133 #[pl n a, .int .i64 p, .int .i64 q, .bool false] w (RPlace (n) (a) w) := by
  have kn := hn.1
  have mn := hn.2
  have ka := ha.1
  have ma := ha.2
  have kp := hp.1
  have mp := hp.2
  have kq := hq.1
  have mq := hq.2
  have E0 := qh e0
  clear e0
  go_enter Tryz.func133, Tryz.ntmps133
  go_wp2_with fail
  refine (fit_yes _ _ _ [p, q] _ _ _ rfl rfl (by simp) (by simp) hn ha ?_ (cells_2 ?_ ?_)).mono ?_
  rotate_right
  · rintro e w1 ⟨rfl, hx1⟩
    have c0 := hx1.cell (b := w.heap.size) (o := 0) (v := .int .i64 (n)) (by simp [go_sem])
    have f0 := hx1.free (b := w.heap.size) (o := 0) (by simp <;> omega) (by simp [go_sem])
    have c1 := hx1.cell (b := w.heap.size) (o := 1) (v := .int .i64 (a)) (by simp [go_sem])
    have f1 := hx1.free (b := w.heap.size) (o := 1) (by simp <;> omega) (by simp [go_sem])
    have c2 := hx1.cell (b := w.heap.size + 1) (o := 0) (v := .int .i64 (0)) (by simp [go_sem])
    have f2 := hx1.free (b := w.heap.size + 1) (o := 0) (by simp <;> omega) (by simp [go_sem])
    have c3 := hx1.cell (b := w.heap.size + 1) (o := 1) (v := .int .i64 (0)) (by simp [go_sem])
    have f3 := hx1.free (b := w.heap.size + 1) (o := 1) (by simp <;> omega) (by simp [go_sem])
    have l0 := cell_lt c0
    have l1 := cell_lt c2
    have x1 : Ext w w1 := Ext.trans (((Ext.refl w).alloc _).alloc _ |>.alloc _) hx1
    clear hx1
    go_wp2_with fail
    refine (above_no _ E0.out).mono ?_
    rintro e w2 ⟨rfl, hx2⟩
    replace f0 := hx2.free (cell_lt c0) f0
    replace c0 := hx2.cell c0
    replace f1 := hx2.free (cell_lt c1) f1
    replace c1 := hx2.cell c1
    replace f2 := hx2.free (cell_lt c2) f2
    replace c2 := hx2.cell c2
    replace f3 := hx2.free (cell_lt c3) f3
    replace c3 := hx2.cell c3
    have l0 := cell_lt c0
    have l1 := cell_lt c2
    replace x1 := x1.trans hx2
    clear hx2
    go_wp2
    refine bodyPost_ret (v := pl (n) (a)) (by simp [results, Tryz.results133, go_sem, c0, c1, c2, c3]) rfl ⟨rfl, ?_⟩
    repeat (first | exact x1 | exact Ext.refl _ | refine Ext.setCell ?_ (by simp) _ | refine Ext.alloc ?_ _)
  all_goals simp [go_sem, hp, hq]

theorem replaced_no (n a p q c m : Int) (w : World) (hn : okI n) (ha : okI a) (hp : okI p) (hq : okI q) (hc : okI c) (hm : okI m) (e0 : ¬ (n = p ∧ q < a)) :
    Calls Tryz.prog 161 #[pl n a, .int .i64 p, .int .i64 q, .int .i64 c, .int .i64 m] w (RPlace (n) (a) w) := by
  have kn := hn.1
  have mn := hn.2
  have ka := ha.1
  have ma := ha.2
  have kp := hp.1
  have mp := hp.2
  have kq := hq.1
  have mq := hq.2
  have kc := hc.1
  have mc := hc.2
  have km := hm.1
  have mm := hm.2
  have E0 := qh e0
  clear e0
  go_enter Tryz.func161, Tryz.ntmps161
  go_wp2_with fail
  refine (fit_yes _ _ _ [p, q, c, m] _ _ _ rfl rfl (by simp) (by simp) hn ha ?_ (cells_4 ?_ ?_ ?_ ?_)).mono ?_
  rotate_right
  · rintro e w1 ⟨rfl, hx1⟩
    have c0 := hx1.cell (b := w.heap.size) (o := 0) (v := .int .i64 (n)) (by simp [go_sem])
    have f0 := hx1.free (b := w.heap.size) (o := 0) (by simp <;> omega) (by simp [go_sem])
    have c1 := hx1.cell (b := w.heap.size) (o := 1) (v := .int .i64 (a)) (by simp [go_sem])
    have f1 := hx1.free (b := w.heap.size) (o := 1) (by simp <;> omega) (by simp [go_sem])
    have c2 := hx1.cell (b := w.heap.size + 1) (o := 0) (v := .int .i64 (0)) (by simp [go_sem])
    have f2 := hx1.free (b := w.heap.size + 1) (o := 0) (by simp <;> omega) (by simp [go_sem])
    have c3 := hx1.cell (b := w.heap.size + 1) (o := 1) (v := .int .i64 (0)) (by simp [go_sem])
    have f3 := hx1.free (b := w.heap.size + 1) (o := 1) (by simp <;> omega) (by simp [go_sem])
    have l0 := cell_lt c0
    have l1 := cell_lt c2
    have x1 : Ext w w1 := Ext.trans (((Ext.refl w).alloc _).alloc _ |>.alloc _) hx1
    clear hx1
    go_wp2_with fail
    refine (above_no _ E0.out).mono ?_
    rintro e w2 ⟨rfl, hx2⟩
    replace f0 := hx2.free (cell_lt c0) f0
    replace c0 := hx2.cell c0
    replace f1 := hx2.free (cell_lt c1) f1
    replace c1 := hx2.cell c1
    replace f2 := hx2.free (cell_lt c2) f2
    replace c2 := hx2.cell c2
    replace f3 := hx2.free (cell_lt c3) f3
    replace c3 := hx2.cell c3
    have l0 := cell_lt c0
    have l1 := cell_lt c2
    replace x1 := x1.trans hx2
    clear hx2
    go_wp2
    refine bodyPost_ret (v := pl (n) (a)) (by simp [results, Tryz.results161, go_sem, c0, c1, c2, c3]) rfl ⟨rfl, ?_⟩
    repeat (first | exact x1 | exact Ext.refl _ | refine Ext.setCell ?_ (by simp) _ | refine Ext.alloc ?_ _)
  all_goals simp [go_sem, hp, hq, hc, hm]

theorem replaced_far (n a p q c m : Int) (w : World) (hn : okI n) (ha : okI a) (hp : okI p) (hq : okI q) (hc : okI c) (hm : okI m) (e0 : n = p) (e1 : q < a) (e2 : q + c < a) :
    Calls Tryz.prog 161 #[pl n a, .int .i64 p, .int .i64 q, .int .i64 c, .int .i64 m] w (RPlace (p) (a + m - c) w) := by
  have kn := hn.1
  have mn := hn.2
  have ka := ha.1
  have ma := ha.2
  have kp := hp.1
  have mp := hp.2
  have kq := hq.1
  have mq := hq.2
  have kc := hc.1
  have mc := hc.2
  have km := hm.1
  have mm := hm.2
  have E0 := qh e0
  clear e0
  have E1 := qh e1
  clear e1
  have E2 := qh e2
  go_enter Tryz.func161, Tryz.ntmps161
  go_wp2_with fail
  refine (fit_yes _ _ _ [p, q, c, m] _ _ _ rfl rfl (by simp) (by simp) hn ha ?_ (cells_4 ?_ ?_ ?_ ?_)).mono ?_
  rotate_right
  · rintro e w1 ⟨rfl, hx1⟩
    have c0 := hx1.cell (b := w.heap.size) (o := 0) (v := .int .i64 (n)) (by simp [go_sem])
    have f0 := hx1.free (b := w.heap.size) (o := 0) (by simp <;> omega) (by simp [go_sem])
    have c1 := hx1.cell (b := w.heap.size) (o := 1) (v := .int .i64 (a)) (by simp [go_sem])
    have f1 := hx1.free (b := w.heap.size) (o := 1) (by simp <;> omega) (by simp [go_sem])
    have c2 := hx1.cell (b := w.heap.size + 1) (o := 0) (v := .int .i64 (0)) (by simp [go_sem])
    have f2 := hx1.free (b := w.heap.size + 1) (o := 0) (by simp <;> omega) (by simp [go_sem])
    have c3 := hx1.cell (b := w.heap.size + 1) (o := 1) (v := .int .i64 (0)) (by simp [go_sem])
    have f3 := hx1.free (b := w.heap.size + 1) (o := 1) (by simp <;> omega) (by simp [go_sem])
    have l0 := cell_lt c0
    have l1 := cell_lt c2
    have x1 : Ext w w1 := Ext.trans (((Ext.refl w).alloc _).alloc _ |>.alloc _) hx1
    clear hx1
    go_wp2_with fail
    refine (above_yes _ E0.out E1.out).mono ?_
    rintro e w2 ⟨rfl, hx2⟩
    replace f0 := hx2.free (cell_lt c0) f0
    replace c0 := hx2.cell c0
    replace f1 := hx2.free (cell_lt c1) f1
    replace c1 := hx2.cell c1
    replace f2 := hx2.free (cell_lt c2) f2
    replace c2 := hx2.cell c2
    replace f3 := hx2.free (cell_lt c3) f3
    replace c3 := hx2.cell c3
    have l0 := cell_lt c0
    have l1 := cell_lt c2
    replace x1 := x1.trans hx2
    clear hx2
    go_wp2_with fail
    refine (to_any _ _ _).mono ?_
    rintro e w3 ⟨rfl, hx3⟩
    replace f0 := hx3.free (cell_lt c0) f0
    replace c0 := hx3.cell c0
    replace f1 := hx3.free (cell_lt c1) f1
    replace c1 := hx3.cell c1
    replace f2 := hx3.free (cell_lt c2) f2
    replace c2 := hx3.cell c2
    replace f3 := hx3.free (cell_lt c3) f3
    replace c3 := hx3.cell c3
    have l0 := cell_lt c0
    have l1 := cell_lt c2
    replace x1 := x1.trans hx3
    clear hx3
    go_wp2
    refine bodyPost_ret (v := pl (p) (a + m - c)) (by simp [results, Tryz.results161, go_sem, c0, c1, c2, c3]) rfl ⟨rfl, ?_⟩
    repeat (first | exact x1 | exact Ext.refl _ | refine Ext.setCell ?_ (by simp) _ | refine Ext.alloc ?_ _)
  all_goals simp [go_sem, hp, hq, hc, hm]

theorem replaced_mid (n a p q c m : Int) (w : World) (hn : okI n) (ha : okI a) (hp : okI p) (hq : okI q) (hc : okI c) (hm : okI m) (e0 : n = p) (e1 : q < a) (e2 : ¬ q + c < a) :
    Calls Tryz.prog 161 #[pl n a, .int .i64 p, .int .i64 q, .int .i64 c, .int .i64 m] w (RPlace (p) (q) w) := by
  have kn := hn.1
  have mn := hn.2
  have ka := ha.1
  have ma := ha.2
  have kp := hp.1
  have mp := hp.2
  have kq := hq.1
  have mq := hq.2
  have kc := hc.1
  have mc := hc.2
  have km := hm.1
  have mm := hm.2
  have E0 := qh e0
  clear e0
  have E1 := qh e1
  clear e1
  have E2 := qh e2
  go_enter Tryz.func161, Tryz.ntmps161
  go_wp2_with fail
  refine (fit_yes _ _ _ [p, q, c, m] _ _ _ rfl rfl (by simp) (by simp) hn ha ?_ (cells_4 ?_ ?_ ?_ ?_)).mono ?_
  rotate_right
  · rintro e w1 ⟨rfl, hx1⟩
    have c0 := hx1.cell (b := w.heap.size) (o := 0) (v := .int .i64 (n)) (by simp [go_sem])
    have f0 := hx1.free (b := w.heap.size) (o := 0) (by simp <;> omega) (by simp [go_sem])
    have c1 := hx1.cell (b := w.heap.size) (o := 1) (v := .int .i64 (a)) (by simp [go_sem])
    have f1 := hx1.free (b := w.heap.size) (o := 1) (by simp <;> omega) (by simp [go_sem])
    have c2 := hx1.cell (b := w.heap.size + 1) (o := 0) (v := .int .i64 (0)) (by simp [go_sem])
    have f2 := hx1.free (b := w.heap.size + 1) (o := 0) (by simp <;> omega) (by simp [go_sem])
    have c3 := hx1.cell (b := w.heap.size + 1) (o := 1) (v := .int .i64 (0)) (by simp [go_sem])
    have f3 := hx1.free (b := w.heap.size + 1) (o := 1) (by simp <;> omega) (by simp [go_sem])
    have l0 := cell_lt c0
    have l1 := cell_lt c2
    have x1 : Ext w w1 := Ext.trans (((Ext.refl w).alloc _).alloc _ |>.alloc _) hx1
    clear hx1
    go_wp2_with fail
    refine (above_yes _ E0.out E1.out).mono ?_
    rintro e w2 ⟨rfl, hx2⟩
    replace f0 := hx2.free (cell_lt c0) f0
    replace c0 := hx2.cell c0
    replace f1 := hx2.free (cell_lt c1) f1
    replace c1 := hx2.cell c1
    replace f2 := hx2.free (cell_lt c2) f2
    replace c2 := hx2.cell c2
    replace f3 := hx2.free (cell_lt c3) f3
    replace c3 := hx2.cell c3
    have l0 := cell_lt c0
    have l1 := cell_lt c2
    replace x1 := x1.trans hx2
    clear hx2
    go_wp2_with fail
    refine (to_any _ _ _).mono ?_
    rintro e w3 ⟨rfl, hx3⟩
    replace f0 := hx3.free (cell_lt c0) f0
    replace c0 := hx3.cell c0
    replace f1 := hx3.free (cell_lt c1) f1
    replace c1 := hx3.cell c1
    replace f2 := hx3.free (cell_lt c2) f2
    replace c2 := hx3.cell c2
    replace f3 := hx3.free (cell_lt c3) f3
    replace c3 := hx3.cell c3
    have l0 := cell_lt c0
    have l1 := cell_lt c2
    replace x1 := x1.trans hx3
    clear hx3
    go_wp2
    refine bodyPost_ret (v := pl (p) (q)) (by simp [results, Tryz.results161, go_sem, c0, c1, c2, c3]) rfl ⟨rfl, ?_⟩
    repeat (first | exact x1 | exact Ext.refl _ | refine Ext.setCell ?_ (by simp) _ | refine Ext.alloc ?_ _)
  all_goals simp [go_sem, hp, hq, hc, hm]

theorem cut_here (n a p q f u i : Int) (w : World) (hn : okI n) (ha : okI a) (hp : okI p) (hq : okI q) (hf : okI f) (hu : okI u) (hi : okI i) (e0 : n = p) (e1 : q < a) :
    Calls Tryz.prog 127 #[pl n a, .int .i64 p, .int .i64 q, .int .i64 f, .int .i64 u, .int .i64 i] w (RPlace (f) (a - q) w) := by
  have kn := hn.1
  have mn := hn.2
  have ka := ha.1
  have ma := ha.2
  have kp := hp.1
  have mp := hp.2
  have kq := hq.1
  have mq := hq.2
  have kf := hf.1
  have mf := hf.2
  have ku := hu.1
  have mu := hu.2
  have ki := hi.1
  have mi := hi.2
  have E0 := qh e0
  clear e0
  have E1 := qh e1
  clear e1
  go_enter Tryz.func127, Tryz.ntmps127
  go_wp2_with fail
  refine (above_yes _ E0.out E1.out).mono ?_
  rintro e w1 ⟨rfl, hx1⟩
  have c0 := hx1.cell (b := w.heap.size) (o := 0) (v := .int .i64 (n)) (by simp [go_sem])
  have f0 := hx1.free (b := w.heap.size) (o := 0) (by simp <;> omega) (by simp [go_sem])
  have c1 := hx1.cell (b := w.heap.size) (o := 1) (v := .int .i64 (a)) (by simp [go_sem])
  have f1 := hx1.free (b := w.heap.size) (o := 1) (by simp <;> omega) (by simp [go_sem])
  have c2 := hx1.cell (b := w.heap.size + 1) (o := 0) (v := .int .i64 (0)) (by simp [go_sem])
  have f2 := hx1.free (b := w.heap.size + 1) (o := 0) (by simp <;> omega) (by simp [go_sem])
  have c3 := hx1.cell (b := w.heap.size + 1) (o := 1) (v := .int .i64 (0)) (by simp [go_sem])
  have f3 := hx1.free (b := w.heap.size + 1) (o := 1) (by simp <;> omega) (by simp [go_sem])
  have c4 := hx1.cell (b := w.heap.size + 1 + 1) (o := 0) (v := .int .i64 (n)) (by simp [go_sem])
  have f4 := hx1.free (b := w.heap.size + 1 + 1) (o := 0) (by simp <;> omega) (by simp [go_sem])
  have c5 := hx1.cell (b := w.heap.size + 1 + 1) (o := 1) (v := .int .i64 (a)) (by simp [go_sem])
  have f5 := hx1.free (b := w.heap.size + 1 + 1) (o := 1) (by simp <;> omega) (by simp [go_sem])
  have l0 := cell_lt c0
  have l1 := cell_lt c2
  have l2 := cell_lt c4
  have x1 : Ext w w1 := Ext.trans ((((Ext.refl w).alloc _).alloc _).alloc _) hx1
  clear hx1
  go_wp2_with fail
  refine (to_any _ _ _).mono ?_
  rintro e w2 ⟨rfl, hx2⟩
  replace f0 := hx2.free (cell_lt c0) f0
  replace c0 := hx2.cell c0
  replace f1 := hx2.free (cell_lt c1) f1
  replace c1 := hx2.cell c1
  replace f2 := hx2.free (cell_lt c2) f2
  replace c2 := hx2.cell c2
  replace f3 := hx2.free (cell_lt c3) f3
  replace c3 := hx2.cell c3
  replace f4 := hx2.free (cell_lt c4) f4
  replace c4 := hx2.cell c4
  replace f5 := hx2.free (cell_lt c5) f5
  replace c5 := hx2.cell c5
  have l0 := cell_lt c0
  have l1 := cell_lt c2
  have l2 := cell_lt c4
  replace x1 := x1.trans hx2
  clear hx2
  go_wp2
  refine bodyPost_ret (v := pl (f) (a - q)) (by simp [results, Tryz.results127, go_sem, c0, c1, c2, c3, c4, c5]) rfl ⟨rfl, ?_⟩
  repeat (first | exact x1 | exact Ext.refl _ | refine Ext.setCell ?_ (by simp) _ | refine Ext.alloc ?_ _)

theorem cut_up (n a p q f u i : Int) (w : World) (hn : okI n) (ha : okI a) (hp : okI p) (hq : okI q) (hf : okI f) (hu : okI u) (hi : okI i) (e0 : ¬ (n = p ∧ q < a)) (e1 : 0 ≤ u) (e2 : n = u) (e3 : i < a) :
    Calls Tryz.prog 127 #[pl n a, .int .i64 p, .int .i64 q, .int .i64 f, .int .i64 u, .int .i64 i] w (RPlace (n) (a + 1) w) := by
  have kn := hn.1
  have mn := hn.2
  have ka := ha.1
  have ma := ha.2
  have kp := hp.1
  have mp := hp.2
  have kq := hq.1
  have mq := hq.2
  have kf := hf.1
  have mf := hf.2
  have ku := hu.1
  have mu := hu.2
  have ki := hi.1
  have mi := hi.2
  have E0 := qh e0
  clear e0
  have E1 := qh e1
  have E2 := qh e2
  clear e2
  have E3 := qh e3
  clear e3
  go_enter Tryz.func127, Tryz.ntmps127
  go_wp2_with fail
  refine (above_no _ E0.out).mono ?_
  rintro e w1 ⟨rfl, hx1⟩
  have c0 := hx1.cell (b := w.heap.size) (o := 0) (v := .int .i64 (n)) (by simp [go_sem])
  have f0 := hx1.free (b := w.heap.size) (o := 0) (by simp <;> omega) (by simp [go_sem])
  have c1 := hx1.cell (b := w.heap.size) (o := 1) (v := .int .i64 (a)) (by simp [go_sem])
  have f1 := hx1.free (b := w.heap.size) (o := 1) (by simp <;> omega) (by simp [go_sem])
  have c2 := hx1.cell (b := w.heap.size + 1) (o := 0) (v := .int .i64 (0)) (by simp [go_sem])
  have f2 := hx1.free (b := w.heap.size + 1) (o := 0) (by simp <;> omega) (by simp [go_sem])
  have c3 := hx1.cell (b := w.heap.size + 1) (o := 1) (v := .int .i64 (0)) (by simp [go_sem])
  have f3 := hx1.free (b := w.heap.size + 1) (o := 1) (by simp <;> omega) (by simp [go_sem])
  have c4 := hx1.cell (b := w.heap.size + 1 + 1) (o := 0) (v := .int .i64 (n)) (by simp [go_sem])
  have f4 := hx1.free (b := w.heap.size + 1 + 1) (o := 0) (by simp <;> omega) (by simp [go_sem])
  have c5 := hx1.cell (b := w.heap.size + 1 + 1) (o := 1) (v := .int .i64 (a)) (by simp [go_sem])
  have f5 := hx1.free (b := w.heap.size + 1 + 1) (o := 1) (by simp <;> omega) (by simp [go_sem])
  have l0 := cell_lt c0
  have l1 := cell_lt c2
  have l2 := cell_lt c4
  have x1 : Ext w w1 := Ext.trans ((((Ext.refl w).alloc _).alloc _).alloc _) hx1
  clear hx1
  go_wp2_with fail
  refine (above_yes _ E2.out E3.out).mono ?_
  rintro e w2 ⟨rfl, hx2⟩
  replace f0 := hx2.free (cell_lt c0) f0
  replace c0 := hx2.cell c0
  replace f1 := hx2.free (cell_lt c1) f1
  replace c1 := hx2.cell c1
  replace f2 := hx2.free (cell_lt c2) f2
  replace c2 := hx2.cell c2
  replace f3 := hx2.free (cell_lt c3) f3
  replace c3 := hx2.cell c3
  replace f4 := hx2.free (cell_lt c4) f4
  replace c4 := hx2.cell c4
  replace f5 := hx2.free (cell_lt c5) f5
  replace c5 := hx2.cell c5
  have l0 := cell_lt c0
  have l1 := cell_lt c2
  have l2 := cell_lt c4
  replace x1 := x1.trans hx2
  clear hx2
  go_wp2
  refine bodyPost_ret (v := pl (n) (a + 1)) (by simp [results, Tryz.results127, go_sem, c0, c1, c2, c3, c4, c5]) rfl ⟨rfl, ?_⟩
  repeat (first | exact x1 | exact Ext.refl _ | refine Ext.setCell ?_ (by simp) _ | refine Ext.alloc ?_ _)

theorem cut_no (n a p q f u i : Int) (w : World) (hn : okI n) (ha : okI a) (hp : okI p) (hq : okI q) (hf : okI f) (hu : okI u) (hi : okI i) (e0 : ¬ (n = p ∧ q < a)) (e1 : 0 ≤ u) (e2 : ¬ (n = u ∧ i < a)) :
    Calls Tryz.prog 127 #[pl n a, .int .i64 p, .int .i64 q, .int .i64 f, .int .i64 u, .int .i64 i] w (RPlace (n) (a) w) := by
  have kn := hn.1
  have mn := hn.2
  have ka := ha.1
  have ma := ha.2
  have kp := hp.1
  have mp := hp.2
  have kq := hq.1
  have mq := hq.2
  have kf := hf.1
  have mf := hf.2
  have ku := hu.1
  have mu := hu.2
  have ki := hi.1
  have mi := hi.2
  have E0 := qh e0
  clear e0
  have E1 := qh e1
  have E2 := qh e2
  clear e2
  go_enter Tryz.func127, Tryz.ntmps127
  go_wp2_with fail
  refine (above_no _ E0.out).mono ?_
  rintro e w1 ⟨rfl, hx1⟩
  have c0 := hx1.cell (b := w.heap.size) (o := 0) (v := .int .i64 (n)) (by simp [go_sem])
  have f0 := hx1.free (b := w.heap.size) (o := 0) (by simp <;> omega) (by simp [go_sem])
  have c1 := hx1.cell (b := w.heap.size) (o := 1) (v := .int .i64 (a)) (by simp [go_sem])
  have f1 := hx1.free (b := w.heap.size) (o := 1) (by simp <;> omega) (by simp [go_sem])
  have c2 := hx1.cell (b := w.heap.size + 1) (o := 0) (v := .int .i64 (0)) (by simp [go_sem])
  have f2 := hx1.free (b := w.heap.size + 1) (o := 0) (by simp <;> omega) (by simp [go_sem])
  have c3 := hx1.cell (b := w.heap.size + 1) (o := 1) (v := .int .i64 (0)) (by simp [go_sem])
  have f3 := hx1.free (b := w.heap.size + 1) (o := 1) (by simp <;> omega) (by simp [go_sem])
  have c4 := hx1.cell (b := w.heap.size + 1 + 1) (o := 0) (v := .int .i64 (n)) (by simp [go_sem])
  have f4 := hx1.free (b := w.heap.size + 1 + 1) (o := 0) (by simp <;> omega) (by simp [go_sem])
  have c5 := hx1.cell (b := w.heap.size + 1 + 1) (o := 1) (v := .int .i64 (a)) (by simp [go_sem])
  have f5 := hx1.free (b := w.heap.size + 1 + 1) (o := 1) (by simp <;> omega) (by simp [go_sem])
  have l0 := cell_lt c0
  have l1 := cell_lt c2
  have l2 := cell_lt c4
  have x1 : Ext w w1 := Ext.trans ((((Ext.refl w).alloc _).alloc _).alloc _) hx1
  clear hx1
  go_wp2_with fail
  refine (above_no _ E2.out).mono ?_
  rintro e w2 ⟨rfl, hx2⟩
  replace f0 := hx2.free (cell_lt c0) f0
  replace c0 := hx2.cell c0
  replace f1 := hx2.free (cell_lt c1) f1
  replace c1 := hx2.cell c1
  replace f2 := hx2.free (cell_lt c2) f2
  replace c2 := hx2.cell c2
  replace f3 := hx2.free (cell_lt c3) f3
  replace c3 := hx2.cell c3
  replace f4 := hx2.free (cell_lt c4) f4
  replace c4 := hx2.cell c4
  replace f5 := hx2.free (cell_lt c5) f5
  replace c5 := hx2.cell c5
  have l0 := cell_lt c0
  have l1 := cell_lt c2
  have l2 := cell_lt c4
  replace x1 := x1.trans hx2
  clear hx2
  go_wp2
  refine bodyPost_ret (v := pl (n) (a)) (by simp [results, Tryz.results127, go_sem, c0, c1, c2, c3, c4, c5]) rfl ⟨rfl, ?_⟩
  repeat (first | exact x1 | exact Ext.refl _ | refine Ext.setCell ?_ (by simp) _ | refine Ext.alloc ?_ _)

theorem cut_root (n a p q f u i : Int) (w : World) (hn : okI n) (ha : okI a) (hp : okI p) (hq : okI q) (hf : okI f) (hu : okI u) (hi : okI i) (e0 : ¬ (n = p ∧ q < a)) (e1 : u < 0) :
    Calls Tryz.prog 127 #[pl n a, .int .i64 p, .int .i64 q, .int .i64 f, .int .i64 u, .int .i64 i] w (RPlace (n) (a) w) := by
  have kn := hn.1
  have mn := hn.2
  have ka := ha.1
  have ma := ha.2
  have kp := hp.1
  have mp := hp.2
  have kq := hq.1
  have mq := hq.2
  have kf := hf.1
  have mf := hf.2
  have ku := hu.1
  have mu := hu.2
  have ki := hi.1
  have mi := hi.2
  have E0 := qh e0
  clear e0
  have E1 := qh e1
  go_enter Tryz.func127, Tryz.ntmps127
  go_wp2_with fail
  refine (above_no _ E0.out).mono ?_
  rintro e w1 ⟨rfl, hx1⟩
  have c0 := hx1.cell (b := w.heap.size) (o := 0) (v := .int .i64 (n)) (by simp [go_sem])
  have f0 := hx1.free (b := w.heap.size) (o := 0) (by simp <;> omega) (by simp [go_sem])
  have c1 := hx1.cell (b := w.heap.size) (o := 1) (v := .int .i64 (a)) (by simp [go_sem])
  have f1 := hx1.free (b := w.heap.size) (o := 1) (by simp <;> omega) (by simp [go_sem])
  have c2 := hx1.cell (b := w.heap.size + 1) (o := 0) (v := .int .i64 (0)) (by simp [go_sem])
  have f2 := hx1.free (b := w.heap.size + 1) (o := 0) (by simp <;> omega) (by simp [go_sem])
  have c3 := hx1.cell (b := w.heap.size + 1) (o := 1) (v := .int .i64 (0)) (by simp [go_sem])
  have f3 := hx1.free (b := w.heap.size + 1) (o := 1) (by simp <;> omega) (by simp [go_sem])
  have c4 := hx1.cell (b := w.heap.size + 1 + 1) (o := 0) (v := .int .i64 (n)) (by simp [go_sem])
  have f4 := hx1.free (b := w.heap.size + 1 + 1) (o := 0) (by simp <;> omega) (by simp [go_sem])
  have c5 := hx1.cell (b := w.heap.size + 1 + 1) (o := 1) (v := .int .i64 (a)) (by simp [go_sem])
  have f5 := hx1.free (b := w.heap.size + 1 + 1) (o := 1) (by simp <;> omega) (by simp [go_sem])
  have l0 := cell_lt c0
  have l1 := cell_lt c2
  have l2 := cell_lt c4
  have x1 : Ext w w1 := Ext.trans ((((Ext.refl w).alloc _).alloc _).alloc _) hx1
  clear hx1
  go_wp2
  refine bodyPost_ret (v := pl (n) (a)) (by simp [results, Tryz.results127, go_sem, c0, c1, c2, c3, c4, c5]) rfl ⟨rfl, ?_⟩
  repeat (first | exact x1 | exact Ext.refl _ | refine Ext.setCell ?_ (by simp) _ | refine Ext.alloc ?_ _)

theorem splitText_here (n a p q f u i : Int) (w : World) (hn : okI n) (ha : okI a) (hp : okI p) (hq : okI q) (hf : okI f) (hu : okI u) (hi : okI i) (e0 : n = p) (e1 : q < a) :
    Calls Tryz.prog 56 #[pl n a, .int .i64 p, .int .i64 q, .int .i64 f, .int .i64 u, .int .i64 i] w (RPlace (f) (a - q) w) := by
  have kn := hn.1
  have mn := hn.2
  have ka := ha.1
  have ma := ha.2
  have kp := hp.1
  have mp := hp.2
  have kq := hq.1
  have mq := hq.2
  have kf := hf.1
  have mf := hf.2
  have ku := hu.1
  have mu := hu.2
  have ki := hi.1
  have mi := hi.2
  have E0 := qh e0
  clear e0
  have E1 := qh e1
  clear e1
  go_enter Tryz.func56, Tryz.ntmps56
  go_wp2_with fail
  refine (fit_yes _ _ _ [p, q, f, u, i] _ _ _ rfl rfl (by simp) (by simp) hn ha ?_ (cells_5 ?_ ?_ ?_ ?_ ?_)).mono ?_
  rotate_right
  · rintro e w1 ⟨rfl, hx1⟩
    have c0 := hx1.cell (b := w.heap.size) (o := 0) (v := .int .i64 (n)) (by simp [go_sem])
    have f0 := hx1.free (b := w.heap.size) (o := 0) (by simp <;> omega) (by simp [go_sem])
    have c1 := hx1.cell (b := w.heap.size) (o := 1) (v := .int .i64 (a)) (by simp [go_sem])
    have f1 := hx1.free (b := w.heap.size) (o := 1) (by simp <;> omega) (by simp [go_sem])
    have c2 := hx1.cell (b := w.heap.size + 1) (o := 0) (v := .int .i64 (0)) (by simp [go_sem])
    have f2 := hx1.free (b := w.heap.size + 1) (o := 0) (by simp <;> omega) (by simp [go_sem])
    have c3 := hx1.cell (b := w.heap.size + 1) (o := 1) (v := .int .i64 (0)) (by simp [go_sem])
    have f3 := hx1.free (b := w.heap.size + 1) (o := 1) (by simp <;> omega) (by simp [go_sem])
    have l0 := cell_lt c0
    have l1 := cell_lt c2
    have x1 : Ext w w1 := Ext.trans (((Ext.refl w).alloc _).alloc _ |>.alloc _) hx1
    clear hx1
    go_wp2_with fail
    refine (cut_here _ _ _ _ _ _ _ _ hn ha hp hq hf hu hi E0.out E1.out).mono ?_
    rintro e w2 ⟨rfl, hx2⟩
    replace f0 := hx2.free (cell_lt c0) f0
    replace c0 := hx2.cell c0
    replace f1 := hx2.free (cell_lt c1) f1
    replace c1 := hx2.cell c1
    replace f2 := hx2.free (cell_lt c2) f2
    replace c2 := hx2.cell c2
    replace f3 := hx2.free (cell_lt c3) f3
    replace c3 := hx2.cell c3
    have l0 := cell_lt c0
    have l1 := cell_lt c2
    replace x1 := x1.trans hx2
    clear hx2
    go_wp2
    refine bodyPost_ret (v := pl (f) (a - q)) (by simp [results, Tryz.results56, go_sem, c0, c1, c2, c3]) rfl ⟨rfl, ?_⟩
    repeat (first | exact x1 | exact Ext.refl _ | refine Ext.setCell ?_ (by simp) _ | refine Ext.alloc ?_ _)
  all_goals simp [go_sem, hp, hq, hf, hu, hi]

theorem splitText_up (n a p q f u i : Int) (w : World) (hn : okI n) (ha : okI a) (hp : okI p) (hq : okI q) (hf : okI f) (hu : okI u) (hi : okI i) (e0 : ¬ (n = p ∧ q < a)) (e1 : 0 ≤ u) (e2 : n = u) (e3 : i < a) :
    Calls Tryz.prog 56 #[pl n a, .int .i64 p, .int .i64 q, .int .i64 f, .int .i64 u, .int .i64 i] w (RPlace (n) (a + 1) w) := by
  have kn := hn.1
  have mn := hn.2
  have ka := ha.1
  have ma := ha.2
  have kp := hp.1
  have mp := hp.2
  have kq := hq.1
  have mq := hq.2
  have kf := hf.1
  have mf := hf.2
  have ku := hu.1
  have mu := hu.2
  have ki := hi.1
  have mi := hi.2
  have E0 := qh e0
  clear e0
  have E1 := qh e1
  clear e1
  have E2 := qh e2
  clear e2
  have E3 := qh e3
  clear e3
  go_enter Tryz.func56, Tryz.ntmps56
  go_wp2_with fail
  refine (fit_yes _ _ _ [p, q, f, u, i] _ _ _ rfl rfl (by simp) (by simp) hn ha ?_ (cells_5 ?_ ?_ ?_ ?_ ?_)).mono ?_
  rotate_right
  · rintro e w1 ⟨rfl, hx1⟩
    have c0 := hx1.cell (b := w.heap.size) (o := 0) (v := .int .i64 (n)) (by simp [go_sem])
    have f0 := hx1.free (b := w.heap.size) (o := 0) (by simp <;> omega) (by simp [go_sem])
    have c1 := hx1.cell (b := w.heap.size) (o := 1) (v := .int .i64 (a)) (by simp [go_sem])
    have f1 := hx1.free (b := w.heap.size) (o := 1) (by simp <;> omega) (by simp [go_sem])
    have c2 := hx1.cell (b := w.heap.size + 1) (o := 0) (v := .int .i64 (0)) (by simp [go_sem])
    have f2 := hx1.free (b := w.heap.size + 1) (o := 0) (by simp <;> omega) (by simp [go_sem])
    have c3 := hx1.cell (b := w.heap.size + 1) (o := 1) (v := .int .i64 (0)) (by simp [go_sem])
    have f3 := hx1.free (b := w.heap.size + 1) (o := 1) (by simp <;> omega) (by simp [go_sem])
    have l0 := cell_lt c0
    have l1 := cell_lt c2
    have x1 : Ext w w1 := Ext.trans (((Ext.refl w).alloc _).alloc _ |>.alloc _) hx1
    clear hx1
    go_wp2_with fail
    refine (cut_up _ _ _ _ _ _ _ _ hn ha hp hq hf hu hi E0.out E1.out E2.out E3.out).mono ?_
    rintro e w2 ⟨rfl, hx2⟩
    replace f0 := hx2.free (cell_lt c0) f0
    replace c0 := hx2.cell c0
    replace f1 := hx2.free (cell_lt c1) f1
    replace c1 := hx2.cell c1
    replace f2 := hx2.free (cell_lt c2) f2
    replace c2 := hx2.cell c2
    replace f3 := hx2.free (cell_lt c3) f3
    replace c3 := hx2.cell c3
    have l0 := cell_lt c0
    have l1 := cell_lt c2
    replace x1 := x1.trans hx2
    clear hx2
    go_wp2
    refine bodyPost_ret (v := pl (n) (a + 1)) (by simp [results, Tryz.results56, go_sem, c0, c1, c2, c3]) rfl ⟨rfl, ?_⟩
    repeat (first | exact x1 | exact Ext.refl _ | refine Ext.setCell ?_ (by simp) _ | refine Ext.alloc ?_ _)
  all_goals simp [go_sem, hp, hq, hf, hu, hi]

theorem splitText_no (n a p q f u i : Int) (w : World) (hn : okI n) (ha : okI a) (hp : okI p) (hq : okI q) (hf : okI f) (hu : okI u) (hi : okI i) (e0 : ¬ (n = p ∧ q < a)) (e1 : 0 ≤ u) (e2 : ¬ (n = u ∧ i < a)) :
    Calls Tryz.prog 56 #[pl n a, .int .i64 p, .int .i64 q, .int .i64 f, .int .i64 u, .int .i64 i] w (RPlace (n) (a) w) := by
  have kn := hn.1
  have mn := hn.2
  have ka := ha.1
  have ma := ha.2
  have kp := hp.1
  have mp := hp.2
  have kq := hq.1
  have mq := hq.2
  have kf := hf.1
  have mf := hf.2
  have ku := hu.1
  have mu := hu.2
  have ki := hi.1
  have mi := hi.2
  have E0 := qh e0
  clear e0
  have E1 := qh e1
  clear e1
  have E2 := qh e2
  clear e2
  go_enter Tryz.func56, Tryz.ntmps56
  go_wp2_with fail
  refine (fit_yes _ _ _ [p, q, f, u, i] _ _ _ rfl rfl (by simp) (by simp) hn ha ?_ (cells_5 ?_ ?_ ?_ ?_ ?_)).mono ?_
  rotate_right
  · rintro e w1 ⟨rfl, hx1⟩
    have c0 := hx1.cell (b := w.heap.size) (o := 0) (v := .int .i64 (n)) (by simp [go_sem])
    have f0 := hx1.free (b := w.heap.size) (o := 0) (by simp <;> omega) (by simp [go_sem])
    have c1 := hx1.cell (b := w.heap.size) (o := 1) (v := .int .i64 (a)) (by simp [go_sem])
    have f1 := hx1.free (b := w.heap.size) (o := 1) (by simp <;> omega) (by simp [go_sem])
    have c2 := hx1.cell (b := w.heap.size + 1) (o := 0) (v := .int .i64 (0)) (by simp [go_sem])
    have f2 := hx1.free (b := w.heap.size + 1) (o := 0) (by simp <;> omega) (by simp [go_sem])
    have c3 := hx1.cell (b := w.heap.size + 1) (o := 1) (v := .int .i64 (0)) (by simp [go_sem])
    have f3 := hx1.free (b := w.heap.size + 1) (o := 1) (by simp <;> omega) (by simp [go_sem])
    have l0 := cell_lt c0
    have l1 := cell_lt c2
    have x1 : Ext w w1 := Ext.trans (((Ext.refl w).alloc _).alloc _ |>.alloc _) hx1
    clear hx1
    go_wp2_with fail
    refine (cut_no _ _ _ _ _ _ _ _ hn ha hp hq hf hu hi E0.out E1.out E2.out).mono ?_
    rintro e w2 ⟨rfl, hx2⟩
    replace f0 := hx2.free (cell_lt c0) f0
    replace c0 := hx2.cell c0
    replace f1 := hx2.free (cell_lt c1) f1
    replace c1 := hx2.cell c1
    replace f2 := hx2.free (cell_lt c2) f2
    replace c2 := hx2.cell c2
    replace f3 := hx2.free (cell_lt c3) f3
    replace c3 := hx2.cell c3
    have l0 := cell_lt c0
    have l1 := cell_lt c2
    replace x1 := x1.trans hx2
    clear hx2
    go_wp2
    refine bodyPost_ret (v := pl (n) (a)) (by simp [results, Tryz.results56, go_sem, c0, c1, c2, c3]) rfl ⟨rfl, ?_⟩
    repeat (first | exact x1 | exact Ext.refl _ | refine Ext.setCell ?_ (by simp) _ | refine Ext.alloc ?_ _)
  all_goals simp [go_sem, hp, hq, hf, hu, hi]

theorem splitText_root (n a p q f u i : Int) (w : World) (hn : okI n) (ha : okI a) (hp : okI p) (hq : okI q) (hf : okI f) (hu : okI u) (hi : okI i) (e0 : ¬ (n = p ∧ q < a)) (e1 : u < 0) :
    Calls Tryz.prog 56 #[pl n a, .int .i64 p, .int .i64 q, .int .i64 f, .int .i64 u, .int .i64 i] w (RPlace (n) (a) w) := by
  have kn := hn.1
  have mn := hn.2
  have ka := ha.1
  have ma := ha.2
  have kp := hp.1
  have mp := hp.2
  have kq := hq.1
  have mq := hq.2
  have kf := hf.1
  have mf := hf.2
  have ku := hu.1
  have mu := hu.2
  have ki := hi.1
  have mi := hi.2
  have E0 := qh e0
  clear e0
  have E1 := qh e1
  clear e1
  go_enter Tryz.func56, Tryz.ntmps56
  go_wp2_with fail
  refine (fit_yes _ _ _ [p, q, f, u, i] _ _ _ rfl rfl (by simp) (by simp) hn ha ?_ (cells_5 ?_ ?_ ?_ ?_ ?_)).mono ?_
  rotate_right
  · rintro e w1 ⟨rfl, hx1⟩
    have c0 := hx1.cell (b := w.heap.size) (o := 0) (v := .int .i64 (n)) (by simp [go_sem])
    have f0 := hx1.free (b := w.heap.size) (o := 0) (by simp <;> omega) (by simp [go_sem])
    have c1 := hx1.cell (b := w.heap.size) (o := 1) (v := .int .i64 (a)) (by simp [go_sem])
    have f1 := hx1.free (b := w.heap.size) (o := 1) (by simp <;> omega) (by simp [go_sem])
    have c2 := hx1.cell (b := w.heap.size + 1) (o := 0) (v := .int .i64 (0)) (by simp [go_sem])
    have f2 := hx1.free (b := w.heap.size + 1) (o := 0) (by simp <;> omega) (by simp [go_sem])
    have c3 := hx1.cell (b := w.heap.size + 1) (o := 1) (v := .int .i64 (0)) (by simp [go_sem])
    have f3 := hx1.free (b := w.heap.size + 1) (o := 1) (by simp <;> omega) (by simp [go_sem])
    have l0 := cell_lt c0
    have l1 := cell_lt c2
    have x1 : Ext w w1 := Ext.trans (((Ext.refl w).alloc _).alloc _ |>.alloc _) hx1
    clear hx1
    go_wp2_with fail
    refine (cut_root _ _ _ _ _ _ _ _ hn ha hp hq hf hu hi E0.out E1.out).mono ?_
    rintro e w2 ⟨rfl, hx2⟩
    replace f0 := hx2.free (cell_lt c0) f0
    replace c0 := hx2.cell c0
    replace f1 := hx2.free (cell_lt c1) f1
    replace c1 := hx2.cell c1
    replace f2 := hx2.free (cell_lt c2) f2
    replace c2 := hx2.cell c2
    replace f3 := hx2.free (cell_lt c3) f3
    replace c3 := hx2.cell c3
    have l0 := cell_lt c0
    have l1 := cell_lt c2
    replace x1 := x1.trans hx2
    clear hx2
    go_wp2
    refine bodyPost_ret (v := pl (n) (a)) (by simp [results, Tryz.results56, go_sem, c0, c1, c2, c3]) rfl ⟨rfl, ?_⟩
    repeat (first | exact x1 | exact Ext.refl _ | refine Ext.setCell ?_ (by simp) _ | refine Ext.alloc ?_ _)
  all_goals simp [go_sem, hp, hq, hf, hu, hi]
theorem joinText_in (n a p o m u i : Int) (w : World) (hn : okI n) (ha : okI a) (hp : okI p) (ho : okI o) (hm : okI m) (hu : okI u) (hi : okI i) (e0 : (n == o) = true) :
    Calls Tryz.prog 172 #[pl n a, .int .i64 p, .int .i64 o, .int .i64 m, .int .i64 u, .int .i64 i] w (RPlace (p) (a + m) w) := by
  have kn := hn.1
  have mn := hn.2
  have ka := ha.1
  have ma := ha.2
  have kp := hp.1
  have mp := hp.2
  have ko := ho.1
  have mo := ho.2
  have km := hm.1
  have mm := hm.2
  have ku := hu.1
  have mu := hu.2
  have ki := hi.1
  have mi := hi.2
  have E0 := qh e0
  go_enter Tryz.func172, Tryz.ntmps172
  go_wp2_with fail
  refine (fit_yes _ _ _ [p, o, m, u, i] _ _ _ rfl rfl (by simp) (by simp) hn ha ?_ (cells_5 ?_ ?_ ?_ ?_ ?_)).mono ?_
  rotate_right
  · rintro e w1 ⟨rfl, hx1⟩
    have c0 := hx1.cell (b := w.heap.size) (o := 0) (v := .int .i64 (n)) (by simp [go_sem])
    have f0 := hx1.free (b := w.heap.size) (o := 0) (by simp <;> omega) (by simp [go_sem])
    have c1 := hx1.cell (b := w.heap.size) (o := 1) (v := .int .i64 (a)) (by simp [go_sem])
    have f1 := hx1.free (b := w.heap.size) (o := 1) (by simp <;> omega) (by simp [go_sem])
    have c2 := hx1.cell (b := w.heap.size + 1) (o := 0) (v := .int .i64 (0)) (by simp [go_sem])
    have f2 := hx1.free (b := w.heap.size + 1) (o := 0) (by simp <;> omega) (by simp [go_sem])
    have c3 := hx1.cell (b := w.heap.size + 1) (o := 1) (v := .int .i64 (0)) (by simp [go_sem])
    have f3 := hx1.free (b := w.heap.size + 1) (o := 1) (by simp <;> omega) (by simp [go_sem])
    have l0 := cell_lt c0
    have l1 := cell_lt c2
    have x1 : Ext w w1 := Ext.trans (((Ext.refl w).alloc _).alloc _ |>.alloc _) hx1
    clear hx1
    go_wp2_with fail
    refine (to_any _ _ _).mono ?_
    rintro e w2 ⟨rfl, hx2⟩
    replace f0 := hx2.free (cell_lt c0) f0
    replace c0 := hx2.cell c0
    replace f1 := hx2.free (cell_lt c1) f1
    replace c1 := hx2.cell c1
    replace f2 := hx2.free (cell_lt c2) f2
    replace c2 := hx2.cell c2
    replace f3 := hx2.free (cell_lt c3) f3
    replace c3 := hx2.cell c3
    have l0 := cell_lt c0
    have l1 := cell_lt c2
    replace x1 := x1.trans hx2
    clear hx2
    go_wp2
    refine bodyPost_ret (v := pl (p) (a + m)) (by simp [results, Tryz.results172, go_sem, c0, c1, c2, c3]) rfl ⟨rfl, ?_⟩
    repeat (first | exact x1 | exact Ext.refl _ | refine Ext.setCell ?_ (by simp) _ | refine Ext.alloc ?_ _)
  all_goals simp [go_sem, hp, ho, hm, hu, hi]

theorem joinText_at (n a p o m u i : Int) (w : World) (hn : okI n) (ha : okI a) (hp : okI p) (ho : okI o) (hm : okI m) (hu : okI u) (hi : okI i) (e0 : (n == o) = false) (e1 : (n == u && a == i) = true) :
    Calls Tryz.prog 172 #[pl n a, .int .i64 p, .int .i64 o, .int .i64 m, .int .i64 u, .int .i64 i] w (RPlace (p) (m) w) := by
  have kn := hn.1
  have mn := hn.2
  have ka := ha.1
  have ma := ha.2
  have kp := hp.1
  have mp := hp.2
  have ko := ho.1
  have mo := ho.2
  have km := hm.1
  have mm := hm.2
  have ku := hu.1
  have mu := hu.2
  have ki := hi.1
  have mi := hi.2
  obtain ⟨rfl, rfl⟩ : n = u ∧ a = i := by simpa using e1
  have E0 := qh e0
  have E1 := qh e1
  clear e1
  go_enter Tryz.func172, Tryz.ntmps172
  go_wp2_with fail
  refine (fit_yes _ _ _ [p, o, m, n, a] _ _ _ rfl rfl (by simp) (by simp) hn ha ?_ (cells_5 ?_ ?_ ?_ ?_ ?_)).mono ?_
  rotate_right
  · rintro e w1 ⟨rfl, hx1⟩
    have c0 := hx1.cell (b := w.heap.size) (o := 0) (v := .int .i64 (n)) (by simp [go_sem])
    have f0 := hx1.free (b := w.heap.size) (o := 0) (by simp <;> omega) (by simp [go_sem])
    have c1 := hx1.cell (b := w.heap.size) (o := 1) (v := .int .i64 (a)) (by simp [go_sem])
    have f1 := hx1.free (b := w.heap.size) (o := 1) (by simp <;> omega) (by simp [go_sem])
    have c2 := hx1.cell (b := w.heap.size + 1) (o := 0) (v := .int .i64 (0)) (by simp [go_sem])
    have f2 := hx1.free (b := w.heap.size + 1) (o := 0) (by simp <;> omega) (by simp [go_sem])
    have c3 := hx1.cell (b := w.heap.size + 1) (o := 1) (v := .int .i64 (0)) (by simp [go_sem])
    have f3 := hx1.free (b := w.heap.size + 1) (o := 1) (by simp <;> omega) (by simp [go_sem])
    have l0 := cell_lt c0
    have l1 := cell_lt c2
    have x1 : Ext w w1 := Ext.trans (((Ext.refl w).alloc _).alloc _ |>.alloc _) hx1
    clear hx1
    go_wp2_with fail
    go_region_with (go_at_call 130; refine (to_any _ _ _).mono ?_; rintro e w2 ⟨rfl, hx2⟩; replace f0 := hx2.free (cell_lt c0) f0; replace c0 := hx2.cell c0; replace f1 := hx2.free (cell_lt c1) f1; replace c1 := hx2.cell c1; replace f2 := hx2.free (cell_lt c2) f2; replace c2 := hx2.cell c2; replace f3 := hx2.free (cell_lt c3) f3; replace c3 := hx2.cell c3; replace x1 := x1.drew.trans hx2; clear hx2; have l0 := cell_lt c0; have l1 := cell_lt c2)
    all_goals
      go_wp2_with fail
      refine (to_any _ _ _).mono ?_
      rintro e w3 ⟨rfl, hx3⟩
      replace f0 := hx3.free (cell_lt c0) f0
      replace c0 := hx3.cell c0
      replace f1 := hx3.free (cell_lt c1) f1
      replace c1 := hx3.cell c1
      replace f2 := hx3.free (cell_lt c2) f2
      replace c2 := hx3.cell c2
      replace f3 := hx3.free (cell_lt c3) f3
      replace c3 := hx3.cell c3
      have l0 := cell_lt c0
      have l1 := cell_lt c2
      replace x1 := x1.trans hx3
      clear hx3
      go_wp2
      refine bodyPost_ret (v := pl (p) (m)) (by simp [results, Tryz.results172, go_sem, c0, c1, c2, c3]) rfl ⟨rfl, ?_⟩
      repeat (first | exact x1 | exact Ext.refl _ | refine Ext.setCell ?_ (by simp) _ | refine Ext.alloc ?_ _)
  all_goals simp [go_sem, hp, ho, hm, hn, ha]

theorem joinText_yes (n a p o m u i : Int) (w : World) (hn : okI n) (ha : okI a) (hp : okI p) (ho : okI o) (hm : okI m) (hu : okI u) (hi : okI i) (e0 : (n == o) = false) (e1 : (a == i) = false) (e2 : n = u) (e3 : i < a) :
    Calls Tryz.prog 172 #[pl n a, .int .i64 p, .int .i64 o, .int .i64 m, .int .i64 u, .int .i64 i] w (RPlace (n) (a - 1) w) := by
  have kn := hn.1
  have mn := hn.2
  have ka := ha.1
  have ma := ha.2
  have kp := hp.1
  have mp := hp.2
  have ko := ho.1
  have mo := ho.2
  have km := hm.1
  have mm := hm.2
  have ku := hu.1
  have mu := hu.2
  have ki := hi.1
  have mi := hi.2
  have E0 := qh e0
  have E1 := qh e1
  have E2 := qh e2
  clear e2
  have E3 := qh e3
  clear e3
  go_enter Tryz.func172, Tryz.ntmps172
  go_wp2_with fail
  refine (fit_yes _ _ _ [p, o, m, u, i] _ _ _ rfl rfl (by simp) (by simp) hn ha ?_ (cells_5 ?_ ?_ ?_ ?_ ?_)).mono ?_
  rotate_right
  · rintro e w1 ⟨rfl, hx1⟩
    have c0 := hx1.cell (b := w.heap.size) (o := 0) (v := .int .i64 (n)) (by simp [go_sem])
    have f0 := hx1.free (b := w.heap.size) (o := 0) (by simp <;> omega) (by simp [go_sem])
    have c1 := hx1.cell (b := w.heap.size) (o := 1) (v := .int .i64 (a)) (by simp [go_sem])
    have f1 := hx1.free (b := w.heap.size) (o := 1) (by simp <;> omega) (by simp [go_sem])
    have c2 := hx1.cell (b := w.heap.size + 1) (o := 0) (v := .int .i64 (0)) (by simp [go_sem])
    have f2 := hx1.free (b := w.heap.size + 1) (o := 0) (by simp <;> omega) (by simp [go_sem])
    have c3 := hx1.cell (b := w.heap.size + 1) (o := 1) (v := .int .i64 (0)) (by simp [go_sem])
    have f3 := hx1.free (b := w.heap.size + 1) (o := 1) (by simp <;> omega) (by simp [go_sem])
    have l0 := cell_lt c0
    have l1 := cell_lt c2
    have x1 : Ext w w1 := Ext.trans (((Ext.refl w).alloc _).alloc _ |>.alloc _) hx1
    clear hx1
    go_wp2_with fail
    go_region_with (go_at_call 130; refine (to_any _ _ _).mono ?_; rintro e w2 ⟨rfl, hx2⟩; replace f0 := hx2.free (cell_lt c0) f0; replace c0 := hx2.cell c0; replace f1 := hx2.free (cell_lt c1) f1; replace c1 := hx2.cell c1; replace f2 := hx2.free (cell_lt c2) f2; replace c2 := hx2.cell c2; replace f3 := hx2.free (cell_lt c3) f3; replace c3 := hx2.cell c3; replace x1 := x1.drew.trans hx2; clear hx2; have l0 := cell_lt c0; have l1 := cell_lt c2)
    all_goals
      go_wp2_with fail
      refine (above_yes _ E2.out E3.out).mono ?_
      rintro e w3 ⟨rfl, hx3⟩
      replace f0 := hx3.free (cell_lt c0) f0
      replace c0 := hx3.cell c0
      replace f1 := hx3.free (cell_lt c1) f1
      replace c1 := hx3.cell c1
      replace f2 := hx3.free (cell_lt c2) f2
      replace c2 := hx3.cell c2
      replace f3 := hx3.free (cell_lt c3) f3
      replace c3 := hx3.cell c3
      have l0 := cell_lt c0
      have l1 := cell_lt c2
      replace x1 := x1.trans hx3
      clear hx3
      go_wp2
      refine bodyPost_ret (v := pl (n) (a - 1)) (by simp [results, Tryz.results172, go_sem, c0, c1, c2, c3]) rfl ⟨rfl, ?_⟩
      repeat (first | exact x1 | exact Ext.refl _ | refine Ext.setCell ?_ (by simp) _ | refine Ext.alloc ?_ _)
  all_goals simp [go_sem, hp, ho, hm, hu, hi]

theorem joinText_far (n a p o m u i : Int) (w : World) (hn : okI n) (ha : okI a) (hp : okI p) (ho : okI o) (hm : okI m) (hu : okI u) (hi : okI i) (e0 : (n == o) = false) (e1 : (n == u) = false) :
    Calls Tryz.prog 172 #[pl n a, .int .i64 p, .int .i64 o, .int .i64 m, .int .i64 u, .int .i64 i] w (RPlace (n) (a) w) := by
  have kn := hn.1
  have mn := hn.2
  have ka := ha.1
  have ma := ha.2
  have kp := hp.1
  have mp := hp.2
  have ko := ho.1
  have mo := ho.2
  have km := hm.1
  have mm := hm.2
  have ku := hu.1
  have mu := hu.2
  have ki := hi.1
  have mi := hi.2
  have E0 := qh e0
  have E1 := qh e1
  go_enter Tryz.func172, Tryz.ntmps172
  go_wp2_with fail
  refine (fit_yes _ _ _ [p, o, m, u, i] _ _ _ rfl rfl (by simp) (by simp) hn ha ?_ (cells_5 ?_ ?_ ?_ ?_ ?_)).mono ?_
  rotate_right
  · rintro e w1 ⟨rfl, hx1⟩
    have c0 := hx1.cell (b := w.heap.size) (o := 0) (v := .int .i64 (n)) (by simp [go_sem])
    have f0 := hx1.free (b := w.heap.size) (o := 0) (by simp <;> omega) (by simp [go_sem])
    have c1 := hx1.cell (b := w.heap.size) (o := 1) (v := .int .i64 (a)) (by simp [go_sem])
    have f1 := hx1.free (b := w.heap.size) (o := 1) (by simp <;> omega) (by simp [go_sem])
    have c2 := hx1.cell (b := w.heap.size + 1) (o := 0) (v := .int .i64 (0)) (by simp [go_sem])
    have f2 := hx1.free (b := w.heap.size + 1) (o := 0) (by simp <;> omega) (by simp [go_sem])
    have c3 := hx1.cell (b := w.heap.size + 1) (o := 1) (v := .int .i64 (0)) (by simp [go_sem])
    have f3 := hx1.free (b := w.heap.size + 1) (o := 1) (by simp <;> omega) (by simp [go_sem])
    have l0 := cell_lt c0
    have l1 := cell_lt c2
    have x1 : Ext w w1 := Ext.trans (((Ext.refl w).alloc _).alloc _ |>.alloc _) hx1
    clear hx1
    go_wp2_with fail
    go_region_with (go_at_call 130; refine (to_any _ _ _).mono ?_; rintro e w2 ⟨rfl, hx2⟩; replace f0 := hx2.free (cell_lt c0) f0; replace c0 := hx2.cell c0; replace f1 := hx2.free (cell_lt c1) f1; replace c1 := hx2.cell c1; replace f2 := hx2.free (cell_lt c2) f2; replace c2 := hx2.cell c2; replace f3 := hx2.free (cell_lt c3) f3; replace c3 := hx2.cell c3; replace x1 := x1.drew.trans hx2; clear hx2; have l0 := cell_lt c0; have l1 := cell_lt c2)
    all_goals
      go_wp2_with fail
      refine (above_no _ (by have := E1.out; intro h; rw [h.1] at this; simp at this)).mono ?_
      rintro e w3 ⟨rfl, hx3⟩
      replace f0 := hx3.free (cell_lt c0) f0
      replace c0 := hx3.cell c0
      replace f1 := hx3.free (cell_lt c1) f1
      replace c1 := hx3.cell c1
      replace f2 := hx3.free (cell_lt c2) f2
      replace c2 := hx3.cell c2
      replace f3 := hx3.free (cell_lt c3) f3
      replace c3 := hx3.cell c3
      have l0 := cell_lt c0
      have l1 := cell_lt c2
      replace x1 := x1.trans hx3
      clear hx3
      go_wp2
      refine bodyPost_ret (v := pl (n) (a)) (by simp [results, Tryz.results172, go_sem, c0, c1, c2, c3]) rfl ⟨rfl, ?_⟩
      repeat (first | exact x1 | exact Ext.refl _ | refine Ext.setCell ?_ (by simp) _ | refine Ext.alloc ?_ _)
  all_goals simp [go_sem, hp, ho, hm, hu, hi]

theorem joinText_no (n a p o m u i : Int) (w : World) (hn : okI n) (ha : okI a) (hp : okI p) (ho : okI o) (hm : okI m) (hu : okI u) (hi : okI i) (e0 : (n == o) = false) (e1 : (a == i) = false) (e2 : n = u) (e3 : ¬ i < a) :
    Calls Tryz.prog 172 #[pl n a, .int .i64 p, .int .i64 o, .int .i64 m, .int .i64 u, .int .i64 i] w (RPlace (n) (a) w) := by
  have kn := hn.1
  have mn := hn.2
  have ka := ha.1
  have ma := ha.2
  have kp := hp.1
  have mp := hp.2
  have ko := ho.1
  have mo := ho.2
  have km := hm.1
  have mm := hm.2
  have ku := hu.1
  have mu := hu.2
  have ki := hi.1
  have mi := hi.2
  have E0 := qh e0
  have E1 := qh e1
  have E2 := qh e2
  clear e2
  have E3 := qh e3
  clear e3
  go_enter Tryz.func172, Tryz.ntmps172
  go_wp2_with fail
  refine (fit_yes _ _ _ [p, o, m, u, i] _ _ _ rfl rfl (by simp) (by simp) hn ha ?_ (cells_5 ?_ ?_ ?_ ?_ ?_)).mono ?_
  rotate_right
  · rintro e w1 ⟨rfl, hx1⟩
    have c0 := hx1.cell (b := w.heap.size) (o := 0) (v := .int .i64 (n)) (by simp [go_sem])
    have f0 := hx1.free (b := w.heap.size) (o := 0) (by simp <;> omega) (by simp [go_sem])
    have c1 := hx1.cell (b := w.heap.size) (o := 1) (v := .int .i64 (a)) (by simp [go_sem])
    have f1 := hx1.free (b := w.heap.size) (o := 1) (by simp <;> omega) (by simp [go_sem])
    have c2 := hx1.cell (b := w.heap.size + 1) (o := 0) (v := .int .i64 (0)) (by simp [go_sem])
    have f2 := hx1.free (b := w.heap.size + 1) (o := 0) (by simp <;> omega) (by simp [go_sem])
    have c3 := hx1.cell (b := w.heap.size + 1) (o := 1) (v := .int .i64 (0)) (by simp [go_sem])
    have f3 := hx1.free (b := w.heap.size + 1) (o := 1) (by simp <;> omega) (by simp [go_sem])
    have l0 := cell_lt c0
    have l1 := cell_lt c2
    have x1 : Ext w w1 := Ext.trans (((Ext.refl w).alloc _).alloc _ |>.alloc _) hx1
    clear hx1
    go_wp2_with fail
    go_region_with (go_at_call 130; refine (to_any _ _ _).mono ?_; rintro e w2 ⟨rfl, hx2⟩; replace f0 := hx2.free (cell_lt c0) f0; replace c0 := hx2.cell c0; replace f1 := hx2.free (cell_lt c1) f1; replace c1 := hx2.cell c1; replace f2 := hx2.free (cell_lt c2) f2; replace c2 := hx2.cell c2; replace f3 := hx2.free (cell_lt c3) f3; replace c3 := hx2.cell c3; replace x1 := x1.drew.trans hx2; clear hx2; have l0 := cell_lt c0; have l1 := cell_lt c2)
    all_goals
      go_wp2_with fail
      refine (above_no _ (by have := E3.out; omega)).mono ?_
      rintro e w3 ⟨rfl, hx3⟩
      replace f0 := hx3.free (cell_lt c0) f0
      replace c0 := hx3.cell c0
      replace f1 := hx3.free (cell_lt c1) f1
      replace c1 := hx3.cell c1
      replace f2 := hx3.free (cell_lt c2) f2
      replace c2 := hx3.cell c2
      replace f3 := hx3.free (cell_lt c3) f3
      replace c3 := hx3.cell c3
      have l0 := cell_lt c0
      have l1 := cell_lt c2
      replace x1 := x1.trans hx3
      clear hx3
      go_wp2
      refine bodyPost_ret (v := pl (n) (a)) (by simp [results, Tryz.results172, go_sem, c0, c1, c2, c3]) rfl ⟨rfl, ?_⟩
      repeat (first | exact x1 | exact Ext.refl _ | refine Ext.setCell ?_ (by simp) _ | refine Ext.alloc ?_ _)
  all_goals simp [go_sem, hp, ho, hm, hu, hi]
def insA (n a p q m : Int) : Int := if n = p ∧ q < a then a + m else a
def remA (n a p q : Int) : Int := if n = p ∧ q < a then a - 1 else a
def repA (n a p q c m : Int) : Int := if n = p ∧ q < a then (if q + c < a then a + m - c else q) else a

theorem inserted_any (n a p q m : Int) (w : World) (hn : okI n) (ha : okI a) (hp : okI p) (hq : okI q) (hm : okI m) :
    Calls Tryz.prog 125 #[pl n a, .int .i64 p, .int .i64 q, .int .i64 m] w (RPlace n (insA n a p q m) w) := by
  by_cases h : n = p ∧ q < a
  · have e : insA n a p q m = a + m := if_pos h
    rw [e]; exact inserted_yes n a p q m w hn ha hp hq hm h.1 h.2
  · have e : insA n a p q m = a := if_neg h
    rw [e]; exact inserted_no n a p q m w hn ha hp hq hm h
theorem removed_any (n a p q : Int) (w : World) (hn : okI n) (ha : okI a) (hp : okI p) (hq : okI q) :
    Calls Tryz.prog 133 #[pl n a, .int .i64 p, .int .i64 q, .bool false] w (RPlace n (remA n a p q) w) := by
  by_cases h : n = p ∧ q < a
  · have e : remA n a p q = a - 1 := if_pos h
    rw [e]; exact removed_yes n a p q w hn ha hp hq h.1 h.2
  · have e : remA n a p q = a := if_neg h
    rw [e]; exact removed_no n a p q w hn ha hp hq h
theorem replaced_any (n a p q c m : Int) (w : World) (hn : okI n) (ha : okI a) (hp : okI p) (hq : okI q) (hc : okI c) (hm : okI m) :
    Calls Tryz.prog 161 #[pl n a, .int .i64 p, .int .i64 q, .int .i64 c, .int .i64 m] w (RPlace n (repA n a p q c m) w) := by
  by_cases h : n = p ∧ q < a
  · by_cases h' : q + c < a
    · have e : repA n a p q c m = a + m - c := by unfold repA; rw [if_pos h, if_pos h']
      have k := replaced_far n a p q c m w hn ha hp hq hc hm h.1 h.2 h'
      rw [e]; rw [← h.1] at k ⊢; exact k
    · have e : repA n a p q c m = q := by unfold repA; rw [if_pos h, if_neg h']
      have k := replaced_mid n a p q c m w hn ha hp hq hc hm h.1 h.2 h'
      rw [e]; rw [← h.1] at k ⊢; exact k
  · have e : repA n a p q c m = a := if_neg h
    rw [e]; exact replaced_no n a p q c m w hn ha hp hq hc hm h
end Go.Proofs.YtfibikkcfmohjaaGreat
namespace Go.Proofs.YtfibikkcfmohjaaGreat
open Go Go.RowKit Go.BigFrame
section
variable {T : Tr} {d : Nat → Nat}
theorem WF.win_within (hw : WF T d) {o : Int} : ∀ id, (∃ nd, T.get? id = some nd) → T.win id o = T.within id o := by
  refine hw.down _ (fun id h => ?_) (fun id h ih => ?_)
  · rintro ⟨nd, hg⟩
    obtain ⟨i, rfl, hi⟩ := nat_of hg
    have hu := hw.up_neg h
    rw [hw.win_step hg, hw.within_step hi, hu, hw.win_none (Tr.get_neg T (by omega))]
    rw [Tr.up_some hg] at hu
    rw [hu, within_neg]
    by_cases e : (i : Int) = o <;> simp [e]
  · rintro ⟨nd, hg⟩
    obtain ⟨i, rfl, hi⟩ := nat_of hg
    rw [hw.win_step hg, hw.within_step hi, ih (hw.up_get h), Tr.up_some hg]
    by_cases e : (i : Int) = o <;> simp [e]
end
theorem sizes_mem {l : List PN} {x : PN} (h : x ∈ l) : x.size ≤ PN.sizes l := by
  induction l with
  | nil => cases h
  | cons k r ih =>
    simp only [PN.sizes]
    rcases List.mem_cons.1 h with rfl | h
    · omega
    · have := ih h; omega
section
variable {T : Tr}
end
section
variable {w0 w w' g : World} {tb rb : Nat} {T1 T2 : Tr} {L : Nat → Prop}
end
end Go.Proofs.YtfibikkcfmohjaaGreat
namespace Go.Proofs.YtfibikkcfmohjaaGreat.Tail
open Go Go.RowKit Go.BigFrame
section
variable {P : Program} {ops : Array Oper} {md : Region.Mode} {C : World → Prop}
def wpAnyLQ (P : Program) (md : Region.Mode) (ops : Array Oper) (C : World → Prop) (n : Nat) (L : Array Bool → Act → Prop) : Nat → Array Bool → Act → Prop
  | 0, listed, a => L listed a
  | f + 1, listed, a => Region.ready md ops listed ≠ [] ∧ ∀ i ∈ Region.ready md ops listed, i < n ∧ qOp P ops C i (wpAnyLQ P md ops C n L f (listed.setIfInBounds i true)) a
theorem wpAny_of_headQ {n g : Nat} {L : Array Bool → Act → Prop} {Q' : Exit → Act → World → Prop} (hL : ∀ listed a w, C w → L listed a → wpAny P md ops Q' g listed a w) :
    ∀ (f : Nat) (listed : Array Bool) (a : Act) (w : World), C w → wpAnyLQ P md ops C n L f listed a → wpAny P md ops Q' (f + g) listed a w
  | 0, listed, a, w, hw, h => by rw [Nat.zero_add]; exact hL _ _ w hw h
  | f + 1, listed, a, w, hw, h => by
    rw [show f + 1 + g = (f + g) + 1 by omega]
    exact ⟨fun h0 => absurd h0 h.1, fun i hi => wpOp_of_qOp hw (fun a' w' hw' h' => wpAny_of_headQ hL f _ a' w' hw' h') (h.2 i hi).2⟩
theorem wpAnyLQ_first {n i : Nat} {oi : Oper} {v : Value} {L : Array Bool → Act → Prop} (hi : ops[i]? = some oi) (hsel : ∀ (j : Nat) (o : Oper) cs b, ops[j]? = some o → o.op ≠ .select cs b)
    (hs : Region.sinkB md ops n = true) (hc : Region.chainB md ops n = true) (hn : n < ops.size) (hin : i < n)
    (hdone : ∀ listed a, L listed a → ∀ j ∈ Region.ready md ops listed, n ≤ j) :
    ∀ (f : Nat) (listed : Array Bool) (a : Act), HeadInv md ops n listed →
      (∀ j oj, ops[j]? = some oj → j ≠ i → listed.getD j true = false → (∀ e ∈ oj.after, Region.binds md e = true → e.on ≠ i) → oi.apart ops oj = true) →
      i ∈ Region.ready md ops listed → YieldsIn P ops C oi v a →
      wpAnyLQ P md ops C n L f (listed.setIfInBounds i true) (a.put oi.dst v) → wpAnyLQ P md ops C n L (f + 1) listed a := by
  intro f
  induction f with
  | zero =>
    intro listed a inv _ hr hy H
    have hun := (mem_ready.1 hr).1
    refine ⟨fun h => (by rw [h] at hr; cases hr), fun j hj => ?_⟩
    have hjn : j < n := by
      rcases Nat.lt_or_ge j n with h | h
      · exact h
      · exact absurd hj (tail_waits hs hc hn inv _ i rfl hin hun j h)
    refine ⟨hjn, ?_⟩
    by_cases hji : j = i
    · subst hji; exact hy.qOp hi H
    · have := hdone _ _ H j (ready_mono hj hji)
      omega
  | succ f ih =>
    intro listed a inv hfree hr hy H
    have hun := (mem_ready.1 hr).1
    refine ⟨fun h => (by rw [h] at hr; cases hr), fun j hj => ?_⟩
    have hjn : j < n := by
      rcases Nat.lt_or_ge j n with h | h
      · exact h
      · exact absurd hj (tail_waits hs hc hn inv _ i rfl hin hun j h)
    refine ⟨hjn, ?_⟩
    by_cases hji : j = i
    · subst hji; exact hy.qOp hi H
    · have h1 := (H.2 j (ready_mono hj hji)).2
      obtain ⟨hjun, oj, hoj, hall⟩ := mem_ready.1 hj
      have hnot : ∀ e ∈ oj.after, Region.binds md e = true → e.on ≠ i := fun e he hb heq => by
        have h1 := hall e he hb
        rw [heq, getD_both hun] at h1
        cases h1
      have h2 := qOp_put hoj (hfree j oj hoj hji hjun hnot) (fun cs b => hsel i oi cs b hi) (fun cs b => hsel j oj cs b hoj) hy h1
      have hfree' : ∀ k ok, ops[k]? = some ok → k ≠ i → (listed.setIfInBounds j true).getD k true = false →
          (∀ e ∈ ok.after, Region.binds md e = true → e.on ≠ i) → oi.apart ops ok = true := fun k ok hk hki hun hno => by
        refine hfree k ok hk hki ?_ hno
        by_cases hjk : j = k
        · subst hjk; exact hjun
        · rw [getD_set_ne true hjk] at hun; exact hun
      refine qOp_mono (fun a' h3 => ih (listed.setIfInBounds j true) a' (inv.set hj hjn) hfree' (ready_mono hr (Ne.symm hji)) h3.1 ?_) h2
      rw [Array.setIfInBounds_comm _ _ hji]
      exact h3.2
theorem wpAnyLQ_lex {n g : Nat} {Lq : Act → Prop} (hsel : Region.noSelect ops = true) (hs : Region.sinkB md ops n = true) (hc : Region.chainB md ops n = true) (hn : n < ops.size) :
    ∀ (l : List Oper) (k : Nat) (listed : Array Bool) (a : Act), (∀ j, j < l.length → l[j]? = ops[k + j]?) → k + l.length = n → HeadInv md ops n listed →
    Region.lexHead md ops g l.length k listed = true → wpQuiet P ops C Lq l a →
    wpAnyLQ P md ops C n (fun listed' a' => Region.seqB md ops g n listed' = true ∧ Lq a') l.length listed a
  | [], k, listed, a, _, hk, _, hB, h => by
    have : k = n := by simpa using hk
    subst this
    exact ⟨by simpa [Region.lexHead] using hB, h⟩
  | o :: l, k, listed, a, hl, hk, inv, hB, h => by
    have h0 : ops[k]? = some o := by simpa using (hl 0 (by simp)).symm
    simp only [List.length_cons, Region.lexHead, Bool.and_eq_true] at hB
    obtain ⟨⟨hr, hf⟩, hB'⟩ := hB
    have hkn : k < n := by simp only [List.length_cons] at hk; omega
    have hr' : k ∈ Region.ready md ops listed := by simpa using hr
    have hst : qOp P ops C k (wpQuiet P ops C Lq l) a := by unfold qOp; simp only [h0]; exact h
    obtain ⟨v, hy, hK⟩ := yieldsIn_of_qOp h0 hst
    exact wpAnyLQ_first h0 (Region.noSelect_spec hsel) hs hc hn hkn (fun listed' a' hL => seqB_ready hL.1) l.length listed a inv (Region.free_spec h0 hf) hr' hy
      (wpAnyLQ_lex hsel hs hc hn l (k + 1) _ _ (fun j hj => by have := hl (j + 1) (by simp; omega); simpa [Nat.add_assoc, Nat.add_comm 1 j] using this) (by simp only [List.length_cons] at hk; omega) (inv.set hr' hkn) hB' hK)
theorem wp_region_quiet_tail {id : Nat} {Q : Exit → Act → World → Prop} {a : Act} {w : World} {l : List Oper} (n : Nat) (hm : P.follows .mixedOrders = true) (hB : Region.lexTailB .any l.toArray n = true) (hC : C w.drew)
    (h : wpQuiet P l.toArray C (fun a' => ∀ w', C w' → wpList P l.toArray Q (l.drop n) a' w') (l.take n) a) : (Code.region id l.toArray true).wp P Q a w := by
  simp only [Region.lexTailB, Bool.and_eq_true, decide_eq_true_eq] at hB
  obtain ⟨⟨⟨⟨hsel, hn⟩, hs⟩, hc⟩, hlex⟩ := hB
  have hn' : n < l.length := by simpa using hn
  have htl : (l.take n).length = n := by simp; omega
  have hdl : (l.drop n).length = l.toArray.size - n := by simp
  have inv0 : HeadInv .any l.toArray n (Array.replicate l.toArray.size false) :=
    ⟨by simp, fun j oj _ hl => (by rw [getD_replicate_false] at hl; cases hl), fun t _ ht => getD_in (by simpa using ht) (getD_replicate_false _ _)⟩
  have H := wpAnyLQ_lex (md := .any) (g := l.toArray.size - n) hsel hs hc hn (l.take n) 0 _ a (fun j hj => by
    have hj' : j < n := by rw [htl] at hj; exact hj
    simp [hj']) (by simpa using htl) inv0 (by rw [htl]; exact hlex) h
  refine wp_region_any hm ?_
  have := wpAny_of_headQ (Q' := Q) (g := l.toArray.size - n) (fun listed a' w' hw' hL => by
    have := wpAny_of_seq (md := .any) (Q' := Q) (l.drop n) n listed a' w' (fun j => by simp [List.getElem?_drop]) (by rw [hdl]; exact hL.1) (hL.2 w' hw')
    rwa [hdl] at this) _ _ _ w.drew hC H
  rw [htl, show n + (l.toArray.size - n) = l.toArray.size by omega] at this
  exact this
def afterB (md : Region.Mode) (ops : Array Oper) (n : Nat) : Bool := (List.range ops.size).all fun t => decide (t ≤ n) || (List.range t).any fun j => decide (n ≤ j) && Region.waitsFor md ops t j
theorem tail_waits2 {n : Nat} {listed : Array Bool} (hs : Region.sinkB md ops n = true) (hc : afterB md ops n = true) (hn : n < ops.size) (inv : HeadInv md ops n listed) :
    ∀ (d i : Nat), n - i = d → i < n → listed.getD i true = false → ∀ t, n ≤ t → t ∉ Region.ready md ops listed := by
  intro d
  induction d using Nat.strongRecOn with
  | _ d ih =>
    intro i hd hi hun t ht hr
    obtain ⟨_, ot, hot, hall⟩ := mem_ready.1 hr
    have htlt : t < ops.size := (Array.getElem?_eq_some_iff.1 hot).1
    by_cases htn : t = n
    · subst htn
      have h1 := List.all_eq_true.1 hs i (List.mem_range.2 hi)
      obtain ⟨j, hj, hj2⟩ := List.any_eq_true.1 h1
      simp only [Bool.and_eq_true, decide_eq_true_eq] at hj2
      obtain ⟨oj, hoj, e, he, hb, hon⟩ := Region.waitsFor_spec hj2.2
      have hjle : j ≤ t := by have := List.mem_range.1 hj; omega
      by_cases hjt : j = t
      · subst hjt
        have : oj = ot := Option.some.inj (hoj.symm.trans hot)
        subst this
        have h2 := hall e he hb
        rw [hon, getD_both hun] at h2
        cases h2
      · cases hl : listed.getD j false with
        | true =>
          have h2 := inv.closed j oj hoj hl e he hb
          rw [hon, getD_both hun] at h2
          cases h2
        | false =>
          have hjs : j < listed.size := by rw [inv.size]; omega
          exact ih (t - j) (by omega) j rfl (by omega) (getD_in hjs hl) t (Nat.le_refl _) hr
    · have h1 := List.all_eq_true.1 hc t (List.mem_range.2 htlt)
      simp only [Bool.or_eq_true, decide_eq_true_eq] at h1
      rcases h1 with h1 | h1
      · omega
      · obtain ⟨j, hj, hj2⟩ := List.any_eq_true.1 h1
        simp only [Bool.and_eq_true, decide_eq_true_eq] at hj2
        have hjt := List.mem_range.1 hj
        obtain ⟨o', ho', e, he, hb, hon⟩ := Region.waitsFor_spec hj2.2
        have : o' = ot := Option.some.inj (ho'.symm.trans hot)
        subst this
        have h2 := hall e he hb
        rw [hon, getD_both (inv.tail j hj2.1 (by omega))] at h2
        cases h2
theorem wpAnyLQ_first2 {n i : Nat} {oi : Oper} {v : Value} {L : Array Bool → Act → Prop} (hi : ops[i]? = some oi) (hsel : ∀ (j : Nat) (o : Oper) cs b, ops[j]? = some o → o.op ≠ .select cs b)
    (hs : Region.sinkB md ops n = true) (hc : afterB md ops n = true) (hn : n < ops.size) (hin : i < n)
    (hdone : ∀ listed a, L listed a → ∀ j ∈ Region.ready md ops listed, n ≤ j) :
    ∀ (f : Nat) (listed : Array Bool) (a : Act), HeadInv md ops n listed →
      (∀ j oj, ops[j]? = some oj → j ≠ i → listed.getD j true = false → (∀ e ∈ oj.after, Region.binds md e = true → e.on ≠ i) → oi.apart ops oj = true) →
      i ∈ Region.ready md ops listed → YieldsIn P ops C oi v a →
      wpAnyLQ P md ops C n L f (listed.setIfInBounds i true) (a.put oi.dst v) → wpAnyLQ P md ops C n L (f + 1) listed a := by
  intro f
  induction f with
  | zero =>
    intro listed a inv _ hr hy H
    have hun := (mem_ready.1 hr).1
    refine ⟨fun h => (by rw [h] at hr; cases hr), fun j hj => ?_⟩
    have hjn : j < n := by
      rcases Nat.lt_or_ge j n with h | h
      · exact h
      · exact absurd hj (tail_waits2 hs hc hn inv _ i rfl hin hun j h)
    refine ⟨hjn, ?_⟩
    by_cases hji : j = i
    · subst hji; exact hy.qOp hi H
    · have := hdone _ _ H j (ready_mono hj hji)
      omega
  | succ f ih =>
    intro listed a inv hfree hr hy H
    have hun := (mem_ready.1 hr).1
    refine ⟨fun h => (by rw [h] at hr; cases hr), fun j hj => ?_⟩
    have hjn : j < n := by
      rcases Nat.lt_or_ge j n with h | h
      · exact h
      · exact absurd hj (tail_waits2 hs hc hn inv _ i rfl hin hun j h)
    refine ⟨hjn, ?_⟩
    by_cases hji : j = i
    · subst hji; exact hy.qOp hi H
    · have h1 := (H.2 j (ready_mono hj hji)).2
      obtain ⟨hjun, oj, hoj, hall⟩ := mem_ready.1 hj
      have hnot : ∀ e ∈ oj.after, Region.binds md e = true → e.on ≠ i := fun e he hb heq => by
        have h1 := hall e he hb
        rw [heq, getD_both hun] at h1
        cases h1
      have h2 := qOp_put hoj (hfree j oj hoj hji hjun hnot) (fun cs b => hsel i oi cs b hi) (fun cs b => hsel j oj cs b hoj) hy h1
      have hfree' : ∀ k ok, ops[k]? = some ok → k ≠ i → (listed.setIfInBounds j true).getD k true = false →
          (∀ e ∈ ok.after, Region.binds md e = true → e.on ≠ i) → oi.apart ops ok = true := fun k ok hk hki hun hno => by
        refine hfree k ok hk hki ?_ hno
        by_cases hjk : j = k
        · subst hjk; exact hjun
        · rw [getD_set_ne true hjk] at hun; exact hun
      refine qOp_mono (fun a' h3 => ih (listed.setIfInBounds j true) a' (inv.set hj hjn) hfree' (ready_mono hr (Ne.symm hji)) h3.1 ?_) h2
      rw [Array.setIfInBounds_comm _ _ hji]
      exact h3.2
def lexMid (md : Region.Mode) (ops : Array Oper) (g : Nat) : Nat → Nat → Array Bool → Bool
  | 0, k, listed => decide (Region.ready md ops listed = [k]) && Region.lexFrom md ops g (k + 1) (listed.setIfInBounds k true)
  | f + 1, k, listed => (Region.ready md ops listed).contains k && Region.free md ops listed k && lexMid md ops g f (k + 1) (listed.setIfInBounds k true)
def midB (md : Region.Mode) (ops : Array Oper) (n : Nat) : Bool :=
  Region.noSelect ops && decide (n < ops.size) && Region.sinkB md ops n && afterB md ops n && lexMid md ops (ops.size - (n + 1)) n 0 (Array.replicate ops.size false)
theorem wpAnyLQ_mid {n g : Nat} {Lq : Act → Prop} (hsel : Region.noSelect ops = true) (hs : Region.sinkB md ops n = true) (hc : afterB md ops n = true) (hn : n < ops.size) :
    ∀ (l : List Oper) (k : Nat) (listed : Array Bool) (a : Act), (∀ j, j < l.length → l[j]? = ops[k + j]?) → k + l.length = n → HeadInv md ops n listed →
    lexMid md ops g l.length k listed = true → wpQuiet P ops C Lq l a →
    wpAnyLQ P md ops C n (fun listed' a' => (Region.ready md ops listed' = [n] ∧ Region.lexFrom md ops g (n + 1) (listed'.setIfInBounds n true) = true) ∧ Lq a') l.length listed a
  | [], k, listed, a, _, hk, _, hB, h => by
    have : k = n := by simpa using hk
    subst this
    exact ⟨by simpa [lexMid] using hB, h⟩
  | o :: l, k, listed, a, hl, hk, inv, hB, h => by
    have h0 : ops[k]? = some o := by simpa using (hl 0 (by simp)).symm
    simp only [List.length_cons, lexMid, Bool.and_eq_true] at hB
    obtain ⟨⟨hr, hf⟩, hB'⟩ := hB
    have hkn : k < n := by simp only [List.length_cons] at hk; omega
    have hr' : k ∈ Region.ready md ops listed := by simpa using hr
    have hst : qOp P ops C k (wpQuiet P ops C Lq l) a := by unfold qOp; simp only [h0]; exact h
    obtain ⟨v, hy, hK⟩ := yieldsIn_of_qOp h0 hst
    exact wpAnyLQ_first2 h0 (Region.noSelect_spec hsel) hs hc hn hkn (fun listed' a' hL => fun j hj => by rw [hL.1.1] at hj; have hjn2 : j = n := (by simpa using hj); omega) l.length listed a inv (Region.free_spec h0 hf) hr' hy
      (wpAnyLQ_mid hsel hs hc hn l (k + 1) _ _ (fun j hj => by have := hl (j + 1) (by simp; omega); simpa [Nat.add_assoc, Nat.add_comm 1 j] using this) (by simp only [List.length_cons] at hk; omega) (inv.set hr' hkn) hB' hK)
theorem wp_region_quiet_mid {C2 : World → World → Prop} (hC2 : ∀ w, C2 w w) {id : Nat} {Q : Exit → Act → World → Prop} {a : Act} {w : World} {l : List Oper} (n : Nat) (o : Oper) (ho : l[n]? = some o) (hm : P.follows .mixedOrders = true) (hB : midB .any l.toArray n = true) (hC : C w.drew)
    (h : wpQuiet P l.toArray C (fun a' => ∀ w', C w' → ∀ K : Act → World → Prop, (∀ a'' w'', wpQuiet P l.toArray (C2 w'') (fun a3 => ∀ w3, C2 w'' w3 → Q .normal a3 w3) (l.drop (n + 1)) a'' → K a'' w'') →
      if Region.wanted o (yielded l.toArray a'.tmps) = true then Oper.wp P o a' w' K Q else K (a'.put o.dst undef) w') (l.take n) a) : (Code.region id l.toArray true).wp P Q a w := by
  simp only [midB, Bool.and_eq_true, decide_eq_true_eq] at hB
  obtain ⟨⟨⟨⟨hsel, hn⟩, hs⟩, hc⟩, hlex⟩ := hB
  have hn' : n < l.length := by simpa using hn
  have htl : (l.take n).length = n := by simp; omega
  have inv0 : HeadInv .any l.toArray n (Array.replicate l.toArray.size false) :=
    ⟨by simp, fun j oj _ hl => (by rw [getD_replicate_false] at hl; cases hl), fun t _ ht => getD_in (by simpa using ht) (getD_replicate_false _ _)⟩
  have H := wpAnyLQ_mid (md := .any) (g := l.toArray.size - (n + 1)) hsel hs hc hn (l.take n) 0 _ a (fun j hj => by
    have hj' : j < n := by rw [htl] at hj; exact hj
    simp [hj']) (by simpa using htl) inv0 (by rw [htl]; exact hlex) h
  refine wp_region_any hm ?_
  have hdl : (l.drop (n + 1)).length = l.toArray.size - (n + 1) := by simp
  have := wpAny_of_headQ (Q' := Q) (g := l.toArray.size - (n + 1) + 1) (fun listed a' w' hw' hL => by
    obtain ⟨⟨hr, hlx⟩, hq⟩ := hL
    refine ⟨fun h0 => (by rw [hr] at h0; cases h0), fun i hi => ?_⟩
    rw [hr] at hi
    obtain rfl : i = n := by simpa using hi
    refine wpOp_step (o := o) (by simpa using ho) fun K' hK' => hq w' hw' K' fun a'' w'' hq2 => hK' _ _ ?_
    have h2 := wpAnyQ_lex (C := C2 w'') (md := .any) hsel (l.drop (i + 1)) (i + 1) (listed.setIfInBounds i true) a'' (fun j => by simp [List.getElem?_drop]) (by rw [hdl]; exact hlx) hq2
    rw [hdl] at h2
    exact wpAny_of_quiet (Q := fun a3 => ∀ w3, C2 w'' w3 → Q .normal a3 w3) (fun _ w3 hw3 hh => hh w3 hw3) _ _ _ w'' (hC2 w'') h2) _ _ _ w.drew hC H
  rw [htl, show n + (l.toArray.size - (n + 1) + 1) = l.toArray.size by omega] at this
  exact this
end
end Go.Proofs.YtfibikkcfmohjaaGreat.Tail
namespace Go.Proofs.YtfibikkcfmohjaaGreat
open Go Go.RowKit Go.BigFrame
theorem wp_region_ext_tail {P : Program} {id : Nat} {Q : Exit → Act → World → Prop} {a : Act} {w : World} {l : List Oper} (n : Nat) (hm : P.follows .mixedOrders = true) (hB : Region.lexTailB .any l.toArray n = true)
    (h : wpQuiet P l.toArray (fun w' => ∃ u : ExtOf w, w' = u.val) (fun a' => ∀ w', (∃ u : ExtOf w, w' = u.val) → wpList P l.toArray Q (l.drop n) a' w') (l.take n) a) : (Code.region id l.toArray true).wp P Q a w :=
  Tail.wp_region_quiet_tail (C := fun w' => ∃ u : ExtOf w, w' = u.val) n hm hB ⟨⟨w.drew, (Ext.refl w).drew⟩, rfl⟩ h
theorem wp_region_ext_mid {P : Program} {id : Nat} {Q : Exit → Act → World → Prop} {a : Act} {w : World} {l : List Oper} (n : Nat) (o : Oper) (ho : l[n]? = some o) (hm : P.follows .mixedOrders = true) (hB : Tail.midB .any l.toArray n = true)
    (h : wpQuiet P l.toArray (fun w' => ∃ u : ExtOf w, w' = u.val) (fun a' => ∀ w', (∃ u : ExtOf w, w' = u.val) → ∀ K : Act → World → Prop, (∀ a'' w'', wpQuiet P l.toArray (fun w3 => ∃ u : ExtOf w'', w3 = u.val) (fun a3 => ∀ w3, (∃ u : ExtOf w'', w3 = u.val) → Q .normal a3 w3) (l.drop (n + 1)) a'' → K a'' w'') →
      if Region.wanted o (yielded l.toArray a'.tmps) = true then Oper.wp P o a' w' K Q else K (a'.put o.dst undef) w') (l.take n) a) : (Code.region id l.toArray true).wp P Q a w :=
  Tail.wp_region_quiet_mid (C := fun w' => ∃ u : ExtOf w, w' = u.val) (C2 := fun w'' w3 => ∃ u : ExtOf w'', w3 = u.val) (fun w => ⟨⟨w, Ext.refl w⟩, rfl⟩) n o ho hm hB ⟨⟨w.drew, (Ext.refl w).drew⟩, rfl⟩ h
theorem none_some {w : World} {b : Nat} {a : Addr} (h : w.cell? ⟨b, 0, none⟩ = some (.pointer (some a))) : Calls Tryz.prog 89 #[.pointer (some ⟨b, 0, none⟩)] w (RSame (.bool false) w) := by
  go_enter Tryz.func89, Tryz.ntmps89
  go_wp2_with fail
  go_ret
  exact ⟨rfl, rfl⟩
structure Mv (S : Nat → Prop) (w w' : World) : Prop where
  os : w'.os = w.os
  tape : w'.tape = w.tape
  output : w'.output = w.output
  size : w.heap.size ≤ w'.heap.size
  rest : ∀ b, b < w.heap.size → ¬ S b → w'.heap[b]? = w.heap[b]?
theorem Mv.ofExt {S : Nat → Prop} {w w' : World} (h : Ext w w') : Mv S w w' := ⟨Below.os h, Below.tape h, Below.output h, Ext.size h, fun b hb _ => Below.block h b hb⟩
theorem Mv.refl (S : Nat → Prop) (w : World) : Mv S w w := Mv.ofExt (Ext.refl w)
theorem Mv.trans {S : Nat → Prop} {a b c : World} (h : Mv S a b) (k : Mv S b c) : Mv S a c :=
  ⟨k.os.trans h.os, k.tape.trans h.tape, k.output.trans h.output, Nat.le_trans h.size k.size, fun x hx hn => (k.rest x (Nat.lt_of_lt_of_le hx h.size) hn).trans (h.rest x hx hn)⟩
theorem Mv.ext {S : Nat → Prop} {a b c : World} (h : Mv S a b) (k : Ext b c) : Mv S a c := h.trans (Mv.ofExt k)
theorem Mv.imp {S S' : Nat → Prop} {a b : World} (h : Mv S a b) (k : ∀ x, x < a.heap.size → S x → S' x) : Mv S' a b := ⟨h.os, h.tape, h.output, h.size, fun x hx hn => h.rest x hx fun hs => hn (k x hx hs)⟩
theorem Mv.block {S : Nat → Prop} {w w' : World} (h : Mv S w w') {b : Nat} {x : Obj} (hb : w.heap[b]? = some x) (hn : ¬ S b) : w'.heap[b]? = some x := (h.rest b (Array.getElem?_eq_some_iff.1 hb).1 hn).trans hb
theorem Mv.setCell {S : Nat → Prop} {a b : World} (h : Mv S a b) {p : Addr} (hp : p.block < a.heap.size → S p.block) (u : Value) : Mv S a (b.setCell p u) :=
  ⟨h.os, h.tape, h.output, by have := h.size; simpa [World.setCell] using this, fun x hx hn => by
    have hne : x ≠ p.block := fun e => hn (by rw [e]; exact hp (e ▸ hx))
    exact (heap_setCell_other u hne).trans (h.rest x hx hn)⟩
theorem Mv.grown {S : Nat → Prop} {a w w' : World} {row : Option Nat} (h : Mv S a w) (hg : w.grownBy w' row) (hr : ∀ k, row = some k → k < a.heap.size → S k) : Mv S a w' :=
  ⟨hg.os.trans h.os, hg.tape.trans h.tape, hg.output.trans h.output, Nat.le_trans h.size hg.size, fun x hx hn => (hg.block x (Nat.lt_of_lt_of_le hx h.size) fun e => hn (hr x e.symm hx)).trans (h.rest x hx hn)⟩
theorem Mv.cell {S : Nat → Prop} {w w' : World} (h : Mv S w w') {b o : Nat} {v : Value} (hc : w.cell? ⟨b, o, none⟩ = some v) (hn : ¬ S b) : w'.cell? ⟨b, o, none⟩ = some v := by
  have := h.rest b (cell_lt hc) hn
  unfold World.cell? at hc ⊢
  simp only at hc ⊢
  rw [this]; exact hc
theorem RowP.mv {S : Nat → Prop} {w w' : World} {p : Nat → Prop} {e size : Nat} {v : Value} {n : Nat} {xs : List Value} (h : RowP w p e size v n xs) (k : Mv S w w') (hp : ∀ g, p g → ¬ S g) : RowP w' p e size v n xs := by
  refine ⟨h.1, ?_⟩
  rcases h.2 with h0 | ⟨g, cap, cur, h1, h2, h3, h4⟩
  · exact .inl h0
  · exact .inr ⟨g, cap, cur, h1, h2, k.block h3 (hp g h2), h4⟩
theorem Step.mv {own own' : Ow} {w w' : World} (k : Step own w own' w') : Mv (fun b => own b ≠ none) w w' := ⟨k.os, k.tape, k.output, k.size, fun b hb hn => k.rest b hb (Decidable.byContradiction hn)⟩
structure Hd where
  node : Int
  at' : Int
  off : Int
def hdC (h : Hd) : List Value := [.int .i64 h.node, .int .i64 h.at', .int .i64 h.off]
theorem hdC_len (h : Hd) : (hdC h).length = 3 := rfl
def hcells (H : List Hd) : List Value := H.flatMap hdC
theorem hcells_len (H : List Hd) : (hcells H).length = H.length * 3 := by
  induction H with
  | nil => rfl
  | cons p L ih =>
    show (hdC p ++ hcells L).length = _
    rw [List.length_append, ih, hdC_len, List.length_cons]
    omega
theorem hcells_append (a b : List Hd) : hcells (a ++ b) = hcells a ++ hcells b := List.flatMap_append
theorem hcells_get {L : List Hd} {i f : Nat} {p : Hd} {v : Value} (h : L[i]? = some p) (hv : (hdC p)[f]? = some v) : (hcells L)[i * 3 + f]? = some v := by
  have hf := (List.getElem?_eq_some_iff.1 hv).1
  rw [hdC_len] at hf
  induction L generalizing i with
  | nil => cases h
  | cons q L ih =>
    show (hdC q ++ hcells L)[i * 3 + f]? = _
    cases i with
    | zero =>
      have : q = p := by simpa using h
      subst this
      rw [Nat.zero_mul, Nat.zero_add, List.getElem?_append_left (by rw [hdC_len]; exact hf)]
      exact hv
    | succ i =>
      rw [List.getElem?_append_right (by rw [hdC_len]; omega), hdC_len, show (i + 1) * 3 + f - 3 = i * 3 + f by omega]
      exact ih (by simpa using h)
theorem hcells_set {L : List Hd} {i f : Nat} {p p' : Hd} {v : Value} (h : L[i]? = some p) (hf : f < 3) (hv : (hdC p).set f v = hdC p') : (hcells L).set (i * 3 + f) v = hcells (L.set i p') := by
  induction L generalizing i with
  | nil => cases h
  | cons q L ih =>
    cases i with
    | zero =>
      have : q = p := by simpa using h
      subst this
      show (hdC q ++ hcells L).set (0 * 3 + f) v = hdC p' ++ hcells L
      rw [Nat.zero_mul, Nat.zero_add, List.set_append_left _ _ (by rw [hdC_len]; exact hf), hv]
    | succ i =>
      show (hdC q ++ hcells L).set ((i + 1) * 3 + f) v = hdC q ++ hcells (L.set i p')
      rw [List.set_append_right _ _ (by rw [hdC_len]; omega), hdC_len, show (i + 1) * 3 + f - 3 = i * 3 + f by omega, ih (by simpa using h)]
structure LiveAt (w : World) (own : Ow) (ptr : Nat → Nat) (lb tb : Nat) (T : Tr) (hv : Value) (hb : Option Nat) (H : List Hd) : Prop where
  tree : TreeAt w own ptr tb T
  ownd : Owned own w
  box : w.heap[lb]? = some (.cells #[.pointer (some ⟨tb, 0, none⟩), hv] 49 (0, 0))
  row : RowP w (fun g => hb = some g) 123 3 hv H.length (hcells H)
  nbox : own lb = none
  nrow : ∀ g, hb = some g → own g = none ∧ g ≠ lb ∧ g < w.heap.size
structure LStep (own : Ow) (lb : Nat) (hb : Option Nat) (w : World) (own' : Ow) (hb' : Option Nat) (w' : World) : Prop where
  mv : Mv (fun b => own b ≠ none ∨ b = lb ∨ hb = some b) w w'
  same : ∀ b, b < w.heap.size → own' b = own b
  hold : ∀ g, hb' = some g → hb = some g ∨ w.heap.size ≤ g
def LAfter (own : Ow) (lb tb : Nat) (hb : Option Nat) (w : World) (T' : Tr) (H' : List Hd) (w' : World) : Prop := ∃ own' ptr' hv' hb', LiveAt w' own' ptr' lb tb T' hv' hb' H' ∧ LStep own lb hb w own' hb' w'
section
variable {w w' : World} {own : Ow} {ptr : Nat → Nat} {lb tb : Nat} {T T' : Tr} {hv : Value} {hb : Option Nat} {H : List Hd}
theorem LiveAt.lt (h : LiveAt w own ptr lb tb T hv hb H) : lb < w.heap.size := (Array.getElem?_eq_some_iff.1 h.box).1
theorem LiveAt.ptr_ (h : LiveAt w own ptr lb tb T hv hb H) : w.cell? ⟨lb, 0, none⟩ = some (.pointer (some ⟨tb, 0, none⟩)) := cellOf h.box rfl
theorem LiveAt.row_ (h : LiveAt w own ptr lb tb T hv hb H) : w.cell? ⟨lb, 1, none⟩ = some hv := cellOf h.box rfl
theorem LiveAt.mv {S : Nat → Prop} (h : LiveAt w own ptr lb tb T hv hb H) (k : Mv S w w') (h1 : ∀ b, own b ≠ none → ¬ S b) (h2 : ¬ S lb) (h3 : ∀ g, hb = some g → ¬ S g) : LiveAt w' own ptr lb tb T hv hb H :=
  ⟨h.tree.keep fun b hb => k.rest b (h.ownd b hb) (h1 b hb), fun b hb => Nat.lt_of_lt_of_le (h.ownd b hb) k.size, k.block h.box h2, h.row.mv k h3, h.nbox,
   fun g hg => ⟨(h.nrow g hg).1, (h.nrow g hg).2.1, Nat.lt_of_lt_of_le (h.nrow g hg).2.2 k.size⟩⟩
theorem LiveAt.ext (h : LiveAt w own ptr lb tb T hv hb H) (k : Ext w w') : LiveAt w' own ptr lb tb T hv hb H := h.mv (S := fun _ => False) (Mv.ofExt k) (fun _ _ => id) id (fun _ _ => id)
theorem LStep.refl (own : Ow) (lb : Nat) (hb : Option Nat) (w : World) : LStep own lb hb w own hb w := ⟨Mv.refl _ w, fun _ _ => rfl, fun _ => .inl⟩
theorem LStep.ext {own' : Ow} {hb' : Option Nat} {w'' : World} (h : LStep own lb hb w own' hb' w') (k : Ext w' w'') : LStep own lb hb w own' hb' w'' := ⟨h.mv.ext k, h.same, h.hold⟩
theorem LStep.trans {own1 own2 : Ow} {hb1 hb2 : Option Nat} {w1 w2 : World} (h : LStep own lb hb w own1 hb1 w1) (k : LStep own1 lb hb1 w1 own2 hb2 w2) : LStep own lb hb w own2 hb2 w2 := by
  refine ⟨⟨k.mv.os.trans h.mv.os, k.mv.tape.trans h.mv.tape, k.mv.output.trans h.mv.output, Nat.le_trans h.mv.size k.mv.size, fun b hb' hn => ?_⟩, fun b hb' => (k.same b (Nat.lt_of_lt_of_le hb' h.mv.size)).trans (h.same b hb'), fun g hg => ?_⟩
  · refine (k.mv.rest b (Nat.lt_of_lt_of_le hb' h.mv.size) ?_).trans (h.mv.rest b hb' hn)
    rintro (h1 | h1 | h1)
    · exact hn (.inl (by rw [← h.same b hb']; exact h1))
    · exact hn (.inr (.inl h1))
    · rcases h.hold b h1 with h2 | h2
      · exact hn (.inr (.inr h2))
      · omega
  · rcases k.hold g hg with h1 | h1
    · exact h.hold g h1
    · exact .inr (Nat.le_trans h.mv.size h1)
theorem LiveAt.after (h : LiveAt w own ptr lb tb T hv hb H) (ha : After own w tb T' w') : ∃ own' ptr', LiveAt w' own' ptr' lb tb T' hv hb H ∧ LStep own lb hb w own' hb w' ∧ Step own w own' w' := by
  obtain ⟨own', ptr', h1, h2⟩ := ha
  have k := h2.mv
  refine ⟨own', ptr', ⟨h1, h2.owned, k.block h.box (fun hn => hn h.nbox), h.row.mv k (fun g hg hn => hn (h.nrow g hg).1), (h2.same lb h.lt).trans h.nbox, fun g hg => ⟨(h2.same g (h.nrow g hg).2.2).trans (h.nrow g hg).1, (h.nrow g hg).2.1, Nat.lt_of_lt_of_le (h.nrow g hg).2.2 k.size⟩⟩,
    ⟨k.imp fun b _ hb => .inl hb, h2.same, fun g hg => .inl hg⟩, h2⟩
theorem LiveAt.at (h : LiveAt w own ptr lb tb T hv hb H) : ∃ a cap, hv = .slice a H.length cap ∧ H.length ≤ cap ∧ (0 < H.length → ∃ g cur, a = some ⟨g, 0, none⟩ ∧ hb = some g ∧ w.heap[g]? = some (.cells cur 123 (0, 0)) ∧ cur.toList.take (H.length * 3) = hcells H ∧ cur.size = cap * 3 ∧ cap ≤ maxLen) := by
  rcases h.row.2 with ⟨h0, a, e⟩ | ⟨g, cap, cur, h1, h2, h3, h4, h5, h6, h7⟩
  · exact ⟨a, 0, by rw [e, h0], by omega, fun hp => absurd hp (by omega)⟩
  · exact ⟨some ⟨g, 0, none⟩, cap, h1, h4, fun _ => ⟨g, cur, rfl, h2, h3, h7, h6, h5⟩⟩
theorem hold_cell {g : Nat} {cur : Array Value} {t : TypeId} {n : Nat} (h3 : w.heap[g]? = some (.cells cur t (0, 0))) (h7 : cur.toList.take (n * 3) = hcells H) {i f : Nat} {p : Hd} {v : Value} (hp : H[i]? = some p) (hv : (hdC p)[f]? = some v) :
    w.cell? ⟨g, i * 3 + f, none⟩ = some v := by
  refine cellOf h3 ?_
  have h := hcells_get hp hv
  rw [← h7, List.getElem?_take] at h
  split at h
  · rw [← Array.getElem?_toList]; exact h
  · cases h
theorem LiveAt.set (h : LiveAt w own ptr lb tb T hv hb H) {i f : Nat} {p p' : Hd} {v : Value} (hp : H[i]? = some p) (hf : f < 3) (hv' : (hdC p).set f v = hdC p') {g : Nat} (hg : hb = some g) :
    LiveAt (w.setCell ⟨g, i * 3 + f, none⟩ v) own ptr lb tb T hv hb (H.set i p') := by
  have hi := (List.getElem?_eq_some_iff.1 hp).1
  have hm : Mv (fun x => x = g) w (w.setCell ⟨g, i * 3 + f, none⟩ v) := (Mv.refl (fun x => x = g) w).setCell (p := ⟨g, i * 3 + f, none⟩) (fun _ => rfl) v
  obtain ⟨n1, n2, n3⟩ := h.nrow g hg
  refine ⟨h.tree.keep fun b hb => hm.rest b (h.ownd b hb) (fun e => hb (by rw [(show b = g from e)]; exact n1)), fun b hb => Nat.lt_of_lt_of_le (h.ownd b hb) hm.size, hm.block h.box (fun e => n2 (show lb = g from e).symm), ?_, h.nbox, fun x hx => ⟨(h.nrow x hx).1, (h.nrow x hx).2.1, Nat.lt_of_lt_of_le (h.nrow x hx).2.2 hm.size⟩⟩
  rcases h.row.2 with ⟨h0, _⟩ | ⟨g', cap, cur, h1, h2, h3, h4, h5, h6, h7⟩
  · omega
  · obtain rfl : g' = g := by rw [hg] at h2; exact (Option.some.inj h2).symm
    refine ⟨by rw [hcells_len], .inr ⟨g', cap, _, by rw [List.length_set]; exact h1, hg, heap_setCell_same h3 v, by rw [List.length_set]; exact h4, h5, by simpa using h6, ?_⟩⟩
    rw [Array.toList_setIfInBounds, List.length_set, List.take_set, h7, hcells_set hp hf hv']
end
theorem TreeAt.tat {w : World} {own : Ow} {ptr : Nat → Nat} {tb : Nat} {T : Tr} (h : TreeAt w own ptr tb T) (hO : Owned own w) : TAt w tb T := ⟨own, ptr, h, hO⟩
def LNewIs (w : World) (T : Tr) (e : Ending) (w' : World) : Prop := ∃ lb tb own ptr, e = .returned (.tuple #[.pointer (some ⟨lb, 0, none⟩), .int .i64 0]) ∧ LiveAt w' own ptr lb tb T (.slice none 0 0) none [] ∧ Ext w w' ∧ w.heap.size ≤ lb ∧ ∀ b, own b ≠ none → w.heap.size ≤ b
theorem lNew_ok (cap deep : Int) (h1 : 1 ≤ cap) (h2 : cap ≤ 2000) (h3 : 0 ≤ deep) (h4 : deep ≤ 40) (w : World) :
    Calls Tryz.prog 82 #[.int .i64 cap, .int .i64 deep] w (LNewIs w (hostOf cap deep)) := by
  have HN := qh (New_ok cap deep h1 h2 h3 h4 w)
  clear h1 h2 h3 h4
  go_enter Tryz.func82, Tryz.ntmps82
  go_wp2_with (go_at_call 140; refine HN.out.mono ?_)
  rintro e w1 ⟨tb, own, ptr, rfl, hT, hO, hx1, hf⟩
  have X := (Ext.refl w1).alloc (.cells #[.pointer (some ⟨tb, 0, none⟩), .slice none 0 0] 49)
  have hn := heap_alloc_new w1 (.cells #[.pointer (some ⟨tb, 0, none⟩), .slice none 0 0] 49)
  have HL : Hid (LNewIs w (hostOf cap deep) (.returned (.tuple #[.pointer (some ⟨w1.heap.size, 0, none⟩), .int .i64 0])) (w1.alloc (.cells #[.pointer (some ⟨tb, 0, none⟩), .slice none 0 0] 49))) := qh ⟨w1.heap.size, tb, own, ptr, rfl,
    ⟨hT.keep (X.keep hO), fun b hb => Nat.lt_of_lt_of_le (hO b hb) X.size, hn, ⟨rfl, .inl ⟨rfl, none, rfl⟩⟩, Decidable.byContradiction fun h => Nat.lt_irrefl _ (hO _ h), fun g hg => by cases hg⟩, hx1.trans X, hx1.size, hf⟩
  clear hT hO hx1 hf X hn
  go_wp2_with fail
  go_ret2
  exact HL.out
def FirstOff (H : List Hd) (k : Int) : Prop := (k = -1 ∧ ∀ x ∈ H, x.off ≠ 1) ∨ ∃ (i : Nat) (x : Hd), k = (i : Int) ∧ H[i]? = some x ∧ x.off = 1 ∧ ∀ y ∈ H.take i, y.off ≠ 1
theorem off_any (x : Hd) (w : World) : Calls Tryz.prog 95 #[.agg #[.int .i64 x.node, .int .i64 x.at', .int .i64 x.off]] w (RBool (x.off == 1) w) := by
  have X := (Ext.refl w).alloc (.cells #[.int .i64 x.node, .int .i64 x.at', .int .i64 x.off] 123)
  go_enter Tryz.func95, Tryz.ntmps95
  go_wp2_with fail
  go_ret
  exact ⟨rfl, X⟩
theorem idxOff_any {w : World} {hv : Value} {hb : Option Nat} {H : List Hd} (hl : H.length ≤ 100000) (hr : RowP w (fun g => hb = some g) 123 3 hv H.length (hcells H)) :
    Calls Tryz.prog 94 #[hv, .func (.func 95) #[] #[]] w (fun e w' => ∃ k, e = .returned (.int .i64 k) ∧ FirstOff H k ∧ Ext w w') := by
  obtain ⟨a, cap, rfl, hc, hg⟩ : ∃ a cap, hv = .slice a H.length cap ∧ H.length ≤ cap ∧ (0 < H.length → ∃ g cur, a = some ⟨g, 0, none⟩ ∧ w.heap[g]? = some (.cells cur 123 (0, 0)) ∧ cur.toList.take (H.length * 3) = hcells H) := by
    rcases hr.2 with ⟨h0, a, e⟩ | ⟨g, cap, cur, h1, h2, h3, h4, h5, h6, h7⟩
    · exact ⟨a, 0, by rw [e, h0], by omega, fun hp => absurd hp (by omega)⟩
    · exact ⟨some ⟨g, 0, none⟩, cap, h1, h4, fun _ => ⟨g, cur, rfl, h3, h7⟩⟩
  have HG := qh hg
  obtain ⟨n, hn⟩ : ∃ n, H.length = n := ⟨_, rfl⟩
  have HN := qh hn
  rw [hn] at hl ⊢
  clear hr hg hn hc
  go_enter Tryz.func94, Tryz.ntmps94
  go_wp2_with fail
  go_loopw [5, 8] (fun _ iv wr => ∃ i : Nat, i ≤ n ∧ iv = .int .i64 i ∧ (∀ x ∈ H.take i, x.off ≠ 1) ∧ Ext w wr) (fun _ iv _ => n - (intOf iv).toNat)
  case atStart => exact ⟨0, Nat.zero_le _, rfl, fun x hx => (by rw [List.take_zero] at hx; cases hx), Ext.refl _⟩
  case round =>
    obtain ⟨i, hin, rfl, hno, xr⟩ := hrel
    have HNO := qh hno
    have XR := qh xr
    clear hno xr
    by_cases hlt : i < n
    · obtain ⟨x, hx⟩ : ∃ x, H[i]? = some x := ⟨_, List.getElem?_eq_getElem (by rw [HN.out]; exact hlt)⟩
      obtain ⟨g, cur, rfl, hgb, htk⟩ := HG.out (by rw [HN.out]; omega)
      have q0 := XR.out.cell (hold_cell (f := 0) hgb htk hx (v := .int .i64 x.node) rfl)
      have q1 := XR.out.cell (hold_cell (f := 1) hgb htk hx (v := .int .i64 x.at') rfl)
      have q2 := XR.out.cell (hold_cell (f := 2) hgb htk hx (v := .int .i64 x.off) rfl)
      rw [Nat.add_zero] at q0
      have HX := qh hx
      have HOF := qh (fun W => off_any x W)
      have e0 : decide ((i : Int) < (n : Int)) = true := decide_eq_true (by omega)
      have e0n : decide (i < n) = true := decide_eq_true hlt
      have i0 : (0 : Int) ≤ (i : Int) := by omega
      have i1 : (i : Int) < (n : Int) := by omega
      have itn : (i : Int).toNat = i := by omega
      clear hgb htk hx
      cases hb1 : (x.off == 1) with
      | true =>
        rw [hb1] at HOF
        have HB := qh (beq_iff_eq.1 hb1)
        clear hb1
        go_wp2_with (go_at_call 95; refine (HOF.out _).mono ?_)
        rintro e w2 ⟨rfl, x2⟩
        clear q0 q1 q2
        go_wp2_with fail
        go_ret
        exact ⟨i, rfl, .inr ⟨i, x, rfl, HX.out, HB.out, HNO.out⟩, XR.out.trans x2⟩
      | false =>
        rw [hb1] at HOF
        have HB := qh (beq_eq_false_iff_ne.1 hb1)
        clear hb1
        go_wp2_with (go_at_call 95; refine (HOF.out _).mono ?_)
        rintro e w2 ⟨rfl, x2⟩
        clear q0 q1 q2
        go_wp2_with fail
        go_roundw
        case rel =>
          refine ⟨i + 1, by omega, by go_num, fun y hy => ?_, XR.out.trans x2⟩
          rw [List.take_add_one, HX.out] at hy
          rcases List.mem_append.1 hy with h | h
          · exact HNO.out y h
          · have : y = x := by simpa using h
            rw [this]; exact HB.out
        case measure => simp [intOf]; omega
    · have e0 : decide ((i : Int) < (n : Int)) = false := decide_eq_false (by omega)
      have e0n : decide (i < n) = false := decide_eq_false hlt
      go_wp2_with fail
      go_ret
      exact ⟨-1, rfl, .inl ⟨rfl, fun x hx => HNO.out x (by rw [List.take_of_length_le (by rw [HN.out]; omega)]; exact hx)⟩, XR.out⟩
section
variable {w : World} {own : Ow} {ptr : Nat → Nat} {lb tb : Nat} {T : Tr} {hv : Value} {hb : Option Nat} {H : List Hd}
theorem lIs_yes (h : LiveAt w own ptr lb tb T hv hb H) {i : Nat} {x : Hd} (hx : H[i]? = some x) (ho : x.off = 0) (hl : H.length ≤ 100000) : Calls Tryz.prog 90 #[.pointer (some ⟨lb, 0, none⟩), .int .i64 (i : Int)] w (RBool true w) := by
  have hi := (List.getElem?_eq_some_iff.1 hx).1
  have HN := qh (none_some h.ptr_)
  have p1 := h.row_
  have p0 := h.ptr_
  obtain ⟨a, cap, rfl, hc, hg⟩ := h.at
  obtain ⟨g, cur, rfl, hgb, hgr, htk, _⟩ := hg (by omega)
  have q2 := hold_cell (f := 2) hgr htk hx (v := .int .i64 x.off) rfl
  rw [ho] at q2
  obtain ⟨n, hn⟩ : ∃ n, H.length = n := ⟨_, rfl⟩
  rw [hn] at p1 hl hi
  have e0 : decide ((0 : Int) ≤ (i : Int)) = true := decide_eq_true (by omega)
  have e1 : decide ((i : Int) < (n : Int)) = true := decide_eq_true (by omega)
  have e1n : decide (i < n) = true := decide_eq_true hi
  have i0 : (0 : Int) ≤ (i : Int) := by omega
  have i1 : (i : Int) < (n : Int) := by omega
  have itn : (i : Int).toNat = i := by omega
  clear hc hg hgb hgr htk hx hn
  go_enter Tryz.func90, Tryz.ntmps90
  go_wp2_with (go_at_call 89; refine HN.out.mono ?_; rintro e w' ⟨rfl, rfl⟩)
  go_ret
  exact ⟨rfl, Ext.refl _⟩
theorem lHeld_ok (h : LiveAt w own ptr lb tb T hv hb H) {i : Nat} {x : Hd} (hx : H[i]? = some x) (ho : x.off = 0) (hl : H.length ≤ 100000) : Calls Tryz.prog 23 #[.pointer (some ⟨lb, 0, none⟩), .int .i64 (i : Int)] w (RTwo (pl x.node x.at') (.bool true) w) := by
  have hi := (List.getElem?_eq_some_iff.1 hx).1
  have xa := (Ext.refl w).alloc (.cells #[.int .i64 0, .int .i64 0] 53)
  have hba := heap_alloc_new w (.cells #[.int .i64 0, .int .i64 0] 53)
  have HI := qh (lIs_yes (h.ext xa) hx ho hl)
  obtain ⟨a, cap, rfl, hc, hg⟩ := h.at
  obtain ⟨g, cur, rfl, hgb, hgr, htk, _⟩ := hg (by omega)
  have p1 := xa.cell h.row_
  have q0 := xa.cell (hold_cell (f := 0) hgr htk hx (v := .int .i64 x.node) rfl)
  have q1 := xa.cell (hold_cell (f := 1) hgr htk hx (v := .int .i64 x.at') rfl)
  rw [Nat.add_zero] at q0
  obtain ⟨n, hn⟩ : ∃ n, H.length = n := ⟨_, rfl⟩
  rw [hn] at p1 hl hi
  have i0 : (0 : Int) ≤ (i : Int) := by omega
  have i1 : (i : Int) < (n : Int) := by omega
  have itn : (i : Int).toNat = i := by omega
  obtain ⟨wa, hwa⟩ : ∃ W : World, W = w.alloc (.cells #[.int .i64 0, .int .i64 0] 53) := ⟨_, rfl⟩
  rw [← hwa] at xa hba HI p1 q0 q1
  have HWA := qh hwa
  have XA := qh xa
  have HBA := qh hba
  clear hc hg hgb hgr htk hx hn hwa xa hba
  go_enter Tryz.func23, Tryz.ntmps23
  go_upto_region 1 with fail
  rw [← HWA.out]
  go_wp2_with (go_at_call 90; refine HI.out.mono ?_)
  rintro e w2 ⟨rfl, x2⟩
  have hb2 := x2.block HBA.out
  have q0 := x2.cell q0
  have q1 := x2.cell q1
  have p1 := x2.cell p1
  have c0 := cellOf hb2 (i := 0) rfl
  have c1 := cellOf hb2 (i := 1) rfl
  have f0 := freeOf hb2 0
  have f1 := freeOf hb2 1
  have XF := qh (((XA.out.trans x2).setCell (p := ⟨w.heap.size, 0, none⟩) (Nat.le_refl _) (.int .i64 x.node)).setCell (p := ⟨w.heap.size, 1, none⟩) (Nat.le_refl _) (.int .i64 x.at'))
  have B3 : ((w2.setCell ⟨w.heap.size, 0, none⟩ (.int .i64 x.node)).setCell ⟨w.heap.size, 1, none⟩ (.int .i64 x.at')).heap[w.heap.size]? = some (.cells #[.int .i64 x.node, .int .i64 x.at'] 53 (0, 0)) := heap_setCell_same (i := 1) (heap_setCell_same (i := 0) hb2 (.int .i64 x.node)) (.int .i64 x.at')
  have HLV := qh (run_loadVar_row (P := Tryz.prog) _ w.heap.size 53 53 _ (0, 0) _ B3 Tryz.underlying53 rfl (by kernel_rfl))
  clear x2 hb2 B3
  go_wp2_with fail
  have hlv := HLV.out
  refine bodyPost_ret (v := .tuple #[pl x.node x.at', .bool true]) (by simp [results, Tryz.results23, asAddr, hlv]) rfl ?_
  exact ⟨rfl, XF.out⟩
theorem infoHold : (Tryz.prog.info? 123).map (fun i => (i.zero, i.size, i.bytes)) = some (some (.agg #[.int .i64 0, .int .i64 0, .int .i64 0]), 3, 24) := by kernel_rfl
theorem hdC_one (x : Hd) : ∀ u ∈ hdC x, u.oneCell' = true := by
  intro u hu
  simp only [hdC, List.mem_cons, List.not_mem_nil, or_false] at hu
  rcases hu with rfl | rfl | rfl <;> rfl
theorem LiveAt.push (h : LiveAt w own ptr lb tb T hv hb H) (hlen : H.length ≤ 100000) (x : Hd) {cs : Array Value} (hcs : cs.toList = hdC x) :
    ∃ (a : Option Addr) (cap : Nat) (wB : World) (hb' : Option Nat), (Builtin.append_ #[47, 47] 47 #[hv, .slice (some ⟨w.heap.size, 0, none⟩) 1 1]).run Tryz.prog (w.alloc (.cells cs 123)) = .ok (.slice a (H.length + 1) cap) wB ∧
      wB.heap[lb]? = some (.cells #[.pointer (some ⟨tb, 0, none⟩), hv] 49 (0, 0)) ∧ Mv (fun b => hb = some b) w wB ∧
      LiveAt (wB.setCell ⟨lb, 1, none⟩ (.slice a (H.length + 1) cap)) own ptr lb tb T (.slice a (H.length + 1) cap) hb' (H ++ [x]) ∧
      LStep own lb hb w own hb' (wB.setCell ⟨lb, 1, none⟩ (.slice a (H.length + 1) cap)) := by
  obtain ⟨i0, hi, hz0, hz1, hz2⟩ := info_parts infoHold
  have hxa := (Ext.refl w).alloc (.cells cs 123)
  have hA := h.ext hxa
  have hna := heap_alloc_new w (.cells cs 123)
  have hszA : (w.alloc (.cells cs 123)).heap.size = w.heap.size + 1 := by simp
  obtain ⟨v', wB, row, hrun, hr, hg, hrow⟩ := run_append_row (P := Tryz.prog) (w.alloc (.cells cs 123)) 47 47 123 i0 _ 3 24 Tryz.underlying47 hi hz0 hz1 hz2 (by kernel_rfl) (by decide)
    hA.row ⟨w.heap.size, 0, none⟩ 1 1 (hdC x) rfl (by
      intro j u hj
      rw [Addr.add_lit, Nat.zero_add]
      refine cellOf hna ?_
      rw [← Array.getElem?_toList, hcs]; exact hj) (hdC_one x) (by decide) (by unfold maxLen; omega) (by omega)
  obtain ⟨a, cap, e, _⟩ := hr.rd.len_of
  subst e
  have hmB : Mv (fun b => hb = some b) w wB := (Mv.ofExt hxa).grown hg fun k hk _ => hrow k hk
  have hboxB : wB.heap[lb]? = some (.cells #[.pointer (some ⟨tb, 0, none⟩), hv] 49 (0, 0)) := hmB.block h.box fun e => (h.nrow lb e).2.1 rfl
  have hmL : Mv (fun b => b = lb) wB (wB.setCell ⟨lb, 1, none⟩ (.slice a (H.length + 1) cap)) := (Mv.refl (fun b => b = lb) wB).setCell (p := ⟨lb, 1, none⟩) (fun _ => rfl) _
  have hsw := hmB.size
  have hnew : ∀ g, (Value.slice a (H.length + 1) cap).ownBlock = some g → (hb = some g ∨ (w.alloc (.cells cs 123)).heap.size ≤ g) ∧ g < wB.heap.size := by
    intro g hgo
    rcases hr.2 with ⟨h0, _⟩ | ⟨g', cap', cur, h1, h2, h3, _⟩
    · omega
    · rw [h1] at hgo
      cases hgo
      exact ⟨h2, (Array.getElem?_eq_some_iff.1 h3).1⟩
  have hown : ∀ g, (Value.slice a (H.length + 1) cap).ownBlock = some g → own g = none ∧ g ≠ lb := by
    intro g hgo
    rcases (hnew g hgo).1 with h1 | h1
    · exact ⟨(h.nrow g h1).1, (h.nrow g h1).2.1⟩
    · exact ⟨Decidable.byContradiction fun hn => by have := h.ownd g hn; omega, fun e => by have := h.lt; omega⟩
  have hmv2 : Mv (fun b => own b ≠ none ∨ b = lb ∨ hb = some b) w (wB.setCell ⟨lb, 1, none⟩ (.slice a (H.length + 1) cap)) := (hmB.imp fun _ _ h => .inr (.inr h)).trans (hmL.imp fun _ _ h => .inr (.inl h)) 
  refine ⟨a, cap, wB, (Value.slice a (H.length + 1) cap).ownBlock, hrun, hboxB, hmB, ⟨?_, ?_, heap_setCell_same hboxB _, ?_, h.nbox, fun g hg => ⟨(hown g hg).1, (hown g hg).2, Nat.lt_of_lt_of_le (hnew g hg).2 hmL.size⟩⟩, ⟨hmv2, fun _ _ => rfl, fun g hg => (hnew g hg).1.imp id fun h => by omega⟩⟩
  · refine h.tree.keep fun b hb' => ?_
    have e1 := hmB.rest b (h.ownd b hb') fun e => hb' (h.nrow b e).1
    have e2 := hmL.rest b (Nat.lt_of_lt_of_le (h.ownd b hb') hsw) fun e => hb' (by rw [(show b = lb from e)]; exact h.nbox)
    exact e2.trans e1
  · exact fun b hb' => Nat.lt_of_lt_of_le (h.ownd b hb') (Nat.le_trans hsw hmL.size)
  · rw [List.length_append, hcells_append]
    have e1 : hcells [x] = hdC x := by show hdC x ++ [] = _; rw [List.append_nil]
    rw [e1]
    have hr2 : RowP wB (fun g => (Value.slice a (H.length + 1) cap).ownBlock = some g) 123 3 (.slice a (H.length + 1) cap) (H.length + 1) (hcells H ++ hdC x) := RowP.imp hr fun g hgo _ => hgo
    exact hr2.mv hmL fun g hg e => (hown g hg).2 e
end
theorem wpList_append_runL {P : Program} (w : World) {ops : Array Oper} {rest : List Oper} {o : Oper} {a : Act} {Q : Exit → Act → World → Prop}
    (hg : o.guard = none) (s x : Operand) (t : TypeId) (hop : o.op = Op.call { callee := Callee.builtin Builtin.append, args := #[s, x], argTypes := #[t, t] })
    (v u : Value) (hs : a.eval s = v) (hx : a.eval x = u) (v' : Value) (w' : World) (hr : (Builtin.append_ #[t, t] o.type #[v, u]).run P w = .ok v' w') (hK : wpList P ops Q rest (a.put o.dst v') w') :
    wpList P ops Q (o :: rest) a w := by
  refine wpList_plain hg fun K hK' => ?_
  unfold Oper.wp
  simp [execOp, hop, resolve, invoke, builtin, hs, hx, hr, Result.andThen]
  exact hK' _ _ hK
section
variable {w : World} {own : Ow} {ptr : Nat → Nat} {lb tb : Nat} {T : Tr} {hv : Value} {hb : Option Nat} {H : List Hd}
def LHoldIs (own : Ow) (lb tb : Nat) (hb : Option Nat) (w : World) (T : Tr) (k : Nat) (H' : List Hd) (e : Ending) (w' : World) : Prop := e = .returned (.tuple #[.int .i64 (k : Int), .int .i64 0]) ∧ LAfter own lb tb hb w T H' w'
theorem set_snoc (H : List Hd) (x y : Hd) : (H ++ [x]).set H.length y = H ++ [y] := by simp
theorem lHold_add (h : LiveAt w own ptr lb tb T hv hb H) {d : Nat → Nat} (hw : WF T d) (hA : AttrsOk T) (n a : Int) (hm : T.may n a = true) (hno : ∀ x ∈ H, x.off ≠ 1) (hl : H.length ≤ 100000) :
    Calls Tryz.prog 30 #[.pointer (some ⟨lb, 0, none⟩), pl n a] w (LHoldIs own lb tb hb w T H.length (H ++ [⟨n, a, 0⟩])) := by
  have xa := (Ext.refl w).alloc (.cells #[.int .i64 n, .int .i64 a] 53)
  have hba := heap_alloc_new w (.cells #[.int .i64 n, .int .i64 a] 53)
  obtain ⟨wa, hwa⟩ : ∃ W : World, W = w.alloc (.cells #[.int .i64 n, .int .i64 a] 53) := ⟨_, rfl⟩
  rw [← hwa] at xa hba
  obtain ⟨pb, hpb⟩ : ∃ b, w.heap.size = b := ⟨_, rfl⟩
  rw [hpb] at hba
  have hA2 := h.ext xa
  have HT := qh hA2
  have HNN := qh (fun u : ExtOf wa => inExt (u := u) (RSame.val (none_some (hA2.ext u.ext).ptr_)))
  have HMM : Hid (∀ u : ExtOf wa, Calls Tryz.prog 24 #[.pointer (some ⟨tb, 0, none⟩), .agg #[.int .i64 n, .int .i64 a]] u.val (fun e w' => e = .returned (.bool true) ∧ ∃ u' : ExtOf wa, w' = u'.val)) :=
    qh (fun u => inExt (u := u) (by have h9 := May_any ((hA2.ext u.ext).tree.tat (hA2.ext u.ext).ownd) hw hA n a; rw [hm] at h9; exact h9))
  have c0 : ∀ u : ExtOf wa, u.val.cell? ⟨lb, 0, none⟩ = some (.pointer (some ⟨tb, 0, none⟩)) := fun u => u.ext.cell hA2.ptr_
  have d0 : ∀ u : ExtOf wa, u.val.cell? ⟨pb, 0, none⟩ = some (.int .i64 n) := fun u => u.ext.cell (cellOf hba rfl)
  have d1 : ∀ u : ExtOf wa, u.val.cell? ⟨pb, 1, none⟩ = some (.int .i64 a) := fun u => u.ext.cell (cellOf hba rfl)
  have HNO := qh hno
  have XA := qh xa
  have HWA := qh hwa
  have HPB := qh hpb
  have HBA := qh hba
  have HL := qh hl
  have HH := qh h
  clear h hw hA hm hno hl xa hwa hpb hba hA2
  go_enter Tryz.func30, Tryz.ntmps30
  go_upto_region 1 with fail
  rw [← HWA.out, HPB.out]
  refine wp_region_ext (by kernel_rfl) (by kernel_rfl) ?_
  repeat (go_big_quiet_step ((first | (go_at_call 89; exact HNN.out _) | (go_at_call 24; exact HMM.out _))))
  refine wpQuiet_nil ?_
  rintro _ ⟨u, rfl⟩
  have hx := u.ext
  obtain ⟨w1, hw1⟩ : ∃ W, u.val = W := ⟨_, rfl⟩
  rw [hw1] at hx ⊢
  have HT1 := qh (HT.out.ext hx)
  have X1 := qh (XA.out.trans hx)
  have HB1 := qh (hx.block HBA.out)
  clear c0 d0 d1 hx hw1
  clear u
  have p1 := HT1.out.row_
  have HIX := qh (idxOff_any HL.out HT1.out.row)
  go_wp2_with (go_at_call 94; refine HIX.out.mono ?_)
  rintro e w2 ⟨k, rfl, hk, x2⟩
  obtain rfl : k = -1 := by
    rcases hk with ⟨h, _⟩ | ⟨i, x, _, hx, ho, _⟩
    · exact h
    · exact absurd ho (HNO.out x (List.mem_of_getElem? hx))
  have HT2 := qh (HT1.out.ext x2)
  have X2 := qh (X1.out.trans x2)
  have HB2 := qh (x2.block HB1.out)
  clear p1 hk x2 HIX
  obtain ⟨m, hm⟩ : ∃ m, H.length = m := ⟨_, rfl⟩
  have p1 := HT2.out.row_
  have P1 := qh p1
  obtain ⟨a1, cap1, hse, -⟩ := HT2.out.at
  rw [hse, hm] at p1
  clear hse
  go_upto_region 6 with fail
  clear p1
  have p1 := P1.out
  have HM := qh hm
  obtain ⟨a3, cap3, wB, hb3, hrun, hboxB, hmB, hT3, hS3⟩ := HT2.out.push HL.out ⟨0, 0, 0⟩ (cs := #[.int .i64 0, .int .i64 0, .int .i64 0]) rfl
  have cB := cellOf hboxB (i := 1) rfl
  have fB := freeOf hboxB 1
  have HRUN := qh hrun
  have HBB : Hid ((wB.setCell ⟨lb, 1, none⟩ (.slice a3 (H.length + 1) cap3)).heap[pb]? = some (.cells #[.int .i64 n, .int .i64 a] 53 (0, 0))) := qh (by
    have h1 := (Array.getElem?_eq_some_iff.1 HB2.out).1
    have h2 := HPB.out
    have h3 := HH.out.lt
    rw [heap_setCell_other _ (by show pb ≠ lb; omega)]
    exact hmB.block HB2.out (fun e => by have := (HH.out.nrow pb e).2.2; omega))
  obtain ⟨w4, hw4⟩ : ∃ W, W = wB.setCell ⟨lb, 1, none⟩ (.slice a3 (H.length + 1) cap3) := ⟨_, rfl⟩
  rw [← hw4] at hT3 hS3 HBB
  have HW4 := qh hw4
  have HT4 := qh hT3
  have HS4 : Hid (LStep own lb hb w own hb3 w4) := qh (((LStep.refl own lb hb w).ext X2.out).trans hS3)
  rw [hm] at HRUN HW4 HT4
  clear hm hrun hboxB hmB hT3 hS3 hw4
  go_upto_region 7 with (at_builtin; refine wpList_append_runL _ rfl _ _ 47 rfl _ _ rfl rfl _ _ HRUN.out ?_)
  rw [← HW4.out]
  clear cB fB p1
  have hlen3 : (H ++ [(⟨0, 0, 0⟩ : Hd)]).length = m + 1 := by rw [List.length_append, HM.out]; rfl
  obtain ⟨a4, cap4, e4, -, hg4⟩ := HT4.out.at
  obtain ⟨g, cur, ea, hbg, hgr, htk, -⟩ := hg4 (by rw [hlen3]; omega)
  rw [hlen3] at e4
  obtain ⟨rfl, -, rfl⟩ : a3 = a4 ∧ True ∧ cap3 = cap4 := by cases e4; exact ⟨rfl, trivial, rfl⟩
  subst ea
  have hxm : (H ++ [(⟨0, 0, 0⟩ : Hd)])[m]? = some ⟨0, 0, 0⟩ := by rw [← HM.out]; simp
  have r0 : ∀ u : ExtOf w4, u.val.cell? ⟨lb, 1, none⟩ = some (.slice (some ⟨g, 0, none⟩) (m + 1) cap3) := fun u => u.ext.cell HT4.out.row_
  have r1 : ∀ u : ExtOf w4, u.val.cell? ⟨pb, 0, none⟩ = some (.int .i64 n) := fun u => u.ext.cell (cellOf HBB.out rfl)
  have r2 : ∀ u : ExtOf w4, u.val.cell? ⟨pb, 1, none⟩ = some (.int .i64 a) := fun u => u.ext.cell (cellOf HBB.out rfl)
  have i0 : (0 : Int) ≤ (m : Int) := by omega
  have i1 : (m : Int) < ((m + 1 : Nat) : Int) := by omega
  have i1' : (m : Int) < (m : Int) + 1 := by omega
  have itn : (m : Int).toNat = m := by omega
  have HGR := qh hgr
  have HTK := qh htk
  have HXM := qh hxm
  have HBG := qh hbg
  have HM3 := qh hlen3
  clear e4 hg4 hbg hgr htk hxm hlen3
  refine wp_region_ext_tail 8 (by kernel_rfl) (by kernel_rfl) ?_
  simp only [List.take_succ_cons, List.take_zero, List.drop_succ_cons, List.drop_zero]
  repeat (go_big_quiet_step (fail))
  refine wpQuiet_nil ?_
  rintro _ ⟨u, rfl⟩
  have hx := u.ext
  obtain ⟨w5, hw5⟩ : ∃ W, u.val = W := ⟨_, rfl⟩
  rw [hw5] at hx ⊢
  clear r0 r1 r2 hw5
  clear u
  have HT5 := HT4.out.ext hx
  have hgr5 := hx.block HGR.out
  have k0 := hold_cell (f := 0) hgr5 HTK.out HXM.out (v := .int .i64 0) rfl
  have k1 := hold_cell (f := 1) hgr5 HTK.out HXM.out (v := .int .i64 0) rfl
  have k2 := hold_cell (f := 2) hgr5 HTK.out HXM.out (v := .int .i64 0) rfl
  rw [Nat.add_zero] at k0
  have f0 := freeOf hgr5 (m * 3)
  have f1 := freeOf hgr5 (m * 3 + 1)
  have f2 := freeOf hgr5 (m * 3 + 2)
  have HF : Hid (LiveAt (((w5.setCell ⟨g, m * 3, none⟩ (.int .i64 n)).setCell ⟨g, m * 3 + 1, none⟩ (.int .i64 a)).setCell ⟨g, m * 3 + 2, none⟩ (.int .i64 0)) own ptr lb tb T (.slice (some ⟨g, 0, none⟩) (m + 1) cap3) hb3 (H ++ [⟨n, a, 0⟩]) ∧
      LStep own lb hb w own hb3 (((w5.setCell ⟨g, m * 3, none⟩ (.int .i64 n)).setCell ⟨g, m * 3 + 1, none⟩ (.int .i64 a)).setCell ⟨g, m * 3 + 2, none⟩ (.int .i64 0))) := qh (by
    have s1 := HT5.set (f := 0) (v := .int .i64 n) (p' := ⟨n, 0, 0⟩) HXM.out (by decide) rfl HBG.out
    rw [← HM.out, set_snoc, HM.out, Nat.add_zero] at s1
    have x1 : (H ++ [(⟨n, 0, 0⟩ : Hd)])[m]? = some ⟨n, 0, 0⟩ := by rw [← HM.out]; simp
    have s2 := s1.set (f := 1) (v := .int .i64 a) (p' := ⟨n, a, 0⟩) x1 (by decide) rfl HBG.out
    rw [← HM.out, set_snoc, HM.out] at s2
    have x2 : (H ++ [(⟨n, a, 0⟩ : Hd)])[m]? = some ⟨n, a, 0⟩ := by rw [← HM.out]; simp
    have s3 := s2.set (f := 2) (v := .int .i64 0) (p' := ⟨n, a, 0⟩) x2 (by decide) rfl HBG.out
    rw [← HM.out, set_snoc, HM.out] at s3
    refine ⟨s3, HS4.out.trans (LStep.ext ⟨?_, fun _ _ => rfl, fun _ h => .inl h⟩ (Ext.refl _))⟩
    have hm0 : Mv (fun b => own b ≠ none ∨ b = lb ∨ hb3 = some b) w4 w5 := Mv.ofExt hx
    exact ((hm0.setCell (p := ⟨g, m * 3, none⟩) (fun _ => .inr (.inr HBG.out)) (.int .i64 n)).setCell (p := ⟨g, m * 3 + 1, none⟩) (fun _ => .inr (.inr HBG.out)) (.int .i64 a)).setCell (p := ⟨g, m * 3 + 2, none⟩) (fun _ => .inr (.inr HBG.out)) (.int .i64 0))
  clear HT5 hx hgr5
  go_wp2_with fail
  go_ret2
  rw [HM.out]
  exact ⟨rfl, own, ptr, _, _, HF.out⟩
end
end Go.Proofs.YtfibikkcfmohjaaGreat
