/- The document's answer whether a node is normal (16): an element. Conditions: at most 10^12 bytes. -/
import Derived.Test.YtdafdoodegpdhaaDoorPMH
import Derived.Deep.RegionHeld3
namespace Go.Proofs.YtdafdoodegpdhaaDoor
open Go Go.RowKit Go.BigFrame
set_option linter.unusedVariables false
set_option linter.unusedSimpArgs false

section
variable {P : Program} {ops : Array Oper} {Q : Exit → Act → World → Prop} {md : Region.Mode} {S : World → Prop} {n : Nat}
/-- whatever order: behind every operation but number n the world meets S -/
def wpE (P : Program) (md : Region.Mode) (ops : Array Oper) (Q : Exit → Act → World → Prop) (S : World → Prop) (n : Nat) : Nat → Array Bool → Act → World → Prop
  | 0, l, a, w => Region.ready md ops l = [] ∧ Q .normal a w
  | f + 1, l, a, w => (Region.ready md ops l = [] → Q .normal a w) ∧ ∀ i ∈ Region.ready md ops l, wpOp P ops Q i (fun a' w' => (i = n ∨ S w') ∧ wpE P md ops Q S n f (l.setIfInBounds i true) a' w') a w
theorem wpE_any : ∀ (f : Nat) (l : Array Bool) (a : Act) (w : World), wpE P md ops Q S n f l a w → wpAny P md ops Q f l a w := by
  intro f
  induction f with
  | zero => exact fun l a w h => h
  | succ f ih => exact fun l a w h => ⟨h.1, fun i hi => wpOp_mono (fun a' w' k => ih _ a' w' k.2) (h.2 i hi)⟩
/-- operation n waits for number i -/
def waits (md : Region.Mode) (ops : Array Oper) (n i : Nat) : Bool := match ops[n]? with
  | some o => o.after.toList.any fun e => Region.binds md e && e.on == i
  | none => true
theorem unlisted {l : Array Bool} {i : Nat} (h : l.getD i true = false) (k : l.getD i false = true) : False := by
  rcases Nat.lt_or_ge i l.size with hi | hi
  · simp [hi] at h k; rw [h] at k; cases k
  · simp [Array.getElem?_eq_none hi] at h
theorem ready_waits {l : Array Bool} {i j : Nat} (hi : i ∈ Region.ready md ops l) (hj : j ∈ Region.ready md ops l) (hw : waits md ops n i = true) : j ≠ n := by
  rintro rfl
  obtain ⟨_, o, ho, hall⟩ := mem_ready.1 hj
  unfold waits at hw
  rw [ho] at hw
  obtain ⟨e, he, hb⟩ := List.any_eq_true.1 hw
  simp only [Bool.and_eq_true, beq_iff_eq] at hb
  have h1 := hall e (Array.mem_toList_iff.1 he) hb.1
  rw [hb.2] at h1
  exact unlisted (mem_ready.1 hi).1 h1
/-- what yields its value in every world that meets S is taken first -/
theorem wpE_first {i : Nat} {o : Oper} {v : Value} (ho : ops[i]? = some o) (hs : Region.noSelect ops = true) (hw : waits md ops n i = true) (hQ : ∀ c a w, Q (.panic c) (a.put o.dst v) w → Q (.panic c) a w) :
    ∀ (f : Nat) (l : Array Bool) (a : Act) (w : World), (∀ (j : Nat) (oj : Oper), ops[j]? = some oj → j ≠ i → l.getD j true = false → (∀ e ∈ oj.after, Region.binds md e = true → e.on ≠ i) → o.apart ops oj = true) →
      i ∈ Region.ready md ops l → YieldsIf P ops S o v a → S w → wpE P md ops Q S n f (l.setIfInBounds i true) (a.put o.dst v) w → wpE P md ops Q S n (f + 1) l a w := by
  have hsel := Region.noSelect_spec hs
  intro f
  induction f with
  | zero =>
    intro l a w _ hr hy hS H
    refine ⟨fun h => (by rw [h] at hr; cases hr), fun j hj => ?_⟩
    rcases Classical.em (j = i) with rfl | hji
    · exact hy.wpOp ho hS ⟨.inr hS, H⟩
    · have h0 := ready_mono hj hji
      rw [H.1] at h0; cases h0
  | succ f ih =>
    intro l a w hfree hr hy hS H
    refine ⟨fun h => (by rw [h] at hr; cases hr), fun j hj => ?_⟩
    rcases Classical.em (j = i) with rfl | hji
    · exact hy.wpOp ho hS ⟨.inr hS, H⟩
    · obtain ⟨hun, oj, hoj, hall⟩ := mem_ready.1 hj
      have hno : ∀ e ∈ oj.after, Region.binds md e = true → e.on ≠ i := fun e he hb e2 => unlisted (mem_ready.1 hr).1 (e2 ▸ hall e he hb)
      have hjn := ready_waits hr hj hw
      have step := wpOp_putIf hoj (hfree j oj hoj hji hun hno) (fun cs b => hsel i o cs b ho) (fun cs b => hsel j oj cs b hoj) hQ hy (H.2 j (ready_mono hj hji))
      refine wpOp_mono (fun a' w' k => ?_) step
      have hS' : S w' := k.2.1.resolve_left hjn
      refine ⟨.inr hS', ih (l.setIfInBounds j true) a' w' (fun m om hm hmi hmu hmn => hfree m om hm hmi ?_ hmn) (ready_mono hr (Ne.symm hji)) k.1 hS' ?_⟩
      · rcases Classical.em (j = m) with rfl | hjm
        · exact hun
        · rw [getD_set_ne true hjm] at hmu; exact hmu
      · rw [Array.setIfInBounds_comm _ _ hji]; exact k.2.2
theorem wpE_take {i : Nat} {o : Oper} {v : Value} {f : Nat} {l : Array Bool} {a : Act} {w : World} (ho : ops[i]? = some o) (hs : Region.noSelect ops = true) (hf : Region.free md ops l i = true) (hr : (Region.ready md ops l).contains i = true) (hw : waits md ops n i = true)
    (hQ : ∀ c a w, Q (.panic c) (a.put o.dst v) w → Q (.panic c) a w) (hy : YieldsIf P ops S o v a) (hS : S w) (h : wpE P md ops Q S n f (l.setIfInBounds i true) (a.put o.dst v) w) : wpE P md ops Q S n (f + 1) l a w :=
  wpE_first ho hs hw hQ f l a w (Region.free_spec ho hf) (by simpa using hr) hy hS h
/-- one alone may come up -/
theorem wpE_one {i : Nat} {o : Oper} {f : Nat} {l : Array Bool} {a : Act} {w : World} (hr : Region.ready md ops l = [i]) (ho : ops[i]? = some o)
    (h : ∀ K : Act → World → Prop, Shut (∀ a w, (i = n ∨ S w) → wpE P md ops Q S n f (l.setIfInBounds i true) a w → K a w) → if Region.wanted o (yielded ops a.tmps) = true then Oper.wp P o a w K Q else K (a.put o.dst undef) w) : wpE P md ops Q S n (f + 1) l a w := by
  refine ⟨fun h => (by rw [hr] at h; cases h), fun j hj => ?_⟩
  rw [hr] at hj
  obtain rfl : j = i := by simpa using hj
  exact wpOp_step ho fun K hK => h K fun a w h1 h2 => hK a w ⟨h1, h2⟩
theorem wpE_done {f : Nat} {l : Array Bool} {a : Act} {w : World} (hr : Region.ready md ops l = []) (h : Q .normal a w) : wpE P md ops Q S n f l a w := by
  cases f with
  | zero => exact ⟨hr, h⟩
  | succ f => exact ⟨fun _ => h, fun i hi => by rw [hr] at hi; cases hi⟩
theorem wp_region_E {id : Nat} {a : Act} {w : World} (hm : P.follows .mixedOrders = true) (h : wpE P .any ops Q S n ops.size (Array.replicate ops.size false) a w.drew) : (Code.region id ops true).wp P Q a w :=
  wp_region_any hm (wpE_any _ _ _ _ h)
end
section
variable {P : Program} {ops : Array Oper} {Q : Exit → Act → World → Prop} {md : Region.Mode} {S : World → Prop} {n : Nat}
/-- two may come up -/
theorem wpE_two {i j : Nat} {oi oj : Oper} {f : Nat} {l : Array Bool} {a : Act} {w : World} (hr : Region.ready md ops l = [i, j]) (hi : ops[i]? = some oi) (hj : ops[j]? = some oj)
    (h1 : ∀ K : Act → World → Prop, Shut (∀ a w, (i = n ∨ S w) → wpE P md ops Q S n f (l.setIfInBounds i true) a w → K a w) → if Region.wanted oi (yielded ops a.tmps) = true then Oper.wp P oi a w K Q else K (a.put oi.dst undef) w)
    (h2 : ∀ K : Act → World → Prop, Shut (∀ a w, (j = n ∨ S w) → wpE P md ops Q S n f (l.setIfInBounds j true) a w → K a w) → if Region.wanted oj (yielded ops a.tmps) = true then Oper.wp P oj a w K Q else K (a.put oj.dst undef) w) : wpE P md ops Q S n (f + 1) l a w := by
  refine ⟨fun h => (by rw [hr] at h; cases h), fun m hm => ?_⟩
  rw [hr] at hm
  have hm' : m = i ∨ m = j := by simpa using hm
  rcases hm' with rfl | rfl
  · exact wpOp_step hi fun K hK => h1 K fun a w h1 h2 => hK a w ⟨h1, h2⟩
  · exact wpOp_step hj fun K hK => h2 K fun a w h1 h2 => hK a w ⟨h1, h2⟩
end
/-- an append whose run is known, as one step of a region that draws -/
theorem step_append_run {P : Program} {ops : Array Oper} {o : Oper} {a : Act} {w : World} {K : Act → World → Prop} {Q : Exit → Act → World → Prop} {E : Prop}
    (hg : o.guard = none) (s x : Operand) (t : TypeId) (hop : o.op = Op.call { callee := Callee.builtin Builtin.append, args := #[s, x], argTypes := #[t, t] })
    (v u : Value) (hs : a.eval s = v) (hx : a.eval x = u) (v' : Value) (w' : World) (hr : (Builtin.append_ #[t, t] o.type #[v, u]).run P w = .ok v' w') (hK : K (a.put o.dst v') w') :
    if Region.wanted o (yielded ops a.tmps) = true then Oper.wp P o a w K Q else E := by
  have hw : Region.wanted o (yielded ops a.tmps) = true := by simp [Region.wanted, hg]
  rw [if_pos hw]
  unfold Oper.wp
  simp [execOp, hop, resolve, invoke, builtin, hs, hx, hr, Result.andThen]
  exact hK
theorem infoI : (Tryd.prog.info? 3).map (fun i => (i.zero, i.size, i.bytes)) = some (some (.int .i64 0), 1, 8) := by kernel_rfl
/-- 'append(l, xs..)' of numbers, that may be none, onto a row in new memory -/
theorem append_ints {w : World} {B : Nat} {v u : Value} {n m : Nat} {xs ys : List Value} (hr : RowP w (fun b => B ≤ b) 3 1 v n xs) (h : RowRd w 1 u m ys) (hn : n + m ≤ 60000) (h1 : ∀ z ∈ ys, z.oneCell' = true) :
    ∃ v' w' row, (Builtin.append_ #[64, 64] 64 #[v, u]).run Tryd.prog w = .ok v' w' ∧ RowP w' (fun b => B ≤ b ∨ w.heap.size ≤ b) 3 1 v' (n + m) (xs ++ ys) ∧ w.grownBy w' row ∧ ∀ k, row = some k → B ≤ k := by
  obtain ⟨hl, ao, cap, rfl, hcap, hnone, hc⟩ := h
  rcases Nat.eq_zero_or_pos m with rfl | hpos
  · obtain rfl : ys = [] := List.eq_nil_of_length_eq_zero (by simpa using hl)
    refine ⟨v, w, none, ?_, ?_, World.grownBy.refl _ _, fun k hk => by cases hk⟩
    · obtain ⟨vo, vc, rfl, _⟩ := hr.rd.len_of
      cases ao with
      | none => obtain ⟨_, rfl⟩ := hnone rfl; cases vo <;> go_simp
      | some a => cases vo <;> go_simp
    · rw [List.append_nil]; exact RowP.imp hr fun g _ hg => .inl hg
  · cases ao with
    | none => exact absurd (hnone rfl).1 (by omega)
    | some a =>
      obtain ⟨i0, hi, hz0, hz1, hz2⟩ := info_parts infoI
      exact run_append_row (P := Tryd.prog) w 64 64 3 i0 _ 1 _ Tryd.underlying64 hi hz0 hz1 hz2 (by kernel_rfl) (by decide) hr a m cap ys hl (hc a rfl) h1 hpos (by unfold maxLen; omega) (by omega)
theorem app_up {wx W : World} (x : Ext wx W) {p : Option Addr} {u : Value} {m : Nat} {xs : List Value} (h : RowRd W 1 u m xs) (hn : m ≤ 60000) (h1 : ∀ z ∈ xs, z.oneCell' = true) :
    ∃ v' w', (Builtin.append_ #[64, 64] 64 #[.slice p 0 0, u]).run Tryd.prog W = .ok v' w' ∧ RowP w' (fun b => wx.heap.size ≤ b) 3 1 v' m xs ∧ Ext wx w' ∧ Ext W w' := by
  have hr : RowP W (fun b => W.heap.size ≤ b) 3 1 (.slice p 0 0) 0 [] := ⟨rfl, .inl ⟨rfl, p, rfl⟩⟩
  obtain ⟨v', w', row, h2, h3, h4, h5⟩ := append_ints hr h (by omega) h1
  have hx : Ext W w' := Below.grown (Below.refl _ W) h4 (Nat.le_refl _) h5
  refine ⟨v', w', h2, ?_, x.trans hx, hx⟩
  have e : 0 + m = m := Nat.zero_add m
  rw [e, List.nil_append] at h3
  exact RowP.imp h3 fun g _ hg => by
    have := x.size
    rcases hg with h | h <;> (show wx.heap.size ≤ g; omega)
theorem app_tag {wx W : World} (x : Ext wx W) {v : Value} {n : Nat} {xs : List Value} (hr : RowP W (fun b => wx.heap.size ≤ b) 3 1 v n xs) {g : Nat} {z : Int} (hg : W.cell? ⟨g, 0, none⟩ = some (.int .i64 z)) (hn : n ≤ 50000) :
    ∃ v' w', (Builtin.append_ #[64, 64] 64 #[v, .slice (some ⟨g, 0, none⟩) 1 1]).run Tryd.prog W = .ok v' w' ∧ RowRd w' 1 v' (n + 1) (xs ++ [.int .i64 z]) ∧ Ext wx w' := by
  have h : RowRd W 1 (.slice (some ⟨g, 0, none⟩) 1 1) 1 [.int .i64 z] := ⟨rfl, _, _, rfl, Nat.le_refl _, (fun e => by cases e), fun a e j y hy => by
    cases e
    match j, hy with
    | 0, hy => cases hy; exact hg
    | j + 1, hy => simp at hy⟩
  obtain ⟨v', w', row, h2, h3, h4, h5⟩ := append_ints hr h (by omega) (by simp [Value.oneCell'])
  exact ⟨v', w', h2, h3.rd, Below.grown x h4 x.size h5⟩
theorem int_one {U : List Int} : ∀ z ∈ U.map (Value.int .i64), z.oneCell' = true := by
  intro z hz
  obtain ⟨x, _, rfl⟩ := List.mem_map.1 hz
  rfl
theorem take_step {U : List Int} {j : Nat} {t : Int} (h : U[j]? = some t) (hj : 0 < j) : (U.take (j + 1)).tail.reverse = t :: (U.take j).tail.reverse := by
  obtain ⟨hl, e⟩ := List.getElem?_eq_some_iff.1 h
  rw [List.take_succ_eq_append_getElem hl, e, List.tail_append_of_ne_nil (by intro h0; have := congrArg List.length h0; rw [List.length_take, List.length_nil] at this; omega), List.reverse_append]
  rfl
theorem costA_mem {l : List (ByteArray × ByteArray)} {p : ByteArray × ByteArray} (h : p ∈ l) : p.2.size ≤ costA l := by
  induction l with
  | nil => cases h
  | cons x r ih =>
    simp only [costA, List.map_cons, List.sum_cons] at ih ⊢
    rcases List.mem_cons.1 h with rfl | h
    · omega
    · have := ih h; omega
set_option maxHeartbeats 4000000 in
set_option maxRecDepth 100000 in
theorem rnormal_el {w0 : World} {n : PN} (h0 : ¬ n.tag = 0) (hkids : KRef w0 n) : NRef w0 n := by
  intro U m uv w v hr hx hU hm hup hc
  obtain ⟨av, kv, rfl, ha, hk⟩ := hr.open
  obtain ⟨y1, y2, rfl, hac⟩ := ha.len_of
  obtain ⟨y3, y4, rfl, hk1, hk2, hk3, hk4⟩ := hk
  clear hk1 hk2 hk3 hk4 hac
  obtain ⟨ua, uc, rfl, huc⟩ := hup.len_of
  have x1 := ((Ext.refl w).alloc (.cells #[.int .i64 n.tag, .slice y1 n.attrs.length y2, .string n.text, .slice y3 n.kids.length y4] 25))
  have bb := heap_alloc_new w (.cells #[.int .i64 n.tag, .slice y1 n.attrs.length y2, .string n.text, .slice y3 n.kids.length y4] 25)
  obtain ⟨r, hr9⟩ : ∃ r, normU n U = r := ⟨_, rfl⟩
  rw [hr9]
  unfold normU at hr9
  rw [PN.norm_eq, hU] at hr9
  have ht0 : (n.tag == 0) = false := by simpa using h0
  have hUne : U ≠ [] := by intro h; rw [h] at hU; simp at hU
  have hcA : costA n.attrs ≤ 1000000000000 := by rw [PN.cost_eq] at hc; unfold costA; omega
  have hcK : PN.costs n.kids ≤ 1000000000000 := by rw [PN.cost_eq] at hc; omega
  have hal := costA_len n.attrs
  have HMAY := Lib.hid (fun (u : World) (xu : Ext w u) => r3May_any n.attrs _ u ((ha.cells hx.cells).ext xu) (by omega) (fun a hm => Nat.le_trans (costA_mem hm) hcA))
  have HKIDS := Lib.hid (fun (V : List Int) uv u (xu : Ext w u) => hkids V (m + 1) uv u _ hr (hx.trans xu))
  have HCK := Lib.hid hcK
  have HR9 := Lib.hid hr9
  have HUP := Lib.hid hup
  have HUU := Lib.hid (And.intro hU hUne)
  have HNZ := Lib.hid h0
  clear hr hr9 hx hc h0 hup hcA hcK hal ha hkids hUne
  go_enter Tryd.func53, Tryd.ntmps53
  go_upto_region 1 with fail
  obtain ⟨w1, hw1⟩ : ∃ w1 : World, w1 = w.alloc (.cells #[.int .i64 n.tag, .slice y1 n.attrs.length y2, .string n.text, .slice y3 n.kids.length y4] 25) := ⟨_, rfl⟩
  rw [← hw1] at x1 bb ⊢
  clear hw1
  have n0 := cellOf bb (i := 0) (v := .int .i64 n.tag) rfl
  have X1 := Lib.hid x1
  have B1 := Lib.hid bb
  clear x1 bb
  by_cases hm0 : (40 : Int) < (m : Int) + 1
  · have hr0 : r = false := by rw [← HR9.out, decide_eq_false (by omega)]; rfl
    subst hr0
    go_wp2_with fail
    go_ret
    exact ⟨rfl, X1.out⟩
  go_wp2_with (go_at_call 30; refine (rClass_any _ n.tag).mono ?_)
  rintro e w2 ⟨rfl, x2⟩
  have X2 := Lib.hid (X1.out.trans x2)
  cases ua with
  | none =>
    obtain ⟨_, ao', cap', e, _, h0, hcell⟩ := HUP.out
    cases e
    exact absurd (h0 rfl).1 (by omega)
  | some a =>
    have HUC := Lib.hid (fun (u : World) (xu : Ext w u) (j : Nat) (t : Int) (h : U[j]? = some t) => show u.cell? (a.add j) = some (.int .i64 t) from by
      obtain ⟨_, ao', cap', e, _, h0, hcell⟩ := HUP.out
      cases e
      exact xu.cells _ _ (hcell a rfl j (.int .i64 t) (by rw [List.getElem?_map, h]; rfl)))
    obtain ⟨t, ht⟩ : ∃ t, U[m]? = some t := ⟨U[m]'(by omega), List.getElem?_eq_getElem (by omega)⟩
    have q := HUC.out w2 X2.out m t ht
    have hwr : IntKind.i64.wrap ((m : Int) + 1 - 1) = (m : Int) := by rw [IntWalk.i64_left, IntWalk.wrap64_in _ (by omega)]; omega
    have b2 := x2.block B1.out
    replace n0 := x2.cell n0
    have B2 := Lib.hid b2
    clear x2 b2
    have hdm : decide (((m + 1 : Nat) : Int) ≤ 40) = true := decide_eq_true (by omega)
    have HR := HR9.out
    rw [hdm, Bool.true_and] at HR
    have HRR := Lib.hid HR
    obtain ⟨c, hcl⟩ : ∃ c, clsT n.tag = c := ⟨_, rfl⟩
    have hc1 : ¬ c = 1 := by
      rw [← hcl]; intro h; unfold clsT at h
      repeat' split at h
      all_goals first | exact HNZ.out ‹_› | (exact absurd h (by decide))
    rw [hcl]
    clear HR hdm
    obtain ⟨G, hG⟩ : ∃ G : Prop, G = (¬ c = 0 ∧ (if c = 5 then true else if c = 4 then PN.norms (((m + 1 : Nat) : Int) + 1) false (lineIn (upR U)) (liIn (upR U)) false n.kids
          else !(lineIn (upR U) || n.tag == 9 && liIn (upR U)) && PN.norms (((m + 1 : Nat) : Int) + 1) (c == 2) (c == 3 && n.tag != 9) (n.tag == 9 || liIn (upR U) && n.tag != 7 && n.tag != 8) false n.kids) = r ∧ (c = 5 → n.kids = [])) := ⟨_, rfl⟩
    have HG := Lib.hid hG
    clear hG
    go_upto_region 14 with fail
    go_cut [93] (fun q wx => ∃ bad : Bool, q = .bool bad ∧ Ext w2 wx ∧ Hid (bad = true → r = false) ∧ Hid (bad = false → G))
    case first =>
     as_aux_lemma =>
      have n1 := cellOf B2.out (i := 1) (v := .slice y1 n.attrs.length y2) rfl
      have n2 := cellOf B2.out (i := 2) (v := .string n.text) rfl
      have n3 := cellOf B2.out (i := 3) (v := .slice y3 n.kids.length y4) rfl
      rcases tagB c with hc0 | hc0
      · have hr0 : r = false := by rw [← HRR.out, hcl, if_pos (by simpa using hc0)]
        have FIN := Lib.hid hr0
        clear hr0
        go_wp2_with fail
        go_meet
        exact ⟨true, rfl, Ext.refl _, Lib.hid (fun _ => FIN.out), Lib.hid (fun h => by cases h)⟩
      have hc0n : ¬ c = 0 := by simpa using hc0
      by_cases hS : n.text.size = 0
      case neg =>
        have e3 : (n.text.toList == ([] : List UInt8)) = false := text_some hS
        have e4 : (n.text.toList != ([] : List UInt8)) = true := by simp [bne, e3]
        have hs0 : (n.text.size == 0) = false := by simpa using hS
        have hr0 : r = false := by rw [← HRR.out, hcl, if_neg hc0n, if_neg hc1, hs0]; simp
        have FIN := Lib.hid hr0
        clear hS hr0
        go_wp2_with fail
        go_meet
        exact ⟨true, rfl, Ext.refl _, Lib.hid (fun _ => FIN.out), Lib.hid (fun h => by cases h)⟩
      have e3 : (n.text.toList == ([] : List UInt8)) = true := text_none hS
      have e4 : (n.text.toList != ([] : List UInt8)) = false := by simp [bne, e3]
      have hs0 : (n.text.size == 0) = true := by simpa using hS
      have HS0 := Lib.hid hs0
      clear hS hs0
      obtain ⟨bm, hbm⟩ : ∃ b, attrsMay n.attrs = b := ⟨_, rfl⟩
      have HM2 := Lib.hid (hbm ▸ HMAY.out w2 X2.out)
      cases bm with
      | false =>
        have hr0 : r = false := by rw [← HRR.out, hcl, if_neg hc0n, if_neg hc1, HS0.out, hbm]; simp
        have FIN := Lib.hid hr0
        clear hr0
        go_wp2_with (go_at_call 72; refine HM2.out.mono ?_)
        rintro e w3 ⟨rfl, x3⟩
        clear n0 n1 n2 n3 q
        go_wp2_with fail
        go_meet
        exact ⟨true, rfl, x3, Lib.hid (fun _ => FIN.out), Lib.hid (fun h => by cases h)⟩
      | true =>
        have hr2 : (if c = 5 then n.kids.isEmpty else if c = 4 then PN.norms (((m + 1 : Nat) : Int) + 1) false (lineIn (upR U)) (liIn (upR U)) false n.kids
            else !(lineIn (upR U) || n.tag == 9 && liIn (upR U)) && PN.norms (((m + 1 : Nat) : Int) + 1) (c == 2) (c == 3 && n.tag != 9) (n.tag == 9 || liIn (upR U) && n.tag != 7 && n.tag != 8) false n.kids) = r := by
          rw [← HRR.out, hcl, if_neg hc0n, if_neg hc1, HS0.out, hbm]; simp
        by_cases h5 : c = 5
        · have e5 : (c == 5) = true := by simpa using h5
          by_cases hk0 : 0 < n.kids.length
          · have hk1 : decide (0 < n.kids.length) = true := decide_eq_true hk0
            have hr0 : r = false := by rw [← hr2, if_pos h5]; exact isEmpty_no (by omega)
            have FIN := Lib.hid hr0
            clear hr2 hbm h5 hk0 hr0
            go_wp2_with (go_at_call 72; refine HM2.out.mono ?_)
            rintro e w3 ⟨rfl, x3⟩
            replace n3 := x3.cell n3
            go_wp2_with fail
            go_meet
            exact ⟨true, rfl, x3, Lib.hid (fun _ => FIN.out), Lib.hid (fun h => by cases h)⟩
          · have hk1 : decide (0 < n.kids.length) = false := decide_eq_false hk0
            have hkn : n.kids = [] := List.eq_nil_of_length_eq_zero (by omega)
            have FIN : Hid G := Lib.hid (by rw [HG.out]; exact ⟨hc0n, by rw [← hr2, if_pos h5, if_pos h5, hkn]; rfl, fun _ => hkn⟩)
            clear hr2 hbm h5 hk0 hkn
            go_wp2_with (go_at_call 72; refine HM2.out.mono ?_)
            rintro e w3 ⟨rfl, x3⟩
            replace n3 := x3.cell n3
            go_wp2_with fail
            go_meet
            exact ⟨false, rfl, x3, Lib.hid (fun h => by cases h), Lib.hid (fun _ => FIN.out)⟩
        · have e5 : (c == 5) = false := by simpa using h5
          have FIN : Hid G := Lib.hid (by rw [HG.out]; exact ⟨hc0n, by rw [← hr2, if_neg h5, if_neg h5], fun h => absurd h h5⟩)
          clear hr2 hbm h5
          go_wp2_with (go_at_call 72; refine HM2.out.mono ?_)
          rintro e w3 ⟨rfl, x3⟩
          replace n3 := x3.cell n3
          go_wp2_with fail
          go_meet
          exact ⟨false, rfl, x3, Lib.hid (fun h => by cases h), Lib.hid (fun _ => FIN.out)⟩
    case rest =>
      obtain ⟨bad, rfl, xc, hb1, hb2⟩ := hcut
      have X3 := Lib.hid (X2.out.trans xc)
      have B3 := Lib.hid (xc.block B2.out)
      obtain ⟨w3, hw3⟩ : ∃ w3, wc = w3 := ⟨_, rfl⟩
      rw [hw3] at xc X3 B3 ⊢
      clear hw3 q n0 xc
      cases bad with
      | true =>
        have hr0 : r = false := hb1.out rfl
        subst hr0
        go_wp2_with fail
        go_ret
        exact ⟨rfl, X3.out⟩
      | false =>
        have GG := Lib.hid (HG.out ▸ hb2.out rfl)
        clear hb1 hb2 HG
        obtain ⟨big, hbig⟩ : ∃ b, (c == 2 || c == 3) = b := ⟨_, rfl⟩
        go_upto_region 16 with fail
        go_cut [99] (fun q wx => q = .bool big ∧ wx = w3)
        case first =>
         as_aux_lemma =>
          rcases (show (c == 2) = true ∨ (c == 2) = false by cases (c == 2); exact .inr rfl; exact .inl rfl) with e2 | e2
          · have hb : big = true := by rw [← hbig, e2]; rfl
            subst hb
            clear hbig
            go_wp2_with fail
            go_meet
            exact ⟨rfl, rfl⟩
          · rcases (show (c == 3) = true ∨ (c == 3) = false by cases (c == 3); exact .inr rfl; exact .inl rfl) with e3 | e3
            · have hb : big = true := by rw [← hbig, e3]; simp
              subst hb
              clear hbig
              go_wp2_with fail
              go_meet
              exact ⟨rfl, rfl⟩
            · have hb : big = false := by rw [← hbig, e2, e3]; rfl
              subst hb
              clear hbig
              go_wp2_with fail
              go_meet
              exact ⟨rfl, rfl⟩
        case rest =>
          obtain ⟨rfl, hwc⟩ := hcut
          rw [hwc]
          clear hwc
          go_upto_if 99 with fail
          go_cut [] (fun wx => Ext w3 wx ∧ Hid (big = true → lineIn (upR U) = false))
          case first =>
           as_aux_lemma =>
            cases big with
            | false =>
              go_wp2_with fail
              go_meet
              exact ⟨Ext.refl _, Lib.hid (fun h => by cases h)⟩
            | true =>
              have h4 : ¬ c = 5 ∧ ¬ c = 4 := by simp at hbig; omega
              have hbadr : lineIn (upR U) = true → r = false := fun h => by rw [← GG.out.2.1, if_neg h4.1, if_neg h4.2, h]; simp
              have BADR := Lib.hid hbadr
              clear hbig h4 hbadr
              go_wp2_with fail
              go_loopw [9] (fun i wr => ∃ j : Nat, i = .int .i64 j ∧ j < m + 1 ∧ Ext w3 wr ∧ lineIn ((U.take (j + 1)).tail.reverse) = lineIn (upR U)) (fun i _ => (intOf i).toNat)
              case atStart => exact ⟨m, rfl, Nat.lt_succ_self m, Ext.refl _, by rw [← hU, List.take_length]; rfl⟩
              case round =>
                obtain ⟨j, rfl, hj, xr, hl⟩ := hrel
                have XR := Lib.hid xr
                by_cases hj0 : j = 0
                · have hj1 : ¬ (0 : Int) < (j : Int) := by omega
                  subst hj0
                  have hl0 : lineIn (upR U) = false := by
                    rw [← hl]
                    cases U with
                    | nil => rfl
                    | cons y U => rfl
                  have HL0 := Lib.hid hl0
                  clear hl hl0 xr
                  go_wp2_with fail
                  go_meet
                  exact ⟨XR.out, Lib.hid (fun _ => HL0.out)⟩
                · have hj1 : (0 : Int) < (j : Int) := by omega
                  obtain ⟨t, ht⟩ : ∃ t, U[j]? = some t := ⟨U[j]'(by omega), List.getElem?_eq_getElem (by omega)⟩
                  have q := HUC.out wr (X3.out.trans xr) j t ht
                  rw [take_step ht (by omega), lineIn] at hl
                  have hwr1 : IntKind.i64.wrap ((j : Int) - 1) = ((j - 1 : Nat) : Int) := by rw [IntWalk.i64_left, IntWalk.wrap64_in _ (by omega)]; omega
                  have hl1 : 2 ≤ t ∧ t ≤ 5 → r = false := fun h => BADR.out (by rw [← hl, if_pos h])
                  have hl2 : ¬ (2 ≤ t ∧ t ≤ 5) → (clsT t = 2 ∨ t = 9) → lineIn (upR U) = false := fun h h2 => by rw [← hl, if_neg h, if_pos h2]
                  have hl3 : ¬ (2 ≤ t ∧ t ≤ 5) → ¬ (clsT t = 2 ∨ t = 9) → lineIn ((U.take (j - 1 + 1)).tail.reverse) = lineIn (upR U) := fun h h2 => by rw [← hl, if_neg h, if_neg h2, Nat.sub_add_cancel (by omega)]
                  have L1 := Lib.hid hl1
                  have L2 := Lib.hid hl2
                  have L3 := Lib.hid hl3
                  have HCT := Lib.hid (rClass_any wr t)
                  obtain ⟨ct, hct⟩ : ∃ ct, clsT t = ct := ⟨_, rfl⟩
                  rw [hct] at HCT L2 L3
                  clear hl hl1 hl2 hl3 ht xr hct
                  by_cases g1 : (2 : Int) ≤ t
                  · by_cases g2 : t ≤ (5 : Int)
                    · have hr0 : r = false := L1.out ⟨g1, g2⟩
                      subst hr0
                      go_wp2_with fail
                      go_ret
                      exact ⟨rfl, X3.out.trans XR.out⟩
                    · have hn : ¬ (2 ≤ t ∧ t ≤ 5) := fun h => g2 h.2
                      have M2 := Lib.hid (L2.out hn)
                      have M3 := Lib.hid (L3.out hn)
                      clear hn
                      rcases (show (ct == 2) = true ∨ (ct == 2) = false by cases (ct == 2); exact .inr rfl; exact .inl rfl) with e2 | e2
                      · have F2 := Lib.hid (M2.out (.inl (by simpa using e2)))
                        go_wp2_with (go_at_call 30; refine HCT.out.mono ?_)
                        rintro e w4 ⟨rfl, x4⟩
                        replace q := x4.cells _ _ q
                        go_wp2_with fail
                        go_meet
                        exact ⟨XR.out.trans x4, Lib.hid (fun _ => F2.out)⟩
                      · rcases (show (t == 9) = true ∨ (t == 9) = false by cases (t == 9); exact .inr rfl; exact .inl rfl) with e9 | e9
                        · have F2 := Lib.hid (M2.out (.inr (by simpa using e9)))
                          go_wp2_with (go_at_call 30; refine HCT.out.mono ?_)
                          rintro e w4 ⟨rfl, x4⟩
                          replace q := x4.cells _ _ q
                          go_wp2_with fail
                          go_meet
                          exact ⟨XR.out.trans x4, Lib.hid (fun _ => F2.out)⟩
                        · have F3 := Lib.hid (M3.out (by rintro (h | h); · rw [h] at e2; cases e2
                                                         · rw [h] at e9; cases e9))
                          go_wp2_with (go_at_call 30; refine HCT.out.mono ?_)
                          rintro e w4 ⟨rfl, x4⟩
                          replace q := x4.cells _ _ q
                          go_wp2_with fail
                          go_roundw
                          case rel => exact ⟨j - 1, by first | rfl | go_num, by omega, XR.out.trans x4, F3.out⟩
                          case measure => simp [intOf]; omega
                  · have hn : ¬ (2 ≤ t ∧ t ≤ 5) := fun h => g1 h.1
                    have M2 := Lib.hid (L2.out hn)
                    have M3 := Lib.hid (L3.out hn)
                    have e9 : (t == 9) = false := by rw [beq_eq_false_iff_ne]; omega
                    clear hn
                    rcases (show (ct == 2) = true ∨ (ct == 2) = false by cases (ct == 2); exact .inr rfl; exact .inl rfl) with e2 | e2
                    · have F2 := Lib.hid (M2.out (.inl (by simpa using e2)))
                      go_wp2_with (go_at_call 30; refine HCT.out.mono ?_)
                      rintro e w4 ⟨rfl, x4⟩
                      replace q := x4.cells _ _ q
                      go_wp2_with fail
                      go_meet
                      exact ⟨XR.out.trans x4, Lib.hid (fun _ => F2.out)⟩
                    · have F3 := Lib.hid (M3.out (by rintro (h | h); · rw [h] at e2; cases e2
                                                     · rw [h] at e9; cases e9))
                      go_wp2_with (go_at_call 30; refine HCT.out.mono ?_)
                      rintro e w4 ⟨rfl, x4⟩
                      replace q := x4.cells _ _ q
                      go_wp2_with fail
                      go_roundw
                      case rel => exact ⟨j - 1, by first | rfl | go_num, by omega, XR.out.trans x4, F3.out⟩
                      case measure => simp [intOf]; omega
          case rest =>
            obtain ⟨xc, hline⟩ := hcut
            have X4 := Lib.hid (X3.out.trans xc)
            have B4 := Lib.hid (xc.block B3.out)
            obtain ⟨w4, hw4⟩ : ∃ w4, wc = w4 := ⟨_, rfl⟩
            rw [hw4] at xc X4 B4 ⊢
            clear hw4 xc
            have n0 := cellOf B4.out (i := 0) (v := .int .i64 n.tag) rfl
            obtain ⟨b9, h9⟩ : ∃ b, (n.tag == 9) = b := ⟨_, rfl⟩
            go_upto_if 134 with fail
            go_cut [] (fun wx => Ext w4 wx ∧ Hid (b9 = true → liIn (upR U) = false))
            case first =>
             as_aux_lemma =>
              cases b9 with
              | false =>
                go_wp2_with fail
                go_meet
                exact ⟨Ext.refl _, Lib.hid (fun h => by cases h)⟩
              | true =>
                have h4 : ¬ c = 5 ∧ ¬ c = 4 := by
                  have h : n.tag = 9 := by simpa using h9
                  rw [h] at hcl
                  have h3 : c = 3 := by rw [← hcl]; decide
                  omega
                have hbadr : liIn (upR U) = true → r = false := fun h => by rw [← GG.out.2.1, if_neg h4.1, if_neg h4.2, h, h9]; simp
                have BADR := Lib.hid hbadr
                clear h4 hbadr
                go_wp2_with fail
                go_loopw [10] (fun i wr => ∃ j : Nat, i = .int .i64 j ∧ j < m + 1 ∧ Ext w4 wr ∧ liIn ((U.take (j + 1)).tail.reverse) = liIn (upR U)) (fun i _ => (intOf i).toNat)
                case atStart => exact ⟨m, rfl, Nat.lt_succ_self m, Ext.refl _, by rw [← hU, List.take_length]; rfl⟩
                case round =>
                  obtain ⟨j, rfl, hj, xr, hl⟩ := hrel
                  have XR := Lib.hid xr
                  by_cases hj0 : j = 0
                  · have hj1 : ¬ (0 : Int) < (j : Int) := by omega
                    subst hj0
                    have hl0 : liIn (upR U) = false := by
                      rw [← hl]
                      cases U with
                      | nil => rfl
                      | cons y U => rfl
                    have HL0 := Lib.hid hl0
                    clear hl hl0 xr
                    go_wp2_with fail
                    go_meet
                    exact ⟨XR.out, Lib.hid (fun _ => HL0.out)⟩
                  · have hj1 : (0 : Int) < (j : Int) := by omega
                    obtain ⟨t, ht⟩ : ∃ t, U[j]? = some t := ⟨U[j]'(by omega), List.getElem?_eq_getElem (by omega)⟩
                    have q := HUC.out wr (X4.out.trans xr) j t ht
                    rw [take_step ht (by omega), liIn] at hl
                    have hwr1 : IntKind.i64.wrap ((j : Int) - 1) = ((j - 1 : Nat) : Int) := by rw [IntWalk.i64_left, IntWalk.wrap64_in _ (by omega)]; omega
                    have hl1 : (t = 7 ∨ t = 8) → liIn (upR U) = false := fun h => by rw [← hl, if_pos h]
                    have hl2 : ¬ (t = 7 ∨ t = 8) → t = 9 → r = false := fun h h2 => BADR.out (by rw [← hl, if_neg h, if_pos h2])
                    have hl3 : ¬ (t = 7 ∨ t = 8) → ¬ t = 9 → liIn ((U.take (j - 1 + 1)).tail.reverse) = liIn (upR U) := fun h h2 => by rw [← hl, if_neg h, if_neg h2, Nat.sub_add_cancel (by omega)]
                    have L1 := Lib.hid hl1
                    have L2 := Lib.hid hl2
                    have L3 := Lib.hid hl3
                    clear hl hl1 hl2 hl3 ht xr
                    by_cases g7 : t = 7
                    · have F1 := Lib.hid (L1.out (.inl g7))
                      have e7 : (t != 7) = false := by simp [g7]
                      have e7' : (t == 7) = true := by simp [g7]
                      clear g7
                      go_wp2_with fail
                      go_meet
                      exact ⟨XR.out, Lib.hid (fun _ => F1.out)⟩
                    · have e7 : (t != 7) = true := by simp [g7]
                      have e7' : (t == 7) = false := by simp [g7]
                      by_cases g8 : t = 8
                      · have F1 := Lib.hid (L1.out (.inr g8))
                        have e8 : (t != 8) = false := by simp [g8]
                        have e8' : (t == 8) = true := by simp [g8]
                        clear g7 g8
                        go_wp2_with fail
                        go_meet
                        exact ⟨XR.out, Lib.hid (fun _ => F1.out)⟩
                      · have e8 : (t != 8) = true := by simp [g8]
                        have e8' : (t == 8) = false := by simp [g8]
                        have hn : ¬ (t = 7 ∨ t = 8) := by omega
                        by_cases g9 : t = 9
                        · have hr0 : r = false := L2.out hn g9
                          have e9 : (t == 9) = true := by simp [g9]
                          subst hr0
                          clear hn g7 g8 g9
                          go_wp2_with fail
                          go_ret
                          exact ⟨rfl, X4.out.trans XR.out⟩
                        · have F3 := Lib.hid (L3.out hn g9)
                          have e9 : (t == 9) = false := by simp [g9]
                          clear hn g7 g8 g9
                          go_wp2_with fail
                          go_roundw
                          case rel => exact ⟨j - 1, by first | rfl | go_num, by omega, XR.out, F3.out⟩
                          case measure => simp [intOf]; omega
            case rest =>
            obtain ⟨xc, hli⟩ := hcut
            have X5 := Lib.hid (X4.out.trans xc)
            have B5 := Lib.hid (xc.block B4.out)
            obtain ⟨w5, hw5⟩ : ∃ w5, wc = w5 := ⟨_, rfl⟩
            rw [hw5] at xc X5 B5 ⊢
            clear hw5 xc n0
            have hall : normsU n.kids (U ++ [n.tag]) = r := by
              obtain ⟨h0, hr, hk5⟩ := GG.out
              rw [normsU_snoc HUU.out.2, ← hr, hcl, hU]
              by_cases h5 : c = 5
              · rw [if_pos h5, hk5 h5]; rfl
              · rw [if_neg h5]
                by_cases h4 : c = 4
                · rw [if_pos h4]
                  obtain ⟨i1, i2⟩ := lineIn_inline (t := n.tag) (.inl (hcl.trans h4)) (upR U)
                  rw [i1, i2, h4]
                  rfl
                · rw [if_neg h4]
                  have h23 : clsT n.tag = 2 ∨ clsT n.tag = 3 := by have := clsT_range n.tag; omega
                  have hb : big = true := by rw [← hbig]; rw [hcl] at h23; rcases h23 with h | h <;> simp [h]
                  obtain ⟨i1, i2⟩ := lineIn_big (t := n.tag) h23 (upR U)
                  rw [i1, i2, hline.out hb, hcl]
                  cases b9 with
                  | true => rw [hli.out rfl, Bool.and_false]; simp
                  | false => rw [h9]; simp
            have HK6 := Lib.hid (fun uv (u : World) (xu : Ext w5 u) (h : RowRd u 1 uv (m + 1 + 1) (U.map (.int .i64) ++ [.int .i64 n.tag])) =>
              hall ▸ HKIDS.out (U ++ [n.tag]) uv u (X5.out.trans xu) (by simp [hU]) (by omega) (by simpa using h) HCK.out)
            have HUP5 := Lib.hid (fun (u : World) (xu : Ext w5 u) => (HUP.out.ext (X5.out.trans xu) : RowRd u 1 (.slice (some a) (m + 1) uc) (m + 1) (U.map (.int .i64))))
            have s0 := cellOf B5.out (i := 0) (v := .int .i64 n.tag) rfl
            have s1 := cellOf B5.out (i := 1) (v := .slice y1 n.attrs.length y2) rfl
            have s2 := cellOf B5.out (i := 2) (v := .string n.text) rfl
            have s3 := cellOf B5.out (i := 3) (v := .slice y3 n.kids.length y4) rfl
            clear hall hline hli h9 hbig hcl
            go_upto_region 29 with fail
            --REGION29
            as_aux_lemma =>
              refine wp_region_E (S := fun w' => w'.cell? ⟨w.heap.size, 0, none⟩ = some (.int .i64 n.tag) ∧ w'.cell? ⟨w.heap.size, 1, none⟩ = some (.slice y1 n.attrs.length y2) ∧ w'.cell? ⟨w.heap.size, 2, none⟩ = some (.string n.text) ∧ w'.cell? ⟨w.heap.size, 3, none⟩ = some (.slice y3 n.kids.length y4)) (n := 10) (by kernel_rfl) ?_
              have hS : w5.drew.cell? ⟨w.heap.size, 0, none⟩ = some (.int .i64 n.tag) ∧ w5.drew.cell? ⟨w.heap.size, 1, none⟩ = some (.slice y1 n.attrs.length y2) ∧ w5.drew.cell? ⟨w.heap.size, 2, none⟩ = some (.string n.text) ∧ w5.drew.cell? ⟨w.heap.size, 3, none⟩ = some (.slice y3 n.kids.length y4) := ⟨(Ext.refl w5).drew.cell s0, (Ext.refl w5).drew.cell s1, (Ext.refl w5).drew.cell s2, (Ext.refl w5).drew.cell s3⟩
              show wpE _ _ _ _ _ 10 10 (Array.replicate 10 false) _ _
              refine wpE_take (i := 0) (v := .agg #[.int .i64 n.tag, .slice y1 n.attrs.length y2, .string n.text, .slice y3 n.kids.length y4]) (o := { dst := some 161, op := _, type := _, pos := _, after := _, guard := none }) rfl (by kernel_rfl) (by kernel_rfl) (by kernel_rfl) (by kernel_rfl) (fun _ _ _ h => h) (Or.inl ⟨by rfl, fun w' hSw => ?_⟩) hS ?_
              · (obtain ⟨z1, z2, z3, z4⟩ := hSw; clear hS; go_simp)
              try simp only [Act.put, List.setIfInBounds_toArray, List.set_cons_zero, List.set_cons_succ]
              refine wpE_take (i := 2) (v := .slice (some a) (m + 1) uc) (o := { dst := some 163, op := _, type := _, pos := _, after := _, guard := none }) rfl (by kernel_rfl) (by kernel_rfl) (by kernel_rfl) (by kernel_rfl) (fun _ _ _ h => h) (Or.inl ⟨by rfl, fun w' hSw => ?_⟩) hS ?_
              · (obtain ⟨z1, z2, z3, z4⟩ := hSw; clear hS; go_simp)
              try simp only [Act.put, List.setIfInBounds_toArray, List.set_cons_zero, List.set_cons_succ]
              refine wpE_take (i := 4) (v := .pointer (some ⟨w.heap.size, 0, none⟩)) (o := { dst := some 165, op := _, type := _, pos := _, after := _, guard := none }) rfl (by kernel_rfl) (by kernel_rfl) (by kernel_rfl) (by kernel_rfl) (fun _ _ _ h => h) (Or.inl ⟨by rfl, fun w' hSw => ?_⟩) hS ?_
              · (obtain ⟨z1, z2, z3, z4⟩ := hSw; clear hS; go_simp)
              try simp only [Act.put, List.setIfInBounds_toArray, List.set_cons_zero, List.set_cons_succ]
              refine wpE_take (i := 5) (v := .int .i64 n.tag) (o := { dst := some 166, op := _, type := _, pos := _, after := _, guard := none }) rfl (by kernel_rfl) (by kernel_rfl) (by kernel_rfl) (by kernel_rfl) (fun _ _ _ h => h) (Or.inl ⟨by rfl, fun w' hSw => ?_⟩) hS ?_
              · (obtain ⟨z1, z2, z3, z4⟩ := hSw; clear hS; go_simp)
              try simp only [Act.put, List.setIfInBounds_toArray, List.set_cons_zero, List.set_cons_succ]
              refine wpE_two (i := 1) (j := 6) (oi := { dst := some 162, op := _, type := _, pos := _, after := _, guard := none }) (oj := { dst := some 167, op := _, type := _, pos := _, after := _, guard := none }) (by kernel_rfl) rfl rfl (fun K hK => ?_) (fun K hK => ?_)
              · go_simp
                refine hK.out _ _ (.inr ⟨(((Ext.refl w5).drew).alloc (.cells #[] 3)).cell s0, (((Ext.refl w5).drew).alloc (.cells #[] 3)).cell s1, (((Ext.refl w5).drew).alloc (.cells #[] 3)).cell s2, (((Ext.refl w5).drew).alloc (.cells #[] 3)).cell s3⟩) ?_
                clear hK K
                try simp only [Act.put, List.setIfInBounds_toArray, List.set_cons_zero, List.set_cons_succ]
                refine wpE_two (i := 3) (j := 6) (oi := { dst := some 164, op := _, type := _, pos := _, after := _, guard := none }) (oj := { dst := some 167, op := _, type := _, pos := _, after := _, guard := none }) (by kernel_rfl) rfl rfl (fun K hK => ?_) (fun K hK => ?_)
                · obtain ⟨v1, wA, hrun, hra, hxa, hxb⟩ := app_up (p := some ⟨w5.heap.size, 0, none⟩) (W := w5.drew.alloc (.cells #[] 3)) (((Ext.refl w5).drew).alloc (.cells #[] 3)) (HUP5.out _ (((Ext.refl w5).drew).alloc (.cells #[] 3))) (by omega) int_one
                  obtain ⟨a1, c1, rfl, _⟩ := hra.rd.len_of
                  have HRUN := Lib.hid hrun
                  refine step_append_run (by rfl) _ _ 64 (by rfl) (.slice (some ⟨w5.heap.size, 0, none⟩) 0 0) (.slice (some a) (m + 1) uc) (by rfl) (by rfl) (.slice a1 (m + 1) c1) wA HRUN.out ?_
                  refine hK.out _ _ (.inr ⟨(hxa).cell s0, (hxa).cell s1, (hxa).cell s2, (hxa).cell s3⟩) ?_
                  clear hK K
                  try simp only [Act.put, List.setIfInBounds_toArray, List.set_cons_zero, List.set_cons_succ]
                  refine wpE_one (i := 6) (o := { dst := some 167, op := _, type := _, pos := _, after := _, guard := none }) (by kernel_rfl) rfl (fun K hK => ?_)
                  go_simp
                  refine hK.out _ _ (.inr ⟨(hxa.alloc (.cells #[.int .i64 n.tag] 3)).cell s0, (hxa.alloc (.cells #[.int .i64 n.tag] 3)).cell s1, (hxa.alloc (.cells #[.int .i64 n.tag] 3)).cell s2, (hxa.alloc (.cells #[.int .i64 n.tag] 3)).cell s3⟩) ?_
                  clear hK K
                  try simp only [Act.put, List.setIfInBounds_toArray, List.set_cons_zero, List.set_cons_succ]
                  refine wpE_one (i := 7) (o := { dst := some 168, op := _, type := _, pos := _, after := _, guard := none }) (by kernel_rfl) rfl (fun K hK => ?_)
                  obtain ⟨v2, wB, hrun2, hrb, hxc⟩ := app_tag (W := wA.alloc (.cells #[.int .i64 n.tag] 3)) (hxa.alloc (.cells #[.int .i64 n.tag] 3)) (RowP.ext hra ((Ext.refl wA).alloc (.cells #[.int .i64 n.tag] 3))) (g := wA.heap.size) (z := n.tag) (cellOf (heap_alloc_new wA (.cells #[.int .i64 n.tag] 3)) (i := 0) rfl) (by omega)
                  obtain ⟨a2, c2, rfl, _⟩ := hrb.len_of
                  have HRUN2 := Lib.hid hrun2
                  refine step_append_run (by rfl) _ _ 64 (by rfl) (.slice a1 (m + 1) c1) (.slice (some ⟨wA.heap.size, 0, none⟩) 1 1) (by rfl) (by rfl) (.slice a2 (m + 1 + 1) c2) wB HRUN2.out ?_
                  refine hK.out _ _ (.inr ⟨(hxc).cell s0, (hxc).cell s1, (hxc).cell s2, (hxc).cell s3⟩) ?_
                  clear hK K
                  try simp only [Act.put, List.setIfInBounds_toArray, List.set_cons_zero, List.set_cons_succ]
                  refine wpE_one (i := 8) (o := { dst := some 169, op := _, type := _, pos := _, after := _, guard := none }) (by kernel_rfl) rfl (fun K hK => ?_)
                  have HCALL := Lib.hid (HK6.out _ wB hxc hrb)
                  go_wp2_with (go_at_call 35; refine HCALL.out.mono ?_)
                  rintro e wC ⟨rfl, xC⟩
                  go_simp
                  refine hK.out _ _ (.inr ⟨(hxc.trans xC).cell s0, (hxc.trans xC).cell s1, (hxc.trans xC).cell s2, (hxc.trans xC).cell s3⟩) ?_
                  clear hK K
                  try simp only [Act.put, List.setIfInBounds_toArray, List.set_cons_zero, List.set_cons_succ]
                  refine wpE_one (i := 9) (o := { dst := some 4, op := _, type := _, pos := _, after := _, guard := none }) (by kernel_rfl) rfl (fun K hK => ?_)
                  go_simp
                  refine hK.out _ _ (.inr ⟨(hxc.trans xC).cell s0, (hxc.trans xC).cell s1, (hxc.trans xC).cell s2, (hxc.trans xC).cell s3⟩) ?_
                  clear hK K
                  refine wpE_done (by kernel_rfl) ?_
                  have XF := Lib.hid (X5.out.trans (hxc.trans xC))
                  go_wp2_with fail
                  go_ret
                  exact ⟨rfl, XF.out⟩
                · go_simp
                  refine hK.out _ _ (.inr ⟨((((Ext.refl w5).drew).alloc (.cells #[] 3)).alloc (.cells #[.int .i64 n.tag] 3)).cell s0, ((((Ext.refl w5).drew).alloc (.cells #[] 3)).alloc (.cells #[.int .i64 n.tag] 3)).cell s1, ((((Ext.refl w5).drew).alloc (.cells #[] 3)).alloc (.cells #[.int .i64 n.tag] 3)).cell s2, ((((Ext.refl w5).drew).alloc (.cells #[] 3)).alloc (.cells #[.int .i64 n.tag] 3)).cell s3⟩) ?_
                  clear hK K
                  try simp only [Act.put, List.setIfInBounds_toArray, List.set_cons_zero, List.set_cons_succ]
                  refine wpE_one (i := 3) (o := { dst := some 164, op := _, type := _, pos := _, after := _, guard := none }) (by kernel_rfl) rfl (fun K hK => ?_)
                  obtain ⟨v1, wA, hrun, hra, hxa, hxb⟩ := app_up (p := some ⟨w5.heap.size, 0, none⟩) (W := (w5.drew.alloc (.cells #[] 3)).alloc (.cells #[.int .i64 n.tag] 3)) ((((Ext.refl w5).drew).alloc (.cells #[] 3)).alloc (.cells #[.int .i64 n.tag] 3)) (HUP5.out _ ((((Ext.refl w5).drew).alloc (.cells #[] 3)).alloc (.cells #[.int .i64 n.tag] 3))) (by omega) int_one
                  obtain ⟨a1, c1, rfl, _⟩ := hra.rd.len_of
                  have HRUN := Lib.hid hrun
                  refine step_append_run (by rfl) _ _ 64 (by rfl) (.slice (some ⟨w5.heap.size, 0, none⟩) 0 0) (.slice (some a) (m + 1) uc) (by rfl) (by rfl) (.slice a1 (m + 1) c1) wA HRUN.out ?_
                  refine hK.out _ _ (.inr ⟨(hxa).cell s0, (hxa).cell s1, (hxa).cell s2, (hxa).cell s3⟩) ?_
                  clear hK K
                  try simp only [Act.put, List.setIfInBounds_toArray, List.set_cons_zero, List.set_cons_succ]
                  refine wpE_one (i := 7) (o := { dst := some 168, op := _, type := _, pos := _, after := _, guard := none }) (by kernel_rfl) rfl (fun K hK => ?_)
                  obtain ⟨v2, wB, hrun2, hrb, hxc⟩ := app_tag (W := wA) (hxa) (hra) (g := w5.heap.size + 1) (z := n.tag) (hxb.cell (cellOf (b := w5.heap.size + 1) (by have h := heap_alloc_new (w5.drew.alloc (.cells #[] 3)) (.cells #[.int .i64 n.tag] 3); simpa using h) (i := 0) rfl)) (by omega)
                  obtain ⟨a2, c2, rfl, _⟩ := hrb.len_of
                  have HRUN2 := Lib.hid hrun2
                  refine step_append_run (by rfl) _ _ 64 (by rfl) (.slice a1 (m + 1) c1) (.slice (some ⟨w5.heap.size + 1, 0, none⟩) 1 1) (by rfl) (by rfl) (.slice a2 (m + 1 + 1) c2) wB HRUN2.out ?_
                  refine hK.out _ _ (.inr ⟨(hxc).cell s0, (hxc).cell s1, (hxc).cell s2, (hxc).cell s3⟩) ?_
                  clear hK K
                  try simp only [Act.put, List.setIfInBounds_toArray, List.set_cons_zero, List.set_cons_succ]
                  refine wpE_one (i := 8) (o := { dst := some 169, op := _, type := _, pos := _, after := _, guard := none }) (by kernel_rfl) rfl (fun K hK => ?_)
                  have HCALL := Lib.hid (HK6.out _ wB hxc hrb)
                  go_wp2_with (go_at_call 35; refine HCALL.out.mono ?_)
                  rintro e wC ⟨rfl, xC⟩
                  go_simp
                  refine hK.out _ _ (.inr ⟨(hxc.trans xC).cell s0, (hxc.trans xC).cell s1, (hxc.trans xC).cell s2, (hxc.trans xC).cell s3⟩) ?_
                  clear hK K
                  try simp only [Act.put, List.setIfInBounds_toArray, List.set_cons_zero, List.set_cons_succ]
                  refine wpE_one (i := 9) (o := { dst := some 4, op := _, type := _, pos := _, after := _, guard := none }) (by kernel_rfl) rfl (fun K hK => ?_)
                  go_simp
                  refine hK.out _ _ (.inr ⟨(hxc.trans xC).cell s0, (hxc.trans xC).cell s1, (hxc.trans xC).cell s2, (hxc.trans xC).cell s3⟩) ?_
                  clear hK K
                  refine wpE_done (by kernel_rfl) ?_
                  have XF := Lib.hid (X5.out.trans (hxc.trans xC))
                  go_wp2_with fail
                  go_ret
                  exact ⟨rfl, XF.out⟩
              · go_simp
                refine hK.out _ _ (.inr ⟨(((Ext.refl w5).drew).alloc (.cells #[.int .i64 n.tag] 3)).cell s0, (((Ext.refl w5).drew).alloc (.cells #[.int .i64 n.tag] 3)).cell s1, (((Ext.refl w5).drew).alloc (.cells #[.int .i64 n.tag] 3)).cell s2, (((Ext.refl w5).drew).alloc (.cells #[.int .i64 n.tag] 3)).cell s3⟩) ?_
                clear hK K
                try simp only [Act.put, List.setIfInBounds_toArray, List.set_cons_zero, List.set_cons_succ]
                refine wpE_one (i := 1) (o := { dst := some 162, op := _, type := _, pos := _, after := _, guard := none }) (by kernel_rfl) rfl (fun K hK => ?_)
                go_simp
                refine hK.out _ _ (.inr ⟨((((Ext.refl w5).drew).alloc (.cells #[.int .i64 n.tag] 3)).alloc (.cells #[] 3)).cell s0, ((((Ext.refl w5).drew).alloc (.cells #[.int .i64 n.tag] 3)).alloc (.cells #[] 3)).cell s1, ((((Ext.refl w5).drew).alloc (.cells #[.int .i64 n.tag] 3)).alloc (.cells #[] 3)).cell s2, ((((Ext.refl w5).drew).alloc (.cells #[.int .i64 n.tag] 3)).alloc (.cells #[] 3)).cell s3⟩) ?_
                clear hK K
                try simp only [Act.put, List.setIfInBounds_toArray, List.set_cons_zero, List.set_cons_succ]
                refine wpE_one (i := 3) (o := { dst := some 164, op := _, type := _, pos := _, after := _, guard := none }) (by kernel_rfl) rfl (fun K hK => ?_)
                obtain ⟨v1, wA, hrun, hra, hxa, hxb⟩ := app_up (p := some ⟨w5.heap.size + 1, 0, none⟩) (W := (w5.drew.alloc (.cells #[.int .i64 n.tag] 3)).alloc (.cells #[] 3)) ((((Ext.refl w5).drew).alloc (.cells #[.int .i64 n.tag] 3)).alloc (.cells #[] 3)) (HUP5.out _ ((((Ext.refl w5).drew).alloc (.cells #[.int .i64 n.tag] 3)).alloc (.cells #[] 3))) (by omega) int_one
                obtain ⟨a1, c1, rfl, _⟩ := hra.rd.len_of
                have HRUN := Lib.hid hrun
                refine step_append_run (by rfl) _ _ 64 (by rfl) (.slice (some ⟨w5.heap.size + 1, 0, none⟩) 0 0) (.slice (some a) (m + 1) uc) (by rfl) (by rfl) (.slice a1 (m + 1) c1) wA HRUN.out ?_
                refine hK.out _ _ (.inr ⟨(hxa).cell s0, (hxa).cell s1, (hxa).cell s2, (hxa).cell s3⟩) ?_
                clear hK K
                try simp only [Act.put, List.setIfInBounds_toArray, List.set_cons_zero, List.set_cons_succ]
                refine wpE_one (i := 7) (o := { dst := some 168, op := _, type := _, pos := _, after := _, guard := none }) (by kernel_rfl) rfl (fun K hK => ?_)
                obtain ⟨v2, wB, hrun2, hrb, hxc⟩ := app_tag (W := wA) (hxa) (hra) (g := w5.heap.size) (z := n.tag) (hxb.cell (((Ext.refl (w5.drew.alloc (.cells #[.int .i64 n.tag] 3))).alloc (.cells #[] 3)).cell (cellOf (b := w5.heap.size) (heap_alloc_new w5.drew (.cells #[.int .i64 n.tag] 3)) (i := 0) rfl))) (by omega)
                obtain ⟨a2, c2, rfl, _⟩ := hrb.len_of
                have HRUN2 := Lib.hid hrun2
                refine step_append_run (by rfl) _ _ 64 (by rfl) (.slice a1 (m + 1) c1) (.slice (some ⟨w5.heap.size, 0, none⟩) 1 1) (by rfl) (by rfl) (.slice a2 (m + 1 + 1) c2) wB HRUN2.out ?_
                refine hK.out _ _ (.inr ⟨(hxc).cell s0, (hxc).cell s1, (hxc).cell s2, (hxc).cell s3⟩) ?_
                clear hK K
                try simp only [Act.put, List.setIfInBounds_toArray, List.set_cons_zero, List.set_cons_succ]
                refine wpE_one (i := 8) (o := { dst := some 169, op := _, type := _, pos := _, after := _, guard := none }) (by kernel_rfl) rfl (fun K hK => ?_)
                have HCALL := Lib.hid (HK6.out _ wB hxc hrb)
                go_wp2_with (go_at_call 35; refine HCALL.out.mono ?_)
                rintro e wC ⟨rfl, xC⟩
                go_simp
                refine hK.out _ _ (.inr ⟨(hxc.trans xC).cell s0, (hxc.trans xC).cell s1, (hxc.trans xC).cell s2, (hxc.trans xC).cell s3⟩) ?_
                clear hK K
                try simp only [Act.put, List.setIfInBounds_toArray, List.set_cons_zero, List.set_cons_succ]
                refine wpE_one (i := 9) (o := { dst := some 4, op := _, type := _, pos := _, after := _, guard := none }) (by kernel_rfl) rfl (fun K hK => ?_)
                go_simp
                refine hK.out _ _ (.inr ⟨(hxc.trans xC).cell s0, (hxc.trans xC).cell s1, (hxc.trans xC).cell s2, (hxc.trans xC).cell s3⟩) ?_
                clear hK K
                refine wpE_done (by kernel_rfl) ?_
                have XF := Lib.hid (X5.out.trans (hxc.trans xC))
                go_wp2_with fail
                go_ret
                exact ⟨rfl, XF.out⟩
end Go.Proofs.YtdafdoodegpdhaaDoor
