/- what of ZP Z1 Z2 Z3 BA BB BC BD BE BF BG BH BI BJ BK BL BM BN BO BP BQ BR NA NC NB ND NE NF BS BT ZY BV BW BY Z4 CA CB CC CD TA TB TC TD TE TF TG TK TH TI is leant on -/
import Derived.Test.YtalaajbajgdglaaGreatDoorLBhd
set_option linter.unusedVariables false
set_option linter.unusedSimpArgs false
set_option maxRecDepth 1000000
set_option maxHeartbeats 8000000
namespace Go.Proofs.YtalaajbajgdglaaGreatDoor.We
open Go Go.RowKit Go.BigFrame
section
variable {P : Program} {ops : Array Oper} {Q : Exit → Act → World → Prop} {md : Region.Mode} {S : World → Prop} {n : Nat}
def wpE (P : Program) (md : Region.Mode) (ops : Array Oper) (Q : Exit → Act → World → Prop) (S : World → Prop) (n : Nat) : Nat → Array Bool → Act → World → Prop
  | 0, l, a, w => Region.ready md ops l = [] ∧ Q .normal a w
  | f + 1, l, a, w => (Region.ready md ops l = [] → Q .normal a w) ∧ ∀ i ∈ Region.ready md ops l, wpOp P ops Q i (fun a' w' => (i = n ∨ S w') ∧ wpE P md ops Q S n f (l.setIfInBounds i true) a' w') a w
theorem wpE_any : ∀ (f : Nat) (l : Array Bool) (a : Act) (w : World), wpE P md ops Q S n f l a w → wpAny P md ops Q f l a w := by
  intro f
  induction f with
  | zero => exact fun l a w h => h
  | succ f ih => exact fun l a w h => ⟨h.1, fun i hi => wpOp_mono (fun a' w' k => ih _ a' w' k.2) (h.2 i hi)⟩
def waits (md : Region.Mode) (ops : Array Oper) (n i : Nat) : Bool := match ops[n]? with
  | some o => o.after.toList.any fun e => Region.binds md e && e.on == i
  | none => true
theorem unlisted {l : Array Bool} {i : Nat} (h : l.getD i true = false) (k : l.getD i false = true) : False := by
  rcases Nat.lt_or_ge i l.size with hi | hi
  · simp [hi] at h k; rw [h] at k; cases k
  · simp [Array.getElem?_eq_none hi] at h
theorem ready_waits {l : Array Bool} {i j : Nat} (hi : i ∈ Region.ready md ops l) (hj : j ∈ Region.ready md ops l) (hw : waits md ops n i = true) : j ≠ n := by
  rintro rfl
  obtain ⟨_, o, ho, hall⟩ := mem_ready.1 hj
  unfold waits at hw
  rw [ho] at hw
  obtain ⟨e, he, hb⟩ := List.any_eq_true.1 hw
  simp only [Bool.and_eq_true, beq_iff_eq] at hb
  have h1 := hall e (Array.mem_toList_iff.1 he) hb.1
  rw [hb.2] at h1
  exact unlisted (mem_ready.1 hi).1 h1
theorem wpE_first {i : Nat} {o : Oper} {v : Value} (ho : ops[i]? = some o) (hs : Region.noSelect ops = true) (hw : waits md ops n i = true) (hQ : ∀ c a w, Q (.panic c) (a.put o.dst v) w → Q (.panic c) a w) :
    ∀ (f : Nat) (l : Array Bool) (a : Act) (w : World), (∀ (j : Nat) (oj : Oper), ops[j]? = some oj → j ≠ i → l.getD j true = false → (∀ e ∈ oj.after, Region.binds md e = true → e.on ≠ i) → o.apart ops oj = true) →
      i ∈ Region.ready md ops l → YieldsIf P ops S o v a → S w → wpE P md ops Q S n f (l.setIfInBounds i true) (a.put o.dst v) w → wpE P md ops Q S n (f + 1) l a w := by
  have hsel := Region.noSelect_spec hs
  intro f
  induction f with
  | zero =>
    intro l a w _ hr hy hS H
    refine ⟨fun h => (by rw [h] at hr; cases hr), fun j hj => ?_⟩
    rcases Classical.em (j = i) with rfl | hji
    · exact hy.wpOp ho hS ⟨.inr hS, H⟩
    · have h0 := ready_mono hj hji
      rw [H.1] at h0; cases h0
  | succ f ih =>
    intro l a w hfree hr hy hS H
    refine ⟨fun h => (by rw [h] at hr; cases hr), fun j hj => ?_⟩
    rcases Classical.em (j = i) with rfl | hji
    · exact hy.wpOp ho hS ⟨.inr hS, H⟩
    · obtain ⟨hun, oj, hoj, hall⟩ := mem_ready.1 hj
      have hno : ∀ e ∈ oj.after, Region.binds md e = true → e.on ≠ i := fun e he hb e2 => unlisted (mem_ready.1 hr).1 (e2 ▸ hall e he hb)
      have hjn := ready_waits hr hj hw
      have step := wpOp_putIf hoj (hfree j oj hoj hji hun hno) (fun cs b => hsel i o cs b ho) (fun cs b => hsel j oj cs b hoj) hQ hy (H.2 j (ready_mono hj hji))
      refine wpOp_mono (fun a' w' k => ?_) step
      have hS' : S w' := k.2.1.resolve_left hjn
      refine ⟨.inr hS', ih (l.setIfInBounds j true) a' w' (fun m om hm hmi hmu hmn => hfree m om hm hmi ?_ hmn) (ready_mono hr (Ne.symm hji)) k.1 hS' ?_⟩
      · rcases Classical.em (j = m) with rfl | hjm
        · exact hun
        · rw [getD_set_ne true hjm] at hmu; exact hmu
      · rw [Array.setIfInBounds_comm _ _ hji]; exact k.2.2
theorem wpE_take {i : Nat} {o : Oper} {v : Value} {f : Nat} {l : Array Bool} {a : Act} {w : World} (ho : ops[i]? = some o) (hs : Region.noSelect ops = true) (hf : Region.free md ops l i = true) (hr : (Region.ready md ops l).contains i = true) (hw : waits md ops n i = true)
    (hQ : ∀ c a w, Q (.panic c) (a.put o.dst v) w → Q (.panic c) a w) (hy : YieldsIf P ops S o v a) (hS : S w) (h : wpE P md ops Q S n f (l.setIfInBounds i true) (a.put o.dst v) w) : wpE P md ops Q S n (f + 1) l a w :=
  wpE_first ho hs hw hQ f l a w (Region.free_spec ho hf) (by simpa using hr) hy hS h
theorem wpE_one {i : Nat} {o : Oper} {f : Nat} {l : Array Bool} {a : Act} {w : World} (hr : Region.ready md ops l = [i]) (ho : ops[i]? = some o)
    (h : ∀ K : Act → World → Prop, Shut (∀ a w, (i = n ∨ S w) → wpE P md ops Q S n f (l.setIfInBounds i true) a w → K a w) → if Region.wanted o (yielded ops a.tmps) = true then Oper.wp P o a w K Q else K (a.put o.dst undef) w) : wpE P md ops Q S n (f + 1) l a w := by
  refine ⟨fun h => (by rw [hr] at h; cases h), fun j hj => ?_⟩
  rw [hr] at hj
  obtain rfl : j = i := by simpa using hj
  exact wpOp_step ho fun K hK => h K fun a w h1 h2 => hK a w ⟨h1, h2⟩
theorem wpE_tk {f : Nat} {l : Array Bool} {a : Act} {w : World} {op : _} {ty : _} {pos : _} {af : _} (i s : Nat) (v : Value) (ho : ops[i]? = some { dst := some s, op := op, type := ty, pos := pos, after := af, guard := none }) (hy : YieldsIf P ops S { dst := some s, op := op, type := ty, pos := pos, after := af, guard := none } v a) (hS : S w) (h : wpE P md ops Q S n f (l.setIfInBounds i true) (a.put (some s) v) w)
    (hs : Region.noSelect ops = true := by kernel_rfl) (hf : Region.free md ops l i = true := by kernel_rfl) (hr : (Region.ready md ops l).contains i = true := by kernel_rfl) (hw : waits md ops n i = true := by kernel_rfl) (hQ : ∀ c a w, Q (.panic c) (a.put (some s) v) w → Q (.panic c) a w := by exact fun _ _ _ h => h) : wpE P md ops Q S n (f + 1) l a w :=
  wpE_take ho hs hf hr hw hQ hy hS h
theorem wpE_on {f : Nat} {l : Array Bool} {a : Act} {w : World} {op : _} {ty : _} {pos : _} {af : _} (i : Nat) (dst : Option Nat) (ho : ops[i]? = some { dst := dst, op := op, type := ty, pos := pos, after := af, guard := none })
    (h : ∀ K : Act → World → Prop, Shut (∀ a w, (i = n ∨ S w) → wpE P md ops Q S n f (l.setIfInBounds i true) a w → K a w) → if Region.wanted ({ dst := dst, op := op, type := ty, pos := pos, after := af, guard := none } : Oper) (yielded ops a.tmps) = true then Oper.wp P { dst := dst, op := op, type := ty, pos := pos, after := af, guard := none } a w K Q else K (a.put dst undef) w)
    (hr : Region.ready md ops l = [i] := by kernel_rfl) : wpE P md ops Q S n (f + 1) l a w :=
  wpE_one hr ho h
theorem wpE_done {f : Nat} {l : Array Bool} {a : Act} {w : World} (hr : Region.ready md ops l = []) (h : Q .normal a w) : wpE P md ops Q S n f l a w := by
  cases f with
  | zero => exact ⟨hr, h⟩
  | succ f => exact ⟨fun _ => h, fun i hi => by rw [hr] at hi; cases hi⟩
theorem wp_region_E {id : Nat} {a : Act} {w : World} (hm : P.follows .mixedOrders = true) (h : wpE P .any ops Q S n ops.size (Array.replicate ops.size false) a w.drew) : (Code.region id ops true).wp P Q a w :=
  wp_region_any hm (wpE_any _ _ _ _ h)
end
section
variable {P : Program} {ops : Array Oper} {Q : Exit → Act → World → Prop} {md : Region.Mode} {S : World → Prop} {n : Nat}
theorem wpE_two {i j : Nat} {oi oj : Oper} {f : Nat} {l : Array Bool} {a : Act} {w : World} (hr : Region.ready md ops l = [i, j]) (hi : ops[i]? = some oi) (hj : ops[j]? = some oj)
    (h1 : ∀ K : Act → World → Prop, Shut (∀ a w, (i = n ∨ S w) → wpE P md ops Q S n f (l.setIfInBounds i true) a w → K a w) → if Region.wanted oi (yielded ops a.tmps) = true then Oper.wp P oi a w K Q else K (a.put oi.dst undef) w)
    (h2 : ∀ K : Act → World → Prop, Shut (∀ a w, (j = n ∨ S w) → wpE P md ops Q S n f (l.setIfInBounds j true) a w → K a w) → if Region.wanted oj (yielded ops a.tmps) = true then Oper.wp P oj a w K Q else K (a.put oj.dst undef) w) : wpE P md ops Q S n (f + 1) l a w := by
  refine ⟨fun h => (by rw [hr] at h; cases h), fun m hm => ?_⟩
  rw [hr] at hm
  have hm' : m = i ∨ m = j := by simpa using hm
  rcases hm' with rfl | rfl
  · exact wpOp_step hi fun K hK => h1 K fun a w h1 h2 => hK a w ⟨h1, h2⟩
  · exact wpOp_step hj fun K hK => h2 K fun a w h1 h2 => hK a w ⟨h1, h2⟩
end
theorem step_append_run {P : Program} {ops : Array Oper} {o : Oper} {a : Act} {w : World} {K : Act → World → Prop} {Q : Exit → Act → World → Prop} {E : Prop}
    (hg : o.guard = none) (s x : Operand) (t : TypeId) (hop : o.op = Op.call { callee := Callee.builtin Builtin.append, args := #[s, x], argTypes := #[t, t] })
    (v u : Value) (hs : a.eval s = v) (hx : a.eval x = u) (v' : Value) (w' : World) (hr : (Builtin.append_ #[t, t] o.type #[v, u]).run P w = .ok v' w') (hK : K (a.put o.dst v') w') :
    if Region.wanted o (yielded ops a.tmps) = true then Oper.wp P o a w K Q else E := by
  have hw : Region.wanted o (yielded ops a.tmps) = true := by simp [Region.wanted, hg]
  rw [if_pos hw]
  unfold Oper.wp
  simp [execOp, hop, resolve, invoke, builtin, hs, hx, hr, Result.andThen]
  exact hK
end Go.Proofs.YtalaajbajgdglaaGreatDoor.We
namespace Go.Proofs.YtalaajbajgdglaaGreatDoor
open Go Go.RowKit Go.BigFrame We
def PartOk (p : Part) : Prop := p.1.length ≤ 1000000 ∧ p.2.length ≤ 1000000
theorem small_bs (l : List UInt8) (h : l.length ≤ 1000000) (w : World) : Calls Tryz.prog 127 #[.string (bs l)] w (RVal (.string (bs (l.map smallC))) w) := by
  have := small_any (bs l) (by rw [bs_size]; omega) w
  rw [bs_data] at this
  exact this
theorem owned1_any (p : Part) (nm : ByteArray) (b : Nat) (w : World) (hp : PartOk p) (hb : w.cell? ⟨b, 0, none⟩ = some (.string nm)) :
    Calls Tryz.prog 136 #[.agg #[.string (bs p.1), .string (bs p.2)], .pointer (some ⟨b, 0, none⟩)] w (RBool (decide (bs (p.1.map smallC) = nm)) w) := by
  have x := (Ext.refl w).alloc (.cells #[.string (bs p.1), .string (bs p.2)] 166)
  have bb := heap_alloc_new w (.cells #[.string (bs p.1), .string (bs p.2)] 166)
  have HSM := qh (fun W => small_bs p.1 hp.1 W)
  obtain ⟨sm, hsm⟩ : ∃ s, bs (p.1.map smallC) = s := ⟨_, rfl⟩
  rw [hsm] at HSM ⊢
  obtain ⟨n1, hn1⟩ : ∃ s, bs p.1 = s := ⟨_, rfl⟩
  rw [hn1] at x bb HSM ⊢
  obtain ⟨n2, hn2⟩ : ∃ s, bs p.2 = s := ⟨_, rfl⟩
  rw [hn2] at x bb ⊢
  clear hsm hn1 hn2
  go_enter Tryz.func136, Tryz.ntmps136
  go_upto_region 1 with fail
  obtain ⟨w1, hw1⟩ : ∃ w1 : World, w1 = w.alloc (.cells #[.string n1, .string n2] 166) := ⟨_, rfl⟩
  rw [← hw1] at x bb ⊢
  clear hw1
  have c0 : ∀ u : ExtOf w1, u.val.cell? ⟨w.heap.size, 0, none⟩ = some (.string n1) := fun u => u.ext.cell (cellOf bb rfl)
  have c1 : ∀ u : ExtOf w1, u.val.cell? ⟨b, 0, none⟩ = some (.string nm) := fun u => u.ext.cell (x.cell hb)
  have X := qh x
  clear hb bb x
  refine wp_region_ext (by kernel_rfl) (by kernel_rfl) ?_
  repeat (go_big_quiet_step ((go_at_call 127; exact inExt (HSM.out _))))
  refine wpQuiet_nil ?_
  rintro _ ⟨u, rfl⟩
  go_wp2_with fail
  go_ret
  exact ⟨by simp [str_eq], X.out.trans u.ext⟩
def FoundQ (b : Bool) (w : World) (e : Ending) (w' : World) : Prop := ∃ z : Int, e = .returned (.int .i64 z) ∧ decide (0 ≤ z) = b ∧ Ext w w'
theorem pb_cells {l : List Part} {k : Nat} {p : Part} (h : l[k]? = some p) : (l.map pb)[k]? = some (bs p.1, bs p.2) := by rw [List.getElem?_map, h]; rfl
theorem indexP_any (l : List Part) (v : Value) (nm : ByteArray) (b : Nat) (w : World) (hr : RowRd w 2 v l.length (attrCells (l.map pb))) (hl : l.length ≤ 100000000000000) (hok : ∀ p ∈ l, PartOk p) (hb : w.cell? ⟨b, 0, none⟩ = some (.string nm)) :
    Calls Tryz.prog 165 #[v, .func (.func 136) #[] #[.pointer (some ⟨b, 0, none⟩)]] w (FoundQ (l.any fun p => decide (bs (p.1.map smallC) = nm)) w) := by
  obtain ⟨ao, cap, rfl, hcap⟩ := hr.len_of
  have HR := qh hr
  have HBC := qh hb
  have HOK := qh hok
  clear hr hb hcap hok
  go_enter Tryz.func165, Tryz.ntmps165
  go_wp2_with fail
  go_loopw [5, 8] (fun _ n wr => ∃ k : Nat, k ≤ l.length ∧ n = .int .i64 k ∧ Ext w wr ∧ ∀ (j : Nat) x, j < k → l[j]? = some x → bs (x.1.map smallC) ≠ nm) (fun _ n _ => l.length - (intOf n).toNat)
  case atStart => exact ⟨0, Nat.zero_le _, rfl, Ext.refl _, fun j x hj => by omega⟩
  case round =>
    obtain ⟨k, hk, rfl, xr, hno⟩ := hrel
    have HO := qh hno
    have XR := qh xr
    clear hno
    by_cases hlt : k < l.length
    · obtain ⟨p, hp⟩ : ∃ p, l[k]? = some p := ⟨l[k], by simp [hlt]⟩
      cases ao with
      | none =>
        obtain ⟨_, ao', cap', e, _, h0, _⟩ := HR.out
        cases e
        exact absurd (h0 rfl).1 (by omega)
      | some a =>
        obtain ⟨bk, off, sp⟩ := a
        have hrr : RowRd wr 2 (.slice (some ⟨bk, off, sp⟩) l.length cap) l.length (attrCells (l.map pb)) := HR.out.ext xr
        obtain ⟨q0, q1⟩ := hrr.attr (pb_cells hp)
        clear hrr
        rw [add_later _ _ _ (by decide)] at q1
        have HP := qh hp
        have HC := qh (owned1_any p nm b wr (HOK.out p (List.mem_of_getElem? hp)) (xr.cell HBC.out))
        have HANY := qh (fun (he : bs (p.1.map smallC) = nm) => (List.any_eq_true.2 ⟨p, List.mem_of_getElem? hp, decide_eq_true he⟩ : l.any (fun p => decide (bs (p.1.map smallC) = nm)) = true))
        clear hp xr
        by_cases he : bs (p.1.map smallC) = nm
        · rw [decide_eq_true he] at HC
          have HE := qh (HANY.out he)
          clear he
          go_wp2_with (go_at_call 136; refine HC.out.mono ?_; rintro e w' ⟨rfl, x1⟩)
          have X1 := qh (XR.out.trans x1)
          clear x1 q0 q1
          go_ret
          exact ⟨(k : Int), rfl, by rw [HE.out]; exact decide_eq_true (by omega), X1.out⟩
        · rw [decide_eq_false he] at HC
          have HE := qh he
          clear he
          go_wp2_with (go_at_call 136; refine HC.out.mono ?_; rintro e w' ⟨rfl, x1⟩)
          have X1 := qh (XR.out.trans x1)
          clear x1 q0 q1
          go_roundw
          case rel =>
            refine ⟨k + 1, by omega, by go_num, X1.out, fun j x hj hx => ?_⟩
            rcases Nat.lt_or_ge j k with h1 | h1
            · exact HO.out j x h1 hx
            · obtain rfl : j = k := by omega
              rw [HP.out] at hx
              cases hx
              exact HE.out
          case measure => simp [intOf]; omega
    · clear xr
      go_wp2_with fail
      go_ret
      refine ⟨-1, rfl, ?_, XR.out⟩
      have hf : l.any (fun p => decide (bs (p.1.map smallC) = nm)) = false := by
        rw [List.any_eq_false]
        intro x hx
        obtain ⟨j, hj⟩ := List.getElem?_of_mem hx
        rw [decide_eq_true_eq]
        exact HO.out j x (by have := (List.getElem?_eq_some_iff.1 hj).1; omega) hj
      rw [hf]
      rfl
theorem containsP_any (l : List Part) (v : Value) (nm : ByteArray) (b : Nat) (w : World) (hr : RowRd w 2 v l.length (attrCells (l.map pb))) (hl : l.length ≤ 100000000000000) (hok : ∀ p ∈ l, PartOk p) (hb : w.cell? ⟨b, 0, none⟩ = some (.string nm)) :
    Calls Tryz.prog 135 #[v, .func (.func 136) #[] #[.pointer (some ⟨b, 0, none⟩)]] w (RBool (l.any fun p => decide (bs (p.1.map smallC) = nm)) w) := by
  have HC := qh (indexP_any l v nm b w hr hl hok hb)
  clear hr hb
  go_enter Tryz.func135, Tryz.ntmps135
  go_wp2_with (go_at_call 165; refine HC.out.mono ?_)
  rintro e w1 ⟨z, rfl, hz, x1⟩
  have HZ := qh hz
  clear hz
  go_wp2_with fail
  go_ret
  exact ⟨by rw [← HZ.out]; rfl, x1⟩
theorem RowRd.front {w : World} {l : List AttrB} {a : Option Addr} {n cap : Nat} (h : RowRd w 2 (.slice a n cap) l.length (attrCells l)) (k : Nat) (hk : k ≤ l.length) : RowRd w 2 (.slice a k cap) (l.take k).length (attrCells (l.take k)) := by
  obtain ⟨h1, ao, cap', e, h2, h3, h4⟩ := h
  cases e
  have hlk : (l.take k).length = k := by rw [List.length_take]; omega
  refine ⟨attrCells_len _, a, cap, by rw [hlk], by omega, fun hn => ?_, fun a' ha j x hx => h4 a' ha j x ?_⟩
  · have := h3 hn; omega
  · have e : attrCells l = attrCells (l.take k) ++ attrCells (l.drop k) := by
      have : ∀ (x y : List AttrB), attrCells (x ++ y) = attrCells x ++ attrCells y := by
        intro x y
        induction x with
        | nil => rfl
        | cons b x ih => obtain ⟨p, q⟩ := b; simp [attrCells, ih]
      rw [← this, List.take_append_drop]
    rw [e, List.getElem?_append_left (List.getElem?_eq_some_iff.1 hx).1]
    exact hx
theorem ownedF_snoc (seen : List (List UInt8)) (l : List Part) (n v : List UInt8) : ownedF seen (l ++ [(n, v)]) = ownedF seen l ++ ownedF (seen ++ l.map fun p => p.1.map smallC) [(n, v)] := by
  induction l generalizing seen with
  | nil => simp [ownedF]
  | cons p l ih =>
    obtain ⟨m, u⟩ := p
    rw [List.cons_append, ownedF, ih]
    conv => rhs; rw [ownedF]
    simp [List.append_assoc]
theorem owned_next {l : List Part} {k : Nat} {p : Part} (h : l[k]? = some p) : ownedL (l.take (k + 1)) = ownedL (l.take k) ++
    if nameOk (bs (p.1.map smallC)) && valueOk (bs (decT p.2)) && !((l.take k).any fun q => decide (bs (q.1.map smallC) = bs (p.1.map smallC))) then [(bs (p.1.map smallC), bs (decT p.2))] else [] := by
  obtain ⟨hk, e⟩ := List.getElem?_eq_some_iff.1 h
  obtain ⟨n, v⟩ := p
  have hc : ((l.take k).any fun q => decide (bs (q.1.map smallC) = bs (n.map smallC))) = ((l.take k).map fun q => q.1.map smallC).contains (n.map smallC) := by
    rw [Bool.eq_iff_iff, List.any_eq_true, List.contains_iff_mem, List.mem_map]
    constructor
    · rintro ⟨q, hq, hd⟩; exact ⟨q, hq, bs_inj.1 (of_decide_eq_true hd)⟩
    · rintro ⟨q, hq, hd⟩; exact ⟨q, hq, decide_eq_true (bs_inj.2 hd)⟩
  dsimp only
  rw [hc]
  unfold ownedL
  rw [List.take_succ_eq_append_getElem hk, e, ownedF_snoc, List.nil_append, ownedF, ownedF, List.append_nil]
def ROwned (l : List Part) (w : World) (e : Ending) (w' : World) : Prop := ∃ ov, e = .returned ov ∧ Ext w w' ∧ RowP w' (fun g => w.heap.size ≤ g) 104 2 ov (ownedL l).length (attrCells (ownedL l))
theorem owned_any (l : List Part) (v : Value) (w : World) (hr : RowRd w 2 v l.length (attrCells (l.map pb))) (hl : l.length ≤ 1000000) (hok : ∀ p ∈ l, PartOk p) (hlw : LW w) :
    Calls Tryz.prog 91 #[v] w (ROwned l w) := by
  obtain ⟨ao, cap, rfl, hcap⟩ := hr.len_of
  have HR := qh hr
  have HOK := qh hok
  have HL := qh hlw
  clear hr hok hlw
  go_enter Tryz.func91, Tryz.ntmps91
  go_wp2_with fail
  go_loopw [3, 4, 5, 6, 7, 8, 11] (fun ov _ _ _ _ _ n wr => ∃ k : Nat, k ≤ l.length ∧ n = .int .i64 k ∧ Ext w wr ∧ RowP wr (fun g => w.heap.size ≤ g) 104 2 ov (ownedL (l.take k)).length (attrCells (ownedL (l.take k)))) (fun _ _ _ _ _ _ n _ => l.length - (intOf n).toNat)
  case atStart => exact ⟨0, Nat.zero_le _, rfl, Ext.refl _, ⟨rfl, .inl ⟨rfl, none, rfl⟩⟩⟩
  case round =>
    obtain ⟨k, hk, rfl, xr, hout⟩ := hrel
    have HOUT := qh hout
    have XR := qh xr
    obtain ⟨oa, ocap, rfl, _⟩ := hout.rd.len_of
    clear hout
    by_cases hlt : k < l.length
    · obtain ⟨p, hp⟩ : ∃ p, l[k]? = some p := ⟨l[k], by simp [hlt]⟩
      cases ao with
      | none =>
        obtain ⟨_, ao', cap', e, _, h0, _⟩ := HR.out
        cases e
        exact absurd (h0 rfl).1 (by omega)
      | some a =>
        obtain ⟨bk, off, sp⟩ := a
        have hrr : RowRd wr 2 (.slice (some ⟨bk, off, sp⟩) l.length cap) l.length (attrCells (l.map pb)) := HR.out.ext xr
        obtain ⟨q0, q1⟩ := hrr.attr (pb_cells hp)
        clear hrr
        rw [add_later _ _ _ (by decide)] at q1
        have HP := qh hp
        have hpo := HOK.out p (List.mem_of_getElem? hp)
        have HPO := qh hpo
        have xp := (Ext.refl wr).alloc (.cells #[.string (bs p.1), .string (bs p.2)] 166)
        have hbp := heap_alloc_new wr (.cells #[.string (bs p.1), .string (bs p.2)] 166)
        clear hp xr hpo
        go_upto_region 5 with fail
        obtain ⟨wp, hwp⟩ : ∃ wp : World, wp = wr.alloc (.cells #[.string (bs p.1), .string (bs p.2)] 166) := ⟨_, rfl⟩
        rw [← hwp] at xp hbp ⊢
        clear hwp
        have c0 := cellOf hbp (i := 0) (v := .string (bs p.1)) rfl
        have c1 := cellOf hbp (i := 1) (v := .string (bs p.2)) rfl
        have C0 := qh c0
        have C1 := qh c1
        have HSM := qh (fun W => small_bs p.1 HPO.out.1 W)
        have hlwp := (HL.out.ext XR.out).ext xp
        have HDE := qh (fun W (x : Ext wp W) => (Decode_any (bs p.2) (by rw [bs_size]; have := HPO.out.2; omega) W (hlwp.ext x) : Calls Tryz.prog 55 #[.string (bs p.2)] W (RVal (.string (bs (decT p.2))) W)))
        have XP := qh (XR.out.trans xp)
        have XPW := qh xp
        have HNX := qh (owned_next HP.out)
        obtain ⟨b1, hb1⟩ : ∃ b, nameOk (bs (p.1.map smallC)) = b := ⟨_, rfl⟩
        obtain ⟨b2, hb2⟩ : ∃ b, valueOk (bs (decT p.2)) = b := ⟨_, rfl⟩
        obtain ⟨b3, hb3⟩ : ∃ b, ((l.take k).any fun q => decide (bs (q.1.map smallC) = bs (p.1.map smallC))) = b := ⟨_, rfl⟩
        have HNA := qh (fun W => (hb1 ▸ AName_any (bs (p.1.map smallC)) W : Calls Tryz.prog 137 #[.string (bs (p.1.map smallC))] W (RBool b1 W)))
        have HVA := qh (fun W hT => (hb2 ▸ AValue_any (bs (decT p.2)) W hT : Calls Tryz.prog 138 #[.string (bs (decT p.2))] W (RBool b2 W)))
        have HSE := qh hb3
        rw [hb1, hb2, hb3] at HNX
        clear hb1 hb2 hb3
        clear q0 q1 hbp xp hlwp c0 c1
        refine wp_region_E (S := fun w' => Ext wp w') (n := 99) (by kernel_rfl) ?_
        have hS : Ext wp wp.drew := (Ext.refl wp).drew
        show wpE _ _ _ _ _ 99 9 (Array.replicate 9 false) _ _
        refine wpE_tk 0 16 (.pointer (some ⟨wr.heap.size, 0, none⟩)) rfl (.inl ⟨by rfl, fun w' hSw => ?_⟩) hS ?_
        · (have s1 := Ext.cell hSw C0.out; have s2 := Ext.cell hSw C1.out; clear hS; go_simp)
        try simp only [Act.put, zA, zB, zC]
        refine wpE_tk 1 17 (.string (bs p.1)) rfl (.inl ⟨by rfl, fun w' hSw => ?_⟩) hS ?_
        · (have s1 := Ext.cell hSw C0.out; have s2 := Ext.cell hSw C1.out; clear hS; go_simp)
        try simp only [Act.put, zA, zB, zC]
        refine wpE_tk 3 19 (.pointer (some ⟨wr.heap.size, 1, none⟩)) rfl (.inl ⟨by rfl, fun w' hSw => ?_⟩) hS ?_
        · (have s1 := Ext.cell hSw C0.out; have s2 := Ext.cell hSw C1.out; clear hS; go_simp)
        try simp only [Act.put, zA, zB, zC]
        refine wpE_tk 4 20 (.string (bs p.2)) rfl (.inl ⟨by rfl, fun w' hSw => ?_⟩) hS ?_
        · (have s1 := Ext.cell hSw C0.out; have s2 := Ext.cell hSw C1.out; clear hS; go_simp)
        try simp only [Act.put, zA, zB, zC]
        obtain ⟨wd, hwd⟩ : ∃ wd : World, wd = wp.drew := ⟨_, rfl⟩
        rw [← hwd] at hS ⊢
        have ewd := hS
        clear hwd hS
        refine wpE_two (i := 2) (j := 6) (oi := { dst := some 18, op := _, type := _, pos := _, after := _, guard := none }) (oj := { dst := some 6, op := _, type := _, pos := _, after := _, guard := none }) (by kernel_rfl) rfl rfl (fun K hK => ?_) (fun K hK => ?_)
        · go_simp
          go_at_call 127
          refine (HSM.out _).mono ?_
          rintro e w2 ⟨rfl, xw2⟩
          have ew2 := Ext.trans (b := wd) ewd xw2
          clear xw2
          refine hK.out _ _ (.inr ew2) ?_
          clear hK K
          try simp only [Act.put, zA, zB, zC]
          refine wpE_two (i := 5) (j := 6) (oi := { dst := some 21, op := _, type := _, pos := _, after := _, guard := none }) (oj := { dst := some 6, op := _, type := _, pos := _, after := _, guard := none }) (by kernel_rfl) rfl rfl (fun K hK => ?_) (fun K hK => ?_)
          · go_simp
            go_at_call 55
            refine (HDE.out _ ew2).mono ?_
            rintro e w3 ⟨rfl, xw3⟩
            have ew3 := Ext.trans (b := w2) ew2 xw3
            clear xw3
            refine hK.out _ _ (.inr ew3) ?_
            clear hK K
            try simp only [Act.put, zA, zB, zC]
            refine wpE_on 6 (some 6) rfl (fun K hK => ?_)
            go_simp
            have ew4 := Ext.alloc ew3 (.cells #[.string ⟨#[]⟩] 9)
            have hbn := heap_alloc_new w3 (.cells #[.string ⟨#[]⟩] 9)
            have hbz : wp.heap.size ≤ w3.heap.size := ew3.size
            obtain ⟨bn, hbn1⟩ : ∃ b, w3.heap.size = b := ⟨_, rfl⟩
            rw [hbn1] at hbn hbz ⊢
            obtain ⟨w4, hw4⟩ : ∃ w' : World, w' = w3.alloc (.cells #[.string ⟨#[]⟩] 9) := ⟨_, rfl⟩
            rw [← hw4] at ew4 hbn ⊢
            clear hw4 hbn1
            refine hK.out _ _ (.inr ew4) ?_
            clear hK K
            try simp only [Act.put, zA, zB, zC]
            have hbnw4 := hbn
            clear hbn
            have cn := cellOf hbnw4 (i := 0) rfl
            have fn := freeOf hbnw4 0
            refine wpE_on 7 (none) rfl (fun K hK => ?_)
            go_simp
            have eS := Ext.setCell ew4 (p := ⟨bn, 0, none⟩) hbz (.string (bs (p.1.map smallC)))
            have hbs := heap_setCell_same (i := 0) hbnw4 (.string (bs (p.1.map smallC)))
            have cS := cellOf hbs (i := 0) (v := .string (bs (p.1.map smallC))) rfl
            refine hK.out _ _ (.inr eS) ?_
            clear hK K
            obtain ⟨w5, hw5⟩ : ∃ w' : World, w' = w4.setCell ⟨bn, 0, none⟩ (.string (bs (p.1.map smallC))) := ⟨_, rfl⟩
            rw [← hw5] at eS cS ⊢
            clear hw5 cn fn hbs hbnw4
            refine wpE_on 8 (some 7) rfl (fun K hK => ?_)
            go_simp
            refine hK.out _ _ (.inr eS) ?_
            clear hK K
            try simp only [Act.put, zA, zB, zC]
            refine wpE_done (by kernel_rfl) ?_
            have CS := qh cS
            have ES := qh eS
            have XS := qh (XP.out.trans eS)
            clear eS cS ew4 hbz
            have hfr : RowRd w5 2 (.slice (some ⟨bk, off, sp⟩) k cap) (l.take k).length (attrCells ((l.take k).map pb)) := by
              have h := RowRd.front (l := l.map pb) (a := some ⟨bk, off, sp⟩) (n := l.length) (cap := cap) (by rw [List.length_map]; exact HR.out.ext XS.out) k (by rw [List.length_map]; omega)
              rw [← List.map_take, List.length_map] at h
              exact h
            have hcs := CS.out
            have HCO := qh (containsP_any (l.take k) (.slice (some ⟨bk, off, sp⟩) k cap) (bs (p.1.map smallC)) bn w5 hfr (by rw [List.length_take]; omega) (fun q hq => HOK.out q (List.mem_of_mem_take hq)) CS.out)
            rw [HSE.out] at HCO
            have e0 : (0 : Int) ≤ (k : Int) := by omega
            have e1 : (k : Int) ≤ (cap : Int) := by omega
            have hmf : ∀ (fn : Fn) (first cap : Array Value) (w : World), (Instr.makeFunc fn first cap).run Tryz.prog w = .ok (.func fn first cap) w := fun _ _ _ _ => rfl
            clear hfr hcs
            go_wp2_with (go_at_call 135; refine HCO.out.mono ?_)
            rintro e w6 ⟨rfl, x6⟩
            have cs6 := x6.cell CS.out
            have X6 := qh x6
            have CS6 := qh cs6
            clear x6
            cases b1 with
            | false =>
              go_wp2_with (go_at_call 137; refine (HNA.out _).mono ?_)
              rintro e w7 ⟨rfl, x7⟩
              have XN := qh ((XS.out.trans X6.out).trans x7)
              have HROWN : Hid (RowP w7 (fun g => w.heap.size ≤ g) 104 2 (.slice oa (ownedL (l.take k)).length ocap) (ownedL (l.take k) ++ []).length (attrCells (ownedL (l.take k) ++ []))) := qh (by rw [List.append_nil]; exact (((HOUT.out.ext XPW.out).ext ES.out).ext X6.out).ext x7)
              clear x7 cs6
              go_wp2_with fail
              go_roundw
              case rel => exact ⟨k + 1, by omega, by go_num, XN.out, by rw [HNX.out]; exact HROWN.out⟩
              case measure => simp [intOf]; omega
            | true =>
              go_wp2_with (go_at_call 137; refine (HNA.out _).mono ?_)
              rintro e w7 ⟨rfl, x7⟩
              have X7 := qh (X6.out.trans x7)
              have CS7 := qh (x7.cell cs6)
              clear x7 cs6
              have HVB := qh (HVA.out w7 ((HL.out.ext XS.out).ext X7.out).tabs)
              cases b2 with
              | false =>
                go_wp2_with (go_at_call 138; refine HVB.out.mono ?_)
                rintro e w8 ⟨rfl, x8⟩
                have XN := qh ((XS.out.trans X7.out).trans x8)
                have HROWN : Hid (RowP w8 (fun g => w.heap.size ≤ g) 104 2 (.slice oa (ownedL (l.take k)).length ocap) (ownedL (l.take k) ++ []).length (attrCells (ownedL (l.take k) ++ []))) := qh (by rw [List.append_nil]; exact (((HOUT.out.ext XPW.out).ext ES.out).ext X7.out).ext x8)
                clear x8
                go_wp2_with fail
                go_roundw
                case rel => exact ⟨k + 1, by omega, by go_num, XN.out, by rw [HNX.out]; exact HROWN.out⟩
                case measure => simp [intOf]; omega
              | true =>
                go_wp2_with (go_at_call 138; refine HVB.out.mono ?_)
                rintro e w8 ⟨rfl, x8⟩
                have X8 := qh (X7.out.trans x8)
                have cs8 := x8.cell CS7.out
                clear x8
                cases b3 with
                | true =>
                  have XN := qh (XS.out.trans X8.out)
                  have HROWN : Hid (RowP w8 (fun g => w.heap.size ≤ g) 104 2 (.slice oa (ownedL (l.take k)).length ocap) (ownedL (l.take k) ++ []).length (attrCells (ownedL (l.take k) ++ []))) := qh (by rw [List.append_nil]; exact ((HOUT.out.ext XPW.out).ext ES.out).ext X8.out)
                  clear cs8
                  go_wp2_with fail
                  go_roundw
                  case rel => exact ⟨k + 1, by omega, by go_num, XN.out, by rw [HNX.out]; exact HROWN.out⟩
                  case measure => simp [intOf]; omega
                | false =>
                  have XN := qh (XS.out.trans X8.out)
                  obtain ⟨i0, hi, hz0, hz1, hz2⟩ := info_parts infoA
                  have hxa := (Ext.refl w8).alloc (.cells #[.string (bs (p.1.map smallC)), .string (bs (decT p.2))] 104)
                  have hrA := (((HOUT.out.ext XPW.out).ext ES.out).ext X8.out).ext hxa
                  have hna := heap_alloc_new w8 (.cells #[.string (bs (p.1.map smallC)), .string (bs (decT p.2))] 104)
                  have hlen := ownedF_len (l.take k) []
                  have hlt2 : (l.take k).length ≤ 1000000 := by rw [List.length_take]; omega
                  have hlen2 : (ownedL (l.take k)).length ≤ 1000000 := Nat.le_trans hlen hlt2
                  obtain ⟨v', wB, row, hrunB, hrB, hgB, hrowB⟩ := run_append_row (P := Tryz.prog) (w8.alloc (.cells #[.string (bs (p.1.map smallC)), .string (bs (decT p.2))] 104)) 23 23 104 i0 _ 2 32 Tryz.underlying23 hi hz0 hz1 hz2 (by kernel_rfl) (by decide)
                    hrA ⟨w8.heap.size, 0, none⟩ 1 1 [.string (bs (p.1.map smallC)), .string (bs (decT p.2))] rfl (by
                      intro j u hj
                      rw [Addr.add_lit, Nat.zero_add]
                      exact cellOf hna (by simpa using hj)) (by intro u hu; simp at hu; rcases hu with rfl | rfl <;> rfl) (by decide) (by unfold maxLen; omega) (by omega)
                  have XB := qh ((XN.out.trans hxa).grown hgB (fun z hz => hrowB z hz))
                  obtain ⟨a7, cap7, e7, _⟩ := hrB.rd.len_of
                  subst e7
                  have HRB := qh hrunB
                  have hwsz := XN.out.size
                  have HFIN := qh (RowP.imp hrB (q := fun g => w.heap.size ≤ g) (by
                    intro g _ hg
                    have h8 : (w8.alloc (.cells #[.string (bs (p.1.map smallC)), .string (bs (decT p.2))] 104)).heap.size = w8.heap.size + 1 := by simp
                    rcases hg with h1 | h1
                    · exact h1
                    · omega))
                  have HNS : Hid (attrCells (ownedL (l.take k)) ++ [.string (bs (p.1.map smallC)), .string (bs (decT p.2))] = attrCells (ownedL (l.take k) ++ [(bs (p.1.map smallC), bs (decT p.2))])) := qh (by rw [attrCells_snoc])
                  clear hrunB hrB hgB hrowB hi hz0 hz1 hz2 hxa hrA hna hlen hlt2 hwsz
                  go_wp2_with (at_builtin; refine wpList_append_run _ rfl _ _ 23 rfl _ _ rfl rfl _ _ HRB.out ?_)
                  go_roundw
                  case rel => exact ⟨k + 1, by omega, by go_num, XB.out, by rw [HNX.out]; have h := HFIN.out; rw [HNS.out] at h; first | exact h | (simp only [List.length_append, List.length_cons, List.length_nil]; exact h)⟩
                  case measure => simp [intOf]; omega
          · go_simp
            have ew3 := Ext.alloc ew2 (.cells #[.string ⟨#[]⟩] 9)
            have hbn := heap_alloc_new w2 (.cells #[.string ⟨#[]⟩] 9)
            have hbz : wp.heap.size ≤ w2.heap.size := ew2.size
            obtain ⟨bn, hbn1⟩ : ∃ b, w2.heap.size = b := ⟨_, rfl⟩
            rw [hbn1] at hbn hbz ⊢
            obtain ⟨w3, hw3⟩ : ∃ w' : World, w' = w2.alloc (.cells #[.string ⟨#[]⟩] 9) := ⟨_, rfl⟩
            rw [← hw3] at ew3 hbn ⊢
            clear hw3 hbn1
            refine hK.out _ _ (.inr ew3) ?_
            clear hK K
            try simp only [Act.put, zA, zB, zC]
            refine wpE_on 5 (some 21) rfl (fun K hK => ?_)
            have xsv := Ext.refl w3
            go_simp
            go_at_call 55
            refine (HDE.out _ ew3).mono ?_
            rintro e w4 ⟨rfl, xw4⟩
            have ew4 := Ext.trans (b := w3) ew3 xw4
            have hbnw4 := xw4.block hbn
            clear xw4 hbn xsv
            refine hK.out _ _ (.inr ew4) ?_
            clear hK K
            try simp only [Act.put, zA, zB, zC]
            have cn := cellOf hbnw4 (i := 0) rfl
            have fn := freeOf hbnw4 0
            refine wpE_on 7 (none) rfl (fun K hK => ?_)
            go_simp
            have eS := Ext.setCell ew4 (p := ⟨bn, 0, none⟩) hbz (.string (bs (p.1.map smallC)))
            have hbs := heap_setCell_same (i := 0) hbnw4 (.string (bs (p.1.map smallC)))
            have cS := cellOf hbs (i := 0) (v := .string (bs (p.1.map smallC))) rfl
            refine hK.out _ _ (.inr eS) ?_
            clear hK K
            obtain ⟨w5, hw5⟩ : ∃ w' : World, w' = w4.setCell ⟨bn, 0, none⟩ (.string (bs (p.1.map smallC))) := ⟨_, rfl⟩
            rw [← hw5] at eS cS ⊢
            clear hw5 cn fn hbs hbnw4
            refine wpE_on 8 (some 7) rfl (fun K hK => ?_)
            go_simp
            refine hK.out _ _ (.inr eS) ?_
            clear hK K
            try simp only [Act.put, zA, zB, zC]
            refine wpE_done (by kernel_rfl) ?_
            have CS := qh cS
            have ES := qh eS
            have XS := qh (XP.out.trans eS)
            clear eS cS ew4 hbz
            have hfr : RowRd w5 2 (.slice (some ⟨bk, off, sp⟩) k cap) (l.take k).length (attrCells ((l.take k).map pb)) := by
              have h := RowRd.front (l := l.map pb) (a := some ⟨bk, off, sp⟩) (n := l.length) (cap := cap) (by rw [List.length_map]; exact HR.out.ext XS.out) k (by rw [List.length_map]; omega)
              rw [← List.map_take, List.length_map] at h
              exact h
            have hcs := CS.out
            have HCO := qh (containsP_any (l.take k) (.slice (some ⟨bk, off, sp⟩) k cap) (bs (p.1.map smallC)) bn w5 hfr (by rw [List.length_take]; omega) (fun q hq => HOK.out q (List.mem_of_mem_take hq)) CS.out)
            rw [HSE.out] at HCO
            have e0 : (0 : Int) ≤ (k : Int) := by omega
            have e1 : (k : Int) ≤ (cap : Int) := by omega
            have hmf : ∀ (fn : Fn) (first cap : Array Value) (w : World), (Instr.makeFunc fn first cap).run Tryz.prog w = .ok (.func fn first cap) w := fun _ _ _ _ => rfl
            clear hfr hcs
            go_wp2_with (go_at_call 135; refine HCO.out.mono ?_)
            rintro e w6 ⟨rfl, x6⟩
            have cs6 := x6.cell CS.out
            have X6 := qh x6
            have CS6 := qh cs6
            clear x6
            cases b1 with
            | false =>
              go_wp2_with (go_at_call 137; refine (HNA.out _).mono ?_)
              rintro e w7 ⟨rfl, x7⟩
              have XN := qh ((XS.out.trans X6.out).trans x7)
              have HROWN : Hid (RowP w7 (fun g => w.heap.size ≤ g) 104 2 (.slice oa (ownedL (l.take k)).length ocap) (ownedL (l.take k) ++ []).length (attrCells (ownedL (l.take k) ++ []))) := qh (by rw [List.append_nil]; exact (((HOUT.out.ext XPW.out).ext ES.out).ext X6.out).ext x7)
              clear x7 cs6
              go_wp2_with fail
              go_roundw
              case rel => exact ⟨k + 1, by omega, by go_num, XN.out, by rw [HNX.out]; exact HROWN.out⟩
              case measure => simp [intOf]; omega
            | true =>
              go_wp2_with (go_at_call 137; refine (HNA.out _).mono ?_)
              rintro e w7 ⟨rfl, x7⟩
              have X7 := qh (X6.out.trans x7)
              have CS7 := qh (x7.cell cs6)
              clear x7 cs6
              have HVB := qh (HVA.out w7 ((HL.out.ext XS.out).ext X7.out).tabs)
              cases b2 with
              | false =>
                go_wp2_with (go_at_call 138; refine HVB.out.mono ?_)
                rintro e w8 ⟨rfl, x8⟩
                have XN := qh ((XS.out.trans X7.out).trans x8)
                have HROWN : Hid (RowP w8 (fun g => w.heap.size ≤ g) 104 2 (.slice oa (ownedL (l.take k)).length ocap) (ownedL (l.take k) ++ []).length (attrCells (ownedL (l.take k) ++ []))) := qh (by rw [List.append_nil]; exact (((HOUT.out.ext XPW.out).ext ES.out).ext X7.out).ext x8)
                clear x8
                go_wp2_with fail
                go_roundw
                case rel => exact ⟨k + 1, by omega, by go_num, XN.out, by rw [HNX.out]; exact HROWN.out⟩
                case measure => simp [intOf]; omega
              | true =>
                go_wp2_with (go_at_call 138; refine HVB.out.mono ?_)
                rintro e w8 ⟨rfl, x8⟩
                have X8 := qh (X7.out.trans x8)
                have cs8 := x8.cell CS7.out
                clear x8
                cases b3 with
                | true =>
                  have XN := qh (XS.out.trans X8.out)
                  have HROWN : Hid (RowP w8 (fun g => w.heap.size ≤ g) 104 2 (.slice oa (ownedL (l.take k)).length ocap) (ownedL (l.take k) ++ []).length (attrCells (ownedL (l.take k) ++ []))) := qh (by rw [List.append_nil]; exact ((HOUT.out.ext XPW.out).ext ES.out).ext X8.out)
                  clear cs8
                  go_wp2_with fail
                  go_roundw
                  case rel => exact ⟨k + 1, by omega, by go_num, XN.out, by rw [HNX.out]; exact HROWN.out⟩
                  case measure => simp [intOf]; omega
                | false =>
                  have XN := qh (XS.out.trans X8.out)
                  obtain ⟨i0, hi, hz0, hz1, hz2⟩ := info_parts infoA
                  have hxa := (Ext.refl w8).alloc (.cells #[.string (bs (p.1.map smallC)), .string (bs (decT p.2))] 104)
                  have hrA := (((HOUT.out.ext XPW.out).ext ES.out).ext X8.out).ext hxa
                  have hna := heap_alloc_new w8 (.cells #[.string (bs (p.1.map smallC)), .string (bs (decT p.2))] 104)
                  have hlen := ownedF_len (l.take k) []
                  have hlt2 : (l.take k).length ≤ 1000000 := by rw [List.length_take]; omega
                  have hlen2 : (ownedL (l.take k)).length ≤ 1000000 := Nat.le_trans hlen hlt2
                  obtain ⟨v', wB, row, hrunB, hrB, hgB, hrowB⟩ := run_append_row (P := Tryz.prog) (w8.alloc (.cells #[.string (bs (p.1.map smallC)), .string (bs (decT p.2))] 104)) 23 23 104 i0 _ 2 32 Tryz.underlying23 hi hz0 hz1 hz2 (by kernel_rfl) (by decide)
                    hrA ⟨w8.heap.size, 0, none⟩ 1 1 [.string (bs (p.1.map smallC)), .string (bs (decT p.2))] rfl (by
                      intro j u hj
                      rw [Addr.add_lit, Nat.zero_add]
                      exact cellOf hna (by simpa using hj)) (by intro u hu; simp at hu; rcases hu with rfl | rfl <;> rfl) (by decide) (by unfold maxLen; omega) (by omega)
                  have XB := qh ((XN.out.trans hxa).grown hgB (fun z hz => hrowB z hz))
                  obtain ⟨a7, cap7, e7, _⟩ := hrB.rd.len_of
                  subst e7
                  have HRB := qh hrunB
                  have hwsz := XN.out.size
                  have HFIN := qh (RowP.imp hrB (q := fun g => w.heap.size ≤ g) (by
                    intro g _ hg
                    have h8 : (w8.alloc (.cells #[.string (bs (p.1.map smallC)), .string (bs (decT p.2))] 104)).heap.size = w8.heap.size + 1 := by simp
                    rcases hg with h1 | h1
                    · exact h1
                    · omega))
                  have HNS : Hid (attrCells (ownedL (l.take k)) ++ [.string (bs (p.1.map smallC)), .string (bs (decT p.2))] = attrCells (ownedL (l.take k) ++ [(bs (p.1.map smallC), bs (decT p.2))])) := qh (by rw [attrCells_snoc])
                  clear hrunB hrB hgB hrowB hi hz0 hz1 hz2 hxa hrA hna hlen hlt2 hwsz
                  go_wp2_with (at_builtin; refine wpList_append_run _ rfl _ _ 23 rfl _ _ rfl rfl _ _ HRB.out ?_)
                  go_roundw
                  case rel => exact ⟨k + 1, by omega, by go_num, XB.out, by rw [HNX.out]; have h := HFIN.out; rw [HNS.out] at h; first | exact h | (simp only [List.length_append, List.length_cons, List.length_nil]; exact h)⟩
                  case measure => simp [intOf]; omega
        · go_simp
          have ew2 := Ext.alloc ewd (.cells #[.string ⟨#[]⟩] 9)
          have hbn := heap_alloc_new wd (.cells #[.string ⟨#[]⟩] 9)
          have hbz : wp.heap.size ≤ wd.heap.size := ewd.size
          obtain ⟨bn, hbn1⟩ : ∃ b, wd.heap.size = b := ⟨_, rfl⟩
          rw [hbn1] at hbn hbz ⊢
          obtain ⟨w2, hw2⟩ : ∃ w' : World, w' = wd.alloc (.cells #[.string ⟨#[]⟩] 9) := ⟨_, rfl⟩
          rw [← hw2] at ew2 hbn ⊢
          clear hw2 hbn1
          refine hK.out _ _ (.inr ew2) ?_
          clear hK K
          try simp only [Act.put, zA, zB, zC]
          refine wpE_on 2 (some 18) rfl (fun K hK => ?_)
          go_simp
          go_at_call 127
          refine (HSM.out _).mono ?_
          rintro e w3 ⟨rfl, xw3⟩
          have ew3 := Ext.trans (b := w2) ew2 xw3
          have hbn3 := xw3.block hbn
          clear xw3 hbn
          refine hK.out _ _ (.inr ew3) ?_
          clear hK K
          try simp only [Act.put, zA, zB, zC]
          refine wpE_on 5 (some 21) rfl (fun K hK => ?_)
          go_simp
          go_at_call 55
          refine (HDE.out _ ew3).mono ?_
          rintro e w4 ⟨rfl, xw4⟩
          have ew4 := Ext.trans (b := w3) ew3 xw4
          have hbnw4 := xw4.block hbn3
          clear xw4 hbn3
          refine hK.out _ _ (.inr ew4) ?_
          clear hK K
          try simp only [Act.put, zA, zB, zC]
          have cn := cellOf hbnw4 (i := 0) rfl
          have fn := freeOf hbnw4 0
          refine wpE_on 7 (none) rfl (fun K hK => ?_)
          go_simp
          have eS := Ext.setCell ew4 (p := ⟨bn, 0, none⟩) hbz (.string (bs (p.1.map smallC)))
          have hbs := heap_setCell_same (i := 0) hbnw4 (.string (bs (p.1.map smallC)))
          have cS := cellOf hbs (i := 0) (v := .string (bs (p.1.map smallC))) rfl
          refine hK.out _ _ (.inr eS) ?_
          clear hK K
          obtain ⟨w5, hw5⟩ : ∃ w' : World, w' = w4.setCell ⟨bn, 0, none⟩ (.string (bs (p.1.map smallC))) := ⟨_, rfl⟩
          rw [← hw5] at eS cS ⊢
          clear hw5 cn fn hbs hbnw4
          refine wpE_on 8 (some 7) rfl (fun K hK => ?_)
          go_simp
          refine hK.out _ _ (.inr eS) ?_
          clear hK K
          try simp only [Act.put, zA, zB, zC]
          refine wpE_done (by kernel_rfl) ?_
          have CS := qh cS
          have ES := qh eS
          have XS := qh (XP.out.trans eS)
          clear eS cS ew4 hbz
          have hfr : RowRd w5 2 (.slice (some ⟨bk, off, sp⟩) k cap) (l.take k).length (attrCells ((l.take k).map pb)) := by
            have h := RowRd.front (l := l.map pb) (a := some ⟨bk, off, sp⟩) (n := l.length) (cap := cap) (by rw [List.length_map]; exact HR.out.ext XS.out) k (by rw [List.length_map]; omega)
            rw [← List.map_take, List.length_map] at h
            exact h
          have hcs := CS.out
          have HCO := qh (containsP_any (l.take k) (.slice (some ⟨bk, off, sp⟩) k cap) (bs (p.1.map smallC)) bn w5 hfr (by rw [List.length_take]; omega) (fun q hq => HOK.out q (List.mem_of_mem_take hq)) CS.out)
          rw [HSE.out] at HCO
          have e0 : (0 : Int) ≤ (k : Int) := by omega
          have e1 : (k : Int) ≤ (cap : Int) := by omega
          have hmf : ∀ (fn : Fn) (first cap : Array Value) (w : World), (Instr.makeFunc fn first cap).run Tryz.prog w = .ok (.func fn first cap) w := fun _ _ _ _ => rfl
          clear hfr hcs
          go_wp2_with (go_at_call 135; refine HCO.out.mono ?_)
          rintro e w6 ⟨rfl, x6⟩
          have cs6 := x6.cell CS.out
          have X6 := qh x6
          have CS6 := qh cs6
          clear x6
          cases b1 with
          | false =>
            go_wp2_with (go_at_call 137; refine (HNA.out _).mono ?_)
            rintro e w7 ⟨rfl, x7⟩
            have XN := qh ((XS.out.trans X6.out).trans x7)
            have HROWN : Hid (RowP w7 (fun g => w.heap.size ≤ g) 104 2 (.slice oa (ownedL (l.take k)).length ocap) (ownedL (l.take k) ++ []).length (attrCells (ownedL (l.take k) ++ []))) := qh (by rw [List.append_nil]; exact (((HOUT.out.ext XPW.out).ext ES.out).ext X6.out).ext x7)
            clear x7 cs6
            go_wp2_with fail
            go_roundw
            case rel => exact ⟨k + 1, by omega, by go_num, XN.out, by rw [HNX.out]; exact HROWN.out⟩
            case measure => simp [intOf]; omega
          | true =>
            go_wp2_with (go_at_call 137; refine (HNA.out _).mono ?_)
            rintro e w7 ⟨rfl, x7⟩
            have X7 := qh (X6.out.trans x7)
            have CS7 := qh (x7.cell cs6)
            clear x7 cs6
            have HVB := qh (HVA.out w7 ((HL.out.ext XS.out).ext X7.out).tabs)
            cases b2 with
            | false =>
              go_wp2_with (go_at_call 138; refine HVB.out.mono ?_)
              rintro e w8 ⟨rfl, x8⟩
              have XN := qh ((XS.out.trans X7.out).trans x8)
              have HROWN : Hid (RowP w8 (fun g => w.heap.size ≤ g) 104 2 (.slice oa (ownedL (l.take k)).length ocap) (ownedL (l.take k) ++ []).length (attrCells (ownedL (l.take k) ++ []))) := qh (by rw [List.append_nil]; exact (((HOUT.out.ext XPW.out).ext ES.out).ext X7.out).ext x8)
              clear x8
              go_wp2_with fail
              go_roundw
              case rel => exact ⟨k + 1, by omega, by go_num, XN.out, by rw [HNX.out]; exact HROWN.out⟩
              case measure => simp [intOf]; omega
            | true =>
              go_wp2_with (go_at_call 138; refine HVB.out.mono ?_)
              rintro e w8 ⟨rfl, x8⟩
              have X8 := qh (X7.out.trans x8)
              have cs8 := x8.cell CS7.out
              clear x8
              cases b3 with
              | true =>
                have XN := qh (XS.out.trans X8.out)
                have HROWN : Hid (RowP w8 (fun g => w.heap.size ≤ g) 104 2 (.slice oa (ownedL (l.take k)).length ocap) (ownedL (l.take k) ++ []).length (attrCells (ownedL (l.take k) ++ []))) := qh (by rw [List.append_nil]; exact ((HOUT.out.ext XPW.out).ext ES.out).ext X8.out)
                clear cs8
                go_wp2_with fail
                go_roundw
                case rel => exact ⟨k + 1, by omega, by go_num, XN.out, by rw [HNX.out]; exact HROWN.out⟩
                case measure => simp [intOf]; omega
              | false =>
                have XN := qh (XS.out.trans X8.out)
                obtain ⟨i0, hi, hz0, hz1, hz2⟩ := info_parts infoA
                have hxa := (Ext.refl w8).alloc (.cells #[.string (bs (p.1.map smallC)), .string (bs (decT p.2))] 104)
                have hrA := (((HOUT.out.ext XPW.out).ext ES.out).ext X8.out).ext hxa
                have hna := heap_alloc_new w8 (.cells #[.string (bs (p.1.map smallC)), .string (bs (decT p.2))] 104)
                have hlen := ownedF_len (l.take k) []
                have hlt2 : (l.take k).length ≤ 1000000 := by rw [List.length_take]; omega
                have hlen2 : (ownedL (l.take k)).length ≤ 1000000 := Nat.le_trans hlen hlt2
                obtain ⟨v', wB, row, hrunB, hrB, hgB, hrowB⟩ := run_append_row (P := Tryz.prog) (w8.alloc (.cells #[.string (bs (p.1.map smallC)), .string (bs (decT p.2))] 104)) 23 23 104 i0 _ 2 32 Tryz.underlying23 hi hz0 hz1 hz2 (by kernel_rfl) (by decide)
                  hrA ⟨w8.heap.size, 0, none⟩ 1 1 [.string (bs (p.1.map smallC)), .string (bs (decT p.2))] rfl (by
                    intro j u hj
                    rw [Addr.add_lit, Nat.zero_add]
                    exact cellOf hna (by simpa using hj)) (by intro u hu; simp at hu; rcases hu with rfl | rfl <;> rfl) (by decide) (by unfold maxLen; omega) (by omega)
                have XB := qh ((XN.out.trans hxa).grown hgB (fun z hz => hrowB z hz))
                obtain ⟨a7, cap7, e7, _⟩ := hrB.rd.len_of
                subst e7
                have HRB := qh hrunB
                have hwsz := XN.out.size
                have HFIN := qh (RowP.imp hrB (q := fun g => w.heap.size ≤ g) (by
                  intro g _ hg
                  have h8 : (w8.alloc (.cells #[.string (bs (p.1.map smallC)), .string (bs (decT p.2))] 104)).heap.size = w8.heap.size + 1 := by simp
                  rcases hg with h1 | h1
                  · exact h1
                  · omega))
                have HNS : Hid (attrCells (ownedL (l.take k)) ++ [.string (bs (p.1.map smallC)), .string (bs (decT p.2))] = attrCells (ownedL (l.take k) ++ [(bs (p.1.map smallC), bs (decT p.2))])) := qh (by rw [attrCells_snoc])
                clear hrunB hrB hgB hrowB hi hz0 hz1 hz2 hxa hrA hna hlen hlt2 hwsz
                go_wp2_with (at_builtin; refine wpList_append_run _ rfl _ _ 23 rfl _ _ rfl rfl _ _ HRB.out ?_)
                go_roundw
                case rel => exact ⟨k + 1, by omega, by go_num, XB.out, by rw [HNX.out]; have h := HFIN.out; rw [HNS.out] at h; first | exact h | (simp only [List.length_append, List.length_cons, List.length_nil]; exact h)⟩
                case measure => simp [intOf]; omega
    · obtain rfl : k = l.length := by omega
      have HFN := qh (show RowP wr (fun g => w.heap.size ≤ g) 104 2 (.slice oa (ownedL (l.take l.length)).length ocap) (ownedL l).length (attrCells (ownedL l)) by have h := HOUT.out; rw [List.take_length] at h ⊢; exact h)
      clear xr
      go_wp2_with fail
      go_ret
      exact ⟨_, rfl, XR.out, HFN.out⟩
theorem takeW_len (p : UInt8 → Bool) (l : List UInt8) : (l.takeWhile p).length ≤ l.length := by
  have := congrArg List.length (take_drop_while p l)
  rw [List.length_append] at this
  omega
theorem valueL_len {r v e : List UInt8} (h : valueL r = some (v, e)) : v.length ≤ r.length := by
  unfold valueL at h
  have h0 := (suf_drop blankB r).length_le
  split at h
  · cases h; exact Nat.zero_le _
  · rename_i q r2 hr
    rw [hr] at h0
    simp only [List.length_cons] at h0
    split at h
    · split at h
      · cases h
      · cases h
        have := takeW_len (neB q) r2
        omega
    · cases h
      have := takeW_len valB (q :: r2)
      simp only [List.length_cons] at this
      omega
theorem partL_len {c : UInt8} {r2 e : List UInt8} {p : Part} (h : partL c r2 = some (p, e)) : p.1.length ≤ r2.length + 1 ∧ p.2.length ≤ r2.length := by
  have h1 := takeW_len nmB r2
  have h2 := (suf_drop nmB r2).length_le
  have h3 := (suf_drop blankB (r2.dropWhile nmB)).length_le
  cases hh : headP (· == 61) ((r2.dropWhile nmB).dropWhile blankB) with
  | false =>
    rw [part_bare hh] at h
    cases h
    exact ⟨by simp; omega, Nat.zero_le _⟩
  | true =>
    obtain ⟨r5, hr5⟩ : ∃ r5, (r2.dropWhile nmB).dropWhile blankB = 61 :: r5 := by
      cases hq : (r2.dropWhile nmB).dropWhile blankB with
      | nil => rw [hq] at hh; cases hh
      | cons y q =>
        rw [hq] at hh
        have : y = 61 := by simpa [headP] using hh
        exact ⟨q, by rw [this]⟩
    rw [part_none hr5] at h
    rw [hr5] at h3
    simp only [List.length_cons] at h3
    cases hv : valueL r5 with
    | none => rw [hv] at h; cases h
    | some ve =>
      rw [hv] at h
      have h4 := valueL_len (v := ve.1) (e := ve.2) hv
      cases h
      exact ⟨by simp; omega, by dsimp only; omega⟩
theorem partsL_ok : ∀ (n : Nat) (r : List UInt8) (x : List Part × Bool × List UInt8), r.length ≤ n → partsL r = some x → (∀ p ∈ x.1, p.1.length ≤ n ∧ p.2.length ≤ n) ∧ x.1.length ≤ r.length := by
  intro n
  induction n with
  | zero =>
    intro r x hl h
    obtain rfl : r = [] := List.eq_nil_of_length_eq_zero (by omega)
    cases h
  | succ n ih =>
    intro r x hl h
    rw [partsL_eq] at h
    have h0 := (suf_drop gapB r).length_le
    split at h
    · cases h
    · rename_i c r2 hr
      rw [hr] at h0
      simp only [List.length_cons] at h0
      split at h
      · cases h; exact ⟨(fun p hp => by cases hp), Nat.zero_le _⟩
      · split at h
        · cases h
        · rename_i p e hp
          have h1 := (partL_suf hp).length_le
          obtain ⟨h2, h3⟩ := partL_len hp
          cases hx : partsL e with
          | none => rw [hx] at h; cases h
          | some y =>
            rw [hx] at h
            obtain ⟨h4, h5⟩ := ih e y (by omega) hx
            cases h
            refine ⟨fun q hq => ?_, by dsimp only; rw [List.length_cons]; omega⟩
            rcases List.mem_cons.1 hq with rfl | hq
            · exact ⟨by omega, by omega⟩
            · have := h4 q hq
              exact ⟨by omega, by omega⟩
def tkV (k : Int) (n t : List UInt8) (av : Value) (z lo hi : Int) : Array Value := #[.int .i64 k, .string (bs n), .string (bs t), av, .int .i64 z, .int .i64 lo, .int .i64 hi]
section
variable {P : Program} {ops : Array Oper} {rest : List Oper} {o : Oper} {a : Act} {Q : Exit → Act → World → Prop}
theorem run_storeRow (w : World) {b : Nat} {t T : TypeId} {cur vs : Array Value} (hg : w.heap[b]? = some (.cells cur T (0, 0))) (hz : ∀ w, (sizeOf t).run P w = .ok vs.size w) (hl : vs.size = cur.size) (h1 : ∀ v ∈ vs.toList, v.oneCell' = true) :
    (Instr.storeAt t (.pointer (some ⟨b, 0, none⟩)) (.agg vs)).run P w = .ok () (w.setRow b vs) := by
  have h := run_storeCells_at (P := P) b 0 T vs.toList 0 cur w hg (by simp [hl]) h1
  simp only [Nat.zero_add, List.take_zero, List.nil_append] at h
  rw [List.drop_eq_nil_of_le (by simp [hl])] at h
  simp only [List.append_nil, Array.toArray_toList] at h
  simp only [Instr.storeAt, Instr.sureAddr, storeVar, Sem.run_bind, Sem.run_pure, Result.andThen_ok, hz, Value.cells, ne_eq, not_true, if_false]
  exact h
theorem wpList_storeRow {w : World} {b : Nat} {t T : TypeId} {x y : Operand} {cur vs : Array Value} (hgd : o.guard = none) (ho : o.op = .store t x y) (hx : a.eval x = .pointer (some ⟨b, 0, none⟩)) (hy : a.eval y = .agg vs)
    (hg : w.heap[b]? = some (.cells cur T (0, 0))) (hz : ∀ w, (sizeOf t).run P w = .ok vs.size w) (hl : vs.size = cur.size) (h1 : ∀ v ∈ vs.toList, v.oneCell' = true) (h : wpList P ops Q rest (a.put o.dst undef) (w.setRow b vs)) : wpList P ops Q (o :: rest) a w := by
  refine wpList_plain hgd fun K hK => ?_
  have hr := run_storeRow (P := P) w hg hz hl h1
  unfold Oper.wp execOp
  simp only [ho, hx, hy, hr, Sem.run_bind, Sem.run_pure, Result.andThen_ok]
  first | exact hK _ _ h | (rw [Oper.upon_skip]; exact hK _ _ h) | (simp only [Oper.upon]; exact hK _ _ h)
end
theorem heap_setRow_same {w : World} {b : Nat} {cs vs : Array Value} {T : TypeId} {fr : Nat × Nat} (h : w.heap[b]? = some (.cells cs T fr)) : (w.setRow b vs).heap[b]? = some (.cells vs T fr) := by simp [World.setRow, Array.getElem?_modify, h]
theorem heap_setRow_other {w : World} {b j : Nat} {vs : Array Value} (h : j ≠ b) : (w.setRow b vs).heap[j]? = w.heap[j]? := by simp [World.setRow, Array.getElem?_modify, Ne.symm h]
theorem Mv.setRow {S : Nat → Prop} {a w : World} (h : Mv S a w) {b : Nat} (hb : b < a.heap.size → S b) (vs : Array Value) : Mv S a (w.setRow b vs) :=
  ⟨h.os, h.tape, h.output, by have := h.size; simpa [World.setRow] using this, fun x hx hn => (heap_setRow_other fun e => hn (by rw [e]; exact hb (e ▸ hx))).trans (h.rest x hx hn)⟩
theorem Mv.over {S S' : Nat → Prop} {a b c : World} (h : Mv S a b) (k : Mv S' b c) (hS : ∀ x, x < a.heap.size → S' x → S x) : Mv S a c :=
  ⟨k.os.trans h.os, k.tape.trans h.tape, k.output.trans h.output, Nat.le_trans h.size k.size, fun x hx hn => (k.rest x (Nat.lt_of_lt_of_le hx h.size) fun hs => hn (hS x hx hs)).trans (h.rest x hx hn)⟩
def RTag (rb : Nat) (s : ByteArray) (o : Option (Tk × List UInt8)) (w : World) (e : Ending) (w' : World) : Prop :=
  match o with
  | some (t, r) => ∃ av, e = .returned (.tuple #[.agg (tkV t.kind t.name t.text av (if t.self then 1 else 0) t.lo t.hi), .bool true]) ∧ Mv (· = rb) w w' ∧ Rd rb s r w' ∧ RowP w' (fun g => w.heap.size ≤ g) 104 2 av t.attrs.length (attrCells t.attrs)
  | none => ∃ k n l av a c z lo hi r', e = .returned (.tuple #[.agg (tkV k n l av z lo hi), .bool false]) ∧ av = .slice a 0 c ∧ Mv (· = rb) w w' ∧ Rd rb s r' w'
theorem oneL_tag (c : UInt8) (q : List UInt8) : oneL 47 q = tagR (c :: q) := by
  unfold oneL tagR closeB
  rw [List.drop_succ_cons, List.drop_zero]
  split
  · cases q <;> rfl
  · rfl
theorem tkOne (v0 v1 v2 v3 v4 v5 v6 : Value) (h0 : v0.oneCell' = true) (h1 : v1.oneCell' = true) (h2 : v2.oneCell' = true) (h3 : v3.oneCell' = true) (h4 : v4.oneCell' = true) (h5 : v5.oneCell' = true) (h6 : v6.oneCell' = true) :
    ∀ u ∈ (#[v0, v1, v2, v3, v4, v5, v6] : Array Value).toList, u.oneCell' = true := by
  intro u hu
  simp at hu
  rcases hu with rfl | rfl | rfl | rfl | rfl | rfl | rfl <;> assumption
theorem sizeTok (w : World) : (sizeOf 55).run Tryz.prog w = .ok 7 w := Tryz.sizeOf55 w
theorem tag_any (rb : Nat) (s : ByteArray) (c : UInt8) (q : List UInt8) (w : World) (hs : s.size ≤ 1000000) (hr : Rd rb s (c :: q) w) (hl : ∀ W, Mv (· = rb) w W → LW W) :
    Calls Tryz.prog 54 #[.pointer (some ⟨rb, 0, none⟩)] w (RTag rb s (tagL s.size (c :: q)) w) := by
  have HS := qh (show s.size ≤ 100000000000 by omega)
  have HS6 := qh hs
  have HL := qh hl
  have hrb := hr.lt
  obtain ⟨o, ho⟩ : ∃ o, tagL s.size (c :: q) = o := ⟨_, rfl⟩
  rw [ho]
  have HO := qh ho
  obtain ⟨k, h1, h2, h3⟩ := hr
  obtain ⟨hk, _, hq, hq1⟩ := Rd.head h1 h2
  have HQ := qh (And.intro hq1 (And.intro hq h1))
  have HB := qh h3
  have hwk : IntKind.i64.wrap ((k : Int) + 1) = (k : Int) + 1 := IntWalk.i64_in _ (by omega)
  have xa := (Ext.refl w).alloc (.cells #[.int .i64 0, .string ⟨#[]⟩, .string ⟨#[]⟩, .slice none 0 0, .int .i64 0, .int .i64 0, .int .i64 0] 55)
  have hba := heap_alloc_new w (.cells #[.int .i64 0, .string ⟨#[]⟩, .string ⟨#[]⟩, .slice none 0 0, .int .i64 0, .int .i64 0, .int .i64 0] 55)
  clear h1 h2 h3 hq hq1 ho hs hl
  go_enter Tryz.func54, Tryz.ntmps54
  go_upto_region 1 with fail
  obtain ⟨wa, hwa⟩ : ∃ w' : World, w' = w.alloc (.cells #[.int .i64 0, .string ⟨#[]⟩, .string ⟨#[]⟩, .slice none 0 0, .int .i64 0, .int .i64 0, .int .i64 0] 55) := ⟨_, rfl⟩
  have hsa : wa.heap.size = w.heap.size + 1 := by rw [hwa]; simp
  rw [← hwa] at xa hba ⊢
  have HSA := qh hsa
  clear hwa hsa
  have c1 := cellOf (xa.block HB.out) (i := 1) rfl
  have xb := xa.alloc (.cells #[.int .i64 2, .string ⟨#[]⟩, .string ⟨#[]⟩, .slice none 0 0, .int .i64 0, .int .i64 k, .int .i64 0] 55)
  have hbb := heap_alloc_new wa (.cells #[.int .i64 2, .string ⟨#[]⟩, .string ⟨#[]⟩, .slice none 0 0, .int .i64 0, .int .i64 k, .int .i64 0] 55)
  have hba2 := ((Ext.refl wa).alloc (.cells #[.int .i64 2, .string ⟨#[]⟩, .string ⟨#[]⟩, .slice none 0 0, .int .i64 0, .int .i64 k, .int .i64 0] 55)).block hba
  go_upto_region 2 with fail
  obtain ⟨wb, hwb⟩ : ∃ w' : World, w' = wa.alloc (.cells #[.int .i64 2, .string ⟨#[]⟩, .string ⟨#[]⟩, .slice none 0 0, .int .i64 0, .int .i64 k, .int .i64 0] 55) := ⟨_, rfl⟩
  rw [← hwb] at xb hbb hba2 ⊢
  clear hwb c1 hba
  obtain ⟨b2, hb2⟩ : ∃ b, w.heap.size = b := ⟨_, rfl⟩
  obtain ⟨b4, hb4⟩ : ∃ b, wa.heap.size = b := ⟨_, rfl⟩
  have hsa := HSA.out
  rw [hb2] at hba2 ⊢
  rw [hb4] at hbb ⊢
  have hn2 : b2 ≠ rb := by omega
  have hn4 : b4 ≠ rb := by omega
  have hn24 : b2 ≠ b4 := by omega
  have hg2 : w.heap.size ≤ b2 := by omega
  have hg4 : w.heap.size ≤ b4 := by omega
  have hrb1 := xb.block HB.out
  have c1 := cellOf hrb1 (i := 1) rfl
  have f1 := freeOf hrb1 1
  have R0 := Rd.move (k := k + 1) hrb1 HQ.out.1 HQ.out.2.1
  have M0 := Mv.setRb (rb := rb) (o := 1) (Mv.ofExt xb) (.int .i64 ((k + 1 : Nat) : Int))
  have hms := Mv.setRb (rb := rb) (o := 1) (Mv.refl (· = rb) wb) (.int .i64 ((k + 1 : Nat) : Int))
  have B2 := hms.block hba2 hn2
  have B4 := hms.block hbb hn4
  clear hsa hb2 hb4 xa xb hba2 hbb hrb1 hms
  go_upto_region 3 with fail
  obtain ⟨wc, hwc⟩ : ∃ w' : World, w' = wb.setCell ⟨rb, 1, none⟩ (.int .i64 ((k + 1 : Nat) : Int)) := ⟨_, rfl⟩
  have hwc' : wb.setCell ⟨rb, 1, none⟩ (.int .i64 ((k : Int) + 1)) = wc := by rw [hwc]; push_cast; rfl
  rw [hwc']
  rw [← hwc] at R0 M0 B2 B4
  clear hwc hwc' c1 f1
  have HONE := qh (one_any rb s q 47 47 rfl wc HS.out R0)
  rw [oneL_tag c q] at HONE
  have M0 := qh M0
  have B2 := qh B2
  have B4 := qh B4
  clear R0
  have hcl : closeB (c :: q) = headP (· == 47) q := rfl
  have HTL := qh (show (if headP letterB (tagR (c :: q)) then (if headP (· == 47) q then closeL s.size (c :: q) else openL s.size (c :: q)) else none) = o from HO.out)
  clear hcl
  obtain ⟨r1, hr1⟩ : ∃ r1, tagR (c :: q) = r1 := ⟨_, rfl⟩
  rw [hr1] at HONE HTL
  have HR1 := qh hr1
  clear hr1
  cases hcb : headP (· == 47) q with
  | true =>
    rw [hcb] at HONE HTL
    clear hcb
    go_wp2_with (go_at_call 86; refine HONE.out.mono ?_)
    rintro e w1 ⟨rfl, m1, R1⟩
    have hb4 := m1.block B4.out hn4
    have f4 := freeOf hb4 0
    have c4 := cellOf hb4 (i := 0) rfl
    have B4a := heap_setCell_same (i := 0) hb4 (.int .i64 3)
    have h4m := Mv.setCell (S := (· = b4)) (p := ⟨b4, 0, none⟩) (Mv.refl (· = b4) w1) (fun _ => rfl) (.int .i64 3)
    have B2a := h4m.block (m1.block B2.out hn2) (show ¬ b2 = b4 from hn24)
    have R2 := R1.mv h4m (show ¬ rb = b4 from Ne.symm hn4)
    have M2 := Mv.setCell (p := ⟨b4, 0, none⟩) (M0.out.trans m1) (fun h => absurd h (by show ¬ b4 < w.heap.size; omega)) (.int .i64 3)
    clear m1 R1 hb4 h4m
    go_upto_region 5 with fail
    obtain ⟨w2, hw2⟩ : ∃ w' : World, w' = w1.setCell ⟨b4, 0, none⟩ (.int .i64 3) := ⟨_, rfl⟩
    rw [← hw2] at B4a B2a R2 M2 ⊢
    clear hw2 f4 c4
    have HM := qh (more_any rb s r1 letterB _ w2 HS.out R2 (isLetter rb w2))
    cases hlt : headP letterB r1 with
    | false =>
      have HN : Hid (o = none) := qh (by rw [← HTL.out, hlt]; rfl)
      rw [hlt] at HM
      clear hlt
      go_wp2_with (go_at_call 83; refine HM.out.mono ?_)
      rintro e w3 ⟨rfl, x3⟩
      have B4z := x3.block B4a
      have B2z := x3.block B2a
      have Rz := R2.ext x3
      have Mz := M2.ext x3
      clear x3 B4a B2a R2 M2
      have d0 := cellOf B4z (i := 0) (v := .int .i64 3) rfl
      have d1 := cellOf B4z (i := 1) (v := .string ⟨#[]⟩) rfl
      have d2 := cellOf B4z (i := 2) (v := .string ⟨#[]⟩) rfl
      have d3 := cellOf B4z (i := 3) (v := .slice none 0 0) rfl
      have d4 := cellOf B4z (i := 4) (v := .int .i64 0) rfl
      have d5 := cellOf B4z (i := 5) (v := .int .i64 k) rfl
      have d6 := cellOf B4z (i := 6) (v := .int .i64 0) rfl
      have B2s := heap_setRow_same (vs := #[.int .i64 3, .string ⟨#[]⟩, .string ⟨#[]⟩, .slice none 0 0, .int .i64 0, .int .i64 k, .int .i64 0]) B2z
      have hlv := run_loadVar_row (P := Tryz.prog) _ b2 55 55 _ (0, 0) _ B2s Tryz.underlying55 rfl (by kernel_rfl)
      have RZ := qh (Rz.mv (Mv.setRow (S := (· = b2)) (Mv.refl (· = b2) _) (fun _ => rfl) #[.int .i64 3, .string ⟨#[]⟩, .string ⟨#[]⟩, .slice none 0 0, .int .i64 0, .int .i64 k, .int .i64 0]) (show ¬ rb = b2 from Ne.symm hn2))
      have MZ := qh (Mv.setRow Mz (b := b2) (fun h => absurd h (by omega)) #[.int .i64 3, .string ⟨#[]⟩, .string ⟨#[]⟩, .slice none 0 0, .int .i64 0, .int .i64 k, .int .i64 0])
      clear B4z B2s Rz Mz
      go_wp2_with (refine wpList_storeRow rfl rfl rfl rfl B2z sizeTok rfl (tkOne _ _ _ _ _ _ _ rfl rfl rfl rfl rfl rfl rfl) ?_)
      clear d0 d1 d2 d3 d4 d5 d6 B2z
      refine bodyPost_ret (v := .tuple #[.agg #[.int .i64 3, .string ⟨#[]⟩, .string ⟨#[]⟩, .slice none 0 0, .int .i64 0, .int .i64 k, .int .i64 0], .bool false]) (by simp [results, Tryz.results54, asAddr, hlv]) rfl ?_
      rw [HN.out]
      exact ⟨3, [], [], _, none, 0, 0, k, 0, _, rfl, rfl, MZ.out, RZ.out⟩
    | true =>
      rw [hlt] at HM HTL
      clear hlt
      go_wp2_with (go_at_call 83; refine HM.out.mono ?_)
      rintro e w3 ⟨rfl, x3⟩
      have B4b := qh (x3.block B4a)
      have B2b := qh (x3.block B2a)
      have M3 := qh (M2.ext x3)
      have HNM := qh (name_any rb s r1 w3 HS.out (R2.ext x3))
      clear x3 B4a B2a R2 M2
      go_wp2_with (go_at_call 88; refine HNM.out.mono ?_)
      rintro e w4 ⟨rfl, m4, R4⟩
      obtain ⟨nm, hnm⟩ : ∃ nm, (r1.takeWhile alnumB).map smallC = nm := ⟨_, rfl⟩
      rw [hnm]
      have HNMM := qh hnm
      have hb4 := m4.block B4b.out hn4
      have f4 := freeOf hb4 1
      have c4 := cellOf hb4 (i := 1) rfl
      have c40 := cellOf hb4 (i := 0) rfl
      have B4c := heap_setCell_same (i := 1) hb4 (.string (bs nm))
      have h4m := Mv.setCell (S := (· = b4)) (p := ⟨b4, 1, none⟩) (Mv.refl (· = b4) w4) (fun _ => rfl) (.string (bs nm))
      have B2c := h4m.block (m4.block B2b.out hn2) (show ¬ b2 = b4 from hn24)
      have R5 := R4.mv h4m (show ¬ rb = b4 from Ne.symm hn4)
      have M5 := Mv.setCell (p := ⟨b4, 1, none⟩) (M3.out.trans m4) (fun h => absurd h (by show ¬ b4 < w.heap.size; omega)) (.string (bs nm))
      clear m4 R4 hb4 h4m hnm
      go_upto_region 8 with fail
      obtain ⟨w5, hw5⟩ : ∃ w' : World, w' = w4.setCell ⟨b4, 1, none⟩ (.string (bs nm)) := ⟨_, rfl⟩
      rw [← hw5] at B4c B2c R5 M5 ⊢
      clear hw5 f4 c4 c40
      have c40 := cellOf B4c (i := 0) (v := .int .i64 3) rfl
      obtain ⟨r2, hr2⟩ : ∃ r2, r1.dropWhile alnumB = r2 := ⟨_, rfl⟩
      rw [hr2] at R5
      have HR2 := qh hr2
      clear hr2
      have HRUN := qh (run_any rb s r2 (neB 62) _ w5 HS.out R5 (isTag rb w5))
      go_wp2_with (go_at_call 51; refine HRUN.out.mono ?_)
      rintro e w6 ⟨rfl, m6, R6⟩
      have HONE6 := qh (one_any rb s (r2.dropWhile (neB 62)) 62 62 rfl w6 HS.out R6)
      have B4d := qh (m6.block B4c hn4)
      have B2d := qh (m6.block B2c hn2)
      have M6 := qh (M5.trans m6)
      clear m6 R6 B4c B2c R5 M5 c40
      cases hd : r2.dropWhile (neB 62) with
      | nil =>
        have hh : headP (· == (62 : UInt8)) [] = false := rfl
        have ho1 : oneL 62 [] = [] := rfl
        have HN : Hid (o = none) := qh (by
          have h : closeL s.size (c :: q) = o := by simpa using HTL.out
          rw [← h]
          unfold closeL
          rw [HR1.out, HR2.out, hd])
        rw [hd, hh, ho1] at HONE6
        clear hd hh ho1
        go_wp2_with (go_at_call 86; refine HONE6.out.mono ?_)
        rintro e w7 ⟨rfl, m7, R7⟩
        have hb4 := m7.block B4d.out hn4
        have f4 := freeOf hb4 6
        have c46 := cellOf hb4 (i := 6) (v := .int .i64 0) rfl
        obtain ⟨k7, g1, g2, g3⟩ := R7
        have c1 := cellOf g3 (i := 1) rfl
        have hk7 : s.size - ([] : List UInt8).length = k7 := by omega
        have B4z := heap_setCell_same (i := 6) hb4 (.int .i64 (k7 : Int))
        have h4m := Mv.setCell (S := (· = b4)) (p := ⟨b4, 6, none⟩) (Mv.refl (· = b4) w7) (fun _ => rfl) (.int .i64 (k7 : Int))
        have B2z := h4m.block (m7.block B2d.out hn2) (show ¬ b2 = b4 from hn24)
        have Rz : Rd rb s ([] : List UInt8) _ := Rd.mv ⟨k7, g1, g2, g3⟩ h4m (show ¬ rb = b4 from Ne.symm hn4)
        have Mz := Mv.setCell (p := ⟨b4, 6, none⟩) (M6.out.trans m7) (fun h => absurd h (by show ¬ b4 < w.heap.size; omega)) (.int .i64 (k7 : Int))
        have HK7 := qh hk7
        clear m7 g1 g2 g3 hb4 h4m hk7
        go_upto_region 12 with fail
        obtain ⟨w8, hw8⟩ : ∃ w' : World, w' = w7.setCell ⟨b4, 6, none⟩ (.int .i64 (k7 : Int)) := ⟨_, rfl⟩
        rw [← hw8] at B4z B2z Rz Mz ⊢
        clear hw8 f4 c46 c1
        have d0 := cellOf B4z (i := 0) (v := .int .i64 3) rfl
        have d1 := cellOf B4z (i := 1) (v := .string (bs nm)) rfl
        have d2 := cellOf B4z (i := 2) (v := .string ⟨#[]⟩) rfl
        have d3 := cellOf B4z (i := 3) (v := .slice none 0 0) rfl
        have d4 := cellOf B4z (i := 4) (v := .int .i64 0) rfl
        have d5 := cellOf B4z (i := 5) (v := .int .i64 k) rfl
        have d6 := cellOf B4z (i := 6) (v := .int .i64 (k7 : Int)) rfl
        have B2s := heap_setRow_same (vs := #[.int .i64 3, .string (bs nm), .string ⟨#[]⟩, .slice none 0 0, .int .i64 0, .int .i64 k, .int .i64 (k7 : Int)]) B2z
        have hlv := run_loadVar_row (P := Tryz.prog) _ b2 55 55 _ (0, 0) _ B2s Tryz.underlying55 rfl (by kernel_rfl)
        have RZ := qh (Rz.mv (Mv.setRow (S := (· = b2)) (Mv.refl (· = b2) _) (fun _ => rfl) #[.int .i64 3, .string (bs nm), .string ⟨#[]⟩, .slice none 0 0, .int .i64 0, .int .i64 k, .int .i64 (k7 : Int)]) (show ¬ rb = b2 from Ne.symm hn2))
        have MZ := qh (Mv.setRow Mz (b := b2) (fun h => absurd h (by omega)) #[.int .i64 3, .string (bs nm), .string ⟨#[]⟩, .slice none 0 0, .int .i64 0, .int .i64 k, .int .i64 (k7 : Int)])
        clear B4z B2s Rz Mz
        go_wp2_with (refine wpList_storeRow rfl rfl rfl rfl B2z sizeTok rfl (tkOne _ _ _ _ _ _ _ rfl rfl rfl rfl rfl rfl rfl) ?_)
        clear d0 d1 d2 d3 d4 d5 d6 B2z
        refine bodyPost_ret (v := .tuple #[.agg #[.int .i64 3, .string (bs nm), .string ⟨#[]⟩, .slice none 0 0, .int .i64 0, .int .i64 k, .int .i64 (k7 : Int)], .bool false]) (by simp [results, Tryz.results54, asAddr, hlv]) rfl ?_
        rw [HN.out]
        exact ⟨3, nm, [], _, none, 0, 0, k, _, _, rfl, rfl, MZ.out, RZ.out⟩
      | cons y e5 =>
        have hy := neB_head hd
        subst hy
        have hh : headP (· == (62 : UInt8)) (62 :: e5) = true := rfl
        have ho1 : oneL 62 (62 :: e5) = e5 := rfl
        have HN : Hid (o = some (⟨3, nm, [], [], false, k, s.size - e5.length⟩, e5)) := qh (by
          have h : closeL s.size (c :: q) = o := by simpa using HTL.out
          rw [← h]
          unfold closeL
          rw [HR1.out, HR2.out, hd]
          dsimp only
          unfold tagN
          rw [HR1.out, HNMM.out]
          have h8 := HQ.out.2.2
          rw [show s.size - (c :: q).length = k by omega])
        rw [hd, hh, ho1] at HONE6
        clear hd hh ho1
        go_wp2_with (go_at_call 86; refine HONE6.out.mono ?_)
        rintro e w7 ⟨rfl, m7, R7⟩
        have hb4 := m7.block B4d.out hn4
        have f4 := freeOf hb4 6
        have c46 := cellOf hb4 (i := 6) (v := .int .i64 0) rfl
        obtain ⟨k7, g1, g2, g3⟩ := R7
        have c1 := cellOf g3 (i := 1) rfl
        have hk7 : s.size - (e5).length = k7 := by omega
        have B4z := heap_setCell_same (i := 6) hb4 (.int .i64 (k7 : Int))
        have h4m := Mv.setCell (S := (· = b4)) (p := ⟨b4, 6, none⟩) (Mv.refl (· = b4) w7) (fun _ => rfl) (.int .i64 (k7 : Int))
        have B2z := h4m.block (m7.block B2d.out hn2) (show ¬ b2 = b4 from hn24)
        have Rz : Rd rb s (e5) _ := Rd.mv ⟨k7, g1, g2, g3⟩ h4m (show ¬ rb = b4 from Ne.symm hn4)
        have Mz := Mv.setCell (p := ⟨b4, 6, none⟩) (M6.out.trans m7) (fun h => absurd h (by show ¬ b4 < w.heap.size; omega)) (.int .i64 (k7 : Int))
        have HK7 := qh hk7
        clear m7 g1 g2 g3 hb4 h4m hk7
        go_upto_region 12 with fail
        obtain ⟨w8, hw8⟩ : ∃ w' : World, w' = w7.setCell ⟨b4, 6, none⟩ (.int .i64 (k7 : Int)) := ⟨_, rfl⟩
        rw [← hw8] at B4z B2z Rz Mz ⊢
        clear hw8 f4 c46 c1
        have d0 := cellOf B4z (i := 0) (v := .int .i64 3) rfl
        have d1 := cellOf B4z (i := 1) (v := .string (bs nm)) rfl
        have d2 := cellOf B4z (i := 2) (v := .string ⟨#[]⟩) rfl
        have d3 := cellOf B4z (i := 3) (v := .slice none 0 0) rfl
        have d4 := cellOf B4z (i := 4) (v := .int .i64 0) rfl
        have d5 := cellOf B4z (i := 5) (v := .int .i64 k) rfl
        have d6 := cellOf B4z (i := 6) (v := .int .i64 (k7 : Int)) rfl
        have B2s := heap_setRow_same (vs := #[.int .i64 3, .string (bs nm), .string ⟨#[]⟩, .slice none 0 0, .int .i64 0, .int .i64 k, .int .i64 (k7 : Int)]) B2z
        have hlv := run_loadVar_row (P := Tryz.prog) _ b2 55 55 _ (0, 0) _ B2s Tryz.underlying55 rfl (by kernel_rfl)
        have RZ := qh (Rz.mv (Mv.setRow (S := (· = b2)) (Mv.refl (· = b2) _) (fun _ => rfl) #[.int .i64 3, .string (bs nm), .string ⟨#[]⟩, .slice none 0 0, .int .i64 0, .int .i64 k, .int .i64 (k7 : Int)]) (show ¬ rb = b2 from Ne.symm hn2))
        have MZ := qh (Mv.setRow Mz (b := b2) (fun h => absurd h (by omega)) #[.int .i64 3, .string (bs nm), .string ⟨#[]⟩, .slice none 0 0, .int .i64 0, .int .i64 k, .int .i64 (k7 : Int)])
        clear B4z B2s Rz Mz
        go_wp2_with (refine wpList_storeRow rfl rfl rfl rfl B2z sizeTok rfl (tkOne _ _ _ _ _ _ _ rfl rfl rfl rfl rfl rfl rfl) ?_)
        clear d0 d1 d2 d3 d4 d5 d6 B2z
        refine bodyPost_ret (v := .tuple #[.agg #[.int .i64 3, .string (bs nm), .string ⟨#[]⟩, .slice none 0 0, .int .i64 0, .int .i64 k, .int .i64 (k7 : Int)], .bool true]) (by simp [results, Tryz.results54, asAddr, hlv]) rfl ?_
        rw [HN.out, HK7.out]
        exact ⟨_, rfl, MZ.out, RZ.out, ⟨rfl, .inl ⟨rfl, none, rfl⟩⟩⟩
  | false =>
    rw [hcb] at HONE HTL
    clear hcb
    go_wp2_with (go_at_call 86; refine HONE.out.mono ?_)
    rintro e w2 ⟨rfl, m1, R2⟩
    have B4a := m1.block B4.out hn4
    have B2a := m1.block B2.out hn2
    have M2 := M0.out.trans m1
    clear m1
    go_upto_region 5 with fail
    have HM := qh (more_any rb s r1 letterB _ w2 HS.out R2 (isLetter rb w2))
    cases hlt : headP letterB r1 with
    | false =>
      have HN : Hid (o = none) := qh (by rw [← HTL.out, hlt]; rfl)
      rw [hlt] at HM
      clear hlt
      go_wp2_with (go_at_call 83; refine HM.out.mono ?_)
      rintro e w3 ⟨rfl, x3⟩
      have B4z := x3.block B4a
      have B2z := x3.block B2a
      have Rz := R2.ext x3
      have Mz := M2.ext x3
      clear x3 B4a B2a R2 M2
      have d0 := cellOf B4z (i := 0) (v := .int .i64 2) rfl
      have d1 := cellOf B4z (i := 1) (v := .string ⟨#[]⟩) rfl
      have d2 := cellOf B4z (i := 2) (v := .string ⟨#[]⟩) rfl
      have d3 := cellOf B4z (i := 3) (v := .slice none 0 0) rfl
      have d4 := cellOf B4z (i := 4) (v := .int .i64 0) rfl
      have d5 := cellOf B4z (i := 5) (v := .int .i64 k) rfl
      have d6 := cellOf B4z (i := 6) (v := .int .i64 0) rfl
      have B2s := heap_setRow_same (vs := #[.int .i64 2, .string ⟨#[]⟩, .string ⟨#[]⟩, .slice none 0 0, .int .i64 0, .int .i64 k, .int .i64 0]) B2z
      have hlv := run_loadVar_row (P := Tryz.prog) _ b2 55 55 _ (0, 0) _ B2s Tryz.underlying55 rfl (by kernel_rfl)
      have RZ := qh (Rz.mv (Mv.setRow (S := (· = b2)) (Mv.refl (· = b2) _) (fun _ => rfl) #[.int .i64 2, .string ⟨#[]⟩, .string ⟨#[]⟩, .slice none 0 0, .int .i64 0, .int .i64 k, .int .i64 0]) (show ¬ rb = b2 from Ne.symm hn2))
      have MZ := qh (Mv.setRow Mz (b := b2) (fun h => absurd h (by omega)) #[.int .i64 2, .string ⟨#[]⟩, .string ⟨#[]⟩, .slice none 0 0, .int .i64 0, .int .i64 k, .int .i64 0])
      clear B4z B2s Rz Mz
      go_wp2_with (refine wpList_storeRow rfl rfl rfl rfl B2z sizeTok rfl (tkOne _ _ _ _ _ _ _ rfl rfl rfl rfl rfl rfl rfl) ?_)
      clear d0 d1 d2 d3 d4 d5 d6 B2z
      refine bodyPost_ret (v := .tuple #[.agg #[.int .i64 2, .string ⟨#[]⟩, .string ⟨#[]⟩, .slice none 0 0, .int .i64 0, .int .i64 k, .int .i64 0], .bool false]) (by simp [results, Tryz.results54, asAddr, hlv]) rfl ?_
      rw [HN.out]
      exact ⟨2, [], [], _, none, 0, 0, k, 0, _, rfl, rfl, MZ.out, RZ.out⟩
    | true =>
      rw [hlt] at HM HTL
      clear hlt
      go_wp2_with (go_at_call 83; refine HM.out.mono ?_)
      rintro e w3 ⟨rfl, x3⟩
      have B4b := qh (x3.block B4a)
      have B2b := qh (x3.block B2a)
      have M3 := qh (M2.ext x3)
      have HNM := qh (name_any rb s r1 w3 HS.out (R2.ext x3))
      clear x3 B4a B2a R2 M2
      go_wp2_with (go_at_call 88; refine HNM.out.mono ?_)
      rintro e w4 ⟨rfl, m4, R4⟩
      obtain ⟨nm, hnm⟩ : ∃ nm, (r1.takeWhile alnumB).map smallC = nm := ⟨_, rfl⟩
      rw [hnm]
      have HNMM := qh hnm
      have hb4 := m4.block B4b.out hn4
      have f4 := freeOf hb4 1
      have c4 := cellOf hb4 (i := 1) rfl
      have c40 := cellOf hb4 (i := 0) rfl
      have B4c := heap_setCell_same (i := 1) hb4 (.string (bs nm))
      have h4m := Mv.setCell (S := (· = b4)) (p := ⟨b4, 1, none⟩) (Mv.refl (· = b4) w4) (fun _ => rfl) (.string (bs nm))
      have B2c := h4m.block (m4.block B2b.out hn2) (show ¬ b2 = b4 from hn24)
      have R5 := R4.mv h4m (show ¬ rb = b4 from Ne.symm hn4)
      have M5 := Mv.setCell (p := ⟨b4, 1, none⟩) (M3.out.trans m4) (fun h => absurd h (by show ¬ b4 < w.heap.size; omega)) (.string (bs nm))
      clear m4 R4 hb4 h4m hnm
      go_upto_region 8 with fail
      obtain ⟨w5, hw5⟩ : ∃ w' : World, w' = w4.setCell ⟨b4, 1, none⟩ (.string (bs nm)) := ⟨_, rfl⟩
      rw [← hw5] at B4c B2c R5 M5 ⊢
      clear hw5 f4 c4 c40
      have c40 := cellOf B4c (i := 0) (v := .int .i64 2) rfl
      obtain ⟨r2, hr2⟩ : ∃ r2, r1.dropWhile alnumB = r2 := ⟨_, rfl⟩
      rw [hr2] at R5
      have HR2 := qh hr2
      clear hr2
      have HPT := qh (parts_any rb s r2 w5 HS6.out R5)
      have HRL := qh (show r2.length ≤ s.size by obtain ⟨k9, q1, _, _⟩ := R5; omega)
      cases hpx : partsL r2 with
      | none =>
        rw [hpx] at HPT
        have HN : Hid (o = none) := qh (by
          have h : openL s.size (c :: q) = o := by simpa using HTL.out
          rw [← h]
          unfold openL
          rw [HR1.out, HR2.out, hpx]
          rfl)
        clear hpx
        go_wp2_with (go_at_call 90; refine HPT.out.mono ?_)
        rintro e w6 ⟨e5, rfl, m6, R6⟩
        have hlw6 : LW w6 := HL.out _ (M5.trans m6)
        have HOWN := qh (fun W (x : Ext w6 W) => owned_any [] (.slice none 0 0) W ⟨rfl, none, 0, rfl, Nat.le_refl _, fun _ => ⟨rfl, rfl⟩, fun a h => by cases h⟩ (by decide) (fun p hp => by cases hp) (hlw6.ext x))
        clear hlw6
        have B4d := m6.block B4c hn4
        have B2d := m6.block B2c hn2
        have M6 := M5.trans m6
        have hws6 := M6.size
        obtain ⟨k7, g1, g2, g3⟩ := R6
        have HK7 := qh (show s.size - (e5).length = k7 by omega)
        have R6 : Rd rb s (e5) w6 := ⟨k7, g1, g2, g3⟩
        have c1 := cellOf g3 (i := 1) rfl
        have C1 := qh c1
        clear m6 g1 g2 B4c B2c R5 M5 c40 c1
        go_upto_region 14 with fail
        refine wp_region_E (S := fun w' => w'.cell? ⟨rb, 1, none⟩ = some (.int .i64 k7)) (n := 99) (by kernel_rfl) ?_
        have hS : w6.drew.cell? ⟨rb, 1, none⟩ = some (.int .i64 k7) := C1.out
        show wpE _ _ _ _ _ 99 13 (Array.replicate 13 false) _ _
        refine wpE_tk 0 51 ((.slice none 0 0)) rfl (.inl ⟨by rfl, fun w' hSw => ?_⟩) hS ?_
        · (clear hS; go_simp)
        try simp only [Act.put, zA, zB, zC]
        refine wpE_tk 2 53 (.int .i64 0) rfl (.inl ⟨by rfl, fun w' hSw => ?_⟩) hS ?_
        · (clear hS; go_simp)
        try simp only [Act.put, zA, zB, zC]
        refine wpE_tk 3 54 (.pointer (some ⟨rb, 0, none⟩)) rfl (.inl ⟨by rfl, fun w' hSw => ?_⟩) hS ?_
        · (clear hS; go_simp)
        try simp only [Act.put, zA, zB, zC]
        refine wpE_tk 4 55 (.pointer (some ⟨rb, 0, none⟩)) rfl (.inl ⟨by rfl, fun w' hSw => ?_⟩) hS ?_
        · (clear hS; go_simp)
        try simp only [Act.put, zA, zB, zC]
        refine wpE_tk 5 56 (.pointer (some ⟨rb, 1, none⟩)) rfl (.inl ⟨by rfl, fun w' hSw => ?_⟩) hS ?_
        · (clear hS; go_simp)
        try simp only [Act.put, zA, zB, zC]
        refine wpE_tk 6 57 (.int .i64 k7) rfl (.inl ⟨by rfl, fun w' hSw => ?_⟩) hS ?_
        · (clear hS; go_simp)
        try simp only [Act.put, zA, zB, zC]
        obtain ⟨wd, hwd⟩ : ∃ wd : World, wd = w6.drew := ⟨_, rfl⟩
        have xd : Ext w6 wd := by rw [hwd]; exact (Ext.refl w6).drew
        rw [← hwd] at hS ⊢
        clear hwd
        refine wpE_on 1 (some 52) rfl (fun K hK => ?_)
        go_simp
        go_at_call 91
        refine (HOWN.out wd xd).mono ?_
        rintro e w7 ⟨ov, rfl, x7, hov⟩
        have x67 := xd.trans x7
        have hS7 := x67.cell C1.out
        refine hK.out _ _ (.inr hS7) ?_
        clear hK K hS
        try simp only [Act.put, zA, zB, zC]
        have BBw7 := x67.block B4d
        have B2w := x67.block B2d
        have mmw7 := Mv.ofExt (S := (· = b4)) (Ext.refl w7)
        have kkw7 := hS7
        have M7 := M6.ext x67
        have R7 := R6.ext x67
        have hb4d := (Array.getElem?_eq_some_iff.1 B4d).1
        have hb2d := (Array.getElem?_eq_some_iff.1 B2d).1
        have hov2 := RowP.imp hov (q := fun g => w6.heap.size ≤ g) (fun g _ hg => Nat.le_trans xd.size hg)
        obtain ⟨ova, ovc, rfl, _⟩ := hov2.rd.len_of
        clear x7 xd x67 B4d B2d M6 R6 hS7 C1
        have hS := kkw7
        refine wpE_tk 7 58 (.pointer (some ⟨b4, 3, none⟩)) rfl (.inl ⟨by rfl, fun w' hSw => ?_⟩) hS ?_
        · (clear hS; go_simp)
        try simp only [Act.put, zA, zB, zC]
        have f3 := freeOf BBw7 3
        have z3 := cellOf BBw7 (i := 3) rfl
        have BBw8 := heap_setCell_same (i := 3) BBw7 (.slice ova (ownedL ([])).length ovc)
        have mmw8 := Mv.setCell (S := (· = b4)) (p := ⟨b4, 3, none⟩) mmw7 (fun _ => rfl) (.slice ova (ownedL ([])).length ovc)
        have kkw8 := (Mv.setCell (S := (· = b4)) (p := ⟨b4, 3, none⟩) (Mv.refl (· = b4) w7) (fun _ => rfl) (.slice ova (ownedL ([])).length ovc)).cell kkw7 (show ¬ rb = b4 from Ne.symm hn4)
        refine wpE_on 8 (none) rfl (fun K hK => ?_)
        go_simp
        refine hK.out _ _ (.inr kkw8) ?_
        clear hK K
        obtain ⟨w8, hww8⟩ : ∃ w' : World, w' = w7.setCell ⟨b4, 3, none⟩ (.slice ova (ownedL ([])).length ovc) := ⟨_, rfl⟩
        rw [← hww8] at BBw8 mmw8 kkw8 ⊢
        clear hww8 f3 z3 BBw7 mmw7 kkw7
        clear hS
        have hS := kkw8
        refine wpE_tk 9 59 (.pointer (some ⟨b4, 4, none⟩)) rfl (.inl ⟨by rfl, fun w' hSw => ?_⟩) hS ?_
        · (clear hS; go_simp)
        try simp only [Act.put, zA, zB, zC]
        have f4 := freeOf BBw8 4
        have z4 := cellOf BBw8 (i := 4) rfl
        have BBw9 := heap_setCell_same (i := 4) BBw8 (.int .i64 0)
        have mmw9 := Mv.setCell (S := (· = b4)) (p := ⟨b4, 4, none⟩) mmw8 (fun _ => rfl) (.int .i64 0)
        have kkw9 := (Mv.setCell (S := (· = b4)) (p := ⟨b4, 4, none⟩) (Mv.refl (· = b4) w8) (fun _ => rfl) (.int .i64 0)).cell kkw8 (show ¬ rb = b4 from Ne.symm hn4)
        refine wpE_on 10 (none) rfl (fun K hK => ?_)
        go_simp
        refine hK.out _ _ (.inr kkw9) ?_
        clear hK K
        obtain ⟨w9, hww9⟩ : ∃ w' : World, w' = w8.setCell ⟨b4, 4, none⟩ (.int .i64 0) := ⟨_, rfl⟩
        rw [← hww9] at BBw9 mmw9 kkw9 ⊢
        clear hww9 f4 z4 BBw8 mmw8 kkw8
        clear hS
        have hS := kkw9
        refine wpE_tk 11 60 (.pointer (some ⟨b4, 6, none⟩)) rfl (.inl ⟨by rfl, fun w' hSw => ?_⟩) hS ?_
        · (clear hS; go_simp)
        try simp only [Act.put, zA, zB, zC]
        have f6 := freeOf BBw9 6
        have z6 := cellOf BBw9 (i := 6) rfl
        have BBw10 := heap_setCell_same (i := 6) BBw9 (.int .i64 (k7 : Int))
        have mmw10 := Mv.setCell (S := (· = b4)) (p := ⟨b4, 6, none⟩) mmw9 (fun _ => rfl) (.int .i64 (k7 : Int))
        have kkw10 := (Mv.setCell (S := (· = b4)) (p := ⟨b4, 6, none⟩) (Mv.refl (· = b4) w9) (fun _ => rfl) (.int .i64 (k7 : Int))).cell kkw9 (show ¬ rb = b4 from Ne.symm hn4)
        refine wpE_on 12 (none) rfl (fun K hK => ?_)
        go_simp
        refine hK.out _ _ (.inr kkw10) ?_
        clear hK K
        obtain ⟨w10, hww10⟩ : ∃ w' : World, w' = w9.setCell ⟨b4, 6, none⟩ (.int .i64 (k7 : Int)) := ⟨_, rfl⟩
        rw [← hww10] at BBw10 mmw10 kkw10 ⊢
        clear hww10 f6 z6 BBw9 mmw9 kkw9
        clear hS
        refine wpE_done (by kernel_rfl) ?_
        have B4z := BBw10
        have B2z := mmw10.block B2w (show ¬ b2 = b4 from hn24)
        have Rz := R7.mv mmw10 (show ¬ rb = b4 from Ne.symm hn4)
        have Mz := Mv.over M7 mmw10 (fun x hx hb => by
          have hb' : x = b4 := hb
          omega)
        have d0 := cellOf B4z (i := 0) (v := .int .i64 2) rfl
        have d1 := cellOf B4z (i := 1) (v := .string (bs nm)) rfl
        have d2 := cellOf B4z (i := 2) (v := .string ⟨#[]⟩) rfl
        have d3 := cellOf B4z (i := 3) (v := .slice ova (ownedL ([])).length ovc) rfl
        have d4 := cellOf B4z (i := 4) (v := .int .i64 0) rfl
        have d5 := cellOf B4z (i := 5) (v := .int .i64 k) rfl
        have d6 := cellOf B4z (i := 6) (v := .int .i64 (k7 : Int)) rfl
        have B2s := heap_setRow_same (vs := #[.int .i64 2, .string (bs nm), .string ⟨#[]⟩, .slice ova (ownedL ([])).length ovc, .int .i64 0, .int .i64 k, .int .i64 (k7 : Int)]) B2z
        have hlv := run_loadVar_row (P := Tryz.prog) _ b2 55 55 _ (0, 0) _ B2s Tryz.underlying55 rfl (by kernel_rfl)
        have RZ := qh (Rz.mv (Mv.setRow (S := (· = b2)) (Mv.refl (· = b2) _) (fun _ => rfl) #[.int .i64 2, .string (bs nm), .string ⟨#[]⟩, .slice ova (ownedL ([])).length ovc, .int .i64 0, .int .i64 k, .int .i64 (k7 : Int)]) (show ¬ rb = b2 from Ne.symm hn2))
        have MZ := qh (Mv.setRow Mz (b := b2) (fun h => absurd h (by omega)) #[.int .i64 2, .string (bs nm), .string ⟨#[]⟩, .slice ova (ownedL ([])).length ovc, .int .i64 0, .int .i64 k, .int .i64 (k7 : Int)])
        have OVZ := qh ((RowP.imp ((hov2.mv mmw10 (fun g hg => by have hg' : w6.heap.size ≤ g := hg; show ¬ g = b4; omega)).mv (Mv.setRow (S := (· = b2)) (Mv.refl (· = b2) _) (fun _ => rfl) #[.int .i64 2, .string (bs nm), .string ⟨#[]⟩, .slice ova (ownedL ([])).length ovc, .int .i64 0, .int .i64 k, .int .i64 (k7 : Int)]) (fun g hg => by have hg' : w6.heap.size ≤ g := hg; show ¬ g = b2; omega)) (q := fun g => w.heap.size ≤ g) (fun g _ hg => by have hg' : w6.heap.size ≤ g := hg; omega)))
        clear B4z B2s Rz Mz
        go_wp2_with (refine wpList_storeRow rfl rfl rfl rfl B2z sizeTok rfl (tkOne _ _ _ _ _ _ _ rfl rfl rfl rfl rfl rfl rfl) ?_)
        clear d0 d1 d2 d3 d4 d5 d6 B2z
        refine bodyPost_ret (v := .tuple #[.agg #[.int .i64 2, .string (bs nm), .string ⟨#[]⟩, .slice ova (ownedL ([])).length ovc, .int .i64 0, .int .i64 k, .int .i64 (k7 : Int)], .bool false]) (by simp [results, Tryz.results54, asAddr, hlv]) rfl ?_
        rw [HN.out]
        obtain ⟨oa, oc, eo, _⟩ := OVZ.out.rd.len_of
        exact ⟨2, nm, [], _, oa, oc, 0, k, _, _, rfl, eo, MZ.out, RZ.out⟩
      | some x =>
        obtain ⟨l, self, e5⟩ := x
        have hok := partsL_ok 1000000 r2 _ (by have h8 := HRL.out; have := HS6.out; omega) hpx
        have HOK := qh hok
        rw [hpx] at HPT
        have HN : Hid (o = some (⟨2, nm, [], ownedL l, self, k, s.size - e5.length⟩, e5)) := qh (by
          have h : openL s.size (c :: q) = o := by simpa using HTL.out
          rw [← h]
          unfold openL
          rw [HR1.out, HR2.out, hpx]
          unfold tagN
          rw [HR1.out, HNMM.out]
          have h8 := HQ.out.2.2
          rw [show s.size - (c :: q).length = k by omega]
          rfl)
        clear hpx hok
        go_wp2_with (go_at_call 90; refine HPT.out.mono ?_)
        rintro e w6 ⟨lv, rfl, m6, R6, hrow6⟩
        obtain ⟨zs, hzs⟩ : ∃ z : Int, (if self then (1 : Int) else 0) = z := ⟨_, rfl⟩
        rw [hzs]
        have HZS := qh hzs
        have hlw6 : LW w6 := HL.out _ (M5.trans m6)
        have HOWN := qh (fun W (x : Ext w6 W) => owned_any l lv W (hrow6.rd.ext x) (by have h8 := HOK.out.2; have h9 := HRL.out; have := HS6.out; omega) (fun p hp => HOK.out.1 p hp) (hlw6.ext x))
        clear hzs hrow6 hlw6
        have B4d := m6.block B4c hn4
        have B2d := m6.block B2c hn2
        have M6 := M5.trans m6
        have hws6 := M6.size
        obtain ⟨k7, g1, g2, g3⟩ := R6
        have HK7 := qh (show s.size - (e5).length = k7 by omega)
        have R6 : Rd rb s (e5) w6 := ⟨k7, g1, g2, g3⟩
        have c1 := cellOf g3 (i := 1) rfl
        have C1 := qh c1
        clear m6 g1 g2 B4c B2c R5 M5 c40 c1
        go_upto_region 14 with fail
        refine wp_region_E (S := fun w' => w'.cell? ⟨rb, 1, none⟩ = some (.int .i64 k7)) (n := 99) (by kernel_rfl) ?_
        have hS : w6.drew.cell? ⟨rb, 1, none⟩ = some (.int .i64 k7) := C1.out
        show wpE _ _ _ _ _ 99 13 (Array.replicate 13 false) _ _
        refine wpE_tk 0 51 (lv) rfl (.inl ⟨by rfl, fun w' hSw => ?_⟩) hS ?_
        · (clear hS; go_simp)
        try simp only [Act.put, zA, zB, zC]
        refine wpE_tk 2 53 (.int .i64 zs) rfl (.inl ⟨by rfl, fun w' hSw => ?_⟩) hS ?_
        · (clear hS; go_simp)
        try simp only [Act.put, zA, zB, zC]
        refine wpE_tk 3 54 (.pointer (some ⟨rb, 0, none⟩)) rfl (.inl ⟨by rfl, fun w' hSw => ?_⟩) hS ?_
        · (clear hS; go_simp)
        try simp only [Act.put, zA, zB, zC]
        refine wpE_tk 4 55 (.pointer (some ⟨rb, 0, none⟩)) rfl (.inl ⟨by rfl, fun w' hSw => ?_⟩) hS ?_
        · (clear hS; go_simp)
        try simp only [Act.put, zA, zB, zC]
        refine wpE_tk 5 56 (.pointer (some ⟨rb, 1, none⟩)) rfl (.inl ⟨by rfl, fun w' hSw => ?_⟩) hS ?_
        · (clear hS; go_simp)
        try simp only [Act.put, zA, zB, zC]
        refine wpE_tk 6 57 (.int .i64 k7) rfl (.inl ⟨by rfl, fun w' hSw => ?_⟩) hS ?_
        · (clear hS; go_simp)
        try simp only [Act.put, zA, zB, zC]
        obtain ⟨wd, hwd⟩ : ∃ wd : World, wd = w6.drew := ⟨_, rfl⟩
        have xd : Ext w6 wd := by rw [hwd]; exact (Ext.refl w6).drew
        rw [← hwd] at hS ⊢
        clear hwd
        refine wpE_on 1 (some 52) rfl (fun K hK => ?_)
        go_simp
        go_at_call 91
        refine (HOWN.out wd xd).mono ?_
        rintro e w7 ⟨ov, rfl, x7, hov⟩
        have x67 := xd.trans x7
        have hS7 := x67.cell C1.out
        refine hK.out _ _ (.inr hS7) ?_
        clear hK K hS
        try simp only [Act.put, zA, zB, zC]
        have BBw7 := x67.block B4d
        have B2w := x67.block B2d
        have mmw7 := Mv.ofExt (S := (· = b4)) (Ext.refl w7)
        have kkw7 := hS7
        have M7 := M6.ext x67
        have R7 := R6.ext x67
        have hb4d := (Array.getElem?_eq_some_iff.1 B4d).1
        have hb2d := (Array.getElem?_eq_some_iff.1 B2d).1
        have hov2 := RowP.imp hov (q := fun g => w6.heap.size ≤ g) (fun g _ hg => Nat.le_trans xd.size hg)
        obtain ⟨ova, ovc, rfl, _⟩ := hov2.rd.len_of
        clear x7 xd x67 B4d B2d M6 R6 hS7 C1
        have hS := kkw7
        refine wpE_tk 7 58 (.pointer (some ⟨b4, 3, none⟩)) rfl (.inl ⟨by rfl, fun w' hSw => ?_⟩) hS ?_
        · (clear hS; go_simp)
        try simp only [Act.put, zA, zB, zC]
        have f3 := freeOf BBw7 3
        have z3 := cellOf BBw7 (i := 3) rfl
        have BBw8 := heap_setCell_same (i := 3) BBw7 (.slice ova (ownedL (l)).length ovc)
        have mmw8 := Mv.setCell (S := (· = b4)) (p := ⟨b4, 3, none⟩) mmw7 (fun _ => rfl) (.slice ova (ownedL (l)).length ovc)
        have kkw8 := (Mv.setCell (S := (· = b4)) (p := ⟨b4, 3, none⟩) (Mv.refl (· = b4) w7) (fun _ => rfl) (.slice ova (ownedL (l)).length ovc)).cell kkw7 (show ¬ rb = b4 from Ne.symm hn4)
        refine wpE_on 8 (none) rfl (fun K hK => ?_)
        go_simp
        refine hK.out _ _ (.inr kkw8) ?_
        clear hK K
        obtain ⟨w8, hww8⟩ : ∃ w' : World, w' = w7.setCell ⟨b4, 3, none⟩ (.slice ova (ownedL (l)).length ovc) := ⟨_, rfl⟩
        rw [← hww8] at BBw8 mmw8 kkw8 ⊢
        clear hww8 f3 z3 BBw7 mmw7 kkw7
        clear hS
        have hS := kkw8
        refine wpE_tk 9 59 (.pointer (some ⟨b4, 4, none⟩)) rfl (.inl ⟨by rfl, fun w' hSw => ?_⟩) hS ?_
        · (clear hS; go_simp)
        try simp only [Act.put, zA, zB, zC]
        have f4 := freeOf BBw8 4
        have z4 := cellOf BBw8 (i := 4) rfl
        have BBw9 := heap_setCell_same (i := 4) BBw8 (.int .i64 zs)
        have mmw9 := Mv.setCell (S := (· = b4)) (p := ⟨b4, 4, none⟩) mmw8 (fun _ => rfl) (.int .i64 zs)
        have kkw9 := (Mv.setCell (S := (· = b4)) (p := ⟨b4, 4, none⟩) (Mv.refl (· = b4) w8) (fun _ => rfl) (.int .i64 zs)).cell kkw8 (show ¬ rb = b4 from Ne.symm hn4)
        refine wpE_on 10 (none) rfl (fun K hK => ?_)
        go_simp
        refine hK.out _ _ (.inr kkw9) ?_
        clear hK K
        obtain ⟨w9, hww9⟩ : ∃ w' : World, w' = w8.setCell ⟨b4, 4, none⟩ (.int .i64 zs) := ⟨_, rfl⟩
        rw [← hww9] at BBw9 mmw9 kkw9 ⊢
        clear hww9 f4 z4 BBw8 mmw8 kkw8
        clear hS
        have hS := kkw9
        refine wpE_tk 11 60 (.pointer (some ⟨b4, 6, none⟩)) rfl (.inl ⟨by rfl, fun w' hSw => ?_⟩) hS ?_
        · (clear hS; go_simp)
        try simp only [Act.put, zA, zB, zC]
        have f6 := freeOf BBw9 6
        have z6 := cellOf BBw9 (i := 6) rfl
        have BBw10 := heap_setCell_same (i := 6) BBw9 (.int .i64 (k7 : Int))
        have mmw10 := Mv.setCell (S := (· = b4)) (p := ⟨b4, 6, none⟩) mmw9 (fun _ => rfl) (.int .i64 (k7 : Int))
        have kkw10 := (Mv.setCell (S := (· = b4)) (p := ⟨b4, 6, none⟩) (Mv.refl (· = b4) w9) (fun _ => rfl) (.int .i64 (k7 : Int))).cell kkw9 (show ¬ rb = b4 from Ne.symm hn4)
        refine wpE_on 12 (none) rfl (fun K hK => ?_)
        go_simp
        refine hK.out _ _ (.inr kkw10) ?_
        clear hK K
        obtain ⟨w10, hww10⟩ : ∃ w' : World, w' = w9.setCell ⟨b4, 6, none⟩ (.int .i64 (k7 : Int)) := ⟨_, rfl⟩
        rw [← hww10] at BBw10 mmw10 kkw10 ⊢
        clear hww10 f6 z6 BBw9 mmw9 kkw9
        clear hS
        refine wpE_done (by kernel_rfl) ?_
        have B4z := BBw10
        have B2z := mmw10.block B2w (show ¬ b2 = b4 from hn24)
        have Rz := R7.mv mmw10 (show ¬ rb = b4 from Ne.symm hn4)
        have Mz := Mv.over M7 mmw10 (fun x hx hb => by
          have hb' : x = b4 := hb
          omega)
        have d0 := cellOf B4z (i := 0) (v := .int .i64 2) rfl
        have d1 := cellOf B4z (i := 1) (v := .string (bs nm)) rfl
        have d2 := cellOf B4z (i := 2) (v := .string ⟨#[]⟩) rfl
        have d3 := cellOf B4z (i := 3) (v := .slice ova (ownedL (l)).length ovc) rfl
        have d4 := cellOf B4z (i := 4) (v := .int .i64 zs) rfl
        have d5 := cellOf B4z (i := 5) (v := .int .i64 k) rfl
        have d6 := cellOf B4z (i := 6) (v := .int .i64 (k7 : Int)) rfl
        have B2s := heap_setRow_same (vs := #[.int .i64 2, .string (bs nm), .string ⟨#[]⟩, .slice ova (ownedL (l)).length ovc, .int .i64 zs, .int .i64 k, .int .i64 (k7 : Int)]) B2z
        have hlv := run_loadVar_row (P := Tryz.prog) _ b2 55 55 _ (0, 0) _ B2s Tryz.underlying55 rfl (by kernel_rfl)
        have RZ := qh (Rz.mv (Mv.setRow (S := (· = b2)) (Mv.refl (· = b2) _) (fun _ => rfl) #[.int .i64 2, .string (bs nm), .string ⟨#[]⟩, .slice ova (ownedL (l)).length ovc, .int .i64 zs, .int .i64 k, .int .i64 (k7 : Int)]) (show ¬ rb = b2 from Ne.symm hn2))
        have MZ := qh (Mv.setRow Mz (b := b2) (fun h => absurd h (by omega)) #[.int .i64 2, .string (bs nm), .string ⟨#[]⟩, .slice ova (ownedL (l)).length ovc, .int .i64 zs, .int .i64 k, .int .i64 (k7 : Int)])
        have OVZ := qh ((RowP.imp ((hov2.mv mmw10 (fun g hg => by have hg' : w6.heap.size ≤ g := hg; show ¬ g = b4; omega)).mv (Mv.setRow (S := (· = b2)) (Mv.refl (· = b2) _) (fun _ => rfl) #[.int .i64 2, .string (bs nm), .string ⟨#[]⟩, .slice ova (ownedL (l)).length ovc, .int .i64 zs, .int .i64 k, .int .i64 (k7 : Int)]) (fun g hg => by have hg' : w6.heap.size ≤ g := hg; show ¬ g = b2; omega)) (q := fun g => w.heap.size ≤ g) (fun g _ hg => by have hg' : w6.heap.size ≤ g := hg; omega)))
        clear B4z B2s Rz Mz
        go_wp2_with (refine wpList_storeRow rfl rfl rfl rfl B2z sizeTok rfl (tkOne _ _ _ _ _ _ _ rfl rfl rfl rfl rfl rfl rfl) ?_)
        clear d0 d1 d2 d3 d4 d5 d6 B2z
        refine bodyPost_ret (v := .tuple #[.agg #[.int .i64 2, .string (bs nm), .string ⟨#[]⟩, .slice ova (ownedL (l)).length ovc, .int .i64 zs, .int .i64 k, .int .i64 (k7 : Int)], .bool true]) (by simp [results, Tryz.results54, asAddr, hlv]) rfl ?_
        rw [HN.out, HK7.out]
        exact ⟨_, by rw [HZS.out]; rfl, MZ.out, RZ.out, OVZ.out⟩
abbrev TkA := Tk × Value
def selfZ (b : Bool) : Int := if b then 1 else 0
def tkC (p : TkA) : List Value := [.int .i64 p.1.kind, .string (bs p.1.name), .string (bs p.1.text), p.2, .int .i64 (selfZ p.1.self), .int .i64 (p.1.lo : Int), .int .i64 (p.1.hi : Int)]
theorem tkC_len (p : TkA) : (tkC p).length = 7 := rfl
def tkCells (L : List TkA) : List Value := L.flatMap tkC
theorem tkCells_len (L : List TkA) : (tkCells L).length = L.length * 7 := by
  induction L with
  | nil => rfl
  | cons p L ih =>
    show (tkC p ++ tkCells L).length = _
    rw [List.length_append, ih, tkC_len, List.length_cons]
    omega
theorem tkCells_append (a b : List TkA) : tkCells (a ++ b) = tkCells a ++ tkCells b := List.flatMap_append
theorem tkCells_get {L : List TkA} {i f : Nat} {p : TkA} {v : Value} (h : L[i]? = some p) (hv : (tkC p)[f]? = some v) : (tkCells L)[i * 7 + f]? = some v := by
  have hf := (List.getElem?_eq_some_iff.1 hv).1
  rw [tkC_len] at hf
  induction L generalizing i with
  | nil => cases h
  | cons q L ih =>
    show (tkC q ++ tkCells L)[i * 7 + f]? = _
    cases i with
    | zero =>
      have : q = p := by simpa using h
      subst this
      rw [Nat.zero_mul, Nat.zero_add, List.getElem?_append_left (by rw [tkC_len]; exact hf)]
      exact hv
    | succ i =>
      rw [List.getElem?_append_right (by rw [tkC_len]; omega), tkC_len, show (i + 1) * 7 + f - 7 = i * 7 + f by omega]
      exact ih (by simpa using h)
theorem tkCells_set {L : List TkA} {i f : Nat} {p p' : TkA} {v : Value} (h : L[i]? = some p) (hf : f < 7) (hv : (tkC p).set f v = tkC p') : (tkCells L).set (i * 7 + f) v = tkCells (L.set i p') := by
  induction L generalizing i with
  | nil => cases h
  | cons q L ih =>
    cases i with
    | zero =>
      have : q = p := by simpa using h
      subst this
      show (tkC q ++ tkCells L).set (0 * 7 + f) v = tkC p' ++ tkCells L
      rw [Nat.zero_mul, Nat.zero_add, List.set_append_left _ _ (by rw [tkC_len]; exact hf), hv]
    | succ i =>
      show (tkC q ++ tkCells L).set ((i + 1) * 7 + f) v = tkC q ++ tkCells (L.set i p')
      rw [List.set_append_right _ _ (by rw [tkC_len]; omega), tkC_len, show (i + 1) * 7 + f - 7 = i * 7 + f by omega, ih (by simpa using h)]
structure TL (B : Nat) (N : Nat → Prop) (lb : Nat) (L : List TkA) (lv : Value) (gb : Option Nat) (w : World) : Prop where
  box : w.heap[lb]? = some (.cells #[lv] 44 (0, 0))
  row : RowP w (fun g => gb = some g ∧ B ≤ g ∧ ¬ N g) 55 7 lv L.length (tkCells L)
  blk : ∀ z, gb = some z → z < w.heap.size ∧ B ≤ z ∧ ¬ N z
  att : ∀ p ∈ L, RowP w (fun g => B ≤ g ∧ ¬ N g ∧ gb ≠ some g ∧ g < w.heap.size) 104 2 p.2 p.1.attrs.length (attrCells p.1.attrs)
section
variable {B lb : Nat} {N : Nat → Prop} {L : List TkA} {lv : Value} {gb : Option Nat} {w w' : World}
theorem TL.mv {S : Nat → Prop} (h : TL B N lb L lv gb w) (k : Mv S w w') (hS : ∀ g, S g → N g) (hl : ¬ S lb) : TL B N lb L lv gb w' :=
  ⟨k.block h.box hl, h.row.mv k fun g hg hs => hg.2.2 (hS g hs), fun z hz => ⟨Nat.lt_of_lt_of_le (h.blk z hz).1 k.size, (h.blk z hz).2⟩,
   fun p hp => RowP.imp ((h.att p hp).mv k fun g hg hs => hg.2.1 (hS g hs)) fun g _ hg => ⟨hg.1, hg.2.1, hg.2.2.1, Nat.lt_of_lt_of_le hg.2.2.2 k.size⟩⟩
theorem TL.ext (h : TL B N lb L lv gb w) (k : Ext w w') : TL B N lb L lv gb w' := h.mv (S := fun _ => False) (Mv.ofExt k) (fun _ h => h.elim) id
theorem TL.some_ (h : TL B N lb L lv gb w) (hL : 0 < L.length) : ∃ g cap cur, gb = some g ∧ B ≤ g ∧ ¬ N g ∧ lv = .slice (some ⟨g, 0, none⟩) L.length cap ∧ w.heap[g]? = some (.cells cur 55 (0, 0)) ∧ L.length ≤ cap ∧ cap ≤ maxLen ∧ cur.size = cap * 7 ∧ cur.toList.take (L.length * 7) = tkCells L := by
  rcases h.row.2 with ⟨h0, _⟩ | ⟨g, cap, cur, h1, h2, h3, h4, h5, h6, h7⟩
  · omega
  · exact ⟨g, cap, cur, h2.1, h2.2.1, h2.2.2, h1, h3, h4, h5, h6, h7⟩
theorem row_cell {g : Nat} {cur : Array Value} {T : TypeId} {n : Nat} (h3 : w.heap[g]? = some (.cells cur T (0, 0))) (h7 : cur.toList.take (n * 7) = tkCells L) {i f : Nat} {p : TkA} {v : Value} (hp : L[i]? = some p) (hv : (tkC p)[f]? = some v) :
    w.cell? ⟨g, i * 7 + f, none⟩ = some v := by
  refine cellOf h3 ?_
  have h := tkCells_get hp hv
  rw [← h7, List.getElem?_take] at h
  split at h
  · rw [← Array.getElem?_toList]; exact h
  · cases h
theorem TL.set (h : TL B N lb L lv gb w) {i f : Nat} {p p' : TkA} {v : Value} (hp : L[i]? = some p) (hf : f < 7) (hv : (tkC p).set f v = tkC p') (h2 : p'.2 = p.2) (ha : p'.1.attrs = p.1.attrs) (hN : N lb) {g : Nat} (hg : gb = some g) :
    TL B N lb (L.set i p') lv gb (w.setCell ⟨g, i * 7 + f, none⟩ v) := by
  have hi := (List.getElem?_eq_some_iff.1 hp).1
  obtain ⟨g', cap, cur, e1, e2, e3, e4, e5, e6, e7, e8, e9⟩ := h.some_ (by omega)
  rw [hg] at e1
  cases e1
  have hm : Mv (fun x => x = g) w (w.setCell ⟨g, i * 7 + f, none⟩ v) := Mv.setRb (Mv.refl _ w) v
  have hbox : (w.setCell ⟨g, i * 7 + f, none⟩ v).heap[lb]? = _ := hm.block h.box (fun e => e3 (by rw [← (show lb = g from e)]; exact hN))
  refine ⟨hbox, ?_, fun z hz => ⟨Nat.lt_of_lt_of_le (h.blk z hz).1 hm.size, (h.blk z hz).2⟩, fun q hq => ?_⟩
  · refine ⟨?_, .inr ⟨g, cap, _, by rw [List.length_set]; exact e4, ⟨hg, e2, e3⟩, heap_setCell_same e5 v, by rw [List.length_set]; exact e6, e7, by simpa using e8, ?_⟩⟩
    · rw [tkCells_len]
    · rw [Array.toList_setIfInBounds, List.length_set, List.take_set, e9, tkCells_set hp hf hv]
  · have key : ∀ q0 ∈ L, RowP (w.setCell ⟨g, i * 7 + f, none⟩ v) (fun x => B ≤ x ∧ ¬ N x ∧ gb ≠ some x ∧ x < (w.setCell ⟨g, i * 7 + f, none⟩ v).heap.size) 104 2 q0.2 q0.1.attrs.length (attrCells q0.1.attrs) := fun q0 hq0 =>
      RowP.imp ((h.att q0 hq0).mv hm fun x hx hs => hx.2.2.1 (by rw [hg, hs])) fun x _ hx => ⟨hx.1, hx.2.1, hx.2.2.1, Nat.lt_of_lt_of_le hx.2.2.2 hm.size⟩
    rcases List.mem_or_eq_of_mem_set hq with hq | rfl
    · exact key q hq
    · rw [h2, ha]; exact key p (List.mem_of_getElem? hp)
theorem infoTok : (Tryz.prog.info? 55).map (fun i => (i.zero, i.size, i.bytes)) = some (some (.agg #[.int .i64 0, .string ByteArray.empty, .string ByteArray.empty, .slice none 0 0, .int .i64 0, .int .i64 0, .int .i64 0]), 7, 88) := by kernel_rfl
theorem tkC_one (p : TkA) (h : p.2.oneCell' = true) : ∀ u ∈ tkC p, u.oneCell' = true := by
  intro u hu
  unfold tkC at hu
  simp only [List.mem_cons, List.not_mem_nil, or_false] at hu
  rcases hu with rfl | rfl | rfl | rfl | rfl | rfl | rfl <;> first | rfl | exact h
theorem TL.push (h : TL B N lb L lv gb w) (hlen : L.length ≤ 1000000) (hN : ∀ g, N g → g < w.heap.size) (hNl : N lb) (hB : B ≤ w.heap.size) (p : TkA) (hone : p.2.oneCell' = true)
    (hav : RowP w (fun g => B ≤ g ∧ ¬ N g ∧ gb ≠ some g ∧ g < w.heap.size) 104 2 p.2 p.1.attrs.length (attrCells p.1.attrs)) {cs : Array Value} (hcs : cs.toList = tkC p) :
    ∃ (a : Option Addr) (cap : Nat) (wB : World), (Builtin.append_ #[44, 44] 44 #[lv, .slice (some ⟨w.heap.size, 0, none⟩) 1 1]).run Tryz.prog (w.alloc (.cells cs 55)) = .ok (.slice a (L.length + 1) cap) wB ∧
      wB.heap[lb]? = some (.cells #[lv] 44 (0, 0)) ∧ Mv (fun g => gb = some g) w wB ∧
      ∃ gb', TL B N lb (L ++ [p]) (.slice a (L.length + 1) cap) gb' (wB.setCell ⟨lb, 0, none⟩ (.slice a (L.length + 1) cap)) := by
  obtain ⟨i0, hi, hz0, hz1, hz2⟩ := info_parts infoTok
  have hxa := (Ext.refl w).alloc (.cells cs 55)
  have hA := h.ext hxa
  have hna := heap_alloc_new w (.cells cs 55)
  have hszA : (w.alloc (.cells cs 55)).heap.size = w.heap.size + 1 := by simp
  obtain ⟨v', wB, row, hrun, hr, hg, hrow⟩ := run_append_row (P := Tryz.prog) (w.alloc (.cells cs 55)) 44 44 55 i0 _ 7 88 Tryz.underlying44 hi hz0 hz1 hz2 (by kernel_rfl) (by decide)
    hA.row ⟨w.heap.size, 0, none⟩ 1 1 (tkC p) rfl (by
      intro j u hj
      rw [Addr.add_lit, Nat.zero_add]
      refine cellOf hna ?_
      rw [← Array.getElem?_toList, hcs]; exact hj) (tkC_one p hone) (by decide) (by unfold maxLen; omega) (by omega)
  obtain ⟨a, cap, e, _⟩ := hr.rd.len_of
  subst e
  have hmB : Mv (fun g => gb = some g) w wB := (Mv.ofExt hxa).grown hg fun k hk _ => (hrow k hk).1
  have hboxB : wB.heap[lb]? = some (.cells #[lv] 44 (0, 0)) := hmB.block h.box fun e => (h.blk lb e).2.2 hNl
  have hmL : Mv (fun x => x = lb) wB (wB.setCell ⟨lb, 0, none⟩ (.slice a (L.length + 1) cap)) := Mv.setRb (Mv.refl _ wB) _
  have hsw := hmB.size
  have hnew : ∀ g, (Value.slice a (L.length + 1) cap).ownBlock = some g → (gb = some g ∧ B ≤ g ∧ ¬ N g) ∨ (w.alloc (.cells cs 55)).heap.size ≤ g := by
    intro g hgo
    rcases hr.2 with ⟨h0, _⟩ | ⟨g', cap', cur, h1, h2, h3, _⟩
    · omega
    · rw [h1] at hgo
      cases hgo
      exact h2
  have hnew2 : ∀ g, (Value.slice a (L.length + 1) cap).ownBlock = some g → g < wB.heap.size := by
    intro g hgo
    rcases hr.2 with ⟨h0, _⟩ | ⟨g', cap', cur, h1, h2, h3, _⟩
    · omega
    · rw [h1] at hgo
      cases hgo
      exact (Array.getElem?_eq_some_iff.1 h3).1
  have hok : ∀ g, (Value.slice a (L.length + 1) cap).ownBlock = some g → B ≤ g ∧ ¬ N g := by
    intro g hgo
    rcases hnew g hgo with h1 | h1
    · exact h1.2
    · exact ⟨by omega, fun hn => by have := hN g hn; omega⟩
  refine ⟨a, cap, wB, hrun, hboxB, hmB, (Value.slice a (L.length + 1) cap).ownBlock, ⟨heap_setCell_same hboxB _, ?_, fun z hz => ⟨Nat.lt_of_lt_of_le (hnew2 z hz) hmL.size, hok z hz⟩, fun q hq => ?_⟩⟩
  · rw [List.length_append, tkCells_append]
    have hr2 : RowP wB (fun g => (Value.slice a (L.length + 1) cap).ownBlock = some g ∧ B ≤ g ∧ ¬ N g) 55 7 (.slice a (L.length + 1) cap) (L.length + 1) (tkCells L ++ tkC p) := RowP.imp hr fun g hgo _ => ⟨hgo, hok g hgo⟩
    have hr3 := hr2.mv hmL fun g hg2 e => hg2.2.2 (by rw [(show g = lb from e)]; exact hNl)
    have e1 : tkCells [p] = tkC p := by show tkC p ++ [] = _; rw [List.append_nil]
    rw [e1]
    exact hr3
  · have hq0 : RowP w (fun g => B ≤ g ∧ ¬ N g ∧ gb ≠ some g ∧ g < w.heap.size) 104 2 q.2 q.1.attrs.length (attrCells q.1.attrs) := by
      rcases List.mem_append.1 hq with hq | hq
      · exact h.att q hq
      · have : q = p := by simpa using hq
        rw [this]; exact hav
    have h1 := hq0.mv hmB fun g hg2 e => hg2.2.2.1 e
    have h2 := h1.mv hmL fun g hg2 e => hg2.2.1 (by rw [(show g = lb from e)]; exact hNl)
    refine RowP.imp h2 fun g _ hg2 => ⟨hg2.1, hg2.2.1, fun hgo => ?_, by have := hg2.2.2.2; have := hmL.size; omega⟩
    rcases hnew g hgo with h3 | h3
    · exact hg2.2.2.1 h3.1
    · have := hg2.2.2.2; omega
end
def Nb (lb ob sb rb : Nat) : Nat → Prop := fun g => g = lb ∨ g = ob ∨ g = sb ∨ g = rb
structure AS (B lb ob sb rb : Nat) (s : ByteArray) (op : Bool) (L : List TkA) (w : World) : Prop where
  tl : ∃ lv gb, TL B (Nb lb ob sb rb) lb L lv gb w
  ob : w.heap[ob]? = some (.cells #[.bool op] 4 (0, 0))
  sb : w.heap[sb]? = some (.cells #[.string s] 9 (0, 0))
structure Dist (B lb ob sb rb : Nat) : Prop where
  b : B ≤ sb
  sl : sb < lb
  lr : lb < rb
  ro : rb < ob
abbrev Ch (B rb sb : Nat) : Nat → Prop := fun g => B ≤ g ∧ g ≠ rb ∧ g ≠ sb
def RText (B lb ob sb rb : Nat) (s : ByteArray) (L : List TkA) (w : World) (e : Ending) (w' : World) : Prop := e = .returned (.tuple #[]) ∧ AS B lb ob sb rb s true L w' ∧ Mv (Ch B rb sb) w w'
def Tk.more (t : Tk) (pc : List UInt8) (hi : Nat) : Tk := { t with text := t.text ++ pc, hi := hi }
theorem snoc_get (D : List TkA) (p : TkA) : (D ++ [p])[D.length]? = some p := by simp
theorem snoc_set (D : List TkA) (p q : TkA) : (D ++ [p]).set D.length q = D ++ [q] := by simp
theorem text_more (B lb ob sb rb : Nat) (s : ByteArray) (D : List TkA) (p : TkA) (w : World) (hs : s.size ≤ 1000000) (hD : D.length ≤ 1000000) (hd : Dist B lb ob sb rb) (h : AS B lb ob sb rb s true (D ++ [p]) w) (htz : p.1.text.length ≤ 1000000) (k1 k2 : Nat) (hk : k1 ≤ k2) (hk2 : k2 ≤ s.size) (pc : List UInt8) (hpc : s.extract k1 k2 = bs pc) :
    Calls Tryz.prog 50 #[.int .i64 k1, .int .i64 k2, .pointer (some ⟨ob, 0, none⟩), .pointer (some ⟨lb, 0, none⟩), .pointer (some ⟨sb, 0, none⟩)] w (RText B lb ob sb rb s (D ++ [(p.1.more pc k2, p.2)]) w) := by
  obtain ⟨⟨lv, gb, TLW⟩, OBW, SBW⟩ := h
  have c2 := cellOf OBW (i := 0) (v := .bool true) rfl
  have HPC := qh hpc
  have HTZ := qh htz
  have HD := qh hd
  clear hpc htz hd
  go_enter Tryz.func50, Tryz.ntmps50
  go_upto_region 3 with fail
  clear c2
  obtain ⟨g, cap, cur, hgb, hBg, hNg, hlv, hrow, hrl, hq1, hq2, hrt⟩ := TLW.some_ (by simp)
  subst hlv
  subst hgb
  have htx := row_cell (f := 2) hrow hrt (snoc_get D p) (v := .string (bs p.1.text)) rfl
  have hhi := row_cell (f := 6) hrow hrt (snoc_get D p) (v := .int .i64 (p.1.hi : Int)) rfl
  have hff2 := freeOf hrow (D.length * 7 + 2)
  have hff6 := freeOf hrow (D.length * 7 + 6)
  have hlen1 : (D ++ [p]).length = D.length + 1 := by simp
  have c3 := cellOf TLW.box (i := 0) (v := .slice (some ⟨g, 0, none⟩) (D.length + 1) cap) (by rw [← hlen1]; rfl)
  have hcapl : D.length + 1 ≤ cap := by rw [← hlen1]; exact hrl
  obtain ⟨d, hd⟩ : ∃ d, D.length = d := ⟨_, rfl⟩
  have HDD := qh hd
  have hd6 : d ≤ 1000000 := by omega
  rw [hd] at htx hhi hff2 hff6 c3 hcapl
  have TLH := qh TLW
  have OBH := qh OBW
  have SBH := qh SBW
  have c4 := cellOf SBW (i := 0) (v := .string s) rfl
  have HNG := qh hNg
  have gl : g ≠ lb := fun e => hNg (.inl e)
  have go' : g ≠ ob := fun e => hNg (.inr (.inl e))
  have gs : g ≠ sb := fun e => hNg (.inr (.inr (.inl e)))
  have gr : g ≠ rb := fun e => hNg (.inr (.inr (.inr e)))
  clear hrow hrl hrt hlen1 hd TLW OBW SBW hNg hq1 hq2
  have hwd : IntKind.i64.wrap ((d : Int) + 1 - 1) = (d : Int) := by rw [IntWalk.i64_in _ (by omega)]; omega
  have hwd0 : (0 : Int) ≤ (d : Int) := by omega
  have hwd1 : (d : Int) < (d : Int) + 1 := by omega
  have htn : (d : Int).toNat = d := by omega
  go_upto_region 4 with fail
  clear c3 hwd hwd0 hwd1 htn
  obtain ⟨pt, hpt⟩ : ∃ pt : ByteArray, bs p.1.text = pt := ⟨_, rfl⟩
  have HPT := qh hpt
  rw [hpt] at htx
  clear hpt
  have hptz : pt.size ≤ 1000000 := by rw [← HPT.out, bs_size]; exact HTZ.out
  refine wp_region_E (S := fun w' => w'.cell? ⟨g, d * 7 + 2, none⟩ = some (.string pt) ∧ w'.cell? ⟨sb, 0, none⟩ = some (.string s)) (n := 11) (by kernel_rfl) ?_
  have hS : (w).drew.cell? ⟨g, d * 7 + 2, none⟩ = some (.string pt) ∧ (w).drew.cell? ⟨sb, 0, none⟩ = some (.string s) := ⟨htx, c4⟩
  show wpE _ _ _ _ _ 11 12 (Array.replicate 12 false) _ _
  refine wpE_tk 0 20 (.pointer (some ⟨g, d * 7, none⟩)) rfl (.inl ⟨by rfl, fun w' hSw => ?_⟩) hS ?_
  · (obtain ⟨s1, s2⟩ := hSw; clear hS; go_simp)
  try simp only [Act.put, zA, zB, zC]
  refine wpE_tk 1 21 (.pointer (some ⟨g, d * 7, none⟩)) rfl (.inl ⟨by rfl, fun w' hSw => ?_⟩) hS ?_
  · (obtain ⟨s1, s2⟩ := hSw; clear hS; go_simp)
  try simp only [Act.put, zA, zB, zC]
  refine wpE_tk 2 22 (.pointer (some ⟨g, d * 7 + 2, none⟩)) rfl (.inl ⟨by rfl, fun w' hSw => ?_⟩) hS ?_
  · (obtain ⟨s1, s2⟩ := hSw; clear hS; go_simp)
  try simp only [Act.put, zA, zB, zC]
  refine wpE_tk 3 23 (.string pt) rfl (.inl ⟨by rfl, fun w' hSw => ?_⟩) hS ?_
  · (obtain ⟨s1, s2⟩ := hSw; clear hS; go_simp)
  try simp only [Act.put, zA, zB, zC]
  refine wpE_tk 4 24 (.string s) rfl (.inl ⟨by rfl, fun w' hSw => ?_⟩) hS ?_
  · (obtain ⟨s1, s2⟩ := hSw; clear hS; go_simp)
  try simp only [Act.put, zA, zB, zC]
  refine wpE_tk 5 25 (.int .i64 k1) rfl (.inl ⟨by rfl, fun w' hSw => ?_⟩) hS ?_
  · (obtain ⟨s1, s2⟩ := hSw; clear hS; go_simp)
  try simp only [Act.put, zA, zB, zC]
  refine wpE_tk 6 26 (.int .i64 k2) rfl (.inl ⟨by rfl, fun w' hSw => ?_⟩) hS ?_
  · (obtain ⟨s1, s2⟩ := hSw; clear hS; go_simp)
  try simp only [Act.put, zA, zB, zC]
  refine wpE_tk 7 27 (.string (s.extract k1 k2)) rfl (.inl ⟨by rfl, fun w' hSw => ?_⟩) hS ?_
  · (obtain ⟨s1, s2⟩ := hSw; clear hS; go_simp)
  try simp only [Act.put, zA, zB, zC]
  refine wpE_tk 8 28 (.string (pt ++ s.extract k1 k2)) rfl (.inl ⟨by rfl, fun w' hSw => ?_⟩) hS ?_
  · (obtain ⟨s1, s2⟩ := hSw; clear hS; go_simp; omega)
  try simp only [Act.put, zA, zB, zC]
  obtain ⟨wd, hwd⟩ : ∃ wd : World, wd = (w).drew := ⟨_, rfl⟩
  have xd : Ext (w) wd := by rw [hwd]; exact (Ext.refl _).drew
  rw [← hwd] at hS ⊢
  clear hwd
  refine wpE_on 9 (some 29) rfl (fun K hK => ?_)
  go_simp
  refine hK.out _ _ (.inr hS) ?_
  clear hK K
  try simp only [Act.put, zA, zB, zC]
  refine wpE_on 10 (some 30) rfl (fun K hK => ?_)
  go_simp
  refine hK.out _ _ (.inr hS) ?_
  clear hK K
  try simp only [Act.put, zA, zB, zC]
  have TLD := TLH.out.ext xd
  have OBD := xd.block OBH.out
  have SBD := xd.block SBH.out
  have ff2 := xd.free (cell_lt htx) hff2
  have ff6 := xd.free (cell_lt htx) hff6
  have tx := hS.1
  refine wpE_on 11 (none) rfl (fun K hK => ?_)
  go_simp
  refine hK.out _ _ (.inl rfl) ?_
  clear hK K hS
  refine wpE_done (by kernel_rfl) ?_
  have hgetd : (D ++ [p])[d]? = some p := by rw [← HDD.out]; exact snoc_get D p
  have hadd : pt ++ s.extract k1 k2 = bs (p.1.text ++ pc) := by rw [← HPT.out, HPC.out, bs_add]
  have TL1 := TLD.set (i := d) (f := 2) (p := p) (p' := ({ p.1 with text := p.1.text ++ pc }, p.2)) (v := .string (pt ++ s.extract k1 k2)) hgetd (by decide) (by rw [hadd]; rfl) rfl rfl (.inl rfl) rfl
  have hget1 : ((D ++ [p]).set d ({ p.1 with text := p.1.text ++ pc }, p.2))[d]? = some ({ p.1 with text := p.1.text ++ pc }, p.2) := by rw [← HDD.out, snoc_set]; exact snoc_get D _
  have TL2 := TL1.set (i := d) (f := 6) (p' := (p.1.more pc k2, p.2)) (v := .int .i64 (k2 : Int)) hget1 (by decide) rfl rfl rfl (.inl rfl) rfl
  rw [← HDD.out, snoc_set, snoc_set, HDD.out] at TL2
  have mm1 : Mv (· = g) wd (wd.setCell ⟨g, d * 7 + 2, none⟩ (.string (pt ++ s.extract k1 k2))) := Mv.setRb (Mv.refl _ wd) _
  have mm2 : Mv (· = g) wd ((wd.setCell ⟨g, d * 7 + 2, none⟩ (.string (pt ++ s.extract k1 k2))).setCell ⟨g, d * 7 + 6, none⟩ (.int .i64 (k2 : Int))) := Mv.setRb mm1 _
  have FIN : Hid (AS B lb ob sb rb s true (D ++ [(p.1.more pc k2, p.2)]) ((wd.setCell ⟨g, d * 7 + 2, none⟩ (.string (pt ++ s.extract k1 k2))).setCell ⟨g, d * 7 + 6, none⟩ (.int .i64 (k2 : Int)))) := qh ⟨⟨_, _, TL2⟩, mm2.block OBD (Ne.symm go'), mm2.block SBD (Ne.symm gs)⟩
  have MFIN := qh (Mv.after xd (mm2.imp (S' := Ch B rb sb) fun x _ hx => by rw [(show x = g from hx)]; exact ⟨hBg, gr, gs⟩))
  have hh6 := xd.cell hhi
  clear hgetd hadd TL1 hget1 TL2 mm1 mm2 TLD OBD SBD
  go_wp2_with fail
  go_end0
  exact ⟨rfl, FIN.out, MFIN.out⟩
theorem text_new (B lb ob sb rb : Nat) (s : ByteArray) (D : List TkA) (w : World) (hs : s.size ≤ 1000000) (hD : D.length ≤ 1000000) (hd : Dist B lb ob sb rb) (hrb : rb < w.heap.size) (h : AS B lb ob sb rb s false D w) (k1 k2 : Nat) (hk : k1 ≤ k2) (hk2 : k2 ≤ s.size) (pc : List UInt8) (hpc : s.extract k1 k2 = bs pc) :
    Calls Tryz.prog 50 #[.int .i64 k1, .int .i64 k2, .pointer (some ⟨ob, 0, none⟩), .pointer (some ⟨lb, 0, none⟩), .pointer (some ⟨sb, 0, none⟩)] w (RText B lb ob sb rb s (D ++ [(⟨1, [], pc, [], false, k1, k2⟩, .slice none 0 0)]) w) := by
  obtain ⟨⟨lv0, gb0, TL0⟩, OB0, SB0⟩ := h
  have hlb := (Array.getElem?_eq_some_iff.1 TL0.box).1
  have hob := (Array.getElem?_eq_some_iff.1 OB0).1
  have hsb := (Array.getElem?_eq_some_iff.1 SB0).1
  obtain ⟨d1, d2, d3, d4⟩ := hd
  have hHPC := qh hpc
  obtain ⟨a0, cap0, wB, hrun, hboxB, hmB, gb1, TLP⟩ := TL0.push hD (by rintro g (rfl | rfl | rfl | rfl) <;> assumption) (.inl rfl) (by omega) (⟨1, [], [], [], false, k1, 0⟩, .slice none 0 0) rfl ⟨rfl, .inl ⟨rfl, none, rfl⟩⟩ (cs := #[.int .i64 1, .string ⟨#[]⟩, .string ⟨#[]⟩, .slice none 0 0, .int .i64 0, .int .i64 k1, .int .i64 0]) rfl
  have nOb : ¬ gb0 = some ob := fun e => (TL0.blk ob e).2.2 (.inr (.inl rfl))
  have nSb : ¬ gb0 = some sb := fun e => (TL0.blk sb e).2.2 (.inr (.inr (.inl rfl)))
  have nLb : ¬ gb0 = some lb := fun e => (TL0.blk lb e).2.2 (.inl rfl)
  have nRb : ¬ gb0 = some rb := fun e => (TL0.blk rb e).2.2 (.inr (.inr (.inr rfl)))
  have OBB := hmB.block OB0 nOb
  have SBB := hmB.block SB0 nSb
  have mB : Mv (Ch B rb sb) w wB := hmB.imp fun x _ hx => ⟨(TL0.blk x hx).2.1, fun e => nRb (e ▸ hx), fun e => nSb (e ▸ hx)⟩
  have c2 := cellOf OB0 (i := 0) (v := .bool false) rfl
  have c3 := cellOf TL0.box (i := 0) (v := lv0) rfl
  have b3 := cellOf hboxB (i := 0) (v := lv0) rfl
  have g3 := freeOf hboxB 0
  have MB := qh mB
  have HRUN := qh hrun
  have HTLP := qh TLP
  have HBX := qh hboxB
  have HOBB := qh OBB
  have HSBB := qh SBB
  clear hpc hrun hmB TLP TL0 OB0 SB0 mB hboxB OBB SBB
  go_enter Tryz.func50, Tryz.ntmps50
  go_upto_region 2 with (at_builtin; refine wpList_append_run _ rfl _ _ 44 rfl _ _ rfl rfl _ _ HRUN.out ?_)
  have m1 : Mv (· = lb) wB (wB.setCell ⟨lb, 0, none⟩ (.slice a0 (D.length + 1) cap0)) := Mv.setRb (Mv.refl _ wB) _
  have OB1 := m1.block HOBB.out (show ¬ ob = lb by omega)
  have SB1 := m1.block HSBB.out (show ¬ sb = lb by omega)
  have M1 : Mv (Ch B rb sb) w (wB.setCell ⟨lb, 0, none⟩ (.slice a0 (D.length + 1) cap0)) := MB.out.trans (m1.imp fun x _ hx => by rw [(show x = lb from hx)]; exact ⟨by omega, by omega, by omega⟩)
  have TL1 := HTLP.out
  clear c2 c3 b3 g3
  obtain ⟨w2, hw2⟩ : ∃ w' : World, w' = wB.setCell ⟨lb, 0, none⟩ (.slice a0 (D.length + 1) cap0) := ⟨_, rfl⟩
  rw [← hw2] at OB1 SB1 M1 TL1 ⊢
  clear hw2 m1
  have c2 := cellOf OB1 (i := 0) (v := .bool false) rfl
  have f2 := freeOf OB1 0
  have m2 : Mv (· = ob) w2 (w2.setCell ⟨ob, 0, none⟩ (.bool true)) := Mv.setRb (Mv.refl _ w2) _
  have OBW := heap_setCell_same (i := 0) OB1 (.bool true)
  have SBW := m2.block SB1 (show ¬ sb = ob by omega)
  have M2 : Mv (Ch B rb sb) w (w2.setCell ⟨ob, 0, none⟩ (.bool true)) := M1.trans (m2.imp fun x _ hx => by rw [(show x = ob from hx)]; exact ⟨by omega, by omega, by omega⟩)
  have TLW := TL1.mv m2 (fun g hg => .inr (.inl hg)) (show ¬ lb = ob by omega)
  clear OB1 SB1 M1 TL1 m2
  go_upto_region 3 with fail
  obtain ⟨w3, hw3⟩ : ∃ w' : World, w' = w2.setCell ⟨ob, 0, none⟩ (.bool true) := ⟨_, rfl⟩
  rw [← hw3] at OBW SBW M2 TLW ⊢
  clear hw3 c2 f2
  have OBW : w3.heap[ob]? = some (.cells #[.bool true] 4 (0, 0)) := OBW
  have MW3 := qh M2
  clear M2
  obtain ⟨lv, hlv0⟩ : ∃ v : Value, v = .slice a0 (D.length + 1) cap0 := ⟨_, rfl⟩
  rw [← hlv0] at TLW
  clear hlv0
  obtain ⟨p, hp⟩ : ∃ p : TkA, p = (⟨1, [], [], [], false, k1, 0⟩, .slice none 0 0) := ⟨_, rfl⟩
  rw [← hp] at TLW
  have HTZ : Hid (p.1.text.length ≤ 1000000) := qh (by rw [hp]; exact Nat.zero_le _)
  have HPQ : Hid ((p.1.more pc k2, p.2) = (⟨1, [], pc, [], false, k1, k2⟩, .slice none 0 0)) := qh (by rw [hp]; rfl)
  have HPC := hHPC
  obtain ⟨gb, hgb1⟩ : ∃ g : Option Nat, g = gb1 := ⟨_, rfl⟩
  rw [← hgb1] at TLW
  clear hgb1 hp HTLP HRUN HBX HOBB HSBB MB nOb nSb nLb nRb hlb hob hsb
  obtain ⟨g, cap, cur, hgb, hBg, hNg, hlv, hrow, hrl, hq1, hq2, hrt⟩ := TLW.some_ (by simp)
  subst hlv
  subst hgb
  have htx := row_cell (f := 2) hrow hrt (snoc_get D p) (v := .string (bs p.1.text)) rfl
  have hhi := row_cell (f := 6) hrow hrt (snoc_get D p) (v := .int .i64 (p.1.hi : Int)) rfl
  have hff2 := freeOf hrow (D.length * 7 + 2)
  have hff6 := freeOf hrow (D.length * 7 + 6)
  have hlen1 : (D ++ [p]).length = D.length + 1 := by simp
  have c3 := cellOf TLW.box (i := 0) (v := .slice (some ⟨g, 0, none⟩) (D.length + 1) cap) (by rw [← hlen1]; rfl)
  have hcapl : D.length + 1 ≤ cap := by rw [← hlen1]; exact hrl
  obtain ⟨d, hd⟩ : ∃ d, D.length = d := ⟨_, rfl⟩
  have HDD := qh hd
  have hd6 : d ≤ 1000000 := by omega
  rw [hd] at htx hhi hff2 hff6 c3 hcapl
  have TLH := qh TLW
  have OBH := qh OBW
  have SBH := qh SBW
  have c4 := cellOf SBW (i := 0) (v := .string s) rfl
  have HNG := qh hNg
  have gl : g ≠ lb := fun e => hNg (.inl e)
  have go' : g ≠ ob := fun e => hNg (.inr (.inl e))
  have gs : g ≠ sb := fun e => hNg (.inr (.inr (.inl e)))
  have gr : g ≠ rb := fun e => hNg (.inr (.inr (.inr e)))
  clear hrow hrl hrt hlen1 hd TLW OBW SBW hNg hq1 hq2
  have hwd : IntKind.i64.wrap ((d : Int) + 1 - 1) = (d : Int) := by rw [IntWalk.i64_in _ (by omega)]; omega
  have hwd0 : (0 : Int) ≤ (d : Int) := by omega
  have hwd1 : (d : Int) < (d : Int) + 1 := by omega
  have htn : (d : Int).toNat = d := by omega
  go_upto_region 4 with fail
  clear c3 hwd hwd0 hwd1 htn
  obtain ⟨pt, hpt⟩ : ∃ pt : ByteArray, bs p.1.text = pt := ⟨_, rfl⟩
  have HPT := qh hpt
  rw [hpt] at htx
  clear hpt
  have hptz : pt.size ≤ 1000000 := by rw [← HPT.out, bs_size]; exact HTZ.out
  refine wp_region_E (S := fun w' => w'.cell? ⟨g, d * 7 + 2, none⟩ = some (.string pt) ∧ w'.cell? ⟨sb, 0, none⟩ = some (.string s)) (n := 11) (by kernel_rfl) ?_
  have hS : (w3).drew.cell? ⟨g, d * 7 + 2, none⟩ = some (.string pt) ∧ (w3).drew.cell? ⟨sb, 0, none⟩ = some (.string s) := ⟨htx, c4⟩
  show wpE _ _ _ _ _ 11 12 (Array.replicate 12 false) _ _
  refine wpE_tk 0 20 (.pointer (some ⟨g, d * 7, none⟩)) rfl (.inl ⟨by rfl, fun w' hSw => ?_⟩) hS ?_
  · (obtain ⟨s1, s2⟩ := hSw; clear hS; go_simp)
  try simp only [Act.put, zA, zB, zC]
  refine wpE_tk 1 21 (.pointer (some ⟨g, d * 7, none⟩)) rfl (.inl ⟨by rfl, fun w' hSw => ?_⟩) hS ?_
  · (obtain ⟨s1, s2⟩ := hSw; clear hS; go_simp)
  try simp only [Act.put, zA, zB, zC]
  refine wpE_tk 2 22 (.pointer (some ⟨g, d * 7 + 2, none⟩)) rfl (.inl ⟨by rfl, fun w' hSw => ?_⟩) hS ?_
  · (obtain ⟨s1, s2⟩ := hSw; clear hS; go_simp)
  try simp only [Act.put, zA, zB, zC]
  refine wpE_tk 3 23 (.string pt) rfl (.inl ⟨by rfl, fun w' hSw => ?_⟩) hS ?_
  · (obtain ⟨s1, s2⟩ := hSw; clear hS; go_simp)
  try simp only [Act.put, zA, zB, zC]
  refine wpE_tk 4 24 (.string s) rfl (.inl ⟨by rfl, fun w' hSw => ?_⟩) hS ?_
  · (obtain ⟨s1, s2⟩ := hSw; clear hS; go_simp)
  try simp only [Act.put, zA, zB, zC]
  refine wpE_tk 5 25 (.int .i64 k1) rfl (.inl ⟨by rfl, fun w' hSw => ?_⟩) hS ?_
  · (obtain ⟨s1, s2⟩ := hSw; clear hS; go_simp)
  try simp only [Act.put, zA, zB, zC]
  refine wpE_tk 6 26 (.int .i64 k2) rfl (.inl ⟨by rfl, fun w' hSw => ?_⟩) hS ?_
  · (obtain ⟨s1, s2⟩ := hSw; clear hS; go_simp)
  try simp only [Act.put, zA, zB, zC]
  refine wpE_tk 7 27 (.string (s.extract k1 k2)) rfl (.inl ⟨by rfl, fun w' hSw => ?_⟩) hS ?_
  · (obtain ⟨s1, s2⟩ := hSw; clear hS; go_simp)
  try simp only [Act.put, zA, zB, zC]
  refine wpE_tk 8 28 (.string (pt ++ s.extract k1 k2)) rfl (.inl ⟨by rfl, fun w' hSw => ?_⟩) hS ?_
  · (obtain ⟨s1, s2⟩ := hSw; clear hS; go_simp; omega)
  try simp only [Act.put, zA, zB, zC]
  obtain ⟨wd, hwd⟩ : ∃ wd : World, wd = (w3).drew := ⟨_, rfl⟩
  have xd : Ext (w3) wd := by rw [hwd]; exact (Ext.refl _).drew
  rw [← hwd] at hS ⊢
  clear hwd
  refine wpE_on 9 (some 29) rfl (fun K hK => ?_)
  go_simp
  refine hK.out _ _ (.inr hS) ?_
  clear hK K
  try simp only [Act.put, zA, zB, zC]
  refine wpE_on 10 (some 30) rfl (fun K hK => ?_)
  go_simp
  refine hK.out _ _ (.inr hS) ?_
  clear hK K
  try simp only [Act.put, zA, zB, zC]
  have TLD := TLH.out.ext xd
  have OBD := xd.block OBH.out
  have SBD := xd.block SBH.out
  have ff2 := xd.free (cell_lt htx) hff2
  have ff6 := xd.free (cell_lt htx) hff6
  have tx := hS.1
  refine wpE_on 11 (none) rfl (fun K hK => ?_)
  go_simp
  refine hK.out _ _ (.inl rfl) ?_
  clear hK K hS
  refine wpE_done (by kernel_rfl) ?_
  have hgetd : (D ++ [p])[d]? = some p := by rw [← HDD.out]; exact snoc_get D p
  have hadd : pt ++ s.extract k1 k2 = bs (p.1.text ++ pc) := by rw [← HPT.out, HPC.out, bs_add]
  have TL1 := TLD.set (i := d) (f := 2) (p := p) (p' := ({ p.1 with text := p.1.text ++ pc }, p.2)) (v := .string (pt ++ s.extract k1 k2)) hgetd (by decide) (by rw [hadd]; rfl) rfl rfl (.inl rfl) rfl
  have hget1 : ((D ++ [p]).set d ({ p.1 with text := p.1.text ++ pc }, p.2))[d]? = some ({ p.1 with text := p.1.text ++ pc }, p.2) := by rw [← HDD.out, snoc_set]; exact snoc_get D _
  have TL2 := TL1.set (i := d) (f := 6) (p' := (p.1.more pc k2, p.2)) (v := .int .i64 (k2 : Int)) hget1 (by decide) rfl rfl rfl (.inl rfl) rfl
  rw [← HDD.out, snoc_set, snoc_set, HDD.out] at TL2
  have mm1 : Mv (· = g) wd (wd.setCell ⟨g, d * 7 + 2, none⟩ (.string (pt ++ s.extract k1 k2))) := Mv.setRb (Mv.refl _ wd) _
  have mm2 : Mv (· = g) wd ((wd.setCell ⟨g, d * 7 + 2, none⟩ (.string (pt ++ s.extract k1 k2))).setCell ⟨g, d * 7 + 6, none⟩ (.int .i64 (k2 : Int))) := Mv.setRb mm1 _
  have FIN : Hid (AS B lb ob sb rb s true (D ++ [(p.1.more pc k2, p.2)]) ((wd.setCell ⟨g, d * 7 + 2, none⟩ (.string (pt ++ s.extract k1 k2))).setCell ⟨g, d * 7 + 6, none⟩ (.int .i64 (k2 : Int)))) := qh ⟨⟨_, _, TL2⟩, mm2.block OBD (Ne.symm go'), mm2.block SBD (Ne.symm gs)⟩
  have MFIN := qh (Mv.after xd (mm2.imp (S' := Ch B rb sb) fun x _ hx => by rw [(show x = g from hx)]; exact ⟨hBg, gr, gs⟩))
  have hh6 := xd.cell hhi
  clear hgetd hadd TL1 hget1 TL2 mm1 mm2 TLD OBD SBD
  go_wp2_with fail
  go_end0
  exact ⟨rfl, HPQ.out ▸ FIN.out, MW3.out.trans MFIN.out⟩
end Go.Proofs.YtalaajbajgdglaaGreatDoor
