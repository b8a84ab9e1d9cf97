/- Regions that draw their order: whatever order, a class of worlds apart from one last operation; an append in such a region. No conditions. -/
import Derived.Test.YtdafdoodegpdhaaDoorPB
import Derived.Deep.RegionHeld3
namespace Go.Proofs.YtdafdoodegpdhaaDoor.We
open Go Go.RowKit Go.BigFrame
set_option linter.unusedVariables false
set_option linter.unusedSimpArgs false

section
variable {P : Program} {ops : Array Oper} {Q : Exit → Act → World → Prop} {md : Region.Mode} {S : World → Prop} {n : Nat}
/-- whatever order: behind every operation but number n the world meets S -/
def wpE (P : Program) (md : Region.Mode) (ops : Array Oper) (Q : Exit → Act → World → Prop) (S : World → Prop) (n : Nat) : Nat → Array Bool → Act → World → Prop
  | 0, l, a, w => Region.ready md ops l = [] ∧ Q .normal a w
  | f + 1, l, a, w => (Region.ready md ops l = [] → Q .normal a w) ∧ ∀ i ∈ Region.ready md ops l, wpOp P ops Q i (fun a' w' => (i = n ∨ S w') ∧ wpE P md ops Q S n f (l.setIfInBounds i true) a' w') a w
theorem wpE_any : ∀ (f : Nat) (l : Array Bool) (a : Act) (w : World), wpE P md ops Q S n f l a w → wpAny P md ops Q f l a w := by
  intro f
  induction f with
  | zero => exact fun l a w h => h
  | succ f ih => exact fun l a w h => ⟨h.1, fun i hi => wpOp_mono (fun a' w' k => ih _ a' w' k.2) (h.2 i hi)⟩
/-- operation n waits for number i -/
def waits (md : Region.Mode) (ops : Array Oper) (n i : Nat) : Bool := match ops[n]? with
  | some o => o.after.toList.any fun e => Region.binds md e && e.on == i
  | none => true
theorem unlisted {l : Array Bool} {i : Nat} (h : l.getD i true = false) (k : l.getD i false = true) : False := by
  rcases Nat.lt_or_ge i l.size with hi | hi
  · simp [hi] at h k; rw [h] at k; cases k
  · simp [Array.getElem?_eq_none hi] at h
theorem ready_waits {l : Array Bool} {i j : Nat} (hi : i ∈ Region.ready md ops l) (hj : j ∈ Region.ready md ops l) (hw : waits md ops n i = true) : j ≠ n := by
  rintro rfl
  obtain ⟨_, o, ho, hall⟩ := mem_ready.1 hj
  unfold waits at hw
  rw [ho] at hw
  obtain ⟨e, he, hb⟩ := List.any_eq_true.1 hw
  simp only [Bool.and_eq_true, beq_iff_eq] at hb
  have h1 := hall e (Array.mem_toList_iff.1 he) hb.1
  rw [hb.2] at h1
  exact unlisted (mem_ready.1 hi).1 h1
/-- what yields its value in every world that meets S is taken first -/
theorem wpE_first {i : Nat} {o : Oper} {v : Value} (ho : ops[i]? = some o) (hs : Region.noSelect ops = true) (hw : waits md ops n i = true) (hQ : ∀ c a w, Q (.panic c) (a.put o.dst v) w → Q (.panic c) a w) :
    ∀ (f : Nat) (l : Array Bool) (a : Act) (w : World), (∀ (j : Nat) (oj : Oper), ops[j]? = some oj → j ≠ i → l.getD j true = false → (∀ e ∈ oj.after, Region.binds md e = true → e.on ≠ i) → o.apart ops oj = true) →
      i ∈ Region.ready md ops l → YieldsIf P ops S o v a → S w → wpE P md ops Q S n f (l.setIfInBounds i true) (a.put o.dst v) w → wpE P md ops Q S n (f + 1) l a w := by
  have hsel := Region.noSelect_spec hs
  intro f
  induction f with
  | zero =>
    intro l a w _ hr hy hS H
    refine ⟨fun h => (by rw [h] at hr; cases hr), fun j hj => ?_⟩
    rcases Classical.em (j = i) with rfl | hji
    · exact hy.wpOp ho hS ⟨.inr hS, H⟩
    · have h0 := ready_mono hj hji
      rw [H.1] at h0; cases h0
  | succ f ih =>
    intro l a w hfree hr hy hS H
    refine ⟨fun h => (by rw [h] at hr; cases hr), fun j hj => ?_⟩
    rcases Classical.em (j = i) with rfl | hji
    · exact hy.wpOp ho hS ⟨.inr hS, H⟩
    · obtain ⟨hun, oj, hoj, hall⟩ := mem_ready.1 hj
      have hno : ∀ e ∈ oj.after, Region.binds md e = true → e.on ≠ i := fun e he hb e2 => unlisted (mem_ready.1 hr).1 (e2 ▸ hall e he hb)
      have hjn := ready_waits hr hj hw
      have step := wpOp_putIf hoj (hfree j oj hoj hji hun hno) (fun cs b => hsel i o cs b ho) (fun cs b => hsel j oj cs b hoj) hQ hy (H.2 j (ready_mono hj hji))
      refine wpOp_mono (fun a' w' k => ?_) step
      have hS' : S w' := k.2.1.resolve_left hjn
      refine ⟨.inr hS', ih (l.setIfInBounds j true) a' w' (fun m om hm hmi hmu hmn => hfree m om hm hmi ?_ hmn) (ready_mono hr (Ne.symm hji)) k.1 hS' ?_⟩
      · rcases Classical.em (j = m) with rfl | hjm
        · exact hun
        · rw [getD_set_ne true hjm] at hmu; exact hmu
      · rw [Array.setIfInBounds_comm _ _ hji]; exact k.2.2
theorem wpE_take {i : Nat} {o : Oper} {v : Value} {f : Nat} {l : Array Bool} {a : Act} {w : World} (ho : ops[i]? = some o) (hs : Region.noSelect ops = true) (hf : Region.free md ops l i = true) (hr : (Region.ready md ops l).contains i = true) (hw : waits md ops n i = true)
    (hQ : ∀ c a w, Q (.panic c) (a.put o.dst v) w → Q (.panic c) a w) (hy : YieldsIf P ops S o v a) (hS : S w) (h : wpE P md ops Q S n f (l.setIfInBounds i true) (a.put o.dst v) w) : wpE P md ops Q S n (f + 1) l a w :=
  wpE_first ho hs hw hQ f l a w (Region.free_spec ho hf) (by simpa using hr) hy hS h
/-- one alone may come up -/
theorem wpE_one {i : Nat} {o : Oper} {f : Nat} {l : Array Bool} {a : Act} {w : World} (hr : Region.ready md ops l = [i]) (ho : ops[i]? = some o)
    (h : ∀ K : Act → World → Prop, Shut (∀ a w, (i = n ∨ S w) → wpE P md ops Q S n f (l.setIfInBounds i true) a w → K a w) → if Region.wanted o (yielded ops a.tmps) = true then Oper.wp P o a w K Q else K (a.put o.dst undef) w) : wpE P md ops Q S n (f + 1) l a w := by
  refine ⟨fun h => (by rw [hr] at h; cases h), fun j hj => ?_⟩
  rw [hr] at hj
  obtain rfl : j = i := by simpa using hj
  exact wpOp_step ho fun K hK => h K fun a w h1 h2 => hK a w ⟨h1, h2⟩
theorem wpE_done {f : Nat} {l : Array Bool} {a : Act} {w : World} (hr : Region.ready md ops l = []) (h : Q .normal a w) : wpE P md ops Q S n f l a w := by
  cases f with
  | zero => exact ⟨hr, h⟩
  | succ f => exact ⟨fun _ => h, fun i hi => by rw [hr] at hi; cases hi⟩
theorem wp_region_E {id : Nat} {a : Act} {w : World} (hm : P.follows .mixedOrders = true) (h : wpE P .any ops Q S n ops.size (Array.replicate ops.size false) a w.drew) : (Code.region id ops true).wp P Q a w :=
  wp_region_any hm (wpE_any _ _ _ _ h)
end
section
variable {P : Program} {ops : Array Oper} {Q : Exit → Act → World → Prop} {md : Region.Mode} {S : World → Prop} {n : Nat}
/-- two may come up -/
theorem wpE_two {i j : Nat} {oi oj : Oper} {f : Nat} {l : Array Bool} {a : Act} {w : World} (hr : Region.ready md ops l = [i, j]) (hi : ops[i]? = some oi) (hj : ops[j]? = some oj)
    (h1 : ∀ K : Act → World → Prop, Shut (∀ a w, (i = n ∨ S w) → wpE P md ops Q S n f (l.setIfInBounds i true) a w → K a w) → if Region.wanted oi (yielded ops a.tmps) = true then Oper.wp P oi a w K Q else K (a.put oi.dst undef) w)
    (h2 : ∀ K : Act → World → Prop, Shut (∀ a w, (j = n ∨ S w) → wpE P md ops Q S n f (l.setIfInBounds j true) a w → K a w) → if Region.wanted oj (yielded ops a.tmps) = true then Oper.wp P oj a w K Q else K (a.put oj.dst undef) w) : wpE P md ops Q S n (f + 1) l a w := by
  refine ⟨fun h => (by rw [hr] at h; cases h), fun m hm => ?_⟩
  rw [hr] at hm
  have hm' : m = i ∨ m = j := by simpa using hm
  rcases hm' with rfl | rfl
  · exact wpOp_step hi fun K hK => h1 K fun a w h1 h2 => hK a w ⟨h1, h2⟩
  · exact wpOp_step hj fun K hK => h2 K fun a w h1 h2 => hK a w ⟨h1, h2⟩
end
/-- an append whose run is known, as one step of a region that draws -/
theorem step_append_run {P : Program} {ops : Array Oper} {o : Oper} {a : Act} {w : World} {K : Act → World → Prop} {Q : Exit → Act → World → Prop} {E : Prop}
    (hg : o.guard = none) (s x : Operand) (t : TypeId) (hop : o.op = Op.call { callee := Callee.builtin Builtin.append, args := #[s, x], argTypes := #[t, t] })
    (v u : Value) (hs : a.eval s = v) (hx : a.eval x = u) (v' : Value) (w' : World) (hr : (Builtin.append_ #[t, t] o.type #[v, u]).run P w = .ok v' w') (hK : K (a.put o.dst v') w') :
    if Region.wanted o (yielded ops a.tmps) = true then Oper.wp P o a w K Q else E := by
  have hw : Region.wanted o (yielded ops a.tmps) = true := by simp [Region.wanted, hg]
  rw [if_pos hw]
  unfold Oper.wp
  simp [execOp, hop, resolve, invoke, builtin, hs, hx, hr, Result.andThen]
  exact hK
end Go.Proofs.YtdafdoodegpdhaaDoor.We
