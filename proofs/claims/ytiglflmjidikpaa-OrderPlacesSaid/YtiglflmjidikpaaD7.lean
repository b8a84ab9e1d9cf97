/- A region that draws its order, whose last operation (number n, for which it waits) may write what the others read: a condition S on the world serves up to it. No program in sight.
Package dom: Graft's inner function, walked.
Package dom: Graft: its errors, and the tree behind it. -/
import Derived.Test.YtiglflmjidikpaaBase
import Derived.Deep.RegionHeld3
import Derived.Test.YtiglflmjidikpaaD6
namespace Go.Proofs.Ytiglflmjidikpaa
open Go Go.RowKit
set_option linter.unusedVariables false

section
variable {P : Program} {ops : Array Oper} {Q : Exit → Act → World → Prop} {md : Region.Mode} {S : World → Prop} {n : Nat}
/-- whatever order: behind every operation but number n the world meets S -/
def wpE (P : Program) (md : Region.Mode) (ops : Array Oper) (Q : Exit → Act → World → Prop) (S : World → Prop) (n : Nat) : Nat → Array Bool → Act → World → Prop
  | 0, l, a, w => Region.ready md ops l = [] ∧ Q .normal a w
  | f + 1, l, a, w => (Region.ready md ops l = [] → Q .normal a w) ∧ ∀ i ∈ Region.ready md ops l, wpOp P ops Q i (fun a' w' => (i = n ∨ S w') ∧ wpE P md ops Q S n f (l.setIfInBounds i true) a' w') a w
theorem wpE_any : ∀ (f : Nat) (l : Array Bool) (a : Act) (w : World), wpE P md ops Q S n f l a w → wpAny P md ops Q f l a w := by
  intro f
  induction f with
  | zero => exact fun l a w h => h
  | succ f ih => exact fun l a w h => ⟨h.1, fun i hi => wpOp_mono (fun a' w' k => ih _ a' w' k.2) (h.2 i hi)⟩
/-- operation n waits for number i -/
def waits (md : Region.Mode) (ops : Array Oper) (n i : Nat) : Bool := match ops[n]? with
  | some o => o.after.toList.any fun e => Region.binds md e && e.on == i
  | none => true
theorem unlisted {l : Array Bool} {i : Nat} (h : l.getD i true = false) (k : l.getD i false = true) : False := by
  rcases Nat.lt_or_ge i l.size with hi | hi
  · simp [hi] at h k; rw [h] at k; cases k
  · simp [Array.getElem?_eq_none hi] at h
theorem ready_waits {l : Array Bool} {i j : Nat} (hi : i ∈ Region.ready md ops l) (hj : j ∈ Region.ready md ops l) (hw : waits md ops n i = true) : j ≠ n := by
  rintro rfl
  obtain ⟨_, o, ho, hall⟩ := mem_ready.1 hj
  unfold waits at hw
  rw [ho] at hw
  obtain ⟨e, he, hb⟩ := List.any_eq_true.1 hw
  simp only [Bool.and_eq_true, beq_iff_eq] at hb
  have h1 := hall e (Array.mem_toList_iff.1 he) hb.1
  rw [hb.2] at h1
  exact unlisted (mem_ready.1 hi).1 h1
/-- what yields its value in every world that meets S is taken first -/
theorem wpE_first {i : Nat} {o : Oper} {v : Value} (ho : ops[i]? = some o) (hs : Region.noSelect ops = true) (hw : waits md ops n i = true) (hQ : ∀ c a w, Q (.panic c) (a.put o.dst v) w → Q (.panic c) a w) :
    ∀ (f : Nat) (l : Array Bool) (a : Act) (w : World), (∀ (j : Nat) (oj : Oper), ops[j]? = some oj → j ≠ i → l.getD j true = false → (∀ e ∈ oj.after, Region.binds md e = true → e.on ≠ i) → o.apart ops oj = true) →
      i ∈ Region.ready md ops l → YieldsIf P ops S o v a → S w → wpE P md ops Q S n f (l.setIfInBounds i true) (a.put o.dst v) w → wpE P md ops Q S n (f + 1) l a w := by
  have hsel := Region.noSelect_spec hs
  intro f
  induction f with
  | zero =>
    intro l a w _ hr hy hS H
    refine ⟨fun h => (by rw [h] at hr; cases hr), fun j hj => ?_⟩
    rcases Classical.em (j = i) with rfl | hji
    · exact hy.wpOp ho hS ⟨.inr hS, H⟩
    · have h0 := ready_mono hj hji
      rw [H.1] at h0; cases h0
  | succ f ih =>
    intro l a w hfree hr hy hS H
    refine ⟨fun h => (by rw [h] at hr; cases hr), fun j hj => ?_⟩
    rcases Classical.em (j = i) with rfl | hji
    · exact hy.wpOp ho hS ⟨.inr hS, H⟩
    · obtain ⟨hun, oj, hoj, hall⟩ := mem_ready.1 hj
      have hno : ∀ e ∈ oj.after, Region.binds md e = true → e.on ≠ i := fun e he hb e2 => unlisted (mem_ready.1 hr).1 (e2 ▸ hall e he hb)
      have hjn := ready_waits hr hj hw
      have step := wpOp_putIf hoj (hfree j oj hoj hji hun hno) (fun cs b => hsel i o cs b ho) (fun cs b => hsel j oj cs b hoj) hQ hy (H.2 j (ready_mono hj hji))
      refine wpOp_mono (fun a' w' k => ?_) step
      have hS' : S w' := k.2.1.resolve_left hjn
      refine ⟨.inr hS', ih (l.setIfInBounds j true) a' w' (fun m om hm hmi hmu hmn => hfree m om hm hmi ?_ hmn) (ready_mono hr (Ne.symm hji)) k.1 hS' ?_⟩
      · rcases Classical.em (j = m) with rfl | hjm
        · exact hun
        · rw [getD_set_ne true hjm] at hmu; exact hmu
      · rw [Array.setIfInBounds_comm _ _ hji]; exact k.2.2
theorem wpE_take {i : Nat} {o : Oper} {v : Value} {f : Nat} {l : Array Bool} {a : Act} {w : World} (ho : ops[i]? = some o) (hs : Region.noSelect ops = true) (hf : Region.free md ops l i = true) (hr : (Region.ready md ops l).contains i = true) (hw : waits md ops n i = true)
    (hQ : ∀ c a w, Q (.panic c) (a.put o.dst v) w → Q (.panic c) a w) (hy : YieldsIf P ops S o v a) (hS : S w) (h : wpE P md ops Q S n f (l.setIfInBounds i true) (a.put o.dst v) w) : wpE P md ops Q S n (f + 1) l a w :=
  wpE_first ho hs hw hQ f l a w (Region.free_spec ho hf) (by simpa using hr) hy hS h
/-- one alone may come up -/
theorem wpE_one {i : Nat} {o : Oper} {f : Nat} {l : Array Bool} {a : Act} {w : World} (hr : Region.ready md ops l = [i]) (ho : ops[i]? = some o)
    (h : ∀ K : Act → World → Prop, Shut (∀ a w, (i = n ∨ S w) → wpE P md ops Q S n f (l.setIfInBounds i true) a w → K a w) → if Region.wanted o (yielded ops a.tmps) = true then Oper.wp P o a w K Q else K (a.put o.dst undef) w) : wpE P md ops Q S n (f + 1) l a w := by
  refine ⟨fun h => (by rw [hr] at h; cases h), fun j hj => ?_⟩
  rw [hr] at hj
  obtain rfl : j = i := by simpa using hj
  exact wpOp_step ho fun K hK => h K fun a w h1 h2 => hK a w ⟨h1, h2⟩
theorem wpE_done {f : Nat} {l : Array Bool} {a : Act} {w : World} (hr : Region.ready md ops l = []) (h : Q .normal a w) : wpE P md ops Q S n f l a w := by
  cases f with
  | zero => exact ⟨hr, h⟩
  | succ f => exact ⟨fun _ => h, fun i hi => by rw [hr] at hi; cases hi⟩
theorem wp_region_E {id : Nat} {a : Act} {w : World} (hm : P.follows .mixedOrders = true) (h : wpE P .any ops Q S n ops.size (Array.replicate ops.size false) a w.drew) : (Code.region id ops true).wp P Q a w :=
  wp_region_any hm (wpE_any _ _ _ _ h)
end
end Go.Proofs.Ytiglflmjidikpaa

namespace Go.Proofs.Ytiglflmjidikpaa
open Go Go.RowKit Go.BigFrame
set_option linter.unusedVariables false
set_option linter.unusedSimpArgs false

theorem Step.cellOld {own own' : Ow} {w w' : World} (h : Step own w own' w') {b o : Nat} {v : Value} (hn : own b = none) (hc : w.cell? ⟨b, o, none⟩ = some v) : w'.cell? ⟨b, o, none⟩ = some v :=
  (World.cell?_of_block (a := ⟨b, o, none⟩) (h.rest b (World.block_lt_of_cell? w _ hc) hn)).trans hc
theorem TreeAt.rowOwn {w : World} {own : Ow} {ptr : Nat → Nat} {tb : Nat} {T : Tr} (hT : TreeAt w own ptr tb T) {g cap : Nat} {i : Nat} {nd : Nd} (h : T.nodes[i]? = some (some nd))
    (hc : w.cell? ⟨tb, 3, none⟩ = some (.slice (some ⟨g, 0, none⟩) T.nodes.length cap)) : own g = some (1, 0) ∧ own tb = some (0, 0) := by
  obtain ⟨nv, hb, hot, hrow⟩ := hT.head
  have h3 := cellOf hb (i := 3) (v := nv) rfl
  rw [hc] at h3
  obtain rfl : nv = .slice (some ⟨g, 0, none⟩) T.nodes.length cap := by injection h3 with h3; exact h3.symm
  rcases hrow.2 with ⟨h0, _⟩ | ⟨g', cap', cur, q1, q2, _⟩
  · have := (List.getElem?_eq_some_iff.1 h).1; omega
  · cases q1; exact ⟨q2, hot⟩
theorem grownCell {w cw wA : World} {row : Option Nat} (hx : Ext w cw) (hg : cw.grownBy wA row) {b o : Nat} {v : Value} (hc : w.cell? ⟨b, o, none⟩ = some v) (hne : ∀ k, row = some k → k ≠ b) : wA.cell? ⟨b, o, none⟩ = some v := by
  have h1 := hx.cell hc
  exact (World.cell?_of_block (a := ⟨b, o, none⟩) (hg.block b (World.block_lt_of_cell? cw _ h1) (fun e => hne b e.symm rfl))).trans h1
theorem grownFree {w cw wA : World} {row : Option Nat} (hx : Ext w cw) (hg : cw.grownBy wA row) {b o : Nat} (hl : b < w.heap.size) (hc : w.frozen? ⟨b, o, none⟩ = false) (hne : ∀ k, row = some k → k ≠ b) : wA.frozen? ⟨b, o, none⟩ = false := by
  have h1 := hx.free hl hc
  exact (World.frozen?_of_block (a := ⟨b, o, none⟩) (hg.block b (Nat.lt_of_lt_of_le hl hx.size) (fun e => hne b e.symm rfl))).trans h1
/-- one kid more: the row of kids has been appended to and stored, the kid's parent stored -/
theorem join_plain {w cw wA : World} {own0 own : Ow} {ptr : Nat → Nat} {tb : Nat} {T : Tr} (h0 : Step own0 w own cw) (hT : TreeAt cw own ptr tb T) {p k : Nat} {pd kd : Nd} (hp : T.nodes[p]? = some (some pd)) (hk : T.nodes[k]? = some (some kd)) (hpk : p ≠ k)
    (hpw : ∀ x, x < w.heap.size → own x ≠ none → own0 x ≠ none)
    {v : Value} {row : Option Nat} (hr : RowP wA (fun g => own g = some (4, p) ∨ cw.heap.size ≤ g) 3 1 v (pd.kids.length + 1) (pd.kids.map (Value.int .i64) ++ [.int .i64 k])) (hg : cw.grownBy wA row) (hrow : ∀ b, row = some b → own b = some (4, p)) :
    ∃ own1, Step own0 w own1 (wA.setCell ⟨ptr p, 3, none⟩ v) ∧ TreeAt (wA.setCell ⟨ptr p, 3, none⟩ v) own1 ptr tb { T with nodes := T.nodes.set p (some { pd with kids := pd.kids ++ [(k : Int)] }) } ∧
      Step own0 w own1 ((wA.setCell ⟨ptr p, 3, none⟩ v).setCell ⟨ptr k, 4, none⟩ (.int .i64 p)) ∧ TreeAt ((wA.setCell ⟨ptr p, 3, none⟩ v).setCell ⟨ptr k, 4, none⟩ (.int .i64 p)) own1 ptr tb (T.attach p k pd kd) := by
  obtain ⟨av, kv, b1, b2, b3, b4⟩ := hT.node p pd hp
  obtain ⟨avk, kvk, c1, c2, c3, c4⟩ := hT.node k kd hk
  have hr' : RowP wA (fun g => own g = some (4, p) ∨ cw.heap.size ≤ g) 3 1 v (pd.kids ++ [(k : Int)]).length ((pd.kids ++ [(k : Int)]).map (Value.int .i64)) := by
    simpa using hr
  obtain ⟨own1, hs1, hT1, hsame⟩ := kids_plain h0 hT hp (pd.kids ++ [(k : Int)]) (fun hx => hpw _ hx (by rw [b2]; simp)) (fun b hb hb2 => hpw _ hb (by rw [hb2]; simp)) hr' hg hrow
  have hkd : (T.nodes.set p (some { pd with kids := pd.kids ++ [(k : Int)] }))[k]? = some (some kd) := by
    rw [List.getElem?_set, if_neg hpk]; exact hk
  have hT2 := hT1.setParent hkd (p : Int)
  exact ⟨own1, hs1, hT1, hs1.setCell (p := ⟨ptr k, 4, none⟩) (fun hx => hpw _ hx (by rw [c2]; simp)) _, hT2⟩

set_option maxRecDepth 100000 in
set_option maxHeartbeats 8000000 in
theorem put_any {g : World} {tb tc pc : Nat} (htc : g.cell? ⟨tc, 0, none⟩ = some (.pointer (some ⟨tb, 0, none⟩))) (hpc : g.cell? ⟨pc, 0, none⟩ = some (putF tc pc)) :
    ∀ n : PN, n.ok = true → n.short = true → ∀ (nv : Value) (T : Tr) (d : Nat → Nat) (own : Ow) (ptr : Nat → Nat) (w : World), RdN g n nv → Apart g own w → TreeAt w own ptr tb T → Owned own w → WF T d → T.count + n.size ≤ T.cap → (n.high : Int) ≤ T.deep →
      Calls Try.prog 93 #[nv, .pointer (some ⟨tc, 0, none⟩), .pointer (some ⟨pc, 0, none⟩)] w (AddIs own w tb T.newId (PN.into T n)) := by
  refine PN.induct _ fun n ih hok hsh nv T d own ptr w hr hap hT hO hw hc hh => ?_
  obtain ⟨i, hi1, hi0, hi2, hround⟩ := put_round hok hw hc hh
  obtain ⟨av, kv, rfl, ha, hk⟩ := hr.open
  obtain ⟨aa, acap, rfl, hac⟩ := ha.len_of
  obtain ⟨ka, kcap, rfl, hkc, hkm, hkn, hkr⟩ := hk
  have x1 := (Ext.refl w).alloc (.cells #[.int .i64 n.tag, .slice aa n.attrs.length acap, .string n.text, .slice ka n.kids.length kcap] 30)
  have hbox := heap_alloc_new w (.cells #[.int .i64 n.tag, .slice aa n.attrs.length acap, .string n.text, .slice ka n.kids.length kcap] 30)
  have hob : own w.heap.size = none := by
    cases ho : own w.heap.size with
    | none => rfl
    | some x => have := hO w.heap.size (by simp [ho]); omega
  have hts : n.text.size ≤ 100000 := by have := hsh; rw [PN.short_eq] at this; simp at this; exact this.1.1
  have has : n.attrs.length ≤ 60000 := by have := hsh; rw [PN.short_eq] at this; simp at this; exact this.1.2
  have hroom : ∀ (T' : Tr), T' = T → (∀ x ∈ T.nodes, x ≠ none) → T.nodes.length ≤ 1999 := fun _ _ hall => by
    have := hw.len_full hall; have := hw.small.cap1; have := n.size_pos; omega
  have HX := Lib.hid x1
  have HA := Lib.hid ha
  have HKR := Lib.hid hkr
  have HKN := Lib.hid hkn
  have HAP := Lib.hid hap
  have HT := Lib.hid hT
  have HO := Lib.hid hO
  have HW := Lib.hid hw
  have HC := Lib.hid hc
  have HH := Lib.hid hh
  have HSH := Lib.hid hsh
  have HOK := Lib.hid hok
  have IH := Lib.hid ih
  have HI1 := Lib.hid hi1
  have HI2 := Lib.hid hi2
  have HRD := Lib.hid hround
  have HOB := Lib.hid hob
  have HTS := Lib.hid hts
  have HAS := Lib.hid has
  have HRM := Lib.hid hroom
  have HTC := Lib.hid htc
  have HPC := Lib.hid hpc
  unfold maxLen at hkm
  clear x1 ha hkr hkn hap hT hO hw hc hh hsh hok ih hi1 hi2 hround hr hob hts has hroom
  go_enter Try.func93, Try.ntmps93
  go_upto_region 1 with fail
  obtain ⟨wb, hwb⟩ : ∃ wb : World, wb = w.alloc (.cells #[.int .i64 n.tag, .slice aa n.attrs.length acap, .string n.text, .slice ka n.kids.length kcap] 30) := ⟨_, rfl⟩
  rw [← hwb] at hbox HX ⊢
  clear hwb
  have k0 := cellOf hbox (i := 0) (v := .int .i64 n.tag) rfl
  have k1 := cellOf hbox (i := 1) (v := .slice aa n.attrs.length acap) rfl
  have k2 := cellOf hbox (i := 2) (v := .string n.text) rfl
  have k3 := cellOf hbox (i := 3) (v := .slice ka n.kids.length kcap) rfl
  have ct := (HAP.out.ext HX.out).cells _ _ htc
  clear hbox htc hpc
  go_region_held3 (fun w' => w'.cell? ⟨tc, 0, none⟩ = some (.pointer (some ⟨tb, 0, none⟩)) ∧ w'.cell? ⟨w.heap.size, 0, none⟩ = some (.int .i64 n.tag) ∧ w'.cell? ⟨w.heap.size, 1, none⟩ = some (.slice aa n.attrs.length acap) ∧ w'.cell? ⟨w.heap.size, 2, none⟩ = some (.string n.text))
    (first | exact ⟨ct, k0, k1, k2⟩ | exact hkeep | go_keep)
    (first
    | (go_at_call 87; refine (anew_any _ HTS.out _).mono ?_; rintro e w' ⟨rfl, hy⟩; replace hy := Ext.undrew hy; have hkeep := (show _ ∧ _ ∧ _ ∧ _ from ⟨hy.cell ct, hy.cell k0, hy.cell k1, hy.cell k2⟩))
    | (go_at_call 94; refine (add_any (HT.out.keep ((HX.out.trans hy).keep HO.out)) (fun b hb => Nat.lt_of_lt_of_le (HO.out b hb) (HX.out.trans hy).size) HW.out.small (HRM.out _ rfl) n.tag (anewB n.text) _ n.attrs (HA.out.cells (HAP.out.ext (HX.out.trans hy)).cells) HAS.out (attrCells_one _)).mono ?_; rintro e w2 ⟨rfl, own2, ptr2, hT2, hS2⟩; have hkeep := (show _ ∧ _ ∧ _ ∧ _ from ⟨hS2.cellOld (HAP.out _ _ HTC.out).2 (hy.cell ct), hS2.cellOld HOB.out (hy.cell k0), hS2.cellOld HOB.out (hy.cell k1), hS2.cellOld HOB.out (hy.cell k2)⟩); have k3' := hS2.cellOld HOB.out (hy.cell k3)))
  replace hS2 := ((HX.out.trans hy).step HO.out).trans hS2
  rw [HI1.out]
  have HS2 := Lib.hid hS2
  have HT2 := Lib.hid hT2
  clear hkeep hS2 hT2 hy k0 k1 k2 k3 ct
  go_wp2_with fail
  go_loopw [7, 8, 22] (fun _ _ j wr => ∃ k : Nat, k ≤ n.kids.length ∧ j = .int .i64 k ∧ After own w tb (PN.intos i (T.put ⟨n.tag, n.attrs, anewB n.text, [], -1⟩) (n.kids.take k)) wr) (fun _ _ j _ => n.kids.length - (intOf j).toNat)
  case atStart => exact ⟨0, Nat.zero_le _, rfl, own2, ptr2, by simpa [PN.intos] using HT2.out, HS2.out⟩
  case round =>
    obtain ⟨k, hk, rfl, own3, ptr3, hT3, hS3⟩ := hrel
    have HT3 := Lib.hid hT3
    have HS3 := Lib.hid hS3
    clear hT3 hS3
    by_cases hlt : k < n.kids.length
    · obtain ⟨x, hx⟩ : ∃ x, n.kids[k]? = some x := ⟨n.kids[k], by simp [hlt]⟩
      have hap3 := HAP.out.step HS3.out
      cases ka with
      | none => exact absurd (HKN.out rfl).1 (by omega)
      | some a =>
        obtain ⟨b, off, sp⟩ := a
        obtain ⟨c0', c1', c2', c3', q0, q1, q2, q3, hrd⟩ := HKR.out _ rfl k x hx
        obtain ⟨av', kv', e, ha', hk'⟩ := hrd.open
        obtain ⟨aa', acap', e2, _⟩ := ha'.len_of
        obtain ⟨ka', kcap', e3, _⟩ := hk'
        subst e2 e3
        cases e
        clear ha'
        replace q0 := hap3.cells _ _ q0
        replace q1 := hap3.cells _ _ q1
        replace q2 := hap3.cells _ _ q2
        replace q3 := hap3.cells _ _ q3
        rw [add_later _ _ _ (by decide)] at q1 q2 q3
        obtain ⟨d3, nd3, hw3, hn3, hp3, hl3, hx3⟩ := HRD.out k
        obtain ⟨hc3, hh3⟩ := hx3 x hx
        have hmem : x ∈ n.kids := List.mem_of_getElem? hx
        have hshx : x.short = true := by
          have := HSH.out; rw [PN.short_eq] at this; simp at this
          exact PN.shorts_mem this.2 hmem
        have hokx : x.ok = true := PN.oks_mem (PN.ok_kids HOK.out) hmem
        have y1 := (Ext.refl wr).alloc (.cells #[.int .i64 x.tag, .slice aa' x.attrs.length acap', .string x.text, .slice ka' x.kids.length kcap'] 30)
        have hpc' := (hap3.ext y1).cells _ _ HPC.out
        have hrec := IH.out x hmem hokx hshx _ _ d3 own3 ptr3 (wr.alloc (.cells #[.int .i64 x.tag, .slice aa' x.attrs.length acap', .string x.text, .slice ka' x.kids.length kcap'] 30)) hrd (hap3.ext y1) (HT3.out.keep (y1.keep HS3.out.owned)) (fun b hb => Nat.lt_of_lt_of_le (HS3.out.owned b hb) y1.size) hw3 hc3 hh3
        obtain ⟨dz, m, hm1, hm0, hm2, hP⟩ := into_ok x hokx _ d3 hw3 hc3 hh3
        have HREC := Lib.hid hrec
        have HXX := Lib.hid hx
        have HY1 := Lib.hid y1
        have HW3 := Lib.hid hw3
        have HN3 := Lib.hid hn3
        have HM1 := Lib.hid hm1
        have HM2 := Lib.hid hm2
        have HP := Lib.hid hP
        have HL3 := Lib.hid hl3
        clear hx hrec hrd hmem hshx hokx y1 hw3 hn3 hx3 hc3 hh3 hap3 hm1 hm2 hP hl3 hp3
        go_wp2_with fail
        refine HREC.out.mono ?_
        rintro e w4 ⟨rfl, own4, ptr4, hT4, hS4⟩
        rw [HM1.out]
        replace hS4 := (HS3.out.ext HY1.out).trans hS4
        have hap4 := HAP.out.step hS4
        have ct := hap4.cells _ _ HTC.out
        have him : i ≠ m := fun e => HM2.out nd3 (e ▸ HN3.out)
        have hi4 := HP.out.old i nd3 him HN3.out
        obtain ⟨kd, hk1, hk2⟩ := HP.out.node
        obtain ⟨g4, gcap4, _, _, c3, cg, _⟩ := hT4.at hi4
        have cgm := hT4.nv hk1 c3
        obtain ⟨av5, kv5, bi, oi, _, hki⟩ := hT4.node i nd3 hi4
        obtain ⟨avm, kvm, bm, om, _, _⟩ := hT4.node m kd hk1
        obtain ⟨ka5, kcap5, e5, _, hkm5⟩ := hki.len
        subst e5
        have ci3 := cellOf bi (i := 3) (v := .slice ka5 nd3.kids.length kcap5) rfl
        have hil : (i : Int) < ((PN.into (PN.intos i (T.put ⟨n.tag, n.attrs, anewB n.text, [], -1⟩) (n.kids.take k)) x).nodes.length : Int) := by have := (List.getElem?_eq_some_iff.1 hi4).1; omega
        have hml : (m : Int) < ((PN.into (PN.intos i (T.put ⟨n.tag, n.attrs, anewB n.text, [], -1⟩) (n.kids.take k)) x).nodes.length : Int) := by have := (List.getElem?_eq_some_iff.1 hk1).1; omega
        have hlen5 := HP.out.wf.small.len
        have hnl : nd3.kids.length ≤ 60000 := by
          have := (HP.out.wf.small.len)
          have h1 := HL3.out
          have h2 := HC.out
          have h3 := HW.out.small.cap1
          have h4 := HW.out.small.count0
          omega
        have notc := (hap4 _ _ HTC.out).2
        obtain ⟨hog4, hotb4⟩ := hT4.rowOwn hi4 c3
        obtain ⟨i0, hii, hz0, hz1, hz2⟩ := info_parts infoI
        have npi : ptr4 m ≠ ptr4 i := fun e => by rw [e, oi] at om; simp at om; omega
        have fi3 := freeOf bi 3
        have fm4 := freeOf bm 4
        have cm4 := cellOf bm (i := 4) (v := .int .i64 kd.parent) rfl
        have lpi := cell_lt ci3
        have lpm := cell_lt cm4
        have n1 : ∀ z, own4 z = some (4, i) → z ≠ tc := fun z hz e => by rw [e, notc] at hz; cases hz
        have n2 : ∀ z, own4 z = some (4, i) → z ≠ tb := fun z hz e => by rw [e, hotb4] at hz; cases hz
        have n3 : ∀ z, own4 z = some (4, i) → z ≠ g4 := fun z hz e => by rw [e, hog4] at hz; cases hz
        have n4 : ∀ z, own4 z = some (4, i) → z ≠ ptr4 i := fun z hz e => by rw [e, oi] at hz; cases hz
        have n5 : ∀ z, own4 z = some (4, i) → z ≠ ptr4 m := fun z hz e => by rw [e, om] at hz; cases hz
        have m1 : tc ≠ ptr4 i := fun e => by rw [e, oi] at notc; cases notc
        have m2 : tb ≠ ptr4 i := fun e => by rw [e, oi] at hotb4; cases hotb4
        have m3 : g4 ≠ ptr4 i := fun e => by rw [e, oi] at hog4; cases hog4
        have hpw : ∀ x, x < w.heap.size → own4 x ≠ none → own x ≠ none := fun x hx hn => by rw [← hS4.same x hx]; exact hn
        have Hi := Lib.hid hii
        have Hz0 := Lib.hid hz0
        have Hz1 := Lib.hid hz1
        have Hz2 := Lib.hid hz2
        have HT4 := Lib.hid hT4
        have HS4 := Lib.hid hS4
        have HI4 := Lib.hid hi4
        have HK1 := Lib.hid hk1
        have HIM := Lib.hid him
        have HKI := Lib.hid hki
        have HPW := Lib.hid hpw
        have N1 := Lib.hid n1
        have N2 := Lib.hid n2
        have N3 := Lib.hid n3
        have N4 := Lib.hid n4
        have N5 := Lib.hid n5
        have FI3 := Lib.hid fi3
        have FM4 := Lib.hid fm4
        have CM4 := Lib.hid cm4
        have CGM := Lib.hid cgm
        have HK2 := Lib.hid hk2
        have HW4 := Lib.hid HP.out.wf
        generalize hTG : PN.into (PN.intos i (T.put ⟨n.tag, n.attrs, anewB n.text, [], -1⟩) (n.kids.take k)) x = TG at *
        have HTG := Lib.hid hTG
        have hi0' : (0 : Int) ≤ (i : Int) := Int.natCast_nonneg _
        have hm0' : (0 : Int) ≤ (m : Int) := Int.natCast_nonneg _
        have npz : ptr4 i ≠ w4.heap.size := Nat.ne_of_lt lpi
        have npz' := Ne.symm npz
        have ct' := fun (p : Addr) (v : Value) (h : w4.cell? p = some v) => ((Ext.refl w4).alloc (.cells #[.int .i64 m] 3)).cells p v h
        have ci3' : (w4.alloc (.cells #[.int .i64 m] 3)).cell? ⟨ptr4 i, 3, none⟩ = some (.slice ka5 nd3.kids.length kcap5) := ct' _ _ ci3
        have c3' := ct' _ _ c3
        have cg' := ct' _ _ cg
        replace ct' := ct' _ _ ct
        unfold maxLen at hkm5
        clear hii hz0 hz1 hz2 hT4 hS4 hi4 hk1 him hki hpw n1 n2 n3 n4 n5 fi3 fm4 cm4 cgm hk2 hTG bi bm notc hog4 hotb4 oi om hap4 HREC HW3 HN3 HM2 HP q0 q1 q2 q3 hpc'
        have xA : Ext w4 (w4.alloc (.cells #[.int .i64 m] 3)).drew := ((Ext.refl w4).alloc _).drew
        obtain ⟨v', wA, row, hrunA, hrA, hgA, hrowA⟩ := run_append_row (P := Try.prog) ((w4.alloc (.cells #[.int .i64 m] 3)).drew) 70 70 3 i0 (.int .i64 0) 1 8 Try.underlying70 Hi.out Hz0.out Hz1.out Hz2.out rfl (by decide) (p := fun b => own4 b = some (4, i)) (RowP.ext HKI.out xA) ⟨w4.heap.size, 0, none⟩ 1 1 [.int .i64 m] rfl (cell_one_new' (show (w4.alloc (.cells #[.int .i64 m] 3)).drew.cell? ⟨w4.heap.size, 0, none⟩ = some (.int .i64 m) from cellOf (heap_alloc_new w4 _) rfl)) (by simp [Value.oneCell']) (by decide) (by unfold maxLen; omega) (by omega)
        have ctA := grownCell xA hgA ct fun z hz => N1.out z (hrowA z hz)
        have c3A := grownCell xA hgA c3 fun z hz => N2.out z (hrowA z hz)
        have cgA := grownCell xA hgA cg fun z hz => N3.out z (hrowA z hz)
        have ciA := grownCell xA hgA ci3 fun z hz => N4.out z (hrowA z hz)
        have fA := grownFree xA hgA lpi FI3.out fun z hz => N4.out z (hrowA z hz)
        have fM := grownFree xA hgA lpm FM4.out fun z hz => N5.out z (hrowA z hz)
        have cM := grownCell xA hgA CM4.out fun z hz => N5.out z (hrowA z hz)
        have cG := grownCell xA hgA CGM.out fun z hz => N3.out z (hrowA z hz)
        have HJ := Lib.hid (join_plain (HS4.out.ext xA) (HT4.out.keep (xA.keep HS4.out.owned)) HI4.out HK1.out HIM.out HPW.out hrA hgA hrowA)
        obtain ⟨a7, cap7, e7, _⟩ := hrA.rd.len_of
        subst e7
        have HRA := Lib.hid hrunA
        clear hrA hgA hrowA hrunA
        go_upto_region 6 with fail
        go_cut [] (fun wx => wx = wA.setCell ⟨ptr4 i, 3, none⟩ (.slice a7 (nd3.kids.length + 1) cap7))
        case first =>
         as_aux_lemma =>
          refine wp_region_E (S := fun w' => w'.cell? ⟨tc, 0, none⟩ = some (.pointer (some ⟨tb, 0, none⟩)) ∧ w'.cell? ⟨tb, 3, none⟩ = some (.slice (some ⟨g4, 0, none⟩) TG.nodes.length gcap4) ∧ w'.cell? ⟨g4, i, none⟩ = some (.pointer (some ⟨ptr4 i, 0, none⟩)) ∧ w'.cell? ⟨ptr4 i, 3, none⟩ = some (.slice ka5 nd3.kids.length kcap5)) (n := 22) (by kernel_rfl) ?_
          have hS : w4.drew.cell? ⟨tc, 0, none⟩ = some (.pointer (some ⟨tb, 0, none⟩)) ∧ w4.drew.cell? ⟨tb, 3, none⟩ = some (.slice (some ⟨g4, 0, none⟩) TG.nodes.length gcap4) ∧ w4.drew.cell? ⟨g4, i, none⟩ = some (.pointer (some ⟨ptr4 i, 0, none⟩)) ∧ w4.drew.cell? ⟨ptr4 i, 3, none⟩ = some (.slice ka5 nd3.kids.length kcap5) := ⟨ct, c3, cg, ci3⟩
          show wpE _ _ _ _ _ 22 23 (Array.replicate 23 false) _ _
          refine wpE_take (i := 0) (v := .pointer (some ⟨tb, 0, none⟩)) (o := { dst := some 29, op := _, type := _, pos := _, after := _, guard := none }) rfl (by kernel_rfl) (by kernel_rfl) (by kernel_rfl) (by kernel_rfl) (fun _ _ _ h => h) (Or.inl ⟨by rfl, fun w' hSw => ?_⟩) hS ?_
          · (obtain ⟨s1, s2, s3, s4⟩ := hSw; clear hS; go_simp)
          try simp only [Act.put, List.setIfInBounds_toArray, List.set_cons_zero, List.set_cons_succ]
          refine wpE_take (i := 1) (v := .pointer (some ⟨tb, 0, none⟩)) (o := { dst := some 30, op := _, type := _, pos := _, after := _, guard := none }) rfl (by kernel_rfl) (by kernel_rfl) (by kernel_rfl) (by kernel_rfl) (fun _ _ _ h => h) (Or.inl ⟨by rfl, fun w' hSw => ?_⟩) hS ?_
          · (obtain ⟨s1, s2, s3, s4⟩ := hSw; clear hS; go_simp)
          try simp only [Act.put, List.setIfInBounds_toArray, List.set_cons_zero, List.set_cons_succ]
          refine wpE_take (i := 2) (v := .pointer (some ⟨tb, 3, none⟩)) (o := { dst := some 31, op := _, type := _, pos := _, after := _, guard := none }) rfl (by kernel_rfl) (by kernel_rfl) (by kernel_rfl) (by kernel_rfl) (fun _ _ _ h => h) (Or.inl ⟨by rfl, fun w' hSw => ?_⟩) hS ?_
          · (obtain ⟨s1, s2, s3, s4⟩ := hSw; clear hS; go_simp)
          try simp only [Act.put, List.setIfInBounds_toArray, List.set_cons_zero, List.set_cons_succ]
          refine wpE_take (i := 3) (v := .slice (some ⟨g4, 0, none⟩) TG.nodes.length gcap4) (o := { dst := some 32, op := _, type := _, pos := _, after := _, guard := none }) rfl (by kernel_rfl) (by kernel_rfl) (by kernel_rfl) (by kernel_rfl) (fun _ _ _ h => h) (Or.inl ⟨by rfl, fun w' hSw => ?_⟩) hS ?_
          · (obtain ⟨s1, s2, s3, s4⟩ := hSw; clear hS; go_simp)
          try simp only [Act.put, List.setIfInBounds_toArray, List.set_cons_zero, List.set_cons_succ]
          refine wpE_take (i := 4) (v := .int .i64 i) (o := { dst := some 33, op := _, type := _, pos := _, after := _, guard := none }) rfl (by kernel_rfl) (by kernel_rfl) (by kernel_rfl) (by kernel_rfl) (fun _ _ _ h => h) (Or.inl ⟨by rfl, fun w' hSw => ?_⟩) hS ?_
          · (obtain ⟨s1, s2, s3, s4⟩ := hSw; clear hS; go_simp)
          try simp only [Act.put, List.setIfInBounds_toArray, List.set_cons_zero, List.set_cons_succ]
          refine wpE_take (i := 5) (v := .pointer (some ⟨g4, i, none⟩)) (o := { dst := some 34, op := _, type := _, pos := _, after := _, guard := none }) rfl (by kernel_rfl) (by kernel_rfl) (by kernel_rfl) (by kernel_rfl) (fun _ _ _ h => h) (Or.inl ⟨by rfl, fun w' hSw => ?_⟩) hS ?_
          · (obtain ⟨s1, s2, s3, s4⟩ := hSw; clear hS; go_simp)
          try simp only [Act.put, List.setIfInBounds_toArray, List.set_cons_zero, List.set_cons_succ]
          refine wpE_take (i := 6) (v := .pointer (some ⟨ptr4 i, 0, none⟩)) (o := { dst := some 35, op := _, type := _, pos := _, after := _, guard := none }) rfl (by kernel_rfl) (by kernel_rfl) (by kernel_rfl) (by kernel_rfl) (fun _ _ _ h => h) (Or.inl ⟨by rfl, fun w' hSw => ?_⟩) hS ?_
          · (obtain ⟨s1, s2, s3, s4⟩ := hSw; clear hS; go_simp)
          try simp only [Act.put, List.setIfInBounds_toArray, List.set_cons_zero, List.set_cons_succ]
          refine wpE_take (i := 7) (v := .pointer (some ⟨tb, 0, none⟩)) (o := { dst := some 36, op := _, type := _, pos := _, after := _, guard := none }) rfl (by kernel_rfl) (by kernel_rfl) (by kernel_rfl) (by kernel_rfl) (fun _ _ _ h => h) (Or.inl ⟨by rfl, fun w' hSw => ?_⟩) hS ?_
          · (obtain ⟨s1, s2, s3, s4⟩ := hSw; clear hS; go_simp)
          try simp only [Act.put, List.setIfInBounds_toArray, List.set_cons_zero, List.set_cons_succ]
          refine wpE_take (i := 8) (v := .pointer (some ⟨tb, 0, none⟩)) (o := { dst := some 37, op := _, type := _, pos := _, after := _, guard := none }) rfl (by kernel_rfl) (by kernel_rfl) (by kernel_rfl) (by kernel_rfl) (fun _ _ _ h => h) (Or.inl ⟨by rfl, fun w' hSw => ?_⟩) hS ?_
          · (obtain ⟨s1, s2, s3, s4⟩ := hSw; clear hS; go_simp)
          try simp only [Act.put, List.setIfInBounds_toArray, List.set_cons_zero, List.set_cons_succ]
          refine wpE_take (i := 9) (v := .pointer (some ⟨tb, 3, none⟩)) (o := { dst := some 38, op := _, type := _, pos := _, after := _, guard := none }) rfl (by kernel_rfl) (by kernel_rfl) (by kernel_rfl) (by kernel_rfl) (fun _ _ _ h => h) (Or.inl ⟨by rfl, fun w' hSw => ?_⟩) hS ?_
          · (obtain ⟨s1, s2, s3, s4⟩ := hSw; clear hS; go_simp)
          try simp only [Act.put, List.setIfInBounds_toArray, List.set_cons_zero, List.set_cons_succ]
          refine wpE_take (i := 10) (v := .slice (some ⟨g4, 0, none⟩) TG.nodes.length gcap4) (o := { dst := some 39, op := _, type := _, pos := _, after := _, guard := none }) rfl (by kernel_rfl) (by kernel_rfl) (by kernel_rfl) (by kernel_rfl) (fun _ _ _ h => h) (Or.inl ⟨by rfl, fun w' hSw => ?_⟩) hS ?_
          · (obtain ⟨s1, s2, s3, s4⟩ := hSw; clear hS; go_simp)
          try simp only [Act.put, List.setIfInBounds_toArray, List.set_cons_zero, List.set_cons_succ]
          refine wpE_take (i := 11) (v := .int .i64 i) (o := { dst := some 40, op := _, type := _, pos := _, after := _, guard := none }) rfl (by kernel_rfl) (by kernel_rfl) (by kernel_rfl) (by kernel_rfl) (fun _ _ _ h => h) (Or.inl ⟨by rfl, fun w' hSw => ?_⟩) hS ?_
          · (obtain ⟨s1, s2, s3, s4⟩ := hSw; clear hS; go_simp)
          try simp only [Act.put, List.setIfInBounds_toArray, List.set_cons_zero, List.set_cons_succ]
          refine wpE_take (i := 12) (v := .pointer (some ⟨g4, i, none⟩)) (o := { dst := some 41, op := _, type := _, pos := _, after := _, guard := none }) rfl (by kernel_rfl) (by kernel_rfl) (by kernel_rfl) (by kernel_rfl) (fun _ _ _ h => h) (Or.inl ⟨by rfl, fun w' hSw => ?_⟩) hS ?_
          · (obtain ⟨s1, s2, s3, s4⟩ := hSw; clear hS; go_simp)
          try simp only [Act.put, List.setIfInBounds_toArray, List.set_cons_zero, List.set_cons_succ]
          refine wpE_take (i := 13) (v := .pointer (some ⟨ptr4 i, 0, none⟩)) (o := { dst := some 42, op := _, type := _, pos := _, after := _, guard := none }) rfl (by kernel_rfl) (by kernel_rfl) (by kernel_rfl) (by kernel_rfl) (fun _ _ _ h => h) (Or.inl ⟨by rfl, fun w' hSw => ?_⟩) hS ?_
          · (obtain ⟨s1, s2, s3, s4⟩ := hSw; clear hS; go_simp)
          try simp only [Act.put, List.setIfInBounds_toArray, List.set_cons_zero, List.set_cons_succ]
          refine wpE_take (i := 14) (v := .pointer (some ⟨ptr4 i, 0, none⟩)) (o := { dst := some 43, op := _, type := _, pos := _, after := _, guard := none }) rfl (by kernel_rfl) (by kernel_rfl) (by kernel_rfl) (by kernel_rfl) (fun _ _ _ h => h) (Or.inl ⟨by rfl, fun w' hSw => ?_⟩) hS ?_
          · (obtain ⟨s1, s2, s3, s4⟩ := hSw; clear hS; go_simp)
          try simp only [Act.put, List.setIfInBounds_toArray, List.set_cons_zero, List.set_cons_succ]
          refine wpE_take (i := 15) (v := .pointer (some ⟨ptr4 i, 3, none⟩)) (o := { dst := some 44, op := _, type := _, pos := _, after := _, guard := none }) rfl (by kernel_rfl) (by kernel_rfl) (by kernel_rfl) (by kernel_rfl) (fun _ _ _ h => h) (Or.inl ⟨by rfl, fun w' hSw => ?_⟩) hS ?_
          · (obtain ⟨s1, s2, s3, s4⟩ := hSw; clear hS; go_simp)
          try simp only [Act.put, List.setIfInBounds_toArray, List.set_cons_zero, List.set_cons_succ]
          refine wpE_take (i := 16) (v := .slice ka5 nd3.kids.length kcap5) (o := { dst := some 45, op := _, type := _, pos := _, after := _, guard := none }) rfl (by kernel_rfl) (by kernel_rfl) (by kernel_rfl) (by kernel_rfl) (fun _ _ _ h => h) (Or.inl ⟨by rfl, fun w' hSw => ?_⟩) hS ?_
          · (obtain ⟨s1, s2, s3, s4⟩ := hSw; clear hS; go_simp)
          try simp only [Act.put, List.setIfInBounds_toArray, List.set_cons_zero, List.set_cons_succ]
          refine wpE_take (i := 17) (v := .int .i64 m) (o := { dst := some 46, op := _, type := _, pos := _, after := _, guard := none }) rfl (by kernel_rfl) (by kernel_rfl) (by kernel_rfl) (by kernel_rfl) (fun _ _ _ h => h) (Or.inl ⟨by rfl, fun w' hSw => ?_⟩) hS ?_
          · (obtain ⟨s1, s2, s3, s4⟩ := hSw; clear hS; go_simp)
          try simp only [Act.put, List.setIfInBounds_toArray, List.set_cons_zero, List.set_cons_succ]
          refine wpE_one (i := 18) (o := { dst := some 47, op := _, type := _, pos := _, after := _, guard := none }) (by kernel_rfl) rfl (fun K hK => ?_)
          go_simp
          refine hK.out _ _ (.inr ⟨ct', c3', cg', ci3'⟩) ?_
          clear hK K
          try simp only [Act.put, List.setIfInBounds_toArray, List.set_cons_zero, List.set_cons_succ]
          refine wpE_one (i := 19) (o := { dst := some 48, op := _, type := _, pos := _, after := _, guard := none }) (by kernel_rfl) rfl (fun K hK => ?_)
          refine step_append_run (by rfl) _ _ 70 (by rfl) (.slice ka5 nd3.kids.length kcap5) (.slice (some ⟨w4.heap.size, 0, none⟩) 1 1) (by rfl) (by rfl) (.slice a7 (nd3.kids.length + 1) cap7) wA HRA.out ?_
          refine hK.out _ _ (.inr ⟨ctA, c3A, cgA, ciA⟩) ?_
          clear hK K
          try simp only [Act.put, List.setIfInBounds_toArray, List.set_cons_zero, List.set_cons_succ]
          refine wpE_one (i := 20) (o := { dst := some 49, op := _, type := _, pos := _, after := _, guard := none }) (by kernel_rfl) rfl (fun K hK => ?_)
          go_simp
          refine hK.out _ _ (.inr ⟨ctA, c3A, cgA, ciA⟩) ?_
          clear hK K
          try simp only [Act.put, List.setIfInBounds_toArray, List.set_cons_zero, List.set_cons_succ]
          refine wpE_one (i := 21) (o := { dst := some 50, op := _, type := _, pos := _, after := _, guard := none }) (by kernel_rfl) rfl (fun K hK => ?_)
          go_simp
          refine hK.out _ _ (.inr ⟨ctA, c3A, cgA, ciA⟩) ?_
          clear hK K
          try simp only [Act.put, List.setIfInBounds_toArray, List.set_cons_zero, List.set_cons_succ]
          refine wpE_one (i := 22) (o := { dst := none, op := _, type := _, pos := _, after := _, guard := none }) (by kernel_rfl) rfl (fun K hK => ?_)
          go_simp
          refine hK.out _ _ (.inl rfl) ?_
          clear hK K
          refine wpE_done (by kernel_rfl) ?_
          go_wp2_with fail
          go_meet
          rfl
        case rest =>
          subst hcut
          have m1' := Ne.symm m1
          have m2' := Ne.symm m2
          have m3' := Ne.symm m3
          have npi' := Ne.symm npi
          have ctB : (wA.setCell ⟨ptr4 i, 3, none⟩ (.slice a7 (nd3.kids.length + 1) cap7)).cell? ⟨tc, 0, none⟩ = some (.pointer (some ⟨tb, 0, none⟩)) := (World.cell?_of_block (a := ⟨tc, 0, none⟩) (heap_setCell_other _ m1)).trans ctA
          have c3B : (wA.setCell ⟨ptr4 i, 3, none⟩ (.slice a7 (nd3.kids.length + 1) cap7)).cell? ⟨tb, 3, none⟩ = some (.slice (some ⟨g4, 0, none⟩) TG.nodes.length gcap4) := (World.cell?_of_block (a := ⟨tb, 3, none⟩) (heap_setCell_other _ m2)).trans c3A
          have cgB : (wA.setCell ⟨ptr4 i, 3, none⟩ (.slice a7 (nd3.kids.length + 1) cap7)).cell? ⟨g4, m, none⟩ = some (.pointer (some ⟨ptr4 m, 0, none⟩)) := (World.cell?_of_block (a := ⟨g4, m, none⟩) (heap_setCell_other _ m3)).trans cG
          have cmB : (wA.setCell ⟨ptr4 i, 3, none⟩ (.slice a7 (nd3.kids.length + 1) cap7)).cell? ⟨ptr4 m, 4, none⟩ = some (.int .i64 kd.parent) := (World.cell?_of_block (a := ⟨ptr4 m, 4, none⟩) (heap_setCell_other _ npi)).trans cM
          have fmB : (wA.setCell ⟨ptr4 i, 3, none⟩ (.slice a7 (nd3.kids.length + 1) cap7)).frozen? ⟨ptr4 m, 4, none⟩ = false := (World.frozen?_of_block (a := ⟨ptr4 m, 4, none⟩) (heap_setCell_other _ npi)).trans fM
          obtain ⟨wB, hwB⟩ : ∃ wB : World, wB = wA.setCell ⟨ptr4 i, 3, none⟩ (.slice a7 (nd3.kids.length + 1) cap7) := ⟨_, rfl⟩
          rw [← hwB] at ctB c3B cgB cmB fmB HJ ⊢
          clear hwB ctA c3A cgA ciA fA fM cM cG ct c3 cg ci3 ct' c3' cg' ci3' HRA
          go_wp2_with fail
          go_roundw
          case rel =>
            obtain ⟨own1, _, _, j3, j4⟩ := HJ.out
            refine ⟨k + 1, by omega, by go_num, own1, ptr4, ?_, j3⟩
            rw [intos_take _ _ _ _ _ HXX.out, HTG.out, HM1.out]
            have e : TG.join i m = TG.attach i m nd3 kd := by
              unfold Tr.join
              rw [Int.toNat_natCast, Int.toNat_natCast, look_of HI4.out, look_of HK1.out]
            rw [e]; exact j4
          case measure => simp [intOf]; omega
    · go_wp2_with fail
      go_ret
      refine ⟨by rw [HI1.out]; rfl, own3, ptr3, ?_, HS3.out⟩
      have h := HT3.out
      rw [List.take_of_length_le (by omega)] at h
      rw [PN.into_eq, HI1.out]
      exact h
end Go.Proofs.Ytiglflmjidikpaa

namespace Go.Proofs.Ytiglflmjidikpaa
open Go Go.RowKit Go.BigFrame
set_option linter.unusedVariables false
set_option linter.unusedSimpArgs false

theorem nodup_le {l m : List Int} (hn : l.Nodup) (h : ∀ x ∈ l, x ∈ m) : l.length ≤ m.length := by
  induction l generalizing m with
  | nil => simp
  | cons a r ih =>
    have ha := h a (by simp)
    have hr := List.nodup_cons.1 hn
    have := ih (m := m.erase a) hr.2 fun x hx => (List.mem_erase_of_ne (fun e => hr.1 (by rw [← e]; exact hx))).2 (h x (by simp [hx]))
    rw [List.length_erase_of_mem ha] at this
    have := List.length_pos_of_mem ha
    simp only [List.length_cons]; omega
theorem WF.kids_len {T : Tr} {d : Nat → Nat} (hw : WF T d) {i : Nat} {nd : Nd} (h : T.nodes[i]? = some (some nd)) : nd.kids.length ≤ 2000 := by
  have h1 := nodup_le (m := (List.range T.nodes.length).map Int.ofNat) (hw.kids i nd h).1 fun x hx => by
    obtain ⟨j, kd, rfl, hj, _⟩ := (hw.kids i nd h).2 x hx
    exact List.mem_map.2 ⟨j, List.mem_range.2 (List.getElem?_eq_some_iff.1 hj).1, rfl⟩
  simp at h1
  have := hw.small.len
  omega
/-- the world without what the tree owns -/
def hide (own : Ow) (w : World) : World := { w with heap := w.heap.mapIdx fun b x => if (own b).isNone then x else .cells #[] 0 (0, 0) }
theorem hide_cell {own : Ow} {w : World} {p : Addr} {v : Value} (h : w.cell? p = some v) (hn : own p.block = none) : (hide own w).cell? p = some v := by
  rw [← h]
  refine World.cell?_of_block ?_
  show (w.heap.mapIdx _)[p.block]? = _
  rw [Array.getElem?_mapIdx, hn]
  cases w.heap[p.block]? <;> rfl
theorem hide_apart (own : Ow) (w : World) : Apart (hide own w) own w := by
  intro p v h
  have hn : own p.block = none := by
    cases ho : own p.block with
    | none => rfl
    | some x =>
      exfalso
      have hb : (hide own w).heap[p.block]? = (w.heap[p.block]?).map fun _ => (.cells #[] 0 (0, 0) : Obj) := by
        show (w.heap.mapIdx _)[p.block]? = _
        rw [Array.getElem?_mapIdx, ho]; rfl
      cases hw : w.heap[p.block]? with
      | none => rw [hw] at hb; simp [World.cell?, hb] at h
      | some o => rw [hw] at hb; simp [World.cell?, hb] at h
  refine ⟨?_, hn⟩
  rw [← h]
  refine (World.cell?_of_block ?_).symm
  show (w.heap.mapIdx _)[p.block]? = _
  rw [Array.getElem?_mapIdx, hn]
  cases w.heap[p.block]? <;> rfl
theorem Apart.hide {g : World} {own : Ow} {w : World} (h : Apart g own w) : Cells g (hide own w) := fun p v hp => hide_cell (h p v hp).1 (h p v hp).2
/-- old nodes are not within the new one, and lie as deep as they did -/
theorem Put.apart {T T' : Tr} {d d' : Nat → Nat} {i : Nat} {n : PN} {sz hi : Nat} (hP : Put T T' d' i n sz hi) (hw : WF T d) (hi2 : ∀ x : Nd, T.nodes[i]? ≠ some (some x)) :
    ∀ (j : Nat) (jd : Nd), T.nodes[j]? = some (some jd) → T'.within j i = false ∧ d' j = d j := by
  refine hw.induct _ (fun j jd h hp hd => ?_) (fun j jd p pd h hp hpd hd ih => ?_)
  · have hji : j ≠ i := fun e => hi2 jd (e ▸ h)
    have h' := hP.old j jd hji h
    refine ⟨by rw [hP.wf.within_root h' hp]; simp; omega, ?_⟩
    rcases hP.wf.up j jd h' with ⟨h3, h4⟩ | ⟨q, qd, h3, h4, h5, h6⟩
    · omega
    · omega
  · have hji : j ≠ i := fun e => hi2 jd (e ▸ h)
    have h' := hP.old j jd hji h
    refine ⟨by rw [hP.wf.within_step h', if_neg (by omega), hp]; exact ih.1, ?_⟩
    rcases hP.wf.up j jd h' with ⟨h3, h4⟩ | ⟨q, qd, h3, h4, h5, h6⟩
    · omega
    · obtain rfl : q = p := by omega
      omega
def TwoErr (er : Int) (own : Ow) (w : World) (e : Ending) (w' : World) : Prop := e = .returned (.tuple #[.int .i64 0, .int .i64 er]) ∧ Ext w w'

set_option maxRecDepth 100000 in
set_option maxHeartbeats 1000000 in
theorem Graft_none {w : World} {own : Ow} {ptr : Nat → Nat} {tb : Nat} {T : Tr} (hT : TreeAt w own ptr tb T) (hO : Owned own w) {p at' : Int} (h : T.get? p = none) (x y z u : Value) :
    Calls Try.prog 31 #[.pointer (some ⟨tb, 0, none⟩), .int .i64 p, .int .i64 at', .agg #[x, y, z, u]] w (RTwo (.int .i64 0) (.int .i64 2) w) := by
  have x1 := ((Ext.refl w).alloc (.cells #[.pointer (some ⟨tb, 0, none⟩)] 25)).alloc (.cells #[x, y, z, u] 30)
  have HT := Lib.hid (hT.keep (x1.keep hO))
  have H := Lib.hid h
  have HX := Lib.hid x1
  clear h hT x1
  go_enter Try.func31, Try.ntmps31
  go_wp2_with (go_at_call 80; refine (get_none HT.out H.out).mono ?_; rintro e w' ⟨rfl, rfl⟩)
  go_ret2
  exact ⟨rfl, HX.out⟩
set_option maxRecDepth 100000 in
set_option maxHeartbeats 1000000 in
theorem Graft_kind {w : World} {own : Ow} {ptr : Nat → Nat} {tb : Nat} {T : Tr} (hT : TreeAt w own ptr tb T) (hO : Owned own w) {p at' : Int} {pd : Nd} (h : T.get? p = some pd) (ht : (pd.tag == 0) = true) (x y z u : Value) :
    Calls Try.prog 31 #[.pointer (some ⟨tb, 0, none⟩), .int .i64 p, .int .i64 at', .agg #[x, y, z, u]] w (RTwo (.int .i64 0) (.int .i64 6) w) := by
  have x1 := ((Ext.refl w).alloc (.cells #[.pointer (some ⟨tb, 0, none⟩)] 25)).alloc (.cells #[x, y, z, u] 30)
  have hT1 := hT.keep (x1.keep hO)
  obtain ⟨avp, kvp, bp, _, _, hkp⟩ := hT1.node _ _ (Tr.get_lt h).2.2
  have cp0 := cellOf bp (i := 0) (v := .int .i64 pd.tag) rfl
  have HT := Lib.hid hT1
  have H := Lib.hid h
  have HX := Lib.hid x1
  clear h hT x1 hT1 bp hkp
  go_enter Try.func31, Try.ntmps31
  go_wp2_with (go_at_call 80; refine (get_some HT.out H.out).mono ?_; rintro e w' ⟨rfl, rfl⟩)
  go_ret2
  exact ⟨rfl, HX.out⟩
set_option maxRecDepth 100000 in
set_option maxHeartbeats 1000000 in
theorem Graft_arg {w : World} {own : Ow} {ptr : Nat → Nat} {tb : Nat} {T : Tr} (hT : TreeAt w own ptr tb T) (hO : Owned own w) {p at' : Int} {pd : Nd} (h : T.get? p = some pd) (ht : (pd.tag == 0) = false) (ha : at' < 0 ∨ (pd.kids.length : Int) < at') (x y z u : Value) :
    Calls Try.prog 31 #[.pointer (some ⟨tb, 0, none⟩), .int .i64 p, .int .i64 at', .agg #[x, y, z, u]] w (RTwo (.int .i64 0) (.int .i64 1) w) := by
  have x1 := ((Ext.refl w).alloc (.cells #[.pointer (some ⟨tb, 0, none⟩)] 25)).alloc (.cells #[x, y, z, u] 30)
  have hT1 := hT.keep (x1.keep hO)
  obtain ⟨avp, kvp, bp, _, _, hkp⟩ := hT1.node _ _ (Tr.get_lt h).2.2
  obtain ⟨ka, kcap, rfl, kc1, kc2⟩ := hkp.len
  have cp0 := cellOf bp (i := 0) (v := .int .i64 pd.tag) rfl
  have cp3 := cellOf bp (i := 3) (v := .slice ka pd.kids.length kcap) rfl
  have HT := Lib.hid hT1
  have H := Lib.hid h
  have HX := Lib.hid x1
  clear h hT x1 hT1 bp hkp kc1 kc2
  by_cases h1 : at' < 0
  · clear ha
    go_enter Try.func31, Try.ntmps31
    go_wp2_with (go_at_call 80; refine (get_some HT.out H.out).mono ?_; rintro e w' ⟨rfl, rfl⟩)
    go_ret2
    exact ⟨rfl, HX.out⟩
  · have h2 : (pd.kids.length : Int) < at' := by rcases ha with h | h; exact absurd h h1; exact h
    clear ha
    go_enter Try.func31, Try.ntmps31
    go_wp2_with (go_at_call 80; refine (get_some HT.out H.out).mono ?_; rintro e w' ⟨rfl, rfl⟩)
    go_ret2
    exact ⟨rfl, HX.out⟩
end Go.Proofs.Ytiglflmjidikpaa
