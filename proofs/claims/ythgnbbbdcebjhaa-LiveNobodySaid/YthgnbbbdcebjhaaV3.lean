/- what of Base D1 D2 D3 D4 D5 D6 D7 D8 D9 D11 OwnN Plain D10 Sit Apart GraftP OrdA OrdB OrdP OrdC PtsA PtsB PtsD this seat can say -/
import Derived.Test.YthgnbbbdcebjhaaV2

namespace Go.Proofs.Ythgnbbbdcebjhaa
open Go Go.RowKit Go.BigFrame
set_option linter.unusedVariables false
set_option linter.unusedSimpArgs false

theorem Step.cellOld {own own' : Ow} {w w' : World} (h : Step own w own' w') {b o : Nat} {v : Value} (hn : own b = none) (hc : w.cell? ⟨b, o, none⟩ = some v) : w'.cell? ⟨b, o, none⟩ = some v :=
  (World.cell?_of_block (a := ⟨b, o, none⟩) (h.rest b (World.block_lt_of_cell? w _ hc) hn)).trans hc
theorem TreeAt.rowOwn {w : World} {own : Ow} {ptr : Nat → Nat} {tb : Nat} {T : Tr} (hT : TreeAt w own ptr tb T) {g cap : Nat} {i : Nat} {nd : Nd} (h : T.nodes[i]? = some (some nd))
    (hc : w.cell? ⟨tb, 3, none⟩ = some (.slice (some ⟨g, 0, none⟩) T.nodes.length cap)) : own g = some (1, 0) ∧ own tb = some (0, 0) := by
  obtain ⟨nv, hb, hot, hrow⟩ := hT.head
  have h3 := cellOf hb (i := 3) (v := nv) rfl
  rw [hc] at h3
  obtain rfl : nv = .slice (some ⟨g, 0, none⟩) T.nodes.length cap := by injection h3 with h3; exact h3.symm
  rcases hrow.2 with ⟨h0, _⟩ | ⟨g', cap', cur, q1, q2, _⟩
  · have := (List.getElem?_eq_some_iff.1 h).1; omega
  · cases q1; exact ⟨q2, hot⟩
theorem grownCell {w cw wA : World} {row : Option Nat} (hx : Ext w cw) (hg : cw.grownBy wA row) {b o : Nat} {v : Value} (hc : w.cell? ⟨b, o, none⟩ = some v) (hne : ∀ k, row = some k → k ≠ b) : wA.cell? ⟨b, o, none⟩ = some v := by
  have h1 := hx.cell hc
  exact (World.cell?_of_block (a := ⟨b, o, none⟩) (hg.block b (World.block_lt_of_cell? cw _ h1) (fun e => hne b e.symm rfl))).trans h1
theorem grownFree {w cw wA : World} {row : Option Nat} (hx : Ext w cw) (hg : cw.grownBy wA row) {b o : Nat} (hl : b < w.heap.size) (hc : w.frozen? ⟨b, o, none⟩ = false) (hne : ∀ k, row = some k → k ≠ b) : wA.frozen? ⟨b, o, none⟩ = false := by
  have h1 := hx.free hl hc
  exact (World.frozen?_of_block (a := ⟨b, o, none⟩) (hg.block b (Nat.lt_of_lt_of_le hl hx.size) (fun e => hne b e.symm rfl))).trans h1
/-- one kid more: the row of kids has been appended to and stored, the kid's parent stored -/
theorem join_plain {w cw wA : World} {own0 own : Ow} {ptr : Nat → Nat} {tb : Nat} {T : Tr} (h0 : Step own0 w own cw) (hT : TreeAt cw own ptr tb T) {p k : Nat} {pd kd : Nd} (hp : T.nodes[p]? = some (some pd)) (hk : T.nodes[k]? = some (some kd)) (hpk : p ≠ k)
    (hpw : ∀ x, x < w.heap.size → own x ≠ none → own0 x ≠ none)
    {v : Value} {row : Option Nat} (hr : RowP wA (fun g => own g = some (4, p) ∨ cw.heap.size ≤ g) 3 1 v (pd.kids.length + 1) (pd.kids.map (Value.int .i64) ++ [.int .i64 k])) (hg : cw.grownBy wA row) (hrow : ∀ b, row = some b → own b = some (4, p)) :
    ∃ own1, Step own0 w own1 (wA.setCell ⟨ptr p, 3, none⟩ v) ∧ TreeAt (wA.setCell ⟨ptr p, 3, none⟩ v) own1 ptr tb { T with nodes := T.nodes.set p (some { pd with kids := pd.kids ++ [(k : Int)] }) } ∧
      Step own0 w own1 ((wA.setCell ⟨ptr p, 3, none⟩ v).setCell ⟨ptr k, 4, none⟩ (.int .i64 p)) ∧ TreeAt ((wA.setCell ⟨ptr p, 3, none⟩ v).setCell ⟨ptr k, 4, none⟩ (.int .i64 p)) own1 ptr tb (T.attach p k pd kd) := by
  obtain ⟨av, kv, b1, b2, b3, b4⟩ := hT.node p pd hp
  obtain ⟨avk, kvk, c1, c2, c3, c4⟩ := hT.node k kd hk
  have hr' : RowP wA (fun g => own g = some (4, p) ∨ cw.heap.size ≤ g) 3 1 v (pd.kids ++ [(k : Int)]).length ((pd.kids ++ [(k : Int)]).map (Value.int .i64)) := by
    simpa using hr
  obtain ⟨own1, hs1, hT1, hsame⟩ := kids_plain h0 hT hp (pd.kids ++ [(k : Int)]) (fun hx => hpw _ hx (by rw [b2]; simp)) (fun b hb hb2 => hpw _ hb (by rw [hb2]; simp)) hr' hg hrow
  have hkd : (T.nodes.set p (some { pd with kids := pd.kids ++ [(k : Int)] }))[k]? = some (some kd) := by
    rw [List.getElem?_set, if_neg hpk]; exact hk
  have hT2 := hT1.setParent hkd (p : Int)
  exact ⟨own1, hs1, hT1, hs1.setCell (p := ⟨ptr k, 4, none⟩) (fun hx => hpw _ hx (by rw [c2]; simp)) _, hT2⟩

set_option maxRecDepth 100000 in
set_option maxHeartbeats 8000000 in
theorem put_any {g : World} {tb tc pc : Nat} (htc : g.cell? ⟨tc, 0, none⟩ = some (.pointer (some ⟨tb, 0, none⟩))) (hpc : g.cell? ⟨pc, 0, none⟩ = some (putF tc pc)) :
    ∀ n : PN, n.ok = true → n.short = true → ∀ (nv : Value) (T : Tr) (d : Nat → Nat) (own : Ow) (ptr : Nat → Nat) (w : World), RdN g n nv → Apart g own w → TreeAt w own ptr tb T → Owned own w → WF T d → T.count + n.size ≤ T.cap → (n.high : Int) ≤ T.deep →
      Calls Try.prog 50 #[nv, .pointer (some ⟨tc, 0, none⟩), .pointer (some ⟨pc, 0, none⟩)] w (AddIs own w tb T.newId (PN.into T n)) := by
  refine PN.induct _ fun n ih hok hsh nv T d own ptr w hr hap hT hO hw hc hh => ?_
  obtain ⟨i, hi1, hi0, hi2, hround⟩ := put_round hok hw hc hh
  obtain ⟨av, kv, rfl, ha, hk⟩ := hr.open
  obtain ⟨aa, acap, rfl, hac⟩ := ha.len_of
  obtain ⟨ka, kcap, rfl, hkc, hkm, hkn, hkr⟩ := hk
  have x1 := (Ext.refl w).alloc (.cells #[.int .i64 n.tag, .slice aa n.attrs.length acap, .string n.text, .slice ka n.kids.length kcap] 39)
  have hbox := heap_alloc_new w (.cells #[.int .i64 n.tag, .slice aa n.attrs.length acap, .string n.text, .slice ka n.kids.length kcap] 39)
  have hob : own w.heap.size = none := by
    cases ho : own w.heap.size with
    | none => rfl
    | some x => have := hO w.heap.size (by simp [ho]); omega
  have hts : n.text.size ≤ 100000 := by have := hsh; rw [PN.short_eq] at this; simp at this; exact this.1.1
  have has : n.attrs.length ≤ 60000 := by have := hsh; rw [PN.short_eq] at this; simp at this; exact this.1.2
  have hroom : ∀ (T' : Tr), T' = T → (∀ x ∈ T.nodes, x ≠ none) → T.nodes.length ≤ 1999 := fun _ _ hall => by
    have := hw.len_full hall; have := hw.small.cap1; have := n.size_pos; omega
  have HX := Lib.hid x1
  have HA := Lib.hid ha
  have HKR := Lib.hid hkr
  have HKN := Lib.hid hkn
  have HAP := Lib.hid hap
  have HT := Lib.hid hT
  have HO := Lib.hid hO
  have HW := Lib.hid hw
  have HC := Lib.hid hc
  have HH := Lib.hid hh
  have HSH := Lib.hid hsh
  have HOK := Lib.hid hok
  have IH := Lib.hid ih
  have HI1 := Lib.hid hi1
  have HI2 := Lib.hid hi2
  have HRD := Lib.hid hround
  have HOB := Lib.hid hob
  have HTS := Lib.hid hts
  have HAS := Lib.hid has
  have HRM := Lib.hid hroom
  have HTC := Lib.hid htc
  have HPC := Lib.hid hpc
  unfold maxLen at hkm
  clear x1 ha hkr hkn hap hT hO hw hc hh hsh hok ih hi1 hi2 hround hr hob hts has hroom
  go_enter Try.func50, Try.ntmps50
  go_upto_region 1 with fail
  obtain ⟨wb, hwb⟩ : ∃ wb : World, wb = w.alloc (.cells #[.int .i64 n.tag, .slice aa n.attrs.length acap, .string n.text, .slice ka n.kids.length kcap] 39) := ⟨_, rfl⟩
  rw [← hwb] at hbox HX ⊢
  clear hwb
  have k0 := cellOf hbox (i := 0) (v := .int .i64 n.tag) rfl
  have k1 := cellOf hbox (i := 1) (v := .slice aa n.attrs.length acap) rfl
  have k2 := cellOf hbox (i := 2) (v := .string n.text) rfl
  have k3 := cellOf hbox (i := 3) (v := .slice ka n.kids.length kcap) rfl
  have ct := (HAP.out.ext HX.out).cells _ _ htc
  clear hbox htc hpc
  go_region_held3 (fun w' => w'.cell? ⟨tc, 0, none⟩ = some (.pointer (some ⟨tb, 0, none⟩)) ∧ w'.cell? ⟨w.heap.size, 0, none⟩ = some (.int .i64 n.tag) ∧ w'.cell? ⟨w.heap.size, 1, none⟩ = some (.slice aa n.attrs.length acap) ∧ w'.cell? ⟨w.heap.size, 2, none⟩ = some (.string n.text))
    (first | exact ⟨ct, k0, k1, k2⟩ | exact hkeep | go_keep)
    (first
    | (go_at_call 52; refine (anew_any _ HTS.out _).mono ?_; rintro e w' ⟨rfl, hy⟩; replace hy := Ext.undrew hy; have hkeep := (show _ ∧ _ ∧ _ ∧ _ from ⟨hy.cell ct, hy.cell k0, hy.cell k1, hy.cell k2⟩))
    | (go_at_call 51; refine (add_any (HT.out.keep ((HX.out.trans hy).keep HO.out)) (fun b hb => Nat.lt_of_lt_of_le (HO.out b hb) (HX.out.trans hy).size) HW.out.small (HRM.out _ rfl) n.tag (anewB n.text) _ n.attrs (HA.out.cells (HAP.out.ext (HX.out.trans hy)).cells) HAS.out (attrCells_one _)).mono ?_; rintro e w2 ⟨rfl, own2, ptr2, hT2, hS2⟩; have hkeep := (show _ ∧ _ ∧ _ ∧ _ from ⟨hS2.cellOld (HAP.out _ _ HTC.out).2 (hy.cell ct), hS2.cellOld HOB.out (hy.cell k0), hS2.cellOld HOB.out (hy.cell k1), hS2.cellOld HOB.out (hy.cell k2)⟩); have k3' := hS2.cellOld HOB.out (hy.cell k3)))
  replace hS2 := ((HX.out.trans hy).step HO.out).trans hS2
  rw [HI1.out]
  have HS2 := Lib.hid hS2
  have HT2 := Lib.hid hT2
  clear hkeep hS2 hT2 hy k0 k1 k2 k3 ct
  go_wp2_with fail
  go_loopw [7, 8, 22] (fun _ _ j wr => ∃ k : Nat, k ≤ n.kids.length ∧ j = .int .i64 k ∧ After own w tb (PN.intos i (T.put ⟨n.tag, n.attrs, anewB n.text, [], -1⟩) (n.kids.take k)) wr) (fun _ _ j _ => n.kids.length - (intOf j).toNat)
  case atStart => exact ⟨0, Nat.zero_le _, rfl, own2, ptr2, by simpa [PN.intos] using HT2.out, HS2.out⟩
  case round =>
    obtain ⟨k, hk, rfl, own3, ptr3, hT3, hS3⟩ := hrel
    have HT3 := Lib.hid hT3
    have HS3 := Lib.hid hS3
    clear hT3 hS3
    by_cases hlt : k < n.kids.length
    · obtain ⟨x, hx⟩ : ∃ x, n.kids[k]? = some x := ⟨n.kids[k], by simp [hlt]⟩
      have hap3 := HAP.out.step HS3.out
      cases ka with
      | none => exact absurd (HKN.out rfl).1 (by omega)
      | some a =>
        obtain ⟨b, off, sp⟩ := a
        obtain ⟨c0', c1', c2', c3', q0, q1, q2, q3, hrd⟩ := HKR.out _ rfl k x hx
        obtain ⟨av', kv', e, ha', hk'⟩ := hrd.open
        obtain ⟨aa', acap', e2, _⟩ := ha'.len_of
        obtain ⟨ka', kcap', e3, _⟩ := hk'
        subst e2 e3
        cases e
        clear ha'
        replace q0 := hap3.cells _ _ q0
        replace q1 := hap3.cells _ _ q1
        replace q2 := hap3.cells _ _ q2
        replace q3 := hap3.cells _ _ q3
        rw [add_later _ _ _ (by decide)] at q1 q2 q3
        obtain ⟨d3, nd3, hw3, hn3, hp3, hl3, hx3⟩ := HRD.out k
        obtain ⟨hc3, hh3⟩ := hx3 x hx
        have hmem : x ∈ n.kids := List.mem_of_getElem? hx
        have hshx : x.short = true := by
          have := HSH.out; rw [PN.short_eq] at this; simp at this
          exact PN.shorts_mem this.2 hmem
        have hokx : x.ok = true := PN.oks_mem (PN.ok_kids HOK.out) hmem
        have y1 := (Ext.refl wr).alloc (.cells #[.int .i64 x.tag, .slice aa' x.attrs.length acap', .string x.text, .slice ka' x.kids.length kcap'] 39)
        have hpc' := (hap3.ext y1).cells _ _ HPC.out
        have hrec := IH.out x hmem hokx hshx _ _ d3 own3 ptr3 (wr.alloc (.cells #[.int .i64 x.tag, .slice aa' x.attrs.length acap', .string x.text, .slice ka' x.kids.length kcap'] 39)) hrd (hap3.ext y1) (HT3.out.keep (y1.keep HS3.out.owned)) (fun b hb => Nat.lt_of_lt_of_le (HS3.out.owned b hb) y1.size) hw3 hc3 hh3
        obtain ⟨dz, m, hm1, hm0, hm2, hP⟩ := into_ok x hokx _ d3 hw3 hc3 hh3
        have HREC := Lib.hid hrec
        have HXX := Lib.hid hx
        have HY1 := Lib.hid y1
        have HW3 := Lib.hid hw3
        have HN3 := Lib.hid hn3
        have HM1 := Lib.hid hm1
        have HM2 := Lib.hid hm2
        have HP := Lib.hid hP
        have HL3 := Lib.hid hl3
        clear hx hrec hrd hmem hshx hokx y1 hw3 hn3 hx3 hc3 hh3 hap3 hm1 hm2 hP hl3 hp3
        go_wp2_with fail
        refine HREC.out.mono ?_
        rintro e w4 ⟨rfl, own4, ptr4, hT4, hS4⟩
        rw [HM1.out]
        replace hS4 := (HS3.out.ext HY1.out).trans hS4
        have hap4 := HAP.out.step hS4
        have ct := hap4.cells _ _ HTC.out
        have him : i ≠ m := fun e => HM2.out nd3 (e ▸ HN3.out)
        have hi4 := HP.out.old i nd3 him HN3.out
        obtain ⟨kd, hk1, hk2⟩ := HP.out.node
        obtain ⟨g4, gcap4, _, _, c3, cg, _⟩ := hT4.at hi4
        have cgm := hT4.nv hk1 c3
        obtain ⟨av5, kv5, bi, oi, _, hki⟩ := hT4.node i nd3 hi4
        obtain ⟨avm, kvm, bm, om, _, _⟩ := hT4.node m kd hk1
        obtain ⟨ka5, kcap5, e5, _, hkm5⟩ := hki.len
        subst e5
        have ci3 := cellOf bi (i := 3) (v := .slice ka5 nd3.kids.length kcap5) rfl
        have hil : (i : Int) < ((PN.into (PN.intos i (T.put ⟨n.tag, n.attrs, anewB n.text, [], -1⟩) (n.kids.take k)) x).nodes.length : Int) := by have := (List.getElem?_eq_some_iff.1 hi4).1; omega
        have hml : (m : Int) < ((PN.into (PN.intos i (T.put ⟨n.tag, n.attrs, anewB n.text, [], -1⟩) (n.kids.take k)) x).nodes.length : Int) := by have := (List.getElem?_eq_some_iff.1 hk1).1; omega
        have hlen5 := HP.out.wf.small.len
        have hnl : nd3.kids.length ≤ 60000 := by
          have := (HP.out.wf.small.len)
          have h1 := HL3.out
          have h2 := HC.out
          have h3 := HW.out.small.cap1
          have h4 := HW.out.small.count0
          omega
        have notc := (hap4 _ _ HTC.out).2
        obtain ⟨hog4, hotb4⟩ := hT4.rowOwn hi4 c3
        obtain ⟨i0, hii, hz0, hz1, hz2⟩ := info_parts infoI
        have npi : ptr4 m ≠ ptr4 i := fun e => by rw [e, oi] at om; simp at om; omega
        have fi3 := freeOf bi 3
        have fm4 := freeOf bm 4
        have cm4 := cellOf bm (i := 4) (v := .int .i64 kd.parent) rfl
        have lpi := cell_lt ci3
        have lpm := cell_lt cm4
        have n1 : ∀ z, own4 z = some (4, i) → z ≠ tc := fun z hz e => by rw [e, notc] at hz; cases hz
        have n2 : ∀ z, own4 z = some (4, i) → z ≠ tb := fun z hz e => by rw [e, hotb4] at hz; cases hz
        have n3 : ∀ z, own4 z = some (4, i) → z ≠ g4 := fun z hz e => by rw [e, hog4] at hz; cases hz
        have n4 : ∀ z, own4 z = some (4, i) → z ≠ ptr4 i := fun z hz e => by rw [e, oi] at hz; cases hz
        have n5 : ∀ z, own4 z = some (4, i) → z ≠ ptr4 m := fun z hz e => by rw [e, om] at hz; cases hz
        have m1 : tc ≠ ptr4 i := fun e => by rw [e, oi] at notc; cases notc
        have m2 : tb ≠ ptr4 i := fun e => by rw [e, oi] at hotb4; cases hotb4
        have m3 : g4 ≠ ptr4 i := fun e => by rw [e, oi] at hog4; cases hog4
        have hpw : ∀ x, x < w.heap.size → own4 x ≠ none → own x ≠ none := fun x hx hn => by rw [← hS4.same x hx]; exact hn
        have Hi := Lib.hid hii
        have Hz0 := Lib.hid hz0
        have Hz1 := Lib.hid hz1
        have Hz2 := Lib.hid hz2
        have HT4 := Lib.hid hT4
        have HS4 := Lib.hid hS4
        have HI4 := Lib.hid hi4
        have HK1 := Lib.hid hk1
        have HIM := Lib.hid him
        have HKI := Lib.hid hki
        have HPW := Lib.hid hpw
        have N1 := Lib.hid n1
        have N2 := Lib.hid n2
        have N3 := Lib.hid n3
        have N4 := Lib.hid n4
        have N5 := Lib.hid n5
        have FI3 := Lib.hid fi3
        have FM4 := Lib.hid fm4
        have CM4 := Lib.hid cm4
        have CGM := Lib.hid cgm
        have HK2 := Lib.hid hk2
        have HW4 := Lib.hid HP.out.wf
        generalize hTG : PN.into (PN.intos i (T.put ⟨n.tag, n.attrs, anewB n.text, [], -1⟩) (n.kids.take k)) x = TG at *
        have HTG := Lib.hid hTG
        have hi0' : (0 : Int) ≤ (i : Int) := Int.natCast_nonneg _
        have hm0' : (0 : Int) ≤ (m : Int) := Int.natCast_nonneg _
        have npz : ptr4 i ≠ w4.heap.size := Nat.ne_of_lt lpi
        have npz' := Ne.symm npz
        have ct' := fun (p : Addr) (v : Value) (h : w4.cell? p = some v) => ((Ext.refl w4).alloc (.cells #[.int .i64 m] 3)).cells p v h
        have ci3' : (w4.alloc (.cells #[.int .i64 m] 3)).cell? ⟨ptr4 i, 3, none⟩ = some (.slice ka5 nd3.kids.length kcap5) := ct' _ _ ci3
        have c3' := ct' _ _ c3
        have cg' := ct' _ _ cg
        replace ct' := ct' _ _ ct
        unfold maxLen at hkm5
        clear hii hz0 hz1 hz2 hT4 hS4 hi4 hk1 him hki hpw n1 n2 n3 n4 n5 fi3 fm4 cm4 cgm hk2 hTG bi bm notc hog4 hotb4 oi om hap4 HREC HW3 HN3 HM2 HP q0 q1 q2 q3 hpc'
        have xA : Ext w4 (w4.alloc (.cells #[.int .i64 m] 3)).drew := ((Ext.refl w4).alloc _).drew
        obtain ⟨v', wA, row, hrunA, hrA, hgA, hrowA⟩ := run_append_row (P := Try.prog) ((w4.alloc (.cells #[.int .i64 m] 3)).drew) 42 42 3 i0 (.int .i64 0) 1 8 Try.underlying42 Hi.out Hz0.out Hz1.out Hz2.out rfl (by decide) (p := fun b => own4 b = some (4, i)) (RowP.ext HKI.out xA) ⟨w4.heap.size, 0, none⟩ 1 1 [.int .i64 m] rfl (cell_one_new' (show (w4.alloc (.cells #[.int .i64 m] 3)).drew.cell? ⟨w4.heap.size, 0, none⟩ = some (.int .i64 m) from cellOf (heap_alloc_new w4 _) rfl)) (by simp [Value.oneCell']) (by decide) (by unfold maxLen; omega) (by omega)
        have ctA := grownCell xA hgA ct fun z hz => N1.out z (hrowA z hz)
        have c3A := grownCell xA hgA c3 fun z hz => N2.out z (hrowA z hz)
        have cgA := grownCell xA hgA cg fun z hz => N3.out z (hrowA z hz)
        have ciA := grownCell xA hgA ci3 fun z hz => N4.out z (hrowA z hz)
        have fA := grownFree xA hgA lpi FI3.out fun z hz => N4.out z (hrowA z hz)
        have fM := grownFree xA hgA lpm FM4.out fun z hz => N5.out z (hrowA z hz)
        have cM := grownCell xA hgA CM4.out fun z hz => N5.out z (hrowA z hz)
        have cG := grownCell xA hgA CGM.out fun z hz => N3.out z (hrowA z hz)
        have HJ := Lib.hid (join_plain (HS4.out.ext xA) (HT4.out.keep (xA.keep HS4.out.owned)) HI4.out HK1.out HIM.out HPW.out hrA hgA hrowA)
        obtain ⟨a7, cap7, e7, _⟩ := hrA.rd.len_of
        subst e7
        have HRA := Lib.hid hrunA
        clear hrA hgA hrowA hrunA
        go_upto_region 6 with fail
        go_cut [] (fun wx => wx = wA.setCell ⟨ptr4 i, 3, none⟩ (.slice a7 (nd3.kids.length + 1) cap7))
        case first =>
         as_aux_lemma =>
          refine wp_region_E (S := fun w' => w'.cell? ⟨tc, 0, none⟩ = some (.pointer (some ⟨tb, 0, none⟩)) ∧ w'.cell? ⟨tb, 3, none⟩ = some (.slice (some ⟨g4, 0, none⟩) TG.nodes.length gcap4) ∧ w'.cell? ⟨g4, i, none⟩ = some (.pointer (some ⟨ptr4 i, 0, none⟩)) ∧ w'.cell? ⟨ptr4 i, 3, none⟩ = some (.slice ka5 nd3.kids.length kcap5)) (n := 22) (by kernel_rfl) ?_
          have hS : w4.drew.cell? ⟨tc, 0, none⟩ = some (.pointer (some ⟨tb, 0, none⟩)) ∧ w4.drew.cell? ⟨tb, 3, none⟩ = some (.slice (some ⟨g4, 0, none⟩) TG.nodes.length gcap4) ∧ w4.drew.cell? ⟨g4, i, none⟩ = some (.pointer (some ⟨ptr4 i, 0, none⟩)) ∧ w4.drew.cell? ⟨ptr4 i, 3, none⟩ = some (.slice ka5 nd3.kids.length kcap5) := ⟨ct, c3, cg, ci3⟩
          show wpE _ _ _ _ _ 22 23 (Array.replicate 23 false) _ _
          refine wpE_take (i := 0) (v := .pointer (some ⟨tb, 0, none⟩)) (o := { dst := some 29, op := _, type := _, pos := _, after := _, guard := none }) rfl (by kernel_rfl) (by kernel_rfl) (by kernel_rfl) (by kernel_rfl) (fun _ _ _ h => h) (Or.inl ⟨by rfl, fun w' hSw => ?_⟩) hS ?_
          · (obtain ⟨s1, s2, s3, s4⟩ := hSw; clear hS; go_simp)
          try simp only [Act.put, List.setIfInBounds_toArray, List.set_cons_zero, List.set_cons_succ]
          refine wpE_take (i := 1) (v := .pointer (some ⟨tb, 0, none⟩)) (o := { dst := some 30, op := _, type := _, pos := _, after := _, guard := none }) rfl (by kernel_rfl) (by kernel_rfl) (by kernel_rfl) (by kernel_rfl) (fun _ _ _ h => h) (Or.inl ⟨by rfl, fun w' hSw => ?_⟩) hS ?_
          · (obtain ⟨s1, s2, s3, s4⟩ := hSw; clear hS; go_simp)
          try simp only [Act.put, List.setIfInBounds_toArray, List.set_cons_zero, List.set_cons_succ]
          refine wpE_take (i := 2) (v := .pointer (some ⟨tb, 3, none⟩)) (o := { dst := some 31, op := _, type := _, pos := _, after := _, guard := none }) rfl (by kernel_rfl) (by kernel_rfl) (by kernel_rfl) (by kernel_rfl) (fun _ _ _ h => h) (Or.inl ⟨by rfl, fun w' hSw => ?_⟩) hS ?_
          · (obtain ⟨s1, s2, s3, s4⟩ := hSw; clear hS; go_simp)
          try simp only [Act.put, List.setIfInBounds_toArray, List.set_cons_zero, List.set_cons_succ]
          refine wpE_take (i := 3) (v := .slice (some ⟨g4, 0, none⟩) TG.nodes.length gcap4) (o := { dst := some 32, op := _, type := _, pos := _, after := _, guard := none }) rfl (by kernel_rfl) (by kernel_rfl) (by kernel_rfl) (by kernel_rfl) (fun _ _ _ h => h) (Or.inl ⟨by rfl, fun w' hSw => ?_⟩) hS ?_
          · (obtain ⟨s1, s2, s3, s4⟩ := hSw; clear hS; go_simp)
          try simp only [Act.put, List.setIfInBounds_toArray, List.set_cons_zero, List.set_cons_succ]
          refine wpE_take (i := 4) (v := .int .i64 i) (o := { dst := some 33, op := _, type := _, pos := _, after := _, guard := none }) rfl (by kernel_rfl) (by kernel_rfl) (by kernel_rfl) (by kernel_rfl) (fun _ _ _ h => h) (Or.inl ⟨by rfl, fun w' hSw => ?_⟩) hS ?_
          · (obtain ⟨s1, s2, s3, s4⟩ := hSw; clear hS; go_simp)
          try simp only [Act.put, List.setIfInBounds_toArray, List.set_cons_zero, List.set_cons_succ]
          refine wpE_take (i := 5) (v := .pointer (some ⟨g4, i, none⟩)) (o := { dst := some 34, op := _, type := _, pos := _, after := _, guard := none }) rfl (by kernel_rfl) (by kernel_rfl) (by kernel_rfl) (by kernel_rfl) (fun _ _ _ h => h) (Or.inl ⟨by rfl, fun w' hSw => ?_⟩) hS ?_
          · (obtain ⟨s1, s2, s3, s4⟩ := hSw; clear hS; go_simp)
          try simp only [Act.put, List.setIfInBounds_toArray, List.set_cons_zero, List.set_cons_succ]
          refine wpE_take (i := 6) (v := .pointer (some ⟨ptr4 i, 0, none⟩)) (o := { dst := some 35, op := _, type := _, pos := _, after := _, guard := none }) rfl (by kernel_rfl) (by kernel_rfl) (by kernel_rfl) (by kernel_rfl) (fun _ _ _ h => h) (Or.inl ⟨by rfl, fun w' hSw => ?_⟩) hS ?_
          · (obtain ⟨s1, s2, s3, s4⟩ := hSw; clear hS; go_simp)
          try simp only [Act.put, List.setIfInBounds_toArray, List.set_cons_zero, List.set_cons_succ]
          refine wpE_take (i := 7) (v := .pointer (some ⟨tb, 0, none⟩)) (o := { dst := some 36, op := _, type := _, pos := _, after := _, guard := none }) rfl (by kernel_rfl) (by kernel_rfl) (by kernel_rfl) (by kernel_rfl) (fun _ _ _ h => h) (Or.inl ⟨by rfl, fun w' hSw => ?_⟩) hS ?_
          · (obtain ⟨s1, s2, s3, s4⟩ := hSw; clear hS; go_simp)
          try simp only [Act.put, List.setIfInBounds_toArray, List.set_cons_zero, List.set_cons_succ]
          refine wpE_take (i := 8) (v := .pointer (some ⟨tb, 0, none⟩)) (o := { dst := some 37, op := _, type := _, pos := _, after := _, guard := none }) rfl (by kernel_rfl) (by kernel_rfl) (by kernel_rfl) (by kernel_rfl) (fun _ _ _ h => h) (Or.inl ⟨by rfl, fun w' hSw => ?_⟩) hS ?_
          · (obtain ⟨s1, s2, s3, s4⟩ := hSw; clear hS; go_simp)
          try simp only [Act.put, List.setIfInBounds_toArray, List.set_cons_zero, List.set_cons_succ]
          refine wpE_take (i := 9) (v := .pointer (some ⟨tb, 3, none⟩)) (o := { dst := some 38, op := _, type := _, pos := _, after := _, guard := none }) rfl (by kernel_rfl) (by kernel_rfl) (by kernel_rfl) (by kernel_rfl) (fun _ _ _ h => h) (Or.inl ⟨by rfl, fun w' hSw => ?_⟩) hS ?_
          · (obtain ⟨s1, s2, s3, s4⟩ := hSw; clear hS; go_simp)
          try simp only [Act.put, List.setIfInBounds_toArray, List.set_cons_zero, List.set_cons_succ]
          refine wpE_take (i := 10) (v := .slice (some ⟨g4, 0, none⟩) TG.nodes.length gcap4) (o := { dst := some 39, op := _, type := _, pos := _, after := _, guard := none }) rfl (by kernel_rfl) (by kernel_rfl) (by kernel_rfl) (by kernel_rfl) (fun _ _ _ h => h) (Or.inl ⟨by rfl, fun w' hSw => ?_⟩) hS ?_
          · (obtain ⟨s1, s2, s3, s4⟩ := hSw; clear hS; go_simp)
          try simp only [Act.put, List.setIfInBounds_toArray, List.set_cons_zero, List.set_cons_succ]
          refine wpE_take (i := 11) (v := .int .i64 i) (o := { dst := some 40, op := _, type := _, pos := _, after := _, guard := none }) rfl (by kernel_rfl) (by kernel_rfl) (by kernel_rfl) (by kernel_rfl) (fun _ _ _ h => h) (Or.inl ⟨by rfl, fun w' hSw => ?_⟩) hS ?_
          · (obtain ⟨s1, s2, s3, s4⟩ := hSw; clear hS; go_simp)
          try simp only [Act.put, List.setIfInBounds_toArray, List.set_cons_zero, List.set_cons_succ]
          refine wpE_take (i := 12) (v := .pointer (some ⟨g4, i, none⟩)) (o := { dst := some 41, op := _, type := _, pos := _, after := _, guard := none }) rfl (by kernel_rfl) (by kernel_rfl) (by kernel_rfl) (by kernel_rfl) (fun _ _ _ h => h) (Or.inl ⟨by rfl, fun w' hSw => ?_⟩) hS ?_
          · (obtain ⟨s1, s2, s3, s4⟩ := hSw; clear hS; go_simp)
          try simp only [Act.put, List.setIfInBounds_toArray, List.set_cons_zero, List.set_cons_succ]
          refine wpE_take (i := 13) (v := .pointer (some ⟨ptr4 i, 0, none⟩)) (o := { dst := some 42, op := _, type := _, pos := _, after := _, guard := none }) rfl (by kernel_rfl) (by kernel_rfl) (by kernel_rfl) (by kernel_rfl) (fun _ _ _ h => h) (Or.inl ⟨by rfl, fun w' hSw => ?_⟩) hS ?_
          · (obtain ⟨s1, s2, s3, s4⟩ := hSw; clear hS; go_simp)
          try simp only [Act.put, List.setIfInBounds_toArray, List.set_cons_zero, List.set_cons_succ]
          refine wpE_take (i := 14) (v := .pointer (some ⟨ptr4 i, 0, none⟩)) (o := { dst := some 43, op := _, type := _, pos := _, after := _, guard := none }) rfl (by kernel_rfl) (by kernel_rfl) (by kernel_rfl) (by kernel_rfl) (fun _ _ _ h => h) (Or.inl ⟨by rfl, fun w' hSw => ?_⟩) hS ?_
          · (obtain ⟨s1, s2, s3, s4⟩ := hSw; clear hS; go_simp)
          try simp only [Act.put, List.setIfInBounds_toArray, List.set_cons_zero, List.set_cons_succ]
          refine wpE_take (i := 15) (v := .pointer (some ⟨ptr4 i, 3, none⟩)) (o := { dst := some 44, op := _, type := _, pos := _, after := _, guard := none }) rfl (by kernel_rfl) (by kernel_rfl) (by kernel_rfl) (by kernel_rfl) (fun _ _ _ h => h) (Or.inl ⟨by rfl, fun w' hSw => ?_⟩) hS ?_
          · (obtain ⟨s1, s2, s3, s4⟩ := hSw; clear hS; go_simp)
          try simp only [Act.put, List.setIfInBounds_toArray, List.set_cons_zero, List.set_cons_succ]
          refine wpE_take (i := 16) (v := .slice ka5 nd3.kids.length kcap5) (o := { dst := some 45, op := _, type := _, pos := _, after := _, guard := none }) rfl (by kernel_rfl) (by kernel_rfl) (by kernel_rfl) (by kernel_rfl) (fun _ _ _ h => h) (Or.inl ⟨by rfl, fun w' hSw => ?_⟩) hS ?_
          · (obtain ⟨s1, s2, s3, s4⟩ := hSw; clear hS; go_simp)
          try simp only [Act.put, List.setIfInBounds_toArray, List.set_cons_zero, List.set_cons_succ]
          refine wpE_take (i := 17) (v := .int .i64 m) (o := { dst := some 46, op := _, type := _, pos := _, after := _, guard := none }) rfl (by kernel_rfl) (by kernel_rfl) (by kernel_rfl) (by kernel_rfl) (fun _ _ _ h => h) (Or.inl ⟨by rfl, fun w' hSw => ?_⟩) hS ?_
          · (obtain ⟨s1, s2, s3, s4⟩ := hSw; clear hS; go_simp)
          try simp only [Act.put, List.setIfInBounds_toArray, List.set_cons_zero, List.set_cons_succ]
          refine wpE_one (i := 18) (o := { dst := some 47, op := _, type := _, pos := _, after := _, guard := none }) (by kernel_rfl) rfl (fun K hK => ?_)
          go_simp
          refine hK.out _ _ (.inr ⟨ct', c3', cg', ci3'⟩) ?_
          clear hK K
          try simp only [Act.put, List.setIfInBounds_toArray, List.set_cons_zero, List.set_cons_succ]
          refine wpE_one (i := 19) (o := { dst := some 48, op := _, type := _, pos := _, after := _, guard := none }) (by kernel_rfl) rfl (fun K hK => ?_)
          refine step_append_run (by rfl) _ _ 42 (by rfl) (.slice ka5 nd3.kids.length kcap5) (.slice (some ⟨w4.heap.size, 0, none⟩) 1 1) (by rfl) (by rfl) (.slice a7 (nd3.kids.length + 1) cap7) wA HRA.out ?_
          refine hK.out _ _ (.inr ⟨ctA, c3A, cgA, ciA⟩) ?_
          clear hK K
          try simp only [Act.put, List.setIfInBounds_toArray, List.set_cons_zero, List.set_cons_succ]
          refine wpE_one (i := 20) (o := { dst := some 49, op := _, type := _, pos := _, after := _, guard := none }) (by kernel_rfl) rfl (fun K hK => ?_)
          go_simp
          refine hK.out _ _ (.inr ⟨ctA, c3A, cgA, ciA⟩) ?_
          clear hK K
          try simp only [Act.put, List.setIfInBounds_toArray, List.set_cons_zero, List.set_cons_succ]
          refine wpE_one (i := 21) (o := { dst := some 50, op := _, type := _, pos := _, after := _, guard := none }) (by kernel_rfl) rfl (fun K hK => ?_)
          go_simp
          refine hK.out _ _ (.inr ⟨ctA, c3A, cgA, ciA⟩) ?_
          clear hK K
          try simp only [Act.put, List.setIfInBounds_toArray, List.set_cons_zero, List.set_cons_succ]
          refine wpE_one (i := 22) (o := { dst := none, op := _, type := _, pos := _, after := _, guard := none }) (by kernel_rfl) rfl (fun K hK => ?_)
          go_simp
          refine hK.out _ _ (.inl rfl) ?_
          clear hK K
          refine wpE_done (by kernel_rfl) ?_
          go_wp2_with fail
          go_meet
          rfl
        case rest =>
          subst hcut
          have m1' := Ne.symm m1
          have m2' := Ne.symm m2
          have m3' := Ne.symm m3
          have npi' := Ne.symm npi
          have ctB : (wA.setCell ⟨ptr4 i, 3, none⟩ (.slice a7 (nd3.kids.length + 1) cap7)).cell? ⟨tc, 0, none⟩ = some (.pointer (some ⟨tb, 0, none⟩)) := (World.cell?_of_block (a := ⟨tc, 0, none⟩) (heap_setCell_other _ m1)).trans ctA
          have c3B : (wA.setCell ⟨ptr4 i, 3, none⟩ (.slice a7 (nd3.kids.length + 1) cap7)).cell? ⟨tb, 3, none⟩ = some (.slice (some ⟨g4, 0, none⟩) TG.nodes.length gcap4) := (World.cell?_of_block (a := ⟨tb, 3, none⟩) (heap_setCell_other _ m2)).trans c3A
          have cgB : (wA.setCell ⟨ptr4 i, 3, none⟩ (.slice a7 (nd3.kids.length + 1) cap7)).cell? ⟨g4, m, none⟩ = some (.pointer (some ⟨ptr4 m, 0, none⟩)) := (World.cell?_of_block (a := ⟨g4, m, none⟩) (heap_setCell_other _ m3)).trans cG
          have cmB : (wA.setCell ⟨ptr4 i, 3, none⟩ (.slice a7 (nd3.kids.length + 1) cap7)).cell? ⟨ptr4 m, 4, none⟩ = some (.int .i64 kd.parent) := (World.cell?_of_block (a := ⟨ptr4 m, 4, none⟩) (heap_setCell_other _ npi)).trans cM
          have fmB : (wA.setCell ⟨ptr4 i, 3, none⟩ (.slice a7 (nd3.kids.length + 1) cap7)).frozen? ⟨ptr4 m, 4, none⟩ = false := (World.frozen?_of_block (a := ⟨ptr4 m, 4, none⟩) (heap_setCell_other _ npi)).trans fM
          obtain ⟨wB, hwB⟩ : ∃ wB : World, wB = wA.setCell ⟨ptr4 i, 3, none⟩ (.slice a7 (nd3.kids.length + 1) cap7) := ⟨_, rfl⟩
          rw [← hwB] at ctB c3B cgB cmB fmB HJ ⊢
          clear hwB ctA c3A cgA ciA fA fM cM cG ct c3 cg ci3 ct' c3' cg' ci3' HRA
          go_wp2_with fail
          go_roundw
          case rel =>
            obtain ⟨own1, _, _, j3, j4⟩ := HJ.out
            refine ⟨k + 1, by omega, by go_num, own1, ptr4, ?_, j3⟩
            rw [intos_take _ _ _ _ _ HXX.out, HTG.out, HM1.out]
            have e : TG.join i m = TG.attach i m nd3 kd := by
              unfold Tr.join
              rw [Int.toNat_natCast, Int.toNat_natCast, look_of HI4.out, look_of HK1.out]
            rw [e]; exact j4
          case measure => simp [intOf]; omega
    · go_wp2_with fail
      go_ret
      refine ⟨by rw [HI1.out]; rfl, own3, ptr3, ?_, HS3.out⟩
      have h := HT3.out
      rw [List.take_of_length_le (by omega)] at h
      rw [PN.into_eq, HI1.out]
      exact h
end Go.Proofs.Ythgnbbbdcebjhaa

namespace Go.Proofs.Ythgnbbbdcebjhaa
open Go Go.RowKit Go.BigFrame
set_option linter.unusedVariables false
set_option linter.unusedSimpArgs false

theorem nodup_le {l m : List Int} (hn : l.Nodup) (h : ∀ x ∈ l, x ∈ m) : l.length ≤ m.length := by
  induction l generalizing m with
  | nil => simp
  | cons a r ih =>
    have ha := h a (by simp)
    have hr := List.nodup_cons.1 hn
    have := ih (m := m.erase a) hr.2 fun x hx => (List.mem_erase_of_ne (fun e => hr.1 (by rw [← e]; exact hx))).2 (h x (by simp [hx]))
    rw [List.length_erase_of_mem ha] at this
    have := List.length_pos_of_mem ha
    simp only [List.length_cons]; omega
theorem WF.kids_len {T : Tr} {d : Nat → Nat} (hw : WF T d) {i : Nat} {nd : Nd} (h : T.nodes[i]? = some (some nd)) : nd.kids.length ≤ 2000 := by
  have h1 := nodup_le (m := (List.range T.nodes.length).map Int.ofNat) (hw.kids i nd h).1 fun x hx => by
    obtain ⟨j, kd, rfl, hj, _⟩ := (hw.kids i nd h).2 x hx
    exact List.mem_map.2 ⟨j, List.mem_range.2 (List.getElem?_eq_some_iff.1 hj).1, rfl⟩
  simp at h1
  have := hw.small.len
  omega
/-- the world without what the tree owns -/
def hide (own : Ow) (w : World) : World := { w with heap := w.heap.mapIdx fun b x => if (own b).isNone then x else .cells #[] 0 (0, 0) }
theorem hide_cell {own : Ow} {w : World} {p : Addr} {v : Value} (h : w.cell? p = some v) (hn : own p.block = none) : (hide own w).cell? p = some v := by
  rw [← h]
  refine World.cell?_of_block ?_
  show (w.heap.mapIdx _)[p.block]? = _
  rw [Array.getElem?_mapIdx, hn]
  cases w.heap[p.block]? <;> rfl
theorem hide_apart (own : Ow) (w : World) : Apart (hide own w) own w := by
  intro p v h
  have hn : own p.block = none := by
    cases ho : own p.block with
    | none => rfl
    | some x =>
      exfalso
      have hb : (hide own w).heap[p.block]? = (w.heap[p.block]?).map fun _ => (.cells #[] 0 (0, 0) : Obj) := by
        show (w.heap.mapIdx _)[p.block]? = _
        rw [Array.getElem?_mapIdx, ho]; rfl
      cases hw : w.heap[p.block]? with
      | none => rw [hw] at hb; simp [World.cell?, hb] at h
      | some o => rw [hw] at hb; simp [World.cell?, hb] at h
  refine ⟨?_, hn⟩
  rw [← h]
  refine (World.cell?_of_block ?_).symm
  show (w.heap.mapIdx _)[p.block]? = _
  rw [Array.getElem?_mapIdx, hn]
  cases w.heap[p.block]? <;> rfl
theorem Apart.hide {g : World} {own : Ow} {w : World} (h : Apart g own w) : Cells g (hide own w) := fun p v hp => hide_cell (h p v hp).1 (h p v hp).2
/-- old nodes are not within the new one, and lie as deep as they did -/
theorem Put.apart {T T' : Tr} {d d' : Nat → Nat} {i : Nat} {n : PN} {sz hi : Nat} (hP : Put T T' d' i n sz hi) (hw : WF T d) (hi2 : ∀ x : Nd, T.nodes[i]? ≠ some (some x)) :
    ∀ (j : Nat) (jd : Nd), T.nodes[j]? = some (some jd) → T'.within j i = false ∧ d' j = d j := by
  refine hw.induct _ (fun j jd h hp hd => ?_) (fun j jd p pd h hp hpd hd ih => ?_)
  · have hji : j ≠ i := fun e => hi2 jd (e ▸ h)
    have h' := hP.old j jd hji h
    refine ⟨by rw [hP.wf.within_root h' hp]; simp; omega, ?_⟩
    rcases hP.wf.up j jd h' with ⟨h3, h4⟩ | ⟨q, qd, h3, h4, h5, h6⟩
    · omega
    · omega
  · have hji : j ≠ i := fun e => hi2 jd (e ▸ h)
    have h' := hP.old j jd hji h
    refine ⟨by rw [hP.wf.within_step h', if_neg (by omega), hp]; exact ih.1, ?_⟩
    rcases hP.wf.up j jd h' with ⟨h3, h4⟩ | ⟨q, qd, h3, h4, h5, h6⟩
    · omega
    · obtain rfl : q = p := by omega
      omega
end Go.Proofs.Ythgnbbbdcebjhaa

namespace Go.Proofs.Ythgnbbbdcebjhaa
open Go Go.RowKit Go.BigFrame
set_option linter.unusedVariables false
set_option linter.unusedSimpArgs false
/-- the tree behind a graft -/
def Tr.grafted (T : Tr) (p at' : Nat) (pd : Nd) (n : PN) : Tr := (PN.into T n).link p at' T.newId.toNat pd ((PN.into T n).look T.newId)
set_option maxRecDepth 100000 in
set_option maxHeartbeats 4000000 in
theorem Graft_ok {g w : World} {own : Ow} {ptr : Nat → Nat} {tb : Nat} {T : Tr} (hT : TreeAt w own ptr tb T) (hO : Owned own w) {d : Nat → Nat} (hw : WF T d) {p at' : Nat} {pd : Nd} (hp : T.nodes[p]? = some (some pd)) (ht : (pd.tag == 0) = false) (hat : at' ≤ pd.kids.length)
    {n : PN} {nv : Value} (hr : RdN g n nv) (hap : Apart g own w) (hsh : n.short = true) (hsz : n.size ≤ 90000) (hok : n.ok = true) (hdp : (d p : Int) + 1 + n.high ≤ T.deep) (hf : (n.size : Int) ≤ T.cap - T.count) :
    Calls Try.prog 22 #[.pointer (some ⟨tb, 0, none⟩), .int .i64 p, .int .i64 at', nv] w (TwoAfter own w tb T.newId (T.grafted p at' pd n)) := by
  obtain ⟨av, kv, rfl, ha, hk⟩ := hr.open
  obtain ⟨aa, acap, rfl, hac⟩ := ha.len_of
  obtain ⟨ka', kcap', rfl, hkc, hkm, hkn, hkr⟩ := hk
  have x1 := ((Ext.refl w).alloc (.cells #[.pointer (some ⟨tb, 0, none⟩)] 23)).alloc (.cells #[.int .i64 n.tag, .slice aa n.attrs.length acap, .string n.text, .slice ka' n.kids.length kcap'] 39)
  have hT1 := hT.keep (x1.keep hO)
  obtain ⟨avp, kvp, bp, op, _, hkp⟩ := hT1.node _ _ hp
  obtain ⟨ka, kcap, rfl, kc1, kc2⟩ := hkp.len
  have cp0 := cellOf bp (i := 0) (v := .int .i64 pd.tag) rfl
  have cp3 := cellOf bp (i := 3) (v := .slice ka pd.kids.length kcap) rfl
  have hms := measure_any (hr.cells (hap.ext x1).cells) hsh hsz
  have HMS := Lib.hid hms
  have HP := Lib.hid (Tr.get_of hp)
  have HNP := Lib.hid hp
  have HT := Lib.hid hT
  have HT1 := Lib.hid hT1
  have HO := Lib.hid hO
  have HW := Lib.hid hw
  have HX := Lib.hid x1
  have HR := Lib.hid hr
  have HAP := Lib.hid hap
  have hszb : (n.size : Int) ≤ 90000 := by omega
  have hpb : (p : Int) ≤ 2000 := by have := (List.getElem?_eq_some_iff.1 hp).1; have := hw.small.len; omega
  have hd1 := hw.deep p pd hp
  have hd2 := hw.small.deep1
  have hkl := hw.kids_len hp
  have hhn : (n.high : Int) ≤ 90000 := by have := high_lt n; omega
  have heb : ((PN.look 0 ⟨0, 0, 0⟩ n).e != 0) = false := by
    have := ((look_spec n 0 ⟨0, 0, 0⟩).2.2).2 ⟨rfl, hok⟩
    simp [this]
  obtain ⟨dz, m, hm1, hm0, hm2, hPut⟩ := into_ok n hok T d hw (by omega) (by omega)
  obtain ⟨kd, hk1, hk2⟩ := hPut.node
  have hpm : p ≠ m := fun e => hm2 pd (e ▸ hp)
  have hp2 := hPut.old p pd hpm hp
  obtain ⟨hap1, hap2⟩ := hPut.apart hw hm2 p pd hp
  have hgr : T.grafted p at' pd n = (PN.into T n).link p at' m pd kd := by
    unfold Tr.grafted; rw [hm1, Int.toNat_natCast, look_of hk1]
  have hdz : (dz p : Int) + 1 + (PN.into T n).hgt 50 m ≤ (PN.into T n).deep := by
    have h1 : (PN.into T n).hgt 50 m = n.high := hPut.high
    rw [h1, hPut.deep, hap2]; exact hdp
  have HF := Lib.hid hf
  have HM1 := Lib.hid hm1
  have HM0 := Lib.hid hm0
  have HPUT := Lib.hid hPut
  have HK1 := Lib.hid hk1
  have HK2 := Lib.hid hk2
  have HP2 := Lib.hid hp2
  have HA1 := Lib.hid hap1
  have HGR := Lib.hid hgr
  have HDZ := Lib.hid hdz
  have HOK := Lib.hid hok
  have HSH := Lib.hid hsh
  have HDP := Lib.hid hdp
  clear hf hm1 hm0 hPut hk1 hk2 hp2 hap1 hgr hdz hm2 hap2
  clear hr hap hT hO hw hp x1 hT1 bp hkp op hms hkr hkn ha kc2
  go_enter Try.func22, Try.ntmps22
  go_wp2_with fail
  refine (get_some HT1.out HP.out).mono ?_
  rintro e w' ⟨rfl, rfl⟩
  go_wp2_with fail
  refine HMS.out.mono ?_
  rintro e w2 ⟨rfl, hx2⟩
  have c0 := hx2.cell (b := w.heap.size) (o := 0) (v := .pointer (some ⟨tb, 0, none⟩)) (by simp [go_sem])
  have hT2 := HT.out.keep ((HX.out.trans hx2).keep HO.out)
  have hO2 : Owned own w2 := fun b hb => Nat.lt_of_lt_of_le (HO.out b hb) (HX.out.trans hx2).size
  obtain ⟨nv2, hb2, hot, _⟩ := hT2.head
  have ct1 := cellOf hb2 (i := 1) (v := .int .i64 T.deep) rfl
  have c0' := fun u : ExtOf w2 => u.ext.cell c0
  have ct1' := fun u : ExtOf w2 => u.ext.cell ct1
  have HT2 := Lib.hid hT2
  have HO2 := Lib.hid hO2
  have HX2 := Lib.hid hx2
  have hq1 : IntKind.i64.wrap ((d p : Int) + 1) = (d p : Int) + 1 := IntWalk.i64_in _ (by omega)
  have hq2 : IntKind.i64.wrap ((d p : Int) + 1 + (n.high : Int)) = (d p : Int) + 1 + (n.high : Int) := IntWalk.i64_in _ (by omega)
  clear hT2 hO2 hx2 hb2 hot
  go_wp2_with fail
  refine wp_region_ext (by kernel_rfl) (by kernel_rfl) ?_
  repeat (go_big_quiet_step ((go_at_call 48; exact inExt (RSame.val (Depth_some (HT2.out.keep (ExtOf.ext _ |>.keep HO2.out)) HW.out HNP.out)))))
  refine wpQuiet_nil ?_
  rintro _ ⟨u, rfl⟩
  obtain ⟨wu, xu⟩ := u
  show Exit.then _ _ Exit.normal _ wu
  clear c0' ct1' hq1 hq2
  replace c0 := xu.cell c0
  have c7 : wu.cell? ⟨w.heap.size + 1, 0, none⟩ = some (.int .i64 n.tag) ∧ wu.cell? ⟨w.heap.size + 1, 1, none⟩ = some (.slice aa n.attrs.length acap) ∧ wu.cell? ⟨w.heap.size + 1, 2, none⟩ = some (.string n.text) ∧ wu.cell? ⟨w.heap.size + 1, 3, none⟩ = some (.slice ka' n.kids.length kcap') :=
    ⟨(HX2.out.trans xu).cell (by simp [go_sem]), (HX2.out.trans xu).cell (by simp [go_sem]), (HX2.out.trans xu).cell (by simp [go_sem]), (HX2.out.trans xu).cell (by simp [go_sem])⟩
  have XU := Lib.hid xu
  clear xu
  go_wp2_with fail
  refine (room_yes (HT2.out.keep (XU.out.keep HO2.out)) HW.out.small n.size (by omega) HF.out).mono ?_
  rintro e w5 ⟨rfl, hx5⟩
  have x25 := XU.out.trans hx5
  have x05 := (HX.out.trans HX2.out).trans x25
  have y6 := (Ext.refl w5).alloc (.cells #[putF w.heap.size w5.heap.size] 82)
  have hT6 := HT.out.keep ((x05.trans y6).keep HO.out)
  have hO6 : Owned own (w5.alloc (.cells #[putF w.heap.size w5.heap.size] 82)) := fun b hb => Nat.lt_of_lt_of_le (HO.out b hb) (x05.trans y6).size
  have fresh : ∀ b, w.heap.size ≤ b → own b = none := fun b hb => by
    cases ho : own b with
    | none => rfl
    | some x => have := HO.out b (by simp [ho]); omega
  have c0w := (hx5.trans y6).cell c0
  have hs5 := x05.size
  have hpcell : (w5.alloc (.cells #[putF w.heap.size w5.heap.size] 82)).cell? ⟨w5.heap.size, 0, none⟩ = some (putF w.heap.size w5.heap.size) := cellOf (heap_alloc_new w5 _) rfl
  have hput := put_any (hide_cell (own := own) c0w (fresh _ (Nat.le_refl _))) (hide_cell (own := own) hpcell (fresh _ hs5)) n HOK.out HSH.out _ T d own ptr _ (HR.out.cells (HAP.out.ext (x05.trans y6)).hide) (hide_apart own _) hT6 hO6 HW.out (by have := HF.out; omega) (by have := HDP.out; omega)
  have d0 := c0w
  have d1 := (hx5.trans y6).cell c7.1
  have d2 := (hx5.trans y6).cell c7.2.1
  have d3 := (hx5.trans y6).cell c7.2.2.1
  have d4 := (hx5.trans y6).cell c7.2.2.2
  have HPT := Lib.hid hput
  have X6 := Lib.hid (x05.trans y6)
  have FR := Lib.hid fresh
  clear hput hT6 hO6 fresh c0w hpcell x05 y6 c0 c7 hx5 x25
  go_wp2_with fail
  refine HPT.out.mono ?_
  rintro e w7 ⟨rfl, own7, ptr7, hT7, hS7⟩
  rw [HM1.out]
  have e0 := hS7.cellOld (FR.out _ (Nat.le_refl _)) d0
  have hS7' := (X6.out.step HO.out).trans hS7
  have hins := Insert_ok (at' := at') hT7 hS7.owned HPUT.out.wf HP2.out HK1.out ht HM0.out HK2.out hat (by omega) HA1.out HDZ.out (insertsAt_any _ _)
  have HINS := Lib.hid hins
  have HS7 := Lib.hid hS7'
  clear hins hT7 hS7 hS7' d0 d1 d2 d3 d4
  go_wp2_with fail
  refine HINS.out.mono ?_
  rintro e w8 ⟨rfl, own8, ptr8, hT8, hS8⟩
  go_wp2_with fail
  go_ret2
  refine ⟨by rw [HM1.out]; rfl, own8, ptr8, ?_, HS7.out.trans hS8⟩
  rw [HGR.out]; exact hT8
end Go.Proofs.Ythgnbbbdcebjhaa

namespace Go.Proofs.Ythgnbbbdcebjhaa
open Go Go.RowKit Go.BigFrame
set_option linter.unusedVariables false
set_option linter.unusedSimpArgs false

/-- a node at block M with rows of its own behind it -/
def NodeNew (w : World) (M : Nat) (nd : Nd) : Prop :=
  ∃ va vk, w.heap[M]? = some (.cells #[.int .i64 nd.tag, va, .string nd.text, vk, .int .i64 nd.parent] 76 (0, 0)) ∧
    RowP w (fun g => M < g) 101 2 va nd.attrs.length (attrCells nd.attrs) ∧ RowP w (fun g => M < g) 3 1 vk nd.kids.length (nd.kids.map (Value.int .i64))
theorem NodeNew.ext {w w' : World} {M : Nat} {nd : Nd} (h : NodeNew w M nd) (k : Ext w w') : NodeNew w' M nd := by
  obtain ⟨va, vk, h1, h2, h3⟩ := h
  exact ⟨va, vk, k.block h1, h2.ext k, h3.ext k⟩
theorem NodeNew.of {w : World} {M : Nat} {nd : Nd} {x1 x3 va vk : Value} (h : w.heap[M]? = some (.cells #[.int .i64 nd.tag, x1, .string nd.text, x3, .int .i64 nd.parent] 76 (0, 0)))
    (ha : RowP w (fun g => M < g) 101 2 va nd.attrs.length (attrCells nd.attrs)) (hk : RowP w (fun g => M < g) 3 1 vk nd.kids.length (nd.kids.map (Value.int .i64))) :
    NodeNew ((w.setCell ⟨M, 1, none⟩ va).setCell ⟨M, 3, none⟩ vk) M nd ∧ NodeNew ((w.setCell ⟨M, 3, none⟩ vk).setCell ⟨M, 1, none⟩ va) M nd := by
  have far : ∀ g, M < g → g ≠ M := fun g h => by omega
  exact ⟨⟨va, vk, by rw [heap_setCell_same (heap_setCell_same h va) vk]; rfl, RowP.move ha fun g hg => ⟨(heap_setCell_other _ (far g hg)).trans (heap_setCell_other _ (far g hg)), hg⟩, RowP.move hk fun g hg => ⟨(heap_setCell_other _ (far g hg)).trans (heap_setCell_other _ (far g hg)), hg⟩⟩,
    ⟨va, vk, by rw [heap_setCell_same (heap_setCell_same h vk) va]; rfl, RowP.move ha fun g hg => ⟨(heap_setCell_other _ (far g hg)).trans (heap_setCell_other _ (far g hg)), hg⟩, RowP.move hk fun g hg => ⟨(heap_setCell_other _ (far g hg)).trans (heap_setCell_other _ (far g hg)), hg⟩⟩⟩
end Go.Proofs.Ythgnbbbdcebjhaa

namespace Go.Proofs.Ythgnbbbdcebjhaa
open Go Go.RowKit Go.BigFrame
set_option linter.unusedVariables false
set_option linter.unusedSimpArgs false

end Go.Proofs.Ythgnbbbdcebjhaa

namespace Go.Proofs.Ythgnbbbdcebjhaa
open Go Go.RowKit Go.BigFrame Go.ChangeShapes Go.WideShapes Go.Deep
set_option linter.unusedVariables false
set_option linter.unusedSimpArgs false

section
variable {H : Type} {enc : TypeId × Value → H} {w : World} {base : Nat} {spare : Nat → Bool} {held : Bool}
end
section
variable {H : Type} {enc : TypeId × Value → H} {w : World} {base : Nat} {spare : Nat → Bool} {held : Bool}
end
end Go.Proofs.Ythgnbbbdcebjhaa

namespace Go.Proofs.Ythgnbbbdcebjhaa
open Go Go.RowKit Go.BigFrame
set_option linter.unusedVariables false
set_option linter.unusedSimpArgs false

end Go.Proofs.Ythgnbbbdcebjhaa

namespace Go.Proofs.Ythgnbbbdcebjhaa
open Go Go.RowKit Go.BigFrame
set_option linter.unusedVariables false
set_option linter.unusedSimpArgs false

def NdOk (nd : Nd) : Prop := nd.attrs.length ≤ 60000 ∧ nd.text.size ≤ 8192
def AttrsOk (T : Tr) : Prop := ∀ (i : Nat) (nd : Nd), T.nodes[i]? = some (some nd) → NdOk nd
def GoodT (T : Tr) : Prop := (∃ d, WF T d) ∧ AttrsOk T
theorem set_get {l : List (Option Nd)} {i : Nat} {x : Option Nd} {j : Nat} {nd : Nd} (h : (l.set i x)[j]? = some (some nd)) : x = some nd ∨ l[j]? = some (some nd) := by
  rw [List.getElem?_set] at h
  split at h
  · split at h
    · injection h with h; exact .inl h
    · cases h
  · exact .inr h
theorem AttrsOk.put {T : Tr} (h : AttrsOk T) (nd : Nd) (hn : NdOk nd) : AttrsOk (T.put nd) := by
  intro j x hj
  obtain ⟨n, _, h2, _, _, h5, _⟩ := T.put_at nd
  by_cases e : j = n
  · subst e
    obtain rfl := some_inj2 h2 hj
    exact hn
  · exact h j x (h5 j x e hj)
theorem AttrsOk.set2 {T : Tr} (h : AttrsOk T) {p k : Nat} {pd kd : Nd} (h1 : NdOk pd) (h2 : NdOk kd) : AttrsOk (T.set2 p k pd kd) := by
  intro j x hj
  rcases set_get hj with e | hj
  · injection e with e; subst e; exact h2
  · rcases set_get hj with e | hj
    · injection e with e; subst e; exact h1
    · exact h j x hj
theorem AttrsOk.look {T : Tr} (h : AttrsOk T) (i : Int) : NdOk (T.look i) := by
  unfold Tr.look
  cases hg : T.get? i with
  | none => simp [NdOk]
  | some nd => exact h _ nd (Tr.get_lt hg).2.2
theorem AttrsOk.join {T : Tr} (h : AttrsOk T) (p k : Int) : AttrsOk (T.join p k) := h.set2 (h.look p) (h.look k)
theorem intos_attrs (id : Int) : ∀ (l : List PN), (∀ k ∈ l, ∀ T, AttrsOk T → AttrsOk (PN.into T k)) → ∀ T, AttrsOk T → AttrsOk (PN.intos id T l) := by
  intro l
  induction l with
  | nil => intro _ T h; exact h
  | cons k r ih => intro hk T h; exact ih (fun x hx => hk x (by simp [hx])) _ ((hk k (by simp) T h).join _ _)
theorem into_attrs : ∀ n : PN, n.ok = true → n.short = true → ∀ T, AttrsOk T → AttrsOk (PN.into T n) := by
  refine PN.induct _ fun n ih ho hs T h => ?_
  rw [PN.short_eq] at hs
  simp at hs
  have ho' := ho
  rw [PN.ok_eq] at ho'
  simp at ho'
  rw [PN.into_eq]
  exact intos_attrs _ _ (fun k hk => ih k hk (PN.oks_mem (PN.ok_kids ho) hk) (PN.shorts_mem hs.2 hk)) _ (h.put _ ⟨hs.1.2, ho'.1.2⟩)
theorem AttrsOk.rid {T : Tr} (h : AttrsOk T) (q : Nat → Bool) : AttrsOk (T.rid q) := fun i nd hi => h i nd (Tr.rid_some.1 hi).2
section
variable {w : World} {own : Ow} {ptr : Nat → Nat} {tb : Nat} {T : Tr}
theorem nat_of {id : Int} {nd : Nd} (h : T.get? id = some nd) : ∃ i : Nat, id = (i : Int) ∧ T.nodes[i]? = some (some nd) := by
  obtain ⟨h0, _, h2⟩ := Tr.get_lt h
  exact ⟨id.toNat, by omega, h2⟩
end
end Go.Proofs.Ythgnbbbdcebjhaa

namespace Go.Proofs.Ythgnbbbdcebjhaa
open Go Go.RowKit Go.BigFrame
set_option linter.unusedVariables false
set_option linter.unusedSimpArgs false

def d3 (i : Nat) : Nat := if i = 1 then 1 else 0
theorem emptyRow (w : World) : RowRd w 2 (.slice none 0 0) ([] : List (ByteArray × ByteArray)).length (attrCells []) := ⟨rfl, none, 0, rfl, Nat.le_refl _, fun _ => ⟨rfl, rfl⟩, fun a h => by cases h⟩

end Go.Proofs.Ythgnbbbdcebjhaa

namespace Go.Proofs.Ythgnbbbdcebjhaa
open Go Go.RowKit Go.BigFrame
set_option linter.unusedVariables false
set_option linter.unusedSimpArgs false

end Go.Proofs.Ythgnbbbdcebjhaa

namespace Go.Proofs.Ythgnbbbdcebjhaa
open Go Go.RowKit Go.BigFrame
set_option linter.unusedVariables false
set_option linter.unusedSimpArgs false

/-- a plain tree in new memory is returned -/
def PlainIs (n : PN) (w : World) (e : Ending) (w' : World) : Prop := ∃ v g, e = .returned v ∧ RdN g n v ∧ Ext w w' ∧ ∀ q x, g.cell? q = some x → w'.cell? q = some x ∧ w.heap.size ≤ q.block
/-- the box of the plain node: its four cells -/
def PlainBox (w0 wx : World) (b : Nat) (tag : Int) (attrs : List (ByteArray × ByteArray)) (text : ByteArray) : Prop := ∃ aa acap, wx.heap[b]? = some (.cells #[.int .i64 tag, .slice aa attrs.length acap, .string text, .slice none 0 0] 39 (0, 0)) ∧
  RowP wx (fun g => w0.heap.size ≤ g ∧ g ≠ b) 101 2 (.slice aa attrs.length acap) attrs.length (attrCells attrs)
/-- what is told at the loop's head: k kids stand in the row; a reading world tells the row of attributes and the kids -/
structure PlainAt (w1 wr : World) (b : Nat) (nd : Nd) (F : Int → PN) (aa : Option Addr) (acap k : Nat) : Prop where
  ext : Ext w1 wr
  row : ∃ kv xs g, wr.heap[b]? = some (.cells #[.int .i64 nd.tag, .slice aa nd.attrs.length acap, .string nd.text, kv] 39 (0, 0)) ∧ RowP wr (fun x => w1.heap.size ≤ x ∧ x ≠ b) 39 4 kv k xs ∧ (∀ y, kv.ownBlock = some y → y < wr.heap.size) ∧
    RowRd g 2 (.slice aa nd.attrs.length acap) nd.attrs.length (attrCells nd.attrs) ∧
    (∀ (j : Nat) (x : Int), j < k → nd.kids[j]? = some x → ∃ c0 c1 c2 c3, xs[j * 4]? = some c0 ∧ xs[j * 4 + 1]? = some c1 ∧ xs[j * 4 + 2]? = some c2 ∧ xs[j * 4 + 3]? = some c3 ∧ RdN g (F x) (.agg #[c0, c1, c2, c3])) ∧
    ∀ q x, g.cell? q = some x → wr.cell? q = some x ∧ w1.heap.size ≤ q.block ∧ q.block ≠ b ∧ kv.ownBlock ≠ some q.block
theorem PlainBox.at {w1 wx : World} {b : Nat} {nd : Nd} (F : Int → PN) (h : PlainBox w1 wx b nd.tag nd.attrs nd.text) (x : Ext w1 wx) :
    ∃ aa acap, PlainAt w1 wx b nd F aa acap 0 := by
  obtain ⟨aa, acap, hb, hr⟩ := h
  refine ⟨aa, acap, x, .slice none 0 0, [], hide (fun y => if w1.heap.size ≤ y ∧ y ≠ b then none else some (0, 0)) wx, hb, ⟨rfl, .inl ⟨rfl, none, rfl⟩⟩, (fun y e => by cases e), ?_, fun j x hj => by omega, fun q y hq => ?_⟩
  · have hr' := hr
    obtain ⟨h1, h2⟩ := hr
    obtain ⟨h3, ao, cap, h4, h5, h6, h7⟩ := hr'.rd
    refine ⟨h3, ao, cap, h4, h5, h6, fun a ha j x hx => ?_⟩
    refine hide_cell (h7 a ha j x hx) ?_
    rcases h2 with ⟨h8, a8, h9⟩ | ⟨g, cap', cur, h8, h9, _⟩
    · rw [h8] at h1
      have h0 : attrCells nd.attrs = [] := List.eq_nil_of_length_eq_zero (by omega)
      rw [h0] at hx
      simp at hx
    · rw [h4] at h8
      cases h8
      cases ha
      rw [Addr.add_lit]
      exact if_pos h9
  · obtain ⟨h1, h2⟩ := hide_apart _ _ q y hq
    dsimp only at h2
    split at h2
    · rename_i h3
      exact ⟨h1, h3.1, h3.2, fun e => by cases e⟩
    · cases h2
end Go.Proofs.Ythgnbbbdcebjhaa

namespace Go.Proofs.Ythgnbbbdcebjhaa
open Go Go.RowKit Go.BigFrame
set_option linter.unusedVariables false
set_option linter.unusedSimpArgs false

end Go.Proofs.Ythgnbbbdcebjhaa

namespace Go.Proofs.Ythgnbbbdcebjhaa
open Go Go.RowKit Go.BigFrame
set_option linter.unusedVariables false
set_option linter.unusedSimpArgs false

end Go.Proofs.Ythgnbbbdcebjhaa

namespace Go.Proofs.Ythgnbbbdcebjhaa
open Go Go.RowKit Go.BigFrame
set_option linter.unusedVariables false
set_option linter.unusedSimpArgs false

theorem set_same {α : Type} {l : List α} {i : Nat} {x : α} (h : l[i]? = some x) : l.set i x = l := by
  obtain ⟨hlt, rfl⟩ := List.getElem?_eq_some_iff.1 h
  exact List.set_getElem_self hlt
/-- two nodes turned twice -/
theorem Tr.set2_set2 (T : Tr) {p k : Nat} (hpk : p ≠ k) (pd kd pd' kd' : Nd) : (T.set2 p k pd' kd').set2 p k pd kd = T.set2 p k pd kd := by
  unfold Tr.set2
  simp only [Tr.mk.injEq, true_and]
  rw [List.set_comm _ _ (Ne.symm hpk), List.set_set, List.set_set]
theorem Tr.set2_self {T : Tr} {p k : Nat} (hpk : p ≠ k) {pd kd : Nd} (hp : T.nodes[p]? = some (some pd)) (hk : T.nodes[k]? = some (some kd)) : T.set2 p k pd kd = T := by
  show { T with nodes := (T.nodes.set p (some pd)).set k (some kd) } = T
  rw [set_same hp, set_same hk]
theorem erase_mid {l : List Int} {x : Int} (hx : x ∉ l) (i : Nat) : (l.take i ++ [x] ++ l.drop i).erase x = l := by
  rw [List.append_assoc, List.erase_append_right _ (fun h => hx (List.mem_of_mem_take h))]
  simp
theorem mid_erase {l : List Int} (hn : l.Nodup) {x : Int} (hx : x ∈ l) : (l.erase x).take (l.idxOf x) ++ [x] ++ (l.erase x).drop (l.idxOf x) = l := by
  have hlt : l.idxOf x < l.length := List.idxOf_lt_length_of_mem hx
  rw [List.erase_eq_eraseIdx_of_idxOf rfl, List.eraseIdx_eq_take_drop_succ]
  generalize hi : l.idxOf x = i at *
  have hx : l[i] = x := by subst hi; exact List.getElem_idxOf hlt
  have ht : (l.take i).length = i := by rw [List.length_take]; omega
  rw [List.take_append_of_le_length (by omega), List.take_of_length_le (by omega), List.drop_append_of_le_length (by omega), List.drop_of_length_le (by omega), List.nil_append, ← hx, List.append_assoc]
  simp
/-- hung up and taken off again -/
theorem Tr.unlink_link {T : Tr} {p k at' : Nat} {pd kd : Nd} (hp : T.nodes[p]? = some (some pd)) (hk : T.nodes[k]? = some (some kd)) (hpk : p ≠ k) (hpar : kd.parent = -1) (hno : (k : Int) ∉ pd.kids) :
    (T.link p at' k pd kd).unlink p k { pd with kids := pd.kids.take at' ++ [(k : Int)] ++ pd.kids.drop at' } { kd with parent := p } = T := by
  rw [Tr.link_eq]
  unfold Tr.unlink
  rw [Tr.set2_set2 _ hpk]
  have e1 : ({ pd with kids := (pd.kids.take at' ++ [(k : Int)] ++ pd.kids.drop at').erase (k : Int) } : Nd) = pd := by rw [erase_mid hno]
  have e2 : ({ kd with parent := -1 } : Nd) = kd := by rw [← hpar]
  show T.set2 p k { pd with kids := (pd.kids.take at' ++ [(k : Int)] ++ pd.kids.drop at').erase (k : Int) } { kd with parent := -1 } = T
  rw [e1, e2]
  exact Tr.set2_self hpk hp hk
/-- taken off and hung up again -/
theorem Tr.link_unlink {T : Tr} {p k : Nat} {pd kd : Nd} (hp : T.nodes[p]? = some (some pd)) (hk : T.nodes[k]? = some (some kd)) (hpk : p ≠ k) (hpar : kd.parent = (p : Int)) (hn : pd.kids.Nodup) (hin : (k : Int) ∈ pd.kids) :
    (T.unlink p k pd kd).link p (pd.kids.idxOf (k : Int)) k { pd with kids := pd.kids.erase (k : Int) } { kd with parent := -1 } = T := by
  rw [Tr.link_eq]
  unfold Tr.unlink
  rw [Tr.set2_set2 _ hpk]
  have e1 : ({ pd with kids := (pd.kids.erase (k : Int)).take (pd.kids.idxOf (k : Int)) ++ [(k : Int)] ++ (pd.kids.erase (k : Int)).drop (pd.kids.idxOf (k : Int)) } : Nd) = pd := by rw [mid_erase hn hin]
  have e2 : ({ kd with parent := (p : Int) } : Nd) = kd := by rw [← hpar]
  show T.set2 p k { pd with kids := (pd.kids.erase (k : Int)).take (pd.kids.idxOf (k : Int)) ++ [(k : Int)] ++ (pd.kids.erase (k : Int)).drop (pd.kids.idxOf (k : Int)) } { kd with parent := (p : Int) } = T
  rw [e1, e2]
  exact Tr.set2_self hpk hp hk
/-- what lies within a node stays, whoever else is turned -/
theorem WF.plain_set2 {T : Tr} {d : Nat → Nat} (hw : WF T d) {p k : Nat} {pd kd pd' : Nd} {q : Int} (hp : T.nodes[p]? = some (some pd)) (hk : T.nodes[k]? = some (some kd)) (hin : T.within p k = false) :
    (T.set2 p k pd' { kd with parent := q }).plain k = T.plain k ∧ (T.set2 p k pd' { kd with parent := q }).height k = T.height k := by
  refine pln_same hw (o := k) (fun j jd hj hjk => ?_) hk 50 k kd hk (hw.within_self hk)
  rw [Tr.set2_get hp hk]
  by_cases h1 : j = k
  · subst h1
    obtain rfl := some_inj2 hk hj
    exact ⟨_, if_pos rfl, rfl, rfl, rfl, rfl⟩
  · rw [if_neg h1]
    by_cases h2 : j = p
    · subst h2; rw [hjk] at hin; cases hin
    · rw [if_neg h2]; exact ⟨jd, hj, rfl, rfl, rfl, rfl⟩
theorem fold_top (F : Int → Int) (b : Int) : ∀ (l : List Int) (z : Int), z ≤ b → (∀ k ∈ l, F k ≤ b) → l.foldl (fun h k => max h (F k)) z ≤ b := by
  intro l
  induction l with
  | nil => intro z hz _; exact hz
  | cons k r ih =>
    intro z hz hk
    have := hk k (by simp)
    exact ih _ (show max z (F k) ≤ b by omega) fun x hx => hk x (by simp [hx])
/-- the deepest within a node is not too deep -/
theorem WF.high_deep {T : Tr} {d : Nat → Nat} (hw : WF T d) : ∀ (f i : Nat) (nd : Nd), T.nodes[i]? = some (some nd) → (d i : Int) + T.hgt f i ≤ T.deep := by
  intro f
  induction f with
  | zero => intro i nd h; have := hw.deep i nd h; show (d i : Int) + 0 ≤ T.deep; omega
  | succ f ih =>
    intro i nd h
    rw [hgt_step T f h]
    have := hw.deep i nd h
    have := fold_top (fun k => T.hgt f k + 1) (T.deep - d i) nd.kids 0 (by omega) fun k hk => by
      obtain ⟨n, hn⟩ := List.getElem?_of_mem hk
      obtain ⟨j, kd, rfl, hj, hjp, hjd⟩ := hw.kid h hn
      have := ih j kd hj
      show T.hgt f j + 1 ≤ T.deep - d i
      omega
    omega
/-- a parent is not within its kid -/
theorem WF.up_out {T : Tr} {d : Nat → Nat} (hw : WF T d) {p k : Nat} {pd kd : Nd} (hp : T.nodes[p]? = some (some pd)) (hk : T.nodes[k]? = some (some kd)) (hpar : kd.parent = (p : Int)) : T.within p k = false ∧ d k = d p + 1 ∧ (k : Int) ∈ pd.kids ∧ p ≠ k := by
  have hd : d k = d p + 1 ∧ (k : Int) ∈ pd.kids := by
    rcases hw.up k kd hk with ⟨h3, h4⟩ | ⟨q, qd, h3, h4, h5, h6⟩
    · omega
    · obtain rfl : q = p := by omega
      obtain rfl := some_inj2 hp h4
      exact ⟨h5, h6⟩
  refine ⟨?_, hd.1, hd.2, fun e => by subst e; omega⟩
  cases hin : T.within p k with
  | false => rfl
  | true => have := (hw.within_depth p pd hp hin).1; omega
end Go.Proofs.Ythgnbbbdcebjhaa

namespace Go.Proofs.Ythgnbbbdcebjhaa
open Go Go.RowKit Go.BigFrame
set_option linter.unusedVariables false
set_option linter.unusedSimpArgs false

/-- the four cells of kid number j -/
def four (cur : Array Value) (j : Nat) : Value := .agg #[cur[j * 4]?.getD undef, cur[j * 4 + 1]?.getD undef, cur[j * 4 + 2]?.getD undef, cur[j * 4 + 3]?.getD undef]
inductive OwnN (ga w : World) : PN → Value → (Nat → Prop) → Prop
  | leaf (n : PN) (av kv : Value) (F : Nat → Prop) (ha : RowRd ga 2 av n.attrs.length (attrCells n.attrs)) (h0 : n.kids = []) (hk : ∃ a, kv = .slice a 0 0) : OwnN ga w n (.agg #[.int .i64 n.tag, av, .string n.text, kv]) F
  | node (n : PN) (av : Value) (b cap : Nat) (cur : Array Value) (F : Nat → Prop) (G : Nat → Nat → Prop) (ha : RowRd ga 2 av n.attrs.length (attrCells n.attrs)) (hb : w.heap[b]? = some (.cells cur 39 (0, 0))) (hl : n.kids.length ≤ cap) (hm : cap ≤ maxLen) (hs : cur.size = cap * 4)
      (hk : ∀ (j : Nat) (k : PN), n.kids[j]? = some k → OwnN ga w k (four cur j) (G j)) (hFb : F b) (hG : ∀ j x, j < n.kids.length → G j x → F x ∧ x ≠ b) (hd : ∀ i j x, i < n.kids.length → j < n.kids.length → i ≠ j → G i x → ¬ G j x) : OwnN ga w n (.agg #[.int .i64 n.tag, av, .string n.text, .slice (some ⟨b, 0, none⟩) n.kids.length cap]) F
theorem OwnN.keep {ga w w' : World} {n : PN} {v : Value} {F : Nat → Prop} (h : OwnN ga w n v F) : (∀ b o, F b → w.heap[b]? = some o → w'.heap[b]? = some o) → OwnN ga w' n v F := by
  induction h with
  | leaf n av kv F ha h0 hk => exact fun _ => .leaf n av kv F ha h0 hk
  | node n av b cap cur F G ha hb hl hm hs hk hFb hG hd ih =>
    intro k
    exact .node n av b cap cur F G ha (k b _ hFb hb) hl hm hs (fun j x hx => ih j x hx fun b o hb => k b o (hG j b (List.getElem?_eq_some_iff.1 hx).1 hb).1) hFb hG hd
theorem four_at {cur : Array Value} {cap j : Nat} (hs : cur.size = cap * 4) (hj : j < cap) : ∃ c0 c1 c2 c3, four cur j = .agg #[c0, c1, c2, c3] ∧ cur[j * 4]? = some c0 ∧ cur[j * 4 + 1]? = some c1 ∧ cur[j * 4 + 2]? = some c2 ∧ cur[j * 4 + 3]? = some c3 := by
  have h0 : j * 4 < cur.size := by omega
  have h1 : j * 4 + 1 < cur.size := by omega
  have h2 : j * 4 + 2 < cur.size := by omega
  have h3 : j * 4 + 3 < cur.size := by omega
  refine ⟨cur[j * 4], cur[j * 4 + 1], cur[j * 4 + 2], cur[j * 4 + 3], ?_, ?_, ?_, ?_, ?_⟩
  · unfold four
    rw [Array.getElem?_eq_getElem h0, Array.getElem?_eq_getElem h1, Array.getElem?_eq_getElem h2, Array.getElem?_eq_getElem h3]; rfl
  · exact Array.getElem?_eq_getElem h0
  · exact Array.getElem?_eq_getElem h1
  · exact Array.getElem?_eq_getElem h2
  · exact Array.getElem?_eq_getElem h3
/-- it reads as the plain tree -/
theorem OwnN.rd {ga w g : World} {B : Nat} {n : PN} {v : Value} {F : Nat → Prop} (h : OwnN ga w n v F) (hga : Cells ga g) (hc : ∀ q y, w.cell? q = some y → B ≤ q.block → g.cell? q = some y) : (∀ x, F x → B ≤ x) → RdN g n v := by
  induction h with
  | leaf n av kv F ha h0 hk =>
    intro _
    obtain ⟨a, rfl⟩ := hk
    refine RdN.mk' (ha.cells hga) ⟨a, 0, by rw [h0]; rfl, by rw [h0]; exact Nat.le_refl _, Nat.zero_le _, fun _ => ⟨by rw [h0]; rfl, rfl⟩, fun a ha j k hk => ?_⟩
    rw [h0] at hk; simp at hk
  | node n av b cap cur F G ha hb hl hm hs hk hFb hG hd ih =>
    intro hF
    refine RdN.mk' (ha.cells hga) ⟨_, cap, rfl, hl, hm, (fun e => by cases e), fun a ha' j k hk' => ?_⟩
    cases ha'
    have hj := (List.getElem?_eq_some_iff.1 hk').1
    obtain ⟨c0, c1, c2, c3, e, q0, q1, q2, q3⟩ := four_at hs (show j < cap by omega)
    have hr := ih j k hk' fun x hx => hF x (hG j x hj hx).1
    rw [e] at hr
    have cell : ∀ (m : Nat) z, cur[m]? = some z → g.cell? (Addr.add ⟨b, 0, none⟩ m) = some z := fun m z hz => by
      rw [Addr.add_lit, Nat.zero_add]
      exact hc ⟨b, m, none⟩ z (cellOf hb hz) (hF b hFb)
    exact ⟨c0, c1, c2, c3, cell _ _ q0, cell _ _ q1, cell _ _ q2, cell _ _ q3, hr⟩
/-- what is copied into new memory -/
def CopyNIs (n : PN) (w : World) (e : Ending) (w' : World) : Prop :=
  ∃ v F ga, e = .returned v ∧ OwnN ga w' n v F ∧ Ext w w' ∧ (∀ x, F x → w.heap.size ≤ x ∧ x < w'.heap.size) ∧ ∀ q y, ga.cell? q = some y → w'.cell? q = some y ∧ w.heap.size ≤ q.block ∧ ¬ F q.block
theorem CopyNIs.plain {n : PN} {w w' : World} {e : Ending} (h : CopyNIs n w e w') : PlainIs n w e w' := by
  obtain ⟨v, F, ga, rfl, ho, hx, hF, hg⟩ := h
  refine ⟨v, hide (fun x => if x < w.heap.size then some (0, 0) else none) w', rfl, ho.rd (B := w.heap.size) (fun q y hq => hide_cell (hg q y hq).1 (if_neg (by have := (hg q y hq).2.1; omega))) (fun q y hq hb => hide_cell hq (if_neg (by omega))) (fun x hx => (hF x hx).1), hx, fun q y hq => ?_⟩
  obtain ⟨h1, h2⟩ := hide_apart _ _ q y hq
  dsimp only at h2
  split at h2
  · cases h2
  · exact ⟨h1, by omega⟩
end Go.Proofs.Ythgnbbbdcebjhaa

namespace Go.Proofs.Ythgnbbbdcebjhaa
open Go Go.RowKit Go.BigFrame
set_option linter.unusedVariables false
set_option linter.unusedSimpArgs false

end Go.Proofs.Ythgnbbbdcebjhaa

namespace Go.Proofs.Ythgnbbbdcebjhaa
open Go Go.RowKit Go.BigFrame
set_option linter.unusedVariables false
set_option linter.unusedSimpArgs false

/-- a good tree, anew since w0 -/
def InTree (w0 w : World) (tb : Nat) : Prop := ∃ own ptr T, TreeAt w own ptr tb T ∧ Owned own w ∧ GoodT T ∧ Ext w0 w ∧ ∀ b, own b ≠ none → w0.heap.size ≤ b
theorem InTree.ext {w0 w w' : World} {tb : Nat} (h : InTree w0 w tb) (k : Ext w w') : InTree w0 w' tb := by
  obtain ⟨own, ptr, T, hT, hO, hG, hx, hf⟩ := h
  exact ⟨own, ptr, T, hT.keep (k.keep hO), fun b hb => Nat.lt_of_lt_of_le (hO b hb) (Ext.size k), hG, hx.trans k, hf⟩
theorem apart_of {w0 w : World} {own : Ow} (hx : Ext w0 w) (hf : ∀ b, own b ≠ none → w0.heap.size ≤ b) : Apart w0 own w := fun p v hp =>
  ⟨hx.cells _ _ hp, Classical.byContradiction fun e => by have h1 := hf _ e; have h2 := World.block_lt_of_cell? w0 _ hp; omega⟩
/-- a good tree, and a block apart from it -/
def InBox (w0 w : World) (tb p : Nat) (o : Obj) : Prop := ∃ own ptr T, TreeAt w own ptr tb T ∧ Owned own w ∧ GoodT T ∧ Ext w0 w ∧ (∀ b, own b ≠ none → w0.heap.size ≤ b) ∧ own p = none ∧ w.heap[p]? = some o
theorem InTree.box {w0 w wm : World} {tb : Nat} {o : Obj} (h : InTree w0 w tb) (k : Ext w wm) (hb : wm.heap[w.heap.size]? = some o) : InBox w0 wm tb w.heap.size o := by
  obtain ⟨own, ptr, T, hT, hO, hG, hx, hf⟩ := h
  exact ⟨own, ptr, T, hT.keep (k.keep hO), fun b hb => Nat.lt_of_lt_of_le (hO b hb) (Ext.size k), hG, hx.trans k, hf, Classical.byContradiction fun e => by have := hO _ e; omega, hb⟩
theorem InBox.tree {w0 w : World} {tb p : Nat} {o : Obj} (h : InBox w0 w tb p o) : InTree w0 w tb := by
  obtain ⟨own, ptr, T, hT, hO, hG, hx, hf, _, _⟩ := h
  exact ⟨own, ptr, T, hT, hO, hG, hx, hf⟩
end Go.Proofs.Ythgnbbbdcebjhaa

namespace Go.Proofs.Ythgnbbbdcebjhaa
open Go Go.RowKit Go.BigFrame
set_option linter.unusedVariables false
set_option linter.unusedSimpArgs false

section
variable {w u : World} {own : Ow} {ptr : Nat → Nat} {tb : Nat} {T : Tr} {d : Nat → Nat} {i : Nat} {nd : Nd}
/-- all of a node that the walk asks for -/
structure Told (T : Tr) (d : Nat → Nat) (i : Nat) (nd : Nd) (p z h : Int) (b : Bool) : Prop where
  node : T.nodes[i]? = some (some nd)
  up : nd.parent = p
  depth : (d i : Int) = z
  height : T.height i = h
  live : T.within i 0 = b
variable {p z h : Int} {b : Bool}
end
end Go.Proofs.Ythgnbbbdcebjhaa

namespace Go.Proofs.Ythgnbbbdcebjhaa
open Go Go.RowKit Go.BigFrame
set_option linter.unusedVariables false
set_option linter.unusedSimpArgs false

structure Sit (w0 w : World) (tb : Nat) (T : Tr) (g : World) : Prop where
  out : ∃ own ptr, TreeAt w own ptr tb T ∧ Owned own w ∧ Ext w0 w ∧ (∀ b, own b ≠ none → w0.heap.size ≤ b) ∧ Apart g own w
def SitIs (v : Value) (w0 : World) (tb : Nat) (T : Tr) (g : World) (e : Ending) (w' : World) : Prop := e = .returned v ∧ Sit w0 w' tb T g
theorem Sit.cell {w0 w : World} {tb : Nat} {T : Tr} {g : World} (h : Sit w0 w tb T g) {p : Addr} {v : Value} (hp : g.cell? p = some v) : w.cell? p = some v := by
  obtain ⟨own, ptr, _, _, _, _, ha⟩ := h.out; exact (ha p v hp).1
theorem Sit.cells {w0 w : World} {tb : Nat} {T : Tr} {g : World} (h : Sit w0 w tb T g) : Cells g w := fun _ _ hp => h.cell hp
theorem Sit.ext {w0 w w' : World} {tb : Nat} {T : Tr} {g : World} (h : Sit w0 w tb T g) (x : Ext w w') : Sit w0 w' tb T g := by
  obtain ⟨own, ptr, hT, hO, hx, hf, ha⟩ := h.out
  exact ⟨own, ptr, hT.keep (x.keep hO), fun b hb => Nat.lt_of_lt_of_le (hO b hb) x.size, hx.trans x, hf, ha.ext x⟩
theorem Sit.old {w0 w : World} {tb : Nat} {T : Tr} {g : World} (h : Sit w0 w tb T g) : ∃ g2, Sit w0 w tb T g2 ∧ Cells g g2 ∧ Cells w0 g2 := by
  obtain ⟨own, ptr, hT, hO, hx, hf, ha⟩ := h.out
  refine ⟨hide own w, ⟨own, ptr, hT, hO, hx, hf, hide_apart _ _⟩, ha.hide, fun q y hq => hide_cell (hx.cells _ _ hq) ?_⟩
  cases ho : own q.block with
  | none => rfl
  | some z => have h1 := hf q.block (by simp [ho]); have h2 := World.block_lt_of_cell? w0 q hq; omega
section
variable {w0 w : World} {tb : Nat} {T : Tr} {g : World}
theorem Sit.val (h : Sit w0 w tb T g) {f : FuncId} {args : Array Value} {v : Value} (hc : ∀ own ptr, TreeAt w own ptr tb T → Owned own w → Calls Try.prog f args w (RVal v w)) : Calls Try.prog f args w (SitIs v w0 tb T g) := by
  obtain ⟨own, ptr, hT, hO, _⟩ := h.out
  exact (hc own ptr hT hO).mono fun e w' hh => ⟨hh.1, h.ext hh.2⟩
/-- a box of a plain tree -/
def Box4 (g : World) (b : Nat) (c0 c1 c2 c3 : Value) : Prop := g.cell? ⟨b, 0, none⟩ = some c0 ∧ g.cell? ⟨b, 1, none⟩ = some c1 ∧ g.cell? ⟨b, 2, none⟩ = some c2 ∧ g.cell? ⟨b, 3, none⟩ = some c3
theorem Box4.cells {g g2 : World} {b : Nat} {c0 c1 c2 c3 : Value} (h : Box4 g b c0 c1 c2 c3) (k : Cells g g2) : Box4 g2 b c0 c1 c2 c3 := ⟨k _ _ h.1, k _ _ h.2.1, k _ _ h.2.2.1, k _ _ h.2.2.2⟩
theorem Box4.of {w g : World} {b : Nat} {c0 c1 c2 c3 : Value} {t : TypeId} (h : w.heap[b]? = some (.cells #[c0, c1, c2, c3] t (0, 0))) {B : Nat} (hb : B ≤ b) (hn : ∀ q y, w.cell? q = some y → B ≤ q.block → g.cell? q = some y) : Box4 g b c0 c1 c2 c3 :=
  ⟨hn _ _ (cellOf h (i := 0) rfl) hb, hn _ _ (cellOf h (i := 1) rfl) hb, hn _ _ (cellOf h (i := 2) rfl) hb, hn _ _ (cellOf h (i := 3) rfl) hb⟩
end
/-- a node that is taken off -/
theorem WF.off {T : Tr} {d : Nat → Nat} (hw : WF T d) (hA : AttrsOk T) {i p : Nat} {nd pd : Nd} (hi : T.nodes[i]? = some (some nd)) (hp : T.nodes[p]? = some (some pd)) (hpar : nd.parent = (p : Int)) :
    ∃ (T1 : Tr) (d1 : Nat → Nat), T.unlink p i pd nd = T1 ∧ WF T1 d1 ∧ AttrsOk T1 ∧ T1.nodes[i]? = some (some { nd with parent := -1 }) ∧ T1.nodes[p]? = some (some { pd with kids := pd.kids.erase (i : Int) }) ∧ T1.plain i = T.plain i ∧ d1 i = 0 ∧ i ≠ 0 ∧
      pd.tag ≠ 0 ∧ posOf pd.kids i = ((pd.kids.idxOf (i : Int) : Nat) : Int) ∧ pd.kids.idxOf (i : Int) ≤ (pd.kids.erase (i : Int)).length ∧ T1.within p i = false ∧ (d1 p : Int) + 1 + T1.height i ≤ T1.deep ∧
      T1.link p (pd.kids.idxOf (i : Int)) i { pd with kids := pd.kids.erase (i : Int) } { nd with parent := -1 } = T ∧ T.count = T1.count := by
  obtain ⟨h1, h2, h3, h4⟩ := hw.up_out hp hi hpar
  have hw1 := hw.unlink hp hi hpar
  have hg := fun j => Tr.set2_get (pd' := { pd with kids := pd.kids.erase (i : Int) }) (kd' := { nd with parent := -1 }) hp hi j
  have hi1 : (T.unlink p i pd nd).nodes[i]? = some (some { nd with parent := -1 }) := by
    show (T.set2 p i _ _).nodes[i]? = _
    rw [hg, if_pos rfl]
  have hp1 : (T.unlink p i pd nd).nodes[p]? = some (some { pd with kids := pd.kids.erase (i : Int) }) := by
    show (T.set2 p i _ _).nodes[p]? = _
    rw [hg, if_neg h4, if_pos rfl]
  have hpl := hw.plain_set2 (pd' := { pd with kids := pd.kids.erase (i : Int) }) (q := -1) hp hi h1
  obtain ⟨k1, k2, k3⟩ := posOf_mem h3
  have hhd := hw.high_deep 50 i nd hi
  have hd0 : i ≠ 0 := fun e => by
    subst e
    obtain ⟨rd, r1, r2, _⟩ := hw.root
    obtain rfl := some_inj2 r1 hi
    omega
  have hle : (pd.kids.erase (i : Int)).length + 1 = pd.kids.length := by
    have := List.length_erase_of_mem h3; have := List.length_pos_of_mem h3; omega
  refine ⟨T.unlink p i pd nd, _, rfl, hw1, hA.set2 (show NdOk pd from hA _ _ hp) (show NdOk nd from hA _ _ hi), hi1, hp1, hpl.1, ?_, hd0, fun e => ?_, k1, by omega, ?_, ?_, ?_, rfl⟩
  · show (if T.within i i then d i - d i else d i) = 0
    rw [hw.within_self hi]; simp
  · have := (hw.text p pd hp).2.2 e
    rw [this] at h3; cases h3
  · cases hin : (T.unlink p i pd nd).within p i with
    | false => rfl
    | true =>
      have e0 : (if T.within i i then d i - d i else d i) = 0 := by rw [hw.within_self hi]; simp
      rcases Nat.eq_zero_or_pos (d p) with hz | hz
      · have h5 := (hw1.within_depth p _ hp1 hin).2 (by
          show (if T.within i i then d i - d i else d i) = (if T.within p i then d p - d i else d p)
          rw [e0, h1]; simpa using hz.symm)
        exact absurd h5 h4
      · -- the parent's way up is as it was
        have key : ∀ (j : Nat) (jd : Nd), T.nodes[j]? = some (some jd) → T.within j i = false → (T.unlink p i pd nd).within j i = false := by
          refine hw.induct _ (fun j jd hj hjp hjd hji => ?_) (fun j jd q qd hj hjp hq hjd ih hji => ?_)
          · have hne : j ≠ i := fun e => by subst e; rw [hw.within_self hj] at hji; cases hji
            have hj1 : ∃ jd', (T.unlink p i pd nd).nodes[j]? = some (some jd') ∧ jd'.parent = -1 := by
              by_cases e : j = p
              · subst e; obtain rfl := some_inj2 hp hj; exact ⟨_, hp1, hjp⟩
              · refine ⟨jd, ?_, hjp⟩
                show (T.set2 p i _ _).nodes[j]? = _
                rw [hg, if_neg hne, if_neg e]; exact hj
            obtain ⟨jd', e1, e2⟩ := hj1
            rw [hw1.within_root e1 e2]
            exact decide_eq_false (by omega)
          · have hne : j ≠ i := fun e => by subst e; rw [hw.within_self hj] at hji; cases hji
            have hj1 : ∃ jd', (T.unlink p i pd nd).nodes[j]? = some (some jd') ∧ jd'.parent = (q : Int) := by
              by_cases e : j = p
              · subst e; obtain rfl := some_inj2 hp hj; exact ⟨_, hp1, hjp⟩
              · refine ⟨jd, ?_, hjp⟩
                show (T.set2 p i _ _).nodes[j]? = _
                rw [hg, if_neg hne, if_neg e]; exact hj
            obtain ⟨jd', e1, e2⟩ := hj1
            rw [hw1.within_step e1, if_neg (by omega), e2]
            refine ih ?_
            rw [hw.within_step hj, if_neg (by omega), hjp] at hji
            exact hji
        rw [key p pd hp h1] at hin; cases hin
  · show ((if T.within p i then d p - d i else d p : Nat) : Int) + 1 + (T.unlink p i pd nd).height i ≤ T.deep
    have e : (T.unlink p i pd nd).height i = T.height i := hpl.2
    rw [h1, e]
    have : (d i : Int) + T.height i ≤ T.deep := hhd
    simp
    omega
  · exact Tr.link_unlink hp hi h4 hpar (hw.kids p pd hp).1 h3
/-- a loose node that is hung up -/
theorem WF.on {T : Tr} {d : Nat → Nat} (hw : WF T d) (hA : AttrsOk T) {i p a : Nat} {nd pd : Nd} (hi : T.nodes[i]? = some (some nd)) (hp : T.nodes[p]? = some (some pd)) (hpar : nd.parent = -1) (ht : pd.tag ≠ 0) (h0 : i ≠ 0) (ha : a ≤ pd.kids.length) (hin : T.within p i = false)
    (hdp : (d p : Int) + 1 + T.height i ≤ T.deep) :
    ∃ (T1 : Tr) (d1 : Nat → Nat), T.link p a i pd nd = T1 ∧ WF T1 d1 ∧ AttrsOk T1 ∧ T1.nodes[i]? = some (some { nd with parent := p }) ∧ T1.nodes[p]? = some (some { pd with kids := pd.kids.take a ++ [(i : Int)] ++ pd.kids.drop a }) ∧ T1.plain i = T.plain i ∧
      posOf (pd.kids.take a ++ [(i : Int)] ++ pd.kids.drop a) i = (a : Int) ∧
      T1.unlink p i { pd with kids := pd.kids.take a ++ [(i : Int)] ++ pd.kids.drop a } { nd with parent := p } = T := by
  have hpi : p ≠ i := fun e => by subst e; rw [hw.within_self hp] at hin; cases hin
  have hno : (i : Int) ∉ pd.kids := fun hm => by
    have := hw.kid_parent hp hm hi; omega
  have hw1 := hw.link (at' := a) hp hi ht h0 hpar hin hdp
  have hg := fun j => Tr.set2_get (pd' := { pd with kids := pd.kids.take a ++ [(i : Int)] ++ pd.kids.drop a }) (kd' := { nd with parent := p }) hp hi j
  refine ⟨T.link p a i pd nd, _, rfl, hw1, ?_, ?_, ?_, ?_, ?_, Tr.unlink_link hp hi hpi hpar hno⟩
  · rw [Tr.link_eq]; exact hA.set2 (show NdOk pd from hA _ _ hp) (show NdOk nd from hA _ _ hi)
  · rw [Tr.link_eq, hg, if_pos rfl]
  · rw [Tr.link_eq, hg, if_neg hpi, if_pos rfl]
  · rw [Tr.link_eq]; exact (hw.plain_set2 (q := (p : Int)) hp hi hin).1
  · refine posOf_at (k := a) ?_ ?_
    · rw [List.append_assoc, List.getElem?_append_right (by rw [List.length_take]; omega), List.length_take, show a - min a pd.kids.length = 0 by omega]; rfl
    · rw [List.append_assoc, List.take_append_of_le_length (by rw [List.length_take]; omega), List.take_take]
      exact fun h => hno (List.mem_of_mem_take h)
end Go.Proofs.Ythgnbbbdcebjhaa

namespace Go.Proofs.Ythgnbbbdcebjhaa
open Go Go.RowKit Go.BigFrame
set_option linter.unusedVariables false
set_option linter.unusedSimpArgs false

theorem plain_root {T T' : Tr} {d : Nat → Nat} (hw : WF T d) (h : ∀ (j : Nat) (jd : Nd), T.nodes[j]? = some (some jd) → T.within j 0 = true → T'.nodes[j]? = some (some jd)) : T'.plain ((0 : Nat) : Int) = T.plain ((0 : Nat) : Int) := by
  obtain ⟨rd, r0, _, _⟩ := hw.root
  exact (plain_same hw r0 fun j jd hj hin => ⟨jd, h j jd hj hin, rfl, rfl, rfl, rfl⟩).1
section
variable {w0 w : World} {tb : Nat} {T : Tr} {g : World} {m : PN} {i : Nat} {nd : Nd}
end
end Go.Proofs.Ythgnbbbdcebjhaa

namespace Go.Proofs.Ythgnbbbdcebjhaa
open Go Go.RowKit Go.BigFrame
set_option linter.unusedVariables false
set_option linter.unusedSimpArgs false

/-- so many nodes are within a node as its plain tree has -/
theorem WF.rid_count {T : Tr} {d : Nat → Nat} (hw : WF T d) : ∀ (f i : Nat) (nd : Nd), T.nodes[i]? = some (some nd) → 41 ≤ d i + f → ∀ q : Nat → Bool, (∀ (j : Nat) (jd : Nd), T.nodes[j]? = some (some jd) → T.within j i = true → q j = false) →
    (T.rid fun j => T.within j i || q j).count = (T.rid q).count - ((T.plain i).size : Int) := by
  intro f
  induction f with
  | zero =>
    intro i nd hi hd
    have h1 := hw.deep i nd hi
    have h2 := hw.small.deep1
    omega
  | succ f ih =>
    intro i nd hi hd q hq
    have hkids := hw.kids i nd hi
    have hdep : ∀ (m : Nat) (kd : Nd), T.nodes[m]? = some (some kd) → kd.parent = (i : Int) → d m = d i + 1 := fun m kd hm hp => by
      rcases hw.up m kd hm with ⟨h3, h4⟩ | ⟨p, pd, h3, h4, h5, h6⟩
      · omega
      · obtain rfl : p = i := by omega
        exact h5
    have key : ∀ ks : List Int, ks.Nodup → (∀ k ∈ ks, k ∈ nd.kids) → (T.rid fun j => T.inAny ks j || q j).count = (T.rid q).count - ((PN.sizes (ks.map T.plain) : Nat) : Int) := by
      intro ks
      induction ks with
      | nil => intro _ _; simp [Tr.inAny, PN.sizes]
      | cons k r ihr =>
        intro hn hin
        obtain ⟨hkr, hnr⟩ := List.nodup_cons.1 hn
        obtain ⟨m, kd, ek, hm, hmp⟩ := hkids.2 k (hin k (by simp))
        subst ek
        have hdm := hdep m kd hm hmp
        have hmk : (m : Int) ∈ nd.kids := hin _ (by simp)
        have h1 := ih m kd hm (by omega) (fun j => T.inAny r j || q j) fun j jd hj hjm => by
          have h3 : q j = false := hq j jd hj (hw.kid_within hi hmk j jd hj hjm)
          show (T.inAny r j || q j) = false
          rw [h3, Bool.or_false]
          cases hr : T.inAny r j with
          | false => rfl
          | true =>
            obtain ⟨x, hx, hxj⟩ := List.any_eq_true.1 hr
            have hxk := hin x (by simp [hx])
            obtain ⟨y, yd, ey, _, _⟩ := hkids.2 x hxk
            subst ey
            exact (hw.kids_apart hi hmk hxk (fun e => hkr (by rw [e]; exact hx)) j jd hj hjm hxj).elim
        have h2 := ihr hnr fun x hx => hin x (by simp [hx])
        have e : (T.rid fun j => T.inAny ((m : Int) :: r) j || q j) = T.rid fun j => T.within j m || (T.inAny r j || q j) := Tr.rid_congr fun j jd _ => by
          simp [Tr.inAny, Bool.or_assoc]
        rw [e, h1, h2, List.map_cons, PN.sizes]
        push_cast
        omega
    have hself : T.inAny nd.kids i = false := by
      cases hr : T.inAny nd.kids i with
      | false => rfl
      | true =>
        obtain ⟨x, hx, hxi⟩ := List.any_eq_true.1 hr
        obtain ⟨y, yd, ey, hy, hyp⟩ := hkids.2 x hx
        subst ey
        have h1 := hdep y yd hy hyp
        have h2 := (hw.within_depth i nd hi hxi).1
        omega
    have hqi : (T.inAny nd.kids i || q i) = false := by rw [hself, hq i nd hi (hw.within_self hi)]; rfl
    have e : (T.rid fun j => T.within j i || q j) = T.rid fun j => decide (j = i) || (T.inAny nd.kids j || q j) := Tr.rid_congr fun j jd hj => by
      rw [← hw.inAny_kids hi hj, Bool.or_assoc]
    have h1 := Tr.rid_set (T := T) (q := fun j => T.inAny nd.kids j || q j) hi hqi
    have h2 := congrArg Tr.count h1
    have h3 := key nd.kids hkids.1 fun x hx => hx
    rw [e, ← h2, hw.plain_eq hi, PN.size_eq]
    show (T.rid fun j => T.inAny nd.kids j || q j).count - 1 = _
    rw [h3]
    simp only [PN.kids]
    push_cast
    omega
theorem WF.rid_size {T : Tr} {d : Nat → Nat} (hw : WF T d) {i : Nat} {nd : Nd} (hi : T.nodes[i]? = some (some nd)) : (T.rid fun j => T.within j i).count = T.count - ((T.plain i).size : Int) := by
  have h := hw.rid_count 41 i nd hi (by omega) (fun _ => false) fun _ _ _ _ => rfl
  rw [Tr.rid_none hw.count] at h
  rw [← h]
  exact congrArg Tr.count (Tr.rid_congr fun j jd _ => by simp)
theorem PN.anew_size : ∀ n : PN, n.anew.size = n.size := by
  refine PN.induct _ fun n ih => ?_
  rw [PN.anew_eq, PN.size_eq, PN.size_eq]
  show PN.sizes (PN.anews n.kids) + 1 = _
  rw [PN.anews_eq]
  have : ∀ l : List PN, (∀ k ∈ l, k.anew.size = k.size) → PN.sizes (l.map PN.anew) = PN.sizes l := by
    intro l
    induction l with
    | nil => intro _; rfl
    | cons k r ihr => intro h; simp only [List.map_cons, PN.sizes]; rw [h k (by simp), ihr fun x hx => h x (by simp [hx])]
  rw [this _ ih]
/-- a graft, and what comes of it -/
structure GraftLaw (T : Tr) (p a : Nat) (n : PN) (T1 T2 T3 : Tr) (d1 d2 d3 : Nat → Nat) (i : Nat) (nd pd kd : Nd) : Prop where
  ne : i ≠ 0
  wf1 : WF T1 d1
  ok1 : AttrsOk T1
  node1 : T1.nodes[i]? = some (some nd)
  up : nd.parent = (p : Int)
  par1 : T1.nodes[p]? = some (some pd)
  pos : posOf pd.kids i = (a : Int)
  plain1 : T1.plain i = n.anew
  count1 : T1.count = T.count + n.size
  off : T1.unlink p i pd nd = T2
  wf2 : WF T2 d2
  ok2 : AttrsOk T2
  node2 : T2.nodes[i]? = some (some kd)
  root2 : kd.parent = -1
  plain2 : T2.plain i = n.anew
  rid : (T2.rid fun j => T2.within j i) = T3
  wf3 : WF T3 d3
  ok3 : AttrsOk T3
  none3 : T3.get? i = none
  count3 : T3.count = T.count
  plain3 : T3.plain ((0 : Nat) : Int) = T.plain ((0 : Nat) : Int)
theorem WF.graft {T : Tr} {d : Nat → Nat} (hw : WF T d) (hA : AttrsOk T) {p a : Nat} {pd : Nd} (hp : T.nodes[p]? = some (some pd)) (ht : pd.tag ≠ 0) (ha : a ≤ pd.kids.length) {n : PN} (hsh : n.short = true) (hok : n.ok = true) (hdp : (d p : Int) + 1 + n.high ≤ T.deep) (hf : (n.size : Int) ≤ T.cap - T.count) :
    ∃ (T1 T2 T3 : Tr) (d1 d2 d3 : Nat → Nat) (i : Nat) (nd pd1 kd : Nd), T.newId = (i : Int) ∧ T.grafted p a pd n = T1 ∧ GraftLaw T p a n T1 T2 T3 d1 d2 d3 i nd pd1 kd := by
  obtain ⟨d2, i, hi1, hi0, hi2, hP⟩ := into_ok n hok T d hw (by omega) (by omega)
  obtain ⟨kd, hk1, hk2⟩ := hP.node
  have hpi : p ≠ i := fun e => hi2 pd (e ▸ hp)
  obtain ⟨hap1, hap2⟩ := hP.apart hw hi2 p pd hp
  have hA2 := into_attrs n hok hsh T hA
  obtain ⟨T1, d1, hT1, hw1, hA1, h1, h2, h3, h4, h5⟩ := hP.wf.on hA2 hk1 (hP.old p pd hpi hp) hk2 ht hi0 ha hap1 (by rw [hap2, hP.deep, hP.high]; omega)
  have hgr : T.grafted p a pd n = T1 := by
    unfold Tr.grafted; rw [hi1, Int.toNat_natCast, look_of hk1]; exact hT1
  have hc1 : T1.count = (PN.into T n).count := by rw [← hT1, Tr.link_eq]; rfl
  refine ⟨T1, PN.into T n, (PN.into T n).rid fun j => (PN.into T n).within j i, d1, d2, d2, i, _, _, kd, hi1, hgr, ⟨hi0, hw1, hA1, h1, rfl, h2, h4, h3.trans hP.plain, hc1.trans hP.count, h5, hP.wf, hA2, hk1, hk2, hP.plain, rfl, hP.wf.rid hk1 hk2 hi0, hA2.rid _, ?_, ?_, ?_⟩⟩
  · rw [Tr.get_nat, Tr.rid_get, hk1]
    simp [hP.wf.within_self hk1]
  · rw [hP.wf.rid_size hk1, hP.plain, PN.anew_size, hP.count]; omega
  · refine plain_root hw fun j jd hj _ => ?_
    have hji : j ≠ i := fun e => hi2 jd (e ▸ hj)
    exact Tr.rid_some.2 ⟨(hP.apart hw hi2 j jd hj).1, hP.old j jd hji hj⟩
section
variable {w0 w : World} {tb : Nat} {T : Tr} {g : World}
end
end Go.Proofs.Ythgnbbbdcebjhaa

namespace Go.Proofs.Ythgnbbbdcebjhaa
open Go Go.RowKit Go.BigFrame
set_option linter.unusedVariables false
set_option linter.unusedSimpArgs false

/-- a tree lies here -/
structure TAt (w : World) (tb : Nat) (T : Tr) : Prop where
  out : ∃ own ptr, TreeAt w own ptr tb T ∧ Owned own w
theorem TAt.ext {w w' : World} {tb : Nat} {T : Tr} (h : TAt w tb T) (x : Ext w w') : TAt w' tb T := by
  obtain ⟨own, ptr, hT, hO⟩ := h.out
  exact ⟨own, ptr, hT.keep (x.keep hO), fun b hb => Nat.lt_of_lt_of_le (hO b hb) x.size⟩
theorem Sit.tat {w0 w : World} {tb : Nat} {T : Tr} {g : World} (h : Sit w0 w tb T g) : TAt w tb T := by
  obtain ⟨own, ptr, hT, hO, _⟩ := h.out
  exact ⟨own, ptr, hT, hO⟩
def Tr.up (T : Tr) (id : Int) : Int := match T.get? id with | none => -1 | some nd => nd.parent
def Tr.kidsOf (T : Tr) (id : Int) : List Int := match T.get? id with | none => [] | some nd => nd.kids
def Tr.idx (T : Tr) (id : Int) : Int := match T.get? id with | none => -1 | some nd => match T.get? nd.parent with | none => -1 | some pd => posOf pd.kids id
def Tr.tagOf (T : Tr) (id : Int) : Int := match T.get? id with | none => -1 | some nd => nd.tag
def Tr.txt (T : Tr) (id : Int) : ByteArray := match T.get? id with | none => ByteArray.empty | some nd => nd.text
/-- a row of kids is returned -/
def IntsIs (l : List Int) (w : World) (e : Ending) (w' : World) : Prop :=
  ∃ ao cap, e = .returned (.slice ao l.length cap) ∧ l.length ≤ cap ∧ (l ≠ [] → ∃ g, ao = some ⟨g, 0, none⟩ ∧ ∀ (j : Nat) x, l[j]? = some x → w'.cell? ⟨g, j, none⟩ = some (.int .i64 x)) ∧ Ext w w'
theorem IntsIs.of_row {l : List Int} {w w' : World} {e : Ending} (h : RRow 3 1 l.length (l.map (Value.int .i64)) w e w') : IntsIs l w e w' := by
  obtain ⟨v, rfl, hr, hx⟩ := h
  rcases hr.2 with ⟨h0, a, rfl⟩ | ⟨g, cap, cur, rfl, h2, h3, h4, h5, h6, h7⟩
  · exact ⟨a, 0, by rw [h0], by omega, fun hn => absurd (List.eq_nil_of_length_eq_zero h0) hn, hx⟩
  · refine ⟨_, cap, rfl, h4, fun _ => ⟨g, rfl, fun j x hj => cellOf h3 ?_⟩, hx⟩
    have hl := (List.getElem?_eq_some_iff.1 hj).1
    have e : (cur.toList.take (l.length * 1))[j]? = some (Value.int .i64 x) := by rw [h7, List.getElem?_map, hj]; rfl
    rw [List.getElem?_take_of_lt (by omega)] at e
    simpa using e
section
variable {w : World} {tb : Nat} {T : Tr}
theorem at_has (h : TAt w tb T) (id : Int) : Calls Try.prog 38 #[.pointer (some ⟨tb, 0, none⟩), .int .i64 id] w (RVal (.bool (T.get? id).isSome) w) := by
  obtain ⟨own, ptr, hT, hO⟩ := h.out
  cases hg : T.get? id with
  | none => exact RSame.val (Has_none hT hg)
  | some nd => exact RSame.val (Has_some hT hg)
theorem at_up (h : TAt w tb T) (id : Int) : Calls Try.prog 28 #[.pointer (some ⟨tb, 0, none⟩), .int .i64 id] w (RVal (.int .i64 (T.up id)) w) := by
  obtain ⟨own, ptr, hT, hO⟩ := h.out
  unfold Tr.up
  cases hg : T.get? id with
  | none => exact RSame.val (Parent_none hT hg)
  | some nd => exact RSame.val (Parent_some hT hg)
theorem at_tag (h : TAt w tb T) (id : Int) : Calls Try.prog 39 #[.pointer (some ⟨tb, 0, none⟩), .int .i64 id] w (RVal (.int .i64 (T.tagOf id)) w) := by
  obtain ⟨own, ptr, hT, hO⟩ := h.out
  unfold Tr.tagOf
  cases hg : T.get? id with
  | none => exact RSame.val (Tag_none hT hg)
  | some nd => exact RSame.val (Tag_some hT hg)
theorem at_told (h : TAt w tb T) (id : Int) : Calls Try.prog 41 #[.pointer (some ⟨tb, 0, none⟩), .int .i64 id] w (RVal (.string (T.txt id)) w) := by
  obtain ⟨own, ptr, hT, hO⟩ := h.out
  unfold Tr.txt
  cases hg : T.get? id with
  | none => exact RSame.val (Told_none hT hg)
  | some nd => exact RSame.val (Told_some hT hg)
theorem at_kids (h : TAt w tb T) {d : Nat → Nat} (hw : WF T d) (id : Int) : Calls Try.prog 63 #[.pointer (some ⟨tb, 0, none⟩), .int .i64 id] w (IntsIs (T.kidsOf id) w) := by
  obtain ⟨own, ptr, hT, hO⟩ := h.out
  unfold Tr.kidsOf
  cases hg : T.get? id with
  | none => exact (Kids_none hT hg).mono fun e w' hh => ⟨none, 0, hh.1, Nat.le_refl _, fun h => absurd rfl h, hh.2⟩
  | some nd => exact (Kids_some hT hg (by have := hw.kids_len (Tr.get_lt hg).2.2; omega)).mono fun e w' hh => IntsIs.of_row hh
end
/-- something reckoned on the way up -/
def Tr.goUpF {α : Type} (T : Tr) (F : Int → α → α) (stop : Int → α) : Nat → Int → α
  | 0, id => stop id
  | f + 1, id => if 0 ≤ T.up id then F id (T.goUpF F stop f (T.up id)) else stop id
def Tr.goUp {α : Type} (T : Tr) (F : Int → α → α) (stop : Int → α) (id : Int) : α := T.goUpF F stop 50 id
def Tr.rank (T : Tr) (d : Nat → Nat) (id : Int) : Nat := match T.get? id with | none => 0 | some _ => d id.toNat + 1
section
variable {T : Tr} {d : Nat → Nat}
theorem WF.up_pos (hw : WF T d) {id : Int} (h : 0 ≤ T.up id) : ∃ (i p : Nat) (nd pd : Nd), id = (i : Int) ∧ T.nodes[i]? = some (some nd) ∧ nd.parent = (p : Int) ∧ T.up id = (p : Int) ∧ T.nodes[p]? = some (some pd) ∧ d i = d p + 1 ∧ (i : Int) ∈ pd.kids := by
  unfold Tr.up at h ⊢
  cases hg : T.get? id with
  | none => rw [hg] at h; simp at h
  | some nd =>
    rw [hg] at h
    obtain ⟨i, rfl, hi⟩ := nat_of hg
    rcases hw.up i nd hi with ⟨h1, h2⟩ | ⟨p, pd, h1, h2, h3, h4⟩
    · have h' : 0 ≤ nd.parent := h; omega
    · exact ⟨i, p, nd, pd, rfl, hi, h1, h1, h2, h3, h4⟩
theorem WF.rank_up (hw : WF T d) {id : Int} (h : 0 ≤ T.up id) : T.rank d id = T.rank d (T.up id) + 1 := by
  obtain ⟨i, p, nd, pd, rfl, h1, h2, h3, h4, h5, h6⟩ := hw.up_pos h
  unfold Tr.rank
  rw [h3, Tr.get_of h1, Tr.get_of h4]
  simp [h5]
theorem WF.rank_le (hw : WF T d) (id : Int) : T.rank d id ≤ 41 := by
  unfold Tr.rank
  cases hg : T.get? id with
  | none => simp
  | some nd =>
    obtain ⟨i, rfl, hi⟩ := nat_of hg
    have h1 := hw.deep i nd hi
    have h2 := hw.small.deep1
    simp; omega
theorem WF.goUp_more (hw : WF T d) {α : Type} (F : Int → α → α) (stop : Int → α) : ∀ (f g : Nat) (id : Int), T.rank d id ≤ f → T.rank d id ≤ g → T.goUpF F stop f id = T.goUpF F stop g id := by
  intro f
  induction f with
  | zero =>
    intro g id h1 h2
    have hn : ¬ 0 ≤ T.up id := fun h => by have := hw.rank_up h; omega
    cases g with
    | zero => rfl
    | succ g => show stop id = if _ then _ else _; rw [if_neg hn]
  | succ f ih =>
    intro g id h1 h2
    by_cases h : 0 ≤ T.up id
    · have hr := hw.rank_up h
      cases g with
      | zero => omega
      | succ g =>
        show (if _ then _ else _) = if _ then _ else _
        rw [if_pos h, if_pos h, ih g (T.up id) (by omega) (by omega)]
    · cases g with
      | zero => show (if _ then _ else _) = stop id; rw [if_neg h]
      | succ g => show (if _ then _ else _) = if _ then _ else _; rw [if_neg h, if_neg h]
theorem WF.goUp_step (hw : WF T d) {α : Type} (F : Int → α → α) (stop : Int → α) (id : Int) : T.goUp F stop id = if 0 ≤ T.up id then F id (T.goUp F stop (T.up id)) else stop id := by
  show (if _ then _ else _) = _
  by_cases h : 0 ≤ T.up id
  · rw [if_pos h, if_pos h]
    have hr := hw.rank_up h
    have := hw.rank_le id
    exact congrArg (F id) (hw.goUp_more F stop 49 50 (T.up id) (by omega) (by omega))
  · rw [if_neg h, if_neg h]
end
end Go.Proofs.Ythgnbbbdcebjhaa

namespace Go.Proofs.Ythgnbbbdcebjhaa
open Go Go.RowKit Go.BigFrame
set_option linter.unusedVariables false
set_option linter.unusedSimpArgs false

section
variable {w : World} {tb : Nat} {T : Tr}
theorem at_has_no (h : TAt w tb T) {id : Int} (hg : T.get? id = none) : Calls Try.prog 38 #[.pointer (some ⟨tb, 0, none⟩), .int .i64 id] w (RVal (.bool false) w) := by
  have := at_has h id; rw [hg] at this; exact this
theorem at_has_yes (h : TAt w tb T) {id : Int} {nd : Nd} (hg : T.get? id = some nd) : Calls Try.prog 38 #[.pointer (some ⟨tb, 0, none⟩), .int .i64 id] w (RVal (.bool true) w) := by
  have := at_has h id; rw [hg] at this; exact this
theorem at_kids' (h : TAt w tb T) {d : Nat → Nat} (hw : WF T d) (id : Int) {l : List Int} (hl : T.kidsOf id = l) : Calls Try.prog 63 #[.pointer (some ⟨tb, 0, none⟩), .int .i64 id] w (IntsIs l w) := hl ▸ at_kids h hw id
theorem at_tag' (h : TAt w tb T) (id : Int) {z : Int} (hz : T.tagOf id = z) : Calls Try.prog 39 #[.pointer (some ⟨tb, 0, none⟩), .int .i64 id] w (RVal (.int .i64 z) w) := hz ▸ at_tag h id
end
section
variable {T : Tr} {d : Nat → Nat}
theorem Tr.up_none {T : Tr} {id : Int} (hg : T.get? id = none) : T.up id = -1 := by unfold Tr.up; rw [hg]
theorem Tr.get_neg (T : Tr) {id : Int} (h : id < 0) : T.get? id = none := by unfold Tr.get?; rw [if_pos h]
theorem WF.up_neg (hw : WF T d) {id : Int} (h : ¬ 0 ≤ T.up id) : T.up id = -1 := by
  unfold Tr.up at h ⊢
  cases hg : T.get? id with
  | none => rfl
  | some nd =>
    rw [hg] at h
    obtain ⟨i, rfl, hi⟩ := nat_of hg
    rcases hw.up i nd hi with ⟨h1, h2⟩ | ⟨p, pd, h1, h2, h3, h4⟩
    · exact h1
    · have h' : ¬ 0 ≤ nd.parent := h; omega
theorem WF.rank_step (hw : WF T d) {id : Int} {nd : Nd} (hg : T.get? id = some nd) : T.rank d (T.up id) < T.rank d id := by
  by_cases h : 0 ≤ T.up id
  · have := hw.rank_up h; omega
  · rw [hw.up_neg h]
    unfold Tr.rank
    rw [Tr.get_neg T (show (-1 : Int) < 0 by omega), hg]; simp
theorem WF.kidsOf_len (hw : WF T d) (id : Int) : (T.kidsOf id).length ≤ 2000 := by
  unfold Tr.kidsOf
  cases hg : T.get? id with
  | none => simp
  | some nd => exact hw.kids_len (Tr.get_lt hg).2.2
end
/-- is a node another one, or within it? -/
def Tr.win (T : Tr) (id outer : Int) : Bool := T.goUp (fun x r => decide (x = outer) || r) (fun x => (T.get? x).isSome && decide (x = outer)) id
theorem WF.win_none {T : Tr} {d : Nat → Nat} (hw : WF T d) {x outer : Int} (hg : T.get? x = none) : T.win x outer = false := by
  unfold Tr.win
  rw [hw.goUp_step, if_neg (by rw [Tr.up_none hg]; omega), hg]; rfl
theorem WF.win_step {T : Tr} {d : Nat → Nat} (hw : WF T d) {x outer : Int} {nd : Nd} (hg : T.get? x = some nd) : T.win x outer = (decide (x = outer) || T.win (T.up x) outer) := by
  have h := hw.goUp_step (fun x r => decide (x = outer) || r) (fun x => (T.get? x).isSome && decide (x = outer)) x
  by_cases hu : 0 ≤ T.up x
  · rw [if_pos hu] at h; exact h
  · rw [if_neg hu, hg] at h
    rw [hw.win_none (x := T.up x) (Tr.get_neg T (by omega)), Bool.or_false]
    exact h.trans (Bool.true_and _)
set_option maxHeartbeats 1000000 in
theorem Within_any {w : World} {tb : Nat} {T : Tr} (hT : TAt w tb T) {d : Nat → Nat} (hw : WF T d) (id outer : Int) : Calls Try.prog 33 #[.pointer (some ⟨tb, 0, none⟩), .int .i64 id, .int .i64 outer] w (RVal (.bool (T.win id outer)) w) := by
  go_enter Try.func33, Try.ntmps33
  go_wp2_with fail
  go_loopw [1] (fun s wr => ∃ x : Int, s = .int .i64 x ∧ Ext w wr ∧ Hid (T.win x outer = T.win id outer)) (fun s _ => T.rank d (intOf s))
  case atStart => exact ⟨id, rfl, Ext.refl _, Lib.hid rfl⟩
  case round =>
    obtain ⟨x, rfl, hx, hr⟩ := hrel
    cases hg : T.get? x with
    | none =>
      have HG := Lib.hid hg
      clear hg
      go_wp2_with fail
      refine (at_has_no (hT.ext hx) HG.out).mono ?_
      rintro e w1 ⟨rfl, hx1⟩
      go_wp2_with fail
      refine (at_has_no (hT.ext (hx.trans hx1)) HG.out).mono ?_
      rintro e w2 ⟨rfl, hx2⟩
      go_wp2_with fail
      go_ret
      exact ⟨by rw [← hr.out, hw.win_none HG.out]; rfl, (hx.trans hx1).trans hx2⟩
    | some nd =>
      have HG := Lib.hid hg
      have HS := Lib.hid (hw.win_step (outer := outer) hg)
      clear hg
      go_wp2_with fail
      refine (at_has_yes (hT.ext hx) HG.out).mono ?_
      rintro e w1 ⟨rfl, hx1⟩
      by_cases he : x = outer
      · subst he
        go_wp2_with fail
        refine (at_has_yes (hT.ext (hx.trans hx1)) HG.out).mono ?_
        rintro e w2 ⟨rfl, hx2⟩
        go_wp2_with fail
        go_ret
        exact ⟨by rw [← hr.out, HS.out]; simp, (hx.trans hx1).trans hx2⟩
      · go_wp2_with fail
        refine (at_up (hT.ext (hx.trans hx1)) x).mono ?_
        rintro e w2 ⟨rfl, hx2⟩
        go_wp2_with fail
        go_roundw
        case rel => exact ⟨T.up x, rfl, (hx.trans hx1).trans hx2, Lib.hid (by rw [← hr.out, HS.out]; simp [he])⟩
        case measure => have := hw.rank_step HG.out; simp [intOf]; omega
/-- the sibling behind -/
def Tr.sib (T : Tr) (x : Int) : Option Int := (T.kidsOf (T.up x))[(T.idx x).toNat + 1]?
def Tr.behind (T : Tr) (id : Int) : Int := T.goUp (fun x r => (T.sib x).getD r) (fun _ => -1) id
def Tr.next (T : Tr) (id : Int) : Int := match T.kidsOf id with | k :: _ => k | [] => T.behind id
end Go.Proofs.Ythgnbbbdcebjhaa

namespace Go.Proofs.Ythgnbbbdcebjhaa
open Go Go.RowKit Go.BigFrame
set_option linter.unusedVariables false
set_option linter.unusedSimpArgs false

section
variable {T : Tr} {d : Nat → Nat}
end
end Go.Proofs.Ythgnbbbdcebjhaa

namespace Go.Proofs.Ythgnbbbdcebjhaa
open Go Go.RowKit Go.BigFrame
set_option linter.unusedVariables false
set_option linter.unusedSimpArgs false

/-- how many characters -/
def runes (s : ByteArray) : Nat := (runeList s s.size 0).length
def Tr.lengthOf (T : Tr) (id : Int) : Int := if T.tagOf id = -1 then -1 else if T.tagOf id = 0 then (runes (T.txt id) : Int) else ((T.kidsOf id).length : Int)
theorem AttrsOk.txt {T : Tr} (hA : AttrsOk T) (id : Int) : (T.txt id).size ≤ 8192 := by
  unfold Tr.txt
  cases hg : T.get? id with
  | none => simp
  | some nd => exact (hA _ nd (Tr.get_lt hg).2.2).2
theorem decode_wide (s : ByteArray) (pos : Nat) (h : pos < s.size) : 1 ≤ (Utf8.decode s pos).2 := by
  by_cases ha : (s[pos]'h).toNat < 128
  · rw [decode_ascii s pos h ha]; exact Nat.le_refl _
  · exact (decode_high s pos h (by omega)).2
theorem runes_le (s : ByteArray) : runes s ≤ s.size := runeList_len s s.size 0
set_option maxHeartbeats 2000000 in
theorem Length_any {w : World} {tb : Nat} {T : Tr} (hT : TAt w tb T) {d : Nat → Nat} (hw : WF T d) (hA : AttrsOk T) (id : Int) : Calls Try.prog 40 #[.pointer (some ⟨tb, 0, none⟩), .int .i64 id] w (RVal (.int .i64 (T.lengthOf id)) w) := by
  obtain ⟨z, hz⟩ : ∃ z, T.tagOf id = z := ⟨_, rfl⟩
  have HL := Lib.hid (show T.lengthOf id = if z = -1 then -1 else if z = 0 then (runes (T.txt id) : Int) else ((T.kidsOf id).length : Int) by unfold Tr.lengthOf; rw [hz])
  have HZ := Lib.hid hz
  clear hz
  by_cases h1 : z = -1
  · subst h1
    go_enter Try.func40, Try.ntmps40
    go_wp2_with fail
    refine (at_tag' hT id HZ.out).mono ?_
    rintro e w1 ⟨rfl, hx1⟩
    go_wp2_with fail
    go_ret
    exact ⟨by rw [HL.out]; rfl, hx1⟩
  · by_cases h0 : z = 0
    · subst h0
      obtain ⟨s, hs⟩ : ∃ s, T.txt id = s := ⟨_, rfl⟩
      have hsz := hA.txt id
      rw [hs] at hsz
      have hrl := runes_le s
      have HTX := Lib.hid (show ∀ (u : World), TAt u tb T → Calls Try.prog 41 #[.pointer (some ⟨tb, 0, none⟩), .int .i64 id] u (RVal (.string s) u) from fun u h => hs ▸ at_told h id)
      have HS := Lib.hid hs
      clear hs
      go_enter Try.func40, Try.ntmps40
      go_wp2_with fail
      refine (at_tag' hT id HZ.out).mono ?_
      rintro e w1 ⟨rfl, hx1⟩
      go_wp2_with fail
      refine (HTX.out _ (hT.ext hx1)).mono ?_
      rintro e w2 ⟨rfl, hx2⟩
      replace hx2 := hx1.trans hx2
      go_wp2_with fail
      go_loopw [5] (fun n wr => ∃ (pos b k : Nat), wr = w2.iter s pos ∧ n = .int .i64 k ∧ k ≤ 8192 ∧ Hid (k + (runeList s b pos).length = runes s ∧ s.size ≤ pos + b)) (fun _ wr => s.size - wr.iterPos w2.heap.size)
      case atStart => exact ⟨0, s.size, 0, rfl, rfl, by omega, Lib.hid ⟨by unfold runes; omega, by omega⟩⟩
      case round =>
        obtain ⟨pos, b, k, rfl, rfl, hk, hb⟩ := hrel
        by_cases hp : pos < s.size
        · have hnx : ∀ ty, (Instr.next (.pointer (some ⟨w2.heap.size, 0, none⟩)) true ty).run Try.prog (w2.iter s pos) = _ := fun ty => run_next_any w2 s pos ty hp
          have hwd := decode_wide s pos hp
          have hk2 : k + 1 ≤ runes s ∧ ∃ c, b = c + 1 ∧ (k + 1) + (runeList s c (pos + (Utf8.decode s pos).2)).length = runes s := by
            obtain ⟨h1, h2⟩ := hb.out
            cases b with
            | zero => omega
            | succ c =>
              unfold runeList at h1
              rw [if_pos hp] at h1
              simp at h1
              exact ⟨by omega, c, rfl, by omega⟩
          have HK2 := Lib.hid hk2
          have HWD := Lib.hid hwd
          clear hk2 hwd
          go_wp2_with fail
          go_roundw
          case rel =>
            obtain ⟨h1, c, rfl, h2⟩ := HK2.out
            have h3 := hb.out.2
            have h4 := HWD.out
            exact ⟨pos + (Utf8.decode s pos).2, c, k + 1, rfl, by go_num, by omega, Lib.hid ⟨h2, by omega⟩⟩
          case measure => have := HWD.out; simp; omega
        · have hnx : ∀ ty, (Instr.next (.pointer (some ⟨w2.heap.size, 0, none⟩)) true ty).run Try.prog (w2.iter s pos) = _ := fun ty => run_next_end w2 s pos ty hp
          go_wp2_with fail
          go_ret
          refine ⟨?_, hx2.alloc _⟩
          have hk3 : k = runes s := by
            obtain ⟨h1, h2⟩ := hb.out
            cases b with
            | zero => simpa [runeList] using h1
            | succ c => unfold runeList at h1; rw [if_neg hp] at h1; simpa using h1
          rw [HL.out, HS.out, hk3]; rfl
    · obtain ⟨l, hl⟩ : ∃ l, T.kidsOf id = l := ⟨_, rfl⟩
      have hlen := hw.kidsOf_len id
      rw [hl] at hlen
      have HK := Lib.hid hl
      clear hl
      go_enter Try.func40, Try.ntmps40
      go_wp2_with fail
      refine (at_tag' hT id HZ.out).mono ?_
      rintro e w1 ⟨rfl, hx1⟩
      go_wp2_with fail
      refine (at_kids' (hT.ext hx1) hw id HK.out).mono ?_
      rintro e w2 ⟨ao, cap, rfl, hcap, hcell, hx2⟩
      clear hcell
      go_wp2_with fail
      go_ret
      exact ⟨by rw [HL.out, if_neg h1, if_neg h0, HK.out]; rfl, hx1.trans hx2⟩
def Tr.may (T : Tr) (id at' : Int) : Bool := decide (0 ≤ at') && decide (at' ≤ T.lengthOf id)
set_option maxHeartbeats 1000000 in
theorem May_any {w : World} {tb : Nat} {T : Tr} (hT : TAt w tb T) {d : Nat → Nat} (hw : WF T d) (hA : AttrsOk T) (id at' : Int) : Calls Try.prog 18 #[.pointer (some ⟨tb, 0, none⟩), .agg #[.int .i64 id, .int .i64 at']] w (RVal (.bool (T.may id at')) w) := by
  have hm : T.may id at' = (decide (0 ≤ at') && decide (at' ≤ T.lengthOf id)) := rfl
  have hx1 := (Ext.refl w).alloc (.cells #[.int .i64 id, .int .i64 at'] 32)
  have h2 := Two.new w (.int .i64 id) (.int .i64 at') 32
  have HM := Lib.hid hm
  clear hm
  go_enter Try.func18, Try.ntmps18
  go_upto_region 1 with fail
  obtain ⟨wb, hwb⟩ : ∃ wb : World, wb = w.alloc (.cells #[.int .i64 id, .int .i64 at'] 32) := ⟨_, rfl⟩
  rw [← hwb] at hx1 h2 ⊢
  clear hwb
  obtain ⟨c0, c1, _, _⟩ := h2
  have c0' := fun u : ExtOf wb => u.ext.cell c0
  have c1' := fun u : ExtOf wb => u.ext.cell c1
  by_cases h0 : 0 ≤ at'
  · obtain ⟨z, hz⟩ : ∃ z, T.lengthOf id = z := ⟨_, rfl⟩
    have HLN := Lib.hid (show ∀ (u : World), TAt u tb T → Calls Try.prog 40 #[.pointer (some ⟨tb, 0, none⟩), .int .i64 id] u (RVal (.int .i64 z) u) from fun u h => hz ▸ Length_any h hw hA id)
    have HZ := Lib.hid hz
    clear hz
    refine wp_region_ext (by kernel_rfl) (by kernel_rfl) ?_
    repeat (go_big_quiet_step ((go_at_call 40; exact inExt (HLN.out _ (hT.ext (hx1.trans (ExtOf.ext _)))))))
    refine wpQuiet_nil ?_
    rintro _ ⟨u, rfl⟩
    go_wp2_with fail
    go_ret
    exact ⟨by rw [HM.out, HZ.out]; simp [h0], hx1.trans u.ext⟩
  · refine wp_region_ext (by kernel_rfl) (by kernel_rfl) ?_
    repeat (go_big_quiet_step (fail))
    refine wpQuiet_nil ?_
    rintro _ ⟨u, rfl⟩
    go_wp2_with fail
    go_ret
    exact ⟨by rw [HM.out]; simp; omega, hx1.trans u.ext⟩
end Go.Proofs.Ythgnbbbdcebjhaa

namespace Go.Proofs.Ythgnbbbdcebjhaa
open Go Go.RowKit

/-- a place as a value -/
abbrev pl (n a : Int) : Value := .agg #[.int .i64 n, .int .i64 a]
/-- the numbers that are reckoned with -/
def okI (z : Int) : Prop := -1 ≤ z ∧ z ≤ 1073741824

set_option maxHeartbeats 400000 in
theorem above_any (n a p q : Int) (w : World) :
    Calls Try.prog 54 #[pl n a, .int .i64 p, .int .i64 q] w (RBool (decide (n = p) && decide (q < a)) w) := by
  by_cases h1 : n = p
  · subst h1
    by_cases h2 : q < a
    · go_enter Try.func54, Try.ntmps54
      go_wp2
      go_ret
      exact ⟨by simp [h2], (Ext.refl _).alloc _⟩
    · go_enter Try.func54, Try.ntmps54
      go_wp2
      go_ret
      exact ⟨by simp [h2], (Ext.refl _).alloc _⟩
  · go_enter Try.func54, Try.ntmps54
    go_wp2
    go_ret
    exact ⟨by simp [h1], (Ext.refl _).alloc _⟩
theorem above_yes {n a p q : Int} (w : World) (h1 : n = p) (h2 : q < a) :
    Calls Try.prog 54 #[pl n a, .int .i64 p, .int .i64 q] w (RBool true w) := by
  have h := above_any n a p q w
  rw [show (decide (n = p) && decide (q < a)) = true from by simp [h1, h2]] at h
  exact h
theorem above_no {n a p q : Int} (w : World) (h : ¬ (n = p ∧ q < a)) :
    Calls Try.prog 54 #[pl n a, .int .i64 p, .int .i64 q] w (RBool false w) := by
  have k := above_any n a p q w
  rw [show (decide (n = p) && decide (q < a)) = false from by simpa using h] at k
  exact k

def badB (n : Int) : Bool := decide (n < -1) || decide (n > 1073741824)
def BadIs (b : Bool) (w : World) (e : Ending) (w' : World) : Prop := e = .returned (.bool b) ∧ w = w'

set_option maxHeartbeats 400000 in
theorem bad_any (n : Int) (w : World) :
    Calls Try.prog 75 #[.int .i64 n] w (BadIs (badB n) w) := by
  by_cases h1 : n < -1
  · go_enter Try.func75, Try.ntmps75
    go_wp2
    go_ret
    exact ⟨by simp [badB, h1], rfl⟩
  · by_cases h2 : n > 1073741824
    · go_enter Try.func75, Try.ntmps75
      go_wp2
      go_ret
      exact ⟨by simp [badB, h2], rfl⟩
    · go_enter Try.func75, Try.ntmps75
      go_wp2
      go_ret
      exact ⟨by simp [badB]; omega, rfl⟩
theorem bad_yes (n : Int) (w : World) (h : badB n = true) : Calls Try.prog 75 #[.int .i64 n] w (BadIs true w) := by rw [← h]; exact bad_any n w
theorem bad_no (n : Int) (w : World) (h : badB n = false) : Calls Try.prog 75 #[.int .i64 n] w (BadIs false w) := by rw [← h]; exact bad_any n w

theorem any_take_yes {zs : List Int} {k : Nat} {z : Int} (hz : zs[k]? = some z) (hb : badB z = true) : zs.any badB = true := by
  rw [List.any_eq_true]; exact ⟨z, List.mem_of_getElem? hz, hb⟩
theorem any_take_no {zs : List Int} {k : Nat} {z : Int} (hz : zs[k]? = some z) (hb : badB z = false) (h : (zs.take k).any badB = false) : (zs.take (k + 1)).any badB = false := by
  obtain ⟨hlt, rfl⟩ := List.getElem?_eq_some_iff.1 hz
  rw [List.take_succ_eq_append_getElem hlt, List.any_append, h]; simp [hb]
def FirstBad (zs : List Int) (w : World) (e : Ending) (w' : World) : Prop := ∃ k : Int, -1 ≤ k ∧ k ≤ 100 ∧ e = .returned (.int .i64 k) ∧ Hid (0 ≤ k ↔ zs.any badB = true) ∧ w = w'

set_option maxHeartbeats 400000 in
theorem badIndex_any (b : Nat) (zs : List Int) (cap : Nat) (w : World) (hl : zs.length ≤ 100) (hc : ∀ (i : Nat) z, zs[i]? = some z → w.cell? ⟨b, i, none⟩ = some (.int .i64 z)) :
    Calls Try.prog 81 #[.slice (some ⟨b, 0, none⟩) zs.length cap, .func (.func 75) #[] #[]] w (FirstBad zs w) := by
  have HC := Lib.hid hc
  clear hc
  go_enter Try.func81, Try.ntmps81
  go_wp2
  go_loop [5, 8] (fun _ i => ∃ k : Nat, k ≤ zs.length ∧ i = .int .i64 k ∧ (zs.take k).any badB = false) (fun _ i => zs.length - (intOf i).toNat)
  case atStart => exact ⟨0, Nat.zero_le _, rfl, by simp⟩
  case round =>
    obtain ⟨k, hk, rfl, hno⟩ := hrel
    have Hno := Lib.hid hno
    clear hno
    by_cases hlt : k < zs.length
    · obtain ⟨z, hz⟩ : ∃ z, zs[k]? = some z := ⟨zs[k], by simp [hlt]⟩
      have hcell := HC.out k z hz
      have HZ := Lib.hid hz
      clear hz
      cases hb : badB z
      · have HB := Lib.hid hb
        clear hb
        go_wp2_with (go_at_call 75; refine (bad_no _ _ HB.out).mono ?_; rintro e w' ⟨rfl, rfl⟩)
        go_round
        case rel => exact ⟨k + 1, by omega, by go_num, any_take_no HZ.out HB.out Hno.out⟩
        case measure => simp [intOf]; omega
      · have HB := Lib.hid hb
        clear hb
        go_wp2_with (go_at_call 75; refine (bad_yes _ _ HB.out).mono ?_; rintro e w' ⟨rfl, rfl⟩)
        go_ret
        exact ⟨k, by omega, by omega, rfl, by simp [any_take_yes HZ.out HB.out, Hid], rfl⟩
    · go_wp2
      go_ret
      refine ⟨-1, by omega, by omega, rfl, ?_, rfl⟩
      have h := Hno.out
      rw [List.take_of_length_le (by omega)] at h
      rw [h]; simp [Hid]

set_option maxHeartbeats 400000 in
theorem contains_any (b : Nat) (zs : List Int) (len cap : Nat) (w : World) (hlen : len = zs.length) (hl : zs.length ≤ 100) (hc : ∀ (i : Nat) z, zs[i]? = some z → w.cell? ⟨b, i, none⟩ = some (.int .i64 z)) :
    Calls Try.prog 74 #[.slice (some ⟨b, 0, none⟩) len cap, .func (.func 75) #[] #[]] w (BadIs (zs.any badB) w) := by
  subst hlen
  have HC := Lib.hid hc
  clear hc
  go_enter Try.func74, Try.ntmps74
  go_wp2_with (go_at_call 81; refine (badIndex_any _ _ _ _ hl HC.out).mono ?_; rintro e w' ⟨k, h1, h2, rfl, hk, rfl⟩)
  go_ret
  exact ⟨by rw [show decide (0 ≤ k) = zs.any badB from by rw [Bool.eq_iff_iff, ← hk.out]; simp]; rfl, rfl⟩

theorem infoInt : (Try.prog.info? 3).map (fun i => (i.zero, i.size, i.bytes)) = some (some (.int .i64 0), 1, 8) := by kernel_rfl

set_option maxHeartbeats 400000 in
theorem fit_any (n a : Int) (b : Nat) (zs : List Int) (w : World) (hl : zs.length ≤ 50) (hpos : 0 < zs.length) (hc : ∀ (i : Nat) z, zs[i]? = some z → w.cell? ⟨b, i, none⟩ = some (.int .i64 z)) :
    Calls Try.prog 53 #[pl n a, .slice (some ⟨b, 0, none⟩) zs.length zs.length] w (RBool (!(zs ++ [n, a]).any badB) w) := by
  have HC := Lib.hid hc
  clear hc
  obtain ⟨i0, hi, hz0, hz1, hz2⟩ := info_parts infoInt
  have Hi := Lib.hid hi
  have Hz0 := Lib.hid hz0
  have Hz1 := Lib.hid hz1
  have Hz2 := Lib.hid hz2
  clear hi hz0 hz1 hz2
  go_enter Try.func53, Try.ntmps53
  go_wp2_with (at_builtin; refine wpList_append_grows _ rfl _ _ 42 rfl 3 i0 (.int .i64 0) 1 8 Try.underlying42 Hi.out Hz0.out Hz1.out Hz2.out rfl (by decide) (some ⟨b, 0, none⟩) zs.length zs.length (zs.map (Value.int .i64)) rfl (by simp) (by simp) ?c1 ⟨w.heap.size + 1, 0, none⟩ 2 2 [.int .i64 n, .int .i64 a] rfl rfl ?c2 ?c3 (by omega) (by unfold maxLen; omega) (by omega) ?_)
  case c1 =>
    intro c hc j u hj
    obtain rfl : (⟨b, 0, none⟩ : Addr) = c := by simpa using hc
    rw [List.getElem?_map] at hj
    obtain ⟨z, hz, rfl⟩ := Option.map_eq_some_iff.1 hj
    rw [Addr.add_lit]
    simp only [Nat.zero_add]
    exact (((Ext.refl _).alloc _).alloc _).cell (HC.out j z hz)
  case c2 => exact cells2 (by simp) (by simp)
  case c3 => simp [Value.oneCell']
  intro v' w1 hown hg
  have hb : Ext w w1 := (((Ext.refl _).alloc _).alloc _).grown hg (by simp)
  clear hg
  obtain ⟨g, cap, hv, hbg, hgs, hcs⟩ := owned_ints (zs := zs ++ [n, a]) (by rw [List.map_append]; exact hown) (by omega)
  rw [hv]
  have HCS := Lib.hid hcs
  clear hown hcs hv
  go_wp2_with (go_at_call 74; refine (contains_any _ _ _ _ _ (by simp) (by simp; omega) HCS.out).mono ?_; rintro e w' ⟨rfl, rfl⟩)
  go_ret
  exact ⟨by simp, hb⟩

theorem bad_of {z : Int} (h : okI z) : badB z = false := by have h1 := h.1; have h2 := h.2; simp [badB]; omega
theorem fit_yes (n a : Int) (b : Nat) (zs : List Int) (len cap : Nat) (w : World) (hlen : len = zs.length) (hcap : cap = zs.length) (hl : zs.length ≤ 50) (hpos : 0 < zs.length) (hn : okI n) (ha : okI a) (hz : ∀ z ∈ zs, okI z) (hc : ∀ (i : Nat) z, zs[i]? = some z → w.cell? ⟨b, i, none⟩ = some (.int .i64 z)) :
    Calls Try.prog 53 #[pl n a, .slice (some ⟨b, 0, none⟩) len cap] w (RBool true w) := by
  subst hlen hcap
  have h := fit_any n a b zs w hl hpos hc
  have e : (!(zs ++ [n, a]).any badB) = true := by
    have : zs.any badB = false := by
      rw [List.any_eq_false]; intro z h; simp [bad_of (hz z h)]
    simp [this, bad_of hn, bad_of ha]
  rw [e] at h
  exact h

/-- a place is returned; only new blocks -/
def RPlace (n a : Int) (w : World) (e : Ending) (w' : World) : Prop := e = .returned (pl n a) ∧ Ext w w'
set_option maxHeartbeats 400000 in
theorem to_any (n a : Int) (w : World) :
    Calls Try.prog 60 #[.int .i64 n, .int .i64 a] w (RPlace n a w) := by
  go_enter Try.func60, Try.ntmps60
  go_wp2
  refine bodyPost_ret (v := .agg #[.int .i64 n, .int .i64 a]) (by simp [results, Try.results60, go_sem]) rfl ⟨rfl, ?_⟩
  exact (Ext.refl _).alloc _
end Go.Proofs.Ythgnbbbdcebjhaa

namespace Go.Proofs.Ythgnbbbdcebjhaa
open Go Go.RowKit
set_option linter.unusedVariables false
set_option linter.unusedSimpArgs false

set_option maxHeartbeats 400000 in
theorem inserted_yes (n a p q m : Int) (w : World) (hn : okI n) (ha : okI a) (hp : okI p) (hq : okI q) (hm : okI m) (e0 : n = p) (e1 : q < a) :
    Calls Try.prog 25 #[pl n a, .int .i64 p, .int .i64 q, .int .i64 m] w (RPlace (n) (a + m) w) := by
  have kn := hn.1
  have mn := hn.2
  have ka := ha.1
  have ma := ha.2
  have kp := hp.1
  have mp := hp.2
  have kq := hq.1
  have mq := hq.2
  have km := hm.1
  have mm := hm.2
  have E0 := Lib.hid e0
  clear e0
  have E1 := Lib.hid e1
  clear e1
  go_enter Try.func25, Try.ntmps25
  go_wp2_with fail
  refine (fit_yes _ _ _ [p, q, m] _ _ _ rfl rfl (by simp) (by simp) hn ha ?_ (cells_3 ?_ ?_ ?_)).mono ?_
  rotate_right
  · rintro e w1 ⟨rfl, hx1⟩
    have c0 := hx1.cell (b := w.heap.size) (o := 0) (v := .int .i64 (n)) (by simp [go_sem])
    have f0 := hx1.free (b := w.heap.size) (o := 0) (by simp <;> omega) (by simp [go_sem])
    have c1 := hx1.cell (b := w.heap.size) (o := 1) (v := .int .i64 (a)) (by simp [go_sem])
    have f1 := hx1.free (b := w.heap.size) (o := 1) (by simp <;> omega) (by simp [go_sem])
    have c2 := hx1.cell (b := w.heap.size + 1) (o := 0) (v := .int .i64 (0)) (by simp [go_sem])
    have f2 := hx1.free (b := w.heap.size + 1) (o := 0) (by simp <;> omega) (by simp [go_sem])
    have c3 := hx1.cell (b := w.heap.size + 1) (o := 1) (v := .int .i64 (0)) (by simp [go_sem])
    have f3 := hx1.free (b := w.heap.size + 1) (o := 1) (by simp <;> omega) (by simp [go_sem])
    have l0 := cell_lt c0
    have l1 := cell_lt c2
    have x1 : Ext w w1 := Ext.trans (((Ext.refl w).alloc _).alloc _ |>.alloc _) hx1
    clear hx1
    go_wp2_with fail
    refine (above_yes _ E0.out E1.out).mono ?_
    rintro e w2 ⟨rfl, hx2⟩
    replace f0 := hx2.free (cell_lt c0) f0
    replace c0 := hx2.cell c0
    replace f1 := hx2.free (cell_lt c1) f1
    replace c1 := hx2.cell c1
    replace f2 := hx2.free (cell_lt c2) f2
    replace c2 := hx2.cell c2
    replace f3 := hx2.free (cell_lt c3) f3
    replace c3 := hx2.cell c3
    have l0 := cell_lt c0
    have l1 := cell_lt c2
    replace x1 := x1.trans hx2
    clear hx2
    go_wp2
    refine bodyPost_ret (v := pl (n) (a + m)) (by simp [results, Try.results25, go_sem, c0, c1, c2, c3]) rfl ⟨rfl, ?_⟩
    repeat (first | exact x1 | exact Ext.refl _ | refine Ext.setCell ?_ (by simp) _ | refine Ext.alloc ?_ _)
  all_goals simp [go_sem, hp, hq, hm]

set_option maxHeartbeats 400000 in
theorem inserted_no (n a p q m : Int) (w : World) (hn : okI n) (ha : okI a) (hp : okI p) (hq : okI q) (hm : okI m) (e0 : ¬ (n = p ∧ q < a)) :
    Calls Try.prog 25 #[pl n a, .int .i64 p, .int .i64 q, .int .i64 m] w (RPlace (n) (a) w) := by
  have kn := hn.1
  have mn := hn.2
  have ka := ha.1
  have ma := ha.2
  have kp := hp.1
  have mp := hp.2
  have kq := hq.1
  have mq := hq.2
  have km := hm.1
  have mm := hm.2
  have E0 := Lib.hid e0
  clear e0
  go_enter Try.func25, Try.ntmps25
  go_wp2_with fail
  refine (fit_yes _ _ _ [p, q, m] _ _ _ rfl rfl (by simp) (by simp) hn ha ?_ (cells_3 ?_ ?_ ?_)).mono ?_
  rotate_right
  · rintro e w1 ⟨rfl, hx1⟩
    have c0 := hx1.cell (b := w.heap.size) (o := 0) (v := .int .i64 (n)) (by simp [go_sem])
    have f0 := hx1.free (b := w.heap.size) (o := 0) (by simp <;> omega) (by simp [go_sem])
    have c1 := hx1.cell (b := w.heap.size) (o := 1) (v := .int .i64 (a)) (by simp [go_sem])
    have f1 := hx1.free (b := w.heap.size) (o := 1) (by simp <;> omega) (by simp [go_sem])
    have c2 := hx1.cell (b := w.heap.size + 1) (o := 0) (v := .int .i64 (0)) (by simp [go_sem])
    have f2 := hx1.free (b := w.heap.size + 1) (o := 0) (by simp <;> omega) (by simp [go_sem])
    have c3 := hx1.cell (b := w.heap.size + 1) (o := 1) (v := .int .i64 (0)) (by simp [go_sem])
    have f3 := hx1.free (b := w.heap.size + 1) (o := 1) (by simp <;> omega) (by simp [go_sem])
    have l0 := cell_lt c0
    have l1 := cell_lt c2
    have x1 : Ext w w1 := Ext.trans (((Ext.refl w).alloc _).alloc _ |>.alloc _) hx1
    clear hx1
    go_wp2_with fail
    refine (above_no _ E0.out).mono ?_
    rintro e w2 ⟨rfl, hx2⟩
    replace f0 := hx2.free (cell_lt c0) f0
    replace c0 := hx2.cell c0
    replace f1 := hx2.free (cell_lt c1) f1
    replace c1 := hx2.cell c1
    replace f2 := hx2.free (cell_lt c2) f2
    replace c2 := hx2.cell c2
    replace f3 := hx2.free (cell_lt c3) f3
    replace c3 := hx2.cell c3
    have l0 := cell_lt c0
    have l1 := cell_lt c2
    replace x1 := x1.trans hx2
    clear hx2
    go_wp2
    refine bodyPost_ret (v := pl (n) (a)) (by simp [results, Try.results25, go_sem, c0, c1, c2, c3]) rfl ⟨rfl, ?_⟩
    repeat (first | exact x1 | exact Ext.refl _ | refine Ext.setCell ?_ (by simp) _ | refine Ext.alloc ?_ _)
  all_goals simp [go_sem, hp, hq, hm]

set_option maxHeartbeats 400000 in
theorem removed_in (n a p q : Int) (w : World) (hn : okI n) (ha : okI a) (hp : okI p) (hq : okI q)  :
    Calls Try.prog 32 #[pl n a, .int .i64 p, .int .i64 q, .bool true] w (RPlace (p) (q) w) := by
  have kn := hn.1
  have mn := hn.2
  have ka := ha.1
  have ma := ha.2
  have kp := hp.1
  have mp := hp.2
  have kq := hq.1
  have mq := hq.2
  go_enter Try.func32, Try.ntmps32
  go_wp2_with fail
  refine (fit_yes _ _ _ [p, q] _ _ _ rfl rfl (by simp) (by simp) hn ha ?_ (cells_2 ?_ ?_)).mono ?_
  rotate_right
  · rintro e w1 ⟨rfl, hx1⟩
    have c0 := hx1.cell (b := w.heap.size) (o := 0) (v := .int .i64 (n)) (by simp [go_sem])
    have f0 := hx1.free (b := w.heap.size) (o := 0) (by simp <;> omega) (by simp [go_sem])
    have c1 := hx1.cell (b := w.heap.size) (o := 1) (v := .int .i64 (a)) (by simp [go_sem])
    have f1 := hx1.free (b := w.heap.size) (o := 1) (by simp <;> omega) (by simp [go_sem])
    have c2 := hx1.cell (b := w.heap.size + 1) (o := 0) (v := .int .i64 (0)) (by simp [go_sem])
    have f2 := hx1.free (b := w.heap.size + 1) (o := 0) (by simp <;> omega) (by simp [go_sem])
    have c3 := hx1.cell (b := w.heap.size + 1) (o := 1) (v := .int .i64 (0)) (by simp [go_sem])
    have f3 := hx1.free (b := w.heap.size + 1) (o := 1) (by simp <;> omega) (by simp [go_sem])
    have l0 := cell_lt c0
    have l1 := cell_lt c2
    have x1 : Ext w w1 := Ext.trans (((Ext.refl w).alloc _).alloc _ |>.alloc _) hx1
    clear hx1
    go_wp2_with fail
    refine (to_any _ _ _).mono ?_
    rintro e w2 ⟨rfl, hx2⟩
    replace f0 := hx2.free (cell_lt c0) f0
    replace c0 := hx2.cell c0
    replace f1 := hx2.free (cell_lt c1) f1
    replace c1 := hx2.cell c1
    replace f2 := hx2.free (cell_lt c2) f2
    replace c2 := hx2.cell c2
    replace f3 := hx2.free (cell_lt c3) f3
    replace c3 := hx2.cell c3
    have l0 := cell_lt c0
    have l1 := cell_lt c2
    replace x1 := x1.trans hx2
    clear hx2
    go_wp2
    refine bodyPost_ret (v := pl (p) (q)) (by simp [results, Try.results32, go_sem, c0, c1, c2, c3]) rfl ⟨rfl, ?_⟩
    repeat (first | exact x1 | exact Ext.refl _ | refine Ext.setCell ?_ (by simp) _ | refine Ext.alloc ?_ _)
  all_goals simp [go_sem, hp, hq]

set_option maxHeartbeats 400000 in
theorem removed_yes (n a p q : Int) (w : World) (hn : okI n) (ha : okI a) (hp : okI p) (hq : okI q) (e0 : n = p) (e1 : q < a) :
    Calls Try.prog 32 #[pl n a, .int .i64 p, .int .i64 q, .bool false] w (RPlace (n) (a - 1) w) := by
  have kn := hn.1
  have mn := hn.2
  have ka := ha.1
  have ma := ha.2
  have kp := hp.1
  have mp := hp.2
  have kq := hq.1
  have mq := hq.2
  have E0 := Lib.hid e0
  clear e0
  have E1 := Lib.hid e1
  clear e1
  go_enter Try.func32, Try.ntmps32
  go_wp2_with fail
  refine (fit_yes _ _ _ [p, q] _ _ _ rfl rfl (by simp) (by simp) hn ha ?_ (cells_2 ?_ ?_)).mono ?_
  rotate_right
  · rintro e w1 ⟨rfl, hx1⟩
    have c0 := hx1.cell (b := w.heap.size) (o := 0) (v := .int .i64 (n)) (by simp [go_sem])
    have f0 := hx1.free (b := w.heap.size) (o := 0) (by simp <;> omega) (by simp [go_sem])
    have c1 := hx1.cell (b := w.heap.size) (o := 1) (v := .int .i64 (a)) (by simp [go_sem])
    have f1 := hx1.free (b := w.heap.size) (o := 1) (by simp <;> omega) (by simp [go_sem])
    have c2 := hx1.cell (b := w.heap.size + 1) (o := 0) (v := .int .i64 (0)) (by simp [go_sem])
    have f2 := hx1.free (b := w.heap.size + 1) (o := 0) (by simp <;> omega) (by simp [go_sem])
    have c3 := hx1.cell (b := w.heap.size + 1) (o := 1) (v := .int .i64 (0)) (by simp [go_sem])
    have f3 := hx1.free (b := w.heap.size + 1) (o := 1) (by simp <;> omega) (by simp [go_sem])
    have l0 := cell_lt c0
    have l1 := cell_lt c2
    have x1 : Ext w w1 := Ext.trans (((Ext.refl w).alloc _).alloc _ |>.alloc _) hx1
    clear hx1
    go_wp2_with fail
    refine (above_yes _ E0.out E1.out).mono ?_
    rintro e w2 ⟨rfl, hx2⟩
    replace f0 := hx2.free (cell_lt c0) f0
    replace c0 := hx2.cell c0
    replace f1 := hx2.free (cell_lt c1) f1
    replace c1 := hx2.cell c1
    replace f2 := hx2.free (cell_lt c2) f2
    replace c2 := hx2.cell c2
    replace f3 := hx2.free (cell_lt c3) f3
    replace c3 := hx2.cell c3
    have l0 := cell_lt c0
    have l1 := cell_lt c2
    replace x1 := x1.trans hx2
    clear hx2
    go_wp2
    refine bodyPost_ret (v := pl (n) (a - 1)) (by simp [results, Try.results32, go_sem, c0, c1, c2, c3]) rfl ⟨rfl, ?_⟩
    repeat (first | exact x1 | exact Ext.refl _ | refine Ext.setCell ?_ (by simp) _ | refine Ext.alloc ?_ _)
  all_goals simp [go_sem, hp, hq]

set_option maxHeartbeats 400000 in
theorem removed_no (n a p q : Int) (w : World) (hn : okI n) (ha : okI a) (hp : okI p) (hq : okI q) (e0 : ¬ (n = p ∧ q < a)) :
    Calls Try.prog 32 #[pl n a, .int .i64 p, .int .i64 q, .bool false] w (RPlace (n) (a) w) := by
  have kn := hn.1
  have mn := hn.2
  have ka := ha.1
  have ma := ha.2
  have kp := hp.1
  have mp := hp.2
  have kq := hq.1
  have mq := hq.2
  have E0 := Lib.hid e0
  clear e0
  go_enter Try.func32, Try.ntmps32
  go_wp2_with fail
  refine (fit_yes _ _ _ [p, q] _ _ _ rfl rfl (by simp) (by simp) hn ha ?_ (cells_2 ?_ ?_)).mono ?_
  rotate_right
  · rintro e w1 ⟨rfl, hx1⟩
    have c0 := hx1.cell (b := w.heap.size) (o := 0) (v := .int .i64 (n)) (by simp [go_sem])
    have f0 := hx1.free (b := w.heap.size) (o := 0) (by simp <;> omega) (by simp [go_sem])
    have c1 := hx1.cell (b := w.heap.size) (o := 1) (v := .int .i64 (a)) (by simp [go_sem])
    have f1 := hx1.free (b := w.heap.size) (o := 1) (by simp <;> omega) (by simp [go_sem])
    have c2 := hx1.cell (b := w.heap.size + 1) (o := 0) (v := .int .i64 (0)) (by simp [go_sem])
    have f2 := hx1.free (b := w.heap.size + 1) (o := 0) (by simp <;> omega) (by simp [go_sem])
    have c3 := hx1.cell (b := w.heap.size + 1) (o := 1) (v := .int .i64 (0)) (by simp [go_sem])
    have f3 := hx1.free (b := w.heap.size + 1) (o := 1) (by simp <;> omega) (by simp [go_sem])
    have l0 := cell_lt c0
    have l1 := cell_lt c2
    have x1 : Ext w w1 := Ext.trans (((Ext.refl w).alloc _).alloc _ |>.alloc _) hx1
    clear hx1
    go_wp2_with fail
    refine (above_no _ E0.out).mono ?_
    rintro e w2 ⟨rfl, hx2⟩
    replace f0 := hx2.free (cell_lt c0) f0
    replace c0 := hx2.cell c0
    replace f1 := hx2.free (cell_lt c1) f1
    replace c1 := hx2.cell c1
    replace f2 := hx2.free (cell_lt c2) f2
    replace c2 := hx2.cell c2
    replace f3 := hx2.free (cell_lt c3) f3
    replace c3 := hx2.cell c3
    have l0 := cell_lt c0
    have l1 := cell_lt c2
    replace x1 := x1.trans hx2
    clear hx2
    go_wp2
    refine bodyPost_ret (v := pl (n) (a)) (by simp [results, Try.results32, go_sem, c0, c1, c2, c3]) rfl ⟨rfl, ?_⟩
    repeat (first | exact x1 | exact Ext.refl _ | refine Ext.setCell ?_ (by simp) _ | refine Ext.alloc ?_ _)
  all_goals simp [go_sem, hp, hq]

set_option maxHeartbeats 400000 in
theorem replaced_no (n a p q c m : Int) (w : World) (hn : okI n) (ha : okI a) (hp : okI p) (hq : okI q) (hc : okI c) (hm : okI m) (e0 : ¬ (n = p ∧ q < a)) :
    Calls Try.prog 66 #[pl n a, .int .i64 p, .int .i64 q, .int .i64 c, .int .i64 m] w (RPlace (n) (a) w) := by
  have kn := hn.1
  have mn := hn.2
  have ka := ha.1
  have ma := ha.2
  have kp := hp.1
  have mp := hp.2
  have kq := hq.1
  have mq := hq.2
  have kc := hc.1
  have mc := hc.2
  have km := hm.1
  have mm := hm.2
  have E0 := Lib.hid e0
  clear e0
  go_enter Try.func66, Try.ntmps66
  go_wp2_with fail
  refine (fit_yes _ _ _ [p, q, c, m] _ _ _ rfl rfl (by simp) (by simp) hn ha ?_ (cells_4 ?_ ?_ ?_ ?_)).mono ?_
  rotate_right
  · rintro e w1 ⟨rfl, hx1⟩
    have c0 := hx1.cell (b := w.heap.size) (o := 0) (v := .int .i64 (n)) (by simp [go_sem])
    have f0 := hx1.free (b := w.heap.size) (o := 0) (by simp <;> omega) (by simp [go_sem])
    have c1 := hx1.cell (b := w.heap.size) (o := 1) (v := .int .i64 (a)) (by simp [go_sem])
    have f1 := hx1.free (b := w.heap.size) (o := 1) (by simp <;> omega) (by simp [go_sem])
    have c2 := hx1.cell (b := w.heap.size + 1) (o := 0) (v := .int .i64 (0)) (by simp [go_sem])
    have f2 := hx1.free (b := w.heap.size + 1) (o := 0) (by simp <;> omega) (by simp [go_sem])
    have c3 := hx1.cell (b := w.heap.size + 1) (o := 1) (v := .int .i64 (0)) (by simp [go_sem])
    have f3 := hx1.free (b := w.heap.size + 1) (o := 1) (by simp <;> omega) (by simp [go_sem])
    have l0 := cell_lt c0
    have l1 := cell_lt c2
    have x1 : Ext w w1 := Ext.trans (((Ext.refl w).alloc _).alloc _ |>.alloc _) hx1
    clear hx1
    go_wp2_with fail
    refine (above_no _ E0.out).mono ?_
    rintro e w2 ⟨rfl, hx2⟩
    replace f0 := hx2.free (cell_lt c0) f0
    replace c0 := hx2.cell c0
    replace f1 := hx2.free (cell_lt c1) f1
    replace c1 := hx2.cell c1
    replace f2 := hx2.free (cell_lt c2) f2
    replace c2 := hx2.cell c2
    replace f3 := hx2.free (cell_lt c3) f3
    replace c3 := hx2.cell c3
    have l0 := cell_lt c0
    have l1 := cell_lt c2
    replace x1 := x1.trans hx2
    clear hx2
    go_wp2
    refine bodyPost_ret (v := pl (n) (a)) (by simp [results, Try.results66, go_sem, c0, c1, c2, c3]) rfl ⟨rfl, ?_⟩
    repeat (first | exact x1 | exact Ext.refl _ | refine Ext.setCell ?_ (by simp) _ | refine Ext.alloc ?_ _)
  all_goals simp [go_sem, hp, hq, hc, hm]

set_option maxHeartbeats 400000 in
theorem replaced_far (n a p q c m : Int) (w : World) (hn : okI n) (ha : okI a) (hp : okI p) (hq : okI q) (hc : okI c) (hm : okI m) (e0 : n = p) (e1 : q < a) (e2 : q + c < a) :
    Calls Try.prog 66 #[pl n a, .int .i64 p, .int .i64 q, .int .i64 c, .int .i64 m] w (RPlace (p) (a + m - c) w) := by
  have kn := hn.1
  have mn := hn.2
  have ka := ha.1
  have ma := ha.2
  have kp := hp.1
  have mp := hp.2
  have kq := hq.1
  have mq := hq.2
  have kc := hc.1
  have mc := hc.2
  have km := hm.1
  have mm := hm.2
  have E0 := Lib.hid e0
  clear e0
  have E1 := Lib.hid e1
  clear e1
  have E2 := Lib.hid e2
  go_enter Try.func66, Try.ntmps66
  go_wp2_with fail
  refine (fit_yes _ _ _ [p, q, c, m] _ _ _ rfl rfl (by simp) (by simp) hn ha ?_ (cells_4 ?_ ?_ ?_ ?_)).mono ?_
  rotate_right
  · rintro e w1 ⟨rfl, hx1⟩
    have c0 := hx1.cell (b := w.heap.size) (o := 0) (v := .int .i64 (n)) (by simp [go_sem])
    have f0 := hx1.free (b := w.heap.size) (o := 0) (by simp <;> omega) (by simp [go_sem])
    have c1 := hx1.cell (b := w.heap.size) (o := 1) (v := .int .i64 (a)) (by simp [go_sem])
    have f1 := hx1.free (b := w.heap.size) (o := 1) (by simp <;> omega) (by simp [go_sem])
    have c2 := hx1.cell (b := w.heap.size + 1) (o := 0) (v := .int .i64 (0)) (by simp [go_sem])
    have f2 := hx1.free (b := w.heap.size + 1) (o := 0) (by simp <;> omega) (by simp [go_sem])
    have c3 := hx1.cell (b := w.heap.size + 1) (o := 1) (v := .int .i64 (0)) (by simp [go_sem])
    have f3 := hx1.free (b := w.heap.size + 1) (o := 1) (by simp <;> omega) (by simp [go_sem])
    have l0 := cell_lt c0
    have l1 := cell_lt c2
    have x1 : Ext w w1 := Ext.trans (((Ext.refl w).alloc _).alloc _ |>.alloc _) hx1
    clear hx1
    go_wp2_with fail
    refine (above_yes _ E0.out E1.out).mono ?_
    rintro e w2 ⟨rfl, hx2⟩
    replace f0 := hx2.free (cell_lt c0) f0
    replace c0 := hx2.cell c0
    replace f1 := hx2.free (cell_lt c1) f1
    replace c1 := hx2.cell c1
    replace f2 := hx2.free (cell_lt c2) f2
    replace c2 := hx2.cell c2
    replace f3 := hx2.free (cell_lt c3) f3
    replace c3 := hx2.cell c3
    have l0 := cell_lt c0
    have l1 := cell_lt c2
    replace x1 := x1.trans hx2
    clear hx2
    go_wp2_with fail
    refine (to_any _ _ _).mono ?_
    rintro e w3 ⟨rfl, hx3⟩
    replace f0 := hx3.free (cell_lt c0) f0
    replace c0 := hx3.cell c0
    replace f1 := hx3.free (cell_lt c1) f1
    replace c1 := hx3.cell c1
    replace f2 := hx3.free (cell_lt c2) f2
    replace c2 := hx3.cell c2
    replace f3 := hx3.free (cell_lt c3) f3
    replace c3 := hx3.cell c3
    have l0 := cell_lt c0
    have l1 := cell_lt c2
    replace x1 := x1.trans hx3
    clear hx3
    go_wp2
    refine bodyPost_ret (v := pl (p) (a + m - c)) (by simp [results, Try.results66, go_sem, c0, c1, c2, c3]) rfl ⟨rfl, ?_⟩
    repeat (first | exact x1 | exact Ext.refl _ | refine Ext.setCell ?_ (by simp) _ | refine Ext.alloc ?_ _)
  all_goals simp [go_sem, hp, hq, hc, hm]

set_option maxHeartbeats 400000 in
theorem replaced_mid (n a p q c m : Int) (w : World) (hn : okI n) (ha : okI a) (hp : okI p) (hq : okI q) (hc : okI c) (hm : okI m) (e0 : n = p) (e1 : q < a) (e2 : ¬ q + c < a) :
    Calls Try.prog 66 #[pl n a, .int .i64 p, .int .i64 q, .int .i64 c, .int .i64 m] w (RPlace (p) (q) w) := by
  have kn := hn.1
  have mn := hn.2
  have ka := ha.1
  have ma := ha.2
  have kp := hp.1
  have mp := hp.2
  have kq := hq.1
  have mq := hq.2
  have kc := hc.1
  have mc := hc.2
  have km := hm.1
  have mm := hm.2
  have E0 := Lib.hid e0
  clear e0
  have E1 := Lib.hid e1
  clear e1
  have E2 := Lib.hid e2
  go_enter Try.func66, Try.ntmps66
  go_wp2_with fail
  refine (fit_yes _ _ _ [p, q, c, m] _ _ _ rfl rfl (by simp) (by simp) hn ha ?_ (cells_4 ?_ ?_ ?_ ?_)).mono ?_
  rotate_right
  · rintro e w1 ⟨rfl, hx1⟩
    have c0 := hx1.cell (b := w.heap.size) (o := 0) (v := .int .i64 (n)) (by simp [go_sem])
    have f0 := hx1.free (b := w.heap.size) (o := 0) (by simp <;> omega) (by simp [go_sem])
    have c1 := hx1.cell (b := w.heap.size) (o := 1) (v := .int .i64 (a)) (by simp [go_sem])
    have f1 := hx1.free (b := w.heap.size) (o := 1) (by simp <;> omega) (by simp [go_sem])
    have c2 := hx1.cell (b := w.heap.size + 1) (o := 0) (v := .int .i64 (0)) (by simp [go_sem])
    have f2 := hx1.free (b := w.heap.size + 1) (o := 0) (by simp <;> omega) (by simp [go_sem])
    have c3 := hx1.cell (b := w.heap.size + 1) (o := 1) (v := .int .i64 (0)) (by simp [go_sem])
    have f3 := hx1.free (b := w.heap.size + 1) (o := 1) (by simp <;> omega) (by simp [go_sem])
    have l0 := cell_lt c0
    have l1 := cell_lt c2
    have x1 : Ext w w1 := Ext.trans (((Ext.refl w).alloc _).alloc _ |>.alloc _) hx1
    clear hx1
    go_wp2_with fail
    refine (above_yes _ E0.out E1.out).mono ?_
    rintro e w2 ⟨rfl, hx2⟩
    replace f0 := hx2.free (cell_lt c0) f0
    replace c0 := hx2.cell c0
    replace f1 := hx2.free (cell_lt c1) f1
    replace c1 := hx2.cell c1
    replace f2 := hx2.free (cell_lt c2) f2
    replace c2 := hx2.cell c2
    replace f3 := hx2.free (cell_lt c3) f3
    replace c3 := hx2.cell c3
    have l0 := cell_lt c0
    have l1 := cell_lt c2
    replace x1 := x1.trans hx2
    clear hx2
    go_wp2_with fail
    refine (to_any _ _ _).mono ?_
    rintro e w3 ⟨rfl, hx3⟩
    replace f0 := hx3.free (cell_lt c0) f0
    replace c0 := hx3.cell c0
    replace f1 := hx3.free (cell_lt c1) f1
    replace c1 := hx3.cell c1
    replace f2 := hx3.free (cell_lt c2) f2
    replace c2 := hx3.cell c2
    replace f3 := hx3.free (cell_lt c3) f3
    replace c3 := hx3.cell c3
    have l0 := cell_lt c0
    have l1 := cell_lt c2
    replace x1 := x1.trans hx3
    clear hx3
    go_wp2
    refine bodyPost_ret (v := pl (p) (q)) (by simp [results, Try.results66, go_sem, c0, c1, c2, c3]) rfl ⟨rfl, ?_⟩
    repeat (first | exact x1 | exact Ext.refl _ | refine Ext.setCell ?_ (by simp) _ | refine Ext.alloc ?_ _)
  all_goals simp [go_sem, hp, hq, hc, hm]

end Go.Proofs.Ythgnbbbdcebjhaa

namespace Go.Proofs.Ythgnbbbdcebjhaa
open Go Go.RowKit
set_option linter.unusedVariables false

/-- where a place of this node is then -/
def insA (n a p q m : Int) : Int := if n = p ∧ q < a then a + m else a
def remA (n a p q : Int) : Int := if n = p ∧ q < a then a - 1 else a
def repA (n a p q c m : Int) : Int := if n = p ∧ q < a then (if q + c < a then a + m - c else q) else a

theorem inserted_any (n a p q m : Int) (w : World) (hn : okI n) (ha : okI a) (hp : okI p) (hq : okI q) (hm : okI m) :
    Calls Try.prog 25 #[pl n a, .int .i64 p, .int .i64 q, .int .i64 m] w (RPlace n (insA n a p q m) w) := by
  by_cases h : n = p ∧ q < a
  · have e : insA n a p q m = a + m := if_pos h
    rw [e]; exact inserted_yes n a p q m w hn ha hp hq hm h.1 h.2
  · have e : insA n a p q m = a := if_neg h
    rw [e]; exact inserted_no n a p q m w hn ha hp hq hm h
theorem removed_any (n a p q : Int) (w : World) (hn : okI n) (ha : okI a) (hp : okI p) (hq : okI q) :
    Calls Try.prog 32 #[pl n a, .int .i64 p, .int .i64 q, .bool false] w (RPlace n (remA n a p q) w) := by
  by_cases h : n = p ∧ q < a
  · have e : remA n a p q = a - 1 := if_pos h
    rw [e]; exact removed_yes n a p q w hn ha hp hq h.1 h.2
  · have e : remA n a p q = a := if_neg h
    rw [e]; exact removed_no n a p q w hn ha hp hq h
theorem replaced_any (n a p q c m : Int) (w : World) (hn : okI n) (ha : okI a) (hp : okI p) (hq : okI q) (hc : okI c) (hm : okI m) :
    Calls Try.prog 66 #[pl n a, .int .i64 p, .int .i64 q, .int .i64 c, .int .i64 m] w (RPlace n (repA n a p q c m) w) := by
  by_cases h : n = p ∧ q < a
  · by_cases h' : q + c < a
    · have e : repA n a p q c m = a + m - c := by unfold repA; rw [if_pos h, if_pos h']
      have k := replaced_far n a p q c m w hn ha hp hq hc hm h.1 h.2 h'
      rw [e]; rw [← h.1] at k ⊢; exact k
    · have e : repA n a p q c m = q := by unfold repA; rw [if_pos h, if_neg h']
      have k := replaced_mid n a p q c m w hn ha hp hq hc hm h.1 h.2 h'
      rw [e]; rw [← h.1] at k ⊢; exact k
  · have e : repA n a p q c m = a := if_neg h
    rw [e]; exact replaced_no n a p q c m w hn ha hp hq hc hm h
end Go.Proofs.Ythgnbbbdcebjhaa
