/- quillworkref08: put: a plain tree is put into the document's tree. Conditions: the plain tree may be, and there is room. Printed by wip/gen_refj.py. -/
import Derived.Test.YtiglflmjidikpaaRefI
namespace Go.Proofs.Ytiglflmjidikpaa
open Go Go.RowKit Go.BigFrame
set_option linter.unusedVariables false
set_option linter.unusedSimpArgs false

/-- what is read lies apart from the document's tree -/
def RApart (g : World) (F : Nat → Prop) (w : World) : Prop := ∀ p v, g.cell? p = some v → w.cell? p = some v ∧ ¬ F p.block
theorem RApart.ext {g w w' : World} {F : Nat → Prop} (h : RApart g F w) (x : Ext w w') : RApart g F w' := fun p v hp => ⟨x.cells _ _ (h p v hp).1, (h p v hp).2⟩
theorem RApart.narrow {g w : World} {F F' : Nat → Prop} (h : RApart g F w) (k : ∀ b, F' b → F b) : RApart g F' w := fun p v hp => ⟨(h p v hp).1, fun hf => (h p v hp).2 (k _ hf)⟩
theorem RApart.chg {g w w' : World} {F : Nat → Prop} (h : RApart g F w) (k : Chg F w w') : RApart g (fun b => F b ∨ w.heap.size ≤ b) w' := fun p v hp => by
  obtain ⟨h1, h2⟩ := h p v hp
  refine ⟨k.cell h1 h2, fun hf => ?_⟩
  rcases hf with hf | hf
  · exact h2 hf
  · have := World.block_lt_of_cell? _ _ h1; omega
theorem RApart.cells {g w : World} {F : Nat → Prop} (h : RApart g F w) : Cells g w := fun p v hp => (h p v hp).1
theorem RefOn.below {w : World} {F : Nat → Prop} {rb : Nat} {T : Tr} (h : RefOn w F rb T) : RefOn w (fun b => F b ∧ b < w.heap.size) rb T := by
  obtain ⟨ga, g, h, h1, h2, h3⟩ := h.out
  obtain ⟨cap, cur, b1, b2, b3, b4, b5, b6⟩ := h.row
  exact ⟨ga, g, h, ⟨h1, (Array.getElem?_eq_some_iff.1 b1).1⟩, ⟨h2, (Array.getElem?_eq_some_iff.1 b4).1⟩, fun q y hq => ⟨h3 q y hq, World.block_lt_of_cell? _ _ (h.told q y hq).1⟩⟩
theorem RAft.wide {F F' : Nat → Prop} {w w' : World} {rb : Nat} {T : Tr} (h : RAft F w rb T w') (k : ∀ b, F b → F' b) : RAft F' w rb T w' :=
  ⟨h.on.wide fun b hb => by rcases hb with hb | hb; exact .inl (k b hb); exact .inr hb, h.chg.wide k⟩
/-- a record, open -/
theorem RefOn.open1 {w : World} {F : Nat → Prop} {rb : Nat} {T : Tr} (h : RefOn w F rb T) {j : Nat} {nd : Nd} (hj : T.nodes[j]? = some (some nd)) : ∃ g cap aa ac ka kc, rb ≠ g ∧ F g ∧ F rb ∧ w.cell? ⟨rb, 2, none⟩ = some (.slice (some ⟨g, 0, none⟩) T.nodes.length cap) ∧
    w.cell? ⟨g, j * 6 + 2, none⟩ = some (.int .i64 nd.parent) ∧ w.cell? ⟨g, j * 6 + 5, none⟩ = some (.slice ka nd.kids.length kc) ∧ (∀ k, w.frozen? ⟨g, k, none⟩ = false) ∧ RowRd w 2 (.slice aa nd.attrs.length ac) nd.attrs.length (attrCells nd.attrs) ∧ RowRd w 1 (.slice ka nd.kids.length kc) nd.kids.length (nd.kids.map (Value.int .i64)) := by
  obtain ⟨ga, g, hat, f1, f2, f3⟩ := h.out
  obtain ⟨cap, cur, b1, b2, b3, b4, b5, b6⟩ := hat.row
  obtain ⟨av, kv, r0, r1, r2, r3, r4, r5, r6, r7⟩ := (b6 j _ hj).out
  obtain ⟨aa, ac, rfl, _⟩ := r6.len_of
  obtain ⟨ka, kc, rfl, _⟩ := r7.len_of
  have c : Cells ga w := fun q y hq => (hat.told q y hq).1
  exact ⟨g, cap, aa, ac, ka, kc, hat.ne, f2, f1, cellOf b1 rfl, cellOf b4 r2, cellOf b4 r5, fun k => freeOf b4 k, r6.cells c, r7.cells c⟩
/-- a new row of kids is written -/
theorem RAft.pokeRow {F : Nat → Prop} {a b c : World} {rb g n cap : Nat} {T1 T2 : Tr} (h : RAft F a rb T1 b) (x : Ext b c) (hc : b.cell? ⟨rb, 2, none⟩ = some (.slice (some ⟨g, 0, none⟩) n cap)) {j : Nat} {nd : Nd} {l : List Int} {v : Value}
    (t1 : T2.cap = T1.cap) (t2 : T2.deep = T1.deep) (t3 : T2.nodes = T1.nodes.set j (some { nd with kids := l })) (hj : T1.nodes[j]? = some (some nd)) (hrow : RowP c (fun z => b.heap.size ≤ z) 3 1 v l.length (l.map (Value.int .i64))) :
    RAft F a rb T2 (c.setCell ⟨g, j * 6 + 5, none⟩ v) := by
  obtain ⟨ga, g', hat, f1, f2, f3⟩ := h.on.out
  obtain ⟨cap', cur, b1, _⟩ := hat.row
  have e := cellOf b1 (i := 2) rfl
  rw [hc] at e
  have e2 : g = g' := by injection e with e; injection e with e _ _; injection e with e; injection e
  subst e2
  refine h.trans (RefAt.put1 hat f1 f2 f3 (T' := T2) (j := j) (m := 5) (o := some nd) (o' := some { nd with kids := l }) x t1 t2 t3 hj (by decide) fun G cur hG hb hl hr => recAt_set hr hG (by decide) hl (by simp) (by simp) (by simp) (by simp) ?_ (by decide))
  simp only [if_true]
  exact RowP.rd (RowP.move hrow (p' := fun _ => True) fun b hb' => ⟨hb b hb', trivial⟩)
theorem attach_two (T : Tr) {i m : Nat} (him : i ≠ m) (nd kd : Nd) : ((T.setAt m { kd with parent := (i : Int) }).setAt i { nd with kids := nd.kids ++ [(m : Int)] }) = T.attach i m nd kd := by
  unfold Tr.attach Tr.set2 Tr.setAt
  rw [List.set_comm _ _ (Ne.symm him)]
set_option maxRecDepth 100000 in
set_option maxHeartbeats 2000000 in
theorem rput {g0 : World} {rb : Nat} : ∀ n : PN, n.ok = true → n.short = true → ∀ (nv : Value) (T : Tr) (d : Nat → Nat) (F : Nat → Prop) (w : World), RdN g0 n nv → RApart g0 F w → RefOn w F rb T → WF T d → T.count + n.size ≤ T.cap → (n.high : Int) ≤ T.deep →
      Calls Try.prog 133 #[.pointer (some ⟨rb, 0, none⟩), nv] w (RInt F w rb T.newId (PN.into T n)) := by
  refine PN.induct _ fun n ih hok hsh nv T d F w hr hap hR hw hc hh => ?_
  obtain ⟨i, hi1, hi0, hi2, hround⟩ := put_round hok hw hc hh
  obtain ⟨av, kv, rfl, ha, hk⟩ := hr.open
  obtain ⟨aa, acap, rfl, hac⟩ := ha.len_of
  obtain ⟨ka, kcap, rfl, hkc, hkm, hkn, hkr⟩ := hk
  have x1 := (Ext.refl w).alloc (.cells #[.int .i64 n.tag, .slice aa n.attrs.length acap, .string n.text, .slice ka n.kids.length kcap] 30)
  have hbox := heap_alloc_new w (.cells #[.int .i64 n.tag, .slice aa n.attrs.length acap, .string n.text, .slice ka n.kids.length kcap] 30)
  have hts : n.text.size ≤ 100000 := by have := hsh; rw [PN.short_eq] at this; simp at this; exact this.1.1
  have has : n.attrs.length ≤ 60000 := by have := hsh; rw [PN.short_eq] at this; simp at this; exact this.1.2
  have hlen := hw.small.len
  have HX := Lib.hid x1
  have HA := Lib.hid ha
  have HKR := Lib.hid hkr
  have HKN := Lib.hid hkn
  have HAP := Lib.hid (hap.narrow (F' := fun b => F b ∧ b < w.heap.size) fun b hb => hb.1)
  have HR := Lib.hid hR.below
  have HW := Lib.hid hw
  have HC := Lib.hid hc
  have HSH := Lib.hid hsh
  have HOK := Lib.hid hok
  have IH := Lib.hid ih
  have HI1 := Lib.hid hi1
  have HI2 := Lib.hid hi2
  have HRD := Lib.hid hround
  have HTS := Lib.hid hts
  have HAS := Lib.hid has
  unfold maxLen at hkm
  clear x1 ha hkr hkn hap hR hw hc hh hsh hok ih hi1 hi2 hround hr hts has
  go_enter Try.func133, Try.ntmps133
  go_upto_region 1 with fail
  obtain ⟨w1, hw1⟩ : ∃ w1 : World, w1 = w.alloc (.cells #[.int .i64 n.tag, .slice aa n.attrs.length acap, .string n.text, .slice ka n.kids.length kcap] 30) := ⟨_, rfl⟩
  rw [← hw1] at hbox HX ⊢
  clear hw1
  have hlt1 := (Array.getElem?_eq_some_iff.1 hbox).1
  have k0 := cellOf hbox (i := 0) (v := .int .i64 n.tag) rfl
  have k1 := cellOf hbox (i := 1) (v := .slice aa n.attrs.length acap) rfl
  have k2 := cellOf hbox (i := 2) (v := .string n.text) rfl
  have k3 := cellOf hbox (i := 3) (v := .slice ka n.kids.length kcap) rfl
  have hnF : ¬ (F w.heap.size ∧ w.heap.size < w.heap.size) := fun h => absurd h.2 (Nat.lt_irrefl _)
  have K3 := Lib.hid (fun (wr : World) (x : Chg (fun b => F b ∧ b < w.heap.size) w1 wr) => x.cell k3 hnF)
  have NF := Lib.hid hnF
  have HLT1 := Lib.hid hlt1
  clear hbox k3 hnF hlt1
  go_region_held3 (fun w' => w'.cell? ⟨w.heap.size, 0, none⟩ = some (.int .i64 n.tag) ∧ w'.cell? ⟨w.heap.size, 1, none⟩ = some (.slice aa n.attrs.length acap) ∧ w'.cell? ⟨w.heap.size, 2, none⟩ = some (.string n.text))
    (first | exact ⟨k0, k1, k2⟩ | exact hkeep | go_keep)
    (first
    | (go_at_call 127; refine (Anew_any _ HTS.out _).mono ?_; rintro e w' ⟨rfl, hy⟩; replace hy := Ext.undrew hy; have hkeep := (show _ ∧ _ ∧ _ from ⟨hy.cell k0, hy.cell k1, hy.cell k2⟩))
    | (go_at_call 128; refine (radd (HR.out.ext (HX.out.trans hy)) hlen n.tag (anewB n.text) _ n.attrs (HA.out.cells (HAP.out.ext (HX.out.trans hy)).cells) HAS.out).mono ?_; rintro e w2 ⟨rfl, hS2⟩; have hkeep := (show _ ∧ _ ∧ _ from ⟨hS2.chg.cell (hy.cell k0) NF.out, hS2.chg.cell (hy.cell k1) NF.out, hS2.chg.cell (hy.cell k2) NF.out⟩)))
  replace hS2 := RAft.after hy hS2
  rw [HI1.out]
  have HS2 := Lib.hid hS2
  clear hkeep hS2 hy k0 k1 k2
  go_wp2_with fail
  go_loopw [6, 7, 8] (fun j _ _ wr => ∃ k : Nat, k ≤ n.kids.length ∧ j = .int .i64 k ∧ RAft (fun b => F b ∧ b < w.heap.size) w1 rb (PN.intos i (T.put ⟨n.tag, n.attrs, anewB n.text, [], -1⟩) (n.kids.take k)) wr) (fun j _ _ _ => n.kids.length - (intOf j).toNat)
  case atStart => exact ⟨0, Nat.zero_le _, rfl, by simpa [PN.intos] using HS2.out⟩
  case round =>
    obtain ⟨k, hk, rfl, hS3⟩ := hrel
    have HS3 := Lib.hid hS3
    have k3 := K3.out wr hS3.chg
    clear hS3
    by_cases hlt : k < n.kids.length
    · obtain ⟨x, hx⟩ : ∃ x, n.kids[k]? = some x := ⟨n.kids[k], by simp [hlt]⟩
      have hap3 : RApart g0 (fun b => (F b ∧ b < w.heap.size) ∨ w1.heap.size ≤ b) wr := (HAP.out.ext HX.out).chg HS3.out.chg
      cases ka with
      | none => exact absurd (HKN.out rfl).1 (by omega)
      | some a =>
        obtain ⟨b, off, sp⟩ := a
        obtain ⟨c0', c1', c2', c3', q0, q1, q2, q3, hrd⟩ := HKR.out _ rfl k x hx
        replace q0 := hap3.cells _ _ q0
        replace q1 := hap3.cells _ _ q1
        replace q2 := hap3.cells _ _ q2
        replace q3 := hap3.cells _ _ q3
        rw [add_later _ _ _ (by decide)] at q1 q2 q3
        obtain ⟨d3, nd3, hw3, hn3, hp3, hl3, hx3⟩ := HRD.out k
        obtain ⟨hc3, hh3⟩ := hx3 x hx
        have hmem : x ∈ n.kids := List.mem_of_getElem? hx
        have hshx : x.short = true := by
          have := HSH.out; rw [PN.short_eq] at this; simp at this
          exact PN.shorts_mem this.2 hmem
        have hokx : x.ok = true := PN.oks_mem (PN.ok_kids HOK.out) hmem
        have hrec := IH.out x hmem hokx hshx _ _ d3 _ wr hrd hap3 HS3.out.on hw3 hc3 hh3
        obtain ⟨dz, m, hm1, hm0, hm2, hP⟩ := into_ok x hokx _ d3 hw3 hc3 hh3
        have HREC := Lib.hid hrec
        have HXX := Lib.hid hx
        have HN3 := Lib.hid hn3
        have HM1 := Lib.hid hm1
        have HM2 := Lib.hid hm2
        have HP := Lib.hid hP
        have HL3 := Lib.hid hl3
        clear hx hrec hrd hmem hshx hokx hw3 hn3 hx3 hc3 hh3 hap3 hm1 hm2 hP hl3 hp3
        go_upto_region 6 with (go_at_call 133; refine HREC.out.mono ?_; rintro e w4 ⟨rfl, hS4⟩)
        rw [HM1.out]
        replace hS4 := HS3.out.trans hS4
        have him : i ≠ m := fun e => HM2.out nd3 (e ▸ HN3.out)
        have hi4 := HP.out.old i nd3 him HN3.out
        obtain ⟨kd, hk1, hk2⟩ := HP.out.node
        have hlen4 := HP.out.wf.small.len
        generalize hTG : PN.into (PN.intos i (T.put ⟨n.tag, n.attrs, anewB n.text, [], -1⟩) (n.kids.take k)) x = TG at *
        have HTG := Lib.hid hTG
        obtain ⟨g4, cap4, _, _, _, _, nrg, fg4, frb4, c4, p4, _, fr4, _, _⟩ := hS4.on.open1 hk1
        have frm := fr4 (m * 6 + 2)
        have hil := (List.getElem?_eq_some_iff.1 hi4).1
        have hml := (List.getElem?_eq_some_iff.1 hk1).1
        have hS5 : RAft (fun b => F b ∧ b < w.heap.size) w1 rb (TG.setAt m { kd with parent := (i : Int) }) (w4.setCell ⟨g4, m * 6 + 2, none⟩ (.int .i64 i)) :=
          RAft.poke hS4 c4 (o := some kd) (o' := some { kd with parent := (i : Int) }) rfl rfl rfl hk1 (by decide) (fun ga G cur hG hl hr => recAt_set hr hG (by decide) hl (by simp) (by simp) (by simp) (by simp) (by simp) (by decide))
        have HS5 := Lib.hid hS5
        have HI4 := Lib.hid hi4
        have HK1 := Lib.hid hk1
        have HIM := Lib.hid him
        have hnl : nd3.kids.length ≤ 2000 := by
          have h1 := HL3.out
          have h2 := HC.out
          have h3 := HW.out.small.cap1
          have h4 := HW.out.small.count0
          omega
        clear hS4 hS5 hTG hi4 hk1 hk2 fr4 fg4 frb4 him
        go_upto_region 7 with fail
        obtain ⟨w5, hw5⟩ : ∃ w5 : World, w5 = w4.setCell ⟨g4, m * 6 + 2, none⟩ (.int .i64 i) := ⟨_, rfl⟩
        rw [← hw5] at HS5 ⊢
        clear hw5 c4 p4 frm
        have hi5 : (TG.setAt m { kd with parent := (i : Int) }).nodes[i]? = some (some nd3) := by
          show (TG.nodes.set m _)[i]? = _
          rw [List.getElem?_set_ne (Ne.symm HIM.out)]; exact HI4.out
        have hlen5 : (TG.setAt m { kd with parent := (i : Int) }).nodes.length = TG.nodes.length := by show (TG.nodes.set m _).length = _; simp
        obtain ⟨g5, cap5, _, _, ak, ck, nrg5, fg5, frb5, c5, _, p5, fr5, _, hrow5⟩ := HS5.out.on.open1 hi5
        rw [hlen5] at c5
        have fri := fr5 (i * 6 + 5)
        have HI5 := Lib.hid hi5
        have xe := (Ext.refl w5).alloc (.cells #[] 3)
        obtain ⟨v1, wA, row, hrun, hra, hga, hrow⟩ := append_ints (w := w5.alloc (.cells #[] 3)) (B := w5.heap.size) (v := .slice (some ⟨w5.heap.size, 0, none⟩) 0 0) (n := 0) (xs := []) ⟨rfl, .inl ⟨rfl, _, rfl⟩⟩ (hrow5.ext xe) (by omega) (fun z hz => ints_one nd3.kids z hz)
        rw [Nat.zero_add, List.nil_append] at hra
        obtain ⟨a1, c1, rfl, _⟩ := hra.rd.len_of
        have xA : Ext w5 wA := xe.grown hga hrow
        have hra' := RowP.imp hra (q := fun b => w5.heap.size ≤ b) fun b _ hb => by rcases hb with h | h; exact h; exact Nat.le_trans (by simp) h
        have xd := xA.drew
        have xk := xd.alloc (.cells #[.int .i64 m] 3)
        obtain ⟨v2, wB, row2, hrun2, hrb, hgb, hrow2⟩ := append_ints (w := wA.drew.alloc (.cells #[.int .i64 m] 3)) (B := w5.heap.size) (v := .slice a1 nd3.kids.length c1) (n := nd3.kids.length) (RowP.ext hra' ((Ext.refl wA).drew.alloc _)) (u := .slice (some ⟨wA.drew.heap.size, 0, none⟩) 1 1) (m := 1) (ys := [.int .i64 m]) ⟨rfl, _, _, rfl, Nat.le_refl _, (fun h => by cases h), fun a ha => by cases ha; exact cell_one_new' (cellOf (heap_alloc_new wA.drew _) rfl)⟩ (by omega) (by simp [Value.oneCell'])
        obtain ⟨a2, c2, rfl, _⟩ := hrb.rd.len_of
        have xB : Ext w5 wB := xk.grown hgb hrow2
        have hrb' := RowP.imp hrb (q := fun b => w5.heap.size ≤ b) fun b _ hb => by rcases hb with h | h; exact h; exact Nat.le_trans xk.size h
        have hrb2 : RowP wB (fun b => w5.heap.size ≤ b) 3 1 (.slice a2 (nd3.kids.length + 1) c2) (nd3.kids ++ [(m : Int)]).length ((nd3.kids ++ [(m : Int)]).map (Value.int .i64)) := by simpa using hrb'
        have hfin := HS5.out.pokeRow (T2 := (TG.setAt m { kd with parent := (i : Int) }).setAt i { nd3 with kids := nd3.kids ++ [(m : Int)] }) xB c5 rfl rfl rfl hi5 hrb2
        rw [attach_two _ HIM.out] at hfin
        have FIN := Lib.hid hfin
        have cA := xA.cell c5
        have cD := xd.cell c5
        have cK := xk.cell c5
        have cB := xB.cell c5
        have ce := xe.cell c5
        have pe := xe.cell p5
        have pB := xB.cell p5
        have lg5 := cell_lt p5
        have fB := xB.free lg5 fri
        have HRUN := Lib.hid (AppI.mk hrun)
        have HRUN2 := Lib.hid hrun2
        clear hi5 hlen5 hrow5 hra hra' hrb hrb' hrb2 hrun hrun2 hga hgb hrow hrow2 hfin xe xA xd xk xB fg5 frb5 fr5 fri
        go_upto_region 8 with (at_builtin; refine wpList_app rfl _ _ rfl rfl _ _ rfl rfl _ _ HRUN.out ?_)
        refine wp_region_E (S := fun w' => w'.cell? ⟨rb, 2, none⟩ = some (.slice (some ⟨g5, 0, none⟩) TG.nodes.length cap5)) (n := 11) (by kernel_rfl) ?_
        have hS : wA.drew.cell? ⟨rb, 2, none⟩ = some (.slice (some ⟨g5, 0, none⟩) TG.nodes.length cap5) := cD
        show wpE _ _ _ _ _ 11 12 (Array.replicate 12 false) _ _
        refine wpE_take (i := 0) (v := .pointer (some ⟨rb, 0, none⟩)) (o := { dst := some 51, op := _, type := _, pos := _, after := _, guard := none }) rfl (by kernel_rfl) (by kernel_rfl) (by kernel_rfl) (by kernel_rfl) (fun _ _ _ h => h) (Or.inl ⟨by rfl, fun w' hSw => ?_⟩) hS ?_
        · (clear hS; go_simp)
        try simp only [Act.put, List.setIfInBounds_toArray, List.set_cons_zero, List.set_cons_succ]
        refine wpE_take (i := 1) (v := .pointer (some ⟨rb, 0, none⟩)) (o := { dst := some 52, op := _, type := _, pos := _, after := _, guard := none }) rfl (by kernel_rfl) (by kernel_rfl) (by kernel_rfl) (by kernel_rfl) (fun _ _ _ h => h) (Or.inl ⟨by rfl, fun w' hSw => ?_⟩) hS ?_
        · (clear hS; go_simp)
        try simp only [Act.put, List.setIfInBounds_toArray, List.set_cons_zero, List.set_cons_succ]
        refine wpE_take (i := 2) (v := .pointer (some ⟨rb, 2, none⟩)) (o := { dst := some 53, op := _, type := _, pos := _, after := _, guard := none }) rfl (by kernel_rfl) (by kernel_rfl) (by kernel_rfl) (by kernel_rfl) (fun _ _ _ h => h) (Or.inl ⟨by rfl, fun w' hSw => ?_⟩) hS ?_
        · (clear hS; go_simp)
        try simp only [Act.put, List.setIfInBounds_toArray, List.set_cons_zero, List.set_cons_succ]
        refine wpE_take (i := 3) (v := .slice (some ⟨g5, 0, none⟩) TG.nodes.length cap5) (o := { dst := some 54, op := _, type := _, pos := _, after := _, guard := none }) rfl (by kernel_rfl) (by kernel_rfl) (by kernel_rfl) (by kernel_rfl) (fun _ _ _ h => h) (Or.inl ⟨by rfl, fun w' hSw => ?_⟩) hS ?_
        · (clear hS; go_simp)
        try simp only [Act.put, List.setIfInBounds_toArray, List.set_cons_zero, List.set_cons_succ]
        refine wpE_take (i := 4) (v := .int .i64 i) (o := { dst := some 55, op := _, type := _, pos := _, after := _, guard := none }) rfl (by kernel_rfl) (by kernel_rfl) (by kernel_rfl) (by kernel_rfl) (fun _ _ _ h => h) (Or.inl ⟨by rfl, fun w' hSw => ?_⟩) hS ?_
        · (clear hS; go_simp)
        try simp only [Act.put, List.setIfInBounds_toArray, List.set_cons_zero, List.set_cons_succ]
        refine wpE_take (i := 5) (v := .slice a1 nd3.kids.length c1) (o := { dst := some 56, op := _, type := _, pos := _, after := _, guard := none }) rfl (by kernel_rfl) (by kernel_rfl) (by kernel_rfl) (by kernel_rfl) (fun _ _ _ h => h) (Or.inl ⟨by rfl, fun w' hSw => ?_⟩) hS ?_
        · (clear hS; go_simp)
        try simp only [Act.put, List.setIfInBounds_toArray, List.set_cons_zero, List.set_cons_succ]
        refine wpE_take (i := 6) (v := .int .i64 m) (o := { dst := some 57, op := _, type := _, pos := _, after := _, guard := none }) rfl (by kernel_rfl) (by kernel_rfl) (by kernel_rfl) (by kernel_rfl) (fun _ _ _ h => h) (Or.inl ⟨by rfl, fun w' hSw => ?_⟩) hS ?_
        · (clear hS; go_simp)
        try simp only [Act.put, List.setIfInBounds_toArray, List.set_cons_zero, List.set_cons_succ]
        refine wpE_one (i := 7) (o := { dst := some 58, op := _, type := _, pos := _, after := _, guard := none }) (by kernel_rfl) rfl (fun K hK => ?_)
        go_simp
        refine hK.out _ _ (.inr cK) ?_
        clear hK K
        try simp only [Act.put, List.setIfInBounds_toArray, List.set_cons_zero, List.set_cons_succ]
        refine wpE_one (i := 8) (o := { dst := some 59, op := _, type := _, pos := _, after := _, guard := none }) (by kernel_rfl) rfl (fun K hK => ?_)
        refine step_append_run (by rfl) _ _ 70 (by rfl) (.slice a1 nd3.kids.length c1) (.slice (some ⟨wA.drew.heap.size, 0, none⟩) 1 1) (by rfl) (by rfl) (.slice a2 (nd3.kids.length + 1) c2) wB HRUN2.out ?_
        refine hK.out _ _ (.inr cB) ?_
        clear hK K
        try simp only [Act.put, List.setIfInBounds_toArray, List.set_cons_zero, List.set_cons_succ]
        refine wpE_one (i := 9) (o := { dst := some 60, op := _, type := _, pos := _, after := _, guard := none }) (by kernel_rfl) rfl (fun K hK => ?_)
        go_simp
        refine hK.out _ _ (.inr cB) ?_
        clear hK K
        try simp only [Act.put, List.setIfInBounds_toArray, List.set_cons_zero, List.set_cons_succ]
        refine wpE_one (i := 10) (o := { dst := some 61, op := _, type := _, pos := _, after := _, guard := none }) (by kernel_rfl) rfl (fun K hK => ?_)
        go_simp
        refine hK.out _ _ (.inr cB) ?_
        clear hK K
        try simp only [Act.put, List.setIfInBounds_toArray, List.set_cons_zero, List.set_cons_succ]
        refine wpE_one (i := 11) (o := { dst := none, op := _, type := _, pos := _, after := _, guard := none }) (by kernel_rfl) rfl (fun K hK => ?_)
        go_simp
        refine hK.out _ _ (.inl rfl) ?_
        clear hK K
        refine wpE_done (by kernel_rfl) ?_
        obtain ⟨wz, hwz⟩ : ∃ wz : World, wz = wB.setCell ⟨g5, i * 6 + 5, none⟩ (.slice a2 (nd3.kids.length + 1) c2) := ⟨_, rfl⟩
        rw [← hwz] at FIN ⊢
        clear hwz cA cD cK cB ce pe pB fB c5 p5 HRUN HRUN2
        go_wp2_with fail
        go_roundw
        case rel =>
          refine ⟨k + 1, by omega, by go_num, ?_⟩
          rw [intos_take _ _ _ _ _ HXX.out, HTG.out, HM1.out]
          have e : TG.join i m = TG.attach i m nd3 kd := by
            unfold Tr.join
            rw [Int.toNat_natCast, Int.toNat_natCast, look_of HI4.out, look_of HK1.out]
          rw [e]; exact FIN.out
        case measure => simp [intOf]; omega
    · go_wp2_with fail
      go_ret
      refine ⟨by rw [HI1.out]; rfl, ?_⟩
      have h := HS3.out
      rw [List.take_of_length_le (by omega)] at h
      rw [PN.into_eq, HI1.out]
      exact (RAft.after HX.out h).wide fun b hb => hb.1
end Go.Proofs.Ytiglflmjidikpaa
