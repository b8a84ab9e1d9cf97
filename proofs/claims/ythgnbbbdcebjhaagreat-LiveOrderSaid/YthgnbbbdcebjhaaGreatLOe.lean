/- what of V1 V2 V2b V3 VQ VA VB VC VD VE VF VG VH VI VJ VK VL VR VS VU VV VT VW VX VY VAA VM VN VTB VTC VTD VTE W1 W2 W3 W4 D0 DB DA DC DD DE DF DG DH DI DJ DK DL DM DN DO DP EA EB EC ED EE EF EFa EFb EFc EFd EFe EG EH EJ EI EM EN EO EP EQ is leant on -/
import Derived.Test.YthgnbbbdcebjhaaGreatLOd
set_option linter.unusedVariables false
set_option linter.unusedSimpArgs false
set_option maxRecDepth 100000
set_option maxHeartbeats 4000000
namespace Go.Proofs.YthgnbbbdcebjhaaGreat
open Go Go.RowKit Go.BigFrame
def RApart (g : World) (F : Nat → Prop) (w : World) : Prop := ∀ p v, g.cell? p = some v → w.cell? p = some v ∧ ¬ F p.block
theorem RApart.ext {g w w' : World} {F : Nat → Prop} (h : RApart g F w) (x : Ext w w') : RApart g F w' := fun p v hp => ⟨x.cells _ _ (h p v hp).1, (h p v hp).2⟩
theorem RApart.narrow {g w : World} {F F' : Nat → Prop} (h : RApart g F w) (k : ∀ b, F' b → F b) : RApart g F' w := fun p v hp => ⟨(h p v hp).1, fun hf => (h p v hp).2 (k _ hf)⟩
theorem RApart.chg {g w w' : World} {F : Nat → Prop} (h : RApart g F w) (k : Chg F w w') : RApart g (fun b => F b ∨ w.heap.size ≤ b) w' := fun p v hp => by
  obtain ⟨h1, h2⟩ := h p v hp
  refine ⟨k.cell h1 h2, fun hf => ?_⟩
  rcases hf with hf | hf
  · exact h2 hf
  · have := World.block_lt_of_cell? _ _ h1; omega
theorem RApart.cells {g w : World} {F : Nat → Prop} (h : RApart g F w) : Cells g w := fun p v hp => (h p v hp).1
theorem RefOn.below {w : World} {F : Nat → Prop} {rb : Nat} {T : Tr} (h : RefOn w F rb T) : RefOn w (fun b => F b ∧ b < w.heap.size) rb T := by
  obtain ⟨ga, g, h, h1, h2, h3⟩ := h.out
  obtain ⟨cap, cur, b1, b2, b3, b4, b5, b6⟩ := h.row
  exact ⟨ga, g, h, ⟨h1, (Array.getElem?_eq_some_iff.1 b1).1⟩, ⟨h2, (Array.getElem?_eq_some_iff.1 b4).1⟩, fun q y hq => ⟨h3 q y hq, World.block_lt_of_cell? _ _ (h.told q y hq).1⟩⟩
theorem RAft.wide {F F' : Nat → Prop} {w w' : World} {rb : Nat} {T : Tr} (h : RAft F w rb T w') (k : ∀ b, F b → F' b) : RAft F' w rb T w' :=
  ⟨h.on.wide fun b hb => by rcases hb with hb | hb; exact .inl (k b hb); exact .inr hb, h.chg.wide k⟩
theorem RefOn.open1 {w : World} {F : Nat → Prop} {rb : Nat} {T : Tr} (h : RefOn w F rb T) {j : Nat} {nd : Nd} (hj : T.nodes[j]? = some (some nd)) : ∃ g cap aa ac ka kc, rb ≠ g ∧ F g ∧ F rb ∧ w.cell? ⟨rb, 2, none⟩ = some (.slice (some ⟨g, 0, none⟩) T.nodes.length cap) ∧
    w.cell? ⟨g, j * 6 + 2, none⟩ = some (.int .i64 nd.parent) ∧ w.cell? ⟨g, j * 6 + 5, none⟩ = some (.slice ka nd.kids.length kc) ∧ (∀ k, w.frozen? ⟨g, k, none⟩ = false) ∧ RowRd w 2 (.slice aa nd.attrs.length ac) nd.attrs.length (attrCells nd.attrs) ∧ RowRd w 1 (.slice ka nd.kids.length kc) nd.kids.length (nd.kids.map (Value.int .i64)) := by
  obtain ⟨ga, g, hat, f1, f2, f3⟩ := h.out
  obtain ⟨cap, cur, b1, b2, b3, b4, b5, b6⟩ := hat.row
  obtain ⟨av, kv, r0, r1, r2, r3, r4, r5, r6, r7⟩ := (b6 j _ hj).out
  obtain ⟨aa, ac, rfl, _⟩ := r6.len_of
  obtain ⟨ka, kc, rfl, _⟩ := r7.len_of
  have c : Cells ga w := fun q y hq => (hat.told q y hq).1
  exact ⟨g, cap, aa, ac, ka, kc, hat.ne, f2, f1, cellOf b1 rfl, cellOf b4 r2, cellOf b4 r5, fun k => freeOf b4 k, r6.cells c, r7.cells c⟩
theorem RAft.pokeRow {F : Nat → Prop} {a b c : World} {rb g n cap : Nat} {T1 T2 : Tr} (h : RAft F a rb T1 b) (x : Ext b c) (hc : b.cell? ⟨rb, 2, none⟩ = some (.slice (some ⟨g, 0, none⟩) n cap)) {j : Nat} {nd : Nd} {l : List Int} {v : Value}
    (t1 : T2.cap = T1.cap) (t2 : T2.deep = T1.deep) (t3 : T2.nodes = T1.nodes.set j (some { nd with kids := l })) (hj : T1.nodes[j]? = some (some nd)) (hrow : RowP c (fun z => b.heap.size ≤ z) 3 1 v l.length (l.map (Value.int .i64))) :
    RAft F a rb T2 (c.setCell ⟨g, j * 6 + 5, none⟩ v) := by
  obtain ⟨ga, g', hat, f1, f2, f3⟩ := h.on.out
  obtain ⟨cap', cur, b1, _⟩ := hat.row
  have e := cellOf b1 (i := 2) rfl
  rw [hc] at e
  have e2 : g = g' := by injection e with e; injection e with e _ _; injection e with e; injection e
  subst e2
  refine h.trans (RefAt.put1 hat f1 f2 f3 (T' := T2) (j := j) (m := 5) (o := some nd) (o' := some { nd with kids := l }) x t1 t2 t3 hj (by decide) fun G cur hG hb hl hr => recAt_set hr hG (by decide) hl (by simp) (by simp) (by simp) (by simp) ?_ (by decide))
  simp only [if_true]
  exact RowP.rd (RowP.move hrow (p' := fun _ => True) fun b hb' => ⟨hb b hb', trivial⟩)
theorem attach_two (T : Tr) {i m : Nat} (him : i ≠ m) (nd kd : Nd) : ((T.setAt m { kd with parent := (i : Int) }).setAt i { nd with kids := nd.kids ++ [(m : Int)] }) = T.attach i m nd kd := by
  unfold Tr.attach Tr.set2 Tr.setAt
  rw [List.set_comm _ _ (Ne.symm him)]
theorem rput {g0 : World} {rb : Nat} : ∀ n : PN, n.ok = true → n.short = true → ∀ (nv : Value) (T : Tr) (d : Nat → Nat) (F : Nat → Prop) (w : World), RdN g0 n nv → RApart g0 F w → RefOn w F rb T → WF T d → T.count + n.size ≤ T.cap → (n.high : Int) ≤ T.deep →
      Calls Tryz.prog 142 #[.pointer (some ⟨rb, 0, none⟩), nv] w (RInt F w rb T.newId (PN.into T n)) := by
  refine PN.induct _ fun n ih hok hsh nv T d F w hr hap hR hw hc hh => ?_
  obtain ⟨i, hi1, hi0, hi2, hround⟩ := put_round hok hw hc hh
  obtain ⟨av, kv, rfl, ha, hk⟩ := hr.open
  obtain ⟨aa, acap, rfl, hac⟩ := ha.len_of
  obtain ⟨ka, kcap, rfl, hkc, hkm, hkn, hkr⟩ := hk
  have x1 := (Ext.refl w).alloc (.cells #[.int .i64 n.tag, .slice aa n.attrs.length acap, .string n.text, .slice ka n.kids.length kcap] 35)
  have hbox := heap_alloc_new w (.cells #[.int .i64 n.tag, .slice aa n.attrs.length acap, .string n.text, .slice ka n.kids.length kcap] 35)
  have hts : n.text.size ≤ 100000 := by have := hsh; rw [PN.short_eq] at this; simp at this; exact this.1.1
  have has : n.attrs.length ≤ 60000 := by have := hsh; rw [PN.short_eq] at this; simp at this; exact this.1.2
  have hlen := hw.small.len
  have HX := qh x1
  have HA := qh ha
  have HKR := qh hkr
  have HKN := qh hkn
  have HAP := qh (hap.narrow (F' := fun b => F b ∧ b < w.heap.size) fun b hb => hb.1)
  have HR := qh hR.below
  have HW := qh hw
  have HC := qh hc
  have HSH := qh hsh
  have HOK := qh hok
  have IH := qh ih
  have HI1 := qh hi1
  have HI2 := qh hi2
  have HRD := qh hround
  have HTS := qh hts
  have HAS := qh has
  unfold maxLen at hkm
  clear x1 ha hkr hkn hap hR hw hc hh hsh hok ih hi1 hi2 hround hr hts has
  go_enter Tryz.func142, Tryz.ntmps142
  go_upto_region 1 with fail
  obtain ⟨w1, hw1⟩ : ∃ w1 : World, w1 = w.alloc (.cells #[.int .i64 n.tag, .slice aa n.attrs.length acap, .string n.text, .slice ka n.kids.length kcap] 35) := ⟨_, rfl⟩
  rw [← hw1] at hbox HX ⊢
  clear hw1
  have hlt1 := (Array.getElem?_eq_some_iff.1 hbox).1
  have k0 := cellOf hbox (i := 0) (v := .int .i64 n.tag) rfl
  have k1 := cellOf hbox (i := 1) (v := .slice aa n.attrs.length acap) rfl
  have k2 := cellOf hbox (i := 2) (v := .string n.text) rfl
  have k3 := cellOf hbox (i := 3) (v := .slice ka n.kids.length kcap) rfl
  have hnF : ¬ (F w.heap.size ∧ w.heap.size < w.heap.size) := fun h => absurd h.2 (Nat.lt_irrefl _)
  have K3 := qh (fun (wr : World) (x : Chg (fun b => F b ∧ b < w.heap.size) w1 wr) => x.cell k3 hnF)
  have NF := qh hnF
  have HLT1 := qh hlt1
  clear hbox k3 hnF hlt1
  go_region_held3 (fun w' => w'.cell? ⟨w.heap.size, 0, none⟩ = some (.int .i64 n.tag) ∧ w'.cell? ⟨w.heap.size, 1, none⟩ = some (.slice aa n.attrs.length acap) ∧ w'.cell? ⟨w.heap.size, 2, none⟩ = some (.string n.text))
    (first | exact ⟨k0, k1, k2⟩ | exact hkeep | go_keep)
    (first
    | (go_at_call 85; refine (Anew_any _ HTS.out _).mono ?_; rintro e w' ⟨rfl, hy⟩; replace hy := Ext.undrew hy; have hkeep := (show _ ∧ _ ∧ _ from ⟨hy.cell k0, hy.cell k1, hy.cell k2⟩))
    | (go_at_call 87; refine (radd (HR.out.ext (HX.out.trans hy)) hlen n.tag (anewB n.text) _ n.attrs (HA.out.cells (HAP.out.ext (HX.out.trans hy)).cells) HAS.out).mono ?_; rintro e w2 ⟨rfl, hS2⟩; have hkeep := (show _ ∧ _ ∧ _ from ⟨hS2.chg.cell (hy.cell k0) NF.out, hS2.chg.cell (hy.cell k1) NF.out, hS2.chg.cell (hy.cell k2) NF.out⟩)))
  replace hS2 := RAft.after hy hS2
  rw [HI1.out]
  have HS2 := qh hS2
  clear hkeep hS2 hy k0 k1 k2
  go_wp2_with fail
  go_loopw [6, 7, 8] (fun j _ _ wr => ∃ k : Nat, k ≤ n.kids.length ∧ j = .int .i64 k ∧ RAft (fun b => F b ∧ b < w.heap.size) w1 rb (PN.intos i (T.put ⟨n.tag, n.attrs, anewB n.text, [], -1⟩) (n.kids.take k)) wr) (fun j _ _ _ => n.kids.length - (intOf j).toNat)
  case atStart => exact ⟨0, Nat.zero_le _, rfl, by simpa [PN.intos] using HS2.out⟩
  case round =>
    obtain ⟨k, hk, rfl, hS3⟩ := hrel
    have HS3 := qh hS3
    have k3 := K3.out wr hS3.chg
    clear hS3
    by_cases hlt : k < n.kids.length
    · obtain ⟨x, hx⟩ : ∃ x, n.kids[k]? = some x := ⟨n.kids[k], by simp [hlt]⟩
      have hap3 : RApart g0 (fun b => (F b ∧ b < w.heap.size) ∨ w1.heap.size ≤ b) wr := (HAP.out.ext HX.out).chg HS3.out.chg
      cases ka with
      | none => exact absurd (HKN.out rfl).1 (by omega)
      | some a =>
        obtain ⟨b, off, sp⟩ := a
        obtain ⟨c0', c1', c2', c3', q0, q1, q2, q3, hrd⟩ := HKR.out _ rfl k x hx
        replace q0 := hap3.cells _ _ q0
        replace q1 := hap3.cells _ _ q1
        replace q2 := hap3.cells _ _ q2
        replace q3 := hap3.cells _ _ q3
        rw [add_later _ _ _ (by decide)] at q1 q2 q3
        obtain ⟨d3, nd3, hw3, hn3, hp3, hl3, hx3⟩ := HRD.out k
        obtain ⟨hc3, hh3⟩ := hx3 x hx
        have hmem : x ∈ n.kids := List.mem_of_getElem? hx
        have hshx : x.short = true := by
          have := HSH.out; rw [PN.short_eq] at this; simp at this
          exact PN.shorts_mem this.2 hmem
        have hokx : x.ok = true := PN.oks_mem (PN.ok_kids HOK.out) hmem
        have hrec := IH.out x hmem hokx hshx _ _ d3 _ wr hrd hap3 HS3.out.on hw3 hc3 hh3
        obtain ⟨dz, m, hm1, hm0, hm2, hP⟩ := into_ok x hokx _ d3 hw3 hc3 hh3
        have HREC := qh hrec
        have HXX := qh hx
        have HN3 := qh hn3
        have HM1 := qh hm1
        have HM2 := qh hm2
        have HP := qh hP
        have HL3 := qh hl3
        clear hx hrec hrd hmem hshx hokx hw3 hn3 hx3 hc3 hh3 hap3 hm1 hm2 hP hl3 hp3
        go_upto_region 6 with (go_at_call 142; refine HREC.out.mono ?_; rintro e w4 ⟨rfl, hS4⟩)
        rw [HM1.out]
        replace hS4 := HS3.out.trans hS4
        have him : i ≠ m := fun e => HM2.out nd3 (e ▸ HN3.out)
        have hi4 := HP.out.old i nd3 him HN3.out
        obtain ⟨kd, hk1, hk2⟩ := HP.out.node
        have hlen4 := HP.out.wf.small.len
        generalize hTG : PN.into (PN.intos i (T.put ⟨n.tag, n.attrs, anewB n.text, [], -1⟩) (n.kids.take k)) x = TG at *
        have HTG := qh hTG
        obtain ⟨g4, cap4, _, _, _, _, nrg, fg4, frb4, c4, p4, _, fr4, _, _⟩ := hS4.on.open1 hk1
        have frm := fr4 (m * 6 + 2)
        have hil := (List.getElem?_eq_some_iff.1 hi4).1
        have hml := (List.getElem?_eq_some_iff.1 hk1).1
        have hS5 : RAft (fun b => F b ∧ b < w.heap.size) w1 rb (TG.setAt m { kd with parent := (i : Int) }) (w4.setCell ⟨g4, m * 6 + 2, none⟩ (.int .i64 i)) :=
          RAft.poke hS4 c4 (o := some kd) (o' := some { kd with parent := (i : Int) }) rfl rfl rfl hk1 (by decide) (fun ga G cur hG hl hr => recAt_set hr hG (by decide) hl (by simp) (by simp) (by simp) (by simp) (by simp) (by decide))
        have HS5 := qh hS5
        have HI4 := qh hi4
        have HK1 := qh hk1
        have HIM := qh him
        have hnl : nd3.kids.length ≤ 2000 := by
          have h1 := HL3.out
          have h2 := HC.out
          have h3 := HW.out.small.cap1
          have h4 := HW.out.small.count0
          omega
        clear hS4 hS5 hTG hi4 hk1 hk2 fr4 fg4 frb4 him
        go_upto_region 7 with fail
        obtain ⟨w5, hw5⟩ : ∃ w5 : World, w5 = w4.setCell ⟨g4, m * 6 + 2, none⟩ (.int .i64 i) := ⟨_, rfl⟩
        rw [← hw5] at HS5 ⊢
        clear hw5 c4 p4 frm
        have hi5 : (TG.setAt m { kd with parent := (i : Int) }).nodes[i]? = some (some nd3) := by
          show (TG.nodes.set m _)[i]? = _
          rw [List.getElem?_set_ne (Ne.symm HIM.out)]; exact HI4.out
        have hlen5 : (TG.setAt m { kd with parent := (i : Int) }).nodes.length = TG.nodes.length := by show (TG.nodes.set m _).length = _; simp
        obtain ⟨g5, cap5, _, _, ak, ck, nrg5, fg5, frb5, c5, _, p5, fr5, _, hrow5⟩ := HS5.out.on.open1 hi5
        rw [hlen5] at c5
        have fri := fr5 (i * 6 + 5)
        have HI5 := qh hi5
        have xe := (Ext.refl w5).alloc (.cells #[] 3)
        obtain ⟨v1, wA, row, hrun, hra, hga, hrow⟩ := append_ints (w := w5.alloc (.cells #[] 3)) (B := w5.heap.size) (v := .slice (some ⟨w5.heap.size, 0, none⟩) 0 0) (n := 0) (xs := []) ⟨rfl, .inl ⟨rfl, _, rfl⟩⟩ (hrow5.ext xe) (by omega) (fun z hz => ints_one nd3.kids z hz)
        rw [Nat.zero_add, List.nil_append] at hra
        obtain ⟨a1, c1, rfl, _⟩ := hra.rd.len_of
        have xA : Ext w5 wA := xe.grown hga hrow
        have hra' := RowP.imp hra (q := fun b => w5.heap.size ≤ b) fun b _ hb => by rcases hb with h | h; exact h; exact Nat.le_trans (by simp) h
        have xd := xA.drew
        have xk := xd.alloc (.cells #[.int .i64 m] 3)
        obtain ⟨v2, wB, row2, hrun2, hrb, hgb, hrow2⟩ := append_ints (w := wA.drew.alloc (.cells #[.int .i64 m] 3)) (B := w5.heap.size) (v := .slice a1 nd3.kids.length c1) (n := nd3.kids.length) (RowP.ext hra' ((Ext.refl wA).drew.alloc _)) (u := .slice (some ⟨wA.drew.heap.size, 0, none⟩) 1 1) (m := 1) (ys := [.int .i64 m]) ⟨rfl, _, _, rfl, Nat.le_refl _, (fun h => by cases h), fun a ha => by cases ha; exact cell_one_new' (cellOf (heap_alloc_new wA.drew _) rfl)⟩ (by omega) (by simp [Value.oneCell'])
        obtain ⟨a2, c2, rfl, _⟩ := hrb.rd.len_of
        have xB : Ext w5 wB := xk.grown hgb hrow2
        have hrb' := RowP.imp hrb (q := fun b => w5.heap.size ≤ b) fun b _ hb => by rcases hb with h | h; exact h; exact Nat.le_trans xk.size h
        have hrb2 : RowP wB (fun b => w5.heap.size ≤ b) 3 1 (.slice a2 (nd3.kids.length + 1) c2) (nd3.kids ++ [(m : Int)]).length ((nd3.kids ++ [(m : Int)]).map (Value.int .i64)) := by simpa using hrb'
        have hfin := HS5.out.pokeRow (T2 := (TG.setAt m { kd with parent := (i : Int) }).setAt i { nd3 with kids := nd3.kids ++ [(m : Int)] }) xB c5 rfl rfl rfl hi5 hrb2
        rw [attach_two _ HIM.out] at hfin
        have FIN := qh hfin
        have cA := xA.cell c5
        have cD := xd.cell c5
        have cK := xk.cell c5
        have cB := xB.cell c5
        have ce := xe.cell c5
        have pe := xe.cell p5
        have pB := xB.cell p5
        have lg5 := cell_lt p5
        have fB := xB.free lg5 fri
        have HRUN := qh (AppI.mk hrun)
        have HRUN2 := qh hrun2
        clear hi5 hlen5 hrow5 hra hra' hrb hrb' hrb2 hrun hrun2 hga hgb hrow hrow2 hfin xe xA xd xk xB fg5 frb5 fr5 fri
        go_upto_region 8 with (at_builtin; refine wpList_app rfl _ _ rfl rfl _ _ rfl rfl _ _ HRUN.out ?_)
        refine wp_region_E (S := fun w' => w'.cell? ⟨rb, 2, none⟩ = some (.slice (some ⟨g5, 0, none⟩) TG.nodes.length cap5)) (n := 11) (by kernel_rfl) ?_
        have hS : wA.drew.cell? ⟨rb, 2, none⟩ = some (.slice (some ⟨g5, 0, none⟩) TG.nodes.length cap5) := cD
        show wpE _ _ _ _ _ 11 12 (Array.replicate 12 false) _ _
        refine wpE_tk 0 51 (.pointer (some ⟨rb, 0, none⟩)) rfl (.inl ⟨by rfl, fun w' hSw => ?_⟩) hS ?_
        · (clear hS; go_simp)
        try simp only [Act.put, zA, zB, zC]
        refine wpE_tk 1 52 (.pointer (some ⟨rb, 0, none⟩)) rfl (.inl ⟨by rfl, fun w' hSw => ?_⟩) hS ?_
        · (clear hS; go_simp)
        try simp only [Act.put, zA, zB, zC]
        refine wpE_tk 2 53 (.pointer (some ⟨rb, 2, none⟩)) rfl (.inl ⟨by rfl, fun w' hSw => ?_⟩) hS ?_
        · (clear hS; go_simp)
        try simp only [Act.put, zA, zB, zC]
        refine wpE_tk 3 54 (.slice (some ⟨g5, 0, none⟩) TG.nodes.length cap5) rfl (.inl ⟨by rfl, fun w' hSw => ?_⟩) hS ?_
        · (clear hS; go_simp)
        try simp only [Act.put, zA, zB, zC]
        refine wpE_tk 4 55 (.int .i64 i) rfl (.inl ⟨by rfl, fun w' hSw => ?_⟩) hS ?_
        · (clear hS; go_simp)
        try simp only [Act.put, zA, zB, zC]
        refine wpE_tk 5 56 (.slice a1 nd3.kids.length c1) rfl (.inl ⟨by rfl, fun w' hSw => ?_⟩) hS ?_
        · (clear hS; go_simp)
        try simp only [Act.put, zA, zB, zC]
        refine wpE_tk 6 57 (.int .i64 m) rfl (.inl ⟨by rfl, fun w' hSw => ?_⟩) hS ?_
        · (clear hS; go_simp)
        try simp only [Act.put, zA, zB, zC]
        refine wpE_on 7 (some 58) rfl (fun K hK => ?_)
        go_simp
        refine hK.out _ _ (.inr cK) ?_
        clear hK K
        try simp only [Act.put, zA, zB, zC]
        refine wpE_on 8 (some 59) rfl (fun K hK => ?_)
        refine step_append_run (by rfl) _ _ 40 (by rfl) (.slice a1 nd3.kids.length c1) (.slice (some ⟨wA.drew.heap.size, 0, none⟩) 1 1) (by rfl) (by rfl) (.slice a2 (nd3.kids.length + 1) c2) wB HRUN2.out ?_
        refine hK.out _ _ (.inr cB) ?_
        clear hK K
        try simp only [Act.put, zA, zB, zC]
        refine wpE_on 9 (some 60) rfl (fun K hK => ?_)
        go_simp
        refine hK.out _ _ (.inr cB) ?_
        clear hK K
        try simp only [Act.put, zA, zB, zC]
        refine wpE_on 10 (some 61) rfl (fun K hK => ?_)
        go_simp
        refine hK.out _ _ (.inr cB) ?_
        clear hK K
        try simp only [Act.put, zA, zB, zC]
        refine wpE_on 11 (none) rfl (fun K hK => ?_)
        go_simp
        refine hK.out _ _ (.inl rfl) ?_
        clear hK K
        refine wpE_done (by kernel_rfl) ?_
        obtain ⟨wz, hwz⟩ : ∃ wz : World, wz = wB.setCell ⟨g5, i * 6 + 5, none⟩ (.slice a2 (nd3.kids.length + 1) c2) := ⟨_, rfl⟩
        rw [← hwz] at FIN ⊢
        clear hwz cA cD cK cB ce pe pB fB c5 p5 HRUN HRUN2
        go_wp2_with fail
        go_roundw
        case rel =>
          refine ⟨k + 1, by omega, by go_num, ?_⟩
          rw [intos_take _ _ _ _ _ HXX.out, HTG.out, HM1.out]
          have e : TG.join i m = TG.attach i m nd3 kd := by
            unfold Tr.join
            rw [Int.toNat_natCast, Int.toNat_natCast, look_of HI4.out, look_of HK1.out]
          rw [e]; exact FIN.out
        case measure => simp [intOf]; omega
    · go_wp2_with fail
      go_ret
      refine ⟨by rw [HI1.out]; rfl, ?_⟩
      have h := HS3.out
      rw [List.take_of_length_le (by omega)] at h
      rw [PN.into_eq, HI1.out]
      exact (RAft.after HX.out h).wide fun b hb => hb.1
section
variable {w : World} {F : Nat → Prop} {rb : Nat} {T : Tr}
theorem rGraft_none (hR : RefOn w F rb T) {p at' : Int} (h : T.get? p = none) (x y z u : Value) : Calls Tryz.prog 101 #[.pointer (some ⟨rb, 0, none⟩), .int .i64 p, .int .i64 at', .agg #[x, y, z, u]] w (RTwoAft F w rb 0 2 T) := by
  have xu := (Ext.refl w).alloc (.cells #[x, y, z, u] 35)
  have H := qh ((RAft.refl hR).ext xu)
  have HAS := qh (rHas_no (hR.ext xu).at h)
  clear hR h xu
  go_enter Tryz.func101, Tryz.ntmps101
  go_wp2_with (go_at_call 91; refine HAS.out.mono ?_; rintro e w' ⟨rfl, rfl⟩)
  go_ret2
  exact ⟨rfl, H.out⟩
theorem rGraft_kind (hR : RefOn w F rb T) {p at' : Int} {pd : Nd} (h : T.get? p = some pd) (ht : (pd.tag == 0) = true) (x y z u : Value) : Calls Tryz.prog 101 #[.pointer (some ⟨rb, 0, none⟩), .int .i64 p, .int .i64 at', .agg #[x, y, z, u]] w (RTwoAft F w rb 0 6 T) := by
  have xu := (Ext.refl w).alloc (.cells #[x, y, z, u] 35)
  have H := qh ((RAft.refl hR).ext xu)
  have HAS := qh (rHas_yes (hR.ext xu).at h)
  obtain ⟨i, rfl, hi, hl⟩ := nodes_some h
  obtain ⟨g, cap, aa, ac, ka, kc, c, c0, c1, c2, c3, c4, c5, _, _⟩ := (hR.ext xu).at.one hi
  replace c1 : (w.alloc (.cells #[x, y, z, u] 35)).cell? ⟨g, i * 6 + 1, none⟩ = some (.int .i64 pd.tag) := c1
  replace c5 : (w.alloc (.cells #[x, y, z, u] 35)).cell? ⟨g, i * 6 + 5, none⟩ = some (.slice ka pd.kids.length kc) := c5
  clear hR h hi c0 c2 c3 c4 xu
  go_enter Tryz.func101, Tryz.ntmps101
  go_wp2_with (go_at_call 91; refine HAS.out.mono ?_; rintro e w' ⟨rfl, rfl⟩)
  go_ret2
  exact ⟨rfl, H.out⟩
theorem rGraft_arg (hR : RefOn w F rb T) {p at' : Int} {pd : Nd} (h : T.get? p = some pd) (ht : (pd.tag == 0) = false) (ha : at' < 0 ∨ (pd.kids.length : Int) < at') (x y z u : Value) : Calls Tryz.prog 101 #[.pointer (some ⟨rb, 0, none⟩), .int .i64 p, .int .i64 at', .agg #[x, y, z, u]] w (RTwoAft F w rb 0 1 T) := by
  have xu := (Ext.refl w).alloc (.cells #[x, y, z, u] 35)
  have H := qh ((RAft.refl hR).ext xu)
  have HAS := qh (rHas_yes (hR.ext xu).at h)
  obtain ⟨i, rfl, hi, hl⟩ := nodes_some h
  obtain ⟨g, cap, aa, ac, ka, kc, c, c0, c1, c2, c3, c4, c5, _, _⟩ := (hR.ext xu).at.one hi
  replace c1 : (w.alloc (.cells #[x, y, z, u] 35)).cell? ⟨g, i * 6 + 1, none⟩ = some (.int .i64 pd.tag) := c1
  replace c5 : (w.alloc (.cells #[x, y, z, u] 35)).cell? ⟨g, i * 6 + 5, none⟩ = some (.slice ka pd.kids.length kc) := c5
  clear hR h hi c0 c2 c3 c4 xu
  by_cases h1 : at' < 0
  · clear ha
    go_enter Tryz.func101, Tryz.ntmps101
    go_wp2_with (go_at_call 91; refine HAS.out.mono ?_; rintro e w' ⟨rfl, rfl⟩)
    go_ret2
    exact ⟨rfl, H.out⟩
  · have h2 : (pd.kids.length : Int) < at' := by rcases ha with h | h; exact absurd h h1; exact h
    clear ha
    go_enter Tryz.func101, Tryz.ntmps101
    go_wp2_with (go_at_call 91; refine HAS.out.mono ?_; rintro e w' ⟨rfl, rfl⟩)
    go_ret2
    exact ⟨rfl, H.out⟩
theorem rGraft_bad {g0 : World} (hR : RefOn w F rb T) {d : Nat → Nat} (hw : WF T d) {p at' : Nat} {pd : Nd} (hp : T.nodes[p]? = some (some pd)) (ht : (pd.tag == 0) = false) (hat : at' ≤ pd.kids.length)
    {n : PN} {nv : Value} (hr : RdN g0 n nv) (hap : RApart g0 F w) (hsh : n.short = true) (hsz : n.size ≤ 90000) (he : n.worst ≠ 0) :
    Calls Tryz.prog 101 #[.pointer (some ⟨rb, 0, none⟩), .int .i64 p, .int .i64 at', nv] w (RTwoAft F w rb 0 n.worst T) := by
  obtain ⟨av, kv, rfl, _, _⟩ := hr.open
  have hrw : RdN w n (.agg #[.int .i64 n.tag, av, .string n.text, kv]) := hr.cells hap.cells
  have xu := (Ext.refl w).alloc (.cells #[.int .i64 n.tag, av, .string n.text, kv] 35)
  have hbox := heap_alloc_new w (.cells #[.int .i64 n.tag, av, .string n.text, kv] 35)
  have HR := qh hR
  have H := qh (RAft.refl hR)
  have HAS := qh (rHas_yes (hR.ext xu).at (Tr.get_of hp))
  have hl := (List.getElem?_eq_some_iff.1 hp).1
  obtain ⟨g, cap, aa, ac, ka, kc, c, c0, c1, c2, c3, c4, c5, _, _⟩ := (hR.ext xu).at.one hp
  replace c1 : (w.alloc (.cells #[.int .i64 n.tag, av, .string n.text, kv] 35)).cell? ⟨g, p * 6 + 1, none⟩ = some (.int .i64 pd.tag) := c1
  replace c5 : (w.alloc (.cells #[.int .i64 n.tag, av, .string n.text, kv] 35)).cell? ⟨g, p * 6 + 5, none⟩ = some (.slice ka pd.kids.length kc) := c5
  have HM := qh (rMay_any n _ _ hsh (by omega) hrw xu)
  have HP := qh hp
  have HW := qh hw
  have HRD := qh hrw
  have HXU := qh xu
  obtain ⟨v, hv, hvi⟩ : ∃ v, n.worst = v ∧ (v = 0 ∨ v = 1 ∨ v = 10) := ⟨_, rfl, worst_in n⟩
  rw [hv] at HM
  rw [hv] at he ⊢
  clear hR hr hap hsh hrw hp hw c0 c2 c3 c4 xu
  have b0 := cellOf hbox (i := 0) (v := .int .i64 n.tag) rfl
  have b1 := cellOf hbox (i := 1) (v := av) rfl
  have b2 := cellOf hbox (i := 2) (v := .string n.text) rfl
  have b3 := cellOf hbox (i := 3) (v := kv) rfl
  clear hbox hv
  rcases hvi with rfl | rfl | rfl
  · exact absurd rfl he
  all_goals
    clear he
    go_enter Tryz.func101, Tryz.ntmps101
    go_wp2_with (first | (go_at_call 91; refine HAS.out.mono ?_; rintro e w' ⟨rfl, rfl⟩) | (go_at_call 140; refine HM.out.mono ?_; rintro e w' ⟨rfl, hy⟩; have HY := qh hy; clear hy))
    go_ret2
    exact ⟨rfl, H.out.ext (HXU.out.trans HY.out)⟩
theorem rGraft_deep {g0 : World} (hR : RefOn w F rb T) {d : Nat → Nat} (hw : WF T d) {p at' : Nat} {pd : Nd} (hp : T.nodes[p]? = some (some pd)) (ht : (pd.tag == 0) = false) (hat : at' ≤ pd.kids.length)
    {n : PN} {nv : Value} (hr : RdN g0 n nv) (hap : RApart g0 F w) (hsh : n.short = true) (hsz : n.size ≤ 90000) (hok : n.ok = true) (hdp : T.deep < (d p : Int) + 1 + n.high) :
    Calls Tryz.prog 101 #[.pointer (some ⟨rb, 0, none⟩), .int .i64 p, .int .i64 at', nv] w (RTwoAft F w rb 0 4 T) := by
  obtain ⟨av, kv, rfl, _, _⟩ := hr.open
  have hrw : RdN w n (.agg #[.int .i64 n.tag, av, .string n.text, kv]) := hr.cells hap.cells
  have xu := (Ext.refl w).alloc (.cells #[.int .i64 n.tag, av, .string n.text, kv] 35)
  have hbox := heap_alloc_new w (.cells #[.int .i64 n.tag, av, .string n.text, kv] 35)
  have HR := qh hR
  have H := qh (RAft.refl hR)
  have HAS := qh (rHas_yes (hR.ext xu).at (Tr.get_of hp))
  have hl := (List.getElem?_eq_some_iff.1 hp).1
  obtain ⟨g, cap, aa, ac, ka, kc, c, c0, c1, c2, c3, c4, c5, _, _⟩ := (hR.ext xu).at.one hp
  replace c1 : (w.alloc (.cells #[.int .i64 n.tag, av, .string n.text, kv] 35)).cell? ⟨g, p * 6 + 1, none⟩ = some (.int .i64 pd.tag) := c1
  replace c5 : (w.alloc (.cells #[.int .i64 n.tag, av, .string n.text, kv] 35)).cell? ⟨g, p * 6 + 5, none⟩ = some (.slice ka pd.kids.length kc) := c5
  have HM := qh (rMay_any n _ _ hsh (by omega) hrw xu)
  have HP := qh hp
  have HW := qh hw
  have HRD := qh hrw
  have HXU := qh xu
  obtain ⟨v, hv, hvi⟩ : ∃ v, n.worst = v ∧ (v = 0 ∨ v = 1 ∨ v = 10) := ⟨_, rfl, worst_in n⟩
  rw [hv] at HM
  have hw41 : d p ≤ 40 := by have := hw.deep p pd hp; have := hw.small.deep1; omega
  have hdd : (T.pathOf (p : Int)).length = d p := by
    have h := hw.path_rank p ⟨pd, Tr.get_of hp⟩
    unfold Tr.rank at h
    rw [Tr.get_of hp] at h
    simp at h
    exact h
  have hhi : n.high < n.size := high_lt n
  obtain ⟨dp, hdpe⟩ : ∃ dp, d p = dp := ⟨_, rfl⟩
  obtain ⟨hh, hhe⟩ : ∃ hh, n.high = hh := ⟨_, rfl⟩
  have hs0 := hw.small.deep0
  have hs1 := hw.small.deep1
  have cdp : w.cell? ⟨rb, 1, none⟩ = some (.int .i64 T.deep) := by
    obtain ⟨_, _, _, _, _, h⟩ := hR.at.slice
    exact h
  have ccp : w.cell? ⟨rb, 0, none⟩ = some (.int .i64 T.cap) := by
    obtain ⟨_, _, _, _, h, _⟩ := hR.at.slice
    exact h
  have HDE := qh (fun (u : World) (x : Ext w u) => RSame.val (by have := rDepth (hR.ext x).at hw (Tr.get_of hp); rw [hdd, hdpe] at this; exact this))
  have HHI := qh (fun (u : World) (x : Ext w u) => (hhe ▸ rHigh_any n _ u (by omega) hrw x : Calls Tryz.prog 141 #[.agg #[.int .i64 n.tag, av, .string n.text, kv]] u (RVal (.int .i64 (hh : Nat)) u)))
  have HCN := qh (fun (u : World) (x : Ext w u) => rCountX (hR.ext x).at hw)
  have HSZ := qh (fun (u : World) (x : Ext w u) => Size_any n _ u (by omega) hrw x)
  rw [hdpe, hhe] at hdp
  rw [hdpe] at hw41
  rw [hhe] at hhi
  clear hR hr hap hsh hrw hp hw c0 c2 c3 c4 xu
  have b0 := cellOf hbox (i := 0) (v := .int .i64 n.tag) rfl
  have b1 := cellOf hbox (i := 1) (v := av) rfl
  have b2 := cellOf hbox (i := 2) (v := .string n.text) rfl
  have b3 := cellOf hbox (i := 3) (v := kv) rfl
  have hv0 : v = 0 := by rw [← hv]; exact worst_zero.2 hok
  subst hv0
  clear hbox hv hvi hok hdd hdpe hhe
  go_enter Tryz.func101, Tryz.ntmps101
  go_upto_region 10 with (first | (go_at_call 91; refine HAS.out.mono ?_; rintro e w' ⟨rfl, rfl⟩) | (go_at_call 140; refine HM.out.mono ?_; rintro e wm ⟨rfl, hy⟩; replace b0 := hy.cell b0; replace b1 := hy.cell b1; replace b2 := hy.cell b2; replace b3 := hy.cell b3; have HY := qh (HXU.out.trans hy); clear hy))
  have e0 := fun u : ExtOf wm => u.ext.cell b0
  have e1 := fun u : ExtOf wm => u.ext.cell b1
  have e2 := fun u : ExtOf wm => u.ext.cell b2
  have e3 := fun u : ExtOf wm => u.ext.cell b3
  have e4 := fun u : ExtOf wm => u.ext.cell (HY.out.cell cdp)
  refine wp_region_ext (by kernel_rfl) (by kernel_rfl) ?_
  repeat (go_big_quiet_step (first | (go_at_call 117; exact inExt (HDE.out _ (HY.out.trans (ExtOf.ext _)))) | (go_at_call 141; exact inExt (HHI.out _ (HY.out.trans (ExtOf.ext _))))))
  refine wpQuiet_nil ?_
  rintro _ ⟨u, rfl⟩
  clear e0 e1 e2 e3 e4
  replace b0 := u.ext.cell b0
  replace b1 := u.ext.cell b1
  replace b2 := u.ext.cell b2
  replace b3 := u.ext.cell b3
  have HU := qh (HY.out.trans u.ext)
  go_wp2_with fail
  go_ret2
  exact ⟨rfl, H.out.ext HU.out⟩
theorem rGraft_full {g0 : World} (hR : RefOn w F rb T) {d : Nat → Nat} (hw : WF T d) {p at' : Nat} {pd : Nd} (hp : T.nodes[p]? = some (some pd)) (ht : (pd.tag == 0) = false) (hat : at' ≤ pd.kids.length)
    {n : PN} {nv : Value} (hr : RdN g0 n nv) (hap : RApart g0 F w) (hsh : n.short = true) (hsz : n.size ≤ 90000) (hok : n.ok = true) (hdp : (d p : Int) + 1 + n.high ≤ T.deep) (hf : ¬ (n.size : Int) ≤ T.cap - T.count) :
    Calls Tryz.prog 101 #[.pointer (some ⟨rb, 0, none⟩), .int .i64 p, .int .i64 at', nv] w (RTwoAft F w rb 0 3 T) := by
  obtain ⟨av, kv, rfl, _, _⟩ := hr.open
  have hrw : RdN w n (.agg #[.int .i64 n.tag, av, .string n.text, kv]) := hr.cells hap.cells
  have xu := (Ext.refl w).alloc (.cells #[.int .i64 n.tag, av, .string n.text, kv] 35)
  have hbox := heap_alloc_new w (.cells #[.int .i64 n.tag, av, .string n.text, kv] 35)
  have HR := qh hR
  have H := qh (RAft.refl hR)
  have HAS := qh (rHas_yes (hR.ext xu).at (Tr.get_of hp))
  have hl := (List.getElem?_eq_some_iff.1 hp).1
  obtain ⟨g, cap, aa, ac, ka, kc, c, c0, c1, c2, c3, c4, c5, _, _⟩ := (hR.ext xu).at.one hp
  replace c1 : (w.alloc (.cells #[.int .i64 n.tag, av, .string n.text, kv] 35)).cell? ⟨g, p * 6 + 1, none⟩ = some (.int .i64 pd.tag) := c1
  replace c5 : (w.alloc (.cells #[.int .i64 n.tag, av, .string n.text, kv] 35)).cell? ⟨g, p * 6 + 5, none⟩ = some (.slice ka pd.kids.length kc) := c5
  have HM := qh (rMay_any n _ _ hsh (by omega) hrw xu)
  have HP := qh hp
  have HW := qh hw
  have HRD := qh hrw
  have HXU := qh xu
  obtain ⟨v, hv, hvi⟩ : ∃ v, n.worst = v ∧ (v = 0 ∨ v = 1 ∨ v = 10) := ⟨_, rfl, worst_in n⟩
  rw [hv] at HM
  have hw41 : d p ≤ 40 := by have := hw.deep p pd hp; have := hw.small.deep1; omega
  have hdd : (T.pathOf (p : Int)).length = d p := by
    have h := hw.path_rank p ⟨pd, Tr.get_of hp⟩
    unfold Tr.rank at h
    rw [Tr.get_of hp] at h
    simp at h
    exact h
  have hhi : n.high < n.size := high_lt n
  obtain ⟨dp, hdpe⟩ : ∃ dp, d p = dp := ⟨_, rfl⟩
  obtain ⟨hh, hhe⟩ : ∃ hh, n.high = hh := ⟨_, rfl⟩
  have hs0 := hw.small.deep0
  have hs1 := hw.small.deep1
  have cdp : w.cell? ⟨rb, 1, none⟩ = some (.int .i64 T.deep) := by
    obtain ⟨_, _, _, _, _, h⟩ := hR.at.slice
    exact h
  have ccp : w.cell? ⟨rb, 0, none⟩ = some (.int .i64 T.cap) := by
    obtain ⟨_, _, _, _, h, _⟩ := hR.at.slice
    exact h
  have HDE := qh (fun (u : World) (x : Ext w u) => RSame.val (by have := rDepth (hR.ext x).at hw (Tr.get_of hp); rw [hdd, hdpe] at this; exact this))
  have HHI := qh (fun (u : World) (x : Ext w u) => (hhe ▸ rHigh_any n _ u (by omega) hrw x : Calls Tryz.prog 141 #[.agg #[.int .i64 n.tag, av, .string n.text, kv]] u (RVal (.int .i64 (hh : Nat)) u)))
  have HCN := qh (fun (u : World) (x : Ext w u) => rCountX (hR.ext x).at hw)
  have HSZ := qh (fun (u : World) (x : Ext w u) => Size_any n _ u (by omega) hrw x)
  rw [hdpe, hhe] at hdp
  rw [hdpe] at hw41
  rw [hhe] at hhi
  have hc0 := hw.small.count0
  have hc1 := hw.small.count1
  have hc2 := hw.small.cap1
  clear hR hr hap hsh hrw hp hw c0 c2 c3 c4 xu
  have b0 := cellOf hbox (i := 0) (v := .int .i64 n.tag) rfl
  have b1 := cellOf hbox (i := 1) (v := av) rfl
  have b2 := cellOf hbox (i := 2) (v := .string n.text) rfl
  have b3 := cellOf hbox (i := 3) (v := kv) rfl
  have hv0 : v = 0 := by rw [← hv]; exact worst_zero.2 hok
  subst hv0
  clear hbox hv hvi hok hdd hdpe hhe
  go_enter Tryz.func101, Tryz.ntmps101
  go_upto_region 10 with (first | (go_at_call 91; refine HAS.out.mono ?_; rintro e w' ⟨rfl, rfl⟩) | (go_at_call 140; refine HM.out.mono ?_; rintro e wm ⟨rfl, hy⟩; replace b0 := hy.cell b0; replace b1 := hy.cell b1; replace b2 := hy.cell b2; replace b3 := hy.cell b3; have HY := qh (HXU.out.trans hy); clear hy))
  have e0 := fun u : ExtOf wm => u.ext.cell b0
  have e1 := fun u : ExtOf wm => u.ext.cell b1
  have e2 := fun u : ExtOf wm => u.ext.cell b2
  have e3 := fun u : ExtOf wm => u.ext.cell b3
  have e4 := fun u : ExtOf wm => u.ext.cell (HY.out.cell cdp)
  refine wp_region_ext (by kernel_rfl) (by kernel_rfl) ?_
  repeat (go_big_quiet_step (first | (go_at_call 117; exact inExt (HDE.out _ (HY.out.trans (ExtOf.ext _)))) | (go_at_call 141; exact inExt (HHI.out _ (HY.out.trans (ExtOf.ext _))))))
  refine wpQuiet_nil ?_
  rintro _ ⟨u, rfl⟩
  clear e0 e1 e2 e3 e4
  replace b0 := u.ext.cell b0
  replace b1 := u.ext.cell b1
  replace b2 := u.ext.cell b2
  replace b3 := u.ext.cell b3
  have HU := qh (HY.out.trans u.ext)
  go_upto_region 12 with fail
  have f0 := fun v : ExtOf u.val => v.ext.cell b0
  have f1 := fun v : ExtOf u.val => v.ext.cell b1
  have f2 := fun v : ExtOf u.val => v.ext.cell b2
  have f3 := fun v : ExtOf u.val => v.ext.cell b3
  have f4 := fun v : ExtOf u.val => v.ext.cell (HU.out.cell ccp)
  refine wp_region_ext (by kernel_rfl) (by kernel_rfl) ?_
  repeat (go_big_quiet_step (first | (go_at_call 86; exact inExt (HCN.out _ (HU.out.trans (ExtOf.ext _)))) | (go_at_call 22; exact inExt (HSZ.out _ (HU.out.trans (ExtOf.ext _))))))
  refine wpQuiet_nil ?_
  rintro _ ⟨u2, rfl⟩
  clear f0 f1 f2 f3 f4
  replace b0 := u2.ext.cell b0
  replace b1 := u2.ext.cell b1
  replace b2 := u2.ext.cell b2
  replace b3 := u2.ext.cell b3
  have HV := qh (HU.out.trans u2.ext)
  go_wp2_with fail
  go_ret2
  exact ⟨rfl, H.out.ext HV.out⟩
theorem rGraft_ok {g0 : World} (hR : RefOn w F rb T) {d : Nat → Nat} (hw : WF T d) {p at' : Nat} {pd : Nd} (hp : T.nodes[p]? = some (some pd)) (ht : (pd.tag == 0) = false) (hat : at' ≤ pd.kids.length)
    {n : PN} {nv : Value} (hr : RdN g0 n nv) (hap : RApart g0 F w) (hsh : n.short = true) (hsz : n.size ≤ 90000) (hok : n.ok = true) (hdp : (d p : Int) + 1 + n.high ≤ T.deep) (hf : (n.size : Int) ≤ T.cap - T.count) :
    Calls Tryz.prog 101 #[.pointer (some ⟨rb, 0, none⟩), .int .i64 p, .int .i64 at', nv] w (RTwoAft F w rb T.newId 0 (T.grafted p at' pd n)) := by
  obtain ⟨av, kv, rfl, _, _⟩ := hr.open
  have hrw : RdN w n (.agg #[.int .i64 n.tag, av, .string n.text, kv]) := hr.cells hap.cells
  have xu := (Ext.refl w).alloc (.cells #[.int .i64 n.tag, av, .string n.text, kv] 35)
  have hbox := heap_alloc_new w (.cells #[.int .i64 n.tag, av, .string n.text, kv] 35)
  have HR := qh hR
  have H := qh (RAft.refl hR)
  have HAS := qh (rHas_yes (hR.ext xu).at (Tr.get_of hp))
  have hl := (List.getElem?_eq_some_iff.1 hp).1
  obtain ⟨g, cap, aa, ac, ka, kc, c, c0, c1, c2, c3, c4, c5, _, _⟩ := (hR.ext xu).at.one hp
  replace c1 : (w.alloc (.cells #[.int .i64 n.tag, av, .string n.text, kv] 35)).cell? ⟨g, p * 6 + 1, none⟩ = some (.int .i64 pd.tag) := c1
  replace c5 : (w.alloc (.cells #[.int .i64 n.tag, av, .string n.text, kv] 35)).cell? ⟨g, p * 6 + 5, none⟩ = some (.slice ka pd.kids.length kc) := c5
  have HM := qh (rMay_any n _ _ hsh (by omega) hrw xu)
  have HP := qh hp
  have HW := qh hw
  have HRD := qh hrw
  have HXU := qh xu
  obtain ⟨v, hv, hvi⟩ : ∃ v, n.worst = v ∧ (v = 0 ∨ v = 1 ∨ v = 10) := ⟨_, rfl, worst_in n⟩
  rw [hv] at HM
  have hc0 := hw.small.count0
  have hc1 := hw.small.count1
  have hc2 := hw.small.cap1
  obtain ⟨dz, m, hm1, hm0, hm2, hPut⟩ := into_ok n hok T d hw (by omega) (by omega)
  obtain ⟨kd, hk1, hk2⟩ := hPut.node
  have hpm : p ≠ m := fun e => hm2 pd (e ▸ hp)
  obtain ⟨hap1, hap2⟩ := hPut.apart hw hm2 p pd hp
  have hgr : T.grafted p at' pd n = (PN.into T n).link p at' m pd kd := by
    unfold Tr.grafted; rw [hm1, Int.toNat_natCast, look_of hk1]
  have hpo := hPut.old p pd hpm hp
  have hput := fun (u : World) (x : Ext w u) => rput n hok hsh (.agg #[.int .i64 n.tag, av, .string n.text, kv]) T d F u hr (hap.ext x) (hR.ext x) hw (by omega) (by omega)
  have hdd2 : ((PN.into T n).pathOf (p : Int)).length = dz p := by
    have h := hPut.wf.path_rank p ⟨pd, Tr.get_of hpo⟩
    unfold Tr.rank at h
    rw [Tr.get_of hpo] at h
    simp at h
    exact h
  have hwin : (PN.into T n).win p m = false := by rw [hPut.wf.win_within p ⟨pd, Tr.get_of hpo⟩]; exact hap1
  have hdep : (((PN.into T n).pathOf (p : Int)).length : Int) + 1 + (PN.into T n).height m ≤ (PN.into T n).deep := by rw [hdd2, hap2, hPut.deep, hPut.high]; omega
  have HINS := qh (fun (F' : Nat → Prop) (u : World) (h : RefOn u F' rb (PN.into T n)) => rInsert_ok h hPut.wf hpo hk1 ht hm0 (by omega) hat hpm hwin hdep)
  have HPUT := qh hput
  have HGR := qh hgr
  have HM1 := qh hm1
  clear hput hgr hm1 hwin hdep hdd2 hpo hap1 hap2 hk1 hk2 hm2 hPut
  have hw41 : d p ≤ 40 := by have := hw.deep p pd hp; have := hw.small.deep1; omega
  have hdd : (T.pathOf (p : Int)).length = d p := by
    have h := hw.path_rank p ⟨pd, Tr.get_of hp⟩
    unfold Tr.rank at h
    rw [Tr.get_of hp] at h
    simp at h
    exact h
  have hhi : n.high < n.size := high_lt n
  obtain ⟨dp, hdpe⟩ : ∃ dp, d p = dp := ⟨_, rfl⟩
  obtain ⟨hh, hhe⟩ : ∃ hh, n.high = hh := ⟨_, rfl⟩
  have hs0 := hw.small.deep0
  have hs1 := hw.small.deep1
  have cdp : w.cell? ⟨rb, 1, none⟩ = some (.int .i64 T.deep) := by
    obtain ⟨_, _, _, _, _, h⟩ := hR.at.slice
    exact h
  have ccp : w.cell? ⟨rb, 0, none⟩ = some (.int .i64 T.cap) := by
    obtain ⟨_, _, _, _, h, _⟩ := hR.at.slice
    exact h
  have HDE := qh (fun (u : World) (x : Ext w u) => RSame.val (by have := rDepth (hR.ext x).at hw (Tr.get_of hp); rw [hdd, hdpe] at this; exact this))
  have HHI := qh (fun (u : World) (x : Ext w u) => (hhe ▸ rHigh_any n _ u (by omega) hrw x : Calls Tryz.prog 141 #[.agg #[.int .i64 n.tag, av, .string n.text, kv]] u (RVal (.int .i64 (hh : Nat)) u)))
  have HCN := qh (fun (u : World) (x : Ext w u) => rCountX (hR.ext x).at hw)
  have HSZ := qh (fun (u : World) (x : Ext w u) => Size_any n _ u (by omega) hrw x)
  rw [hdpe, hhe] at hdp
  rw [hdpe] at hw41
  rw [hhe] at hhi
  clear hR hr hap hsh hrw hp hw c0 c2 c3 c4 xu
  have b0 := cellOf hbox (i := 0) (v := .int .i64 n.tag) rfl
  have b1 := cellOf hbox (i := 1) (v := av) rfl
  have b2 := cellOf hbox (i := 2) (v := .string n.text) rfl
  have b3 := cellOf hbox (i := 3) (v := kv) rfl
  have hv0 : v = 0 := by rw [← hv]; exact worst_zero.2 hok
  subst hv0
  clear hbox hv hvi hok hdd hdpe hhe
  go_enter Tryz.func101, Tryz.ntmps101
  go_upto_region 10 with (first | (go_at_call 91; refine HAS.out.mono ?_; rintro e w' ⟨rfl, rfl⟩) | (go_at_call 140; refine HM.out.mono ?_; rintro e wm ⟨rfl, hy⟩; replace b0 := hy.cell b0; replace b1 := hy.cell b1; replace b2 := hy.cell b2; replace b3 := hy.cell b3; have HY := qh (HXU.out.trans hy); clear hy))
  have e0 := fun u : ExtOf wm => u.ext.cell b0
  have e1 := fun u : ExtOf wm => u.ext.cell b1
  have e2 := fun u : ExtOf wm => u.ext.cell b2
  have e3 := fun u : ExtOf wm => u.ext.cell b3
  have e4 := fun u : ExtOf wm => u.ext.cell (HY.out.cell cdp)
  refine wp_region_ext (by kernel_rfl) (by kernel_rfl) ?_
  repeat (go_big_quiet_step (first | (go_at_call 117; exact inExt (HDE.out _ (HY.out.trans (ExtOf.ext _)))) | (go_at_call 141; exact inExt (HHI.out _ (HY.out.trans (ExtOf.ext _))))))
  refine wpQuiet_nil ?_
  rintro _ ⟨u, rfl⟩
  clear e0 e1 e2 e3 e4
  replace b0 := u.ext.cell b0
  replace b1 := u.ext.cell b1
  replace b2 := u.ext.cell b2
  replace b3 := u.ext.cell b3
  have HU := qh (HY.out.trans u.ext)
  go_upto_region 12 with fail
  have f0 := fun v : ExtOf u.val => v.ext.cell b0
  have f1 := fun v : ExtOf u.val => v.ext.cell b1
  have f2 := fun v : ExtOf u.val => v.ext.cell b2
  have f3 := fun v : ExtOf u.val => v.ext.cell b3
  have f4 := fun v : ExtOf u.val => v.ext.cell (HU.out.cell ccp)
  refine wp_region_ext (by kernel_rfl) (by kernel_rfl) ?_
  repeat (go_big_quiet_step (first | (go_at_call 86; exact inExt (HCN.out _ (HU.out.trans (ExtOf.ext _)))) | (go_at_call 22; exact inExt (HSZ.out _ (HU.out.trans (ExtOf.ext _))))))
  refine wpQuiet_nil ?_
  rintro _ ⟨u2, rfl⟩
  clear f0 f1 f2 f3 f4
  replace b0 := u2.ext.cell b0
  replace b1 := u2.ext.cell b1
  replace b2 := u2.ext.cell b2
  replace b3 := u2.ext.cell b3
  have HV := qh (HU.out.trans u2.ext)
  go_wp2_with (first | (go_at_call 142; refine (HPUT.out _ HV.out).mono ?_; rintro e w5 ⟨rfl, hS5⟩; rw [HM1.out]; have HS5 := qh hS5; clear hS5) | (go_at_call 88; refine (HINS.out _ _ HS5.out.on).mono ?_; rintro e w6 ⟨rfl, hS6⟩; have HS6 := qh hS6; clear hS6))
  go_ret2
  rw [HGR.out, HM1.out]
  exact ⟨rfl, RAft.after HV.out (HS5.out.trans HS6.out)⟩
end
section
variable {P : Program} {ops : Array Oper} {Q : Exit → Act → World → Prop} {md : Region.Mode} {S : World → Prop} {n : Nat}
theorem wpE_two {i j : Nat} {oi oj : Oper} {f : Nat} {l : Array Bool} {a : Act} {w : World} (hr : Region.ready md ops l = [i, j]) (hi : ops[i]? = some oi) (hj : ops[j]? = some oj)
    (h1 : ∀ K : Act → World → Prop, Shut (∀ a w, (i = n ∨ S w) → wpE P md ops Q S n f (l.setIfInBounds i true) a w → K a w) → if Region.wanted oi (yielded ops a.tmps) = true then Oper.wp P oi a w K Q else K (a.put oi.dst undef) w)
    (h2 : ∀ K : Act → World → Prop, Shut (∀ a w, (j = n ∨ S w) → wpE P md ops Q S n f (l.setIfInBounds j true) a w → K a w) → if Region.wanted oj (yielded ops a.tmps) = true then Oper.wp P oj a w K Q else K (a.put oj.dst undef) w) : wpE P md ops Q S n (f + 1) l a w := by
  refine ⟨fun h => (by rw [hr] at h; cases h), fun m hm => ?_⟩
  rw [hr] at hm
  have hm' : m = i ∨ m = j := by simpa using hm
  rcases hm' with rfl | rfl
  · exact wpOp_step hi fun K hK => h1 K fun a w h1 h2 => hK a w ⟨h1, h2⟩
  · exact wpOp_step hj fun K hK => h2 K fun a w h1 h2 => hK a w ⟨h1, h2⟩
end
section
def DTwo (own : Ow) (w : World) (tb : Nat) (x er : Int) (T' : Tr) (e : Ending) (w' : World) : Prop := e = .returned (.tuple #[.int .i64 x, .int .i64 er]) ∧ After own w tb T' w'
section
variable {w : World} {own : Ow} {ptr : Nat → Nat} {tb : Nat} {T : Tr}
theorem derr_same (hT : TreeAt w own ptr tb T) (hO : Owned own w) {er : Int} {e : Ending} {w' : World} (h : RVal (.int .i64 er) w e w') : ErrAfter own w tb er T e w' := ⟨h.1, After.same hT hO h.2⟩
theorem dtwo_same (hT : TreeAt w own ptr tb T) (hO : Owned own w) {x er : Int} {e : Ending} {w' : World} (h : RTwo (.int .i64 x) (.int .i64 er) w e w') : DTwo own w tb x er T e w' := ⟨h.1, After.same hT hO h.2⟩
end
variable {T : Tr}
end
section
variable {w0 w w' g : World} {tb rb : Nat} {T1 T2 : Tr} {L : Nat → Prop}
end
theorem flat_take {α β : Type} (f : α → List β) (l : List α) (k : Nat) : ((l.take k).flatMap f).length ≤ (l.flatMap f).length := by
  have h : l.flatMap f = (l.take k).flatMap f ++ (l.drop k).flatMap f := by rw [← List.flatMap_append, List.take_append_drop]
  rw [h, List.length_append]
  omega
theorem flat_snoc {α β : Type} (f : α → List β) {l : List α} {k : Nat} {x : α} (h : l[k]? = some x) : (l.take (k + 1)).flatMap f = (l.take k).flatMap f ++ f x := by
  obtain ⟨hlt, rfl⟩ := List.getElem?_eq_some_iff.1 h
  rw [List.take_succ_eq_append_getElem hlt, List.flatMap_append]
  simp
section
variable {w : World} {rb : Nat} {T : Tr}
theorem rAll_no (h : RAt w rb T) {id : Int} (hg : T.get? id = none) : Calls Tryz.prog 92 #[.pointer (some ⟨rb, 0, none⟩), .int .i64 id] w (RVal (.slice none 0 0) w) := by
  have HAS := qh (rHas_no h hg)
  clear h hg
  go_enter Tryz.func92, Tryz.ntmps92
  go_wp2_with (go_at_call 91; refine HAS.out.mono ?_; rintro e w' ⟨rfl, rfl⟩)
  go_ret
  exact ⟨rfl, Ext.refl _⟩
theorem rAll_some {d : Nat → Nat} (hw : WF T d) : ∀ id : Int, ∀ nd, T.get? id = some nd → ∀ (w0 u : World), RAt w0 rb T → Ext w0 u → Calls Tryz.prog 92 #[.pointer (some ⟨rb, 0, none⟩), .int .i64 id] u (RRow 3 1 (T.pre id).length ((T.pre id).map (Value.int .i64)) u) := by
  refine hw.rise _ fun id ih nd hg w0 u hR0 hxu => ?_
  have hR := hR0.ext hxu
  have HAS := qh (rHas_yes hR hg)
  have hp := hw.pre_step id
  have h2000 := hw.pre_2000 ⟨nd, hg⟩
  have hk : T.kidsOf id = nd.kids := by unfold Tr.kidsOf; rw [hg]
  rw [hk] at ih hp
  obtain ⟨i, rfl, hi, hl⟩ := nodes_some hg
  obtain ⟨g, cap, aa, ac, ka, kc, c, c0, c1, c2, c3, c4, c5, _, hrk⟩ := hR.one hi
  replace c5 : u.cell? ⟨g, i * 6 + 5, none⟩ = some (.slice ka nd.kids.length kc) := c5
  replace hrk : RowRd u 1 (.slice ka nd.kids.length kc) nd.kids.length (nd.kids.map (Value.int .i64)) := hrk
  obtain ⟨_, _, _, e, hkc, hkn, hkr⟩ := hrk
  cases e
  have hkl := hw.kids_len hi
  have HKN := qh hkn
  have HKR := qh hkr
  have IH := qh ih
  have HW := qh hw
  have HI := qh hi
  have HP := qh hp
  have H2 := qh h2000
  have HR := qh hR
  clear hkn hkr ih hw hi hg hk hR hR0 c0 c1 c2 c3 c4 hp h2000
  go_enter Tryz.func92, Tryz.ntmps92
  go_wp2_with (go_at_call 91; refine HAS.out.mono ?_; rintro e w' ⟨rfl, rfl⟩)
  have x1 := (Ext.refl u).alloc (.cells #[.int .i64 i] 3)
  have b1 := heap_alloc_new u (.cells #[.int .i64 i] 3)
  obtain ⟨u1, hu1⟩ : ∃ u1 : World, u1 = u.alloc (.cells #[.int .i64 i] 3) := ⟨_, rfl⟩
  rw [← hu1] at x1 b1
  rw [← hu1]
  clear hu1
  have hr1 : RowP u1 (fun b => u.heap.size ≤ b) 3 1 (.slice (some ⟨u.heap.size, 0, none⟩) 1 1) 1 [Value.int .i64 i] := ⟨rfl, .inr ⟨u.heap.size, 1, _, rfl, Nat.le_refl _, b1, Nat.le_refl _, by unfold maxLen; omega, rfl, rfl⟩⟩
  have HR1 := qh hr1
  have X1 := qh x1
  clear hr1 b1 x1
  go_loopw [5, 6] (fun v n wr => ∃ (k z : Nat) (xs : List Value), k ≤ nd.kids.length ∧ n = .int .i64 k ∧ Ext u wr ∧ RowP wr (fun b => u.heap.size ≤ b) 3 1 v z xs ∧ Hid (z = 1 + ((nd.kids.take k).flatMap T.pre).length ∧ xs = ((i : Int) :: (nd.kids.take k).flatMap T.pre).map (Value.int .i64))) (fun _ n _ => nd.kids.length - (intOf n).toNat)
  case atStart => exact ⟨0, 1, _, Nat.zero_le _, rfl, X1.out, HR1.out, qh ⟨by simp, by simp⟩⟩
  case round =>
    obtain ⟨k, z, xs, hk, rfl, hxr, hrow, hzx⟩ := hrel
    obtain ⟨va, vc, hve, _⟩ := hrow.rd.len_of
    subst hve
    have HROW := qh hrow
    have HXR := qh hxr
    replace c := hxr.cell c
    replace c5 := hxr.cell c5
    clear hrow HR1
    by_cases hlt : k < nd.kids.length
    · obtain ⟨x, hx⟩ : ∃ x, nd.kids[k]? = some x := ⟨nd.kids[k], by simp [hlt]⟩
      cases ka with
      | none => exact absurd (HKN.out rfl).1 (by omega)
      | some a =>
        obtain ⟨b, off, sp⟩ := a
        have cx := hxr.cells _ _ (HKR.out _ rfl k (.int .i64 x) (by rw [List.getElem?_map, hx]; rfl))
        obtain ⟨j, kd, h3, h4, h5, h6⟩ := HW.out.kid HI.out hx
        have hrec := IH.out x (List.mem_of_getElem? hx) kd (by rw [h3]; exact Tr.get_of h4) u wr HR.out hxr
        have hfs := flat_snoc T.pre hx
        have hft := flat_take T.pre nd.kids (k + 1)
        obtain ⟨m, hm⟩ : ∃ m, (T.pre x).length = m := ⟨_, rfl⟩
        have hlen : z + m ≤ 2000 := by
          have h1 := HP.out
          have h0 := hzx.out.1
          have h2 := H2.out
          rw [h1, List.length_cons] at h2
          rw [hfs, List.length_append] at hft
          omega
        rw [hm] at hrec
        have HM := qh hm
        clear hm
        have HFS := qh hfs
        have HREC := qh hrec
        clear hx h3 h4 h5 h6 hrec hfs hft hxr
        go_wp2_with fail
        refine HREC.out.mono ?_
        rintro e w2 ⟨v2, rfl, hr2, hx2⟩
        obtain ⟨a2, c2, e2, _⟩ := RowP.len_of' hr2
        subst e2
        obtain ⟨v3, w3, row, hrun, hra, hga, hrow3⟩ := append_ints (w := w2) (B := u.heap.size) (RowP.ext HROW.out hx2) (RowP.rd hr2) (by omega) (fun z hz => ints_one _ z hz)
        obtain ⟨a3, c3, e3, _⟩ := hra.rd.len_of
        subst e3
        have HRUN := qh (AppI.mk hrun)
        have X3 := qh ((HXR.out.trans hx2).grown hga hrow3)
        have hx2s := (HXR.out.trans hx2).size
        have HR3 := qh (RowP.imp hra (q := fun b => u.heap.size ≤ b) fun b _ hb => by rcases hb with h | h; exact h; exact Nat.le_trans hx2s h)
        clear hra hrun hga hrow3 hr2 hx2 hx2s
        go_wp2_with (at_builtin; refine wpList_app rfl _ _ rfl rfl _ _ rfl rfl _ _ HRUN.out ?_)
        go_roundw
        case rel => exact ⟨k + 1, z + m, _, by omega, by go_num, X3.out, HR3.out, qh ⟨by rw [HFS.out, List.length_append, ← Nat.add_assoc, HM.out, hzx.out.1], by rw [HFS.out, ← List.cons_append, List.map_append, hzx.out.2]⟩⟩
        case measure => simp [intOf]; omega
    · obtain rfl : k = nd.kids.length := by omega
      go_wp2_with fail
      go_ret
      have h := HROW.out
      obtain ⟨h1, h2⟩ := hzx.out
      rw [List.take_length] at h1 h2
      have e : (T.pre (i : Int)).length = z := by rw [HP.out, List.length_cons, h1]; omega
      rw [h2, ← HP.out, ← e] at h
      refine ⟨_, rfl, ?_, HXR.out⟩
      rw [← e]
      exact h
theorem rAll (h : RAt w rb T) {d : Nat → Nat} (hw : WF T d) (id : Int) : Calls Tryz.prog 92 #[.pointer (some ⟨rb, 0, none⟩), .int .i64 id] w (RRow 3 1 (T.allOf id).length ((T.allOf id).map (Value.int .i64)) w) := by
  unfold Tr.allOf
  cases hg : T.get? id with
  | none => exact (rAll_no h hg).mono fun e w' k => ⟨_, k.1, ⟨rfl, .inl ⟨rfl, none, rfl⟩⟩, k.2⟩
  | some nd => exact rAll_some hw id nd hg w w h (Ext.refl w)
end
theorem rChars (s : ByteArray) (hs : s.size ≤ 100000) (w : World) : Calls Tryz.prog 99 #[.string s] w (RVal (.int .i64 (runes s)) w) := by
  have h1 := run_runes_of_string (P := Tryz.prog) w 9 115 21 s Tryz.underlying9 Tryz.underlying115 Tryz.underlying21 (by have := size_runesFrom s s.size 0 #[]; simp at this; omega)
  have e1 : Conv.runesFrom s s.size 0 #[] = ((runeList s s.size 0).map (Value.int .i32)).toArray := by rw [runesFrom_eq]; simp
  have hz : runes s = (runeList s s.size 0).length := rfl
  have HZ := qh hz
  rw [e1] at h1
  clear hz e1 hs
  generalize runeList s s.size 0 = l at *
  generalize hk : grownCap w (List.map (Value.int IntKind.i32) l).toArray.size 0 21 = K at *
  clear hk
  generalize hC : (List.map (Value.int IntKind.i32) l).toArray ++ Array.replicate (K - (List.map (Value.int IntKind.i32) l).toArray.size) (Value.int IntKind.i32 0) = C at *
  simp only [List.size_toArray, List.length_map] at h1
  clear hC
  have HH1 := qh h1
  clear h1
  go_enter Tryz.func99, Tryz.ntmps99
  go_wp2_with fail
  rw [HH1.out]
  go_wp2_with fail
  go_ret
  exact ⟨by rw [HZ.out]; rfl, ((Ext.refl _).alloc _).drew⟩
section
variable {w : World} {rb : Nat} {T : Tr}
theorem rLength (h : RAt w rb T) {d : Nat → Nat} (hw : WF T d) (hA : AttrsOk T) (id : Int) : Calls Tryz.prog 143 #[.pointer (some ⟨rb, 0, none⟩), .int .i64 id] w (RVal (.int .i64 (T.lengthOf id)) w) := by
  cases hg : T.get? id with
  | none =>
    have HAS := qh (rHas_no h hg)
    have e : T.lengthOf id = -1 := by unfold Tr.lengthOf Tr.tagOf; rw [hg]; rfl
    rw [e]
    clear h hg e
    go_enter Tryz.func143, Tryz.ntmps143
    go_wp2_with (go_at_call 91; refine HAS.out.mono ?_; rintro e w' ⟨rfl, rfl⟩)
    go_ret
    exact ⟨rfl, Ext.refl _⟩
  | some nd =>
    have HAS := qh (rHas_yes h hg)
    have e : T.lengthOf id = if nd.tag = 0 then (runes nd.text : Int) else (nd.kids.length : Int) := by
      have ht := (hw.text _ _ (Tr.get_lt hg).2.2).1
      unfold Tr.lengthOf Tr.tagOf Tr.txt Tr.kidsOf
      rw [hg]
      show (if nd.tag = -1 then _ else _) = _
      rw [if_neg (by omega)]
    rw [e]
    obtain ⟨i, rfl, hi, hl⟩ := nodes_some hg
    have hts : nd.text.size ≤ 100000 := by have := (hA i nd hi).2; omega
    have HCH := qh (rChars nd.text hts w)
    obtain ⟨g, cap, aa, ac, ka, kc, c, c0, c1, c2, c3, c4, c5, _⟩ := h.one hi
    replace c1 : w.cell? ⟨g, i * 6 + 1, none⟩ = some (.int .i64 nd.tag) := c1
    replace c4 : w.cell? ⟨g, i * 6 + 4, none⟩ = some (.string nd.text) := c4
    replace c5 : w.cell? ⟨g, i * 6 + 5, none⟩ = some (.slice ka nd.kids.length kc) := c5
    clear h hw hA hg e hi c0 c2 c3
    by_cases ht : nd.tag = 0
    · rw [if_pos ht]
      have tb : (nd.tag == 0) = true := by simp [ht]
      clear ht
      go_enter Tryz.func143, Tryz.ntmps143
      go_wp2_with (first | (go_at_call 91; refine HAS.out.mono ?_; rintro e w' ⟨rfl, rfl⟩) | (go_at_call 99; refine HCH.out.mono ?_; rintro e w2 ⟨rfl, hx⟩))
      go_ret
      exact ⟨rfl, hx⟩
    · rw [if_neg ht]
      have tb : (nd.tag == 0) = false := by simpa using ht
      clear ht
      go_enter Tryz.func143, Tryz.ntmps143
      go_wp2_with (go_at_call 91; refine HAS.out.mono ?_; rintro e w' ⟨rfl, rfl⟩)
      go_ret
      exact ⟨rfl, Ext.refl _⟩
theorem rMay (h : RAt w rb T) {d : Nat → Nat} (hw : WF T d) (hA : AttrsOk T) (id at' : Int) : Calls Tryz.prog 102 #[.pointer (some ⟨rb, 0, none⟩), .agg #[.int .i64 id, .int .i64 at']] w (RVal (.bool (T.may id at')) w) := by
  have hlb := lengthOf_bound hw hA id
  have HLN := qh (fun (u : World) (x : Ext w u) => rLength (h.ext x) hw hA id)
  have HHS := qh (fun (u : World) (x : Ext w u) => RSame.val (rHas (h.ext x) id))
  obtain ⟨z, hz⟩ : ∃ z, T.may id at' = z := ⟨_, rfl⟩
  rw [hz]
  have hnone : T.get? id = none → T.lengthOf id = -1 := fun hg => by unfold Tr.lengthOf Tr.tagOf; rw [hg]; rfl
  obtain ⟨L, hL⟩ : ∃ L, T.lengthOf id = L := ⟨_, rfl⟩
  obtain ⟨hs, hhs⟩ : ∃ hs, (T.get? id).isSome = hs := ⟨_, rfl⟩
  rw [hL] at hlb HLN hnone
  rw [hhs] at HHS
  unfold Tr.may at hz
  rw [hL] at hz
  have hzz : (hs && (decide (0 ≤ at') && decide (at' ≤ L))) = z := by
    cases hg : T.get? id with
    | some nd => rw [← hhs, hg]; exact hz
    | none =>
      rw [← hhs, hg, ← hz, hnone hg]
      show false = _
      by_cases h0 : 0 ≤ at'
      · rw [decide_eq_false (show ¬ at' ≤ -1 by omega), Bool.and_false]
      · rw [decide_eq_false h0]; rfl
  have HZ := qh hzz
  have xm := (Ext.refl w).alloc (.cells #[.int .i64 id, .int .i64 at'] 43)
  have bm := heap_alloc_new w (.cells #[.int .i64 id, .int .i64 at'] 43)
  clear h hw hA hz hnone hL hhs hzz
  go_enter Tryz.func102, Tryz.ntmps102
  go_upto_region 1 with fail
  obtain ⟨B, hB⟩ : ∃ B, B = w.heap.size := ⟨_, rfl⟩
  obtain ⟨wm, hwm⟩ : ∃ wm : World, wm = w.alloc (.cells #[.int .i64 id, .int .i64 at'] 43) := ⟨_, rfl⟩
  rw [← hB] at bm ⊢
  rw [← hwm] at bm xm
  rw [← hwm]
  clear hwm hB
  have e0 := fun u : ExtOf wm => u.ext.cell (cellOf bm (i := 0) (v := .int .i64 id) rfl)
  have e1 := fun u : ExtOf wm => u.ext.cell (cellOf bm (i := 1) (v := .int .i64 at') rfl)
  have XM := qh xm
  clear bm xm
  have fin : ∀ u : World, Ext wm u → Ext w u := fun u x => XM.out.trans x
  have FIN := qh fin
  clear fin
  cases hs with
  | false =>
    have hz : z = false := by rw [← HZ.out]; rfl
    subst hz
    refine wp_region_ext (by kernel_rfl) (by kernel_rfl) ?_
    repeat (go_big_quiet_step (first | (go_at_call 91; exact inExt (HHS.out _ (XM.out.trans (ExtOf.ext _)))) | (go_at_call 143; exact inExt (HLN.out _ (XM.out.trans (ExtOf.ext _))))))
    refine wpQuiet_nil ?_
    rintro _ ⟨u, rfl⟩
    go_wp2_with fail
    go_ret
    exact ⟨rfl, FIN.out _ u.ext⟩
  | true =>
    by_cases h0 : 0 ≤ at'
    · by_cases h1 : at' ≤ L
      · have hz : z = true := by rw [← HZ.out, decide_eq_true h0, decide_eq_true h1]; rfl
        subst hz
        refine wp_region_ext (by kernel_rfl) (by kernel_rfl) ?_
        repeat (go_big_quiet_step (first | (go_at_call 91; exact inExt (HHS.out _ (XM.out.trans (ExtOf.ext _)))) | (go_at_call 143; exact inExt (HLN.out _ (XM.out.trans (ExtOf.ext _))))))
        refine wpQuiet_nil ?_
        rintro _ ⟨u, rfl⟩
        go_wp2_with fail
        go_ret
        exact ⟨rfl, FIN.out _ u.ext⟩
      · have hz : z = false := by rw [← HZ.out, decide_eq_false h1, Bool.and_false]; rfl
        subst hz
        refine wp_region_ext (by kernel_rfl) (by kernel_rfl) ?_
        repeat (go_big_quiet_step (first | (go_at_call 91; exact inExt (HHS.out _ (XM.out.trans (ExtOf.ext _)))) | (go_at_call 143; exact inExt (HLN.out _ (XM.out.trans (ExtOf.ext _))))))
        refine wpQuiet_nil ?_
        rintro _ ⟨u, rfl⟩
        go_wp2_with fail
        go_ret
        exact ⟨rfl, FIN.out _ u.ext⟩
    · have hz : z = false := by rw [← HZ.out, decide_eq_false h0]; rfl
      subst hz
      refine wp_region_ext (by kernel_rfl) (by kernel_rfl) ?_
      repeat (go_big_quiet_step (first | (go_at_call 91; exact inExt (HHS.out _ (XM.out.trans (ExtOf.ext _)))) | (go_at_call 143; exact inExt (HLN.out _ (XM.out.trans (ExtOf.ext _))))))
      refine wpQuiet_nil ?_
      rintro _ ⟨u, rfl⟩
      go_wp2_with fail
      go_ret
      exact ⟨rfl, FIN.out _ u.ext⟩
end
theorem RowP.at_ {w : World} {p : Nat → Prop} {e size n : Nat} {v : Value} {xs : List Value} (h : RowP w p e size v n xs) {k : Nat} {x : Value} (hk : xs[k]? = some x) :
    ∃ g cap cur, v = .slice (some ⟨g, 0, none⟩) n cap ∧ p g ∧ n ≤ cap ∧ w.heap[g]? = some (.cells cur e (0, 0)) ∧ cur[k]? = some x := by
  have hl := (List.getElem?_eq_some_iff.1 hk).1
  rcases h.2 with ⟨h0, _⟩ | ⟨g, cap, cur, h1, h2, h3, h4, h5, h6, h7⟩
  · have := h.1
    rw [h0, Nat.zero_mul] at this
    omega
  · refine ⟨g, cap, cur, h1, h2, h4, h3, ?_⟩
    rw [← h7, List.getElem?_take] at hk
    split at hk
    · rw [← Array.getElem?_toList]; exact hk
    · cases hk
theorem RowP.setOne {w : World} {p : Nat → Prop} {e size n : Nat} {v : Value} {xs : List Value} (h : RowP w p e size v n xs) {g k : Nat} (hg : v.ownBlock = some g) (x : Value) : RowP (w.setCell ⟨g, k, none⟩ x) p e size v n (xs.set k x) := by
  refine ⟨by rw [List.length_set]; exact h.1, ?_⟩
  rcases h.2 with h0 | ⟨g', cap, cur, h1, h2, h3, h4, h5, h6, h7⟩
  · exact .inl h0
  · rw [h1] at hg
    cases hg
    exact .inr ⟨g', cap, _, h1, h2, heap_setCell_same h3 x, h4, h5, by simpa using h6, by rw [Array.toList_setIfInBounds, List.take_set, h7]⟩
theorem RowP.lt_ {w : World} {p : Nat → Prop} {e size n : Nat} {v : Value} {xs : List Value} (h : RowP w p e size v n xs) : RowP w (fun g => p g ∧ g < w.heap.size) e size v n xs := by
  refine ⟨h.1, ?_⟩
  rcases h.2 with h0 | ⟨g, cap, cur, h1, h2, h3, h4⟩
  · exact .inl h0
  · exact .inr ⟨g, cap, cur, h1, ⟨h2, (Array.getElem?_eq_some_iff.1 h3).1⟩, h3, h4⟩
def plC (P : List (Int × Int)) : List Value := P.flatMap fun p => [.int .i64 p.1, .int .i64 p.2]
theorem plC_get {P : List (Int × Int)} {i : Nat} {p : Int × Int} (h : P[i]? = some p) : (plC P)[i * 2]? = some (.int .i64 p.1) ∧ (plC P)[i * 2 + 1]? = some (.int .i64 p.2) := by
  induction P generalizing i with
  | nil => cases h
  | cons q L ih =>
    cases i with
    | zero =>
      have : q = p := by simpa using h
      subst this
      exact ⟨rfl, rfl⟩
    | succ i =>
      have h2 := ih (i := i) (by simpa using h)
      show ([_, _] ++ plC L)[(i + 1) * 2]? = _ ∧ ([_, _] ++ plC L)[(i + 1) * 2 + 1]? = _
      rw [List.getElem?_append_right (by simp; omega), List.getElem?_append_right (by simp; omega)]
      rw [show (i + 1) * 2 - [Value.int IntKind.i64 q.1, Value.int IntKind.i64 q.2].length = i * 2 by simp; omega, show (i + 1) * 2 + 1 - [Value.int IntKind.i64 q.1, Value.int IntKind.i64 q.2].length = i * 2 + 1 by simp; omega]
      exact h2
theorem plC_set {P : List (Int × Int)} {i : Nat} {p : Int × Int} (hi : i < P.length) : ((plC P).set (i * 2) (.int .i64 p.1)).set (i * 2 + 1) (.int .i64 p.2) = plC (P.set i p) := by
  induction P generalizing i with
  | nil => cases hi
  | cons q L ih =>
    cases i with
    | zero => rfl
    | succ i =>
      have h2 := ih (i := i) (by simpa using hi)
      show ((Value.int IntKind.i64 q.1 :: Value.int IntKind.i64 q.2 :: plC L).set ((i + 1) * 2) _).set ((i + 1) * 2 + 1) _ = Value.int IntKind.i64 q.1 :: Value.int IntKind.i64 q.2 :: plC (L.set i p)
      rw [show (i + 1) * 2 = i * 2 + 1 + 1 by omega]
      simp only [List.set_cons_succ]
      rw [h2]
theorem plC_append (a b : List (Int × Int)) : plC (a ++ b) = plC a ++ plC b := List.flatMap_append
theorem rOut {w : World} {v : Value} {l : List Int} (h : RowRd w 1 v l.length (l.map (Value.int .i64))) (hl : l.length ≤ 100) (hok : ∀ x ∈ l, okI x) :
    Calls Tryz.prog 149 #[v] w (RSame (.bool false) w) := by
  obtain ⟨_, ao, cap, rfl, hcap, hnone, hc⟩ := h
  have HN := qh hnone
  have HC := qh hc
  have HO := qh hok
  obtain ⟨m, hm⟩ : ∃ m, l.length = m := ⟨_, rfl⟩
  have HM := qh hm
  rw [hm] at hl hcap ⊢
  clear hnone hc hok hm
  go_enter Tryz.func149, Tryz.ntmps149
  go_wp2_with fail
  go_loopw [3] (fun iv wr => ∃ i : Nat, i ≤ m ∧ iv = .int .i64 i ∧ wr = w) (fun iv _ => m - (intOf iv).toNat)
  case atStart => exact ⟨0, Nat.zero_le _, rfl, rfl⟩
  case round =>
    obtain ⟨i, him, rfl, rfl⟩ := hrel
    by_cases hlt : i < m
    · obtain ⟨x, hx⟩ : ∃ x, l[i]? = some x := ⟨_, List.getElem?_eq_getElem (by rw [HM.out]; exact hlt)⟩
      obtain ⟨a, rfl⟩ : ∃ a, ao = some a := by
        cases ao with
        | some a => exact ⟨a, rfl⟩
        | none => have := (HN.out rfl).1; have := HM.out; omega
      have q0 := HC.out a rfl i (.int .i64 x) (by rw [List.getElem?_map, hx]; rfl)
      have hxo := HO.out x (List.mem_of_getElem? hx)
      have f0 : decide (x < -1) = false := decide_eq_false (by unfold okI at hxo; omega)
      have f1 : decide (1073741824 < x) = false := decide_eq_false (by unfold okI at hxo; omega)
      have e0 : decide ((i : Int) < (m : Int)) = true := decide_eq_true (by omega)
      have e0n : decide (i < m) = true := decide_eq_true hlt
      have i0 : (0 : Int) ≤ (i : Int) := by omega
      have i1 : (i : Int) < (m : Int) := by omega
      have itn : (i : Int).toNat = i := by omega
      have HLT := qh hlt
      clear hx hxo hlt
      go_wp2_with fail
      go_roundw
      case rel => exact ⟨i + 1, by have := HLT.out; omega, by go_num, trivial⟩
      case measure => have := HLT.out; simp [intOf]; omega
    · have e0 : decide ((i : Int) < (m : Int)) = false := decide_eq_false (by omega)
      have e0n : decide (i < m) = false := decide_eq_false hlt
      go_wp2_with fail
      go_ret
      exact ⟨rfl, rfl⟩
theorem RefOn.lt {w : World} {F : Nat → Prop} {rb : Nat} {T : Tr} (h : RefOn w F rb T) : RefOn w (fun b => F b ∧ b < w.heap.size) rb T := by
  obtain ⟨ga, g, h, h1, h2, h3⟩ := h.out
  obtain ⟨cap, cur, b1, b2, b3, b4, b5, b6⟩ := h.row
  exact ⟨ga, g, h, ⟨h1, (Array.getElem?_eq_some_iff.1 b1).1⟩, ⟨h2, (Array.getElem?_eq_some_iff.1 b4).1⟩, fun q y hq => ⟨h3 q y hq, World.block_lt_of_cell? _ _ (h.told q y hq).1⟩⟩
theorem Chg.to_mv {F : Nat → Prop} {w w' : World} (h : Chg F w w') : Mv F w w' := ⟨h.os, h.tape, h.output, h.size, h.rest⟩
structure DocOn (w : World) (F : Nat → Prop) (xb rb : Nat) (T : Tr) (I : List Int) (P : List (Int × Int)) : Prop where
  len : P.length = I.length
  own : F xb
  out : ∃ F0 iv pv ib pb, RefOn w F0 rb T ∧ (∀ b, F0 b → F b ∧ b ≠ xb ∧ ib ≠ some b ∧ pb ≠ some b ∧ b < w.heap.size) ∧
    w.heap[xb]? = some (.cells #[.pointer (some ⟨rb, 0, none⟩), iv, pv] 76 (0, 0)) ∧
    RowP w (fun g => ib = some g) 3 1 iv I.length (I.map (Value.int .i64)) ∧ (∀ g, ib = some g → F g ∧ g ≠ xb ∧ pb ≠ some g ∧ g < w.heap.size) ∧
    RowP w (fun g => pb = some g) 43 2 pv P.length (plC P) ∧ (∀ g, pb = some g → F g ∧ g ≠ xb ∧ g < w.heap.size)
structure DAft (F : Nat → Prop) (w : World) (xb rb : Nat) (T : Tr) (I : List Int) (P : List (Int × Int)) (w' : World) : Prop where
  on : DocOn w' (fun b => F b ∨ w.heap.size ≤ b) xb rb T I P
  mv : Mv F w w'
section
variable {w w' : World} {F : Nat → Prop} {xb rb : Nat} {T : Tr} {I : List Int} {P : List (Int × Int)}
theorem DocOn.wide (h : DocOn w F xb rb T I P) {F' : Nat → Prop} (k : ∀ b, F b → F' b) : DocOn w F' xb rb T I P := by
  obtain ⟨F0, iv, pv, ib, pb, h1, h2, h3, h4, h5, h6, h7⟩ := h.out
  exact ⟨h.len, k _ h.own, F0, iv, pv, ib, pb, h1, fun b hb => ⟨k _ (h2 b hb).1, (h2 b hb).2⟩, h3, h4, fun g hg => ⟨k _ (h5 g hg).1, (h5 g hg).2⟩, h6, fun g hg => ⟨k _ (h7 g hg).1, (h7 g hg).2⟩⟩
theorem DocOn.mv {S : Nat → Prop} (h : DocOn w F xb rb T I P) (x : Mv S w w') (k : ∀ b, F b → ¬ S b) : DocOn w' F xb rb T I P := by
  obtain ⟨F0, iv, pv, ib, pb, h1, h2, h3, h4, h5, h6, h7⟩ := h.out
  exact ⟨h.len, h.own, F0, iv, pv, ib, pb, h1.keep fun b hb hl => x.rest b hl (k b (h2 b hb).1), fun b hb => ⟨(h2 b hb).1, (h2 b hb).2.1, (h2 b hb).2.2.1, (h2 b hb).2.2.2.1, Nat.lt_of_lt_of_le (h2 b hb).2.2.2.2 x.size⟩,
    x.block h3 (k _ h.own), RowP.mv h4 x fun g hg => k g (h5 g hg).1, fun g hg => ⟨(h5 g hg).1, (h5 g hg).2.1, (h5 g hg).2.2.1, Nat.lt_of_lt_of_le (h5 g hg).2.2.2 x.size⟩, RowP.mv h6 x fun g hg => k g (h7 g hg).1, fun g hg => ⟨(h7 g hg).1, (h7 g hg).2.1, Nat.lt_of_lt_of_le (h7 g hg).2.2 x.size⟩⟩
theorem DocOn.ext (h : DocOn w F xb rb T I P) (x : Ext w w') : DocOn w' F xb rb T I P := h.mv (S := fun _ => False) (Mv.ofExt x) fun _ _ h => h
theorem DAft.refl (h : DocOn w F xb rb T I P) : DAft F w xb rb T I P w := ⟨h.wide fun b hb => .inl hb, Mv.refl _ _⟩
theorem DAft.ext (h : DAft F w xb rb T I P w') {w2 : World} (x : Ext w' w2) : DAft F w xb rb T I P w2 := ⟨h.on.ext x, h.mv.ext x⟩
theorem DAft.after {w0 : World} (x : Ext w0 w) (h : DAft F w xb rb T I P w') : DAft F w0 xb rb T I P w' :=
  ⟨h.on.wide fun y hy => by rcases hy with hy | hy; exact .inl hy; exact .inr (Nat.le_trans x.size hy), (Mv.ofExt x).trans h.mv⟩
theorem DAft.trans {T' : Tr} {I' : List Int} {P' : List (Int × Int)} {w2 : World} (h : DAft F w xb rb T I P w') (k : DAft (fun b => F b ∨ w.heap.size ≤ b) w' xb rb T' I' P' w2) : DAft F w xb rb T' I' P' w2 :=
  ⟨k.on.wide fun y hy => by rcases hy with hy | hy; exact hy; exact .inr (Nat.le_trans h.mv.size hy),
    ⟨k.mv.os.trans h.mv.os, k.mv.tape.trans h.mv.tape, k.mv.output.trans h.mv.output, Nat.le_trans h.mv.size k.mv.size, fun x hx hn => (k.mv.rest x (Nat.lt_of_lt_of_le hx h.mv.size) (fun hf => by rcases hf with hf | hf; exact hn hf; omega)).trans (h.mv.rest x hx hn)⟩⟩
theorem DocOn.ref (h : DocOn w F xb rb T I P) : RAt w rb T := by
  obtain ⟨F0, iv, pv, ib, pb, h1, _⟩ := h.out
  exact h1.at
theorem DocOn.ptr_ (h : DocOn w F xb rb T I P) : w.cell? ⟨xb, 0, none⟩ = some (.pointer (some ⟨rb, 0, none⟩)) := by
  obtain ⟨F0, iv, pv, ib, pb, _, _, h3, _⟩ := h.out
  exact cellOf h3 rfl
theorem DocOn.tree (h : DocOn w F xb rb T I P) : ∃ F0, RefOn w F0 rb T ∧ (∀ b, F0 b → F b) ∧ ∀ T' w', RAft F0 w rb T' w' → DAft F w xb rb T' I P w' := by
  obtain ⟨F0, iv, pv, ib, pb, h1, h2, h3, h4, h5, h6, h7⟩ := h.out
  refine ⟨F0, h1, fun b hb => (h2 b hb).1, fun T' w' hr => ?_⟩
  have hm : Mv F0 w w' := hr.chg.to_mv
  have hxl := (Array.getElem?_eq_some_iff.1 h3).1
  have nx : ¬ F0 xb := fun hf => (h2 xb hf).2.1 rfl
  have ni : ∀ g, ib = some g → ¬ F0 g := fun g hg hf => (h2 g hf).2.2.1 hg
  have np : ∀ g, pb = some g → ¬ F0 g := fun g hg hf => (h2 g hf).2.2.2.1 hg
  refine ⟨⟨h.len, .inl h.own, (fun b => (F0 b ∨ w.heap.size ≤ b) ∧ b < w'.heap.size), iv, pv, ib, pb, hr.on.lt, fun b hb => ⟨?_, ?_, ?_, ?_, hb.2⟩, hm.block h3 nx, RowP.mv h4 hm ni, fun g hg => ⟨.inl (h5 g hg).1, (h5 g hg).2.1, (h5 g hg).2.2.1, Nat.lt_of_lt_of_le (h5 g hg).2.2.2 hm.size⟩, RowP.mv h6 hm np, fun g hg => ⟨.inl (h7 g hg).1, (h7 g hg).2.1, Nat.lt_of_lt_of_le (h7 g hg).2.2 hm.size⟩⟩, ⟨hm.os, hm.tape, hm.output, hm.size, fun x hx hn => hm.rest x hx fun hf => hn (h2 x hf).1⟩⟩
  · rcases hb.1 with hf | hf
    · exact .inl (h2 b hf).1
    · exact .inr hf
  · rcases hb.1 with hf | hf
    · exact (h2 b hf).2.1
    · omega
  · rcases hb.1 with hf | hf
    · exact (h2 b hf).2.2.1
    · intro e
      have := (h5 b e).2.2.2
      omega
  · rcases hb.1 with hf | hf
    · exact (h2 b hf).2.2.2.1
    · intro e
      have := (h7 b e).2.2
      omega
theorem DocOn.setI (h : DocOn w F xb rb T I P) {iv : Value} (hiv : w.cell? ⟨xb, 1, none⟩ = some iv) {g k : Nat} (hg : iv.ownBlock = some g) (hk : k < I.length) (x : Int) : DocOn (w.setCell ⟨g, k, none⟩ (.int .i64 x)) F xb rb T (I.set k x) P ∧ F g := by
  obtain ⟨F0, iv', pv, ib, pb, h1, h2, h3, h4, h5, h6, h7⟩ := h.out
  have e : iv' = iv := by
    rw [cellOf h3 (i := 1) rfl] at hiv
    exact Option.some.inj hiv
  subst e
  have hib : ib = some g := by
    rcases h4.2 with ⟨h0, _⟩ | ⟨g', cap, cur, q1, q2, _⟩
    · omega
    · rw [q1] at hg; cases hg; exact q2
  obtain ⟨fg, gx, gp, gl⟩ := h5 g hib
  have hm : Mv (fun b => b = g) w (w.setCell ⟨g, k, none⟩ (.int .i64 x)) := (Mv.refl (fun b => b = g) w).setCell (p := ⟨g, k, none⟩) (fun _ => rfl) _
  have h4' := RowP.setOne h4 hg (.int .i64 x) (k := k)
  rw [← List.map_set] at h4'
  refine ⟨⟨by rw [List.length_set]; exact h.len, h.own, F0, iv', pv, ib, pb, h1.keep fun b hb hl => hm.rest b hl fun e => (h2 b hb).2.2.1 (by rw [hib, e]), fun b hb => ⟨(h2 b hb).1, (h2 b hb).2.1, (h2 b hb).2.2.1, (h2 b hb).2.2.2.1, Nat.lt_of_lt_of_le (h2 b hb).2.2.2.2 hm.size⟩,
    hm.block h3 (fun e => gx e.symm), by rw [List.length_set]; exact h4', fun y hy => ⟨(h5 y hy).1, (h5 y hy).2.1, (h5 y hy).2.2.1, Nat.lt_of_lt_of_le (h5 y hy).2.2.2 hm.size⟩, RowP.mv h6 hm fun y hy e => gp (by rw [hy]; exact congrArg some e), fun y hy => ⟨(h7 y hy).1, (h7 y hy).2.1, Nat.lt_of_lt_of_le (h7 y hy).2.2 hm.size⟩⟩, fg⟩
theorem DocOn.setP (h : DocOn w F xb rb T I P) {pv : Value} (hpv : w.cell? ⟨xb, 2, none⟩ = some pv) {g k : Nat} (hg : pv.ownBlock = some g) (hk : k < P.length) (n a : Int) :
    DocOn ((w.setCell ⟨g, k * 2, none⟩ (.int .i64 n)).setCell ⟨g, k * 2 + 1, none⟩ (.int .i64 a)) F xb rb T I (P.set k (n, a)) ∧ F g := by
  obtain ⟨F0, iv, pv', ib, pb, h1, h2, h3, h4, h5, h6, h7⟩ := h.out
  have e : pv' = pv := by
    rw [cellOf h3 (i := 2) rfl] at hpv
    exact Option.some.inj hpv
  subst e
  have hpb : pb = some g := by
    rcases h6.2 with ⟨h0, _⟩ | ⟨g', cap, cur, q1, q2, _⟩
    · omega
    · rw [q1] at hg; cases hg; exact q2
  obtain ⟨fg, gx, gl⟩ := h7 g hpb
  have hm : Mv (fun b => b = g) w ((w.setCell ⟨g, k * 2, none⟩ (.int .i64 n)).setCell ⟨g, k * 2 + 1, none⟩ (.int .i64 a)) := ((Mv.refl (fun b => b = g) w).setCell (p := ⟨g, k * 2, none⟩) (fun _ => rfl) _).setCell (p := ⟨g, k * 2 + 1, none⟩) (fun _ => rfl) _
  have h6' := RowP.setOne (RowP.setOne h6 hg (.int .i64 n) (k := k * 2)) hg (.int .i64 a) (k := k * 2 + 1)
  have hs := plC_set (p := (n, a)) hk
  dsimp only at hs
  rw [hs] at h6'
  refine ⟨⟨by rw [List.length_set]; exact h.len, h.own, F0, iv, pv', ib, pb, h1.keep fun b hb hl => hm.rest b hl fun e => (h2 b hb).2.2.2.1 (by rw [hpb, e]), fun b hb => ⟨(h2 b hb).1, (h2 b hb).2.1, (h2 b hb).2.2.1, (h2 b hb).2.2.2.1, Nat.lt_of_lt_of_le (h2 b hb).2.2.2.2 hm.size⟩,
    hm.block h3 (fun e => gx e.symm), RowP.mv h4 hm fun y hy e => (h5 y hy).2.2.1 (by rw [hpb]; exact congrArg some (show g = y from e.symm)), fun y hy => ⟨(h5 y hy).1, (h5 y hy).2.1, (h5 y hy).2.2.1, Nat.lt_of_lt_of_le (h5 y hy).2.2.2 hm.size⟩, by rw [List.length_set]; exact h6', fun y hy => ⟨(h7 y hy).1, (h7 y hy).2.1, Nat.lt_of_lt_of_le (h7 y hy).2.2 hm.size⟩⟩, fg⟩
end
def five (a b c d e : Int) : Value := .agg #[.int .i64 a, .int .i64 b, .int .i64 c, .int .i64 d, .int .i64 e]
theorem four_new (w : World) (A B C D : Array Value) (ta tb tc td : TypeId) : ∃ (wd : World) (b0 b1 b2 b3 : Nat), w.heap.size = b0 ∧ b0 + 1 = b1 ∧ b1 + 1 = b2 ∧ b2 + 1 = b3 ∧ wd = (((w.alloc (.cells A ta)).alloc (.cells B tb)).alloc (.cells C tc)).alloc (.cells D td) ∧ Ext w wd ∧
    wd.heap[b0]? = some (.cells A ta (0, 0)) ∧ wd.heap[b1]? = some (.cells B tb (0, 0)) ∧ wd.heap[b2]? = some (.cells C tc (0, 0)) ∧ wd.heap[b3]? = some (.cells D td (0, 0)) ∧ wd.heap.size = b3 + 1 := by
  have x1 := (Ext.refl w).alloc (.cells A ta)
  have x2 := (Ext.refl (w.alloc (.cells A ta))).alloc (.cells B tb)
  have x3 := (Ext.refl ((w.alloc (.cells A ta)).alloc (.cells B tb))).alloc (.cells C tc)
  have x4 := (Ext.refl (((w.alloc (.cells A ta)).alloc (.cells B tb)).alloc (.cells C tc))).alloc (.cells D td)
  have h1 := heap_alloc_new w (.cells A ta)
  have h2 := heap_alloc_new (w.alloc (.cells A ta)) (.cells B tb)
  have h3 := heap_alloc_new ((w.alloc (.cells A ta)).alloc (.cells B tb)) (.cells C tc)
  have h4 := heap_alloc_new (((w.alloc (.cells A ta)).alloc (.cells B tb)).alloc (.cells C tc)) (.cells D td)
  have s1 : (w.alloc (.cells A ta)).heap.size = w.heap.size + 1 := by simp
  have s2 : ((w.alloc (.cells A ta)).alloc (.cells B tb)).heap.size = w.heap.size + 1 + 1 := by simp
  have s3 : (((w.alloc (.cells A ta)).alloc (.cells B tb)).alloc (.cells C tc)).heap.size = w.heap.size + 1 + 1 + 1 := by simp
  rw [s1] at h2
  rw [s2] at h3
  rw [s3] at h4
  exact ⟨_, _, _, _, _, rfl, rfl, rfl, rfl, rfl, x1.trans (x2.trans (x3.trans x4)), (x2.trans (x3.trans x4)).block h1, (x3.trans x4).block h2, x4.block h3, h4, by simp⟩
theorem rChange0 (n at' a b c d e : Int) (w : World) (o0 : okI n) (o1 : okI at') (o2 : okI a) (o3 : okI b) (o4 : okI c) : Calls Tryz.prog 135 #[pl n at', .int .i64 0, five a b c d e] w (RPlace (n) (insA n at' a b c) w) := by
  unfold five
  obtain ⟨wd, b0, b1, b2, b3, hb0, hb1, hb2, hb3, hwd, xd, h0, h1, h2, h3, hsz⟩ := four_new w #[.int .i64 n, .int .i64 at'] #[.int .i64 a, .int .i64 b, .int .i64 c, .int .i64 d, .int .i64 e] #[.int .i64 0, .int .i64 0] #[.int .i64 3, .int .i64 2, .int .i64 2, .int .i64 4, .int .i64 5, .int .i64 5, .int .i64 5, .int .i64 4, .int .i64 4, .int .i64 4] 43 128 43 3
  obtain ⟨za, hza⟩ : ∃ z, insA n at' a b c = z := ⟨_, rfl⟩
  rw [hza]
  have HZA := qh hza
  clear hza
  have HB0 := qh hb0
  have HB1 := qh hb1
  have HB2 := qh hb2
  have HB3 := qh hb3
  have HWD := qh hwd
  have XD := qh xd
  have H0 := qh h0
  have H1 := qh h1
  have H2 := qh h2
  have H3 := qh h3
  have HSZ := qh hsz
  have OK : Hid (∀ x ∈ [n, at', a, b, c], okI x) := qh (by
    intro x hx
    simp only [List.mem_cons, List.not_mem_nil, or_false] at hx
    rcases hx with rfl | rfl | rfl | rfl | rfl
    all_goals assumption)
  clear hb0 hb1 hb2 hb3 hwd xd h0 h1 h2 h3 hsz o0 o1 o2 o3 o4
  go_enter Tryz.func135, Tryz.ntmps135
  go_upto_region 2 with fail
  rw [← HWD.out, HB0.out, HB1.out, HB2.out, HB3.out]
  have m0 := cellOf H0.out (i := 0) (v := .int .i64 n) rfl
  have m1 := cellOf H0.out (i := 1) (v := .int .i64 at') rfl
  have m2 := cellOf H3.out (i := 0) (v := .int .i64 3) rfl
  refine wp_region_E (S := fun w' => w'.cell? ⟨b0, 0, none⟩ = some (.int .i64 n) ∧ w'.cell? ⟨b0, 1, none⟩ = some (.int .i64 at') ∧ w'.cell? ⟨b3, 0, none⟩ = some (.int .i64 3)) (n := 11) (by kernel_rfl) ?_
  have xz : Ext wd wd.drew := (Ext.refl wd).drew
  have sz : wd.drew.heap.size = wd.heap.size := rfl
  obtain ⟨wz, hwz⟩ : ∃ W : World, W = wd.drew := ⟨_, rfl⟩
  rw [← hwz] at xz sz ⊢
  clear hwz
  have hS : wz.cell? ⟨b0, 0, none⟩ = some (.int .i64 n) ∧ wz.cell? ⟨b0, 1, none⟩ = some (.int .i64 at') ∧ wz.cell? ⟨b3, 0, none⟩ = some (.int .i64 3) := ⟨xz.cell m0, xz.cell m1, xz.cell m2⟩
  obtain ⟨v8, wA, row, hrun, hra, hga, hrow⟩ := append_ints (w := wz.alloc (.cells #[.int .i64 n, .int .i64 at'] 3)) (B := wz.heap.size) (v := .slice (some ⟨wz.heap.size, 0, none⟩) 2 2) (n := 2) (xs := [.int .i64 n, .int .i64 at']) ⟨rfl, .inr ⟨_, 2, _, rfl, Nat.le_refl _, heap_alloc_new _ _, Nat.le_refl _, by decide, rfl, rfl⟩⟩
    (u := .slice (some ⟨b1, 0, none⟩) 3 5) (m := 3) (ys := [.int .i64 a, .int .i64 b, .int .i64 c]) (RowRd.front (j := 3) (RowP.rd (p := fun _ => True) (e := 128) (size := 1) (v := .slice (some ⟨b1, 0, none⟩) 5 5) (n := 5) (xs := [.int .i64 a, .int .i64 b, .int .i64 c, .int .i64 d, .int .i64 e]) ⟨rfl, .inr ⟨b1, 5, _, rfl, trivial, ((xz.alloc _).block H1.out), Nat.le_refl _, by decide, rfl, rfl⟩⟩) (by decide)) (by omega) (by simp [Value.oneCell'])
  have hrd : RowRd wA 1 v8 5 ([n, at', a, b, c].map (Value.int .i64)) := hra.rd
  have xA : Ext wd wA := (xz.alloc (.cells #[.int .i64 n, .int .i64 at'] 3)).grown hga (fun k hk => by have := hrow k hk; omega)
  have HRUN := qh hrun
  have HRD := qh hrd
  have XA := qh xA
  clear hrun hrd xA hra hga hrow sz
  show wpE _ _ _ _ _ 11 12 (Array.replicate 12 false) _ _
  refine wpE_tk 0 16 (.pointer (some ⟨b0, 0, none⟩)) rfl (.inl ⟨by rfl, fun w' hSw => ?_⟩) hS ?_
  · (obtain ⟨s1, s2, s3⟩ := hSw; clear hS; go_simp)
  try simp only [Act.put, zA, zB, zC]
  refine wpE_tk 1 17 (.int .i64 n) rfl (.inl ⟨by rfl, fun w' hSw => ?_⟩) hS ?_
  · (obtain ⟨s1, s2, s3⟩ := hSw; clear hS; go_simp)
  try simp only [Act.put, zA, zB, zC]
  refine wpE_tk 2 18 (.pointer (some ⟨b0, 1, none⟩)) rfl (.inl ⟨by rfl, fun w' hSw => ?_⟩) hS ?_
  · (obtain ⟨s1, s2, s3⟩ := hSw; clear hS; go_simp)
  try simp only [Act.put, zA, zB, zC]
  refine wpE_tk 3 19 (.int .i64 at') rfl (.inl ⟨by rfl, fun w' hSw => ?_⟩) hS ?_
  · (obtain ⟨s1, s2, s3⟩ := hSw; clear hS; go_simp)
  try simp only [Act.put, zA, zB, zC]
  refine wpE_tk 5 21 (.slice (some ⟨b3, 0, none⟩) 10 10) rfl (.inl ⟨by rfl, fun w' hSw => ?_⟩) hS ?_
  · (obtain ⟨s1, s2, s3⟩ := hSw; clear hS; go_simp)
  try simp only [Act.put, zA, zB, zC]
  refine wpE_tk 6 22 (.int .i64 0) rfl (.inl ⟨by rfl, fun w' hSw => ?_⟩) hS ?_
  · (obtain ⟨s1, s2, s3⟩ := hSw; clear hS; go_simp)
  try simp only [Act.put, zA, zB, zC]
  refine wpE_tk 7 23 (.pointer (some ⟨b3, 0, none⟩)) rfl (.inl ⟨by rfl, fun w' hSw => ?_⟩) hS ?_
  · (obtain ⟨s1, s2, s3⟩ := hSw; clear hS; go_simp)
  try simp only [Act.put, zA, zB, zC]
  refine wpE_tk 8 24 (.int .i64 3) rfl (.inl ⟨by rfl, fun w' hSw => ?_⟩) hS ?_
  · (obtain ⟨s1, s2, s3⟩ := hSw; clear hS; go_simp)
  try simp only [Act.put, zA, zB, zC]
  refine wpE_tk 9 25 (.slice (some ⟨b1, 0, none⟩) 3 5) rfl (.inl ⟨by rfl, fun w' hSw => ?_⟩) hS ?_
  · (obtain ⟨s1, s2, s3⟩ := hSw; clear hS; go_simp)
  try simp only [Act.put, zA, zB, zC]
  refine wpE_on 4 (some 20) rfl (fun K hK => ?_)
  go_simp
  refine hK.out _ _ (.inr ⟨((Ext.refl wz).alloc (.cells #[.int .i64 n, .int .i64 at'] 3)).cell hS.1, ((Ext.refl wz).alloc (.cells #[.int .i64 n, .int .i64 at'] 3)).cell hS.2.1, ((Ext.refl wz).alloc (.cells #[.int .i64 n, .int .i64 at'] 3)).cell hS.2.2⟩) ?_
  clear hK K
  try simp only [Act.put, zA, zB, zC]
  refine wpE_on 10 (some 26) rfl (fun K hK => ?_)
  refine step_append_run (by rfl) _ _ 40 (by rfl) (.slice (some ⟨wz.heap.size, 0, none⟩) 2 2) (.slice (some ⟨b1, 0, none⟩) 3 5) (by rfl) (by rfl) v8 wA HRUN.out ?_
  refine hK.out _ _ (.inr ⟨XA.out.cell m0, XA.out.cell m1, XA.out.cell m2⟩) ?_
  clear hK K
  try simp only [Act.put, zA, zB, zC]
  refine wpE_on 11 (some 8) rfl (fun K hK => ?_)
  go_simp
  refine hK.out _ _ (.inl rfl) ?_
  clear hK K
  try simp only [Act.put, zA, zB, zC]
  refine wpE_done (by kernel_rfl) ?_
  clear m0 m1 m2 hS xz HRUN
  go_upto_region 5 with (go_at_call 149; refine (rOut (l := [n, at', a, b, c]) HRD.out (by simp) OK.out).mono ?_; rintro e w9 ⟨rfl, rfl⟩)
  have r0 : ∀ u : ExtOf wA, u.val.cell? ⟨b1, 0, none⟩ = some (.int .i64 a) := fun u => (XA.out.trans u.ext).cell (cellOf H1.out rfl)
  have r1 : ∀ u : ExtOf wA, u.val.cell? ⟨b1, 1, none⟩ = some (.int .i64 b) := fun u => (XA.out.trans u.ext).cell (cellOf H1.out rfl)
  have r2 : ∀ u : ExtOf wA, u.val.cell? ⟨b1, 2, none⟩ = some (.int .i64 c) := fun u => (XA.out.trans u.ext).cell (cellOf H1.out rfl)
  have r3 : ∀ u : ExtOf wA, u.val.cell? ⟨b1, 3, none⟩ = some (.int .i64 d) := fun u => (XA.out.trans u.ext).cell (cellOf H1.out rfl)
  have r4 : ∀ u : ExtOf wA, u.val.cell? ⟨b1, 4, none⟩ = some (.int .i64 e) := fun u => (XA.out.trans u.ext).cell (cellOf H1.out rfl)
  refine wp_region_ext (by kernel_rfl) (by kernel_rfl) ?_
  repeat (go_big_quiet_step (fail))
  refine wpQuiet_nil ?_
  rintro _ ⟨u, rfl⟩
  have x5 : Ext wd u.val := XA.out.trans u.ext
  obtain ⟨w5, hw5⟩ : ∃ W, u.val = W := ⟨_, rfl⟩
  rw [hw5] at x5 ⊢
  clear r0 r1 r2 r3 r4 hw5
  clear u
  have m0 := x5.cell (cellOf H0.out (i := 0) (v := .int .i64 n) rfl)
  have m1 := x5.cell (cellOf H0.out (i := 1) (v := .int .i64 at') rfl)
  go_upto_region 7 with fail
  have x6 := x5.alloc (.cells #[.int .i64 n, .int .i64 at'] 43)
  have hb4 := heap_alloc_new w5 (.cells #[.int .i64 n, .int .i64 at'] 43)
  have hs4 : wd.heap.size ≤ w5.heap.size := x5.size
  obtain ⟨w6, hw6⟩ : ∃ W : World, W = w5.alloc (.cells #[.int .i64 n, .int .i64 at'] 43) := ⟨_, rfl⟩
  obtain ⟨b4, hb4e⟩ : ∃ b, w5.heap.size = b := ⟨_, rfl⟩
  rw [← hw6] at x6 hb4 ⊢
  rw [hb4e] at hb4 hs4 ⊢
  clear hw6 hb4e m0 m1 x5
  have XF := qh (XD.out.trans x6)
  have l2 : b2 < b4 := by have := HSZ.out; have := HB3.out; omega
  have z2 : w.heap.size ≤ b2 := by have := HB0.out; have := HB1.out; have := HB2.out; omega
  have z4 : w.heap.size ≤ b4 := by omega
  have c0 := x6.cell (cellOf H0.out (i := 0) (v := .int .i64 n) rfl)
  have c1 := x6.cell (cellOf H0.out (i := 1) (v := .int .i64 at') rfl)
  have c2 := x6.cell (cellOf H2.out (i := 0) (v := .int .i64 0) rfl)
  have c3 := x6.cell (cellOf H2.out (i := 1) (v := .int .i64 0) rfl)
  have f2 := x6.free (cell_lt (cellOf H2.out (i := 0) (v := .int .i64 0) rfl)) (freeOf H2.out 0)
  have f3 := x6.free (cell_lt (cellOf H2.out (i := 0) (v := .int .i64 0) rfl)) (freeOf H2.out 1)
  have c4 := cellOf hb4 (i := 0) (v := .int .i64 n) rfl
  have c5 := cellOf hb4 (i := 1) (v := .int .i64 at') rfl
  have f4 := freeOf hb4 0
  have f5 := freeOf hb4 1
  have l4 := cell_lt c4
  have n24 : b2 ≠ b4 := by omega
  have n04 : b0 ≠ b4 := by have := HB1.out; have := HB2.out; omega
  have l6 : b2 < w6.heap.size := cell_lt c2
  have ok0 := OK.out n (by simp)
  unfold okI at ok0
  obtain ⟨p0, q0⟩ := ok0
  have ok1 := OK.out at' (by simp)
  unfold okI at ok1
  obtain ⟨p1, q1⟩ := ok1
  have ok2 := OK.out a (by simp)
  unfold okI at ok2
  obtain ⟨p2, q2⟩ := ok2
  have ok3 := OK.out b (by simp)
  unfold okI at ok3
  obtain ⟨p3, q3⟩ := ok3
  have ok4 := OK.out c (by simp)
  unfold okI at ok4
  obtain ⟨p4, q4⟩ := ok4
  clear hb4 x6
  by_cases h1 : n = a
  · by_cases h2 : b < at'
    · have hz : za = at' + c := by rw [← HZA.out]; exact if_pos ⟨h1, h2⟩
      have HZ := qh hz
      have e1 : (n == a) = true := by simpa using h1
      have e1d : decide (n = a) = true := decide_eq_true h1
      have e2 : decide (b < at') = true := decide_eq_true h2
      clear h1 h2 hz
      go_wp2_with fail
      refine bodyPost_ret (v := pl (n) (at' + c)) (by simp [results, Tryz.results135, go_sem, c0, c1, c2, c3, c4, c5, n24, Ne.symm n24]) rfl ⟨?_, ?_⟩
      · rw [HZ.out]
      · repeat (first | exact XF.out | refine Ext.setCell ?_ (by simp; omega) _)
    · have hz : za = at' := by rw [← HZA.out]; exact if_neg (fun h => h2 h.2)
      have HZ := qh hz
      have e1 : (n == a) = true := by simpa using h1
      have e1d : decide (n = a) = true := decide_eq_true h1
      have e2 : decide (b < at') = false := decide_eq_false h2
      clear h1 h2 hz
      go_wp2_with fail
      refine bodyPost_ret (v := pl (n) (at')) (by simp [results, Tryz.results135, go_sem, c0, c1, c2, c3, c4, c5, n24, Ne.symm n24]) rfl ⟨?_, ?_⟩
      · rw [HZ.out]
      · repeat (first | exact XF.out | refine Ext.setCell ?_ (by simp; omega) _)
  · have hz : za = at' := by rw [← HZA.out]; exact if_neg (fun h => h1 h.1)
    have HZ := qh hz
    have e1 : (n == a) = false := by simpa using h1
    have e1d : decide (n = a) = false := decide_eq_false h1
    clear h1 hz
    go_wp2_with fail
    refine bodyPost_ret (v := pl (n) (at')) (by simp [results, Tryz.results135, go_sem, c0, c1, c2, c3, c4, c5, n24, Ne.symm n24]) rfl ⟨?_, ?_⟩
    · rw [HZ.out]
    · repeat (first | exact XF.out | refine Ext.setCell ?_ (by simp; omega) _)
theorem rChange1 (n at' a b c d e : Int) (w : World) (o0 : okI n) (o1 : okI at') (o2 : okI a) (o3 : okI b) : Calls Tryz.prog 135 #[pl n at', .int .i64 1, five a b c d e] w (RPlace (n) (remA n at' a b) w) := by
  unfold five
  obtain ⟨wd, b0, b1, b2, b3, hb0, hb1, hb2, hb3, hwd, xd, h0, h1, h2, h3, hsz⟩ := four_new w #[.int .i64 n, .int .i64 at'] #[.int .i64 a, .int .i64 b, .int .i64 c, .int .i64 d, .int .i64 e] #[.int .i64 0, .int .i64 0] #[.int .i64 3, .int .i64 2, .int .i64 2, .int .i64 4, .int .i64 5, .int .i64 5, .int .i64 5, .int .i64 4, .int .i64 4, .int .i64 4] 43 128 43 3
  obtain ⟨za, hza⟩ : ∃ z, remA n at' a b = z := ⟨_, rfl⟩
  rw [hza]
  have HZA := qh hza
  clear hza
  have HB0 := qh hb0
  have HB1 := qh hb1
  have HB2 := qh hb2
  have HB3 := qh hb3
  have HWD := qh hwd
  have XD := qh xd
  have H0 := qh h0
  have H1 := qh h1
  have H2 := qh h2
  have H3 := qh h3
  have HSZ := qh hsz
  have OK : Hid (∀ x ∈ [n, at', a, b], okI x) := qh (by
    intro x hx
    simp only [List.mem_cons, List.not_mem_nil, or_false] at hx
    rcases hx with rfl | rfl | rfl | rfl
    all_goals assumption)
  clear hb0 hb1 hb2 hb3 hwd xd h0 h1 h2 h3 hsz o0 o1 o2 o3
  go_enter Tryz.func135, Tryz.ntmps135
  go_upto_region 2 with fail
  rw [← HWD.out, HB0.out, HB1.out, HB2.out, HB3.out]
  have m0 := cellOf H0.out (i := 0) (v := .int .i64 n) rfl
  have m1 := cellOf H0.out (i := 1) (v := .int .i64 at') rfl
  have m2 := cellOf H3.out (i := 1) (v := .int .i64 2) rfl
  refine wp_region_E (S := fun w' => w'.cell? ⟨b0, 0, none⟩ = some (.int .i64 n) ∧ w'.cell? ⟨b0, 1, none⟩ = some (.int .i64 at') ∧ w'.cell? ⟨b3, 1, none⟩ = some (.int .i64 2)) (n := 11) (by kernel_rfl) ?_
  have xz : Ext wd wd.drew := (Ext.refl wd).drew
  have sz : wd.drew.heap.size = wd.heap.size := rfl
  obtain ⟨wz, hwz⟩ : ∃ W : World, W = wd.drew := ⟨_, rfl⟩
  rw [← hwz] at xz sz ⊢
  clear hwz
  have hS : wz.cell? ⟨b0, 0, none⟩ = some (.int .i64 n) ∧ wz.cell? ⟨b0, 1, none⟩ = some (.int .i64 at') ∧ wz.cell? ⟨b3, 1, none⟩ = some (.int .i64 2) := ⟨xz.cell m0, xz.cell m1, xz.cell m2⟩
  obtain ⟨v8, wA, row, hrun, hra, hga, hrow⟩ := append_ints (w := wz.alloc (.cells #[.int .i64 n, .int .i64 at'] 3)) (B := wz.heap.size) (v := .slice (some ⟨wz.heap.size, 0, none⟩) 2 2) (n := 2) (xs := [.int .i64 n, .int .i64 at']) ⟨rfl, .inr ⟨_, 2, _, rfl, Nat.le_refl _, heap_alloc_new _ _, Nat.le_refl _, by decide, rfl, rfl⟩⟩
    (u := .slice (some ⟨b1, 0, none⟩) 2 5) (m := 2) (ys := [.int .i64 a, .int .i64 b]) (RowRd.front (j := 2) (RowP.rd (p := fun _ => True) (e := 128) (size := 1) (v := .slice (some ⟨b1, 0, none⟩) 5 5) (n := 5) (xs := [.int .i64 a, .int .i64 b, .int .i64 c, .int .i64 d, .int .i64 e]) ⟨rfl, .inr ⟨b1, 5, _, rfl, trivial, ((xz.alloc _).block H1.out), Nat.le_refl _, by decide, rfl, rfl⟩⟩) (by decide)) (by omega) (by simp [Value.oneCell'])
  have hrd : RowRd wA 1 v8 4 ([n, at', a, b].map (Value.int .i64)) := hra.rd
  have xA : Ext wd wA := (xz.alloc (.cells #[.int .i64 n, .int .i64 at'] 3)).grown hga (fun k hk => by have := hrow k hk; omega)
  have HRUN := qh hrun
  have HRD := qh hrd
  have XA := qh xA
  clear hrun hrd xA hra hga hrow sz
  show wpE _ _ _ _ _ 11 12 (Array.replicate 12 false) _ _
  refine wpE_tk 0 16 (.pointer (some ⟨b0, 0, none⟩)) rfl (.inl ⟨by rfl, fun w' hSw => ?_⟩) hS ?_
  · (obtain ⟨s1, s2, s3⟩ := hSw; clear hS; go_simp)
  try simp only [Act.put, zA, zB, zC]
  refine wpE_tk 1 17 (.int .i64 n) rfl (.inl ⟨by rfl, fun w' hSw => ?_⟩) hS ?_
  · (obtain ⟨s1, s2, s3⟩ := hSw; clear hS; go_simp)
  try simp only [Act.put, zA, zB, zC]
  refine wpE_tk 2 18 (.pointer (some ⟨b0, 1, none⟩)) rfl (.inl ⟨by rfl, fun w' hSw => ?_⟩) hS ?_
  · (obtain ⟨s1, s2, s3⟩ := hSw; clear hS; go_simp)
  try simp only [Act.put, zA, zB, zC]
  refine wpE_tk 3 19 (.int .i64 at') rfl (.inl ⟨by rfl, fun w' hSw => ?_⟩) hS ?_
  · (obtain ⟨s1, s2, s3⟩ := hSw; clear hS; go_simp)
  try simp only [Act.put, zA, zB, zC]
  refine wpE_tk 5 21 (.slice (some ⟨b3, 0, none⟩) 10 10) rfl (.inl ⟨by rfl, fun w' hSw => ?_⟩) hS ?_
  · (obtain ⟨s1, s2, s3⟩ := hSw; clear hS; go_simp)
  try simp only [Act.put, zA, zB, zC]
  refine wpE_tk 6 22 (.int .i64 1) rfl (.inl ⟨by rfl, fun w' hSw => ?_⟩) hS ?_
  · (obtain ⟨s1, s2, s3⟩ := hSw; clear hS; go_simp)
  try simp only [Act.put, zA, zB, zC]
  refine wpE_tk 7 23 (.pointer (some ⟨b3, 1, none⟩)) rfl (.inl ⟨by rfl, fun w' hSw => ?_⟩) hS ?_
  · (obtain ⟨s1, s2, s3⟩ := hSw; clear hS; go_simp)
  try simp only [Act.put, zA, zB, zC]
  refine wpE_tk 8 24 (.int .i64 2) rfl (.inl ⟨by rfl, fun w' hSw => ?_⟩) hS ?_
  · (obtain ⟨s1, s2, s3⟩ := hSw; clear hS; go_simp)
  try simp only [Act.put, zA, zB, zC]
  refine wpE_tk 9 25 (.slice (some ⟨b1, 0, none⟩) 2 5) rfl (.inl ⟨by rfl, fun w' hSw => ?_⟩) hS ?_
  · (obtain ⟨s1, s2, s3⟩ := hSw; clear hS; go_simp)
  try simp only [Act.put, zA, zB, zC]
  refine wpE_on 4 (some 20) rfl (fun K hK => ?_)
  go_simp
  refine hK.out _ _ (.inr ⟨((Ext.refl wz).alloc (.cells #[.int .i64 n, .int .i64 at'] 3)).cell hS.1, ((Ext.refl wz).alloc (.cells #[.int .i64 n, .int .i64 at'] 3)).cell hS.2.1, ((Ext.refl wz).alloc (.cells #[.int .i64 n, .int .i64 at'] 3)).cell hS.2.2⟩) ?_
  clear hK K
  try simp only [Act.put, zA, zB, zC]
  refine wpE_on 10 (some 26) rfl (fun K hK => ?_)
  refine step_append_run (by rfl) _ _ 40 (by rfl) (.slice (some ⟨wz.heap.size, 0, none⟩) 2 2) (.slice (some ⟨b1, 0, none⟩) 2 5) (by rfl) (by rfl) v8 wA HRUN.out ?_
  refine hK.out _ _ (.inr ⟨XA.out.cell m0, XA.out.cell m1, XA.out.cell m2⟩) ?_
  clear hK K
  try simp only [Act.put, zA, zB, zC]
  refine wpE_on 11 (some 8) rfl (fun K hK => ?_)
  go_simp
  refine hK.out _ _ (.inl rfl) ?_
  clear hK K
  try simp only [Act.put, zA, zB, zC]
  refine wpE_done (by kernel_rfl) ?_
  clear m0 m1 m2 hS xz HRUN
  go_upto_region 5 with (go_at_call 149; refine (rOut (l := [n, at', a, b]) HRD.out (by simp) OK.out).mono ?_; rintro e w9 ⟨rfl, rfl⟩)
  have r0 : ∀ u : ExtOf wA, u.val.cell? ⟨b1, 0, none⟩ = some (.int .i64 a) := fun u => (XA.out.trans u.ext).cell (cellOf H1.out rfl)
  have r1 : ∀ u : ExtOf wA, u.val.cell? ⟨b1, 1, none⟩ = some (.int .i64 b) := fun u => (XA.out.trans u.ext).cell (cellOf H1.out rfl)
  have r2 : ∀ u : ExtOf wA, u.val.cell? ⟨b1, 2, none⟩ = some (.int .i64 c) := fun u => (XA.out.trans u.ext).cell (cellOf H1.out rfl)
  have r3 : ∀ u : ExtOf wA, u.val.cell? ⟨b1, 3, none⟩ = some (.int .i64 d) := fun u => (XA.out.trans u.ext).cell (cellOf H1.out rfl)
  have r4 : ∀ u : ExtOf wA, u.val.cell? ⟨b1, 4, none⟩ = some (.int .i64 e) := fun u => (XA.out.trans u.ext).cell (cellOf H1.out rfl)
  refine wp_region_ext (by kernel_rfl) (by kernel_rfl) ?_
  repeat (go_big_quiet_step (fail))
  refine wpQuiet_nil ?_
  rintro _ ⟨u, rfl⟩
  have x5 : Ext wd u.val := XA.out.trans u.ext
  obtain ⟨w5, hw5⟩ : ∃ W, u.val = W := ⟨_, rfl⟩
  rw [hw5] at x5 ⊢
  clear r0 r1 r2 r3 r4 hw5
  clear u
  have m0 := x5.cell (cellOf H0.out (i := 0) (v := .int .i64 n) rfl)
  have m1 := x5.cell (cellOf H0.out (i := 1) (v := .int .i64 at') rfl)
  go_upto_region 7 with fail
  have x6 := x5.alloc (.cells #[.int .i64 n, .int .i64 at'] 43)
  have hb4 := heap_alloc_new w5 (.cells #[.int .i64 n, .int .i64 at'] 43)
  have hs4 : wd.heap.size ≤ w5.heap.size := x5.size
  obtain ⟨w6, hw6⟩ : ∃ W : World, W = w5.alloc (.cells #[.int .i64 n, .int .i64 at'] 43) := ⟨_, rfl⟩
  obtain ⟨b4, hb4e⟩ : ∃ b, w5.heap.size = b := ⟨_, rfl⟩
  rw [← hw6] at x6 hb4 ⊢
  rw [hb4e] at hb4 hs4 ⊢
  clear hw6 hb4e m0 m1 x5
  have XF := qh (XD.out.trans x6)
  have l2 : b2 < b4 := by have := HSZ.out; have := HB3.out; omega
  have z2 : w.heap.size ≤ b2 := by have := HB0.out; have := HB1.out; have := HB2.out; omega
  have z4 : w.heap.size ≤ b4 := by omega
  have c0 := x6.cell (cellOf H0.out (i := 0) (v := .int .i64 n) rfl)
  have c1 := x6.cell (cellOf H0.out (i := 1) (v := .int .i64 at') rfl)
  have c2 := x6.cell (cellOf H2.out (i := 0) (v := .int .i64 0) rfl)
  have c3 := x6.cell (cellOf H2.out (i := 1) (v := .int .i64 0) rfl)
  have f2 := x6.free (cell_lt (cellOf H2.out (i := 0) (v := .int .i64 0) rfl)) (freeOf H2.out 0)
  have f3 := x6.free (cell_lt (cellOf H2.out (i := 0) (v := .int .i64 0) rfl)) (freeOf H2.out 1)
  have c4 := cellOf hb4 (i := 0) (v := .int .i64 n) rfl
  have c5 := cellOf hb4 (i := 1) (v := .int .i64 at') rfl
  have f4 := freeOf hb4 0
  have f5 := freeOf hb4 1
  have l4 := cell_lt c4
  have n24 : b2 ≠ b4 := by omega
  have n04 : b0 ≠ b4 := by have := HB1.out; have := HB2.out; omega
  have l6 : b2 < w6.heap.size := cell_lt c2
  have ok0 := OK.out n (by simp)
  unfold okI at ok0
  obtain ⟨p0, q0⟩ := ok0
  have ok1 := OK.out at' (by simp)
  unfold okI at ok1
  obtain ⟨p1, q1⟩ := ok1
  have ok2 := OK.out a (by simp)
  unfold okI at ok2
  obtain ⟨p2, q2⟩ := ok2
  have ok3 := OK.out b (by simp)
  unfold okI at ok3
  obtain ⟨p3, q3⟩ := ok3
  clear hb4 x6
  by_cases h1 : n = a
  · by_cases h2 : b < at'
    · have hz : za = at' - 1 := by rw [← HZA.out]; exact if_pos ⟨h1, h2⟩
      have HZ := qh hz
      have e1 : (n == a) = true := by simpa using h1
      have e1d : decide (n = a) = true := decide_eq_true h1
      have e2 : decide (b < at') = true := decide_eq_true h2
      clear h1 h2 hz
      go_wp2_with fail
      refine bodyPost_ret (v := pl (n) (at' - 1)) (by simp [results, Tryz.results135, go_sem, c0, c1, c2, c3, c4, c5, n24, Ne.symm n24]) rfl ⟨?_, ?_⟩
      · rw [HZ.out]
      · repeat (first | exact XF.out | refine Ext.setCell ?_ (by simp; omega) _)
    · have hz : za = at' := by rw [← HZA.out]; exact if_neg (fun h => h2 h.2)
      have HZ := qh hz
      have e1 : (n == a) = true := by simpa using h1
      have e1d : decide (n = a) = true := decide_eq_true h1
      have e2 : decide (b < at') = false := decide_eq_false h2
      clear h1 h2 hz
      go_wp2_with fail
      refine bodyPost_ret (v := pl (n) (at')) (by simp [results, Tryz.results135, go_sem, c0, c1, c2, c3, c4, c5, n24, Ne.symm n24]) rfl ⟨?_, ?_⟩
      · rw [HZ.out]
      · repeat (first | exact XF.out | refine Ext.setCell ?_ (by simp; omega) _)
  · have hz : za = at' := by rw [← HZA.out]; exact if_neg (fun h => h1 h.1)
    have HZ := qh hz
    have e1 : (n == a) = false := by simpa using h1
    have e1d : decide (n = a) = false := decide_eq_false h1
    clear h1 hz
    go_wp2_with fail
    refine bodyPost_ret (v := pl (n) (at')) (by simp [results, Tryz.results135, go_sem, c0, c1, c2, c3, c4, c5, n24, Ne.symm n24]) rfl ⟨?_, ?_⟩
    · rw [HZ.out]
    · repeat (first | exact XF.out | refine Ext.setCell ?_ (by simp; omega) _)
theorem rChange2 (n at' a b c d e : Int) (w : World) (o0 : okI n) (o1 : okI at') (o2 : okI a) (o3 : okI b) : Calls Tryz.prog 135 #[pl n at', .int .i64 2, five a b c d e] w (RPlace (a) (b) w) := by
  unfold five
  obtain ⟨wd, b0, b1, b2, b3, hb0, hb1, hb2, hb3, hwd, xd, h0, h1, h2, h3, hsz⟩ := four_new w #[.int .i64 n, .int .i64 at'] #[.int .i64 a, .int .i64 b, .int .i64 c, .int .i64 d, .int .i64 e] #[.int .i64 0, .int .i64 0] #[.int .i64 3, .int .i64 2, .int .i64 2, .int .i64 4, .int .i64 5, .int .i64 5, .int .i64 5, .int .i64 4, .int .i64 4, .int .i64 4] 43 128 43 3
  have HB0 := qh hb0
  have HB1 := qh hb1
  have HB2 := qh hb2
  have HB3 := qh hb3
  have HWD := qh hwd
  have XD := qh xd
  have H0 := qh h0
  have H1 := qh h1
  have H2 := qh h2
  have H3 := qh h3
  have HSZ := qh hsz
  have OK : Hid (∀ x ∈ [n, at', a, b], okI x) := qh (by
    intro x hx
    simp only [List.mem_cons, List.not_mem_nil, or_false] at hx
    rcases hx with rfl | rfl | rfl | rfl
    all_goals assumption)
  clear hb0 hb1 hb2 hb3 hwd xd h0 h1 h2 h3 hsz o0 o1 o2 o3
  go_enter Tryz.func135, Tryz.ntmps135
  go_upto_region 2 with fail
  rw [← HWD.out, HB0.out, HB1.out, HB2.out, HB3.out]
  have m0 := cellOf H0.out (i := 0) (v := .int .i64 n) rfl
  have m1 := cellOf H0.out (i := 1) (v := .int .i64 at') rfl
  have m2 := cellOf H3.out (i := 2) (v := .int .i64 2) rfl
  refine wp_region_E (S := fun w' => w'.cell? ⟨b0, 0, none⟩ = some (.int .i64 n) ∧ w'.cell? ⟨b0, 1, none⟩ = some (.int .i64 at') ∧ w'.cell? ⟨b3, 2, none⟩ = some (.int .i64 2)) (n := 11) (by kernel_rfl) ?_
  have xz : Ext wd wd.drew := (Ext.refl wd).drew
  have sz : wd.drew.heap.size = wd.heap.size := rfl
  obtain ⟨wz, hwz⟩ : ∃ W : World, W = wd.drew := ⟨_, rfl⟩
  rw [← hwz] at xz sz ⊢
  clear hwz
  have hS : wz.cell? ⟨b0, 0, none⟩ = some (.int .i64 n) ∧ wz.cell? ⟨b0, 1, none⟩ = some (.int .i64 at') ∧ wz.cell? ⟨b3, 2, none⟩ = some (.int .i64 2) := ⟨xz.cell m0, xz.cell m1, xz.cell m2⟩
  obtain ⟨v8, wA, row, hrun, hra, hga, hrow⟩ := append_ints (w := wz.alloc (.cells #[.int .i64 n, .int .i64 at'] 3)) (B := wz.heap.size) (v := .slice (some ⟨wz.heap.size, 0, none⟩) 2 2) (n := 2) (xs := [.int .i64 n, .int .i64 at']) ⟨rfl, .inr ⟨_, 2, _, rfl, Nat.le_refl _, heap_alloc_new _ _, Nat.le_refl _, by decide, rfl, rfl⟩⟩
    (u := .slice (some ⟨b1, 0, none⟩) 2 5) (m := 2) (ys := [.int .i64 a, .int .i64 b]) (RowRd.front (j := 2) (RowP.rd (p := fun _ => True) (e := 128) (size := 1) (v := .slice (some ⟨b1, 0, none⟩) 5 5) (n := 5) (xs := [.int .i64 a, .int .i64 b, .int .i64 c, .int .i64 d, .int .i64 e]) ⟨rfl, .inr ⟨b1, 5, _, rfl, trivial, ((xz.alloc _).block H1.out), Nat.le_refl _, by decide, rfl, rfl⟩⟩) (by decide)) (by omega) (by simp [Value.oneCell'])
  have hrd : RowRd wA 1 v8 4 ([n, at', a, b].map (Value.int .i64)) := hra.rd
  have xA : Ext wd wA := (xz.alloc (.cells #[.int .i64 n, .int .i64 at'] 3)).grown hga (fun k hk => by have := hrow k hk; omega)
  have HRUN := qh hrun
  have HRD := qh hrd
  have XA := qh xA
  clear hrun hrd xA hra hga hrow sz
  show wpE _ _ _ _ _ 11 12 (Array.replicate 12 false) _ _
  refine wpE_tk 0 16 (.pointer (some ⟨b0, 0, none⟩)) rfl (.inl ⟨by rfl, fun w' hSw => ?_⟩) hS ?_
  · (obtain ⟨s1, s2, s3⟩ := hSw; clear hS; go_simp)
  try simp only [Act.put, zA, zB, zC]
  refine wpE_tk 1 17 (.int .i64 n) rfl (.inl ⟨by rfl, fun w' hSw => ?_⟩) hS ?_
  · (obtain ⟨s1, s2, s3⟩ := hSw; clear hS; go_simp)
  try simp only [Act.put, zA, zB, zC]
  refine wpE_tk 2 18 (.pointer (some ⟨b0, 1, none⟩)) rfl (.inl ⟨by rfl, fun w' hSw => ?_⟩) hS ?_
  · (obtain ⟨s1, s2, s3⟩ := hSw; clear hS; go_simp)
  try simp only [Act.put, zA, zB, zC]
  refine wpE_tk 3 19 (.int .i64 at') rfl (.inl ⟨by rfl, fun w' hSw => ?_⟩) hS ?_
  · (obtain ⟨s1, s2, s3⟩ := hSw; clear hS; go_simp)
  try simp only [Act.put, zA, zB, zC]
  refine wpE_tk 5 21 (.slice (some ⟨b3, 0, none⟩) 10 10) rfl (.inl ⟨by rfl, fun w' hSw => ?_⟩) hS ?_
  · (obtain ⟨s1, s2, s3⟩ := hSw; clear hS; go_simp)
  try simp only [Act.put, zA, zB, zC]
  refine wpE_tk 6 22 (.int .i64 2) rfl (.inl ⟨by rfl, fun w' hSw => ?_⟩) hS ?_
  · (obtain ⟨s1, s2, s3⟩ := hSw; clear hS; go_simp)
  try simp only [Act.put, zA, zB, zC]
  refine wpE_tk 7 23 (.pointer (some ⟨b3, 2, none⟩)) rfl (.inl ⟨by rfl, fun w' hSw => ?_⟩) hS ?_
  · (obtain ⟨s1, s2, s3⟩ := hSw; clear hS; go_simp)
  try simp only [Act.put, zA, zB, zC]
  refine wpE_tk 8 24 (.int .i64 2) rfl (.inl ⟨by rfl, fun w' hSw => ?_⟩) hS ?_
  · (obtain ⟨s1, s2, s3⟩ := hSw; clear hS; go_simp)
  try simp only [Act.put, zA, zB, zC]
  refine wpE_tk 9 25 (.slice (some ⟨b1, 0, none⟩) 2 5) rfl (.inl ⟨by rfl, fun w' hSw => ?_⟩) hS ?_
  · (obtain ⟨s1, s2, s3⟩ := hSw; clear hS; go_simp)
  try simp only [Act.put, zA, zB, zC]
  refine wpE_on 4 (some 20) rfl (fun K hK => ?_)
  go_simp
  refine hK.out _ _ (.inr ⟨((Ext.refl wz).alloc (.cells #[.int .i64 n, .int .i64 at'] 3)).cell hS.1, ((Ext.refl wz).alloc (.cells #[.int .i64 n, .int .i64 at'] 3)).cell hS.2.1, ((Ext.refl wz).alloc (.cells #[.int .i64 n, .int .i64 at'] 3)).cell hS.2.2⟩) ?_
  clear hK K
  try simp only [Act.put, zA, zB, zC]
  refine wpE_on 10 (some 26) rfl (fun K hK => ?_)
  refine step_append_run (by rfl) _ _ 40 (by rfl) (.slice (some ⟨wz.heap.size, 0, none⟩) 2 2) (.slice (some ⟨b1, 0, none⟩) 2 5) (by rfl) (by rfl) v8 wA HRUN.out ?_
  refine hK.out _ _ (.inr ⟨XA.out.cell m0, XA.out.cell m1, XA.out.cell m2⟩) ?_
  clear hK K
  try simp only [Act.put, zA, zB, zC]
  refine wpE_on 11 (some 8) rfl (fun K hK => ?_)
  go_simp
  refine hK.out _ _ (.inl rfl) ?_
  clear hK K
  try simp only [Act.put, zA, zB, zC]
  refine wpE_done (by kernel_rfl) ?_
  clear m0 m1 m2 hS xz HRUN
  go_upto_region 5 with (go_at_call 149; refine (rOut (l := [n, at', a, b]) HRD.out (by simp) OK.out).mono ?_; rintro e w9 ⟨rfl, rfl⟩)
  have r0 : ∀ u : ExtOf wA, u.val.cell? ⟨b1, 0, none⟩ = some (.int .i64 a) := fun u => (XA.out.trans u.ext).cell (cellOf H1.out rfl)
  have r1 : ∀ u : ExtOf wA, u.val.cell? ⟨b1, 1, none⟩ = some (.int .i64 b) := fun u => (XA.out.trans u.ext).cell (cellOf H1.out rfl)
  have r2 : ∀ u : ExtOf wA, u.val.cell? ⟨b1, 2, none⟩ = some (.int .i64 c) := fun u => (XA.out.trans u.ext).cell (cellOf H1.out rfl)
  have r3 : ∀ u : ExtOf wA, u.val.cell? ⟨b1, 3, none⟩ = some (.int .i64 d) := fun u => (XA.out.trans u.ext).cell (cellOf H1.out rfl)
  have r4 : ∀ u : ExtOf wA, u.val.cell? ⟨b1, 4, none⟩ = some (.int .i64 e) := fun u => (XA.out.trans u.ext).cell (cellOf H1.out rfl)
  refine wp_region_ext (by kernel_rfl) (by kernel_rfl) ?_
  repeat (go_big_quiet_step (fail))
  refine wpQuiet_nil ?_
  rintro _ ⟨u, rfl⟩
  have x5 : Ext wd u.val := XA.out.trans u.ext
  obtain ⟨w5, hw5⟩ : ∃ W, u.val = W := ⟨_, rfl⟩
  rw [hw5] at x5 ⊢
  clear r0 r1 r2 r3 r4 hw5
  clear u
  have m0 := x5.cell (cellOf H0.out (i := 0) (v := .int .i64 n) rfl)
  have m1 := x5.cell (cellOf H0.out (i := 1) (v := .int .i64 at') rfl)
  go_upto_region 7 with fail
  have x6 := x5.alloc (.cells #[.int .i64 n, .int .i64 at'] 43)
  have hb4 := heap_alloc_new w5 (.cells #[.int .i64 n, .int .i64 at'] 43)
  have hs4 : wd.heap.size ≤ w5.heap.size := x5.size
  obtain ⟨w6, hw6⟩ : ∃ W : World, W = w5.alloc (.cells #[.int .i64 n, .int .i64 at'] 43) := ⟨_, rfl⟩
  obtain ⟨b4, hb4e⟩ : ∃ b, w5.heap.size = b := ⟨_, rfl⟩
  rw [← hw6] at x6 hb4 ⊢
  rw [hb4e] at hb4 hs4 ⊢
  clear hw6 hb4e m0 m1 x5
  have XF := qh (XD.out.trans x6)
  have l2 : b2 < b4 := by have := HSZ.out; have := HB3.out; omega
  have z2 : w.heap.size ≤ b2 := by have := HB0.out; have := HB1.out; have := HB2.out; omega
  have z4 : w.heap.size ≤ b4 := by omega
  have c0 := x6.cell (cellOf H0.out (i := 0) (v := .int .i64 n) rfl)
  have c1 := x6.cell (cellOf H0.out (i := 1) (v := .int .i64 at') rfl)
  have c2 := x6.cell (cellOf H2.out (i := 0) (v := .int .i64 0) rfl)
  have c3 := x6.cell (cellOf H2.out (i := 1) (v := .int .i64 0) rfl)
  have f2 := x6.free (cell_lt (cellOf H2.out (i := 0) (v := .int .i64 0) rfl)) (freeOf H2.out 0)
  have f3 := x6.free (cell_lt (cellOf H2.out (i := 0) (v := .int .i64 0) rfl)) (freeOf H2.out 1)
  have c4 := cellOf hb4 (i := 0) (v := .int .i64 n) rfl
  have c5 := cellOf hb4 (i := 1) (v := .int .i64 at') rfl
  have f4 := freeOf hb4 0
  have f5 := freeOf hb4 1
  have l4 := cell_lt c4
  have n24 : b2 ≠ b4 := by omega
  have n04 : b0 ≠ b4 := by have := HB1.out; have := HB2.out; omega
  have l6 : b2 < w6.heap.size := cell_lt c2
  have ok0 := OK.out n (by simp)
  unfold okI at ok0
  obtain ⟨p0, q0⟩ := ok0
  have ok1 := OK.out at' (by simp)
  unfold okI at ok1
  obtain ⟨p1, q1⟩ := ok1
  have ok2 := OK.out a (by simp)
  unfold okI at ok2
  obtain ⟨p2, q2⟩ := ok2
  have ok3 := OK.out b (by simp)
  unfold okI at ok3
  obtain ⟨p3, q3⟩ := ok3
  clear hb4 x6
  go_wp2_with fail
  refine bodyPost_ret (v := pl (a) (b)) (by simp [results, Tryz.results135, go_sem, c0, c1, c2, c3, c4, c5, n24, Ne.symm n24]) rfl ⟨?_, ?_⟩
  · rfl
  · repeat (first | exact XF.out | refine Ext.setCell ?_ (by simp; omega) _)
theorem rChange3 (n at' a b c d e : Int) (w : World) (o0 : okI n) (o1 : okI at') (o2 : okI a) (o3 : okI b) (o4 : okI c) (o5 : okI d) (hc : 0 ≤ c) : Calls Tryz.prog 135 #[pl n at', .int .i64 3, five a b c d e] w (RPlace (n) (repA n at' a b c d) w) := by
  unfold five
  obtain ⟨wd, b0, b1, b2, b3, hb0, hb1, hb2, hb3, hwd, xd, h0, h1, h2, h3, hsz⟩ := four_new w #[.int .i64 n, .int .i64 at'] #[.int .i64 a, .int .i64 b, .int .i64 c, .int .i64 d, .int .i64 e] #[.int .i64 0, .int .i64 0] #[.int .i64 3, .int .i64 2, .int .i64 2, .int .i64 4, .int .i64 5, .int .i64 5, .int .i64 5, .int .i64 4, .int .i64 4, .int .i64 4] 43 128 43 3
  obtain ⟨za, hza⟩ : ∃ z, repA n at' a b c d = z := ⟨_, rfl⟩
  rw [hza]
  have HZA := qh hza
  clear hza
  have HB0 := qh hb0
  have HB1 := qh hb1
  have HB2 := qh hb2
  have HB3 := qh hb3
  have HWD := qh hwd
  have XD := qh xd
  have H0 := qh h0
  have H1 := qh h1
  have H2 := qh h2
  have H3 := qh h3
  have HSZ := qh hsz
  have OK : Hid (∀ x ∈ [n, at', a, b, c, d], okI x) := qh (by
    intro x hx
    simp only [List.mem_cons, List.not_mem_nil, or_false] at hx
    rcases hx with rfl | rfl | rfl | rfl | rfl | rfl
    all_goals assumption)
  clear hb0 hb1 hb2 hb3 hwd xd h0 h1 h2 h3 hsz o0 o1 o2 o3 o4 o5
  go_enter Tryz.func135, Tryz.ntmps135
  go_upto_region 2 with fail
  rw [← HWD.out, HB0.out, HB1.out, HB2.out, HB3.out]
  have m0 := cellOf H0.out (i := 0) (v := .int .i64 n) rfl
  have m1 := cellOf H0.out (i := 1) (v := .int .i64 at') rfl
  have m2 := cellOf H3.out (i := 3) (v := .int .i64 4) rfl
  refine wp_region_E (S := fun w' => w'.cell? ⟨b0, 0, none⟩ = some (.int .i64 n) ∧ w'.cell? ⟨b0, 1, none⟩ = some (.int .i64 at') ∧ w'.cell? ⟨b3, 3, none⟩ = some (.int .i64 4)) (n := 11) (by kernel_rfl) ?_
  have xz : Ext wd wd.drew := (Ext.refl wd).drew
  have sz : wd.drew.heap.size = wd.heap.size := rfl
  obtain ⟨wz, hwz⟩ : ∃ W : World, W = wd.drew := ⟨_, rfl⟩
  rw [← hwz] at xz sz ⊢
  clear hwz
  have hS : wz.cell? ⟨b0, 0, none⟩ = some (.int .i64 n) ∧ wz.cell? ⟨b0, 1, none⟩ = some (.int .i64 at') ∧ wz.cell? ⟨b3, 3, none⟩ = some (.int .i64 4) := ⟨xz.cell m0, xz.cell m1, xz.cell m2⟩
  obtain ⟨v8, wA, row, hrun, hra, hga, hrow⟩ := append_ints (w := wz.alloc (.cells #[.int .i64 n, .int .i64 at'] 3)) (B := wz.heap.size) (v := .slice (some ⟨wz.heap.size, 0, none⟩) 2 2) (n := 2) (xs := [.int .i64 n, .int .i64 at']) ⟨rfl, .inr ⟨_, 2, _, rfl, Nat.le_refl _, heap_alloc_new _ _, Nat.le_refl _, by decide, rfl, rfl⟩⟩
    (u := .slice (some ⟨b1, 0, none⟩) 4 5) (m := 4) (ys := [.int .i64 a, .int .i64 b, .int .i64 c, .int .i64 d]) (RowRd.front (j := 4) (RowP.rd (p := fun _ => True) (e := 128) (size := 1) (v := .slice (some ⟨b1, 0, none⟩) 5 5) (n := 5) (xs := [.int .i64 a, .int .i64 b, .int .i64 c, .int .i64 d, .int .i64 e]) ⟨rfl, .inr ⟨b1, 5, _, rfl, trivial, ((xz.alloc _).block H1.out), Nat.le_refl _, by decide, rfl, rfl⟩⟩) (by decide)) (by omega) (by simp [Value.oneCell'])
  have hrd : RowRd wA 1 v8 6 ([n, at', a, b, c, d].map (Value.int .i64)) := hra.rd
  have xA : Ext wd wA := (xz.alloc (.cells #[.int .i64 n, .int .i64 at'] 3)).grown hga (fun k hk => by have := hrow k hk; omega)
  have HRUN := qh hrun
  have HRD := qh hrd
  have XA := qh xA
  clear hrun hrd xA hra hga hrow sz
  show wpE _ _ _ _ _ 11 12 (Array.replicate 12 false) _ _
  refine wpE_tk 0 16 (.pointer (some ⟨b0, 0, none⟩)) rfl (.inl ⟨by rfl, fun w' hSw => ?_⟩) hS ?_
  · (obtain ⟨s1, s2, s3⟩ := hSw; clear hS; go_simp)
  try simp only [Act.put, zA, zB, zC]
  refine wpE_tk 1 17 (.int .i64 n) rfl (.inl ⟨by rfl, fun w' hSw => ?_⟩) hS ?_
  · (obtain ⟨s1, s2, s3⟩ := hSw; clear hS; go_simp)
  try simp only [Act.put, zA, zB, zC]
  refine wpE_tk 2 18 (.pointer (some ⟨b0, 1, none⟩)) rfl (.inl ⟨by rfl, fun w' hSw => ?_⟩) hS ?_
  · (obtain ⟨s1, s2, s3⟩ := hSw; clear hS; go_simp)
  try simp only [Act.put, zA, zB, zC]
  refine wpE_tk 3 19 (.int .i64 at') rfl (.inl ⟨by rfl, fun w' hSw => ?_⟩) hS ?_
  · (obtain ⟨s1, s2, s3⟩ := hSw; clear hS; go_simp)
  try simp only [Act.put, zA, zB, zC]
  refine wpE_tk 5 21 (.slice (some ⟨b3, 0, none⟩) 10 10) rfl (.inl ⟨by rfl, fun w' hSw => ?_⟩) hS ?_
  · (obtain ⟨s1, s2, s3⟩ := hSw; clear hS; go_simp)
  try simp only [Act.put, zA, zB, zC]
  refine wpE_tk 6 22 (.int .i64 3) rfl (.inl ⟨by rfl, fun w' hSw => ?_⟩) hS ?_
  · (obtain ⟨s1, s2, s3⟩ := hSw; clear hS; go_simp)
  try simp only [Act.put, zA, zB, zC]
  refine wpE_tk 7 23 (.pointer (some ⟨b3, 3, none⟩)) rfl (.inl ⟨by rfl, fun w' hSw => ?_⟩) hS ?_
  · (obtain ⟨s1, s2, s3⟩ := hSw; clear hS; go_simp)
  try simp only [Act.put, zA, zB, zC]
  refine wpE_tk 8 24 (.int .i64 4) rfl (.inl ⟨by rfl, fun w' hSw => ?_⟩) hS ?_
  · (obtain ⟨s1, s2, s3⟩ := hSw; clear hS; go_simp)
  try simp only [Act.put, zA, zB, zC]
  refine wpE_tk 9 25 (.slice (some ⟨b1, 0, none⟩) 4 5) rfl (.inl ⟨by rfl, fun w' hSw => ?_⟩) hS ?_
  · (obtain ⟨s1, s2, s3⟩ := hSw; clear hS; go_simp)
  try simp only [Act.put, zA, zB, zC]
  refine wpE_on 4 (some 20) rfl (fun K hK => ?_)
  go_simp
  refine hK.out _ _ (.inr ⟨((Ext.refl wz).alloc (.cells #[.int .i64 n, .int .i64 at'] 3)).cell hS.1, ((Ext.refl wz).alloc (.cells #[.int .i64 n, .int .i64 at'] 3)).cell hS.2.1, ((Ext.refl wz).alloc (.cells #[.int .i64 n, .int .i64 at'] 3)).cell hS.2.2⟩) ?_
  clear hK K
  try simp only [Act.put, zA, zB, zC]
  refine wpE_on 10 (some 26) rfl (fun K hK => ?_)
  refine step_append_run (by rfl) _ _ 40 (by rfl) (.slice (some ⟨wz.heap.size, 0, none⟩) 2 2) (.slice (some ⟨b1, 0, none⟩) 4 5) (by rfl) (by rfl) v8 wA HRUN.out ?_
  refine hK.out _ _ (.inr ⟨XA.out.cell m0, XA.out.cell m1, XA.out.cell m2⟩) ?_
  clear hK K
  try simp only [Act.put, zA, zB, zC]
  refine wpE_on 11 (some 8) rfl (fun K hK => ?_)
  go_simp
  refine hK.out _ _ (.inl rfl) ?_
  clear hK K
  try simp only [Act.put, zA, zB, zC]
  refine wpE_done (by kernel_rfl) ?_
  clear m0 m1 m2 hS xz HRUN
  go_upto_region 5 with (go_at_call 149; refine (rOut (l := [n, at', a, b, c, d]) HRD.out (by simp) OK.out).mono ?_; rintro e w9 ⟨rfl, rfl⟩)
  have r0 : ∀ u : ExtOf wA, u.val.cell? ⟨b1, 0, none⟩ = some (.int .i64 a) := fun u => (XA.out.trans u.ext).cell (cellOf H1.out rfl)
  have r1 : ∀ u : ExtOf wA, u.val.cell? ⟨b1, 1, none⟩ = some (.int .i64 b) := fun u => (XA.out.trans u.ext).cell (cellOf H1.out rfl)
  have r2 : ∀ u : ExtOf wA, u.val.cell? ⟨b1, 2, none⟩ = some (.int .i64 c) := fun u => (XA.out.trans u.ext).cell (cellOf H1.out rfl)
  have r3 : ∀ u : ExtOf wA, u.val.cell? ⟨b1, 3, none⟩ = some (.int .i64 d) := fun u => (XA.out.trans u.ext).cell (cellOf H1.out rfl)
  have r4 : ∀ u : ExtOf wA, u.val.cell? ⟨b1, 4, none⟩ = some (.int .i64 e) := fun u => (XA.out.trans u.ext).cell (cellOf H1.out rfl)
  refine wp_region_ext (by kernel_rfl) (by kernel_rfl) ?_
  repeat (go_big_quiet_step (fail))
  refine wpQuiet_nil ?_
  rintro _ ⟨u, rfl⟩
  have x5 : Ext wd u.val := XA.out.trans u.ext
  obtain ⟨w5, hw5⟩ : ∃ W, u.val = W := ⟨_, rfl⟩
  rw [hw5] at x5 ⊢
  clear r0 r1 r2 r3 r4 hw5
  clear u
  have m0 := x5.cell (cellOf H0.out (i := 0) (v := .int .i64 n) rfl)
  have m1 := x5.cell (cellOf H0.out (i := 1) (v := .int .i64 at') rfl)
  go_upto_region 7 with fail
  have x6 := x5.alloc (.cells #[.int .i64 n, .int .i64 at'] 43)
  have hb4 := heap_alloc_new w5 (.cells #[.int .i64 n, .int .i64 at'] 43)
  have hs4 : wd.heap.size ≤ w5.heap.size := x5.size
  obtain ⟨w6, hw6⟩ : ∃ W : World, W = w5.alloc (.cells #[.int .i64 n, .int .i64 at'] 43) := ⟨_, rfl⟩
  obtain ⟨b4, hb4e⟩ : ∃ b, w5.heap.size = b := ⟨_, rfl⟩
  rw [← hw6] at x6 hb4 ⊢
  rw [hb4e] at hb4 hs4 ⊢
  clear hw6 hb4e m0 m1 x5
  have XF := qh (XD.out.trans x6)
  have l2 : b2 < b4 := by have := HSZ.out; have := HB3.out; omega
  have z2 : w.heap.size ≤ b2 := by have := HB0.out; have := HB1.out; have := HB2.out; omega
  have z4 : w.heap.size ≤ b4 := by omega
  have c0 := x6.cell (cellOf H0.out (i := 0) (v := .int .i64 n) rfl)
  have c1 := x6.cell (cellOf H0.out (i := 1) (v := .int .i64 at') rfl)
  have c2 := x6.cell (cellOf H2.out (i := 0) (v := .int .i64 0) rfl)
  have c3 := x6.cell (cellOf H2.out (i := 1) (v := .int .i64 0) rfl)
  have f2 := x6.free (cell_lt (cellOf H2.out (i := 0) (v := .int .i64 0) rfl)) (freeOf H2.out 0)
  have f3 := x6.free (cell_lt (cellOf H2.out (i := 0) (v := .int .i64 0) rfl)) (freeOf H2.out 1)
  have c4 := cellOf hb4 (i := 0) (v := .int .i64 n) rfl
  have c5 := cellOf hb4 (i := 1) (v := .int .i64 at') rfl
  have f4 := freeOf hb4 0
  have f5 := freeOf hb4 1
  have l4 := cell_lt c4
  have n24 : b2 ≠ b4 := by omega
  have n04 : b0 ≠ b4 := by have := HB1.out; have := HB2.out; omega
  have l6 : b2 < w6.heap.size := cell_lt c2
  have ok0 := OK.out n (by simp)
  unfold okI at ok0
  obtain ⟨p0, q0⟩ := ok0
  have ok1 := OK.out at' (by simp)
  unfold okI at ok1
  obtain ⟨p1, q1⟩ := ok1
  have ok2 := OK.out a (by simp)
  unfold okI at ok2
  obtain ⟨p2, q2⟩ := ok2
  have ok3 := OK.out b (by simp)
  unfold okI at ok3
  obtain ⟨p3, q3⟩ := ok3
  have ok4 := OK.out c (by simp)
  unfold okI at ok4
  obtain ⟨p4, q4⟩ := ok4
  have ok5 := OK.out d (by simp)
  unfold okI at ok5
  obtain ⟨p5, q5⟩ := ok5
  clear hb4 x6
  by_cases h1 : n = a
  · by_cases h2 : b < at'
    · by_cases h3 : b + c < at'
      · have hz : za = at' + d - c := by rw [← HZA.out]; exact (if_pos ⟨h1, h2⟩).trans (if_pos h3)
        have HZ := qh hz
        have e1 : (n == a) = true := by simpa using h1
        have e1d : decide (n = a) = true := decide_eq_true h1
        have e2 : decide (b < at') = true := decide_eq_true h2
        have e3 : decide (b + c < at') = true := decide_eq_true h3
        have e4 : decide (at' ≤ b + c) = false := decide_eq_false (by omega)
        clear h1 h2 h3 hz
        go_wp2_with fail
        refine bodyPost_ret (v := pl (n) (at' + d - c)) (by simp [results, Tryz.results135, go_sem, c0, c1, c2, c3, c4, c5, n24, Ne.symm n24]) rfl ⟨?_, ?_⟩
        · rw [HZ.out]
        · repeat (first | exact XF.out | refine Ext.setCell ?_ (by simp; omega) _)
      · have hz : za = b := by rw [← HZA.out]; exact (if_pos ⟨h1, h2⟩).trans (if_neg h3)
        have HZ := qh hz
        have e1 : (n == a) = true := by simpa using h1
        have e1d : decide (n = a) = true := decide_eq_true h1
        have e2 : decide (b < at') = true := decide_eq_true h2
        have e3 : decide (b + c < at') = false := decide_eq_false h3
        have e4 : decide (at' ≤ b + c) = true := decide_eq_true (by omega)
        clear h1 h2 h3 hz
        go_wp2_with fail
        refine bodyPost_ret (v := pl (n) (b)) (by simp [results, Tryz.results135, go_sem, c0, c1, c2, c3, c4, c5, n24, Ne.symm n24]) rfl ⟨?_, ?_⟩
        · rw [HZ.out]
        · repeat (first | exact XF.out | refine Ext.setCell ?_ (by simp; omega) _)
    · have hz : za = at' := by rw [← HZA.out]; exact if_neg (fun h => h2 h.2)
      have HZ := qh hz
      have e1 : (n == a) = true := by simpa using h1
      have e1d : decide (n = a) = true := decide_eq_true h1
      have e2 : decide (b < at') = false := decide_eq_false h2
      have e3 : decide (b + c < at') = false := decide_eq_false (by omega)
      clear h1 h2 hz
      go_wp2_with fail
      refine bodyPost_ret (v := pl (n) (at')) (by simp [results, Tryz.results135, go_sem, c0, c1, c2, c3, c4, c5, n24, Ne.symm n24]) rfl ⟨?_, ?_⟩
      · rw [HZ.out]
      · repeat (first | exact XF.out | refine Ext.setCell ?_ (by simp; omega) _)
  · have hz : za = at' := by rw [← HZA.out]; exact if_neg (fun h => h1 h.1)
    have HZ := qh hz
    have e1 : (n == a) = false := by simpa using h1
    have e1d : decide (n = a) = false := decide_eq_false h1
    clear h1 hz
    go_wp2_with fail
    refine bodyPost_ret (v := pl (n) (at')) (by simp [results, Tryz.results135, go_sem, c0, c1, c2, c3, c4, c5, n24, Ne.symm n24]) rfl ⟨?_, ?_⟩
    · rw [HZ.out]
    · repeat (first | exact XF.out | refine Ext.setCell ?_ (by simp; omega) _)
def hasI (I : List Int) (k : Int) : Bool := decide (0 ≤ k) && I[k.toNat]? == some 1
section
variable {w : World} {F : Nat → Prop} {xb rb : Nat} {T : Tr} {I : List Int} {P : List (Int × Int)}
theorem DocOn.isAt (h : DocOn w F xb rb T I P) : ∃ ao cap, w.cell? ⟨xb, 1, none⟩ = some (.slice ao I.length cap) ∧ ∀ (k : Nat) x, I[k]? = some x → ∃ g, ao = some ⟨g, 0, none⟩ ∧ w.cell? ⟨g, k, none⟩ = some (.int .i64 x) := by
  obtain ⟨F0, iv, pv, ib, pb, h1, h2, h3, h4, h5, h6, h7⟩ := h.out
  rcases h4.2 with ⟨h0, a, e⟩ | ⟨g, cap, cur, q1, q2, q3, q4, q5, q6, q7⟩
  · rw [e] at h3
    refine ⟨a, 0, by rw [h0]; exact cellOf h3 rfl, fun k x hk => ?_⟩
    have := (List.getElem?_eq_some_iff.1 hk).1
    omega
  · rw [q1] at h3
    refine ⟨_, cap, cellOf h3 rfl, fun k x hk => ⟨g, rfl, ?_⟩⟩
    obtain ⟨g', cap', cur', r1, -, -, r3, r4⟩ := RowP.at_ h4 (k := k) (x := .int .i64 x) (by rw [List.getElem?_map, hk]; rfl)
    rw [q1] at r1
    cases r1
    exact cellOf r3 r4
theorem dHas (h : DocOn w F xb rb T I P) (k : Int) (hl : I.length ≤ 100000) : Calls Tryz.prog 60 #[.pointer (some ⟨xb, 0, none⟩), .int .i64 k] w (RBool (hasI I k) w) := by
  obtain ⟨ao, cap, p1, hc⟩ := h.isAt
  have HC := qh hc
  obtain ⟨m, hm⟩ : ∃ m, I.length = m := ⟨_, rfl⟩
  rw [hm] at p1 hl
  have HM := qh hm
  clear h hc hm
  by_cases h0 : k < 0
  · have hb : hasI I k = false := by unfold hasI; rw [decide_eq_false (by omega)]; rfl
    rw [hb]
    have e0 : decide ((0 : Int) ≤ k) = false := decide_eq_false (by omega)
    clear hb
    go_enter Tryz.func60, Tryz.ntmps60
    go_wp2_with fail
    go_ret
    exact ⟨rfl, Ext.refl _⟩
  · obtain ⟨i, rfl⟩ := Int.eq_ofNat_of_zero_le (show 0 ≤ k by omega)
    have e0 : decide ((0 : Int) ≤ (i : Int)) = true := decide_eq_true (by omega)
    by_cases h1 : i < m
    · obtain ⟨x, hx⟩ : ∃ x, I[i]? = some x := ⟨_, List.getElem?_eq_getElem (by rw [HM.out]; exact h1)⟩
      obtain ⟨g, rfl, q0⟩ := HC.out i x hx
      have hb : hasI I (i : Int) = (x == 1) := by
        unfold hasI
        rw [e0, Int.toNat_natCast, hx]
        rfl
      rw [hb]
      have e1 : decide ((i : Int) < (m : Int)) = true := decide_eq_true (by omega)
      have e1n : decide (i < m) = true := decide_eq_true h1
      have i0 : (0 : Int) ≤ (i : Int) := by omega
      have i1 : (i : Int) < (m : Int) := by omega
      have itn : (i : Int).toNat = i := by omega
      clear hb hx
      go_enter Tryz.func60, Tryz.ntmps60
      go_wp2_with fail
      go_ret
      exact ⟨rfl, Ext.refl _⟩
    · have hb : hasI I (i : Int) = false := by
        unfold hasI
        rw [e0, Int.toNat_natCast, List.getElem?_eq_none (by rw [HM.out]; omega)]
        rfl
      rw [hb]
      have e1 : decide ((i : Int) < (m : Int)) = false := decide_eq_false (by omega)
      have e1n : decide (i < m) = false := decide_eq_false h1
      clear hb
      go_enter Tryz.func60, Tryz.ntmps60
      go_wp2_with fail
      go_ret
      exact ⟨rfl, Ext.refl _⟩
end
section
variable {w : World} {F : Nat → Prop} {xb rb : Nat} {T : Tr} {I : List Int} {P : List (Int × Int)}
def DErr (F : Nat → Prop) (w : World) (xb rb : Nat) (er : Int) (T : Tr) (I : List Int) (P : List (Int × Int)) (e : Ending) (w' : World) : Prop := e = .returned (.int .i64 er) ∧ DAft F w xb rb T I P w'
theorem DocOn.isFree (h : DocOn w F xb rb T I P) {k : Nat} {x : Int} (hk : I[k]? = some x) : ∃ g cap, w.cell? ⟨xb, 1, none⟩ = some (.slice (some ⟨g, 0, none⟩) I.length cap) ∧ w.cell? ⟨g, k, none⟩ = some (.int .i64 x) ∧ w.frozen? ⟨g, k, none⟩ = false := by
  obtain ⟨F0, iv, pv, ib, pb, h1, h2, h3, h4, h5, h6, h7⟩ := h.out
  obtain ⟨g', cap', cur', r1, -, -, r3, r4⟩ := RowP.at_ h4 (k := k) (x := .int .i64 x) (by rw [List.getElem?_map, hk]; rfl)
  rw [r1] at h3
  exact ⟨g', cap', cellOf h3 rfl, cellOf r3 r4, freeOf r3 k⟩
theorem DocOn.heldFree (h : DocOn w F xb rb T I P) {k : Nat} {p : Int × Int} (hk : P[k]? = some p) : ∃ g cap, w.cell? ⟨xb, 2, none⟩ = some (.slice (some ⟨g, 0, none⟩) P.length cap) ∧ w.cell? ⟨g, k * 2, none⟩ = some (.int .i64 p.1) ∧ w.cell? ⟨g, k * 2 + 1, none⟩ = some (.int .i64 p.2) ∧ w.frozen? ⟨g, k * 2, none⟩ = false ∧ w.frozen? ⟨g, k * 2 + 1, none⟩ = false := by
  obtain ⟨F0, iv, pv, ib, pb, h1, h2, h3, h4, h5, h6, h7⟩ := h.out
  obtain ⟨c0, c1⟩ := plC_get hk
  obtain ⟨g', cap', cur', r1, -, -, r3, r4⟩ := RowP.at_ h6 c0
  obtain ⟨g2, cap2, cur2, s1, -, -, s3, s4⟩ := RowP.at_ h6 c1
  rw [r1] at s1
  cases s1
  rw [r1] at h3
  exact ⟨g', cap', cellOf h3 rfl, cellOf r3 r4, cellOf s3 s4, freeOf r3 _, freeOf r3 _⟩
theorem DocOn.aft (h : DocOn w F xb rb T I P) {w' : World} {T' : Tr} {I' : List Int} {P' : List (Int × Int)} (k : DocOn w' F xb rb T' I' P') (m : Mv F w w') : DAft F w xb rb T' I' P' w' := ⟨k.wide fun b hb => .inl hb, m⟩
theorem dFree (h : DocOn w F xb rb T I P) (k : Int) (hl : I.length ≤ 100000) :
    Calls Tryz.prog 43 #[.pointer (some ⟨xb, 0, none⟩), .int .i64 k] w (DErr F w xb rb (if hasI I k then 0 else 2) T (if hasI I k then I.set k.toNat 0 else I) (if hasI I k then P.set k.toNat (0, 0) else P)) := by
  have HH := qh (dHas h k hl)
  have HD := qh h
  cases hb : hasI I k with
  | false =>
    rw [hb] at HH
    clear hb h
    go_enter Tryz.func43, Tryz.ntmps43
    go_wp2_with (go_at_call 60; refine HH.out.mono ?_)
    rintro e w1 ⟨rfl, x1⟩
    have HF := qh (show DAft F w xb rb T I P w1 from (DAft.refl HD.out).ext x1)
    clear x1
    go_wp2_with fail
    go_ret
    exact ⟨rfl, HF.out⟩
  | true =>
    rw [hb] at HH
    unfold hasI at hb
    rw [Bool.and_eq_true, decide_eq_true_eq, beq_iff_eq] at hb
    obtain ⟨hk0, hki⟩ := hb
    obtain ⟨i, rfl⟩ := Int.eq_ofNat_of_zero_le hk0
    rw [Int.toNat_natCast] at hki
    have hil := (List.getElem?_eq_some_iff.1 hki).1
    obtain ⟨p, hp⟩ : ∃ p, P[i]? = some p := ⟨_, List.getElem?_eq_getElem (by rw [h.len]; exact hil)⟩
    have HK := qh hki
    have HP := qh hp
    obtain ⟨m, hm⟩ : ∃ m, I.length = m := ⟨_, rfl⟩
    have HM := qh hm
    rw [hm] at hil hl
    simp only [if_true, Int.toNat_natCast]
    have i0 : (0 : Int) ≤ (i : Int) := by omega
    have i1 : (i : Int) < (m : Int) := by omega
    have itn : (i : Int).toNat = i := by omega
    clear h hki hp hm
    go_enter Tryz.func43, Tryz.ntmps43
    go_upto_region 3 with (go_at_call 60; refine HH.out.mono ?_; rintro e w1 ⟨rfl, x1⟩; have X1 := qh x1; clear x1)
    have D1 := qh (HD.out.ext X1.out)
    obtain ⟨g, cap, p1, q0, f0⟩ := D1.out.isFree HK.out
    rw [HM.out] at p1
    have P1 := qh p1
    go_upto_region 4 with fail
    obtain ⟨d2, fg⟩ := D1.out.setI (iv := .slice (some ⟨g, 0, none⟩) m cap) P1.out (g := g) (k := i) rfl (by rw [HM.out]; exact hil) 0
    have hm2 : Mv F w (w1.setCell ⟨g, i, none⟩ (.int .i64 0)) := (Mv.ofExt X1.out).setCell (p := ⟨g, i, none⟩) (fun _ => fg) _
    obtain ⟨w2, hw2⟩ : ∃ W, w1.setCell ⟨g, i, none⟩ (.int .i64 0) = W := ⟨_, rfl⟩
    rw [hw2] at d2 hm2 ⊢
    have D2 := qh d2
    have M2 := qh hm2
    clear p1 q0 f0 d2 hm2 hw2 fg
    obtain ⟨g2, cap2, p2, q0, q1, f0, f1⟩ := D2.out.heldFree HP.out
    have hpl : P.length = m := by rw [HD.out.len, HM.out]
    rw [hpl] at p2
    have P2 := qh p2
    have HPL := qh hpl
    clear hpl
    obtain ⟨d3, fg2⟩ := D2.out.setP (pv := .slice (some ⟨g2, 0, none⟩) m cap2) P2.out (g := g2) (k := i) rfl (by rw [HPL.out]; exact hil) 0 0
    have HF : Hid (DAft F w xb rb T (I.set i 0) (P.set i (0, 0)) ((w2.setCell ⟨g2, i * 2, none⟩ (.int .i64 0)).setCell ⟨g2, i * 2 + 1, none⟩ (.int .i64 0))) := qh (HD.out.aft d3 ((M2.out.setCell (p := ⟨g2, i * 2, none⟩) (fun _ => fg2) _).setCell (p := ⟨g2, i * 2 + 1, none⟩) (fun _ => fg2) _))
    clear d3 fg2
    go_wp2_with fail
    go_ret
    exact ⟨rfl, HF.out⟩
end
section
variable {w : World} {F : Nat → Prop} {xb rb : Nat} {T : Tr} {I : List Int} {P : List (Int × Int)}
theorem dPlace (h : DocOn w F xb rb T I P) (k n a : Int) (hl : I.length ≤ 100000) {mb : Bool} (hM : ∀ W, Ext w W → Calls Tryz.prog 102 #[.pointer (some ⟨rb, 0, none⟩), pl n a] W (RVal (.bool mb) W)) :
    Calls Tryz.prog 42 #[.pointer (some ⟨xb, 0, none⟩), .int .i64 k, pl n a] w (DErr F w xb rb (if hasI I k then (if mb then 0 else 1) else 2) T I (if hasI I k && mb then P.set k.toNat (n, a) else P)) := by
  have xa := (Ext.refl w).alloc (.cells #[.int .i64 n, .int .i64 a] 43)
  have hba := heap_alloc_new w (.cells #[.int .i64 n, .int .i64 a] 43)
  obtain ⟨wa, hwa⟩ : ∃ W : World, W = w.alloc (.cells #[.int .i64 n, .int .i64 a] 43) := ⟨_, rfl⟩
  rw [← hwa] at xa hba
  obtain ⟨pb, hpb⟩ : ∃ b, w.heap.size = b := ⟨_, rfl⟩
  rw [hpb] at hba
  have HH := qh (dHas (h.ext xa) k hl)
  have HD := qh h
  have XA := qh xa
  have HWA := qh hwa
  have HPB := qh hpb
  have HBA := qh hba
  have HMY := qh (fun (W : World) (x : Ext wa W) => hM W (xa.trans x))
  clear hM xa hwa hpb hba
  cases hb : hasI I k with
  | false =>
    rw [hb] at HH
    clear hb h
    go_enter Tryz.func42, Tryz.ntmps42
    go_upto_region 1 with fail
    rw [← HWA.out, HPB.out]
    go_wp2_with (go_at_call 60; refine HH.out.mono ?_; rintro e w1 ⟨rfl, x1⟩; have X1 := qh x1; clear x1)
    have HF := qh (show DAft F w xb rb T I P _ from (DAft.refl HD.out).ext (XA.out.trans X1.out))
    go_ret
    exact ⟨rfl, HF.out⟩
  | true =>
    rw [hb] at HH
    unfold hasI at hb
    rw [Bool.and_eq_true, decide_eq_true_eq, beq_iff_eq] at hb
    obtain ⟨hk0, hki⟩ := hb
    obtain ⟨i, rfl⟩ := Int.eq_ofNat_of_zero_le hk0
    rw [Int.toNat_natCast] at hki
    have hil := (List.getElem?_eq_some_iff.1 hki).1
    obtain ⟨p, hp⟩ : ∃ p, P[i]? = some p := ⟨_, List.getElem?_eq_getElem (by rw [h.len]; exact hil)⟩
    have HP := qh hp
    obtain ⟨m, hm⟩ : ∃ m, I.length = m := ⟨_, rfl⟩
    have HM := qh hm
    rw [hm] at hil hl
    simp only [if_true, Int.toNat_natCast, Bool.true_and]
    have i0 : (0 : Int) ≤ (i : Int) := by omega
    have i1 : (i : Int) < (m : Int) := by omega
    have itn : (i : Int).toNat = i := by omega
    have HIL := qh hil
    clear h hki hp hm
    go_enter Tryz.func42, Tryz.ntmps42
    go_upto_region 1 with fail
    rw [← HWA.out, HPB.out]
    go_upto_region 3 with (go_at_call 60; refine HH.out.mono ?_; rintro e w2 ⟨rfl, x2⟩; have X2 := qh x2; clear x2)
    have r0 : ∀ u : ExtOf w2, u.val.cell? ⟨xb, 0, none⟩ = some (.pointer (some ⟨rb, 0, none⟩)) := fun u => ((XA.out.trans X2.out).trans u.ext).cell HD.out.ptr_
    have r1 : ∀ u : ExtOf w2, u.val.cell? ⟨pb, 0, none⟩ = some (.int .i64 n) := fun u => (X2.out.trans u.ext).cell (cellOf HBA.out rfl)
    have r2 : ∀ u : ExtOf w2, u.val.cell? ⟨pb, 1, none⟩ = some (.int .i64 a) := fun u => (X2.out.trans u.ext).cell (cellOf HBA.out rfl)
    have HM2 := qh (fun u : ExtOf w2 => inExt (u := u) (HMY.out u.val (X2.out.trans u.ext)))
    refine wp_region_ext (by kernel_rfl) (by kernel_rfl) ?_
    cases mb with
    | false =>
      repeat (go_big_quiet_step ((go_at_call 102; exact HM2.out _)))
      refine wpQuiet_nil ?_
      rintro _ ⟨u, rfl⟩
      have HF : Hid (DAft F w xb rb T I P u.val) := qh ((DAft.refl HD.out).ext (XA.out.trans (X2.out.trans u.ext)))
      clear r0 r1 r2
      go_wp2_with fail
      go_ret
      exact ⟨rfl, HF.out⟩
    | true =>
      repeat (go_big_quiet_step ((go_at_call 102; exact HM2.out _)))
      refine wpQuiet_nil ?_
      rintro _ ⟨u, rfl⟩
      have hx := X2.out.trans u.ext
      obtain ⟨w3, hw3⟩ : ∃ W, u.val = W := ⟨_, rfl⟩
      rw [hw3] at hx ⊢
      clear r0 r1 r2 HM2 hw3
      clear u
      have D3 := qh (HD.out.ext (XA.out.trans hx))
      have X3 := qh (XA.out.trans hx)
      have B3 := qh (hx.block HBA.out)
      clear hx
      go_upto_region 5 with fail
      obtain ⟨g2, cap2, p2, q0, q1, f0, f1⟩ := D3.out.heldFree HP.out
      have hpl : P.length = m := by rw [HD.out.len, HM.out]
      rw [hpl] at p2
      have P2 := qh p2
      have r0 : ∀ u : ExtOf w3, u.val.cell? ⟨xb, 2, none⟩ = some (.slice (some ⟨g2, 0, none⟩) m cap2) := fun u => u.ext.cell p2
      have r1 : ∀ u : ExtOf w3, u.val.cell? ⟨pb, 0, none⟩ = some (.int .i64 n) := fun u => u.ext.cell (cellOf B3.out rfl)
      have r2 : ∀ u : ExtOf w3, u.val.cell? ⟨pb, 1, none⟩ = some (.int .i64 a) := fun u => u.ext.cell (cellOf B3.out rfl)
      have HPL := qh hpl
      have L0 := qh (cell_lt q0)
      have Q0 := qh q0
      have Q1 := qh q1
      have FF0 := qh f0
      have FF1 := qh f1
      clear q0 q1 f0 f1 p2 hpl
      refine wp_region_ext_tail 7 (by kernel_rfl) (by kernel_rfl) ?_
      simp only [List.take_succ_cons, List.take_zero, List.drop_succ_cons, List.drop_zero]
      repeat (go_big_quiet_step (fail))
      refine wpQuiet_nil ?_
      rintro _ ⟨u, rfl⟩
      have hx := u.ext
      obtain ⟨w5, hw5⟩ : ∃ W, u.val = W := ⟨_, rfl⟩
      rw [hw5] at hx ⊢
      clear r0 r1 r2 hw5
      clear u
      have D5 := D3.out.ext hx
      have p5 := hx.cell P2.out
      obtain ⟨d3, fg2⟩ := D5.setP (pv := .slice (some ⟨g2, 0, none⟩) m cap2) p5 (g := g2) (k := i) rfl (by rw [HPL.out]; exact HIL.out) n a
      have HF : Hid (DAft F w xb rb T I (P.set i (n, a)) ((w5.setCell ⟨g2, i * 2, none⟩ (.int .i64 n)).setCell ⟨g2, i * 2 + 1, none⟩ (.int .i64 a))) := qh (HD.out.aft d3 (((Mv.ofExt (X3.out.trans hx)).setCell (p := ⟨g2, i * 2, none⟩) (fun _ => fg2) _).setCell (p := ⟨g2, i * 2 + 1, none⟩) (fun _ => fg2) _))
      have k0 := hx.cell Q0.out
      have k1 := hx.cell Q1.out
      have f0 := hx.free L0.out FF0.out
      have f1 := hx.free L0.out FF1.out
      clear d3 fg2 D5 p5 hx
      go_wp2_with fail
      go_ret
      exact ⟨rfl, HF.out⟩
end
def DNewIs (w : World) (T : Tr) (I : List Int) (P : List (Int × Int)) (e : Ending) (w' : World) : Prop := ∃ xb rb, e = .returned (.pointer (some ⟨xb, 0, none⟩)) ∧ Ext w w' ∧ DocOn w' (fun b => w.heap.size ≤ b) xb rb T I P
theorem dNew_ok (cap deep : Int) (h1 : 1 ≤ cap) (h2 : cap ≤ 2000) (h3 : 0 ≤ deep) (h4 : deep ≤ 40) (w : World) :
    Calls Tryz.prog 9 #[.int .i64 cap, .int .i64 deep] w (DNewIs w (hostOf cap deep) [] []) := by
  have HN := qh (rNew_ok cap deep h1 h2 h3 h4 w)
  clear h1 h2 h3 h4
  obtain ⟨T, hT⟩ : ∃ T, hostOf cap deep = T := ⟨_, rfl⟩
  rw [hT] at HN ⊢
  clear hT
  go_enter Tryz.func9, Tryz.ntmps9
  go_wp2_with (go_at_call 30; refine HN.out.mono ?_)
  rintro e w1 ⟨rb, rfl, x1, hR⟩
  have HR := qh hR.lt
  have X1 := qh x1
  clear hR x1
  have HF : Hid (DNewIs w T [] [] (.returned (.pointer (some ⟨w1.heap.size, 0, none⟩))) (w1.alloc (.cells #[.pointer (some ⟨rb, 0, none⟩), .slice none 0 0, .slice none 0 0] 76))) := qh (by
    have xa := (Ext.refl w1).alloc (.cells #[.pointer (some ⟨rb, 0, none⟩), .slice none 0 0, .slice none 0 0] 76)
    refine ⟨w1.heap.size, rb, rfl, X1.out.trans xa, rfl, X1.out.size, _, _, _, none, none, HR.out.ext xa, fun b hb => ⟨hb.1, by omega, by simp, by simp, Nat.lt_of_lt_of_le hb.2 xa.size⟩, heap_alloc_new _ _, ⟨rfl, .inl ⟨rfl, none, rfl⟩⟩, (fun g hg => by cases hg), ⟨rfl, .inl ⟨rfl, none, rfl⟩⟩, fun g hg => by cases hg⟩)
  go_wp2_with fail
  go_ret
  exact HF.out
theorem dNew_no (cap deep : Int) (h : ¬ (1 ≤ cap ∧ cap ≤ 2000 ∧ 0 ≤ deep ∧ deep ≤ 40)) (w : World) :
    Calls Tryz.prog 9 #[.int .i64 cap, .int .i64 deep] w (RSame (.pointer none) w) := by
  have HN := qh (rNew_no cap deep h w)
  clear h
  go_enter Tryz.func9, Tryz.ntmps9
  go_wp2_with (go_at_call 30; refine HN.out.mono ?_; rintro e w1 ⟨rfl, rfl⟩)
  go_ret
  exact ⟨rfl, rfl⟩
section
variable {w : World} {F : Nat → Prop} {xb rb : Nat} {T : Tr} {I : List Int} {P : List (Int × Int)}
def DTwoAft (F : Nat → Prop) (w : World) (xb rb : Nat) (x er : Int) (T : Tr) (I : List Int) (P : List (Int × Int)) (e : Ending) (w' : World) : Prop := e = .returned (.tuple #[.int .i64 x, .int .i64 er]) ∧ DAft F w xb rb T I P w'
theorem dHold_no (h : DocOn w F xb rb T I P) (n a : Int) (hM : ∀ W, Ext w W → Calls Tryz.prog 102 #[.pointer (some ⟨rb, 0, none⟩), pl n a] W (RVal (.bool false) W)) :
    Calls Tryz.prog 40 #[.pointer (some ⟨xb, 0, none⟩), pl n a] w (DTwoAft F w xb rb 0 1 T I P) := by
  have xa := (Ext.refl w).alloc (.cells #[.int .i64 n, .int .i64 a] 43)
  have hba := heap_alloc_new w (.cells #[.int .i64 n, .int .i64 a] 43)
  obtain ⟨wa, hwa⟩ : ∃ W : World, W = w.alloc (.cells #[.int .i64 n, .int .i64 a] 43) := ⟨_, rfl⟩
  rw [← hwa] at xa hba
  obtain ⟨pb, hpb⟩ : ∃ b, w.heap.size = b := ⟨_, rfl⟩
  rw [hpb] at hba
  have HD := qh h
  have XA := qh xa
  have HWA := qh hwa
  have HPB := qh hpb
  have HBA := qh hba
  have HMY := qh (fun (u : ExtOf wa) => inExt (u := u) (hM u.val (xa.trans u.ext)))
  clear hM xa hwa hpb hba h
  go_enter Tryz.func40, Tryz.ntmps40
  go_upto_region 1 with fail
  rw [← HWA.out, HPB.out]
  have r0 : ∀ u : ExtOf wa, u.val.cell? ⟨xb, 0, none⟩ = some (.pointer (some ⟨rb, 0, none⟩)) := fun u => (XA.out.trans u.ext).cell HD.out.ptr_
  have r1 : ∀ u : ExtOf wa, u.val.cell? ⟨pb, 0, none⟩ = some (.int .i64 n) := fun u => u.ext.cell (cellOf HBA.out rfl)
  have r2 : ∀ u : ExtOf wa, u.val.cell? ⟨pb, 1, none⟩ = some (.int .i64 a) := fun u => u.ext.cell (cellOf HBA.out rfl)
  refine wp_region_ext (by kernel_rfl) (by kernel_rfl) ?_
  repeat (go_big_quiet_step ((go_at_call 102; exact HMY.out _)))
  refine wpQuiet_nil ?_
  rintro _ ⟨u, rfl⟩
  have HF : Hid (DAft F w xb rb T I P u.val) := qh ((DAft.refl HD.out).ext (XA.out.trans u.ext))
  clear r0 r1 r2
  go_wp2_with fail
  refine bodyPost_ret (v := .tuple #[.int .i64 0, .int .i64 1]) (by simp [results, Tryz.results40, asAddr]) rfl ?_
  exact ⟨rfl, HF.out⟩
end
def chP (f : Int → Int → Int × Int) (i : Int) (p : Int × Int) : Int × Int := if i = 0 then p else f p.1 p.2
def chAll (f : Int → Int → Int × Int) (I : List Int) (P : List (Int × Int)) : List (Int × Int) := List.zipWith (chP f) I P
def chTo (f : Int → Int → Int × Int) (I : List Int) (P : List (Int × Int)) (i : Nat) : List (Int × Int) := (chAll f I P).take i ++ P.drop i
section
variable {f : Int → Int → Int × Int} {I : List Int} {P : List (Int × Int)}
theorem chAll_len (h : P.length = I.length) : (chAll f I P).length = I.length := by unfold chAll; rw [List.length_zipWith, h]; simp
theorem chTo_zero : chTo f I P 0 = P := by simp [chTo]
theorem chTo_len (h : P.length = I.length) (i : Nat) : (chTo f I P i).length = I.length := by
  unfold chTo
  rw [List.length_append, List.length_take, List.length_drop, chAll_len h, h]
  omega
theorem chTo_all (h : P.length = I.length) : chTo f I P I.length = chAll f I P := by
  unfold chTo
  rw [List.take_of_length_le (by rw [chAll_len h]; exact Nat.le_refl _), List.drop_of_length_le (by omega), List.append_nil]
theorem chTo_at (h : P.length = I.length) {i : Nat} {p : Int × Int} (hp : P[i]? = some p) : (chTo f I P i)[i]? = some p := by
  have hi := (List.getElem?_eq_some_iff.1 hp).1
  unfold chTo
  have hl : ((chAll f I P).take i).length = i := by rw [List.length_take, chAll_len h]; omega
  rw [List.getElem?_append_right (by omega), hl, Nat.sub_self, List.getElem?_drop, Nat.add_zero]
  exact hp
theorem chTo_next (h : P.length = I.length) {i : Nat} {x : Int} {p : Int × Int} (hx : I[i]? = some x) (hp : P[i]? = some p) : (chTo f I P i).set i (chP f x p) = chTo f I P (i + 1) := by
  obtain ⟨hi, e⟩ := List.getElem?_eq_some_iff.1 hp
  unfold chTo
  have hl : ((chAll f I P).take i).length = i := by rw [List.length_take, chAll_len h]; omega
  have hc : (chAll f I P)[i]? = some (chP f x p) := by unfold chAll; rw [List.getElem?_zipWith, hx, hp]
  rw [List.set_append_right _ _ (by omega), hl, Nat.sub_self, List.drop_eq_getElem_cons hi, List.set_cons_zero, List.take_add_one, hc]
  simp
end
section
variable {w : World} {F : Nat → Prop} {xb rb : Nat} {T : Tr} {I : List Int} {P : List (Int × Int)}
theorem DocOn.lt (h : DocOn w F xb rb T I P) : DocOn w (fun b => F b ∧ b < w.heap.size) xb rb T I P := by
  obtain ⟨F0, iv, pv, ib, pb, h1, h2, h3, h4, h5, h6, h7⟩ := h.out
  exact ⟨h.len, ⟨h.own, (Array.getElem?_eq_some_iff.1 h3).1⟩, F0, iv, pv, ib, pb, h1, fun b hb => ⟨⟨(h2 b hb).1, (h2 b hb).2.2.2.2⟩, (h2 b hb).2⟩, h3, h4, fun g hg => ⟨⟨(h5 g hg).1, (h5 g hg).2.2.2⟩, (h5 g hg).2⟩, h6, fun g hg => ⟨⟨(h7 g hg).1, (h7 g hg).2.2⟩, (h7 g hg).2⟩⟩
def DVoid (F : Nat → Prop) (w : World) (xb rb : Nat) (T : Tr) (I : List Int) (P : List (Int × Int)) (e : Ending) (w' : World) : Prop := e = .returned (.tuple #[]) ∧ DAft F w xb rb T I P w'
theorem RowRd.ints {w : World} {v : Value} {L : List Int} (h : RowRd w 1 v L.length (L.map (Value.int .i64))) : ∃ ao cap, v = .slice ao L.length cap ∧ ∀ (k : Nat) x, L[k]? = some x → ∃ a, ao = some a ∧ w.cell? (a.add k) = some (.int .i64 x) := by
  obtain ⟨hl, ao, cap, rfl, hcap, hnone, hc⟩ := h
  refine ⟨ao, cap, rfl, fun k x hk => ?_⟩
  have hkl := (List.getElem?_eq_some_iff.1 hk).1
  cases ao with
  | none => have := (hnone rfl).1; omega
  | some a => exact ⟨a, rfl, hc a rfl k (.int .i64 x) (by rw [List.getElem?_map, hk]; rfl)⟩
theorem dChange (h : DocOn w F xb rb T I P) (hl : I.length ≤ 100000) {v : Value} {L : List Int} (hv : ∀ W, Mv F w W → RowRd W 1 v L.length (L.map (Value.int .i64))) (hL : L.length ≤ 100000) (kin other a b c d e : Int) (f : Int → Int → Int × Int)
    (hC : ∀ (k : Nat) n x i, P[k]? = some (n, x) → I[k]? = some i → i ≠ 0 → ∀ W, Calls Tryz.prog 135 #[pl n x, .int .i64 (if n ∈ L then kin else other), .agg #[.int .i64 a, .int .i64 b, .int .i64 c, .int .i64 d, .int .i64 e]] W (RPlace (f n x).1 (f n x).2 W)) :
    Calls Tryz.prog 89 #[.pointer (some ⟨xb, 0, none⟩), v, .int .i64 kin, .int .i64 other, .agg #[.int .i64 a, .int .i64 b, .int .i64 c, .int .i64 d, .int .i64 e]] w (DVoid F w xb rb T I (chAll f I P)) := by
  have xa := (Ext.refl w).alloc (.cells #[.int .i64 a, .int .i64 b, .int .i64 c, .int .i64 d, .int .i64 e] 128)
  have hba := heap_alloc_new w (.cells #[.int .i64 a, .int .i64 b, .int .i64 c, .int .i64 d, .int .i64 e] 128)
  obtain ⟨w1, hw1⟩ : ∃ W : World, W = w.alloc (.cells #[.int .i64 a, .int .i64 b, .int .i64 c, .int .i64 d, .int .i64 e] 128) := ⟨_, rfl⟩
  rw [← hw1] at xa hba
  obtain ⟨nb, hnb⟩ : ∃ b, w.heap.size = b := ⟨_, rfl⟩
  have hd1 := h.lt.ext xa
  rw [hnb] at hba hd1
  obtain ⟨ao, cap, ev, -⟩ := (hv w (Mv.refl _ _)).ints
  obtain ⟨ml, hml⟩ : ∃ m, L.length = m := ⟨_, rfl⟩
  obtain ⟨m, hm⟩ : ∃ m, I.length = m := ⟨_, rfl⟩
  have hpm : P.length = m := by rw [h.len, hm]
  have HPL := qh h.len
  have HPM := qh hpm
  have HML := qh hml
  have HM := qh hm
  have HD := qh h
  have HD1 := qh hd1
  have XA := qh xa
  have HW1 := qh hw1
  have HNB := qh hnb
  have HBA := qh hba
  have HV : Hid (∀ W, Mv (fun b => F b ∧ b < nb) w1 W → RowRd W 1 v ml (L.map (Value.int .i64))) := qh (fun W hW => by
    have h2 := hv W ((Mv.ofExt xa).trans (hW.imp fun x _ hx => hx.1))
    rw [hml] at h2
    exact h2)
  have HC := qh hC
  rw [hml] at hL ev
  rw [hm] at hl
  subst ev
  clear h hd1 hv hC xa hw1 hnb hba hml hm hpm
  go_enter Tryz.func89, Tryz.ntmps89
  go_upto_region 1 with fail
  rw [← HW1.out, HNB.out]
  go_wp2_with fail
  go_loopw [10, 11, 12] (fun iv kv jv wr => ∃ i : Nat, i ≤ m ∧ iv = .int .i64 i ∧ DocOn wr (fun b => F b ∧ b < nb) xb rb T I (chTo f I P i) ∧ Mv (fun b => F b ∧ b < nb) w1 wr) (fun iv _ _ _ => m - (intOf iv).toNat)
  case atStart => exact ⟨0, Nat.zero_le _, rfl, by rw [chTo_zero]; exact HD1.out, Mv.refl _ _⟩
  case round =>
    rename World => wo
    obtain ⟨i, him, rfl, hdc, hmv⟩ := hrel
    have HDC := qh hdc
    have HMV := qh hmv
    have HIM := qh him
    clear hdc hmv
    by_cases hlt : i < m
    · obtain ⟨x, hx⟩ : ∃ x, I[i]? = some x := ⟨_, List.getElem?_eq_getElem (by rw [HM.out]; exact hlt)⟩
      obtain ⟨p, hp⟩ : ∃ p, P[i]? = some p := ⟨_, List.getElem?_eq_getElem (by rw [HPM.out]; exact hlt)⟩
      obtain ⟨pn, px⟩ := p
      obtain ⟨g1, cap1, p1, q1, -⟩ := HDC.out.isFree hx
      rw [HM.out] at p1
      have HX := qh hx
      have HP := qh hp
      have e0 : decide ((i : Int) < (m : Int)) = true := decide_eq_true (by omega)
      have e0n : decide (i < m) = true := decide_eq_true hlt
      have i0 : (0 : Int) ≤ (i : Int) := by omega
      have i1 : (i : Int) < (m : Int) := by omega
      have itn : (i : Int).toNat = i := by omega
      have HLT := qh hlt
      clear hx hp hlt him
      by_cases hx0 : x = 0
      · have ex : (x == 0) = true := beq_iff_eq.2 hx0
        have HX0 := qh hx0
        clear hx0
        go_wp2_with fail
        go_roundw
        case rel =>
          refine ⟨i + 1, by have := HLT.out; omega, by go_num, ?_, HMV.out⟩
          rw [← chTo_next HPL.out HX.out HP.out]
          have e1 : chP f x (pn, px) = (pn, px) := if_pos HX0.out
          rw [e1]
          have e2 : (chTo f I P i).set i (pn, px) = chTo f I P i := by
            obtain ⟨h1, h2⟩ := List.getElem?_eq_some_iff.1 (chTo_at (f := f) HPL.out HP.out)
            rw [← h2]; exact List.set_getElem_self h1
          rw [e2]
          exact HDC.out
        case measure => have := HLT.out; simp [intOf]; omega
      · have ex : (x == 0) = false := beq_eq_false_iff_ne.2 hx0
        have HX0 := qh hx0
        clear hx0
        go_wp2_with fail
        clear p1 q1
        go_loopw [11, 12] (fun kv jv w' => ∃ j : Nat, j ≤ ml ∧ jv = .int .i64 j ∧ kv = .int .i64 (if pn ∈ L.take j then kin else other) ∧ Ext wo w') (fun _ jv _ => ml - (intOf jv).toNat)
        case atStart => exact ⟨0, Nat.zero_le _, rfl, rfl, Ext.refl _⟩
        case round =>
          rename World => w'
          obtain ⟨j, hjm, rfl, rfl, hxw⟩ := hrel
          have HXW := qh hxw
          have HJM := qh hjm
          clear hxw
          by_cases hjl : j < ml
          · obtain ⟨y, hy⟩ : ∃ y, L[j]? = some y := ⟨_, List.getElem?_eq_getElem (by rw [HML.out]; exact hjl)⟩
            have hrd := HV.out w' (HMV.out.ext HXW.out)
            obtain ⟨_, ao2, cap2, e2, -, hn2, hc2⟩ := hrd
            cases e2
            obtain ⟨av, rfl⟩ : ∃ av, ao = some av := by
              cases ao with
              | some av => exact ⟨av, rfl⟩
              | none => have := (hn2 rfl).1; omega
            have q2 := hc2 av rfl j (.int .i64 y) (by rw [List.getElem?_map, hy]; rfl)
            have D2 := HDC.out.ext HXW.out
            obtain ⟨g2, cap3, p2, q3, q4, -, -⟩ := D2.heldFree (chTo_at (f := f) HPL.out HP.out)
            rw [chTo_len HPL.out, HM.out] at p2
            have HY := qh hy
            have HJL := qh hjl
            have j0 : (0 : Int) ≤ (j : Int) := by omega
            have j1 : (j : Int) < (ml : Int) := by omega
            have jtn : (j : Int).toNat = j := by omega
            have e5 : decide ((j : Int) < (ml : Int)) = true := decide_eq_true (by omega)
            have e5n : decide (j < ml) = true := decide_eq_true hjl
            have r0 : ∀ u : ExtOf w', u.val.cell? ⟨xb, 2, none⟩ = some (.slice (some ⟨g2, 0, none⟩) m cap3) := fun u => u.ext.cell p2
            have r1 : ∀ u : ExtOf w', u.val.cell? ⟨g2, i * 2, none⟩ = some (.int .i64 pn) := fun u => u.ext.cell q3
            have r2 : ∀ u : ExtOf w', u.val.cell? (av.add j) = some (.int .i64 y) := fun u => u.ext.cells _ _ q2
            clear hn2 hc2 p2 q2 q3 q4 D2 hy hjl hjm
            obtain ⟨kd, hkd⟩ : ∃ k, (if pn ∈ L.take j then kin else other) = k := ⟨_, rfl⟩
            have HKD := qh hkd
            rw [hkd]
            clear hkd
            by_cases hyp : y = pn
            · have e6 : (y == pn) = true := beq_iff_eq.2 hyp
              have e6d : decide (y = pn) = true := decide_eq_true hyp
              have HYP := qh hyp
              clear hyp
              go_upto_region 9 with fail
              refine wp_region_ext (by kernel_rfl) (by kernel_rfl) ?_
              repeat (go_big_quiet_step (fail))
              refine wpQuiet_nil ?_
              rintro _ ⟨u, rfl⟩
              have hx5 := HXW.out.trans u.ext
              obtain ⟨w5, hw5⟩ : ∃ W, u.val = W := ⟨_, rfl⟩
              rw [hw5] at hx5 ⊢
              clear r0 r1 r2 hw5
              clear u
              have HX5 := qh hx5
              clear hx5
              go_wp2_with fail
              go_roundw
              case rel =>
                refine ⟨j + 1, by have := HJL.out; omega, by go_num, ?_, HX5.out⟩
                rw [if_pos]
                rw [List.take_add_one, HY.out, HYP.out]
                simp
              case measure => have := HJL.out; simp [intOf]; omega
            · have e6 : (y == pn) = false := beq_eq_false_iff_ne.2 hyp
              have e6d : decide (y = pn) = false := decide_eq_false hyp
              have HYP := qh hyp
              clear hyp
              go_upto_region 9 with fail
              refine wp_region_ext (by kernel_rfl) (by kernel_rfl) ?_
              repeat (go_big_quiet_step (fail))
              refine wpQuiet_nil ?_
              rintro _ ⟨u, rfl⟩
              have hx5 := HXW.out.trans u.ext
              obtain ⟨w5, hw5⟩ : ∃ W, u.val = W := ⟨_, rfl⟩
              rw [hw5] at hx5 ⊢
              clear r0 r1 r2 hw5
              clear u
              have HX5 := qh hx5
              clear hx5
              go_wp2_with fail
              go_roundw
              case rel =>
                refine ⟨j + 1, by have := HJL.out; omega, by go_num, ?_, HX5.out⟩
                rw [← HKD.out, List.take_add_one, HY.out]
                have hz : (pn ∈ L.take j ++ (some y).toList) ↔ pn ∈ L.take j := by
                  rw [List.mem_append]
                  constructor
                  · rintro (h | h)
                    · exact h
                    · have h3 : pn = y := by simpa using h
                      exact absurd h3.symm HYP.out
                  · exact .inl
                by_cases hc : pn ∈ L.take j
                · rw [if_pos hc, if_pos (hz.2 hc)]
                · rw [if_neg hc, if_neg (fun h => hc (hz.1 h))]
              case measure => have := HJL.out; simp [intOf]; omega
          · have hje : j = ml := by omega
            have e5 : decide ((j : Int) < (ml : Int)) = false := decide_eq_false (by omega)
            have e5n : decide (j < ml) = false := decide_eq_false hjl
            have hkd : (if pn ∈ L.take j then kin else other) = (if pn ∈ L then kin else other) := by rw [hje, ← HML.out, List.take_length]
            rw [hkd]
            have HCC := qh (fun u : ExtOf w' => inExt (u := u) (HC.out i pn px x HP.out HX.out HX0.out u.val))
            obtain ⟨kd, hkd2⟩ : ∃ k, (if pn ∈ L then kin else other) = k := ⟨_, rfl⟩
            obtain ⟨n', hn'⟩ : ∃ n', (f pn px).1 = n' := ⟨_, rfl⟩
            obtain ⟨a', ha'⟩ : ∃ a', (f pn px).2 = a' := ⟨_, rfl⟩
            rw [hkd2, hn', ha'] at HCC
            rw [hkd2]
            have HN' := qh hn'
            have HA' := qh ha'
            clear hkd hkd2 hn' ha' hje hjl hjm
            go_upto_region 11 with fail
            have D2 := HDC.out.ext HXW.out
            obtain ⟨g2, cap3, p2, q3, q4, f3, f4⟩ := D2.heldFree (chTo_at (f := f) HPL.out HP.out)
            rw [chTo_len HPL.out, HM.out] at p2
            have hbn := (HMV.out.ext HXW.out).block HBA.out (fun h => absurd h.2 (Nat.lt_irrefl _))
            have r0 : ∀ u : ExtOf w', u.val.cell? ⟨xb, 2, none⟩ = some (.slice (some ⟨g2, 0, none⟩) m cap3) := fun u => u.ext.cell p2
            have r1 : ∀ u : ExtOf w', u.val.cell? ⟨g2, i * 2, none⟩ = some (.int .i64 pn) := fun u => u.ext.cell q3
            have r2 : ∀ u : ExtOf w', u.val.cell? ⟨g2, i * 2 + 1, none⟩ = some (.int .i64 px) := fun u => u.ext.cell q4
            have r3 : ∀ u : ExtOf w', u.val.cell? ⟨nb, 0, none⟩ = some (.int .i64 a) := fun u => u.ext.cell (cellOf hbn rfl)
            have r4 : ∀ u : ExtOf w', u.val.cell? ⟨nb, 1, none⟩ = some (.int .i64 b) := fun u => u.ext.cell (cellOf hbn rfl)
            have r5 : ∀ u : ExtOf w', u.val.cell? ⟨nb, 2, none⟩ = some (.int .i64 c) := fun u => u.ext.cell (cellOf hbn rfl)
            have r6 : ∀ u : ExtOf w', u.val.cell? ⟨nb, 3, none⟩ = some (.int .i64 d) := fun u => u.ext.cell (cellOf hbn rfl)
            have r7 : ∀ u : ExtOf w', u.val.cell? ⟨nb, 4, none⟩ = some (.int .i64 e) := fun u => u.ext.cell (cellOf hbn rfl)
            have P2 := qh p2
            have Q3 := qh q3
            have Q4 := qh q4
            have FF3 := qh f3
            have FF4 := qh f4
            clear D2 p2 q3 q4 f3 f4 hbn
            refine wp_region_ext_tail 16 (by kernel_rfl) (by kernel_rfl) ?_
            simp only [List.take_succ_cons, List.take_zero, List.drop_succ_cons, List.drop_zero]
            repeat (go_big_quiet_step ((go_at_call 135; exact HCC.out _)))
            refine wpQuiet_nil ?_
            rintro _ ⟨u, rfl⟩
            have hx5 := u.ext
            obtain ⟨w5, hw5⟩ : ∃ W, u.val = W := ⟨_, rfl⟩
            rw [hw5] at hx5 ⊢
            clear r0 r1 r2 r3 r4 r5 r6 r7 hw5 HCC
            clear u
            have k0 := hx5.cell Q3.out
            have k1 := hx5.cell Q4.out
            have f0 := hx5.free (cell_lt Q3.out) FF3.out
            have f1 := hx5.free (cell_lt Q3.out) FF4.out
            have HF : Hid (DocOn ((w5.setCell ⟨g2, i * 2, none⟩ (.int .i64 n')).setCell ⟨g2, i * 2 + 1, none⟩ (.int .i64 a')) (fun b => F b ∧ b < nb) xb rb T I (chTo f I P (i + 1)) ∧
                Mv (fun b => F b ∧ b < nb) w1 ((w5.setCell ⟨g2, i * 2, none⟩ (.int .i64 n')).setCell ⟨g2, i * 2 + 1, none⟩ (.int .i64 a'))) := qh (by
              have D5 := (HDC.out.ext HXW.out).ext hx5
              obtain ⟨d3, fg2⟩ := D5.setP (pv := .slice (some ⟨g2, 0, none⟩) m cap3) (hx5.cell P2.out) (g := g2) (k := i) rfl (by rw [chTo_len HPL.out, HM.out]; exact HLT.out) n' a'
              have e1 : (n', a') = chP f x (pn, px) := by
                unfold chP
                rw [if_neg HX0.out]
                show (n', a') = f pn px
                rw [← HN'.out, ← HA'.out]
              rw [e1, chTo_next HPL.out HX.out HP.out] at d3
              exact ⟨d3, (((HMV.out.ext HXW.out).ext hx5).setCell (p := ⟨g2, i * 2, none⟩) (fun _ => fg2) _).setCell (p := ⟨g2, i * 2 + 1, none⟩) (fun _ => fg2) _⟩)
            clear hx5
            go_wp2_with fail
            go_roundw
            case rel => exact ⟨i + 1, by have := HLT.out; omega, by go_num, HF.out.1, HF.out.2⟩
            case measure => have := HLT.out; simp [intOf]; omega
    · have hie : i = m := by omega
      have e0 : decide ((i : Int) < (m : Int)) = false := decide_eq_false (by omega)
      have e0n : decide (i < m) = false := decide_eq_false hlt
      obtain ⟨ao1, cap1, p1, -⟩ := HDC.out.isAt
      rw [HM.out] at p1
      have HF : Hid (DAft F w xb rb T I (chAll f I P) wo) := qh (by
        have h9 := HDC.out
        rw [hie, ← HM.out, chTo_all HPL.out] at h9
        exact HD.out.aft (h9.wide fun b hb => hb.1) ((Mv.ofExt XA.out).trans (HMV.out.imp fun x _ hx => hx.1)))
      clear hie hlt him
      go_wp2_with fail
      go_end0
      exact ⟨rfl, HF.out⟩
end
def movedD (er : Int) (f : Int → Int → Int × Int) (I : List Int) (P : List (Int × Int)) : List (Int × Int) := if er = 0 then chAll f I P else P
def okPl (P : List (Int × Int)) : Prop := ∀ x ∈ P, okI x.1 ∧ okI x.2
section
variable {w : World} {F : Nat → Prop} {xb rb : Nat} {T : Tr} {I : List Int} {P : List (Int × Int)}
theorem nil_ints (w : World) : RowRd w 1 (.slice none 0 0) ([] : List Int).length (([] : List Int).map (Value.int .i64)) := nil_row w
theorem dChange_ins (h : DocOn w F xb rb T I P) (hl : I.length ≤ 100000) (p q m : Int) (op : okI p) (oq : okI q) (om : okI m) (oP : okPl P) :
    Calls Tryz.prog 89 #[.pointer (some ⟨xb, 0, none⟩), .slice none 0 0, .int .i64 0, .int .i64 0, .agg #[.int .i64 p, .int .i64 q, .int .i64 m, .int .i64 0, .int .i64 0]] w (DVoid F w xb rb T I (chAll (insP p q m) I P)) :=
  dChange h hl (v := .slice none 0 0) (L := []) (fun W _ => nil_ints W) (by decide) 0 0 p q m 0 0 (insP p q m) (fun k n x i hp hi h0 W => by
    have hk := oP _ (List.mem_of_getElem? hp)
    have e : (if n ∈ ([] : List Int) then (0 : Int) else 0) = 0 := by simp
    rw [e]
    exact rChange0 n x p q m 0 0 W hk.1 hk.2 op oq om)
theorem dChange_rep (h : DocOn w F xb rb T I P) (hl : I.length ≤ 100000) (p q c m : Int) (op : okI p) (oq : okI q) (oc : okI c) (hc : 0 ≤ c) (om : okI m) (oP : okPl P) :
    Calls Tryz.prog 89 #[.pointer (some ⟨xb, 0, none⟩), .slice none 0 0, .int .i64 0, .int .i64 3, .agg #[.int .i64 p, .int .i64 q, .int .i64 c, .int .i64 m, .int .i64 0]] w (DVoid F w xb rb T I (chAll (repP p q c m) I P)) :=
  dChange h hl (v := .slice none 0 0) (L := []) (fun W _ => nil_ints W) (by decide) 0 3 p q c m 0 (repP p q c m) (fun k n x i hp hi h0 W => by
    have hk := oP _ (List.mem_of_getElem? hp)
    have e : (if n ∈ ([] : List Int) then (0 : Int) else 3) = 3 := by simp
    rw [e]
    exact rChange3 n x p q c m 0 W hk.1 hk.2 op oq oc om hc)
def goneL (L : List Int) (p q : Int) : Int → Int → Int × Int := fun n a => if n ∈ L then (p, q) else (n, remA n a p q)
theorem dChange_rem (h : DocOn w F xb rb T I P) (hl : I.length ≤ 100000) {v : Value} {L : List Int} (hv : ∀ W, Mv F w W → RowRd W 1 v L.length (L.map (Value.int .i64))) (hL : L.length ≤ 100000) (p q : Int) (op : okI p) (oq : okI q) (oP : okPl P) :
    Calls Tryz.prog 89 #[.pointer (some ⟨xb, 0, none⟩), v, .int .i64 2, .int .i64 1, .agg #[.int .i64 p, .int .i64 q, .int .i64 0, .int .i64 0, .int .i64 0]] w (DVoid F w xb rb T I (chAll (goneL L p q) I P)) :=
  dChange h hl hv hL 2 1 p q 0 0 0 (goneL L p q) (fun k n x i hp hi h0 W => by
    have hk := oP _ (List.mem_of_getElem? hp)
    unfold goneL
    by_cases hn : n ∈ L
    · rw [if_pos hn, if_pos hn]
      exact rChange2 n x p q 0 0 0 W hk.1 hk.2 op oq
    · rw [if_neg hn, if_neg hn]
      exact rChange1 n x p q 0 0 0 W hk.1 hk.2 op oq)
theorem dInsert (h : DocOn w F xb rb T I P) (hl : I.length ≤ 100000) (p q k : Int) {er : Int} {T' : Tr}
    (hd : ∀ F0, RefOn w F0 rb T → Calls Tryz.prog 88 #[.pointer (some ⟨rb, 0, none⟩), .int .i64 p, .int .i64 q, .int .i64 k] w (RErr F0 w rb er T'))
    (hP : er = 0 → okI p ∧ okI q ∧ okPl P) :
    Calls Tryz.prog 33 #[.pointer (some ⟨xb, 0, none⟩), .int .i64 p, .int .i64 q, .int .i64 k] w (DErr F w xb rb er T' I (movedD er (insP p q 1) I P)) := by
  obtain ⟨F0, hR, hsub, hA⟩ := h.tree
  have HC := qh (hd F0 hR)
  have HA := qh hA
  have HL := qh hl
  have c0 := h.ptr_
  by_cases her : er = 0
  · subst her
    obtain ⟨op, oq, oP⟩ := hP rfl
    have OP := qh (And.intro op (And.intro oq oP))
    clear op oq oP hP hA hd hR hsub h hl
    go_enter Tryz.func33, Tryz.ntmps33
    go_wp2_with (first
      | (go_at_call 88; refine HC.out.mono ?_; rintro e w1 ⟨rfl, h1⟩; have HB := qh (HA.out _ _ h1); clear h1)
      | (go_at_call 89; refine (dChange_ins HB.out.on HL.out p q 1 OP.out.1 OP.out.2.1 (by unfold okI; omega) OP.out.2.2).mono ?_; rintro e w2 ⟨rfl, h2⟩; have HF := qh (HB.out.trans h2); clear h2))
    go_ret
    exact ⟨rfl, by unfold movedD; rw [if_pos rfl]; exact HF.out⟩
  · have e0 : (er == 0) = false := beq_eq_false_iff_ne.2 her
    have HE := qh her
    clear her hP hA hd hR hsub h hl
    go_enter Tryz.func33, Tryz.ntmps33
    go_wp2_with ((go_at_call 88; refine HC.out.mono ?_; rintro e w1 ⟨rfl, h1⟩; have HB := qh (HA.out _ _ h1); clear h1))
    go_ret
    exact ⟨rfl, by unfold movedD; rw [if_neg HE.out]; exact HB.out⟩
theorem dGraft (h : DocOn w F xb rb T I P) (hl : I.length ≤ 100000) (p q : Int) (v0 v1 v2 v3 : Value) {i er : Int} {T' : Tr}
    (hd : ∀ F0 W, Ext w W → (∀ b, F0 b → F b) → RefOn W F0 rb T → Calls Tryz.prog 101 #[.pointer (some ⟨rb, 0, none⟩), .int .i64 p, .int .i64 q, .agg #[v0, v1, v2, v3]] W (RTwoAft F0 W rb i er T'))
    (h1 : v0.oneCell' = true ∧ v1.oneCell' = true ∧ v2.oneCell' = true ∧ v3.oneCell' = true) (hP : er = 0 → okI p ∧ okI q ∧ okPl P) :
    Calls Tryz.prog 39 #[.pointer (some ⟨xb, 0, none⟩), .int .i64 p, .int .i64 q, .agg #[v0, v1, v2, v3]] w (DTwoAft F w xb rb i er T' I (movedD er (insP p q 1) I P)) := by
  have xc := (Ext.refl w).alloc (.cells #[v0, v1, v2, v3] 35)
  have hc := heap_alloc_new w (.cells #[v0, v1, v2, v3] 35)
  obtain ⟨wc, hwc⟩ : ∃ W : World, W = w.alloc (.cells #[v0, v1, v2, v3] 35) := ⟨_, rfl⟩
  rw [← hwc] at xc hc
  obtain ⟨bn, hbn⟩ : ∃ b, w.heap.size = b := ⟨_, rfl⟩
  rw [hbn] at hc
  have XC := qh xc
  have HCN := qh hc
  have HWC := qh hwc
  have HBN := qh hbn
  have HD := qh h
  have HG := qh hd
  have HL := qh hl
  have HPP := qh hP
  obtain ⟨o0, o1, o2, o3⟩ := h1
  clear h hd hl hP xc hc hwc hbn
  go_enter Tryz.func39, Tryz.ntmps39
  go_upto_region 1 with fail
  rw [← HWC.out, HBN.out]
  have r0 : ∀ u : ExtOf wc, u.val.cell? ⟨xb, 0, none⟩ = some (.pointer (some ⟨rb, 0, none⟩)) := fun u => u.ext.cell (HD.out.ext XC.out).ptr_
  have r3 : ∀ u : ExtOf wc, u.val.cell? ⟨bn, 0, none⟩ = some v0 := fun u => u.ext.cell (cellOf HCN.out rfl)
  have r4 : ∀ u : ExtOf wc, u.val.cell? ⟨bn, 1, none⟩ = some v1 := fun u => u.ext.cell (cellOf HCN.out rfl)
  have r5 : ∀ u : ExtOf wc, u.val.cell? ⟨bn, 2, none⟩ = some v2 := fun u => u.ext.cell (cellOf HCN.out rfl)
  have r6 : ∀ u : ExtOf wc, u.val.cell? ⟨bn, 3, none⟩ = some v3 := fun u => u.ext.cell (cellOf HCN.out rfl)
  refine wp_region_ext_mid 7 _ rfl (by kernel_rfl) (by kernel_rfl) ?_
  simp only [List.take_succ_cons, List.take_zero, List.drop_succ_cons, List.drop_zero]
  repeat (go_big_quiet_step (fail))
  refine wpQuiet_nil ?_
  rintro _ ⟨u, rfl⟩ K hK
  have HK := qh hK
  have hx := u.ext
  obtain ⟨w5, hw5⟩ : ∃ W, u.val = W := ⟨_, rfl⟩
  rw [hw5] at hx ⊢
  clear r0 r3 r4 r5 r6 hw5 hK
  clear u
  have X5 := qh (XC.out.trans hx)
  have D5 := HD.out.ext X5.out
  clear hx
  obtain ⟨F0, hR, hsub, hA⟩ := D5.tree
  have HC := qh (HG.out F0 w5 X5.out hsub hR)
  have HA := qh hA
  clear D5 hR hsub hA
  go_simp
  go_at_call 101
  refine HC.out.mono ?_
  rintro e w6 ⟨rfl, ha⟩
  have HB := qh (DAft.after X5.out (HA.out _ _ ha))
  clear ha
  refine HK.out _ _ ?_
  clear HK K
  repeat (go_big_quiet_step (fail))
  refine wpQuiet_nil ?_
  rintro _ ⟨u, rfl⟩
  have HB7 := qh (HB.out.ext u.ext)
  obtain ⟨w7, hw7⟩ : ∃ W, u.val = W := ⟨_, rfl⟩
  rw [hw7] at HB7 ⊢
  clear hw7
  clear u
  by_cases her : er = 0
  · subst her
    obtain ⟨op, oq, oP⟩ := HPP.out rfl
    have OP := qh (And.intro op (And.intro oq oP))
    clear op oq oP
    go_wp2_with ((go_at_call 89; refine (dChange_ins HB7.out.on HL.out p q 1 OP.out.1 OP.out.2.1 (by unfold okI; omega) OP.out.2.2).mono ?_; rintro e w2 ⟨rfl, h2⟩; have HF := qh (HB7.out.trans h2); clear h2))
    go_ret2
    exact ⟨rfl, by unfold movedD; rw [if_pos rfl]; exact HF.out⟩
  · have e0 : (er == 0) = false := beq_eq_false_iff_ne.2 her
    have HE := qh her
    clear her
    go_wp2_with fail
    go_ret2
    exact ⟨rfl, by unfold movedD; rw [if_neg HE.out]; exact HB7.out⟩
end
section
variable {w : World} {F : Nat → Prop} {xb rb : Nat} {T : Tr} {I : List Int} {P : List (Int × Int)}
theorem DAft.imp {F' : Nat → Prop} {w' : World} (h : DAft F w xb rb T I P w') (k : ∀ b, F b → F' b) : DAft F' w xb rb T I P w' := ⟨h.on.wide fun b hb => by rcases hb with hb | hb; exact .inl (k b hb); exact .inr hb, h.mv.imp fun x _ hx => k x hx⟩
theorem runes_ok (s : ByteArray) (hs : s.size ≤ 100000) : okI (runes s : Int) := by
  have := runes_le s
  unfold okI
  omega
theorem dSet (h : DocOn w F xb rb T I P) (hl : I.length ≤ 100000) (id at' c : Int) (s all : ByteArray) (hs : s.size ≤ 100000) {er : Int} {T' : Tr}
    (hd : ∀ F0, RefOn w F0 rb T → Calls Tryz.prog 139 #[.pointer (some ⟨rb, 0, none⟩), .int .i64 1, .int .i64 id, .int .i64 0, .string all, .slice none 0 0] w (RErr F0 w rb er T'))
    (hc0 : 0 ≤ c) (hP : er = 0 → okI id ∧ okI at' ∧ okI c ∧ okPl P) :
    Calls Tryz.prog 100 #[.pointer (some ⟨xb, 0, none⟩), .int .i64 id, .int .i64 at', .int .i64 c, .string s, .string all] w (DErr F w xb rb er T' I (movedD er (repP id at' c (runes s)) I P)) := by
  obtain ⟨F0, hR, hsub, hA⟩ := h.tree
  have HC := qh (hd F0 hR)
  have HA := qh hA
  have HL := qh hl
  have HS := qh hs
  have c0 := h.ptr_
  by_cases her : er = 0
  · subst her
    obtain ⟨op, oq, oc, oP⟩ := hP rfl
    have OP := qh (And.intro op (And.intro oq (And.intro oc oP)))
    clear op oq oc oP hP hA hd hR hsub h hl hs
    go_enter Tryz.func100, Tryz.ntmps100
    go_wp2_with (first
      | (go_at_call 139; refine HC.out.mono ?_; rintro e w1 ⟨rfl, h1⟩; have HB := qh (HA.out _ _ h1); clear h1)
      | (go_at_call 99; refine (rChars s HS.out _).mono ?_; rintro e w2 ⟨rfl, h2⟩; have HB2 := qh (HB.out.ext h2); clear h2)
      | (go_at_call 89; refine (dChange_rep HB2.out.on HL.out id at' c (runes s) OP.out.1 OP.out.2.1 OP.out.2.2.1 hc0 (runes_ok s HS.out) OP.out.2.2.2).mono ?_; rintro e w2 ⟨rfl, h2⟩; have HF := qh (HB2.out.trans h2); clear h2))
    go_ret
    exact ⟨rfl, by unfold movedD; rw [if_pos rfl]; exact HF.out⟩
  · have e0 : (er == 0) = false := beq_eq_false_iff_ne.2 her
    have HE := qh her
    clear her hP hA hd hR hsub h hl hs
    go_enter Tryz.func100, Tryz.ntmps100
    go_wp2_with ((go_at_call 139; refine HC.out.mono ?_; rintro e w1 ⟨rfl, h1⟩; have HB := qh (HA.out _ _ h1); clear h1))
    go_ret
    exact ⟨rfl, by unfold movedD; rw [if_neg HE.out]; exact HB.out⟩
theorem dSetText (h : DocOn w F xb rb T I P) (hl : I.length ≤ 100000) (hA : AttrsOk T) (id : Int) (s : ByteArray) (hs : s.size ≤ 100000) {er : Int} {T' : Tr}
    (hd : ∀ F0 W, Ext w W → RefOn W F0 rb T → Calls Tryz.prog 139 #[.pointer (some ⟨rb, 0, none⟩), .int .i64 1, .int .i64 id, .int .i64 0, .string s, .slice none 0 0] W (RErr F0 W rb er T'))
    (hP : er = 0 → okI id ∧ okPl P) :
    Calls Tryz.prog 38 #[.pointer (some ⟨xb, 0, none⟩), .int .i64 id, .string s] w (DErr F w xb rb er T' I (movedD er (repP id 0 (runes (T.txt id)) (runes s)) I P)) := by
  have HL := qh hl
  have HS := qh hs
  have HD := qh h
  have HG := qh hd
  have HP := qh hP
  have c0 := h.ptr_
  cases hg : T.get? id with
  | none =>
    have HAS := qh (rHas_no h.ref hg)
    have e : T.txt id = ByteArray.empty := by unfold Tr.txt; rw [hg]
    have ez : runes ByteArray.empty = 0 := by
      have := runes_le ByteArray.empty
      simpa using this
    rw [e, ez]
    clear h hA hg e ez hd hl hs hP
    go_enter Tryz.func38, Tryz.ntmps38
    go_wp2_with (first
      | (go_at_call 91; refine HAS.out.mono ?_; rintro e w1 ⟨rfl, rfl⟩)
      | (go_at_call 100; refine (dSet HD.out HL.out id 0 0 s s HS.out (fun F0 hR => HG.out F0 _ (Ext.refl _) hR) (by omega) (fun he => ⟨(HP.out he).1, by unfold okI; omega, by unfold okI; omega, (HP.out he).2⟩)).mono ?_; rintro e w2 ⟨rfl, h2⟩; have HF := qh h2; clear h2))
    go_ret
    exact ⟨rfl, HF.out⟩
  | some nd =>
    have HAS := qh (rHas_yes h.ref hg)
    have e : T.txt id = nd.text := by unfold Tr.txt; rw [hg]
    rw [e]
    obtain ⟨i, rfl, hi, hil⟩ := nodes_some hg
    have hts : nd.text.size ≤ 100000 := by have := (hA i nd hi).2; omega
    have HCH := qh (rChars nd.text hts w)
    obtain ⟨g, cap, aa, ac, ka, kc, cc, k0, k1, k2, k3, k4, k5, _⟩ := h.ref.one hi
    replace k4 : w.cell? ⟨g, i * 6 + 4, none⟩ = some (.string nd.text) := k4
    have HOK := qh (runes_ok nd.text hts)
    have i0 : (0 : Int) ≤ (i : Int) := by omega
    have i1 : (i : Int) < (T.nodes.length : Int) := by omega
    have itn : (i : Int).toNat = i := by omega
    clear h hA hg e hi hts hd hl hs k0 k1 k2 k3 k5 hP
    go_enter Tryz.func38, Tryz.ntmps38
    go_wp2_with (first
      | (go_at_call 91; refine HAS.out.mono ?_; rintro e w1 ⟨rfl, rfl⟩)
      | (go_at_call 99; refine HCH.out.mono ?_; rintro e w2 ⟨rfl, hx⟩; have HX := qh hx; clear hx)
      | (go_at_call 100; refine (dSet (HD.out.ext HX.out) HL.out i 0 (runes nd.text) s s HS.out (fun F0 hR => HG.out F0 _ HX.out hR) (by omega) (fun he => ⟨(HP.out he).1, by unfold okI; omega, HOK.out, (HP.out he).2⟩)).mono ?_; rintro e w3 ⟨rfl, h2⟩; have HF := qh (DAft.after HX.out h2); clear h2))
    go_ret
    exact ⟨rfl, HF.out⟩
theorem RRow.of {n : Nat} {xs : List Value} {e : Ending} {w' : World} (h : RRow 3 1 n xs w e w') : ∃ v, e = .returned v ∧ RowP w' (fun g => w.heap.size ≤ g) 3 1 v n xs ∧ Ext w w' := h
theorem dRemove (h : DocOn w F xb rb T I P) (hl : I.length ≤ 100000) {d : Nat → Nat} (hw : WF T d) (id : Int) (hal : (T.allOf id).length ≤ 100000) {er : Int} {T' : Tr}
    (hd : ∀ F0 W, Ext w W → RefOn W F0 rb T → Calls Tryz.prog 93 #[.pointer (some ⟨rb, 0, none⟩), .int .i64 id] W (RErr F0 W rb er T'))
    (hP : er = 0 → okI (T.up id) ∧ okI (T.idx id) ∧ okPl P) :
    Calls Tryz.prog 34 #[.pointer (some ⟨xb, 0, none⟩), .int .i64 id] w (DErr F w xb rb er T' I (movedD er (goneL (T.allOf id) (T.up id) (T.idx id)) I P)) := by
  have HL := qh hl
  have HAL := qh hal
  have HD := qh h
  have HG := qh hd
  have HP := qh hP
  have HW := qh hw
  have HI := qh (rIndex h.ref hw id)
  have HDL := qh h.lt
  obtain ⟨al, hale⟩ : ∃ l, T.allOf id = l := ⟨_, rfl⟩
  have HALL : Hid (∀ W, Ext w W → Calls Tryz.prog 92 #[.pointer (some ⟨rb, 0, none⟩), .int .i64 id] W (RRow 3 1 al.length (al.map (Value.int .i64)) W)) := qh (fun W x => by rw [← hale]; exact rAll (h.ref.ext x) hw id)
  obtain ⟨q, hq⟩ : ∃ q, T.idx id = q := ⟨_, rfl⟩
  rw [hale] at HAL ⊢
  rw [hq] at HI HP ⊢
  clear hw hl hal hd hP hq hale
  have c0 := h.ptr_
  cases hg : T.get? id with
  | none =>
    have HR := qh h.ref
    have e : T.up id = -1 := Tr.up_none hg
    rw [e] at HP ⊢
    have HGT := qh hg
    clear h hg e
    go_enter Tryz.func34, Tryz.ntmps34
    go_upto_region 3 with (go_at_call 90; refine HI.out.mono ?_; rintro e w1 ⟨rfl, hx⟩; have X1 := qh hx; clear hx)
    have c1 := X1.out.cell c0
    clear c0
    have HAS := qh (rHas_no (HR.out.ext X1.out) HGT.out)
    go_upto_region 6 with (first
      | (go_at_call 91; refine HAS.out.mono ?_; rintro e w2 ⟨rfl, rfl⟩)
      | (go_at_call 92; refine (HALL.out _ X1.out).mono ?_; intro e w3 hra; obtain ⟨v, rfl, hrow, hx3⟩ := RRow.of hra; have HR0 := qh hrow; have HX3 := qh hx3; clear hra hrow hx3))
    have hrow := HR0.out
    have hx3 := HX3.out
    have X3 := qh (X1.out.trans hx3)
    have c3 := hx3.cell c1
    obtain ⟨F0, hR, hsub, hA⟩ := (HDL.out.ext X3.out).tree
    have HA := qh hA
    have HRM := qh (HG.out F0 _ X3.out hR)
    have HROW := qh (RowP.lt_ hrow)
    have S1 := qh X1.out.size
    clear HR0 HX3 hrow hx3 hR hsub hA c1
    by_cases her : er = 0
    · subst her
      obtain ⟨op, oq, oP⟩ := HP.out rfl
      have OP := qh (And.intro op (And.intro oq oP))
      clear op oq oP
      go_wp2_with (first
        | (go_at_call 93; refine HRM.out.mono ?_; rintro e w4 ⟨rfl, h1⟩; have HB := qh (HA.out _ _ h1); clear h1
           have HV : Hid (∀ W, Mv (fun b => (F b ∧ b < w.heap.size) ∨ w3.heap.size ≤ b) w4 W → RowRd W 1 v al.length (al.map (Value.int .i64))) := qh (fun W hW => by
             have r4 := RowP.mv HROW.out HB.out.mv (fun g hg hf => by have := S1.out; have := hf.2; have := hg.1; omega)
             exact (RowP.mv r4 hW (fun g hg hf => by rcases hf with hf | hf; (have := S1.out; have := hf.2; have := hg.1; omega); (have := hg.2; omega))).rd))
        | (go_at_call 89; refine (dChange_rem HB.out.on HL.out HV.out HAL.out _ q OP.out.1 OP.out.2.1 OP.out.2.2).mono ?_; rintro e w5 ⟨rfl, h2⟩; have HF := qh ((DAft.after X3.out (HB.out.trans h2)).imp fun b hb => hb.1); clear h2))
      go_ret
      exact ⟨rfl, by unfold movedD; rw [if_pos rfl]; exact HF.out⟩
    · have e0 : (er == 0) = false := beq_eq_false_iff_ne.2 her
      have HE := qh her
      clear her
      go_wp2_with ((go_at_call 93; refine HRM.out.mono ?_; rintro e w4 ⟨rfl, h1⟩; have HF := qh ((DAft.after X3.out (HA.out _ _ h1)).imp fun b hb => hb.1); clear h1))
      go_ret
      exact ⟨rfl, by unfold movedD; rw [if_neg HE.out]; exact HF.out⟩
  | some nd =>
    have HR := qh h.ref
    have e : T.up id = nd.parent := Tr.up_some hg
    rw [e] at HP ⊢
    have HGT := qh hg
    obtain ⟨i, rfl, hi, hil⟩ := nodes_some hg
    have HN := qh hi
    have i0 : (0 : Int) ≤ (i : Int) := by omega
    have i1 : (i : Int) < (T.nodes.length : Int) := by omega
    have itn : (i : Int).toNat = i := by omega
    clear h hg e hi
    go_enter Tryz.func34, Tryz.ntmps34
    go_upto_region 3 with (go_at_call 90; refine HI.out.mono ?_; rintro e w1 ⟨rfl, hx⟩; have X1 := qh hx; clear hx)
    have c1 := X1.out.cell c0
    clear c0
    have HAS := qh (rHas_yes (HR.out.ext X1.out) HGT.out)
    obtain ⟨g, cap, aa, ac, ka, kc, cc, k0, k1, k2, k3, k4, k5, _⟩ := (HR.out.ext X1.out).one HN.out
    replace k2 : w1.cell? ⟨g, i * 6 + 2, none⟩ = some (.int .i64 nd.parent) := k2
    clear k0 k1 k3 k4 k5
    go_upto_region 6 with (first
      | (go_at_call 91; refine HAS.out.mono ?_; rintro e w2 ⟨rfl, rfl⟩)
      | (go_at_call 92; refine (HALL.out _ X1.out).mono ?_; intro e w3 hra; obtain ⟨v, rfl, hrow, hx3⟩ := RRow.of hra; have HR0 := qh hrow; have HX3 := qh hx3; clear hra hrow hx3))
    have hrow := HR0.out
    have hx3 := HX3.out
    have X3 := qh (X1.out.trans hx3)
    have c3 := hx3.cell c1
    obtain ⟨F0, hR, hsub, hA⟩ := (HDL.out.ext X3.out).tree
    have HA := qh hA
    have HRM := qh (HG.out F0 _ X3.out hR)
    have HROW := qh (RowP.lt_ hrow)
    have S1 := qh X1.out.size
    clear HR0 HX3 hrow hx3 hR hsub hA c1
    by_cases her : er = 0
    · subst her
      obtain ⟨op, oq, oP⟩ := HP.out rfl
      have OP := qh (And.intro op (And.intro oq oP))
      clear op oq oP
      go_wp2_with (first
        | (go_at_call 93; refine HRM.out.mono ?_; rintro e w4 ⟨rfl, h1⟩; have HB := qh (HA.out _ _ h1); clear h1
           have HV : Hid (∀ W, Mv (fun b => (F b ∧ b < w.heap.size) ∨ w3.heap.size ≤ b) w4 W → RowRd W 1 v al.length (al.map (Value.int .i64))) := qh (fun W hW => by
             have r4 := RowP.mv HROW.out HB.out.mv (fun g hg hf => by have := S1.out; have := hf.2; have := hg.1; omega)
             exact (RowP.mv r4 hW (fun g hg hf => by rcases hf with hf | hf; (have := S1.out; have := hf.2; have := hg.1; omega); (have := hg.2; omega))).rd))
        | (go_at_call 89; refine (dChange_rem HB.out.on HL.out HV.out HAL.out _ q OP.out.1 OP.out.2.1 OP.out.2.2).mono ?_; rintro e w5 ⟨rfl, h2⟩; have HF := qh ((DAft.after X3.out (HB.out.trans h2)).imp fun b hb => hb.1); clear h2))
      go_ret
      exact ⟨rfl, by unfold movedD; rw [if_pos rfl]; exact HF.out⟩
    · have e0 : (er == 0) = false := beq_eq_false_iff_ne.2 her
      have HE := qh her
      clear her
      go_wp2_with ((go_at_call 93; refine HRM.out.mono ?_; rintro e w4 ⟨rfl, h1⟩; have HF := qh ((DAft.after X3.out (HA.out _ _ h1)).imp fun b hb => hb.1); clear h1))
      go_ret
      exact ⟨rfl, by unfold movedD; rw [if_neg HE.out]; exact HF.out⟩
end
section
variable {w : World} {F : Nat → Prop} {xb rb : Nat} {T : Tr} {I : List Int} {P : List (Int × Int)}
theorem dDrop (h : DocOn w F xb rb T I P) (hl : I.length ≤ 100000) (h01 : ∀ i ∈ I, i = 0 ∨ i = 1) {d : Nat → Nat} (hw : WF T d) (id : Int) (hal : (T.allOf id).length ≤ 100000) {er : Int} {T' : Tr}
    (hd : ∀ F0 W, Ext w W → RefOn W F0 rb T → Calls Tryz.prog 98 #[.pointer (some ⟨rb, 0, none⟩), .int .i64 id] W (RErr F0 W rb er T')) :
    Calls Tryz.prog 36 #[.pointer (some ⟨xb, 0, none⟩), .int .i64 id] w (DErr F w xb rb er T' I (movedD er (dropP (T.allOf id)) I P)) := by
  have HD := qh h
  have HDL := qh h.lt
  have HG := qh hd
  have H01 := qh h01
  obtain ⟨L, hale⟩ : ∃ l, T.allOf id = l := ⟨_, rfl⟩
  have HALL := qh (rAll h.ref hw id)
  rw [hale] at HALL hal ⊢
  obtain ⟨ml, hml⟩ : ∃ m, L.length = m := ⟨_, rfl⟩
  obtain ⟨m, hm⟩ : ∃ m, I.length = m := ⟨_, rfl⟩
  have hpm : P.length = m := by rw [h.len, hm]
  have HPL := qh h.len
  have HPM := qh hpm
  have HML := qh hml
  have HM := qh hm
  rw [hml] at hal
  rw [hm] at hl
  have c0 := h.ptr_
  clear h hd h01 hale hw hml hm hpm
  go_enter Tryz.func36, Tryz.ntmps36
  go_upto_region 2 with ((go_at_call 92; refine HALL.out.mono ?_; intro e w3 hra; obtain ⟨v, rfl, hrow, hx3⟩ := RRow.of hra; have HR0 := qh hrow; have HX3 := qh hx3; clear hra hrow hx3))
  have hrow := HR0.out
  have hx3 := HX3.out
  have X3 := qh hx3
  have c3 := hx3.cell c0
  obtain ⟨F0, hR, hsub, hA⟩ := (HDL.out.ext X3.out).tree
  have HA := qh hA
  have HRM := qh (HG.out F0 _ X3.out hR)
  have HROW := qh (RowP.lt_ hrow)
  have S1 := qh X3.out.size
  clear HR0 HX3 hrow hx3 hR hsub hA c0
  go_upto_region 3 with ((go_at_call 98; refine HRM.out.mono ?_; rintro e w4 ⟨rfl, h1⟩; have HB := qh (HA.out _ _ h1); clear h1))
  clear c3
  have HV : Hid (∀ W, Mv (fun b => (F b ∧ b < w.heap.size) ∨ w3.heap.size ≤ b) w4 W → RowRd W 1 v ml (L.map (Value.int .i64))) := qh (fun W hW => by
    have r4 := RowP.mv HROW.out HB.out.mv (fun g hg hf => by have := S1.out; have := hf.2; have := hg.1; omega)
    have r5 := (RowP.mv r4 hW (fun g hg hf => by rcases hf with hf | hf; (have := S1.out; have := hf.2; have := hg.1; omega); (have := hg.2; omega))).rd
    rw [HML.out] at r5
    exact r5)
  obtain ⟨_, ao, cap, ev, -⟩ := HV.out w4 (Mv.refl _ _)
  subst ev
  obtain ⟨F', hF'⟩ : ∃ F' : Nat → Prop, (fun b => (F b ∧ b < w.heap.size) ∨ w3.heap.size ≤ b) = F' := ⟨_, rfl⟩
  have HB2 := HB.out
  obtain ⟨hon, hmv0⟩ := HB2
  rw [hF'] at hon HV
  have HON := qh hon
  clear hon hmv0
  have fin : ∀ (wr : World) (Q : List (Int × Int)), DocOn wr F' xb rb T' I Q → Mv F' w4 wr → DAft F w xb rb T' I Q wr := fun wr Q hq hv => by
    subst hF'
    have h1 : DAft (fun b => F b ∧ b < w.heap.size) w3 xb rb T' I Q wr := HB.out.trans (HON.out.aft hq hv)
    exact (DAft.after X3.out h1).imp fun b hb => hb.1
  have FIN := qh fin
  clear fin hF'
  by_cases her : er = 0
  · subst her
    have em : movedD 0 (dropP L) I P = chAll (dropP L) I P := if_pos rfl
    rw [em]
    clear em
    go_wp2_with fail
    go_loopw [7, 8] (fun iv jv wr => ∃ i : Nat, i ≤ m ∧ iv = .int .i64 i ∧ DocOn wr F' xb rb T' I (chTo (dropP L) I P i) ∧ Mv F' w4 wr) (fun iv _ _ => m - (intOf iv).toNat)
    case atStart => exact ⟨0, Nat.zero_le _, rfl, by rw [chTo_zero]; exact HON.out, Mv.refl _ _⟩
    case round =>
      rename World => wo
      obtain ⟨i, him, rfl, hdc, hmv⟩ := hrel
      have HDC := qh hdc
      have HMV := qh hmv
      clear hdc hmv
      by_cases hlt : i < m
      · obtain ⟨x, hx⟩ : ∃ x, I[i]? = some x := ⟨_, List.getElem?_eq_getElem (by rw [HM.out]; exact hlt)⟩
        obtain ⟨p, hp⟩ : ∃ p, P[i]? = some p := ⟨_, List.getElem?_eq_getElem (by rw [HPM.out]; exact hlt)⟩
        obtain ⟨pn, px⟩ := p
        have h01x := H01.out x (List.mem_of_getElem? hx)
        obtain ⟨g1, cap1, p1, q1, -⟩ := HDC.out.isFree hx
        rw [HM.out] at p1
        have HX := qh hx
        have HP := qh hp
        have e0 : decide ((i : Int) < (m : Int)) = true := decide_eq_true (by omega)
        have e0n : decide (i < m) = true := decide_eq_true hlt
        have i0 : (0 : Int) ≤ (i : Int) := by omega
        have i1 : (i : Int) < (m : Int) := by omega
        have itn : (i : Int).toNat = i := by omega
        have HLT := qh hlt
        have HCP : Hid (∀ W, DocOn W F' xb rb T' I (chTo (dropP L) I P i) → chP (dropP L) x (pn, px) = (pn, px) → DocOn W F' xb rb T' I (chTo (dropP L) I P (i + 1))) := qh (fun W hW e1 => by
          rw [← chTo_next HPL.out HX.out HP.out, e1]
          have e2 : (chTo (dropP L) I P i).set i (pn, px) = chTo (dropP L) I P i := by
            obtain ⟨h1, h2⟩ := List.getElem?_eq_some_iff.1 (chTo_at (f := dropP L) HPL.out HP.out)
            rw [← h2]; exact List.set_getElem_self h1
          rw [e2]
          exact hW)
        clear hx hp hlt him
        go_wp2_with fail
        clear p1 q1
        go_loopw [8] (fun jv w' => ∃ j : Nat, j ≤ ml ∧ jv = .int .i64 j ∧ Ext wo w' ∧ (x ≠ 0 → pn ∉ L.take j)) (fun jv _ => ml - (intOf jv).toNat)
        case atStart => exact ⟨0, Nat.zero_le _, rfl, Ext.refl _, fun _ => by simp⟩
        case round =>
          rename World => w'
          obtain ⟨j, hjm, rfl, hxw, hno⟩ := hrel
          have HXW := qh hxw
          have HNO := qh hno
          clear hxw hno
          by_cases hjl : j < ml
          · obtain ⟨y, hy⟩ : ∃ y, L[j]? = some y := ⟨_, List.getElem?_eq_getElem (by rw [HML.out]; exact hjl)⟩
            have hrd := HV.out w' (HMV.out.ext HXW.out)
            obtain ⟨_, ao2, cap2, e2, -, hn2, hc2⟩ := hrd
            cases e2
            obtain ⟨av, rfl⟩ : ∃ av, ao = some av := by
              cases ao with
              | some av => exact ⟨av, rfl⟩
              | none => have := (hn2 rfl).1; omega
            have q2 := hc2 av rfl j (.int .i64 y) (by rw [List.getElem?_map, hy]; rfl)
            have D2 := HDC.out.ext HXW.out
            obtain ⟨g1, cap1, p1, q1, -⟩ := D2.isFree HX.out
            rw [HM.out] at p1
            obtain ⟨g2, cap3, p2, q3, q4, f3, f4⟩ := D2.heldFree (chTo_at (f := dropP L) HPL.out HP.out)
            rw [chTo_len HPL.out, HM.out] at p2
            have HY := qh hy
            have HJL := qh hjl
            have j0 : (0 : Int) ≤ (j : Int) := by omega
            have j1 : (j : Int) < (ml : Int) := by omega
            have jtn : (j : Int).toNat = j := by omega
            have e5 : decide ((j : Int) < (ml : Int)) = true := decide_eq_true (by omega)
            have e5n : decide (j < ml) = true := decide_eq_true hjl
            have r0 : ∀ u : ExtOf w', u.val.cell? ⟨xb, 2, none⟩ = some (.slice (some ⟨g2, 0, none⟩) m cap3) := fun u => u.ext.cell p2
            have r1 : ∀ u : ExtOf w', u.val.cell? ⟨g2, i * 2, none⟩ = some (.int .i64 pn) := fun u => u.ext.cell q3
            have r2 : ∀ u : ExtOf w', u.val.cell? (av.add j) = some (.int .i64 y) := fun u => u.ext.cells _ _ q2
            have r3 : ∀ u : ExtOf w', u.val.cell? ⟨xb, 1, none⟩ = some (.slice (some ⟨g1, 0, none⟩) m cap1) := fun u => u.ext.cell p1
            have r4 : ∀ u : ExtOf w', u.val.cell? ⟨g1, i, none⟩ = some (.int .i64 x) := fun u => u.ext.cell q1
            have P2 := qh p2
            have Q3 := qh q3
            have Q4 := qh q4
            have FF3 := qh f3
            have FF4 := qh f4
            clear hn2 hc2 p1 q1 p2 q2 q3 q4 f3 f4 D2 hy hjl hjm
            by_cases hx0 : x = 0
            · have HX0 := qh hx0
              have ex1 : (x == 1) = false := beq_eq_false_iff_ne.2 (by omega)
              have ex1d : decide (x = 1) = false := decide_eq_false (by omega)
              clear hx0 h01x
              go_upto_region 9 with fail
              refine wp_region_ext (by kernel_rfl) (by kernel_rfl) ?_
              repeat (go_big_quiet_step (fail))
              refine wpQuiet_nil ?_
              rintro _ ⟨u, rfl⟩
              have hx5 := HXW.out.trans u.ext
              obtain ⟨w5, hw5⟩ : ∃ W, u.val = W := ⟨_, rfl⟩
              rw [hw5] at hx5 ⊢
              clear r0 r1 r2 r3 r4 hw5
              clear u
              have HX5 := qh hx5
              clear hx5
              go_wp2_with fail
              go_roundw
              case rel => exact ⟨j + 1, by have := HJL.out; omega, by go_num, HX5.out, fun h => absurd HX0.out h⟩
              case measure => have := HJL.out; simp [intOf]; omega
            · have hx1 : x = 1 := by omega
              have HX0 := qh hx0
              have ex1 : (x == 1) = true := beq_iff_eq.2 hx1
              have ex1d : decide (x = 1) = true := decide_eq_true hx1
              clear hx0 h01x hx1
              by_cases hyp : pn = y
              · have e6 : (pn == y) = true := beq_iff_eq.2 hyp
                have e6d : decide (pn = y) = true := decide_eq_true hyp
                have HIN : Hid (pn ∈ L) := qh (by rw [hyp]; exact List.mem_of_getElem? HY.out)
                clear hyp
                go_upto_region 9 with fail
                refine wp_region_ext (by kernel_rfl) (by kernel_rfl) ?_
                repeat (go_big_quiet_step (fail))
                refine wpQuiet_nil ?_
                rintro _ ⟨u, rfl⟩
                have hx5 := u.ext
                obtain ⟨w5, hw5⟩ : ∃ W, u.val = W := ⟨_, rfl⟩
                rw [hw5] at hx5 ⊢
                clear r0 r1 r2 r3 r4 hw5
                clear u
                have p2 := hx5.cell P2.out
                have k0 := hx5.cell Q3.out
                have k1 := hx5.cell Q4.out
                have f0 := hx5.free (cell_lt Q3.out) FF3.out
                have f1 := hx5.free (cell_lt Q3.out) FF4.out
                have HF : Hid (DocOn ((w5.setCell ⟨g2, i * 2, none⟩ (.int .i64 0)).setCell ⟨g2, i * 2 + 1, none⟩ (.int .i64 0)) F' xb rb T' I (chTo (dropP L) I P (i + 1)) ∧
                    Mv F' w4 ((w5.setCell ⟨g2, i * 2, none⟩ (.int .i64 0)).setCell ⟨g2, i * 2 + 1, none⟩ (.int .i64 0))) := qh (by
                  have D5 := (HDC.out.ext HXW.out).ext hx5
                  obtain ⟨d3, fg2⟩ := D5.setP (pv := .slice (some ⟨g2, 0, none⟩) m cap3) (hx5.cell P2.out) (g := g2) (k := i) rfl (by rw [chTo_len HPL.out, HM.out]; exact HLT.out) 0 0
                  have e1 : ((0 : Int), (0 : Int)) = chP (dropP L) x (pn, px) := by
                    unfold chP dropP
                    rw [if_neg HX0.out, if_pos HIN.out]
                  rw [e1, chTo_next HPL.out HX.out HP.out] at d3
                  exact ⟨d3, (((HMV.out.ext HXW.out).ext hx5).setCell (p := ⟨g2, i * 2, none⟩) (fun _ => fg2) _).setCell (p := ⟨g2, i * 2 + 1, none⟩) (fun _ => fg2) _⟩)
                clear hx5
                go_wp2_with fail
                go_roundw
                case rel => exact ⟨i + 1, by have := HLT.out; omega, by go_num, HF.out.1, HF.out.2⟩
                case measure => have := HLT.out; simp [intOf]; omega
              · have e6 : (pn == y) = false := beq_eq_false_iff_ne.2 hyp
                have e6d : decide (pn = y) = false := decide_eq_false hyp
                have HYP := qh hyp
                clear hyp
                go_upto_region 9 with fail
                refine wp_region_ext (by kernel_rfl) (by kernel_rfl) ?_
                repeat (go_big_quiet_step (fail))
                refine wpQuiet_nil ?_
                rintro _ ⟨u, rfl⟩
                have hx5 := HXW.out.trans u.ext
                obtain ⟨w5, hw5⟩ : ∃ W, u.val = W := ⟨_, rfl⟩
                rw [hw5] at hx5 ⊢
                clear r0 r1 r2 r3 r4 hw5
                clear u
                have HX5 := qh hx5
                clear hx5
                go_wp2_with fail
                go_roundw
                case rel =>
                  refine ⟨j + 1, by have := HJL.out; omega, by go_num, HX5.out, fun h h2 => ?_⟩
                  rw [List.take_add_one, HY.out, List.mem_append] at h2
                  rcases h2 with h2 | h2
                  · exact HNO.out h h2
                  · have h3 : pn = y := by simpa using h2
                    exact HYP.out h3
                case measure => have := HJL.out; simp [intOf]; omega
          · have hje : j = ml := by omega
            have e5 : decide ((j : Int) < (ml : Int)) = false := decide_eq_false (by omega)
            have e5n : decide (j < ml) = false := decide_eq_false hjl
            have HF : Hid (DocOn w' F' xb rb T' I (chTo (dropP L) I P (i + 1)) ∧ Mv F' w4 w') := qh (by
              refine ⟨HCP.out w' (HDC.out.ext HXW.out) ?_, HMV.out.ext HXW.out⟩
              unfold chP dropP
              by_cases h0 : x = 0
              · rw [if_pos h0]
              · rw [if_neg h0]
                have h1 := HNO.out h0
                rw [hje, ← HML.out, List.take_length] at h1
                exact if_neg h1)
            clear hje hjl hjm
            go_wp2_with fail
            go_roundw
            case rel => exact ⟨i + 1, by have := HLT.out; omega, by go_num, HF.out.1, HF.out.2⟩
            case measure => have := HLT.out; simp [intOf]; omega
      · have hie : i = m := by omega
        have e0 : decide ((i : Int) < (m : Int)) = false := decide_eq_false (by omega)
        have e0n : decide (i < m) = false := decide_eq_false hlt
        obtain ⟨ao1, cap1, p1, -⟩ := HDC.out.isAt
        rw [HM.out] at p1
        have HF : Hid (DAft F w xb rb T' I (chAll (dropP L) I P) wo) := qh (by
          have h9 := HDC.out
          rw [hie, ← HM.out, chTo_all HPL.out] at h9
          exact FIN.out _ _ h9 HMV.out)
        clear hie hlt him
        go_wp2_with fail
        go_ret
        exact ⟨rfl, HF.out⟩
  · have HE := qh her
    have ee : (er == 0) = false := beq_eq_false_iff_ne.2 her
    have ed : decide (er = 0) = false := decide_eq_false her
    have HF : Hid (DAft F w xb rb T' I (movedD er (dropP L) I P) w4) := qh (by
      unfold movedD
      rw [if_neg her]
      exact FIN.out _ _ HON.out (Mv.refl _ _))
    obtain ⟨ao1, cap1, p1, -⟩ := HON.out.isAt
    rw [HM.out] at p1
    clear her
    go_wp2_with fail
    go_loopw [7] (fun iv wr => iv = .int .i64 0 ∧ wr = w4) (fun _ _ => 0)
    case atStart => exact ⟨rfl, rfl⟩
    case round =>
      obtain ⟨rfl, rfl⟩ := hrel
      by_cases hz : 0 < m
      · have e0 : decide ((0 : Int) < (m : Int)) = true := decide_eq_true (by omega)
        have e0n : decide (0 < m) = true := decide_eq_true hz
        clear hz
        go_wp2_with fail
        go_ret
        exact ⟨rfl, HF.out⟩
      · have e0 : decide ((0 : Int) < (m : Int)) = false := decide_eq_false (by omega)
        have e0n : decide (0 < m) = false := decide_eq_false hz
        clear hz
        go_wp2_with fail
        go_ret
        exact ⟨rfl, HF.out⟩
end
theorem infoPlace : (Tryz.prog.info? 43).map (fun i => (i.zero, i.size, i.bytes)) = some (some (.agg #[.int .i64 0, .int .i64 0]), 2, 16) := by kernel_rfl
section
variable {w : World} {F : Nat → Prop} {xb rb : Nat} {T : Tr} {I : List Int} {P : List (Int × Int)}
theorem RowP.opt {p : Nat → Prop} {e size n : Nat} {v : Value} {xs : List Value} (h : RowP w p e size v n xs) : ∃ ob : Option Nat, RowP w (fun g => ob = some g) e size v n xs ∧ ∀ k, ob = some k → p k ∧ k < w.heap.size := by
  obtain ⟨ob, h1, h2⟩ := h.blk
  refine ⟨ob, h1, fun k hk => ?_⟩
  obtain ⟨k1, cur, k2⟩ := h2 k hk
  exact ⟨k1, (Array.getElem?_eq_some_iff.1 k2).1⟩
theorem DocOn.push (h : DocOn w F xb rb T I P) (hl : I.length ≤ 100000) (n a : Int) :
    ∃ iv pv a1 c1 wA a2 c2 wD, w.cell? ⟨xb, 1, none⟩ = some iv ∧ w.cell? ⟨xb, 2, none⟩ = some pv ∧
      (Builtin.append_ #[40, 40] 40 #[iv, .slice (some ⟨w.heap.size, 0, none⟩) 1 1]).run Tryz.prog (w.alloc (.cells #[.int .i64 1] 3)) = .ok (.slice a1 (I.length + 1) c1) wA ∧
      wA.heap[xb]? = some (.cells #[.pointer (some ⟨rb, 0, none⟩), iv, pv] 76 (0, 0)) ∧
      (wA.setCell ⟨xb, 1, none⟩ (.slice a1 (I.length + 1) c1)).drew.heap[xb]? = some (.cells #[.pointer (some ⟨rb, 0, none⟩), .slice a1 (I.length + 1) c1, pv] 76 (0, 0)) ∧
      Mv F w (wA.setCell ⟨xb, 1, none⟩ (.slice a1 (I.length + 1) c1)).drew ∧
      (Builtin.append_ #[74, 74] 74 #[pv, .slice (some ⟨(wA.setCell ⟨xb, 1, none⟩ (.slice a1 (I.length + 1) c1)).drew.heap.size, 0, none⟩) 1 1]).run Tryz.prog ((wA.setCell ⟨xb, 1, none⟩ (.slice a1 (I.length + 1) c1)).drew.alloc (.cells #[.int .i64 n, .int .i64 a] 43)) = .ok (.slice a2 (P.length + 1) c2) wD ∧
      wD.heap[xb]? = some (.cells #[.pointer (some ⟨rb, 0, none⟩), .slice a1 (I.length + 1) c1, pv] 76 (0, 0)) ∧
      Mv F w wD ∧ DAft F w xb rb T (I ++ [1]) (P ++ [(n, a)]) (wD.setCell ⟨xb, 2, none⟩ (.slice a2 (P.length + 1) c2)) := by
  obtain ⟨F0, iv, pv, ib, pb, h1, h2, h3, h4, h5, h6, h7⟩ := h.out
  have hxl := (Array.getElem?_eq_some_iff.1 h3).1
  have hlen := h.len
  -- the row of what there is
  obtain ⟨i0, hi, hz0, hz1, hz2⟩ := info_parts infoI
  have x1 := (Ext.refl w).alloc (.cells #[.int .i64 1] 3)
  have n1 := heap_alloc_new w (.cells #[.int .i64 1] 3)
  have s1 : (w.alloc (.cells #[.int .i64 1] 3)).heap.size = w.heap.size + 1 := by simp
  obtain ⟨v1, wA, row1, hrun1, hr1, hg1, hrow1⟩ := run_append_row (P := Tryz.prog) (w.alloc (.cells #[.int .i64 1] 3)) 40 40 3 i0 _ 1 8 Tryz.underlying40 hi hz0 hz1 hz2 rfl (by decide)
    (RowP.ext h4 x1) ⟨w.heap.size, 0, none⟩ 1 1 [.int .i64 1] rfl (by
      intro j u hj
      rw [Addr.add_lit, Nat.zero_add]
      refine cellOf n1 ?_
      rw [← Array.getElem?_toList]; exact hj) (by intro u hu; simp at hu; subst hu; rfl) (by decide) (by unfold maxLen; omega) (by omega)
  obtain ⟨a1, c1, e1, _⟩ := hr1.rd.len_of
  subst e1
  have m1 : Mv (fun b => ib = some b) w wA := (Mv.ofExt x1).grown hg1 fun k hk _ => hrow1 k hk
  have b1 := m1.block h3 (fun e => (h5 xb e).2.1 rfl)
  have m2 : Mv (fun b => b = xb) wA (wA.setCell ⟨xb, 1, none⟩ (.slice a1 (I.length + 1) c1)).drew := ((Mv.refl (fun b => b = xb) wA).setCell (p := ⟨xb, 1, none⟩) (fun _ => rfl) _).ext (Ext.refl _).drew
  have b2 : (wA.setCell ⟨xb, 1, none⟩ (.slice a1 (I.length + 1) c1)).drew.heap[xb]? = some (.cells #[.pointer (some ⟨rb, 0, none⟩), .slice a1 (I.length + 1) c1, pv] 76 (0, 0)) := heap_setCell_same b1 _
  obtain ⟨wB, hwB⟩ : ∃ W, (wA.setCell ⟨xb, 1, none⟩ (.slice a1 (I.length + 1) c1)).drew = W := ⟨_, rfl⟩
  rw [hwB] at m2 b2
  have mB : Mv (fun b => ib = some b ∨ b = xb) w wB := (m1.imp fun x _ hx => .inl hx).trans (m2.imp fun x _ hx => .inr hx)
  have rI := RowP.lt_ (RowP.mv hr1 m2 (fun g hg e => by
    subst e
    rcases hg with hg | hg
    · exact (h5 _ hg).2.1 rfl
    · omega))
  have rP := RowP.mv h6 mB (fun g hg e => by
    rcases e with e | e
    · exact (h5 _ e).2.2.1 hg
    · exact (h7 _ hg).2.1 e)
  -- the row of places
  obtain ⟨j0, hj, hy0, hy1, hy2⟩ := info_parts infoPlace
  have x3 := (Ext.refl wB).alloc (.cells #[.int .i64 n, .int .i64 a] 43)
  have n3 := heap_alloc_new wB (.cells #[.int .i64 n, .int .i64 a] 43)
  have s3 : (wB.alloc (.cells #[.int .i64 n, .int .i64 a] 43)).heap.size = wB.heap.size + 1 := by simp
  obtain ⟨v2, wD, row2, hrun2, hr2, hg2, hrow2⟩ := run_append_row (P := Tryz.prog) (wB.alloc (.cells #[.int .i64 n, .int .i64 a] 43)) 74 74 43 j0 _ 2 16 Tryz.underlying74 hj hy0 hy1 hy2 (by kernel_rfl) (by decide)
    (RowP.ext rP x3) ⟨wB.heap.size, 0, none⟩ 1 1 [.int .i64 n, .int .i64 a] rfl (by
      intro j u hj
      rw [Addr.add_lit, Nat.zero_add]
      refine cellOf n3 ?_
      rw [← Array.getElem?_toList]; exact hj) (by intro u hu; simp at hu; rcases hu with rfl | rfl <;> rfl) (by decide) (by unfold maxLen; omega) (by omega)
  obtain ⟨a2, c2, e2, _⟩ := hr2.rd.len_of
  subst e2
  have m3 : Mv (fun b => pb = some b) wB wD := (Mv.ofExt x3).grown hg2 fun k hk _ => hrow2 k hk
  have b3 := m3.block b2 (fun e => (h7 xb e).2.1 rfl)
  have szB := mB.size
  have szD := m3.size
  have szA := m1.size
  have rI3 := RowP.mv rI m3 (fun g hg e => by
    rcases hg.1 with hg | hg
    · exact (h5 _ hg).2.2.1 e
    · have := (h7 _ e).2.2; omega)
  have m4 : Mv (fun b => b = xb) wD (wD.setCell ⟨xb, 2, none⟩ (.slice a2 (P.length + 1) c2)) := (Mv.refl (fun b => b = xb) wD).setCell (p := ⟨xb, 2, none⟩) (fun _ => rfl) _
  have b4 := heap_setCell_same (i := 2) b3 (.slice a2 (P.length + 1) c2)
  have rI4 := RowP.mv rI3 m4 (fun g hg e => by
    subst e
    rcases hg.1 with hg | hg
    · exact (h5 _ hg).2.1 rfl
    · omega)
  have rP4 := RowP.lt_ (RowP.mv hr2 m4 (fun g hg e => by
    subst e
    rcases hg with hg | hg
    · exact (h7 _ hg).2.1 rfl
    · omega))
  have mT : Mv (fun b => ib = some b ∨ b = xb ∨ pb = some b) w (wD.setCell ⟨xb, 2, none⟩ (.slice a2 (P.length + 1) c2)) :=
    (mB.imp fun x _ hx => by rcases hx with hx | hx; exact .inl hx; exact .inr (.inl hx)).trans ((m3.imp fun x _ hx => .inr (.inr hx)).trans (m4.imp fun x _ hx => .inr (.inl hx)))
  have toF : ∀ b, (ib = some b ∨ b = xb ∨ pb = some b) → F b := fun b hb => by
    rcases hb with hb | hb | hb
    · exact (h5 b hb).1
    · rw [hb]; exact h.own
    · exact (h7 b hb).1
  obtain ⟨ib', qI, fI⟩ := rI4.opt
  obtain ⟨pb', qP, fP⟩ := rP4.opt
  have szE := m4.size
  refine ⟨iv, pv, a1, c1, wA, a2, c2, wD, cellOf h3 rfl, cellOf h3 rfl, hrun1, b1, by rw [hwB]; exact b2, by rw [hwB]; exact mB.imp fun x _ hx => toF x (by rcases hx with hx | hx; exact .inl hx; exact .inr (.inl hx)), by rw [hwB]; exact hrun2, b3, (mB.imp fun x _ hx => toF x (by rcases hx with hx | hx; exact .inl hx; exact .inr (.inl hx))).trans (m3.imp fun x _ hx => toF x (.inr (.inr hx))), ⟨?_, mT.imp fun x _ hx => toF x hx⟩⟩
  have oI : ∀ g, ib' = some g → (ib = some g ∨ w.heap.size ≤ g) := fun g hg => by
    rcases (fI g hg).1.1 with h | h
    · exact .inl h
    · exact .inr (by omega)
  have oP : ∀ g, pb' = some g → (pb = some g ∨ wB.heap.size + 1 ≤ g) := fun g hg => by
    rcases (fP g hg).1.1 with h | h
    · exact .inl h
    · exact .inr (by omega)
  have eI : (I ++ [1]).map (Value.int .i64) = I.map (Value.int .i64) ++ [.int .i64 1] := by simp
  have lI : (I ++ [1]).length = I.length + 1 := by simp
  have lP : (P ++ [(n, a)]).length = P.length + 1 := by simp
  have eP : plC (P ++ [(n, a)]) = plC P ++ [.int .i64 n, .int .i64 a] := plC_append _ _
  refine ⟨by rw [lI, lP, hlen], .inl h.own, F0, _, _, ib', pb', h1.keep fun b hb hl => mT.rest b hl (fun e => ?_), fun b hb => ⟨.inl (h2 b hb).1, (h2 b hb).2.1, ?_, ?_, Nat.lt_of_lt_of_le (h2 b hb).2.2.2.2 mT.size⟩, b4, by rw [lI, eI]; exact qI, fun g hg => ⟨?_, ?_, ?_, (fI g hg).2⟩, by rw [lP, eP]; exact qP, fun g hg => ⟨?_, ?_, (fP g hg).2⟩⟩
  · rcases e with e | e | e
    · exact (h2 b hb).2.2.1 e
    · exact (h2 b hb).2.1 e
    · exact (h2 b hb).2.2.2.1 e
  · intro e
    rcases oI b e with e | e
    · exact (h2 b hb).2.2.1 e
    · have := (h2 b hb).2.2.2.2; omega
  · intro e
    rcases oP b e with e | e
    · exact (h2 b hb).2.2.2.1 e
    · have := (h2 b hb).2.2.2.2; omega
  · rcases oI g hg with e | e
    · exact .inl (h5 g e).1
    · exact .inr e
  · intro e
    rcases oI g hg with k | k
    · exact (h5 g k).2.1 e
    · omega
  · intro e
    have k1 := (fI g hg).1
    rcases oP g e with k | k
    · rcases oI g hg with k2 | k2
      · exact (h5 g k2).2.2.1 k
      · have := (h7 g k).2.2; omega
    · have := k1.2; omega
  · rcases oP g hg with e | e
    · exact .inl (h7 g e).1
    · exact .inr (by omega)
  · intro e
    rcases oP g hg with k | k
    · exact (h7 g k).2.1 e
    · omega
end
section
variable {w : World} {F : Nat → Prop} {xb rb : Nat} {T : Tr} {I : List Int} {P : List (Int × Int)}
theorem dHold_at (h : DocOn w F xb rb T I P) (hl : I.length ≤ 100000) (n a : Int) {i : Nat} (hi : I[i]? = some 0) (hno : ∀ j x, j < i → I[j]? = some x → x ≠ 0) (hM : ∀ W, Ext w W → Calls Tryz.prog 102 #[.pointer (some ⟨rb, 0, none⟩), pl n a] W (RVal (.bool true) W)) :
    Calls Tryz.prog 40 #[.pointer (some ⟨xb, 0, none⟩), pl n a] w (DTwoAft F w xb rb i 0 T (I.set i 1) (P.set i (n, a))) := by
  have hil := (List.getElem?_eq_some_iff.1 hi).1
  have xa := (Ext.refl w).alloc (.cells #[.int .i64 n, .int .i64 a] 43)
  have hba := heap_alloc_new w (.cells #[.int .i64 n, .int .i64 a] 43)
  obtain ⟨wa, hwa⟩ : ∃ W : World, W = w.alloc (.cells #[.int .i64 n, .int .i64 a] 43) := ⟨_, rfl⟩
  rw [← hwa] at xa hba
  obtain ⟨pb, hpb⟩ : ∃ b, w.heap.size = b := ⟨_, rfl⟩
  have hd1 := h.lt
  rw [hpb] at hba hd1
  have HD := qh h
  have HD1 := qh hd1
  have XA := qh xa
  have HWA := qh hwa
  have HPB := qh hpb
  have HBA := qh hba
  have HNO := qh hno
  have HMY := qh (fun (u : ExtOf wa) => inExt (u := u) (hM u.val (xa.trans u.ext)))
  obtain ⟨m, hm⟩ : ∃ m, I.length = m := ⟨_, rfl⟩
  have hpm : P.length = m := by rw [h.len, hm]
  have HM := qh hm
  have HPM := qh hpm
  have HI := qh hi
  rw [hm] at hl hil
  clear hM xa hwa hpb hba h hd1 hi hno hm hpm
  go_enter Tryz.func40, Tryz.ntmps40
  go_upto_region 1 with fail
  rw [← HWA.out, HPB.out]
  have r0 : ∀ u : ExtOf wa, u.val.cell? ⟨xb, 0, none⟩ = some (.pointer (some ⟨rb, 0, none⟩)) := fun u => (XA.out.trans u.ext).cell HD.out.ptr_
  have r1 : ∀ u : ExtOf wa, u.val.cell? ⟨pb, 0, none⟩ = some (.int .i64 n) := fun u => u.ext.cell (cellOf HBA.out rfl)
  have r2 : ∀ u : ExtOf wa, u.val.cell? ⟨pb, 1, none⟩ = some (.int .i64 a) := fun u => u.ext.cell (cellOf HBA.out rfl)
  refine wp_region_ext (by kernel_rfl) (by kernel_rfl) ?_
  repeat (go_big_quiet_step ((go_at_call 102; exact HMY.out _)))
  refine wpQuiet_nil ?_
  rintro _ ⟨u, rfl⟩
  have hx := u.ext
  obtain ⟨w1, hw1⟩ : ∃ W, u.val = W := ⟨_, rfl⟩
  rw [hw1] at hx ⊢
  clear r0 r1 r2 hw1
  clear u
  have X1 := qh (XA.out.trans hx)
  have HB1 := qh (hx.block HBA.out)
  have D1 := qh (HD1.out.ext (XA.out.trans hx))
  clear hx HMY
  go_wp2_with fail
  go_loopw [6] (fun iv wr => ∃ j : Nat, j ≤ i ∧ iv = .int .i64 j ∧ wr = w1) (fun iv _ => m - (intOf iv).toNat)
  case atStart => exact ⟨0, Nat.zero_le _, rfl, rfl⟩
  case round =>
    obtain ⟨j, hji, rfl, rfl⟩ := hrel
    have hjm : j < m := by omega
    obtain ⟨x, hx⟩ : ∃ x, I[j]? = some x := ⟨_, List.getElem?_eq_getElem (by rw [HM.out]; exact hjm)⟩
    obtain ⟨g1, cap1, p1, q1, f1⟩ := D1.out.isFree hx
    rw [HM.out] at p1
    have e0 : decide ((j : Int) < (m : Int)) = true := decide_eq_true (by omega)
    have e0n : decide (j < m) = true := decide_eq_true hjm
    have j0 : (0 : Int) ≤ (j : Int) := by omega
    have j1 : (j : Int) < (m : Int) := by omega
    have jtn : (j : Int).toNat = j := by omega
    have HJM := qh hjm
    by_cases hlt : j < i
    · have ex : (x == 0) = false := beq_eq_false_iff_ne.2 (HNO.out j x hlt hx)
      have HLT := qh hlt
      clear hx hlt hji hjm f1 hil
      go_wp2_with fail
      go_roundw
      case rel => exact ⟨j + 1, by have := HLT.out; omega, by go_num, trivial⟩
      case measure => have := HJM.out; simp [intOf]; omega
    · have hje : j = i := by omega
      have hx0 : x = 0 := by
        rw [hje, HI.out] at hx
        exact (Option.some.inj hx).symm
      have HJE := qh hje
      subst hx0
      clear hx hlt hji hjm hje hil
      go_upto_region 8 with fail
      obtain ⟨d2, fg⟩ := D1.out.setI (iv := .slice (some ⟨g1, 0, none⟩) m cap1) p1 (g := g1) (k := j) rfl (by rw [HM.out]; exact HJM.out) 1
      have hm2 : Mv (fun b => F b ∧ b < pb) wr (wr.setCell ⟨g1, j, none⟩ (.int .i64 1)) := (Mv.refl _ _).setCell (p := ⟨g1, j, none⟩) (fun _ => fg) _
      obtain ⟨w2, hw2⟩ : ∃ W, wr.setCell ⟨g1, j, none⟩ (.int .i64 1) = W := ⟨_, rfl⟩
      rw [hw2] at d2 hm2 ⊢
      have D2 := qh d2
      have M2 := qh hm2
      have HB2 := qh (hm2.block HB1.out (fun h => absurd h.2 (Nat.lt_irrefl _)))
      clear p1 q1 f1 d2 hm2 hw2 fg
      obtain ⟨p, hp⟩ : ∃ p, P[j]? = some p := ⟨_, List.getElem?_eq_getElem (by rw [HPM.out]; exact HJM.out)⟩
      obtain ⟨g2, cap2, p2, q0, q1, f0, f1⟩ := D2.out.heldFree hp
      rw [HPM.out] at p2
      have P2 := qh p2
      have Q0 := qh q0
      have Q1 := qh q1
      have FF0 := qh f0
      have FF1 := qh f1
      have r0 : ∀ u : ExtOf w2, u.val.cell? ⟨xb, 2, none⟩ = some (.slice (some ⟨g2, 0, none⟩) m cap2) := fun u => u.ext.cell p2
      have r1 : ∀ u : ExtOf w2, u.val.cell? ⟨pb, 0, none⟩ = some (.int .i64 n) := fun u => u.ext.cell (cellOf HB2.out rfl)
      have r2 : ∀ u : ExtOf w2, u.val.cell? ⟨pb, 1, none⟩ = some (.int .i64 a) := fun u => u.ext.cell (cellOf HB2.out rfl)
      clear q0 q1 f0 f1 p2 hp
      refine wp_region_ext_tail 7 (by kernel_rfl) (by kernel_rfl) ?_
      simp only [List.take_succ_cons, List.take_zero, List.drop_succ_cons, List.drop_zero]
      repeat (go_big_quiet_step (fail))
      refine wpQuiet_nil ?_
      rintro _ ⟨u, rfl⟩
      have hx := u.ext
      obtain ⟨w5, hw5⟩ : ∃ W, u.val = W := ⟨_, rfl⟩
      rw [hw5] at hx ⊢
      clear r0 r1 r2 hw5
      clear u
      have k0 := hx.cell Q0.out
      have k1 := hx.cell Q1.out
      have f0 := hx.free (cell_lt Q0.out) FF0.out
      have f1 := hx.free (cell_lt Q0.out) FF1.out
      have HF : Hid (DAft F w xb rb T (I.set j 1) (P.set j (n, a)) ((w5.setCell ⟨g2, j * 2, none⟩ (.int .i64 n)).setCell ⟨g2, j * 2 + 1, none⟩ (.int .i64 a))) := qh (by
        have D5 := D2.out.ext hx
        obtain ⟨d3, fg2⟩ := D5.setP (pv := .slice (some ⟨g2, 0, none⟩) m cap2) (hx.cell P2.out) (g := g2) (k := j) rfl (by rw [HPM.out]; exact HJM.out) n a
        have hmv : Mv (fun b => F b ∧ b < pb) wr ((w5.setCell ⟨g2, j * 2, none⟩ (.int .i64 n)).setCell ⟨g2, j * 2 + 1, none⟩ (.int .i64 a)) := ((M2.out.ext hx).setCell (p := ⟨g2, j * 2, none⟩) (fun _ => fg2) _).setCell (p := ⟨g2, j * 2 + 1, none⟩) (fun _ => fg2) _
        exact HD.out.aft (d3.wide fun b hb => hb.1) ((Mv.ofExt X1.out).trans (hmv.imp fun x _ hx => hx.1)))
      clear hx
      go_wp2_with fail
      go_ret2
      exact ⟨by rw [HJE.out]; rfl, by rw [← HJE.out]; exact HF.out⟩
theorem dHold_add (h : DocOn w F xb rb T I P) (hl : I.length ≤ 100000) (n a : Int) (hno : ∀ x ∈ I, x ≠ 0) (hM : ∀ W, Ext w W → Calls Tryz.prog 102 #[.pointer (some ⟨rb, 0, none⟩), pl n a] W (RVal (.bool true) W)) :
    Calls Tryz.prog 40 #[.pointer (some ⟨xb, 0, none⟩), pl n a] w (DTwoAft F w xb rb I.length 0 T (I ++ [1]) (P ++ [(n, a)])) := by
  have xa := (Ext.refl w).alloc (.cells #[.int .i64 n, .int .i64 a] 43)
  have hba := heap_alloc_new w (.cells #[.int .i64 n, .int .i64 a] 43)
  obtain ⟨wa, hwa⟩ : ∃ W : World, W = w.alloc (.cells #[.int .i64 n, .int .i64 a] 43) := ⟨_, rfl⟩
  rw [← hwa] at xa hba
  obtain ⟨pb, hpb⟩ : ∃ b, w.heap.size = b := ⟨_, rfl⟩
  have hd1 := h.lt
  rw [hpb] at hba hd1
  have HD := qh h
  have HD1 := qh hd1
  have XA := qh xa
  have HWA := qh hwa
  have HPB := qh hpb
  have HBA := qh hba
  have HNO := qh hno
  have HMY := qh (fun (u : ExtOf wa) => inExt (u := u) (hM u.val (xa.trans u.ext)))
  obtain ⟨m, hm⟩ : ∃ m, I.length = m := ⟨_, rfl⟩
  have hpm : P.length = m := by rw [h.len, hm]
  have HM := qh hm
  have HPM := qh hpm
  have HL := qh hl
  rw [hm] at hl ⊢
  clear hM xa hwa hpb hba h hd1 hno hm hpm
  go_enter Tryz.func40, Tryz.ntmps40
  go_upto_region 1 with fail
  rw [← HWA.out, HPB.out]
  have r0 : ∀ u : ExtOf wa, u.val.cell? ⟨xb, 0, none⟩ = some (.pointer (some ⟨rb, 0, none⟩)) := fun u => (XA.out.trans u.ext).cell HD.out.ptr_
  have r1 : ∀ u : ExtOf wa, u.val.cell? ⟨pb, 0, none⟩ = some (.int .i64 n) := fun u => u.ext.cell (cellOf HBA.out rfl)
  have r2 : ∀ u : ExtOf wa, u.val.cell? ⟨pb, 1, none⟩ = some (.int .i64 a) := fun u => u.ext.cell (cellOf HBA.out rfl)
  refine wp_region_ext (by kernel_rfl) (by kernel_rfl) ?_
  repeat (go_big_quiet_step ((go_at_call 102; exact HMY.out _)))
  refine wpQuiet_nil ?_
  rintro _ ⟨u, rfl⟩
  have hx := u.ext
  obtain ⟨w1, hw1⟩ : ∃ W, u.val = W := ⟨_, rfl⟩
  rw [hw1] at hx ⊢
  clear r0 r1 r2 hw1
  clear u
  have X1 := qh (XA.out.trans hx)
  have HB1 := qh (hx.block HBA.out)
  have D1 := qh (HD1.out.ext (XA.out.trans hx))
  clear hx HMY
  go_wp2_with fail
  go_loopw [6] (fun iv wr => ∃ j : Nat, j ≤ m ∧ iv = .int .i64 j ∧ wr = w1) (fun iv _ => m - (intOf iv).toNat)
  case atStart => exact ⟨0, Nat.zero_le _, rfl, rfl⟩
  case round =>
    obtain ⟨j, hji, rfl, rfl⟩ := hrel
    by_cases hjm : j < m
    · obtain ⟨x, hx⟩ : ∃ x, I[j]? = some x := ⟨_, List.getElem?_eq_getElem (by rw [HM.out]; exact hjm)⟩
      obtain ⟨g1, cap1, p1, q1, f1⟩ := D1.out.isFree hx
      rw [HM.out] at p1
      have e0 : decide ((j : Int) < (m : Int)) = true := decide_eq_true (by omega)
      have e0n : decide (j < m) = true := decide_eq_true hjm
      have j0 : (0 : Int) ≤ (j : Int) := by omega
      have j1 : (j : Int) < (m : Int) := by omega
      have jtn : (j : Int).toNat = j := by omega
      have HJM := qh hjm
      have ex : (x == 0) = false := beq_eq_false_iff_ne.2 (HNO.out x (List.mem_of_getElem? hx))
      clear hx hji hjm f1
      go_wp2_with fail
      go_roundw
      case rel => exact ⟨j + 1, by have := HJM.out; omega, by go_num, trivial⟩
      case measure => have := HJM.out; simp [intOf]; omega
    · have e0 : decide ((j : Int) < (m : Int)) = false := decide_eq_false (by omega)
      have e0n : decide (j < m) = false := decide_eq_false hjm
      obtain ⟨ao1, cap1, p1, -⟩ := D1.out.isAt
      obtain ⟨iv, pv, a1, c1, wA, a2, c2, wD, q1, q2, hrun1, b1, b2, mB, hrun2, b3, mD, hfin⟩ := D1.out.push HL.out n a
      have hb2 := mB.block HB1.out (fun h => absurd h.2 (Nat.lt_irrefl _))
      have hb3 := mD.block HB1.out (fun h => absurd h.2 (Nat.lt_irrefl _))
      have hiv : iv = .slice ao1 I.length cap1 := by
        rw [q1] at p1
        exact Option.some.inj p1
      subst hiv
      rw [HM.out] at p1 hrun1 b1 b2 hb2 hrun2 b3
      rw [HPM.out] at hrun2 hfin
      clear q1 q2 mB mD hji hjm
      have HRUN1 := qh hrun1
      have HRUN2 := qh hrun2
      have HF := qh hfin
      have B2 := qh b2
      have B3 := qh b3
      have PB2 := qh hb2
      have PB3 := qh hb3
      clear hrun1 hrun2 hfin b2 b3 hb2 hb3
      have cB := cellOf b1 (i := 1) rfl
      have fB := freeOf b1 1
      clear b1
      go_upto_region 11 with (at_builtin; refine wpList_append_runL _ rfl _ _ 40 rfl _ _ rfl rfl _ _ HRUN1.out ?_)
      clear p1 cB fB
      refine wp_region_E (S := fun w' => w'.cell? ⟨xb, 2, none⟩ = some pv ∧ w'.cell? ⟨pb, 0, none⟩ = some (.int .i64 n) ∧ w'.cell? ⟨pb, 1, none⟩ = some (.int .i64 a)) (n := 10) (by kernel_rfl) ?_
      obtain ⟨wB, hwB⟩ : ∃ W, (wA.setCell ⟨xb, 1, none⟩ (.slice a1 (m + 1) c1)).drew = W := ⟨_, rfl⟩
      rw [hwB] at HRUN2 B2 PB2
      rw [hwB]
      clear hwB
      have hS : wB.cell? ⟨xb, 2, none⟩ = some pv ∧ wB.cell? ⟨pb, 0, none⟩ = some (.int .i64 n) ∧ wB.cell? ⟨pb, 1, none⟩ = some (.int .i64 a) := ⟨cellOf B2.out (i := 2) rfl, cellOf PB2.out (i := 0) rfl, cellOf PB2.out (i := 1) rfl⟩
      have hS3 : wD.cell? ⟨xb, 2, none⟩ = some pv ∧ wD.cell? ⟨pb, 0, none⟩ = some (.int .i64 n) ∧ wD.cell? ⟨pb, 1, none⟩ = some (.int .i64 a) := ⟨cellOf B3.out (i := 2) rfl, cellOf PB3.out (i := 0) rfl, cellOf PB3.out (i := 1) rfl⟩
      have HS3 := qh hS3
      clear hS3
      show wpE _ _ _ _ _ 10 11 (Array.replicate 11 false) _ _
      refine wpE_tk 0 54 (.pointer (some ⟨xb, 0, none⟩)) rfl (.inl ⟨by rfl, fun w' hSw => ?_⟩) hS ?_
      · (obtain ⟨s1, s2, s3⟩ := hSw; clear hS; go_simp)
      try simp only [Act.put, zA, zB, zC]
      refine wpE_tk 1 55 (.pointer (some ⟨xb, 0, none⟩)) rfl (.inl ⟨by rfl, fun w' hSw => ?_⟩) hS ?_
      · (obtain ⟨s1, s2, s3⟩ := hSw; clear hS; go_simp)
      try simp only [Act.put, zA, zB, zC]
      refine wpE_tk 2 56 (.pointer (some ⟨xb, 0, none⟩)) rfl (.inl ⟨by rfl, fun w' hSw => ?_⟩) hS ?_
      · (obtain ⟨s1, s2, s3⟩ := hSw; clear hS; go_simp)
      try simp only [Act.put, zA, zB, zC]
      refine wpE_tk 3 57 (.pointer (some ⟨xb, 2, none⟩)) rfl (.inl ⟨by rfl, fun w' hSw => ?_⟩) hS ?_
      · (obtain ⟨s1, s2, s3⟩ := hSw; clear hS; go_simp)
      try simp only [Act.put, zA, zB, zC]
      refine wpE_tk 4 58 (pv) rfl (.inl ⟨by rfl, fun w' hSw => ?_⟩) hS ?_
      · (obtain ⟨s1, s2, s3⟩ := hSw; clear hS; go_simp)
      try simp only [Act.put, zA, zB, zC]
      refine wpE_tk 5 59 (.agg #[.int .i64 n, .int .i64 a]) rfl (.inl ⟨by rfl, fun w' hSw => ?_⟩) hS ?_
      · (obtain ⟨s1, s2, s3⟩ := hSw; clear hS; go_simp)
      try simp only [Act.put, zA, zB, zC]
      refine wpE_on 6 (some 60) rfl (fun K hK => ?_)
      go_simp
      refine hK.out _ _ (.inr ⟨((Ext.refl wB).alloc (.cells #[.int .i64 n, .int .i64 a] 43)).cell hS.1, ((Ext.refl wB).alloc (.cells #[.int .i64 n, .int .i64 a] 43)).cell hS.2.1, ((Ext.refl wB).alloc (.cells #[.int .i64 n, .int .i64 a] 43)).cell hS.2.2⟩) ?_
      clear hK K
      try simp only [Act.put, zA, zB, zC]
      refine wpE_on 7 (some 61) rfl (fun K hK => ?_)
      refine step_append_run (by rfl) _ _ 74 (by rfl) pv (.slice (some ⟨wB.heap.size, 0, none⟩) 1 1) (by rfl) (by rfl) (.slice a2 (m + 1) c2) wD HRUN2.out ?_
      refine hK.out _ _ (.inr HS3.out) ?_
      clear hK K
      try simp only [Act.put, zA, zB, zC]
      refine wpE_on 8 (some 62) rfl (fun K hK => ?_)
      go_simp
      refine hK.out _ _ (.inr HS3.out) ?_
      clear hK K
      try simp only [Act.put, zA, zB, zC]
      refine wpE_on 9 (some 63) rfl (fun K hK => ?_)
      go_simp
      refine hK.out _ _ (.inr HS3.out) ?_
      clear hK K
      try simp only [Act.put, zA, zB, zC]
      have cD := HS3.out.1
      have fD := freeOf B3.out 2
      refine wpE_on 10 (none) rfl (fun K hK => ?_)
      go_simp
      refine hK.out _ _ (.inl rfl) ?_
      clear hK K
      refine wpE_done (by kernel_rfl) ?_
      have HF2 : Hid (DAft F w xb rb T (I ++ [1]) (P ++ [(n, a)]) (wD.setCell ⟨xb, 2, none⟩ (.slice a2 (m + 1) c2))) := qh ((DAft.after X1.out HF.out).imp fun b hb => hb.1)
      clear cD fD hS
      obtain ⟨wE, hwE⟩ : ∃ W, wD.setCell ⟨xb, 2, none⟩ (.slice a2 (m + 1) c2) = W := ⟨_, rfl⟩
      rw [hwE] at HF2 ⊢
      clear hwE
      obtain ⟨ao3, cap3, p3, -⟩ := HF2.out.on.isAt
      rw [List.length_append, HM.out] at p3
      replace p3 : wE.cell? ⟨xb, 1, none⟩ = some (.slice ao3 (m + 1) cap3) := p3
      go_wp2_with fail
      go_ret2
      exact ⟨by first | rfl | (congr; omega), HF2.out⟩
end
section
variable {P : Program} {ops : Array Oper} {Q : Exit → Act → World → Prop} {md : Region.Mode} {S : World → Prop} {n : Nat}
theorem with_wpE {f : Nat} {L : Array Bool} {a : Act} {w : World} (h : ∀ W : Nat → Array Bool → Act → World → Prop, (∀ f L a w, wpE P md ops Q S n f L a w → W f L a w) → (∀ f L a w, W f L a w → wpE P md ops Q S n f L a w) → W f L a w) : wpE P md ops Q S n f L a w :=
  h (wpE P md ops Q S n) (fun _ _ _ _ h => h) (fun _ _ _ _ h => h)
end
section
variable {w : World} {F : Nat → Prop} {xb rb : Nat} {T : Tr} {I : List Int} {P : List (Int × Int)}
theorem dReplace_none (h : DocOn w F xb rb T I P) (id a c : Int) (s : ByteArray) (hg : T.get? id = none) :
    Calls Tryz.prog 44 #[.pointer (some ⟨xb, 0, none⟩), .int .i64 id, .int .i64 a, .int .i64 c, .string s] w (DErr F w xb rb 2 T I P) := by
  have HHAS := qh (rHas_no h.ref hg)
  have HF := qh (DAft.refl h)
  have c0 := h.ptr_
  clear h hg
  go_enter Tryz.func44, Tryz.ntmps44
  go_wp2_with (go_at_call 91; refine HHAS.out.mono ?_; rintro e w' ⟨rfl, rfl⟩)
  go_ret
  exact ⟨rfl, HF.out⟩
theorem dReplace_kind (h : DocOn w F xb rb T I P) (id a c : Int) (s : ByteArray) {nd : Nd} (hg : T.get? id = some nd) (ht : nd.tag ≠ 0) :
    Calls Tryz.prog 44 #[.pointer (some ⟨xb, 0, none⟩), .int .i64 id, .int .i64 a, .int .i64 c, .string s] w (DErr F w xb rb 6 T I P) := by
  have HHAS := qh (rHas_yes h.ref hg)
  have HF := qh (DAft.refl h)
  have c0 := h.ptr_
  obtain ⟨i, rfl, hi, hil⟩ := nodes_some hg
  obtain ⟨g, cap, aa, ac, ka, kc, cc, k0, k1, k2, k3, k4, k5, _⟩ := h.ref.one hi
  replace k1 : w.cell? ⟨g, i * 6 + 1, none⟩ = some (.int .i64 nd.tag) := k1
  have i0 : (0 : Int) ≤ (i : Int) := by omega
  have i1 : (i : Int) < (T.nodes.length : Int) := by omega
  have itn : (i : Int).toNat = i := by omega
  obtain ⟨t, hte⟩ : ∃ t, nd.tag = t := ⟨_, rfl⟩
  rw [hte] at ht k1
  have e0 : (t == 0) = false := beq_eq_false_iff_ne.2 ht
  clear h hg ht hte hi k0 k2 k3 k4 k5
  go_enter Tryz.func44, Tryz.ntmps44
  go_wp2_with (go_at_call 91; refine HHAS.out.mono ?_; rintro e w' ⟨rfl, rfl⟩)
  go_ret
  exact ⟨rfl, HF.out⟩
theorem dReplace_arg (h : DocOn w F xb rb T I P) (hA : AttrsOk T) (id a c : Int) (s : ByteArray) {nd : Nd} (hg : T.get? id = some nd) (ht : nd.tag = 0) (hac : a < 0 ∨ (runes nd.text : Int) < a ∨ c < 0) :
    Calls Tryz.prog 44 #[.pointer (some ⟨xb, 0, none⟩), .int .i64 id, .int .i64 a, .int .i64 c, .string s] w (DErr F w xb rb 1 T I P) := by
  have HHAS := qh (rHas_yes h.ref hg)
  have c0 := h.ptr_
  obtain ⟨i, rfl, hi, hil⟩ := nodes_some hg
  obtain ⟨g0, cap, aa, ac, ka, kc, cc, k0, k1, k2, k3, k4, k5, _⟩ := h.ref.one hi
  replace k1 : w.cell? ⟨g0, i * 6 + 1, none⟩ = some (.int .i64 nd.tag) := k1
  rw [ht] at k1
  replace k4 : w.cell? ⟨g0, i * 6 + 4, none⟩ = some (.string nd.text) := k4
  have i0 : (0 : Int) ≤ (i : Int) := by omega
  have i1 : (i : Int) < (T.nodes.length : Int) := by omega
  have itn : (i : Int).toNat = i := by omega
  have hL8 : runes nd.text ≤ 8192 := Nat.le_trans (runes_le _) (hA _ nd hi).2
  have htz : nd.text.size ≤ 1000000 := by have := (hA _ nd hi).2; omega
  obtain ⟨tx, htx⟩ : ∃ x, nd.text = x := ⟨_, rfl⟩
  rw [htx] at k4 hL8 htz hac
  have HF := qh (DAft.refl h)
  have HTZ := qh htz
  obtain ⟨L, hLn⟩ : ∃ L, runes tx = L := ⟨_, rfl⟩
  rw [hLn] at hL8 hac
  have HLN := qh hLn
  have HAC := qh hac
  clear h hA hg ht htx hLn htz hi k0 k2 k3 k5 hac
  go_enter Tryz.func44, Tryz.ntmps44
  go_wp2_with (go_at_call 91; refine HHAS.out.mono ?_; rintro e w' ⟨rfl, rfl⟩)
  go_wp2_with fail
  obtain ⟨K1, C1, hcv, hK1, hC1⟩ := run_toRunes tx HTZ.out w
  have hll : (runeList tx tx.size 0).length = L := HLN.out
  rw [hll] at hcv hK1
  rw [hcv]
  have x2 := qh (((Ext.refl w).drew.alloc (.cells C1 21)))
  have HF2 : Hid (DAft F w xb rb T I P (w.drew.alloc (.cells C1 21))) := qh (HF.out.ext x2.out)
  clear hcv hC1 k1 k4 c0
  by_cases h1 : a < 0
  · have e1 : decide (a < 0) = true := decide_eq_true h1
    clear h1
    go_wp2_with fail
    go_ret
    exact ⟨rfl, HF2.out⟩
  · by_cases h2 : (L : Int) < a
    · have e1 : decide (a < 0) = false := decide_eq_false h1
      have e2 : decide ((L : Int) < a) = true := decide_eq_true h2
      clear h1 h2
      go_wp2_with fail
      go_ret
      exact ⟨rfl, HF2.out⟩
    · have h3 : c < 0 := by have := HAC.out; omega
      have e1 : decide (a < 0) = false := decide_eq_false h1
      have e2 : decide ((L : Int) < a) = false := decide_eq_false h2
      have e3 : decide (c < 0) = true := decide_eq_true h3
      clear h1 h2 h3
      go_wp2_with fail
      go_ret
      exact ⟨rfl, HF2.out⟩
theorem dReplace (h : DocOn w F xb rb T I P) (hl : I.length ≤ 100000) (hA : AttrsOk T) (id : Int) {nd : Nd} (hg : T.get? id = some nd) (ht : nd.tag = 0) (a c : Nat) (ha : a ≤ runes nd.text) (s : ByteArray) (hs : s.size ≤ 100000)
    {c' : Nat} (hcc : min c (runes nd.text - a) = c') {er : Int} {T' : Tr}
    (hd : ∀ F0 W, Ext w W → RefOn W F0 rb T → Calls Tryz.prog 139 #[.pointer (some ⟨rb, 0, none⟩), .int .i64 1, .int .i64 id, .int .i64 0, .string (replT nd.text a c' s), .slice none 0 0] W (RErr F0 W rb er T'))
    (hP : er = 0 → okI id ∧ okPl P) :
    Calls Tryz.prog 44 #[.pointer (some ⟨xb, 0, none⟩), .int .i64 id, .int .i64 (a : Int), .int .i64 (c : Int), .string s] w (DErr F w xb rb er T' I (movedD er (repP id a c' (runes s)) I P)) := by
  have HHAS := qh (rHas_yes h.ref hg)
  have c0 := h.ptr_
  obtain ⟨i, rfl, hi, hil⟩ := nodes_some hg
  obtain ⟨g0, cap, aa, ac, ka, kc, cc, k0, k1, k2, k3, k4, k5, _⟩ := h.ref.one hi
  replace k1 : w.cell? ⟨g0, i * 6 + 1, none⟩ = some (.int .i64 nd.tag) := k1
  rw [ht] at k1
  replace k4 : w.cell? ⟨g0, i * 6 + 4, none⟩ = some (.string nd.text) := k4
  have i0 : (0 : Int) ≤ (i : Int) := by omega
  have i1 : (i : Int) < (T.nodes.length : Int) := by omega
  have itn : (i : Int).toNat = i := by omega
  have hL8 : runes nd.text ≤ 8192 := Nat.le_trans (runes_le _) (hA _ nd hi).2
  have htz : nd.text.size ≤ 1000000 := by have := (hA _ nd hi).2; omega
  obtain ⟨tx, htx⟩ : ∃ x, nd.text = x := ⟨_, rfl⟩
  rw [htx] at k4 hL8 htz ha hcc hd
  have HTZ := qh htz
  obtain ⟨L, hLn⟩ : ∃ L, runes tx = L := ⟨_, rfl⟩
  rw [hLn] at hL8 ha hcc
  have HLN := qh hLn
  have HD := qh h
  have HG := qh hd
  have HPP := qh hP
  have HL := qh hl
  have HS := qh hs
  have HCC := qh hcc
  have HAL := qh ha
  have hac : a + c' ≤ L := by omega
  have e1 : decide ((a : Int) < 0) = false := decide_eq_false (by omega)
  have e2 : decide ((L : Int) < (a : Int)) = false := decide_eq_false (by omega)
  have e2n : decide (L < a) = false := decide_eq_false (by omega)
  have e3 : decide ((c : Int) < 0) = false := decide_eq_false (by omega)
  have e4 : IntKind.i64.wrap ((L : Int) - (a : Int)) = ((L - a : Nat) : Int) := by rw [IntWalk.i64_in _ (by omega)]; omega
  clear h hA hg ht hd hP hl hs htx hLn htz hi k0 k2 k3 k5 hcc
  go_enter Tryz.func44, Tryz.ntmps44
  go_wp2_with (go_at_call 91; refine HHAS.out.mono ?_; rintro e w' ⟨rfl, rfl⟩)
  go_wp2_with fail
  obtain ⟨K1, C1, hcv, hK1, hC1⟩ := run_toRunes tx HTZ.out w
  have hll : (runeList tx tx.size 0).length = L := HLN.out
  rw [hll] at hcv hK1
  rw [hcv]
  clear hcv
  have x2 : Ext w (w.drew.alloc (.cells C1 21)) := ((Ext.refl w).drew.alloc _)
  have hb2 : (w.drew.alloc (.cells C1 21)).heap[w.heap.size]? = some (.cells C1 21 (0, 0)) := heap_alloc_new w.drew _
  obtain ⟨g, hg⟩ : ∃ g, w.heap.size = g := ⟨_, rfl⟩
  rw [hg] at hb2 ⊢
  obtain ⟨w2, hw2⟩ : ∃ W : World, W = w.drew.alloc (.cells C1 21) := ⟨_, rfl⟩
  rw [← hw2] at x2 hb2
  try rw [← hw2]
  have HW2 := qh hw2
  have X2 := qh x2
  have HB2 := qh hb2
  have HC1 := qh hC1
  have HLL := qh hll
  have HK1 := qh hK1
  clear x2 hb2 hC1 hll hK1 c0 k1 k4 hg hw2
  by_cases hgt : L - a < c
  · have hce : c' = L - a := by have := HCC.out; omega
    have e4' : IntKind.i64.wrap ((L : Int) - (a : Int)) = (c' : Int) := by rw [e4, hce]
    have e5 : decide ((c' : Int) < (c : Int)) = true := decide_eq_true (by omega)
    have e5n : decide (c' < c) = true := decide_eq_true (by omega)
    clear hgt hce e4
    have e4 := e4'
    clear e4'
    go_upto_region 10 with fail
    try rw [← HW2.out]
    clear e1 e2 e2n e3 e4 e5 e5n
    obtain ⟨l, hle⟩ : ∃ l, runeList tx tx.size 0 = l := ⟨_, rfl⟩
    have hll := HLL.out
    rw [hle] at hll
    have HA : Hid (runesBytes (l.take a) ++ s ++ runesBytes (l.drop (a + c')) = replT tx a c' s) := qh (by unfold replT; rw [hle])
    have hcell : ∀ u : ExtOf w2, ∀ j z, l[j]? = some z → u.val.cell? ⟨g, j, none⟩ = some (.int .i32 z) := fun u j z hj => u.ext.cell (cellOf HB2.out (HC1.out j z (by rw [hle]; exact hj)))
    have v1 : ∀ u : ExtOf w2, (convert 115 9 (.slice (some ⟨g, 0, none⟩) a K1)).run Tryz.prog u.val = .ok (.string (runesBytes (l.take a))) u.val := fun u =>
      run_convert_runes u.val 115 9 21 ⟨g, 0, none⟩ a K1 l (by have := HAL.out; omega) Tryz.underlying115 Tryz.underlying21 Tryz.underlying9 (fun j hj => by
        rw [Addr.add_lit, Nat.zero_add]
        exact hcell u j _ (by rw [List.getD_eq_getElem?_getD, List.getElem?_eq_getElem hj]; rfl))
    have v2 : ∀ u : ExtOf w2, (convert 115 9 (.slice (if K1 = a + c' then some ⟨g, 0, none⟩ else some ⟨g, a + c', none⟩) (L - (a + c')) (K1 - (a + c')))).run Tryz.prog u.val = .ok (.string (runesBytes (l.drop (a + c')))) u.val := fun u => by
      by_cases hk : K1 = a + c'
      · rw [if_pos hk]
        have hk1 := HK1.out
        have hz : L - (a + c') = 0 := by omega
        have hd : l.drop (a + c') = [] := List.drop_eq_nil_of_le (by omega)
        rw [hz, hd]
        have h9 := run_convert_runes (P := Tryz.prog) u.val 115 9 21 ⟨g, 0, none⟩ 0 (K1 - (a + c')) [] (Nat.le_refl _) Tryz.underlying115 Tryz.underlying21 Tryz.underlying9 (fun j hj => by cases hj)
        exact h9
      · rw [if_neg hk]
        have h9 := run_convert_runes (P := Tryz.prog) u.val 115 9 21 ⟨g, a + c', none⟩ (L - (a + c')) (K1 - (a + c')) (l.drop (a + c')) (by rw [List.length_drop]; omega) Tryz.underlying115 Tryz.underlying21 Tryz.underlying9 (fun j hj => by
          rw [Addr.add_lit]
          exact hcell u (a + c' + j) _ (by rw [List.length_drop] at hj; rw [List.getD_eq_getElem?_getD, List.getElem?_drop, List.getElem?_eq_getElem (by omega)]; rfl))
        rw [List.take_of_length_le (by rw [List.length_drop]; omega)] at h9
        exact h9
    obtain ⟨A, hAe⟩ : ∃ A, runesBytes (l.take a) = A := ⟨_, rfl⟩
    obtain ⟨B, hBe⟩ : ∃ B, runesBytes (l.drop (a + c')) = B := ⟨_, rfl⟩
    have hAz : A.size ≤ 4 * L := by have h9 := runesBytes_size_le (l.take a); rw [hAe, List.length_take] at h9; omega
    have hBz : B.size ≤ 4 * L := by have h9 := runesBytes_size_le (l.drop (a + c')); rw [hBe, List.length_drop] at h9; omega
    rw [hAe, hBe] at HA
    simp only [hAe] at v1
    simp only [hBe] at v2
    have hsz := HS.out
    have z1 : A.size + s.size ≤ 9223372036854775807 := by omega
    have z2 : A.size + s.size + B.size ≤ 9223372036854775807 := by omega
    have z3 : (A ++ s).size + B.size ≤ 9223372036854775807 := by rw [ByteArray.size_append]; omega
    clear hAe hBe hAz hBz hsz
    have b0 : (0 : Int) ≤ (a : Int) := by omega
    have hk1 := HK1.out
    have b1 : (a : Int) ≤ (K1 : Int) := by omega
    have b2 : IntKind.i64.wrap ((a : Int) + (c' : Int)) = ((a + c' : Nat) : Int) := by rw [IntWalk.i64_in _ (by omega)]; push_cast; rfl
    have b3 : (0 : Int) ≤ ((a + c' : Nat) : Int) := by omega
    have b4 : ((a + c' : Nat) : Int) ≤ (L : Int) := by omega
    have b5 : (L : Int) ≤ (K1 : Int) := by omega
    have b6 : a ≤ K1 := by omega
    have b7 : a + c' ≤ L := hac
    have b8 : L ≤ K1 := hk1
    clear hle hcell hll
    refine wp_region_ext (by kernel_rfl) (by kernel_rfl) ?_
    repeat (go_big_quiet_step (fail))
    refine wpQuiet_nil ?_
    rintro _ ⟨u, rfl⟩
    have hx := u.ext
    obtain ⟨w5, hw5⟩ : ∃ W, u.val = W := ⟨_, rfl⟩
    rw [hw5] at hx ⊢
    clear v1 v2 hw5
    clear u
    have X5 := qh (X2.out.trans hx)
    clear hx
    have HRE := qh (dSet (HD.out.ext X5.out) HL.out i (a : Int) (c' : Int) s (A ++ s ++ B) HS.out (er := er) (T' := T') (fun F0 hR => by rw [HA.out]; exact HG.out F0 _ X5.out hR) (by omega) (fun he => ⟨(HPP.out he).1, by unfold okI; omega, by unfold okI; omega, (HPP.out he).2⟩))
    go_wp2_with (go_at_call 100; refine HRE.out.mono ?_; rintro e w6 ⟨rfl, h6⟩; have HF := qh (DAft.after X5.out h6); clear h6)
    all_goals go_ret
    all_goals exact ⟨rfl, HF.out⟩
  · have hce : c' = c := by have := HCC.out; omega
    subst hce
    have e5 : decide (((L - a : Nat) : Int) < (c' : Int)) = false := decide_eq_false (by omega)
    have e5n : decide (L - a < c') = false := decide_eq_false hgt
    clear hgt
    go_upto_region 10 with fail
    try rw [← HW2.out]
    clear e1 e2 e2n e3 e4 e5 e5n
    obtain ⟨l, hle⟩ : ∃ l, runeList tx tx.size 0 = l := ⟨_, rfl⟩
    have hll := HLL.out
    rw [hle] at hll
    have HA : Hid (runesBytes (l.take a) ++ s ++ runesBytes (l.drop (a + c')) = replT tx a c' s) := qh (by unfold replT; rw [hle])
    have hcell : ∀ u : ExtOf w2, ∀ j z, l[j]? = some z → u.val.cell? ⟨g, j, none⟩ = some (.int .i32 z) := fun u j z hj => u.ext.cell (cellOf HB2.out (HC1.out j z (by rw [hle]; exact hj)))
    have v1 : ∀ u : ExtOf w2, (convert 115 9 (.slice (some ⟨g, 0, none⟩) a K1)).run Tryz.prog u.val = .ok (.string (runesBytes (l.take a))) u.val := fun u =>
      run_convert_runes u.val 115 9 21 ⟨g, 0, none⟩ a K1 l (by have := HAL.out; omega) Tryz.underlying115 Tryz.underlying21 Tryz.underlying9 (fun j hj => by
        rw [Addr.add_lit, Nat.zero_add]
        exact hcell u j _ (by rw [List.getD_eq_getElem?_getD, List.getElem?_eq_getElem hj]; rfl))
    have v2 : ∀ u : ExtOf w2, (convert 115 9 (.slice (if K1 = a + c' then some ⟨g, 0, none⟩ else some ⟨g, a + c', none⟩) (L - (a + c')) (K1 - (a + c')))).run Tryz.prog u.val = .ok (.string (runesBytes (l.drop (a + c')))) u.val := fun u => by
      by_cases hk : K1 = a + c'
      · rw [if_pos hk]
        have hk1 := HK1.out
        have hz : L - (a + c') = 0 := by omega
        have hd : l.drop (a + c') = [] := List.drop_eq_nil_of_le (by omega)
        rw [hz, hd]
        have h9 := run_convert_runes (P := Tryz.prog) u.val 115 9 21 ⟨g, 0, none⟩ 0 (K1 - (a + c')) [] (Nat.le_refl _) Tryz.underlying115 Tryz.underlying21 Tryz.underlying9 (fun j hj => by cases hj)
        exact h9
      · rw [if_neg hk]
        have h9 := run_convert_runes (P := Tryz.prog) u.val 115 9 21 ⟨g, a + c', none⟩ (L - (a + c')) (K1 - (a + c')) (l.drop (a + c')) (by rw [List.length_drop]; omega) Tryz.underlying115 Tryz.underlying21 Tryz.underlying9 (fun j hj => by
          rw [Addr.add_lit]
          exact hcell u (a + c' + j) _ (by rw [List.length_drop] at hj; rw [List.getD_eq_getElem?_getD, List.getElem?_drop, List.getElem?_eq_getElem (by omega)]; rfl))
        rw [List.take_of_length_le (by rw [List.length_drop]; omega)] at h9
        exact h9
    obtain ⟨A, hAe⟩ : ∃ A, runesBytes (l.take a) = A := ⟨_, rfl⟩
    obtain ⟨B, hBe⟩ : ∃ B, runesBytes (l.drop (a + c')) = B := ⟨_, rfl⟩
    have hAz : A.size ≤ 4 * L := by have h9 := runesBytes_size_le (l.take a); rw [hAe, List.length_take] at h9; omega
    have hBz : B.size ≤ 4 * L := by have h9 := runesBytes_size_le (l.drop (a + c')); rw [hBe, List.length_drop] at h9; omega
    rw [hAe, hBe] at HA
    simp only [hAe] at v1
    simp only [hBe] at v2
    have hsz := HS.out
    have z1 : A.size + s.size ≤ 9223372036854775807 := by omega
    have z2 : A.size + s.size + B.size ≤ 9223372036854775807 := by omega
    have z3 : (A ++ s).size + B.size ≤ 9223372036854775807 := by rw [ByteArray.size_append]; omega
    clear hAe hBe hAz hBz hsz
    have b0 : (0 : Int) ≤ (a : Int) := by omega
    have hk1 := HK1.out
    have b1 : (a : Int) ≤ (K1 : Int) := by omega
    have b2 : IntKind.i64.wrap ((a : Int) + (c' : Int)) = ((a + c' : Nat) : Int) := by rw [IntWalk.i64_in _ (by omega)]; push_cast; rfl
    have b3 : (0 : Int) ≤ ((a + c' : Nat) : Int) := by omega
    have b4 : ((a + c' : Nat) : Int) ≤ (L : Int) := by omega
    have b5 : (L : Int) ≤ (K1 : Int) := by omega
    have b6 : a ≤ K1 := by omega
    have b7 : a + c' ≤ L := hac
    have b8 : L ≤ K1 := hk1
    clear hle hcell hll
    refine wp_region_ext (by kernel_rfl) (by kernel_rfl) ?_
    repeat (go_big_quiet_step (fail))
    refine wpQuiet_nil ?_
    rintro _ ⟨u, rfl⟩
    have hx := u.ext
    obtain ⟨w5, hw5⟩ : ∃ W, u.val = W := ⟨_, rfl⟩
    rw [hw5] at hx ⊢
    clear v1 v2 hw5
    clear u
    have X5 := qh (X2.out.trans hx)
    clear hx
    have HRE := qh (dSet (HD.out.ext X5.out) HL.out i (a : Int) (c' : Int) s (A ++ s ++ B) HS.out (er := er) (T' := T') (fun F0 hR => by rw [HA.out]; exact HG.out F0 _ X5.out hR) (by omega) (fun he => ⟨(HPP.out he).1, by unfold okI; omega, by unfold okI; omega, (HPP.out he).2⟩))
    go_wp2_with (go_at_call 100; refine HRE.out.mono ?_; rintro e w6 ⟨rfl, h6⟩; have HF := qh (DAft.after X5.out h6); clear h6)
    all_goals go_ret
    all_goals exact ⟨rfl, HF.out⟩
end
end Go.Proofs.YthgnbbbdcebjhaaGreat
