/- what of V1 V2 V2b V3 VQ VA VB VC VD VE VF VG VH VI VJ VK VL VR VS VU VV VT VW VX VY VAA VM VN VTB VTC VTD VTE W1 W2 W3 W4 D0 DB DA DC DD DE DF DG DH DI DJ DK DL DM DN DO DP EA EB EC ED EE EF EFa EFb EFc EFd EFe EG EH EJ EI EK EL is leant on -/
import Derived.Test.YthgnbbbdcebjhaaGreatLQd
set_option linter.unusedVariables false
set_option linter.unusedSimpArgs false
set_option maxRecDepth 100000
set_option maxHeartbeats 4000000
namespace Go.Proofs.YthgnbbbdcebjhaaGreat
open Go Go.RowKit Go.BigFrame
section
variable {w : World} {F : Nat → Prop} {rb : Nat} {T : Tr}
theorem rGraft_none (hR : RefOn w F rb T) {p at' : Int} (h : T.get? p = none) (x y z u : Value) : Calls Tryz.prog 101 #[.pointer (some ⟨rb, 0, none⟩), .int .i64 p, .int .i64 at', .agg #[x, y, z, u]] w (RTwoAft F w rb 0 2 T) := by
  have xu := (Ext.refl w).alloc (.cells #[x, y, z, u] 35)
  have H := qh ((RAft.refl hR).ext xu)
  have HAS := qh (rHas_no (hR.ext xu).at h)
  clear hR h xu
  go_enter Tryz.func101, Tryz.ntmps101
  go_wp2_with (go_at_call 91; refine HAS.out.mono ?_; rintro e w' ⟨rfl, rfl⟩)
  go_ret2
  exact ⟨rfl, H.out⟩
theorem rGraft_kind (hR : RefOn w F rb T) {p at' : Int} {pd : Nd} (h : T.get? p = some pd) (ht : (pd.tag == 0) = true) (x y z u : Value) : Calls Tryz.prog 101 #[.pointer (some ⟨rb, 0, none⟩), .int .i64 p, .int .i64 at', .agg #[x, y, z, u]] w (RTwoAft F w rb 0 6 T) := by
  have xu := (Ext.refl w).alloc (.cells #[x, y, z, u] 35)
  have H := qh ((RAft.refl hR).ext xu)
  have HAS := qh (rHas_yes (hR.ext xu).at h)
  obtain ⟨i, rfl, hi, hl⟩ := nodes_some h
  obtain ⟨g, cap, aa, ac, ka, kc, c, c0, c1, c2, c3, c4, c5, _, _⟩ := (hR.ext xu).at.one hi
  replace c1 : (w.alloc (.cells #[x, y, z, u] 35)).cell? ⟨g, i * 6 + 1, none⟩ = some (.int .i64 pd.tag) := c1
  replace c5 : (w.alloc (.cells #[x, y, z, u] 35)).cell? ⟨g, i * 6 + 5, none⟩ = some (.slice ka pd.kids.length kc) := c5
  clear hR h hi c0 c2 c3 c4 xu
  go_enter Tryz.func101, Tryz.ntmps101
  go_wp2_with (go_at_call 91; refine HAS.out.mono ?_; rintro e w' ⟨rfl, rfl⟩)
  go_ret2
  exact ⟨rfl, H.out⟩
theorem rGraft_arg (hR : RefOn w F rb T) {p at' : Int} {pd : Nd} (h : T.get? p = some pd) (ht : (pd.tag == 0) = false) (ha : at' < 0 ∨ (pd.kids.length : Int) < at') (x y z u : Value) : Calls Tryz.prog 101 #[.pointer (some ⟨rb, 0, none⟩), .int .i64 p, .int .i64 at', .agg #[x, y, z, u]] w (RTwoAft F w rb 0 1 T) := by
  have xu := (Ext.refl w).alloc (.cells #[x, y, z, u] 35)
  have H := qh ((RAft.refl hR).ext xu)
  have HAS := qh (rHas_yes (hR.ext xu).at h)
  obtain ⟨i, rfl, hi, hl⟩ := nodes_some h
  obtain ⟨g, cap, aa, ac, ka, kc, c, c0, c1, c2, c3, c4, c5, _, _⟩ := (hR.ext xu).at.one hi
  replace c1 : (w.alloc (.cells #[x, y, z, u] 35)).cell? ⟨g, i * 6 + 1, none⟩ = some (.int .i64 pd.tag) := c1
  replace c5 : (w.alloc (.cells #[x, y, z, u] 35)).cell? ⟨g, i * 6 + 5, none⟩ = some (.slice ka pd.kids.length kc) := c5
  clear hR h hi c0 c2 c3 c4 xu
  by_cases h1 : at' < 0
  · clear ha
    go_enter Tryz.func101, Tryz.ntmps101
    go_wp2_with (go_at_call 91; refine HAS.out.mono ?_; rintro e w' ⟨rfl, rfl⟩)
    go_ret2
    exact ⟨rfl, H.out⟩
  · have h2 : (pd.kids.length : Int) < at' := by rcases ha with h | h; exact absurd h h1; exact h
    clear ha
    go_enter Tryz.func101, Tryz.ntmps101
    go_wp2_with (go_at_call 91; refine HAS.out.mono ?_; rintro e w' ⟨rfl, rfl⟩)
    go_ret2
    exact ⟨rfl, H.out⟩
theorem rGraft_bad {g0 : World} (hR : RefOn w F rb T) {d : Nat → Nat} (hw : WF T d) {p at' : Nat} {pd : Nd} (hp : T.nodes[p]? = some (some pd)) (ht : (pd.tag == 0) = false) (hat : at' ≤ pd.kids.length)
    {n : PN} {nv : Value} (hr : RdN g0 n nv) (hap : RApart g0 F w) (hsh : n.short = true) (hsz : n.size ≤ 90000) (he : n.worst ≠ 0) :
    Calls Tryz.prog 101 #[.pointer (some ⟨rb, 0, none⟩), .int .i64 p, .int .i64 at', nv] w (RTwoAft F w rb 0 n.worst T) := by
  obtain ⟨av, kv, rfl, _, _⟩ := hr.open
  have hrw : RdN w n (.agg #[.int .i64 n.tag, av, .string n.text, kv]) := hr.cells hap.cells
  have xu := (Ext.refl w).alloc (.cells #[.int .i64 n.tag, av, .string n.text, kv] 35)
  have hbox := heap_alloc_new w (.cells #[.int .i64 n.tag, av, .string n.text, kv] 35)
  have HR := qh hR
  have H := qh (RAft.refl hR)
  have HAS := qh (rHas_yes (hR.ext xu).at (Tr.get_of hp))
  have hl := (List.getElem?_eq_some_iff.1 hp).1
  obtain ⟨g, cap, aa, ac, ka, kc, c, c0, c1, c2, c3, c4, c5, _, _⟩ := (hR.ext xu).at.one hp
  replace c1 : (w.alloc (.cells #[.int .i64 n.tag, av, .string n.text, kv] 35)).cell? ⟨g, p * 6 + 1, none⟩ = some (.int .i64 pd.tag) := c1
  replace c5 : (w.alloc (.cells #[.int .i64 n.tag, av, .string n.text, kv] 35)).cell? ⟨g, p * 6 + 5, none⟩ = some (.slice ka pd.kids.length kc) := c5
  have HM := qh (rMay_any n _ _ hsh (by omega) hrw xu)
  have HP := qh hp
  have HW := qh hw
  have HRD := qh hrw
  have HXU := qh xu
  obtain ⟨v, hv, hvi⟩ : ∃ v, n.worst = v ∧ (v = 0 ∨ v = 1 ∨ v = 10) := ⟨_, rfl, worst_in n⟩
  rw [hv] at HM
  rw [hv] at he ⊢
  clear hR hr hap hsh hrw hp hw c0 c2 c3 c4 xu
  have b0 := cellOf hbox (i := 0) (v := .int .i64 n.tag) rfl
  have b1 := cellOf hbox (i := 1) (v := av) rfl
  have b2 := cellOf hbox (i := 2) (v := .string n.text) rfl
  have b3 := cellOf hbox (i := 3) (v := kv) rfl
  clear hbox hv
  rcases hvi with rfl | rfl | rfl
  · exact absurd rfl he
  all_goals
    clear he
    go_enter Tryz.func101, Tryz.ntmps101
    go_wp2_with (first | (go_at_call 91; refine HAS.out.mono ?_; rintro e w' ⟨rfl, rfl⟩) | (go_at_call 140; refine HM.out.mono ?_; rintro e w' ⟨rfl, hy⟩; have HY := qh hy; clear hy))
    go_ret2
    exact ⟨rfl, H.out.ext (HXU.out.trans HY.out)⟩
theorem rGraft_deep {g0 : World} (hR : RefOn w F rb T) {d : Nat → Nat} (hw : WF T d) {p at' : Nat} {pd : Nd} (hp : T.nodes[p]? = some (some pd)) (ht : (pd.tag == 0) = false) (hat : at' ≤ pd.kids.length)
    {n : PN} {nv : Value} (hr : RdN g0 n nv) (hap : RApart g0 F w) (hsh : n.short = true) (hsz : n.size ≤ 90000) (hok : n.ok = true) (hdp : T.deep < (d p : Int) + 1 + n.high) :
    Calls Tryz.prog 101 #[.pointer (some ⟨rb, 0, none⟩), .int .i64 p, .int .i64 at', nv] w (RTwoAft F w rb 0 4 T) := by
  obtain ⟨av, kv, rfl, _, _⟩ := hr.open
  have hrw : RdN w n (.agg #[.int .i64 n.tag, av, .string n.text, kv]) := hr.cells hap.cells
  have xu := (Ext.refl w).alloc (.cells #[.int .i64 n.tag, av, .string n.text, kv] 35)
  have hbox := heap_alloc_new w (.cells #[.int .i64 n.tag, av, .string n.text, kv] 35)
  have HR := qh hR
  have H := qh (RAft.refl hR)
  have HAS := qh (rHas_yes (hR.ext xu).at (Tr.get_of hp))
  have hl := (List.getElem?_eq_some_iff.1 hp).1
  obtain ⟨g, cap, aa, ac, ka, kc, c, c0, c1, c2, c3, c4, c5, _, _⟩ := (hR.ext xu).at.one hp
  replace c1 : (w.alloc (.cells #[.int .i64 n.tag, av, .string n.text, kv] 35)).cell? ⟨g, p * 6 + 1, none⟩ = some (.int .i64 pd.tag) := c1
  replace c5 : (w.alloc (.cells #[.int .i64 n.tag, av, .string n.text, kv] 35)).cell? ⟨g, p * 6 + 5, none⟩ = some (.slice ka pd.kids.length kc) := c5
  have HM := qh (rMay_any n _ _ hsh (by omega) hrw xu)
  have HP := qh hp
  have HW := qh hw
  have HRD := qh hrw
  have HXU := qh xu
  obtain ⟨v, hv, hvi⟩ : ∃ v, n.worst = v ∧ (v = 0 ∨ v = 1 ∨ v = 10) := ⟨_, rfl, worst_in n⟩
  rw [hv] at HM
  have hw41 : d p ≤ 40 := by have := hw.deep p pd hp; have := hw.small.deep1; omega
  have hdd : (T.pathOf (p : Int)).length = d p := by
    have h := hw.path_rank p ⟨pd, Tr.get_of hp⟩
    unfold Tr.rank at h
    rw [Tr.get_of hp] at h
    simp at h
    exact h
  have hhi : n.high < n.size := high_lt n
  obtain ⟨dp, hdpe⟩ : ∃ dp, d p = dp := ⟨_, rfl⟩
  obtain ⟨hh, hhe⟩ : ∃ hh, n.high = hh := ⟨_, rfl⟩
  have hs0 := hw.small.deep0
  have hs1 := hw.small.deep1
  have cdp : w.cell? ⟨rb, 1, none⟩ = some (.int .i64 T.deep) := by
    obtain ⟨_, _, _, _, _, h⟩ := hR.at.slice
    exact h
  have ccp : w.cell? ⟨rb, 0, none⟩ = some (.int .i64 T.cap) := by
    obtain ⟨_, _, _, _, h, _⟩ := hR.at.slice
    exact h
  have HDE := qh (fun (u : World) (x : Ext w u) => RSame.val (by have := rDepth (hR.ext x).at hw (Tr.get_of hp); rw [hdd, hdpe] at this; exact this))
  have HHI := qh (fun (u : World) (x : Ext w u) => (hhe ▸ rHigh_any n _ u (by omega) hrw x : Calls Tryz.prog 141 #[.agg #[.int .i64 n.tag, av, .string n.text, kv]] u (RVal (.int .i64 (hh : Nat)) u)))
  have HCN := qh (fun (u : World) (x : Ext w u) => rCountX (hR.ext x).at hw)
  have HSZ := qh (fun (u : World) (x : Ext w u) => Size_any n _ u (by omega) hrw x)
  rw [hdpe, hhe] at hdp
  rw [hdpe] at hw41
  rw [hhe] at hhi
  clear hR hr hap hsh hrw hp hw c0 c2 c3 c4 xu
  have b0 := cellOf hbox (i := 0) (v := .int .i64 n.tag) rfl
  have b1 := cellOf hbox (i := 1) (v := av) rfl
  have b2 := cellOf hbox (i := 2) (v := .string n.text) rfl
  have b3 := cellOf hbox (i := 3) (v := kv) rfl
  have hv0 : v = 0 := by rw [← hv]; exact worst_zero.2 hok
  subst hv0
  clear hbox hv hvi hok hdd hdpe hhe
  go_enter Tryz.func101, Tryz.ntmps101
  go_upto_region 10 with (first | (go_at_call 91; refine HAS.out.mono ?_; rintro e w' ⟨rfl, rfl⟩) | (go_at_call 140; refine HM.out.mono ?_; rintro e wm ⟨rfl, hy⟩; replace b0 := hy.cell b0; replace b1 := hy.cell b1; replace b2 := hy.cell b2; replace b3 := hy.cell b3; have HY := qh (HXU.out.trans hy); clear hy))
  have e0 := fun u : ExtOf wm => u.ext.cell b0
  have e1 := fun u : ExtOf wm => u.ext.cell b1
  have e2 := fun u : ExtOf wm => u.ext.cell b2
  have e3 := fun u : ExtOf wm => u.ext.cell b3
  have e4 := fun u : ExtOf wm => u.ext.cell (HY.out.cell cdp)
  refine wp_region_ext (by kernel_rfl) (by kernel_rfl) ?_
  repeat (go_big_quiet_step (first | (go_at_call 117; exact inExt (HDE.out _ (HY.out.trans (ExtOf.ext _)))) | (go_at_call 141; exact inExt (HHI.out _ (HY.out.trans (ExtOf.ext _))))))
  refine wpQuiet_nil ?_
  rintro _ ⟨u, rfl⟩
  clear e0 e1 e2 e3 e4
  replace b0 := u.ext.cell b0
  replace b1 := u.ext.cell b1
  replace b2 := u.ext.cell b2
  replace b3 := u.ext.cell b3
  have HU := qh (HY.out.trans u.ext)
  go_wp2_with fail
  go_ret2
  exact ⟨rfl, H.out.ext HU.out⟩
theorem rGraft_full {g0 : World} (hR : RefOn w F rb T) {d : Nat → Nat} (hw : WF T d) {p at' : Nat} {pd : Nd} (hp : T.nodes[p]? = some (some pd)) (ht : (pd.tag == 0) = false) (hat : at' ≤ pd.kids.length)
    {n : PN} {nv : Value} (hr : RdN g0 n nv) (hap : RApart g0 F w) (hsh : n.short = true) (hsz : n.size ≤ 90000) (hok : n.ok = true) (hdp : (d p : Int) + 1 + n.high ≤ T.deep) (hf : ¬ (n.size : Int) ≤ T.cap - T.count) :
    Calls Tryz.prog 101 #[.pointer (some ⟨rb, 0, none⟩), .int .i64 p, .int .i64 at', nv] w (RTwoAft F w rb 0 3 T) := by
  obtain ⟨av, kv, rfl, _, _⟩ := hr.open
  have hrw : RdN w n (.agg #[.int .i64 n.tag, av, .string n.text, kv]) := hr.cells hap.cells
  have xu := (Ext.refl w).alloc (.cells #[.int .i64 n.tag, av, .string n.text, kv] 35)
  have hbox := heap_alloc_new w (.cells #[.int .i64 n.tag, av, .string n.text, kv] 35)
  have HR := qh hR
  have H := qh (RAft.refl hR)
  have HAS := qh (rHas_yes (hR.ext xu).at (Tr.get_of hp))
  have hl := (List.getElem?_eq_some_iff.1 hp).1
  obtain ⟨g, cap, aa, ac, ka, kc, c, c0, c1, c2, c3, c4, c5, _, _⟩ := (hR.ext xu).at.one hp
  replace c1 : (w.alloc (.cells #[.int .i64 n.tag, av, .string n.text, kv] 35)).cell? ⟨g, p * 6 + 1, none⟩ = some (.int .i64 pd.tag) := c1
  replace c5 : (w.alloc (.cells #[.int .i64 n.tag, av, .string n.text, kv] 35)).cell? ⟨g, p * 6 + 5, none⟩ = some (.slice ka pd.kids.length kc) := c5
  have HM := qh (rMay_any n _ _ hsh (by omega) hrw xu)
  have HP := qh hp
  have HW := qh hw
  have HRD := qh hrw
  have HXU := qh xu
  obtain ⟨v, hv, hvi⟩ : ∃ v, n.worst = v ∧ (v = 0 ∨ v = 1 ∨ v = 10) := ⟨_, rfl, worst_in n⟩
  rw [hv] at HM
  have hw41 : d p ≤ 40 := by have := hw.deep p pd hp; have := hw.small.deep1; omega
  have hdd : (T.pathOf (p : Int)).length = d p := by
    have h := hw.path_rank p ⟨pd, Tr.get_of hp⟩
    unfold Tr.rank at h
    rw [Tr.get_of hp] at h
    simp at h
    exact h
  have hhi : n.high < n.size := high_lt n
  obtain ⟨dp, hdpe⟩ : ∃ dp, d p = dp := ⟨_, rfl⟩
  obtain ⟨hh, hhe⟩ : ∃ hh, n.high = hh := ⟨_, rfl⟩
  have hs0 := hw.small.deep0
  have hs1 := hw.small.deep1
  have cdp : w.cell? ⟨rb, 1, none⟩ = some (.int .i64 T.deep) := by
    obtain ⟨_, _, _, _, _, h⟩ := hR.at.slice
    exact h
  have ccp : w.cell? ⟨rb, 0, none⟩ = some (.int .i64 T.cap) := by
    obtain ⟨_, _, _, _, h, _⟩ := hR.at.slice
    exact h
  have HDE := qh (fun (u : World) (x : Ext w u) => RSame.val (by have := rDepth (hR.ext x).at hw (Tr.get_of hp); rw [hdd, hdpe] at this; exact this))
  have HHI := qh (fun (u : World) (x : Ext w u) => (hhe ▸ rHigh_any n _ u (by omega) hrw x : Calls Tryz.prog 141 #[.agg #[.int .i64 n.tag, av, .string n.text, kv]] u (RVal (.int .i64 (hh : Nat)) u)))
  have HCN := qh (fun (u : World) (x : Ext w u) => rCountX (hR.ext x).at hw)
  have HSZ := qh (fun (u : World) (x : Ext w u) => Size_any n _ u (by omega) hrw x)
  rw [hdpe, hhe] at hdp
  rw [hdpe] at hw41
  rw [hhe] at hhi
  have hc0 := hw.small.count0
  have hc1 := hw.small.count1
  have hc2 := hw.small.cap1
  clear hR hr hap hsh hrw hp hw c0 c2 c3 c4 xu
  have b0 := cellOf hbox (i := 0) (v := .int .i64 n.tag) rfl
  have b1 := cellOf hbox (i := 1) (v := av) rfl
  have b2 := cellOf hbox (i := 2) (v := .string n.text) rfl
  have b3 := cellOf hbox (i := 3) (v := kv) rfl
  have hv0 : v = 0 := by rw [← hv]; exact worst_zero.2 hok
  subst hv0
  clear hbox hv hvi hok hdd hdpe hhe
  go_enter Tryz.func101, Tryz.ntmps101
  go_upto_region 10 with (first | (go_at_call 91; refine HAS.out.mono ?_; rintro e w' ⟨rfl, rfl⟩) | (go_at_call 140; refine HM.out.mono ?_; rintro e wm ⟨rfl, hy⟩; replace b0 := hy.cell b0; replace b1 := hy.cell b1; replace b2 := hy.cell b2; replace b3 := hy.cell b3; have HY := qh (HXU.out.trans hy); clear hy))
  have e0 := fun u : ExtOf wm => u.ext.cell b0
  have e1 := fun u : ExtOf wm => u.ext.cell b1
  have e2 := fun u : ExtOf wm => u.ext.cell b2
  have e3 := fun u : ExtOf wm => u.ext.cell b3
  have e4 := fun u : ExtOf wm => u.ext.cell (HY.out.cell cdp)
  refine wp_region_ext (by kernel_rfl) (by kernel_rfl) ?_
  repeat (go_big_quiet_step (first | (go_at_call 117; exact inExt (HDE.out _ (HY.out.trans (ExtOf.ext _)))) | (go_at_call 141; exact inExt (HHI.out _ (HY.out.trans (ExtOf.ext _))))))
  refine wpQuiet_nil ?_
  rintro _ ⟨u, rfl⟩
  clear e0 e1 e2 e3 e4
  replace b0 := u.ext.cell b0
  replace b1 := u.ext.cell b1
  replace b2 := u.ext.cell b2
  replace b3 := u.ext.cell b3
  have HU := qh (HY.out.trans u.ext)
  go_upto_region 12 with fail
  have f0 := fun v : ExtOf u.val => v.ext.cell b0
  have f1 := fun v : ExtOf u.val => v.ext.cell b1
  have f2 := fun v : ExtOf u.val => v.ext.cell b2
  have f3 := fun v : ExtOf u.val => v.ext.cell b3
  have f4 := fun v : ExtOf u.val => v.ext.cell (HU.out.cell ccp)
  refine wp_region_ext (by kernel_rfl) (by kernel_rfl) ?_
  repeat (go_big_quiet_step (first | (go_at_call 86; exact inExt (HCN.out _ (HU.out.trans (ExtOf.ext _)))) | (go_at_call 22; exact inExt (HSZ.out _ (HU.out.trans (ExtOf.ext _))))))
  refine wpQuiet_nil ?_
  rintro _ ⟨u2, rfl⟩
  clear f0 f1 f2 f3 f4
  replace b0 := u2.ext.cell b0
  replace b1 := u2.ext.cell b1
  replace b2 := u2.ext.cell b2
  replace b3 := u2.ext.cell b3
  have HV := qh (HU.out.trans u2.ext)
  go_wp2_with fail
  go_ret2
  exact ⟨rfl, H.out.ext HV.out⟩
theorem rGraft_ok {g0 : World} (hR : RefOn w F rb T) {d : Nat → Nat} (hw : WF T d) {p at' : Nat} {pd : Nd} (hp : T.nodes[p]? = some (some pd)) (ht : (pd.tag == 0) = false) (hat : at' ≤ pd.kids.length)
    {n : PN} {nv : Value} (hr : RdN g0 n nv) (hap : RApart g0 F w) (hsh : n.short = true) (hsz : n.size ≤ 90000) (hok : n.ok = true) (hdp : (d p : Int) + 1 + n.high ≤ T.deep) (hf : (n.size : Int) ≤ T.cap - T.count) :
    Calls Tryz.prog 101 #[.pointer (some ⟨rb, 0, none⟩), .int .i64 p, .int .i64 at', nv] w (RTwoAft F w rb T.newId 0 (T.grafted p at' pd n)) := by
  obtain ⟨av, kv, rfl, _, _⟩ := hr.open
  have hrw : RdN w n (.agg #[.int .i64 n.tag, av, .string n.text, kv]) := hr.cells hap.cells
  have xu := (Ext.refl w).alloc (.cells #[.int .i64 n.tag, av, .string n.text, kv] 35)
  have hbox := heap_alloc_new w (.cells #[.int .i64 n.tag, av, .string n.text, kv] 35)
  have HR := qh hR
  have H := qh (RAft.refl hR)
  have HAS := qh (rHas_yes (hR.ext xu).at (Tr.get_of hp))
  have hl := (List.getElem?_eq_some_iff.1 hp).1
  obtain ⟨g, cap, aa, ac, ka, kc, c, c0, c1, c2, c3, c4, c5, _, _⟩ := (hR.ext xu).at.one hp
  replace c1 : (w.alloc (.cells #[.int .i64 n.tag, av, .string n.text, kv] 35)).cell? ⟨g, p * 6 + 1, none⟩ = some (.int .i64 pd.tag) := c1
  replace c5 : (w.alloc (.cells #[.int .i64 n.tag, av, .string n.text, kv] 35)).cell? ⟨g, p * 6 + 5, none⟩ = some (.slice ka pd.kids.length kc) := c5
  have HM := qh (rMay_any n _ _ hsh (by omega) hrw xu)
  have HP := qh hp
  have HW := qh hw
  have HRD := qh hrw
  have HXU := qh xu
  obtain ⟨v, hv, hvi⟩ : ∃ v, n.worst = v ∧ (v = 0 ∨ v = 1 ∨ v = 10) := ⟨_, rfl, worst_in n⟩
  rw [hv] at HM
  have hc0 := hw.small.count0
  have hc1 := hw.small.count1
  have hc2 := hw.small.cap1
  obtain ⟨dz, m, hm1, hm0, hm2, hPut⟩ := into_ok n hok T d hw (by omega) (by omega)
  obtain ⟨kd, hk1, hk2⟩ := hPut.node
  have hpm : p ≠ m := fun e => hm2 pd (e ▸ hp)
  obtain ⟨hap1, hap2⟩ := hPut.apart hw hm2 p pd hp
  have hgr : T.grafted p at' pd n = (PN.into T n).link p at' m pd kd := by
    unfold Tr.grafted; rw [hm1, Int.toNat_natCast, look_of hk1]
  have hpo := hPut.old p pd hpm hp
  have hput := fun (u : World) (x : Ext w u) => rput n hok hsh (.agg #[.int .i64 n.tag, av, .string n.text, kv]) T d F u hr (hap.ext x) (hR.ext x) hw (by omega) (by omega)
  have hdd2 : ((PN.into T n).pathOf (p : Int)).length = dz p := by
    have h := hPut.wf.path_rank p ⟨pd, Tr.get_of hpo⟩
    unfold Tr.rank at h
    rw [Tr.get_of hpo] at h
    simp at h
    exact h
  have hwin : (PN.into T n).win p m = false := by rw [hPut.wf.win_within p ⟨pd, Tr.get_of hpo⟩]; exact hap1
  have hdep : (((PN.into T n).pathOf (p : Int)).length : Int) + 1 + (PN.into T n).height m ≤ (PN.into T n).deep := by rw [hdd2, hap2, hPut.deep, hPut.high]; omega
  have HINS := qh (fun (F' : Nat → Prop) (u : World) (h : RefOn u F' rb (PN.into T n)) => rInsert_ok h hPut.wf hpo hk1 ht hm0 (by omega) hat hpm hwin hdep)
  have HPUT := qh hput
  have HGR := qh hgr
  have HM1 := qh hm1
  clear hput hgr hm1 hwin hdep hdd2 hpo hap1 hap2 hk1 hk2 hm2 hPut
  have hw41 : d p ≤ 40 := by have := hw.deep p pd hp; have := hw.small.deep1; omega
  have hdd : (T.pathOf (p : Int)).length = d p := by
    have h := hw.path_rank p ⟨pd, Tr.get_of hp⟩
    unfold Tr.rank at h
    rw [Tr.get_of hp] at h
    simp at h
    exact h
  have hhi : n.high < n.size := high_lt n
  obtain ⟨dp, hdpe⟩ : ∃ dp, d p = dp := ⟨_, rfl⟩
  obtain ⟨hh, hhe⟩ : ∃ hh, n.high = hh := ⟨_, rfl⟩
  have hs0 := hw.small.deep0
  have hs1 := hw.small.deep1
  have cdp : w.cell? ⟨rb, 1, none⟩ = some (.int .i64 T.deep) := by
    obtain ⟨_, _, _, _, _, h⟩ := hR.at.slice
    exact h
  have ccp : w.cell? ⟨rb, 0, none⟩ = some (.int .i64 T.cap) := by
    obtain ⟨_, _, _, _, h, _⟩ := hR.at.slice
    exact h
  have HDE := qh (fun (u : World) (x : Ext w u) => RSame.val (by have := rDepth (hR.ext x).at hw (Tr.get_of hp); rw [hdd, hdpe] at this; exact this))
  have HHI := qh (fun (u : World) (x : Ext w u) => (hhe ▸ rHigh_any n _ u (by omega) hrw x : Calls Tryz.prog 141 #[.agg #[.int .i64 n.tag, av, .string n.text, kv]] u (RVal (.int .i64 (hh : Nat)) u)))
  have HCN := qh (fun (u : World) (x : Ext w u) => rCountX (hR.ext x).at hw)
  have HSZ := qh (fun (u : World) (x : Ext w u) => Size_any n _ u (by omega) hrw x)
  rw [hdpe, hhe] at hdp
  rw [hdpe] at hw41
  rw [hhe] at hhi
  clear hR hr hap hsh hrw hp hw c0 c2 c3 c4 xu
  have b0 := cellOf hbox (i := 0) (v := .int .i64 n.tag) rfl
  have b1 := cellOf hbox (i := 1) (v := av) rfl
  have b2 := cellOf hbox (i := 2) (v := .string n.text) rfl
  have b3 := cellOf hbox (i := 3) (v := kv) rfl
  have hv0 : v = 0 := by rw [← hv]; exact worst_zero.2 hok
  subst hv0
  clear hbox hv hvi hok hdd hdpe hhe
  go_enter Tryz.func101, Tryz.ntmps101
  go_upto_region 10 with (first | (go_at_call 91; refine HAS.out.mono ?_; rintro e w' ⟨rfl, rfl⟩) | (go_at_call 140; refine HM.out.mono ?_; rintro e wm ⟨rfl, hy⟩; replace b0 := hy.cell b0; replace b1 := hy.cell b1; replace b2 := hy.cell b2; replace b3 := hy.cell b3; have HY := qh (HXU.out.trans hy); clear hy))
  have e0 := fun u : ExtOf wm => u.ext.cell b0
  have e1 := fun u : ExtOf wm => u.ext.cell b1
  have e2 := fun u : ExtOf wm => u.ext.cell b2
  have e3 := fun u : ExtOf wm => u.ext.cell b3
  have e4 := fun u : ExtOf wm => u.ext.cell (HY.out.cell cdp)
  refine wp_region_ext (by kernel_rfl) (by kernel_rfl) ?_
  repeat (go_big_quiet_step (first | (go_at_call 117; exact inExt (HDE.out _ (HY.out.trans (ExtOf.ext _)))) | (go_at_call 141; exact inExt (HHI.out _ (HY.out.trans (ExtOf.ext _))))))
  refine wpQuiet_nil ?_
  rintro _ ⟨u, rfl⟩
  clear e0 e1 e2 e3 e4
  replace b0 := u.ext.cell b0
  replace b1 := u.ext.cell b1
  replace b2 := u.ext.cell b2
  replace b3 := u.ext.cell b3
  have HU := qh (HY.out.trans u.ext)
  go_upto_region 12 with fail
  have f0 := fun v : ExtOf u.val => v.ext.cell b0
  have f1 := fun v : ExtOf u.val => v.ext.cell b1
  have f2 := fun v : ExtOf u.val => v.ext.cell b2
  have f3 := fun v : ExtOf u.val => v.ext.cell b3
  have f4 := fun v : ExtOf u.val => v.ext.cell (HU.out.cell ccp)
  refine wp_region_ext (by kernel_rfl) (by kernel_rfl) ?_
  repeat (go_big_quiet_step (first | (go_at_call 86; exact inExt (HCN.out _ (HU.out.trans (ExtOf.ext _)))) | (go_at_call 22; exact inExt (HSZ.out _ (HU.out.trans (ExtOf.ext _))))))
  refine wpQuiet_nil ?_
  rintro _ ⟨u2, rfl⟩
  clear f0 f1 f2 f3 f4
  replace b0 := u2.ext.cell b0
  replace b1 := u2.ext.cell b1
  replace b2 := u2.ext.cell b2
  replace b3 := u2.ext.cell b3
  have HV := qh (HU.out.trans u2.ext)
  go_wp2_with (first | (go_at_call 142; refine (HPUT.out _ HV.out).mono ?_; rintro e w5 ⟨rfl, hS5⟩; rw [HM1.out]; have HS5 := qh hS5; clear hS5) | (go_at_call 88; refine (HINS.out _ _ HS5.out.on).mono ?_; rintro e w6 ⟨rfl, hS6⟩; have HS6 := qh hS6; clear hS6))
  go_ret2
  rw [HGR.out, HM1.out]
  exact ⟨rfl, RAft.after HV.out (HS5.out.trans HS6.out)⟩
end
section
variable {P : Program} {ops : Array Oper} {Q : Exit → Act → World → Prop} {md : Region.Mode} {S : World → Prop} {n : Nat}
theorem wpE_two {i j : Nat} {oi oj : Oper} {f : Nat} {l : Array Bool} {a : Act} {w : World} (hr : Region.ready md ops l = [i, j]) (hi : ops[i]? = some oi) (hj : ops[j]? = some oj)
    (h1 : ∀ K : Act → World → Prop, Shut (∀ a w, (i = n ∨ S w) → wpE P md ops Q S n f (l.setIfInBounds i true) a w → K a w) → if Region.wanted oi (yielded ops a.tmps) = true then Oper.wp P oi a w K Q else K (a.put oi.dst undef) w)
    (h2 : ∀ K : Act → World → Prop, Shut (∀ a w, (j = n ∨ S w) → wpE P md ops Q S n f (l.setIfInBounds j true) a w → K a w) → if Region.wanted oj (yielded ops a.tmps) = true then Oper.wp P oj a w K Q else K (a.put oj.dst undef) w) : wpE P md ops Q S n (f + 1) l a w := by
  refine ⟨fun h => (by rw [hr] at h; cases h), fun m hm => ?_⟩
  rw [hr] at hm
  have hm' : m = i ∨ m = j := by simpa using hm
  rcases hm' with rfl | rfl
  · exact wpOp_step hi fun K hK => h1 K fun a w h1 h2 => hK a w ⟨h1, h2⟩
  · exact wpOp_step hj fun K hK => h2 K fun a w h1 h2 => hK a w ⟨h1, h2⟩
end
theorem addBlock (a : Addr) (i : Nat) : (a.add i).block = a.block := by unfold Addr.add; split <;> rfl
theorem rPlain_fuel {w : World} {rb : Nat} {T : Tr} (hR : RAt w rb T) {d : Nat → Nat} (hw : WF T d) (hA : AttrsOk T) :
    ∀ (f i : Nat) (nd : Nd) (u : World), T.nodes[i]? = some (some nd) → 41 ≤ d i + f → Ext w u → Calls Tryz.prog 122 #[.pointer (some ⟨rb, 0, none⟩), .int .i64 i] u (PlainIs (T.pln f i) u) := by
  intro f
  induction f with
  | zero => intro i nd u h h1; have := hw.deep i nd h; have := hw.small.deep1; omega
  | succ f ih =>
    intro i nd u h h1 hx
    rw [pln_step T f h]
    have xu := (Ext.refl u).alloc (.cells #[.int .i64 0, .slice none 0 0, .string ⟨#[]⟩, .slice none 0 0] 35)
    have bu := heap_alloc_new u (.cells #[.int .i64 0, .slice none 0 0, .string ⟨#[]⟩, .slice none 0 0] 35)
    have HR := qh hR
    have HW := qh hw
    have HH := qh h
    have IH := qh ih
    have HLA := qh (hA i nd h).1
    have hkl := hw.kids_len h
    have hil := (List.getElem?_eq_some_iff.1 h).1
    clear hR hw hA ih
    go_enter Tryz.func122, Tryz.ntmps122
    go_upto_region 1 with fail
    obtain ⟨w1, hw1⟩ : ∃ w1 : World, w1 = u.alloc (.cells #[.int .i64 0, .slice none 0 0, .string ⟨#[]⟩, .slice none 0 0] 35) := ⟨_, rfl⟩
    try rw [← hw1] at xu bu
    rw [← hw1]
    clear hw1
    have hx1 := hx.trans xu
    have HAS := qh (rHas_yes (HR.out.ext hx1) (Tr.get_of h))
    obtain ⟨g, cap, aa, ac, ka, kc, c, c0, c1, c2, c3, c4, c5, hav, hkv⟩ := (HR.out.ext hx1).one h
    replace c0 : w1.cell? ⟨g, i * 6, none⟩ = some (.int .i64 1) := c0
    replace c1 : w1.cell? ⟨g, i * 6 + 1, none⟩ = some (.int .i64 nd.tag) := c1
    replace c2 : w1.cell? ⟨g, i * 6 + 2, none⟩ = some (.int .i64 nd.parent) := c2
    replace c3 : w1.cell? ⟨g, i * 6 + 3, none⟩ = some (.slice aa nd.attrs.length ac) := c3
    replace c4 : w1.cell? ⟨g, i * 6 + 4, none⟩ = some (.string nd.text) := c4
    replace c5 : w1.cell? ⟨g, i * 6 + 5, none⟩ = some (.slice ka nd.kids.length kc) := c5
    replace hav : RowRd w1 2 (.slice aa nd.attrs.length ac) nd.attrs.length (attrCells nd.attrs) := hav
    replace hkv : RowRd w1 1 (.slice ka nd.kids.length kc) nd.kids.length (nd.kids.map (Value.int .i64)) := hkv
    have xr := (Ext.refl w1).alloc (.cells #[.int .i64 1, .int .i64 nd.tag, .int .i64 nd.parent, .slice aa nd.attrs.length ac, .string nd.text, .slice ka nd.kids.length kc] 121)
    have br := heap_alloc_new w1 (.cells #[.int .i64 1, .int .i64 nd.tag, .int .i64 nd.parent, .slice aa nd.attrs.length ac, .string nd.text, .slice ka nd.kids.length kc] 121)
    have hlw1 := (Array.getElem?_eq_some_iff.1 bu).1
    have HX1 := qh hx1
    clear h
    go_upto_region 4 with (go_at_call 91; refine HAS.out.mono ?_; rintro e w' ⟨rfl, rfl⟩)
    obtain ⟨R, hR⟩ : ∃ R, R = w1.heap.size := ⟨_, rfl⟩
    rw [← hR] at br hlw1 ⊢
    obtain ⟨w2, hw2⟩ : ∃ w2 : World, w2 = w1.alloc (.cells #[.int .i64 1, .int .i64 nd.tag, .int .i64 nd.parent, .slice aa nd.attrs.length ac, .string nd.text, .slice ka nd.kids.length kc] 121) := ⟨_, rfl⟩
    rw [← hw2] at xr br
    rw [← hw2]
    have hu2 : u.heap.size < w2.heap.size := by rw [hw2]; simp; omega
    have hR2 : R < w2.heap.size := (Array.getElem?_eq_some_iff.1 br).1
    clear hw2 hR c c0 c1 c2 c3 c4 c5
    have r1 := cellOf br (i := 1) (v := .int .i64 nd.tag) rfl
    have r3 := cellOf br (i := 3) (v := .slice aa nd.attrs.length ac) rfl
    have r4 := cellOf br (i := 4) (v := .string nd.text) rfl
    have r5 := cellOf br (i := 5) (v := .slice ka nd.kids.length kc) rfl
    have HAV := qh (hav.ext xr)
    have HKV := qh (hkv.ext xr)
    have HXU := qh (xu.trans xr)
    have HBU := qh (xr.block bu)
    have HX2 := qh (HX1.out.trans xr)
    have R5 := qh r5
    clear hav hkv xu bu xr br r5
    go_cut [6] (fun s wx => ∃ b, s = .pointer (some ⟨b, 0, none⟩) ∧ w2.heap.size ≤ b ∧ PlainBox w2 wx b nd.tag nd.attrs nd.text ∧ Ext w2 wx)
    case first =>
      refine wp_region_E (S := fun w' => w'.cell? ⟨R, 1, none⟩ = some (.int .i64 nd.tag) ∧ w'.cell? ⟨R, 3, none⟩ = some (.slice aa nd.attrs.length ac) ∧ w'.cell? ⟨R, 4, none⟩ = some (.string nd.text)) (n := 10) (by kernel_rfl) ?_
      have hS : w2.drew.cell? ⟨R, 1, none⟩ = some (.int .i64 nd.tag) ∧ w2.drew.cell? ⟨R, 3, none⟩ = some (.slice aa nd.attrs.length ac) ∧ w2.drew.cell? ⟨R, 4, none⟩ = some (.string nd.text) := ⟨(Ext.refl w2).drew.cell r1, (Ext.refl w2).drew.cell r3, (Ext.refl w2).drew.cell r4⟩
      show wpE _ _ _ _ _ 10 11 (Array.replicate 11 false) _ _
      refine wpE_tk 0 20 (.pointer (some ⟨R, 1, none⟩)) rfl (.inl ⟨by rfl, fun w' hSw => ?_⟩) hS ?_
      · (obtain ⟨s1, s2, s3⟩ := hSw; clear hS; go_simp)
      try simp only [Act.put, zA, zB, zC]
      refine wpE_tk 1 21 (.int .i64 nd.tag) rfl (.inl ⟨by rfl, fun w' hSw => ?_⟩) hS ?_
      · (obtain ⟨s1, s2, s3⟩ := hSw; clear hS; go_simp)
      try simp only [Act.put, zA, zB, zC]
      refine wpE_tk 3 23 (.pointer (some ⟨R, 3, none⟩)) rfl (.inl ⟨by rfl, fun w' hSw => ?_⟩) hS ?_
      · (obtain ⟨s1, s2, s3⟩ := hSw; clear hS; go_simp)
      try simp only [Act.put, zA, zB, zC]
      refine wpE_tk 4 24 (.slice aa nd.attrs.length ac) rfl (.inl ⟨by rfl, fun w' hSw => ?_⟩) hS ?_
      · (obtain ⟨s1, s2, s3⟩ := hSw; clear hS; go_simp)
      try simp only [Act.put, zA, zB, zC]
      refine wpE_tk 6 26 (.pointer (some ⟨R, 4, none⟩)) rfl (.inl ⟨by rfl, fun w' hSw => ?_⟩) hS ?_
      · (obtain ⟨s1, s2, s3⟩ := hSw; clear hS; go_simp)
      try simp only [Act.put, zA, zB, zC]
      refine wpE_tk 7 27 (.string nd.text) rfl (.inl ⟨by rfl, fun w' hSw => ?_⟩) hS ?_
      · (obtain ⟨s1, s2, s3⟩ := hSw; clear hS; go_simp)
      try simp only [Act.put, zA, zB, zC]
      refine wpE_two (i := 2) (j := 9) (oi := { dst := some 22, op := _, type := _, pos := _, after := _, guard := none }) (oj := { dst := some 6, op := _, type := _, pos := _, after := _, guard := none }) (by kernel_rfl) rfl rfl (fun K hK => ?_) (fun K hK => ?_)
      · go_simp
        refine hK.out _ _ (.inr ⟨((((Ext.refl w2).drew).alloc (.cells #[] 110))).cell r1, ((((Ext.refl w2).drew).alloc (.cells #[] 110))).cell r3, ((((Ext.refl w2).drew).alloc (.cells #[] 110))).cell r4⟩) ?_
        clear hK K
        try simp only [Act.put, zA, zB, zC]
        refine wpE_two (i := 5) (j := 9) (oi := { dst := some 25, op := _, type := _, pos := _, after := _, guard := none }) (oj := { dst := some 6, op := _, type := _, pos := _, after := _, guard := none }) (by kernel_rfl) rfl rfl (fun K hK => ?_) (fun K hK => ?_)
        · obtain ⟨v1, wA, hrun, hra, hxa⟩ := append_empty (w := w2.drew.alloc (.cells #[] 110)) (b := w2.heap.size) (HAV.out.ext (((Ext.refl w2).drew).alloc (.cells #[] 110))) HLA.out (attrCells_one _)
          obtain ⟨a1, c1, rfl, _⟩ := hra.rd.len_of
          have hxw := Ext.trans (((Ext.refl w2).drew).alloc (.cells #[] 110)) hxa
          have HRUN := qh hrun
          refine step_append_run (by rfl) _ _ 32 (by rfl) (.slice (some ⟨w2.heap.size, 0, none⟩) 0 0) (.slice aa nd.attrs.length ac) (by rfl) (by rfl) (.slice a1 nd.attrs.length c1) wA HRUN.out ?_
          refine hK.out _ _ (.inr ⟨hxw.cell r1, hxw.cell r3, hxw.cell r4⟩) ?_
          clear hK K
          try simp only [Act.put, zA, zB, zC]
          refine wpE_tk 8 28 (.agg #[.int .i64 nd.tag, .slice a1 nd.attrs.length c1, .string nd.text, .slice none 0 0]) rfl (.inl ⟨by rfl, fun w' hSw => ?_⟩) (show (wA.cell? ⟨R, 1, none⟩ = some (.int .i64 nd.tag) ∧ _ ∧ _) from ⟨hxw.cell r1, hxw.cell r3, hxw.cell r4⟩) ?_
          · (clear hSw; go_simp)
          try simp only [Act.put, zA, zB, zC]
          refine wpE_on 9 (some 6) rfl (fun K hK => ?_)
          go_simp
          refine hK.out _ _ (.inr ⟨(hxw.alloc _).cell r1, (hxw.alloc _).cell r3, (hxw.alloc _).cell r4⟩) ?_
          clear hK K
          try simp only [Act.put, zA, zB, zC]
          refine wpE_on 10 (none) rfl (fun K hK => ?_)
          go_simp
          refine hK.out _ _ (.inl rfl) ?_
          clear hK K
          refine wpE_done (by kernel_rfl) ?_
          go_wp2_with fail
          go_meet
          exact ⟨_, rfl, hxw.size, plainBox_new (B := w2.heap.size) (Nat.le_refl _) hxw (RowP.imp hra fun g _ hg => by have h : (w2.drew.alloc (.cells #[] 110)).heap.size ≤ g := hg; simp at h; show w2.heap.size ≤ g; omega), hxw.alloc _⟩
        · go_simp
          refine hK.out _ _ (.inr ⟨(((((Ext.refl w2).drew).alloc (.cells #[] 110)).alloc (.cells #[.int .i64 0, .slice none 0 0, .string ⟨#[]⟩, .slice none 0 0] 35))).cell r1, (((((Ext.refl w2).drew).alloc (.cells #[] 110)).alloc (.cells #[.int .i64 0, .slice none 0 0, .string ⟨#[]⟩, .slice none 0 0] 35))).cell r3, (((((Ext.refl w2).drew).alloc (.cells #[] 110)).alloc (.cells #[.int .i64 0, .slice none 0 0, .string ⟨#[]⟩, .slice none 0 0] 35))).cell r4⟩) ?_
          clear hK K
          try simp only [Act.put, zA, zB, zC]
          refine wpE_on 5 (some 25) rfl (fun K hK => ?_)
          obtain ⟨v1, wA, hrun, hra, hxa⟩ := append_empty (w := (w2.drew.alloc (.cells #[] 110)).alloc (.cells #[.int .i64 0, .slice none 0 0, .string ⟨#[]⟩, .slice none 0 0] 35)) (b := w2.heap.size) (HAV.out.ext ((((Ext.refl w2).drew).alloc (.cells #[] 110)).alloc (.cells #[.int .i64 0, .slice none 0 0, .string ⟨#[]⟩, .slice none 0 0] 35))) HLA.out (attrCells_one _)
          obtain ⟨a1, c1, rfl, _⟩ := hra.rd.len_of
          have hxw := Ext.trans ((((Ext.refl w2).drew).alloc (.cells #[] 110)).alloc (.cells #[.int .i64 0, .slice none 0 0, .string ⟨#[]⟩, .slice none 0 0] 35)) hxa
          have HRUN := qh hrun
          refine step_append_run (by rfl) _ _ 32 (by rfl) (.slice (some ⟨w2.heap.size, 0, none⟩) 0 0) (.slice aa nd.attrs.length ac) (by rfl) (by rfl) (.slice a1 nd.attrs.length c1) wA HRUN.out ?_
          refine hK.out _ _ (.inr ⟨hxw.cell r1, hxw.cell r3, hxw.cell r4⟩) ?_
          clear hK K
          try simp only [Act.put, zA, zB, zC]
          refine wpE_tk 8 28 (.agg #[.int .i64 nd.tag, .slice a1 nd.attrs.length c1, .string nd.text, .slice none 0 0]) rfl (.inl ⟨by rfl, fun w' hSw => ?_⟩) (show (wA.cell? ⟨R, 1, none⟩ = some (.int .i64 nd.tag) ∧ _ ∧ _) from ⟨hxw.cell r1, hxw.cell r3, hxw.cell r4⟩) ?_
          · (clear hSw; go_simp)
          try simp only [Act.put, zA, zB, zC]
          have bx : wA.heap[w2.heap.size + 1]? = some (.cells #[.int .i64 0, .slice none 0 0, .string ⟨#[]⟩, .slice none 0 0] 35 (0, 0)) := hxa.block (by have := heap_alloc_new (w2.drew.alloc (.cells #[] 110)) (.cells #[.int .i64 0, .slice none 0 0, .string ⟨#[]⟩, .slice none 0 0] 35); simpa using this)
          have q0 := cellOf bx (i := 0) (v := .int .i64 0) rfl
          have q1 := cellOf bx (i := 1) (v := .slice none 0 0) rfl
          have q2 := cellOf bx (i := 2) (v := .string ⟨#[]⟩) rfl
          have q3 := cellOf bx (i := 3) (v := .slice none 0 0) rfl
          have fq0 := freeOf bx 0
          have fq1 := freeOf bx 1
          have fq2 := freeOf bx 2
          have fq3 := freeOf bx 3
          refine wpE_on 10 (none) rfl (fun K hK => ?_)
          go_simp
          refine hK.out _ _ (.inl rfl) ?_
          clear hK K
          refine wpE_done (by kernel_rfl) ?_
          go_wp2_with fail
          go_meet
          exact ⟨_, rfl, by omega, plainBox_old (w1 := w2) (w5 := wA) (B := w2.heap.size + 2) (by omega) (by omega) (RowP.imp hra fun g _ hg => by have h : ((w2.drew.alloc (.cells #[] 110)).alloc (.cells #[.int .i64 0, .slice none 0 0, .string ⟨#[]⟩, .slice none 0 0] 35)).heap.size ≤ g := hg; simp at h; show w2.heap.size + 2 ≤ g; omega) rfl bx, (((hxw.setCell (by show w2.heap.size ≤ w2.heap.size + 1; omega) _).setCell (by show w2.heap.size ≤ w2.heap.size + 1; omega) _).setCell (by show w2.heap.size ≤ w2.heap.size + 1; omega) _).setCell (by show w2.heap.size ≤ w2.heap.size + 1; omega) _⟩
      · go_simp
        refine hK.out _ _ (.inr ⟨(((Ext.refl w2).drew).alloc (.cells #[.int .i64 0, .slice none 0 0, .string ⟨#[]⟩, .slice none 0 0] 35)).cell r1, (((Ext.refl w2).drew).alloc (.cells #[.int .i64 0, .slice none 0 0, .string ⟨#[]⟩, .slice none 0 0] 35)).cell r3, (((Ext.refl w2).drew).alloc (.cells #[.int .i64 0, .slice none 0 0, .string ⟨#[]⟩, .slice none 0 0] 35)).cell r4⟩) ?_
        clear hK K
        try simp only [Act.put, zA, zB, zC]
        refine wpE_on 2 (some 22) rfl (fun K hK => ?_)
        go_simp
        refine hK.out _ _ (.inr ⟨(((((Ext.refl w2).drew).alloc (.cells #[.int .i64 0, .slice none 0 0, .string ⟨#[]⟩, .slice none 0 0] 35)).alloc (.cells #[] 110))).cell r1, (((((Ext.refl w2).drew).alloc (.cells #[.int .i64 0, .slice none 0 0, .string ⟨#[]⟩, .slice none 0 0] 35)).alloc (.cells #[] 110))).cell r3, (((((Ext.refl w2).drew).alloc (.cells #[.int .i64 0, .slice none 0 0, .string ⟨#[]⟩, .slice none 0 0] 35)).alloc (.cells #[] 110))).cell r4⟩) ?_
        clear hK K
        try simp only [Act.put, zA, zB, zC]
        refine wpE_on 5 (some 25) rfl (fun K hK => ?_)
        obtain ⟨v1, wA, hrun, hra, hxa⟩ := append_empty (w := (w2.drew.alloc (.cells #[.int .i64 0, .slice none 0 0, .string ⟨#[]⟩, .slice none 0 0] 35)).alloc (.cells #[] 110)) (b := w2.heap.size + 1) (HAV.out.ext ((((Ext.refl w2).drew).alloc (.cells #[.int .i64 0, .slice none 0 0, .string ⟨#[]⟩, .slice none 0 0] 35)).alloc (.cells #[] 110))) HLA.out (attrCells_one _)
        obtain ⟨a1, c1, rfl, _⟩ := hra.rd.len_of
        have hxw := Ext.trans ((((Ext.refl w2).drew).alloc (.cells #[.int .i64 0, .slice none 0 0, .string ⟨#[]⟩, .slice none 0 0] 35)).alloc (.cells #[] 110)) hxa
        have HRUN := qh hrun
        refine step_append_run (by rfl) _ _ 32 (by rfl) (.slice (some ⟨w2.heap.size + 1, 0, none⟩) 0 0) (.slice aa nd.attrs.length ac) (by rfl) (by rfl) (.slice a1 nd.attrs.length c1) wA HRUN.out ?_
        refine hK.out _ _ (.inr ⟨hxw.cell r1, hxw.cell r3, hxw.cell r4⟩) ?_
        clear hK K
        try simp only [Act.put, zA, zB, zC]
        refine wpE_tk 8 28 (.agg #[.int .i64 nd.tag, .slice a1 nd.attrs.length c1, .string nd.text, .slice none 0 0]) rfl (.inl ⟨by rfl, fun w' hSw => ?_⟩) (show (wA.cell? ⟨R, 1, none⟩ = some (.int .i64 nd.tag) ∧ _ ∧ _) from ⟨hxw.cell r1, hxw.cell r3, hxw.cell r4⟩) ?_
        · (clear hSw; go_simp)
        try simp only [Act.put, zA, zB, zC]
        have bx : wA.heap[w2.heap.size]? = some (.cells #[.int .i64 0, .slice none 0 0, .string ⟨#[]⟩, .slice none 0 0] 35 (0, 0)) := hxa.block (Ext.block ((Ext.refl _).alloc _) (heap_alloc_new w2.drew (.cells #[.int .i64 0, .slice none 0 0, .string ⟨#[]⟩, .slice none 0 0] 35)))
        have q0 := cellOf bx (i := 0) (v := .int .i64 0) rfl
        have q1 := cellOf bx (i := 1) (v := .slice none 0 0) rfl
        have q2 := cellOf bx (i := 2) (v := .string ⟨#[]⟩) rfl
        have q3 := cellOf bx (i := 3) (v := .slice none 0 0) rfl
        have fq0 := freeOf bx 0
        have fq1 := freeOf bx 1
        have fq2 := freeOf bx 2
        have fq3 := freeOf bx 3
        refine wpE_on 10 (none) rfl (fun K hK => ?_)
        go_simp
        refine hK.out _ _ (.inl rfl) ?_
        clear hK K
        refine wpE_done (by kernel_rfl) ?_
        go_wp2_with fail
        go_meet
        exact ⟨_, rfl, by omega, plainBox_old (w1 := w2) (w5 := wA) (B := w2.heap.size + 2) (by omega) (by omega) (RowP.imp hra fun g _ hg => by have h : ((w2.drew.alloc (.cells #[.int .i64 0, .slice none 0 0, .string ⟨#[]⟩, .slice none 0 0] 35)).alloc (.cells #[] 110)).heap.size ≤ g := hg; simp at h; show w2.heap.size + 2 ≤ g; omega) rfl bx, (((hxw.setCell (by show w2.heap.size ≤ w2.heap.size; omega) _).setCell (by show w2.heap.size ≤ w2.heap.size; omega) _).setCell (by show w2.heap.size ≤ w2.heap.size; omega) _).setCell (by show w2.heap.size ≤ w2.heap.size; omega) _⟩
    case rest =>
      obtain ⟨b, rfl, hb1, ⟨a8, cap8, hbox, hra⟩, hx8⟩ := hcut
      have n5 := hx8.cell R5.out
      obtain ⟨ab, bcap, hat⟩ := PlainBox.at (T.pln f) ⟨a8, cap8, hbox, hra⟩ hx8
      have HAT := qh hat
      have HX8 := qh hx8
      clear hbox hx8 hra r1 r3 r4 hat
      go_wp2_with fail
      go_loopw [7] (fun j wr => ∃ k : Nat, k ≤ nd.kids.length ∧ j = .int .i64 k ∧ PlainAt w2 wr b nd (T.pln f) ab bcap k) (fun j _ => nd.kids.length - (intOf j).toNat)
      case atStart => exact ⟨0, Nat.zero_le _, rfl, HAT.out⟩
      case round =>
        obtain ⟨k, hk, rfl, hxr, kv, xs, g, hb, hr, hkb, hga, hkx, hgc⟩ := hrel
        clear HAT HX8 n5
        have n5 := hxr.cell R5.out
        by_cases hlt : k < nd.kids.length
        · obtain ⟨x, hxi⟩ : ∃ x, nd.kids[k]? = some x := ⟨nd.kids[k], by simp [hlt]⟩
          obtain ⟨j, kd, rfl, hj, hjp, hjd⟩ := HW.out.kid HH.out hxi
          cases ka with
          | none =>
            obtain ⟨_, _, _, e, _, hn, _⟩ := HKV.out
            cases e
            have := (hn rfl).1
            omega
          | some ad =>
            obtain ⟨kb, ko, ks⟩ := ad
            have hc0 : wr.cell? (Addr.add ⟨kb, ko, ks⟩ k) = some (.int .i64 j) := by
              obtain ⟨_, _, _, e, _, _, hcc⟩ := HKV.out
              cases e
              exact hxr.cells _ _ (hcc _ rfl k (.int .i64 j) (by rw [List.getElem?_map, hxi]; rfl))
            obtain ⟨ak, ck, rfl, hck⟩ := hr.rd.len_of
            have cb := cellOf hb (i := 3) (v := .slice ak k ck) rfl
            have fb := freeOf hb 3
            have REC := qh (fun (z : World) (hz : Ext wr z) => IH.out j kd z hj (by omega) (HX2.out.trans (hxr.trans hz)))
            have HXR := qh hxr
            have HB := qh hb
            have HR2 := qh hr
            have HKB := qh hkb
            have HGA := qh hga
            have HKX := qh hkx
            have HGC := qh hgc
            have HXX := qh hxi
            have HKL := qh (show kb < w2.heap.size from by
              obtain ⟨_, _, _, e, _, _, hcc⟩ := HKV.out
              cases e
              have := World.block_lt_of_cell? _ _ (hcc _ rfl k (.int .i64 j) (by rw [List.getElem?_map, hxi]; rfl))
              rwa [addBlock] at this)
            clear hxr hb hr hkb hga hkx hgc hj hjp hjd hxi
            go_upto_region 8 with fail
            have hxd : Ext wr wr.drew := (Ext.refl wr).drew
            have cbd := hxd.cell cb
            have n5d := hxd.cell n5
            have hcd := hxd.cells _ _ hc0
            refine wp_region_E (S := fun w' => w'.cell? ⟨b, 3, none⟩ = some (.slice ak k ck) ∧ w'.cell? ⟨R, 5, none⟩ = some (.slice (some ⟨kb, ko, ks⟩) nd.kids.length kc) ∧ w'.cell? (Addr.add ⟨kb, ko, ks⟩ k) = some (.int .i64 j)) (n := 12) (by kernel_rfl) ?_
            have hS : wr.drew.cell? ⟨b, 3, none⟩ = some (.slice ak k ck) ∧ wr.drew.cell? ⟨R, 5, none⟩ = some (.slice (some ⟨kb, ko, ks⟩) nd.kids.length kc) ∧ wr.drew.cell? (Addr.add ⟨kb, ko, ks⟩ k) = some (.int .i64 j) := ⟨cbd, n5d, hcd⟩
            show wpE _ _ _ _ _ 12 13 (Array.replicate 13 false) _ _
            refine wpE_tk 0 36 (.pointer (some ⟨b, 3, none⟩)) rfl (.inl ⟨by rfl, fun w' hSw => ?_⟩) hS ?_
            · (obtain ⟨s1, s2, s3⟩ := hSw; clear hS; go_simp)
            try simp only [Act.put, zA, zB, zC]
            refine wpE_tk 1 37 (.slice ak k ck) rfl (.inl ⟨by rfl, fun w' hSw => ?_⟩) hS ?_
            · (obtain ⟨s1, s2, s3⟩ := hSw; clear hS; go_simp)
            try simp only [Act.put, zA, zB, zC]
            refine wpE_tk 2 38 (.pointer (some ⟨rb, 0, none⟩)) rfl (.inl ⟨by rfl, fun w' hSw => ?_⟩) hS ?_
            · (obtain ⟨s1, s2, s3⟩ := hSw; clear hS; go_simp)
            try simp only [Act.put, zA, zB, zC]
            refine wpE_tk 3 39 (.pointer (some ⟨R, 5, none⟩)) rfl (.inl ⟨by rfl, fun w' hSw => ?_⟩) hS ?_
            · (obtain ⟨s1, s2, s3⟩ := hSw; clear hS; go_simp)
            try simp only [Act.put, zA, zB, zC]
            refine wpE_tk 4 40 (.slice (some ⟨kb, ko, ks⟩) nd.kids.length kc) rfl (.inl ⟨by rfl, fun w' hSw => ?_⟩) hS ?_
            · (obtain ⟨s1, s2, s3⟩ := hSw; clear hS; go_simp)
            try simp only [Act.put, zA, zB, zC]
            refine wpE_tk 5 41 (.int .i64 k) rfl (.inl ⟨by rfl, fun w' hSw => ?_⟩) hS ?_
            · (obtain ⟨s1, s2, s3⟩ := hSw; clear hS; go_simp)
            try simp only [Act.put, zA, zB, zC]
            refine wpE_tk 6 42 (.pointer (some (Addr.add ⟨kb, ko, ks⟩ k))) rfl (.inl ⟨by rfl, fun w' hSw => ?_⟩) hS ?_
            · (obtain ⟨s1, s2, s3⟩ := hSw; clear hS; go_simp)
            try simp only [Act.put, zA, zB, zC]
            refine wpE_tk 7 43 (.int .i64 j) rfl (.inl ⟨by rfl, fun w' hSw => ?_⟩) hS ?_
            · (obtain ⟨s1, s2, s3⟩ := hSw; clear hS; go_simp)
            try simp only [Act.put, zA, zB, zC]
            obtain ⟨wd, hwd⟩ : ∃ wd : World, wd = wr.drew := ⟨_, rfl⟩
            rw [← hwd] at hS hxd cbd n5d hcd ⊢
            clear hwd
            refine wpE_on 8 (some 44) rfl (fun K hK => ?_)
            go_simp
            go_at_call 122
            refine (REC.out wd hxd).mono ?_
            rintro e wk ⟨v, g', rfl, hr', hxk, hg'⟩
            obtain ⟨av2, kv2, e2, ha2, hk2⟩ := hr'.open
            obtain ⟨aa2, acap2, e3, _⟩ := ha2.len_of
            obtain ⟨ka2, kcap2, e4, _⟩ := hk2
            subst e3 e4 e2
            have hR2' := qh hr'
            have hG := qh hg'
            have hcb := hxk.cell cbd
            have hn5 := hxk.cell n5d
            have hck' := hxk.cells _ _ hcd
            refine hK.out _ _ (.inr ⟨hcb, hn5, hck'⟩) ?_
            clear ha2 hr' hg'
            clear hK K
            try simp only [Act.put, zA, zB, zC]
            refine wpE_on 9 (some 45) rfl (fun K hK => ?_)
            go_simp
            have xc := (Ext.refl wk).alloc (.cells #[.int .i64 (T.pln f j).tag, .slice aa2 (T.pln f j).attrs.length acap2, .string (T.pln f j).text, .slice ka2 (T.pln f j).kids.length kcap2] 35)
            have hcc := xc.cell hcb
            have hcn := xc.cell hn5
            have hcq := xc.cells _ _ hck'
            have hnew := cells_four (heap_alloc_new wk (.cells #[.int .i64 (T.pln f j).tag, .slice aa2 (T.pln f j).attrs.length acap2, .string (T.pln f j).text, .slice ka2 (T.pln f j).kids.length kcap2] 35))
            obtain ⟨cw, hcw⟩ : ∃ cw : World, cw = wk.alloc (.cells #[.int .i64 (T.pln f j).tag, .slice aa2 (T.pln f j).attrs.length acap2, .string (T.pln f j).text, .slice ka2 (T.pln f j).kids.length kcap2] 35) := ⟨_, rfl⟩
            rw [← hcw] at hcc hcn hcq xc hnew ⊢
            clear hcw
            refine hK.out _ _ (.inr ⟨hcc, hcn, hcq⟩) ?_
            obtain ⟨i0, hii, hz0, hz1, hz2⟩ := info_parts infoN
            obtain ⟨v', wA, row, hrunA, hrA, hgA, hrowA⟩ := run_append_row (P := Tryz.prog) cw 33 33 35 i0 noNode0 4 72 Tryz.underlying33 hii hz0 hz1 hz2 (by kernel_rfl) (by decide)
              (p := fun y => w2.heap.size ≤ y ∧ y ≠ b ∧ (Value.slice ak k ck).ownBlock = some y) (RowP.imp (RowP.ext HR2.out ((hxd.trans hxk).trans xc)) (fun y hy hp => ⟨hp.1, hp.2, hy⟩)) ⟨wk.heap.size, 0, none⟩ 1 1 _ rfl hnew (by simp [Value.oneCell']) (by decide) (by unfold maxLen; omega) (by omega)
            have FIN := qh (PlainAt.step HXR.out HB.out hb1 HR2.out HKB.out HGA.out HKX.out HGC.out HXX.out (hxd.trans hxk) hR2'.out (fun q y hq => ⟨(hG.out q y hq).1, Nat.le_trans hxd.size (hG.out q y hq).2⟩) xc hrA hgA hrowA)
            obtain ⟨a7, cap7, e7, _⟩ := hrA.rd.len_of
            subst e7
            have hne5 : ∀ z, row = some z → z ≠ R := fun z hz => by have := (hrowA z hz).1; omega
            have hnek : ∀ z, row = some z → z ≠ kb := fun z hz => by have := (hrowA z hz).1; have := HKL.out; omega
            have hcA : wA.cell? ⟨b, 3, none⟩ = some (.slice ak k ck) := (World.cell?_of_block (a := ⟨b, 3, none⟩) (hgA.block b (cell_lt hcc) (fun e => (hrowA b e.symm).2.1 rfl))).trans hcc
            have hfA : wA.frozen? ⟨b, 3, none⟩ = false := (World.frozen?_of_block (a := ⟨b, 3, none⟩) (hgA.block b (cell_lt hcc) (fun e => (hrowA b e.symm).2.1 rfl))).trans (Ext.free (((hxd.trans hxk).trans xc)) (cell_lt cb) fb)
            have hnA : wA.cell? ⟨R, 5, none⟩ = some (.slice (some ⟨kb, ko, ks⟩) nd.kids.length kc) := (World.cell?_of_block (a := ⟨R, 5, none⟩) (hgA.block R (cell_lt hcn) (fun e => hne5 R e.symm rfl))).trans hcn
            have hqA : wA.cell? (Addr.add ⟨kb, ko, ks⟩ k) = some (.int .i64 j) := (World.cell?_of_block (hgA.block _ (World.block_lt_of_cell? _ _ hcq) (fun e => hnek _ e.symm (by rw [addBlock])))).trans hcq
            have HRA := qh hrunA
            clear hrA hgA hrowA hrunA hii hz0 hz1 hz2 hnew hne5 hnek
            clear hK K
            try simp only [Act.put, zA, zB, zC]
            refine wpE_on 10 (some 46) rfl (fun K hK => ?_)
            refine step_append_run (by rfl) _ _ 33 (by rfl) (.slice ak k ck) (.slice (some ⟨wk.heap.size, 0, none⟩) 1 1) (by rfl) (by rfl) (.slice a7 (k + 1) cap7) wA HRA.out ?_
            refine hK.out _ _ (.inr ⟨hcA, hnA, hqA⟩) ?_
            clear hK K
            try simp only [Act.put, zA, zB, zC]
            refine wpE_on 11 (some 47) rfl (fun K hK => ?_)
            go_simp
            refine hK.out _ _ (.inr ⟨hcA, hnA, hqA⟩) ?_
            clear hK K
            try simp only [Act.put, zA, zB, zC]
            refine wpE_on 12 (none) rfl (fun K hK => ?_)
            go_simp
            refine hK.out _ _ (.inl rfl) ?_
            clear hK K
            refine wpE_done (by kernel_rfl) ?_
            clear hnA hqA hcn hcq hn5 hck'
            clear hcA hfA hcc hcb hS cb fb
            obtain ⟨wz, hwz⟩ : ∃ wz : World, wz = wA.setCell ⟨b, 3, none⟩ (.slice a7 (k + 1) cap7) := ⟨_, rfl⟩
            rw [← hwz] at FIN ⊢
            clear hwz
            go_wp2_with fail
            go_roundw
            case rel => exact ⟨k + 1, by omega, by go_num, FIN.out⟩
            case measure => simp [intOf]; omega
        · obtain rfl : k = nd.kids.length := by omega
          have hbn : b ≠ u.heap.size := by omega
          have hbn' := Ne.symm hbn
          obtain ⟨ak, ck, rfl, hck⟩ := hr.rd.len_of
          have b0 := cellOf hb (i := 0) (v := .int .i64 nd.tag) rfl
          have b1 := cellOf hb (i := 1) (v := .slice ab nd.attrs.length bcap) rfl
          have b2 := cellOf hb (i := 2) (v := .string nd.text) rfl
          have b3 := cellOf hb (i := 3) (v := .slice ak nd.kids.length ck) rfl
          have hr0 := hxr.block HBU.out
          have r0 := cellOf hr0 (i := 0) (v := .int .i64 0) rfl
          have r1 := cellOf hr0 (i := 1) (v := .slice none 0 0) rfl
          have r2 := cellOf hr0 (i := 2) (v := .string ⟨#[]⟩) rfl
          have r3 := cellOf hr0 (i := 3) (v := .slice none 0 0) rfl
          have f0 := freeOf hr0 0
          have f1 := freeOf hr0 1
          have f2 := freeOf hr0 2
          have f3 := freeOf hr0 3
          have FIN := qh (plain_fin HXU.out hu2 hxr hb hr hga hkx hgc)
          clear hxr hb hr hkb hga hkx hgc hr0
          go_wp2_with fail
          exact bodyPost_ret (v := .agg #[.int .i64 nd.tag, .slice ab nd.attrs.length bcap, .string nd.text, .slice ak nd.kids.length ck]) (by simp [results, Tryz.results122, go_sem, r0, r1, r2, r3]) rfl (FIN.out _ _ _ _)
theorem rPlain_some {w : World} {rb : Nat} {T : Tr} (hR : RAt w rb T) {d : Nat → Nat} (hw : WF T d) (hA : AttrsOk T) {i : Nat} {nd : Nd} (h : T.nodes[i]? = some (some nd)) :
    Calls Tryz.prog 122 #[.pointer (some ⟨rb, 0, none⟩), .int .i64 i] w (PlainIs (T.plain i) w) :=
  rPlain_fuel hR hw hA 50 i nd w h (by omega) (Ext.refl w)
structure RCopyAt (w wr : World) (cb : Nat) (T : Tr) (k : Nat) : Prop where
  ext : Ext w wr
  row : ∃ lv xs ga, wr.heap[cb]? = some (.cells #[.int .i64 T.cap, .int .i64 T.deep, lv] 124 (0, 0)) ∧ RowP wr (fun y => cb < y) 121 6 lv k xs ∧ (∀ y, lv.ownBlock = some y → y < wr.heap.size) ∧
    (∀ (j : Nat) (o : Option Nd), j < k → T.nodes[j]? = some o → RecAt ga xs.toArray j o) ∧ ∀ q y, ga.cell? q = some y → wr.cell? q = some y ∧ cb < q.block ∧ lv.ownBlock ≠ some q.block
def oVals (o : Option Nd) (av kv : Value) : List Value := [.int .i64 (isN o), .int .i64 (ndOf o).tag, .int .i64 (ndOf o).parent, av, .string (ndOf o).text, kv]
theorem RCopyAt.step {w wr wk cw wA ga : World} {cb k : Nat} {T : Tr} {lv v' av kv : Value} {xs : List Value} {o : Option Nd} {row : Option Nat}
    (hx : Ext w wr) (hcb : w.heap.size ≤ cb) (hb : wr.heap[cb]? = some (.cells #[.int .i64 T.cap, .int .i64 T.deep, lv] 124 (0, 0))) (hr : RowP wr (fun y => cb < y) 121 6 lv k xs) (hkb : ∀ y, lv.ownBlock = some y → y < wr.heap.size)
    (hk : ∀ (j : Nat) (o : Option Nd), j < k → T.nodes[j]? = some o → RecAt ga xs.toArray j o) (hg : ∀ q y, ga.cell? q = some y → wr.cell? q = some y ∧ cb < q.block ∧ lv.ownBlock ≠ some q.block)
    (hn : T.nodes[k]? = some o) (hxk : Ext wr wk) (ha : RowP wk (fun y => wr.heap.size ≤ y) 110 2 av (ndOf o).attrs.length (attrCells (ndOf o).attrs)) (hv : RowP wk (fun y => wr.heap.size ≤ y) 3 1 kv (ndOf o).kids.length ((ndOf o).kids.map (Value.int .i64)))
    (hxc : Ext wk cw) (hA : RowP wA (fun y => (cb < y ∧ lv.ownBlock = some y) ∨ cw.heap.size ≤ y) 121 6 v' (k + 1) (xs ++ oVals o av kv)) (hgA : cw.grownBy wA row) (hrow : ∀ z, row = some z → cb < z ∧ lv.ownBlock = some z) :
    RCopyAt w (wA.setCell ⟨cb, 2, none⟩ v') cb T (k + 1) := by
  have hbl : cb < wr.heap.size := (Array.getElem?_eq_some_iff.1 hb).1
  have hxc2 : Ext wr cw := hxk.trans hxc
  have hs2 := Ext.size hxk
  have hs3 := Ext.size hxc
  have hlen : xs.length = k * 6 := hr.1
  have hbA : wA.heap[cb]? = some (.cells #[.int .i64 T.cap, .int .i64 T.deep, lv] 124 (0, 0)) := by
    rw [hgA.block cb (by omega) (fun e => absurd (hrow cb e.symm).1 (Nat.lt_irrefl _))]
    exact hxc2.block hb
  have keep : ∀ q y, cw.cell? q = some y → q.block ≠ cb → lv.ownBlock ≠ some q.block → (wA.setCell ⟨cb, 2, none⟩ v').cell? q = some y := fun q y hq h1 h2 => by
    have hl := World.block_lt_of_cell? cw q hq
    have e1 : wA.cell? q = some y := (World.cell?_of_block (hgA.block q.block hl (fun e => h2 (hrow q.block e.symm).2))).trans hq
    exact (World.cell?_of_block (heap_setCell_other (p := ⟨cb, 2, none⟩) _ h1)).trans e1
  have vown : ∀ y, v'.ownBlock = some y → (cb < y ∧ lv.ownBlock = some y) ∨ cw.heap.size ≤ y := fun y hy => by
    rcases hA.2 with ⟨h0, _⟩ | ⟨gb, cap, cur, h8, h9, _⟩
    · omega
    · rw [h8] at hy; cases hy; exact h9
  have hkey : ∀ q y, cw.cell? q = some y → cb < q.block → lv.ownBlock ≠ some q.block → (hide (fun y => if cb < y ∧ v'.ownBlock ≠ some y then none else some (0, 0)) (wA.setCell ⟨cb, 2, none⟩ v')).cell? q = some y := fun q y hq h1 h2 => by
    refine hide_cell (keep q y hq (by omega) h2) (if_pos ⟨h1, fun e => ?_⟩)
    rcases vown _ e with h | h
    · exact h2 h.2
    · have := World.block_lt_of_cell? cw q hq; omega
  have cg : Cells ga (hide (fun y => if cb < y ∧ v'.ownBlock ≠ some y then none else some (0, 0)) (wA.setCell ⟨cb, 2, none⟩ v')) := fun q y hq => by
    obtain ⟨h1, h2, h3⟩ := hg q y hq
    exact hkey q y (hxc2.cells _ _ h1) h2 h3
  have newrow : ∀ {e size n : Nat} {v : Value} {ys : List Value}, RowP wk (fun y => wr.heap.size ≤ y) e size v n ys → RowRd (hide (fun y => if cb < y ∧ v'.ownBlock ≠ some y then none else some (0, 0)) (wA.setCell ⟨cb, 2, none⟩ v')) size v n ys := fun {e size n v ys} h => by
    obtain ⟨h1, h2⟩ := id h
    obtain ⟨h3, ao, cap, h4, h5, h6, h7⟩ := h.rd
    refine ⟨h3, ao, cap, h4, h5, h6, fun a haa j x hxx => ?_⟩
    rcases h2 with ⟨h8, a8, h9⟩ | ⟨g, cap', cur, h8, h9, _⟩
    · rw [h8] at h1
      obtain rfl : ys = [] := List.eq_nil_of_length_eq_zero (by omega)
      simp at hxx
    · rw [h4] at h8
      cases h8
      cases haa
      have hc := h7 _ rfl j x hxx
      have hb2 : (Addr.add ⟨g, 0, none⟩ j).block = g := addBlock _ _
      have h9' : wr.heap.size ≤ g := h9
      refine hkey (Addr.add ⟨g, 0, none⟩ j) x (hxc.cells _ _ hc) (by rw [hb2]; omega) (fun e => ?_)
      rw [hb2] at e
      have := hkb _ e
      omega
  refine ⟨?_, v', xs ++ oVals o av kv, hide (fun y => if cb < y ∧ v'.ownBlock ≠ some y then none else some (0, 0)) (wA.setCell ⟨cb, 2, none⟩ v'), ?_, ?_, fun y hy => ?_, fun j z hj hz => ?_, fun q y hq => ?_⟩
  · exact Ext.setCell ((hx.trans hxc2).grown hgA fun z hz => Nat.le_trans hcb (Nat.le_of_lt (hrow z hz).1)) hcb _
  · have e := heap_setCell_same (i := 2) hbA v'
    rw [e]; rfl
  · refine RowP.move hA fun gb hgb => ⟨heap_setCell_other (p := ⟨cb, 2, none⟩) _ ?_, ?_⟩
    · rcases hgb with h | h
      · show gb ≠ cb; omega
      · show gb ≠ cb; omega
    · rcases hgb with h | h
      · exact h.1
      · show cb < gb; omega
  · rcases hA.2 with ⟨h0, _⟩ | ⟨gb, cap, cur, h8, h9, h10, _⟩
    · omega
    · rw [h8] at hy; cases hy
      have := (Array.getElem?_eq_some_iff.1 h10).1
      simpa [World.setCell] using this
  · by_cases e : j = k
    · subst e
      rw [hn] at hz
      cases hz
      have hi : ∀ i, (xs ++ oVals o av kv).toArray[j * 6 + i]? = (oVals o av kv)[i]? := fun i => by
        rw [List.getElem?_toArray, List.getElem?_append_right (by omega), hlen, Nat.add_sub_cancel_left]
      exact ⟨av, kv, hi 0, hi 1, hi 2, hi 3, hi 4, hi 5, newrow ha, newrow hv⟩
    · refine (hk j z (by omega) hz).keep cg fun i hi => ?_
      rw [List.getElem?_toArray, List.getElem?_toArray, List.getElem?_append_left (by omega)]
  · obtain ⟨h1, h2⟩ := hide_apart _ _ q y hq
    dsimp only at h2
    split at h2
    · rename_i h3
      exact ⟨h1, h3.1, h3.2⟩
    · cases h2
theorem RCopyAt.fin {w wr : World} {cb : Nat} {T : Tr} (hcb : w.heap.size ≤ cb) (hn : 0 < T.nodes.length) (h : RCopyAt w wr cb T T.nodes.length) : RefOn wr (fun b => w.heap.size ≤ b) cb T := by
  obtain ⟨hx, lv, xs, ga, hb, hr, hkb, hk, hg⟩ := h
  rcases hr.2 with ⟨h0, _⟩ | ⟨g, cap, cur, rfl, h2, h3, h4, h5, h6, h7⟩
  · omega
  · have hlen : xs.length = T.nodes.length * 6 := hr.1
    refine ⟨ga, g, ⟨by omega, ⟨cap, cur, hb, h4, h5, h3, h6, fun j o ho => ?_⟩, fun q y hq => ?_⟩, hcb, by omega, fun q y hq => ?_⟩
    · have hj := (List.getElem?_eq_some_iff.1 ho).1
      refine (hk j o hj ho).keep (fun _ _ h => h) fun i hi => ?_
      have e1 : xs.toArray[j * 6 + i]? = xs[j * 6 + i]? := by simp
      have e2 : xs[j * 6 + i]? = cur.toList[j * 6 + i]? := by rw [← h7, List.getElem?_take_of_lt (by omega)]
      rw [e1, e2]
      simp
    · obtain ⟨e1, e2, e3⟩ := hg q y hq
      exact ⟨e1, by omega, fun e => e3 (by rw [e]; rfl)⟩
    · obtain ⟨e1, e2, e3⟩ := hg q y hq
      show w.heap.size ≤ q.block
      omega
theorem ndOf_attrs {T : Tr} (hA : AttrsOk T) {k : Nat} {o : Option Nd} (h : T.nodes[k]? = some o) : (ndOf o).attrs.length ≤ 60000 := by
  cases o with
  | none => simp [ndOf, noNd]
  | some nd => exact (hA k nd h).1
theorem ndOf_kids {T : Tr} {d : Nat → Nat} (hw : WF T d) {k : Nat} {o : Option Nd} (h : T.nodes[k]? = some o) : (ndOf o).kids.length ≤ 2000 := by
  cases o with
  | none => simp [ndOf, noNd]
  | some nd => exact hw.kids_len h
theorem rCopy {w : World} {rb : Nat} {T : Tr} (hR : RAt w rb T) {d : Nat → Nat} (hw : WF T d) (hA : AttrsOk T) :
    Calls Tryz.prog 52 #[.pointer (some ⟨rb, 0, none⟩)] w (RNewIs w T) := by
  obtain ⟨_, _, c2, _, c0, c1⟩ := hR.slice
  have hlen := hw.small.len
  have hpos : 0 < T.nodes.length := by
    obtain ⟨nd, h, _⟩ := hw.root
    exact (List.getElem?_eq_some_iff.1 h).1
  have HR := qh hR
  have HW := qh hw
  have HA := qh hA
  clear hR hw hA c2
  go_enter Tryz.func52, Tryz.ntmps52
  go_upto_region 1 with fail
  go_region
  have xs0 : Ext w (w.alloc (.cells #[.int .i64 T.cap, .int .i64 T.deep, .slice none 0 0] 124)).drew := ((Ext.refl w).alloc _).drew
  have bs0 : (w.alloc (.cells #[.int .i64 T.cap, .int .i64 T.deep, .slice none 0 0] 124)).drew.heap[w.heap.size]? = some (.cells #[.int .i64 T.cap, .int .i64 T.deep, .slice none 0 0] 124 (0, 0)) := heap_alloc_new w _
  obtain ⟨ws, hws⟩ : ∃ ws : World, ws = (w.alloc (.cells #[.int .i64 T.cap, .int .i64 T.deep, .slice none 0 0] 124)).drew := ⟨_, rfl⟩
  obtain ⟨cb, hcb⟩ : ∃ cb, cb = w.heap.size := ⟨_, rfl⟩
  rw [← hws] at xs0 bs0
  rw [← hws]
  rw [← hcb] at bs0 ⊢
  have hcb1 : w.heap.size ≤ cb := by omega
  clear hws hcb c0 c1
  have hst : RCopyAt w ws cb T 0 := ⟨xs0, .slice none 0 0, [], { w with heap := #[] }, bs0, ⟨rfl, .inl ⟨rfl, none, rfl⟩⟩, (fun y e => by cases e), (fun j o h => by omega), fun q y hq => by simp [World.cell?] at hq⟩
  have HST := qh hst
  have XS0 := qh xs0
  clear hst bs0
  go_wp2_with fail
  go_loopw [4] (fun i wr => ∃ k : Nat, k ≤ T.nodes.length ∧ i = .int .i64 k ∧ RCopyAt w wr cb T k) (fun i _ => T.nodes.length - (intOf i).toNat)
  case atStart => exact ⟨0, Nat.zero_le _, rfl, HST.out⟩
  case round =>
    obtain ⟨k, hk, rfl, hrc⟩ := hrel
    have HRC := qh hrc
    obtain ⟨hx, lv, xs, ga, hb, hr, hkb, hki, hg⟩ := hrc
    obtain ⟨g0, cap0, d2, hcap0, d0, d1⟩ := (HR.out.ext hx).slice
    clear HST
    by_cases hlt : k < T.nodes.length
    · obtain ⟨o, ho⟩ : ∃ o, T.nodes[k]? = some o := ⟨T.nodes[k], by simp [hlt]⟩
      obtain ⟨al, cl, rfl, hcl⟩ := hr.rd.len_of
      have lb := cellOf hb (i := 2) (v := .slice al k cl) rfl
      have lf := freeOf hb 2
      have lcb := cell_lt lb
      obtain ⟨g, cap, aa, ac, ka, kc, e2, r0, r1, r2, r3, r4, r5, hav, hkv⟩ := (HR.out.ext hx).one ho
      clear d2 d0 d1
      have hal := ndOf_attrs HA.out ho
      have hkl := ndOf_kids HW.out ho
      have xr := (Ext.refl wr).alloc (.cells #[.int .i64 (isN o), .int .i64 (ndOf o).tag, .int .i64 (ndOf o).parent, .slice aa (ndOf o).attrs.length ac, .string (ndOf o).text, .slice ka (ndOf o).kids.length kc] 121)
      have br := heap_alloc_new wr (.cells #[.int .i64 (isN o), .int .i64 (ndOf o).tag, .int .i64 (ndOf o).parent, .slice aa (ndOf o).attrs.length ac, .string (ndOf o).text, .slice ka (ndOf o).kids.length kc] 121)
      have HX := qh hx
      have HB := qh hb
      have HRR := qh hr
      have HKB := qh hkb
      have HKI := qh hki
      have HG := qh hg
      have HO := qh ho
      clear hx hb hr hkb hki hg ho
      go_upto_region 6 with fail
      obtain ⟨R, hRe⟩ : ∃ R, R = wr.heap.size := ⟨_, rfl⟩
      obtain ⟨w1, hw1⟩ : ∃ w1 : World, w1 = wr.alloc (.cells #[.int .i64 (isN o), .int .i64 (ndOf o).tag, .int .i64 (ndOf o).parent, .slice aa (ndOf o).attrs.length ac, .string (ndOf o).text, .slice ka (ndOf o).kids.length kc] 121) := ⟨_, rfl⟩
      rw [← hRe] at br ⊢
      rw [← hw1] at xr br
      rw [← hw1]
      have hR1 : w1.heap.size = R + 1 := by rw [hw1, hRe]; simp
      have hRr : wr.heap.size = R := hRe.symm
      clear hw1 hRe r0 r1 r2 r3 r4 r5 e2
      have HR1 := qh hR1
      have HRr := qh hRr
      clear hR1 hRr
      -- the row of attributes
      have q3 := cellOf br (i := 3) (v := .slice aa (ndOf o).attrs.length ac) rfl
      have f3 := freeOf br 3
      have xe := (Ext.refl w1).alloc (.cells #[] 110)
      obtain ⟨va, wA, hrun, hra, hxa⟩ := append_empty (w := w1.alloc (.cells #[] 110)) (b := w1.heap.size) (hav.ext (xr.trans xe)) hal (attrCells_one _)
      obtain ⟨a1, c1, rfl, _⟩ := hra.rd.len_of
      have xa := xe.trans hxa
      have hra' := RowP.imp hra (q := fun y => R + 1 ≤ y) fun y _ hy => by have h : (w1.alloc (.cells #[] 110)).heap.size ≤ y := hy; have h2 := HR1.out; simp at h; show R + 1 ≤ y; omega
      have qe3 := xe.cell q3
      have qa3 := xa.cell q3
      have fa3 := xa.free (cell_lt q3) f3
      have ba := xa.block br
      have HRUN := qh hrun
      have HRA := qh hra'
      have XA := qh (xr.trans xa)
      have BA := qh ba
      have nR : R ≠ w1.heap.size := by have := HR1.out; omega
      have nR' := Ne.symm nR
      clear hra hra' hxa xe hrun xa ba br hav
      go_upto_region 7 with (at_builtin; refine wpList_append_run _ rfl _ _ 32 rfl _ _ rfl rfl _ _ HRUN.out ?_)
      have hRw := HRr.out
      have b2 := heap_setCell_same (i := 3) BA.out (.slice a1 (ndOf o).attrs.length c1)
      replace b2 : (wA.setCell ⟨R, 3, none⟩ (.slice a1 (ndOf o).attrs.length c1)).heap[R]? = some (.cells #[.int .i64 (isN o), .int .i64 (ndOf o).tag, .int .i64 (ndOf o).parent, .slice a1 (ndOf o).attrs.length c1, .string (ndOf o).text, .slice ka (ndOf o).kids.length kc] 121 (0, 0)) := b2
      have x2 : Ext wr (wA.setCell ⟨R, 3, none⟩ (.slice a1 (ndOf o).attrs.length c1)) := XA.out.setCell (by show wr.heap.size ≤ R; omega) _
      have hro : RowP (wA.setCell ⟨R, 3, none⟩ (.slice a1 (ndOf o).attrs.length c1)) (fun y => R + 1 ≤ y) 110 2 (.slice a1 (ndOf o).attrs.length c1) (ndOf o).attrs.length (attrCells (ndOf o).attrs) :=
        RowP.move HRA.out fun y hy => ⟨heap_setCell_other (p := ⟨R, 3, none⟩) _ (by have h : R + 1 ≤ y := hy; show y ≠ R; omega), hy⟩
      obtain ⟨w2, hw2⟩ : ∃ w2 : World, w2 = wA.setCell ⟨R, 3, none⟩ (.slice a1 (ndOf o).attrs.length c1) := ⟨_, rfl⟩
      rw [← hw2] at b2 x2 hro
      rw [← hw2]
      clear hw2 q3 f3 qe3 qa3 fa3 nR nR' BA HRUN HRA XA hRw
      -- the row of kids
      have q5 := cellOf b2 (i := 5) (v := .slice ka (ndOf o).kids.length kc) rfl
      have f5 := freeOf b2 5
      have xk := (Ext.refl w2).alloc (.cells #[] 3)
      obtain ⟨vk, wB, rowk, hrunk, hrk, hgk, hrowk⟩ := append_ints (w := w2.alloc (.cells #[] 3)) (B := w2.heap.size) (v := .slice (some ⟨w2.heap.size, 0, none⟩) 0 0) (n := 0) (xs := []) ⟨rfl, .inl ⟨rfl, _, rfl⟩⟩ (hkv.ext (x2.trans xk)) (by omega) (fun z hz => ints_one _ z hz)
      rw [Nat.zero_add, List.nil_append] at hrk
      obtain ⟨a2, c2, rfl, _⟩ := hrk.rd.len_of
      have lR : R < w2.heap.size := (Array.getElem?_eq_some_iff.1 b2).1
      have xb : Ext w2 wB := xk.grown hgk hrowk
      have hrk' := RowP.imp hrk (q := fun y => R + 1 ≤ y) fun y _ hy => by
        show R + 1 ≤ y
        rcases hy with h | h
        · omega
        · simp at h; omega
      have qe5 := xk.cell q5
      have qb5 := xb.cell q5
      have fb5 := xb.free lR f5
      have bb := xb.block b2
      have HRUNK := qh (AppI.mk hrunk)
      have HRK := qh hrk'
      have XB := qh (x2.trans xb)
      have BB := qh bb
      have HRO := qh (RowP.ext hro xb)
      have nR : R ≠ w2.heap.size := by omega
      have nR' := Ne.symm nR
      clear hrk hrk' hgk hrowk xk hrunk xb bb b2 hkv hro x2
      go_upto_region 8 with (at_builtin; refine wpList_app rfl _ _ rfl rfl _ _ rfl rfl _ _ HRUNK.out ?_)
      have hRw := HRr.out
      have b3 := heap_setCell_same (i := 5) BB.out (.slice a2 (ndOf o).kids.length c2)
      replace b3 : (wB.setCell ⟨R, 5, none⟩ (.slice a2 (ndOf o).kids.length c2)).heap[R]? = some (.cells #[.int .i64 (isN o), .int .i64 (ndOf o).tag, .int .i64 (ndOf o).parent, .slice a1 (ndOf o).attrs.length c1, .string (ndOf o).text, .slice a2 (ndOf o).kids.length c2] 121 (0, 0)) := b3
      have x3 : Ext wr (wB.setCell ⟨R, 5, none⟩ (.slice a2 (ndOf o).kids.length c2)) := XB.out.setCell (by show wr.heap.size ≤ R; omega) _
      have hro3 : RowP (wB.setCell ⟨R, 5, none⟩ (.slice a2 (ndOf o).kids.length c2)) (fun y => wr.heap.size ≤ y) 110 2 (.slice a1 (ndOf o).attrs.length c1) (ndOf o).attrs.length (attrCells (ndOf o).attrs) :=
        RowP.move HRO.out fun y hy => ⟨heap_setCell_other (p := ⟨R, 5, none⟩) _ (by have h : R + 1 ≤ y := hy; show y ≠ R; omega), by have h : R + 1 ≤ y := hy; omega⟩
      have hrk3 : RowP (wB.setCell ⟨R, 5, none⟩ (.slice a2 (ndOf o).kids.length c2)) (fun y => wr.heap.size ≤ y) 3 1 (.slice a2 (ndOf o).kids.length c2) (ndOf o).kids.length ((ndOf o).kids.map (Value.int .i64)) :=
        RowP.move HRK.out fun y hy => ⟨heap_setCell_other (p := ⟨R, 5, none⟩) _ (by have h : R + 1 ≤ y := hy; show y ≠ R; omega), by have h : R + 1 ≤ y := hy; omega⟩
      obtain ⟨w3, hw3⟩ : ∃ w3 : World, w3 = wB.setCell ⟨R, 5, none⟩ (.slice a2 (ndOf o).kids.length c2) := ⟨_, rfl⟩
      rw [← hw3] at b3 x3 hro3 hrk3
      rw [← hw3]
      clear hw3 q5 f5 qe5 qb5 fb5 nR nR' BB HRUNK HRK XB HRO
      have t0 := cellOf b3 (i := 0) (v := .int .i64 (isN o)) rfl
      have t1 := cellOf b3 (i := 1) (v := .int .i64 (ndOf o).tag) rfl
      have t2 := cellOf b3 (i := 2) (v := .int .i64 (ndOf o).parent) rfl
      have t3 := cellOf b3 (i := 3) (v := .slice a1 (ndOf o).attrs.length c1) rfl
      have t4 := cellOf b3 (i := 4) (v := .string (ndOf o).text) rfl
      have t5 := cellOf b3 (i := 5) (v := .slice a2 (ndOf o).kids.length c2) rfl
      have l3 := x3.cell lb
      have lf3 := x3.free lcb lf
      have xd := (Ext.refl w3).drew
      have l3d := xd.cell l3
      have t0d := xd.cell t0
      have t1d := xd.cell t1
      have t2d := xd.cell t2
      have t3d := xd.cell t3
      have t4d := xd.cell t4
      have t5d := xd.cell t5
      have HX3 := qh x3
      have HRO3 := qh hro3
      have HRK3 := qh hrk3
      clear b3 x3 hro3 hrk3 t0 t1 t2 t3 t4 t5 hRw
      refine wp_region_E (S := fun w' => w'.cell? ⟨cb, 2, none⟩ = some (.slice al k cl) ∧ w'.cell? ⟨R, 0, none⟩ = some (.int .i64 (isN o)) ∧ w'.cell? ⟨R, 1, none⟩ = some (.int .i64 (ndOf o).tag) ∧ w'.cell? ⟨R, 2, none⟩ = some (.int .i64 (ndOf o).parent) ∧ w'.cell? ⟨R, 3, none⟩ = some (.slice a1 (ndOf o).attrs.length c1) ∧ w'.cell? ⟨R, 4, none⟩ = some (.string (ndOf o).text) ∧ w'.cell? ⟨R, 5, none⟩ = some (.slice a2 (ndOf o).kids.length c2)) (n := 10) (by kernel_rfl) ?_
      have hS : w3.drew.cell? ⟨cb, 2, none⟩ = some (.slice al k cl) ∧ w3.drew.cell? ⟨R, 0, none⟩ = some (.int .i64 (isN o)) ∧ w3.drew.cell? ⟨R, 1, none⟩ = some (.int .i64 (ndOf o).tag) ∧ w3.drew.cell? ⟨R, 2, none⟩ = some (.int .i64 (ndOf o).parent) ∧ w3.drew.cell? ⟨R, 3, none⟩ = some (.slice a1 (ndOf o).attrs.length c1) ∧ w3.drew.cell? ⟨R, 4, none⟩ = some (.string (ndOf o).text) ∧ w3.drew.cell? ⟨R, 5, none⟩ = some (.slice a2 (ndOf o).kids.length c2) := ⟨l3d, t0d, t1d, t2d, t3d, t4d, t5d⟩
      show wpE _ _ _ _ _ 10 11 (Array.replicate 11 false) _ _
      refine wpE_tk 0 42 (.pointer (some ⟨cb, 0, none⟩)) rfl (.inl ⟨by rfl, fun w' hSw => ?_⟩) hS ?_
      · (obtain ⟨s1, s2, s3, s4, s5, s6, s7⟩ := hSw; clear hS; go_simp)
      try simp only [Act.put, zA, zB, zC]
      refine wpE_tk 1 43 (.pointer (some ⟨cb, 0, none⟩)) rfl (.inl ⟨by rfl, fun w' hSw => ?_⟩) hS ?_
      · (obtain ⟨s1, s2, s3, s4, s5, s6, s7⟩ := hSw; clear hS; go_simp)
      try simp only [Act.put, zA, zB, zC]
      refine wpE_tk 2 44 (.pointer (some ⟨cb, 0, none⟩)) rfl (.inl ⟨by rfl, fun w' hSw => ?_⟩) hS ?_
      · (obtain ⟨s1, s2, s3, s4, s5, s6, s7⟩ := hSw; clear hS; go_simp)
      try simp only [Act.put, zA, zB, zC]
      refine wpE_tk 3 45 (.pointer (some ⟨cb, 2, none⟩)) rfl (.inl ⟨by rfl, fun w' hSw => ?_⟩) hS ?_
      · (obtain ⟨s1, s2, s3, s4, s5, s6, s7⟩ := hSw; clear hS; go_simp)
      try simp only [Act.put, zA, zB, zC]
      refine wpE_tk 4 46 (.slice al k cl) rfl (.inl ⟨by rfl, fun w' hSw => ?_⟩) hS ?_
      · (obtain ⟨s1, s2, s3, s4, s5, s6, s7⟩ := hSw; clear hS; go_simp)
      try simp only [Act.put, zA, zB, zC]
      refine wpE_tk 5 47 (.agg #[.int .i64 (isN o), .int .i64 (ndOf o).tag, .int .i64 (ndOf o).parent, .slice a1 (ndOf o).attrs.length c1, .string (ndOf o).text, .slice a2 (ndOf o).kids.length c2]) rfl (.inl ⟨by rfl, fun w' hSw => ?_⟩) hS ?_
      · (obtain ⟨s1, s2, s3, s4, s5, s6, s7⟩ := hSw; clear hS; go_simp)
      try simp only [Act.put, zA, zB, zC]
      obtain ⟨wd, hwd⟩ : ∃ wd : World, wd = w3.drew := ⟨_, rfl⟩
      rw [← hwd] at hS xd l3d t0d t1d t2d t3d t4d t5d ⊢
      clear hwd
      refine wpE_on 6 (some 48) rfl (fun K hK => ?_)
      go_simp
      have xc := xd.alloc (.cells #[.int .i64 (isN o), .int .i64 (ndOf o).tag, .int .i64 (ndOf o).parent, .slice a1 (ndOf o).attrs.length c1, .string (ndOf o).text, .slice a2 (ndOf o).kids.length c2] 121)
      have xq := (Ext.refl wd).alloc (.cells #[.int .i64 (isN o), .int .i64 (ndOf o).tag, .int .i64 (ndOf o).parent, .slice a1 (ndOf o).attrs.length c1, .string (ndOf o).text, .slice a2 (ndOf o).kids.length c2] 121)
      have hnew := cells_six (heap_alloc_new wd (.cells #[.int .i64 (isN o), .int .i64 (ndOf o).tag, .int .i64 (ndOf o).parent, .slice a1 (ndOf o).attrs.length c1, .string (ndOf o).text, .slice a2 (ndOf o).kids.length c2] 121))
      obtain ⟨cw, hcw⟩ : ∃ cw : World, cw = wd.alloc (.cells #[.int .i64 (isN o), .int .i64 (ndOf o).tag, .int .i64 (ndOf o).parent, .slice a1 (ndOf o).attrs.length c1, .string (ndOf o).text, .slice a2 (ndOf o).kids.length c2] 121) := ⟨_, rfl⟩
      rw [← hcw] at xc xq hnew ⊢
      clear hcw
      have l3c := xc.cell l3
      have s0c := xq.cell t0d
      have s1c := xq.cell t1d
      have s2c := xq.cell t2d
      have s3c := xq.cell t3d
      have s4c := xq.cell t4d
      have s5c := xq.cell t5d
      refine hK.out _ _ (.inr ⟨l3c, s0c, s1c, s2c, s3c, s4c, s5c⟩) ?_
      clear hK K
      try simp only [Act.put, zA, zB, zC]
      obtain ⟨i0, hi, hz0, hz1, hz2⟩ := info_parts infoR
      obtain ⟨v7, wC, row, hrunC, hrC, hgC, hrowC⟩ := run_append_row (P := Tryz.prog) cw 122 122 121 i0 noRec0 6 88 Tryz.underlying122 hi hz0 hz1 hz2 (by kernel_rfl) (by decide)
        (p := fun y => cb < y ∧ (Value.slice al k cl).ownBlock = some y) (RowP.imp (RowP.ext HRR.out (HX3.out.trans xc)) (fun y hy hp => ⟨hp, hy⟩)) ⟨wd.heap.size, 0, none⟩ 1 1 _ rfl hnew (by simp [Value.oneCell']) (by decide) (by unfold maxLen; omega) (by omega)
      have FIN := qh (RCopyAt.step (av := .slice a1 (ndOf o).attrs.length c1) (kv := .slice a2 (ndOf o).kids.length c2) HX.out hcb1 HB.out HRR.out HKB.out HKI.out HG.out HO.out HX3.out HRO3.out HRK3.out xc hrC hgC hrowC)
      obtain ⟨a7, cap7, e7, _⟩ := hrC.rd.len_of
      subst e7
      have hneR : ∀ z, row = some z → z ≠ R := fun z hz => by have h1 := HKB.out z (hrowC z hz).2; have h2 := HRr.out; omega
      have hneC : ∀ z, row = some z → z ≠ cb := fun z hz => by have := (hrowC z hz).1; omega
      have l3A := grownCell (Ext.refl cw) hgC l3c hneC
      have lfA := grownFree (Ext.refl cw) hgC (cell_lt l3c) (xc.free (cell_lt l3) lf3) hneC
      have s0A := grownCell (Ext.refl cw) hgC s0c hneR
      have s1A := grownCell (Ext.refl cw) hgC s1c hneR
      have s2A := grownCell (Ext.refl cw) hgC s2c hneR
      have s3A := grownCell (Ext.refl cw) hgC s3c hneR
      have s4A := grownCell (Ext.refl cw) hgC s4c hneR
      have s5A := grownCell (Ext.refl cw) hgC s5c hneR
      have HRUNC := qh hrunC
      clear hrC hgC hrowC hrunC hi hz0 hz1 hz2 hnew hneR hneC
      refine wpE_on 7 (some 49) rfl (fun K hK => ?_)
      refine step_append_run (by rfl) _ _ 122 (by rfl) (.slice al k cl) (.slice (some ⟨wd.heap.size, 0, none⟩) 1 1) (by rfl) (by rfl) (.slice a7 (k + 1) cap7) wC HRUNC.out ?_
      refine hK.out _ _ (.inr ⟨l3A, s0A, s1A, s2A, s3A, s4A, s5A⟩) ?_
      clear hK K
      try simp only [Act.put, zA, zB, zC]
      refine wpE_on 8 (some 50) rfl (fun K hK => ?_)
      go_simp
      refine hK.out _ _ (.inr ⟨l3A, s0A, s1A, s2A, s3A, s4A, s5A⟩) ?_
      clear hK K
      try simp only [Act.put, zA, zB, zC]
      refine wpE_on 9 (some 51) rfl (fun K hK => ?_)
      go_simp
      refine hK.out _ _ (.inr ⟨l3A, s0A, s1A, s2A, s3A, s4A, s5A⟩) ?_
      clear hK K
      try simp only [Act.put, zA, zB, zC]
      refine wpE_on 10 (none) rfl (fun K hK => ?_)
      go_simp
      refine hK.out _ _ (.inl rfl) ?_
      clear hK K
      refine wpE_done (by kernel_rfl) ?_
      clear l3A lfA s0A s1A s2A s3A s4A s5A l3c s0c s1c s2c s3c s4c s5c l3d t0d t1d t2d t3d t4d t5d l3 lf3 lb lf hS
      obtain ⟨wz, hwz⟩ : ∃ wz : World, wz = wC.setCell ⟨cb, 2, none⟩ (.slice a7 (k + 1) cap7) := ⟨_, rfl⟩
      rw [← hwz] at FIN ⊢
      clear hwz
      go_wp2_with fail
      go_roundw
      case rel => exact ⟨k + 1, by omega, by go_num, FIN.out⟩
      case measure => simp [intOf]; omega
    · obtain rfl : k = T.nodes.length := by omega
      have HFIN := qh (HRC.out.fin hcb1 hpos)
      have HX := qh hx
      clear hb hr hkb hki hg hx
      go_wp2_with fail
      go_ret
      exact ⟨cb, rfl, HX.out, HFIN.out⟩
theorem Ints8_any {w : World} {v v' : Value} {p q : List Int} (h : RowRd w 1 v p.length (p.map (Value.int .i64))) (h' : RowRd w 1 v' q.length (q.map (Value.int .i64))) (hp : p.length ≤ 60000) (hq : q.length ≤ 60000) :
    Calls Tryz.prog 115 #[v, v'] w (RVal (.bool (decide (p = q))) w) := by
  obtain ⟨_, ao, cap, rfl, hc, hn, hr⟩ := h
  obtain ⟨_, ao', cap', rfl, hc', hn', hr'⟩ := h'
  have HN := qh hn
  have HR := qh hr
  have HN' := qh hn'
  have HR' := qh hr'
  clear hn hr hn' hr'
  obtain ⟨z, hz⟩ : ∃ z, decide (p = q) = z := ⟨_, rfl⟩
  rw [hz]
  have HZ := qh hz
  clear hz
  cases hl : (p.length == q.length) with
  | false =>
    have hl' : ¬ p.length = q.length := by simpa using hl
    have : z = false := by rw [← HZ.out]; exact decide_eq_false fun e => hl' (by rw [e])
    subst this
    go_enter Tryz.func115, Tryz.ntmps115
    go_wp2_with fail
    go_ret
    exact ⟨rfl, Ext.refl _⟩
  | true =>
    have hl' : p.length = q.length := by simpa using hl
    have HLL := qh hl'
    rw [← hl'] at hc' hq ⊢
    clear hl hl'
    go_enter Tryz.func115, Tryz.ntmps115
    go_wp2_with fail
    go_loopw [5] (fun i wr => ∃ k : Nat, Ext w wr ∧ k ≤ p.length ∧ i = .int .i64 k ∧ Hid (p.take k = q.take k)) (fun i _ => p.length - (intOf i).toNat)
    case atStart => exact ⟨0, Ext.refl _, Nat.zero_le _, rfl, qh rfl⟩
    case round =>
      obtain ⟨k, hx0, hk, rfl, he⟩ := hrel
      by_cases hlt : k < p.length
      · have hlt' : k < q.length := by rw [← HLL.out]; exact hlt
        obtain ⟨x, hx⟩ : ∃ x, p[k]? = some x := ⟨p[k], by simp [hlt]⟩
        obtain ⟨y, hy⟩ : ∃ y, q[k]? = some y := ⟨q[k], by simp [hlt']⟩
        cases ao with
        | none => exact absurd (HN.out rfl).1 (by omega)
        | some a =>
          obtain ⟨b, off, sp⟩ := a
          have c0 := hx0.cells _ _ (HR.out _ rfl k (.int .i64 x) (by rw [List.getElem?_map, hx]; rfl))
          cases ao' with
          | none => exact absurd (HN'.out rfl).1 (by omega)
          | some a' =>
            obtain ⟨b', off', sp'⟩ := a'
            have c1 := hx0.cells _ _ (HR'.out _ rfl k (.int .i64 y) (by rw [List.getElem?_map, hy]; rfl))
            have c0' := fun u : ExtOf wr => u.ext.cells _ _ c0
            have c1' := fun u : ExtOf wr => u.ext.cells _ _ c1
            have HX := qh hx
            have HY := qh hy
            clear hx hy hlt'
            cases hxy : (x == y) with
            | true =>
              have HXY := qh (show x = y by simpa using hxy)
              go_upto_region 6 with fail
              refine wp_region_ext (by kernel_rfl) (by kernel_rfl) ?_
              repeat (go_big_quiet_step (fail))
              refine wpQuiet_nil ?_
              rintro _ ⟨u, rfl⟩
              clear c0' c1'
              go_wp2_with fail
              go_roundw
              case rel =>
                refine ⟨k + 1, hx0.trans u.ext, by omega, by go_num, qh ?_⟩
                have hlt'' : k < q.length := by rw [← HLL.out]; exact hlt
                obtain ⟨_, e1⟩ := List.getElem?_eq_some_iff.1 HX.out
                obtain ⟨_, e2⟩ := List.getElem?_eq_some_iff.1 HY.out
                rw [List.take_succ_eq_append_getElem hlt, List.take_succ_eq_append_getElem hlt'', he.out, e1, e2, HXY.out]
              case measure => simp [intOf]; omega
            | false =>
              have HXY := qh (show ¬ x = y by simpa using hxy)
              have : z = false := by
                rw [← HZ.out]
                refine decide_eq_false fun e => HXY.out ?_
                have h1 := HX.out
                rw [e, HY.out] at h1
                injection h1 with h1
                exact h1.symm
              subst this
              go_upto_region 6 with fail
              refine wp_region_ext (by kernel_rfl) (by kernel_rfl) ?_
              repeat (go_big_quiet_step (fail))
              refine wpQuiet_nil ?_
              rintro _ ⟨u, rfl⟩
              clear c0' c1'
              go_wp2_with fail
              go_ret
              exact ⟨rfl, hx0.trans u.ext⟩
      · obtain rfl : k = p.length := by omega
        have : z = true := by
          rw [← HZ.out]
          refine decide_eq_true ?_
          have h1 := he.out
          rw [List.take_length, HLL.out, List.take_length] at h1
          exact h1
        subst this
        go_wp2_with fail
        go_ret
        exact ⟨rfl, hx0⟩
theorem Height_none {w : World} {own : Ow} {ptr : Nat → Nat} {tb : Nat} {T : Tr} (hT : TreeAt w own ptr tb T) {id : Int} (h : T.get? id = none) :
    Calls Tryz.prog 118 #[.pointer (some ⟨tb, 0, none⟩), .int .i64 id] w (RSame (.int .i64 (-1)) w) := by
  have H := qh h
  clear h
  go_enter Tryz.func118, Tryz.ntmps118
  go_wp2_with (go_at_call 70; refine (get_none hT H.out).mono ?_; rintro e w' ⟨rfl, rfl⟩)
  go_ret
  exact ⟨rfl, rfl⟩
theorem live_of_root {T : Tr} {d : Nat → Nat} (hw : WF T d) {id : Int} {nd : Nd} (hg : T.get? id = some nd) : T.live id = decide (T.rootOf id = 0) := by
  obtain ⟨rd, h0, hu, hr, hp⟩ := hw.root0
  by_cases h : T.rootOf id = 0
  · rw [decide_eq_true h]
    have := (hw.win_iff h0 id ⟨nd, hg⟩).2 ⟨T.pathOf id, by rw [hp]; rfl, by rw [h, hr]⟩
    unfold Tr.live
    rw [hg]
    rw [hw.win_within id ⟨nd, hg⟩] at this
    exact this
  · rw [decide_eq_false h]
    cases hl : T.live id with
    | false => rfl
    | true => exact absurd (hw.live_root hl) h
theorem at_depth8 {w : World} {tb : Nat} {T : Tr} (h : TAt w tb T) {d : Nat → Nat} (hw : WF T d) {i : Nat} {nd : Nd} (hi : T.nodes[i]? = some (some nd)) : Calls Tryz.prog 116 #[.pointer (some ⟨tb, 0, none⟩), .int .i64 i] w (RVal (.int .i64 (T.pathOf i).length) w) := by
  obtain ⟨own, ptr, hT, hO⟩ := h.out
  have e := hw.path_rank i ⟨nd, Tr.get_of hi⟩
  unfold Tr.rank at e
  rw [Tr.get_of hi] at e
  simp at e
  rw [e]
  exact RSame.val (Depth_some hT hw hi)
theorem at_height {w : World} {tb : Nat} {T : Tr} (h : TAt w tb T) {d : Nat → Nat} (hw : WF T d) {i : Nat} {nd : Nd} (hi : T.nodes[i]? = some (some nd)) : Calls Tryz.prog 118 #[.pointer (some ⟨tb, 0, none⟩), .int .i64 i] w (RVal (.int .i64 (T.height i)) w) := by
  obtain ⟨own, ptr, hT, hO⟩ := h.out
  exact RSame.val (Height_fuel hT hw 50 i nd hi (by omega) (by omega))
theorem rNone {T : Tr} {x : Int} (h : T.get? x = none) : T.up x = -1 ∧ T.idx x = -1 ∧ T.live x = false := by
  unfold Tr.up Tr.idx Tr.live
  rw [h]
  exact ⟨rfl, rfl, rfl⟩
theorem Tells_ok {w : World} {tb rb : Nat} {T : Tr} (hT : TAt w tb T) (hR : RAt w rb T) {d : Nat → Nat} (hw : WF T d) (hA : AttrsOk T) :
    Calls Tryz.prog 62 #[.pointer (some ⟨tb, 0, none⟩), .pointer (some ⟨rb, 0, none⟩)] w (RVal (.bool true) w) := by
  obtain ⟨g0, cap0, s2, hcap0, s0, s1⟩ := hR.slice
  have hlen := hw.small.len
  have hc0 := hw.small.count0
  have HT := qh hT
  have HR := qh hR
  have HW := qh hw
  have HA := qh hA
  have CT := qh (show Calls Tryz.prog 24 #[.pointer (some ⟨tb, 0, none⟩)] w (RSame (.int .i64 T.count) w) by obtain ⟨own, ptr, h, hO⟩ := hT.out; exact Count_any h)
  have CR := qh (rCount hR hw)
  have RM := qh (show Calls Tryz.prog 111 #[.pointer (some ⟨tb, 0, none⟩)] w (RTwo (.int .i64 T.cap) (.int .i64 T.deep) w) by obtain ⟨own, ptr, h, hO⟩ := hT.out; exact Room_any h)
  clear hT hR hw hA
  go_enter Tryz.func62, Tryz.ntmps62
  go_wp2_with (first | (go_at_call 24; refine CT.out.mono ?_; rintro e w' ⟨rfl, rfl⟩) | (go_at_call 86; refine CR.out.mono ?_; rintro e w' ⟨rfl, rfl⟩) | (go_at_call 111; refine RM.out.mono ?_; rintro e w1 ⟨rfl, hx⟩; replace s2 := hx.cell s2; replace s0 := hx.cell s0; replace s1 := hx.cell s1; have HX := qh hx; clear hx))
  go_loopw [7, 8, 9, 10, 11] (fun x _ _ _ _ wr => ∃ i : Int, x = .int .i64 i ∧ -1 ≤ i ∧ i ≤ T.nodes.length + 1 ∧ Ext w wr) (fun x _ _ _ _ _ => (T.nodes.length + 2 - intOf x).toNat)
  case atStart => exact ⟨-1, rfl, by omega, by omega, HX.out⟩
  case round =>
    obtain ⟨x, rfl, hx0, hx1, hxr⟩ := hrel
    have HXR := qh hxr
    obtain ⟨g1, cap1, c2, hcap1, c0, c1⟩ := (HR.out.ext hxr).slice
    clear hxr s2 s0 s1
    by_cases hlt : x ≤ T.nodes.length
    · have XZ := (Ext.refl wr).alloc (.cells #[.int .i64 0, .int .i64 0, .int .i64 0, .slice none 0 0, .string ⟨#[]⟩, .slice none 0 0] 121)
      cases hg : T.get? x with
      | none =>
        have HG := qh hg
        obtain ⟨hup, hidx, hlv⟩ := rNone hg
        have B := fun (u : World) (y : Ext w u) => HT.out.ext y
        have BR := fun (u : World) (y : Ext w u) => HR.out.ext y
        have K1 := qh (fun (u : World) (y : Ext w u) => show Calls Tryz.prog 75 #[.pointer (some ⟨tb, 0, none⟩), .int .i64 x] u (RVal (.bool false) u) by have h := at_has (B u y) x; rw [hg] at h; exact h)
        have K2 := qh (fun (u : World) (y : Ext w u) => RSame.val (rHas_no (BR u y) hg))
        have K3 := qh (fun (u : World) (y : Ext w u) => show Calls Tryz.prog 76 #[.pointer (some ⟨tb, 0, none⟩), .int .i64 x] u (RVal (.int .i64 (-1)) u) by have h := at_tag (B u y) x; unfold Tr.tagOf at h; rw [hg] at h; exact h)
        have K4 := qh (fun (u : World) (y : Ext w u) => show Calls Tryz.prog 53 #[.pointer (some ⟨tb, 0, none⟩), .int .i64 x] u (RVal (.int .i64 (-1)) u) by have h := at_up (B u y) x; rw [hup] at h; exact h)
        have K5 := qh (fun (u : World) (y : Ext w u) => show Calls Tryz.prog 77 #[.pointer (some ⟨tb, 0, none⟩), .int .i64 x] u (RVal (.string ⟨#[]⟩) u) by have h := at_told (B u y) x; unfold Tr.txt at h; rw [hg] at h; exact h)
        have K6 := qh (fun (u : World) (y : Ext w u) => show Calls Tryz.prog 114 #[.pointer (some ⟨tb, 0, none⟩), .int .i64 x] u (RVal (.slice none 0 0) u) by obtain ⟨own, ptr, h, _⟩ := (B u y).out; exact Attrs_none h hg)
        have K7 := qh (fun (u : World) (y : Ext w u) => show Calls Tryz.prog 104 #[.pointer (some ⟨tb, 0, none⟩), .int .i64 x] u (RVal (.slice none 0 0) u) by obtain ⟨own, ptr, h, _⟩ := (B u y).out; exact Kids_none h hg)
        have K8 := qh (fun (u : World) => SameAttrs_none u)
        have K9 := qh (fun (u : World) => show Calls Tryz.prog 115 #[.slice none 0 0, .slice none 0 0] u (RVal (.bool true) u) from Ints8_any (p := []) (q := []) (nil_row u) (nil_row u) (by simp) (by simp))
        have I1 := qh (fun (u : World) (y : Ext w u) => show Calls Tryz.prog 54 #[.pointer (some ⟨tb, 0, none⟩), .int .i64 x] u (RVal (.int .i64 (-1)) u) by have h := at_idx (B u y) HW.out x; rw [hidx] at h; exact h)
        have I2 := qh (fun (u : World) (y : Ext w u) => rIndex_no (BR u y) hg)
        have I3 := qh (fun (u : World) (y : Ext w u) => show Calls Tryz.prog 116 #[.pointer (some ⟨tb, 0, none⟩), .int .i64 x] u (RSame (.int .i64 (-1)) u) by obtain ⟨own, ptr, h, _⟩ := (B u y).out; exact Depth_none h hg)
        have I4 := qh (fun (u : World) (y : Ext w u) => rDepth_no (BR u y) hg)
        have I5 := qh (fun (u : World) (y : Ext w u) => show Calls Tryz.prog 118 #[.pointer (some ⟨tb, 0, none⟩), .int .i64 x] u (RSame (.int .i64 (-1)) u) by obtain ⟨own, ptr, h, _⟩ := (B u y).out; exact Height_none h hg)
        have I6 := qh (fun (u : World) (y : Ext w u) => rHeight_no (BR u y) hg)
        have I7 := qh (fun (u : World) (y : Ext w u) => show Calls Tryz.prog 120 #[.pointer (some ⟨tb, 0, none⟩), .int .i64 x] u (RVal (.bool false) u) by have h := at_live (B u y) HW.out x; rw [hlv] at h; exact h)
        have bz := heap_alloc_new wr (.cells #[.int .i64 0, .int .i64 0, .int .i64 0, .slice none 0 0, .string ⟨#[]⟩, .slice none 0 0] 121)
        have XZW := qh (HXR.out.trans XZ)
        clear hg hup hidx hlv B BR
        go_upto_region 16 with (go_at_call 91; refine (rHas_no (HR.out.ext XZW.out) HG.out).mono ?_; rintro e w' ⟨rfl, rfl⟩)
        obtain ⟨wz, hwz⟩ : ∃ wz : World, wz = wr.alloc (.cells #[.int .i64 0, .int .i64 0, .int .i64 0, .slice none 0 0, .string ⟨#[]⟩, .slice none 0 0] 121) := ⟨_, rfl⟩
        rw [← hwz] at bz XZW ⊢
        clear hwz XZ
        have e3 := fun u : ExtOf wz => u.ext.cell (cellOf bz (i := 3) (v := .slice none 0 0) rfl)
        have e4 := fun u : ExtOf wz => u.ext.cell (cellOf bz (i := 4) (v := .string ⟨#[]⟩) rfl)
        have e5 := fun u : ExtOf wz => u.ext.cell (cellOf bz (i := 5) (v := .slice none 0 0) rfl)
        refine wp_region_ext (by kernel_rfl) (by kernel_rfl) ?_
        repeat (go_big_quiet_step (first | (go_at_call 75; exact inExt (K1.out _ (XZW.out.trans (ExtOf.ext _)))) | (go_at_call 91; exact inExt (K2.out _ (XZW.out.trans (ExtOf.ext _)))) | (go_at_call 76; exact inExt (K3.out _ (XZW.out.trans (ExtOf.ext _)))) | (go_at_call 53; exact inExt (K4.out _ (XZW.out.trans (ExtOf.ext _)))) | (go_at_call 77; exact inExt (K5.out _ (XZW.out.trans (ExtOf.ext _)))) | (go_at_call 114; exact inExt (K6.out _ (XZW.out.trans (ExtOf.ext _)))) | (go_at_call 104; exact inExt (K7.out _ (XZW.out.trans (ExtOf.ext _)))) | (go_at_call 113; exact inExt (K8.out _)) | (go_at_call 115; exact inExt (K9.out _))))
        refine wpQuiet_nil ?_
        rintro _ ⟨u, rfl⟩
        clear e3 e4 e5 bz
        have HU := qh (XZW.out.trans u.ext)
        go_wp2_with (first | (go_at_call 54; refine (I1.out _ HU.out).mono ?_; rintro e v1 ⟨rfl, hv⟩; have HU1 := qh (HU.out.trans hv); clear hv) | (go_at_call 90; refine (I2.out _ HU1.out).mono ?_; rintro e v2 ⟨rfl, hv⟩; have HU2 := qh (HU1.out.trans hv); clear hv) | (go_at_call 116; refine (I3.out _ HU2.out).mono ?_; rintro e w' ⟨rfl, rfl⟩) | (go_at_call 117; refine (I4.out _ HU2.out).mono ?_; rintro e w' ⟨rfl, rfl⟩) | (go_at_call 118; refine (I5.out _ HU2.out).mono ?_; rintro e w' ⟨rfl, rfl⟩) | (go_at_call 119; refine (I6.out _ HU2.out).mono ?_; rintro e w' ⟨rfl, rfl⟩) | (go_at_call 120; refine (I7.out _ HU2.out).mono ?_; rintro e v3 ⟨rfl, hv⟩; have HU3 := qh (HU2.out.trans hv); clear hv))
        go_roundw
        case rel => exact ⟨x + 1, by go_num, by omega, by omega, HU3.out⟩
        case measure => simp [intOf]; omega
      | some nd =>
        obtain ⟨i, rfl, hi, hil⟩ := nodes_some hg
        have HG := qh hg
        have HI := qh hi
        obtain ⟨g, cap, aa, ac, ka, kc, c, n0, n1, n2, n3, n4, n5, hav, hkv⟩ := (HR.out.ext HXR.out).one hi
        have ngz : g ≠ wr.heap.size := Nat.ne_of_lt (cell_lt n0)
        have ngz' := Ne.symm ngz
        replace c := XZ.cell c
        replace n0 : (wr.alloc (.cells #[.int .i64 0, .int .i64 0, .int .i64 0, .slice none 0 0, .string ⟨#[]⟩, .slice none 0 0] 121)).cell? ⟨g, i * 6, none⟩ = some (.int .i64 1) := XZ.cell n0
        replace n1 : (wr.alloc (.cells #[.int .i64 0, .int .i64 0, .int .i64 0, .slice none 0 0, .string ⟨#[]⟩, .slice none 0 0] 121)).cell? ⟨g, i * 6 + 1, none⟩ = some (.int .i64 nd.tag) := XZ.cell n1
        replace n2 : (wr.alloc (.cells #[.int .i64 0, .int .i64 0, .int .i64 0, .slice none 0 0, .string ⟨#[]⟩, .slice none 0 0] 121)).cell? ⟨g, i * 6 + 2, none⟩ = some (.int .i64 nd.parent) := XZ.cell n2
        replace n3 : (wr.alloc (.cells #[.int .i64 0, .int .i64 0, .int .i64 0, .slice none 0 0, .string ⟨#[]⟩, .slice none 0 0] 121)).cell? ⟨g, i * 6 + 3, none⟩ = some (.slice aa nd.attrs.length ac) := XZ.cell n3
        replace n4 : (wr.alloc (.cells #[.int .i64 0, .int .i64 0, .int .i64 0, .slice none 0 0, .string ⟨#[]⟩, .slice none 0 0] 121)).cell? ⟨g, i * 6 + 4, none⟩ = some (.string nd.text) := XZ.cell n4
        replace n5 : (wr.alloc (.cells #[.int .i64 0, .int .i64 0, .int .i64 0, .slice none 0 0, .string ⟨#[]⟩, .slice none 0 0] 121)).cell? ⟨g, i * 6 + 5, none⟩ = some (.slice ka nd.kids.length kc) := XZ.cell n5
        have HAV := qh (show RowRd wr 2 (.slice aa nd.attrs.length ac) nd.attrs.length (attrCells nd.attrs) from hav)
        have HKV := qh (show RowRd wr 1 (.slice ka nd.kids.length kc) nd.kids.length (nd.kids.map (Value.int .i64)) from hkv)
        have XZW := qh (HXR.out.trans XZ)
        have bz := heap_alloc_new wr (.cells #[.int .i64 0, .int .i64 0, .int .i64 0, .slice none 0 0, .string ⟨#[]⟩, .slice none 0 0] 121)
        have z0 := cellOf bz (i := 0) (v := .int .i64 0) rfl
        have z1 := cellOf bz (i := 1) (v := .int .i64 0) rfl
        have z2 := cellOf bz (i := 2) (v := .int .i64 0) rfl
        have z3 := cellOf bz (i := 3) (v := .slice none 0 0) rfl
        have z4 := cellOf bz (i := 4) (v := .string ⟨#[]⟩) rfl
        have z5 := cellOf bz (i := 5) (v := .slice none 0 0) rfl
        have fz0 := freeOf bz 0
        have fz1 := freeOf bz 1
        have fz2 := freeOf bz 2
        have fz3 := freeOf bz 3
        have fz4 := freeOf bz 4
        have fz5 := freeOf bz 5
        clear hg hi hav hkv
        obtain ⟨r, hr⟩ : ∃ r, T.rootOf (i : Int) = r := ⟨_, rfl⟩
        obtain ⟨lv, hlv⟩ : ∃ lv, T.live (i : Int) = lv := ⟨_, rfl⟩
        have hrb : (r == 0) = lv := by
          have := live_of_root HW.out HG.out
          rw [hlv, hr] at this
          rw [this]
          by_cases h : r = 0
          · rw [h]; rfl
          · simp [h]
        have K1 := qh (fun (u : World) (y : Ext w u) => show Calls Tryz.prog 75 #[.pointer (some ⟨tb, 0, none⟩), .int .i64 i] u (RVal (.bool true) u) by have h := at_has (HT.out.ext y) (i : Int); rw [HG.out] at h; exact h)
        have K2 := qh (fun (u : World) (y : Ext w u) => RSame.val (rHas_yes (HR.out.ext y) HG.out))
        have K3 := qh (fun (u : World) (y : Ext w u) => show Calls Tryz.prog 76 #[.pointer (some ⟨tb, 0, none⟩), .int .i64 i] u (RVal (.int .i64 nd.tag) u) by have h := at_tag (HT.out.ext y) (i : Int); unfold Tr.tagOf at h; rw [HG.out] at h; exact h)
        have K4 := qh (fun (u : World) (y : Ext w u) => show Calls Tryz.prog 53 #[.pointer (some ⟨tb, 0, none⟩), .int .i64 i] u (RVal (.int .i64 nd.parent) u) by have h := at_up (HT.out.ext y) (i : Int); rw [Tr.up_some HG.out] at h; exact h)
        have K5 := qh (fun (u : World) (y : Ext w u) => show Calls Tryz.prog 77 #[.pointer (some ⟨tb, 0, none⟩), .int .i64 i] u (RVal (.string nd.text) u) by have h := at_told (HT.out.ext y) (i : Int); unfold Tr.txt at h; rw [HG.out] at h; exact h)
        have hal : nd.attrs.length ≤ 60000 := (HA.out i nd HI.out).1
        have hkl : nd.kids.length ≤ 2000 := HW.out.kids_len HI.out
        have K6 := qh (fun (u : World) (y : Ext w u) => show Calls Tryz.prog 114 #[.pointer (some ⟨tb, 0, none⟩), .int .i64 i] u (RRow 110 2 nd.attrs.length (attrCells nd.attrs) u) by obtain ⟨own, ptr, h, _⟩ := (HT.out.ext y).out; exact Attrs_some h HG.out hal)
        have K7 := qh (fun (u : World) (y : Ext w u) => show Calls Tryz.prog 104 #[.pointer (some ⟨tb, 0, none⟩), .int .i64 i] u (RRow 3 1 nd.kids.length (nd.kids.map (Value.int .i64)) u) by obtain ⟨own, ptr, h, _⟩ := (HT.out.ext y).out; exact Kids_some h HG.out (by omega))
        have K8 := qh (fun (u : World) (v v' : Value) (h : RowRd u 2 v nd.attrs.length (attrCells nd.attrs)) (h' : RowRd u 2 v' nd.attrs.length (attrCells nd.attrs)) => SameAttrs_eq hal h h')
        have K9 := qh (fun (u : World) (v v' : Value) (h : RowRd u 1 v nd.kids.length (nd.kids.map (Value.int .i64))) (h' : RowRd u 1 v' nd.kids.length (nd.kids.map (Value.int .i64))) => show Calls Tryz.prog 115 #[v, v'] u (RVal (.bool true) u) by have q := Ints8_any h h' (by omega) (by omega); rw [decide_eq_true rfl] at q; exact q)
        have I1 := qh (fun (u : World) (y : Ext w u) => at_idx (HT.out.ext y) HW.out (i : Int))
        have I2 := qh (fun (u : World) (y : Ext w u) => rIndex (HR.out.ext y) HW.out (i : Int))
        have I3 := qh (fun (u : World) (y : Ext w u) => at_depth8 (HT.out.ext y) HW.out HI.out)
        have I4 := qh (fun (u : World) (y : Ext w u) => rDepth (HR.out.ext y) HW.out HG.out)
        have I5 := qh (fun (u : World) (y : Ext w u) => at_height (HT.out.ext y) HW.out HI.out)
        have I6 := qh (fun (u : World) (y : Ext w u) => rHeight (HR.out.ext y) HW.out (i : Int) nd HG.out)
        have I7 := qh (fun (u : World) (y : Ext w u) => show Calls Tryz.prog 120 #[.pointer (some ⟨tb, 0, none⟩), .int .i64 i] u (RVal (.bool lv) u) by have h := at_live (HT.out.ext y) HW.out (i : Int); rw [hlv] at h; exact h)
        have RT := qh (fun (u : World) (y : Ext w u) => show Calls Tryz.prog 112 #[.pointer (some ⟨rb, 0, none⟩), .int .i64 i] u (RSame (.int .i64 r) u) by have h := rRoot (HR.out.ext y) HW.out HG.out; rw [hr] at h; exact h)
        clear hr hlv
        go_upto_region 14 with (go_at_call 91; refine (rHas_yes (HR.out.ext XZW.out) HG.out).mono ?_; rintro e w' ⟨rfl, rfl⟩)
        have xz := (Ext.refl wr).alloc (.cells #[.int .i64 1, .int .i64 nd.tag, .int .i64 nd.parent, .slice aa nd.attrs.length ac, .string nd.text, .slice ka nd.kids.length kc] 121)
        have bz := heap_alloc_new wr (.cells #[.int .i64 1, .int .i64 nd.tag, .int .i64 nd.parent, .slice aa nd.attrs.length ac, .string nd.text, .slice ka nd.kids.length kc] 121)
        obtain ⟨wz, hwz⟩ : ∃ wz : World, wz = wr.alloc (.cells #[.int .i64 1, .int .i64 nd.tag, .int .i64 nd.parent, .slice aa nd.attrs.length ac, .string nd.text, .slice ka nd.kids.length kc] 121) := ⟨_, rfl⟩
        rw [← hwz] at bz xz
        rw [← hwz]
        clear hwz XZ XZW c n0 n1 n2 n3 n4 n5
        have q1 := cellOf bz (i := 1) (v := .int .i64 nd.tag) rfl
        have q2 := cellOf bz (i := 2) (v := .int .i64 nd.parent) rfl
        have q3 := cellOf bz (i := 3) (v := .slice aa nd.attrs.length ac) rfl
        have q4 := cellOf bz (i := 4) (v := .string nd.text) rfl
        have q5 := cellOf bz (i := 5) (v := .slice ka nd.kids.length kc) rfl
        have e1 := fun u : ExtOf wz => u.ext.cell q1
        have e2 := fun u : ExtOf wz => u.ext.cell q2
        have HAZ := qh (HAV.out.ext xz)
        have HKZ := qh (HKV.out.ext xz)
        have XW := qh (HXR.out.trans xz)
        clear xz bz
        refine wp_region_ext (by kernel_rfl) (by kernel_rfl) ?_
        repeat (go_big_quiet_step (fail))
        refine wpQuiet_nil ?_
        rintro _ ⟨y, rfl⟩
        clear e1 e2 q1 q2
        have y3 := y.ext.cell q3
        have y4 := y.ext.cell q4
        have y5 := y.ext.cell q5
        have YA := qh (HAZ.out.ext y.ext)
        have YK := qh (HKZ.out.ext y.ext)
        have YW := qh (XW.out.trans y.ext)
        obtain ⟨wy, hwy⟩ : ∃ wy : World, wy = y.val := ⟨_, rfl⟩
        rw [← hwy] at y3 y4 y5 YA YK YW ⊢
        clear hwy q3 q4 q5
        go_upto_region 16 with (go_at_call 112; refine (RT.out _ YW.out).mono ?_; rintro e w' ⟨rfl, rfl⟩)
        go_region_held3 (fun w' => w'.cell? ⟨wr.heap.size, 3, none⟩ = some (.slice aa nd.attrs.length ac) ∧ w'.cell? ⟨wr.heap.size, 4, none⟩ = some (.string nd.text) ∧ w'.cell? ⟨wr.heap.size, 5, none⟩ = some (.slice ka nd.kids.length kc))
          (first | exact ⟨y3, y4, y5⟩ | exact hkeep | go_keep)
          (first
          | (go_at_call 75; refine (K1.out _ (YW.out.trans (Ext.refl wy).drew)).mono ?_; rintro e u1 ⟨rfl, hy⟩; have X1 := qh ((Ext.refl wy).drew.trans hy); clear hy; have hkeep := (show _ ∧ _ ∧ _ from ⟨X1.out.cell y3, X1.out.cell y4, X1.out.cell y5⟩))
          | (go_at_call 91; refine (K2.out _ (YW.out.trans X1.out)).mono ?_; rintro e u2 ⟨rfl, hy⟩; have X2 := qh (X1.out.trans hy); clear hy; have hkeep := (show _ ∧ _ ∧ _ from ⟨X2.out.cell y3, X2.out.cell y4, X2.out.cell y5⟩))
          | (go_at_call 76; refine (K3.out _ (YW.out.trans X2.out)).mono ?_; rintro e u3 ⟨rfl, hy⟩; have X3 := qh (X2.out.trans hy); clear hy; have hkeep := (show _ ∧ _ ∧ _ from ⟨X3.out.cell y3, X3.out.cell y4, X3.out.cell y5⟩))
          | (go_at_call 53; refine (K4.out _ (YW.out.trans X3.out)).mono ?_; rintro e u4 ⟨rfl, hy⟩; have X4 := qh (X3.out.trans hy); clear hy; have hkeep := (show _ ∧ _ ∧ _ from ⟨X4.out.cell y3, X4.out.cell y4, X4.out.cell y5⟩))
          | (go_at_call 77; refine (K5.out _ (YW.out.trans X4.out)).mono ?_; rintro e u5 ⟨rfl, hy⟩; have X5 := qh (X4.out.trans hy); clear hy; have hkeep := (show _ ∧ _ ∧ _ from ⟨X5.out.cell y3, X5.out.cell y4, X5.out.cell y5⟩))
          | (go_at_call 114; refine (K6.out _ (YW.out.trans X5.out)).mono ?_; rintro e u6 ⟨va, rfl, hra, hy⟩; obtain ⟨a6, c6, e6, _⟩ := RowP.len_of' hra; subst e6; have X6 := qh (X5.out.trans hy); have RA := qh (RowP.rd hra); clear hy hra; have hkeep := (show _ ∧ _ ∧ _ from ⟨X6.out.cell y3, X6.out.cell y4, X6.out.cell y5⟩))
          | (go_at_call 113; refine (K8.out _ _ _ RA.out (YA.out.ext X6.out)).mono ?_; rintro e u7 ⟨rfl, hy⟩; have X7 := qh (X6.out.trans hy); clear hy; have hkeep := (show _ ∧ _ ∧ _ from ⟨X7.out.cell y3, X7.out.cell y4, X7.out.cell y5⟩))
          | (go_at_call 104; refine (K7.out _ (YW.out.trans X7.out)).mono ?_; rintro e u8 ⟨vk, rfl, hrk, hy⟩; obtain ⟨a8, c8, e8, _⟩ := RowP.len_of' hrk; subst e8; have X8 := qh (X7.out.trans hy); have RK := qh (RowP.rd hrk); clear hy hrk; have hkeep := (show _ ∧ _ ∧ _ from ⟨X8.out.cell y3, X8.out.cell y4, X8.out.cell y5⟩))
          | (go_at_call 115; refine (K9.out _ _ _ RK.out (YK.out.ext X8.out)).mono ?_; rintro e u9 ⟨rfl, hy⟩; have X9 := qh (X8.out.trans hy); clear hy; have hkeep := (show _ ∧ _ ∧ _ from ⟨X9.out.cell y3, X9.out.cell y4, X9.out.cell y5⟩)))
        have HU := qh (YW.out.trans X9.out)
        clear hkeep y3 y4 y5
        go_wp2_with (first | (go_at_call 54; refine (I1.out _ HU.out).mono ?_; rintro e v1 ⟨rfl, hv⟩; have HU1 := qh (HU.out.trans hv); clear hv) | (go_at_call 90; refine (I2.out _ HU1.out).mono ?_; rintro e v2 ⟨rfl, hv⟩; have HU2 := qh (HU1.out.trans hv); clear hv) | (go_at_call 116; refine (I3.out _ HU2.out).mono ?_; rintro e v3 ⟨rfl, hv⟩; have HU3 := qh (HU2.out.trans hv); clear hv) | (go_at_call 117; refine (I4.out _ HU3.out).mono ?_; rintro e w' ⟨rfl, rfl⟩) | (go_at_call 118; refine (I5.out _ HU3.out).mono ?_; rintro e v4 ⟨rfl, hv⟩; have HU4 := qh (HU3.out.trans hv); clear hv) | (go_at_call 119; refine (I6.out _ HU4.out).mono ?_; rintro e w' ⟨rfl, rfl⟩) | (go_at_call 120; refine (I7.out _ HU4.out).mono ?_; rintro e v5 ⟨rfl, hv⟩; have HU5 := qh (HU4.out.trans hv); clear hv))
        go_roundw
        case rel => exact ⟨(i : Int) + 1, by go_num, by omega, by omega, HU5.out⟩
        case measure => simp [intOf]; omega
    · obtain ⟨rd, h0, _⟩ := HW.out.root
      have P1 := qh (fun (u : World) (y : Ext w u) => show Calls Tryz.prog 23 #[.pointer (some ⟨tb, 0, none⟩), .int .i64 0] u (PlainIs (T.plain 0) u) by obtain ⟨own, ptr, h, hO⟩ := (HT.out.ext y).out; exact Plain_some h hO HW.out HA.out h0)
      have P2 := qh (fun (u : World) (y : Ext w u) => (rPlain_some (HR.out.ext y) HW.out HA.out h0 : Calls Tryz.prog 122 #[.pointer (some ⟨rb, 0, none⟩), .int .i64 0] u (PlainIs (T.plain 0) u)))
      clear h0
      go_wp2_with fail
      refine (P1.out _ HXR.out).mono ?_
      rintro e w2 ⟨v1, ga1, rfl, hr1, hx2, hg1⟩
      obtain ⟨av1, kv1, rfl, _, _⟩ := hr1.open
      have HX2 := qh (HXR.out.trans hx2)
      have HR1 := qh hr1
      have HG1 := qh hg1
      clear hr1 hx2 hg1
      go_wp2_with fail
      refine (P2.out _ HX2.out).mono ?_
      rintro e w3 ⟨v2, ga2, rfl, hr2, hx3, hg2⟩
      obtain ⟨av2, kv2, rfl, _, _⟩ := hr2.open
      have hs1 : RdN w3 (T.plain 0) (.agg #[.int .i64 (T.plain 0).tag, av1, .string (T.plain 0).text, kv1]) := HR1.out.cells fun q y hq => hx3.cells _ _ (HG1.out q y hq).1
      have hs2 : RdN w3 (T.plain 0) (.agg #[.int .i64 (T.plain 0).tag, av2, .string (T.plain 0).text, kv2]) := hr2.cells fun q y hq => (hg2 q y hq).1
      have SM := qh (SameNode_eq (T.plain 0) (plain_fair HA.out 0) w3 _ _ hs1 hs2)
      have HX3 := qh (HX2.out.trans hx3)
      clear hr2 hx3 hg2 hs1 hs2
      go_wp2_with fail
      refine SM.out.mono ?_
      rintro e w4 ⟨rfl, hx4⟩
      have HX4 := qh (HX3.out.trans hx4)
      clear hx4
      go_wp2_with fail
      go_ret
      exact ⟨rfl, HX4.out⟩
section
def DTwo (own : Ow) (w : World) (tb : Nat) (x er : Int) (T' : Tr) (e : Ending) (w' : World) : Prop := e = .returned (.tuple #[.int .i64 x, .int .i64 er]) ∧ After own w tb T' w'
section
variable {w : World} {own : Ow} {ptr : Nat → Nat} {tb : Nat} {T : Tr}
theorem derr_same (hT : TreeAt w own ptr tb T) (hO : Owned own w) {er : Int} {e : Ending} {w' : World} (h : RVal (.int .i64 er) w e w') : ErrAfter own w tb er T e w' := ⟨h.1, After.same hT hO h.2⟩
theorem dtwo_same (hT : TreeAt w own ptr tb T) (hO : Owned own w) {x er : Int} {e : Ending} {w' : World} (h : RTwo (.int .i64 x) (.int .i64 er) w e w') : DTwo own w tb x er T e w' := ⟨h.1, After.same hT hO h.2⟩
end
variable {T : Tr}
end
section
variable {w0 w w' g : World} {tb rb : Nat} {T1 T2 : Tr} {L : Nat → Prop}
end
theorem flat_take {α β : Type} (f : α → List β) (l : List α) (k : Nat) : ((l.take k).flatMap f).length ≤ (l.flatMap f).length := by
  have h : l.flatMap f = (l.take k).flatMap f ++ (l.drop k).flatMap f := by rw [← List.flatMap_append, List.take_append_drop]
  rw [h, List.length_append]
  omega
theorem flat_snoc {α β : Type} (f : α → List β) {l : List α} {k : Nat} {x : α} (h : l[k]? = some x) : (l.take (k + 1)).flatMap f = (l.take k).flatMap f ++ f x := by
  obtain ⟨hlt, rfl⟩ := List.getElem?_eq_some_iff.1 h
  rw [List.take_succ_eq_append_getElem hlt, List.flatMap_append]
  simp
section
variable {w : World} {rb : Nat} {T : Tr}
theorem rAll_no (h : RAt w rb T) {id : Int} (hg : T.get? id = none) : Calls Tryz.prog 92 #[.pointer (some ⟨rb, 0, none⟩), .int .i64 id] w (RVal (.slice none 0 0) w) := by
  have HAS := qh (rHas_no h hg)
  clear h hg
  go_enter Tryz.func92, Tryz.ntmps92
  go_wp2_with (go_at_call 91; refine HAS.out.mono ?_; rintro e w' ⟨rfl, rfl⟩)
  go_ret
  exact ⟨rfl, Ext.refl _⟩
theorem rAll_some {d : Nat → Nat} (hw : WF T d) : ∀ id : Int, ∀ nd, T.get? id = some nd → ∀ (w0 u : World), RAt w0 rb T → Ext w0 u → Calls Tryz.prog 92 #[.pointer (some ⟨rb, 0, none⟩), .int .i64 id] u (RRow 3 1 (T.pre id).length ((T.pre id).map (Value.int .i64)) u) := by
  refine hw.rise _ fun id ih nd hg w0 u hR0 hxu => ?_
  have hR := hR0.ext hxu
  have HAS := qh (rHas_yes hR hg)
  have hp := hw.pre_step id
  have h2000 := hw.pre_2000 ⟨nd, hg⟩
  have hk : T.kidsOf id = nd.kids := by unfold Tr.kidsOf; rw [hg]
  rw [hk] at ih hp
  obtain ⟨i, rfl, hi, hl⟩ := nodes_some hg
  obtain ⟨g, cap, aa, ac, ka, kc, c, c0, c1, c2, c3, c4, c5, _, hrk⟩ := hR.one hi
  replace c5 : u.cell? ⟨g, i * 6 + 5, none⟩ = some (.slice ka nd.kids.length kc) := c5
  replace hrk : RowRd u 1 (.slice ka nd.kids.length kc) nd.kids.length (nd.kids.map (Value.int .i64)) := hrk
  obtain ⟨_, _, _, e, hkc, hkn, hkr⟩ := hrk
  cases e
  have hkl := hw.kids_len hi
  have HKN := qh hkn
  have HKR := qh hkr
  have IH := qh ih
  have HW := qh hw
  have HI := qh hi
  have HP := qh hp
  have H2 := qh h2000
  have HR := qh hR
  clear hkn hkr ih hw hi hg hk hR hR0 c0 c1 c2 c3 c4 hp h2000
  go_enter Tryz.func92, Tryz.ntmps92
  go_wp2_with (go_at_call 91; refine HAS.out.mono ?_; rintro e w' ⟨rfl, rfl⟩)
  have x1 := (Ext.refl u).alloc (.cells #[.int .i64 i] 3)
  have b1 := heap_alloc_new u (.cells #[.int .i64 i] 3)
  obtain ⟨u1, hu1⟩ : ∃ u1 : World, u1 = u.alloc (.cells #[.int .i64 i] 3) := ⟨_, rfl⟩
  rw [← hu1] at x1 b1
  rw [← hu1]
  clear hu1
  have hr1 : RowP u1 (fun b => u.heap.size ≤ b) 3 1 (.slice (some ⟨u.heap.size, 0, none⟩) 1 1) 1 [Value.int .i64 i] := ⟨rfl, .inr ⟨u.heap.size, 1, _, rfl, Nat.le_refl _, b1, Nat.le_refl _, by unfold maxLen; omega, rfl, rfl⟩⟩
  have HR1 := qh hr1
  have X1 := qh x1
  clear hr1 b1 x1
  go_loopw [5, 6] (fun v n wr => ∃ (k z : Nat) (xs : List Value), k ≤ nd.kids.length ∧ n = .int .i64 k ∧ Ext u wr ∧ RowP wr (fun b => u.heap.size ≤ b) 3 1 v z xs ∧ Hid (z = 1 + ((nd.kids.take k).flatMap T.pre).length ∧ xs = ((i : Int) :: (nd.kids.take k).flatMap T.pre).map (Value.int .i64))) (fun _ n _ => nd.kids.length - (intOf n).toNat)
  case atStart => exact ⟨0, 1, _, Nat.zero_le _, rfl, X1.out, HR1.out, qh ⟨by simp, by simp⟩⟩
  case round =>
    obtain ⟨k, z, xs, hk, rfl, hxr, hrow, hzx⟩ := hrel
    obtain ⟨va, vc, hve, _⟩ := hrow.rd.len_of
    subst hve
    have HROW := qh hrow
    have HXR := qh hxr
    replace c := hxr.cell c
    replace c5 := hxr.cell c5
    clear hrow HR1
    by_cases hlt : k < nd.kids.length
    · obtain ⟨x, hx⟩ : ∃ x, nd.kids[k]? = some x := ⟨nd.kids[k], by simp [hlt]⟩
      cases ka with
      | none => exact absurd (HKN.out rfl).1 (by omega)
      | some a =>
        obtain ⟨b, off, sp⟩ := a
        have cx := hxr.cells _ _ (HKR.out _ rfl k (.int .i64 x) (by rw [List.getElem?_map, hx]; rfl))
        obtain ⟨j, kd, h3, h4, h5, h6⟩ := HW.out.kid HI.out hx
        have hrec := IH.out x (List.mem_of_getElem? hx) kd (by rw [h3]; exact Tr.get_of h4) u wr HR.out hxr
        have hfs := flat_snoc T.pre hx
        have hft := flat_take T.pre nd.kids (k + 1)
        obtain ⟨m, hm⟩ : ∃ m, (T.pre x).length = m := ⟨_, rfl⟩
        have hlen : z + m ≤ 2000 := by
          have h1 := HP.out
          have h0 := hzx.out.1
          have h2 := H2.out
          rw [h1, List.length_cons] at h2
          rw [hfs, List.length_append] at hft
          omega
        rw [hm] at hrec
        have HM := qh hm
        clear hm
        have HFS := qh hfs
        have HREC := qh hrec
        clear hx h3 h4 h5 h6 hrec hfs hft hxr
        go_wp2_with fail
        refine HREC.out.mono ?_
        rintro e w2 ⟨v2, rfl, hr2, hx2⟩
        obtain ⟨a2, c2, e2, _⟩ := RowP.len_of' hr2
        subst e2
        obtain ⟨v3, w3, row, hrun, hra, hga, hrow3⟩ := append_ints (w := w2) (B := u.heap.size) (RowP.ext HROW.out hx2) (RowP.rd hr2) (by omega) (fun z hz => ints_one _ z hz)
        obtain ⟨a3, c3, e3, _⟩ := hra.rd.len_of
        subst e3
        have HRUN := qh (AppI.mk hrun)
        have X3 := qh ((HXR.out.trans hx2).grown hga hrow3)
        have hx2s := (HXR.out.trans hx2).size
        have HR3 := qh (RowP.imp hra (q := fun b => u.heap.size ≤ b) fun b _ hb => by rcases hb with h | h; exact h; exact Nat.le_trans hx2s h)
        clear hra hrun hga hrow3 hr2 hx2 hx2s
        go_wp2_with (at_builtin; refine wpList_app rfl _ _ rfl rfl _ _ rfl rfl _ _ HRUN.out ?_)
        go_roundw
        case rel => exact ⟨k + 1, z + m, _, by omega, by go_num, X3.out, HR3.out, qh ⟨by rw [HFS.out, List.length_append, ← Nat.add_assoc, HM.out, hzx.out.1], by rw [HFS.out, ← List.cons_append, List.map_append, hzx.out.2]⟩⟩
        case measure => simp [intOf]; omega
    · obtain rfl : k = nd.kids.length := by omega
      go_wp2_with fail
      go_ret
      have h := HROW.out
      obtain ⟨h1, h2⟩ := hzx.out
      rw [List.take_length] at h1 h2
      have e : (T.pre (i : Int)).length = z := by rw [HP.out, List.length_cons, h1]; omega
      rw [h2, ← HP.out, ← e] at h
      refine ⟨_, rfl, ?_, HXR.out⟩
      rw [← e]
      exact h
theorem rAll (h : RAt w rb T) {d : Nat → Nat} (hw : WF T d) (id : Int) : Calls Tryz.prog 92 #[.pointer (some ⟨rb, 0, none⟩), .int .i64 id] w (RRow 3 1 (T.allOf id).length ((T.allOf id).map (Value.int .i64)) w) := by
  unfold Tr.allOf
  cases hg : T.get? id with
  | none => exact (rAll_no h hg).mono fun e w' k => ⟨_, k.1, ⟨rfl, .inl ⟨rfl, none, rfl⟩⟩, k.2⟩
  | some nd => exact rAll_some hw id nd hg w w h (Ext.refl w)
end
theorem rChars (s : ByteArray) (hs : s.size ≤ 100000) (w : World) : Calls Tryz.prog 99 #[.string s] w (RVal (.int .i64 (runes s)) w) := by
  have h1 := run_runes_of_string (P := Tryz.prog) w 9 115 21 s Tryz.underlying9 Tryz.underlying115 Tryz.underlying21 (by have := size_runesFrom s s.size 0 #[]; simp at this; omega)
  have e1 : Conv.runesFrom s s.size 0 #[] = ((runeList s s.size 0).map (Value.int .i32)).toArray := by rw [runesFrom_eq]; simp
  have hz : runes s = (runeList s s.size 0).length := rfl
  have HZ := qh hz
  rw [e1] at h1
  clear hz e1 hs
  generalize runeList s s.size 0 = l at *
  generalize hk : grownCap w (List.map (Value.int IntKind.i32) l).toArray.size 0 21 = K at *
  clear hk
  generalize hC : (List.map (Value.int IntKind.i32) l).toArray ++ Array.replicate (K - (List.map (Value.int IntKind.i32) l).toArray.size) (Value.int IntKind.i32 0) = C at *
  simp only [List.size_toArray, List.length_map] at h1
  clear hC
  have HH1 := qh h1
  clear h1
  go_enter Tryz.func99, Tryz.ntmps99
  go_wp2_with fail
  rw [HH1.out]
  go_wp2_with fail
  go_ret
  exact ⟨by rw [HZ.out]; rfl, ((Ext.refl _).alloc _).drew⟩
section
variable {w : World} {rb : Nat} {T : Tr}
theorem rLength (h : RAt w rb T) {d : Nat → Nat} (hw : WF T d) (hA : AttrsOk T) (id : Int) : Calls Tryz.prog 143 #[.pointer (some ⟨rb, 0, none⟩), .int .i64 id] w (RVal (.int .i64 (T.lengthOf id)) w) := by
  cases hg : T.get? id with
  | none =>
    have HAS := qh (rHas_no h hg)
    have e : T.lengthOf id = -1 := by unfold Tr.lengthOf Tr.tagOf; rw [hg]; rfl
    rw [e]
    clear h hg e
    go_enter Tryz.func143, Tryz.ntmps143
    go_wp2_with (go_at_call 91; refine HAS.out.mono ?_; rintro e w' ⟨rfl, rfl⟩)
    go_ret
    exact ⟨rfl, Ext.refl _⟩
  | some nd =>
    have HAS := qh (rHas_yes h hg)
    have e : T.lengthOf id = if nd.tag = 0 then (runes nd.text : Int) else (nd.kids.length : Int) := by
      have ht := (hw.text _ _ (Tr.get_lt hg).2.2).1
      unfold Tr.lengthOf Tr.tagOf Tr.txt Tr.kidsOf
      rw [hg]
      show (if nd.tag = -1 then _ else _) = _
      rw [if_neg (by omega)]
    rw [e]
    obtain ⟨i, rfl, hi, hl⟩ := nodes_some hg
    have hts : nd.text.size ≤ 100000 := by have := (hA i nd hi).2; omega
    have HCH := qh (rChars nd.text hts w)
    obtain ⟨g, cap, aa, ac, ka, kc, c, c0, c1, c2, c3, c4, c5, _⟩ := h.one hi
    replace c1 : w.cell? ⟨g, i * 6 + 1, none⟩ = some (.int .i64 nd.tag) := c1
    replace c4 : w.cell? ⟨g, i * 6 + 4, none⟩ = some (.string nd.text) := c4
    replace c5 : w.cell? ⟨g, i * 6 + 5, none⟩ = some (.slice ka nd.kids.length kc) := c5
    clear h hw hA hg e hi c0 c2 c3
    by_cases ht : nd.tag = 0
    · rw [if_pos ht]
      have tb : (nd.tag == 0) = true := by simp [ht]
      clear ht
      go_enter Tryz.func143, Tryz.ntmps143
      go_wp2_with (first | (go_at_call 91; refine HAS.out.mono ?_; rintro e w' ⟨rfl, rfl⟩) | (go_at_call 99; refine HCH.out.mono ?_; rintro e w2 ⟨rfl, hx⟩))
      go_ret
      exact ⟨rfl, hx⟩
    · rw [if_neg ht]
      have tb : (nd.tag == 0) = false := by simpa using ht
      clear ht
      go_enter Tryz.func143, Tryz.ntmps143
      go_wp2_with (go_at_call 91; refine HAS.out.mono ?_; rintro e w' ⟨rfl, rfl⟩)
      go_ret
      exact ⟨rfl, Ext.refl _⟩
theorem rMay (h : RAt w rb T) {d : Nat → Nat} (hw : WF T d) (hA : AttrsOk T) (id at' : Int) : Calls Tryz.prog 102 #[.pointer (some ⟨rb, 0, none⟩), .agg #[.int .i64 id, .int .i64 at']] w (RVal (.bool (T.may id at')) w) := by
  have hlb := lengthOf_bound hw hA id
  have HLN := qh (fun (u : World) (x : Ext w u) => rLength (h.ext x) hw hA id)
  have HHS := qh (fun (u : World) (x : Ext w u) => RSame.val (rHas (h.ext x) id))
  obtain ⟨z, hz⟩ : ∃ z, T.may id at' = z := ⟨_, rfl⟩
  rw [hz]
  have hnone : T.get? id = none → T.lengthOf id = -1 := fun hg => by unfold Tr.lengthOf Tr.tagOf; rw [hg]; rfl
  obtain ⟨L, hL⟩ : ∃ L, T.lengthOf id = L := ⟨_, rfl⟩
  obtain ⟨hs, hhs⟩ : ∃ hs, (T.get? id).isSome = hs := ⟨_, rfl⟩
  rw [hL] at hlb HLN hnone
  rw [hhs] at HHS
  unfold Tr.may at hz
  rw [hL] at hz
  have hzz : (hs && (decide (0 ≤ at') && decide (at' ≤ L))) = z := by
    cases hg : T.get? id with
    | some nd => rw [← hhs, hg]; exact hz
    | none =>
      rw [← hhs, hg, ← hz, hnone hg]
      show false = _
      by_cases h0 : 0 ≤ at'
      · rw [decide_eq_false (show ¬ at' ≤ -1 by omega), Bool.and_false]
      · rw [decide_eq_false h0]; rfl
  have HZ := qh hzz
  have xm := (Ext.refl w).alloc (.cells #[.int .i64 id, .int .i64 at'] 43)
  have bm := heap_alloc_new w (.cells #[.int .i64 id, .int .i64 at'] 43)
  clear h hw hA hz hnone hL hhs hzz
  go_enter Tryz.func102, Tryz.ntmps102
  go_upto_region 1 with fail
  obtain ⟨B, hB⟩ : ∃ B, B = w.heap.size := ⟨_, rfl⟩
  obtain ⟨wm, hwm⟩ : ∃ wm : World, wm = w.alloc (.cells #[.int .i64 id, .int .i64 at'] 43) := ⟨_, rfl⟩
  rw [← hB] at bm ⊢
  rw [← hwm] at bm xm
  rw [← hwm]
  clear hwm hB
  have e0 := fun u : ExtOf wm => u.ext.cell (cellOf bm (i := 0) (v := .int .i64 id) rfl)
  have e1 := fun u : ExtOf wm => u.ext.cell (cellOf bm (i := 1) (v := .int .i64 at') rfl)
  have XM := qh xm
  clear bm xm
  have fin : ∀ u : World, Ext wm u → Ext w u := fun u x => XM.out.trans x
  have FIN := qh fin
  clear fin
  cases hs with
  | false =>
    have hz : z = false := by rw [← HZ.out]; rfl
    subst hz
    refine wp_region_ext (by kernel_rfl) (by kernel_rfl) ?_
    repeat (go_big_quiet_step (first | (go_at_call 91; exact inExt (HHS.out _ (XM.out.trans (ExtOf.ext _)))) | (go_at_call 143; exact inExt (HLN.out _ (XM.out.trans (ExtOf.ext _))))))
    refine wpQuiet_nil ?_
    rintro _ ⟨u, rfl⟩
    go_wp2_with fail
    go_ret
    exact ⟨rfl, FIN.out _ u.ext⟩
  | true =>
    by_cases h0 : 0 ≤ at'
    · by_cases h1 : at' ≤ L
      · have hz : z = true := by rw [← HZ.out, decide_eq_true h0, decide_eq_true h1]; rfl
        subst hz
        refine wp_region_ext (by kernel_rfl) (by kernel_rfl) ?_
        repeat (go_big_quiet_step (first | (go_at_call 91; exact inExt (HHS.out _ (XM.out.trans (ExtOf.ext _)))) | (go_at_call 143; exact inExt (HLN.out _ (XM.out.trans (ExtOf.ext _))))))
        refine wpQuiet_nil ?_
        rintro _ ⟨u, rfl⟩
        go_wp2_with fail
        go_ret
        exact ⟨rfl, FIN.out _ u.ext⟩
      · have hz : z = false := by rw [← HZ.out, decide_eq_false h1, Bool.and_false]; rfl
        subst hz
        refine wp_region_ext (by kernel_rfl) (by kernel_rfl) ?_
        repeat (go_big_quiet_step (first | (go_at_call 91; exact inExt (HHS.out _ (XM.out.trans (ExtOf.ext _)))) | (go_at_call 143; exact inExt (HLN.out _ (XM.out.trans (ExtOf.ext _))))))
        refine wpQuiet_nil ?_
        rintro _ ⟨u, rfl⟩
        go_wp2_with fail
        go_ret
        exact ⟨rfl, FIN.out _ u.ext⟩
    · have hz : z = false := by rw [← HZ.out, decide_eq_false h0]; rfl
      subst hz
      refine wp_region_ext (by kernel_rfl) (by kernel_rfl) ?_
      repeat (go_big_quiet_step (first | (go_at_call 91; exact inExt (HHS.out _ (XM.out.trans (ExtOf.ext _)))) | (go_at_call 143; exact inExt (HLN.out _ (XM.out.trans (ExtOf.ext _))))))
      refine wpQuiet_nil ?_
      rintro _ ⟨u, rfl⟩
      go_wp2_with fail
      go_ret
      exact ⟨rfl, FIN.out _ u.ext⟩
end
theorem RowP.at_ {w : World} {p : Nat → Prop} {e size n : Nat} {v : Value} {xs : List Value} (h : RowP w p e size v n xs) {k : Nat} {x : Value} (hk : xs[k]? = some x) :
    ∃ g cap cur, v = .slice (some ⟨g, 0, none⟩) n cap ∧ p g ∧ n ≤ cap ∧ w.heap[g]? = some (.cells cur e (0, 0)) ∧ cur[k]? = some x := by
  have hl := (List.getElem?_eq_some_iff.1 hk).1
  rcases h.2 with ⟨h0, _⟩ | ⟨g, cap, cur, h1, h2, h3, h4, h5, h6, h7⟩
  · have := h.1
    rw [h0, Nat.zero_mul] at this
    omega
  · refine ⟨g, cap, cur, h1, h2, h4, h3, ?_⟩
    rw [← h7, List.getElem?_take] at hk
    split at hk
    · rw [← Array.getElem?_toList]; exact hk
    · cases hk
theorem RowP.setOne {w : World} {p : Nat → Prop} {e size n : Nat} {v : Value} {xs : List Value} (h : RowP w p e size v n xs) {g k : Nat} (hg : v.ownBlock = some g) (x : Value) : RowP (w.setCell ⟨g, k, none⟩ x) p e size v n (xs.set k x) := by
  refine ⟨by rw [List.length_set]; exact h.1, ?_⟩
  rcases h.2 with h0 | ⟨g', cap, cur, h1, h2, h3, h4, h5, h6, h7⟩
  · exact .inl h0
  · rw [h1] at hg
    cases hg
    exact .inr ⟨g', cap, _, h1, h2, heap_setCell_same h3 x, h4, h5, by simpa using h6, by rw [Array.toList_setIfInBounds, List.take_set, h7]⟩
theorem RowP.lt_ {w : World} {p : Nat → Prop} {e size n : Nat} {v : Value} {xs : List Value} (h : RowP w p e size v n xs) : RowP w (fun g => p g ∧ g < w.heap.size) e size v n xs := by
  refine ⟨h.1, ?_⟩
  rcases h.2 with h0 | ⟨g, cap, cur, h1, h2, h3, h4⟩
  · exact .inl h0
  · exact .inr ⟨g, cap, cur, h1, ⟨h2, (Array.getElem?_eq_some_iff.1 h3).1⟩, h3, h4⟩
def plC (P : List (Int × Int)) : List Value := P.flatMap fun p => [.int .i64 p.1, .int .i64 p.2]
theorem plC_get {P : List (Int × Int)} {i : Nat} {p : Int × Int} (h : P[i]? = some p) : (plC P)[i * 2]? = some (.int .i64 p.1) ∧ (plC P)[i * 2 + 1]? = some (.int .i64 p.2) := by
  induction P generalizing i with
  | nil => cases h
  | cons q L ih =>
    cases i with
    | zero =>
      have : q = p := by simpa using h
      subst this
      exact ⟨rfl, rfl⟩
    | succ i =>
      have h2 := ih (i := i) (by simpa using h)
      show ([_, _] ++ plC L)[(i + 1) * 2]? = _ ∧ ([_, _] ++ plC L)[(i + 1) * 2 + 1]? = _
      rw [List.getElem?_append_right (by simp; omega), List.getElem?_append_right (by simp; omega)]
      rw [show (i + 1) * 2 - [Value.int IntKind.i64 q.1, Value.int IntKind.i64 q.2].length = i * 2 by simp; omega, show (i + 1) * 2 + 1 - [Value.int IntKind.i64 q.1, Value.int IntKind.i64 q.2].length = i * 2 + 1 by simp; omega]
      exact h2
theorem plC_set {P : List (Int × Int)} {i : Nat} {p : Int × Int} (hi : i < P.length) : ((plC P).set (i * 2) (.int .i64 p.1)).set (i * 2 + 1) (.int .i64 p.2) = plC (P.set i p) := by
  induction P generalizing i with
  | nil => cases hi
  | cons q L ih =>
    cases i with
    | zero => rfl
    | succ i =>
      have h2 := ih (i := i) (by simpa using hi)
      show ((Value.int IntKind.i64 q.1 :: Value.int IntKind.i64 q.2 :: plC L).set ((i + 1) * 2) _).set ((i + 1) * 2 + 1) _ = Value.int IntKind.i64 q.1 :: Value.int IntKind.i64 q.2 :: plC (L.set i p)
      rw [show (i + 1) * 2 = i * 2 + 1 + 1 by omega]
      simp only [List.set_cons_succ]
      rw [h2]
theorem plC_append (a b : List (Int × Int)) : plC (a ++ b) = plC a ++ plC b := List.flatMap_append
theorem rOut {w : World} {v : Value} {l : List Int} (h : RowRd w 1 v l.length (l.map (Value.int .i64))) (hl : l.length ≤ 100) (hok : ∀ x ∈ l, okI x) :
    Calls Tryz.prog 149 #[v] w (RSame (.bool false) w) := by
  obtain ⟨_, ao, cap, rfl, hcap, hnone, hc⟩ := h
  have HN := qh hnone
  have HC := qh hc
  have HO := qh hok
  obtain ⟨m, hm⟩ : ∃ m, l.length = m := ⟨_, rfl⟩
  have HM := qh hm
  rw [hm] at hl hcap ⊢
  clear hnone hc hok hm
  go_enter Tryz.func149, Tryz.ntmps149
  go_wp2_with fail
  go_loopw [3] (fun iv wr => ∃ i : Nat, i ≤ m ∧ iv = .int .i64 i ∧ wr = w) (fun iv _ => m - (intOf iv).toNat)
  case atStart => exact ⟨0, Nat.zero_le _, rfl, rfl⟩
  case round =>
    obtain ⟨i, him, rfl, rfl⟩ := hrel
    by_cases hlt : i < m
    · obtain ⟨x, hx⟩ : ∃ x, l[i]? = some x := ⟨_, List.getElem?_eq_getElem (by rw [HM.out]; exact hlt)⟩
      obtain ⟨a, rfl⟩ : ∃ a, ao = some a := by
        cases ao with
        | some a => exact ⟨a, rfl⟩
        | none => have := (HN.out rfl).1; have := HM.out; omega
      have q0 := HC.out a rfl i (.int .i64 x) (by rw [List.getElem?_map, hx]; rfl)
      have hxo := HO.out x (List.mem_of_getElem? hx)
      have f0 : decide (x < -1) = false := decide_eq_false (by unfold okI at hxo; omega)
      have f1 : decide (1073741824 < x) = false := decide_eq_false (by unfold okI at hxo; omega)
      have e0 : decide ((i : Int) < (m : Int)) = true := decide_eq_true (by omega)
      have e0n : decide (i < m) = true := decide_eq_true hlt
      have i0 : (0 : Int) ≤ (i : Int) := by omega
      have i1 : (i : Int) < (m : Int) := by omega
      have itn : (i : Int).toNat = i := by omega
      have HLT := qh hlt
      clear hx hxo hlt
      go_wp2_with fail
      go_roundw
      case rel => exact ⟨i + 1, by have := HLT.out; omega, by go_num, trivial⟩
      case measure => have := HLT.out; simp [intOf]; omega
    · have e0 : decide ((i : Int) < (m : Int)) = false := decide_eq_false (by omega)
      have e0n : decide (i < m) = false := decide_eq_false hlt
      go_wp2_with fail
      go_ret
      exact ⟨rfl, rfl⟩
theorem RefOn.lt {w : World} {F : Nat → Prop} {rb : Nat} {T : Tr} (h : RefOn w F rb T) : RefOn w (fun b => F b ∧ b < w.heap.size) rb T := by
  obtain ⟨ga, g, h, h1, h2, h3⟩ := h.out
  obtain ⟨cap, cur, b1, b2, b3, b4, b5, b6⟩ := h.row
  exact ⟨ga, g, h, ⟨h1, (Array.getElem?_eq_some_iff.1 b1).1⟩, ⟨h2, (Array.getElem?_eq_some_iff.1 b4).1⟩, fun q y hq => ⟨h3 q y hq, World.block_lt_of_cell? _ _ (h.told q y hq).1⟩⟩
theorem Chg.to_mv {F : Nat → Prop} {w w' : World} (h : Chg F w w') : Mv F w w' := ⟨h.os, h.tape, h.output, h.size, h.rest⟩
structure DocOn (w : World) (F : Nat → Prop) (xb rb : Nat) (T : Tr) (I : List Int) (P : List (Int × Int)) : Prop where
  len : P.length = I.length
  own : F xb
  out : ∃ F0 iv pv ib pb, RefOn w F0 rb T ∧ (∀ b, F0 b → F b ∧ b ≠ xb ∧ ib ≠ some b ∧ pb ≠ some b ∧ b < w.heap.size) ∧
    w.heap[xb]? = some (.cells #[.pointer (some ⟨rb, 0, none⟩), iv, pv] 76 (0, 0)) ∧
    RowP w (fun g => ib = some g) 3 1 iv I.length (I.map (Value.int .i64)) ∧ (∀ g, ib = some g → F g ∧ g ≠ xb ∧ pb ≠ some g ∧ g < w.heap.size) ∧
    RowP w (fun g => pb = some g) 43 2 pv P.length (plC P) ∧ (∀ g, pb = some g → F g ∧ g ≠ xb ∧ g < w.heap.size)
structure DAft (F : Nat → Prop) (w : World) (xb rb : Nat) (T : Tr) (I : List Int) (P : List (Int × Int)) (w' : World) : Prop where
  on : DocOn w' (fun b => F b ∨ w.heap.size ≤ b) xb rb T I P
  mv : Mv F w w'
section
variable {w w' : World} {F : Nat → Prop} {xb rb : Nat} {T : Tr} {I : List Int} {P : List (Int × Int)}
theorem DocOn.wide (h : DocOn w F xb rb T I P) {F' : Nat → Prop} (k : ∀ b, F b → F' b) : DocOn w F' xb rb T I P := by
  obtain ⟨F0, iv, pv, ib, pb, h1, h2, h3, h4, h5, h6, h7⟩ := h.out
  exact ⟨h.len, k _ h.own, F0, iv, pv, ib, pb, h1, fun b hb => ⟨k _ (h2 b hb).1, (h2 b hb).2⟩, h3, h4, fun g hg => ⟨k _ (h5 g hg).1, (h5 g hg).2⟩, h6, fun g hg => ⟨k _ (h7 g hg).1, (h7 g hg).2⟩⟩
theorem DocOn.mv {S : Nat → Prop} (h : DocOn w F xb rb T I P) (x : Mv S w w') (k : ∀ b, F b → ¬ S b) : DocOn w' F xb rb T I P := by
  obtain ⟨F0, iv, pv, ib, pb, h1, h2, h3, h4, h5, h6, h7⟩ := h.out
  exact ⟨h.len, h.own, F0, iv, pv, ib, pb, h1.keep fun b hb hl => x.rest b hl (k b (h2 b hb).1), fun b hb => ⟨(h2 b hb).1, (h2 b hb).2.1, (h2 b hb).2.2.1, (h2 b hb).2.2.2.1, Nat.lt_of_lt_of_le (h2 b hb).2.2.2.2 x.size⟩,
    x.block h3 (k _ h.own), RowP.mv h4 x fun g hg => k g (h5 g hg).1, fun g hg => ⟨(h5 g hg).1, (h5 g hg).2.1, (h5 g hg).2.2.1, Nat.lt_of_lt_of_le (h5 g hg).2.2.2 x.size⟩, RowP.mv h6 x fun g hg => k g (h7 g hg).1, fun g hg => ⟨(h7 g hg).1, (h7 g hg).2.1, Nat.lt_of_lt_of_le (h7 g hg).2.2 x.size⟩⟩
theorem DocOn.ext (h : DocOn w F xb rb T I P) (x : Ext w w') : DocOn w' F xb rb T I P := h.mv (S := fun _ => False) (Mv.ofExt x) fun _ _ h => h
theorem DAft.refl (h : DocOn w F xb rb T I P) : DAft F w xb rb T I P w := ⟨h.wide fun b hb => .inl hb, Mv.refl _ _⟩
theorem DAft.ext (h : DAft F w xb rb T I P w') {w2 : World} (x : Ext w' w2) : DAft F w xb rb T I P w2 := ⟨h.on.ext x, h.mv.ext x⟩
theorem DAft.after {w0 : World} (x : Ext w0 w) (h : DAft F w xb rb T I P w') : DAft F w0 xb rb T I P w' :=
  ⟨h.on.wide fun y hy => by rcases hy with hy | hy; exact .inl hy; exact .inr (Nat.le_trans x.size hy), (Mv.ofExt x).trans h.mv⟩
theorem DAft.trans {T' : Tr} {I' : List Int} {P' : List (Int × Int)} {w2 : World} (h : DAft F w xb rb T I P w') (k : DAft (fun b => F b ∨ w.heap.size ≤ b) w' xb rb T' I' P' w2) : DAft F w xb rb T' I' P' w2 :=
  ⟨k.on.wide fun y hy => by rcases hy with hy | hy; exact hy; exact .inr (Nat.le_trans h.mv.size hy),
    ⟨k.mv.os.trans h.mv.os, k.mv.tape.trans h.mv.tape, k.mv.output.trans h.mv.output, Nat.le_trans h.mv.size k.mv.size, fun x hx hn => (k.mv.rest x (Nat.lt_of_lt_of_le hx h.mv.size) (fun hf => by rcases hf with hf | hf; exact hn hf; omega)).trans (h.mv.rest x hx hn)⟩⟩
theorem DocOn.ref (h : DocOn w F xb rb T I P) : RAt w rb T := by
  obtain ⟨F0, iv, pv, ib, pb, h1, _⟩ := h.out
  exact h1.at
theorem DocOn.ptr_ (h : DocOn w F xb rb T I P) : w.cell? ⟨xb, 0, none⟩ = some (.pointer (some ⟨rb, 0, none⟩)) := by
  obtain ⟨F0, iv, pv, ib, pb, _, _, h3, _⟩ := h.out
  exact cellOf h3 rfl
theorem DocOn.tree (h : DocOn w F xb rb T I P) : ∃ F0, RefOn w F0 rb T ∧ (∀ b, F0 b → F b) ∧ ∀ T' w', RAft F0 w rb T' w' → DAft F w xb rb T' I P w' := by
  obtain ⟨F0, iv, pv, ib, pb, h1, h2, h3, h4, h5, h6, h7⟩ := h.out
  refine ⟨F0, h1, fun b hb => (h2 b hb).1, fun T' w' hr => ?_⟩
  have hm : Mv F0 w w' := hr.chg.to_mv
  have hxl := (Array.getElem?_eq_some_iff.1 h3).1
  have nx : ¬ F0 xb := fun hf => (h2 xb hf).2.1 rfl
  have ni : ∀ g, ib = some g → ¬ F0 g := fun g hg hf => (h2 g hf).2.2.1 hg
  have np : ∀ g, pb = some g → ¬ F0 g := fun g hg hf => (h2 g hf).2.2.2.1 hg
  refine ⟨⟨h.len, .inl h.own, (fun b => (F0 b ∨ w.heap.size ≤ b) ∧ b < w'.heap.size), iv, pv, ib, pb, hr.on.lt, fun b hb => ⟨?_, ?_, ?_, ?_, hb.2⟩, hm.block h3 nx, RowP.mv h4 hm ni, fun g hg => ⟨.inl (h5 g hg).1, (h5 g hg).2.1, (h5 g hg).2.2.1, Nat.lt_of_lt_of_le (h5 g hg).2.2.2 hm.size⟩, RowP.mv h6 hm np, fun g hg => ⟨.inl (h7 g hg).1, (h7 g hg).2.1, Nat.lt_of_lt_of_le (h7 g hg).2.2 hm.size⟩⟩, ⟨hm.os, hm.tape, hm.output, hm.size, fun x hx hn => hm.rest x hx fun hf => hn (h2 x hf).1⟩⟩
  · rcases hb.1 with hf | hf
    · exact .inl (h2 b hf).1
    · exact .inr hf
  · rcases hb.1 with hf | hf
    · exact (h2 b hf).2.1
    · omega
  · rcases hb.1 with hf | hf
    · exact (h2 b hf).2.2.1
    · intro e
      have := (h5 b e).2.2.2
      omega
  · rcases hb.1 with hf | hf
    · exact (h2 b hf).2.2.2.1
    · intro e
      have := (h7 b e).2.2
      omega
theorem DocOn.setI (h : DocOn w F xb rb T I P) {iv : Value} (hiv : w.cell? ⟨xb, 1, none⟩ = some iv) {g k : Nat} (hg : iv.ownBlock = some g) (hk : k < I.length) (x : Int) : DocOn (w.setCell ⟨g, k, none⟩ (.int .i64 x)) F xb rb T (I.set k x) P ∧ F g := by
  obtain ⟨F0, iv', pv, ib, pb, h1, h2, h3, h4, h5, h6, h7⟩ := h.out
  have e : iv' = iv := by
    rw [cellOf h3 (i := 1) rfl] at hiv
    exact Option.some.inj hiv
  subst e
  have hib : ib = some g := by
    rcases h4.2 with ⟨h0, _⟩ | ⟨g', cap, cur, q1, q2, _⟩
    · omega
    · rw [q1] at hg; cases hg; exact q2
  obtain ⟨fg, gx, gp, gl⟩ := h5 g hib
  have hm : Mv (fun b => b = g) w (w.setCell ⟨g, k, none⟩ (.int .i64 x)) := (Mv.refl (fun b => b = g) w).setCell (p := ⟨g, k, none⟩) (fun _ => rfl) _
  have h4' := RowP.setOne h4 hg (.int .i64 x) (k := k)
  rw [← List.map_set] at h4'
  refine ⟨⟨by rw [List.length_set]; exact h.len, h.own, F0, iv', pv, ib, pb, h1.keep fun b hb hl => hm.rest b hl fun e => (h2 b hb).2.2.1 (by rw [hib, e]), fun b hb => ⟨(h2 b hb).1, (h2 b hb).2.1, (h2 b hb).2.2.1, (h2 b hb).2.2.2.1, Nat.lt_of_lt_of_le (h2 b hb).2.2.2.2 hm.size⟩,
    hm.block h3 (fun e => gx e.symm), by rw [List.length_set]; exact h4', fun y hy => ⟨(h5 y hy).1, (h5 y hy).2.1, (h5 y hy).2.2.1, Nat.lt_of_lt_of_le (h5 y hy).2.2.2 hm.size⟩, RowP.mv h6 hm fun y hy e => gp (by rw [hy]; exact congrArg some e), fun y hy => ⟨(h7 y hy).1, (h7 y hy).2.1, Nat.lt_of_lt_of_le (h7 y hy).2.2 hm.size⟩⟩, fg⟩
theorem DocOn.setP (h : DocOn w F xb rb T I P) {pv : Value} (hpv : w.cell? ⟨xb, 2, none⟩ = some pv) {g k : Nat} (hg : pv.ownBlock = some g) (hk : k < P.length) (n a : Int) :
    DocOn ((w.setCell ⟨g, k * 2, none⟩ (.int .i64 n)).setCell ⟨g, k * 2 + 1, none⟩ (.int .i64 a)) F xb rb T I (P.set k (n, a)) ∧ F g := by
  obtain ⟨F0, iv, pv', ib, pb, h1, h2, h3, h4, h5, h6, h7⟩ := h.out
  have e : pv' = pv := by
    rw [cellOf h3 (i := 2) rfl] at hpv
    exact Option.some.inj hpv
  subst e
  have hpb : pb = some g := by
    rcases h6.2 with ⟨h0, _⟩ | ⟨g', cap, cur, q1, q2, _⟩
    · omega
    · rw [q1] at hg; cases hg; exact q2
  obtain ⟨fg, gx, gl⟩ := h7 g hpb
  have hm : Mv (fun b => b = g) w ((w.setCell ⟨g, k * 2, none⟩ (.int .i64 n)).setCell ⟨g, k * 2 + 1, none⟩ (.int .i64 a)) := ((Mv.refl (fun b => b = g) w).setCell (p := ⟨g, k * 2, none⟩) (fun _ => rfl) _).setCell (p := ⟨g, k * 2 + 1, none⟩) (fun _ => rfl) _
  have h6' := RowP.setOne (RowP.setOne h6 hg (.int .i64 n) (k := k * 2)) hg (.int .i64 a) (k := k * 2 + 1)
  have hs := plC_set (p := (n, a)) hk
  dsimp only at hs
  rw [hs] at h6'
  refine ⟨⟨by rw [List.length_set]; exact h.len, h.own, F0, iv, pv', ib, pb, h1.keep fun b hb hl => hm.rest b hl fun e => (h2 b hb).2.2.2.1 (by rw [hpb, e]), fun b hb => ⟨(h2 b hb).1, (h2 b hb).2.1, (h2 b hb).2.2.1, (h2 b hb).2.2.2.1, Nat.lt_of_lt_of_le (h2 b hb).2.2.2.2 hm.size⟩,
    hm.block h3 (fun e => gx e.symm), RowP.mv h4 hm fun y hy e => (h5 y hy).2.2.1 (by rw [hpb]; exact congrArg some (show g = y from e.symm)), fun y hy => ⟨(h5 y hy).1, (h5 y hy).2.1, (h5 y hy).2.2.1, Nat.lt_of_lt_of_le (h5 y hy).2.2.2 hm.size⟩, by rw [List.length_set]; exact h6', fun y hy => ⟨(h7 y hy).1, (h7 y hy).2.1, Nat.lt_of_lt_of_le (h7 y hy).2.2 hm.size⟩⟩, fg⟩
end
def five (a b c d e : Int) : Value := .agg #[.int .i64 a, .int .i64 b, .int .i64 c, .int .i64 d, .int .i64 e]
theorem four_new (w : World) (A B C D : Array Value) (ta tb tc td : TypeId) : ∃ (wd : World) (b0 b1 b2 b3 : Nat), w.heap.size = b0 ∧ b0 + 1 = b1 ∧ b1 + 1 = b2 ∧ b2 + 1 = b3 ∧ wd = (((w.alloc (.cells A ta)).alloc (.cells B tb)).alloc (.cells C tc)).alloc (.cells D td) ∧ Ext w wd ∧
    wd.heap[b0]? = some (.cells A ta (0, 0)) ∧ wd.heap[b1]? = some (.cells B tb (0, 0)) ∧ wd.heap[b2]? = some (.cells C tc (0, 0)) ∧ wd.heap[b3]? = some (.cells D td (0, 0)) ∧ wd.heap.size = b3 + 1 := by
  have x1 := (Ext.refl w).alloc (.cells A ta)
  have x2 := (Ext.refl (w.alloc (.cells A ta))).alloc (.cells B tb)
  have x3 := (Ext.refl ((w.alloc (.cells A ta)).alloc (.cells B tb))).alloc (.cells C tc)
  have x4 := (Ext.refl (((w.alloc (.cells A ta)).alloc (.cells B tb)).alloc (.cells C tc))).alloc (.cells D td)
  have h1 := heap_alloc_new w (.cells A ta)
  have h2 := heap_alloc_new (w.alloc (.cells A ta)) (.cells B tb)
  have h3 := heap_alloc_new ((w.alloc (.cells A ta)).alloc (.cells B tb)) (.cells C tc)
  have h4 := heap_alloc_new (((w.alloc (.cells A ta)).alloc (.cells B tb)).alloc (.cells C tc)) (.cells D td)
  have s1 : (w.alloc (.cells A ta)).heap.size = w.heap.size + 1 := by simp
  have s2 : ((w.alloc (.cells A ta)).alloc (.cells B tb)).heap.size = w.heap.size + 1 + 1 := by simp
  have s3 : (((w.alloc (.cells A ta)).alloc (.cells B tb)).alloc (.cells C tc)).heap.size = w.heap.size + 1 + 1 + 1 := by simp
  rw [s1] at h2
  rw [s2] at h3
  rw [s3] at h4
  exact ⟨_, _, _, _, _, rfl, rfl, rfl, rfl, rfl, x1.trans (x2.trans (x3.trans x4)), (x2.trans (x3.trans x4)).block h1, (x3.trans x4).block h2, x4.block h3, h4, by simp⟩
theorem rChange0 (n at' a b c d e : Int) (w : World) (o0 : okI n) (o1 : okI at') (o2 : okI a) (o3 : okI b) (o4 : okI c) : Calls Tryz.prog 135 #[pl n at', .int .i64 0, five a b c d e] w (RPlace (n) (insA n at' a b c) w) := by
  unfold five
  obtain ⟨wd, b0, b1, b2, b3, hb0, hb1, hb2, hb3, hwd, xd, h0, h1, h2, h3, hsz⟩ := four_new w #[.int .i64 n, .int .i64 at'] #[.int .i64 a, .int .i64 b, .int .i64 c, .int .i64 d, .int .i64 e] #[.int .i64 0, .int .i64 0] #[.int .i64 3, .int .i64 2, .int .i64 2, .int .i64 4, .int .i64 5, .int .i64 5, .int .i64 5, .int .i64 4, .int .i64 4, .int .i64 4] 43 128 43 3
  obtain ⟨za, hza⟩ : ∃ z, insA n at' a b c = z := ⟨_, rfl⟩
  rw [hza]
  have HZA := qh hza
  clear hza
  have HB0 := qh hb0
  have HB1 := qh hb1
  have HB2 := qh hb2
  have HB3 := qh hb3
  have HWD := qh hwd
  have XD := qh xd
  have H0 := qh h0
  have H1 := qh h1
  have H2 := qh h2
  have H3 := qh h3
  have HSZ := qh hsz
  have OK : Hid (∀ x ∈ [n, at', a, b, c], okI x) := qh (by
    intro x hx
    simp only [List.mem_cons, List.not_mem_nil, or_false] at hx
    rcases hx with rfl | rfl | rfl | rfl | rfl
    all_goals assumption)
  clear hb0 hb1 hb2 hb3 hwd xd h0 h1 h2 h3 hsz o0 o1 o2 o3 o4
  go_enter Tryz.func135, Tryz.ntmps135
  go_upto_region 2 with fail
  rw [← HWD.out, HB0.out, HB1.out, HB2.out, HB3.out]
  have m0 := cellOf H0.out (i := 0) (v := .int .i64 n) rfl
  have m1 := cellOf H0.out (i := 1) (v := .int .i64 at') rfl
  have m2 := cellOf H3.out (i := 0) (v := .int .i64 3) rfl
  refine wp_region_E (S := fun w' => w'.cell? ⟨b0, 0, none⟩ = some (.int .i64 n) ∧ w'.cell? ⟨b0, 1, none⟩ = some (.int .i64 at') ∧ w'.cell? ⟨b3, 0, none⟩ = some (.int .i64 3)) (n := 11) (by kernel_rfl) ?_
  have xz : Ext wd wd.drew := (Ext.refl wd).drew
  have sz : wd.drew.heap.size = wd.heap.size := rfl
  obtain ⟨wz, hwz⟩ : ∃ W : World, W = wd.drew := ⟨_, rfl⟩
  rw [← hwz] at xz sz ⊢
  clear hwz
  have hS : wz.cell? ⟨b0, 0, none⟩ = some (.int .i64 n) ∧ wz.cell? ⟨b0, 1, none⟩ = some (.int .i64 at') ∧ wz.cell? ⟨b3, 0, none⟩ = some (.int .i64 3) := ⟨xz.cell m0, xz.cell m1, xz.cell m2⟩
  obtain ⟨v8, wA, row, hrun, hra, hga, hrow⟩ := append_ints (w := wz.alloc (.cells #[.int .i64 n, .int .i64 at'] 3)) (B := wz.heap.size) (v := .slice (some ⟨wz.heap.size, 0, none⟩) 2 2) (n := 2) (xs := [.int .i64 n, .int .i64 at']) ⟨rfl, .inr ⟨_, 2, _, rfl, Nat.le_refl _, heap_alloc_new _ _, Nat.le_refl _, by decide, rfl, rfl⟩⟩
    (u := .slice (some ⟨b1, 0, none⟩) 3 5) (m := 3) (ys := [.int .i64 a, .int .i64 b, .int .i64 c]) (RowRd.front (j := 3) (RowP.rd (p := fun _ => True) (e := 128) (size := 1) (v := .slice (some ⟨b1, 0, none⟩) 5 5) (n := 5) (xs := [.int .i64 a, .int .i64 b, .int .i64 c, .int .i64 d, .int .i64 e]) ⟨rfl, .inr ⟨b1, 5, _, rfl, trivial, ((xz.alloc _).block H1.out), Nat.le_refl _, by decide, rfl, rfl⟩⟩) (by decide)) (by omega) (by simp [Value.oneCell'])
  have hrd : RowRd wA 1 v8 5 ([n, at', a, b, c].map (Value.int .i64)) := hra.rd
  have xA : Ext wd wA := (xz.alloc (.cells #[.int .i64 n, .int .i64 at'] 3)).grown hga (fun k hk => by have := hrow k hk; omega)
  have HRUN := qh hrun
  have HRD := qh hrd
  have XA := qh xA
  clear hrun hrd xA hra hga hrow sz
  show wpE _ _ _ _ _ 11 12 (Array.replicate 12 false) _ _
  refine wpE_tk 0 16 (.pointer (some ⟨b0, 0, none⟩)) rfl (.inl ⟨by rfl, fun w' hSw => ?_⟩) hS ?_
  · (obtain ⟨s1, s2, s3⟩ := hSw; clear hS; go_simp)
  try simp only [Act.put, zA, zB, zC]
  refine wpE_tk 1 17 (.int .i64 n) rfl (.inl ⟨by rfl, fun w' hSw => ?_⟩) hS ?_
  · (obtain ⟨s1, s2, s3⟩ := hSw; clear hS; go_simp)
  try simp only [Act.put, zA, zB, zC]
  refine wpE_tk 2 18 (.pointer (some ⟨b0, 1, none⟩)) rfl (.inl ⟨by rfl, fun w' hSw => ?_⟩) hS ?_
  · (obtain ⟨s1, s2, s3⟩ := hSw; clear hS; go_simp)
  try simp only [Act.put, zA, zB, zC]
  refine wpE_tk 3 19 (.int .i64 at') rfl (.inl ⟨by rfl, fun w' hSw => ?_⟩) hS ?_
  · (obtain ⟨s1, s2, s3⟩ := hSw; clear hS; go_simp)
  try simp only [Act.put, zA, zB, zC]
  refine wpE_tk 5 21 (.slice (some ⟨b3, 0, none⟩) 10 10) rfl (.inl ⟨by rfl, fun w' hSw => ?_⟩) hS ?_
  · (obtain ⟨s1, s2, s3⟩ := hSw; clear hS; go_simp)
  try simp only [Act.put, zA, zB, zC]
  refine wpE_tk 6 22 (.int .i64 0) rfl (.inl ⟨by rfl, fun w' hSw => ?_⟩) hS ?_
  · (obtain ⟨s1, s2, s3⟩ := hSw; clear hS; go_simp)
  try simp only [Act.put, zA, zB, zC]
  refine wpE_tk 7 23 (.pointer (some ⟨b3, 0, none⟩)) rfl (.inl ⟨by rfl, fun w' hSw => ?_⟩) hS ?_
  · (obtain ⟨s1, s2, s3⟩ := hSw; clear hS; go_simp)
  try simp only [Act.put, zA, zB, zC]
  refine wpE_tk 8 24 (.int .i64 3) rfl (.inl ⟨by rfl, fun w' hSw => ?_⟩) hS ?_
  · (obtain ⟨s1, s2, s3⟩ := hSw; clear hS; go_simp)
  try simp only [Act.put, zA, zB, zC]
  refine wpE_tk 9 25 (.slice (some ⟨b1, 0, none⟩) 3 5) rfl (.inl ⟨by rfl, fun w' hSw => ?_⟩) hS ?_
  · (obtain ⟨s1, s2, s3⟩ := hSw; clear hS; go_simp)
  try simp only [Act.put, zA, zB, zC]
  refine wpE_on 4 (some 20) rfl (fun K hK => ?_)
  go_simp
  refine hK.out _ _ (.inr ⟨((Ext.refl wz).alloc (.cells #[.int .i64 n, .int .i64 at'] 3)).cell hS.1, ((Ext.refl wz).alloc (.cells #[.int .i64 n, .int .i64 at'] 3)).cell hS.2.1, ((Ext.refl wz).alloc (.cells #[.int .i64 n, .int .i64 at'] 3)).cell hS.2.2⟩) ?_
  clear hK K
  try simp only [Act.put, zA, zB, zC]
  refine wpE_on 10 (some 26) rfl (fun K hK => ?_)
  refine step_append_run (by rfl) _ _ 40 (by rfl) (.slice (some ⟨wz.heap.size, 0, none⟩) 2 2) (.slice (some ⟨b1, 0, none⟩) 3 5) (by rfl) (by rfl) v8 wA HRUN.out ?_
  refine hK.out _ _ (.inr ⟨XA.out.cell m0, XA.out.cell m1, XA.out.cell m2⟩) ?_
  clear hK K
  try simp only [Act.put, zA, zB, zC]
  refine wpE_on 11 (some 8) rfl (fun K hK => ?_)
  go_simp
  refine hK.out _ _ (.inl rfl) ?_
  clear hK K
  try simp only [Act.put, zA, zB, zC]
  refine wpE_done (by kernel_rfl) ?_
  clear m0 m1 m2 hS xz HRUN
  go_upto_region 5 with (go_at_call 149; refine (rOut (l := [n, at', a, b, c]) HRD.out (by simp) OK.out).mono ?_; rintro e w9 ⟨rfl, rfl⟩)
  have r0 : ∀ u : ExtOf wA, u.val.cell? ⟨b1, 0, none⟩ = some (.int .i64 a) := fun u => (XA.out.trans u.ext).cell (cellOf H1.out rfl)
  have r1 : ∀ u : ExtOf wA, u.val.cell? ⟨b1, 1, none⟩ = some (.int .i64 b) := fun u => (XA.out.trans u.ext).cell (cellOf H1.out rfl)
  have r2 : ∀ u : ExtOf wA, u.val.cell? ⟨b1, 2, none⟩ = some (.int .i64 c) := fun u => (XA.out.trans u.ext).cell (cellOf H1.out rfl)
  have r3 : ∀ u : ExtOf wA, u.val.cell? ⟨b1, 3, none⟩ = some (.int .i64 d) := fun u => (XA.out.trans u.ext).cell (cellOf H1.out rfl)
  have r4 : ∀ u : ExtOf wA, u.val.cell? ⟨b1, 4, none⟩ = some (.int .i64 e) := fun u => (XA.out.trans u.ext).cell (cellOf H1.out rfl)
  refine wp_region_ext (by kernel_rfl) (by kernel_rfl) ?_
  repeat (go_big_quiet_step (fail))
  refine wpQuiet_nil ?_
  rintro _ ⟨u, rfl⟩
  have x5 : Ext wd u.val := XA.out.trans u.ext
  obtain ⟨w5, hw5⟩ : ∃ W, u.val = W := ⟨_, rfl⟩
  rw [hw5] at x5 ⊢
  clear r0 r1 r2 r3 r4 hw5
  clear u
  have m0 := x5.cell (cellOf H0.out (i := 0) (v := .int .i64 n) rfl)
  have m1 := x5.cell (cellOf H0.out (i := 1) (v := .int .i64 at') rfl)
  go_upto_region 7 with fail
  have x6 := x5.alloc (.cells #[.int .i64 n, .int .i64 at'] 43)
  have hb4 := heap_alloc_new w5 (.cells #[.int .i64 n, .int .i64 at'] 43)
  have hs4 : wd.heap.size ≤ w5.heap.size := x5.size
  obtain ⟨w6, hw6⟩ : ∃ W : World, W = w5.alloc (.cells #[.int .i64 n, .int .i64 at'] 43) := ⟨_, rfl⟩
  obtain ⟨b4, hb4e⟩ : ∃ b, w5.heap.size = b := ⟨_, rfl⟩
  rw [← hw6] at x6 hb4 ⊢
  rw [hb4e] at hb4 hs4 ⊢
  clear hw6 hb4e m0 m1 x5
  have XF := qh (XD.out.trans x6)
  have l2 : b2 < b4 := by have := HSZ.out; have := HB3.out; omega
  have z2 : w.heap.size ≤ b2 := by have := HB0.out; have := HB1.out; have := HB2.out; omega
  have z4 : w.heap.size ≤ b4 := by omega
  have c0 := x6.cell (cellOf H0.out (i := 0) (v := .int .i64 n) rfl)
  have c1 := x6.cell (cellOf H0.out (i := 1) (v := .int .i64 at') rfl)
  have c2 := x6.cell (cellOf H2.out (i := 0) (v := .int .i64 0) rfl)
  have c3 := x6.cell (cellOf H2.out (i := 1) (v := .int .i64 0) rfl)
  have f2 := x6.free (cell_lt (cellOf H2.out (i := 0) (v := .int .i64 0) rfl)) (freeOf H2.out 0)
  have f3 := x6.free (cell_lt (cellOf H2.out (i := 0) (v := .int .i64 0) rfl)) (freeOf H2.out 1)
  have c4 := cellOf hb4 (i := 0) (v := .int .i64 n) rfl
  have c5 := cellOf hb4 (i := 1) (v := .int .i64 at') rfl
  have f4 := freeOf hb4 0
  have f5 := freeOf hb4 1
  have l4 := cell_lt c4
  have n24 : b2 ≠ b4 := by omega
  have n04 : b0 ≠ b4 := by have := HB1.out; have := HB2.out; omega
  have l6 : b2 < w6.heap.size := cell_lt c2
  have ok0 := OK.out n (by simp)
  unfold okI at ok0
  obtain ⟨p0, q0⟩ := ok0
  have ok1 := OK.out at' (by simp)
  unfold okI at ok1
  obtain ⟨p1, q1⟩ := ok1
  have ok2 := OK.out a (by simp)
  unfold okI at ok2
  obtain ⟨p2, q2⟩ := ok2
  have ok3 := OK.out b (by simp)
  unfold okI at ok3
  obtain ⟨p3, q3⟩ := ok3
  have ok4 := OK.out c (by simp)
  unfold okI at ok4
  obtain ⟨p4, q4⟩ := ok4
  clear hb4 x6
  by_cases h1 : n = a
  · by_cases h2 : b < at'
    · have hz : za = at' + c := by rw [← HZA.out]; exact if_pos ⟨h1, h2⟩
      have HZ := qh hz
      have e1 : (n == a) = true := by simpa using h1
      have e1d : decide (n = a) = true := decide_eq_true h1
      have e2 : decide (b < at') = true := decide_eq_true h2
      clear h1 h2 hz
      go_wp2_with fail
      refine bodyPost_ret (v := pl (n) (at' + c)) (by simp [results, Tryz.results135, go_sem, c0, c1, c2, c3, c4, c5, n24, Ne.symm n24]) rfl ⟨?_, ?_⟩
      · rw [HZ.out]
      · repeat (first | exact XF.out | refine Ext.setCell ?_ (by simp; omega) _)
    · have hz : za = at' := by rw [← HZA.out]; exact if_neg (fun h => h2 h.2)
      have HZ := qh hz
      have e1 : (n == a) = true := by simpa using h1
      have e1d : decide (n = a) = true := decide_eq_true h1
      have e2 : decide (b < at') = false := decide_eq_false h2
      clear h1 h2 hz
      go_wp2_with fail
      refine bodyPost_ret (v := pl (n) (at')) (by simp [results, Tryz.results135, go_sem, c0, c1, c2, c3, c4, c5, n24, Ne.symm n24]) rfl ⟨?_, ?_⟩
      · rw [HZ.out]
      · repeat (first | exact XF.out | refine Ext.setCell ?_ (by simp; omega) _)
  · have hz : za = at' := by rw [← HZA.out]; exact if_neg (fun h => h1 h.1)
    have HZ := qh hz
    have e1 : (n == a) = false := by simpa using h1
    have e1d : decide (n = a) = false := decide_eq_false h1
    clear h1 hz
    go_wp2_with fail
    refine bodyPost_ret (v := pl (n) (at')) (by simp [results, Tryz.results135, go_sem, c0, c1, c2, c3, c4, c5, n24, Ne.symm n24]) rfl ⟨?_, ?_⟩
    · rw [HZ.out]
    · repeat (first | exact XF.out | refine Ext.setCell ?_ (by simp; omega) _)
theorem rChange1 (n at' a b c d e : Int) (w : World) (o0 : okI n) (o1 : okI at') (o2 : okI a) (o3 : okI b) : Calls Tryz.prog 135 #[pl n at', .int .i64 1, five a b c d e] w (RPlace (n) (remA n at' a b) w) := by
  unfold five
  obtain ⟨wd, b0, b1, b2, b3, hb0, hb1, hb2, hb3, hwd, xd, h0, h1, h2, h3, hsz⟩ := four_new w #[.int .i64 n, .int .i64 at'] #[.int .i64 a, .int .i64 b, .int .i64 c, .int .i64 d, .int .i64 e] #[.int .i64 0, .int .i64 0] #[.int .i64 3, .int .i64 2, .int .i64 2, .int .i64 4, .int .i64 5, .int .i64 5, .int .i64 5, .int .i64 4, .int .i64 4, .int .i64 4] 43 128 43 3
  obtain ⟨za, hza⟩ : ∃ z, remA n at' a b = z := ⟨_, rfl⟩
  rw [hza]
  have HZA := qh hza
  clear hza
  have HB0 := qh hb0
  have HB1 := qh hb1
  have HB2 := qh hb2
  have HB3 := qh hb3
  have HWD := qh hwd
  have XD := qh xd
  have H0 := qh h0
  have H1 := qh h1
  have H2 := qh h2
  have H3 := qh h3
  have HSZ := qh hsz
  have OK : Hid (∀ x ∈ [n, at', a, b], okI x) := qh (by
    intro x hx
    simp only [List.mem_cons, List.not_mem_nil, or_false] at hx
    rcases hx with rfl | rfl | rfl | rfl
    all_goals assumption)
  clear hb0 hb1 hb2 hb3 hwd xd h0 h1 h2 h3 hsz o0 o1 o2 o3
  go_enter Tryz.func135, Tryz.ntmps135
  go_upto_region 2 with fail
  rw [← HWD.out, HB0.out, HB1.out, HB2.out, HB3.out]
  have m0 := cellOf H0.out (i := 0) (v := .int .i64 n) rfl
  have m1 := cellOf H0.out (i := 1) (v := .int .i64 at') rfl
  have m2 := cellOf H3.out (i := 1) (v := .int .i64 2) rfl
  refine wp_region_E (S := fun w' => w'.cell? ⟨b0, 0, none⟩ = some (.int .i64 n) ∧ w'.cell? ⟨b0, 1, none⟩ = some (.int .i64 at') ∧ w'.cell? ⟨b3, 1, none⟩ = some (.int .i64 2)) (n := 11) (by kernel_rfl) ?_
  have xz : Ext wd wd.drew := (Ext.refl wd).drew
  have sz : wd.drew.heap.size = wd.heap.size := rfl
  obtain ⟨wz, hwz⟩ : ∃ W : World, W = wd.drew := ⟨_, rfl⟩
  rw [← hwz] at xz sz ⊢
  clear hwz
  have hS : wz.cell? ⟨b0, 0, none⟩ = some (.int .i64 n) ∧ wz.cell? ⟨b0, 1, none⟩ = some (.int .i64 at') ∧ wz.cell? ⟨b3, 1, none⟩ = some (.int .i64 2) := ⟨xz.cell m0, xz.cell m1, xz.cell m2⟩
  obtain ⟨v8, wA, row, hrun, hra, hga, hrow⟩ := append_ints (w := wz.alloc (.cells #[.int .i64 n, .int .i64 at'] 3)) (B := wz.heap.size) (v := .slice (some ⟨wz.heap.size, 0, none⟩) 2 2) (n := 2) (xs := [.int .i64 n, .int .i64 at']) ⟨rfl, .inr ⟨_, 2, _, rfl, Nat.le_refl _, heap_alloc_new _ _, Nat.le_refl _, by decide, rfl, rfl⟩⟩
    (u := .slice (some ⟨b1, 0, none⟩) 2 5) (m := 2) (ys := [.int .i64 a, .int .i64 b]) (RowRd.front (j := 2) (RowP.rd (p := fun _ => True) (e := 128) (size := 1) (v := .slice (some ⟨b1, 0, none⟩) 5 5) (n := 5) (xs := [.int .i64 a, .int .i64 b, .int .i64 c, .int .i64 d, .int .i64 e]) ⟨rfl, .inr ⟨b1, 5, _, rfl, trivial, ((xz.alloc _).block H1.out), Nat.le_refl _, by decide, rfl, rfl⟩⟩) (by decide)) (by omega) (by simp [Value.oneCell'])
  have hrd : RowRd wA 1 v8 4 ([n, at', a, b].map (Value.int .i64)) := hra.rd
  have xA : Ext wd wA := (xz.alloc (.cells #[.int .i64 n, .int .i64 at'] 3)).grown hga (fun k hk => by have := hrow k hk; omega)
  have HRUN := qh hrun
  have HRD := qh hrd
  have XA := qh xA
  clear hrun hrd xA hra hga hrow sz
  show wpE _ _ _ _ _ 11 12 (Array.replicate 12 false) _ _
  refine wpE_tk 0 16 (.pointer (some ⟨b0, 0, none⟩)) rfl (.inl ⟨by rfl, fun w' hSw => ?_⟩) hS ?_
  · (obtain ⟨s1, s2, s3⟩ := hSw; clear hS; go_simp)
  try simp only [Act.put, zA, zB, zC]
  refine wpE_tk 1 17 (.int .i64 n) rfl (.inl ⟨by rfl, fun w' hSw => ?_⟩) hS ?_
  · (obtain ⟨s1, s2, s3⟩ := hSw; clear hS; go_simp)
  try simp only [Act.put, zA, zB, zC]
  refine wpE_tk 2 18 (.pointer (some ⟨b0, 1, none⟩)) rfl (.inl ⟨by rfl, fun w' hSw => ?_⟩) hS ?_
  · (obtain ⟨s1, s2, s3⟩ := hSw; clear hS; go_simp)
  try simp only [Act.put, zA, zB, zC]
  refine wpE_tk 3 19 (.int .i64 at') rfl (.inl ⟨by rfl, fun w' hSw => ?_⟩) hS ?_
  · (obtain ⟨s1, s2, s3⟩ := hSw; clear hS; go_simp)
  try simp only [Act.put, zA, zB, zC]
  refine wpE_tk 5 21 (.slice (some ⟨b3, 0, none⟩) 10 10) rfl (.inl ⟨by rfl, fun w' hSw => ?_⟩) hS ?_
  · (obtain ⟨s1, s2, s3⟩ := hSw; clear hS; go_simp)
  try simp only [Act.put, zA, zB, zC]
  refine wpE_tk 6 22 (.int .i64 1) rfl (.inl ⟨by rfl, fun w' hSw => ?_⟩) hS ?_
  · (obtain ⟨s1, s2, s3⟩ := hSw; clear hS; go_simp)
  try simp only [Act.put, zA, zB, zC]
  refine wpE_tk 7 23 (.pointer (some ⟨b3, 1, none⟩)) rfl (.inl ⟨by rfl, fun w' hSw => ?_⟩) hS ?_
  · (obtain ⟨s1, s2, s3⟩ := hSw; clear hS; go_simp)
  try simp only [Act.put, zA, zB, zC]
  refine wpE_tk 8 24 (.int .i64 2) rfl (.inl ⟨by rfl, fun w' hSw => ?_⟩) hS ?_
  · (obtain ⟨s1, s2, s3⟩ := hSw; clear hS; go_simp)
  try simp only [Act.put, zA, zB, zC]
  refine wpE_tk 9 25 (.slice (some ⟨b1, 0, none⟩) 2 5) rfl (.inl ⟨by rfl, fun w' hSw => ?_⟩) hS ?_
  · (obtain ⟨s1, s2, s3⟩ := hSw; clear hS; go_simp)
  try simp only [Act.put, zA, zB, zC]
  refine wpE_on 4 (some 20) rfl (fun K hK => ?_)
  go_simp
  refine hK.out _ _ (.inr ⟨((Ext.refl wz).alloc (.cells #[.int .i64 n, .int .i64 at'] 3)).cell hS.1, ((Ext.refl wz).alloc (.cells #[.int .i64 n, .int .i64 at'] 3)).cell hS.2.1, ((Ext.refl wz).alloc (.cells #[.int .i64 n, .int .i64 at'] 3)).cell hS.2.2⟩) ?_
  clear hK K
  try simp only [Act.put, zA, zB, zC]
  refine wpE_on 10 (some 26) rfl (fun K hK => ?_)
  refine step_append_run (by rfl) _ _ 40 (by rfl) (.slice (some ⟨wz.heap.size, 0, none⟩) 2 2) (.slice (some ⟨b1, 0, none⟩) 2 5) (by rfl) (by rfl) v8 wA HRUN.out ?_
  refine hK.out _ _ (.inr ⟨XA.out.cell m0, XA.out.cell m1, XA.out.cell m2⟩) ?_
  clear hK K
  try simp only [Act.put, zA, zB, zC]
  refine wpE_on 11 (some 8) rfl (fun K hK => ?_)
  go_simp
  refine hK.out _ _ (.inl rfl) ?_
  clear hK K
  try simp only [Act.put, zA, zB, zC]
  refine wpE_done (by kernel_rfl) ?_
  clear m0 m1 m2 hS xz HRUN
  go_upto_region 5 with (go_at_call 149; refine (rOut (l := [n, at', a, b]) HRD.out (by simp) OK.out).mono ?_; rintro e w9 ⟨rfl, rfl⟩)
  have r0 : ∀ u : ExtOf wA, u.val.cell? ⟨b1, 0, none⟩ = some (.int .i64 a) := fun u => (XA.out.trans u.ext).cell (cellOf H1.out rfl)
  have r1 : ∀ u : ExtOf wA, u.val.cell? ⟨b1, 1, none⟩ = some (.int .i64 b) := fun u => (XA.out.trans u.ext).cell (cellOf H1.out rfl)
  have r2 : ∀ u : ExtOf wA, u.val.cell? ⟨b1, 2, none⟩ = some (.int .i64 c) := fun u => (XA.out.trans u.ext).cell (cellOf H1.out rfl)
  have r3 : ∀ u : ExtOf wA, u.val.cell? ⟨b1, 3, none⟩ = some (.int .i64 d) := fun u => (XA.out.trans u.ext).cell (cellOf H1.out rfl)
  have r4 : ∀ u : ExtOf wA, u.val.cell? ⟨b1, 4, none⟩ = some (.int .i64 e) := fun u => (XA.out.trans u.ext).cell (cellOf H1.out rfl)
  refine wp_region_ext (by kernel_rfl) (by kernel_rfl) ?_
  repeat (go_big_quiet_step (fail))
  refine wpQuiet_nil ?_
  rintro _ ⟨u, rfl⟩
  have x5 : Ext wd u.val := XA.out.trans u.ext
  obtain ⟨w5, hw5⟩ : ∃ W, u.val = W := ⟨_, rfl⟩
  rw [hw5] at x5 ⊢
  clear r0 r1 r2 r3 r4 hw5
  clear u
  have m0 := x5.cell (cellOf H0.out (i := 0) (v := .int .i64 n) rfl)
  have m1 := x5.cell (cellOf H0.out (i := 1) (v := .int .i64 at') rfl)
  go_upto_region 7 with fail
  have x6 := x5.alloc (.cells #[.int .i64 n, .int .i64 at'] 43)
  have hb4 := heap_alloc_new w5 (.cells #[.int .i64 n, .int .i64 at'] 43)
  have hs4 : wd.heap.size ≤ w5.heap.size := x5.size
  obtain ⟨w6, hw6⟩ : ∃ W : World, W = w5.alloc (.cells #[.int .i64 n, .int .i64 at'] 43) := ⟨_, rfl⟩
  obtain ⟨b4, hb4e⟩ : ∃ b, w5.heap.size = b := ⟨_, rfl⟩
  rw [← hw6] at x6 hb4 ⊢
  rw [hb4e] at hb4 hs4 ⊢
  clear hw6 hb4e m0 m1 x5
  have XF := qh (XD.out.trans x6)
  have l2 : b2 < b4 := by have := HSZ.out; have := HB3.out; omega
  have z2 : w.heap.size ≤ b2 := by have := HB0.out; have := HB1.out; have := HB2.out; omega
  have z4 : w.heap.size ≤ b4 := by omega
  have c0 := x6.cell (cellOf H0.out (i := 0) (v := .int .i64 n) rfl)
  have c1 := x6.cell (cellOf H0.out (i := 1) (v := .int .i64 at') rfl)
  have c2 := x6.cell (cellOf H2.out (i := 0) (v := .int .i64 0) rfl)
  have c3 := x6.cell (cellOf H2.out (i := 1) (v := .int .i64 0) rfl)
  have f2 := x6.free (cell_lt (cellOf H2.out (i := 0) (v := .int .i64 0) rfl)) (freeOf H2.out 0)
  have f3 := x6.free (cell_lt (cellOf H2.out (i := 0) (v := .int .i64 0) rfl)) (freeOf H2.out 1)
  have c4 := cellOf hb4 (i := 0) (v := .int .i64 n) rfl
  have c5 := cellOf hb4 (i := 1) (v := .int .i64 at') rfl
  have f4 := freeOf hb4 0
  have f5 := freeOf hb4 1
  have l4 := cell_lt c4
  have n24 : b2 ≠ b4 := by omega
  have n04 : b0 ≠ b4 := by have := HB1.out; have := HB2.out; omega
  have l6 : b2 < w6.heap.size := cell_lt c2
  have ok0 := OK.out n (by simp)
  unfold okI at ok0
  obtain ⟨p0, q0⟩ := ok0
  have ok1 := OK.out at' (by simp)
  unfold okI at ok1
  obtain ⟨p1, q1⟩ := ok1
  have ok2 := OK.out a (by simp)
  unfold okI at ok2
  obtain ⟨p2, q2⟩ := ok2
  have ok3 := OK.out b (by simp)
  unfold okI at ok3
  obtain ⟨p3, q3⟩ := ok3
  clear hb4 x6
  by_cases h1 : n = a
  · by_cases h2 : b < at'
    · have hz : za = at' - 1 := by rw [← HZA.out]; exact if_pos ⟨h1, h2⟩
      have HZ := qh hz
      have e1 : (n == a) = true := by simpa using h1
      have e1d : decide (n = a) = true := decide_eq_true h1
      have e2 : decide (b < at') = true := decide_eq_true h2
      clear h1 h2 hz
      go_wp2_with fail
      refine bodyPost_ret (v := pl (n) (at' - 1)) (by simp [results, Tryz.results135, go_sem, c0, c1, c2, c3, c4, c5, n24, Ne.symm n24]) rfl ⟨?_, ?_⟩
      · rw [HZ.out]
      · repeat (first | exact XF.out | refine Ext.setCell ?_ (by simp; omega) _)
    · have hz : za = at' := by rw [← HZA.out]; exact if_neg (fun h => h2 h.2)
      have HZ := qh hz
      have e1 : (n == a) = true := by simpa using h1
      have e1d : decide (n = a) = true := decide_eq_true h1
      have e2 : decide (b < at') = false := decide_eq_false h2
      clear h1 h2 hz
      go_wp2_with fail
      refine bodyPost_ret (v := pl (n) (at')) (by simp [results, Tryz.results135, go_sem, c0, c1, c2, c3, c4, c5, n24, Ne.symm n24]) rfl ⟨?_, ?_⟩
      · rw [HZ.out]
      · repeat (first | exact XF.out | refine Ext.setCell ?_ (by simp; omega) _)
  · have hz : za = at' := by rw [← HZA.out]; exact if_neg (fun h => h1 h.1)
    have HZ := qh hz
    have e1 : (n == a) = false := by simpa using h1
    have e1d : decide (n = a) = false := decide_eq_false h1
    clear h1 hz
    go_wp2_with fail
    refine bodyPost_ret (v := pl (n) (at')) (by simp [results, Tryz.results135, go_sem, c0, c1, c2, c3, c4, c5, n24, Ne.symm n24]) rfl ⟨?_, ?_⟩
    · rw [HZ.out]
    · repeat (first | exact XF.out | refine Ext.setCell ?_ (by simp; omega) _)
theorem rChange2 (n at' a b c d e : Int) (w : World) (o0 : okI n) (o1 : okI at') (o2 : okI a) (o3 : okI b) : Calls Tryz.prog 135 #[pl n at', .int .i64 2, five a b c d e] w (RPlace (a) (b) w) := by
  unfold five
  obtain ⟨wd, b0, b1, b2, b3, hb0, hb1, hb2, hb3, hwd, xd, h0, h1, h2, h3, hsz⟩ := four_new w #[.int .i64 n, .int .i64 at'] #[.int .i64 a, .int .i64 b, .int .i64 c, .int .i64 d, .int .i64 e] #[.int .i64 0, .int .i64 0] #[.int .i64 3, .int .i64 2, .int .i64 2, .int .i64 4, .int .i64 5, .int .i64 5, .int .i64 5, .int .i64 4, .int .i64 4, .int .i64 4] 43 128 43 3
  have HB0 := qh hb0
  have HB1 := qh hb1
  have HB2 := qh hb2
  have HB3 := qh hb3
  have HWD := qh hwd
  have XD := qh xd
  have H0 := qh h0
  have H1 := qh h1
  have H2 := qh h2
  have H3 := qh h3
  have HSZ := qh hsz
  have OK : Hid (∀ x ∈ [n, at', a, b], okI x) := qh (by
    intro x hx
    simp only [List.mem_cons, List.not_mem_nil, or_false] at hx
    rcases hx with rfl | rfl | rfl | rfl
    all_goals assumption)
  clear hb0 hb1 hb2 hb3 hwd xd h0 h1 h2 h3 hsz o0 o1 o2 o3
  go_enter Tryz.func135, Tryz.ntmps135
  go_upto_region 2 with fail
  rw [← HWD.out, HB0.out, HB1.out, HB2.out, HB3.out]
  have m0 := cellOf H0.out (i := 0) (v := .int .i64 n) rfl
  have m1 := cellOf H0.out (i := 1) (v := .int .i64 at') rfl
  have m2 := cellOf H3.out (i := 2) (v := .int .i64 2) rfl
  refine wp_region_E (S := fun w' => w'.cell? ⟨b0, 0, none⟩ = some (.int .i64 n) ∧ w'.cell? ⟨b0, 1, none⟩ = some (.int .i64 at') ∧ w'.cell? ⟨b3, 2, none⟩ = some (.int .i64 2)) (n := 11) (by kernel_rfl) ?_
  have xz : Ext wd wd.drew := (Ext.refl wd).drew
  have sz : wd.drew.heap.size = wd.heap.size := rfl
  obtain ⟨wz, hwz⟩ : ∃ W : World, W = wd.drew := ⟨_, rfl⟩
  rw [← hwz] at xz sz ⊢
  clear hwz
  have hS : wz.cell? ⟨b0, 0, none⟩ = some (.int .i64 n) ∧ wz.cell? ⟨b0, 1, none⟩ = some (.int .i64 at') ∧ wz.cell? ⟨b3, 2, none⟩ = some (.int .i64 2) := ⟨xz.cell m0, xz.cell m1, xz.cell m2⟩
  obtain ⟨v8, wA, row, hrun, hra, hga, hrow⟩ := append_ints (w := wz.alloc (.cells #[.int .i64 n, .int .i64 at'] 3)) (B := wz.heap.size) (v := .slice (some ⟨wz.heap.size, 0, none⟩) 2 2) (n := 2) (xs := [.int .i64 n, .int .i64 at']) ⟨rfl, .inr ⟨_, 2, _, rfl, Nat.le_refl _, heap_alloc_new _ _, Nat.le_refl _, by decide, rfl, rfl⟩⟩
    (u := .slice (some ⟨b1, 0, none⟩) 2 5) (m := 2) (ys := [.int .i64 a, .int .i64 b]) (RowRd.front (j := 2) (RowP.rd (p := fun _ => True) (e := 128) (size := 1) (v := .slice (some ⟨b1, 0, none⟩) 5 5) (n := 5) (xs := [.int .i64 a, .int .i64 b, .int .i64 c, .int .i64 d, .int .i64 e]) ⟨rfl, .inr ⟨b1, 5, _, rfl, trivial, ((xz.alloc _).block H1.out), Nat.le_refl _, by decide, rfl, rfl⟩⟩) (by decide)) (by omega) (by simp [Value.oneCell'])
  have hrd : RowRd wA 1 v8 4 ([n, at', a, b].map (Value.int .i64)) := hra.rd
  have xA : Ext wd wA := (xz.alloc (.cells #[.int .i64 n, .int .i64 at'] 3)).grown hga (fun k hk => by have := hrow k hk; omega)
  have HRUN := qh hrun
  have HRD := qh hrd
  have XA := qh xA
  clear hrun hrd xA hra hga hrow sz
  show wpE _ _ _ _ _ 11 12 (Array.replicate 12 false) _ _
  refine wpE_tk 0 16 (.pointer (some ⟨b0, 0, none⟩)) rfl (.inl ⟨by rfl, fun w' hSw => ?_⟩) hS ?_
  · (obtain ⟨s1, s2, s3⟩ := hSw; clear hS; go_simp)
  try simp only [Act.put, zA, zB, zC]
  refine wpE_tk 1 17 (.int .i64 n) rfl (.inl ⟨by rfl, fun w' hSw => ?_⟩) hS ?_
  · (obtain ⟨s1, s2, s3⟩ := hSw; clear hS; go_simp)
  try simp only [Act.put, zA, zB, zC]
  refine wpE_tk 2 18 (.pointer (some ⟨b0, 1, none⟩)) rfl (.inl ⟨by rfl, fun w' hSw => ?_⟩) hS ?_
  · (obtain ⟨s1, s2, s3⟩ := hSw; clear hS; go_simp)
  try simp only [Act.put, zA, zB, zC]
  refine wpE_tk 3 19 (.int .i64 at') rfl (.inl ⟨by rfl, fun w' hSw => ?_⟩) hS ?_
  · (obtain ⟨s1, s2, s3⟩ := hSw; clear hS; go_simp)
  try simp only [Act.put, zA, zB, zC]
  refine wpE_tk 5 21 (.slice (some ⟨b3, 0, none⟩) 10 10) rfl (.inl ⟨by rfl, fun w' hSw => ?_⟩) hS ?_
  · (obtain ⟨s1, s2, s3⟩ := hSw; clear hS; go_simp)
  try simp only [Act.put, zA, zB, zC]
  refine wpE_tk 6 22 (.int .i64 2) rfl (.inl ⟨by rfl, fun w' hSw => ?_⟩) hS ?_
  · (obtain ⟨s1, s2, s3⟩ := hSw; clear hS; go_simp)
  try simp only [Act.put, zA, zB, zC]
  refine wpE_tk 7 23 (.pointer (some ⟨b3, 2, none⟩)) rfl (.inl ⟨by rfl, fun w' hSw => ?_⟩) hS ?_
  · (obtain ⟨s1, s2, s3⟩ := hSw; clear hS; go_simp)
  try simp only [Act.put, zA, zB, zC]
  refine wpE_tk 8 24 (.int .i64 2) rfl (.inl ⟨by rfl, fun w' hSw => ?_⟩) hS ?_
  · (obtain ⟨s1, s2, s3⟩ := hSw; clear hS; go_simp)
  try simp only [Act.put, zA, zB, zC]
  refine wpE_tk 9 25 (.slice (some ⟨b1, 0, none⟩) 2 5) rfl (.inl ⟨by rfl, fun w' hSw => ?_⟩) hS ?_
  · (obtain ⟨s1, s2, s3⟩ := hSw; clear hS; go_simp)
  try simp only [Act.put, zA, zB, zC]
  refine wpE_on 4 (some 20) rfl (fun K hK => ?_)
  go_simp
  refine hK.out _ _ (.inr ⟨((Ext.refl wz).alloc (.cells #[.int .i64 n, .int .i64 at'] 3)).cell hS.1, ((Ext.refl wz).alloc (.cells #[.int .i64 n, .int .i64 at'] 3)).cell hS.2.1, ((Ext.refl wz).alloc (.cells #[.int .i64 n, .int .i64 at'] 3)).cell hS.2.2⟩) ?_
  clear hK K
  try simp only [Act.put, zA, zB, zC]
  refine wpE_on 10 (some 26) rfl (fun K hK => ?_)
  refine step_append_run (by rfl) _ _ 40 (by rfl) (.slice (some ⟨wz.heap.size, 0, none⟩) 2 2) (.slice (some ⟨b1, 0, none⟩) 2 5) (by rfl) (by rfl) v8 wA HRUN.out ?_
  refine hK.out _ _ (.inr ⟨XA.out.cell m0, XA.out.cell m1, XA.out.cell m2⟩) ?_
  clear hK K
  try simp only [Act.put, zA, zB, zC]
  refine wpE_on 11 (some 8) rfl (fun K hK => ?_)
  go_simp
  refine hK.out _ _ (.inl rfl) ?_
  clear hK K
  try simp only [Act.put, zA, zB, zC]
  refine wpE_done (by kernel_rfl) ?_
  clear m0 m1 m2 hS xz HRUN
  go_upto_region 5 with (go_at_call 149; refine (rOut (l := [n, at', a, b]) HRD.out (by simp) OK.out).mono ?_; rintro e w9 ⟨rfl, rfl⟩)
  have r0 : ∀ u : ExtOf wA, u.val.cell? ⟨b1, 0, none⟩ = some (.int .i64 a) := fun u => (XA.out.trans u.ext).cell (cellOf H1.out rfl)
  have r1 : ∀ u : ExtOf wA, u.val.cell? ⟨b1, 1, none⟩ = some (.int .i64 b) := fun u => (XA.out.trans u.ext).cell (cellOf H1.out rfl)
  have r2 : ∀ u : ExtOf wA, u.val.cell? ⟨b1, 2, none⟩ = some (.int .i64 c) := fun u => (XA.out.trans u.ext).cell (cellOf H1.out rfl)
  have r3 : ∀ u : ExtOf wA, u.val.cell? ⟨b1, 3, none⟩ = some (.int .i64 d) := fun u => (XA.out.trans u.ext).cell (cellOf H1.out rfl)
  have r4 : ∀ u : ExtOf wA, u.val.cell? ⟨b1, 4, none⟩ = some (.int .i64 e) := fun u => (XA.out.trans u.ext).cell (cellOf H1.out rfl)
  refine wp_region_ext (by kernel_rfl) (by kernel_rfl) ?_
  repeat (go_big_quiet_step (fail))
  refine wpQuiet_nil ?_
  rintro _ ⟨u, rfl⟩
  have x5 : Ext wd u.val := XA.out.trans u.ext
  obtain ⟨w5, hw5⟩ : ∃ W, u.val = W := ⟨_, rfl⟩
  rw [hw5] at x5 ⊢
  clear r0 r1 r2 r3 r4 hw5
  clear u
  have m0 := x5.cell (cellOf H0.out (i := 0) (v := .int .i64 n) rfl)
  have m1 := x5.cell (cellOf H0.out (i := 1) (v := .int .i64 at') rfl)
  go_upto_region 7 with fail
  have x6 := x5.alloc (.cells #[.int .i64 n, .int .i64 at'] 43)
  have hb4 := heap_alloc_new w5 (.cells #[.int .i64 n, .int .i64 at'] 43)
  have hs4 : wd.heap.size ≤ w5.heap.size := x5.size
  obtain ⟨w6, hw6⟩ : ∃ W : World, W = w5.alloc (.cells #[.int .i64 n, .int .i64 at'] 43) := ⟨_, rfl⟩
  obtain ⟨b4, hb4e⟩ : ∃ b, w5.heap.size = b := ⟨_, rfl⟩
  rw [← hw6] at x6 hb4 ⊢
  rw [hb4e] at hb4 hs4 ⊢
  clear hw6 hb4e m0 m1 x5
  have XF := qh (XD.out.trans x6)
  have l2 : b2 < b4 := by have := HSZ.out; have := HB3.out; omega
  have z2 : w.heap.size ≤ b2 := by have := HB0.out; have := HB1.out; have := HB2.out; omega
  have z4 : w.heap.size ≤ b4 := by omega
  have c0 := x6.cell (cellOf H0.out (i := 0) (v := .int .i64 n) rfl)
  have c1 := x6.cell (cellOf H0.out (i := 1) (v := .int .i64 at') rfl)
  have c2 := x6.cell (cellOf H2.out (i := 0) (v := .int .i64 0) rfl)
  have c3 := x6.cell (cellOf H2.out (i := 1) (v := .int .i64 0) rfl)
  have f2 := x6.free (cell_lt (cellOf H2.out (i := 0) (v := .int .i64 0) rfl)) (freeOf H2.out 0)
  have f3 := x6.free (cell_lt (cellOf H2.out (i := 0) (v := .int .i64 0) rfl)) (freeOf H2.out 1)
  have c4 := cellOf hb4 (i := 0) (v := .int .i64 n) rfl
  have c5 := cellOf hb4 (i := 1) (v := .int .i64 at') rfl
  have f4 := freeOf hb4 0
  have f5 := freeOf hb4 1
  have l4 := cell_lt c4
  have n24 : b2 ≠ b4 := by omega
  have n04 : b0 ≠ b4 := by have := HB1.out; have := HB2.out; omega
  have l6 : b2 < w6.heap.size := cell_lt c2
  have ok0 := OK.out n (by simp)
  unfold okI at ok0
  obtain ⟨p0, q0⟩ := ok0
  have ok1 := OK.out at' (by simp)
  unfold okI at ok1
  obtain ⟨p1, q1⟩ := ok1
  have ok2 := OK.out a (by simp)
  unfold okI at ok2
  obtain ⟨p2, q2⟩ := ok2
  have ok3 := OK.out b (by simp)
  unfold okI at ok3
  obtain ⟨p3, q3⟩ := ok3
  clear hb4 x6
  go_wp2_with fail
  refine bodyPost_ret (v := pl (a) (b)) (by simp [results, Tryz.results135, go_sem, c0, c1, c2, c3, c4, c5, n24, Ne.symm n24]) rfl ⟨?_, ?_⟩
  · rfl
  · repeat (first | exact XF.out | refine Ext.setCell ?_ (by simp; omega) _)
theorem rChange3 (n at' a b c d e : Int) (w : World) (o0 : okI n) (o1 : okI at') (o2 : okI a) (o3 : okI b) (o4 : okI c) (o5 : okI d) (hc : 0 ≤ c) : Calls Tryz.prog 135 #[pl n at', .int .i64 3, five a b c d e] w (RPlace (n) (repA n at' a b c d) w) := by
  unfold five
  obtain ⟨wd, b0, b1, b2, b3, hb0, hb1, hb2, hb3, hwd, xd, h0, h1, h2, h3, hsz⟩ := four_new w #[.int .i64 n, .int .i64 at'] #[.int .i64 a, .int .i64 b, .int .i64 c, .int .i64 d, .int .i64 e] #[.int .i64 0, .int .i64 0] #[.int .i64 3, .int .i64 2, .int .i64 2, .int .i64 4, .int .i64 5, .int .i64 5, .int .i64 5, .int .i64 4, .int .i64 4, .int .i64 4] 43 128 43 3
  obtain ⟨za, hza⟩ : ∃ z, repA n at' a b c d = z := ⟨_, rfl⟩
  rw [hza]
  have HZA := qh hza
  clear hza
  have HB0 := qh hb0
  have HB1 := qh hb1
  have HB2 := qh hb2
  have HB3 := qh hb3
  have HWD := qh hwd
  have XD := qh xd
  have H0 := qh h0
  have H1 := qh h1
  have H2 := qh h2
  have H3 := qh h3
  have HSZ := qh hsz
  have OK : Hid (∀ x ∈ [n, at', a, b, c, d], okI x) := qh (by
    intro x hx
    simp only [List.mem_cons, List.not_mem_nil, or_false] at hx
    rcases hx with rfl | rfl | rfl | rfl | rfl | rfl
    all_goals assumption)
  clear hb0 hb1 hb2 hb3 hwd xd h0 h1 h2 h3 hsz o0 o1 o2 o3 o4 o5
  go_enter Tryz.func135, Tryz.ntmps135
  go_upto_region 2 with fail
  rw [← HWD.out, HB0.out, HB1.out, HB2.out, HB3.out]
  have m0 := cellOf H0.out (i := 0) (v := .int .i64 n) rfl
  have m1 := cellOf H0.out (i := 1) (v := .int .i64 at') rfl
  have m2 := cellOf H3.out (i := 3) (v := .int .i64 4) rfl
  refine wp_region_E (S := fun w' => w'.cell? ⟨b0, 0, none⟩ = some (.int .i64 n) ∧ w'.cell? ⟨b0, 1, none⟩ = some (.int .i64 at') ∧ w'.cell? ⟨b3, 3, none⟩ = some (.int .i64 4)) (n := 11) (by kernel_rfl) ?_
  have xz : Ext wd wd.drew := (Ext.refl wd).drew
  have sz : wd.drew.heap.size = wd.heap.size := rfl
  obtain ⟨wz, hwz⟩ : ∃ W : World, W = wd.drew := ⟨_, rfl⟩
  rw [← hwz] at xz sz ⊢
  clear hwz
  have hS : wz.cell? ⟨b0, 0, none⟩ = some (.int .i64 n) ∧ wz.cell? ⟨b0, 1, none⟩ = some (.int .i64 at') ∧ wz.cell? ⟨b3, 3, none⟩ = some (.int .i64 4) := ⟨xz.cell m0, xz.cell m1, xz.cell m2⟩
  obtain ⟨v8, wA, row, hrun, hra, hga, hrow⟩ := append_ints (w := wz.alloc (.cells #[.int .i64 n, .int .i64 at'] 3)) (B := wz.heap.size) (v := .slice (some ⟨wz.heap.size, 0, none⟩) 2 2) (n := 2) (xs := [.int .i64 n, .int .i64 at']) ⟨rfl, .inr ⟨_, 2, _, rfl, Nat.le_refl _, heap_alloc_new _ _, Nat.le_refl _, by decide, rfl, rfl⟩⟩
    (u := .slice (some ⟨b1, 0, none⟩) 4 5) (m := 4) (ys := [.int .i64 a, .int .i64 b, .int .i64 c, .int .i64 d]) (RowRd.front (j := 4) (RowP.rd (p := fun _ => True) (e := 128) (size := 1) (v := .slice (some ⟨b1, 0, none⟩) 5 5) (n := 5) (xs := [.int .i64 a, .int .i64 b, .int .i64 c, .int .i64 d, .int .i64 e]) ⟨rfl, .inr ⟨b1, 5, _, rfl, trivial, ((xz.alloc _).block H1.out), Nat.le_refl _, by decide, rfl, rfl⟩⟩) (by decide)) (by omega) (by simp [Value.oneCell'])
  have hrd : RowRd wA 1 v8 6 ([n, at', a, b, c, d].map (Value.int .i64)) := hra.rd
  have xA : Ext wd wA := (xz.alloc (.cells #[.int .i64 n, .int .i64 at'] 3)).grown hga (fun k hk => by have := hrow k hk; omega)
  have HRUN := qh hrun
  have HRD := qh hrd
  have XA := qh xA
  clear hrun hrd xA hra hga hrow sz
  show wpE _ _ _ _ _ 11 12 (Array.replicate 12 false) _ _
  refine wpE_tk 0 16 (.pointer (some ⟨b0, 0, none⟩)) rfl (.inl ⟨by rfl, fun w' hSw => ?_⟩) hS ?_
  · (obtain ⟨s1, s2, s3⟩ := hSw; clear hS; go_simp)
  try simp only [Act.put, zA, zB, zC]
  refine wpE_tk 1 17 (.int .i64 n) rfl (.inl ⟨by rfl, fun w' hSw => ?_⟩) hS ?_
  · (obtain ⟨s1, s2, s3⟩ := hSw; clear hS; go_simp)
  try simp only [Act.put, zA, zB, zC]
  refine wpE_tk 2 18 (.pointer (some ⟨b0, 1, none⟩)) rfl (.inl ⟨by rfl, fun w' hSw => ?_⟩) hS ?_
  · (obtain ⟨s1, s2, s3⟩ := hSw; clear hS; go_simp)
  try simp only [Act.put, zA, zB, zC]
  refine wpE_tk 3 19 (.int .i64 at') rfl (.inl ⟨by rfl, fun w' hSw => ?_⟩) hS ?_
  · (obtain ⟨s1, s2, s3⟩ := hSw; clear hS; go_simp)
  try simp only [Act.put, zA, zB, zC]
  refine wpE_tk 5 21 (.slice (some ⟨b3, 0, none⟩) 10 10) rfl (.inl ⟨by rfl, fun w' hSw => ?_⟩) hS ?_
  · (obtain ⟨s1, s2, s3⟩ := hSw; clear hS; go_simp)
  try simp only [Act.put, zA, zB, zC]
  refine wpE_tk 6 22 (.int .i64 3) rfl (.inl ⟨by rfl, fun w' hSw => ?_⟩) hS ?_
  · (obtain ⟨s1, s2, s3⟩ := hSw; clear hS; go_simp)
  try simp only [Act.put, zA, zB, zC]
  refine wpE_tk 7 23 (.pointer (some ⟨b3, 3, none⟩)) rfl (.inl ⟨by rfl, fun w' hSw => ?_⟩) hS ?_
  · (obtain ⟨s1, s2, s3⟩ := hSw; clear hS; go_simp)
  try simp only [Act.put, zA, zB, zC]
  refine wpE_tk 8 24 (.int .i64 4) rfl (.inl ⟨by rfl, fun w' hSw => ?_⟩) hS ?_
  · (obtain ⟨s1, s2, s3⟩ := hSw; clear hS; go_simp)
  try simp only [Act.put, zA, zB, zC]
  refine wpE_tk 9 25 (.slice (some ⟨b1, 0, none⟩) 4 5) rfl (.inl ⟨by rfl, fun w' hSw => ?_⟩) hS ?_
  · (obtain ⟨s1, s2, s3⟩ := hSw; clear hS; go_simp)
  try simp only [Act.put, zA, zB, zC]
  refine wpE_on 4 (some 20) rfl (fun K hK => ?_)
  go_simp
  refine hK.out _ _ (.inr ⟨((Ext.refl wz).alloc (.cells #[.int .i64 n, .int .i64 at'] 3)).cell hS.1, ((Ext.refl wz).alloc (.cells #[.int .i64 n, .int .i64 at'] 3)).cell hS.2.1, ((Ext.refl wz).alloc (.cells #[.int .i64 n, .int .i64 at'] 3)).cell hS.2.2⟩) ?_
  clear hK K
  try simp only [Act.put, zA, zB, zC]
  refine wpE_on 10 (some 26) rfl (fun K hK => ?_)
  refine step_append_run (by rfl) _ _ 40 (by rfl) (.slice (some ⟨wz.heap.size, 0, none⟩) 2 2) (.slice (some ⟨b1, 0, none⟩) 4 5) (by rfl) (by rfl) v8 wA HRUN.out ?_
  refine hK.out _ _ (.inr ⟨XA.out.cell m0, XA.out.cell m1, XA.out.cell m2⟩) ?_
  clear hK K
  try simp only [Act.put, zA, zB, zC]
  refine wpE_on 11 (some 8) rfl (fun K hK => ?_)
  go_simp
  refine hK.out _ _ (.inl rfl) ?_
  clear hK K
  try simp only [Act.put, zA, zB, zC]
  refine wpE_done (by kernel_rfl) ?_
  clear m0 m1 m2 hS xz HRUN
  go_upto_region 5 with (go_at_call 149; refine (rOut (l := [n, at', a, b, c, d]) HRD.out (by simp) OK.out).mono ?_; rintro e w9 ⟨rfl, rfl⟩)
  have r0 : ∀ u : ExtOf wA, u.val.cell? ⟨b1, 0, none⟩ = some (.int .i64 a) := fun u => (XA.out.trans u.ext).cell (cellOf H1.out rfl)
  have r1 : ∀ u : ExtOf wA, u.val.cell? ⟨b1, 1, none⟩ = some (.int .i64 b) := fun u => (XA.out.trans u.ext).cell (cellOf H1.out rfl)
  have r2 : ∀ u : ExtOf wA, u.val.cell? ⟨b1, 2, none⟩ = some (.int .i64 c) := fun u => (XA.out.trans u.ext).cell (cellOf H1.out rfl)
  have r3 : ∀ u : ExtOf wA, u.val.cell? ⟨b1, 3, none⟩ = some (.int .i64 d) := fun u => (XA.out.trans u.ext).cell (cellOf H1.out rfl)
  have r4 : ∀ u : ExtOf wA, u.val.cell? ⟨b1, 4, none⟩ = some (.int .i64 e) := fun u => (XA.out.trans u.ext).cell (cellOf H1.out rfl)
  refine wp_region_ext (by kernel_rfl) (by kernel_rfl) ?_
  repeat (go_big_quiet_step (fail))
  refine wpQuiet_nil ?_
  rintro _ ⟨u, rfl⟩
  have x5 : Ext wd u.val := XA.out.trans u.ext
  obtain ⟨w5, hw5⟩ : ∃ W, u.val = W := ⟨_, rfl⟩
  rw [hw5] at x5 ⊢
  clear r0 r1 r2 r3 r4 hw5
  clear u
  have m0 := x5.cell (cellOf H0.out (i := 0) (v := .int .i64 n) rfl)
  have m1 := x5.cell (cellOf H0.out (i := 1) (v := .int .i64 at') rfl)
  go_upto_region 7 with fail
  have x6 := x5.alloc (.cells #[.int .i64 n, .int .i64 at'] 43)
  have hb4 := heap_alloc_new w5 (.cells #[.int .i64 n, .int .i64 at'] 43)
  have hs4 : wd.heap.size ≤ w5.heap.size := x5.size
  obtain ⟨w6, hw6⟩ : ∃ W : World, W = w5.alloc (.cells #[.int .i64 n, .int .i64 at'] 43) := ⟨_, rfl⟩
  obtain ⟨b4, hb4e⟩ : ∃ b, w5.heap.size = b := ⟨_, rfl⟩
  rw [← hw6] at x6 hb4 ⊢
  rw [hb4e] at hb4 hs4 ⊢
  clear hw6 hb4e m0 m1 x5
  have XF := qh (XD.out.trans x6)
  have l2 : b2 < b4 := by have := HSZ.out; have := HB3.out; omega
  have z2 : w.heap.size ≤ b2 := by have := HB0.out; have := HB1.out; have := HB2.out; omega
  have z4 : w.heap.size ≤ b4 := by omega
  have c0 := x6.cell (cellOf H0.out (i := 0) (v := .int .i64 n) rfl)
  have c1 := x6.cell (cellOf H0.out (i := 1) (v := .int .i64 at') rfl)
  have c2 := x6.cell (cellOf H2.out (i := 0) (v := .int .i64 0) rfl)
  have c3 := x6.cell (cellOf H2.out (i := 1) (v := .int .i64 0) rfl)
  have f2 := x6.free (cell_lt (cellOf H2.out (i := 0) (v := .int .i64 0) rfl)) (freeOf H2.out 0)
  have f3 := x6.free (cell_lt (cellOf H2.out (i := 0) (v := .int .i64 0) rfl)) (freeOf H2.out 1)
  have c4 := cellOf hb4 (i := 0) (v := .int .i64 n) rfl
  have c5 := cellOf hb4 (i := 1) (v := .int .i64 at') rfl
  have f4 := freeOf hb4 0
  have f5 := freeOf hb4 1
  have l4 := cell_lt c4
  have n24 : b2 ≠ b4 := by omega
  have n04 : b0 ≠ b4 := by have := HB1.out; have := HB2.out; omega
  have l6 : b2 < w6.heap.size := cell_lt c2
  have ok0 := OK.out n (by simp)
  unfold okI at ok0
  obtain ⟨p0, q0⟩ := ok0
  have ok1 := OK.out at' (by simp)
  unfold okI at ok1
  obtain ⟨p1, q1⟩ := ok1
  have ok2 := OK.out a (by simp)
  unfold okI at ok2
  obtain ⟨p2, q2⟩ := ok2
  have ok3 := OK.out b (by simp)
  unfold okI at ok3
  obtain ⟨p3, q3⟩ := ok3
  have ok4 := OK.out c (by simp)
  unfold okI at ok4
  obtain ⟨p4, q4⟩ := ok4
  have ok5 := OK.out d (by simp)
  unfold okI at ok5
  obtain ⟨p5, q5⟩ := ok5
  clear hb4 x6
  by_cases h1 : n = a
  · by_cases h2 : b < at'
    · by_cases h3 : b + c < at'
      · have hz : za = at' + d - c := by rw [← HZA.out]; exact (if_pos ⟨h1, h2⟩).trans (if_pos h3)
        have HZ := qh hz
        have e1 : (n == a) = true := by simpa using h1
        have e1d : decide (n = a) = true := decide_eq_true h1
        have e2 : decide (b < at') = true := decide_eq_true h2
        have e3 : decide (b + c < at') = true := decide_eq_true h3
        have e4 : decide (at' ≤ b + c) = false := decide_eq_false (by omega)
        clear h1 h2 h3 hz
        go_wp2_with fail
        refine bodyPost_ret (v := pl (n) (at' + d - c)) (by simp [results, Tryz.results135, go_sem, c0, c1, c2, c3, c4, c5, n24, Ne.symm n24]) rfl ⟨?_, ?_⟩
        · rw [HZ.out]
        · repeat (first | exact XF.out | refine Ext.setCell ?_ (by simp; omega) _)
      · have hz : za = b := by rw [← HZA.out]; exact (if_pos ⟨h1, h2⟩).trans (if_neg h3)
        have HZ := qh hz
        have e1 : (n == a) = true := by simpa using h1
        have e1d : decide (n = a) = true := decide_eq_true h1
        have e2 : decide (b < at') = true := decide_eq_true h2
        have e3 : decide (b + c < at') = false := decide_eq_false h3
        have e4 : decide (at' ≤ b + c) = true := decide_eq_true (by omega)
        clear h1 h2 h3 hz
        go_wp2_with fail
        refine bodyPost_ret (v := pl (n) (b)) (by simp [results, Tryz.results135, go_sem, c0, c1, c2, c3, c4, c5, n24, Ne.symm n24]) rfl ⟨?_, ?_⟩
        · rw [HZ.out]
        · repeat (first | exact XF.out | refine Ext.setCell ?_ (by simp; omega) _)
    · have hz : za = at' := by rw [← HZA.out]; exact if_neg (fun h => h2 h.2)
      have HZ := qh hz
      have e1 : (n == a) = true := by simpa using h1
      have e1d : decide (n = a) = true := decide_eq_true h1
      have e2 : decide (b < at') = false := decide_eq_false h2
      have e3 : decide (b + c < at') = false := decide_eq_false (by omega)
      clear h1 h2 hz
      go_wp2_with fail
      refine bodyPost_ret (v := pl (n) (at')) (by simp [results, Tryz.results135, go_sem, c0, c1, c2, c3, c4, c5, n24, Ne.symm n24]) rfl ⟨?_, ?_⟩
      · rw [HZ.out]
      · repeat (first | exact XF.out | refine Ext.setCell ?_ (by simp; omega) _)
  · have hz : za = at' := by rw [← HZA.out]; exact if_neg (fun h => h1 h.1)
    have HZ := qh hz
    have e1 : (n == a) = false := by simpa using h1
    have e1d : decide (n = a) = false := decide_eq_false h1
    clear h1 hz
    go_wp2_with fail
    refine bodyPost_ret (v := pl (n) (at')) (by simp [results, Tryz.results135, go_sem, c0, c1, c2, c3, c4, c5, n24, Ne.symm n24]) rfl ⟨?_, ?_⟩
    · rw [HZ.out]
    · repeat (first | exact XF.out | refine Ext.setCell ?_ (by simp; omega) _)
def hasI (I : List Int) (k : Int) : Bool := decide (0 ≤ k) && I[k.toNat]? == some 1
section
variable {w : World} {F : Nat → Prop} {xb rb : Nat} {T : Tr} {I : List Int} {P : List (Int × Int)}
theorem DocOn.isAt (h : DocOn w F xb rb T I P) : ∃ ao cap, w.cell? ⟨xb, 1, none⟩ = some (.slice ao I.length cap) ∧ ∀ (k : Nat) x, I[k]? = some x → ∃ g, ao = some ⟨g, 0, none⟩ ∧ w.cell? ⟨g, k, none⟩ = some (.int .i64 x) := by
  obtain ⟨F0, iv, pv, ib, pb, h1, h2, h3, h4, h5, h6, h7⟩ := h.out
  rcases h4.2 with ⟨h0, a, e⟩ | ⟨g, cap, cur, q1, q2, q3, q4, q5, q6, q7⟩
  · rw [e] at h3
    refine ⟨a, 0, by rw [h0]; exact cellOf h3 rfl, fun k x hk => ?_⟩
    have := (List.getElem?_eq_some_iff.1 hk).1
    omega
  · rw [q1] at h3
    refine ⟨_, cap, cellOf h3 rfl, fun k x hk => ⟨g, rfl, ?_⟩⟩
    obtain ⟨g', cap', cur', r1, -, -, r3, r4⟩ := RowP.at_ h4 (k := k) (x := .int .i64 x) (by rw [List.getElem?_map, hk]; rfl)
    rw [q1] at r1
    cases r1
    exact cellOf r3 r4
theorem dHas (h : DocOn w F xb rb T I P) (k : Int) (hl : I.length ≤ 100000) : Calls Tryz.prog 60 #[.pointer (some ⟨xb, 0, none⟩), .int .i64 k] w (RBool (hasI I k) w) := by
  obtain ⟨ao, cap, p1, hc⟩ := h.isAt
  have HC := qh hc
  obtain ⟨m, hm⟩ : ∃ m, I.length = m := ⟨_, rfl⟩
  rw [hm] at p1 hl
  have HM := qh hm
  clear h hc hm
  by_cases h0 : k < 0
  · have hb : hasI I k = false := by unfold hasI; rw [decide_eq_false (by omega)]; rfl
    rw [hb]
    have e0 : decide ((0 : Int) ≤ k) = false := decide_eq_false (by omega)
    clear hb
    go_enter Tryz.func60, Tryz.ntmps60
    go_wp2_with fail
    go_ret
    exact ⟨rfl, Ext.refl _⟩
  · obtain ⟨i, rfl⟩ := Int.eq_ofNat_of_zero_le (show 0 ≤ k by omega)
    have e0 : decide ((0 : Int) ≤ (i : Int)) = true := decide_eq_true (by omega)
    by_cases h1 : i < m
    · obtain ⟨x, hx⟩ : ∃ x, I[i]? = some x := ⟨_, List.getElem?_eq_getElem (by rw [HM.out]; exact h1)⟩
      obtain ⟨g, rfl, q0⟩ := HC.out i x hx
      have hb : hasI I (i : Int) = (x == 1) := by
        unfold hasI
        rw [e0, Int.toNat_natCast, hx]
        rfl
      rw [hb]
      have e1 : decide ((i : Int) < (m : Int)) = true := decide_eq_true (by omega)
      have e1n : decide (i < m) = true := decide_eq_true h1
      have i0 : (0 : Int) ≤ (i : Int) := by omega
      have i1 : (i : Int) < (m : Int) := by omega
      have itn : (i : Int).toNat = i := by omega
      clear hb hx
      go_enter Tryz.func60, Tryz.ntmps60
      go_wp2_with fail
      go_ret
      exact ⟨rfl, Ext.refl _⟩
    · have hb : hasI I (i : Int) = false := by
        unfold hasI
        rw [e0, Int.toNat_natCast, List.getElem?_eq_none (by rw [HM.out]; omega)]
        rfl
      rw [hb]
      have e1 : decide ((i : Int) < (m : Int)) = false := decide_eq_false (by omega)
      have e1n : decide (i < m) = false := decide_eq_false h1
      clear hb
      go_enter Tryz.func60, Tryz.ntmps60
      go_wp2_with fail
      go_ret
      exact ⟨rfl, Ext.refl _⟩
end
section
variable {w : World} {F : Nat → Prop} {xb rb : Nat} {T : Tr} {I : List Int} {P : List (Int × Int)}
def DErr (F : Nat → Prop) (w : World) (xb rb : Nat) (er : Int) (T : Tr) (I : List Int) (P : List (Int × Int)) (e : Ending) (w' : World) : Prop := e = .returned (.int .i64 er) ∧ DAft F w xb rb T I P w'
theorem DocOn.isFree (h : DocOn w F xb rb T I P) {k : Nat} {x : Int} (hk : I[k]? = some x) : ∃ g cap, w.cell? ⟨xb, 1, none⟩ = some (.slice (some ⟨g, 0, none⟩) I.length cap) ∧ w.cell? ⟨g, k, none⟩ = some (.int .i64 x) ∧ w.frozen? ⟨g, k, none⟩ = false := by
  obtain ⟨F0, iv, pv, ib, pb, h1, h2, h3, h4, h5, h6, h7⟩ := h.out
  obtain ⟨g', cap', cur', r1, -, -, r3, r4⟩ := RowP.at_ h4 (k := k) (x := .int .i64 x) (by rw [List.getElem?_map, hk]; rfl)
  rw [r1] at h3
  exact ⟨g', cap', cellOf h3 rfl, cellOf r3 r4, freeOf r3 k⟩
theorem DocOn.heldFree (h : DocOn w F xb rb T I P) {k : Nat} {p : Int × Int} (hk : P[k]? = some p) : ∃ g cap, w.cell? ⟨xb, 2, none⟩ = some (.slice (some ⟨g, 0, none⟩) P.length cap) ∧ w.cell? ⟨g, k * 2, none⟩ = some (.int .i64 p.1) ∧ w.cell? ⟨g, k * 2 + 1, none⟩ = some (.int .i64 p.2) ∧ w.frozen? ⟨g, k * 2, none⟩ = false ∧ w.frozen? ⟨g, k * 2 + 1, none⟩ = false := by
  obtain ⟨F0, iv, pv, ib, pb, h1, h2, h3, h4, h5, h6, h7⟩ := h.out
  obtain ⟨c0, c1⟩ := plC_get hk
  obtain ⟨g', cap', cur', r1, -, -, r3, r4⟩ := RowP.at_ h6 c0
  obtain ⟨g2, cap2, cur2, s1, -, -, s3, s4⟩ := RowP.at_ h6 c1
  rw [r1] at s1
  cases s1
  rw [r1] at h3
  exact ⟨g', cap', cellOf h3 rfl, cellOf r3 r4, cellOf s3 s4, freeOf r3 _, freeOf r3 _⟩
theorem DocOn.aft (h : DocOn w F xb rb T I P) {w' : World} {T' : Tr} {I' : List Int} {P' : List (Int × Int)} (k : DocOn w' F xb rb T' I' P') (m : Mv F w w') : DAft F w xb rb T' I' P' w' := ⟨k.wide fun b hb => .inl hb, m⟩
theorem dFree (h : DocOn w F xb rb T I P) (k : Int) (hl : I.length ≤ 100000) :
    Calls Tryz.prog 43 #[.pointer (some ⟨xb, 0, none⟩), .int .i64 k] w (DErr F w xb rb (if hasI I k then 0 else 2) T (if hasI I k then I.set k.toNat 0 else I) (if hasI I k then P.set k.toNat (0, 0) else P)) := by
  have HH := qh (dHas h k hl)
  have HD := qh h
  cases hb : hasI I k with
  | false =>
    rw [hb] at HH
    clear hb h
    go_enter Tryz.func43, Tryz.ntmps43
    go_wp2_with (go_at_call 60; refine HH.out.mono ?_)
    rintro e w1 ⟨rfl, x1⟩
    have HF := qh (show DAft F w xb rb T I P w1 from (DAft.refl HD.out).ext x1)
    clear x1
    go_wp2_with fail
    go_ret
    exact ⟨rfl, HF.out⟩
  | true =>
    rw [hb] at HH
    unfold hasI at hb
    rw [Bool.and_eq_true, decide_eq_true_eq, beq_iff_eq] at hb
    obtain ⟨hk0, hki⟩ := hb
    obtain ⟨i, rfl⟩ := Int.eq_ofNat_of_zero_le hk0
    rw [Int.toNat_natCast] at hki
    have hil := (List.getElem?_eq_some_iff.1 hki).1
    obtain ⟨p, hp⟩ : ∃ p, P[i]? = some p := ⟨_, List.getElem?_eq_getElem (by rw [h.len]; exact hil)⟩
    have HK := qh hki
    have HP := qh hp
    obtain ⟨m, hm⟩ : ∃ m, I.length = m := ⟨_, rfl⟩
    have HM := qh hm
    rw [hm] at hil hl
    simp only [if_true, Int.toNat_natCast]
    have i0 : (0 : Int) ≤ (i : Int) := by omega
    have i1 : (i : Int) < (m : Int) := by omega
    have itn : (i : Int).toNat = i := by omega
    clear h hki hp hm
    go_enter Tryz.func43, Tryz.ntmps43
    go_upto_region 3 with (go_at_call 60; refine HH.out.mono ?_; rintro e w1 ⟨rfl, x1⟩; have X1 := qh x1; clear x1)
    have D1 := qh (HD.out.ext X1.out)
    obtain ⟨g, cap, p1, q0, f0⟩ := D1.out.isFree HK.out
    rw [HM.out] at p1
    have P1 := qh p1
    go_upto_region 4 with fail
    obtain ⟨d2, fg⟩ := D1.out.setI (iv := .slice (some ⟨g, 0, none⟩) m cap) P1.out (g := g) (k := i) rfl (by rw [HM.out]; exact hil) 0
    have hm2 : Mv F w (w1.setCell ⟨g, i, none⟩ (.int .i64 0)) := (Mv.ofExt X1.out).setCell (p := ⟨g, i, none⟩) (fun _ => fg) _
    obtain ⟨w2, hw2⟩ : ∃ W, w1.setCell ⟨g, i, none⟩ (.int .i64 0) = W := ⟨_, rfl⟩
    rw [hw2] at d2 hm2 ⊢
    have D2 := qh d2
    have M2 := qh hm2
    clear p1 q0 f0 d2 hm2 hw2 fg
    obtain ⟨g2, cap2, p2, q0, q1, f0, f1⟩ := D2.out.heldFree HP.out
    have hpl : P.length = m := by rw [HD.out.len, HM.out]
    rw [hpl] at p2
    have P2 := qh p2
    have HPL := qh hpl
    clear hpl
    obtain ⟨d3, fg2⟩ := D2.out.setP (pv := .slice (some ⟨g2, 0, none⟩) m cap2) P2.out (g := g2) (k := i) rfl (by rw [HPL.out]; exact hil) 0 0
    have HF : Hid (DAft F w xb rb T (I.set i 0) (P.set i (0, 0)) ((w2.setCell ⟨g2, i * 2, none⟩ (.int .i64 0)).setCell ⟨g2, i * 2 + 1, none⟩ (.int .i64 0))) := qh (HD.out.aft d3 ((M2.out.setCell (p := ⟨g2, i * 2, none⟩) (fun _ => fg2) _).setCell (p := ⟨g2, i * 2 + 1, none⟩) (fun _ => fg2) _))
    clear d3 fg2
    go_wp2_with fail
    go_ret
    exact ⟨rfl, HF.out⟩
end
section
variable {w : World} {F : Nat → Prop} {xb rb : Nat} {T : Tr} {I : List Int} {P : List (Int × Int)}
theorem dPlace (h : DocOn w F xb rb T I P) (k n a : Int) (hl : I.length ≤ 100000) {mb : Bool} (hM : ∀ W, Ext w W → Calls Tryz.prog 102 #[.pointer (some ⟨rb, 0, none⟩), pl n a] W (RVal (.bool mb) W)) :
    Calls Tryz.prog 42 #[.pointer (some ⟨xb, 0, none⟩), .int .i64 k, pl n a] w (DErr F w xb rb (if hasI I k then (if mb then 0 else 1) else 2) T I (if hasI I k && mb then P.set k.toNat (n, a) else P)) := by
  have xa := (Ext.refl w).alloc (.cells #[.int .i64 n, .int .i64 a] 43)
  have hba := heap_alloc_new w (.cells #[.int .i64 n, .int .i64 a] 43)
  obtain ⟨wa, hwa⟩ : ∃ W : World, W = w.alloc (.cells #[.int .i64 n, .int .i64 a] 43) := ⟨_, rfl⟩
  rw [← hwa] at xa hba
  obtain ⟨pb, hpb⟩ : ∃ b, w.heap.size = b := ⟨_, rfl⟩
  rw [hpb] at hba
  have HH := qh (dHas (h.ext xa) k hl)
  have HD := qh h
  have XA := qh xa
  have HWA := qh hwa
  have HPB := qh hpb
  have HBA := qh hba
  have HMY := qh (fun (W : World) (x : Ext wa W) => hM W (xa.trans x))
  clear hM xa hwa hpb hba
  cases hb : hasI I k with
  | false =>
    rw [hb] at HH
    clear hb h
    go_enter Tryz.func42, Tryz.ntmps42
    go_upto_region 1 with fail
    rw [← HWA.out, HPB.out]
    go_wp2_with (go_at_call 60; refine HH.out.mono ?_; rintro e w1 ⟨rfl, x1⟩; have X1 := qh x1; clear x1)
    have HF := qh (show DAft F w xb rb T I P _ from (DAft.refl HD.out).ext (XA.out.trans X1.out))
    go_ret
    exact ⟨rfl, HF.out⟩
  | true =>
    rw [hb] at HH
    unfold hasI at hb
    rw [Bool.and_eq_true, decide_eq_true_eq, beq_iff_eq] at hb
    obtain ⟨hk0, hki⟩ := hb
    obtain ⟨i, rfl⟩ := Int.eq_ofNat_of_zero_le hk0
    rw [Int.toNat_natCast] at hki
    have hil := (List.getElem?_eq_some_iff.1 hki).1
    obtain ⟨p, hp⟩ : ∃ p, P[i]? = some p := ⟨_, List.getElem?_eq_getElem (by rw [h.len]; exact hil)⟩
    have HP := qh hp
    obtain ⟨m, hm⟩ : ∃ m, I.length = m := ⟨_, rfl⟩
    have HM := qh hm
    rw [hm] at hil hl
    simp only [if_true, Int.toNat_natCast, Bool.true_and]
    have i0 : (0 : Int) ≤ (i : Int) := by omega
    have i1 : (i : Int) < (m : Int) := by omega
    have itn : (i : Int).toNat = i := by omega
    have HIL := qh hil
    clear h hki hp hm
    go_enter Tryz.func42, Tryz.ntmps42
    go_upto_region 1 with fail
    rw [← HWA.out, HPB.out]
    go_upto_region 3 with (go_at_call 60; refine HH.out.mono ?_; rintro e w2 ⟨rfl, x2⟩; have X2 := qh x2; clear x2)
    have r0 : ∀ u : ExtOf w2, u.val.cell? ⟨xb, 0, none⟩ = some (.pointer (some ⟨rb, 0, none⟩)) := fun u => ((XA.out.trans X2.out).trans u.ext).cell HD.out.ptr_
    have r1 : ∀ u : ExtOf w2, u.val.cell? ⟨pb, 0, none⟩ = some (.int .i64 n) := fun u => (X2.out.trans u.ext).cell (cellOf HBA.out rfl)
    have r2 : ∀ u : ExtOf w2, u.val.cell? ⟨pb, 1, none⟩ = some (.int .i64 a) := fun u => (X2.out.trans u.ext).cell (cellOf HBA.out rfl)
    have HM2 := qh (fun u : ExtOf w2 => inExt (u := u) (HMY.out u.val (X2.out.trans u.ext)))
    refine wp_region_ext (by kernel_rfl) (by kernel_rfl) ?_
    cases mb with
    | false =>
      repeat (go_big_quiet_step ((go_at_call 102; exact HM2.out _)))
      refine wpQuiet_nil ?_
      rintro _ ⟨u, rfl⟩
      have HF : Hid (DAft F w xb rb T I P u.val) := qh ((DAft.refl HD.out).ext (XA.out.trans (X2.out.trans u.ext)))
      clear r0 r1 r2
      go_wp2_with fail
      go_ret
      exact ⟨rfl, HF.out⟩
    | true =>
      repeat (go_big_quiet_step ((go_at_call 102; exact HM2.out _)))
      refine wpQuiet_nil ?_
      rintro _ ⟨u, rfl⟩
      have hx := X2.out.trans u.ext
      obtain ⟨w3, hw3⟩ : ∃ W, u.val = W := ⟨_, rfl⟩
      rw [hw3] at hx ⊢
      clear r0 r1 r2 HM2 hw3
      clear u
      have D3 := qh (HD.out.ext (XA.out.trans hx))
      have X3 := qh (XA.out.trans hx)
      have B3 := qh (hx.block HBA.out)
      clear hx
      go_upto_region 5 with fail
      obtain ⟨g2, cap2, p2, q0, q1, f0, f1⟩ := D3.out.heldFree HP.out
      have hpl : P.length = m := by rw [HD.out.len, HM.out]
      rw [hpl] at p2
      have P2 := qh p2
      have r0 : ∀ u : ExtOf w3, u.val.cell? ⟨xb, 2, none⟩ = some (.slice (some ⟨g2, 0, none⟩) m cap2) := fun u => u.ext.cell p2
      have r1 : ∀ u : ExtOf w3, u.val.cell? ⟨pb, 0, none⟩ = some (.int .i64 n) := fun u => u.ext.cell (cellOf B3.out rfl)
      have r2 : ∀ u : ExtOf w3, u.val.cell? ⟨pb, 1, none⟩ = some (.int .i64 a) := fun u => u.ext.cell (cellOf B3.out rfl)
      have HPL := qh hpl
      have L0 := qh (cell_lt q0)
      have Q0 := qh q0
      have Q1 := qh q1
      have FF0 := qh f0
      have FF1 := qh f1
      clear q0 q1 f0 f1 p2 hpl
      refine wp_region_ext_tail 7 (by kernel_rfl) (by kernel_rfl) ?_
      simp only [List.take_succ_cons, List.take_zero, List.drop_succ_cons, List.drop_zero]
      repeat (go_big_quiet_step (fail))
      refine wpQuiet_nil ?_
      rintro _ ⟨u, rfl⟩
      have hx := u.ext
      obtain ⟨w5, hw5⟩ : ∃ W, u.val = W := ⟨_, rfl⟩
      rw [hw5] at hx ⊢
      clear r0 r1 r2 hw5
      clear u
      have D5 := D3.out.ext hx
      have p5 := hx.cell P2.out
      obtain ⟨d3, fg2⟩ := D5.setP (pv := .slice (some ⟨g2, 0, none⟩) m cap2) p5 (g := g2) (k := i) rfl (by rw [HPL.out]; exact HIL.out) n a
      have HF : Hid (DAft F w xb rb T I (P.set i (n, a)) ((w5.setCell ⟨g2, i * 2, none⟩ (.int .i64 n)).setCell ⟨g2, i * 2 + 1, none⟩ (.int .i64 a))) := qh (HD.out.aft d3 (((Mv.ofExt (X3.out.trans hx)).setCell (p := ⟨g2, i * 2, none⟩) (fun _ => fg2) _).setCell (p := ⟨g2, i * 2 + 1, none⟩) (fun _ => fg2) _))
      have k0 := hx.cell Q0.out
      have k1 := hx.cell Q1.out
      have f0 := hx.free L0.out FF0.out
      have f1 := hx.free L0.out FF1.out
      clear d3 fg2 D5 p5 hx
      go_wp2_with fail
      go_ret
      exact ⟨rfl, HF.out⟩
end
def DNewIs (w : World) (T : Tr) (I : List Int) (P : List (Int × Int)) (e : Ending) (w' : World) : Prop := ∃ xb rb, e = .returned (.pointer (some ⟨xb, 0, none⟩)) ∧ Ext w w' ∧ DocOn w' (fun b => w.heap.size ≤ b) xb rb T I P
theorem dNew_ok (cap deep : Int) (h1 : 1 ≤ cap) (h2 : cap ≤ 2000) (h3 : 0 ≤ deep) (h4 : deep ≤ 40) (w : World) :
    Calls Tryz.prog 9 #[.int .i64 cap, .int .i64 deep] w (DNewIs w (hostOf cap deep) [] []) := by
  have HN := qh (rNew_ok cap deep h1 h2 h3 h4 w)
  clear h1 h2 h3 h4
  obtain ⟨T, hT⟩ : ∃ T, hostOf cap deep = T := ⟨_, rfl⟩
  rw [hT] at HN ⊢
  clear hT
  go_enter Tryz.func9, Tryz.ntmps9
  go_wp2_with (go_at_call 30; refine HN.out.mono ?_)
  rintro e w1 ⟨rb, rfl, x1, hR⟩
  have HR := qh hR.lt
  have X1 := qh x1
  clear hR x1
  have HF : Hid (DNewIs w T [] [] (.returned (.pointer (some ⟨w1.heap.size, 0, none⟩))) (w1.alloc (.cells #[.pointer (some ⟨rb, 0, none⟩), .slice none 0 0, .slice none 0 0] 76))) := qh (by
    have xa := (Ext.refl w1).alloc (.cells #[.pointer (some ⟨rb, 0, none⟩), .slice none 0 0, .slice none 0 0] 76)
    refine ⟨w1.heap.size, rb, rfl, X1.out.trans xa, rfl, X1.out.size, _, _, _, none, none, HR.out.ext xa, fun b hb => ⟨hb.1, by omega, by simp, by simp, Nat.lt_of_lt_of_le hb.2 xa.size⟩, heap_alloc_new _ _, ⟨rfl, .inl ⟨rfl, none, rfl⟩⟩, (fun g hg => by cases hg), ⟨rfl, .inl ⟨rfl, none, rfl⟩⟩, fun g hg => by cases hg⟩)
  go_wp2_with fail
  go_ret
  exact HF.out
theorem dNew_no (cap deep : Int) (h : ¬ (1 ≤ cap ∧ cap ≤ 2000 ∧ 0 ≤ deep ∧ deep ≤ 40)) (w : World) :
    Calls Tryz.prog 9 #[.int .i64 cap, .int .i64 deep] w (RSame (.pointer none) w) := by
  have HN := qh (rNew_no cap deep h w)
  clear h
  go_enter Tryz.func9, Tryz.ntmps9
  go_wp2_with (go_at_call 30; refine HN.out.mono ?_; rintro e w1 ⟨rfl, rfl⟩)
  go_ret
  exact ⟨rfl, rfl⟩
section
variable {w : World} {F : Nat → Prop} {xb rb : Nat} {T : Tr} {I : List Int} {P : List (Int × Int)}
def DTwoAft (F : Nat → Prop) (w : World) (xb rb : Nat) (x er : Int) (T : Tr) (I : List Int) (P : List (Int × Int)) (e : Ending) (w' : World) : Prop := e = .returned (.tuple #[.int .i64 x, .int .i64 er]) ∧ DAft F w xb rb T I P w'
theorem dHold_no (h : DocOn w F xb rb T I P) (n a : Int) (hM : ∀ W, Ext w W → Calls Tryz.prog 102 #[.pointer (some ⟨rb, 0, none⟩), pl n a] W (RVal (.bool false) W)) :
    Calls Tryz.prog 40 #[.pointer (some ⟨xb, 0, none⟩), pl n a] w (DTwoAft F w xb rb 0 1 T I P) := by
  have xa := (Ext.refl w).alloc (.cells #[.int .i64 n, .int .i64 a] 43)
  have hba := heap_alloc_new w (.cells #[.int .i64 n, .int .i64 a] 43)
  obtain ⟨wa, hwa⟩ : ∃ W : World, W = w.alloc (.cells #[.int .i64 n, .int .i64 a] 43) := ⟨_, rfl⟩
  rw [← hwa] at xa hba
  obtain ⟨pb, hpb⟩ : ∃ b, w.heap.size = b := ⟨_, rfl⟩
  rw [hpb] at hba
  have HD := qh h
  have XA := qh xa
  have HWA := qh hwa
  have HPB := qh hpb
  have HBA := qh hba
  have HMY := qh (fun (u : ExtOf wa) => inExt (u := u) (hM u.val (xa.trans u.ext)))
  clear hM xa hwa hpb hba h
  go_enter Tryz.func40, Tryz.ntmps40
  go_upto_region 1 with fail
  rw [← HWA.out, HPB.out]
  have r0 : ∀ u : ExtOf wa, u.val.cell? ⟨xb, 0, none⟩ = some (.pointer (some ⟨rb, 0, none⟩)) := fun u => (XA.out.trans u.ext).cell HD.out.ptr_
  have r1 : ∀ u : ExtOf wa, u.val.cell? ⟨pb, 0, none⟩ = some (.int .i64 n) := fun u => u.ext.cell (cellOf HBA.out rfl)
  have r2 : ∀ u : ExtOf wa, u.val.cell? ⟨pb, 1, none⟩ = some (.int .i64 a) := fun u => u.ext.cell (cellOf HBA.out rfl)
  refine wp_region_ext (by kernel_rfl) (by kernel_rfl) ?_
  repeat (go_big_quiet_step ((go_at_call 102; exact HMY.out _)))
  refine wpQuiet_nil ?_
  rintro _ ⟨u, rfl⟩
  have HF : Hid (DAft F w xb rb T I P u.val) := qh ((DAft.refl HD.out).ext (XA.out.trans u.ext))
  clear r0 r1 r2
  go_wp2_with fail
  refine bodyPost_ret (v := .tuple #[.int .i64 0, .int .i64 1]) (by simp [results, Tryz.results40, asAddr]) rfl ?_
  exact ⟨rfl, HF.out⟩
end
def chP (f : Int → Int → Int × Int) (i : Int) (p : Int × Int) : Int × Int := if i = 0 then p else f p.1 p.2
def chAll (f : Int → Int → Int × Int) (I : List Int) (P : List (Int × Int)) : List (Int × Int) := List.zipWith (chP f) I P
def chTo (f : Int → Int → Int × Int) (I : List Int) (P : List (Int × Int)) (i : Nat) : List (Int × Int) := (chAll f I P).take i ++ P.drop i
section
variable {f : Int → Int → Int × Int} {I : List Int} {P : List (Int × Int)}
theorem chAll_len (h : P.length = I.length) : (chAll f I P).length = I.length := by unfold chAll; rw [List.length_zipWith, h]; simp
theorem chTo_zero : chTo f I P 0 = P := by simp [chTo]
theorem chTo_len (h : P.length = I.length) (i : Nat) : (chTo f I P i).length = I.length := by
  unfold chTo
  rw [List.length_append, List.length_take, List.length_drop, chAll_len h, h]
  omega
theorem chTo_all (h : P.length = I.length) : chTo f I P I.length = chAll f I P := by
  unfold chTo
  rw [List.take_of_length_le (by rw [chAll_len h]; exact Nat.le_refl _), List.drop_of_length_le (by omega), List.append_nil]
theorem chTo_at (h : P.length = I.length) {i : Nat} {p : Int × Int} (hp : P[i]? = some p) : (chTo f I P i)[i]? = some p := by
  have hi := (List.getElem?_eq_some_iff.1 hp).1
  unfold chTo
  have hl : ((chAll f I P).take i).length = i := by rw [List.length_take, chAll_len h]; omega
  rw [List.getElem?_append_right (by omega), hl, Nat.sub_self, List.getElem?_drop, Nat.add_zero]
  exact hp
theorem chTo_next (h : P.length = I.length) {i : Nat} {x : Int} {p : Int × Int} (hx : I[i]? = some x) (hp : P[i]? = some p) : (chTo f I P i).set i (chP f x p) = chTo f I P (i + 1) := by
  obtain ⟨hi, e⟩ := List.getElem?_eq_some_iff.1 hp
  unfold chTo
  have hl : ((chAll f I P).take i).length = i := by rw [List.length_take, chAll_len h]; omega
  have hc : (chAll f I P)[i]? = some (chP f x p) := by unfold chAll; rw [List.getElem?_zipWith, hx, hp]
  rw [List.set_append_right _ _ (by omega), hl, Nat.sub_self, List.drop_eq_getElem_cons hi, List.set_cons_zero, List.take_add_one, hc]
  simp
end
section
variable {w : World} {F : Nat → Prop} {xb rb : Nat} {T : Tr} {I : List Int} {P : List (Int × Int)}
theorem DocOn.lt (h : DocOn w F xb rb T I P) : DocOn w (fun b => F b ∧ b < w.heap.size) xb rb T I P := by
  obtain ⟨F0, iv, pv, ib, pb, h1, h2, h3, h4, h5, h6, h7⟩ := h.out
  exact ⟨h.len, ⟨h.own, (Array.getElem?_eq_some_iff.1 h3).1⟩, F0, iv, pv, ib, pb, h1, fun b hb => ⟨⟨(h2 b hb).1, (h2 b hb).2.2.2.2⟩, (h2 b hb).2⟩, h3, h4, fun g hg => ⟨⟨(h5 g hg).1, (h5 g hg).2.2.2⟩, (h5 g hg).2⟩, h6, fun g hg => ⟨⟨(h7 g hg).1, (h7 g hg).2.2⟩, (h7 g hg).2⟩⟩
def DVoid (F : Nat → Prop) (w : World) (xb rb : Nat) (T : Tr) (I : List Int) (P : List (Int × Int)) (e : Ending) (w' : World) : Prop := e = .returned (.tuple #[]) ∧ DAft F w xb rb T I P w'
theorem RowRd.ints {w : World} {v : Value} {L : List Int} (h : RowRd w 1 v L.length (L.map (Value.int .i64))) : ∃ ao cap, v = .slice ao L.length cap ∧ ∀ (k : Nat) x, L[k]? = some x → ∃ a, ao = some a ∧ w.cell? (a.add k) = some (.int .i64 x) := by
  obtain ⟨hl, ao, cap, rfl, hcap, hnone, hc⟩ := h
  refine ⟨ao, cap, rfl, fun k x hk => ?_⟩
  have hkl := (List.getElem?_eq_some_iff.1 hk).1
  cases ao with
  | none => have := (hnone rfl).1; omega
  | some a => exact ⟨a, rfl, hc a rfl k (.int .i64 x) (by rw [List.getElem?_map, hk]; rfl)⟩
theorem dChange (h : DocOn w F xb rb T I P) (hl : I.length ≤ 100000) {v : Value} {L : List Int} (hv : ∀ W, Mv F w W → RowRd W 1 v L.length (L.map (Value.int .i64))) (hL : L.length ≤ 100000) (kin other a b c d e : Int) (f : Int → Int → Int × Int)
    (hC : ∀ (k : Nat) n x i, P[k]? = some (n, x) → I[k]? = some i → i ≠ 0 → ∀ W, Calls Tryz.prog 135 #[pl n x, .int .i64 (if n ∈ L then kin else other), .agg #[.int .i64 a, .int .i64 b, .int .i64 c, .int .i64 d, .int .i64 e]] W (RPlace (f n x).1 (f n x).2 W)) :
    Calls Tryz.prog 89 #[.pointer (some ⟨xb, 0, none⟩), v, .int .i64 kin, .int .i64 other, .agg #[.int .i64 a, .int .i64 b, .int .i64 c, .int .i64 d, .int .i64 e]] w (DVoid F w xb rb T I (chAll f I P)) := by
  have xa := (Ext.refl w).alloc (.cells #[.int .i64 a, .int .i64 b, .int .i64 c, .int .i64 d, .int .i64 e] 128)
  have hba := heap_alloc_new w (.cells #[.int .i64 a, .int .i64 b, .int .i64 c, .int .i64 d, .int .i64 e] 128)
  obtain ⟨w1, hw1⟩ : ∃ W : World, W = w.alloc (.cells #[.int .i64 a, .int .i64 b, .int .i64 c, .int .i64 d, .int .i64 e] 128) := ⟨_, rfl⟩
  rw [← hw1] at xa hba
  obtain ⟨nb, hnb⟩ : ∃ b, w.heap.size = b := ⟨_, rfl⟩
  have hd1 := h.lt.ext xa
  rw [hnb] at hba hd1
  obtain ⟨ao, cap, ev, -⟩ := (hv w (Mv.refl _ _)).ints
  obtain ⟨ml, hml⟩ : ∃ m, L.length = m := ⟨_, rfl⟩
  obtain ⟨m, hm⟩ : ∃ m, I.length = m := ⟨_, rfl⟩
  have hpm : P.length = m := by rw [h.len, hm]
  have HPL := qh h.len
  have HPM := qh hpm
  have HML := qh hml
  have HM := qh hm
  have HD := qh h
  have HD1 := qh hd1
  have XA := qh xa
  have HW1 := qh hw1
  have HNB := qh hnb
  have HBA := qh hba
  have HV : Hid (∀ W, Mv (fun b => F b ∧ b < nb) w1 W → RowRd W 1 v ml (L.map (Value.int .i64))) := qh (fun W hW => by
    have h2 := hv W ((Mv.ofExt xa).trans (hW.imp fun x _ hx => hx.1))
    rw [hml] at h2
    exact h2)
  have HC := qh hC
  rw [hml] at hL ev
  rw [hm] at hl
  subst ev
  clear h hd1 hv hC xa hw1 hnb hba hml hm hpm
  go_enter Tryz.func89, Tryz.ntmps89
  go_upto_region 1 with fail
  rw [← HW1.out, HNB.out]
  go_wp2_with fail
  go_loopw [10, 11, 12] (fun iv kv jv wr => ∃ i : Nat, i ≤ m ∧ iv = .int .i64 i ∧ DocOn wr (fun b => F b ∧ b < nb) xb rb T I (chTo f I P i) ∧ Mv (fun b => F b ∧ b < nb) w1 wr) (fun iv _ _ _ => m - (intOf iv).toNat)
  case atStart => exact ⟨0, Nat.zero_le _, rfl, by rw [chTo_zero]; exact HD1.out, Mv.refl _ _⟩
  case round =>
    rename World => wo
    obtain ⟨i, him, rfl, hdc, hmv⟩ := hrel
    have HDC := qh hdc
    have HMV := qh hmv
    have HIM := qh him
    clear hdc hmv
    by_cases hlt : i < m
    · obtain ⟨x, hx⟩ : ∃ x, I[i]? = some x := ⟨_, List.getElem?_eq_getElem (by rw [HM.out]; exact hlt)⟩
      obtain ⟨p, hp⟩ : ∃ p, P[i]? = some p := ⟨_, List.getElem?_eq_getElem (by rw [HPM.out]; exact hlt)⟩
      obtain ⟨pn, px⟩ := p
      obtain ⟨g1, cap1, p1, q1, -⟩ := HDC.out.isFree hx
      rw [HM.out] at p1
      have HX := qh hx
      have HP := qh hp
      have e0 : decide ((i : Int) < (m : Int)) = true := decide_eq_true (by omega)
      have e0n : decide (i < m) = true := decide_eq_true hlt
      have i0 : (0 : Int) ≤ (i : Int) := by omega
      have i1 : (i : Int) < (m : Int) := by omega
      have itn : (i : Int).toNat = i := by omega
      have HLT := qh hlt
      clear hx hp hlt him
      by_cases hx0 : x = 0
      · have ex : (x == 0) = true := beq_iff_eq.2 hx0
        have HX0 := qh hx0
        clear hx0
        go_wp2_with fail
        go_roundw
        case rel =>
          refine ⟨i + 1, by have := HLT.out; omega, by go_num, ?_, HMV.out⟩
          rw [← chTo_next HPL.out HX.out HP.out]
          have e1 : chP f x (pn, px) = (pn, px) := if_pos HX0.out
          rw [e1]
          have e2 : (chTo f I P i).set i (pn, px) = chTo f I P i := by
            obtain ⟨h1, h2⟩ := List.getElem?_eq_some_iff.1 (chTo_at (f := f) HPL.out HP.out)
            rw [← h2]; exact List.set_getElem_self h1
          rw [e2]
          exact HDC.out
        case measure => have := HLT.out; simp [intOf]; omega
      · have ex : (x == 0) = false := beq_eq_false_iff_ne.2 hx0
        have HX0 := qh hx0
        clear hx0
        go_wp2_with fail
        clear p1 q1
        go_loopw [11, 12] (fun kv jv w' => ∃ j : Nat, j ≤ ml ∧ jv = .int .i64 j ∧ kv = .int .i64 (if pn ∈ L.take j then kin else other) ∧ Ext wo w') (fun _ jv _ => ml - (intOf jv).toNat)
        case atStart => exact ⟨0, Nat.zero_le _, rfl, rfl, Ext.refl _⟩
        case round =>
          rename World => w'
          obtain ⟨j, hjm, rfl, rfl, hxw⟩ := hrel
          have HXW := qh hxw
          have HJM := qh hjm
          clear hxw
          by_cases hjl : j < ml
          · obtain ⟨y, hy⟩ : ∃ y, L[j]? = some y := ⟨_, List.getElem?_eq_getElem (by rw [HML.out]; exact hjl)⟩
            have hrd := HV.out w' (HMV.out.ext HXW.out)
            obtain ⟨_, ao2, cap2, e2, -, hn2, hc2⟩ := hrd
            cases e2
            obtain ⟨av, rfl⟩ : ∃ av, ao = some av := by
              cases ao with
              | some av => exact ⟨av, rfl⟩
              | none => have := (hn2 rfl).1; omega
            have q2 := hc2 av rfl j (.int .i64 y) (by rw [List.getElem?_map, hy]; rfl)
            have D2 := HDC.out.ext HXW.out
            obtain ⟨g2, cap3, p2, q3, q4, -, -⟩ := D2.heldFree (chTo_at (f := f) HPL.out HP.out)
            rw [chTo_len HPL.out, HM.out] at p2
            have HY := qh hy
            have HJL := qh hjl
            have j0 : (0 : Int) ≤ (j : Int) := by omega
            have j1 : (j : Int) < (ml : Int) := by omega
            have jtn : (j : Int).toNat = j := by omega
            have e5 : decide ((j : Int) < (ml : Int)) = true := decide_eq_true (by omega)
            have e5n : decide (j < ml) = true := decide_eq_true hjl
            have r0 : ∀ u : ExtOf w', u.val.cell? ⟨xb, 2, none⟩ = some (.slice (some ⟨g2, 0, none⟩) m cap3) := fun u => u.ext.cell p2
            have r1 : ∀ u : ExtOf w', u.val.cell? ⟨g2, i * 2, none⟩ = some (.int .i64 pn) := fun u => u.ext.cell q3
            have r2 : ∀ u : ExtOf w', u.val.cell? (av.add j) = some (.int .i64 y) := fun u => u.ext.cells _ _ q2
            clear hn2 hc2 p2 q2 q3 q4 D2 hy hjl hjm
            obtain ⟨kd, hkd⟩ : ∃ k, (if pn ∈ L.take j then kin else other) = k := ⟨_, rfl⟩
            have HKD := qh hkd
            rw [hkd]
            clear hkd
            by_cases hyp : y = pn
            · have e6 : (y == pn) = true := beq_iff_eq.2 hyp
              have e6d : decide (y = pn) = true := decide_eq_true hyp
              have HYP := qh hyp
              clear hyp
              go_upto_region 9 with fail
              refine wp_region_ext (by kernel_rfl) (by kernel_rfl) ?_
              repeat (go_big_quiet_step (fail))
              refine wpQuiet_nil ?_
              rintro _ ⟨u, rfl⟩
              have hx5 := HXW.out.trans u.ext
              obtain ⟨w5, hw5⟩ : ∃ W, u.val = W := ⟨_, rfl⟩
              rw [hw5] at hx5 ⊢
              clear r0 r1 r2 hw5
              clear u
              have HX5 := qh hx5
              clear hx5
              go_wp2_with fail
              go_roundw
              case rel =>
                refine ⟨j + 1, by have := HJL.out; omega, by go_num, ?_, HX5.out⟩
                rw [if_pos]
                rw [List.take_add_one, HY.out, HYP.out]
                simp
              case measure => have := HJL.out; simp [intOf]; omega
            · have e6 : (y == pn) = false := beq_eq_false_iff_ne.2 hyp
              have e6d : decide (y = pn) = false := decide_eq_false hyp
              have HYP := qh hyp
              clear hyp
              go_upto_region 9 with fail
              refine wp_region_ext (by kernel_rfl) (by kernel_rfl) ?_
              repeat (go_big_quiet_step (fail))
              refine wpQuiet_nil ?_
              rintro _ ⟨u, rfl⟩
              have hx5 := HXW.out.trans u.ext
              obtain ⟨w5, hw5⟩ : ∃ W, u.val = W := ⟨_, rfl⟩
              rw [hw5] at hx5 ⊢
              clear r0 r1 r2 hw5
              clear u
              have HX5 := qh hx5
              clear hx5
              go_wp2_with fail
              go_roundw
              case rel =>
                refine ⟨j + 1, by have := HJL.out; omega, by go_num, ?_, HX5.out⟩
                rw [← HKD.out, List.take_add_one, HY.out]
                have hz : (pn ∈ L.take j ++ (some y).toList) ↔ pn ∈ L.take j := by
                  rw [List.mem_append]
                  constructor
                  · rintro (h | h)
                    · exact h
                    · have h3 : pn = y := by simpa using h
                      exact absurd h3.symm HYP.out
                  · exact .inl
                by_cases hc : pn ∈ L.take j
                · rw [if_pos hc, if_pos (hz.2 hc)]
                · rw [if_neg hc, if_neg (fun h => hc (hz.1 h))]
              case measure => have := HJL.out; simp [intOf]; omega
          · have hje : j = ml := by omega
            have e5 : decide ((j : Int) < (ml : Int)) = false := decide_eq_false (by omega)
            have e5n : decide (j < ml) = false := decide_eq_false hjl
            have hkd : (if pn ∈ L.take j then kin else other) = (if pn ∈ L then kin else other) := by rw [hje, ← HML.out, List.take_length]
            rw [hkd]
            have HCC := qh (fun u : ExtOf w' => inExt (u := u) (HC.out i pn px x HP.out HX.out HX0.out u.val))
            obtain ⟨kd, hkd2⟩ : ∃ k, (if pn ∈ L then kin else other) = k := ⟨_, rfl⟩
            obtain ⟨n', hn'⟩ : ∃ n', (f pn px).1 = n' := ⟨_, rfl⟩
            obtain ⟨a', ha'⟩ : ∃ a', (f pn px).2 = a' := ⟨_, rfl⟩
            rw [hkd2, hn', ha'] at HCC
            rw [hkd2]
            have HN' := qh hn'
            have HA' := qh ha'
            clear hkd hkd2 hn' ha' hje hjl hjm
            go_upto_region 11 with fail
            have D2 := HDC.out.ext HXW.out
            obtain ⟨g2, cap3, p2, q3, q4, f3, f4⟩ := D2.heldFree (chTo_at (f := f) HPL.out HP.out)
            rw [chTo_len HPL.out, HM.out] at p2
            have hbn := (HMV.out.ext HXW.out).block HBA.out (fun h => absurd h.2 (Nat.lt_irrefl _))
            have r0 : ∀ u : ExtOf w', u.val.cell? ⟨xb, 2, none⟩ = some (.slice (some ⟨g2, 0, none⟩) m cap3) := fun u => u.ext.cell p2
            have r1 : ∀ u : ExtOf w', u.val.cell? ⟨g2, i * 2, none⟩ = some (.int .i64 pn) := fun u => u.ext.cell q3
            have r2 : ∀ u : ExtOf w', u.val.cell? ⟨g2, i * 2 + 1, none⟩ = some (.int .i64 px) := fun u => u.ext.cell q4
            have r3 : ∀ u : ExtOf w', u.val.cell? ⟨nb, 0, none⟩ = some (.int .i64 a) := fun u => u.ext.cell (cellOf hbn rfl)
            have r4 : ∀ u : ExtOf w', u.val.cell? ⟨nb, 1, none⟩ = some (.int .i64 b) := fun u => u.ext.cell (cellOf hbn rfl)
            have r5 : ∀ u : ExtOf w', u.val.cell? ⟨nb, 2, none⟩ = some (.int .i64 c) := fun u => u.ext.cell (cellOf hbn rfl)
            have r6 : ∀ u : ExtOf w', u.val.cell? ⟨nb, 3, none⟩ = some (.int .i64 d) := fun u => u.ext.cell (cellOf hbn rfl)
            have r7 : ∀ u : ExtOf w', u.val.cell? ⟨nb, 4, none⟩ = some (.int .i64 e) := fun u => u.ext.cell (cellOf hbn rfl)
            have P2 := qh p2
            have Q3 := qh q3
            have Q4 := qh q4
            have FF3 := qh f3
            have FF4 := qh f4
            clear D2 p2 q3 q4 f3 f4 hbn
            refine wp_region_ext_tail 16 (by kernel_rfl) (by kernel_rfl) ?_
            simp only [List.take_succ_cons, List.take_zero, List.drop_succ_cons, List.drop_zero]
            repeat (go_big_quiet_step ((go_at_call 135; exact HCC.out _)))
            refine wpQuiet_nil ?_
            rintro _ ⟨u, rfl⟩
            have hx5 := u.ext
            obtain ⟨w5, hw5⟩ : ∃ W, u.val = W := ⟨_, rfl⟩
            rw [hw5] at hx5 ⊢
            clear r0 r1 r2 r3 r4 r5 r6 r7 hw5 HCC
            clear u
            have k0 := hx5.cell Q3.out
            have k1 := hx5.cell Q4.out
            have f0 := hx5.free (cell_lt Q3.out) FF3.out
            have f1 := hx5.free (cell_lt Q3.out) FF4.out
            have HF : Hid (DocOn ((w5.setCell ⟨g2, i * 2, none⟩ (.int .i64 n')).setCell ⟨g2, i * 2 + 1, none⟩ (.int .i64 a')) (fun b => F b ∧ b < nb) xb rb T I (chTo f I P (i + 1)) ∧
                Mv (fun b => F b ∧ b < nb) w1 ((w5.setCell ⟨g2, i * 2, none⟩ (.int .i64 n')).setCell ⟨g2, i * 2 + 1, none⟩ (.int .i64 a'))) := qh (by
              have D5 := (HDC.out.ext HXW.out).ext hx5
              obtain ⟨d3, fg2⟩ := D5.setP (pv := .slice (some ⟨g2, 0, none⟩) m cap3) (hx5.cell P2.out) (g := g2) (k := i) rfl (by rw [chTo_len HPL.out, HM.out]; exact HLT.out) n' a'
              have e1 : (n', a') = chP f x (pn, px) := by
                unfold chP
                rw [if_neg HX0.out]
                show (n', a') = f pn px
                rw [← HN'.out, ← HA'.out]
              rw [e1, chTo_next HPL.out HX.out HP.out] at d3
              exact ⟨d3, (((HMV.out.ext HXW.out).ext hx5).setCell (p := ⟨g2, i * 2, none⟩) (fun _ => fg2) _).setCell (p := ⟨g2, i * 2 + 1, none⟩) (fun _ => fg2) _⟩)
            clear hx5
            go_wp2_with fail
            go_roundw
            case rel => exact ⟨i + 1, by have := HLT.out; omega, by go_num, HF.out.1, HF.out.2⟩
            case measure => have := HLT.out; simp [intOf]; omega
    · have hie : i = m := by omega
      have e0 : decide ((i : Int) < (m : Int)) = false := decide_eq_false (by omega)
      have e0n : decide (i < m) = false := decide_eq_false hlt
      obtain ⟨ao1, cap1, p1, -⟩ := HDC.out.isAt
      rw [HM.out] at p1
      have HF : Hid (DAft F w xb rb T I (chAll f I P) wo) := qh (by
        have h9 := HDC.out
        rw [hie, ← HM.out, chTo_all HPL.out] at h9
        exact HD.out.aft (h9.wide fun b hb => hb.1) ((Mv.ofExt XA.out).trans (HMV.out.imp fun x _ hx => hx.1)))
      clear hie hlt him
      go_wp2_with fail
      go_end0
      exact ⟨rfl, HF.out⟩
end
def movedD (er : Int) (f : Int → Int → Int × Int) (I : List Int) (P : List (Int × Int)) : List (Int × Int) := if er = 0 then chAll f I P else P
def okPl (P : List (Int × Int)) : Prop := ∀ x ∈ P, okI x.1 ∧ okI x.2
section
variable {w : World} {F : Nat → Prop} {xb rb : Nat} {T : Tr} {I : List Int} {P : List (Int × Int)}
theorem nil_ints (w : World) : RowRd w 1 (.slice none 0 0) ([] : List Int).length (([] : List Int).map (Value.int .i64)) := nil_row w
theorem dChange_ins (h : DocOn w F xb rb T I P) (hl : I.length ≤ 100000) (p q m : Int) (op : okI p) (oq : okI q) (om : okI m) (oP : okPl P) :
    Calls Tryz.prog 89 #[.pointer (some ⟨xb, 0, none⟩), .slice none 0 0, .int .i64 0, .int .i64 0, .agg #[.int .i64 p, .int .i64 q, .int .i64 m, .int .i64 0, .int .i64 0]] w (DVoid F w xb rb T I (chAll (insP p q m) I P)) :=
  dChange h hl (v := .slice none 0 0) (L := []) (fun W _ => nil_ints W) (by decide) 0 0 p q m 0 0 (insP p q m) (fun k n x i hp hi h0 W => by
    have hk := oP _ (List.mem_of_getElem? hp)
    have e : (if n ∈ ([] : List Int) then (0 : Int) else 0) = 0 := by simp
    rw [e]
    exact rChange0 n x p q m 0 0 W hk.1 hk.2 op oq om)
theorem dChange_rep (h : DocOn w F xb rb T I P) (hl : I.length ≤ 100000) (p q c m : Int) (op : okI p) (oq : okI q) (oc : okI c) (hc : 0 ≤ c) (om : okI m) (oP : okPl P) :
    Calls Tryz.prog 89 #[.pointer (some ⟨xb, 0, none⟩), .slice none 0 0, .int .i64 0, .int .i64 3, .agg #[.int .i64 p, .int .i64 q, .int .i64 c, .int .i64 m, .int .i64 0]] w (DVoid F w xb rb T I (chAll (repP p q c m) I P)) :=
  dChange h hl (v := .slice none 0 0) (L := []) (fun W _ => nil_ints W) (by decide) 0 3 p q c m 0 (repP p q c m) (fun k n x i hp hi h0 W => by
    have hk := oP _ (List.mem_of_getElem? hp)
    have e : (if n ∈ ([] : List Int) then (0 : Int) else 3) = 3 := by simp
    rw [e]
    exact rChange3 n x p q c m 0 W hk.1 hk.2 op oq oc om hc)
def goneL (L : List Int) (p q : Int) : Int → Int → Int × Int := fun n a => if n ∈ L then (p, q) else (n, remA n a p q)
theorem dChange_rem (h : DocOn w F xb rb T I P) (hl : I.length ≤ 100000) {v : Value} {L : List Int} (hv : ∀ W, Mv F w W → RowRd W 1 v L.length (L.map (Value.int .i64))) (hL : L.length ≤ 100000) (p q : Int) (op : okI p) (oq : okI q) (oP : okPl P) :
    Calls Tryz.prog 89 #[.pointer (some ⟨xb, 0, none⟩), v, .int .i64 2, .int .i64 1, .agg #[.int .i64 p, .int .i64 q, .int .i64 0, .int .i64 0, .int .i64 0]] w (DVoid F w xb rb T I (chAll (goneL L p q) I P)) :=
  dChange h hl hv hL 2 1 p q 0 0 0 (goneL L p q) (fun k n x i hp hi h0 W => by
    have hk := oP _ (List.mem_of_getElem? hp)
    unfold goneL
    by_cases hn : n ∈ L
    · rw [if_pos hn, if_pos hn]
      exact rChange2 n x p q 0 0 0 W hk.1 hk.2 op oq
    · rw [if_neg hn, if_neg hn]
      exact rChange1 n x p q 0 0 0 W hk.1 hk.2 op oq)
theorem dInsert (h : DocOn w F xb rb T I P) (hl : I.length ≤ 100000) (p q k : Int) {er : Int} {T' : Tr}
    (hd : ∀ F0, RefOn w F0 rb T → Calls Tryz.prog 88 #[.pointer (some ⟨rb, 0, none⟩), .int .i64 p, .int .i64 q, .int .i64 k] w (RErr F0 w rb er T'))
    (hP : er = 0 → okI p ∧ okI q ∧ okPl P) :
    Calls Tryz.prog 33 #[.pointer (some ⟨xb, 0, none⟩), .int .i64 p, .int .i64 q, .int .i64 k] w (DErr F w xb rb er T' I (movedD er (insP p q 1) I P)) := by
  obtain ⟨F0, hR, hsub, hA⟩ := h.tree
  have HC := qh (hd F0 hR)
  have HA := qh hA
  have HL := qh hl
  have c0 := h.ptr_
  by_cases her : er = 0
  · subst her
    obtain ⟨op, oq, oP⟩ := hP rfl
    have OP := qh (And.intro op (And.intro oq oP))
    clear op oq oP hP hA hd hR hsub h hl
    go_enter Tryz.func33, Tryz.ntmps33
    go_wp2_with (first
      | (go_at_call 88; refine HC.out.mono ?_; rintro e w1 ⟨rfl, h1⟩; have HB := qh (HA.out _ _ h1); clear h1)
      | (go_at_call 89; refine (dChange_ins HB.out.on HL.out p q 1 OP.out.1 OP.out.2.1 (by unfold okI; omega) OP.out.2.2).mono ?_; rintro e w2 ⟨rfl, h2⟩; have HF := qh (HB.out.trans h2); clear h2))
    go_ret
    exact ⟨rfl, by unfold movedD; rw [if_pos rfl]; exact HF.out⟩
  · have e0 : (er == 0) = false := beq_eq_false_iff_ne.2 her
    have HE := qh her
    clear her hP hA hd hR hsub h hl
    go_enter Tryz.func33, Tryz.ntmps33
    go_wp2_with ((go_at_call 88; refine HC.out.mono ?_; rintro e w1 ⟨rfl, h1⟩; have HB := qh (HA.out _ _ h1); clear h1))
    go_ret
    exact ⟨rfl, by unfold movedD; rw [if_neg HE.out]; exact HB.out⟩
theorem dGraft (h : DocOn w F xb rb T I P) (hl : I.length ≤ 100000) (p q : Int) (v0 v1 v2 v3 : Value) {i er : Int} {T' : Tr}
    (hd : ∀ F0 W, Ext w W → (∀ b, F0 b → F b) → RefOn W F0 rb T → Calls Tryz.prog 101 #[.pointer (some ⟨rb, 0, none⟩), .int .i64 p, .int .i64 q, .agg #[v0, v1, v2, v3]] W (RTwoAft F0 W rb i er T'))
    (h1 : v0.oneCell' = true ∧ v1.oneCell' = true ∧ v2.oneCell' = true ∧ v3.oneCell' = true) (hP : er = 0 → okI p ∧ okI q ∧ okPl P) :
    Calls Tryz.prog 39 #[.pointer (some ⟨xb, 0, none⟩), .int .i64 p, .int .i64 q, .agg #[v0, v1, v2, v3]] w (DTwoAft F w xb rb i er T' I (movedD er (insP p q 1) I P)) := by
  have xc := (Ext.refl w).alloc (.cells #[v0, v1, v2, v3] 35)
  have hc := heap_alloc_new w (.cells #[v0, v1, v2, v3] 35)
  obtain ⟨wc, hwc⟩ : ∃ W : World, W = w.alloc (.cells #[v0, v1, v2, v3] 35) := ⟨_, rfl⟩
  rw [← hwc] at xc hc
  obtain ⟨bn, hbn⟩ : ∃ b, w.heap.size = b := ⟨_, rfl⟩
  rw [hbn] at hc
  have XC := qh xc
  have HCN := qh hc
  have HWC := qh hwc
  have HBN := qh hbn
  have HD := qh h
  have HG := qh hd
  have HL := qh hl
  have HPP := qh hP
  obtain ⟨o0, o1, o2, o3⟩ := h1
  clear h hd hl hP xc hc hwc hbn
  go_enter Tryz.func39, Tryz.ntmps39
  go_upto_region 1 with fail
  rw [← HWC.out, HBN.out]
  have r0 : ∀ u : ExtOf wc, u.val.cell? ⟨xb, 0, none⟩ = some (.pointer (some ⟨rb, 0, none⟩)) := fun u => u.ext.cell (HD.out.ext XC.out).ptr_
  have r3 : ∀ u : ExtOf wc, u.val.cell? ⟨bn, 0, none⟩ = some v0 := fun u => u.ext.cell (cellOf HCN.out rfl)
  have r4 : ∀ u : ExtOf wc, u.val.cell? ⟨bn, 1, none⟩ = some v1 := fun u => u.ext.cell (cellOf HCN.out rfl)
  have r5 : ∀ u : ExtOf wc, u.val.cell? ⟨bn, 2, none⟩ = some v2 := fun u => u.ext.cell (cellOf HCN.out rfl)
  have r6 : ∀ u : ExtOf wc, u.val.cell? ⟨bn, 3, none⟩ = some v3 := fun u => u.ext.cell (cellOf HCN.out rfl)
  refine wp_region_ext_mid 7 _ rfl (by kernel_rfl) (by kernel_rfl) ?_
  simp only [List.take_succ_cons, List.take_zero, List.drop_succ_cons, List.drop_zero]
  repeat (go_big_quiet_step (fail))
  refine wpQuiet_nil ?_
  rintro _ ⟨u, rfl⟩ K hK
  have HK := qh hK
  have hx := u.ext
  obtain ⟨w5, hw5⟩ : ∃ W, u.val = W := ⟨_, rfl⟩
  rw [hw5] at hx ⊢
  clear r0 r3 r4 r5 r6 hw5 hK
  clear u
  have X5 := qh (XC.out.trans hx)
  have D5 := HD.out.ext X5.out
  clear hx
  obtain ⟨F0, hR, hsub, hA⟩ := D5.tree
  have HC := qh (HG.out F0 w5 X5.out hsub hR)
  have HA := qh hA
  clear D5 hR hsub hA
  go_simp
  go_at_call 101
  refine HC.out.mono ?_
  rintro e w6 ⟨rfl, ha⟩
  have HB := qh (DAft.after X5.out (HA.out _ _ ha))
  clear ha
  refine HK.out _ _ ?_
  clear HK K
  repeat (go_big_quiet_step (fail))
  refine wpQuiet_nil ?_
  rintro _ ⟨u, rfl⟩
  have HB7 := qh (HB.out.ext u.ext)
  obtain ⟨w7, hw7⟩ : ∃ W, u.val = W := ⟨_, rfl⟩
  rw [hw7] at HB7 ⊢
  clear hw7
  clear u
  by_cases her : er = 0
  · subst her
    obtain ⟨op, oq, oP⟩ := HPP.out rfl
    have OP := qh (And.intro op (And.intro oq oP))
    clear op oq oP
    go_wp2_with ((go_at_call 89; refine (dChange_ins HB7.out.on HL.out p q 1 OP.out.1 OP.out.2.1 (by unfold okI; omega) OP.out.2.2).mono ?_; rintro e w2 ⟨rfl, h2⟩; have HF := qh (HB7.out.trans h2); clear h2))
    go_ret2
    exact ⟨rfl, by unfold movedD; rw [if_pos rfl]; exact HF.out⟩
  · have e0 : (er == 0) = false := beq_eq_false_iff_ne.2 her
    have HE := qh her
    clear her
    go_wp2_with fail
    go_ret2
    exact ⟨rfl, by unfold movedD; rw [if_neg HE.out]; exact HB7.out⟩
end
section
variable {w : World} {F : Nat → Prop} {xb rb : Nat} {T : Tr} {I : List Int} {P : List (Int × Int)}
theorem DAft.imp {F' : Nat → Prop} {w' : World} (h : DAft F w xb rb T I P w') (k : ∀ b, F b → F' b) : DAft F' w xb rb T I P w' := ⟨h.on.wide fun b hb => by rcases hb with hb | hb; exact .inl (k b hb); exact .inr hb, h.mv.imp fun x _ hx => k x hx⟩
theorem runes_ok (s : ByteArray) (hs : s.size ≤ 100000) : okI (runes s : Int) := by
  have := runes_le s
  unfold okI
  omega
theorem dSet (h : DocOn w F xb rb T I P) (hl : I.length ≤ 100000) (id at' c : Int) (s all : ByteArray) (hs : s.size ≤ 100000) {er : Int} {T' : Tr}
    (hd : ∀ F0, RefOn w F0 rb T → Calls Tryz.prog 139 #[.pointer (some ⟨rb, 0, none⟩), .int .i64 1, .int .i64 id, .int .i64 0, .string all, .slice none 0 0] w (RErr F0 w rb er T'))
    (hc0 : 0 ≤ c) (hP : er = 0 → okI id ∧ okI at' ∧ okI c ∧ okPl P) :
    Calls Tryz.prog 100 #[.pointer (some ⟨xb, 0, none⟩), .int .i64 id, .int .i64 at', .int .i64 c, .string s, .string all] w (DErr F w xb rb er T' I (movedD er (repP id at' c (runes s)) I P)) := by
  obtain ⟨F0, hR, hsub, hA⟩ := h.tree
  have HC := qh (hd F0 hR)
  have HA := qh hA
  have HL := qh hl
  have HS := qh hs
  have c0 := h.ptr_
  by_cases her : er = 0
  · subst her
    obtain ⟨op, oq, oc, oP⟩ := hP rfl
    have OP := qh (And.intro op (And.intro oq (And.intro oc oP)))
    clear op oq oc oP hP hA hd hR hsub h hl hs
    go_enter Tryz.func100, Tryz.ntmps100
    go_wp2_with (first
      | (go_at_call 139; refine HC.out.mono ?_; rintro e w1 ⟨rfl, h1⟩; have HB := qh (HA.out _ _ h1); clear h1)
      | (go_at_call 99; refine (rChars s HS.out _).mono ?_; rintro e w2 ⟨rfl, h2⟩; have HB2 := qh (HB.out.ext h2); clear h2)
      | (go_at_call 89; refine (dChange_rep HB2.out.on HL.out id at' c (runes s) OP.out.1 OP.out.2.1 OP.out.2.2.1 hc0 (runes_ok s HS.out) OP.out.2.2.2).mono ?_; rintro e w2 ⟨rfl, h2⟩; have HF := qh (HB2.out.trans h2); clear h2))
    go_ret
    exact ⟨rfl, by unfold movedD; rw [if_pos rfl]; exact HF.out⟩
  · have e0 : (er == 0) = false := beq_eq_false_iff_ne.2 her
    have HE := qh her
    clear her hP hA hd hR hsub h hl hs
    go_enter Tryz.func100, Tryz.ntmps100
    go_wp2_with ((go_at_call 139; refine HC.out.mono ?_; rintro e w1 ⟨rfl, h1⟩; have HB := qh (HA.out _ _ h1); clear h1))
    go_ret
    exact ⟨rfl, by unfold movedD; rw [if_neg HE.out]; exact HB.out⟩
theorem dSetText (h : DocOn w F xb rb T I P) (hl : I.length ≤ 100000) (hA : AttrsOk T) (id : Int) (s : ByteArray) (hs : s.size ≤ 100000) {er : Int} {T' : Tr}
    (hd : ∀ F0 W, Ext w W → RefOn W F0 rb T → Calls Tryz.prog 139 #[.pointer (some ⟨rb, 0, none⟩), .int .i64 1, .int .i64 id, .int .i64 0, .string s, .slice none 0 0] W (RErr F0 W rb er T'))
    (hP : er = 0 → okI id ∧ okPl P) :
    Calls Tryz.prog 38 #[.pointer (some ⟨xb, 0, none⟩), .int .i64 id, .string s] w (DErr F w xb rb er T' I (movedD er (repP id 0 (runes (T.txt id)) (runes s)) I P)) := by
  have HL := qh hl
  have HS := qh hs
  have HD := qh h
  have HG := qh hd
  have HP := qh hP
  have c0 := h.ptr_
  cases hg : T.get? id with
  | none =>
    have HAS := qh (rHas_no h.ref hg)
    have e : T.txt id = ByteArray.empty := by unfold Tr.txt; rw [hg]
    have ez : runes ByteArray.empty = 0 := by
      have := runes_le ByteArray.empty
      simpa using this
    rw [e, ez]
    clear h hA hg e ez hd hl hs hP
    go_enter Tryz.func38, Tryz.ntmps38
    go_wp2_with (first
      | (go_at_call 91; refine HAS.out.mono ?_; rintro e w1 ⟨rfl, rfl⟩)
      | (go_at_call 100; refine (dSet HD.out HL.out id 0 0 s s HS.out (fun F0 hR => HG.out F0 _ (Ext.refl _) hR) (by omega) (fun he => ⟨(HP.out he).1, by unfold okI; omega, by unfold okI; omega, (HP.out he).2⟩)).mono ?_; rintro e w2 ⟨rfl, h2⟩; have HF := qh h2; clear h2))
    go_ret
    exact ⟨rfl, HF.out⟩
  | some nd =>
    have HAS := qh (rHas_yes h.ref hg)
    have e : T.txt id = nd.text := by unfold Tr.txt; rw [hg]
    rw [e]
    obtain ⟨i, rfl, hi, hil⟩ := nodes_some hg
    have hts : nd.text.size ≤ 100000 := by have := (hA i nd hi).2; omega
    have HCH := qh (rChars nd.text hts w)
    obtain ⟨g, cap, aa, ac, ka, kc, cc, k0, k1, k2, k3, k4, k5, _⟩ := h.ref.one hi
    replace k4 : w.cell? ⟨g, i * 6 + 4, none⟩ = some (.string nd.text) := k4
    have HOK := qh (runes_ok nd.text hts)
    have i0 : (0 : Int) ≤ (i : Int) := by omega
    have i1 : (i : Int) < (T.nodes.length : Int) := by omega
    have itn : (i : Int).toNat = i := by omega
    clear h hA hg e hi hts hd hl hs k0 k1 k2 k3 k5 hP
    go_enter Tryz.func38, Tryz.ntmps38
    go_wp2_with (first
      | (go_at_call 91; refine HAS.out.mono ?_; rintro e w1 ⟨rfl, rfl⟩)
      | (go_at_call 99; refine HCH.out.mono ?_; rintro e w2 ⟨rfl, hx⟩; have HX := qh hx; clear hx)
      | (go_at_call 100; refine (dSet (HD.out.ext HX.out) HL.out i 0 (runes nd.text) s s HS.out (fun F0 hR => HG.out F0 _ HX.out hR) (by omega) (fun he => ⟨(HP.out he).1, by unfold okI; omega, HOK.out, (HP.out he).2⟩)).mono ?_; rintro e w3 ⟨rfl, h2⟩; have HF := qh (DAft.after HX.out h2); clear h2))
    go_ret
    exact ⟨rfl, HF.out⟩
theorem RRow.of {n : Nat} {xs : List Value} {e : Ending} {w' : World} (h : RRow 3 1 n xs w e w') : ∃ v, e = .returned v ∧ RowP w' (fun g => w.heap.size ≤ g) 3 1 v n xs ∧ Ext w w' := h
theorem dRemove (h : DocOn w F xb rb T I P) (hl : I.length ≤ 100000) {d : Nat → Nat} (hw : WF T d) (id : Int) (hal : (T.allOf id).length ≤ 100000) {er : Int} {T' : Tr}
    (hd : ∀ F0 W, Ext w W → RefOn W F0 rb T → Calls Tryz.prog 93 #[.pointer (some ⟨rb, 0, none⟩), .int .i64 id] W (RErr F0 W rb er T'))
    (hP : er = 0 → okI (T.up id) ∧ okI (T.idx id) ∧ okPl P) :
    Calls Tryz.prog 34 #[.pointer (some ⟨xb, 0, none⟩), .int .i64 id] w (DErr F w xb rb er T' I (movedD er (goneL (T.allOf id) (T.up id) (T.idx id)) I P)) := by
  have HL := qh hl
  have HAL := qh hal
  have HD := qh h
  have HG := qh hd
  have HP := qh hP
  have HW := qh hw
  have HI := qh (rIndex h.ref hw id)
  have HDL := qh h.lt
  obtain ⟨al, hale⟩ : ∃ l, T.allOf id = l := ⟨_, rfl⟩
  have HALL : Hid (∀ W, Ext w W → Calls Tryz.prog 92 #[.pointer (some ⟨rb, 0, none⟩), .int .i64 id] W (RRow 3 1 al.length (al.map (Value.int .i64)) W)) := qh (fun W x => by rw [← hale]; exact rAll (h.ref.ext x) hw id)
  obtain ⟨q, hq⟩ : ∃ q, T.idx id = q := ⟨_, rfl⟩
  rw [hale] at HAL ⊢
  rw [hq] at HI HP ⊢
  clear hw hl hal hd hP hq hale
  have c0 := h.ptr_
  cases hg : T.get? id with
  | none =>
    have HR := qh h.ref
    have e : T.up id = -1 := Tr.up_none hg
    rw [e] at HP ⊢
    have HGT := qh hg
    clear h hg e
    go_enter Tryz.func34, Tryz.ntmps34
    go_upto_region 3 with (go_at_call 90; refine HI.out.mono ?_; rintro e w1 ⟨rfl, hx⟩; have X1 := qh hx; clear hx)
    have c1 := X1.out.cell c0
    clear c0
    have HAS := qh (rHas_no (HR.out.ext X1.out) HGT.out)
    go_upto_region 6 with (first
      | (go_at_call 91; refine HAS.out.mono ?_; rintro e w2 ⟨rfl, rfl⟩)
      | (go_at_call 92; refine (HALL.out _ X1.out).mono ?_; intro e w3 hra; obtain ⟨v, rfl, hrow, hx3⟩ := RRow.of hra; have HR0 := qh hrow; have HX3 := qh hx3; clear hra hrow hx3))
    have hrow := HR0.out
    have hx3 := HX3.out
    have X3 := qh (X1.out.trans hx3)
    have c3 := hx3.cell c1
    obtain ⟨F0, hR, hsub, hA⟩ := (HDL.out.ext X3.out).tree
    have HA := qh hA
    have HRM := qh (HG.out F0 _ X3.out hR)
    have HROW := qh (RowP.lt_ hrow)
    have S1 := qh X1.out.size
    clear HR0 HX3 hrow hx3 hR hsub hA c1
    by_cases her : er = 0
    · subst her
      obtain ⟨op, oq, oP⟩ := HP.out rfl
      have OP := qh (And.intro op (And.intro oq oP))
      clear op oq oP
      go_wp2_with (first
        | (go_at_call 93; refine HRM.out.mono ?_; rintro e w4 ⟨rfl, h1⟩; have HB := qh (HA.out _ _ h1); clear h1
           have HV : Hid (∀ W, Mv (fun b => (F b ∧ b < w.heap.size) ∨ w3.heap.size ≤ b) w4 W → RowRd W 1 v al.length (al.map (Value.int .i64))) := qh (fun W hW => by
             have r4 := RowP.mv HROW.out HB.out.mv (fun g hg hf => by have := S1.out; have := hf.2; have := hg.1; omega)
             exact (RowP.mv r4 hW (fun g hg hf => by rcases hf with hf | hf; (have := S1.out; have := hf.2; have := hg.1; omega); (have := hg.2; omega))).rd))
        | (go_at_call 89; refine (dChange_rem HB.out.on HL.out HV.out HAL.out _ q OP.out.1 OP.out.2.1 OP.out.2.2).mono ?_; rintro e w5 ⟨rfl, h2⟩; have HF := qh ((DAft.after X3.out (HB.out.trans h2)).imp fun b hb => hb.1); clear h2))
      go_ret
      exact ⟨rfl, by unfold movedD; rw [if_pos rfl]; exact HF.out⟩
    · have e0 : (er == 0) = false := beq_eq_false_iff_ne.2 her
      have HE := qh her
      clear her
      go_wp2_with ((go_at_call 93; refine HRM.out.mono ?_; rintro e w4 ⟨rfl, h1⟩; have HF := qh ((DAft.after X3.out (HA.out _ _ h1)).imp fun b hb => hb.1); clear h1))
      go_ret
      exact ⟨rfl, by unfold movedD; rw [if_neg HE.out]; exact HF.out⟩
  | some nd =>
    have HR := qh h.ref
    have e : T.up id = nd.parent := Tr.up_some hg
    rw [e] at HP ⊢
    have HGT := qh hg
    obtain ⟨i, rfl, hi, hil⟩ := nodes_some hg
    have HN := qh hi
    have i0 : (0 : Int) ≤ (i : Int) := by omega
    have i1 : (i : Int) < (T.nodes.length : Int) := by omega
    have itn : (i : Int).toNat = i := by omega
    clear h hg e hi
    go_enter Tryz.func34, Tryz.ntmps34
    go_upto_region 3 with (go_at_call 90; refine HI.out.mono ?_; rintro e w1 ⟨rfl, hx⟩; have X1 := qh hx; clear hx)
    have c1 := X1.out.cell c0
    clear c0
    have HAS := qh (rHas_yes (HR.out.ext X1.out) HGT.out)
    obtain ⟨g, cap, aa, ac, ka, kc, cc, k0, k1, k2, k3, k4, k5, _⟩ := (HR.out.ext X1.out).one HN.out
    replace k2 : w1.cell? ⟨g, i * 6 + 2, none⟩ = some (.int .i64 nd.parent) := k2
    clear k0 k1 k3 k4 k5
    go_upto_region 6 with (first
      | (go_at_call 91; refine HAS.out.mono ?_; rintro e w2 ⟨rfl, rfl⟩)
      | (go_at_call 92; refine (HALL.out _ X1.out).mono ?_; intro e w3 hra; obtain ⟨v, rfl, hrow, hx3⟩ := RRow.of hra; have HR0 := qh hrow; have HX3 := qh hx3; clear hra hrow hx3))
    have hrow := HR0.out
    have hx3 := HX3.out
    have X3 := qh (X1.out.trans hx3)
    have c3 := hx3.cell c1
    obtain ⟨F0, hR, hsub, hA⟩ := (HDL.out.ext X3.out).tree
    have HA := qh hA
    have HRM := qh (HG.out F0 _ X3.out hR)
    have HROW := qh (RowP.lt_ hrow)
    have S1 := qh X1.out.size
    clear HR0 HX3 hrow hx3 hR hsub hA c1
    by_cases her : er = 0
    · subst her
      obtain ⟨op, oq, oP⟩ := HP.out rfl
      have OP := qh (And.intro op (And.intro oq oP))
      clear op oq oP
      go_wp2_with (first
        | (go_at_call 93; refine HRM.out.mono ?_; rintro e w4 ⟨rfl, h1⟩; have HB := qh (HA.out _ _ h1); clear h1
           have HV : Hid (∀ W, Mv (fun b => (F b ∧ b < w.heap.size) ∨ w3.heap.size ≤ b) w4 W → RowRd W 1 v al.length (al.map (Value.int .i64))) := qh (fun W hW => by
             have r4 := RowP.mv HROW.out HB.out.mv (fun g hg hf => by have := S1.out; have := hf.2; have := hg.1; omega)
             exact (RowP.mv r4 hW (fun g hg hf => by rcases hf with hf | hf; (have := S1.out; have := hf.2; have := hg.1; omega); (have := hg.2; omega))).rd))
        | (go_at_call 89; refine (dChange_rem HB.out.on HL.out HV.out HAL.out _ q OP.out.1 OP.out.2.1 OP.out.2.2).mono ?_; rintro e w5 ⟨rfl, h2⟩; have HF := qh ((DAft.after X3.out (HB.out.trans h2)).imp fun b hb => hb.1); clear h2))
      go_ret
      exact ⟨rfl, by unfold movedD; rw [if_pos rfl]; exact HF.out⟩
    · have e0 : (er == 0) = false := beq_eq_false_iff_ne.2 her
      have HE := qh her
      clear her
      go_wp2_with ((go_at_call 93; refine HRM.out.mono ?_; rintro e w4 ⟨rfl, h1⟩; have HF := qh ((DAft.after X3.out (HA.out _ _ h1)).imp fun b hb => hb.1); clear h1))
      go_ret
      exact ⟨rfl, by unfold movedD; rw [if_neg HE.out]; exact HF.out⟩
end
end Go.Proofs.YthgnbbbdcebjhaaGreat
