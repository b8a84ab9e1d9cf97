/- quillworkref08: Graft. Conditions: texts of at most 100000 bytes, 60000 attributes a node, 90000 nodes. Printed by wip/gen_refk.py. -/
import Derived.Test.YtiglflmjidikpaaRefJ
import Derived.Test.YtiglflmjidikpaaOrdG
namespace Go.Proofs.Ytiglflmjidikpaa
open Go Go.RowKit Go.BigFrame
set_option linter.unusedVariables false
set_option linter.unusedSimpArgs false

section
variable {w : World} {F : Nat → Prop} {rb : Nat} {T : Tr}
set_option maxRecDepth 100000 in
set_option maxHeartbeats 1000000 in
theorem rGraft_none (hR : RefOn w F rb T) {p at' : Int} (h : T.get? p = none) (x y z u : Value) : Calls Try.prog 102 #[.pointer (some ⟨rb, 0, none⟩), .int .i64 p, .int .i64 at', .agg #[x, y, z, u]] w (RTwoAft F w rb 0 2 T) := by
  have xu := (Ext.refl w).alloc (.cells #[x, y, z, u] 30)
  have H := Lib.hid ((RAft.refl hR).ext xu)
  have HAS := Lib.hid (rHas_no (hR.ext xu).at h)
  clear hR h xu
  go_enter Try.func102, Try.ntmps102
  go_wp2_with (go_at_call 105; refine HAS.out.mono ?_; rintro e w' ⟨rfl, rfl⟩)
  go_ret2
  exact ⟨rfl, H.out⟩
set_option maxRecDepth 100000 in
set_option maxHeartbeats 1000000 in
theorem rGraft_kind (hR : RefOn w F rb T) {p at' : Int} {pd : Nd} (h : T.get? p = some pd) (ht : (pd.tag == 0) = true) (x y z u : Value) : Calls Try.prog 102 #[.pointer (some ⟨rb, 0, none⟩), .int .i64 p, .int .i64 at', .agg #[x, y, z, u]] w (RTwoAft F w rb 0 6 T) := by
  have xu := (Ext.refl w).alloc (.cells #[x, y, z, u] 30)
  have H := Lib.hid ((RAft.refl hR).ext xu)
  have HAS := Lib.hid (rHas_yes (hR.ext xu).at h)
  obtain ⟨i, rfl, hi, hl⟩ := nodes_some h
  obtain ⟨g, cap, aa, ac, ka, kc, c, c0, c1, c2, c3, c4, c5, _, _⟩ := (hR.ext xu).at.one hi
  replace c1 : (w.alloc (.cells #[x, y, z, u] 30)).cell? ⟨g, i * 6 + 1, none⟩ = some (.int .i64 pd.tag) := c1
  replace c5 : (w.alloc (.cells #[x, y, z, u] 30)).cell? ⟨g, i * 6 + 5, none⟩ = some (.slice ka pd.kids.length kc) := c5
  clear hR h hi c0 c2 c3 c4 xu
  go_enter Try.func102, Try.ntmps102
  go_wp2_with (go_at_call 105; refine HAS.out.mono ?_; rintro e w' ⟨rfl, rfl⟩)
  go_ret2
  exact ⟨rfl, H.out⟩
set_option maxRecDepth 100000 in
set_option maxHeartbeats 1000000 in
theorem rGraft_arg (hR : RefOn w F rb T) {p at' : Int} {pd : Nd} (h : T.get? p = some pd) (ht : (pd.tag == 0) = false) (ha : at' < 0 ∨ (pd.kids.length : Int) < at') (x y z u : Value) : Calls Try.prog 102 #[.pointer (some ⟨rb, 0, none⟩), .int .i64 p, .int .i64 at', .agg #[x, y, z, u]] w (RTwoAft F w rb 0 1 T) := by
  have xu := (Ext.refl w).alloc (.cells #[x, y, z, u] 30)
  have H := Lib.hid ((RAft.refl hR).ext xu)
  have HAS := Lib.hid (rHas_yes (hR.ext xu).at h)
  obtain ⟨i, rfl, hi, hl⟩ := nodes_some h
  obtain ⟨g, cap, aa, ac, ka, kc, c, c0, c1, c2, c3, c4, c5, _, _⟩ := (hR.ext xu).at.one hi
  replace c1 : (w.alloc (.cells #[x, y, z, u] 30)).cell? ⟨g, i * 6 + 1, none⟩ = some (.int .i64 pd.tag) := c1
  replace c5 : (w.alloc (.cells #[x, y, z, u] 30)).cell? ⟨g, i * 6 + 5, none⟩ = some (.slice ka pd.kids.length kc) := c5
  clear hR h hi c0 c2 c3 c4 xu
  by_cases h1 : at' < 0
  · clear ha
    go_enter Try.func102, Try.ntmps102
    go_wp2_with (go_at_call 105; refine HAS.out.mono ?_; rintro e w' ⟨rfl, rfl⟩)
    go_ret2
    exact ⟨rfl, H.out⟩
  · have h2 : (pd.kids.length : Int) < at' := by rcases ha with h | h; exact absurd h h1; exact h
    clear ha
    go_enter Try.func102, Try.ntmps102
    go_wp2_with (go_at_call 105; refine HAS.out.mono ?_; rintro e w' ⟨rfl, rfl⟩)
    go_ret2
    exact ⟨rfl, H.out⟩
set_option maxRecDepth 100000 in
set_option maxHeartbeats 1000000 in
theorem rGraft_bad {g0 : World} (hR : RefOn w F rb T) {d : Nat → Nat} (hw : WF T d) {p at' : Nat} {pd : Nd} (hp : T.nodes[p]? = some (some pd)) (ht : (pd.tag == 0) = false) (hat : at' ≤ pd.kids.length)
    {n : PN} {nv : Value} (hr : RdN g0 n nv) (hap : RApart g0 F w) (hsh : n.short = true) (hsz : n.size ≤ 90000) (he : n.worst ≠ 0) :
    Calls Try.prog 102 #[.pointer (some ⟨rb, 0, none⟩), .int .i64 p, .int .i64 at', nv] w (RTwoAft F w rb 0 n.worst T) := by
  obtain ⟨av, kv, rfl, _, _⟩ := hr.open
  have hrw : RdN w n (.agg #[.int .i64 n.tag, av, .string n.text, kv]) := hr.cells hap.cells
  have xu := (Ext.refl w).alloc (.cells #[.int .i64 n.tag, av, .string n.text, kv] 30)
  have hbox := heap_alloc_new w (.cells #[.int .i64 n.tag, av, .string n.text, kv] 30)
  have HR := Lib.hid hR
  have H := Lib.hid (RAft.refl hR)
  have HAS := Lib.hid (rHas_yes (hR.ext xu).at (Tr.get_of hp))
  have hl := (List.getElem?_eq_some_iff.1 hp).1
  obtain ⟨g, cap, aa, ac, ka, kc, c, c0, c1, c2, c3, c4, c5, _, _⟩ := (hR.ext xu).at.one hp
  replace c1 : (w.alloc (.cells #[.int .i64 n.tag, av, .string n.text, kv] 30)).cell? ⟨g, p * 6 + 1, none⟩ = some (.int .i64 pd.tag) := c1
  replace c5 : (w.alloc (.cells #[.int .i64 n.tag, av, .string n.text, kv] 30)).cell? ⟨g, p * 6 + 5, none⟩ = some (.slice ka pd.kids.length kc) := c5
  have HM := Lib.hid (rMay_any n _ _ hsh (by omega) hrw xu)
  have HP := Lib.hid hp
  have HW := Lib.hid hw
  have HRD := Lib.hid hrw
  have HXU := Lib.hid xu
  obtain ⟨v, hv, hvi⟩ : ∃ v, n.worst = v ∧ (v = 0 ∨ v = 1 ∨ v = 10) := ⟨_, rfl, worst_in n⟩
  rw [hv] at HM
  rw [hv] at he ⊢
  clear hR hr hap hsh hrw hp hw c0 c2 c3 c4 xu
  have b0 := cellOf hbox (i := 0) (v := .int .i64 n.tag) rfl
  have b1 := cellOf hbox (i := 1) (v := av) rfl
  have b2 := cellOf hbox (i := 2) (v := .string n.text) rfl
  have b3 := cellOf hbox (i := 3) (v := kv) rfl
  clear hbox hv
  rcases hvi with rfl | rfl | rfl
  · exact absurd rfl he
  all_goals
    clear he
    go_enter Try.func102, Try.ntmps102
    go_wp2_with (first | (go_at_call 105; refine HAS.out.mono ?_; rintro e w' ⟨rfl, rfl⟩) | (go_at_call 131; refine HM.out.mono ?_; rintro e w' ⟨rfl, hy⟩; have HY := Lib.hid hy; clear hy))
    go_ret2
    exact ⟨rfl, H.out.ext (HXU.out.trans HY.out)⟩
set_option maxRecDepth 100000 in
set_option maxHeartbeats 1000000 in
theorem rGraft_deep {g0 : World} (hR : RefOn w F rb T) {d : Nat → Nat} (hw : WF T d) {p at' : Nat} {pd : Nd} (hp : T.nodes[p]? = some (some pd)) (ht : (pd.tag == 0) = false) (hat : at' ≤ pd.kids.length)
    {n : PN} {nv : Value} (hr : RdN g0 n nv) (hap : RApart g0 F w) (hsh : n.short = true) (hsz : n.size ≤ 90000) (hok : n.ok = true) (hdp : T.deep < (d p : Int) + 1 + n.high) :
    Calls Try.prog 102 #[.pointer (some ⟨rb, 0, none⟩), .int .i64 p, .int .i64 at', nv] w (RTwoAft F w rb 0 4 T) := by
  obtain ⟨av, kv, rfl, _, _⟩ := hr.open
  have hrw : RdN w n (.agg #[.int .i64 n.tag, av, .string n.text, kv]) := hr.cells hap.cells
  have xu := (Ext.refl w).alloc (.cells #[.int .i64 n.tag, av, .string n.text, kv] 30)
  have hbox := heap_alloc_new w (.cells #[.int .i64 n.tag, av, .string n.text, kv] 30)
  have HR := Lib.hid hR
  have H := Lib.hid (RAft.refl hR)
  have HAS := Lib.hid (rHas_yes (hR.ext xu).at (Tr.get_of hp))
  have hl := (List.getElem?_eq_some_iff.1 hp).1
  obtain ⟨g, cap, aa, ac, ka, kc, c, c0, c1, c2, c3, c4, c5, _, _⟩ := (hR.ext xu).at.one hp
  replace c1 : (w.alloc (.cells #[.int .i64 n.tag, av, .string n.text, kv] 30)).cell? ⟨g, p * 6 + 1, none⟩ = some (.int .i64 pd.tag) := c1
  replace c5 : (w.alloc (.cells #[.int .i64 n.tag, av, .string n.text, kv] 30)).cell? ⟨g, p * 6 + 5, none⟩ = some (.slice ka pd.kids.length kc) := c5
  have HM := Lib.hid (rMay_any n _ _ hsh (by omega) hrw xu)
  have HP := Lib.hid hp
  have HW := Lib.hid hw
  have HRD := Lib.hid hrw
  have HXU := Lib.hid xu
  obtain ⟨v, hv, hvi⟩ : ∃ v, n.worst = v ∧ (v = 0 ∨ v = 1 ∨ v = 10) := ⟨_, rfl, worst_in n⟩
  rw [hv] at HM
  have hw41 : d p ≤ 40 := by have := hw.deep p pd hp; have := hw.small.deep1; omega
  have hdd : (T.pathOf (p : Int)).length = d p := by
    have h := hw.path_rank p ⟨pd, Tr.get_of hp⟩
    unfold Tr.rank at h
    rw [Tr.get_of hp] at h
    simp at h
    exact h
  have hhi : n.high < n.size := high_lt n
  obtain ⟨dp, hdpe⟩ : ∃ dp, d p = dp := ⟨_, rfl⟩
  obtain ⟨hh, hhe⟩ : ∃ hh, n.high = hh := ⟨_, rfl⟩
  have hs0 := hw.small.deep0
  have hs1 := hw.small.deep1
  have cdp : w.cell? ⟨rb, 1, none⟩ = some (.int .i64 T.deep) := by
    obtain ⟨_, _, _, _, _, h⟩ := hR.at.slice
    exact h
  have ccp : w.cell? ⟨rb, 0, none⟩ = some (.int .i64 T.cap) := by
    obtain ⟨_, _, _, _, h, _⟩ := hR.at.slice
    exact h
  have HDE := Lib.hid (fun (u : World) (x : Ext w u) => RSame.val (by have := rDepth (hR.ext x).at hw (Tr.get_of hp); rw [hdd, hdpe] at this; exact this))
  have HHI := Lib.hid (fun (u : World) (x : Ext w u) => (hhe ▸ rHigh_any n _ u (by omega) hrw x : Calls Try.prog 132 #[.agg #[.int .i64 n.tag, av, .string n.text, kv]] u (RVal (.int .i64 (hh : Nat)) u)))
  have HCN := Lib.hid (fun (u : World) (x : Ext w u) => rCountX (hR.ext x).at hw)
  have HSZ := Lib.hid (fun (u : World) (x : Ext w u) => Size_any n _ u (by omega) hrw x)
  rw [hdpe, hhe] at hdp
  rw [hdpe] at hw41
  rw [hhe] at hhi
  clear hR hr hap hsh hrw hp hw c0 c2 c3 c4 xu
  have b0 := cellOf hbox (i := 0) (v := .int .i64 n.tag) rfl
  have b1 := cellOf hbox (i := 1) (v := av) rfl
  have b2 := cellOf hbox (i := 2) (v := .string n.text) rfl
  have b3 := cellOf hbox (i := 3) (v := kv) rfl
  have hv0 : v = 0 := by rw [← hv]; exact worst_zero.2 hok
  subst hv0
  clear hbox hv hvi hok hdd hdpe hhe
  go_enter Try.func102, Try.ntmps102
  go_upto_region 10 with (first | (go_at_call 105; refine HAS.out.mono ?_; rintro e w' ⟨rfl, rfl⟩) | (go_at_call 131; refine HM.out.mono ?_; rintro e wm ⟨rfl, hy⟩; replace b0 := hy.cell b0; replace b1 := hy.cell b1; replace b2 := hy.cell b2; replace b3 := hy.cell b3; have HY := Lib.hid (HXU.out.trans hy); clear hy))
  have e0 := fun u : ExtOf wm => u.ext.cell b0
  have e1 := fun u : ExtOf wm => u.ext.cell b1
  have e2 := fun u : ExtOf wm => u.ext.cell b2
  have e3 := fun u : ExtOf wm => u.ext.cell b3
  have e4 := fun u : ExtOf wm => u.ext.cell (HY.out.cell cdp)
  refine wp_region_ext (by kernel_rfl) (by kernel_rfl) ?_
  repeat (go_big_quiet_step (first | (go_at_call 109; exact inExt (HDE.out _ (HY.out.trans (ExtOf.ext _)))) | (go_at_call 132; exact inExt (HHI.out _ (HY.out.trans (ExtOf.ext _))))))
  refine wpQuiet_nil ?_
  rintro _ ⟨u, rfl⟩
  clear e0 e1 e2 e3 e4
  replace b0 := u.ext.cell b0
  replace b1 := u.ext.cell b1
  replace b2 := u.ext.cell b2
  replace b3 := u.ext.cell b3
  have HU := Lib.hid (HY.out.trans u.ext)
  go_wp2_with fail
  go_ret2
  exact ⟨rfl, H.out.ext HU.out⟩
set_option maxRecDepth 100000 in
set_option maxHeartbeats 1000000 in
theorem rGraft_full {g0 : World} (hR : RefOn w F rb T) {d : Nat → Nat} (hw : WF T d) {p at' : Nat} {pd : Nd} (hp : T.nodes[p]? = some (some pd)) (ht : (pd.tag == 0) = false) (hat : at' ≤ pd.kids.length)
    {n : PN} {nv : Value} (hr : RdN g0 n nv) (hap : RApart g0 F w) (hsh : n.short = true) (hsz : n.size ≤ 90000) (hok : n.ok = true) (hdp : (d p : Int) + 1 + n.high ≤ T.deep) (hf : ¬ (n.size : Int) ≤ T.cap - T.count) :
    Calls Try.prog 102 #[.pointer (some ⟨rb, 0, none⟩), .int .i64 p, .int .i64 at', nv] w (RTwoAft F w rb 0 3 T) := by
  obtain ⟨av, kv, rfl, _, _⟩ := hr.open
  have hrw : RdN w n (.agg #[.int .i64 n.tag, av, .string n.text, kv]) := hr.cells hap.cells
  have xu := (Ext.refl w).alloc (.cells #[.int .i64 n.tag, av, .string n.text, kv] 30)
  have hbox := heap_alloc_new w (.cells #[.int .i64 n.tag, av, .string n.text, kv] 30)
  have HR := Lib.hid hR
  have H := Lib.hid (RAft.refl hR)
  have HAS := Lib.hid (rHas_yes (hR.ext xu).at (Tr.get_of hp))
  have hl := (List.getElem?_eq_some_iff.1 hp).1
  obtain ⟨g, cap, aa, ac, ka, kc, c, c0, c1, c2, c3, c4, c5, _, _⟩ := (hR.ext xu).at.one hp
  replace c1 : (w.alloc (.cells #[.int .i64 n.tag, av, .string n.text, kv] 30)).cell? ⟨g, p * 6 + 1, none⟩ = some (.int .i64 pd.tag) := c1
  replace c5 : (w.alloc (.cells #[.int .i64 n.tag, av, .string n.text, kv] 30)).cell? ⟨g, p * 6 + 5, none⟩ = some (.slice ka pd.kids.length kc) := c5
  have HM := Lib.hid (rMay_any n _ _ hsh (by omega) hrw xu)
  have HP := Lib.hid hp
  have HW := Lib.hid hw
  have HRD := Lib.hid hrw
  have HXU := Lib.hid xu
  obtain ⟨v, hv, hvi⟩ : ∃ v, n.worst = v ∧ (v = 0 ∨ v = 1 ∨ v = 10) := ⟨_, rfl, worst_in n⟩
  rw [hv] at HM
  have hw41 : d p ≤ 40 := by have := hw.deep p pd hp; have := hw.small.deep1; omega
  have hdd : (T.pathOf (p : Int)).length = d p := by
    have h := hw.path_rank p ⟨pd, Tr.get_of hp⟩
    unfold Tr.rank at h
    rw [Tr.get_of hp] at h
    simp at h
    exact h
  have hhi : n.high < n.size := high_lt n
  obtain ⟨dp, hdpe⟩ : ∃ dp, d p = dp := ⟨_, rfl⟩
  obtain ⟨hh, hhe⟩ : ∃ hh, n.high = hh := ⟨_, rfl⟩
  have hs0 := hw.small.deep0
  have hs1 := hw.small.deep1
  have cdp : w.cell? ⟨rb, 1, none⟩ = some (.int .i64 T.deep) := by
    obtain ⟨_, _, _, _, _, h⟩ := hR.at.slice
    exact h
  have ccp : w.cell? ⟨rb, 0, none⟩ = some (.int .i64 T.cap) := by
    obtain ⟨_, _, _, _, h, _⟩ := hR.at.slice
    exact h
  have HDE := Lib.hid (fun (u : World) (x : Ext w u) => RSame.val (by have := rDepth (hR.ext x).at hw (Tr.get_of hp); rw [hdd, hdpe] at this; exact this))
  have HHI := Lib.hid (fun (u : World) (x : Ext w u) => (hhe ▸ rHigh_any n _ u (by omega) hrw x : Calls Try.prog 132 #[.agg #[.int .i64 n.tag, av, .string n.text, kv]] u (RVal (.int .i64 (hh : Nat)) u)))
  have HCN := Lib.hid (fun (u : World) (x : Ext w u) => rCountX (hR.ext x).at hw)
  have HSZ := Lib.hid (fun (u : World) (x : Ext w u) => Size_any n _ u (by omega) hrw x)
  rw [hdpe, hhe] at hdp
  rw [hdpe] at hw41
  rw [hhe] at hhi
  have hc0 := hw.small.count0
  have hc1 := hw.small.count1
  have hc2 := hw.small.cap1
  clear hR hr hap hsh hrw hp hw c0 c2 c3 c4 xu
  have b0 := cellOf hbox (i := 0) (v := .int .i64 n.tag) rfl
  have b1 := cellOf hbox (i := 1) (v := av) rfl
  have b2 := cellOf hbox (i := 2) (v := .string n.text) rfl
  have b3 := cellOf hbox (i := 3) (v := kv) rfl
  have hv0 : v = 0 := by rw [← hv]; exact worst_zero.2 hok
  subst hv0
  clear hbox hv hvi hok hdd hdpe hhe
  go_enter Try.func102, Try.ntmps102
  go_upto_region 10 with (first | (go_at_call 105; refine HAS.out.mono ?_; rintro e w' ⟨rfl, rfl⟩) | (go_at_call 131; refine HM.out.mono ?_; rintro e wm ⟨rfl, hy⟩; replace b0 := hy.cell b0; replace b1 := hy.cell b1; replace b2 := hy.cell b2; replace b3 := hy.cell b3; have HY := Lib.hid (HXU.out.trans hy); clear hy))
  have e0 := fun u : ExtOf wm => u.ext.cell b0
  have e1 := fun u : ExtOf wm => u.ext.cell b1
  have e2 := fun u : ExtOf wm => u.ext.cell b2
  have e3 := fun u : ExtOf wm => u.ext.cell b3
  have e4 := fun u : ExtOf wm => u.ext.cell (HY.out.cell cdp)
  refine wp_region_ext (by kernel_rfl) (by kernel_rfl) ?_
  repeat (go_big_quiet_step (first | (go_at_call 109; exact inExt (HDE.out _ (HY.out.trans (ExtOf.ext _)))) | (go_at_call 132; exact inExt (HHI.out _ (HY.out.trans (ExtOf.ext _))))))
  refine wpQuiet_nil ?_
  rintro _ ⟨u, rfl⟩
  clear e0 e1 e2 e3 e4
  replace b0 := u.ext.cell b0
  replace b1 := u.ext.cell b1
  replace b2 := u.ext.cell b2
  replace b3 := u.ext.cell b3
  have HU := Lib.hid (HY.out.trans u.ext)
  go_upto_region 12 with fail
  have f0 := fun v : ExtOf u.val => v.ext.cell b0
  have f1 := fun v : ExtOf u.val => v.ext.cell b1
  have f2 := fun v : ExtOf u.val => v.ext.cell b2
  have f3 := fun v : ExtOf u.val => v.ext.cell b3
  have f4 := fun v : ExtOf u.val => v.ext.cell (HU.out.cell ccp)
  refine wp_region_ext (by kernel_rfl) (by kernel_rfl) ?_
  repeat (go_big_quiet_step (first | (go_at_call 104; exact inExt (HCN.out _ (HU.out.trans (ExtOf.ext _)))) | (go_at_call 33; exact inExt (HSZ.out _ (HU.out.trans (ExtOf.ext _))))))
  refine wpQuiet_nil ?_
  rintro _ ⟨u2, rfl⟩
  clear f0 f1 f2 f3 f4
  replace b0 := u2.ext.cell b0
  replace b1 := u2.ext.cell b1
  replace b2 := u2.ext.cell b2
  replace b3 := u2.ext.cell b3
  have HV := Lib.hid (HU.out.trans u2.ext)
  go_wp2_with fail
  go_ret2
  exact ⟨rfl, H.out.ext HV.out⟩
set_option maxRecDepth 100000 in
set_option maxHeartbeats 4000000 in
theorem rGraft_ok {g0 : World} (hR : RefOn w F rb T) {d : Nat → Nat} (hw : WF T d) {p at' : Nat} {pd : Nd} (hp : T.nodes[p]? = some (some pd)) (ht : (pd.tag == 0) = false) (hat : at' ≤ pd.kids.length)
    {n : PN} {nv : Value} (hr : RdN g0 n nv) (hap : RApart g0 F w) (hsh : n.short = true) (hsz : n.size ≤ 90000) (hok : n.ok = true) (hdp : (d p : Int) + 1 + n.high ≤ T.deep) (hf : (n.size : Int) ≤ T.cap - T.count) :
    Calls Try.prog 102 #[.pointer (some ⟨rb, 0, none⟩), .int .i64 p, .int .i64 at', nv] w (RTwoAft F w rb T.newId 0 (T.grafted p at' pd n)) := by
  obtain ⟨av, kv, rfl, _, _⟩ := hr.open
  have hrw : RdN w n (.agg #[.int .i64 n.tag, av, .string n.text, kv]) := hr.cells hap.cells
  have xu := (Ext.refl w).alloc (.cells #[.int .i64 n.tag, av, .string n.text, kv] 30)
  have hbox := heap_alloc_new w (.cells #[.int .i64 n.tag, av, .string n.text, kv] 30)
  have HR := Lib.hid hR
  have H := Lib.hid (RAft.refl hR)
  have HAS := Lib.hid (rHas_yes (hR.ext xu).at (Tr.get_of hp))
  have hl := (List.getElem?_eq_some_iff.1 hp).1
  obtain ⟨g, cap, aa, ac, ka, kc, c, c0, c1, c2, c3, c4, c5, _, _⟩ := (hR.ext xu).at.one hp
  replace c1 : (w.alloc (.cells #[.int .i64 n.tag, av, .string n.text, kv] 30)).cell? ⟨g, p * 6 + 1, none⟩ = some (.int .i64 pd.tag) := c1
  replace c5 : (w.alloc (.cells #[.int .i64 n.tag, av, .string n.text, kv] 30)).cell? ⟨g, p * 6 + 5, none⟩ = some (.slice ka pd.kids.length kc) := c5
  have HM := Lib.hid (rMay_any n _ _ hsh (by omega) hrw xu)
  have HP := Lib.hid hp
  have HW := Lib.hid hw
  have HRD := Lib.hid hrw
  have HXU := Lib.hid xu
  obtain ⟨v, hv, hvi⟩ : ∃ v, n.worst = v ∧ (v = 0 ∨ v = 1 ∨ v = 10) := ⟨_, rfl, worst_in n⟩
  rw [hv] at HM
  have hc0 := hw.small.count0
  have hc1 := hw.small.count1
  have hc2 := hw.small.cap1
  obtain ⟨dz, m, hm1, hm0, hm2, hPut⟩ := into_ok n hok T d hw (by omega) (by omega)
  obtain ⟨kd, hk1, hk2⟩ := hPut.node
  have hpm : p ≠ m := fun e => hm2 pd (e ▸ hp)
  obtain ⟨hap1, hap2⟩ := hPut.apart hw hm2 p pd hp
  have hgr : T.grafted p at' pd n = (PN.into T n).link p at' m pd kd := by
    unfold Tr.grafted; rw [hm1, Int.toNat_natCast, look_of hk1]
  have hpo := hPut.old p pd hpm hp
  have hput := fun (u : World) (x : Ext w u) => rput n hok hsh (.agg #[.int .i64 n.tag, av, .string n.text, kv]) T d F u hr (hap.ext x) (hR.ext x) hw (by omega) (by omega)
  have hdd2 : ((PN.into T n).pathOf (p : Int)).length = dz p := by
    have h := hPut.wf.path_rank p ⟨pd, Tr.get_of hpo⟩
    unfold Tr.rank at h
    rw [Tr.get_of hpo] at h
    simp at h
    exact h
  have hwin : (PN.into T n).win p m = false := by rw [hPut.wf.win_within p ⟨pd, Tr.get_of hpo⟩]; exact hap1
  have hdep : (((PN.into T n).pathOf (p : Int)).length : Int) + 1 + (PN.into T n).height m ≤ (PN.into T n).deep := by rw [hdd2, hap2, hPut.deep, hPut.high]; omega
  have HINS := Lib.hid (fun (F' : Nat → Prop) (u : World) (h : RefOn u F' rb (PN.into T n)) => rInsert_ok h hPut.wf hpo hk1 ht hm0 (by omega) hat hpm hwin hdep)
  have HPUT := Lib.hid hput
  have HGR := Lib.hid hgr
  have HM1 := Lib.hid hm1
  clear hput hgr hm1 hwin hdep hdd2 hpo hap1 hap2 hk1 hk2 hm2 hPut
  have hw41 : d p ≤ 40 := by have := hw.deep p pd hp; have := hw.small.deep1; omega
  have hdd : (T.pathOf (p : Int)).length = d p := by
    have h := hw.path_rank p ⟨pd, Tr.get_of hp⟩
    unfold Tr.rank at h
    rw [Tr.get_of hp] at h
    simp at h
    exact h
  have hhi : n.high < n.size := high_lt n
  obtain ⟨dp, hdpe⟩ : ∃ dp, d p = dp := ⟨_, rfl⟩
  obtain ⟨hh, hhe⟩ : ∃ hh, n.high = hh := ⟨_, rfl⟩
  have hs0 := hw.small.deep0
  have hs1 := hw.small.deep1
  have cdp : w.cell? ⟨rb, 1, none⟩ = some (.int .i64 T.deep) := by
    obtain ⟨_, _, _, _, _, h⟩ := hR.at.slice
    exact h
  have ccp : w.cell? ⟨rb, 0, none⟩ = some (.int .i64 T.cap) := by
    obtain ⟨_, _, _, _, h, _⟩ := hR.at.slice
    exact h
  have HDE := Lib.hid (fun (u : World) (x : Ext w u) => RSame.val (by have := rDepth (hR.ext x).at hw (Tr.get_of hp); rw [hdd, hdpe] at this; exact this))
  have HHI := Lib.hid (fun (u : World) (x : Ext w u) => (hhe ▸ rHigh_any n _ u (by omega) hrw x : Calls Try.prog 132 #[.agg #[.int .i64 n.tag, av, .string n.text, kv]] u (RVal (.int .i64 (hh : Nat)) u)))
  have HCN := Lib.hid (fun (u : World) (x : Ext w u) => rCountX (hR.ext x).at hw)
  have HSZ := Lib.hid (fun (u : World) (x : Ext w u) => Size_any n _ u (by omega) hrw x)
  rw [hdpe, hhe] at hdp
  rw [hdpe] at hw41
  rw [hhe] at hhi
  clear hR hr hap hsh hrw hp hw c0 c2 c3 c4 xu
  have b0 := cellOf hbox (i := 0) (v := .int .i64 n.tag) rfl
  have b1 := cellOf hbox (i := 1) (v := av) rfl
  have b2 := cellOf hbox (i := 2) (v := .string n.text) rfl
  have b3 := cellOf hbox (i := 3) (v := kv) rfl
  have hv0 : v = 0 := by rw [← hv]; exact worst_zero.2 hok
  subst hv0
  clear hbox hv hvi hok hdd hdpe hhe
  go_enter Try.func102, Try.ntmps102
  go_upto_region 10 with (first | (go_at_call 105; refine HAS.out.mono ?_; rintro e w' ⟨rfl, rfl⟩) | (go_at_call 131; refine HM.out.mono ?_; rintro e wm ⟨rfl, hy⟩; replace b0 := hy.cell b0; replace b1 := hy.cell b1; replace b2 := hy.cell b2; replace b3 := hy.cell b3; have HY := Lib.hid (HXU.out.trans hy); clear hy))
  have e0 := fun u : ExtOf wm => u.ext.cell b0
  have e1 := fun u : ExtOf wm => u.ext.cell b1
  have e2 := fun u : ExtOf wm => u.ext.cell b2
  have e3 := fun u : ExtOf wm => u.ext.cell b3
  have e4 := fun u : ExtOf wm => u.ext.cell (HY.out.cell cdp)
  refine wp_region_ext (by kernel_rfl) (by kernel_rfl) ?_
  repeat (go_big_quiet_step (first | (go_at_call 109; exact inExt (HDE.out _ (HY.out.trans (ExtOf.ext _)))) | (go_at_call 132; exact inExt (HHI.out _ (HY.out.trans (ExtOf.ext _))))))
  refine wpQuiet_nil ?_
  rintro _ ⟨u, rfl⟩
  clear e0 e1 e2 e3 e4
  replace b0 := u.ext.cell b0
  replace b1 := u.ext.cell b1
  replace b2 := u.ext.cell b2
  replace b3 := u.ext.cell b3
  have HU := Lib.hid (HY.out.trans u.ext)
  go_upto_region 12 with fail
  have f0 := fun v : ExtOf u.val => v.ext.cell b0
  have f1 := fun v : ExtOf u.val => v.ext.cell b1
  have f2 := fun v : ExtOf u.val => v.ext.cell b2
  have f3 := fun v : ExtOf u.val => v.ext.cell b3
  have f4 := fun v : ExtOf u.val => v.ext.cell (HU.out.cell ccp)
  refine wp_region_ext (by kernel_rfl) (by kernel_rfl) ?_
  repeat (go_big_quiet_step (first | (go_at_call 104; exact inExt (HCN.out _ (HU.out.trans (ExtOf.ext _)))) | (go_at_call 33; exact inExt (HSZ.out _ (HU.out.trans (ExtOf.ext _))))))
  refine wpQuiet_nil ?_
  rintro _ ⟨u2, rfl⟩
  clear f0 f1 f2 f3 f4
  replace b0 := u2.ext.cell b0
  replace b1 := u2.ext.cell b1
  replace b2 := u2.ext.cell b2
  replace b3 := u2.ext.cell b3
  have HV := Lib.hid (HU.out.trans u2.ext)
  go_wp2_with (first | (go_at_call 133; refine (HPUT.out _ HV.out).mono ?_; rintro e w5 ⟨rfl, hS5⟩; rw [HM1.out]; have HS5 := Lib.hid hS5; clear hS5) | (go_at_call 98; refine (HINS.out _ _ HS5.out.on).mono ?_; rintro e w6 ⟨rfl, hS6⟩; have HS6 := Lib.hid hS6; clear hS6))
  go_ret2
  rw [HGR.out, HM1.out]
  exact ⟨rfl, RAft.after HV.out (HS5.out.trans HS6.out)⟩
end
end Go.Proofs.Ytiglflmjidikpaa
