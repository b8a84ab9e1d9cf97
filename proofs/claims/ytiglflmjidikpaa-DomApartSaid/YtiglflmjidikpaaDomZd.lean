/- Package dom: Graft behind measure: the errors; the tree, where all is well. -/
import Derived.Test.YtiglflmjidikpaaDomZc
import Derived.Laws.EntriesVeiled
namespace Go.Proofs.Ytiglflmjidikpaa
open Go Go.RowKit Go.BigFrame
set_option linter.unusedVariables false
set_option linter.unusedSimpArgs false
set_option maxRecDepth 100000 in
set_option maxHeartbeats 4000000 in
theorem Graft_bad {g w : World} {own : Ow} {ptr : Nat → Nat} {tb : Nat} {T : Tr} (hT : TreeAt w own ptr tb T) (hO : Owned own w) {d : Nat → Nat} (hw : WF T d) {p at' : Nat} {pd : Nd} (hp : T.nodes[p]? = some (some pd)) (ht : (pd.tag == 0) = false) (hat : at' ≤ pd.kids.length)
    {n : PN} {nv : Value} (hr : RdN g n nv) (hap : Apart g own w) (hsh : n.short = true) (hsz : n.size ≤ 90000) (he : (PN.look 0 ⟨0, 0, 0⟩ n).e ≠ 0) :
    Calls Try.prog 31 #[.pointer (some ⟨tb, 0, none⟩), .int .i64 p, .int .i64 at', nv] w (RTwo (.int .i64 0) (.int .i64 (PN.look 0 ⟨0, 0, 0⟩ n).e) w) := by
  obtain ⟨av, kv, rfl, ha, hk⟩ := hr.open
  obtain ⟨aa, acap, rfl, hac⟩ := ha.len_of
  obtain ⟨ka', kcap', rfl, hkc, hkm, hkn, hkr⟩ := hk
  have x1 := ((Ext.refl w).alloc (.cells #[.pointer (some ⟨tb, 0, none⟩)] 25)).alloc (.cells #[.int .i64 n.tag, .slice aa n.attrs.length acap, .string n.text, .slice ka' n.kids.length kcap'] 30)
  have hT1 := hT.keep (x1.keep hO)
  obtain ⟨avp, kvp, bp, op, _, hkp⟩ := hT1.node _ _ hp
  obtain ⟨ka, kcap, rfl, kc1, kc2⟩ := hkp.len
  have cp0 := cellOf bp (i := 0) (v := .int .i64 pd.tag) rfl
  have cp3 := cellOf bp (i := 3) (v := .slice ka pd.kids.length kcap) rfl
  have hms := measure_any (hr.cells (hap.ext x1).cells) hsh hsz
  have HMS := Lib.hid hms
  have HP := Lib.hid (Tr.get_of hp)
  have HNP := Lib.hid hp
  have HT := Lib.hid hT
  have HT1 := Lib.hid hT1
  have HO := Lib.hid hO
  have HW := Lib.hid hw
  have HX := Lib.hid x1
  have HR := Lib.hid hr
  have HAP := Lib.hid hap
  have hszb : (n.size : Int) ≤ 90000 := by omega
  have hpb : (p : Int) ≤ 2000 := by have := (List.getElem?_eq_some_iff.1 hp).1; have := hw.small.len; omega
  have hd1 := hw.deep p pd hp
  have hd2 := hw.small.deep1
  have hkl := hw.kids_len hp
  have hhn : (n.high : Int) ≤ 90000 := by have := high_lt n; omega
  have heb : ((PN.look 0 ⟨0, 0, 0⟩ n).e != 0) = true := by simpa using he
  clear he
  clear hr hap hT hO hw hp x1 hT1 bp hkp op hms hkr hkn ha kc2
  go_enter Try.func31, Try.ntmps31
  go_wp2_with fail
  refine (get_some HT1.out HP.out).mono ?_
  rintro e w' ⟨rfl, rfl⟩
  go_wp2_with fail
  refine HMS.out.mono ?_
  rintro e w2 ⟨rfl, hx2⟩
  go_wp2_with fail
  go_ret2
  exact ⟨rfl, HX.out.trans hx2⟩
set_option maxRecDepth 100000 in
set_option maxHeartbeats 4000000 in
theorem Graft_deep {g w : World} {own : Ow} {ptr : Nat → Nat} {tb : Nat} {T : Tr} (hT : TreeAt w own ptr tb T) (hO : Owned own w) {d : Nat → Nat} (hw : WF T d) {p at' : Nat} {pd : Nd} (hp : T.nodes[p]? = some (some pd)) (ht : (pd.tag == 0) = false) (hat : at' ≤ pd.kids.length)
    {n : PN} {nv : Value} (hr : RdN g n nv) (hap : Apart g own w) (hsh : n.short = true) (hsz : n.size ≤ 90000) (hok : n.ok = true) (hdp : T.deep < (d p : Int) + 1 + n.high) :
    Calls Try.prog 31 #[.pointer (some ⟨tb, 0, none⟩), .int .i64 p, .int .i64 at', nv] w (RTwo (.int .i64 0) (.int .i64 4) w) := by
  obtain ⟨av, kv, rfl, ha, hk⟩ := hr.open
  obtain ⟨aa, acap, rfl, hac⟩ := ha.len_of
  obtain ⟨ka', kcap', rfl, hkc, hkm, hkn, hkr⟩ := hk
  have x1 := ((Ext.refl w).alloc (.cells #[.pointer (some ⟨tb, 0, none⟩)] 25)).alloc (.cells #[.int .i64 n.tag, .slice aa n.attrs.length acap, .string n.text, .slice ka' n.kids.length kcap'] 30)
  have hT1 := hT.keep (x1.keep hO)
  obtain ⟨avp, kvp, bp, op, _, hkp⟩ := hT1.node _ _ hp
  obtain ⟨ka, kcap, rfl, kc1, kc2⟩ := hkp.len
  have cp0 := cellOf bp (i := 0) (v := .int .i64 pd.tag) rfl
  have cp3 := cellOf bp (i := 3) (v := .slice ka pd.kids.length kcap) rfl
  have hms := measure_any (hr.cells (hap.ext x1).cells) hsh hsz
  have HMS := Lib.hid hms
  have HP := Lib.hid (Tr.get_of hp)
  have HNP := Lib.hid hp
  have HT := Lib.hid hT
  have HT1 := Lib.hid hT1
  have HO := Lib.hid hO
  have HW := Lib.hid hw
  have HX := Lib.hid x1
  have HR := Lib.hid hr
  have HAP := Lib.hid hap
  have hszb : (n.size : Int) ≤ 90000 := by omega
  have hpb : (p : Int) ≤ 2000 := by have := (List.getElem?_eq_some_iff.1 hp).1; have := hw.small.len; omega
  have hd1 := hw.deep p pd hp
  have hd2 := hw.small.deep1
  have hkl := hw.kids_len hp
  have hhn : (n.high : Int) ≤ 90000 := by have := high_lt n; omega
  have heb : ((PN.look 0 ⟨0, 0, 0⟩ n).e != 0) = false := by
    have := ((look_spec n 0 ⟨0, 0, 0⟩).2.2).2 ⟨rfl, hok⟩
    simp [this]
  clear hr hap hT hO hw hp x1 hT1 bp hkp op hms hkr hkn ha kc2
  go_enter Try.func31, Try.ntmps31
  go_wp2_with fail
  refine (get_some HT1.out HP.out).mono ?_
  rintro e w' ⟨rfl, rfl⟩
  go_wp2_with fail
  refine HMS.out.mono ?_
  rintro e w2 ⟨rfl, hx2⟩
  have c0 := hx2.cell (b := w.heap.size) (o := 0) (v := .pointer (some ⟨tb, 0, none⟩)) (by simp [go_sem])
  have hT2 := HT.out.keep ((HX.out.trans hx2).keep HO.out)
  have hO2 : Owned own w2 := fun b hb => Nat.lt_of_lt_of_le (HO.out b hb) (HX.out.trans hx2).size
  obtain ⟨nv2, hb2, hot, _⟩ := hT2.head
  have ct1 := cellOf hb2 (i := 1) (v := .int .i64 T.deep) rfl
  have c0' := fun u : ExtOf w2 => u.ext.cell c0
  have ct1' := fun u : ExtOf w2 => u.ext.cell ct1
  have HT2 := Lib.hid hT2
  have HO2 := Lib.hid hO2
  have HX2 := Lib.hid hx2
  have hq1 : IntKind.i64.wrap ((d p : Int) + 1) = (d p : Int) + 1 := IntWalk.i64_in _ (by omega)
  have hq2 : IntKind.i64.wrap ((d p : Int) + 1 + (n.high : Int)) = (d p : Int) + 1 + (n.high : Int) := IntWalk.i64_in _ (by omega)
  clear hT2 hO2 hx2 hb2 hot
  go_wp2_with fail
  refine wp_region_ext (by kernel_rfl) (by kernel_rfl) ?_
  repeat (go_big_quiet_step ((go_at_call 36; exact inExt (RSame.val (Depth_some (HT2.out.keep (ExtOf.ext _ |>.keep HO2.out)) HW.out HNP.out)))))
  refine wpQuiet_nil ?_
  rintro _ ⟨u, rfl⟩
  obtain ⟨wu, xu⟩ := u
  show Exit.then _ _ Exit.normal _ wu
  clear c0' ct1' hq1 hq2
  go_wp2_with fail
  go_ret2
  exact ⟨rfl, (HX.out.trans HX2.out).trans xu⟩
set_option maxRecDepth 100000 in
set_option maxHeartbeats 4000000 in
theorem Graft_full {g w : World} {own : Ow} {ptr : Nat → Nat} {tb : Nat} {T : Tr} (hT : TreeAt w own ptr tb T) (hO : Owned own w) {d : Nat → Nat} (hw : WF T d) {p at' : Nat} {pd : Nd} (hp : T.nodes[p]? = some (some pd)) (ht : (pd.tag == 0) = false) (hat : at' ≤ pd.kids.length)
    {n : PN} {nv : Value} (hr : RdN g n nv) (hap : Apart g own w) (hsh : n.short = true) (hsz : n.size ≤ 90000) (hok : n.ok = true) (hdp : (d p : Int) + 1 + n.high ≤ T.deep) (hf : ¬ (n.size : Int) ≤ T.cap - T.count) :
    Calls Try.prog 31 #[.pointer (some ⟨tb, 0, none⟩), .int .i64 p, .int .i64 at', nv] w (RTwo (.int .i64 0) (.int .i64 3) w) := by
  obtain ⟨av, kv, rfl, ha, hk⟩ := hr.open
  obtain ⟨aa, acap, rfl, hac⟩ := ha.len_of
  obtain ⟨ka', kcap', rfl, hkc, hkm, hkn, hkr⟩ := hk
  have x1 := ((Ext.refl w).alloc (.cells #[.pointer (some ⟨tb, 0, none⟩)] 25)).alloc (.cells #[.int .i64 n.tag, .slice aa n.attrs.length acap, .string n.text, .slice ka' n.kids.length kcap'] 30)
  have hT1 := hT.keep (x1.keep hO)
  obtain ⟨avp, kvp, bp, op, _, hkp⟩ := hT1.node _ _ hp
  obtain ⟨ka, kcap, rfl, kc1, kc2⟩ := hkp.len
  have cp0 := cellOf bp (i := 0) (v := .int .i64 pd.tag) rfl
  have cp3 := cellOf bp (i := 3) (v := .slice ka pd.kids.length kcap) rfl
  have hms := measure_any (hr.cells (hap.ext x1).cells) hsh hsz
  have HMS := Lib.hid hms
  have HP := Lib.hid (Tr.get_of hp)
  have HNP := Lib.hid hp
  have HT := Lib.hid hT
  have HT1 := Lib.hid hT1
  have HO := Lib.hid hO
  have HW := Lib.hid hw
  have HX := Lib.hid x1
  have HR := Lib.hid hr
  have HAP := Lib.hid hap
  have hszb : (n.size : Int) ≤ 90000 := by omega
  have hpb : (p : Int) ≤ 2000 := by have := (List.getElem?_eq_some_iff.1 hp).1; have := hw.small.len; omega
  have hd1 := hw.deep p pd hp
  have hd2 := hw.small.deep1
  have hkl := hw.kids_len hp
  have hhn : (n.high : Int) ≤ 90000 := by have := high_lt n; omega
  have heb : ((PN.look 0 ⟨0, 0, 0⟩ n).e != 0) = false := by
    have := ((look_spec n 0 ⟨0, 0, 0⟩).2.2).2 ⟨rfl, hok⟩
    simp [this]
  have HF := Lib.hid hf
  clear hf
  clear hr hap hT hO hw hp x1 hT1 bp hkp op hms hkr hkn ha kc2
  go_enter Try.func31, Try.ntmps31
  go_wp2_with fail
  refine (get_some HT1.out HP.out).mono ?_
  rintro e w' ⟨rfl, rfl⟩
  go_wp2_with fail
  refine HMS.out.mono ?_
  rintro e w2 ⟨rfl, hx2⟩
  have c0 := hx2.cell (b := w.heap.size) (o := 0) (v := .pointer (some ⟨tb, 0, none⟩)) (by simp [go_sem])
  have hT2 := HT.out.keep ((HX.out.trans hx2).keep HO.out)
  have hO2 : Owned own w2 := fun b hb => Nat.lt_of_lt_of_le (HO.out b hb) (HX.out.trans hx2).size
  obtain ⟨nv2, hb2, hot, _⟩ := hT2.head
  have ct1 := cellOf hb2 (i := 1) (v := .int .i64 T.deep) rfl
  have c0' := fun u : ExtOf w2 => u.ext.cell c0
  have ct1' := fun u : ExtOf w2 => u.ext.cell ct1
  have HT2 := Lib.hid hT2
  have HO2 := Lib.hid hO2
  have HX2 := Lib.hid hx2
  have hq1 : IntKind.i64.wrap ((d p : Int) + 1) = (d p : Int) + 1 := IntWalk.i64_in _ (by omega)
  have hq2 : IntKind.i64.wrap ((d p : Int) + 1 + (n.high : Int)) = (d p : Int) + 1 + (n.high : Int) := IntWalk.i64_in _ (by omega)
  clear hT2 hO2 hx2 hb2 hot
  go_wp2_with fail
  refine wp_region_ext (by kernel_rfl) (by kernel_rfl) ?_
  repeat (go_big_quiet_step ((go_at_call 36; exact inExt (RSame.val (Depth_some (HT2.out.keep (ExtOf.ext _ |>.keep HO2.out)) HW.out HNP.out)))))
  refine wpQuiet_nil ?_
  rintro _ ⟨u, rfl⟩
  obtain ⟨wu, xu⟩ := u
  show Exit.then _ _ Exit.normal _ wu
  clear c0' ct1' hq1 hq2
  replace c0 := xu.cell c0
  go_wp2_with fail
  refine (room_no (HT2.out.keep (xu.keep HO2.out)) HW.out.small n.size (by omega) (by omega) (by have := HF.out; omega)).mono ?_
  rintro e w5 ⟨rfl, hx5⟩
  go_wp2_with fail
  go_ret2
  exact ⟨rfl, ((HX.out.trans HX2.out).trans xu).trans hx5⟩
/-- the tree behind a graft -/
def Tr.grafted (T : Tr) (p at' : Nat) (pd : Nd) (n : PN) : Tr := (PN.into T n).link p at' T.newId.toNat pd ((PN.into T n).look T.newId)
set_option maxRecDepth 100000 in
set_option maxHeartbeats 4000000 in
theorem Graft_ok {g w : World} {own : Ow} {ptr : Nat → Nat} {tb : Nat} {T : Tr} (hT : TreeAt w own ptr tb T) (hO : Owned own w) {d : Nat → Nat} (hw : WF T d) {p at' : Nat} {pd : Nd} (hp : T.nodes[p]? = some (some pd)) (ht : (pd.tag == 0) = false) (hat : at' ≤ pd.kids.length)
    {n : PN} {nv : Value} (hr : RdN g n nv) (hap : Apart g own w) (hsh : n.short = true) (hsz : n.size ≤ 90000) (hok : n.ok = true) (hdp : (d p : Int) + 1 + n.high ≤ T.deep) (hf : (n.size : Int) ≤ T.cap - T.count) :
    Calls Try.prog 31 #[.pointer (some ⟨tb, 0, none⟩), .int .i64 p, .int .i64 at', nv] w (TwoAfter own w tb T.newId (T.grafted p at' pd n)) := by
  obtain ⟨av, kv, rfl, ha, hk⟩ := hr.open
  obtain ⟨aa, acap, rfl, hac⟩ := ha.len_of
  obtain ⟨ka', kcap', rfl, hkc, hkm, hkn, hkr⟩ := hk
  have x1 := ((Ext.refl w).alloc (.cells #[.pointer (some ⟨tb, 0, none⟩)] 25)).alloc (.cells #[.int .i64 n.tag, .slice aa n.attrs.length acap, .string n.text, .slice ka' n.kids.length kcap'] 30)
  have hT1 := hT.keep (x1.keep hO)
  obtain ⟨avp, kvp, bp, op, _, hkp⟩ := hT1.node _ _ hp
  obtain ⟨ka, kcap, rfl, kc1, kc2⟩ := hkp.len
  have cp0 := cellOf bp (i := 0) (v := .int .i64 pd.tag) rfl
  have cp3 := cellOf bp (i := 3) (v := .slice ka pd.kids.length kcap) rfl
  have hms := measure_any (hr.cells (hap.ext x1).cells) hsh hsz
  have HMS := Lib.hid hms
  have HP := Lib.hid (Tr.get_of hp)
  have HNP := Lib.hid hp
  have HT := Lib.hid hT
  have HT1 := Lib.hid hT1
  have HO := Lib.hid hO
  have HW := Lib.hid hw
  have HX := Lib.hid x1
  have HR := Lib.hid hr
  have HAP := Lib.hid hap
  have hszb : (n.size : Int) ≤ 90000 := by omega
  have hpb : (p : Int) ≤ 2000 := by have := (List.getElem?_eq_some_iff.1 hp).1; have := hw.small.len; omega
  have hd1 := hw.deep p pd hp
  have hd2 := hw.small.deep1
  have hkl := hw.kids_len hp
  have hhn : (n.high : Int) ≤ 90000 := by have := high_lt n; omega
  have heb : ((PN.look 0 ⟨0, 0, 0⟩ n).e != 0) = false := by
    have := ((look_spec n 0 ⟨0, 0, 0⟩).2.2).2 ⟨rfl, hok⟩
    simp [this]
  obtain ⟨dz, m, hm1, hm0, hm2, hPut⟩ := into_ok n hok T d hw (by omega) (by omega)
  obtain ⟨kd, hk1, hk2⟩ := hPut.node
  have hpm : p ≠ m := fun e => hm2 pd (e ▸ hp)
  have hp2 := hPut.old p pd hpm hp
  obtain ⟨hap1, hap2⟩ := hPut.apart hw hm2 p pd hp
  have hgr : T.grafted p at' pd n = (PN.into T n).link p at' m pd kd := by
    unfold Tr.grafted; rw [hm1, Int.toNat_natCast, look_of hk1]
  have hdz : (dz p : Int) + 1 + (PN.into T n).hgt 50 m ≤ (PN.into T n).deep := by
    have h1 : (PN.into T n).hgt 50 m = n.high := hPut.high
    rw [h1, hPut.deep, hap2]; exact hdp
  have HF := Lib.hid hf
  have HM1 := Lib.hid hm1
  have HM0 := Lib.hid hm0
  have HPUT := Lib.hid hPut
  have HK1 := Lib.hid hk1
  have HK2 := Lib.hid hk2
  have HP2 := Lib.hid hp2
  have HA1 := Lib.hid hap1
  have HGR := Lib.hid hgr
  have HDZ := Lib.hid hdz
  have HOK := Lib.hid hok
  have HSH := Lib.hid hsh
  have HDP := Lib.hid hdp
  clear hf hm1 hm0 hPut hk1 hk2 hp2 hap1 hgr hdz hm2 hap2
  clear hr hap hT hO hw hp x1 hT1 bp hkp op hms hkr hkn ha kc2
  go_enter Try.func31, Try.ntmps31
  go_wp2_with fail
  refine (get_some HT1.out HP.out).mono ?_
  rintro e w' ⟨rfl, rfl⟩
  go_wp2_with fail
  refine HMS.out.mono ?_
  rintro e w2 ⟨rfl, hx2⟩
  have c0 := hx2.cell (b := w.heap.size) (o := 0) (v := .pointer (some ⟨tb, 0, none⟩)) (by simp [go_sem])
  have hT2 := HT.out.keep ((HX.out.trans hx2).keep HO.out)
  have hO2 : Owned own w2 := fun b hb => Nat.lt_of_lt_of_le (HO.out b hb) (HX.out.trans hx2).size
  obtain ⟨nv2, hb2, hot, _⟩ := hT2.head
  have ct1 := cellOf hb2 (i := 1) (v := .int .i64 T.deep) rfl
  have c0' := fun u : ExtOf w2 => u.ext.cell c0
  have ct1' := fun u : ExtOf w2 => u.ext.cell ct1
  have HT2 := Lib.hid hT2
  have HO2 := Lib.hid hO2
  have HX2 := Lib.hid hx2
  have hq1 : IntKind.i64.wrap ((d p : Int) + 1) = (d p : Int) + 1 := IntWalk.i64_in _ (by omega)
  have hq2 : IntKind.i64.wrap ((d p : Int) + 1 + (n.high : Int)) = (d p : Int) + 1 + (n.high : Int) := IntWalk.i64_in _ (by omega)
  clear hT2 hO2 hx2 hb2 hot
  go_wp2_with fail
  refine wp_region_ext (by kernel_rfl) (by kernel_rfl) ?_
  repeat (go_big_quiet_step ((go_at_call 36; exact inExt (RSame.val (Depth_some (HT2.out.keep (ExtOf.ext _ |>.keep HO2.out)) HW.out HNP.out)))))
  refine wpQuiet_nil ?_
  rintro _ ⟨u, rfl⟩
  obtain ⟨wu, xu⟩ := u
  show Exit.then _ _ Exit.normal _ wu
  clear c0' ct1' hq1 hq2
  replace c0 := xu.cell c0
  have c7 : wu.cell? ⟨w.heap.size + 1, 0, none⟩ = some (.int .i64 n.tag) ∧ wu.cell? ⟨w.heap.size + 1, 1, none⟩ = some (.slice aa n.attrs.length acap) ∧ wu.cell? ⟨w.heap.size + 1, 2, none⟩ = some (.string n.text) ∧ wu.cell? ⟨w.heap.size + 1, 3, none⟩ = some (.slice ka' n.kids.length kcap') :=
    ⟨(HX2.out.trans xu).cell (by simp [go_sem]), (HX2.out.trans xu).cell (by simp [go_sem]), (HX2.out.trans xu).cell (by simp [go_sem]), (HX2.out.trans xu).cell (by simp [go_sem])⟩
  have XU := Lib.hid xu
  clear xu
  go_wp2_with fail
  refine (room_yes (HT2.out.keep (XU.out.keep HO2.out)) HW.out.small n.size (by omega) HF.out).mono ?_
  rintro e w5 ⟨rfl, hx5⟩
  have x25 := XU.out.trans hx5
  have x05 := (HX.out.trans HX2.out).trans x25
  have y6 := (Ext.refl w5).alloc (.cells #[putF w.heap.size w5.heap.size] 51)
  have hT6 := HT.out.keep ((x05.trans y6).keep HO.out)
  have hO6 : Owned own (w5.alloc (.cells #[putF w.heap.size w5.heap.size] 51)) := fun b hb => Nat.lt_of_lt_of_le (HO.out b hb) (x05.trans y6).size
  have fresh : ∀ b, w.heap.size ≤ b → own b = none := fun b hb => by
    cases ho : own b with
    | none => rfl
    | some x => have := HO.out b (by simp [ho]); omega
  have c0w := (hx5.trans y6).cell c0
  have hs5 := x05.size
  have hpcell : (w5.alloc (.cells #[putF w.heap.size w5.heap.size] 51)).cell? ⟨w5.heap.size, 0, none⟩ = some (putF w.heap.size w5.heap.size) := cellOf (heap_alloc_new w5 _) rfl
  have hput := put_any (hide_cell (own := own) c0w (fresh _ (Nat.le_refl _))) (hide_cell (own := own) hpcell (fresh _ hs5)) n HOK.out HSH.out _ T d own ptr _ (HR.out.cells (HAP.out.ext (x05.trans y6)).hide) (hide_apart own _) hT6 hO6 HW.out (by have := HF.out; omega) (by have := HDP.out; omega)
  have d0 := c0w
  have d1 := (hx5.trans y6).cell c7.1
  have d2 := (hx5.trans y6).cell c7.2.1
  have d3 := (hx5.trans y6).cell c7.2.2.1
  have d4 := (hx5.trans y6).cell c7.2.2.2
  have HPT := Lib.hid hput
  have X6 := Lib.hid (x05.trans y6)
  have FR := Lib.hid fresh
  clear hput hT6 hO6 fresh c0w hpcell x05 y6 c0 c7 hx5 x25
  go_wp2_with fail
  refine HPT.out.mono ?_
  rintro e w7 ⟨rfl, own7, ptr7, hT7, hS7⟩
  rw [HM1.out]
  have e0 := hS7.cellOld (FR.out _ (Nat.le_refl _)) d0
  have hS7' := (X6.out.step HO.out).trans hS7
  have hins := Insert_ok (at' := at') hT7 hS7.owned HPUT.out.wf HP2.out HK1.out ht HM0.out HK2.out hat (by omega) HA1.out HDZ.out (insertsAt_any _ _)
  have HINS := Lib.hid hins
  have HS7 := Lib.hid hS7'
  clear hins hT7 hS7 hS7' d0 d1 d2 d3 d4
  go_wp2_with fail
  refine HINS.out.mono ?_
  rintro e w8 ⟨rfl, own8, ptr8, hT8, hS8⟩
  go_wp2_with fail
  go_ret2
  refine ⟨by rw [HM1.out]; rfl, own8, ptr8, ?_, HS7.out.trans hS8⟩
  rw [HGR.out]; exact hT8
end Go.Proofs.Ytiglflmjidikpaa
