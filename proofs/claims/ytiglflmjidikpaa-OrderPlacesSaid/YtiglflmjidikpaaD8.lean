/- Package dom: Graft behind measure: the errors; the tree, where all is well.
Package dom: Copy: what a node more makes of the copy that is being built.
Package dom: Copy. -/
import Derived.Test.YtiglflmjidikpaaD7
import Derived.Laws.EntriesVeiled
import Derived.Deep.CutBlock
namespace Go.Proofs.Ytiglflmjidikpaa
open Go Go.RowKit Go.BigFrame
set_option linter.unusedVariables false
set_option linter.unusedSimpArgs false
set_option maxRecDepth 100000 in
set_option maxHeartbeats 4000000 in
theorem Graft_bad {g w : World} {own : Ow} {ptr : Nat → Nat} {tb : Nat} {T : Tr} (hT : TreeAt w own ptr tb T) (hO : Owned own w) {d : Nat → Nat} (hw : WF T d) {p at' : Nat} {pd : Nd} (hp : T.nodes[p]? = some (some pd)) (ht : (pd.tag == 0) = false) (hat : at' ≤ pd.kids.length)
    {n : PN} {nv : Value} (hr : RdN g n nv) (hap : Apart g own w) (hsh : n.short = true) (hsz : n.size ≤ 90000) (he : (PN.look 0 ⟨0, 0, 0⟩ n).e ≠ 0) :
    Calls Try.prog 31 #[.pointer (some ⟨tb, 0, none⟩), .int .i64 p, .int .i64 at', nv] w (RTwo (.int .i64 0) (.int .i64 (PN.look 0 ⟨0, 0, 0⟩ n).e) w) := by
  obtain ⟨av, kv, rfl, ha, hk⟩ := hr.open
  obtain ⟨aa, acap, rfl, hac⟩ := ha.len_of
  obtain ⟨ka', kcap', rfl, hkc, hkm, hkn, hkr⟩ := hk
  have x1 := ((Ext.refl w).alloc (.cells #[.pointer (some ⟨tb, 0, none⟩)] 25)).alloc (.cells #[.int .i64 n.tag, .slice aa n.attrs.length acap, .string n.text, .slice ka' n.kids.length kcap'] 30)
  have hT1 := hT.keep (x1.keep hO)
  obtain ⟨avp, kvp, bp, op, _, hkp⟩ := hT1.node _ _ hp
  obtain ⟨ka, kcap, rfl, kc1, kc2⟩ := hkp.len
  have cp0 := cellOf bp (i := 0) (v := .int .i64 pd.tag) rfl
  have cp3 := cellOf bp (i := 3) (v := .slice ka pd.kids.length kcap) rfl
  have hms := measure_any (hr.cells (hap.ext x1).cells) hsh hsz
  have HMS := Lib.hid hms
  have HP := Lib.hid (Tr.get_of hp)
  have HNP := Lib.hid hp
  have HT := Lib.hid hT
  have HT1 := Lib.hid hT1
  have HO := Lib.hid hO
  have HW := Lib.hid hw
  have HX := Lib.hid x1
  have HR := Lib.hid hr
  have HAP := Lib.hid hap
  have hszb : (n.size : Int) ≤ 90000 := by omega
  have hpb : (p : Int) ≤ 2000 := by have := (List.getElem?_eq_some_iff.1 hp).1; have := hw.small.len; omega
  have hd1 := hw.deep p pd hp
  have hd2 := hw.small.deep1
  have hkl := hw.kids_len hp
  have hhn : (n.high : Int) ≤ 90000 := by have := high_lt n; omega
  have heb : ((PN.look 0 ⟨0, 0, 0⟩ n).e != 0) = true := by simpa using he
  clear he
  clear hr hap hT hO hw hp x1 hT1 bp hkp op hms hkr hkn ha kc2
  go_enter Try.func31, Try.ntmps31
  go_wp2_with fail
  refine (get_some HT1.out HP.out).mono ?_
  rintro e w' ⟨rfl, rfl⟩
  go_wp2_with fail
  refine HMS.out.mono ?_
  rintro e w2 ⟨rfl, hx2⟩
  go_wp2_with fail
  go_ret2
  exact ⟨rfl, HX.out.trans hx2⟩
set_option maxRecDepth 100000 in
set_option maxHeartbeats 4000000 in
theorem Graft_deep {g w : World} {own : Ow} {ptr : Nat → Nat} {tb : Nat} {T : Tr} (hT : TreeAt w own ptr tb T) (hO : Owned own w) {d : Nat → Nat} (hw : WF T d) {p at' : Nat} {pd : Nd} (hp : T.nodes[p]? = some (some pd)) (ht : (pd.tag == 0) = false) (hat : at' ≤ pd.kids.length)
    {n : PN} {nv : Value} (hr : RdN g n nv) (hap : Apart g own w) (hsh : n.short = true) (hsz : n.size ≤ 90000) (hok : n.ok = true) (hdp : T.deep < (d p : Int) + 1 + n.high) :
    Calls Try.prog 31 #[.pointer (some ⟨tb, 0, none⟩), .int .i64 p, .int .i64 at', nv] w (RTwo (.int .i64 0) (.int .i64 4) w) := by
  obtain ⟨av, kv, rfl, ha, hk⟩ := hr.open
  obtain ⟨aa, acap, rfl, hac⟩ := ha.len_of
  obtain ⟨ka', kcap', rfl, hkc, hkm, hkn, hkr⟩ := hk
  have x1 := ((Ext.refl w).alloc (.cells #[.pointer (some ⟨tb, 0, none⟩)] 25)).alloc (.cells #[.int .i64 n.tag, .slice aa n.attrs.length acap, .string n.text, .slice ka' n.kids.length kcap'] 30)
  have hT1 := hT.keep (x1.keep hO)
  obtain ⟨avp, kvp, bp, op, _, hkp⟩ := hT1.node _ _ hp
  obtain ⟨ka, kcap, rfl, kc1, kc2⟩ := hkp.len
  have cp0 := cellOf bp (i := 0) (v := .int .i64 pd.tag) rfl
  have cp3 := cellOf bp (i := 3) (v := .slice ka pd.kids.length kcap) rfl
  have hms := measure_any (hr.cells (hap.ext x1).cells) hsh hsz
  have HMS := Lib.hid hms
  have HP := Lib.hid (Tr.get_of hp)
  have HNP := Lib.hid hp
  have HT := Lib.hid hT
  have HT1 := Lib.hid hT1
  have HO := Lib.hid hO
  have HW := Lib.hid hw
  have HX := Lib.hid x1
  have HR := Lib.hid hr
  have HAP := Lib.hid hap
  have hszb : (n.size : Int) ≤ 90000 := by omega
  have hpb : (p : Int) ≤ 2000 := by have := (List.getElem?_eq_some_iff.1 hp).1; have := hw.small.len; omega
  have hd1 := hw.deep p pd hp
  have hd2 := hw.small.deep1
  have hkl := hw.kids_len hp
  have hhn : (n.high : Int) ≤ 90000 := by have := high_lt n; omega
  have heb : ((PN.look 0 ⟨0, 0, 0⟩ n).e != 0) = false := by
    have := ((look_spec n 0 ⟨0, 0, 0⟩).2.2).2 ⟨rfl, hok⟩
    simp [this]
  clear hr hap hT hO hw hp x1 hT1 bp hkp op hms hkr hkn ha kc2
  go_enter Try.func31, Try.ntmps31
  go_wp2_with fail
  refine (get_some HT1.out HP.out).mono ?_
  rintro e w' ⟨rfl, rfl⟩
  go_wp2_with fail
  refine HMS.out.mono ?_
  rintro e w2 ⟨rfl, hx2⟩
  have c0 := hx2.cell (b := w.heap.size) (o := 0) (v := .pointer (some ⟨tb, 0, none⟩)) (by simp [go_sem])
  have hT2 := HT.out.keep ((HX.out.trans hx2).keep HO.out)
  have hO2 : Owned own w2 := fun b hb => Nat.lt_of_lt_of_le (HO.out b hb) (HX.out.trans hx2).size
  obtain ⟨nv2, hb2, hot, _⟩ := hT2.head
  have ct1 := cellOf hb2 (i := 1) (v := .int .i64 T.deep) rfl
  have c0' := fun u : ExtOf w2 => u.ext.cell c0
  have ct1' := fun u : ExtOf w2 => u.ext.cell ct1
  have HT2 := Lib.hid hT2
  have HO2 := Lib.hid hO2
  have HX2 := Lib.hid hx2
  have hq1 : IntKind.i64.wrap ((d p : Int) + 1) = (d p : Int) + 1 := IntWalk.i64_in _ (by omega)
  have hq2 : IntKind.i64.wrap ((d p : Int) + 1 + (n.high : Int)) = (d p : Int) + 1 + (n.high : Int) := IntWalk.i64_in _ (by omega)
  clear hT2 hO2 hx2 hb2 hot
  go_wp2_with fail
  refine wp_region_ext (by kernel_rfl) (by kernel_rfl) ?_
  repeat (go_big_quiet_step ((go_at_call 36; exact inExt (RSame.val (Depth_some (HT2.out.keep (ExtOf.ext _ |>.keep HO2.out)) HW.out HNP.out)))))
  refine wpQuiet_nil ?_
  rintro _ ⟨u, rfl⟩
  obtain ⟨wu, xu⟩ := u
  show Exit.then _ _ Exit.normal _ wu
  clear c0' ct1' hq1 hq2
  go_wp2_with fail
  go_ret2
  exact ⟨rfl, (HX.out.trans HX2.out).trans xu⟩
set_option maxRecDepth 100000 in
set_option maxHeartbeats 4000000 in
theorem Graft_full {g w : World} {own : Ow} {ptr : Nat → Nat} {tb : Nat} {T : Tr} (hT : TreeAt w own ptr tb T) (hO : Owned own w) {d : Nat → Nat} (hw : WF T d) {p at' : Nat} {pd : Nd} (hp : T.nodes[p]? = some (some pd)) (ht : (pd.tag == 0) = false) (hat : at' ≤ pd.kids.length)
    {n : PN} {nv : Value} (hr : RdN g n nv) (hap : Apart g own w) (hsh : n.short = true) (hsz : n.size ≤ 90000) (hok : n.ok = true) (hdp : (d p : Int) + 1 + n.high ≤ T.deep) (hf : ¬ (n.size : Int) ≤ T.cap - T.count) :
    Calls Try.prog 31 #[.pointer (some ⟨tb, 0, none⟩), .int .i64 p, .int .i64 at', nv] w (RTwo (.int .i64 0) (.int .i64 3) w) := by
  obtain ⟨av, kv, rfl, ha, hk⟩ := hr.open
  obtain ⟨aa, acap, rfl, hac⟩ := ha.len_of
  obtain ⟨ka', kcap', rfl, hkc, hkm, hkn, hkr⟩ := hk
  have x1 := ((Ext.refl w).alloc (.cells #[.pointer (some ⟨tb, 0, none⟩)] 25)).alloc (.cells #[.int .i64 n.tag, .slice aa n.attrs.length acap, .string n.text, .slice ka' n.kids.length kcap'] 30)
  have hT1 := hT.keep (x1.keep hO)
  obtain ⟨avp, kvp, bp, op, _, hkp⟩ := hT1.node _ _ hp
  obtain ⟨ka, kcap, rfl, kc1, kc2⟩ := hkp.len
  have cp0 := cellOf bp (i := 0) (v := .int .i64 pd.tag) rfl
  have cp3 := cellOf bp (i := 3) (v := .slice ka pd.kids.length kcap) rfl
  have hms := measure_any (hr.cells (hap.ext x1).cells) hsh hsz
  have HMS := Lib.hid hms
  have HP := Lib.hid (Tr.get_of hp)
  have HNP := Lib.hid hp
  have HT := Lib.hid hT
  have HT1 := Lib.hid hT1
  have HO := Lib.hid hO
  have HW := Lib.hid hw
  have HX := Lib.hid x1
  have HR := Lib.hid hr
  have HAP := Lib.hid hap
  have hszb : (n.size : Int) ≤ 90000 := by omega
  have hpb : (p : Int) ≤ 2000 := by have := (List.getElem?_eq_some_iff.1 hp).1; have := hw.small.len; omega
  have hd1 := hw.deep p pd hp
  have hd2 := hw.small.deep1
  have hkl := hw.kids_len hp
  have hhn : (n.high : Int) ≤ 90000 := by have := high_lt n; omega
  have heb : ((PN.look 0 ⟨0, 0, 0⟩ n).e != 0) = false := by
    have := ((look_spec n 0 ⟨0, 0, 0⟩).2.2).2 ⟨rfl, hok⟩
    simp [this]
  have HF := Lib.hid hf
  clear hf
  clear hr hap hT hO hw hp x1 hT1 bp hkp op hms hkr hkn ha kc2
  go_enter Try.func31, Try.ntmps31
  go_wp2_with fail
  refine (get_some HT1.out HP.out).mono ?_
  rintro e w' ⟨rfl, rfl⟩
  go_wp2_with fail
  refine HMS.out.mono ?_
  rintro e w2 ⟨rfl, hx2⟩
  have c0 := hx2.cell (b := w.heap.size) (o := 0) (v := .pointer (some ⟨tb, 0, none⟩)) (by simp [go_sem])
  have hT2 := HT.out.keep ((HX.out.trans hx2).keep HO.out)
  have hO2 : Owned own w2 := fun b hb => Nat.lt_of_lt_of_le (HO.out b hb) (HX.out.trans hx2).size
  obtain ⟨nv2, hb2, hot, _⟩ := hT2.head
  have ct1 := cellOf hb2 (i := 1) (v := .int .i64 T.deep) rfl
  have c0' := fun u : ExtOf w2 => u.ext.cell c0
  have ct1' := fun u : ExtOf w2 => u.ext.cell ct1
  have HT2 := Lib.hid hT2
  have HO2 := Lib.hid hO2
  have HX2 := Lib.hid hx2
  have hq1 : IntKind.i64.wrap ((d p : Int) + 1) = (d p : Int) + 1 := IntWalk.i64_in _ (by omega)
  have hq2 : IntKind.i64.wrap ((d p : Int) + 1 + (n.high : Int)) = (d p : Int) + 1 + (n.high : Int) := IntWalk.i64_in _ (by omega)
  clear hT2 hO2 hx2 hb2 hot
  go_wp2_with fail
  refine wp_region_ext (by kernel_rfl) (by kernel_rfl) ?_
  repeat (go_big_quiet_step ((go_at_call 36; exact inExt (RSame.val (Depth_some (HT2.out.keep (ExtOf.ext _ |>.keep HO2.out)) HW.out HNP.out)))))
  refine wpQuiet_nil ?_
  rintro _ ⟨u, rfl⟩
  obtain ⟨wu, xu⟩ := u
  show Exit.then _ _ Exit.normal _ wu
  clear c0' ct1' hq1 hq2
  replace c0 := xu.cell c0
  go_wp2_with fail
  refine (room_no (HT2.out.keep (xu.keep HO2.out)) HW.out.small n.size (by omega) (by omega) (by have := HF.out; omega)).mono ?_
  rintro e w5 ⟨rfl, hx5⟩
  go_wp2_with fail
  go_ret2
  exact ⟨rfl, ((HX.out.trans HX2.out).trans xu).trans hx5⟩
/-- the tree behind a graft -/
def Tr.grafted (T : Tr) (p at' : Nat) (pd : Nd) (n : PN) : Tr := (PN.into T n).link p at' T.newId.toNat pd ((PN.into T n).look T.newId)
set_option maxRecDepth 100000 in
set_option maxHeartbeats 4000000 in
theorem Graft_ok {g w : World} {own : Ow} {ptr : Nat → Nat} {tb : Nat} {T : Tr} (hT : TreeAt w own ptr tb T) (hO : Owned own w) {d : Nat → Nat} (hw : WF T d) {p at' : Nat} {pd : Nd} (hp : T.nodes[p]? = some (some pd)) (ht : (pd.tag == 0) = false) (hat : at' ≤ pd.kids.length)
    {n : PN} {nv : Value} (hr : RdN g n nv) (hap : Apart g own w) (hsh : n.short = true) (hsz : n.size ≤ 90000) (hok : n.ok = true) (hdp : (d p : Int) + 1 + n.high ≤ T.deep) (hf : (n.size : Int) ≤ T.cap - T.count) :
    Calls Try.prog 31 #[.pointer (some ⟨tb, 0, none⟩), .int .i64 p, .int .i64 at', nv] w (TwoAfter own w tb T.newId (T.grafted p at' pd n)) := by
  obtain ⟨av, kv, rfl, ha, hk⟩ := hr.open
  obtain ⟨aa, acap, rfl, hac⟩ := ha.len_of
  obtain ⟨ka', kcap', rfl, hkc, hkm, hkn, hkr⟩ := hk
  have x1 := ((Ext.refl w).alloc (.cells #[.pointer (some ⟨tb, 0, none⟩)] 25)).alloc (.cells #[.int .i64 n.tag, .slice aa n.attrs.length acap, .string n.text, .slice ka' n.kids.length kcap'] 30)
  have hT1 := hT.keep (x1.keep hO)
  obtain ⟨avp, kvp, bp, op, _, hkp⟩ := hT1.node _ _ hp
  obtain ⟨ka, kcap, rfl, kc1, kc2⟩ := hkp.len
  have cp0 := cellOf bp (i := 0) (v := .int .i64 pd.tag) rfl
  have cp3 := cellOf bp (i := 3) (v := .slice ka pd.kids.length kcap) rfl
  have hms := measure_any (hr.cells (hap.ext x1).cells) hsh hsz
  have HMS := Lib.hid hms
  have HP := Lib.hid (Tr.get_of hp)
  have HNP := Lib.hid hp
  have HT := Lib.hid hT
  have HT1 := Lib.hid hT1
  have HO := Lib.hid hO
  have HW := Lib.hid hw
  have HX := Lib.hid x1
  have HR := Lib.hid hr
  have HAP := Lib.hid hap
  have hszb : (n.size : Int) ≤ 90000 := by omega
  have hpb : (p : Int) ≤ 2000 := by have := (List.getElem?_eq_some_iff.1 hp).1; have := hw.small.len; omega
  have hd1 := hw.deep p pd hp
  have hd2 := hw.small.deep1
  have hkl := hw.kids_len hp
  have hhn : (n.high : Int) ≤ 90000 := by have := high_lt n; omega
  have heb : ((PN.look 0 ⟨0, 0, 0⟩ n).e != 0) = false := by
    have := ((look_spec n 0 ⟨0, 0, 0⟩).2.2).2 ⟨rfl, hok⟩
    simp [this]
  obtain ⟨dz, m, hm1, hm0, hm2, hPut⟩ := into_ok n hok T d hw (by omega) (by omega)
  obtain ⟨kd, hk1, hk2⟩ := hPut.node
  have hpm : p ≠ m := fun e => hm2 pd (e ▸ hp)
  have hp2 := hPut.old p pd hpm hp
  obtain ⟨hap1, hap2⟩ := hPut.apart hw hm2 p pd hp
  have hgr : T.grafted p at' pd n = (PN.into T n).link p at' m pd kd := by
    unfold Tr.grafted; rw [hm1, Int.toNat_natCast, look_of hk1]
  have hdz : (dz p : Int) + 1 + (PN.into T n).hgt 50 m ≤ (PN.into T n).deep := by
    have h1 : (PN.into T n).hgt 50 m = n.high := hPut.high
    rw [h1, hPut.deep, hap2]; exact hdp
  have HF := Lib.hid hf
  have HM1 := Lib.hid hm1
  have HM0 := Lib.hid hm0
  have HPUT := Lib.hid hPut
  have HK1 := Lib.hid hk1
  have HK2 := Lib.hid hk2
  have HP2 := Lib.hid hp2
  have HA1 := Lib.hid hap1
  have HGR := Lib.hid hgr
  have HDZ := Lib.hid hdz
  have HOK := Lib.hid hok
  have HSH := Lib.hid hsh
  have HDP := Lib.hid hdp
  clear hf hm1 hm0 hPut hk1 hk2 hp2 hap1 hgr hdz hm2 hap2
  clear hr hap hT hO hw hp x1 hT1 bp hkp op hms hkr hkn ha kc2
  go_enter Try.func31, Try.ntmps31
  go_wp2_with fail
  refine (get_some HT1.out HP.out).mono ?_
  rintro e w' ⟨rfl, rfl⟩
  go_wp2_with fail
  refine HMS.out.mono ?_
  rintro e w2 ⟨rfl, hx2⟩
  have c0 := hx2.cell (b := w.heap.size) (o := 0) (v := .pointer (some ⟨tb, 0, none⟩)) (by simp [go_sem])
  have hT2 := HT.out.keep ((HX.out.trans hx2).keep HO.out)
  have hO2 : Owned own w2 := fun b hb => Nat.lt_of_lt_of_le (HO.out b hb) (HX.out.trans hx2).size
  obtain ⟨nv2, hb2, hot, _⟩ := hT2.head
  have ct1 := cellOf hb2 (i := 1) (v := .int .i64 T.deep) rfl
  have c0' := fun u : ExtOf w2 => u.ext.cell c0
  have ct1' := fun u : ExtOf w2 => u.ext.cell ct1
  have HT2 := Lib.hid hT2
  have HO2 := Lib.hid hO2
  have HX2 := Lib.hid hx2
  have hq1 : IntKind.i64.wrap ((d p : Int) + 1) = (d p : Int) + 1 := IntWalk.i64_in _ (by omega)
  have hq2 : IntKind.i64.wrap ((d p : Int) + 1 + (n.high : Int)) = (d p : Int) + 1 + (n.high : Int) := IntWalk.i64_in _ (by omega)
  clear hT2 hO2 hx2 hb2 hot
  go_wp2_with fail
  refine wp_region_ext (by kernel_rfl) (by kernel_rfl) ?_
  repeat (go_big_quiet_step ((go_at_call 36; exact inExt (RSame.val (Depth_some (HT2.out.keep (ExtOf.ext _ |>.keep HO2.out)) HW.out HNP.out)))))
  refine wpQuiet_nil ?_
  rintro _ ⟨u, rfl⟩
  obtain ⟨wu, xu⟩ := u
  show Exit.then _ _ Exit.normal _ wu
  clear c0' ct1' hq1 hq2
  replace c0 := xu.cell c0
  have c7 : wu.cell? ⟨w.heap.size + 1, 0, none⟩ = some (.int .i64 n.tag) ∧ wu.cell? ⟨w.heap.size + 1, 1, none⟩ = some (.slice aa n.attrs.length acap) ∧ wu.cell? ⟨w.heap.size + 1, 2, none⟩ = some (.string n.text) ∧ wu.cell? ⟨w.heap.size + 1, 3, none⟩ = some (.slice ka' n.kids.length kcap') :=
    ⟨(HX2.out.trans xu).cell (by simp [go_sem]), (HX2.out.trans xu).cell (by simp [go_sem]), (HX2.out.trans xu).cell (by simp [go_sem]), (HX2.out.trans xu).cell (by simp [go_sem])⟩
  have XU := Lib.hid xu
  clear xu
  go_wp2_with fail
  refine (room_yes (HT2.out.keep (XU.out.keep HO2.out)) HW.out.small n.size (by omega) HF.out).mono ?_
  rintro e w5 ⟨rfl, hx5⟩
  have x25 := XU.out.trans hx5
  have x05 := (HX.out.trans HX2.out).trans x25
  have y6 := (Ext.refl w5).alloc (.cells #[putF w.heap.size w5.heap.size] 51)
  have hT6 := HT.out.keep ((x05.trans y6).keep HO.out)
  have hO6 : Owned own (w5.alloc (.cells #[putF w.heap.size w5.heap.size] 51)) := fun b hb => Nat.lt_of_lt_of_le (HO.out b hb) (x05.trans y6).size
  have fresh : ∀ b, w.heap.size ≤ b → own b = none := fun b hb => by
    cases ho : own b with
    | none => rfl
    | some x => have := HO.out b (by simp [ho]); omega
  have c0w := (hx5.trans y6).cell c0
  have hs5 := x05.size
  have hpcell : (w5.alloc (.cells #[putF w.heap.size w5.heap.size] 51)).cell? ⟨w5.heap.size, 0, none⟩ = some (putF w.heap.size w5.heap.size) := cellOf (heap_alloc_new w5 _) rfl
  have hput := put_any (hide_cell (own := own) c0w (fresh _ (Nat.le_refl _))) (hide_cell (own := own) hpcell (fresh _ hs5)) n HOK.out HSH.out _ T d own ptr _ (HR.out.cells (HAP.out.ext (x05.trans y6)).hide) (hide_apart own _) hT6 hO6 HW.out (by have := HF.out; omega) (by have := HDP.out; omega)
  have d0 := c0w
  have d1 := (hx5.trans y6).cell c7.1
  have d2 := (hx5.trans y6).cell c7.2.1
  have d3 := (hx5.trans y6).cell c7.2.2.1
  have d4 := (hx5.trans y6).cell c7.2.2.2
  have HPT := Lib.hid hput
  have X6 := Lib.hid (x05.trans y6)
  have FR := Lib.hid fresh
  clear hput hT6 hO6 fresh c0w hpcell x05 y6 c0 c7 hx5 x25
  go_wp2_with fail
  refine HPT.out.mono ?_
  rintro e w7 ⟨rfl, own7, ptr7, hT7, hS7⟩
  rw [HM1.out]
  have e0 := hS7.cellOld (FR.out _ (Nat.le_refl _)) d0
  have hS7' := (X6.out.step HO.out).trans hS7
  have hins := Insert_ok (at' := at') hT7 hS7.owned HPUT.out.wf HP2.out HK1.out ht HM0.out HK2.out hat (by omega) HA1.out HDZ.out (insertsAt_any _ _)
  have HINS := Lib.hid hins
  have HS7 := Lib.hid hS7'
  clear hins hT7 hS7 hS7' d0 d1 d2 d3 d4
  go_wp2_with fail
  refine HINS.out.mono ?_
  rintro e w8 ⟨rfl, own8, ptr8, hT8, hS8⟩
  go_wp2_with fail
  go_ret2
  refine ⟨by rw [HM1.out]; rfl, own8, ptr8, ?_, HS7.out.trans hS8⟩
  rw [HGR.out]; exact hT8
end Go.Proofs.Ytiglflmjidikpaa

namespace Go.Proofs.Ytiglflmjidikpaa
open Go Go.RowKit Go.BigFrame
set_option linter.unusedVariables false
set_option linter.unusedSimpArgs false

/-- a node at block M with rows of its own behind it -/
def NodeNew (w : World) (M : Nat) (nd : Nd) : Prop :=
  ∃ va vk, w.heap[M]? = some (.cells #[.int .i64 nd.tag, va, .string nd.text, vk, .int .i64 nd.parent] 115 (0, 0)) ∧
    RowP w (fun g => M < g) 44 2 va nd.attrs.length (attrCells nd.attrs) ∧ RowP w (fun g => M < g) 3 1 vk nd.kids.length (nd.kids.map (Value.int .i64))
theorem NodeNew.ext {w w' : World} {M : Nat} {nd : Nd} (h : NodeNew w M nd) (k : Ext w w') : NodeNew w' M nd := by
  obtain ⟨va, vk, h1, h2, h3⟩ := h
  exact ⟨va, vk, k.block h1, h2.ext k, h3.ext k⟩
theorem NodeNew.of {w : World} {M : Nat} {nd : Nd} {x1 x3 va vk : Value} (h : w.heap[M]? = some (.cells #[.int .i64 nd.tag, x1, .string nd.text, x3, .int .i64 nd.parent] 115 (0, 0)))
    (ha : RowP w (fun g => M < g) 44 2 va nd.attrs.length (attrCells nd.attrs)) (hk : RowP w (fun g => M < g) 3 1 vk nd.kids.length (nd.kids.map (Value.int .i64))) :
    NodeNew ((w.setCell ⟨M, 1, none⟩ va).setCell ⟨M, 3, none⟩ vk) M nd ∧ NodeNew ((w.setCell ⟨M, 3, none⟩ vk).setCell ⟨M, 1, none⟩ va) M nd := by
  have far : ∀ g, M < g → g ≠ M := fun g h => by omega
  exact ⟨⟨va, vk, by rw [heap_setCell_same (heap_setCell_same h va) vk]; rfl, RowP.move ha fun g hg => ⟨(heap_setCell_other _ (far g hg)).trans (heap_setCell_other _ (far g hg)), hg⟩, RowP.move hk fun g hg => ⟨(heap_setCell_other _ (far g hg)).trans (heap_setCell_other _ (far g hg)), hg⟩⟩,
    ⟨va, vk, by rw [heap_setCell_same (heap_setCell_same h vk) va]; rfl, RowP.move ha fun g hg => ⟨(heap_setCell_other _ (far g hg)).trans (heap_setCell_other _ (far g hg)), hg⟩, RowP.move hk fun g hg => ⟨(heap_setCell_other _ (far g hg)).trans (heap_setCell_other _ (far g hg)), hg⟩⟩⟩
theorem RowP.blk {w : World} {p : Nat → Prop} {e : TypeId} {size : Nat} {v : Value} {n : Nat} {xs : List Value} (h : RowP w p e size v n xs) :
    ∃ rb : Option Nat, RowP w (fun g => rb = some g) e size v n xs ∧ ∀ k, rb = some k → p k ∧ ∃ cur, w.heap[k]? = some (.cells cur e (0, 0)) := by
  rcases h.2 with h0 | ⟨g, cap, cur, h1, h2, h3, h4⟩
  · exact ⟨none, ⟨h.1, .inl h0⟩, fun k hk => by cases hk⟩
  · exact ⟨some g, ⟨h.1, .inr ⟨g, cap, cur, h1, rfl, h3, h4⟩⟩, fun k hk => by cases hk; exact ⟨h2, cur, h3⟩⟩
/-- what is known of a copy under way -/
def CopyAt (w : World) (tb' : Nat) (T : Tr) (k : Nat) (wr : World) : Prop :=
  Ext w wr ∧ ∃ own ptr, TreeAt wr own ptr tb' { T with nodes := T.nodes.take k } ∧ Owned own wr ∧ ∀ b, own b ≠ none → w.heap.size ≤ b
def newVal (M : Nat) : Option Nd → Value
  | some _ => .pointer (some ⟨M, 0, none⟩)
  | none => .pointer none
/-- one node more, or none -/
theorem copy_step {w wr W wA : World} {tb' : Nat} {T : Tr} {k : Nat} (hx : Ext w wr) {own : Ow} {ptr : Nat → Nat} (hT : TreeAt wr own ptr tb' { T with nodes := T.nodes.take k }) (hO : Owned own wr) (hf : ∀ b, own b ≠ none → w.heap.size ≤ b)
    {y : Option Nd} (hy : T.nodes[k]? = some y) (M : Nat) (hxW : Ext wr W) (hM : ∀ nd, y = some nd → wr.heap.size ≤ M ∧ NodeNew W M nd)
    {v : Value} {row : Option Nat} (hr : RowP wA (fun g => own g = some (1, 0) ∨ W.heap.size ≤ g) 110 1 v (k + 1) (nodeVals ptr (T.nodes.take k) ++ [newVal M y])) (hg : W.grownBy wA row) (hrow : ∀ b, row = some b → own b = some (1, 0)) :
    CopyAt w tb' T (k + 1) (wA.setCell ⟨tb', 3, none⟩ v) := by
  have hkl := (List.getElem?_eq_some_iff.1 hy).1
  have hlk : (T.nodes.take k).length = k := by rw [List.length_take]; omega
  obtain ⟨nv, b1, b2, b3⟩ := hT.head
  have hszW := hxW.size
  have hszA := hg.size
  have htl := hO tb' (by simp [b2])
  obtain ⟨rg, hrg, hrg2⟩ := RowP.blk hr
  -- the new node's rows
  obtain ⟨ra, rk, hN⟩ : ∃ ra rk : Option Nat, ∀ nd, y = some nd → (∀ b, ra = some b → M < b ∧ ∃ cur, W.heap[b]? = some (.cells cur 44 (0, 0))) ∧ (∀ b, rk = some b → M < b ∧ ∃ cur, W.heap[b]? = some (.cells cur 3 (0, 0))) ∧
      ∃ va vk, W.heap[M]? = some (.cells #[.int .i64 nd.tag, va, .string nd.text, vk, .int .i64 nd.parent] 115 (0, 0)) ∧ RowP W (fun g => ra = some g) 44 2 va nd.attrs.length (attrCells nd.attrs) ∧ RowP W (fun g => rk = some g) 3 1 vk nd.kids.length (nd.kids.map (Value.int .i64)) := by
    cases y with
    | none => exact ⟨none, none, fun nd h => by cases h⟩
    | some nd =>
      obtain ⟨_, va, vk, q1, q2, q3⟩ := hM nd rfl
      obtain ⟨ra, r1, r2⟩ := RowP.blk q2
      obtain ⟨rk, r3, r4⟩ := RowP.blk q3
      exact ⟨ra, rk, fun nd' h => by cases h; exact ⟨r2, r4, va, vk, q1, r1, r3⟩⟩
  let own1 : Ow := fun b => if b < wr.heap.size then own b else if y.isSome && decide (b = M) then some (2, k) else if y.isSome && decide (ra = some b) then some (3, k) else if y.isSome && decide (rk = some b) then some (4, k) else if rg = some b then some (1, 0) else none
  have e1 : ∀ b, b < wr.heap.size → own1 b = own b := fun b hb => if_pos hb
  have e2 : ∀ b x, own b = some x → own1 b = some x := fun b x hb => (e1 b (hO b (by simp [hb]))).trans hb
  have hrow' : ∀ b, row = some b → b < wr.heap.size := fun b hb => hO b (by simp [hrow b hb])
  have farW : ∀ b, wr.heap.size ≤ b → b < W.heap.size → (wA.setCell ⟨tb', 3, none⟩ v).heap[b]? = W.heap[b]? := fun b h1 h2 => by
    rw [heap_setCell_other _ (by show b ≠ tb'; omega)]
    exact hg.block b h2 (fun e => by have := hrow' b e.symm; omega)
  have old : ∀ b x, own b = some x → x ≠ (1, 0) → b ≠ tb' → (wA.setCell ⟨tb', 3, none⟩ v).heap[b]? = wr.heap[b]? := fun b x hb hx hn => by
    have hbl := hO b (by simp [hb])
    rw [heap_setCell_other _ hn, hg.block b (by omega) (fun e => by have := hrow b e.symm; rw [hb] at this; exact hx (Option.some.inj this))]
    exact Below.block hxW b hbl
  have hbt : wA.heap[tb']? = _ := ((hg.block tb' (by omega) (fun e => by have := hrow tb' e.symm; rw [b2] at this; cases this)).trans (Below.block hxW tb' htl)).trans b1
  have hrgW : ∀ b, rg = some b → wr.heap.size ≤ b → W.heap.size ≤ b := fun b hb hge => by
    rcases (hrg2 b hb).1 with h | h
    · have := hO b (by simp [h]); omega
    · exact h
  refine ⟨?_, own1, (fun j => if j = k then M else ptr j), ⟨?_, ?_⟩, ?_, ?_⟩
  · have h0 : Ext w W := hx.trans hxW
    refine (h0.grown hg (fun b hb => hf b (by rw [hrow b hb]; simp))).setCell (hf tb' (by rw [b2]; simp)) _
  · refine ⟨v, by rw [heap_setCell_same hbt]; rfl, e2 _ _ b2, ?_⟩
    show RowAt _ own1 _ 1 (1, 0) v (T.nodes.take (k + 1)).length (nodeVals _ (T.nodes.take (k + 1)))
    have hl1 : (T.nodes.take (k + 1)).length = k + 1 := by rw [List.length_take]; omega
    have hv : nodeVals (fun j => if j = k then M else ptr j) (T.nodes.take (k + 1)) = nodeVals ptr (T.nodes.take k) ++ [newVal M y] := by
      apply List.ext_getElem?
      intro j
      rw [List.getElem?_append]
      simp only [nodeVals, List.getElem?_mapIdx, List.length_mapIdx, hlk, List.getElem?_take]
      rcases Nat.lt_trichotomy j k with h | h | h
      · rw [if_pos h, if_pos (by omega), if_pos h]
        cases T.nodes[j]? with
        | none => rfl
        | some z => cases z <;> simp [nodeVal, Nat.ne_of_lt h]
      · subst h
        rw [if_pos (by omega), if_neg (by omega), hy, Nat.sub_self]
        cases y <;> simp [nodeVal, newVal]
      · rw [if_neg (by omega), if_neg (by omega), List.getElem?_eq_none (by simp; omega)]; rfl
    rw [hl1, hv]
    refine RowP.move hrg fun b hb => ⟨?_, ?_⟩
    · refine heap_setCell_other _ (fun (e : b = tb') => ?_)
      rcases (hrg2 b hb).1 with h | h
      · rw [e, b2] at h; cases h
      · omega
    · rcases (hrg2 b hb).1 with h | h
      · exact e2 _ _ h
      · show (if b < wr.heap.size then _ else _) = _
        rw [if_neg (by omega)]
        cases hyy : y with
        | none => simp [hb]
        | some nd =>
          obtain ⟨n1, n2, va, vk, n3, n4, n5⟩ := hN nd hyy
          have hMl : M < W.heap.size := (Array.getElem?_eq_some_iff.1 n3).1
          have h2 : ra ≠ some b := fun e => by obtain ⟨_, cur, hc⟩ := n1 b e; have := (Array.getElem?_eq_some_iff.1 hc).1; omega
          have h3 : rk ≠ some b := fun e => by obtain ⟨_, cur, hc⟩ := n2 b e; have := (Array.getElem?_eq_some_iff.1 hc).1; omega
          rw [if_neg (by simp; omega), if_neg (by simp [h2]), if_neg (by simp [h3]), if_pos hb]
  · intro j nd hj
    rw [List.getElem?_take] at hj
    split at hj
    · rename_i hjk
      rcases Nat.lt_or_ge j k with h | h
      · show NodeAt _ own1 j (if j = k then M else ptr j) nd
        rw [if_neg (by omega)]
        have hj' : (T.nodes.take k)[j]? = some (some nd) := by rw [List.getElem?_take, if_pos h]; exact hj
        refine (hT.nodeAt hj').move fun b x hb hx2 => ⟨old b _ hb (by simp; omega) (fun e => by rw [e, b2] at hb; simp at hb; omega), (e2 b _ hb).trans hb.symm⟩
      · obtain rfl : j = k := by omega
        rw [hy] at hj
        injection hj with hj
        subst hj
        show NodeAt _ own1 j (if j = j then M else ptr j) nd
        rw [if_pos rfl]
        obtain ⟨hM1, _⟩ := hM nd rfl
        obtain ⟨n1, n2, va, vk, n3, n4, n5⟩ := hN nd rfl
        have hMl : M < W.heap.size := (Array.getElem?_eq_some_iff.1 n3).1
        refine ⟨va, vk, (farW M hM1 hMl).trans n3, ?_, RowP.move n4 fun b hb => ?_, RowP.move n5 fun b hb => ?_⟩
        · show (if M < wr.heap.size then _ else _) = _
          rw [if_neg (by omega), if_pos (by simp)]
        · obtain ⟨q1, cur, q2⟩ := n1 b hb
          have hbl := (Array.getElem?_eq_some_iff.1 q2).1
          refine ⟨farW b (by omega) hbl, ?_⟩
          show (if b < wr.heap.size then _ else _) = _
          rw [if_neg (by omega), if_neg (by simp; omega), if_pos (by simp [hb])]
        · obtain ⟨q1, cur, q2⟩ := n2 b hb
          have hbl := (Array.getElem?_eq_some_iff.1 q2).1
          refine ⟨farW b (by omega) hbl, ?_⟩
          have hne : ra ≠ some b := fun e => by
            obtain ⟨_, cur', q3⟩ := n1 b e
            rw [q2] at q3; cases q3
          show (if b < wr.heap.size then _ else _) = _
          rw [if_neg (by omega), if_neg (by simp; omega), if_neg (by simp [hne]), if_pos (by simp [hb])]
    · cases hj
  · intro b hb
    have hb' : (if b < wr.heap.size then own b else if y.isSome && decide (b = M) then some (2, k) else if y.isSome && decide (ra = some b) then some (3, k) else if y.isSome && decide (rk = some b) then some (4, k) else if rg = some b then some (1, 0) else none) ≠ none := hb
    have hfin : ∀ c, c < wA.heap.size → c < (wA.setCell ⟨tb', 3, none⟩ v).heap.size := fun c hc => by simpa [World.setCell] using hc
    refine hfin b ?_
    cases hyy : y with
    | none =>
      rw [hyy] at hb'
      simp at hb'
      by_cases h : b < wr.heap.size
      · omega
      · rw [if_neg h] at hb'
        by_cases hr' : rg = some b
        · obtain ⟨_, cur, hc⟩ := hrg2 b hr'
          exact (Array.getElem?_eq_some_iff.1 hc).1
        · rw [if_neg hr'] at hb'; exact absurd rfl hb'
    | some nd =>
      obtain ⟨n1, n2, va, vk, n3, n4, n5⟩ := hN nd hyy
      have hMl : M < W.heap.size := (Array.getElem?_eq_some_iff.1 n3).1
      rw [hyy] at hb'
      simp at hb'
      by_cases h : b < wr.heap.size
      · omega
      · rw [if_neg h] at hb'
        by_cases h2 : b = M
        · omega
        · rw [if_neg h2] at hb'
          by_cases h3 : ra = some b
          · obtain ⟨_, cur, hc⟩ := n1 b h3
            have := (Array.getElem?_eq_some_iff.1 hc).1; omega
          · rw [if_neg h3] at hb'
            by_cases h4 : rk = some b
            · obtain ⟨_, cur, hc⟩ := n2 b h4
              have := (Array.getElem?_eq_some_iff.1 hc).1; omega
            · rw [if_neg h4] at hb'
              by_cases hr' : rg = some b
              · obtain ⟨_, cur, hc⟩ := hrg2 b hr'
                exact (Array.getElem?_eq_some_iff.1 hc).1
              · rw [if_neg hr'] at hb'; exact absurd rfl hb'
  · intro b hb
    by_cases h : b < wr.heap.size
    · rw [e1 b h] at hb; exact hf b hb
    · have := hx.size; omega
end Go.Proofs.Ytiglflmjidikpaa

namespace Go.Proofs.Ytiglflmjidikpaa
open Go Go.RowKit Go.BigFrame
set_option linter.unusedVariables false
set_option linter.unusedSimpArgs false

/-- a tree of its own is answered, that tells the same -/
def CopyIs (w : World) (T : Tr) (e : Ending) (w' : World) : Prop := ∃ tb own ptr, e = .returned (.pointer (some ⟨tb, 0, none⟩)) ∧ TreeAt w' own ptr tb T ∧ Owned own w' ∧ Ext w w' ∧ ∀ b, own b ≠ none → w.heap.size ≤ b
set_option maxRecDepth 100000 in
set_option maxHeartbeats 8000000 in
theorem Copy_any {w : World} {own : Ow} {ptr : Nat → Nat} {tb : Nat} {T : Tr} (hT : TreeAt w own ptr tb T) (hO : Owned own w) {d : Nat → Nat} (hw : WF T d) (hla : ∀ (i : Nat) (nd : Nd), T.nodes[i]? = some (some nd) → nd.attrs.length ≤ 60000) :
    Calls Try.prog 20 #[.pointer (some ⟨tb, 0, none⟩)] w (CopyIs w T) := by
  obtain ⟨nv, hb, hob, hrow⟩ := hT.head
  obtain ⟨an, capn, rfl, hcn, hcm⟩ := hrow.len
  have t0 := cellOf hb (i := 0) (v := .int .i64 T.cap) rfl
  have t1 := cellOf hb (i := 1) (v := .int .i64 T.deep) rfl
  have t2 := cellOf hb (i := 2) (v := .int .i64 T.count) rfl
  have t3 := cellOf hb (i := 3) (v := .slice an T.nodes.length capn) rfl
  have hlen := hw.small.len
  obtain ⟨i0, hi, hz0, hz1, hz2⟩ := info_parts infoP
  have Hi := Lib.hid hi
  have Hz0 := Lib.hid hz0
  have Hz1 := Lib.hid hz1
  have Hz2 := Lib.hid hz2
  have HB := Lib.hid hb
  have HT := Lib.hid hT
  have HO := Lib.hid hO
  have HW := Lib.hid hw
  have HLA := Lib.hid hla
  have HRW := Lib.hid hrow
  unfold maxLen at hcm
  clear hi hz0 hz1 hz2 hT hO hw hla hb hrow
  go_enter Try.func20, Try.ntmps20
  go_wp2_with fail
  go_region
  have hx0 : Ext w (w.alloc (.cells #[.int .i64 T.cap, .int .i64 T.deep, .int .i64 T.count, .slice none 0 0] 119)).drew := ((Ext.refl w).alloc _).drew
  have hs0 : CopyAt w w.heap.size T 0 (w.alloc (.cells #[.int .i64 T.cap, .int .i64 T.deep, .int .i64 T.count, .slice none 0 0] 119)).drew := by
    refine ⟨hx0, fun b => if b = w.heap.size then some (0, 0) else none, fun _ => 0, ⟨⟨.slice none 0 0, heap_alloc_new w _, if_pos rfl, ⟨rfl, .inl ⟨rfl, none, rfl⟩⟩⟩, fun i nd h => by simp at h⟩, fun b hb => ?_, fun b hb => ?_⟩
    · have hb' : (if b = w.heap.size then some ((0 : Nat), (0 : Nat)) else none) ≠ none := hb
      split at hb'
      · show b < (w.alloc _).heap.size; simp; omega
      · exact absurd rfl hb'
    · have hb' : (if b = w.heap.size then some ((0 : Nat), (0 : Nat)) else none) ≠ none := hb
      split at hb'
      · omega
      · exact absurd rfl hb'
  obtain ⟨w0, hw0⟩ : ∃ w0 : World, w0 = (w.alloc (.cells #[.int .i64 T.cap, .int .i64 T.deep, .int .i64 T.count, .slice none 0 0] 119)).drew := ⟨_, rfl⟩
  rw [← hw0] at hx0 hs0 ⊢
  have t3' := hx0.cell t3
  have HS0 := Lib.hid hs0
  clear hw0 hx0 hs0 t0 t1 t2 t3
  go_wp2_with fail
  go_loopw [5, 6, 28] (fun _ _ i wr => ∃ k : Nat, k ≤ T.nodes.length ∧ i = .int .i64 k ∧ CopyAt w w.heap.size T k wr) (fun _ _ i _ => T.nodes.length - (intOf i).toNat)
  case atStart => exact ⟨0, Nat.zero_le _, rfl, HS0.out⟩
  case round =>
    obtain ⟨k, hk, rfl, xr, own2, ptr2, hT2, hO2, hf2⟩ := hrel
    have HT2 := Lib.hid hT2
    have HO2 := Lib.hid hO2
    have HF2 := Lib.hid hf2
    have HXR := Lib.hid xr
    have hlk : (T.nodes.take k).length = k := by rw [List.length_take]; omega
    obtain ⟨nv2, hb2, ho2, hrow2⟩ := hT2.head
    obtain ⟨an2, capn2, e2, hcn2, hcm2⟩ := hrow2.len
    subst e2
    have u3 := cellOf hb2 (i := 3) (v := .slice an2 (T.nodes.take k).length capn2) rfl
    have fu3 := freeOf hb2 3
    have lt2 := cell_lt u3
    rw [hlk] at u3
    have hrow3 : RowP wr (fun g => own2 g = some (1, 0)) 110 1 (.slice an2 k capn2) k (nodeVals ptr2 (T.nodes.take k)) := by
      have h := hrow2
      rw [show ({ T with nodes := T.nodes.take k } : Tr).nodes.length = k from hlk] at h
      exact h
    have HRW2 := Lib.hid hrow3
    have HB2 := Lib.hid hb2
    have HOT2 := Lib.hid ho2
    have HLK := Lib.hid hlk
    unfold maxLen at hcm2
    clear hT2 hO2 hf2 hrow2 hrow3 hb2 ho2 hlk
    by_cases hlt : k < T.nodes.length
    · obtain ⟨y, hy⟩ : ∃ y, T.nodes[k]? = some y := ⟨T.nodes[k], by simp [hlt]⟩
      obtain ⟨g, gcap, e, hc⟩ := HRW.out.cell (i := k) (x := nodeVal ptr k y) (by simp [nodeVals, List.getElem?_mapIdx, hy])
      cases e
      have hcr := HXR.out.cell hc
      have HY := Lib.hid hy
      clear hc hy xr
      cases y with
      | none =>
        simp only [nodeVal] at hcr
        go_wp2_with (at_builtin; refine wpList_append_row rfl _ _ 117 rfl 110 i0 (.pointer none) 1 8 Try.underlying117 Hi.out Hz0.out Hz1.out Hz2.out rfl (by decide) (fun b => own2 b = some (1, 0)) (.slice an2 k capn2) k (nodeVals ptr2 (T.nodes.take k)) rfl (RowP.ext HRW2.out ((Ext.refl _).alloc _)) ⟨wr.heap.size, 0, none⟩ 1 1 [.pointer none] rfl rfl ?_ ?_ (by decide) ?_ ?_ ?_)
        all_goals first
          | exact cell_one_new _ _ _
          | (simp [Value.oneCell']; done)
          | (unfold maxLen; omega)
          | omega
          | skip
        intro v' wA row hrA hgA hrowA
        have hrowl : ∀ b, row = some b → b ≠ w.heap.size := fun b hb e => by have := hrowA b hb; rw [e, HOT2.out] at this; cases this
        have bA := ((hgA.block w.heap.size (by simp; omega) (fun e => hrowl _ e.symm rfl)).trans (Below.heap_alloc _ _ _ lt2)).trans HB2.out
        have uA := cellOf bA (i := 3) (v := .slice an2 (T.nodes.take k).length capn2) rfl
        have fA := freeOf bA 3
        obtain ⟨a7, cap7, e7, _⟩ := hrA.rd.len_of
        subst e7
        have HFIN := Lib.hid (copy_step HXR.out HT2.out HO2.out HF2.out HY.out 0 ((Ext.refl _).alloc _) (fun nd h => by cases h) (by simp only [World.size_alloc]; exact hrA) hgA hrowA)
        clear hrA hgA hrowA hrowl bA
        go_wp2_with fail
        go_roundw
        case rel => exact ⟨k + 1, by omega, by go_num, HFIN.out⟩
        case measure => simp [intOf]; omega
      | some nd =>
        simp only [nodeVal] at hcr
        obtain ⟨av, kv, bn, on, har, hkr⟩ := HT.out.node k nd HY.out
        obtain ⟨aa, acap, ea, _⟩ := har.len
        obtain ⟨ka, kcap, ek, _⟩ := hkr.len
        subst ea ek
        have hla := HLA.out k nd HY.out
        have hlk := HW.out.kids_len HY.out
        have bnr := Below.block HXR.out _ (HO.out (ptr k) (by simp [on])) |>.trans bn
        have n0 := cellOf bnr (i := 0) (v := .int .i64 nd.tag) rfl
        have n1 := cellOf bnr (i := 1) (v := .slice aa nd.attrs.length acap) rfl
        have n2 := cellOf bnr (i := 2) (v := .string nd.text) rfl
        have n3 := cellOf bnr (i := 3) (v := .slice ka nd.kids.length kcap) rfl
        have n4 := cellOf bnr (i := 4) (v := .int .i64 nd.parent) rfl
        have HAR := Lib.hid har.rd
        have HKR := Lib.hid hkr.rd
        clear bn on har hkr bnr
        go_upto_region 9 with fail
        go_cut [] (fun wx => Ext wr wx ∧ NodeNew wx wr.heap.size nd)
        case first =>
          have bM := heap_alloc_new wr (.cells #[.int .i64 nd.tag, .slice aa nd.attrs.length acap, .string nd.text, .slice ka nd.kids.length kcap, .int .i64 nd.parent] 115)
          have xm := (Ext.refl wr).alloc (.cells #[.int .i64 nd.tag, .slice aa nd.attrs.length acap, .string nd.text, .slice ka nd.kids.length kcap, .int .i64 nd.parent] 115)
          have szm : wr.heap.size < (wr.alloc (.cells #[.int .i64 nd.tag, .slice aa nd.attrs.length acap, .string nd.text, .slice ka nd.kids.length kcap, .int .i64 nd.parent] 115)).heap.size := by simp
          obtain ⟨wm, hwm⟩ : ∃ wm : World, wm = wr.alloc (.cells #[.int .i64 nd.tag, .slice aa nd.attrs.length acap, .string nd.text, .slice ka nd.kids.length kcap, .int .i64 nd.parent] 115) := ⟨_, rfl⟩
          rw [← hwm] at bM xm szm ⊢
          have m1 := xm.cell n1
          have m3 := xm.cell n3
          have nk : wr.heap.size ≠ ptr k := Ne.symm (Nat.ne_of_lt (cell_lt n1))
          have nk' := Ne.symm nk
          have BM := Lib.hid bM
          have XM := Lib.hid xm
          have XWM := Lib.hid (HXR.out.trans xm)
          have SZM := Lib.hid szm
          clear hwm bM xm szm n0 n1 n2 n3 n4
          go_region_held3 (fun w' => w'.cell? ⟨ptr k, 1, none⟩ = some (.slice aa nd.attrs.length acap) ∧ w'.cell? ⟨ptr k, 3, none⟩ = some (.slice ka nd.kids.length kcap))
            (first | exact ⟨m1, m3⟩ | exact hkeep | go_keep)
            (first
            | (go_at_call 81; refine (cloneA_any (RowRd.ext HAR.out (XWM.out.trans (by first | exact hyI | exact (Ext.refl wm).drew))) hla (attrCells_one _)).mono ?_; rintro e w5 ⟨va, rfl, hra, hxA⟩; have hyA : Ext wm w5 := Ext.trans (by first | exact hyI | exact (Ext.refl wm).drew) hxA; obtain ⟨a8, cap8, e8, _⟩ := RowP.len_of' hra; subst e8; replace hra := RowP.imp hra (q := fun g => wr.heap.size < g) (fun g _ hg => Nat.lt_of_lt_of_le SZM.out (Nat.le_trans (Ext.size (by first | exact hyI | exact (Ext.refl wm).drew)) hg)); have HRA := Lib.hid hra; clear hra; (try replace HRK := Lib.hid (RowP.ext HRK.out hxA)); have hkeep := And.intro (hyA.cell m1) (hyA.cell m3); have BA := Lib.hid (hyA.block BM.out); have q1 := cellOf BA.out (i := 1) (v := .slice aa nd.attrs.length acap) rfl; have q3 := cellOf BA.out (i := 3) (v := .slice ka nd.kids.length kcap) rfl; have r1 := freeOf BA.out 1; have r3 := freeOf BA.out 3; clear hxA)
            | (go_at_call 82; refine (cloneI_any (RowRd.ext HKR.out (XWM.out.trans (by first | exact hyA | exact (Ext.refl wm).drew))) (by omega) (ints_one _)).mono ?_; rintro e w6 ⟨vk, rfl, hrk, hxI⟩; have hyI : Ext wm w6 := Ext.trans (by first | exact hyA | exact (Ext.refl wm).drew) hxI; obtain ⟨a9, cap9, e9, _⟩ := RowP.len_of' hrk; subst e9; replace hrk := RowP.imp hrk (q := fun g => wr.heap.size < g) (fun g _ hg => Nat.lt_of_lt_of_le SZM.out (Nat.le_trans (Ext.size (by first | exact hyA | exact (Ext.refl wm).drew)) hg)); have HRK := Lib.hid hrk; clear hrk; (try replace HRA := Lib.hid (RowP.ext HRA.out hxI)); have hkeep := And.intro (hyI.cell m1) (hyI.cell m3); have BA := Lib.hid (hyI.block BM.out); have q1 := cellOf BA.out (i := 1) (v := .slice aa nd.attrs.length acap) rfl; have q3 := cellOf BA.out (i := 3) (v := .slice ka nd.kids.length kcap) rfl; have r1 := freeOf BA.out 1; have r3 := freeOf BA.out 3; clear hxI))
          all_goals go_wp2_with fail
          all_goals go_meet
          all_goals first
            | exact ⟨((XM.out.trans hyI).setCell (Nat.le_refl _) _).setCell (Nat.le_refl _) _, (NodeNew.of BA.out HRA.out HRK.out).1⟩
            | exact ⟨((XM.out.trans hyA).setCell (Nat.le_refl _) _).setCell (Nat.le_refl _) _, (NodeNew.of BA.out HRA.out HRK.out).1⟩
            | exact ⟨((XM.out.trans hyI).setCell (Nat.le_refl _) _).setCell (Nat.le_refl _) _, (NodeNew.of BA.out HRA.out HRK.out).2⟩
            | exact ⟨((XM.out.trans hyA).setCell (Nat.le_refl _) _).setCell (Nat.le_refl _) _, (NodeNew.of BA.out HRA.out HRK.out).2⟩
        case rest =>
          obtain ⟨hwx, hnew⟩ := hcut
          have u3w := hwx.cell u3
          go_wp2_with (at_builtin; refine wpList_append_row rfl _ _ 117 rfl 110 i0 (.pointer none) 1 8 Try.underlying117 Hi.out Hz0.out Hz1.out Hz2.out rfl (by decide) (fun b => own2 b = some (1, 0)) (.slice an2 k capn2) k (nodeVals ptr2 (T.nodes.take k)) rfl (RowP.ext HRW2.out (hwx.alloc _)) ⟨wc.heap.size, 0, none⟩ 1 1 [.pointer (some ⟨wr.heap.size, 0, none⟩)] rfl rfl ?_ ?_ (by decide) ?_ ?_ ?_)
          all_goals first
            | exact cell_one_new _ _ _
            | (simp [Value.oneCell']; done)
            | (unfold maxLen; omega)
            | omega
            | skip
          intro v' wA row hrA hgA hrowA
          have hrowl : ∀ b, row = some b → b ≠ w.heap.size := fun b hb e => by have := hrowA b hb; rw [e, HOT2.out] at this; cases this
          have bA := ((hgA.block w.heap.size (by have := hwx.size; simp; omega) (fun e => hrowl _ e.symm rfl)).trans (Below.block (hwx.alloc _) _ lt2)).trans HB2.out
          have uA := cellOf bA (i := 3) (v := .slice an2 (T.nodes.take k).length capn2) rfl
          have fA := freeOf bA 3
          obtain ⟨a7, cap7, e7, _⟩ := hrA.rd.len_of
          subst e7
          have HFIN := Lib.hid (copy_step HXR.out HT2.out HO2.out HF2.out HY.out wr.heap.size (hwx.alloc _) (fun nd' h => by cases h; exact ⟨Nat.le_refl _, hnew.ext ((Ext.refl _).alloc _)⟩) (by simp only [World.size_alloc]; exact hrA) hgA hrowA)
          clear hrA hgA hrowA hrowl bA
          go_wp2_with fail
          go_roundw
          case rel => exact ⟨k + 1, by omega, by go_num, HFIN.out⟩
          case measure => simp [intOf]; omega
    · go_wp2_with fail
      go_ret
      obtain ⟨hTl, hkk⟩ : T.nodes.take k = T.nodes ∧ True := ⟨List.take_of_length_le (by omega), trivial⟩
      have h := HT2.out
      rw [hTl] at h
      exact ⟨_, own2, ptr2, rfl, h, HO2.out, HXR.out, HF2.out⟩
end Go.Proofs.Ytiglflmjidikpaa
