/- The chapter's examples of order (awake), and a tree behind calls. No conditions. -/
import Derived.Test.YtiglflmjidikpaaOrdE
import Derived.Test.YtiglflmjidikpaaGraftP
import Derived.Test.YtiglflmjidikpaaDomSound
namespace Go.Proofs.Ytiglflmjidikpaa
open Go Go.RowKit Go.BigFrame
set_option linter.unusedVariables false
set_option linter.unusedSimpArgs false

theorem sit_graft_ok {w0 w : World} {tb : Nat} {T : Tr} {g : World} (h : Sit w0 w tb T g) {d : Nat → Nat} (hw : WF T d) {p a : Nat} {pd : Nd} (hp : T.nodes[p]? = some (some pd)) (ht : (pd.tag == 0) = false) (ha : a ≤ pd.kids.length)
    {n : PN} {nv : Value} (hr : RdN g n nv) (hsh : n.short = true) (hsz : n.size ≤ 90000) (hok : n.ok = true) (hdp : (d p : Int) + 1 + n.high ≤ T.deep) (hf : (n.size : Int) ≤ T.cap - T.count) {i : Int} (hi : T.newId = i) {T1 : Tr} (hT1 : T.grafted p a pd n = T1) {pz az : Int} (hpz : (p : Int) = pz) (haz : (a : Int) = az) :
    Calls Try.prog 31 #[.pointer (some ⟨tb, 0, none⟩), .int .i64 pz, .int .i64 az, nv] w (fun e w' => e = .returned (.tuple #[.int .i64 i, .int .i64 0]) ∧ Sit w0 w' tb T1 g) := by
  subst hpz haz
  obtain ⟨own, ptr, hT, hO, hx, hfr, hap⟩ := h.out
  exact (Graft_ok hT hO hw hp ht ha hr hap hsh hsz hok hdp hf).mono fun e w' hh => ⟨hi ▸ hh.1, hT1 ▸ Sit.after (T := T) hx hfr hap hh.2⟩
def strXY : ByteArray := ⟨#[120, 121]⟩
def exN1 : PN := .mk 2 [] ByteArray.empty [.mk 10 [] ByteArray.empty [.mk 0 [] strXY []]]
def exN2 : PN := .mk 2 [] ByteArray.empty []
abbrev hostNd : Nd := ⟨1, [], ByteArray.empty, [], -1⟩
def ex1 : Tr := ⟨10, 5, 4, [some ⟨1, [], ByteArray.empty, [1], -1⟩, some ⟨2, [], ByteArray.empty, [2], 0⟩, some ⟨10, [], ByteArray.empty, [3], 1⟩, some ⟨0, [], anewB strXY, [], 2⟩]⟩
def ex2 : Tr := ⟨10, 5, 5, [some ⟨1, [], ByteArray.empty, [1, 4], -1⟩, some ⟨2, [], ByteArray.empty, [2], 0⟩, some ⟨10, [], ByteArray.empty, [3], 1⟩, some ⟨0, [], anewB strXY, [], 2⟩, some ⟨2, [], ByteArray.empty, [], 0⟩]⟩
theorem ex1_eq : (hostOf 10 5).grafted 0 0 hostNd exN1 = ex1 := rfl
theorem ex2_eq : ex1.grafted 0 1 ⟨1, [], ByteArray.empty, [1], -1⟩ exN2 = ex2 := rfl
theorem exXY : (anewB strXY).size ≤ 8192 := Nat.le_trans (anewB_size strXY) (by decide)
theorem exN1_ok : exN1.ok = true := by
  have h0 : (anewB ByteArray.empty).size ≤ 8192 := Nat.le_trans (anewB_size _) (by decide)
  simp only [exN1, PN.ok, PN.oks, PN.bad, PN.tag, PN.attrs, PN.kids, PN.text]
  simp [exXY, h0]
theorem exN2_ok : exN2.ok = true := by
  have h0 : (anewB ByteArray.empty).size ≤ 8192 := Nat.le_trans (anewB_size _) (by decide)
  simp only [exN2, PN.ok, PN.oks, PN.bad, PN.tag, PN.attrs, PN.kids, PN.text]
  simp [h0]
theorem ex1_d {d : Nat → Nat} (hw : WF ex1 d) : d 0 = 0 := by
  rcases hw.up 0 _ rfl with h | ⟨p, pd, h1, _⟩
  · exact h.2
  · have h2 : (-1 : Int) = (p : Int) := h1; omega
theorem ex1_wf : (∃ d, WF ex1 d) ∧ AttrsOk ex1 := by
  have hh : AttrsOk (hostOf 10 5) := fun i nd hi => by
    cases i with
    | zero => cases hi; simp [NdOk]
    | succ i => cases hi
  obtain ⟨T1, T2, T3, d1, d2, d3, i, nd, pd1, kd, h1, h2, h3⟩ := (hostOf_wf 10 5 (by omega) (by omega) (by omega) (by omega)).graft hh (p := 0) (a := 0) (pd := hostNd) rfl (by decide) (Nat.zero_le _) (n := exN1) (by decide) exN1_ok (by decide) (by decide)
  rw [ex1_eq] at h2
  subst h2
  exact ⟨⟨d1, h3.wf1⟩, h3.ok1⟩
theorem ex2_wf : (∃ d, WF ex2 d) ∧ AttrsOk ex2 := by
  obtain ⟨⟨d, hw⟩, hA⟩ := ex1_wf
  obtain ⟨T1, T2, T3, d1, d2, d3, i, nd, pd1, kd, h1, h2, h3⟩ := hw.graft hA (p := 0) (a := 1) (pd := ⟨1, [], ByteArray.empty, [1], -1⟩) rfl (by decide) (by decide) (n := exN2) (by decide) exN2_ok (by rw [ex1_d hw]; decide) (by decide)
  rw [ex2_eq] at h2
  subst h2
  exact ⟨⟨d1, h3.wf1⟩, h3.ok1⟩
theorem ex_len : ex2.lengthOf 3 = 2 := by kernel_rfl
theorem ex_cmp1 : ex2.cmp 3 1 1 1 = -1 := by kernel_rfl
theorem ex_ok1 : ex2.cmpOk 3 1 1 1 = true := by kernel_rfl
theorem ex_cmp2 : ex2.cmp 0 1 3 2 = 1 := by kernel_rfl
theorem ex_ok2 : ex2.cmpOk 0 1 3 2 = true := by kernel_rfl
theorem ex_find : ex2.find 0 [0, 0, 0] = some 3 := by kernel_rfl
theorem ex_next3 : ex2.next 3 = 4 := by kernel_rfl
theorem ex_next4 : ex2.next 4 = -1 := by kernel_rfl
theorem ex_prev4 : ex2.prev 4 = 3 := by kernel_rfl
theorem ex_behind1 : ex2.behind 1 = 4 := by kernel_rfl
def ExIs (w : World) (e : Ending) (w' : World) : Prop := ∃ tb, e = .returned (.pointer (some ⟨tb, 0, none⟩)) ∧ TAt w' tb ex2 ∧ Ext w w'
theorem RdN.bare (g : World) (t : Int) (s : ByteArray) : RdN g (.mk t [] s []) (.agg #[.int .i64 t, .slice none 0 0, .string s, .slice none 0 0]) :=
  RdN.mk' (n := .mk t [] s []) (emptyRow g) ⟨none, 0, rfl, Nat.le_refl _, Nat.zero_le _, fun _ => ⟨rfl, rfl⟩, fun a h => by cases h⟩
theorem RdN.one {g : World} {b : Nat} {t : Int} {s : ByteArray} {k : PN} {c0 c1 c2 c3 : Value} (hb : Box4 g b c0 c1 c2 c3) (hk : RdN g k (.agg #[c0, c1, c2, c3])) :
    RdN g (.mk t [] s [k]) (.agg #[.int .i64 t, .slice none 0 0, .string s, .slice (some ⟨b, 0, none⟩) 1 1]) := by
  refine RdN.mk' (n := .mk t [] s [k]) (emptyRow g) ⟨some ⟨b, 0, none⟩, 1, rfl, Nat.le_refl _, by decide, (fun h => by cases h), fun a ha j x hx => ?_⟩
  cases ha
  have hx' : [k][j]? = some x := hx
  cases j with
  | zero =>
    simp at hx'
    subst hx'
    exact ⟨c0, c1, c2, c3, hb.1, hb.2.1, hb.2.2.1, hb.2.2.2, hk⟩
  | succ j => simp at hx'
set_option maxRecDepth 100000 in
set_option maxHeartbeats 4000000 in
theorem example_any (w : World) : Calls Try.prog 112 #[] w (ExIs w) := by
  obtain ⟨d1, hw1⟩ := ex1_wf.1
  have hd1 := ex1_d hw1
  go_enter Try.func112, Try.ntmps112
  go_wp2_with fail
  refine (New_ok 10 5 (by omega) (by omega) (by omega) (by omega) w).mono ?_
  rintro e w1 ⟨tb, own, ptr, rfl, hT, hO, hx1, hf⟩
  have hs1 : Sit w w1 tb (hostOf 10 5) w := ⟨own, ptr, hT, hO, hx1, hf, apart_of hx1 hf⟩
  have HS1 := Lib.hid hs1
  have HW1 := Lib.hid hw1
  have HD1 := Lib.hid hd1
  clear hT hO hx1 hf hs1 hw1 hd1
  have bM := ((Ext.refl (w1.alloc (.cells #[.int .i64 0, .slice none 0 0, .string strXY, .slice none 0 0] 30))).alloc (.cells #[.int .i64 10, .slice none 0 0, .string ⟨#[]⟩, .slice (some ⟨w1.heap.size, 0, none⟩) 1 1] 30)).block (heap_alloc_new w1 (.cells #[.int .i64 0, .slice none 0 0, .string strXY, .slice none 0 0] 30))
  have bN := heap_alloc_new (w1.alloc (.cells #[.int .i64 0, .slice none 0 0, .string strXY, .slice none 0 0] 30)) (.cells #[.int .i64 10, .slice none 0 0, .string ⟨#[]⟩, .slice (some ⟨w1.heap.size, 0, none⟩) 1 1] 30)
  rw [show (w1.alloc (.cells #[.int .i64 0, .slice none 0 0, .string strXY, .slice none 0 0] 30)).heap.size = w1.heap.size + 1 by simp] at bN
  obtain ⟨g2, hs2, hc2, hn2⟩ := HS1.out.grow (((Ext.refl w1).alloc (.cells #[.int .i64 0, .slice none 0 0, .string strXY, .slice none 0 0] 30)).alloc (.cells #[.int .i64 10, .slice none 0 0, .string ⟨#[]⟩, .slice (some ⟨w1.heap.size, 0, none⟩) 1 1] 30))
  have hr1 : RdN g2 exN1 (.agg #[.int .i64 2, .slice none 0 0, .string ⟨#[]⟩, .slice (some ⟨w1.heap.size + 1, 0, none⟩) 1 1]) :=
    RdN.one (Box4.of bN (Nat.le_succ _) hn2) (RdN.one (Box4.of bM (Nat.le_refl _) hn2) (RdN.bare g2 0 strXY))
  have HR1 := Lib.hid hr1
  have HS2 := Lib.hid hs2
  clear bM bN hs2 hc2 hn2 hr1
  go_wp2_with fail
  refine (sit_graft_ok HS2.out (d := fun _ => 0) (hostOf_wf 10 5 (by omega) (by omega) (by omega) (by omega)) (p := 0) (a := 0) (pd := hostNd) rfl (by decide) (Nat.zero_le _) HR1.out (by decide) (by decide) exN1_ok (by decide) (by decide) (i := 1) rfl ex1_eq rfl rfl).mono ?_
  rintro e w3 ⟨rfl, hs3⟩
  have HS3 := Lib.hid hs3
  clear hs3
  go_wp2_with fail
  refine (sit_graft_ok HS3.out HW1.out (p := 0) (a := 1) (pd := ⟨1, [], ByteArray.empty, [1], -1⟩) rfl (by decide) (by decide) (RdN.bare _ 2 ByteArray.empty) (by decide) (by decide) exN2_ok (by rw [HD1.out]; decide) (by decide) (i := 4) rfl ex2_eq rfl rfl).mono ?_
  rintro e w4 ⟨rfl, hs4⟩
  have HS4 := Lib.hid hs4
  clear hs4
  go_wp2_with fail
  go_ret
  exact ⟨tb, rfl, HS4.out.tat, HS4.out.before⟩
theorem Int.small {i : Int} (h : -1000 ≤ i) (k : i ≤ 1000) : -9223372036854775808 ≤ i ∧ i ≤ 9223372036854775807 := by omega
set_option maxRecDepth 100000 in
set_option maxHeartbeats 4000000 in
theorem awake9_any (w : World) : Calls Try.prog 51 #[] w (RVal (.bool true) w) := by
  obtain ⟨⟨d, hw⟩, hA⟩ := ex2_wf
  have cmp1 : ∀ {u : World} {tb : Nat}, TAt u tb ex2 → Calls Try.prog 52 #[.pointer (some ⟨tb, 0, none⟩), .agg #[.int .i64 3, .int .i64 1], .agg #[.int .i64 1, .int .i64 1]] u (RTwo (.int .i64 (-1)) (.bool true) u) := fun h => by
    have := Cmp_any h hw hA 3 1 1 1; rw [ex_cmp1, ex_ok1] at this; exact this
  have cmp2 : ∀ {u : World} {tb : Nat}, TAt u tb ex2 → Calls Try.prog 52 #[.pointer (some ⟨tb, 0, none⟩), .agg #[.int .i64 0, .int .i64 1], .agg #[.int .i64 3, .int .i64 2]] u (RTwo (.int .i64 1) (.bool true) u) := fun h => by
    have := Cmp_any h hw hA 0 1 3 2; rw [ex_cmp2, ex_ok2] at this; exact this
  have fnd : ∀ {u : World} {tb : Nat} {v : Value}, TAt u tb ex2 → RowRd u 1 v 3 [.int .i64 0, .int .i64 0, .int .i64 0] → Calls Try.prog 53 #[.pointer (some ⟨tb, 0, none⟩), .int .i64 0, v] u (RTwo (.int .i64 3) (.bool true) u) := fun h hr => by
    have := Find_any h hw 0 (p := [0, 0, 0]) hr (by decide) (fun i hi => by simp at hi; subst hi; omega); rw [ex_find] at this; exact this
  have nx3 : ∀ {u : World} {tb : Nat}, TAt u tb ex2 → Calls Try.prog 56 #[.pointer (some ⟨tb, 0, none⟩), .int .i64 3] u (RVal (.int .i64 4) u) := fun h => by
    have := Next_any h hw 3; rw [ex_next3] at this; exact this
  have nx4 : ∀ {u : World} {tb : Nat}, TAt u tb ex2 → Calls Try.prog 56 #[.pointer (some ⟨tb, 0, none⟩), .int .i64 4] u (RVal (.int .i64 (-1)) u) := fun h => by
    have := Next_any h hw 4; rw [ex_next4] at this; exact this
  have pv4 : ∀ {u : World} {tb : Nat}, TAt u tb ex2 → Calls Try.prog 57 #[.pointer (some ⟨tb, 0, none⟩), .int .i64 4] u (RVal (.int .i64 3) u) := fun h => by
    have := Prev_any h hw 4; rw [ex_prev4] at this; exact this
  have bh1 : ∀ {u : World} {tb : Nat}, TAt u tb ex2 → Calls Try.prog 58 #[.pointer (some ⟨tb, 0, none⟩), .int .i64 1] u (RVal (.int .i64 4) u) := fun h => by
    have := Behind_any h hw 1; rw [ex_behind1] at this; exact this
  have cnt : ∀ {u : World} {tb : Nat}, TAt u tb ex2 → Calls Try.prog 19 #[.pointer (some ⟨tb, 0, none⟩)] u (RVal (.int .i64 5) u) := fun h => by
    obtain ⟨own, ptr, hT, hO⟩ := h.out
    exact RSame.val (Count_any hT)
  go_enter Try.func51, Try.ntmps51
  go_wp2_with fail
  refine (example_any w).mono ?_
  rintro e w1 ⟨tb, rfl, hT, hx1⟩
  go_wp2_with fail
  refine (cnt hT).mono ?_
  rintro e w2 ⟨rfl, hx2⟩
  replace hT := hT.ext hx2
  replace hx1 := hx1.trans hx2
  clear hx2
  go_wp2_with fail
  refine (cmp1 hT).mono ?_
  rintro e w2 ⟨rfl, hx2⟩
  replace hT := hT.ext hx2
  replace hx1 := hx1.trans hx2
  clear hx2
  go_wp2_with fail
  refine (cmp2 hT).mono ?_
  rintro e w3 ⟨rfl, hx2⟩
  replace hT := hT.ext hx2
  replace hx1 := hx1.trans hx2
  clear hx2
  have x4 := (Ext.refl w3).alloc (.cells #[.int .i64 0, .int .i64 0, .int .i64 0] 3)
  have b4 := heap_alloc_new w3 (.cells #[.int .i64 0, .int .i64 0, .int .i64 0] 3)
  have hr4 : RowRd (w3.alloc (.cells #[.int .i64 0, .int .i64 0, .int .i64 0] 3)) 1 (.slice (some ⟨w3.heap.size, 0, none⟩) 3 3) 3 [.int .i64 0, .int .i64 0, .int .i64 0] :=
    ⟨rfl, _, 3, rfl, Nat.le_refl _, (fun h => by cases h), fun a ha j x hj => by
      cases ha
      rw [Addr.add_lit, Nat.zero_add]
      exact cellOf b4 (by simpa using hj)⟩
  replace hT := hT.ext x4
  replace hx1 := hx1.trans x4
  have HR4 := Lib.hid hr4
  clear x4 b4 hr4
  go_wp2_with fail
  refine (fnd hT HR4.out).mono ?_
  rintro e w5 ⟨rfl, hx2⟩
  replace hT := hT.ext hx2
  replace hx1 := hx1.trans hx2
  clear hx2
  go_wp2_with fail
  refine (nx3 hT).mono ?_
  rintro e w6 ⟨rfl, hx2⟩
  replace hT := hT.ext hx2
  replace hx1 := hx1.trans hx2
  clear hx2
  go_wp2_with fail
  refine (pv4 hT).mono ?_
  rintro e w7 ⟨rfl, hx2⟩
  replace hT := hT.ext hx2
  replace hx1 := hx1.trans hx2
  clear hx2
  go_wp2_with fail
  refine (bh1 hT).mono ?_
  rintro e w8 ⟨rfl, hx2⟩
  replace hT := hT.ext hx2
  replace hx1 := hx1.trans hx2
  clear hx2
  go_wp2_with fail
  refine (nx4 hT).mono ?_
  rintro e w9 ⟨rfl, hx2⟩
  replace hT := hT.ext hx2
  replace hx1 := hx1.trans hx2
  clear hx2
  go_wp2_with fail
  go_ret
  exact ⟨rfl, hx1⟩
/-- a tree behind calls, or none -/
theorem tree_any {w : World} {l : List Cl} {v : Value} (cap deep : Int) (hl : CallsRd w l v) : Calls Try.prog 65 #[.int .i64 cap, .int .i64 deep, v] w (PlayedIs w) := by
  have HL := Lib.hid hl
  obtain ⟨ao, vcap, rfl, _⟩ := hl
  go_enter Try.func65, Try.ntmps65
  go_wp2_with fail
  refine (Heavy_any HL.out).mono ?_
  rintro e w1 ⟨b, rfl, hx1, hb⟩
  cases b with
  | true =>
    go_wp2_with fail
    go_ret
    exact .inl ⟨rfl, hx1⟩
  | false =>
    have HG := Lib.hid (hb rfl)
    clear hb
    go_wp2_with fail
    refine (Played_any cap deep (HL.out.ext hx1) HG.out).mono ?_
    rintro e w2 (⟨rfl, hx2⟩ | ⟨tb, rfl, ht⟩)
    · go_wp2_with fail
      go_ret
      exact .inl ⟨rfl, hx1.trans hx2⟩
    · have HT := Lib.hid ht
      clear ht
      go_wp2_with fail
      go_ret
      refine .inr ⟨tb, rfl, ?_⟩
      obtain ⟨own, ptr, T, h1, h2, h3, h4, h5⟩ := HT.out
      exact ⟨own, ptr, T, h1, h2, h3, hx1.trans h4, fun b hb => Nat.le_trans hx1.size (h5 b hb)⟩
end Go.Proofs.Ytiglflmjidikpaa
