/- Package order: the contracts of Find and Cmp. No conditions beside a tree's own. -/
import Derived.Test.YtiglflmjidikpaaOrdD
namespace Go.Proofs.Ytiglflmjidikpaa
open Go Go.RowKit Go.BigFrame
set_option linter.unusedVariables false
set_option linter.unusedSimpArgs false

def Tr.find (T : Tr) (r : Int) (p : List Int) : Option Int := match T.get? r with | none => none | some _ => T.walk r p
theorem Tr.walk_cons {T : Tr} {p : List Int} {k : Nat} {i : Int} (h : p[k]? = some i) (x : Int) : T.walk x (p.drop k) = if i < 0 then none else match (T.kidsOf x)[i.toNat]? with | none => none | some y => T.walk y (p.drop (k + 1)) := by
  obtain ⟨hl, he⟩ := List.getElem?_eq_some_iff.1 h
  rw [List.drop_eq_getElem_cons hl, he]; rfl
set_option maxRecDepth 100000 in
set_option maxHeartbeats 2000000 in
theorem Find_any {w : World} {tb : Nat} {T : Tr} (hT : TAt w tb T) {d : Nat → Nat} (hw : WF T d) (r : Int) {v : Value} {p : List Int} (hp : RowRd w 1 v p.length (p.map (Value.int .i64))) (hl : p.length ≤ 60000) (hin : ∀ i ∈ p, -9223372036854775808 ≤ i ∧ i ≤ 9223372036854775807) :
    Calls Try.prog 53 #[.pointer (some ⟨tb, 0, none⟩), .int .i64 r, v] w (RTwo (.int .i64 ((T.find r p).getD 0)) (.bool (T.find r p).isSome) w) := by
  obtain ⟨_, ao, cap, rfl, hc, hn, hr⟩ := hp
  have HN := Lib.hid hn
  have HR := Lib.hid hr
  have HIN := Lib.hid hin
  clear hn hr hin
  cases hg : T.get? r with
  | none =>
    have HF := Lib.hid (show T.find r p = none by unfold Tr.find; rw [hg])
    have HG := Lib.hid hg
    clear hg
    go_enter Try.func53, Try.ntmps53
    go_wp2_with fail
    refine (at_has_no hT HG.out).mono ?_
    rintro e w1 ⟨rfl, hx1⟩
    go_wp2_with fail
    go_ret2
    exact ⟨by rw [HF.out]; rfl, hx1⟩
  | some rd =>
    have HF := Lib.hid (show T.find r p = T.walk r p by unfold Tr.find; rw [hg])
    have HG := Lib.hid hg
    clear hg
    go_enter Try.func53, Try.ntmps53
    go_wp2_with fail
    refine (at_has_yes hT HG.out).mono ?_
    rintro e w1 ⟨rfl, hx1⟩
    go_wp2_with fail
    have HX1 := Lib.hid hx1
    clear hx1
    go_loopw [1, 9, 10, 17] (fun s _ _ i wr => ∃ (k : Nat) (x : Int), k ≤ p.length ∧ i = .int .i64 k ∧ s = .int .i64 x ∧ Ext w wr ∧ Hid (T.walk r p = T.walk x (p.drop k))) (fun _ _ _ i _ => p.length - (intOf i).toNat)
    case atStart => exact ⟨0, r, Nat.zero_le _, rfl, rfl, HX1.out, Lib.hid rfl⟩
    case round =>
      obtain ⟨k, x, hk, rfl, rfl, hx, he⟩ := hrel
      by_cases hlt : k < p.length
      · obtain ⟨i, hi⟩ : ∃ i, p[k]? = some i := ⟨p[k], by simp [hlt]⟩
        cases ao with
        | none => exact absurd (HN.out rfl).1 (by omega)
        | some a =>
          obtain ⟨b, off, sp⟩ := a
          have c0 := hx.cells _ _ (HR.out _ rfl k (.int .i64 i) (by rw [List.getElem?_map, hi]; rfl))
          have hib := HIN.out i (List.mem_of_getElem? hi)
          obtain ⟨l, hlk⟩ : ∃ l, T.kidsOf x = l := ⟨_, rfl⟩
          have hlen := hw.kidsOf_len x
          have hst := T.walk_cons hi x
          rw [hlk] at hlen hst
          have HST := Lib.hid hst
          have HLK := Lib.hid hlk
          clear hst hlk hi
          by_cases hi0 : i < 0
          · go_wp2_with fail
            refine (at_kids' (hT.ext hx) hw x HLK.out).mono ?_
            rintro e w2 ⟨ao2, cap2, rfl, hcap2, hcell, hx2⟩
            clear hcell
            go_wp2_with fail
            go_ret2
            refine ⟨?_, hx.trans hx2⟩
            rw [HF.out, he.out, HST.out, if_pos hi0]; rfl
          · obtain ⟨m, rfl⟩ := Int.eq_ofNat_of_zero_le (show 0 ≤ i by omega)
            have hm : ((m : Nat) : Int).toNat = m := Int.toNat_natCast m
            by_cases hml : m < l.length
            · obtain ⟨y, hy⟩ : ∃ y, l[m]? = some y := ⟨l[m], by simp [hml]⟩
              have HY := Lib.hid hy
              clear hy hm
              go_wp2_with fail
              refine (at_kids' (hT.ext hx) hw x HLK.out).mono ?_
              rintro e w2 ⟨ao2, cap2, rfl, hcap2, hcell, hx2⟩
              obtain ⟨g, rfl, hcc⟩ := hcell (fun e => by rw [e] at hml; simp at hml)
              have c1 := hcc m y HY.out
              clear hcell hcc
              go_wp2_with fail
              go_roundw
              case rel =>
                refine ⟨k + 1, y, by omega, by go_num, rfl, hx.trans hx2, Lib.hid ?_⟩
                rw [he.out, HST.out, if_neg (by omega), Int.toNat_natCast, HY.out]
              case measure => simp [intOf]; omega
            · have HY := Lib.hid (show l[m]? = none from List.getElem?_eq_none (by omega))
              clear hm
              go_wp2_with fail
              refine (at_kids' (hT.ext hx) hw x HLK.out).mono ?_
              rintro e w2 ⟨ao2, cap2, rfl, hcap2, hcell, hx2⟩
              clear hcell
              go_wp2_with fail
              go_ret2
              refine ⟨?_, hx.trans hx2⟩
              rw [HF.out, he.out, HST.out, if_neg (by omega), Int.toNat_natCast, HY.out]; rfl
      · obtain rfl : k = p.length := by omega
        go_wp2_with fail
        go_ret2
        refine ⟨?_, hx⟩
        rw [HF.out, he.out, List.drop_length]; rfl

def Tr.cmpOk (T : Tr) (an aat bn bat : Int) : Bool := T.may an aat && T.may bn bat && decide (T.rootOf an = T.rootOf bn)
def Tr.cmp (T : Tr) (an aat bn bat : Int) : Int := if T.cmpOk an aat bn bat then cmpL (rowL (T.pathOf an) aat) (rowL (T.pathOf bn) bat) else 0
structure MayIs (T : Tr) (x y : Int) (b : Bool) : Prop where
  out : T.may x y = b
structure RootIs (T : Tr) (x r : Int) : Prop where
  out : T.rootOf x = r
section
variable {w : World} {tb : Nat} {T : Tr} {d : Nat → Nat}
theorem at_may (h : TAt w tb T) (hw : WF T d) (hA : AttrsOk T) {x y : Int} {b : Bool} (m : MayIs T x y b) : Calls Try.prog 61 #[.pointer (some ⟨tb, 0, none⟩), .agg #[.int .i64 x, .int .i64 y]] w (RVal (.bool b) w) := m.out ▸ May_any h hw hA x y
theorem at_root (h : TAt w tb T) (hw : WF T d) {x r : Int} (m : RootIs T x r) : Calls Try.prog 113 #[.pointer (some ⟨tb, 0, none⟩), .int .i64 x] w (RVal (.int .i64 r) w) := m.out ▸ root_any h hw x
theorem may_get (T : Tr) {x y : Int} (h : T.may x y = true) : ∃ nd, T.get? x = some nd := by
  unfold Tr.may Tr.lengthOf Tr.tagOf at h
  cases hg : T.get? x with
  | none => rw [hg] at h; simp at h; omega
  | some nd => exact ⟨nd, rfl⟩
end

set_option maxRecDepth 100000 in
set_option maxHeartbeats 2000000 in
theorem Cmp_no1 {w : World} {tb : Nat} {T : Tr} (hT : TAt w tb T) {d : Nat → Nat} (hw : WF T d) (hA : AttrsOk T) (an aat bn bat : Int) (MA : MayIs T an aat false) : Calls Try.prog 52 #[.pointer (some ⟨tb, 0, none⟩), .agg #[.int .i64 an, .int .i64 aat], .agg #[.int .i64 bn, .int .i64 bat]] w (RTwo (.int .i64 0) (.bool false) w) := by
  have MB : True := trivial
  have RA : True := trivial
  have RB : True := trivial
  have hx1 := ((Ext.refl w).alloc (.cells #[.int .i64 an, .int .i64 aat] 73)).alloc (.cells #[.int .i64 bn, .int .i64 bat] 73)
  have ha := (Two.new w (.int .i64 an) (.int .i64 aat) 73).ext ((Ext.refl _).alloc (.cells #[.int .i64 bn, .int .i64 bat] 73))
  have hb := Two.new (w.alloc (.cells #[.int .i64 an, .int .i64 aat] 73)) (.int .i64 bn) (.int .i64 bat) 73
  rw [show (w.alloc (.cells #[.int .i64 an, .int .i64 aat] 73)).heap.size = w.heap.size + 1 by simp] at hb
  go_enter Try.func52, Try.ntmps52
  go_upto_region 1 with fail
  obtain ⟨wb, hwb⟩ : ∃ wb : World, wb = (w.alloc (.cells #[.int .i64 an, .int .i64 aat] 73)).alloc (.cells #[.int .i64 bn, .int .i64 bat] 73) := ⟨_, rfl⟩
  rw [← hwb] at hx1 ha hb ⊢
  clear hwb
  obtain ⟨c0, c1, _, _⟩ := ha
  obtain ⟨c2, c3, _, _⟩ := hb
  have c0' := fun u : ExtOf wb => u.ext.cell c0
  have c1' := fun u : ExtOf wb => u.ext.cell c1
  have c2' := fun u : ExtOf wb => u.ext.cell c2
  have c3' := fun u : ExtOf wb => u.ext.cell c3
  refine wp_region_ext (by kernel_rfl) (by kernel_rfl) ?_
  repeat (go_big_quiet_step (first
    | (go_at_call 61; exact inExt (at_may (hT.ext (hx1.trans (ExtOf.ext _))) hw hA (by first | exact MA | exact MB)))
    | (go_at_call 113; exact inExt (at_root (hT.ext (hx1.trans (ExtOf.ext _))) hw (by first | exact RA | exact RB)))))
  refine wpQuiet_nil ?_
  rintro _ ⟨u, rfl⟩
  clear c0' c1' c2' c3'
  replace c0 := u.ext.cell c0
  replace c1 := u.ext.cell c1
  replace c2 := u.ext.cell c2
  replace c3 := u.ext.cell c3
  replace hx1 := hx1.trans u.ext
  go_wp2_with fail
  go_ret2
  exact ⟨rfl, hx1⟩

set_option maxRecDepth 100000 in
set_option maxHeartbeats 2000000 in
theorem Cmp_no2 {w : World} {tb : Nat} {T : Tr} (hT : TAt w tb T) {d : Nat → Nat} (hw : WF T d) (hA : AttrsOk T) (an aat bn bat : Int) (MA : MayIs T an aat true) (MB : MayIs T bn bat false) : Calls Try.prog 52 #[.pointer (some ⟨tb, 0, none⟩), .agg #[.int .i64 an, .int .i64 aat], .agg #[.int .i64 bn, .int .i64 bat]] w (RTwo (.int .i64 0) (.bool false) w) := by
  have RA : True := trivial
  have RB : True := trivial
  have hx1 := ((Ext.refl w).alloc (.cells #[.int .i64 an, .int .i64 aat] 73)).alloc (.cells #[.int .i64 bn, .int .i64 bat] 73)
  have ha := (Two.new w (.int .i64 an) (.int .i64 aat) 73).ext ((Ext.refl _).alloc (.cells #[.int .i64 bn, .int .i64 bat] 73))
  have hb := Two.new (w.alloc (.cells #[.int .i64 an, .int .i64 aat] 73)) (.int .i64 bn) (.int .i64 bat) 73
  rw [show (w.alloc (.cells #[.int .i64 an, .int .i64 aat] 73)).heap.size = w.heap.size + 1 by simp] at hb
  go_enter Try.func52, Try.ntmps52
  go_upto_region 1 with fail
  obtain ⟨wb, hwb⟩ : ∃ wb : World, wb = (w.alloc (.cells #[.int .i64 an, .int .i64 aat] 73)).alloc (.cells #[.int .i64 bn, .int .i64 bat] 73) := ⟨_, rfl⟩
  rw [← hwb] at hx1 ha hb ⊢
  clear hwb
  obtain ⟨c0, c1, _, _⟩ := ha
  obtain ⟨c2, c3, _, _⟩ := hb
  have c0' := fun u : ExtOf wb => u.ext.cell c0
  have c1' := fun u : ExtOf wb => u.ext.cell c1
  have c2' := fun u : ExtOf wb => u.ext.cell c2
  have c3' := fun u : ExtOf wb => u.ext.cell c3
  refine wp_region_ext (by kernel_rfl) (by kernel_rfl) ?_
  repeat (go_big_quiet_step (first
    | (go_at_call 61; exact inExt (at_may (hT.ext (hx1.trans (ExtOf.ext _))) hw hA (by first | exact MA | exact MB)))
    | (go_at_call 113; exact inExt (at_root (hT.ext (hx1.trans (ExtOf.ext _))) hw (by first | exact RA | exact RB)))))
  refine wpQuiet_nil ?_
  rintro _ ⟨u, rfl⟩
  clear c0' c1' c2' c3'
  replace c0 := u.ext.cell c0
  replace c1 := u.ext.cell c1
  replace c2 := u.ext.cell c2
  replace c3 := u.ext.cell c3
  replace hx1 := hx1.trans u.ext
  go_wp2_with fail
  go_ret2
  exact ⟨rfl, hx1⟩

set_option maxRecDepth 100000 in
set_option maxHeartbeats 2000000 in
theorem Cmp_no3 {w : World} {tb : Nat} {T : Tr} (hT : TAt w tb T) {d : Nat → Nat} (hw : WF T d) (hA : AttrsOk T) (an aat bn bat : Int) (MA : MayIs T an aat true) (MB : MayIs T bn bat true) {ra rb : Int} (RA : RootIs T an ra) (RB : RootIs T bn rb) (hne : ra ≠ rb) : Calls Try.prog 52 #[.pointer (some ⟨tb, 0, none⟩), .agg #[.int .i64 an, .int .i64 aat], .agg #[.int .i64 bn, .int .i64 bat]] w (RTwo (.int .i64 0) (.bool false) w) := by
  have hx1 := ((Ext.refl w).alloc (.cells #[.int .i64 an, .int .i64 aat] 73)).alloc (.cells #[.int .i64 bn, .int .i64 bat] 73)
  have ha := (Two.new w (.int .i64 an) (.int .i64 aat) 73).ext ((Ext.refl _).alloc (.cells #[.int .i64 bn, .int .i64 bat] 73))
  have hb := Two.new (w.alloc (.cells #[.int .i64 an, .int .i64 aat] 73)) (.int .i64 bn) (.int .i64 bat) 73
  rw [show (w.alloc (.cells #[.int .i64 an, .int .i64 aat] 73)).heap.size = w.heap.size + 1 by simp] at hb
  go_enter Try.func52, Try.ntmps52
  go_upto_region 1 with fail
  obtain ⟨wb, hwb⟩ : ∃ wb : World, wb = (w.alloc (.cells #[.int .i64 an, .int .i64 aat] 73)).alloc (.cells #[.int .i64 bn, .int .i64 bat] 73) := ⟨_, rfl⟩
  rw [← hwb] at hx1 ha hb ⊢
  clear hwb
  obtain ⟨c0, c1, _, _⟩ := ha
  obtain ⟨c2, c3, _, _⟩ := hb
  have c0' := fun u : ExtOf wb => u.ext.cell c0
  have c1' := fun u : ExtOf wb => u.ext.cell c1
  have c2' := fun u : ExtOf wb => u.ext.cell c2
  have c3' := fun u : ExtOf wb => u.ext.cell c3
  refine wp_region_ext (by kernel_rfl) (by kernel_rfl) ?_
  repeat (go_big_quiet_step (first
    | (go_at_call 61; exact inExt (at_may (hT.ext (hx1.trans (ExtOf.ext _))) hw hA (by first | exact MA | exact MB)))
    | (go_at_call 113; exact inExt (at_root (hT.ext (hx1.trans (ExtOf.ext _))) hw (by first | exact RA | exact RB)))))
  refine wpQuiet_nil ?_
  rintro _ ⟨u, rfl⟩
  clear c0' c1' c2' c3'
  replace c0 := u.ext.cell c0
  replace c1 := u.ext.cell c1
  replace c2 := u.ext.cell c2
  replace c3 := u.ext.cell c3
  replace hx1 := hx1.trans u.ext
  go_wp2_with fail
  go_ret2
  exact ⟨rfl, hx1⟩

set_option maxRecDepth 100000 in
set_option maxHeartbeats 2000000 in
theorem Cmp_same {w : World} {tb : Nat} {T : Tr} (hT : TAt w tb T) {d : Nat → Nat} (hw : WF T d) (hA : AttrsOk T) (an aat bat : Int) (MA : MayIs T an aat true) (MB : MayIs T an bat true) {ra : Int} (RA : RootIs T an ra) (RB : RootIs T an ra) {z : Int} (hz : cmpI aat bat = z) : Calls Try.prog 52 #[.pointer (some ⟨tb, 0, none⟩), .agg #[.int .i64 an, .int .i64 aat], .agg #[.int .i64 an, .int .i64 bat]] w (RTwo (.int .i64 z) (.bool true) w) := by
  have HZ := Lib.hid hz
  clear hz
  have hx1 := ((Ext.refl w).alloc (.cells #[.int .i64 an, .int .i64 aat] 73)).alloc (.cells #[.int .i64 an, .int .i64 bat] 73)
  have ha := (Two.new w (.int .i64 an) (.int .i64 aat) 73).ext ((Ext.refl _).alloc (.cells #[.int .i64 an, .int .i64 bat] 73))
  have hb := Two.new (w.alloc (.cells #[.int .i64 an, .int .i64 aat] 73)) (.int .i64 an) (.int .i64 bat) 73
  rw [show (w.alloc (.cells #[.int .i64 an, .int .i64 aat] 73)).heap.size = w.heap.size + 1 by simp] at hb
  go_enter Try.func52, Try.ntmps52
  go_upto_region 1 with fail
  obtain ⟨wb, hwb⟩ : ∃ wb : World, wb = (w.alloc (.cells #[.int .i64 an, .int .i64 aat] 73)).alloc (.cells #[.int .i64 an, .int .i64 bat] 73) := ⟨_, rfl⟩
  rw [← hwb] at hx1 ha hb ⊢
  clear hwb
  obtain ⟨c0, c1, _, _⟩ := ha
  obtain ⟨c2, c3, _, _⟩ := hb
  have c0' := fun u : ExtOf wb => u.ext.cell c0
  have c1' := fun u : ExtOf wb => u.ext.cell c1
  have c2' := fun u : ExtOf wb => u.ext.cell c2
  have c3' := fun u : ExtOf wb => u.ext.cell c3
  refine wp_region_ext (by kernel_rfl) (by kernel_rfl) ?_
  repeat (go_big_quiet_step (first
    | (go_at_call 61; exact inExt (at_may (hT.ext (hx1.trans (ExtOf.ext _))) hw hA (by first | exact MA | exact MB)))
    | (go_at_call 113; exact inExt (at_root (hT.ext (hx1.trans (ExtOf.ext _))) hw (by first | exact RA | exact RB)))))
  refine wpQuiet_nil ?_
  rintro _ ⟨u, rfl⟩
  clear c0' c1' c2' c3'
  replace c0 := u.ext.cell c0
  replace c1 := u.ext.cell c1
  replace c2 := u.ext.cell c2
  replace c3 := u.ext.cell c3
  replace hx1 := hx1.trans u.ext
  go_wp2_with (go_at_call 114; refine (cmpI_any aat bat _).mono ?_; rintro e w' ⟨rfl, rfl⟩; rw [HZ.out])
  go_ret2
  exact ⟨rfl, hx1⟩

structure WinIs (T : Tr) (x y : Int) (b : Bool) : Prop where
  out : T.win x y = b
theorem at_win {w : World} {tb : Nat} {T : Tr} {d : Nat → Nat} (h : TAt w tb T) (hw : WF T d) {x y : Int} {b : Bool} (m : WinIs T x y b) : Calls Try.prog 63 #[.pointer (some ⟨tb, 0, none⟩), .int .i64 x, .int .i64 y] w (RVal (.bool b) w) := m.out ▸ Within_any h hw x y
theorem at_kid {w : World} {tb : Nat} {T : Tr} {d : Nat → Nat} (h : TAt w tb T) (hw : WF T d) {x y k : Int} (m : WinIs T x y true) (hne : x ≠ y) (hk : T.kidTo x y = k) : Calls Try.prog 115 #[.pointer (some ⟨tb, 0, none⟩), .int .i64 x, .int .i64 y] w (RVal (.int .i64 k) w) := hk ▸ kid_any h hw x y m.out hne

set_option maxRecDepth 100000 in
set_option maxHeartbeats 2000000 in
theorem Cmp_in {w : World} {tb : Nat} {T : Tr} (hT : TAt w tb T) {d : Nat → Nat} (hw : WF T d) (hA : AttrsOk T) (an aat bn bat : Int) (MA : MayIs T an aat true) (MB : MayIs T bn bat true) {ra : Int} (RA : RootIs T an ra) (RB : RootIs T bn ra) (hne : (an == bn) = false) (WB : WinIs T bn an true) {k : Int} {j : Nat} (hk : T.kidTo bn an = k) (hj : T.idx k = (j : Int)) (hj2 : j ≤ 2000) {z : Int} (hz : (if aat ≤ j then (-1 : Int) else 1) = z) : Calls Try.prog 52 #[.pointer (some ⟨tb, 0, none⟩), .agg #[.int .i64 an, .int .i64 aat], .agg #[.int .i64 bn, .int .i64 bat]] w (RTwo (.int .i64 z) (.bool true) w) := by
  have HZ := Lib.hid hz
  clear hz
  have HK := Lib.hid hk
  have HJ := Lib.hid hj
  have HNE := Lib.hid (show bn ≠ an by intro e; subst e; simp at hne)
  clear hk hj
  have hx1 := ((Ext.refl w).alloc (.cells #[.int .i64 an, .int .i64 aat] 73)).alloc (.cells #[.int .i64 bn, .int .i64 bat] 73)
  have ha := (Two.new w (.int .i64 an) (.int .i64 aat) 73).ext ((Ext.refl _).alloc (.cells #[.int .i64 bn, .int .i64 bat] 73))
  have hb := Two.new (w.alloc (.cells #[.int .i64 an, .int .i64 aat] 73)) (.int .i64 bn) (.int .i64 bat) 73
  rw [show (w.alloc (.cells #[.int .i64 an, .int .i64 aat] 73)).heap.size = w.heap.size + 1 by simp] at hb
  go_enter Try.func52, Try.ntmps52
  go_upto_region 1 with fail
  obtain ⟨wb, hwb⟩ : ∃ wb : World, wb = (w.alloc (.cells #[.int .i64 an, .int .i64 aat] 73)).alloc (.cells #[.int .i64 bn, .int .i64 bat] 73) := ⟨_, rfl⟩
  rw [← hwb] at hx1 ha hb ⊢
  clear hwb
  obtain ⟨c0, c1, _, _⟩ := ha
  obtain ⟨c2, c3, _, _⟩ := hb
  have c0' := fun u : ExtOf wb => u.ext.cell c0
  have c1' := fun u : ExtOf wb => u.ext.cell c1
  have c2' := fun u : ExtOf wb => u.ext.cell c2
  have c3' := fun u : ExtOf wb => u.ext.cell c3
  refine wp_region_ext (by kernel_rfl) (by kernel_rfl) ?_
  repeat (go_big_quiet_step (first
    | (go_at_call 61; exact inExt (at_may (hT.ext (hx1.trans (ExtOf.ext _))) hw hA (by first | exact MA | exact MB)))
    | (go_at_call 113; exact inExt (at_root (hT.ext (hx1.trans (ExtOf.ext _))) hw (by first | exact RA | exact RB)))))
  refine wpQuiet_nil ?_
  rintro _ ⟨u, rfl⟩
  clear c0' c1' c2' c3'
  replace c0 := u.ext.cell c0
  replace c1 := u.ext.cell c1
  replace c2 := u.ext.cell c2
  replace c3 := u.ext.cell c3
  replace hx1 := hx1.trans u.ext
  go_wp2_with fail
  refine (at_win (hT.ext hx1) hw WB).mono ?_
  rintro e w2 ⟨rfl, hx2⟩
  replace c0 := hx2.cell c0
  replace c1 := hx2.cell c1
  replace c2 := hx2.cell c2
  replace c3 := hx2.cell c3
  replace hx2 := hx1.trans hx2
  go_upto_region 6 with fail
  have c0' := fun u : ExtOf w2 => u.ext.cell c0
  have c1' := fun u : ExtOf w2 => u.ext.cell c1
  have c2' := fun u : ExtOf w2 => u.ext.cell c2
  have c3' := fun u : ExtOf w2 => u.ext.cell c3
  refine wp_region_ext (by kernel_rfl) (by kernel_rfl) ?_
  repeat (go_big_quiet_step (first
    | (go_at_call 115; exact inExt (at_kid (hT.ext (hx2.trans (ExtOf.ext _))) hw WB HNE.out HK.out))
    | (go_at_call 35; exact inExt (at_idx' (hT.ext (hx2.trans (ExtOf.ext _))) hw k HJ.out))))
  refine wpQuiet_nil ?_
  rintro _ ⟨u2, rfl⟩
  clear c0' c1' c2' c3'
  by_cases hle : aat ≤ j
  · have e := HZ.out
    rw [if_pos hle] at e
    subst e
    go_wp2_with fail
    go_ret2
    exact ⟨rfl, hx2.trans u2.ext⟩
  · have e := HZ.out
    rw [if_neg hle] at e
    subst e
    go_wp2_with fail
    go_ret2
    exact ⟨rfl, hx2.trans u2.ext⟩

set_option maxRecDepth 100000 in
set_option maxHeartbeats 2000000 in
theorem Cmp_out {w : World} {tb : Nat} {T : Tr} (hT : TAt w tb T) {d : Nat → Nat} (hw : WF T d) (hA : AttrsOk T) (an aat bn bat : Int) (MA : MayIs T an aat true) (MB : MayIs T bn bat true) {ra : Int} (RA : RootIs T an ra) (RB : RootIs T bn ra) (hne : (an == bn) = false) (WB : WinIs T bn an false) (WA : WinIs T an bn true) {c : Int} (hc1 : -1 ≤ c) (hc2 : c ≤ 1) (hrec : ∀ u, Ext w u → Calls Try.prog 52 #[.pointer (some ⟨tb, 0, none⟩), .agg #[.int .i64 bn, .int .i64 bat], .agg #[.int .i64 an, .int .i64 aat]] u (RTwo (.int .i64 c) (.bool true) u)) : Calls Try.prog 52 #[.pointer (some ⟨tb, 0, none⟩), .agg #[.int .i64 an, .int .i64 aat], .agg #[.int .i64 bn, .int .i64 bat]] w (RTwo (.int .i64 (-c)) (.bool true) w) := by
  have HREC := Lib.hid hrec
  clear hrec
  have hneg : IntKind.i64.wrap (-c) = -c := IntWalk.i64_in _ (by omega)
  have hx1 := ((Ext.refl w).alloc (.cells #[.int .i64 an, .int .i64 aat] 73)).alloc (.cells #[.int .i64 bn, .int .i64 bat] 73)
  have ha := (Two.new w (.int .i64 an) (.int .i64 aat) 73).ext ((Ext.refl _).alloc (.cells #[.int .i64 bn, .int .i64 bat] 73))
  have hb := Two.new (w.alloc (.cells #[.int .i64 an, .int .i64 aat] 73)) (.int .i64 bn) (.int .i64 bat) 73
  rw [show (w.alloc (.cells #[.int .i64 an, .int .i64 aat] 73)).heap.size = w.heap.size + 1 by simp] at hb
  go_enter Try.func52, Try.ntmps52
  go_upto_region 1 with fail
  obtain ⟨wb, hwb⟩ : ∃ wb : World, wb = (w.alloc (.cells #[.int .i64 an, .int .i64 aat] 73)).alloc (.cells #[.int .i64 bn, .int .i64 bat] 73) := ⟨_, rfl⟩
  rw [← hwb] at hx1 ha hb ⊢
  clear hwb
  obtain ⟨c0, c1, _, _⟩ := ha
  obtain ⟨c2, c3, _, _⟩ := hb
  have c0' := fun u : ExtOf wb => u.ext.cell c0
  have c1' := fun u : ExtOf wb => u.ext.cell c1
  have c2' := fun u : ExtOf wb => u.ext.cell c2
  have c3' := fun u : ExtOf wb => u.ext.cell c3
  refine wp_region_ext (by kernel_rfl) (by kernel_rfl) ?_
  repeat (go_big_quiet_step (first
    | (go_at_call 61; exact inExt (at_may (hT.ext (hx1.trans (ExtOf.ext _))) hw hA (by first | exact MA | exact MB)))
    | (go_at_call 113; exact inExt (at_root (hT.ext (hx1.trans (ExtOf.ext _))) hw (by first | exact RA | exact RB)))))
  refine wpQuiet_nil ?_
  rintro _ ⟨u, rfl⟩
  clear c0' c1' c2' c3'
  replace c0 := u.ext.cell c0
  replace c1 := u.ext.cell c1
  replace c2 := u.ext.cell c2
  replace c3 := u.ext.cell c3
  replace hx1 := hx1.trans u.ext
  go_wp2_with fail
  refine (at_win (hT.ext hx1) hw WB).mono ?_
  rintro e w2 ⟨rfl, hx2⟩
  replace c0 := hx2.cell c0
  replace c1 := hx2.cell c1
  replace c2 := hx2.cell c2
  replace c3 := hx2.cell c3
  replace hx2 := hx1.trans hx2
  go_wp2_with fail
  refine (at_win (hT.ext hx2) hw WA).mono ?_
  rintro e w3 ⟨rfl, hx3⟩
  replace c0 := hx3.cell c0
  replace c1 := hx3.cell c1
  replace c2 := hx3.cell c2
  replace c3 := hx3.cell c3
  replace hx3 := hx2.trans hx3
  go_wp2_with fail
  refine (HREC.out _ hx3).mono ?_
  rintro e w4 ⟨rfl, hx4⟩
  go_wp2_with fail
  go_ret2
  exact ⟨rfl, hx3.trans hx4⟩

structure PathTo (T : Tr) (x : Int) (p : List Int) : Prop where
  out : T.pathOf x = p
theorem at_path {w : World} {tb : Nat} {T : Tr} {d : Nat → Nat} (h : TAt w tb T) (hw : WF T d) {x : Int} {p : List Int} (m : PathTo T x p) : Calls Try.prog 64 #[.pointer (some ⟨tb, 0, none⟩), .int .i64 x] w (PathIs p w) := m.out ▸ Path_any h hw x

set_option maxRecDepth 100000 in
set_option maxHeartbeats 2000000 in
theorem Cmp_apart {w : World} {tb : Nat} {T : Tr} (hT : TAt w tb T) {d : Nat → Nat} (hw : WF T d) (hA : AttrsOk T) (an aat bn bat : Int) (MA : MayIs T an aat true) (MB : MayIs T bn bat true) {ra : Int} (RA : RootIs T an ra) (RB : RootIs T bn ra) (hne : (an == bn) = false) (WB : WinIs T bn an false) (WA : WinIs T an bn false) {p q : List Int} (PA : PathTo T an p) (PB : PathTo T bn q) {z : Int} (hz : cmpS p q = z) : Calls Try.prog 52 #[.pointer (some ⟨tb, 0, none⟩), .agg #[.int .i64 an, .int .i64 aat], .agg #[.int .i64 bn, .int .i64 bat]] w (RTwo (.int .i64 z) (.bool true) w) := by
  have hp := hw.path_41 an
  have hq := hw.path_41 bn
  rw [PA.out] at hp
  rw [PB.out] at hq
  replace hp : p.length ≤ 60000 := by omega
  replace hq : q.length ≤ 60000 := by omega
  have HZ := Lib.hid hz
  clear hz
  have hx1 := ((Ext.refl w).alloc (.cells #[.int .i64 an, .int .i64 aat] 73)).alloc (.cells #[.int .i64 bn, .int .i64 bat] 73)
  have ha := (Two.new w (.int .i64 an) (.int .i64 aat) 73).ext ((Ext.refl _).alloc (.cells #[.int .i64 bn, .int .i64 bat] 73))
  have hb := Two.new (w.alloc (.cells #[.int .i64 an, .int .i64 aat] 73)) (.int .i64 bn) (.int .i64 bat) 73
  rw [show (w.alloc (.cells #[.int .i64 an, .int .i64 aat] 73)).heap.size = w.heap.size + 1 by simp] at hb
  go_enter Try.func52, Try.ntmps52
  go_upto_region 1 with fail
  obtain ⟨wb, hwb⟩ : ∃ wb : World, wb = (w.alloc (.cells #[.int .i64 an, .int .i64 aat] 73)).alloc (.cells #[.int .i64 bn, .int .i64 bat] 73) := ⟨_, rfl⟩
  rw [← hwb] at hx1 ha hb ⊢
  clear hwb
  obtain ⟨c0, c1, _, _⟩ := ha
  obtain ⟨c2, c3, _, _⟩ := hb
  have c0' := fun u : ExtOf wb => u.ext.cell c0
  have c1' := fun u : ExtOf wb => u.ext.cell c1
  have c2' := fun u : ExtOf wb => u.ext.cell c2
  have c3' := fun u : ExtOf wb => u.ext.cell c3
  refine wp_region_ext (by kernel_rfl) (by kernel_rfl) ?_
  repeat (go_big_quiet_step (first
    | (go_at_call 61; exact inExt (at_may (hT.ext (hx1.trans (ExtOf.ext _))) hw hA (by first | exact MA | exact MB)))
    | (go_at_call 113; exact inExt (at_root (hT.ext (hx1.trans (ExtOf.ext _))) hw (by first | exact RA | exact RB)))))
  refine wpQuiet_nil ?_
  rintro _ ⟨u, rfl⟩
  clear c0' c1' c2' c3'
  replace c0 := u.ext.cell c0
  replace c1 := u.ext.cell c1
  replace c2 := u.ext.cell c2
  replace c3 := u.ext.cell c3
  replace hx1 := hx1.trans u.ext
  go_wp2_with fail
  refine (at_win (hT.ext hx1) hw WB).mono ?_
  rintro e w2 ⟨rfl, hx2⟩
  replace c0 := hx2.cell c0
  replace c1 := hx2.cell c1
  replace c2 := hx2.cell c2
  replace c3 := hx2.cell c3
  replace hx2 := hx1.trans hx2
  go_wp2_with fail
  refine (at_win (hT.ext hx2) hw WA).mono ?_
  rintro e w3 ⟨rfl, hx3⟩
  replace c0 := hx3.cell c0
  replace c1 := hx3.cell c1
  replace c2 := hx3.cell c2
  replace c3 := hx3.cell c3
  replace hx3 := hx2.trans hx3
  go_upto_region 12 with fail
  have HXD := Lib.hid (show Ext w w3.drew from hx3.drew)
  have HC := Lib.hid (And.intro c0 c2)
  have hk := And.intro c0 c2
  clear hx1 hx2 hx3 c1 c3
  go_region_held3 (fun w' => w'.cell? ⟨w.heap.size, 0, none⟩ = some (.int .i64 an) ∧ w'.cell? ⟨w.heap.size + 1, 0, none⟩ = some (.int .i64 bn))
    (first | exact hkeep | exact hk | go_keep)
    (first
    | (go_at_call 116; refine (cmpS_any HRA.out HRB.out hp hq).mono ?_; rintro e w6 ⟨rfl, rfl⟩; rw [HZ.out]; have hkeep := HC5.out)
    | (go_at_call_of 64 (Value.int IntKind.i64 bn); refine (at_path (hT.ext HX4.out) hw PB).mono ?_; rintro e w5 ⟨vb, rfl, hrb, hx5, _⟩; have hkeep := And.intro (hx5.cell HC4.out.1) (hx5.cell HC4.out.2); have HC5 := Lib.hid hkeep; have HRB := Lib.hid hrb; have HRA := Lib.hid (HRA4.out.ext hx5); have HX5 := Lib.hid (HX4.out.trans hx5); clear hrb hx5)
    | (go_at_call_of 64 (Value.int IntKind.i64 an); refine (at_path (hT.ext HXD.out) hw PA).mono ?_; rintro e w4 ⟨va, rfl, hra, hx4, _⟩; have hkeep := And.intro (hx4.cell HC.out.1) (hx4.cell HC.out.2); have HC4 := Lib.hid hkeep; have HRA4 := Lib.hid hra; have HX4 := Lib.hid (HXD.out.trans hx4); clear hra hx4))
  go_wp2_with fail
  go_ret2
  exact ⟨rfl, HX5.out⟩

theorem cmpL_one (x y : List Int) : -1 ≤ cmpL x y ∧ cmpL x y ≤ 1 := by rcases cmpL_range x y with h | h | h <;> omega
theorem Cmp_any {w : World} {tb : Nat} {T : Tr} (hT : TAt w tb T) {d : Nat → Nat} (hw : WF T d) (hA : AttrsOk T) (an aat bn bat : Int) : Calls Try.prog 52 #[.pointer (some ⟨tb, 0, none⟩), .agg #[.int .i64 an, .int .i64 aat], .agg #[.int .i64 bn, .int .i64 bat]] w (RTwo (.int .i64 (T.cmp an aat bn bat)) (.bool (T.cmpOk an aat bn bat)) w) := by
  cases ha : T.may an aat with
  | false =>
    have e : T.cmpOk an aat bn bat = false := by unfold Tr.cmpOk; rw [ha]; rfl
    have e2 : T.cmp an aat bn bat = 0 := by unfold Tr.cmp; rw [e]; rfl
    rw [e, e2]
    exact Cmp_no1 hT hw hA an aat bn bat ⟨ha⟩
  | true =>
    cases hb : T.may bn bat with
    | false =>
      have e : T.cmpOk an aat bn bat = false := by unfold Tr.cmpOk; rw [ha, hb]; rfl
      have e2 : T.cmp an aat bn bat = 0 := by unfold Tr.cmp; rw [e]; rfl
      rw [e, e2]
      exact Cmp_no2 hT hw hA an aat bn bat ⟨ha⟩ ⟨hb⟩
    | true =>
      by_cases hr : T.rootOf an = T.rootOf bn
      · have e : T.cmpOk an aat bn bat = true := by unfold Tr.cmpOk; rw [ha, hb]; simp [hr]
        have e2 : T.cmp an aat bn bat = cmpL (rowL (T.pathOf an) aat) (rowL (T.pathOf bn) bat) := by unfold Tr.cmp; rw [e]; rfl
        rw [e, e2]
        obtain ⟨ad, hga⟩ := may_get T ha
        obtain ⟨bd, hgb⟩ := may_get T hb
        by_cases hab : an = bn
        · subst hab
          rw [cmp_same]
          exact Cmp_same hT hw hA an aat bat ⟨ha⟩ ⟨hb⟩ ⟨rfl⟩ ⟨rfl⟩ rfl
        · have hne : (an == bn) = false := by simpa using hab
          have hne' : (bn == an) = false := by simpa using Ne.symm hab
          have inn : ∀ (w : World) (hT : TAt w tb T) (an aat bn bat : Int) (ad : Nd), T.get? an = some ad → (∃ bd, T.get? bn = some bd) → T.may an aat = true → T.may bn bat = true → T.rootOf an = T.rootOf bn → (an == bn) = false → T.win bn an = true →
              Calls Try.prog 52 #[.pointer (some ⟨tb, 0, none⟩), .agg #[.int .i64 an, .int .i64 aat], .agg #[.int .i64 bn, .int .i64 bat]] w (RTwo (.int .i64 (cmpL (rowL (T.pathOf an) aat) (rowL (T.pathOf bn) bat))) (.bool true) w) := by
            intro w hT an aat bn bat ad hga hgb ha hb hr hne hw1
            have hne2 : bn ≠ an := fun e => by subst e; simp at hne
            obtain ⟨k1, q, k2⟩ := hw.kidTo_path hga bn hgb hw1 hne2
            obtain ⟨j, j1, j2, j3, j4⟩ := hw.idx_kid (id := T.kidTo bn an) (by rw [k1]; exact (Tr.get_lt hga).1)
            rw [k2, cmp_in, j1]
            exact Cmp_in hT hw hA an aat bn bat ⟨ha⟩ ⟨hb⟩ ⟨rfl⟩ ⟨hr.symm⟩ hne ⟨hw1⟩ rfl j1 (by omega) rfl
          cases hw1 : T.win bn an with
          | true => exact inn w hT an aat bn bat ad hga ⟨bd, hgb⟩ ha hb hr hne hw1
          | false =>
            cases hw2 : T.win an bn with
            | true =>
              have h1 := cmpL_one (rowL (T.pathOf bn) bat) (rowL (T.pathOf an) aat)
              have h2 := Cmp_out hT hw hA an aat bn bat ⟨ha⟩ ⟨hb⟩ ⟨rfl⟩ ⟨hr.symm⟩ hne ⟨hw1⟩ ⟨hw2⟩ h1.1 h1.2 fun u hu => inn u (hT.ext hu) bn bat an aat bd hgb ⟨ad, hga⟩ hb ha hr.symm hne' hw2
              rw [cmpL_anti (rowL (T.pathOf bn) bat) (rowL (T.pathOf an) aat)]
              exact h2
            | false =>
              rw [cmp_apart]
              · exact Cmp_apart hT hw hA an aat bn bat ⟨ha⟩ ⟨hb⟩ ⟨rfl⟩ ⟨hr.symm⟩ hne ⟨hw1⟩ ⟨hw2⟩ ⟨rfl⟩ ⟨rfl⟩ rfl
              · rintro ⟨r, hq⟩
                rw [(hw.win_iff hga bn ⟨bd, hgb⟩).2 ⟨r, hq, hr.symm⟩] at hw1; cases hw1
              · rintro ⟨r, hq⟩
                rw [(hw.win_iff hgb an ⟨ad, hga⟩).2 ⟨r, hq, hr⟩] at hw2; cases hw2
      · have e : T.cmpOk an aat bn bat = false := by unfold Tr.cmpOk; rw [ha, hb]; simp [hr]
        have e2 : T.cmp an aat bn bat = 0 := by unfold Tr.cmp; rw [e]; rfl
        rw [e, e2]
        exact Cmp_no3 hT hw hA an aat bn bat ⟨ha⟩ ⟨hb⟩ ⟨rfl⟩ ⟨rfl⟩ hr
end Go.Proofs.Ytiglflmjidikpaa
