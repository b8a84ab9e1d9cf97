/- The document's answer whether a node is normal (16): kids; what stands around. Conditions: at most 10^12 bytes. -/
import Derived.Test.YtdafdoodegpdhaaDoorPME
import Derived.Test.YtdafdoodegpdhaaDoorPMF
import Derived.Test.YtdafdoodegpdhaaDoorPU
namespace Go.Proofs.YtdafdoodegpdhaaDoor
open Go Go.RowKit Go.BigFrame
set_option linter.unusedVariables false
set_option linter.unusedSimpArgs false

def boxU (U : List Int) : Bool := clsT (U.getD (U.length - 1) 0) == 2
/-- what stands around, the innermost first, without the host -/
def upR (U : List Int) : List Int := U.tail.reverse
def normU (n : PN) (U : List Int) : Bool := n.norm U.length (boxU U) (lineIn (upR U)) (liIn (upR U))
def normsU (l : List PN) (U : List Int) : Bool := PN.norms U.length (boxU U) (lineIn (upR U)) (liIn (upR U)) false l
theorem upR_snoc {U : List Int} (h : U ≠ []) (t : Int) : upR (U ++ [t]) = t :: upR U := by
  unfold upR
  rw [List.tail_append_of_ne_nil h, List.reverse_append]
  rfl
theorem boxU_snoc (U : List Int) (t : Int) : boxU (U ++ [t]) = (clsT t == 2) := by
  unfold boxU
  simp [List.getD]
theorem normsU_snoc {U : List Int} (h : U ≠ []) (t : Int) (l : List PN) : normsU l (U ++ [t]) = PN.norms (U.length + 1) (clsT t == 2) (lineIn (t :: upR U)) (liIn (t :: upR U)) false l := by
  unfold normsU
  rw [upR_snoc h, boxU_snoc]
  simp
def NRef (w0 : World) (n : PN) : Prop := ∀ (U : List Int) (m : Nat) (uv : Value) (w : World) (v : Value), RdN w0 n v → Ext w0 w → U.length = m + 1 → m ≤ 40 → RowRd w 1 uv (m + 1) (U.map (.int .i64)) → n.cost ≤ 1000000000000 →
  Calls Tryd.prog 53 #[v, uv] w (RBool (normU n U) w)
def KRef (w0 : World) (n : PN) : Prop := ∀ (U : List Int) (m : Nat) (uv : Value) (w : World) (v : Value), RdN w0 n v → Ext w0 w → U.length = m + 1 → m ≤ 40 → RowRd w 1 uv (m + 1) (U.map (.int .i64)) → PN.costs n.kids ≤ 1000000000000 →
  Calls Tryd.prog 35 #[v, uv] w (RBool (normsU n.kids U) w)
set_option maxHeartbeats 2000000 in
set_option maxRecDepth 100000 in
theorem rkids_of {w0 : World} {n : PN} (ih : ∀ k ∈ n.kids, NRef w0 k) : KRef w0 n := by
  intro U m uv w v hr hx hU hm hup hc
  obtain ⟨av, kv, rfl, ha, hk⟩ := hr.open
  obtain ⟨ao, ac, rfl, _⟩ := ha.len_of
  obtain ⟨ka, kc, rfl, hk1, hk2, hk3, hk4⟩ := hk
  obtain ⟨ua, uc, rfl, huc⟩ := hup.len_of
  have x1 := ((Ext.refl w).alloc (.cells #[.int .i64 n.tag, .slice ao n.attrs.length ac, .string n.text, .slice ka n.kids.length kc] 25))
  have bb := heap_alloc_new w (.cells #[.int .i64 n.tag, .slice ao n.attrs.length ac, .string n.text, .slice ka n.kids.length kc] 25)
  obtain ⟨ok, hok⟩ : ∃ ok, normsU n.kids U = ok := ⟨_, rfl⟩
  rw [hok]
  unfold normsU at hok
  have HOK := Lib.hid hok
  have HK3 := Lib.hid hk3
  have HK4 := Lib.hid hk4
  have HIH := Lib.hid (fun x (hx : x ∈ n.kids) (u : World) (xu : Ext w u) vv hv => ih x hx U m _ u vv hv (Ext.trans (by assumption) xu) hU hm (hup.ext xu) (Nat.le_trans (PN.costs_mem hx) hc))
  have HX := Lib.hid hx
  unfold maxLen at hk2
  clear hok hk3 hk4 ih hx hr ha hup hc
  go_enter Tryd.func35, Tryd.ntmps35
  go_upto_region 1 with fail
  obtain ⟨w1, hw1⟩ : ∃ w1 : World, w1 = w.alloc (.cells #[.int .i64 n.tag, .slice ao n.attrs.length ac, .string n.text, .slice ka n.kids.length kc] 25) := ⟨_, rfl⟩
  rw [← hw1] at x1 bb ⊢
  clear hw1
  have B1 := Lib.hid bb
  have X1 := Lib.hid x1
  clear bb x1
  go_wp2_with fail
  go_loopw [5] (fun i wr => ∃ k : Nat, k ≤ n.kids.length ∧ i = .int .i64 k ∧ Ext w1 wr ∧ PN.norms U.length (boxU U) (lineIn (upR U)) (liIn (upR U)) (prevT n.kids k) (n.kids.drop k) = ok) (fun i _ => n.kids.length - (intOf i).toNat)
  case atStart => exact ⟨0, Nat.zero_le _, rfl, Ext.refl _, HOK.out⟩
  case round =>
    obtain ⟨k, hk, rfl, xr, hn⟩ := hrel
    have HN := Lib.hid hn
    clear hn
    have n3 := cellOf (xr.block B1.out) (i := 3) (v := .slice ka n.kids.length kc) rfl
    have XR := Lib.hid (X1.out.trans xr)
    have XW := Lib.hid xr
    clear xr
    by_cases hlt : k < n.kids.length
    · obtain ⟨x, hx⟩ : ∃ x, n.kids[k]? = some x := ⟨n.kids[k], by simp [hlt]⟩
      cases ka with
      | none => exact absurd (HK3.out rfl).1 (by omega)
      | some a =>
        obtain ⟨bk, off, sp⟩ := a
        obtain ⟨c0', c1', c2', c3', q0, q1, q2, q3, hrd⟩ := HK4.out _ rfl k x hx
        obtain ⟨y1, y2, y3, y4, en⟩ := hrd.shape
        cases en
        have hxx : Ext w0 wr := HX.out.trans XR.out
        replace q0 := hxx.cells _ _ q0
        replace q1 := hxx.cells _ _ q1
        replace q2 := hxx.cells _ _ q2
        replace q3 := hxx.cells _ _ q3
        have HCALL := Lib.hid (HIH.out x (List.mem_of_getElem? hx) wr XR.out _ hrd)
        obtain ⟨b, hb⟩ : ∃ b, normU x U = b := ⟨_, rfl⟩
        rw [hb] at HCALL
        have HST := HN.out
        rw [norms_at _ _ _ _ hx, show PN.norm U.length (boxU U) (lineIn (upR U)) (liIn (upR U)) x = b from hb] at HST
        have ST := Lib.hid HST
        rw [add_later _ _ _ (by decide)] at q1 q2 q3
        clear HST hb hxx hrd
        by_cases hk0 : k = 0
        · have hpt : prevT n.kids k = false := by rw [hk0]; rfl
          have g0 : ¬ (0 : Int) < (k : Int) := by omega
          rw [hpt] at ST
          clear hk0 hx hpt
          cases b with
          | true =>
            go_wp2_with (go_at_call 53; refine HCALL.out.mono ?_)
            rintro e w4 ⟨rfl, x4⟩
            have X4 := Lib.hid (XW.out.trans x4)
            clear x4 q0 q1 q2 q3 n3
            go_wp2_with fail
            go_roundw
            case rel => exact ⟨k + 1, by omega, by go_num, X4.out, by have := ST.out; simpa using this⟩
            case measure => simp [intOf]; omega
          | false =>
            have hr0 : ok = false := by rw [← ST.out]; simp
            subst hr0
            go_wp2_with (go_at_call 53; refine HCALL.out.mono ?_)
            rintro e w4 ⟨rfl, x4⟩
            clear q0 q1 q2 q3 n3
            go_wp2_with fail
            go_ret
            exact ⟨rfl, XR.out.trans x4⟩
        · have g0 : (0 : Int) < (k : Int) := by omega
          rcases tagB x.tag with ht | ht
          · have hwr : IntKind.i64.wrap ((k : Int) - 1) = ((k - 1 : Nat) : Int) := by rw [IntWalk.i64_left, IntWalk.wrap64_in _ (by omega)]; omega
            obtain ⟨p, hp⟩ : ∃ p, n.kids[k - 1]? = some p := ⟨_, List.getElem?_eq_getElem (show k - 1 < n.kids.length by omega)⟩
            obtain ⟨d0', d1', d2', d3', r0, _, _, _, hrp⟩ := HK4.out _ rfl (k - 1) p hp
            obtain ⟨z1, z2, z3, z4, en⟩ := hrp.shape
            cases en
            replace r0 := (HX.out.trans XR.out).cells _ _ r0
            have hpt0 : prevT n.kids k = (p.tag == 0) := by
              obtain ⟨j, rfl⟩ : ∃ j, k = j + 1 := ⟨k - 1, by omega⟩
              simp only [Nat.add_sub_cancel] at hp
              simp [prevT, hp]
            have b0 : (0 : Int) ≤ ((k - 1 : Nat) : Int) := by omega
            have b1 : ((k - 1 : Nat) : Int) < (n.kids.length : Int) := by omega
            generalize k - 1 = j at *
            rw [hpt0] at ST
            clear hp hrp hk0 hpt0 hx
            rcases tagB p.tag with hq | hq
            · have hr0 : ok = false := by rw [← ST.out, hq, ht]; simp
              subst hr0
              go_wp2_with fail
              go_ret
              exact ⟨rfl, XR.out⟩
            · rw [hq] at ST
              cases b with
              | true =>
                go_wp2_with (go_at_call 53; refine HCALL.out.mono ?_)
                rintro e w4 ⟨rfl, x4⟩
                have X4 := Lib.hid (XW.out.trans x4)
                clear x4 q0 q1 q2 q3 n3 r0
                go_wp2_with fail
                go_roundw
                case rel => exact ⟨k + 1, by omega, by go_num, X4.out, by have := ST.out; simpa using this⟩
                case measure => simp [intOf]; omega
              | false =>
                have hr0 : ok = false := by rw [← ST.out]; simp
                subst hr0
                go_wp2_with (go_at_call 53; refine HCALL.out.mono ?_)
                rintro e w4 ⟨rfl, x4⟩
                clear q0 q1 q2 q3 n3 r0
                go_wp2_with fail
                go_ret
                exact ⟨rfl, XR.out.trans x4⟩
          · rw [ht, Bool.and_false] at ST
            clear hk0 hx
            cases b with
            | true =>
              go_wp2_with (go_at_call 53; refine HCALL.out.mono ?_)
              rintro e w4 ⟨rfl, x4⟩
              have X4 := Lib.hid (XW.out.trans x4)
              clear x4 q0 q1 q2 q3 n3
              go_wp2_with fail
              go_roundw
              case rel => exact ⟨k + 1, by omega, by go_num, X4.out, by have := ST.out; simpa using this⟩
              case measure => simp [intOf]; omega
            | false =>
              have hr0 : ok = false := by rw [← ST.out]; simp
              subst hr0
              go_wp2_with (go_at_call 53; refine HCALL.out.mono ?_)
              rintro e w4 ⟨rfl, x4⟩
              clear q0 q1 q2 q3 n3
              go_wp2_with fail
              go_ret
              exact ⟨rfl, XR.out.trans x4⟩
    · obtain rfl : k = n.kids.length := by omega
      have hr1 : ok = true := by rw [← HN.out, List.drop_length]; rfl
      subst hr1
      go_wp2_with fail
      go_ret
      exact ⟨rfl, XR.out⟩
end Go.Proofs.YtdafdoodegpdhaaDoor
