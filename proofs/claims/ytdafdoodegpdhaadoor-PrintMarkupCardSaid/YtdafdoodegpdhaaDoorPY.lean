/- The statements' weigh, heavy: a plain tree that is not heavy is light, and its markup is short. No conditions. -/
import Derived.Test.YtdafdoodegpdhaaDoorPU
namespace Go.Proofs.YtdafdoodegpdhaaDoor
open Go Go.RowKit Go.BigFrame
set_option linter.unusedVariables false
set_option linter.unusedSimpArgs false

/-- light, and of short markup -/
def PN.fit (n : PN) : Prop := n.light = true ∧ n.cost ≤ n.size * 400000
def Fits (n : PN) (left r : Int) : Prop := -200 ≤ r ∧ r ≤ 2500 ∧ (0 ≤ r → n.fit ∧ r + n.size ≤ left)
theorem costA_fit {l : List (ByteArray × ByteArray)} (h : ∀ a ∈ l, a.1.size ≤ 300 ∧ a.2.size ≤ 1000) : costA l ≤ l.length * 6304 := by
  induction l with
  | nil => simp [costA]
  | cons x r ih =>
    have h1 := h x (by simp)
    have h2 := ih fun a ha => h a (by simp [ha])
    simp only [costA, List.map_cons, List.sum_cons, List.length_cons] at h2 ⊢
    omega
theorem kids_fit {l : List PN} (h : ∀ k ∈ l, k.fit) : PN.lights l = true ∧ PN.costs l ≤ PN.sizes l * 400000 := by
  induction l with
  | nil => exact ⟨rfl, by simp [PN.costs]⟩
  | cons x r ih =>
    have h1 := h x (by simp)
    have h2 := ih fun a ha => h a (by simp [ha])
    refine ⟨by simp only [PN.lights, h1.1, h2.1, Bool.and_self], ?_⟩
    have := h1.2
    have := h2.2
    simp only [PN.costs, PN.sizes]
    omega
theorem fit_of {n : PN} (h1 : n.text.size ≤ 9000) (h2 : n.attrs.length ≤ 50) (h3 : ∀ a ∈ n.attrs, a.1.size ≤ 300 ∧ a.2.size ≤ 1000) (h4 : ∀ k ∈ n.kids, k.fit) : n.fit := by
  obtain ⟨a, b⟩ := kids_fit h4
  have c := costA_fit h3
  unfold PN.fit
  rw [PN.light_eq, PN.cost_eq, PN.size_eq]
  refine ⟨by simp only [a, Bool.and_true, Bool.and_eq_true, decide_eq_true_eq]; omega, ?_⟩
  unfold costA at c
  omega
def WOk (w0 : World) (n : PN) : Prop := ∀ (left : Int) (w : World) (v : Value), RdN w0 n v → Ext w0 w → 0 ≤ left → left ≤ 2500 →
  Calls Tryd.prog 25 #[v, .int .i64 left] w fun e w' => ∃ r : Int, e = .returned (.int .i64 r) ∧ Fits n left r ∧ Ext w w'
theorem tdiv_nat (a : Nat) : ((a : Int).tdiv 64) = ((a / 64 : Nat) : Int) := by rw [Int.tdiv_eq_ediv_of_nonneg (by omega)]; omega
set_option maxHeartbeats 2000000 in
set_option maxRecDepth 100000 in
theorem weigh_of {w0 : World} {n : PN} (ih : ∀ k ∈ n.kids, WOk w0 k) : WOk w0 n := by
  intro left w v hr hx hl0 hl1
  obtain ⟨av, kv, rfl, ha, hk⟩ := hr.open
  obtain ⟨ao, ac, rfl, _⟩ := ha.len_of
  obtain ⟨ka, kc, rfl, hk1, hk2, hk3, hk4⟩ := hk
  have x1 := ((Ext.refl w).alloc (.cells #[.int .i64 n.tag, .slice ao n.attrs.length ac, .string n.text, .slice ka n.kids.length kc] 25))
  have bb := heap_alloc_new w (.cells #[.int .i64 n.tag, .slice ao n.attrs.length ac, .string n.text, .slice ka n.kids.length kc] 25)
  have HK3 := Lib.hid hk3
  have HK4 := Lib.hid hk4
  have HIH := Lib.hid ih
  have HX := Lib.hid hx
  have HA := Lib.hid ha
  unfold maxLen at hk2
  clear hk3 hk4 ih hx hr ha
  have hw1 : IntKind.i64.wrap (left - 1) = left - 1 := by rw [IntWalk.i64_left, IntWalk.wrap64_in _ (by omega)]
  go_enter Tryd.func25, Tryd.ntmps25
  go_upto_region 2 with fail
  obtain ⟨w1, hw⟩ : ∃ w1 : World, w1 = w.alloc (.cells #[.int .i64 n.tag, .slice ao n.attrs.length ac, .string n.text, .slice ka n.kids.length kc] 25) := ⟨_, rfl⟩
  rw [← hw] at x1 bb ⊢
  clear hw hw1
  have n1 := cellOf bb (i := 1) (v := .slice ao n.attrs.length ac) rfl
  have n2 := cellOf bb (i := 2) (v := .string n.text) rfl
  have n3 := cellOf bb (i := 3) (v := .slice ka n.kids.length kc) rfl
  have X1 := Lib.hid x1
  have B1 := Lib.hid bb
  clear x1 bb
  by_cases h1 : n.text.size ≤ 9000
  case neg =>
    have e1 : (9000 : Int) < (n.text.size : Int) := by omega
    clear h1
    go_wp2_with fail
    go_ret
    exact ⟨-1, rfl, ⟨by decide, by decide, fun h => absurd h (by decide)⟩, X1.out⟩
  have e1 : ¬ (9000 : Int) < (n.text.size : Int) := by omega
  by_cases h2 : n.attrs.length ≤ 50
  case neg =>
    have e2 : (50 : Int) < (n.attrs.length : Int) := by omega
    clear h2
    go_wp2_with fail
    go_ret
    exact ⟨-1, rfl, ⟨by decide, by decide, fun h => absurd h (by decide)⟩, X1.out⟩
  have e2 : ¬ (50 : Int) < (n.attrs.length : Int) := by omega
  go_wp2_with fail
  clear n2 n3
  go_loop [5] (fun i => ∃ k : Nat, k ≤ n.attrs.length ∧ i = .int .i64 k ∧ ∀ (j : Nat) a, j < k → n.attrs[j]? = some a → a.1.size ≤ 300 ∧ a.2.size ≤ 1000) (fun i => n.attrs.length - (intOf i).toNat)
  case atStart => exact ⟨0, Nat.zero_le _, rfl, fun j a hj => absurd hj (Nat.not_lt_zero _)⟩
  case round =>
    obtain ⟨k, hk, rfl, hpre⟩ := hrel
    have HP := Lib.hid hpre
    clear hpre
    by_cases hlt : k < n.attrs.length
    · obtain ⟨p, hp⟩ : ∃ p, n.attrs[k]? = some p := ⟨n.attrs[k], by simp [hlt]⟩
      cases ao with
      | none =>
        obtain ⟨_, ao', cap', e, _, h0, _⟩ := HA.out
        cases e
        exact absurd (h0 rfl).1 (by omega)
      | some a =>
        obtain ⟨bk, off, sp⟩ := a
        obtain ⟨q0, q1⟩ := ((HA.out.ext HX.out).ext X1.out).attr hp
        rw [add_later _ _ _ (by decide)] at q1
        have KP := Lib.hid hp
        clear hp
        by_cases h3 : p.1.size ≤ 300
        case neg =>
          have e3 : (300 : Int) < (p.1.size : Int) := by omega
          clear h3
          go_wp2_with fail
          go_ret
          exact ⟨-1, rfl, ⟨by decide, by decide, fun h => absurd h (by decide)⟩, X1.out⟩
        have e3 : ¬ (300 : Int) < (p.1.size : Int) := by omega
        by_cases h4 : p.2.size ≤ 1000
        case neg =>
          have e4 : (1000 : Int) < (p.2.size : Int) := by omega
          clear h4 h3
          go_wp2_with fail
          go_ret
          exact ⟨-1, rfl, ⟨by decide, by decide, fun h => absurd h (by decide)⟩, X1.out⟩
        have e4 : ¬ (1000 : Int) < (p.2.size : Int) := by omega
        go_wp2_with fail
        go_round
        case rel =>
          refine ⟨k + 1, by omega, by go_num, fun j x hj hx => ?_⟩
          rcases Nat.lt_or_ge j k with h5 | h5
          · exact HP.out j x h5 hx
          · obtain rfl : j = k := by omega
            rw [KP.out] at hx
            cases hx
            exact ⟨h3, h4⟩
        case measure => simp [intOf]; omega
    · have hat : ∀ a ∈ n.attrs, a.1.size ≤ 300 ∧ a.2.size ≤ 1000 := fun a ha => by
        obtain ⟨j, hj⟩ := List.mem_iff_getElem?.1 ha
        exact HP.out j a (by have := (List.getElem?_eq_some_iff.1 hj).1; omega) hj
      have HAT := Lib.hid hat
      have n2 := cellOf B1.out (i := 2) (v := .string n.text) rfl
      have n3 := cellOf B1.out (i := 3) (v := .slice ka n.kids.length kc) rfl
      have hd : (n.text.size : Int).tdiv 64 = ((n.text.size / 64 : Nat) : Int) := tdiv_nat _
      obtain ⟨t, ht⟩ : ∃ t : Nat, n.text.size / 64 = t := ⟨_, rfl⟩
      have ht2 : t ≤ 150 := by omega
      rw [ht] at hd
      have hw2 : IntKind.i64.wrap ((t : Int)) = (t : Int) := by rw [IntWalk.i64_left, IntWalk.wrap64_in _ (by omega)]
      have hw3 : IntKind.i64.wrap (left - 1 - (t : Int)) = left - 1 - (t : Int) := by rw [IntWalk.i64_left, IntWalk.wrap64_in _ (by omega)]
      clear hat ht
      go_wp2_with fail
      have H1 := Lib.hid h1
      have H2 := Lib.hid h2
      have HT2 := Lib.hid ht2
      clear n1 n2 n3 hd hw2 hw3 h1 h2 ht2 e1 e2
      go_loopw [1, 6] (fun lv i wr => ∃ (k : Nat) (lk : Int), k ≤ n.kids.length ∧ lv = .int .i64 lk ∧ i = .int .i64 k ∧ Ext w1 wr ∧ (-200 ≤ lk ∧ lk ≤ 2500) ∧ (0 ≤ lk → (∀ (j : Nat) x, j < k → n.kids[j]? = some x → x.fit) ∧ lk + PN.sizes (n.kids.take k) + 1 ≤ left)) (fun _ i _ => n.kids.length - (intOf i).toNat)
      case atStart => exact ⟨0, left - 1 - t, Nat.zero_le _, rfl, rfl, Ext.refl _, by have := HT2.out; omega, fun h => ⟨fun j x hj => absurd hj (Nat.not_lt_zero _), by simp [PN.sizes]; omega⟩⟩
      case round =>
        obtain ⟨k, lk, hk, rfl, rfl, xr, hlk, hpre⟩ := hrel
        have HP := Lib.hid hpre
        have XR := Lib.hid (X1.out.trans xr)
        have XRR := Lib.hid xr
        have n3 := xr.cell (cellOf B1.out (i := 3) (v := .slice ka n.kids.length kc) rfl)
        clear hpre xr
        by_cases hlt : k < n.kids.length
        · by_cases hneg : (0 : Int) ≤ lk
          · obtain ⟨x, hx⟩ : ∃ x, n.kids[k]? = some x := ⟨n.kids[k], by simp [hlt]⟩
            cases ka with
            | none => exact absurd (HK3.out rfl).1 (by omega)
            | some a =>
              obtain ⟨bk, off, sp⟩ := a
              obtain ⟨c0', c1', c2', c3', q0, q1, q2, q3, hrd⟩ := HK4.out _ rfl k x hx
              obtain ⟨y1, y2, y3, y4, en⟩ := hrd.shape
              cases en
              have hxx : Ext w0 wr := HX.out.trans XR.out
              replace q0 := hxx.cells _ _ q0
              replace q1 := hxx.cells _ _ q1
              replace q2 := hxx.cells _ _ q2
              replace q3 := hxx.cells _ _ q3
              rw [add_later _ _ _ (by decide)] at q1 q2 q3
              have HC := Lib.hid (HIH.out x (List.mem_of_getElem? hx) lk wr _ hrd hxx hneg hlk.2)
              have KX := Lib.hid hx
              clear hrd hxx hx
              go_wp2_with fail
              refine HC.out.mono ?_
              rintro e w4 ⟨r, rfl, hf, x4⟩
              have HF := Lib.hid hf
              have X4 := Lib.hid (XRR.out.trans x4)
              clear hf x4 q0 q1 q2 q3 n3
              go_wp2_with fail
              go_roundw
              case rel =>
                refine ⟨k + 1, r, by omega, rfl, by go_num, X4.out, ⟨HF.out.1, HF.out.2.1⟩, fun h0 => ?_⟩
                obtain ⟨a1, a2⟩ := HP.out hneg
                obtain ⟨b1, b2⟩ := HF.out.2.2 h0
                have hs : PN.sizes (n.kids.take (k + 1)) = PN.sizes (n.kids.take k) + x.size := by
                  obtain ⟨hlt', hxe⟩ := List.getElem?_eq_some_iff.1 KX.out
                  rw [List.take_succ_eq_append_getElem hlt', hxe, sizes_append]; simp [PN.sizes]
                refine ⟨fun j y hj hy => ?_, by rw [hs]; omega⟩
                rcases Nat.lt_or_ge j k with h5 | h5
                · exact a1 j y h5 hy
                · obtain rfl : j = k := by omega
                  rw [KX.out] at hy
                  cases hy
                  exact b1
              case measure => simp [intOf]; omega
          · go_wp2_with fail
            go_ret
            exact ⟨lk, rfl, ⟨hlk.1, hlk.2, fun h => absurd h (by omega)⟩, XR.out⟩
        · obtain rfl : k = n.kids.length := by omega
          go_wp2_with fail
          go_ret
          refine ⟨lk, rfl, ⟨hlk.1, hlk.2, fun h => ?_⟩, XR.out⟩
          obtain ⟨a1, a2⟩ := HP.out h
          rw [List.take_length] at a2
          refine ⟨fit_of H1.out H2.out HAT.out fun y hy => ?_, by rw [PN.size_eq]; omega⟩
          obtain ⟨j, hj⟩ := List.mem_iff_getElem?.1 hy
          exact a1 j y (List.getElem?_eq_some_iff.1 hj).1 hj
theorem weigh_any (w0 : World) : ∀ n : PN, WOk w0 n := by
  refine PN.induct _ fun n ih => weigh_of ih
set_option maxHeartbeats 1000000 in
set_option maxRecDepth 100000 in
/-- heavy: an answer; no is the answer of a light one alone -/
theorem heavy_any (n : PN) (v : Value) (w : World) (hr : RdN w n v) : Calls Tryd.prog 8 #[v] w fun e w' => ∃ b : Bool, e = .returned (.bool b) ∧ (b = false → n.fit ∧ n.size ≤ 2500) ∧ Ext w w' := by
  obtain ⟨y1, y2, y3, y4, rfl⟩ := hr.shape
  have x1 := ((Ext.refl w).alloc (.cells #[.int .i64 n.tag, .slice y1 n.attrs.length y2, .string n.text, .slice y3 n.kids.length y4] 25))
  have bb := heap_alloc_new w (.cells #[.int .i64 n.tag, .slice y1 n.attrs.length y2, .string n.text, .slice y3 n.kids.length y4] 25)
  have HR := Lib.hid hr
  clear hr
  go_enter Tryd.func8, Tryd.ntmps8
  go_upto_region 1 with fail
  obtain ⟨w1, hw⟩ : ∃ w1 : World, w1 = w.alloc (.cells #[.int .i64 n.tag, .slice y1 n.attrs.length y2, .string n.text, .slice y3 n.kids.length y4] 25) := ⟨_, rfl⟩
  rw [← hw] at x1 bb ⊢
  clear hw
  have n0 := cellOf bb (i := 0) (v := .int .i64 n.tag) rfl
  have n1 := cellOf bb (i := 1) (v := .slice y1 n.attrs.length y2) rfl
  have n2 := cellOf bb (i := 2) (v := .string n.text) rfl
  have n3 := cellOf bb (i := 3) (v := .slice y3 n.kids.length y4) rfl
  have HC := Lib.hid (weigh_any w n 2500 w1 _ HR.out x1 (by decide) (by decide))
  have X1 := Lib.hid x1
  clear x1 bb
  go_wp2_with fail
  refine HC.out.mono ?_
  rintro e w2 ⟨r, rfl, hf, x2⟩
  have HF := Lib.hid hf
  have X2 := Lib.hid (X1.out.trans x2)
  clear hf x2 n0 n1 n2 n3
  go_wp2_with fail
  go_ret
  refine ⟨decide (r < 0), rfl, fun h => ?_, X2.out⟩
  have h0 : 0 ≤ r := by simpa using h
  obtain ⟨a, b⟩ := HF.out.2.2 h0
  exact ⟨a, by omega⟩
end Go.Proofs.YtdafdoodegpdhaaDoor
