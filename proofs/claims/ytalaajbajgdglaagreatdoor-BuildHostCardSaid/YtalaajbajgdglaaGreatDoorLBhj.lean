/- what of ZP Z1 Z2 Z3 BA BB BC BD BE BF BG BH BI BJ BK BL BM BN BO BP BQ BR NA NC NB ND NE NF BS BT ZY BV BW BY Z4 CA CB CC CD TA TB TC TD TE TF TG TK TH TI is leant on -/
import Derived.Test.YtalaajbajgdglaaGreatDoorLBhi
set_option linter.unusedVariables false
set_option linter.unusedSimpArgs false
set_option maxRecDepth 1000000
set_option maxHeartbeats 8000000
namespace Go.Proofs.YtalaajbajgdglaaGreatDoor
open Go Go.RowKit Go.BigFrame We
def LowR (all : RL) : Prop := ∀ (i : Nat) (r : RR), all[i]? = some r → r.up < (i : Int)
def kidP (all : RL) (o j : Nat) : Bool := decide (o < j) && (match all[j]? with | none => false | some r => r.up == (o : Int))
def lastTo (all : RL) (o n : Nat) : Option Nat := ((List.range n).filter (kidP all o)).getLast?
theorem lastTo_succ (all : RL) (o n : Nat) : lastTo all o (n + 1) = if kidP all o n then some n else lastTo all o n := by
  unfold lastTo
  rw [List.range_succ, List.filter_append]
  cases h : kidP all o n
  · simp [h]
  · simp [h]
theorem lastI_to (all : RL) (o : Nat) : lastI all o = lastTo all o all.length := rfl
def lastZ (all : RL) (o : Nat) : Int := match lastI all o with
  | none => -1
  | some k => k
theorem kidP_of {all : RL} (hl : LowR all) {o j : Nat} {r : RR} (h : all[j]? = some r) : kidP all o j = (r.up == (o : Int)) := by
  unfold kidP
  rw [h]
  cases e : (r.up == (o : Int))
  · simp [e]
  · have h1 := hl j r h
    have h2 : r.up = (o : Int) := by simpa using e
    have : o < j := by omega
    simp [this, h2]
theorem rlast_any {g0 w : World} {bb : Nat} {L : List RRA} {O : List Nat} {lv ov : Value} {gb : Option Nat} (h : SM g0 bb L O lv ov gb w) (hs : L.length ≤ 100000) (hL : 0 < L.length) {all : RL} (ha : L.map Prod.fst = all) (hlow : LowR all) (o : Nat) :
    Calls Tryz.prog 70 #[.pointer (some ⟨bb, 0, none⟩), .int .i64 o] w (RVal (.int .i64 (lastZ all o)) w) := by
  have hal : all.length = L.length := by rw [← ha, List.length_map]
  obtain ⟨z, hz⟩ : ∃ z, lastZ all o = z := ⟨_, rfl⟩
  rw [hz]
  have HLow := qh hlow
  have HAL := qh ha
  have hst : ∃ k : Nat, k + 1 = L.length ∧ lastI all o = lastTo all o (k + 1) := ⟨L.length - 1, by omega, by rw [lastI_to, hal]; congr 1; omega⟩
  obtain ⟨M, hM, hMl⟩ := hst
  have HM := qh (And.intro hM hMl)
  have HZ := qh hz
  have HH := qh h
  obtain ⟨b0, _⟩ := h.boxes
  obtain ⟨g, cap, cur, _, _, _, rfl, _⟩ := h.some_ hL
  rw [← hM] at b0
  have hs' : M ≤ 100000 := by omega
  have eM : IntKind.i64.wrap ((M + 1 : Nat) - 1 : Int) = (M : Int) := by rw [show (((M + 1 : Nat) : Int) - 1) = (M : Int) by omega]; exact IntWalk.i64_in _ (by omega)
  clear hlow ha hal hz hM hMl h hs hL
  go_enter Tryz.func70, Tryz.ntmps70
  go_wp2_with fail
  go_loopw [5] (fun i wr => ∃ k : Nat, k ≤ M ∧ i = .int .i64 k ∧ Ext w wr ∧ lastI all o = lastTo all o (k + 1)) (fun i _ => (intOf i).toNat)
  case atStart => exact ⟨M, Nat.le_refl _, by go_num, Ext.refl _, HM.out.2⟩
  case round =>
    obtain ⟨k, hk, rfl, xr, hd⟩ := hrel
    have XR := qh xr
    have HD := qh hd
    have SR := qh (HH.out.to xr)
    replace b0 := xr.cells _ _ b0
    clear xr hd
    by_cases hk0 : 0 < k
    · have e0 : decide ((k : Int) > 0) = true := decide_eq_true (by omega)
      have e1 : decide (0 < k) = true := decide_eq_true hk0
      have e2 : decide (0 < (k : Int)) = true := decide_eq_true (by omega)
      obtain ⟨p, hp⟩ : ∃ p, L[k]? = some p := ⟨L[k]'(by have := HM.out.1; omega), by simp⟩
      obtain ⟨g', cap', e, _, _, _, _, _, q4⟩ := SR.out.nd hp
      cases e
      have hpa : all[k]? = some p.1 := by rw [← HAL.out, List.getElem?_map, hp]; rfl
      have hkp := kidP_of HLow.out (o := o) hpa
      have hstep := lastTo_succ all o k
      rw [hkp] at hstep
      have HST := qh hstep
      have hkM : k < M + 1 := by omega
      clear hp hpa hkp hstep
      rcases bcases (p.1.up == (o : Int)) with e | e
      · have hzz : z = (k : Int) := by
          have h1 := HD.out
          rw [HST.out, if_pos e] at h1
          rw [← HZ.out]
          unfold lastZ
          rw [h1]
        subst hzz
        go_wp2_with fail
        go_ret
        exact ⟨rfl, XR.out⟩
      · have h1 := HD.out
        rw [HST.out, if_neg (by rw [e]; decide)] at h1
        have H1 := qh h1
        clear h1
        obtain ⟨k', rfl⟩ : ∃ k', k = k' + 1 := ⟨k - 1, by omega⟩
        have ek : IntKind.i64.wrap (((k' + 1 : Nat) : Int) - 1) = (k' : Int) := by rw [show (((k' + 1 : Nat) : Int) - 1) = (k' : Int) by omega]; exact IntWalk.i64_in _ (by omega)
        go_wp2_with fail
        go_roundw
        case rel => exact ⟨k', by omega, by go_num, XR.out, H1.out⟩
        case measure => simp [intOf]
    · obtain rfl : k = 0 := by omega
      have hzz : z = -1 := by
        have h1 := HD.out
        rw [lastTo_succ, show kidP all o 0 = false by unfold kidP; simp] at h1
        rw [← HZ.out]
        unfold lastZ
        rw [h1]
        rfl
      subst hzz
      go_wp2_with fail
      go_ret
      exact ⟨rfl, XR.out⟩
def tagsO (all : RL) (O : List Nat) : List Int := O.reverse.map (tagQ all)
def leftN (is stops : Int → Bool) (all : RL) (O : List Nat) : Nat := O.length - closeC is stops (tagsO all O)
def leftAt (is stops : Int → Bool) (all : RL) (O : List Nat) (j : Nat) : Nat := if closeC is stops (tagsO all (O.take (j + 1))) = 0 then O.length else j + 1 - closeC is stops (tagsO all (O.take (j + 1)))
theorem leftAt_all (is stops : Int → Bool) (all : RL) {O : List Nat} {j : Nat} (h : j + 1 = O.length) : leftAt is stops all O j = leftN is stops all O := by
  unfold leftAt leftN
  rw [h, List.take_length]
  split
  · omega
  · rfl
theorem leftAt_zero (is stops : Int → Bool) (all : RL) (O : List Nat) : leftAt is stops all O 0 = O.length := by
  unfold leftAt
  cases O with
  | nil => rfl
  | cons o O => exact if_pos rfl
theorem leftAt_succ (is stops : Int → Bool) (all : RL) {O : List Nat} {j o : Nat} (h : O[j + 1]? = some o) :
    leftAt is stops all O (j + 1) = if is (tagQ all o) then j + 1 else if stops (tagQ all o) then O.length else leftAt is stops all O j := by
  obtain ⟨hl, he⟩ := List.getElem?_eq_some_iff.1 h
  have e1 : tagsO all (O.take (j + 1 + 1)) = tagQ all o :: tagsO all (O.take (j + 1)) := by
    unfold tagsO
    rw [List.take_succ_eq_append_getElem hl, he, List.reverse_append]
    rfl
  have hne : tagsO all (O.take (j + 1)) ≠ [] := by
    intro e
    have := congrArg List.length e
    unfold tagsO at this
    rw [List.length_map, List.length_reverse, List.length_take, List.length_nil] at this
    omega
  obtain ⟨u, r, hur⟩ := List.exists_cons_of_ne_nil hne
  have hcl : ∀ t, closeC is stops (t :: u :: r) = if stops t && !is t then 0 else if is t then 1 else match closeC is stops (u :: r) with
    | 0 => 0
    | n + 1 => n + 2 := fun t => rfl
  unfold leftAt
  rw [e1, hur, hcl]
  cases hi : is (tagQ all o)
  · cases hs : stops (tagQ all o)
    · simp only [Bool.false_and, Bool.false_eq_true, ite_false]
      cases hc : closeC is stops (u :: r) with
      | zero => simp
      | succ n =>
        dsimp only
        rw [if_neg (by omega : ¬ n + 2 = 0), if_neg (by omega : ¬ n + 1 = 0)]
        exact Nat.add_sub_add_right (j + 1) 1 (n + 1)
    · simp
  · simp

theorem left0_any {g0 w : World} {bb : Nat} {L : List RRA} {O : List Nat} {lv ov : Value} {gb : Option Nat} (h : SM g0 bb L O lv ov gb w) (hs : L.length ≤ 100000 ∧ O.length ≤ 100000) (hO : 0 < O.length) {all : RL} (ha : L.map Prod.fst = all) (hlt : ∀ o ∈ O, o < L.length) (tag : Int) :
    Calls Tryz.prog 31 #[.pointer (some ⟨bb, 0, none⟩), .int .i64 0, .int .i64 tag] w (RVal (.int .i64 (leftN isPH stPH all O : Nat)) w) := by
  obtain ⟨R, hR⟩ : ∃ R, leftN isPH stPH all O = R := ⟨_, rfl⟩
  rw [hR]
  obtain ⟨M, hM⟩ : ∃ M, O.length = M + 1 := ⟨O.length - 1, by omega⟩
  have hst := leftAt_all isPH stPH all (O := O) (j := M) hM.symm
  rw [hR] at hst
  have HST := qh hst
  have HAL := qh ha
  have HLT := qh hlt
  have HH := qh h
  have HS := qh hs
  have HM := qh hM
  obtain ⟨_, b1⟩ := h.boxes
  obtain ⟨go, oc, _, rfl, _⟩ := h.at hO
  rw [hM] at b1
  have hs' : M ≤ 100000 := by have := hs.2; omega
  have eM : IntKind.i64.wrap (((M + 1 : Nat) : Int) - 1) = (M : Int) := by rw [show (((M + 1 : Nat) : Int) - 1) = (M : Int) by omega]; exact IntWalk.i64_in _ (by omega)
  clear ha hlt hst hR hM h hs hO
  go_enter Tryz.func31, Tryz.ntmps31
  go_wp2_with fail
  go_loopw [7] (fun i wr => ∃ k : Nat, k ≤ M ∧ i = .int .i64 k ∧ Ext w wr ∧ leftAt isPH stPH all O k = R) (fun i _ => (intOf i).toNat)
  case atStart => exact ⟨M, Nat.le_refl _, by go_num, Ext.refl _, HST.out⟩
  case round =>
    obtain ⟨k, hk, rfl, xr, hd⟩ := hrel
    have XR := qh xr
    have HD := qh hd
    replace b1 := xr.cells _ _ b1
    clear xr hd
    by_cases hk0 : 0 < k
    · have e0 : decide ((k : Int) > 0) = true := decide_eq_true (by omega)
      have e1 : decide (0 < k) = true := decide_eq_true hk0
      have e2 : decide (0 < (k : Int)) = true := decide_eq_true (by omega)
      obtain ⟨j, rfl⟩ : ∃ j, k = j + 1 := ⟨k - 1, by omega⟩
      have ek : IntKind.i64.wrap (((j + 1 : Nat) : Int) - 1) = (j : Int) := by rw [show (((j + 1 : Nat) : Int) - 1) = (j : Int) by omega]; exact IntWalk.i64_in _ (by omega)
      obtain ⟨o, ho⟩ : ∃ o, O[j + 1]? = some o := ⟨O[j + 1]'(by have := HM.out; omega), by simp⟩
      obtain ⟨p, hp⟩ : ∃ p, L[o]? = some p := ⟨L[o]'(HLT.out o (List.mem_of_getElem? ho)), by simp⟩
      have htq : tagQ all o = p.1.tag := by
        unfold tagQ
        rw [← HAL.out, List.getElem?_map, hp]
        rfl
      have hstep := leftAt_succ isPH stPH all ho
      rw [htq, HD.out] at hstep
      have HTG := qh (rtag_any (HH.out.to XR.out) HS.out ho hp)
      obtain ⟨x, hx⟩ : ∃ x, p.1.tag = x := ⟨_, rfl⟩
      rw [hx] at hstep HTG
      have HSTP := qh hstep
      have HCL := qh (fun W => rClass_any W x)
      obtain ⟨c, hc⟩ : ∃ c, clsT x = c := ⟨_, rfl⟩
      have HC := qh hc
      rw [hc] at HCL
      clear ho hp htq hstep hx hc HST
      go_wp2_with (go_at_call 73; refine HTG.out.mono ?_)
      rintro e w1 ⟨rfl, x1⟩
      have X1 := qh (XR.out.trans x1)
      replace b1 := x1.cells _ _ b1
      clear x1
      go_wp2_with (go_at_call 39; refine (HCL.out _).mono ?_)
      rintro e w2 ⟨rfl, x2⟩
      have X2 := qh (X1.out.trans x2)
      replace b1 := x2.cells _ _ b1
      clear x2

      by_cases hi : 2 ≤ x ∧ x ≤ 5
      · have t1 : decide (x ≥ 2) = true := decide_eq_true hi.1
        have t2 : decide (2 ≤ x) = true := decide_eq_true hi.1
        have t3 : decide (x ≤ 5) = true := decide_eq_true hi.2
        have his : isPH x = true := by unfold isPH headT; simp; omega
        clear hi
        have hRR : j + 1 = R := by rw [HSTP.out]; rw [if_pos his]
        subst hRR
        go_wp2_with fail
        go_ret
        exact ⟨rfl, X2.out⟩
      · have his : ¬ isPH x = true := by unfold isPH headT; simp; omega
        have go : ∀ {K : Prop}, (∀ (t1 : decide (x ≥ 2) = true) (t2 : decide (2 ≤ x) = true) (t3 : decide (x ≤ 5) = false), K) → (∀ (t1 : decide (x ≥ 2) = false) (t2 : decide (2 ≤ x) = false), K) → K := by
          intro K k1 k2
          by_cases h2 : 2 ≤ x
          · exact k1 (decide_eq_true h2) (decide_eq_true h2) (decide_eq_false (by omega))
          · exact k2 (decide_eq_false h2) (decide_eq_false h2)
        clear hi
        rcases bcases (c == 2) with s1 | s1
        · have hst : stPH x = true := by unfold stPH boxT; rw [HC.out, s1]; rfl
          refine go (fun t1 t2 t3 => ?_) (fun t1 t2 => ?_)
          · clear go
            have hRR : M + 1 = R := by rw [HSTP.out]; rw [if_neg his, if_pos hst, HM.out]
            subst hRR
            go_wp2_with fail
            go_ret
            exact ⟨rfl, X2.out⟩
          · clear go
            have hRR : M + 1 = R := by rw [HSTP.out]; rw [if_neg his, if_pos hst, HM.out]
            subst hRR
            go_wp2_with fail
            go_ret
            exact ⟨rfl, X2.out⟩
        · rcases bcases (x == 9) with s2 | s2
          · have hst : stPH x = true := by unfold stPH; rw [s2]; simp
            refine go (fun t1 t2 t3 => ?_) (fun t1 t2 => ?_)
            · clear go
              have hRR : M + 1 = R := by rw [HSTP.out]; rw [if_neg his, if_pos hst, HM.out]
              subst hRR
              go_wp2_with fail
              go_ret
              exact ⟨rfl, X2.out⟩
            · clear go
              have hRR : M + 1 = R := by rw [HSTP.out]; rw [if_neg his, if_pos hst, HM.out]
              subst hRR
              go_wp2_with fail
              go_ret
              exact ⟨rfl, X2.out⟩
          · have hst : ¬ stPH x = true := by unfold stPH boxT; rw [HC.out, s1, s2]; decide
            refine go (fun t1 t2 t3 => ?_) (fun t1 t2 => ?_)
            · clear go
              have hRR : leftAt isPH stPH all O j = R := by rw [HSTP.out]; rw [if_neg his, if_neg hst]
              have HRR := qh hRR
              clear hRR
              go_wp2_with fail
              go_roundw
              case rel => exact ⟨j, by omega, by go_num, X2.out, HRR.out⟩
              case measure => simp [intOf]
            · clear go
              have hRR : leftAt isPH stPH all O j = R := by rw [HSTP.out]; rw [if_neg his, if_neg hst]
              have HRR := qh hRR
              clear hRR
              go_wp2_with fail
              go_roundw
              case rel => exact ⟨j, by omega, by go_num, X2.out, HRR.out⟩
              case measure => simp [intOf]
    · obtain rfl : k = 0 := by omega
      have hRR : R = M + 1 := by rw [← HD.out, leftAt_zero, HM.out]
      subst hRR
      go_wp2_with fail
      go_ret
      exact ⟨rfl, XR.out⟩
theorem left1_any {g0 w : World} {bb : Nat} {L : List RRA} {O : List Nat} {lv ov : Value} {gb : Option Nat} (h : SM g0 bb L O lv ov gb w) (hs : L.length ≤ 100000 ∧ O.length ≤ 100000) (hO : 0 < O.length) {all : RL} (ha : L.map Prod.fst = all) (hlt : ∀ o ∈ O, o < L.length) (tag : Int) :
    Calls Tryz.prog 31 #[.pointer (some ⟨bb, 0, none⟩), .int .i64 1, .int .i64 tag] w (RVal (.int .i64 (leftN isLi stLi all O : Nat)) w) := by
  obtain ⟨R, hR⟩ : ∃ R, leftN isLi stLi all O = R := ⟨_, rfl⟩
  rw [hR]
  obtain ⟨M, hM⟩ : ∃ M, O.length = M + 1 := ⟨O.length - 1, by omega⟩
  have hst := leftAt_all isLi stLi all (O := O) (j := M) hM.symm
  rw [hR] at hst
  have HST := qh hst
  have HAL := qh ha
  have HLT := qh hlt
  have HH := qh h
  have HS := qh hs
  have HM := qh hM
  obtain ⟨_, b1⟩ := h.boxes
  obtain ⟨go, oc, _, rfl, _⟩ := h.at hO
  rw [hM] at b1
  have hs' : M ≤ 100000 := by have := hs.2; omega
  have eM : IntKind.i64.wrap (((M + 1 : Nat) : Int) - 1) = (M : Int) := by rw [show (((M + 1 : Nat) : Int) - 1) = (M : Int) by omega]; exact IntWalk.i64_in _ (by omega)
  clear ha hlt hst hR hM h hs hO
  go_enter Tryz.func31, Tryz.ntmps31
  go_wp2_with fail
  go_loopw [7] (fun i wr => ∃ k : Nat, k ≤ M ∧ i = .int .i64 k ∧ Ext w wr ∧ leftAt isLi stLi all O k = R) (fun i _ => (intOf i).toNat)
  case atStart => exact ⟨M, Nat.le_refl _, by go_num, Ext.refl _, HST.out⟩
  case round =>
    obtain ⟨k, hk, rfl, xr, hd⟩ := hrel
    have XR := qh xr
    have HD := qh hd
    replace b1 := xr.cells _ _ b1
    clear xr hd
    by_cases hk0 : 0 < k
    · have e0 : decide ((k : Int) > 0) = true := decide_eq_true (by omega)
      have e1 : decide (0 < k) = true := decide_eq_true hk0
      have e2 : decide (0 < (k : Int)) = true := decide_eq_true (by omega)
      obtain ⟨j, rfl⟩ : ∃ j, k = j + 1 := ⟨k - 1, by omega⟩
      have ek : IntKind.i64.wrap (((j + 1 : Nat) : Int) - 1) = (j : Int) := by rw [show (((j + 1 : Nat) : Int) - 1) = (j : Int) by omega]; exact IntWalk.i64_in _ (by omega)
      obtain ⟨o, ho⟩ : ∃ o, O[j + 1]? = some o := ⟨O[j + 1]'(by have := HM.out; omega), by simp⟩
      obtain ⟨p, hp⟩ : ∃ p, L[o]? = some p := ⟨L[o]'(HLT.out o (List.mem_of_getElem? ho)), by simp⟩
      have htq : tagQ all o = p.1.tag := by
        unfold tagQ
        rw [← HAL.out, List.getElem?_map, hp]
        rfl
      have hstep := leftAt_succ isLi stLi all ho
      rw [htq, HD.out] at hstep
      have HTG := qh (rtag_any (HH.out.to XR.out) HS.out ho hp)
      obtain ⟨x, hx⟩ : ∃ x, p.1.tag = x := ⟨_, rfl⟩
      rw [hx] at hstep HTG
      have HSTP := qh hstep
      have HCL := qh (fun W => rClass_any W x)
      obtain ⟨c, hc⟩ : ∃ c, clsT x = c := ⟨_, rfl⟩
      have HC := qh hc
      rw [hc] at HCL
      clear ho hp htq hstep hx hc HST
      go_wp2_with (go_at_call 73; refine HTG.out.mono ?_)
      rintro e w1 ⟨rfl, x1⟩
      have X1 := qh (XR.out.trans x1)
      replace b1 := x1.cells _ _ b1
      clear x1
      go_wp2_with (go_at_call 39; refine (HCL.out _).mono ?_)
      rintro e w2 ⟨rfl, x2⟩
      have X2 := qh (X1.out.trans x2)
      replace b1 := x2.cells _ _ b1
      clear x2

      rcases bcases (x == 9) with s1 | s1
      · have his : isLi x = true := s1
        have hRR : j + 1 = R := by rw [HSTP.out]; rw [if_pos his]
        subst hRR
        go_wp2_with fail
        go_ret
        exact ⟨rfl, X2.out⟩
      · have his : ¬ isLi x = true := by unfold isLi; rw [s1]; decide
        rcases bcases (x == 7) with s2 | s2
        · have hst : stLi x = true := by unfold stLi; rw [s2]; rfl
          have hRR : M + 1 = R := by rw [HSTP.out]; rw [if_neg his, if_pos hst, HM.out]
          subst hRR
          go_wp2_with fail
          go_ret
          exact ⟨rfl, X2.out⟩
        · rcases bcases (x == 8) with s3 | s3
          · have hst : stLi x = true := by unfold stLi; rw [s2, s3]; rfl
            have hRR : M + 1 = R := by rw [HSTP.out]; rw [if_neg his, if_pos hst, HM.out]
            subst hRR
            go_wp2_with fail
            go_ret
            exact ⟨rfl, X2.out⟩
          · have hst : ¬ stLi x = true := by unfold stLi; rw [s2, s3]; decide
            have hRR : leftAt isLi stLi all O j = R := by rw [HSTP.out]; rw [if_neg his, if_neg hst]
            have HRR := qh hRR
            clear hRR
            go_wp2_with fail
            go_roundw
            case rel => exact ⟨j, by omega, by go_num, X2.out, HRR.out⟩
            case measure => simp [intOf]
    · obtain rfl : k = 0 := by omega
      have hRR : R = M + 1 := by rw [← HD.out, leftAt_zero, HM.out]
      subst hRR
      go_wp2_with fail
      go_ret
      exact ⟨rfl, XR.out⟩
theorem left2_any {g0 w : World} {bb : Nat} {L : List RRA} {O : List Nat} {lv ov : Value} {gb : Option Nat} (h : SM g0 bb L O lv ov gb w) (hs : L.length ≤ 100000 ∧ O.length ≤ 100000) (hO : 0 < O.length) {all : RL} (ha : L.map Prod.fst = all) (hlt : ∀ o ∈ O, o < L.length) (tag : Int) :
    Calls Tryz.prog 31 #[.pointer (some ⟨bb, 0, none⟩), .int .i64 2, .int .i64 tag] w (RVal (.int .i64 (leftN (· == tag) (fun _ => false) all O : Nat)) w) := by
  obtain ⟨R, hR⟩ : ∃ R, leftN (· == tag) (fun _ => false) all O = R := ⟨_, rfl⟩
  rw [hR]
  obtain ⟨M, hM⟩ : ∃ M, O.length = M + 1 := ⟨O.length - 1, by omega⟩
  have hst := leftAt_all (· == tag) (fun _ => false) all (O := O) (j := M) hM.symm
  rw [hR] at hst
  have HST := qh hst
  have HAL := qh ha
  have HLT := qh hlt
  have HH := qh h
  have HS := qh hs
  have HM := qh hM
  obtain ⟨_, b1⟩ := h.boxes
  obtain ⟨go, oc, _, rfl, _⟩ := h.at hO
  rw [hM] at b1
  have hs' : M ≤ 100000 := by have := hs.2; omega
  have eM : IntKind.i64.wrap (((M + 1 : Nat) : Int) - 1) = (M : Int) := by rw [show (((M + 1 : Nat) : Int) - 1) = (M : Int) by omega]; exact IntWalk.i64_in _ (by omega)
  clear ha hlt hst hR hM h hs hO
  go_enter Tryz.func31, Tryz.ntmps31
  go_wp2_with fail
  go_loopw [7] (fun i wr => ∃ k : Nat, k ≤ M ∧ i = .int .i64 k ∧ Ext w wr ∧ leftAt (· == tag) (fun _ => false) all O k = R) (fun i _ => (intOf i).toNat)
  case atStart => exact ⟨M, Nat.le_refl _, by go_num, Ext.refl _, HST.out⟩
  case round =>
    obtain ⟨k, hk, rfl, xr, hd⟩ := hrel
    have XR := qh xr
    have HD := qh hd
    replace b1 := xr.cells _ _ b1
    clear xr hd
    by_cases hk0 : 0 < k
    · have e0 : decide ((k : Int) > 0) = true := decide_eq_true (by omega)
      have e1 : decide (0 < k) = true := decide_eq_true hk0
      have e2 : decide (0 < (k : Int)) = true := decide_eq_true (by omega)
      obtain ⟨j, rfl⟩ : ∃ j, k = j + 1 := ⟨k - 1, by omega⟩
      have ek : IntKind.i64.wrap (((j + 1 : Nat) : Int) - 1) = (j : Int) := by rw [show (((j + 1 : Nat) : Int) - 1) = (j : Int) by omega]; exact IntWalk.i64_in _ (by omega)
      obtain ⟨o, ho⟩ : ∃ o, O[j + 1]? = some o := ⟨O[j + 1]'(by have := HM.out; omega), by simp⟩
      obtain ⟨p, hp⟩ : ∃ p, L[o]? = some p := ⟨L[o]'(HLT.out o (List.mem_of_getElem? ho)), by simp⟩
      have htq : tagQ all o = p.1.tag := by
        unfold tagQ
        rw [← HAL.out, List.getElem?_map, hp]
        rfl
      have hstep := leftAt_succ (· == tag) (fun _ => false) all ho
      rw [htq, HD.out] at hstep
      have HTG := qh (rtag_any (HH.out.to XR.out) HS.out ho hp)
      obtain ⟨x, hx⟩ : ∃ x, p.1.tag = x := ⟨_, rfl⟩
      rw [hx] at hstep HTG
      have HSTP := qh hstep
      have HCL := qh (fun W => rClass_any W x)
      obtain ⟨c, hc⟩ : ∃ c, clsT x = c := ⟨_, rfl⟩
      have HC := qh hc
      rw [hc] at HCL
      clear ho hp htq hstep hx hc HST
      go_wp2_with (go_at_call 73; refine HTG.out.mono ?_)
      rintro e w1 ⟨rfl, x1⟩
      have X1 := qh (XR.out.trans x1)
      replace b1 := x1.cells _ _ b1
      clear x1
      go_wp2_with (go_at_call 39; refine (HCL.out _).mono ?_)
      rintro e w2 ⟨rfl, x2⟩
      have X2 := qh (X1.out.trans x2)
      replace b1 := x2.cells _ _ b1
      clear x2

      rcases bcases (x == tag) with s1 | s1
      · have hRR : j + 1 = R := by rw [HSTP.out]; rw [if_pos s1]
        subst hRR
        go_wp2_with fail
        go_ret
        exact ⟨rfl, X2.out⟩
      · have his : ¬ (x == tag) = true := by rw [s1]; decide
        have hRR : leftAt (· == tag) (fun _ => false) all O j = R := by rw [HSTP.out]; rw [if_neg his, if_neg (by decide)]
        have HRR := qh hRR
        clear hRR
        go_wp2_with fail
        go_roundw
        case rel => exact ⟨j, by omega, by go_num, X2.out, HRR.out⟩
        case measure => simp [intOf]
    · obtain rfl : k = 0 := by omega
      have hRR : R = M + 1 := by rw [← HD.out, leftAt_zero, HM.out]
      subst hRR
      go_wp2_with fail
      go_ret
      exact ⟨rfl, XR.out⟩
theorem infoRec : (Tryz.prog.info? 60).map (fun i => (i.zero, i.size, i.bytes)) = some (some (.agg #[.int .i64 0, .slice none 0 0, .string ByteArray.empty, .slice none 0 0, .int .i64 0]), 5, 80) := by kernel_rfl
theorem infoInt15 : (Tryz.prog.info? 3).map (fun i => (i.zero, i.size, i.bytes)) = some (some (.int .i64 0), 1, 8) := by kernel_rfl
theorem rrC_one (p : RRA) (h : p.2.oneCell' = true) : ∀ u ∈ rrC p, u.oneCell' = true := by
  intro u hu
  unfold rrC at hu
  simp only [List.mem_cons, List.not_mem_nil, or_false] at hu
  rcases hu with rfl | rfl | rfl | rfl | rfl <;> first | rfl | exact h
theorem RowP.cut {w : World} {p : Nat → Prop} {e : TypeId} {g n cap : Nat} {xs : List Value} (h : RowP w p e 1 (.slice (some ⟨g, 0, none⟩) n cap) n xs) (hn : 0 < n) {k : Nat} (hk : k ≤ n) : RowP w p e 1 (.slice (some ⟨g, 0, none⟩) k cap) k (xs.take k) := by
  have hl := h.1
  rcases h.2 with ⟨h0, _⟩ | ⟨g', cap', cur, e1, h2, h3, h4, h5, h6, h7⟩
  · omega
  · cases e1
    refine ⟨by rw [List.length_take, hl]; omega, .inr ⟨g, cap, cur, rfl, h2, h3, by omega, h5, h6, ?_⟩⟩
    rw [← h7, List.take_take]
    congr 1
    omega
section
variable {g0 : World} {bb : Nat} {L : List RRA} {O : List Nat} {lv ov : Value} {gb : Option Nat} {w w' : World}
theorem SM.ints (h : SM g0 bb L O lv ov gb w) {g cap : Nat} (e : ov = .slice (some ⟨g, 0, none⟩) O.length cap) (hO : 0 < O.length) {k : Nat} (hk : k ≤ O.length) :
    RowP w (fun g => g0.heap.size ≤ g ∧ g ≠ bb ∧ gb ≠ some g ∧ g < w.heap.size) 3 1 (.slice (some ⟨g, 0, none⟩) k cap) (O.take k).length (intsO (O.take k)) := by
  have h1 := h.opn
  rw [e] at h1
  have h2 := h1.cut hO hk
  have e1 : (O.take k).length = k := by rw [List.length_take]; omega
  have e2 : (intsO O).take k = intsO (O.take k) := by unfold intsO; rw [List.map_take]
  rw [e1, ← e2]
  exact h2
theorem SM.reopen (h : SM g0 bb L O lv ov gb w) {O' : List Nat} {ov' : Value} (hr : RowP w (fun g => g0.heap.size ≤ g ∧ g ≠ bb ∧ gb ≠ some g ∧ g < w.heap.size) 3 1 ov' O'.length (intsO O')) : SM g0 bb L O' lv ov' gb (w.setCell ⟨bb, 1, none⟩ ov') := by
  have k : Mv (· = bb) w (w.setCell ⟨bb, 1, none⟩ ov') := (Mv.refl (· = bb) w).setCell (p := ⟨bb, 1, none⟩) (fun _ => rfl) _
  exact ⟨heap_setCell_same (i := 1) h.box _, h.row.mv k fun g hg e => hg.2.2 e, (hr.mv k fun g hg e => hg.2.1 e).imp fun g _ hg => ⟨hg.1, hg.2.1, hg.2.2.1, Nat.lt_of_lt_of_le hg.2.2.2 k.size⟩,
    fun z hz => ⟨Nat.lt_of_lt_of_le (h.blk z hz).1 k.size, (h.blk z hz).2⟩, h.att, h.low, h.ext.setCell (p := ⟨bb, 1, none⟩) h.low _⟩
theorem SM.fill (h : SM g0 bb L O lv ov gb w) {i : Nat} {p : RRA} (hp : L[i]? = some p) {g : Nat} (hg : gb = some g) (s : List UInt8) :
    SM g0 bb (L.set i (⟨p.1.tag, p.1.attrs, s, p.1.up⟩, p.2)) O lv ov gb (w.setCell ⟨g, i * 5 + 2, none⟩ (.string (bs s))) := by
  have hi := (List.getElem?_eq_some_iff.1 hp).1
  obtain ⟨g', cap, cur, e1, e2, e3, e4, e5, e6, e7, e8, e9⟩ := h.some_ (by omega)
  rw [hg] at e1
  cases e1
  have hm : Mv (fun x => x = g) w (w.setCell ⟨g, i * 5 + 2, none⟩ (.string (bs s))) := Mv.setRb (Mv.refl _ w) _
  refine ⟨hm.block h.box (fun e => e3 e.symm), ?_, (h.opn.mv hm fun x hx e => hx.2.2.1 (by rw [hg, e])).imp fun x _ hx => ⟨hx.1, hx.2.1, hx.2.2.1, Nat.lt_of_lt_of_le hx.2.2.2 hm.size⟩, fun z hz => ⟨Nat.lt_of_lt_of_le (h.blk z hz).1 hm.size, (h.blk z hz).2⟩, fun q hq => ?_, h.low, h.ext.setCell (p := ⟨g, i * 5 + 2, none⟩) e2 _⟩
  · refine ⟨?_, .inr ⟨g, cap, _, by rw [List.length_set]; exact e4, ⟨hg, e2, e3⟩, heap_setCell_same e5 _, by rw [List.length_set]; exact e6, e7, by simpa using e8, ?_⟩⟩
    · rw [rrCells_len]
    · rw [Array.toList_setIfInBounds, List.length_set, List.take_set, e9]
      exact rrCells_set (p' := (⟨p.1.tag, p.1.attrs, s, p.1.up⟩, p.2)) hp (by decide) rfl
  · rcases List.mem_or_eq_of_mem_set hq with hq | rfl
    · exact h.att q hq
    · exact h.att p (List.mem_of_getElem? hp)
theorem SM.push (h : SM g0 bb L O lv ov gb w) (hlen : L.length ≤ 1000000) (p : RRA) (hone : p.2.oneCell' = true) (hav : RowRd g0 2 p.2 p.1.attrs.length (attrCells p.1.attrs)) {cs : Array Value} (hcs : cs.toList = rrC p) :
    ∃ (a : Option Addr) (cap : Nat) (wB : World), (Builtin.append_ #[61, 61] 61 #[lv, .slice (some ⟨w.heap.size, 0, none⟩) 1 1]).run Tryz.prog (w.alloc (.cells cs 60)) = .ok (.slice a (L.length + 1) cap) wB ∧
      wB.heap[bb]? = some (.cells #[lv, ov] 64 (0, 0)) ∧ ∃ gb', SM g0 bb (L ++ [p]) O (.slice a (L.length + 1) cap) ov gb' (wB.setCell ⟨bb, 0, none⟩ (.slice a (L.length + 1) cap)) := by
  obtain ⟨i0, hi, hz0, hz1, hz2⟩ := info_parts infoRec
  have hxa := (Ext.refl w).alloc (.cells cs 60)
  have hA := h.to hxa
  have hna := heap_alloc_new w (.cells cs 60)
  have hszA : (w.alloc (.cells cs 60)).heap.size = w.heap.size + 1 := by simp
  have hlow : bb < w.heap.size := (Array.getElem?_eq_some_iff.1 h.box).1
  have hg0 := h.ext.size
  obtain ⟨v', wB, row, hrun, hr, hg, hrow⟩ := run_append_row (P := Tryz.prog) (w.alloc (.cells cs 60)) 61 61 60 i0 _ 5 80 Tryz.underlying61 hi hz0 hz1 hz2 (by kernel_rfl) (by decide)
    hA.row ⟨w.heap.size, 0, none⟩ 1 1 (rrC p) rfl (by
      intro j u hj
      rw [Addr.add_lit, Nat.zero_add]
      refine cellOf hna ?_
      rw [← Array.getElem?_toList, hcs]; exact hj) (rrC_one p hone) (by decide) (by unfold maxLen; omega) (by omega)
  obtain ⟨a, cap, e, _⟩ := hr.rd.len_of
  subst e
  have hmB : Mv (fun g => gb = some g) w wB := (Mv.ofExt hxa).grown hg fun k hk _ => (hrow k hk).1
  have hsw := hmB.size
  have hbb : wB.heap[bb]? = some (.cells #[lv, ov] 64 (0, 0)) := hmB.block h.box fun e => (h.blk bb e).2.2 rfl
  have k : Mv (· = bb) wB (wB.setCell ⟨bb, 0, none⟩ (.slice a (L.length + 1) cap)) := (Mv.refl (· = bb) wB).setCell (p := ⟨bb, 0, none⟩) (fun _ => rfl) _
  have hnew : ∀ g, (Value.slice a (L.length + 1) cap).ownBlock = some g → (gb = some g ∨ w.heap.size ≤ g) ∧ g0.heap.size ≤ g ∧ g ≠ bb ∧ g < wB.heap.size := by
    intro g hgo
    rcases hr.2 with ⟨h0, _⟩ | ⟨g', cap', cur, h1, h2, h3, _⟩
    · omega
    · have hgg : g' = g := by rw [h1] at hgo; exact Option.some.inj hgo
      subst hgg
      have h4 := (Array.getElem?_eq_some_iff.1 h3).1
      rcases h2 with h2 | h2
      · exact ⟨.inl h2.1, h2.2.1, h2.2.2, h4⟩
      · exact ⟨.inr (by omega), by omega, by omega, h4⟩
  have hxB : Ext g0 wB := (h.ext.trans hxa).grown hg fun k hk => (hrow k hk).2.1
  refine ⟨a, cap, wB, hrun, hbb, (Value.slice a (L.length + 1) cap).ownBlock, heap_setCell_same (i := 0) hbb _, ?_, ?_, fun z hz => ⟨Nat.lt_of_lt_of_le (hnew z hz).2.2.2 k.size, (hnew z hz).2.1, (hnew z hz).2.2.1⟩, fun q hq => ?_, h.low, hxB.setCell (p := ⟨bb, 0, none⟩) h.low _⟩
  · rw [List.length_append, rrCells_append]
    have hr2 : RowP wB (fun g => (Value.slice a (L.length + 1) cap).ownBlock = some g ∧ g0.heap.size ≤ g ∧ g ≠ bb) 60 5 (.slice a (L.length + 1) cap) (L.length + 1) (rrCells L ++ rrC p) := RowP.imp hr fun g hgo _ => ⟨hgo, (hnew g hgo).2.1, (hnew g hgo).2.2.1⟩
    have e1 : rrCells [p] = rrC p := by show rrC p ++ [] = _; rw [List.append_nil]
    rw [e1]
    exact hr2.mv k fun g hg e => hg.2.2 e
  · refine ((h.opn.mv hmB fun g hg e => hg.2.2.1 e).mv k fun g hg e => hg.2.1 e).imp fun g _ hg => ⟨hg.1, hg.2.1, fun e => ?_, by have := hg.2.2.2; have := k.size; omega⟩
    rcases (hnew g e).1 with h1 | h1
    · exact hg.2.2.1 h1
    · have := hg.2.2.2; omega
  · rcases List.mem_append.1 hq with hq | hq
    · exact h.att q hq
    · obtain rfl : q = p := by simpa using hq
      exact hav
theorem open_copy (h : SM g0 bb L O lv ov gb w) {eb : Nat} (hO : 0 < O.length ∧ O.length ≤ 60000) :
    ∃ v' w', (Builtin.append_ #[62, 62] 62 #[.slice (some ⟨eb, 0, none⟩) 0 0, ov]).run Tryz.prog w = .ok v' w' ∧ RowP w' (fun g => w.heap.size ≤ g) 3 1 v' O.length (intsO O) ∧ Ext w w' := by
  obtain ⟨g, cap, cur, rfl, _, h3, h4, h5, h6, h7, hc⟩ := h.at hO.1
  obtain ⟨i0, hi, hz0, hz1, hz2⟩ := info_parts infoInt15
  obtain ⟨v', w', g2, g3, g4⟩ := run_append_arg_grows (P := Tryz.prog) w 62 62 3 i0 _ 1 8 Tryz.underlying62 hi hz0 hz1 hz2 (by kernel_rfl) (by decide) ⟨eb, 0, none⟩ 0 0 [] (by simp) (by simp) ⟨g, 0, none⟩ O.length cap (intsO O) (by unfold intsO; rw [List.length_map, Nat.mul_one]) (fun j u hj => by
      rw [Addr.add_lit, Nat.zero_add]
      unfold intsO at hj
      rw [List.getElem?_map, Option.map_eq_some_iff] at hj
      obtain ⟨o, ho, rfl⟩ := hj
      exact hc j o ho) (by omega) (by unfold maxLen; omega) (by omega)
  exact ⟨v', w', g2, (by have := RowP.of_owns g3; simpa using this : RowIn w' w.heap.size 3 1 v' O.length (intsO O)), (Ext.refl w).grown g4 (fun k hk => by cases hk)⟩
theorem open_snoc {B : Nat} {v : Value} (hr : RowP w (fun g => B ≤ g) 3 1 v O.length (intsO O)) (hO : O.length ≤ 60000) (hB : B ≤ w.heap.size) (z : Nat) :
    ∃ v' wB, (Builtin.append_ #[62, 62] 62 #[v, .slice (some ⟨w.heap.size, 0, none⟩) 1 1]).run Tryz.prog (w.alloc (.cells #[.int .i64 z] 3)) = .ok v' wB ∧ RowP wB (fun g => B ≤ g) 3 1 v' (O ++ [z]).length (intsO (O ++ [z])) ∧ Mv (fun g => B ≤ g) w wB := by
  have hxa := (Ext.refl w).alloc (.cells #[.int .i64 z] 3)
  have hna := heap_alloc_new w (.cells #[.int .i64 z] 3)
  have hszA : (w.alloc (.cells #[.int .i64 z] 3)).heap.size = w.heap.size + 1 := by simp
  obtain ⟨i0, hi, hz0, hz1, hz2⟩ := info_parts infoInt15
  obtain ⟨v', wB, row, hrun, hr2, hg, hrow⟩ := run_append_row (P := Tryz.prog) (w.alloc (.cells #[.int .i64 z] 3)) 62 62 3 i0 _ 1 8 Tryz.underlying62 hi hz0 hz1 hz2 (by kernel_rfl) (by decide)
    (hr.ext hxa) ⟨w.heap.size, 0, none⟩ 1 1 [.int .i64 z] rfl (by
      intro j u hj
      rw [Addr.add_lit, Nat.zero_add]
      exact cellOf hna (by simpa using hj)) (by simp [Value.oneCell']) (by decide) (by unfold maxLen; omega) (by omega)
  refine ⟨v', wB, hrun, ?_, (Mv.ofExt hxa).grown hg fun k hk _ => hrow k hk⟩
  have e : intsO (O ++ [z]) = intsO O ++ [.int .i64 z] := by unfold intsO; rw [List.map_append]; rfl
  rw [e, List.length_append]
  exact hr2.imp fun g _ hg => hg.elim id fun h => by omega
end
structure RM (g0 : World) (bb : Nat) (r : RZ) (w : World) : Prop where
  out : ∃ L lv ov gb, SM g0 bb L r.op.reverse lv ov gb w ∧ L.map Prod.fst = r.all
structure ROk (N : Nat) (r : RZ) : Prop where
  low : LowR r.all
  lt : ∀ o ∈ r.op, o < r.all.length
  ne : r.op ≠ []
  all : r.all.length ≤ 2000
  op : r.op.length ≤ 50
  text : ∀ p ∈ r.all, p.text.length ≤ N
def RMIs (g0 : World) (bb : Nat) (r : RZ) (e : Ending) (w' : World) : Prop := e = .returned (.tuple #[]) ∧ RM g0 bb r w'
theorem RM.to {g0 w w' : World} {bb : Nat} {r : RZ} (h : RM g0 bb r w) (x : Ext w w') : RM g0 bb r w' := by
  obtain ⟨L, lv, ov, gb, h1, h2⟩ := h.out
  exact ⟨L, lv, ov, gb, h1.to x, h2⟩
theorem lastTextI_some {all : RL} {o k : Nat} (h : lastTextI all o = some k) : lastI all o = some k ∧ tagQ all k = 0 := by
  unfold lastTextI at h
  cases e : lastI all o with
  | none => rw [e] at h; cases h
  | some j =>
    rw [e] at h
    dsimp only at h
    split at h
    · cases h; exact ⟨rfl, by assumption⟩
    · cases h
theorem lastTextI_none {all : RL} {o : Nat} (h : lastTextI all o = none) : lastI all o = none ∨ ∃ k, lastI all o = some k ∧ tagQ all k ≠ 0 := by
  unfold lastTextI at h
  cases e : lastI all o with
  | none => exact .inl rfl
  | some j =>
    rw [e] at h
    dsimp only at h
    split at h
    · cases h
    · exact .inr ⟨j, rfl, by assumption⟩
theorem lastI_lt {all : RL} {o k : Nat} (h : lastI all o = some k) : ∃ r, all[k]? = some r := by
  unfold lastI at h
  obtain ⟨_, r, h2, _⟩ := kidsI_mem.1 (List.mem_of_getLast? h)
  exact ⟨r, h2⟩
theorem fst_at {L : List RRA} {all : RL} (ha : L.map Prod.fst = all) {i : Nat} {r : RR} (h : all[i]? = some r) : ∃ p, L[i]? = some p ∧ p.1 = r := by
  rw [← ha, List.getElem?_map, Option.map_eq_some_iff] at h
  exact h
theorem setText_map {L : List RRA} {all : RL} (ha : L.map Prod.fst = all) {k : Nat} {p : RRA} (hp : L[k]? = some p) (s : List UInt8) : (L.set k (⟨p.1.tag, p.1.attrs, p.1.text ++ s, p.1.up⟩, p.2)).map Prod.fst = setText all k s := by
  unfold setText
  rw [List.map_set, ha, ← ha, List.getElem?_map, hp]
  rfl
theorem rtext_any {g0 w : World} {bb : Nat} {r : RZ} (h : RM g0 bb r w) {N : Nat} (ok : ROk N r) (hN : N ≤ 2000000000) (s : List UInt8) (hs : s.length ≤ 1000000) :
    Calls Tryz.prog 28 #[.pointer (some ⟨bb, 0, none⟩), .string (bs s)] w (RMIs g0 bb (textQ s r)) := by
  obtain ⟨all, op⟩ := r
  obtain ⟨L, lv, ov, gb, hm, ha⟩ := h.out
  obtain ⟨o, os, rfl⟩ := List.exists_cons_of_ne_nil ok.ne
  dsimp only at hm ha
  have hO : (o :: os).reverse.length = os.length + 1 := by rw [List.length_reverse, List.length_cons]
  have hon : (o :: os).reverse[os.length]? = some o := by rw [List.reverse_cons]; simp
  have hol := ok.lt o (by simp)
  obtain ⟨ro, hro⟩ : ∃ ro, all[o]? = some ro := ⟨all[o]'hol, by simp⟩
  obtain ⟨p, hp, hpo⟩ := fst_at ha hro
  have hal : all.length = L.length := by rw [← ha, List.length_map]
  obtain ⟨b0, b1⟩ := hm.boxes
  obtain ⟨g, cap, rfl, hgb, c0, _⟩ := hm.nd hp
  obtain ⟨go, oc, _, rfl, _, _, _, _, _, _, hc⟩ := hm.at (by omega)
  have o0 := hc _ _ hon
  have htq : tagQ all o = p.1.tag := by unfold tagQ; rw [hro, hpo]
  obtain ⟨x, hx⟩ : ∃ x, p.1.tag = x := ⟨_, rfl⟩
  rw [hx] at htq c0
  have hop := ok.op
  have hall := ok.all
  dsimp only [List.length_cons] at hop hall hol
  have HM := qh hm
  have HA := qh ha
  have HOK := qh ok
  have HTQ := qh htq
  have HCL := qh (fun W => rClass_any W x)
  have HBL := qh (fun W => rblanks_any (bs s) (by rw [bs_size]; omega) W)
  have HLS := qh (fun (W : World) (k : Ext w W) => rlast_any (hm.to k) (by omega) (by omega) ha ok.low o)
  have HNN := qh (And.intro hN hs)
  rw [bs_data] at HBL
  obtain ⟨n, hn⟩ : ∃ n, os.length = n := ⟨_, rfl⟩
  rw [hO, hn] at b1
  rw [hn] at o0
  obtain ⟨M, hM⟩ : ∃ M, L.length = M := ⟨_, rfl⟩
  have HMN := qh (And.intro hM hn)
  have hoM : o < M := by rw [← hM, ← hal]; exact hol
  have hn50 : n + 1 ≤ 50 := by rw [← hn]; exact hop
  have hM2 : M ≤ 2000 := by rw [← hM, ← hal]; exact hall
  have e1 : wrap64 (n : Int) = (n : Int) := IntWalk.wrap64_in _ (by omega)
  have hkl : n < n + 1 := Nat.lt_succ_self n
  rw [hM] at b0
  have b0' := fun u : ExtOf w => u.ext.cell b0
  have b1' := fun u : ExtOf w => u.ext.cell b1
  have o0' := fun u : ExtOf w => u.ext.cell o0
  have c0' := fun u : ExtOf w => u.ext.cell c0
  clear h hm ha ok hro hp hpo hal hc hon hO htq hx hop hall hol hN hs hM hn b0 b1 o0 c0
  go_enter Tryz.func28, Tryz.ntmps28
  go_upto_region 0 with fail
  refine wp_region_ext (by kernel_rfl) (by kernel_rfl) ?_
  repeat (go_big_quiet_step (fail))
  refine wpQuiet_nil ?_
  rintro _ ⟨u, rfl⟩
  have b0 := b0' u
  have b1 := b1' u
  have c0 := c0' u
  have X1 := qh u.ext
  obtain ⟨w1, hw1⟩ : ∃ w1 : World, u.val = w1 := ⟨_, rfl⟩
  rw [hw1] at b0 b1 c0 X1 ⊢
  clear hw1 b0' b1' o0' c0' e1
  cases hret : boxT x && s.all blankB with
  | true =>
    rw [Bool.and_eq_true] at hret
    have hc : (clsT x == 2) = true := hret.1
    have FIN : Hid (∀ W, Ext w W → RMIs g0 bb (textQ s ⟨all, o :: os⟩) (.returned (.tuple #[])) W) := qh (fun W k => by
      have e : textQ s ⟨all, o :: os⟩ = ⟨all, o :: os⟩ := by
        unfold textQ
        dsimp only
        rw [HTQ.out, if_pos (by rw [Bool.and_eq_true]; exact hret)]
      rw [e]
      exact ⟨rfl, ⟨L, _, _, gb, HM.out.to k, HA.out⟩⟩)
    rw [hret.2] at HBL
    obtain ⟨c, hcc⟩ : ∃ c, clsT x = c := ⟨_, rfl⟩
    rw [hcc] at hc HCL
    clear hret hcc
    go_wp2_with (first
      | (go_at_call 39; refine (HCL.out _).mono ?_; rintro e wB ⟨rfl, xB⟩; have XB := qh (X1.out.trans xB); clear xB)
      | (go_at_call 69; refine (HBL.out _).mono ?_; rintro e wC ⟨rfl, xC⟩; have XC : Hid (Ext w wC) := qh (XB.out.trans xC); clear xC))
    go_end0
    exact FIN.out _ XC.out
  | false =>
    have hcs : ((clsT x == 2) = false) ∨ ((clsT x == 2) = true ∧ s.all blankB = false) := by
      cases h1 : boxT x with
      | false => exact .inl h1
      | true => rw [h1, Bool.true_and] at hret; exact .inr ⟨h1, hret⟩
    have HTZ : Hid (textQ s ⟨all, o :: os⟩ = match lastTextI all o with
      | some k => ⟨setText all k s, o :: os⟩
      | none => if roomB all.length (o :: os).length then ⟨RZ.put ⟨all, o :: os⟩ 0 [] s, o :: os⟩ else ⟨all, o :: os⟩) := qh (by
      unfold textQ
      dsimp only
      rw [HTQ.out, hret, if_neg (by simp)]
      cases lastTextI all o <;> rfl)
    obtain ⟨c, hcc⟩ : ∃ c, clsT x = c := ⟨_, rfl⟩
    rw [hcc] at hcs HCL
    clear hret hcc
    obtain ⟨z, hz⟩ : ∃ z, lastZ all o = z := ⟨_, rfl⟩
    have HZ := qh hz
    rw [hz] at HLS
    clear hz
    rcases hcs with hcs | ⟨hcs, hsb⟩
    all_goals try rw [hsb] at HBL
    all_goals
      go_upto_region 2 with (first
        | (go_at_call 39; refine (HCL.out _).mono ?_; rintro e wB ⟨rfl, xB⟩; have XB := qh (X1.out.trans xB); clear xB)
        | (go_at_call 69; refine (HBL.out _).mono ?_; rintro e wC ⟨rfl, xC⟩; have XB : Hid (Ext w wC) := qh (XB.out.trans xC); clear xC))
      clear b0 b1 c0
      go_upto_region 3 with (go_at_call 70; refine (HLS.out _ XB.out).mono ?_; rintro e wD ⟨rfl, xD⟩; have XD := qh (XB.out.trans xD); clear xD)
      have SD := qh (HM.out.to XD.out)
      obtain ⟨b0, b1⟩ := SD.out.boxes
      rw [HMN.out.1] at b0
      rw [show (o :: os).reverse.length = n + 1 by rw [List.length_reverse, List.length_cons, HMN.out.2]] at b1
      have f0 := freeOf SD.out.box 0
      cases hlt : lastTextI all o with
      | some k =>
        obtain ⟨hl1, hl2⟩ := lastTextI_some hlt
        obtain ⟨rk, hrk⟩ := lastI_lt hl1
        obtain ⟨pk, hpk, hpe⟩ := fst_at HA.out hrk
        have hkt : pk.1.tag = 0 := by
          unfold tagQ at hl2
          rw [hrk] at hl2
          rw [hpe]; exact hl2
        have hzk : z = (k : Int) := by rw [← HZ.out]; unfold lastZ; rw [hl1]
        subst hzk
        obtain ⟨g', cap', eg, hg', k0, _, k2, _, _⟩ := SD.out.nd hpk
        cases eg
        rw [hkt] at k0
        obtain ⟨g2, cap2, cur2, eg2, _, _, _, hblk, _⟩ := SD.out.some_ (by rw [HMN.out.1]; omega)
        rw [hg'] at eg2
        cases eg2
        have f2 := freeOf hblk (k * 5 + 2)
        have hkM : k < M := by rw [← HMN.out.1]; exact (List.getElem?_eq_some_iff.1 hpk).1
        have hk0 : (0 : Int) ≤ (k : Int) := by omega
        have d1 : decide ((k : Int) ≥ 0) = true := decide_eq_true hk0
        have d2 : decide (0 ≤ (k : Int)) = true := decide_eq_true hk0
        have htl : pk.1.text.length ≤ 2000000000 := by
          have h1 := HOK.out.text rk (List.mem_of_getElem? hrk)
          rw [hpe]
          exact Nat.le_trans h1 HNN.out.1
        have hcat : ∀ W : World, (Op.stringOp .add (bs pk.1.text) (bs s)).run Tryz.prog W = .ok (.string (bs (pk.1.text ++ s))) W := fun W => by
          rw [← bs_add]
          have h2 := HNN.out.2
          exact run_string_add_sum W _ _ (by rw [bs_size, bs_size]; omega)
        have FILL := qh (SM.fill SD.out hpk hg' (pk.1.text ++ s))
        have FIN : Hid (∀ W, Ext (wD.setCell ⟨g, k * 5 + 2, none⟩ (.string (bs (pk.1.text ++ s)))) W → RMIs g0 bb (textQ s ⟨all, o :: os⟩) (.returned (.tuple #[])) W) := qh (fun W x => by
          rw [HTZ.out, hlt]
          exact ⟨rfl, ⟨_, _, _, _, FILL.out.to x, setText_map HA.out hpk s⟩⟩)
        obtain ⟨tx, htx⟩ : ∃ t, bs pk.1.text = t := ⟨_, rfl⟩
        obtain ⟨ty, hty⟩ : ∃ t, bs (pk.1.text ++ s) = t := ⟨_, rfl⟩
        rw [htx] at k2
        rw [htx, hty] at hcat
        rw [hty] at FIN
        clear hlt hl1 hl2 hrk hpk hpe hkt hg' hblk htl htx hty hk0
        go_upto_region 4 with fail
        go_region
        go_end0
        exact FIN.out _ ((Ext.refl _).drew)
      | none =>
        have hz2 : z = -1 ∨ ∃ (k : Nat) (t : Int), z = (k : Int) ∧ k < M ∧ (t == 0) = false ∧ wD.cell? ⟨g, k * 5, none⟩ = some (.int .i64 t) := by
          rcases lastTextI_none hlt with h1 | ⟨k, h1, h2⟩
          · left; rw [← HZ.out]; unfold lastZ; rw [h1]
          · obtain ⟨rk, hrk⟩ := lastI_lt h1
            obtain ⟨pk, hpk, hpe⟩ := fst_at HA.out hrk
            obtain ⟨g', cap', eg, _, k0, _⟩ := SD.out.nd hpk
            cases eg
            refine .inr ⟨k, pk.1.tag, by rw [← HZ.out]; unfold lastZ; rw [h1], by rw [← HMN.out.1]; exact (List.getElem?_eq_some_iff.1 hpk).1, ?_, k0⟩
            unfold tagQ at h2
            rw [hrk] at h2
            rw [hpe]
            exact beq_eq_false_iff_ne.2 h2
        have hal2 : all.length = M := by rw [← HA.out, List.length_map, HMN.out.1]
        have HTZ2 : Hid (textQ s ⟨all, o :: os⟩ = if roomB M (n + 1) then ⟨RZ.put ⟨all, o :: os⟩ 0 [] s, o :: os⟩ else ⟨all, o :: os⟩) := qh (by
          rw [HTZ.out, hlt]
          dsimp only
          rw [hal2, List.length_cons, HMN.out.2])
        clear hlt hal2
        have hroom : (M < 2000 ∧ n + 1 ≤ 40) ∨ (M < 2000 ∧ ¬ n + 1 ≤ 40) ∨ ¬ M < 2000 := by omega
        rcases hroom with ⟨hr1, hr2⟩ | ⟨hr1, hr2⟩ | hr1
        · obtain ⟨a, cp, wB, hrun, hbb, gb', hsm⟩ := SD.out.push (by rw [HMN.out.1]; omega) (⟨0, [], s, (o : Int)⟩, .slice none 0 0) rfl ⟨rfl, none, 0, rfl, Nat.le_refl _, fun _ => ⟨rfl, rfl⟩, fun a h => by cases h⟩ (cs := #[.int .i64 0, .slice none 0 0, .string (bs s), .slice none 0 0, .int .i64 o]) rfl
          rw [HMN.out.1] at hrun hbb hsm
          have HRUN := qh hrun
          have v0 := cellOf hbb (i := 0) (v := .slice (some ⟨g, 0, none⟩) M cap) rfl
          have h0 := freeOf hbb 0
          have FIN : Hid (∀ W, Ext (wB.setCell ⟨bb, 0, none⟩ (.slice a (M + 1) cp)) W → RMIs g0 bb (textQ s ⟨all, o :: os⟩) (.returned (.tuple #[])) W) := qh (fun W x => by
            rw [HTZ2.out, if_pos (by unfold roomB; rw [decide_eq_true hr1, decide_eq_true hr2]; rfl)]
            exact ⟨rfl, ⟨_, _, _, _, hsm.to x, by rw [List.map_append, HA.out]; rfl⟩⟩)
          have d1 : decide ((M : Int) < 2000) = true := decide_eq_true (by omega)
          have d2 : decide ((n : Int) + 1 ≤ 40) = true := decide_eq_true (by omega)
          have d3 : decide (M < 2000) = true := decide_eq_true hr1
          have d4 : decide (n + 1 ≤ 40) = true := decide_eq_true hr2
          clear hrun hbb hsm hr1 hr2
          rcases hz2 with rfl | ⟨k, t, rfl, hkM, ht0, k0⟩
          · go_wp2_with (at_builtin; refine wpList_append_run _ rfl _ _ 61 rfl _ _ rfl rfl _ _ HRUN.out ?_)
            go_end0
            exact FIN.out _ (Ext.refl _)
          · have d5 : decide ((k : Int) ≥ 0) = true := decide_eq_true (by omega)
            have d6 : decide (0 ≤ (k : Int)) = true := decide_eq_true (by omega)
            go_wp2_with (at_builtin; refine wpList_append_run _ rfl _ _ 61 rfl _ _ rfl rfl _ _ HRUN.out ?_)
            go_end0
            exact FIN.out _ (Ext.refl _)
        · have FIN : Hid (∀ W, Ext w W → RMIs g0 bb (textQ s ⟨all, o :: os⟩) (.returned (.tuple #[])) W) := qh (fun W x => by
            rw [HTZ2.out, if_neg (by unfold roomB; simp; omega)]
            exact ⟨rfl, ⟨L, _, _, gb, HM.out.to x, HA.out⟩⟩)
          have d1 : decide ((M : Int) < 2000) = true := decide_eq_true (by omega)
          have d2 : decide ((n : Int) + 1 ≤ 40) = false := decide_eq_false (by omega)
          have d3 : decide (M < 2000) = true := decide_eq_true hr1
          have d4 : decide (n + 1 ≤ 40) = false := decide_eq_false hr2
          clear hr1 hr2
          rcases hz2 with rfl | ⟨k, t, rfl, hkM, ht0, k0⟩
          · go_wp2_with fail
            go_end0
            exact FIN.out _ XD.out
          · have d5 : decide ((k : Int) ≥ 0) = true := decide_eq_true (by omega)
            have d6 : decide (0 ≤ (k : Int)) = true := decide_eq_true (by omega)
            go_wp2_with fail
            go_end0
            exact FIN.out _ XD.out
        · have FIN : Hid (∀ W, Ext w W → RMIs g0 bb (textQ s ⟨all, o :: os⟩) (.returned (.tuple #[])) W) := qh (fun W x => by
            rw [HTZ2.out, if_neg (by unfold roomB; simp; omega)]
            exact ⟨rfl, ⟨L, _, _, gb, HM.out.to x, HA.out⟩⟩)
          have d1 : decide ((M : Int) < 2000) = false := decide_eq_false (by omega)
          have d3 : decide (M < 2000) = false := decide_eq_false hr1
          clear hr1
          rcases hz2 with rfl | ⟨k, t, rfl, hkM, ht0, k0⟩
          · go_wp2_with fail
            go_end0
            exact FIN.out _ XD.out
          · have d5 : decide ((k : Int) ≥ 0) = true := decide_eq_true (by omega)
            have d6 : decide (0 ≤ (k : Int)) = true := decide_eq_true (by omega)
            go_wp2_with fail
            go_end0
            exact FIN.out _ XD.out
theorem take_rev {op : List Nat} {c R : Nat} (hR : R = op.length - c) (hc : c ≤ op.length) : op.reverse.take R = (op.drop c).reverse := by
  rw [List.take_reverse, hR]
  congr 2
  omega
structure SW (g0 : World) (bb : Nat) (L : List RRA) (lv : Value) (gb : Option Nat) (op : List Nat) (ov : Value) (op1 : List Nat) (go n oc : Nat) (w : World) : Prop where
  sm : SM g0 bb L op1.reverse lv (.slice (some ⟨go, 0, none⟩) n oc) gb w
  len : op1.length = n
  pos : 0 < n
  was : RowP w (fun g => g0.heap.size ≤ g ∧ g ≠ bb ∧ gb ≠ some g ∧ g < w.heap.size) 3 1 ov op.reverse.length (intsO op.reverse)
theorem SW.to {g0 w w' : World} {bb : Nat} {L : List RRA} {lv ov : Value} {gb : Option Nat} {op op1 : List Nat} {go n oc : Nat} (h : SW g0 bb L lv gb op ov op1 go n oc w) (x : Ext w w') : SW g0 bb L lv gb op ov op1 go n oc w' :=
  ⟨h.sm.to x, h.len, h.pos, (h.was.ext x).imp fun g _ hg => ⟨hg.1, hg.2.1, hg.2.2.1, Nat.lt_of_lt_of_le hg.2.2.2 x.size⟩⟩
theorem SW.cut {g0 w : World} {bb : Nat} {L : List RRA} {lv ov : Value} {gb : Option Nat} {op op1 : List Nat} {go n oc : Nat} (h : SW g0 bb L lv gb op ov op1 go n oc w) {c R : Nat} (hc : c < op1.length) (hR : R = op1.length - c) :
    SW g0 bb L lv gb op ov (op1.drop c) go R oc (w.setCell ⟨bb, 1, none⟩ (.slice (some ⟨go, 0, none⟩) R oc)) := by
  have hl := h.len
  have k : Mv (· = bb) w (w.setCell ⟨bb, 1, none⟩ (.slice (some ⟨go, 0, none⟩) R oc)) := (Mv.refl (· = bb) w).setCell (p := ⟨bb, 1, none⟩) (fun _ => rfl) _
  have e1 : op1.reverse.length = n := by rw [List.length_reverse, hl]
  have h1 := h.sm.ints (by rw [e1]) (by rw [e1]; exact h.pos) (k := R) (by rw [e1]; omega)
  rw [take_rev hR (by omega)] at h1
  refine ⟨h.sm.reopen h1, by rw [List.length_drop, hR], by omega, (h.was.mv k fun g hg e => hg.2.1 e).imp fun g _ hg => ⟨hg.1, hg.2.1, hg.2.2.1, Nat.lt_of_lt_of_le hg.2.2.2 k.size⟩⟩
theorem SW.start {g0 w : World} {bb : Nat} {L : List RRA} {lv ov : Value} {gb : Option Nat} {op : List Nat} (h : SM g0 bb L op.reverse lv ov gb w) (hp : 0 < op.length) : ∃ go oc, ov = .slice (some ⟨go, 0, none⟩) op.length oc ∧ op.length ≤ oc ∧ SW g0 bb L lv gb op ov op go op.length oc w := by
  obtain ⟨go, oc, cur, e, _, _, hle, _⟩ := h.at (by rw [List.length_reverse]; exact hp)
  rw [List.length_reverse] at e hle
  subst e
  exact ⟨go, oc, rfl, hle, h, rfl, hp, h.opn⟩
theorem tagsO_rev (all : RL) (op : List Nat) : tagsO all op.reverse = op.map (tagQ all) := by unfold tagsO; rw [List.reverse_reverse]
theorem rbegin_any {g0 w : World} {bb : Nat} {r : RZ} (h : RM g0 bb r w) {N : Nat} (ok : ROk N r) (tag : Int) (htag : 1 ≤ tag ∧ tag ≤ 16) (av : Value) (attrs : List AttrB) (hav : RowRd g0 2 av attrs.length (attrCells attrs)) :
    Calls Tryz.prog 30 #[.pointer (some ⟨bb, 0, none⟩), .int .i64 tag, av] w (RMIs g0 bb (beginQ tag attrs r)) := by
  obtain ⟨all, op⟩ := r
  obtain ⟨L, lv, ov, gb, hm, ha⟩ := h.out
  dsimp only at hm ha
  have hal : all.length = L.length := by rw [← ha, List.length_map]
  have hlt : ∀ o ∈ op, o < L.length := fun o ho => by rw [← hal]; exact ok.lt o ho
  have hpos : 0 < op.length := List.length_pos_iff.2 ok.ne
  obtain ⟨go, oc, rfl, hoc, hsw⟩ := SW.start hm hpos
  have hop := ok.op
  have hall := ok.all
  dsimp only at hop hall
  obtain ⟨aa, ac, rfl, _⟩ := RowRd.len_of hav
  have hsz : L.length ≤ 100000 ∧ op.reverse.length ≤ 100000 := by rw [List.length_reverse]; omega
  have HM := qh hm
  have HA := qh ha
  have HOK := qh ok
  have HAV := qh hav
  have HLT := qh hlt
  have HSW := qh hsw
  have HSZ := qh hsz
  obtain ⟨b0, b1⟩ := hm.boxes
  obtain ⟨n, hn⟩ : ∃ n, op.length = n := ⟨_, rfl⟩
  obtain ⟨M, hM⟩ : ∃ M, L.length = M := ⟨_, rfl⟩
  have HMN := qh (And.intro hM hn)
  rw [hn] at b1 HSW hoc hop hpos
  rw [hn] at HM
  have hM2 : M ≤ 2000 := by rw [← hM, ← hal]; exact hall
  have HB := qh (And.intro hM2 (And.intro hop hpos))
  have HOC := qh hoc
  have HCL := qh (fun W => rClass_any W tag)
  obtain ⟨c, hc⟩ : ∃ c, clsT tag = c := ⟨_, rfl⟩
  have HC := qh hc
  rw [hc] at HCL
  have HT := qh htag
  clear h hm ha ok hal hlt hpos hoc hop hall hsz hav hsw hn hM hc htag b0
  go_enter Tryz.func30, Tryz.ntmps30
  go_upto_region 2 with (go_at_call 39; refine (HCL.out _).mono ?_; rintro e w1 ⟨rfl, x1⟩)
  have S1 := qh (HSW.out.to x1)
  clear x1 b1
  obtain ⟨lt, hlt⟩ : ∃ b, lineT tag = b := ⟨_, rfl⟩
  have HLN : Hid (lt = (c == 3 || c == 2)) := qh (by rw [← hlt]; unfold lineT; rw [HC.out])
  have HL := qh hlt
  clear hlt
  go_cut [21] (fun q wx => q = .bool lt ∧ wx = w1)
  case first =>
    rcases bcases (c == 2) with t2 | t2
    · have e : lt = true := by rw [HLN.out, t2]; simp
      subst e
      go_wp2_with fail
      go_meet
      exact ⟨rfl, rfl⟩
    · rcases bcases (c == 3) with t3 | t3
      · have e : lt = true := by rw [HLN.out, t3]; rfl
        subst e
        go_wp2_with fail
        go_meet
        exact ⟨rfl, rfl⟩
      · have e : lt = false := by rw [HLN.out, t2, t3]; rfl
        subst e
        go_wp2_with fail
        go_meet
        exact ⟨rfl, rfl⟩
  case rest =>
    obtain ⟨rfl, rfl⟩ := hcut
    rename World => w1
    go_upto_if 21 with fail
    obtain ⟨c1, hc1⟩ : ∃ c1, (if lt then closeC isPH stPH (op.map (tagQ all)) else 0) = c1 := ⟨_, rfl⟩
    have HC1 := qh hc1
    clear hc1
    go_cut [7] from 22 to 31 (fun q wx => q = .int .i64 c ∧ ∃ n1, SW g0 bb L lv gb op (.slice (some ⟨go, 0, none⟩) n oc) (op.drop c1) go n1 oc wx)
    case first =>
      cases lt with
      | false =>
        have e : c1 = 0 := HC1.out.symm
        subst e
        go_wp2_with fail
        go_meet
        exact ⟨rfl, n, S1.out⟩
      | true =>
        have hcl : c1 < n := by
          have h1 := closeC_lt isPH stPH (op.map (tagQ all)) (by
            intro e
            have := congrArg List.length e
            rw [List.length_map, HMN.out.2, List.length_nil] at this
            have := HB.out.2.2
            omega)
          rw [List.length_map, HMN.out.2] at h1
          have h2 := HC1.out
          rw [if_pos rfl] at h2
          omega
        obtain ⟨b0, b1⟩ := S1.out.sm.boxes
        have fb := freeOf S1.out.sm.box 1
        obtain ⟨R, hR⟩ : ∃ R, n - c1 = R := ⟨_, rfl⟩
        have LF := qh (fun (z : World) (k : Ext w1 z) => left0_any (S1.out.sm.to k) HSZ.out (by rw [List.length_reverse, HMN.out.2]; exact HB.out.2.2) HA.out (fun o ho => HLT.out o (List.mem_reverse.1 ho)) 0)
        have eR : leftN isPH stPH all op.reverse = R := by
          have h2 := HC1.out
          rw [if_pos rfl] at h2
          unfold leftN
          rw [tagsO_rev, List.length_reverse, HMN.out.2, h2, hR]
        rw [eR] at LF
        have hRo : R ≤ oc := by have := HOC.out; omega
        have hRn : R ≤ n := by omega
        have hoc2 : n ≤ oc := HOC.out
        have FIN := qh (fun (wk : World) (k : Ext w1 wk) => (S1.out.to k).cut (c := c1) (R := R) (by rw [HMN.out.2]; exact hcl) (by rw [HMN.out.2]; exact hR.symm))
        clear b0 eR hR hcl
        as_aux_lemma =>
          go_upto_region 3 with fail
          refine wp_region_E (S := fun w' => w'.cell? ⟨bb, 1, none⟩ = some (.slice (some ⟨go, 0, none⟩) n oc)) (n := 10) (by kernel_rfl) ?_
          have hS : w1.drew.cell? ⟨bb, 1, none⟩ = some (.slice (some ⟨go, 0, none⟩) n oc) := b1
          have hxd : Ext w1 w1.drew := (Ext.refl w1).drew
          obtain ⟨wd, hwd⟩ : ∃ wd : World, wd = w1.drew := ⟨_, rfl⟩
          rw [← hwd] at hS hxd ⊢
          clear hwd
          show wpE _ _ _ _ _ 10 11 (Array.replicate 11 false) _ _
          refine wpE_tk 0 22 (.pointer (some ⟨bb, 0, none⟩)) rfl (.inl ⟨by rfl, fun w' hSw => ?_⟩) hS ?_
          · (clear hS; go_simp)
          try simp only [Act.put, zA, zB, zC]
          refine wpE_tk 1 23 (.pointer (some ⟨bb, 0, none⟩)) rfl (.inl ⟨by rfl, fun w' hSw => ?_⟩) hS ?_
          · (clear hS; go_simp)
          try simp only [Act.put, zA, zB, zC]
          refine wpE_tk 2 24 (.pointer (some ⟨bb, 0, none⟩)) rfl (.inl ⟨by rfl, fun w' hSw => ?_⟩) hS ?_
          · (clear hS; go_simp)
          try simp only [Act.put, zA, zB, zC]
          refine wpE_tk 3 25 (.pointer (some ⟨bb, 1, none⟩)) rfl (.inl ⟨by rfl, fun w' hSw => ?_⟩) hS ?_
          · (clear hS; go_simp)
          try simp only [Act.put, zA, zB, zC]
          refine wpE_tk 4 26 (.slice (some ⟨go, 0, none⟩) n oc) rfl (.inl ⟨by rfl, fun w' hSw => ?_⟩) hS ?_
          · (clear hS; go_simp)
          try simp only [Act.put, zA, zB, zC]
          refine wpE_tk 5 27 (.pointer (some ⟨bb, 0, none⟩)) rfl (.inl ⟨by rfl, fun w' hSw => ?_⟩) hS ?_
          · (clear hS; go_simp)
          try simp only [Act.put, zA, zB, zC]
          refine wpE_on 6 (some 28) rfl (fun K hK => ?_)
          go_simp
          go_at_call 31
          refine (LF.out wd hxd).mono ?_
          rintro e wk ⟨rfl, hxk⟩
          have hcb := hxk.cells _ _ hS
          have hfb := (hxd.trans hxk).free (cell_lt b1) fb
          have XK := qh (hxd.trans hxk)
          refine hK.out _ _ (.inr hcb) ?_
          clear hK K
          try simp only [Act.put, zA, zB, zC]
          refine wpE_on 7 (some 29) rfl (fun K hK => ?_)
          go_simp
          refine hK.out _ _ (.inr hcb) ?_
          clear hK K
          try simp only [Act.put, zA, zB, zC]
          refine wpE_on 8 (some 30) rfl (fun K hK => ?_)
          go_simp
          refine hK.out _ _ (.inr hcb) ?_
          clear hK K
          try simp only [Act.put, zA, zB, zC]
          refine wpE_on 9 (some 31) rfl (fun K hK => ?_)
          go_simp
          refine hK.out _ _ (.inr hcb) ?_
          clear hK K
          try simp only [Act.put, zA, zB, zC]
          refine wpE_on 10 (none) rfl (fun K hK => ?_)
          go_simp
          refine hK.out _ _ (.inl rfl) ?_
          clear hK K
          refine wpE_done (by kernel_rfl) ?_
          obtain ⟨wz, hwz⟩ : ∃ wz : World, wz = wk.setCell ⟨bb, 1, none⟩ (.slice (some ⟨go, 0, none⟩) R oc) := ⟨_, rfl⟩
          have F2 := qh (FIN.out wk XK.out)
          rw [← hwz] at F2 ⊢
          clear hwz hcb hfb hS hxd hxk b1 fb
          go_wp2_with fail
          go_meet
          exact ⟨rfl, R, F2.out⟩
    case rest =>
      obtain ⟨rfl, n1, hsw1⟩ := hcut
      rename World => w2
      have S2 := qh hsw1
      have HN1 := qh (And.intro hsw1.len hsw1.pos)
      clear hsw1
      go_upto_if 33 with fail
      obtain ⟨op1, hop1⟩ : ∃ op1, op.drop (aheadC tag (op.map (tagQ all))) = op1 := ⟨_, rfl⟩
      have HQ := qh hop1
      clear hop1
      have HNL : Hid (n1 ≤ n) := qh (by have h1 := HN1.out.1; rw [List.length_drop, HMN.out.2] at h1; omega)
      go_cut [7] from 33 to 43 (fun q wx => q = .int .i64 c ∧ ∃ n2, SW g0 bb L lv gb op (.slice (some ⟨go, 0, none⟩) n oc) op1 go n2 oc wx ∧ n2 ≤ n)
      case first =>
        rcases bcases (tag == 9) with t9 | t9
        · have h9 : tag = 9 := beq_iff_eq.1 t9
          have hlt9 : lt = true := by rw [← HL.out, h9]; decide
          obtain ⟨c2, hc2⟩ : ∃ c2, closeC isLi stLi ((op.drop c1).map (tagQ all)) = c2 := ⟨_, rfl⟩
          have hcl : c2 < n1 := by
            have h1 := closeC_lt isLi stLi ((op.drop c1).map (tagQ all)) (by
              intro e
              have := congrArg List.length e
              rw [List.length_map, HN1.out.1, List.length_nil] at this
              have := HN1.out.2
              omega)
            rw [List.length_map, HN1.out.1, hc2] at h1
            exact h1
          have e1 : op1 = (op.drop c1).drop c2 := by
            rw [← HQ.out, List.drop_drop]
            congr 1
            unfold aheadC
            rw [if_pos h9, HL.out]
            rw [HC1.out, ← List.map_drop, hc2]
          obtain ⟨b0, b1⟩ := S2.out.sm.boxes
          have fb := freeOf S2.out.sm.box 1
          obtain ⟨R, hR⟩ : ∃ R, n1 - c2 = R := ⟨_, rfl⟩
          have LF := qh (fun (z : World) (k : Ext w2 z) => left1_any (S2.out.sm.to k) (by rw [List.length_reverse, HN1.out.1]; have := HSZ.out; have := HNL.out; have := HB.out; omega) (by rw [List.length_reverse, HN1.out.1]; exact HN1.out.2) HA.out (fun o ho => HLT.out o (List.mem_of_mem_drop (List.mem_reverse.1 ho))) 0)
          have eR : leftN isLi stLi all (op.drop c1).reverse = R := by
            unfold leftN
            rw [tagsO_rev, List.length_reverse, HN1.out.1, hc2, hR]
          rw [eR] at LF
          have hRo : R ≤ oc := by have := HOC.out; have := HNL.out; omega
          have hRn : R ≤ n1 := by omega
          have hoc2 : n1 ≤ oc := by have := HOC.out; have := HNL.out; omega
          have FIN := qh (fun (wk : World) (k : Ext w2 wk) => (S2.out.to k).cut (c := c2) (R := R) (by rw [HN1.out.1]; exact hcl) (by rw [HN1.out.1]; exact hR.symm))
          rw [← e1] at FIN
          have HRn : Hid (R ≤ n) := qh (by have := HNL.out; omega)
          clear b0 eR hR hcl h9 hlt9 hc2 e1
          as_aux_lemma =>
            go_upto_region 5 with fail
            refine wp_region_E (S := fun w' => w'.cell? ⟨bb, 1, none⟩ = some (.slice (some ⟨go, 0, none⟩) n1 oc)) (n := 10) (by kernel_rfl) ?_
            have hS : w2.drew.cell? ⟨bb, 1, none⟩ = some (.slice (some ⟨go, 0, none⟩) n1 oc) := b1
            have hxd : Ext w2 w2.drew := (Ext.refl w2).drew
            obtain ⟨wd, hwd⟩ : ∃ wd : World, wd = w2.drew := ⟨_, rfl⟩
            rw [← hwd] at hS hxd ⊢
            clear hwd
            show wpE _ _ _ _ _ 10 11 (Array.replicate 11 false) _ _
            refine wpE_tk 0 34 (.pointer (some ⟨bb, 0, none⟩)) rfl (.inl ⟨by rfl, fun w' hSw => ?_⟩) hS ?_
            · (clear hS; go_simp)
            try simp only [Act.put, zA, zB, zC]
            refine wpE_tk 1 35 (.pointer (some ⟨bb, 0, none⟩)) rfl (.inl ⟨by rfl, fun w' hSw => ?_⟩) hS ?_
            · (clear hS; go_simp)
            try simp only [Act.put, zA, zB, zC]
            refine wpE_tk 2 36 (.pointer (some ⟨bb, 0, none⟩)) rfl (.inl ⟨by rfl, fun w' hSw => ?_⟩) hS ?_
            · (clear hS; go_simp)
            try simp only [Act.put, zA, zB, zC]
            refine wpE_tk 3 37 (.pointer (some ⟨bb, 1, none⟩)) rfl (.inl ⟨by rfl, fun w' hSw => ?_⟩) hS ?_
            · (clear hS; go_simp)
            try simp only [Act.put, zA, zB, zC]
            refine wpE_tk 4 38 (.slice (some ⟨go, 0, none⟩) n1 oc) rfl (.inl ⟨by rfl, fun w' hSw => ?_⟩) hS ?_
            · (clear hS; go_simp)
            try simp only [Act.put, zA, zB, zC]
            refine wpE_tk 5 39 (.pointer (some ⟨bb, 0, none⟩)) rfl (.inl ⟨by rfl, fun w' hSw => ?_⟩) hS ?_
            · (clear hS; go_simp)
            try simp only [Act.put, zA, zB, zC]
            refine wpE_on 6 (some 40) rfl (fun K hK => ?_)
            go_simp
            go_at_call 31
            refine (LF.out wd hxd).mono ?_
            rintro e wk ⟨rfl, hxk⟩
            have hcb := hxk.cells _ _ hS
            have hfb := (hxd.trans hxk).free (cell_lt b1) fb
            have XK := qh (hxd.trans hxk)
            refine hK.out _ _ (.inr hcb) ?_
            clear hK K
            try simp only [Act.put, zA, zB, zC]
            refine wpE_on 7 (some 41) rfl (fun K hK => ?_)
            go_simp
            refine hK.out _ _ (.inr hcb) ?_
            clear hK K
            try simp only [Act.put, zA, zB, zC]
            refine wpE_on 8 (some 42) rfl (fun K hK => ?_)
            go_simp
            refine hK.out _ _ (.inr hcb) ?_
            clear hK K
            try simp only [Act.put, zA, zB, zC]
            refine wpE_on 9 (some 43) rfl (fun K hK => ?_)
            go_simp
            refine hK.out _ _ (.inr hcb) ?_
            clear hK K
            try simp only [Act.put, zA, zB, zC]
            refine wpE_on 10 (none) rfl (fun K hK => ?_)
            go_simp
            refine hK.out _ _ (.inl rfl) ?_
            clear hK K
            refine wpE_done (by kernel_rfl) ?_
            obtain ⟨wz, hwz⟩ : ∃ wz : World, wz = wk.setCell ⟨bb, 1, none⟩ (.slice (some ⟨go, 0, none⟩) R oc) := ⟨_, rfl⟩
            have F2 := qh (FIN.out wk XK.out)
            rw [← hwz] at F2 ⊢
            clear hwz hcb hfb hS hxd hxk b1 fb
            go_wp2_with fail
            go_meet
            exact ⟨rfl, R, F2.out, HRn.out⟩
        · have h9 : ¬ tag = 9 := by simpa using t9
          have e1 : op1 = op.drop c1 := by
            rw [← HQ.out]
            unfold aheadC
            rw [if_neg h9, HL.out]
            rw [HC1.out]
          clear h9
          subst e1
          go_wp2_with fail
          go_meet
          exact ⟨rfl, n1, S2.out, HNL.out⟩
      case rest =>
        obtain ⟨rfl, n2, hsw2, hn2⟩ := hcut
        rename World => w3
        have HBQ : Hid (beginQ tag attrs ⟨all, op⟩ = if roomB all.length op1.length then ⟨RZ.put ⟨all, op1⟩ tag attrs [], if clsT tag = 5 then op1 else all.length :: op1⟩ else ⟨all, op⟩) := qh (by
          unfold beginQ
          dsimp only
          rw [show (RZ.mk all op).tags = op.map (tagQ all) from rfl, HQ.out])
        obtain ⟨o, os, rfl⟩ := List.exists_cons_of_ne_nil (show op1 ≠ [] from fun e => by have h1 := hsw2.len; have h2 := hsw2.pos; rw [e] at h1; simp at h1; omega)
        obtain ⟨k, rfl⟩ : ∃ k, n2 = k + 1 := ⟨n2 - 1, by have := hsw2.pos; omega⟩
        have hos : os.length = k := by have := hsw2.len; simpa using this
        have hrl : (o :: os).reverse.length = k + 1 := by rw [List.length_reverse, List.length_cons, hos]
        have S3 := qh hsw2
        have HKN := qh hn2
        have hal2 : all.length = M := by rw [← HA.out, List.length_map, HMN.out.1]
        have HOS := qh (And.intro hos (And.intro hrl hal2))
        obtain ⟨b0, b1⟩ := S3.out.sm.boxes
        have fb := freeOf S3.out.sm.box 1
        have hM2 : M ≤ 2000 := HB.out.1
        have hk50 : k + 1 ≤ 50 := Nat.le_trans HKN.out HB.out.2.1
        have hM0 : 0 < L.length := by
          obtain ⟨x, xs, hx⟩ := List.exists_cons_of_ne_nil HOK.out.ne
          have h1 := HLT.out x (by rw [show op = x :: xs from hx]; simp)
          omega
        obtain ⟨g, cap, cur, hgb, _, _, rfl, hblk, _⟩ := S3.out.sm.some_ hM0
        rw [HMN.out.1] at b0
        clear hsw2 hn2 hos hrl hal2 S1 S2 HSW HN1 HNL hM0 hblk
        have hroom : (M < 2000 ∧ k + 1 ≤ 40) ∨ (M < 2000 ∧ ¬ k + 1 ≤ 40) ∨ ¬ M < 2000 := by omega
        rcases hroom with ⟨hr1, hr2⟩ | ⟨hr1, hr2⟩ | hr1
        · have hon : (o :: os).reverse[k]? = some o := by rw [List.reverse_cons, ← HOS.out.1, ← List.length_reverse]; simp
          have hol : o < M := by
            rw [← HMN.out.1]
            refine HLT.out o ?_
            have h1 : o ∈ op.drop (aheadC tag (op.map (tagQ all))) := by rw [HQ.out]; simp
            exact List.mem_of_mem_drop h1
          obtain ⟨go2, oc2, _, eo2, _, _, _, _, _, _, hc⟩ := S3.out.sm.at (by rw [HOS.out.2.1]; omega)
          rw [HOS.out.2.1] at eo2
          cases eo2
          have o0 := hc _ _ hon
          have HON := qh (fun (u : ExtOf w3) => And.intro (u.ext.cell b1) (u.ext.cell o0))
          have b1' := fun u : ExtOf w3 => u.ext.cell b1
          have o0' := fun u : ExtOf w3 => u.ext.cell o0
          have d1 : decide ((M : Int) ≥ 2000) = false := decide_eq_false (by omega)
          have d2 : decide ((2000 : Int) ≤ (M : Int)) = false := decide_eq_false (by omega)
          have d3 : decide ((k : Int) + 1 > 40) = false := decide_eq_false (by omega)
          have d4 : decide (40 < (k : Int) + 1) = false := decide_eq_false (by omega)
          have d5 : decide (2000 ≤ M) = false := decide_eq_false (by omega)
          have d6 : decide (40 < k + 1) = false := decide_eq_false (by omega)
          have HBQ2 : Hid (beginQ tag attrs ⟨all, op⟩ = ⟨RZ.put ⟨all, o :: os⟩ tag attrs [], if clsT tag = 5 then o :: os else M :: o :: os⟩) := qh (by
            rw [HBQ.out, if_pos (by unfold roomB; rw [HOS.out.2.2, List.length_cons, HOS.out.1, decide_eq_true hr1, decide_eq_true hr2]; rfl), HOS.out.2.2])
          have HR := qh (And.intro hr1 hr2)
          have e1 : wrap64 (k : Int) = (k : Int) := IntWalk.wrap64_in _ (by omega)
          have hkl : k < k + 1 := Nat.lt_succ_self k
          clear hr1 hr2 hon hc
          go_upto_region 8 with fail
          refine wp_region_ext (by kernel_rfl) (by kernel_rfl) ?_
          repeat (go_big_quiet_step (fail))
          refine wpQuiet_nil ?_
          rintro _ ⟨u, rfl⟩
          replace b0 := u.ext.cell b0
          replace b1 := b1' u
          have S4 := qh (S3.out.to u.ext)
          clear e1 b1' o0' o0 HON fb d1 d2 d3 d4 d5 d6 S3
          obtain ⟨w4, hw4⟩ : ∃ w4 : World, u.val = w4 := ⟨_, rfl⟩
          rw [hw4] at b0 b1 S4 ⊢
          clear hw4
          obtain ⟨a, cp, wB, hrun, hbb, gb', hsm⟩ := S4.out.sm.push (by rw [HMN.out.1]; omega) (⟨tag, attrs, [], (o : Int)⟩, .slice aa attrs.length ac) rfl HAV.out (cs := #[.int .i64 tag, .slice aa attrs.length ac, .string ⟨#[]⟩, .slice none 0 0, .int .i64 o]) rfl
          rw [HMN.out.1] at hrun hbb hsm
          have HRUN := qh hrun
          have v0 := cellOf hbb (i := 0) (v := .slice (some ⟨g, 0, none⟩) M cap) rfl
          have h0 := freeOf hbb 0
          have S5 := qh hsm
          have HMAP : Hid ((L ++ [((⟨tag, attrs, [], (o : Int)⟩ : RR), Value.slice aa attrs.length ac)]).map Prod.fst = RZ.put ⟨all, o :: os⟩ tag attrs []) := qh (by rw [List.map_append, HA.out]; rfl)
          clear hrun hbb hsm
          go_upto_region 10 with (at_builtin; refine wpList_append_run _ rfl _ _ 61 rfl _ _ rfl rfl _ _ HRUN.out ?_)
          obtain ⟨w5, hw5⟩ : ∃ w5 : World, w5 = wB.setCell ⟨bb, 0, none⟩ (.slice a (M + 1) cp) := ⟨_, rfl⟩
          rw [← hw5] at S5 ⊢
          clear hw5 v0 h0 b0 b1 HRUN
          rcases bcases (c == 5) with t5 | t5
          · have FIN : Hid (∀ W, Ext w5 W → RMIs g0 bb (beginQ tag attrs ⟨all, op⟩) (.returned (.tuple #[])) W) := qh (fun W x => by
              rw [HBQ2.out, if_pos (by rw [HC.out]; exact beq_iff_eq.1 t5)]
              exact ⟨rfl, ⟨_, _, _, _, S5.out.to x, HMAP.out⟩⟩)
            go_wp2_with fail
            go_end0
            exact FIN.out _ (Ext.refl _)
          · have hne : ¬ clsT tag = 5 := by rw [HC.out]; simpa using t5
            have HNE := qh hne
            have S6 := qh (S5.out.to ((Ext.refl w5).alloc (.cells #[] 3)))
            clear hne
            obtain ⟨w6, hw6⟩ : ∃ w6 : World, w6 = w5.alloc (.cells #[] 3) := ⟨_, rfl⟩
            rw [← hw6] at S6
            have HW6 := qh hw6
            clear hw6
            obtain ⟨v1, w7, hrun7, hrow7, x7⟩ := open_copy (eb := w5.heap.size) S6.out (by rw [HOS.out.2.1]; omega)
            obtain ⟨a7, c7, e7, _⟩ := RowRd.len_of (RowP.rd hrow7)
            rw [HOS.out.2.1] at e7
            subst e7
            obtain ⟨v2, w8, hrun8, hrow8, hm8⟩ := open_snoc hrow7 (by rw [HOS.out.2.1]; omega) x7.size M
            obtain ⟨a8, c8, e8, _⟩ := RowRd.len_of (RowP.rd hrow8)
            subst e8
            have x8 : Ext w6 w8 := Mv.toExt x7 hm8 fun b hb => hb
            have S7 := qh (S6.out.to x7)
            have S8 := qh (S6.out.to x8)
            have hl9 : ((o :: os).reverse ++ [M]).length = k + 2 := by rw [List.length_append, HOS.out.2.1]; rfl
            rw [hl9] at hrun8 hrow8
            have FIN : Hid (∀ W, Ext (w8.setCell ⟨bb, 1, none⟩ (.slice a8 (k + 2) c8)) W → RMIs g0 bb (beginQ tag attrs ⟨all, op⟩) (.returned (.tuple #[])) W) := qh (fun W x => by
              rw [HBQ2.out, if_neg HNE.out]
              have h6 := S6.out
              have hbl := (Array.getElem?_eq_some_iff.1 h6.box).1
              have hsz6 := h6.ext.size
              have hr2 : RowP w8 (fun g => g0.heap.size ≤ g ∧ g ≠ bb ∧ gb' ≠ some g ∧ g < w8.heap.size) 3 1 (.slice a8 (k + 2) c8) (M :: o :: os).reverse.length (intsO (M :: o :: os).reverse) := by
                rw [List.reverse_cons, hl9]
                exact hrow8.full.imp fun g _ hg => ⟨by omega, by omega, fun e => by have := (h6.blk g e).1; omega, hg.2⟩
              exact ⟨rfl, ⟨_, _, _, _, (S8.out.reopen hr2).to x, HMAP.out⟩⟩)
            have HRUN7 := qh hrun7
            have HRUN8 := qh hrun8
            clear hrun7 hrun8 hrow7 hrow8 hm8 x7 x8 hl9
            obtain ⟨b0, b1⟩ := S5.out.boxes
            have b0' := ((Ext.refl w5).alloc (.cells #[] 3)).cell b0
            have b1' := ((Ext.refl w5).alloc (.cells #[] 3)).cell b1
            clear b0 b1
            go_upto_region 12 with (at_builtin; rw [← HW6.out]; refine wpList_append_run _ rfl _ _ 62 rfl _ _ rfl rfl _ _ HRUN7.out ?_)
            obtain ⟨b0, b1⟩ := S7.out.boxes
            clear b0' b1'
            obtain ⟨_, y1⟩ := S8.out.boxes
            have h1 := freeOf S8.out.box 1
            have eM : IntKind.i64.wrap (((M + 1 : Nat) : Int) - 1) = (M : Int) := by rw [show (((M + 1 : Nat) : Int) - 1) = (M : Int) by omega]; exact IntWalk.i64_in _ (by omega)
            have e2 : wrap64 (M : Int) = (M : Int) := IntWalk.wrap64_in _ (by omega)
            go_wp2_with (at_builtin; refine wpList_append_run _ rfl _ _ 62 rfl _ _ rfl rfl _ _ HRUN8.out ?_)
            go_end0
            exact FIN.out _ (Ext.refl _)
        · have FIN : Hid (∀ W, Ext (w3.setCell ⟨bb, 1, none⟩ (.slice (some ⟨go, 0, none⟩) n oc)) W → RMIs g0 bb (beginQ tag attrs ⟨all, op⟩) (.returned (.tuple #[])) W) := qh (fun W x => by
            rw [HBQ.out, if_neg (by unfold roomB; rw [HOS.out.2.2, List.length_cons, HOS.out.1]; simp; omega)]
            exact ⟨rfl, ⟨L, _, _, gb, (S3.out.sm.reopen S3.out.was).to x, HA.out⟩⟩)
          have d1 : decide ((M : Int) ≥ 2000) = false := decide_eq_false (by omega)
          have d2 : decide ((2000 : Int) ≤ (M : Int)) = false := decide_eq_false (by omega)
          have d3 : decide ((k : Int) + 1 > 40) = true := decide_eq_true (by omega)
          have d4 : decide (40 < (k : Int) + 1) = true := decide_eq_true (by omega)
          have d5 : decide (2000 ≤ M) = false := decide_eq_false (by omega)
          have d6 : decide (40 < k + 1) = true := decide_eq_true (by omega)
          clear hr1 hr2
          go_wp2_with fail
          go_end0
          exact FIN.out _ (Ext.refl _)
        · have FIN : Hid (∀ W, Ext (w3.setCell ⟨bb, 1, none⟩ (.slice (some ⟨go, 0, none⟩) n oc)) W → RMIs g0 bb (beginQ tag attrs ⟨all, op⟩) (.returned (.tuple #[])) W) := qh (fun W x => by
            rw [HBQ.out, if_neg (by unfold roomB; rw [HOS.out.2.2, List.length_cons, HOS.out.1]; simp; omega)]
            exact ⟨rfl, ⟨L, _, _, gb, (S3.out.sm.reopen S3.out.was).to x, HA.out⟩⟩)
          have d1 : decide ((M : Int) ≥ 2000) = true := decide_eq_true (by omega)
          have d2 : decide ((2000 : Int) ≤ (M : Int)) = true := decide_eq_true (by omega)
          have d5 : decide (2000 ≤ M) = true := decide_eq_true (by omega)
          clear hr1
          go_wp2_with fail
          go_end0
          exact FIN.out _ (Ext.refl _)
def kidsTo (all : RL) (i n : Nat) : List Nat := (List.range n).filter (kidP all i)
theorem kidsI_to (all : RL) (i : Nat) : kidsI all i = kidsTo all i all.length := rfl
theorem kidsTo_succ (all : RL) (i n : Nat) : kidsTo all i (n + 1) = kidsTo all i n ++ (if kidP all i n then [n] else []) := by
  unfold kidsTo
  rw [List.range_succ, List.filter_append]
  cases h : kidP all i n <;> simp [h]
theorem kidsTo_len (all : RL) (i n : Nat) : (kidsTo all i n).length ≤ n := by
  have := List.length_filter_le (kidP all i) (List.range n)
  rw [List.length_range] at this
  exact this
theorem kidsTo_start (all : RL) (i : Nat) : ∀ n, n ≤ i + 1 → kidsTo all i n = []
  | 0, _ => rfl
  | n + 1, h => by
    rw [kidsTo_succ, kidsTo_start all i n (by omega), show kidP all i n = false by unfold kidP; simp; omega]
    rfl
theorem kidsTo_at {all : RL} {i j : Nat} (h : kidP all i j = true) : ∀ n, j < n → (kidsTo all i n)[(kidsTo all i j).length]? = some j
  | 0, hj => by omega
  | n + 1, hj => by
    rw [kidsTo_succ]
    by_cases e : j = n
    · subst e
      rw [h, if_pos rfl, List.getElem?_append_right (Nat.le_refl _), Nat.sub_self]
      rfl
    · have h1 := kidsTo_at h n (by omega)
      have h2 := (List.getElem?_eq_some_iff.1 h1).1
      rw [List.getElem?_append_left h2, h1]
theorem rplain_any {g0 ga : World} {bb : Nat} {L : List RRA} {O : List Nat} {lv ov : Value} {gb : Option Nat} {all : RL} (ha : L.map Prod.fst = all) (hat : ∀ p ∈ L, RowRd ga 2 p.2 p.1.attrs.length (attrCells p.1.attrs)) (hL : L.length ≤ 2000) (hlow : LowR all) :
    ∀ (m i : Nat) (p : RRA) (w : World), all.length - i ≤ m → L[i]? = some p → SM g0 bb L O lv ov gb w → Calls Tryz.prog 32 #[.pointer (some ⟨bb, 0, none⟩), .int .i64 i] w (EPlainIs ga (plainR all i) w) := by
  intro m
  induction m with
  | zero =>
    intro i p w hm hp h
    have h1 := (List.getElem?_eq_some_iff.1 hp).1
    have h2 : all.length = L.length := by rw [← ha, List.length_map]
    omega
  | succ m ih =>
  intro i p w hm hp h
  have hal : all.length = L.length := by rw [← ha, List.length_map]
  have hil := (List.getElem?_eq_some_iff.1 hp).1
  have hpa : all[i]? = some p.1 := by rw [← ha, List.getElem?_map, hp]; rfl
  have hpl := plainR_eq hpa
  obtain ⟨kids, hkd⟩ : ∃ kids, (kidsI all i).map (plainR all) = kids := ⟨_, rfl⟩
  rw [hkd] at hpl
  rw [hpl]
  have hap := hat p (List.mem_of_getElem? hp)
  obtain ⟨b0, _⟩ := h.boxes
  obtain ⟨g, cap, rfl, _, c0, c1, c2, c3, _⟩ := h.nd hp
  obtain ⟨rp, av⟩ := p
  obtain ⟨aa, ac, e, _⟩ := RowRd.len_of hap
  have e : av = .slice aa rp.attrs.length ac := e
  subst e
  obtain ⟨tag, attrs, txl, up⟩ := rp
  dsimp only at hap c0 c1 c2 hpl ⊢
  obtain ⟨text, htext⟩ : ∃ t, bs txl = t := ⟨_, rfl⟩
  rw [htext] at c2 ⊢
  have IH := qh ih
  have HAL := qh ha
  have HKD := qh hkd
  have HLOW := qh hlow
  have HAP := qh hap
  have HH := qh h
  have HM := qh hm
  obtain ⟨N, hN⟩ : ∃ N, L.length = N := ⟨_, rfl⟩
  have HN := qh (And.intro hN (hal.trans hN))
  rw [hN] at b0 hil hL
  have HIL := qh hil
  have HLL := qh hL
  clear ih ha hat hlow h hm hp hpa hpl hkd hap htext hN hal
  have x1 := (Ext.refl w).alloc (.cells #[.int .i64 0, .slice none 0 0, .string ⟨#[]⟩, .slice none 0 0] 26)
  have hb0 := heap_alloc_new w (.cells #[.int .i64 0, .slice none 0 0, .string ⟨#[]⟩, .slice none 0 0] 26)
  have hs1 : (w.alloc (.cells #[.int .i64 0, .slice none 0 0, .string ⟨#[]⟩, .slice none 0 0] 26)).heap.size = w.heap.size + 1 := by simp
  go_enter Tryz.func32, Tryz.ntmps32
  go_upto_region 1 with fail
  obtain ⟨w1, hw1⟩ : ∃ w1 : World, w1 = w.alloc (.cells #[.int .i64 0, .slice none 0 0, .string ⟨#[]⟩, .slice none 0 0] 26) := ⟨_, rfl⟩
  rw [← hw1] at x1 hb0 hs1 ⊢
  clear hw1
  replace b0 := x1.cell b0
  replace c0 := x1.cell c0
  replace c1 := x1.cell c1
  replace c2 := x1.cell c2
  replace c3 := x1.cell c3
  have X1 := qh x1
  have HB0 := qh hb0
  have HS1 := qh hs1
  clear x1 hb0 hs1
  go_upto_region 2 with fail
  clear c0 c1 c2 c3
  obtain ⟨b, hbb⟩ : ∃ b, w1.heap.size = b := ⟨_, rfl⟩
  have HBB := qh hbb
  have HAT0 : Hid (EPAt ga w1 (w1.alloc (.cells #[.int .i64 tag, .slice aa attrs.length ac, .string text, .slice none 0 0] 26)) b tag (.slice aa attrs.length ac) text kids 0) := qh (EPAt.init ((Ext.refl w1).alloc _) (hbb ▸ heap_alloc_new w1 _))
  have B0 := qh b0
  clear b0
  rw [hbb]
  generalize w1.alloc (.cells #[.int .i64 tag, .slice aa attrs.length ac, .string text, .slice none 0 0] 26) = w2 at HAT0 ⊢
  clear hbb
  have ei : IntKind.i64.wrap ((i : Int) + 1) = ((i + 1 : Nat) : Int) := by rw [show ((i + 1 : Nat) : Int) = (i : Int) + 1 by omega]; exact IntWalk.i64_in _ (by omega)
  go_wp2_with fail
  clear ei
  go_loopw [6] (fun iv wr => ∃ j : Nat, j ≤ N ∧ i < j ∧ iv = .int .i64 j ∧ EPAt ga w1 wr b tag (.slice aa attrs.length ac) text kids (kidsTo all i j).length) (fun iv _ => N - (intOf iv).toNat)
  case atStart => exact ⟨i + 1, by omega, by omega, by go_num, by rw [kidsTo_start all i (i + 1) (Nat.le_refl _)]; exact HAT0.out⟩
  case round =>
    obtain ⟨j, hj, hij, rfl, hxr, kv, xs, G, hb, hr, hkb, hkx, hG, hd⟩ := hrel
    clear HAT0
    have b0 := hxr.cell B0.out
    by_cases hlt : j < N
    · have hjd : decide ((j : Int) < (N : Int)) = true := decide_eq_true (by omega)
      obtain ⟨q, hq⟩ : ∃ q, L[j]? = some q := ⟨L[j]'(by have := HN.out.1; omega), by simp⟩
      obtain ⟨g', cap', eg, _, _, _, _, _, q4⟩ := HH.out.nd hq
      cases eg
      replace q4 := (X1.out.trans hxr).cell q4
      have hqa : all[j]? = some q.1 := by rw [← HAL.out, List.getElem?_map, hq]; rfl
      have hkp := kidP_of HLOW.out (o := i) hqa
      have hsucc := kidsTo_succ all i j
      rw [hkp] at hsucc
      obtain ⟨k, hk⟩ : ∃ k, (kidsTo all i j).length = k := ⟨_, rfl⟩
      have hkj : k ≤ j := by rw [← hk]; exact kidsTo_len all i j
      rcases bcases (q.1.up == (i : Int)) with tu | tu
      · rw [tu] at hkp hsucc
        have hxi : kids[k]? = some (plainR all j) := by
          rw [← HKD.out, kidsI_to, List.getElem?_map, ← hk, kidsTo_at hkp all.length (by rw [HN.out.2]; exact hlt)]
          rfl
        have HSU : Hid ((kidsTo all i (j + 1)).length = k + 1) := qh (by rw [hsucc, if_pos rfl, List.length_append, hk]; rfl)
        rw [hk] at hr hkx hG hd
        have REC := qh (fun (z : World) (hz : Ext wr z) => IH.out j q z (by have := HM.out; omega) hq (HH.out.to ((X1.out.trans hxr).trans hz)))
        obtain ⟨x, hx⟩ : ∃ x, plainR all j = x := ⟨_, rfl⟩
        rw [hx] at hxi REC
        obtain ⟨ak, ck, rfl, hck⟩ := RowRd.len_of (RowP.rd hr)
        have cb := cellOf hb (i := 3) (v := .slice ak k ck) rfl
        have fb := freeOf hb 3
        have HXR := qh hxr
        have HB := qh hb
        have HRR := qh hr
        have HKB := qh hkb
        have HKX := qh hkx
        have HG := qh hG
        have HD := qh hd
        have HXX := qh hxi
        have hk60 : k ≤ 100000 := by omega
        have HK60 := qh hk60
        have HJJ := qh (And.intro hj hij)
        clear hxr hb hr hkb hkx hG hd hxi hq hqa hkp hsucc hk hx hj hij
        as_aux_lemma =>
          go_upto_region 6 with fail
          clear q4 b0
          refine wp_region_E (S := fun w' => w'.cell? ⟨b, 3, none⟩ = some (.slice ak k ck)) (n := 8) (by kernel_rfl) ?_
          have hS : wr.drew.cell? ⟨b, 3, none⟩ = some (.slice ak k ck) := cb
          have hxd : Ext wr wr.drew := (Ext.refl wr).drew
          obtain ⟨wd, hwd⟩ : ∃ wd : World, wd = wr.drew := ⟨_, rfl⟩
          rw [← hwd] at hS hxd ⊢
          clear hwd
          show wpE _ _ _ _ _ 8 9 (Array.replicate 9 false) _ _
          refine wpE_tk 0 36 (.pointer (some ⟨b, 3, none⟩)) rfl (.inl ⟨by rfl, fun w' hSw => ?_⟩) hS ?_
          · (clear hS; go_simp)
          try simp only [Act.put, zA, zB, zC]
          refine wpE_tk 1 37 (.slice ak k ck) rfl (.inl ⟨by rfl, fun w' hSw => ?_⟩) hS ?_
          · (clear hS; go_simp)
          try simp only [Act.put, zA, zB, zC]
          refine wpE_tk 2 38 (.pointer (some ⟨bb, 0, none⟩)) rfl (.inl ⟨by rfl, fun w' hSw => ?_⟩) hS ?_
          · (clear hS; go_simp)
          try simp only [Act.put, zA, zB, zC]
          refine wpE_tk 3 39 (.int .i64 j) rfl (.inl ⟨by rfl, fun w' hSw => ?_⟩) hS ?_
          · (clear hS; go_simp)
          try simp only [Act.put, zA, zB, zC]
          refine wpE_on 4 (some 40) rfl (fun K hK => ?_)
          go_simp
          go_at_call 32
          refine (REC.out wd hxd).mono ?_
          rintro e wk ⟨v, F', rfl, ho, hxk, hF'⟩
          obtain ⟨aa2, acap2, ka2, kcap2, rfl⟩ := ho.shape
          obtain ⟨xt, hxt⟩ : ∃ t, x.tag = t := ⟨_, rfl⟩
          obtain ⟨xa, hxa⟩ : ∃ t, x.attrs.length = t := ⟨_, rfl⟩
          obtain ⟨xx, hxx⟩ : ∃ t, x.text = t := ⟨_, rfl⟩
          obtain ⟨xk, hxk2⟩ : ∃ t, x.kids.length = t := ⟨_, rfl⟩
          rw [hxt, hxa, hxx, hxk2] at ho
          rw [hxt, hxa, hxx, hxk2]
          clear hxt hxa hxx hxk2
          have hO := qh ho
          have hF2 := qh hF'
          have hcb := hxk.cells _ _ (hxd.cells _ _ cb)
          refine hK.out _ _ (.inr hcb) ?_
          clear ho hF'
          clear hK K
          try simp only [Act.put, zA, zB, zC]
          refine wpE_on 5 (some 41) rfl (fun K hK => ?_)
          refine step_build_node (by rfl) _ (by rfl) (.int .i64 xt) (.slice aa2 xa acap2) (.string xx) (.slice ka2 xk kcap2) (by rfl) ?_
          have hcc := ((Ext.refl wk).alloc (.cells #[.int .i64 xt, .slice aa2 xa acap2, .string xx, .slice ka2 xk kcap2] 26)).cells _ _ hcb
          have xc := (Ext.refl wk).alloc (.cells #[.int .i64 xt, .slice aa2 xa acap2, .string xx, .slice ka2 xk kcap2] 26)
          have hnew := cells_four (heap_alloc_new wk (.cells #[.int .i64 xt, .slice aa2 xa acap2, .string xx, .slice ka2 xk kcap2] 26))
          obtain ⟨cw, hcw⟩ : ∃ cw : World, cw = wk.alloc (.cells #[.int .i64 xt, .slice aa2 xa acap2, .string xx, .slice ka2 xk kcap2] 26) := ⟨_, rfl⟩
          rw [← hcw] at hcc xc hnew ⊢
          clear hcw
          refine hK.out _ _ (.inr hcc) ?_
          obtain ⟨i0, hii, hz0, hz1, hz2⟩ := info_parts infoN
          obtain ⟨v', wA, row, hrunA, hrA, hgA, hrowA⟩ := run_append_row (P := Tryz.prog) cw 24 24 26 i0 noNode0 4 72 Tryz.underlying24 hii hz0 hz1 hz2 (by kernel_rfl) (by decide)
            (p := fun y => w1.heap.size ≤ y ∧ y ≠ b ∧ (Value.slice ak k ck).ownBlock = some y) (RowP.imp (RowP.ext HRR.out ((hxd.trans hxk).trans xc)) (fun y hy hp => ⟨hp.1, hp.2, hy⟩)) ⟨wk.heap.size, 0, none⟩ 1 1 _ rfl hnew (by simp [Value.oneCell']) (by decide) (by have := HK60.out; unfold maxLen; omega) (by have := HK60.out; omega)
          have FIN := qh (EPAt.step HXR.out HB.out (by rw [HBB.out]; exact Nat.le_refl _) HRR.out HKB.out HKX.out HG.out HD.out HXX.out (hxd.trans hxk) hO.out (fun y hy => by have := hF2.out y hy; have := hxd.size; omega) xc hrA hgA hrowA)
          obtain ⟨a7, cap7, e7, _⟩ := hrA.rd.len_of
          subst e7
          have hcA : wA.cell? ⟨b, 3, none⟩ = some (.slice ak k ck) := (World.cell?_of_block (a := ⟨b, 3, none⟩) (hgA.block b (cell_lt hcc) (fun e => (hrowA b e.symm).2.1 rfl))).trans hcc
          have hfA : wA.frozen? ⟨b, 3, none⟩ = false := (World.frozen?_of_block (a := ⟨b, 3, none⟩) (hgA.block b (cell_lt hcc) (fun e => (hrowA b e.symm).2.1 rfl))).trans (Ext.free (((hxd.trans hxk).trans xc)) (cell_lt cb) fb)
          have HRA := qh hrunA
          clear hrA hgA hrowA hrunA hii hz0 hz1 hz2 hnew
          clear hK K
          try simp only [Act.put, zA, zB, zC]
          refine wpE_on 6 (some 42) rfl (fun K hK => ?_)
          refine step_append_run (by rfl) _ _ 24 (by rfl) (.slice ak k ck) (.slice (some ⟨wk.heap.size, 0, none⟩) 1 1) (by rfl) (by rfl) (.slice a7 (k + 1) cap7) wA HRA.out ?_
          refine hK.out _ _ (.inr hcA) ?_
          clear hK K
          try simp only [Act.put, zA, zB, zC]
          refine wpE_on 7 (some 43) rfl (fun K hK => ?_)
          go_simp
          refine hK.out _ _ (.inr hcA) ?_
          clear hK K
          try simp only [Act.put, zA, zB, zC]
          refine wpE_on 8 (none) rfl (fun K hK => ?_)
          go_simp
          refine hK.out _ _ (.inl rfl) ?_
          clear hK K
          refine wpE_done (by kernel_rfl) ?_
          clear hcA hfA hcc hcb hS cb fb
          obtain ⟨wz, hwz⟩ : ∃ wz : World, wz = wA.setCell ⟨b, 3, none⟩ (.slice a7 (k + 1) cap7) := ⟨_, rfl⟩
          rw [← hwz] at FIN ⊢
          clear hwz
          go_wp2_with fail
          go_roundw
          case rel => exact ⟨j + 1, by have := HJJ.out; omega, by have := HJJ.out; omega, by first | rfl | go_num, by rw [HSU.out]; exact FIN.out⟩
          case measure => simp [intOf]; omega
      · have HSU : Hid ((kidsTo all i (j + 1)).length = k) := qh (by rw [hsucc, tu, if_neg (by decide), List.append_nil, hk])
        have HSAME : Hid (EPAt ga w1 wr b tag (.slice aa attrs.length ac) text kids (kidsTo all i (j + 1)).length) := qh (by
          rw [HSU.out, ← hk]
          exact ⟨hxr, kv, xs, G, hb, hr, hkb, hkx, hG, hd⟩)
        have HJJ := qh (And.intro hj hij)
        clear hxr hb hr hkb hkx hG hd hq hqa hkp hsucc hk hj hij
        go_wp2_with fail
        go_roundw
        case rel => exact ⟨j + 1, by have := HJJ.out; omega, by have := HJJ.out; omega, by first | rfl | go_num, HSAME.out⟩
        case measure => simp [intOf]; omega
    · obtain rfl : j = N := by omega
      have hjd : decide ((j : Int) < (j : Int)) = false := decide_eq_false (by omega)
      obtain ⟨ak, ck, rfl, hck⟩ := RowRd.len_of (RowP.rd hr)
      have c0 := cellOf hb (i := 0) (v := .int .i64 tag) rfl
      have c1 := cellOf hb (i := 1) (v := .slice aa attrs.length ac) rfl
      have c2 := cellOf hb (i := 2) (v := .string text) rfl
      have c3 := cellOf hb (i := 3) (v := .slice ak (kidsTo all i j).length ck) rfl
      have hr0 := hxr.block HB0.out
      have r0 := cellOf hr0 (i := 0) (v := .int .i64 0) rfl
      have r1 := cellOf hr0 (i := 1) (v := .slice none 0 0) rfl
      have r2 := cellOf hr0 (i := 2) (v := .string ⟨#[]⟩) rfl
      have r3 := cellOf hr0 (i := 3) (v := .slice none 0 0) rfl
      have f0 := freeOf hr0 0
      have f1 := freeOf hr0 1
      have f2 := freeOf hr0 2
      have f3 := freeOf hr0 3
      have hbn : b ≠ w.heap.size := by have := HBB.out; have := HS1.out; omega
      have hbn' := Ne.symm hbn
      have hkk : (kidsTo all i j).length = kids.length := by rw [← HKD.out, List.length_map, kidsI_to, HN.out.2]
      rw [hkk] at hr hkb hkx hG hd c3
      have FIN := qh (fun (w3 : World) (hkeep : ∀ y o, w1.heap.size ≤ y → wr.heap[y]? = some o → w3.heap[y]? = some o) => EPAt.fin (tag := tag) (text := text) HAP.out hr hkb hkx hG hd hkeep)
      have HXR := qh hxr
      clear hxr hb hr hkb hkx hG hd hr0 hkk
      go_wp2_with fail
      refine bodyPost_ret (v := .agg #[.int .i64 tag, .slice aa attrs.length ac, .string text, .slice ak kids.length ck]) (by simp [results, Tryz.results32, go_sem, r0, r1, r2, r3]) rfl ?_
      have hne : ∀ y, w1.heap.size ≤ y → y ≠ w.heap.size := fun y hy e => by have := HS1.out; omega
      have hX : ∀ u0 u1 u2 u3 : Value, Ext w ((((wr.setCell ⟨w.heap.size, 0, none⟩ u0).setCell ⟨w.heap.size, 1, none⟩ u1).setCell ⟨w.heap.size, 2, none⟩ u2).setCell ⟨w.heap.size, 3, none⟩ u3) := fun u0 u1 u2 u3 =>
        ((((X1.out.trans HXR.out).setCell (p := ⟨w.heap.size, 0, none⟩) (Nat.le_refl _) u0).setCell (p := ⟨w.heap.size, 1, none⟩) (Nat.le_refl _) u1).setCell (p := ⟨w.heap.size, 2, none⟩) (Nat.le_refl _) u2).setCell (p := ⟨w.heap.size, 3, none⟩) (Nat.le_refl _) u3
      refine ⟨_, _, rfl, FIN.out _ fun y o hy ho => ?_, hX _ _ _ _, fun x hx => ⟨by have := HS1.out; have := hx.1; omega, by have := hx.2; simpa [World.setCell] using this⟩⟩
      rw [heap_setCell_other (p := ⟨w.heap.size, 3, none⟩) _ (hne y hy), heap_setCell_other (p := ⟨w.heap.size, 2, none⟩) _ (hne y hy), heap_setCell_other (p := ⟨w.heap.size, 1, none⟩) _ (hne y hy), heap_setCell_other (p := ⟨w.heap.size, 0, none⟩) _ (hne y hy)]
      exact ho
def namesL (t : Nat) : List (List UInt8) := (namesT.filter fun p => p.2 == (t : Int)).map Prod.fst
def NamesLIs (l : List (List UInt8)) (w : World) (e : Ending) (w' : World) : Prop := ∃ g : Nat, e = .returned (.slice (some ⟨g, 0, none⟩) l.length l.length) ∧ Ext w w' ∧ ∀ (j : Nat) (x : List UInt8), l[j]? = some x → w'.cell? ⟨g, j, none⟩ = some (.string (bs x))
theorem names_cells {w : World} {g : Nat} {cs : Array Value} {ty : TypeId} (h : w.heap[g]? = some (.cells cs ty (0, 0))) {l : List (List UInt8)} (hl : cs.toList = l.map fun x => .string (bs x)) : ∀ (j : Nat) (x : List UInt8), l[j]? = some x → w.cell? ⟨g, j, none⟩ = some (.string (bs x)) := fun j x hx => by
  refine cellOf h ?_
  rw [← Array.getElem?_toList, hl, List.getElem?_map, hx]
  rfl
theorem rNamesL_any (w : World) (t : Nat) (ht : 1 ≤ t ∧ t ≤ 16) : Calls Tryz.prog 71 #[.int .i64 t] w (NamesLIs (namesL t) w) := by
  have HX := Ext.refl w
  have HS : Has w.heap.size [] w := fun p hp => by cases hp
  go_enter Tryz.func71, Tryz.ntmps71
  go_upto_region 1 with fail
  go_cut [3] (fun v wx => TabN w v wx)
  case first =>
    go_wp2_with (with_reducible refine wpList_name HX HS ?_; clear HX HS; intro _ HX HS)
    rename_i W1 W2 W3 W4 W5 W6 W7 W8 W9 W10 W11 W12 W13 W14 W15 W16
    go_meet
    exact ⟨_, _, _, _, _, _, _, _, _, _, _, _, _, _, _, _, _, _, rfl, heap_alloc_new _ _, HS.more ((Ext.refl _).alloc _), HX.alloc _⟩
  case rest =>
    obtain ⟨T, B, g1, g2, g3, g4, g5, g6, g7, g8, g9, g10, g11, g12, g13, g14, g15, g16, rfl, hT, hH, hX⟩ := hcut
    have HH := qh hH
    have XX := qh hX
    have HT := qh hT
    clear hH hX hT HX HS
    have h : t = 1 ∨ t = 2 ∨ t = 3 ∨ t = 4 ∨ t = 5 ∨ t = 6 ∨ t = 7 ∨ t = 8 ∨ t = 9 ∨ t = 10 ∨ t = 11 ∨ t = 12 ∨ t = 13 ∨ t = 14 ∨ t = 15 ∨ t = 16 := by omega
    rcases h with rfl | rfl | rfl | rfl | rfl | rfl | rfl | rfl | rfl | rfl | rfl | rfl | rfl | rfl | rfl | rfl
    · have c0 := cellOf HT.out (i := 1) (v := .slice (some ⟨g1, 0, none⟩) 1 1) rfl
      go_wp2_with fail
      go_ret
      exact ⟨g1, rfl, XX.out, names_cells (HH.out (g1, #[.string ⟨#[100, 105, 118]⟩]) (by simp)).2 (by kernel_rfl)⟩
    · have c0 := cellOf HT.out (i := 2) (v := .slice (some ⟨g2, 0, none⟩) 1 1) rfl
      go_wp2_with fail
      go_ret
      exact ⟨g2, rfl, XX.out, names_cells (HH.out (g2, #[.string ⟨#[112]⟩]) (by simp)).2 (by kernel_rfl)⟩
    · have c0 := cellOf HT.out (i := 3) (v := .slice (some ⟨g3, 0, none⟩) 1 1) rfl
      go_wp2_with fail
      go_ret
      exact ⟨g3, rfl, XX.out, names_cells (HH.out (g3, #[.string ⟨#[104, 49]⟩]) (by simp)).2 (by kernel_rfl)⟩
    · have c0 := cellOf HT.out (i := 4) (v := .slice (some ⟨g4, 0, none⟩) 1 1) rfl
      go_wp2_with fail
      go_ret
      exact ⟨g4, rfl, XX.out, names_cells (HH.out (g4, #[.string ⟨#[104, 50]⟩]) (by simp)).2 (by kernel_rfl)⟩
    · have c0 := cellOf HT.out (i := 5) (v := .slice (some ⟨g5, 0, none⟩) 1 1) rfl
      go_wp2_with fail
      go_ret
      exact ⟨g5, rfl, XX.out, names_cells (HH.out (g5, #[.string ⟨#[104, 51]⟩]) (by simp)).2 (by kernel_rfl)⟩
    · have c0 := cellOf HT.out (i := 6) (v := .slice (some ⟨g6, 0, none⟩) 1 1) rfl
      go_wp2_with fail
      go_ret
      exact ⟨g6, rfl, XX.out, names_cells (HH.out (g6, #[.string ⟨#[98, 108, 111, 99, 107, 113, 117, 111, 116, 101]⟩]) (by simp)).2 (by kernel_rfl)⟩
    · have c0 := cellOf HT.out (i := 7) (v := .slice (some ⟨g7, 0, none⟩) 1 1) rfl
      go_wp2_with fail
      go_ret
      exact ⟨g7, rfl, XX.out, names_cells (HH.out (g7, #[.string ⟨#[117, 108]⟩]) (by simp)).2 (by kernel_rfl)⟩
    · have c0 := cellOf HT.out (i := 8) (v := .slice (some ⟨g8, 0, none⟩) 1 1) rfl
      go_wp2_with fail
      go_ret
      exact ⟨g8, rfl, XX.out, names_cells (HH.out (g8, #[.string ⟨#[111, 108]⟩]) (by simp)).2 (by kernel_rfl)⟩
    · have c0 := cellOf HT.out (i := 9) (v := .slice (some ⟨g9, 0, none⟩) 1 1) rfl
      go_wp2_with fail
      go_ret
      exact ⟨g9, rfl, XX.out, names_cells (HH.out (g9, #[.string ⟨#[108, 105]⟩]) (by simp)).2 (by kernel_rfl)⟩
    · have c0 := cellOf HT.out (i := 10) (v := .slice (some ⟨g10, 0, none⟩) 1 1) rfl
      go_wp2_with fail
      go_ret
      exact ⟨g10, rfl, XX.out, names_cells (HH.out (g10, #[.string ⟨#[97]⟩]) (by simp)).2 (by kernel_rfl)⟩
    · have c0 := cellOf HT.out (i := 11) (v := .slice (some ⟨g11, 0, none⟩) 2 2) rfl
      go_wp2_with fail
      go_ret
      exact ⟨g11, rfl, XX.out, names_cells (HH.out (g11, #[.string ⟨#[98]⟩, .string ⟨#[115, 116, 114, 111, 110, 103]⟩]) (by simp)).2 (by kernel_rfl)⟩
    · have c0 := cellOf HT.out (i := 12) (v := .slice (some ⟨g12, 0, none⟩) 2 2) rfl
      go_wp2_with fail
      go_ret
      exact ⟨g12, rfl, XX.out, names_cells (HH.out (g12, #[.string ⟨#[105]⟩, .string ⟨#[101, 109]⟩]) (by simp)).2 (by kernel_rfl)⟩
    · have c0 := cellOf HT.out (i := 13) (v := .slice (some ⟨g13, 0, none⟩) 2 2) rfl
      go_wp2_with fail
      go_ret
      exact ⟨g13, rfl, XX.out, names_cells (HH.out (g13, #[.string ⟨#[117]⟩, .string ⟨#[105, 110, 115]⟩]) (by simp)).2 (by kernel_rfl)⟩
    · have c0 := cellOf HT.out (i := 14) (v := .slice (some ⟨g14, 0, none⟩) 3 3) rfl
      go_wp2_with fail
      go_ret
      exact ⟨g14, rfl, XX.out, names_cells (HH.out (g14, #[.string ⟨#[115]⟩, .string ⟨#[115, 116, 114, 105, 107, 101]⟩, .string ⟨#[100, 101, 108]⟩]) (by simp)).2 (by kernel_rfl)⟩
    · have c0 := cellOf HT.out (i := 15) (v := .slice (some ⟨g15, 0, none⟩) 1 1) rfl
      go_wp2_with fail
      go_ret
      exact ⟨g15, rfl, XX.out, names_cells (HH.out (g15, #[.string ⟨#[115, 112, 97, 110]⟩]) (by simp)).2 (by kernel_rfl)⟩
    · have c0 := cellOf HT.out (i := 16) (v := .slice (some ⟨g16, 0, none⟩) 1 1) rfl
      go_wp2_with fail
      go_ret
      exact ⟨g16, rfl, XX.out, names_cells (HH.out (g16, #[.string ⟨#[98, 114]⟩]) (by simp)).2 (by kernel_rfl)⟩
theorem beq_drop {a b : List UInt8} {k : Nat} {c d : UInt8} (h1 : a[k]? = some c) (h2 : b[k]? = some d) : (a.drop k == b.drop k) = (c == d && a.drop (k + 1) == b.drop (k + 1)) := by
  obtain ⟨l1, e1⟩ := List.getElem?_eq_some_iff.1 h1
  obtain ⟨l2, e2⟩ := List.getElem?_eq_some_iff.1 h2
  rw [List.drop_eq_getElem_cons l1, List.drop_eq_getElem_cons l2, e1, e2]
  rfl
theorem rsame_any (a b : List UInt8) (hl : a.length ≤ 1000000 ∧ b.length ≤ 1000000) (ha : ∀ c ∈ a, c.toNat < 65 ∨ 90 < c.toNat) (w : World) : Calls Tryz.prog 72 #[.string (bs a), .string (bs b)] w (RBool (a == b) w) := by
  have za : (bs a).size = a.length := bs_size a
  have zb : (bs b).size = b.length := bs_size b
  obtain ⟨A, hA⟩ : ∃ A, bs a = A := ⟨_, rfl⟩
  obtain ⟨B, hB⟩ : ∃ B, bs b = B := ⟨_, rfl⟩
  have da : A.data.toList = a := by rw [← hA, bs_data]
  have db : B.data.toList = b := by rw [← hB, bs_data]
  rw [hA] at za ⊢
  rw [hB] at zb ⊢
  obtain ⟨r, hr⟩ : ∃ r, (a == b) = r := ⟨_, rfl⟩
  rw [hr]
  have HR := qh hr
  have HD := qh (And.intro da db)
  have HZ := qh (And.intro za zb)
  have HA := qh ha
  have HLN := qh hl
  clear hA hB da db hr ha
  by_cases hne : A.size = B.size
  · have d0 : ((A.size : Int) == (B.size : Int)) = true := by rw [hne]; simp
    have HNE := qh hne
    have hBs : B.size ≤ 1000000 := by omega
    clear hl za zb
    rw [hne] at d0
    go_enter Tryz.func72, Tryz.ntmps72
    go_wp2_with fail
    go_loopw [5, 6] (fun i _ wr => ∃ k : Nat, k ≤ B.size ∧ i = .int .i64 k ∧ Ext w wr ∧ (a.drop k == b.drop k) = r) (fun i _ _ => B.size - (intOf i).toNat)
    case atStart => exact ⟨0, Nat.zero_le _, rfl, Ext.refl _, HR.out⟩
    case round =>
      obtain ⟨k, hk, rfl, xr, hd⟩ := hrel
      have XR := qh xr
      have HDD := qh hd
      clear xr hd
      by_cases hlt : k < B.size
      · obtain ⟨c, hc, hix⟩ := at_idx A k (by have := HNE.out; omega)
        obtain ⟨d, hd, hiy⟩ := at_idx B k hlt
        rw [HD.out.1] at hc
        rw [HD.out.2] at hd
        have hstep := beq_drop hc hd
        rw [HDD.out] at hstep
        have HST := qh hstep
        have hcap := HA.out c (List.mem_of_getElem? hc)
        have e0 : decide ((k : Int) < (B.size : Int)) = true := decide_eq_true (by omega)
        have e1 : decide ((k : Int) < (A.size : Int)) = true := decide_eq_true (by have := HNE.out; omega)
        have hcd : ((c.toNat : Int) == (d.toNat : Int)) = (c == d) := u8_eq c d
        have HCD := qh hcd
        clear hc hd hstep hcd
        have fin : ∀ {K : Prop}, (∀ (t1 : decide ((c.toNat : Int) ≥ 65) = false) (t2 : decide (65 ≤ (c.toNat : Int)) = false) (t3 : decide (65 ≤ c.toNat) = false), K) → (∀ (t1 : decide ((c.toNat : Int) ≥ 65) = true) (t2 : decide (65 ≤ (c.toNat : Int)) = true) (t3 : decide (65 ≤ c.toNat) = true) (t4 : decide ((c.toNat : Int) ≤ 90) = false) (t5 : decide (c.toNat ≤ 90) = false), K) → K := by
          intro K k1 k2
          by_cases h65 : 65 ≤ c.toNat
          · exact k2 (decide_eq_true (by omega)) (decide_eq_true (by omega)) (decide_eq_true h65) (decide_eq_false (by omega)) (decide_eq_false (by omega))
          · exact k1 (decide_eq_false (by omega)) (decide_eq_false (by omega)) (decide_eq_false h65)
        clear hcap
        rcases bcases (c == d) with e | e
        · have f62 : ((c.toNat : Int) == (d.toNat : Int)) = true := HCD.out.trans e
          have HN : Hid ((a.drop (k + 1) == b.drop (k + 1)) = r) := qh (by have := HST.out; rw [e, Bool.true_and] at this; exact this.symm)
          clear e
          refine fin (fun t1 t2 t3 => ?_) (fun t1 t2 t3 t4 t5 => ?_)
          all_goals
            clear fin
            go_wp2_with fail
            go_roundw
            case rel => exact ⟨k + 1, by omega, by go_num, XR.out, HN.out⟩
            case measure => simp [intOf]; omega
        · have f62 : ((c.toNat : Int) == (d.toNat : Int)) = false := HCD.out.trans e
          have er : r = false := by have := HST.out; rw [e, Bool.false_and] at this; exact this
          subst er
          clear e
          refine fin (fun t1 t2 t3 => ?_) (fun t1 t2 t3 t4 t5 => ?_)
          all_goals
            clear fin
            go_wp2_with fail
            go_ret
            exact ⟨rfl, XR.out⟩
      · have e0 : decide ((k : Int) < (B.size : Int)) = false := decide_eq_false (by omega)
        have e1 : decide ((k : Int) < (A.size : Int)) = false := decide_eq_false (by have := HNE.out; omega)
        have er : r = true := by
          have := HDD.out
          rw [List.drop_eq_nil_of_le (by have := HNE.out; have := HZ.out; omega), List.drop_eq_nil_of_le (by have := HZ.out; omega)] at this
          exact this.symm
        subst er
        go_wp2_with fail
        go_ret
        exact ⟨rfl, XR.out⟩
  · have d0 : ((A.size : Int) == (B.size : Int)) = false := beq_eq_false_iff_ne.2 (by omega)
    have er : r = false := by
      rw [← HR.out]
      refine beq_eq_false_iff_ne.2 fun e => hne ?_
      rw [za, zb, e]
    subst er
    have x0 := Ext.refl w
    clear hl za zb hne
    go_enter Tryz.func72, Tryz.ntmps72
    go_wp2_with fail
    go_ret
    exact ⟨rfl, x0⟩
theorem find_in : ∀ p ∈ namesT, findT p.1 = some p.2 := by decide +kernel
theorem find_tags : ∀ p ∈ namesT, 1 ≤ p.2 ∧ p.2 ≤ 16 := by decide +kernel
theorem names_short : ∀ p ∈ namesT, p.1.length ≤ 100 := by decide +kernel
theorem namesL_in {t j : Nat} {x : List UInt8} (h : (namesL t)[j]? = some x) : (x, (t : Int)) ∈ namesT := by
  have h1 := List.mem_of_getElem? h
  unfold namesL at h1
  rw [List.mem_map] at h1
  obtain ⟨p, hp, rfl⟩ := h1
  rw [List.mem_filter] at hp
  have e : p.2 = (t : Int) := by simpa using hp.2
  rw [← e]
  exact hp.1
theorem namesL_of {t : Nat} {p : List UInt8 × Int} (h : p ∈ namesT) (ht : p.2 = (t : Int)) : ∃ j : Nat, (namesL t)[j]? = some p.1 := by
  have : p.1 ∈ namesL t := by
    unfold namesL
    exact List.mem_map.2 ⟨p, List.mem_filter.2 ⟨h, by simpa using ht⟩, rfl⟩
  exact List.getElem?_of_mem this
theorem find_none {n : List UInt8} (h : ∀ p ∈ namesT, p.1 ≠ n) : findT n = none := by
  unfold findT
  rw [List.find?_eq_none.2 fun p hp => by simpa using h p hp]
  rfl
theorem rFind_any (n : List UInt8) (hn : ∀ c ∈ n, c.toNat < 65 ∨ 90 < c.toNat) (hl : n.length ≤ 100000) (w : World) : Calls Tryz.prog 29 #[.string (bs n)] w (FindIs n w) := by
  have HSM := qh (fun (x : List UInt8) (hx : x.length ≤ 100) W => rsame_any n x (by omega) hn W)
  have HNM := qh (fun (t : Nat) (ht : 1 ≤ t ∧ t ≤ 16) W => rNamesL_any W t ht)
  obtain ⟨A, hA⟩ : ∃ A, bs n = A := ⟨_, rfl⟩
  rw [hA] at HSM ⊢
  clear hA hn hl
  go_enter Tryz.func29, Tryz.ntmps29
  go_wp2_with fail
  go_loopw [4, 5, 6] (fun i _ _ wr => ∃ t : Nat, 1 ≤ t ∧ t ≤ 17 ∧ i = .int .i64 t ∧ Ext w wr ∧ ∀ p ∈ namesT, p.2 < (t : Int) → p.1 ≠ n) (fun i _ _ _ => 17 - (intOf i).toNat)
  case atStart => exact ⟨1, by decide, by decide, rfl, Ext.refl _, fun p hp h => by have := find_tags p hp; omega⟩
  case round =>
    obtain ⟨t, ht1, ht2, rfl, xr, hd⟩ := hrel
    have XR := qh xr
    have HD := qh hd
    have HT := qh (And.intro ht1 ht2)
    clear xr hd
    by_cases hlt : t ≤ 16
    · have e0 : decide ((t : Int) ≤ 16) = true := decide_eq_true (by omega)
      have e1 : decide (t ≤ 16) = true := decide_eq_true hlt
      have HN1 := qh (HNM.out t ⟨ht1, hlt⟩)
      have HLT := qh hlt
      obtain ⟨l, hll⟩ : ∃ l, namesL t = l := ⟨_, rfl⟩
      have HLL := qh hll
      rw [hll] at HN1
      obtain ⟨ln, hln⟩ : ∃ ln, l.length = ln := ⟨_, rfl⟩
      have HLN := qh hln
      have hl30 : ln ≤ 30 := by
        rw [← hln, ← hll]
        unfold namesL
        rw [List.length_map]
        exact Nat.le_trans (List.length_filter_le _ _) (by decide)
      clear hll
      go_wp2_with (go_at_call 71; refine (HN1.out _).mono ?_)
      rintro e w1 ⟨g, rfl, x1, hc⟩
      have X1 := qh (XR.out.trans x1)
      have HC := qh hc
      rw [hln]
      clear x1 hc hln
      go_wp2_with fail
      go_loopw [6] (fun i wr => ∃ j : Nat, j ≤ ln ∧ i = .int .i64 j ∧ Ext w1 wr ∧ ∀ (m : Nat) (x : List UInt8), m < j → l[m]? = some x → x ≠ n) (fun i _ => ln - (intOf i).toNat)
      case atStart => exact ⟨0, Nat.zero_le _, rfl, Ext.refl _, fun m x hm => by omega⟩
      case round =>
        obtain ⟨j, hj, rfl, xj, hd2⟩ := hrel
        rename World => wj
        have XJ := qh xj
        have HD2 := qh hd2
        clear xj hd2
        by_cases hjl : j < ln
        · have f0 : decide ((j : Int) < (ln : Int)) = true := decide_eq_true (by omega)
          obtain ⟨x, hx⟩ : ∃ x, l[j]? = some x := ⟨l[j]'(by have := HLN.out; omega), by simp⟩
          have c0 := XJ.out.cell (HC.out j x hx)
          have hmem := namesL_in (t := t) (by rw [HLL.out]; exact hx)
          have HS1 := qh (HSM.out x (names_short _ hmem))
          have HX := qh (And.intro hx hmem)
          clear hx hmem
          rcases bcases (n == x) with e | e
          · have hnx : n = x := by simpa using e
            rw [e] at HS1
            have FIN : Hid (findT n = some (t : Int)) := qh (by rw [hnx]; exact find_in _ HX.out.2)
            clear e hnx
            go_wp2_with (go_at_call 72; refine (HS1.out _).mono ?_)
            rintro e w2 ⟨rfl, x2⟩
            have X2 := qh ((X1.out.trans XJ.out).trans x2)
            clear x2 c0
            go_wp2_with fail
            go_ret2
            refine ⟨?_, X2.out⟩
            rw [FIN.out]
            rfl
          · rw [e] at HS1
            have HNX : Hid (x ≠ n) := qh (fun h => by rw [h] at e; simp at e)
            clear e
            go_wp2_with (go_at_call 72; refine (HS1.out _).mono ?_)
            rintro e w2 ⟨rfl, x2⟩
            have X2 := qh (XJ.out.trans x2)
            clear x2 c0
            go_wp2_with fail
            go_roundw
            case rel => exact ⟨j + 1, by omega, by go_num, X2.out, fun m y hm hy => by
              rcases Nat.lt_succ_iff_lt_or_eq.1 hm with h | rfl
              · exact HD2.out m y h hy
              · have h2 := HX.out.1
                rw [hy] at h2
                cases h2
                exact HNX.out⟩
            case measure => simp [intOf]; omega
        · obtain rfl : j = ln := by omega
          have f0 : decide ((j : Int) < (j : Int)) = false := decide_eq_false (by omega)
          have HALL : Hid (∀ p ∈ namesT, p.2 < ((t + 1 : Nat) : Int) → p.1 ≠ n) := qh (fun p hp h => by
            by_cases h2 : p.2 < (t : Int)
            · exact HD.out p hp h2
            · obtain ⟨m, hm⟩ := namesL_of hp (show p.2 = (t : Int) by omega)
              rw [HLL.out] at hm
              exact HD2.out m p.1 (by have := (List.getElem?_eq_some_iff.1 hm).1; have := HLN.out; omega) hm)
          go_wp2_with fail
          go_roundw
          case rel => exact ⟨t + 1, by omega, by have := HLT.out; omega, by go_num, X1.out.trans XJ.out, HALL.out⟩
          case measure => simp [intOf]; have := HLT.out; omega
    · obtain rfl : t = 17 := by omega
      have FIN : Hid (findT n = none) := qh (find_none fun p hp => HD.out p hp (by have := find_tags p hp; omega))
      go_wp2_with fail
      go_ret2
      refine ⟨?_, XR.out⟩
      rw [FIN.out]
      rfl
def kindP (t : Tk) : Prop := t.kind = 1 ∨ t.kind = 2 ∨ t.kind = 3
theorem tagL_kind {N : Nat} {r e : List UInt8} {t : Tk} (h : tagL N r = some (t, e)) : kindP t := by
  unfold tagL at h
  by_cases hl0 : headP letterB (tagR r) = true
  · rw [if_pos hl0] at h
    by_cases hcl : closeB r = true
    · rw [if_pos hcl] at h
      unfold closeL at h
      split at h
      · cases h
      · cases h; exact .inr (.inr rfl)
    · rw [if_neg hcl] at h
      unfold openL at h
      cases hx : partsL ((tagR r).dropWhile alnumB) with
      | none => rw [hx] at h; cases h
      | some x => rw [hx] at h; cases h; exact .inr (.inl rfl)
  · rw [if_neg hl0] at h
    cases h
theorem lexL_kind (N : Nat) : ∀ (n : Nat) (r raw : List UInt8) (a b : Nat), r.length ≤ n → ∀ t ∈ lexL N raw a b r, kindP t := by
  have hfl : ∀ raw a b, ∀ t ∈ flushT raw a b, kindP t := by
    intro raw a b t ht
    unfold flushT at ht
    split at ht
    · cases ht
    · rw [List.mem_singleton.1 ht]; exact .inl rfl
  intro n
  induction n with
  | zero =>
    intro r raw a b hn
    obtain rfl : r = [] := List.eq_nil_of_length_eq_zero (by omega)
    rw [lexL_nil]
    exact hfl raw a b
  | succ n ih =>
    intro r raw a b hn
    cases r with
    | nil => rw [lexL_nil]; exact hfl raw a b
    | cons c q =>
      simp only [List.length_cons] at hn
      have hch : (c ≠ 60 ∨ noteL (c :: q) = none ∧ tagL N (c :: q) = none) → ∀ t ∈ lexL N raw a b (c :: q), kindP t := by
        intro h
        rw [lexL_char h]
        exact ih q (raw ++ [c]) _ _ (by omega)
      by_cases hc : c = 60
      · subst hc
        cases hno : noteL (60 :: q) with
        | some e =>
          rw [lexL_note hno]
          have h2 := (noteL_suf hno).2
          simp only [List.length_cons] at h2
          exact ih e raw a b (by omega)
        | none =>
          cases ht : tagL N (60 :: q) with
          | none => exact hch (.inr ⟨hno, ht⟩)
          | some x =>
            obtain ⟨t, e⟩ := x
            rw [lexL_tag hno ht]
            have h2 := (tagL_len ht).2
            simp only [List.length_cons] at h2
            intro u hu
            rcases List.mem_append.1 hu with hu | hu
            · exact hfl raw a b u hu
            · rcases List.mem_cons.1 hu with rfl | hu
              · exact tagL_kind ht
              · exact ih e [] a b (by omega) u hu
      · exact hch (.inl hc)
theorem tokens_kind (L : List UInt8) : ∀ t ∈ tokens L, kindP t := by
  intro t ht
  unfold tokens at ht
  obtain ⟨u, hu, rfl⟩ := List.mem_map.1 ht
  have h := lexL_kind L.length L.length L [] 0 0 (Nat.le_refl _) u hu
  unfold Tk.fin
  split
  · exact h
  · exact h
theorem upOf_lt {N : Nat} {r : RZ} (h : ROk N r) : upOf r.op < (r.all.length : Int) := by
  obtain ⟨all, op⟩ := r
  cases op with
  | nil => exact absurd rfl h.ne
  | cons o os => have := h.lt o (by simp); show (o : Int) < _; dsimp only at this ⊢; omega
theorem ROk.cons {N : Nat} {r : RZ} (h : ROk N r) (hr : r.all.length < 2000) (tag : Int) (attrs : List AttrB) (text : List UInt8) : ROk (N + text.length) ⟨r.put tag attrs text, r.op⟩ := by
  have hu := upOf_lt h
  have e : (r.put tag attrs text).length = r.all.length + 1 := by unfold RZ.put; rw [List.length_append]; rfl
  refine ⟨fun i q hq => ?_, fun o ho => by have := h.lt o ho; rw [e]; omega, h.ne, by dsimp only; rw [e]; omega, h.op, fun p hp => ?_⟩
  · unfold RZ.put at hq
    rw [List.getElem?_append] at hq
    split at hq
    · exact h.low i q hq
    · rename_i hi
      have hi2 : i - r.all.length = 0 := by
        have := (List.getElem?_eq_some_iff.1 hq).1
        simpa using this
      rw [hi2] at hq
      obtain rfl : (⟨tag, attrs, text, upOf r.op⟩ : RR) = q := by simpa using hq
      dsimp only
      omega
  · unfold RZ.put at hp
    rcases List.mem_append.1 hp with hp | hp
    · have := h.text p hp; omega
    · obtain rfl : p = ⟨tag, attrs, text, upOf r.op⟩ := by simpa using hp
      dsimp only
      omega
theorem ROk.text_ {N : Nat} {r : RZ} (h : ROk N r) (s : List UInt8) : ROk (N + s.length) (textQ s r) := by
  have hsame : ROk (N + s.length) r := ⟨h.low, h.lt, h.ne, h.all, h.op, fun p hp => by have := h.text p hp; omega⟩
  have hput := h.cons (tag := 0) (attrs := []) (text := s)
  obtain ⟨all, op⟩ := r
  cases op with
  | nil => exact absurd rfl h.ne
  | cons o os =>
    unfold textQ
    dsimp only
    split
    · exact hsame
    · cases lastTextI all o with
      | some k =>
        dsimp only
        unfold setText
        cases hk : all[k]? with
        | none => exact hsame
        | some q =>
          dsimp only
          refine ⟨fun i x hx => ?_, fun y hy => by dsimp only; rw [List.length_set]; exact h.lt y hy, h.ne, by dsimp only; rw [List.length_set]; exact h.all, h.op, fun p hp => ?_⟩
          · by_cases e : k = i
            · subst e
              rw [List.getElem?_set_self (List.getElem?_eq_some_iff.1 hk).1] at hx
              obtain rfl : (⟨q.tag, q.attrs, q.text ++ s, q.up⟩ : RR) = x := by simpa using hx
              exact h.low k q hk
            · rw [List.getElem?_set_ne e] at hx
              exact h.low i x hx
          · rcases List.mem_or_eq_of_mem_set hp with hp | rfl
            · have := h.text p hp; omega
            · have := h.text q (List.mem_of_getElem? hk)
              dsimp only
              rw [List.length_append]
              omega
      | none =>
        dsimp only
        split
        · rename_i hr
          unfold roomB at hr
          simp only [Bool.and_eq_true, decide_eq_true_eq] at hr
          exact hput hr.1
        · exact hsame
theorem ROk.drop {N : Nat} {r : RZ} (h : ROk N r) {n : Nat} (hn : n < r.op.length) : ROk N ⟨r.all, r.op.drop n⟩ := by
  refine ⟨h.low, fun o ho => h.lt o (List.mem_of_mem_drop ho), fun e => ?_, h.all, ?_, h.text⟩
  · have := congrArg List.length e
    simp only [List.length_drop, List.length_nil] at this
    omega
  · have := h.op
    dsimp only
    rw [List.length_drop]
    omega
theorem close_lt {N : Nat} {r : RZ} (h : ROk N r) (is stops : Int → Bool) : closeC is stops r.tags < r.op.length := by
  have h1 := closeC_lt is stops r.tags (by
    intro e
    have := congrArg List.length e
    unfold RZ.tags at this
    rw [List.length_map, List.length_nil] at this
    exact h.ne (List.eq_nil_of_length_eq_zero this))
  unfold RZ.tags at h1
  rw [List.length_map] at h1
  exact h1
theorem ahead_lt {tag : Int} : ∀ {l : List Int}, l ≠ [] → aheadC tag l < l.length := by
  intro l hl
  have hp : 0 < l.length := List.length_pos_iff.2 hl
  unfold aheadC
  dsimp only
  have h1 : (if lineT tag = true then closeC isPH stPH l else 0) < l.length := by
    split
    · exact closeC_lt _ _ _ hl
    · exact hp
  generalize (if lineT tag = true then closeC isPH stPH l else 0) = n at h1 ⊢
  split
  · have h2 := closeC_lt isLi stLi (l.drop n) (by
      intro e
      have := congrArg List.length e
      rw [List.length_drop, List.length_nil] at this
      omega)
    rw [List.length_drop] at h2
    omega
  · exact h1
theorem ROk.begin {N : Nat} {r : RZ} (h : ROk N r) (tag : Int) (attrs : List AttrB) : ROk N (beginQ tag attrs r) := by
  have hlt : aheadC tag r.tags < r.op.length := by
    have h1 := ahead_lt (tag := tag) (l := r.tags) (by
      intro e
      have := congrArg List.length e
      unfold RZ.tags at this
      rw [List.length_map, List.length_nil] at this
      exact h.ne (List.eq_nil_of_length_eq_zero this))
    unfold RZ.tags at h1 ⊢
    rw [List.length_map] at h1
    exact h1
  have hd := h.drop hlt
  unfold beginQ
  dsimp only
  split
  · rename_i hr
    unfold roomB at hr
    simp only [Bool.and_eq_true, decide_eq_true_eq] at hr
    have hc := hd.cons hr.1 tag attrs []
    rw [show N + ([] : List UInt8).length = N from rfl] at hc
    split
    · exact hc
    · refine ⟨hc.low, fun o ho => ?_, List.cons_ne_nil _ _, hc.all, ?_, hc.text⟩
      · rcases List.mem_cons.1 ho with rfl | ho
        · dsimp only
          unfold RZ.put
          rw [List.length_append]
          exact Nat.lt_succ_self _
        · exact hc.lt o ho
      · dsimp only
        rw [List.length_cons]
        have := hr.2
        omega
  · exact h
theorem ROk.token {N : Nat} {r : RZ} (h : ROk N r) (t : Tk) : ROk (N + t.text.length) (tokenQ t r) := by
  have up : ∀ {q : RZ}, ROk N q → ROk (N + t.text.length) q := fun h => ⟨h.low, h.lt, h.ne, h.all, h.op, fun p hp => by have := h.text p hp; omega⟩
  unfold tokenQ
  split
  · exact h.text_ _
  · cases findT t.name with
    | none => exact up h
    | some tag =>
      dsimp only
      split
      · exact up (h.begin tag t.attrs)
      · exact up (h.drop (close_lt h _ _))
theorem ROk.start : ROk 0 startQ := by
  refine ⟨fun i r h => ?_, fun o ho => ?_, List.cons_ne_nil _ _, by decide, by decide, fun p hp => ?_⟩
  · cases i with
    | zero =>
      obtain rfl : (⟨1, [], [], -1⟩ : RR) = r := by simpa [startQ] using h
      decide
    | succ i => simp [startQ] at h
  · obtain rfl : o = 0 := by simpa [startQ] using ho
    decide
  · obtain rfl : p = ⟨1, [], [], -1⟩ := by simpa [startQ] using hp
    decide
theorem runQ_snoc (l : List Tk) (t : Tk) : runQ (l ++ [t]) = tokenQ t (runQ l) := by unfold runQ; rw [List.foldl_append]; rfl
theorem runQ_ok {L : List Tk} {M : Nat} (h : ∀ t ∈ L, t.text.length ≤ M) : ∀ k, ROk (k * M) (runQ (L.take k))
  | 0 => by rw [Nat.zero_mul, List.take_zero]; exact ROk.start
  | k + 1 => by
    have ih := runQ_ok h k
    by_cases hk : k < L.length
    · have e : L.take (k + 1) = L.take k ++ [L[k]] := by rw [List.take_add_one, List.getElem?_eq_getElem hk]; rfl
      rw [e, runQ_snoc]
      have h1 := ih.token L[k]
      have h2 := h L[k] (List.getElem_mem hk)
      exact ⟨h1.low, h1.lt, h1.ne, h1.all, h1.op, fun p hp => by have := h1.text p hp; rw [Nat.succ_mul]; omega⟩
    · have e : L.take (k + 1) = L.take k := by rw [List.take_of_length_le (by omega), List.take_of_length_le (by omega)]
      rw [e]
      exact ⟨ih.low, ih.lt, ih.ne, ih.all, ih.op, fun p hp => by have := ih.text p hp; rw [Nat.succ_mul]; omega⟩
theorem attrCells_str : ∀ {l : List (ByteArray × ByteArray)} {u : Value}, u ∈ attrCells l → ∃ s, u = .string s
  | [], u, h => nomatch h
  | (a, b) :: r, u, h => by
    rcases List.mem_cons.1 (show u ∈ .string a :: .string b :: attrCells r from h) with rfl | h
    · exact ⟨_, rfl⟩
    · rcases List.mem_cons.1 h with rfl | h
      · exact ⟨_, rfl⟩
      · exact attrCells_str h
theorem rd_hide {w : World} {rb : Nat} {ty : TypeId} (hb : w.heap[rb]? = some (.cells #[.int .i64 0, .slice none 0 0, .string ⟨#[]⟩, .slice none 0 0] ty (0, 0))) {v : Value} {l : List (ByteArray × ByteArray)} (h : RowRd w 2 v l.length (attrCells l)) :
    RowRd (hide (fun y => if y = rb then some (0, 0) else none) w) 2 v l.length (attrCells l) := by
  obtain ⟨h3, ao, cap, h4, h5, h6, h7⟩ := h
  refine ⟨h3, ao, cap, h4, h5, h6, fun a ha j x hx => hide_cell (h7 a ha j x hx) (if_neg fun e => ?_)⟩
  have two : ∀ (i : Nat) (y : Value), (attrCells l)[i]? = some y → a.off + i = 2 := by
    intro i y hy
    obtain ⟨s, rfl⟩ := attrCells_str (List.mem_of_getElem? hy)
    have hc := h7 a ha i _ hy
    have hab : ∀ k, (a.add k).block = a.block := fun k => by unfold Addr.add; split <;> rfl
    have hao : ∀ k, 0 < k → (a.add k).off = a.off + k := fun k hk => by unfold Addr.add; rw [if_neg (by omega)]
    have hb2 : w.heap[(a.add i).block]? = some (.cells #[.int .i64 0, .slice none 0 0, .string ⟨#[]⟩, .slice none 0 0] ty (0, 0)) := by
      rw [hab i, ← hab j, show (a.add j).block = rb from e]; exact hb
    have hoi : (a.add i).off = a.off + i := by
      rcases Nat.eq_zero_or_pos i with rfl | hp
      · unfold Addr.add; rfl
      · exact hao i hp
    unfold World.cell? at hc
    rw [hb2] at hc
    have hc1 : (if (a.add i).spot.isSome = true then none else (#[Value.int .i64 0, .slice none 0 0, .string ⟨#[]⟩, .slice none 0 0] : Array Value)[(a.add i).off]?) = some (.string s) := hc
    have hc2 : (#[Value.int .i64 0, .slice none 0 0, .string ⟨#[]⟩, .slice none 0 0] : Array Value)[a.off + i]? = some (.string s) := by
      rw [← hoi]
      split at hc1
      · cases hc1
      · exact hc1
    match hn : a.off + i, hc2 with
    | 0, hc2 => simp at hc2
    | 1, hc2 => simp at hc2
    | 2, _ => rfl
    | 3, hc2 => simp at hc2
    | n + 4, hc2 => simp at hc2
  have hj := (List.getElem?_eq_some_iff.1 hx).1
  have h1 := two j x hx
  rw [h3] at hj
  rcases Nat.mod_two_eq_zero_or_one j with hp | hp
  · have hlt : j + 1 < (attrCells l).length := by rw [h3]; omega
    have h2 := two (j + 1) _ (List.getElem?_eq_getElem hlt)
    omega
  · have hlt : j - 1 < (attrCells l).length := by rw [h3]; omega
    have h2 := two (j - 1) _ (List.getElem?_eq_getElem hlt)
    omega
theorem SM.start {g0 w : World} {bb q rb : Nat} (k1 : w.heap[q]? = some (.cells #[.int .i64 1, .slice none 0 0, .string ⟨#[]⟩, .slice none 0 0, .int .i64 (-1)] 60 (0, 0))) (k2 : w.heap[rb]? = some (.cells #[.int .i64 0] 3 (0, 0)))
    (k3 : w.heap[bb]? = some (.cells #[.slice (some ⟨q, 0, none⟩) 1 1, .slice (some ⟨rb, 0, none⟩) 1 1] 64 (0, 0))) (hq : g0.heap.size ≤ q ∧ q < rb ∧ rb < bb) (x : Ext g0 w) : RM g0 bb startQ w := by
  refine ⟨[(⟨1, [], [], -1⟩, .slice none 0 0)], .slice (some ⟨q, 0, none⟩) 1 1, .slice (some ⟨rb, 0, none⟩) 1 1, some q, ⟨k3, ?_, ?_, ?_, ?_, by omega, x⟩, rfl⟩
  · exact ⟨rfl, .inr ⟨q, 1, _, rfl, ⟨rfl, by omega, by omega⟩, k1, by decide, by decide, rfl, rfl⟩⟩
  · exact ⟨rfl, .inr ⟨rb, 1, _, rfl, ⟨by omega, by omega, fun e => by have e : q = rb := Option.some.inj e; omega, (Array.getElem?_eq_some_iff.1 k2).1⟩, k2, by decide, by decide, rfl, rfl⟩⟩
  · intro z hz
    obtain rfl : q = z := Option.some.inj hz
    exact ⟨(Array.getElem?_eq_some_iff.1 k1).1, by omega, by omega⟩
  · intro p hp
    obtain rfl : p = (⟨1, [], [], -1⟩, .slice none 0 0) := by simpa using hp
    exact ⟨rfl, none, 0, rfl, Nat.le_refl _, fun _ => ⟨rfl, rfl⟩, fun a h => by cases h⟩
theorem rHost_any (s : ByteArray) (hs : s.size ≤ 50000) (w : World) : Calls Tryz.prog 11 #[.string s] w (HostIs (anewB s) w) := by
  have HALL := qh (fun (W : World) => rAll_any s hs W)
  obtain ⟨t, ht⟩ : ∃ t, anewB s = t := ⟨_, rfl⟩
  rw [ht] at HALL ⊢
  have hb0 := heap_alloc_new w (.cells #[.int .i64 0, .slice none 0 0, .string ⟨#[]⟩, .slice none 0 0] 26)
  have x0 := (Ext.refl w).alloc (.cells #[.int .i64 0, .slice none 0 0, .string ⟨#[]⟩, .slice none 0 0] 26)
  clear hs ht
  go_enter Tryz.func11, Tryz.ntmps11
  go_upto_region 1 with fail
  obtain ⟨w0, hw0⟩ : ∃ w' : World, w' = w.alloc (.cells #[.int .i64 0, .slice none 0 0, .string ⟨#[]⟩, .slice none 0 0] 26) := ⟨_, rfl⟩
  rw [← hw0] at x0 hb0 ⊢
  clear hw0
  obtain ⟨rb, hrb⟩ : ∃ rb, w.heap.size = rb := ⟨_, rfl⟩
  have HRB := qh hrb
  rw [hrb] at hb0 ⊢
  have X0 := qh x0
  have HB0 := qh hb0
  clear x0 hb0 hrb
  go_wp2_with (go_at_call 27; refine (HALL.out _).mono ?_)
  rintro e w1 (⟨h8, rfl, x1⟩ | ⟨h8, v, rfl, x1, htk⟩)
  · have hb1 := x1.block HB0.out
    have r0 := cellOf hb1 (i := 0) (v := .int .i64 0) rfl
    have r1 := cellOf hb1 (i := 1) (v := .slice none 0 0) rfl
    have r2 := cellOf hb1 (i := 2) (v := .string ⟨#[]⟩) rfl
    have r3 := cellOf hb1 (i := 3) (v := .slice none 0 0) rfl
    have f0 := freeOf hb1 0
    have f1 := freeOf hb1 1
    have f2 := freeOf hb1 2
    have f3 := freeOf hb1 3
    have hX : Hid (∀ u0 u1 u2 u3 : Value, Ext w ((((w1.setCell ⟨rb, 0, none⟩ u0).setCell ⟨rb, 1, none⟩ u1).setCell ⟨rb, 2, none⟩ u2).setCell ⟨rb, 3, none⟩ u3)) := qh fun u0 u1 u2 u3 =>
      ((((X0.out.trans x1).setCell (p := ⟨rb, 0, none⟩) (by rw [HRB.out]; exact Nat.le_refl _) u0).setCell (p := ⟨rb, 1, none⟩) (by rw [HRB.out]; exact Nat.le_refl _) u1).setCell (p := ⟨rb, 2, none⟩) (by rw [HRB.out]; exact Nat.le_refl _) u2).setCell (p := ⟨rb, 3, none⟩) (by rw [HRB.out]; exact Nat.le_refl _) u3
    have H8 := qh h8
    clear hb1 x1 h8
    go_wp2_with fail
    exact bodyPost_ret (v := .tuple #[.agg #[.int .i64 0, .slice none 0 0, .string ⟨#[]⟩, .slice none 0 0], .int .i64 10]) (by simp [results, Tryz.results11, go_sem, r0, r1, r2, r3]) rfl (.inl ⟨H8.out, rfl, hX.out _ _ _ _⟩)
  · obtain ⟨L, hL⟩ : ∃ L, tokens t.data.toList = L := ⟨_, rfl⟩
    have hsm := tokens_small (L := t.data.toList) (by have : t.data.toList.length = t.size := rfl; omega)
    have hkn := tokens_kind t.data.toList
    rw [hL] at htk hsm hkn
    obtain ⟨a, cap, rfl, _, hat⟩ := htk.at
    obtain ⟨N, hN⟩ : ∃ N, L.length = N := ⟨_, rfl⟩
    rw [hN] at hat hsm ⊢
    have HNN := qh (And.intro hN hL)
    have HSM := qh hsm
    have HKN := qh hkn
    have HAT := qh hat
    have H8 := qh h8
    have X1 := qh x1
    have HB1 := qh (x1.block HB0.out)
    have hN82 : N ≤ 8192 := hsm.1
    have HST : Hid (RM w1 (w1.heap.size + 1 + 1) startQ (((w1.alloc (.cells #[.int .i64 1, .slice none 0 0, .string ⟨#[]⟩, .slice none 0 0, .int .i64 (-1)] 60)).alloc (.cells #[.int .i64 0] 3)).alloc (.cells #[.slice (some ⟨w1.heap.size, 0, none⟩) 1 1, .slice (some ⟨w1.heap.size + 1, 0, none⟩) 1 1] 64))) := qh (by
      have k1 := heap_alloc_new w1 (.cells #[.int .i64 1, .slice none 0 0, .string ⟨#[]⟩, .slice none 0 0, .int .i64 (-1)] 60)
      have k2 := heap_alloc_new (w1.alloc (.cells #[.int .i64 1, .slice none 0 0, .string ⟨#[]⟩, .slice none 0 0, .int .i64 (-1)] 60)) (.cells #[.int .i64 0] 3)
      have k3 := heap_alloc_new ((w1.alloc (.cells #[.int .i64 1, .slice none 0 0, .string ⟨#[]⟩, .slice none 0 0, .int .i64 (-1)] 60)).alloc (.cells #[.int .i64 0] 3)) (.cells #[.slice (some ⟨w1.heap.size, 0, none⟩) 1 1, .slice (some ⟨w1.heap.size + 1, 0, none⟩) 1 1] 64)
      simp only [World.size_alloc] at k2 k3
      have xx := (((Ext.refl w1).alloc (.cells #[.int .i64 1, .slice none 0 0, .string ⟨#[]⟩, .slice none 0 0, .int .i64 (-1)] 60)).alloc (.cells #[.int .i64 0] 3)).alloc (.cells #[.slice (some ⟨w1.heap.size, 0, none⟩) 1 1, .slice (some ⟨w1.heap.size + 1, 0, none⟩) 1 1] 64)
      exact SM.start (q := w1.heap.size) (rb := w1.heap.size + 1) ((((Ext.refl _).alloc _).alloc _).block k1) (((Ext.refl _).alloc _).block k2) k3 ⟨Nat.le_refl _, by omega, by omega⟩ xx)
    clear hsm hat h8 x1 htk hL hN hkn
    go_upto_region 5 with fail
    obtain ⟨bb, hbb⟩ : ∃ bb, w1.heap.size + 1 + 1 = bb := ⟨_, rfl⟩
    rw [hbb] at HST ⊢
    generalize ((w1.alloc (.cells #[.int .i64 1, .slice none 0 0, .string ⟨#[]⟩, .slice none 0 0, .int .i64 (-1)] 60)).alloc (.cells #[.int .i64 0] 3)).alloc (.cells #[.slice (some ⟨w1.heap.size, 0, none⟩) 1 1, .slice (some ⟨w1.heap.size + 1, 0, none⟩) 1 1] 64) = w2 at HST ⊢
    clear hbb
    go_wp2_with fail
    go_loopg [7] N (fun gk s26 wr => ∃ k : Nat, s26 = .int .i64 (k : Int) ∧ k + gk = N ∧ RM w1 bb (runQ (L.take k)) wr)
    case atStart => exact ⟨0, rfl, by omega, HST.out⟩
    case round =>
      obtain ⟨k, rfl, hk, hrel⟩ := hrel
      clear HST
      have HREL := qh hrel
      clear hrel
      by_cases hlt : k < N
      · obtain ⟨g', rfl⟩ : ∃ g', gk = g' + 1 := ⟨gk - 1, by omega⟩
        have hltz : decide ((k : Int) < (N : Int)) = true := decide_eq_true (by omega)
        have hltn : decide (k < N) = true := decide_eq_true hlt
        obtain ⟨tk, htk⟩ : ∃ tk, L[k]? = some tk := ⟨L[k]'(by have := HNN.out.1; omega), by simp⟩
        obtain ⟨g, rfl, hgt⟩ := HAT.out (by omega)
        have hT := hgt k tk htk
        have hx : Ext w1 wr := by obtain ⟨_, _, _, _, h1, _⟩ := HREL.out.out; exact h1.ext
        obtain ⟨aa, ac, q3, hatt⟩ := hT.attrs
        have q0 := hx.cell hT.kind
        have q1 := hx.cell hT.name
        have q2 := hx.cell hT.text
        replace q3 := hx.cell q3
        have q4 := hx.cell hT.self
        have q5 := hx.cell hT.lo
        have q6 := hx.cell hT.hi
        obtain ⟨hbk, hnm⟩ := HSM.out.2 tk (List.mem_of_getElem? htk)
        have hkd0 := HKN.out tk (List.mem_of_getElem? htk)
        have hok := runQ_ok (L := L) (M := 131072) (fun t ht => (HSM.out.2 t ht).1) k
        have hkM : k * 131072 ≤ 2000000000 := by
          have : k * 131072 ≤ 8192 * 131072 := Nat.mul_le_mul_right _ (by omega)
          omega
        obtain ⟨r, hr⟩ : ∃ r, runQ (L.take k) = r := ⟨_, rfl⟩
        rw [hr] at HREL hok
        have hnext : runQ (L.take (k + 1)) = tokenQ tk r := by
          have e1 : L.take (k + 1) = L.take k ++ [tk] := by rw [List.take_add_one, htk]; rfl
          rw [e1, runQ_snoc, hr]
        have HNX := qh hnext
        have HOK := qh hok
        have HKD0 := qh hkd0
        have HTX : Hid (∀ W, Ext wr W → Calls Tryz.prog 28 #[.pointer (some ⟨bb, 0, none⟩), .string (bs tk.text)] W (RMIs w1 bb (textQ tk.text r))) := qh (fun W x => rtext_any (HREL.out.to x) HOK.out hkM tk.text (by omega))
        have HFD := qh (fun W => rFind_any tk.name (fun c hc => (hnm.2 c hc).2) (by have := hnm.1; omega) W)
        have HBG : Hid (∀ tag, 1 ≤ tag ∧ tag ≤ 16 → ∀ W, Ext wr W → Calls Tryz.prog 30 #[.pointer (some ⟨bb, 0, none⟩), .int .i64 tag, .slice aa tk.attrs.length ac] W (RMIs w1 bb (beginQ tag tk.attrs r))) := qh (fun tag ht W x => rbegin_any (HREL.out.to x) HOK.out tag ht _ tk.attrs hatt)
        obtain ⟨kd, hkd⟩ : ∃ kd, tk.kind = kd := ⟨_, rfl⟩
        have HKD := qh hkd
        obtain ⟨nm, hnm2⟩ : ∃ nm, bs tk.name = nm := ⟨_, rfl⟩
        obtain ⟨tx, htx⟩ : ∃ tx, bs tk.text = tx := ⟨_, rfl⟩
        obtain ⟨an, han⟩ : ∃ an, tk.attrs.length = an := ⟨_, rfl⟩
        obtain ⟨sf, hsf⟩ : ∃ sf : Int, selfZ tk.self = sf := ⟨_, rfl⟩
        obtain ⟨lo, hlo⟩ : ∃ lo : Int, (tk.lo : Int) = lo := ⟨_, rfl⟩
        obtain ⟨hi, hhi⟩ : ∃ hi : Int, (tk.hi : Int) = hi := ⟨_, rfl⟩
        rw [hkd] at q0
        rw [hnm2] at q1 HFD
        rw [htx] at q2 HTX
        rw [han] at q3 HBG
        rw [hsf] at q4
        rw [hlo] at q5
        rw [hhi] at q6
        have HK := qh hk
        clear hT hx hatt hbk hnm hok hkd hnm2 htx han htk hgt hk hkd0 hr hnext hkM hsf hlo hhi
        have xr := (Ext.refl wr).alloc (.cells #[.int .i64 kd, .string nm, .string tx, .slice aa an ac, .int .i64 sf, .int .i64 lo, .int .i64 hi] 55)
        have hbn := heap_alloc_new wr (.cells #[.int .i64 kd, .string nm, .string tx, .slice aa an ac, .int .i64 sf, .int .i64 lo, .int .i64 hi] 55)
        go_upto_region 9 with fail
        obtain ⟨w3, hw3⟩ : ∃ W : World, W = wr.alloc (.cells #[.int .i64 kd, .string nm, .string tx, .slice aa an ac, .int .i64 sf, .int .i64 lo, .int .i64 hi] 55) := ⟨_, rfl⟩
        rw [← hw3] at xr hbn ⊢
        clear hw3 q0 q1 q2 q3 q4 q5 q6
        obtain ⟨tb, htb⟩ : ∃ tb, wr.heap.size = tb := ⟨_, rfl⟩
        rw [htb] at hbn ⊢
        clear htb
        have XR := qh xr
        have HBN := qh hbn
        have m0 := cellOf hbn (i := 0) (v := .int .i64 kd) rfl
        have m1 := cellOf hbn (i := 1) (v := .string nm) rfl
        have m2 := cellOf hbn (i := 2) (v := .string tx) rfl
        clear xr hbn
        rcases bcases (kd == 1) with k1 | k1
        · have HT : Hid (tokenQ tk r = textQ tk.text r) := qh (by unfold tokenQ; rw [if_pos (by rw [HKD.out]; exact beq_iff_eq.1 k1)])
          go_wp2_with (go_at_call 28; refine (HTX.out _ XR.out).mono ?_)
          rintro e w4 ⟨rfl, hr4⟩
          have H4 := qh hr4
          clear hr4 m0 m1 m2
          go_wp2_with fail
          go_roundg g'
          case measure => omega
          case rel => exact ⟨k + 1, by first | rfl | go_num | exact intN (by omega), by have := HK.out; omega, by rw [HNX.out, HT.out]; exact H4.out⟩
        · have hk1 : ¬ tk.kind = 1 := by rw [HKD.out]; simpa using k1
          have HK1 := qh hk1
          clear hk1
          cases hf : findT tk.name with
          | none =>
            have HT : Hid (tokenQ tk r = r) := qh (by unfold tokenQ; rw [if_neg HK1.out, hf])
            unfold FindIs at HFD
            rw [hf] at HFD
            dsimp only [Option.getD_none, Option.isSome_none] at HFD
            clear hf
            go_wp2_with (go_at_call 29; refine (HFD.out _).mono ?_)
            rintro e w4 ⟨rfl, x4⟩
            have H4 := qh (HREL.out.to (XR.out.trans x4))
            clear x4 m0 m1 m2
            go_wp2_with fail
            go_roundg g'
            case measure => omega
            case rel => exact ⟨k + 1, by first | rfl | go_num | exact intN (by omega), by have := HK.out; omega, by rw [HNX.out, HT.out]; exact H4.out⟩
          | some tag =>
            have htag : 1 ≤ tag ∧ tag ≤ 16 := by
              unfold findT at hf
              rw [Option.map_eq_some_iff] at hf
              obtain ⟨p, hp, rfl⟩ := hf
              exact find_tags p (List.mem_of_find?_eq_some hp)
            have HTAG := qh htag
            have HF := qh hf
            unfold FindIs at HFD
            rw [hf] at HFD
            dsimp only [Option.getD_some, Option.isSome_some] at HFD
            clear hf htag
            go_upto_region 13 with (go_at_call 29; refine (HFD.out _).mono ?_; rintro e w4 ⟨rfl, x4⟩)
            have X4 := qh (XR.out.trans x4)
            have hb4 := x4.block HBN.out
            clear x4 m0 m1 m2
            have m0 := cellOf hb4 (i := 0) (v := .int .i64 kd) rfl
            have m3 := cellOf hb4 (i := 3) (v := .slice aa an ac) rfl
            clear hb4
            rcases bcases (kd == 2) with k2 | k2
            · have HT : Hid (tokenQ tk r = beginQ tag tk.attrs r) := qh (by unfold tokenQ; rw [if_neg HK1.out, HF.out]; dsimp only; rw [if_pos (by rw [HKD.out]; exact beq_iff_eq.1 k2)])
              go_wp2_with (go_at_call 30; refine (HBG.out tag HTAG.out _ X4.out).mono ?_)
              rintro e w5 ⟨rfl, hr5⟩
              have H5 := qh hr5
              clear hr5 m0 m3
              go_wp2_with fail
              go_roundg g'
              case measure => omega
              case rel => exact ⟨k + 1, by first | rfl | go_num | exact intN (by omega), by have := HK.out; omega, by rw [HNX.out, HT.out]; exact H5.out⟩
            · have HT : Hid (tokenQ tk r = ⟨r.all, r.op.drop (closeC (· == tag) (fun _ => false) r.tags)⟩) := qh (by
                unfold tokenQ
                rw [if_neg HK1.out, HF.out]
                dsimp only
                rw [if_neg (by rw [HKD.out]; simpa using k2)])
              obtain ⟨L4, lv, ov, gb, hm, ha⟩ := (HREL.out.to X4.out).out
              have hpos : 0 < r.op.length := List.length_pos_iff.2 HOK.out.ne
              obtain ⟨go, oc, rfl, hoc, hsw⟩ := SW.start hm hpos
              have S1 := qh hsw
              have hal : r.all.length = L4.length := by rw [← ha, List.length_map]
              have LF := qh (fun (z : World) (k : Ext w4 z) => left2_any (hm.to k) (by rw [List.length_reverse]; have := HOK.out.op; have := HOK.out.all; omega) (by rw [List.length_reverse]; exact hpos) ha (fun o ho => by rw [← hal]; exact HOK.out.lt o (List.mem_reverse.1 ho)) tag)
              have hcl := close_lt HOK.out (· == tag) (fun _ => false)
              obtain ⟨c, hc⟩ : ∃ c, closeC (· == tag) (fun _ => false) r.tags = c := ⟨_, rfl⟩
              rw [hc] at hcl HT
              obtain ⟨n, hn⟩ : ∃ n, r.op.length = n := ⟨_, rfl⟩
              obtain ⟨R, hR⟩ : ∃ R, n - c = R := ⟨_, rfl⟩
              have eR : leftN (· == tag) (fun _ => false) r.all r.op.reverse = R := by
                unfold leftN
                rw [tagsO_rev, List.length_reverse, hn, show r.op.map (tagQ r.all) = r.tags from rfl, hc, hR]
              rw [eR] at LF
              have FIN := qh (fun (wk : World) (k : Ext w4 wk) => (S1.out.to k).cut (c := c) (R := R) hcl (by rw [hn]; exact hR.symm))
              have HA4 := qh ha
              obtain ⟨_, b1⟩ := hm.boxes
              have fb := freeOf hm.box 1
              rw [hn] at b1 hoc
              have hRo : R ≤ oc := by omega
              have hRn : R ≤ n := by omega
              clear hm ha hpos hsw hal hcl hc eR hR hn
              as_aux_lemma =>
                go_upto_region 15 with fail
                clear m0 m3
                refine wp_region_E (S := fun w' => w'.cell? ⟨bb, 1, none⟩ = some (.slice (some ⟨go, 0, none⟩) n oc)) (n := 11) (by kernel_rfl) ?_
                have hS : w4.drew.cell? ⟨bb, 1, none⟩ = some (.slice (some ⟨go, 0, none⟩) n oc) := b1
                have hxd : Ext w4 w4.drew := (Ext.refl w4).drew
                obtain ⟨wd, hwd⟩ : ∃ wd : World, wd = w4.drew := ⟨_, rfl⟩
                rw [← hwd] at hS hxd ⊢
                clear hwd
                show wpE _ _ _ _ _ 11 12 (Array.replicate 12 false) _ _
                refine wpE_tk 0 59 (.pointer (some ⟨bb, 0, none⟩)) rfl (.inl ⟨by rfl, fun w' hSw => ?_⟩) hS ?_
                · (clear hS; go_simp)
                try simp only [Act.put, zA, zB, zC]
                refine wpE_tk 1 60 (.pointer (some ⟨bb, 0, none⟩)) rfl (.inl ⟨by rfl, fun w' hSw => ?_⟩) hS ?_
                · (clear hS; go_simp)
                try simp only [Act.put, zA, zB, zC]
                refine wpE_tk 2 61 (.pointer (some ⟨bb, 0, none⟩)) rfl (.inl ⟨by rfl, fun w' hSw => ?_⟩) hS ?_
                · (clear hS; go_simp)
                try simp only [Act.put, zA, zB, zC]
                refine wpE_tk 3 62 (.pointer (some ⟨bb, 1, none⟩)) rfl (.inl ⟨by rfl, fun w' hSw => ?_⟩) hS ?_
                · (clear hS; go_simp)
                try simp only [Act.put, zA, zB, zC]
                refine wpE_tk 4 63 (.slice (some ⟨go, 0, none⟩) n oc) rfl (.inl ⟨by rfl, fun w' hSw => ?_⟩) hS ?_
                · (clear hS; go_simp)
                try simp only [Act.put, zA, zB, zC]
                refine wpE_tk 5 64 (.pointer (some ⟨bb, 0, none⟩)) rfl (.inl ⟨by rfl, fun w' hSw => ?_⟩) hS ?_
                · (clear hS; go_simp)
                try simp only [Act.put, zA, zB, zC]
                refine wpE_tk 6 65 (.int .i64 tag) rfl (.inl ⟨by rfl, fun w' hSw => ?_⟩) hS ?_
                · (clear hS; go_simp)
                try simp only [Act.put, zA, zB, zC]
                refine wpE_on 7 (some 66) rfl (fun K hK => ?_)
                go_simp
                go_at_call 31
                refine (LF.out wd hxd).mono ?_
                rintro e wk ⟨rfl, hxk⟩
                have hcb := hxk.cells _ _ hS
                have hfb := (hxd.trans hxk).free (cell_lt b1) fb
                have XK := qh (hxd.trans hxk)
                refine hK.out _ _ (.inr hcb) ?_
                clear hK K
                try simp only [Act.put, zA, zB, zC]
                refine wpE_on 8 (some 67) rfl (fun K hK => ?_)
                go_simp
                refine hK.out _ _ (.inr hcb) ?_
                clear hK K
                try simp only [Act.put, zA, zB, zC]
                refine wpE_on 9 (some 68) rfl (fun K hK => ?_)
                go_simp
                refine hK.out _ _ (.inr hcb) ?_
                clear hK K
                try simp only [Act.put, zA, zB, zC]
                refine wpE_on 10 (some 69) rfl (fun K hK => ?_)
                go_simp
                refine hK.out _ _ (.inr hcb) ?_
                clear hK K
                try simp only [Act.put, zA, zB, zC]
                refine wpE_on 11 (none) rfl (fun K hK => ?_)
                go_simp
                refine hK.out _ _ (.inl rfl) ?_
                clear hK K
                refine wpE_done (by kernel_rfl) ?_
                obtain ⟨wz, hwz⟩ : ∃ wz : World, wz = wk.setCell ⟨bb, 1, none⟩ (.slice (some ⟨go, 0, none⟩) R oc) := ⟨_, rfl⟩
                have F2 := qh (FIN.out wk XK.out)
                rw [← hwz] at F2 ⊢
                clear hwz hcb hfb hS hxd hxk b1 fb
                go_wp2_with fail
                go_roundg g'
                case measure => omega
                case rel => exact ⟨k + 1, by first | rfl | go_num | exact intN (by omega), by have := HK.out; omega, by rw [HNX.out, HT.out]; exact ⟨⟨L4, _, _, gb, F2.out.sm, HA4.out⟩⟩⟩
      · have hkN : k = N := by omega
        subst hkN
        have e1 : decide ((k : Int) < (k : Int)) = false := decide_eq_false (by omega)
        have hTL : L.take k = L := List.take_of_length_le (by have := HNN.out.1; omega)
        have hok := runQ_ok (L := L) (M := 131072) (fun t ht => (HSM.out.2 t ht).1) k
        rw [hTL] at hok
        have hrel := HREL.out
        rw [hTL] at hrel
        obtain ⟨L4, lv, ov, gb, hm, ha⟩ := hrel.out
        have hx : Ext w1 wr := hm.ext
        have hal : (runQ L).all.length = L4.length := by rw [← ha, List.length_map]
        have h0 : 0 < (runQ L).all.length := by
          obtain ⟨o, os, ho⟩ := List.exists_cons_of_ne_nil hok.ne
          have := hok.lt o (by rw [ho]; simp)
          omega
        obtain ⟨p, hp⟩ : ∃ p, L4[0]? = some p := ⟨L4[0]'(by omega), by simp⟩
        have hpl := rplain_any (ga := hide (fun y => if y = rb then some (0, 0) else none) w1) ha (fun p hp => rd_hide HB1.out (hm.att p hp)) (by rw [← hal]; exact hok.all) hok.low (runQ L).all.length 0 p wr (by omega) hp hm
        have hhost : plainR (runQ L).all 0 = hostZ L := rel_host HKN.out
        rw [hhost] at hpl
        have HPL := qh hpl
        have HXR := qh (X1.out.trans hx)
        have HX1R := qh hx
        have hbr := hx.block HB1.out
        have HBR := qh hbr
        clear hTL hok hrel hm ha hx hal h0 hp hpl hhost hbr
        go_wp2_with (go_at_call 32; refine HPL.out.mono ?_)
        rintro e w6 ⟨v0, F0, rfl, ho, x6, hF0⟩
        obtain ⟨na, nac, nk, nkc, rfl⟩ := ho.shape
        have hb6 := x6.block HBR.out
        have r0 := cellOf hb6 (i := 0) (v := .int .i64 0) rfl
        have r1 := cellOf hb6 (i := 1) (v := .slice none 0 0) rfl
        have r2 := cellOf hb6 (i := 2) (v := .string ⟨#[]⟩) rfl
        have r3 := cellOf hb6 (i := 3) (v := .slice none 0 0) rfl
        have f0 := freeOf hb6 0
        have f1 := freeOf hb6 1
        have f2 := freeOf hb6 2
        have f3 := freeOf hb6 3
        have hrbl : rb < w1.heap.size := (Array.getElem?_eq_some_iff.1 HB1.out).1
        have FIN : Hid (∀ u0 u1 u2 u3 : Value, Ext w ((((w6.setCell ⟨rb, 0, none⟩ u0).setCell ⟨rb, 1, none⟩ u1).setCell ⟨rb, 2, none⟩ u2).setCell ⟨rb, 3, none⟩ u3) ∧
            RdN ((((w6.setCell ⟨rb, 0, none⟩ u0).setCell ⟨rb, 1, none⟩ u1).setCell ⟨rb, 2, none⟩ u2).setCell ⟨rb, 3, none⟩ u3) (hostZ L) (.agg #[.int .i64 (hostZ L).tag, .slice na (hostZ L).attrs.length nac, .string (hostZ L).text, .slice nk (hostZ L).kids.length nkc])) := qh (fun u0 u1 u2 u3 => by
          have far : ∀ (q : Addr) y, w6.cell? q = some y → q.block ≠ rb → ((((w6.setCell ⟨rb, 0, none⟩ u0).setCell ⟨rb, 1, none⟩ u1).setCell ⟨rb, 2, none⟩ u2).setCell ⟨rb, 3, none⟩ u3).cell? q = some y := fun q y hq hne => by
            rw [World.cell?_setCell_far _ _ _ _ (Ne.symm hne), World.cell?_setCell_far _ _ _ _ (Ne.symm hne), World.cell?_setCell_far _ _ _ _ (Ne.symm hne), World.cell?_setCell_far _ _ _ _ (Ne.symm hne)]
            exact hq
          refine ⟨((((HXR.out.trans x6 |> X0.out.trans).setCell (p := ⟨rb, 0, none⟩) (by rw [HRB.out]; exact Nat.le_refl _) u0).setCell (p := ⟨rb, 1, none⟩) (by rw [HRB.out]; exact Nat.le_refl _) u1).setCell (p := ⟨rb, 2, none⟩) (by rw [HRB.out]; exact Nat.le_refl _) u2).setCell (p := ⟨rb, 3, none⟩) (by rw [HRB.out]; exact Nat.le_refl _) u3, ?_⟩
          refine ho.rd (B := wr.heap.size) (fun q y hq => ?_) (fun q y hq hB => far q y hq (by have := HX1R.out.size; omega)) (fun x hx => (hF0 x hx).1)
          obtain ⟨h1, h2⟩ := hide_apart _ _ q y hq
          dsimp only at h2
          refine far q y ((HX1R.out.trans x6).cells _ _ h1) fun e => ?_
          rw [if_pos e] at h2
          cases h2)
        obtain ⟨nd, hnd⟩ : ∃ nd, hostZ L = nd := ⟨_, rfl⟩
        have HND : Hid (hostZ (tokens t.data.toList) = nd) := qh (by rw [HNN.out.2]; exact hnd)
        rw [hnd] at FIN ⊢
        clear ho hF0 x6 hb6 hrbl hnd
        go_wp2_with fail
        refine bodyPost_ret (v := .tuple #[.agg #[.int .i64 nd.tag, .slice na nd.attrs.length nac, .string nd.text, .slice nk nd.kids.length nkc], .int .i64 0]) (by simp [results, Tryz.results11, go_sem, r0, r1, r2, r3]) rfl ?_
        exact .inr ⟨H8.out, _, rfl, (FIN.out _ _ _ _).1, by rw [HND.out]; exact (FIN.out _ _ _ _).2⟩
theorem buildHost_walk (s : ByteArray) (w : World) (hl : LW w) : Calls Tryz.prog 3 #[.string s] w (RBool true w) := by
  have HAW := qh (fun W (hW : LW W) => awake15_any W hW)
  have HL := qh hl
  clear hl
  by_cases hbig : 50000 < s.size
  · have d1 : decide ((s.size : Int) > 50000) = true := decide_eq_true (by omega)
    clear hbig
    go_enter Tryz.func3, Tryz.ntmps3
    go_wp2_with (go_at_call 9; refine (HAW.out _ HL.out).mono ?_)
    rintro e w1 ⟨rfl, x1⟩
    go_wp2_with fail
    go_ret
    exact ⟨rfl, x1⟩
  have d1 : decide ((s.size : Int) > 50000) = false := decide_eq_false (by omega)
  have HH := qh (Host_any s (by omega) w HL.out)
  have HR := qh (fun W => rHost_any s (by omega) W)
  obtain ⟨t, ht⟩ : ∃ t, anewB s = t := ⟨_, rfl⟩
  rw [ht] at HH HR
  clear hbig ht
  go_enter Tryz.func3, Tryz.ntmps3
  go_wp2_with (go_at_call 10; refine HH.out.mono ?_)
  rintro e w1 (⟨h8, rfl, x1⟩ | ⟨h8, v, rfl, x1, r1⟩)
  · unfold zeroNV
    have H8 := qh h8
    have xa := x1.alloc (.cells #[.int .i64 0, .slice none 0 0, .string ⟨#[]⟩, .slice none 0 0] 26)
    have bb := heap_alloc_new w1 (.cells #[.int .i64 0, .slice none 0 0, .string ⟨#[]⟩, .slice none 0 0] 26)
    have X1 := qh xa
    have B1 := qh bb
    clear x1 h8 xa bb
    go_wp2_with (go_at_call 11; refine (HR.out _).mono ?_)
    rintro e w3 (⟨h9, rfl, x3⟩ | ⟨h9, v, rfl, x3, r3⟩)
    · unfold zeroNV
      have xb := x3.alloc (.cells #[.int .i64 0, .slice none 0 0, .string ⟨#[]⟩, .slice none 0 0] 26)
      have bf := heap_alloc_new w3 (.cells #[.int .i64 0, .slice none 0 0, .string ⟨#[]⟩, .slice none 0 0] 26)
      have be := xb.block B1.out
      obtain ⟨n0, n1, n2, n3⟩ := cells4 be
      obtain ⟨m0, m1, m2, m3⟩ := cells4 bf
      have X4 := qh (X1.out.trans xb)
      have SN := qh (fun W => SameNode_eq (.mk 0 [] ⟨#[]⟩ []) (by decide) W _ _ (RdN.leaf W 0 ⟨#[]⟩) (RdN.leaf W 0 ⟨#[]⟩))
      clear x3 h9 xb bf be
      go_wp2_with (go_at_call 12; refine (SN.out _).mono ?_)
      rintro e w5 ⟨rfl, x5⟩
      have X5 := qh (X4.out.trans x5)
      clear x5 n0 n1 n2 n3 m0 m1 m2 m3
      go_wp2_with (go_at_call 9; refine (HAW.out _ (HL.out.ext X5.out)).mono ?_)
      rintro e w6 ⟨rfl, x6⟩
      go_wp2_with fail
      go_ret
      exact ⟨rfl, X5.out.trans x6⟩
    · exact absurd h9 (by have := H8.out; omega)
  · have HB := qh (Built.of (L := t.data.toList) h8)
    have H8 := qh h8
    obtain ⟨n, hn⟩ : ∃ n, hostZ (tokens t.data.toList) = n := ⟨_, rfl⟩
    have HN := qh hn
    rw [hn] at r1 HB
    obtain ⟨aa, ac, ka, kc, rfl⟩ := host_in r1
    have xa := x1.alloc (.cells #[.int .i64 n.tag, .slice aa n.attrs.length ac, .string n.text, .slice ka n.kids.length kc] 26)
    have xa1 := (Ext.refl w1).alloc (.cells #[.int .i64 n.tag, .slice aa n.attrs.length ac, .string n.text, .slice ka n.kids.length kc] 26)
    have bb := heap_alloc_new w1 (.cells #[.int .i64 n.tag, .slice aa n.attrs.length ac, .string n.text, .slice ka n.kids.length kc] 26)
    have X1 := qh xa
    have XA := qh xa1
    have B1 := qh bb
    have R1 := qh r1
    clear x1 h8 xa xa1 bb r1 hn
    go_wp2_with (go_at_call 11; refine (HR.out _).mono ?_)
    rintro e w3 (⟨h9, rfl, x3⟩ | ⟨h9, v, rfl, x3, r3⟩)
    · exact absurd h9 (by have := H8.out; omega)
    · rw [HN.out] at r3
      obtain ⟨aa2, ac2, ka2, kc2, rfl⟩ := host_in r3
      have xf := x3.alloc (.cells #[.int .i64 n.tag, .slice aa2 n.attrs.length ac2, .string n.text, .slice ka2 n.kids.length kc2] 26)
      have xg := (Ext.refl w3).alloc (.cells #[.int .i64 n.tag, .slice aa2 n.attrs.length ac2, .string n.text, .slice ka2 n.kids.length kc2] 26)
      have hbf := heap_alloc_new w3 (.cells #[.int .i64 n.tag, .slice aa2 n.attrs.length ac2, .string n.text, .slice ka2 n.kids.length kc2] 26)
      have hbe := xf.block B1.out
      obtain ⟨n0, n1, n2, n3⟩ := cells4 hbe
      obtain ⟨m0, m1, m2, m3⟩ := cells4 hbf
      have SN := qh (SameNode_eq n HB.out.fair _ _ _ (RdN.cells R1.out (XA.out.trans xf).cells) (RdN.cells r3 xg.cells))
      have X5 := qh (X1.out.trans xf)
      clear x3 r3 xf xg hbf hbe h9
      go_wp2_with (go_at_call 12; refine SN.out.mono ?_)
      rintro e w6 ⟨rfl, x6⟩
      have X6 := qh (X5.out.trans x6)
      clear x6 n0 n1 n2 n3 m0 m1 m2 m3
      go_wp2_with (go_at_call 9; refine (HAW.out _ (HL.out.ext X6.out)).mono ?_)
      rintro e w7 ⟨rfl, x7⟩
      go_wp2_with fail
      go_ret
      exact ⟨rfl, X6.out.trans x7⟩
end Go.Proofs.YtalaajbajgdglaaGreatDoor
