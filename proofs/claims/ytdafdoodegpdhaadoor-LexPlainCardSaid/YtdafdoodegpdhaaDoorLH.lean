/- lex.entity: what an ampersand, and what is behind it, stands for. Conditions: at most 10^12 bytes; the first is an ampersand. -/
import Derived.Test.YtdafdoodegpdhaaDoorLG
namespace Go.Proofs.YtdafdoodegpdhaaDoor
open Go Go.RowKit Go.BigFrame
set_option linter.unusedVariables false
set_option linter.unusedSimpArgs false

set_option maxHeartbeats 2000000 in
set_option maxRecDepth 100000 in
theorem entity_any (s : ByteArray) (hs : s.size ≤ 1000000000000) (hh : s.data.toList.head? = some 38) (w : World) (hl : LW w) :
    Calls Tryd.prog 40 #[.string s] w (RTwo (.string (bs (entityL s.data.toList).1)) (.int .i64 (entityL s.data.toList).2) w) := by
  obtain ⟨l, hl0⟩ : ∃ l, s.data.toList = l := ⟨_, rfl⟩
  have hsb : s = bs l := by rw [← hl0, bs_list]
  have hz : s.size = l.length := by rw [← hl0]; rfl
  have hcut : ∀ i j, s.extract i j = bs ((l.drop i).take (j - i)) := fun i j => by rw [hsb]; exact bs_cut l i j
  have h12 : (bs (l.take 12)).data.toList = l.take 12 := bs_data _
  have hd12 : (s.extract 0 (min (s.size : Int) 12).toNat).data.toList = l.take 12 := by
    rw [hcut, bs_data, List.drop_zero]
    have e : (min (s.size : Int) 12).toNat - 0 = min l.length 12 := by omega
    rw [e]
    by_cases h : l.length ≤ 12
    · rw [Nat.min_eq_left h, List.take_of_length_le (Nat.le_refl _), List.take_of_length_le h]
    · rw [Nat.min_eq_right (by omega)]
  have HI := Lib.hid (fun W => (hd12 ▸ IndexByte_any (s.extract 0 (min (s.size : Int) 12).toNat) 59 59 rfl W : Calls Tryd.prog 38 #[.string (s.extract 0 (min (s.size : Int) 12).toNat), .int .u8 59] W (RVal (.int .i64 (Lib.indexByte (l.take 12) 59)) W)))
  obtain ⟨res, hres⟩ : ∃ r, entityL l = r := ⟨_, rfl⟩
  rw [hl0, hres]
  rw [hl0] at hh
  unfold entityL at hres
  have HR := Lib.hid hres
  have HL := Lib.hid hl
  have HC := Lib.hid hcut
  have HH := Lib.hid hh
  have HZ := Lib.hid hz
  have HB := Lib.hid hl0
  obtain ⟨e, he⟩ : ∃ e, Lib.indexByte (l.take 12) 59 = e := ⟨_, rfl⟩
  rw [he] at HI HR
  have HE := Lib.hid he
  have b12 : 0 ≤ min (s.size : Int) 12 := by omega
  have c12 : min (s.size : Int) 12 ≤ (s.size : Int) := by omega
  clear hres hl hcut hh hsb h12 hl0 hd12 hz he
  go_enter Tryd.func40, Tryd.ntmps40
  go_wp2_with (go_at_call 38; refine (HI.out _).mono ?_)
  rintro e w1 ⟨rfl, x1⟩
  have X1 := Lib.hid x1
  clear x1 b12 c12
  by_cases hneg : e < 0
  · have hr : res = ([38], 1) := by rw [← HR.out, if_pos hneg]
    subst hr
    go_wp2_with fail
    go_ret2
    exact ⟨rfl, X1.out⟩
  obtain ⟨k, hk, hk59, _⟩ := indexByte_some (by rw [HE.out]; exact hneg)
  rw [HE.out] at hk
  subst hk
  have hk12 : k < 12 ∧ k < l.length := by
    have h := (List.getElem?_eq_some_iff.1 hk59).1
    rw [List.length_take] at h; omega
  have hlk : l[k]? = some 59 := by rw [List.getElem?_take, if_pos hk12.1] at hk59; exact hk59
  have hk0 : 1 ≤ k := by
    rcases Nat.eq_zero_or_pos k with rfl | h
    · have h1 := HH.out; rw [List.head?_eq_getElem?, hlk] at h1; cases h1
    · exact h
  have HR2 : Hid ((match meansL l k with | some x => (x, k + 1) | none => ([38], 1)) = res) := Lib.hid (by rw [← HR.out, if_neg hneg]; rfl)
  have HK := Lib.hid hlk
  have HK12 := Lib.hid hk12
  have b1 : (1 : Int) ≤ (k : Int) := by omega
  have b2 : (k : Int) ≤ (s.size : Int) := by have := HZ.out; have := hk12.2; omega
  have kneg : decide ((k : Int) < 0) = false := decide_eq_false (by omega)
  have hn1 : (s.extract 1 k).data.toList = (l.drop 1).take (k - 1) := by rw [HC.out, bs_data]
  have HN := Lib.hid (fun W => (hn1 ▸ named_any (s.extract 1 k) W : Calls Tryd.prog 56 #[.string (s.extract 1 k)] W (RVal (optV (namedL ((l.drop 1).take (k - 1)))) W)))
  clear hneg hk59 hlk hk12 hn1
  obtain ⟨o, ho⟩ : ∃ o, namedL ((l.drop 1).take (k - 1)) = o := ⟨_, rfl⟩
  rw [ho] at HN
  have HO := Lib.hid ho
  clear ho
  go_wp2_with (go_at_call 56; refine (HN.out _).mono ?_)
  rintro e w2 ⟨rfl, x2⟩
  have X2 := Lib.hid (X1.out.trans x2)
  clear x2
  have hwk : IntKind.i64.wrap ((k : Int) + 1) = (k : Int) + 1 := IntWalk.i64_in _ (by have := HK12.out; omega)
  cases o with
  | some x =>
    have hr : res = (x, k + 1) := by rw [← HR2.out]; unfold meansL; rw [HO.out]
    subst hr
    unfold optV
    go_wp2_with fail
    go_ret2
    exact ⟨rfl, X2.out⟩
  | none =>
    have hpx : Lib.hasPrefix l [38, 35] = decide (l.take 2 = [38, 35]) := by
      cases l with
      | nil => rfl
      | cons a r =>
        cases r with
        | nil => rw [Bool.eq_iff_iff]; simp [Lib.hasPrefix, List.isPrefixOf]
        | cons b r => rw [Bool.eq_iff_iff]; simp [Lib.hasPrefix, List.isPrefixOf]; exact ⟨fun h => ⟨h.1.symm, h.2.symm⟩, fun h => ⟨h.1.symm, h.2.symm⟩⟩
    have HP := Lib.hid (fun W => (HB.out ▸ HasPrefix_any s ⟨#[38, 35]⟩ W : Calls Tryd.prog 57 #[.string s, .string ⟨#[38, 35]⟩] W (RVal (.bool (Lib.hasPrefix l [38, 35])) W)))
    by_cases h2 : l.take 2 = [38, 35]
    · rw [hpx, decide_eq_true h2] at HP
      have hk2 : 2 ≤ k := by
        rcases Nat.lt_or_ge k 2 with h | h
        · have h1 : k = 1 := by omega
          have h3 : (l.take 2)[1]? = some 59 := by rw [List.getElem?_take, if_pos (by decide), ← h1]; exact HK.out
          rw [h2] at h3
          cases h3
        · exact h
      have hn2 : (s.extract 2 k).data.toList = (l.drop 2).take (k - 2) := by rw [HC.out, bs_data]
      have hz2 : (s.extract 2 k).size ≤ 20 := by
        show (s.extract 2 k).data.toList.length ≤ 20
        rw [hn2, List.length_take]
        have := HK12.out
        omega
      have HCD := Lib.hid (fun W (hW : LW W) => (hn2 ▸ coded_any (s.extract 2 k) hz2 W hW : Calls Tryd.prog 58 #[.string (s.extract 2 k)] W (RVal (optV (codedL ((l.drop 2).take (k - 2)))) W)))
      have b3 : (2 : Int) ≤ (k : Int) := by omega
      obtain ⟨o2, ho2⟩ : ∃ o, codedL ((l.drop 2).take (k - 2)) = o := ⟨_, rfl⟩
      rw [ho2] at HCD
      have hm : meansL l k = o2 := by unfold meansL; rw [HO.out]; dsimp only; rw [if_pos h2, ho2]
      have HM := Lib.hid hm
      clear hm ho2 hz2 hn2 hk2 h2 hpx
      unfold optV
      go_wp2_with (go_at_call 57; refine (HP.out _).mono ?_)
      rintro e w3 ⟨rfl, x3⟩
      have X3 := Lib.hid (X2.out.trans x3)
      clear x3
      go_wp2_with (go_at_call 58; refine (HCD.out _ (HL.out.ext X3.out)).mono ?_)
      rintro e w4 ⟨rfl, x4⟩
      have X4 := Lib.hid (X3.out.trans x4)
      clear x4
      cases o2 with
      | some x =>
        have hr : res = (x, k + 1) := by rw [← HR2.out, HM.out]
        subst hr
        unfold optV
        go_wp2_with fail
        go_ret2
        exact ⟨rfl, X4.out⟩
      | none =>
        have hr : res = ([38], 1) := by rw [← HR2.out, HM.out]
        subst hr
        unfold optV
        go_wp2_with fail
        go_ret2
        exact ⟨rfl, X4.out⟩
    · rw [hpx, decide_eq_false h2] at HP
      have hr : res = ([38], 1) := by rw [← HR2.out]; unfold meansL; rw [HO.out]; dsimp only; rw [if_neg h2]
      subst hr
      clear h2 hpx
      unfold optV
      go_wp2_with (go_at_call 57; refine (HP.out _).mono ?_)
      rintro e w3 ⟨rfl, x3⟩
      go_wp2_with fail
      go_ret2
      exact ⟨rfl, X2.out.trans x3⟩
end Go.Proofs.YtdafdoodegpdhaaDoor
