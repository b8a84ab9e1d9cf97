/- The document's lexer: Note. Conditions: at most 10^6 bytes. -/
import Derived.Test.YtdafdoodegpdhaaGreatDoorNA
namespace Go.Proofs.YtdafdoodegpdhaaGreatDoor
open Go Go.RowKit Go.BigFrame
set_option linter.unusedVariables false
set_option linter.unusedSimpArgs false

theorem drop_ix {s : ByteArray} {j : Nat} {c : UInt8} (h : s.data.toList[j]? = some c) : s.data.toList.drop j = c :: s.data.toList.drop (j + 1) := by
  obtain ⟨h1, h2⟩ := List.getElem?_eq_some_iff.1 h
  rw [List.drop_eq_getElem_cons h1, h2]
theorem pre_begins (t l : List UInt8) : t.isPrefixOf l = decide (l.take t.length = t) := by
  rw [Bool.eq_iff_iff, List.isPrefixOf_iff_prefix, decide_eq_true_iff, List.prefix_iff_eq_take]
  exact eq_comm
/-- the document's Note, of what is behind the note -/
def noteZ (s : ByteArray) : Option (List UInt8) → Int
  | some e => ((s.size - e.length : Nat) : Int)
  | none => -1
set_option maxHeartbeats 8000000 in
set_option maxRecDepth 100000 in
theorem rNote_any (s : ByteArray) (k : Nat) (hs : s.size ≤ 1000000) (hk : k ≤ s.size) (w0 : World) :
    Calls Tryz.prog 16 #[.string s, .int .i64 (k : Int)] w0 (RVal (.int .i64 (noteZ s (noteL (s.data.toList.drop k)))) w0) := by
  obtain ⟨z, hz⟩ : ∃ z, noteZ s (noteL (s.data.toList.drop k)) = z := ⟨_, rfl⟩
  rw [hz]
  have HZ := Lib.hid hz
  have hls : s.data.toList.length = s.size := rfl
  have b4 := begins_any s ⟨#[60, 33, 45, 45]⟩ k (by omega) (by decide) (by decide) (by omega)
  have b2 := begins_any s ⟨#[60, 33]⟩ k (by omega) (by decide) (by decide) (by omega)
  have b3 := begins_any s ⟨#[60, 63]⟩ k (by omega) (by decide) (by decide) (by omega)
  have p4 : beginsL s.data.toList k (⟨#[60, 33, 45, 45]⟩ : ByteArray).data.toList = [60, 33, 45, 45].isPrefixOf (s.data.toList.drop k) := by rw [pre_begins]; rfl
  have p2 : beginsL s.data.toList k (⟨#[60, 33]⟩ : ByteArray).data.toList = [60, 33].isPrefixOf (s.data.toList.drop k) := by rw [pre_begins]; rfl
  have p3 : beginsL s.data.toList k (⟨#[60, 63]⟩ : ByteArray).data.toList = [60, 63].isPrefixOf (s.data.toList.drop k) := by rw [pre_begins]; rfl
  rw [p4] at b4
  rw [p2] at b2
  rw [p3] at b3
  obtain ⟨l, hl⟩ : ∃ l, s.data.toList = l := ⟨_, rfl⟩
  rw [hl] at b4 b2 b3 HZ hls
  have HL := Lib.hid hl
  have HLS := Lib.hid hls
  obtain ⟨r, hr⟩ : ∃ r, l.drop k = r := ⟨_, rfl⟩
  rw [hr] at b4 b2 b3 HZ
  have HDR := Lib.hid hr
  have H4 := Lib.hid b4
  have H2 := Lib.hid b2
  have H3 := Lib.hid b3
  have hrl : r.length = s.size - k := by rw [← hr, List.length_drop, hls]
  have hw2 : IntKind.i64.wrap ((k : Int) + 2) = (k : Int) + 2 := IntWalk.i64_in _ (by omega)
  have hw4 : IntKind.i64.wrap ((k : Int) + 4) = (k : Int) + 4 := IntWalk.i64_in _ (by omega)
  clear b4 b2 b3 p4 p2 p3 hz hl hls hr
  cases h4 : ([60, 33, 45, 45] : List UInt8).isPrefixOf r with
  | true =>
    rw [h4] at H4
    have hfit : k + 4 ≤ s.size := by have := pre_take h4; simp only [List.length_cons, List.length_nil] at this; omega
    have hnote : noteL r = some (findEnd [45, 45, 62] (l.drop (k + 4))) := by
      unfold noteL
      rw [if_pos h4, ← HDR.out, List.drop_drop]
    clear h4 hrl H2 H3
    go_enter Tryz.func16, Tryz.ntmps16
    go_wp2_with (go_at_call 33; refine (H4.out _).mono ?_)
    rintro e w4 ⟨rfl, x4⟩
    have XX := Lib.hid x4
    clear x4
    have HFE : Hid (noteZ s (some (findEnd ([45, 45, 62] : List UInt8) (l.drop (k + 4)))) = z) := Lib.hid (by rw [← HZ.out]; exact congrArg (noteZ s) hnote.symm)
    have hkl : k + 4 ≤ s.size := hfit
    clear hnote hfit
    go_wp2_with fail
    go_loopw [7] (fun iv wr => ∃ j : Nat, k + 4 ≤ j ∧ j ≤ s.size ∧ iv = .int .i64 j ∧ noteZ s (some (findEnd ([45, 45, 62] : List UInt8) (l.drop j))) = z ∧ Ext w0 wr) (fun iv _ => s.size - (intOf iv).toNat)
    case atStart => exact ⟨k + 4, Nat.le_refl _, hkl, by first | rfl | (push_cast; rfl), HFE.out, XX.out⟩
    case round =>
      obtain ⟨j, hkj, hjs, rfl, hfe, xr⟩ := hrel
      have XR := Lib.hid xr
      clear xr
      by_cases hlt : j < s.size
      · obtain ⟨c, hcl, -⟩ := at_idx s j hlt
        have hd : l.drop j = c :: l.drop (j + 1) := by rw [← HL.out]; exact drop_ix hcl
        have e0 : decide ((j : Int) < (s.size : Int)) = true := decide_eq_true (by omega)
        have e0n : decide (j < s.size) = true := decide_eq_true hlt
        have HBE := Lib.hid (fun W => begins_any s ⟨#[45, 45, 62]⟩ j (by omega) (by decide) (by decide) (by omega) W)
        have hpb : beginsL s.data.toList j (⟨#[45, 45, 62]⟩ : ByteArray).data.toList = ([45, 45, 62] : List UInt8).isPrefixOf (l.drop j) := by rw [pre_begins, HL.out]; rfl
        rw [hpb, hd] at HBE
        rw [hd] at hfe
        have hw1 : IntKind.i64.wrap ((j : Int) + 1) = (j : Int) + 1 := IntWalk.i64_in _ (by omega)
        have hw2 : IntKind.i64.wrap ((j : Int) + 3) = (j : Int) + 3 := IntWalk.i64_in _ (by omega)
        cases hb : ([45, 45, 62] : List UInt8).isPrefixOf (c :: l.drop (j + 1)) with
        | true =>
          rw [hb] at HBE
          have h1 := pre_take hb
          rw [← hd, List.length_drop, HLS.out] at h1
          have h2 : z = ((j + 3 : Nat) : Int) := by
            rw [← hfe]
            unfold findEnd
            rw [if_pos hb, ← hd, List.drop_drop]
            show (((s.size - (l.drop (j + 3)).length : Nat)) : Int) = _
            rw [List.length_drop, HLS.out]
            simp only [List.length_cons, List.length_nil] at h1
            omega
          subst h2
          clear hb hd hfe hpb hcl h1
          go_wp2_with (go_at_call 33; refine (HBE.out _).mono ?_)
          rintro e w1 ⟨rfl, x1⟩
          go_wp2_with fail
          go_ret
          exact ⟨by first | rfl | (push_cast; rfl), XR.out.trans x1⟩
        | false =>
          rw [hb] at HBE
          have HFE2 : Hid (noteZ s (some (findEnd ([45, 45, 62] : List UInt8) (l.drop (j + 1)))) = z) := Lib.hid (by
            rw [← hfe]
            conv => rhs; unfold findEnd
            rw [if_neg (by rw [hb]; decide)])
          clear hb hd hfe hpb hcl
          go_wp2_with (go_at_call 33; refine (HBE.out _).mono ?_)
          rintro e w1 ⟨rfl, x1⟩
          go_wp2_with fail
          go_roundw
          case rel => exact ⟨j + 1, by omega, by omega, by go_num, HFE2.out, XR.out.trans x1⟩
          case measure => simp [intOf]; omega
      · have hje : j = s.size := by omega
        have e0 : decide ((j : Int) < (s.size : Int)) = false := decide_eq_false (by omega)
        have e0n : decide (j < s.size) = false := decide_eq_false hlt
        have h2 : z = (s.size : Int) := by
          rw [← hfe, hje, show l.drop s.size = [] from List.drop_eq_nil_of_le (by rw [HLS.out]; exact Nat.le_refl _)]
          rfl
        subst h2
        clear hje hfe hlt
        go_wp2_with fail
        go_ret
        exact ⟨rfl, XR.out⟩
  | false =>
    rw [h4] at H4
    cases h2 : ([60, 33] : List UInt8).isPrefixOf r with
    | true =>
      rw [h2] at H2
      have hfit : k + 2 ≤ s.size := by have := pre_take h2; simp only [List.length_cons, List.length_nil] at this; omega
      have hnote : noteL r = some (findEnd [62] (l.drop (k + 2))) := by
        unfold noteL
        rw [if_neg (by rw [h4]; decide), if_pos (by rw [h2]; rfl), ← HDR.out, List.drop_drop]
      clear h4 h2 hrl H3
      go_enter Tryz.func16, Tryz.ntmps16
      go_wp2_with (go_at_call 33; refine (H4.out _).mono ?_)
      rintro e w4 ⟨rfl, x4⟩
      go_wp2_with (go_at_call 33; refine (H2.out _).mono ?_)
      rintro e w2 ⟨rfl, x2⟩
      have XX := Lib.hid (x4.trans x2)
      clear x4 x2
      have HFE : Hid (noteZ s (some (findEnd ([62] : List UInt8) (l.drop (k + 2)))) = z) := Lib.hid (by rw [← HZ.out]; exact congrArg (noteZ s) hnote.symm)
      have hkl : k + 2 ≤ s.size := hfit
      clear hnote hfit
      go_wp2_with fail
      go_loopw [7] (fun iv wr => ∃ j : Nat, k + 2 ≤ j ∧ j ≤ s.size ∧ iv = .int .i64 j ∧ noteZ s (some (findEnd ([62] : List UInt8) (l.drop j))) = z ∧ Ext w0 wr) (fun iv _ => s.size - (intOf iv).toNat)
      case atStart => exact ⟨k + 2, Nat.le_refl _, hkl, by first | rfl | (push_cast; rfl), HFE.out, XX.out⟩
      case round =>
        obtain ⟨j, hkj, hjs, rfl, hfe, xr⟩ := hrel
        have XR := Lib.hid xr
        clear xr
        by_cases hlt : j < s.size
        · obtain ⟨c, hcl, -⟩ := at_idx s j hlt
          have hd : l.drop j = c :: l.drop (j + 1) := by rw [← HL.out]; exact drop_ix hcl
          have e0 : decide ((j : Int) < (s.size : Int)) = true := decide_eq_true (by omega)
          have e0n : decide (j < s.size) = true := decide_eq_true hlt
          have HBE := Lib.hid (fun W => begins_any s ⟨#[62]⟩ j (by omega) (by decide) (by decide) (by omega) W)
          have hpb : beginsL s.data.toList j (⟨#[62]⟩ : ByteArray).data.toList = ([62] : List UInt8).isPrefixOf (l.drop j) := by rw [pre_begins, HL.out]; rfl
          rw [hpb, hd] at HBE
          rw [hd] at hfe
          have hw1 : IntKind.i64.wrap ((j : Int) + 1) = (j : Int) + 1 := IntWalk.i64_in _ (by omega)
          have hw2 : IntKind.i64.wrap ((j : Int) + 1) = (j : Int) + 1 := IntWalk.i64_in _ (by omega)
          cases hb : ([62] : List UInt8).isPrefixOf (c :: l.drop (j + 1)) with
          | true =>
            rw [hb] at HBE
            have h1 := pre_take hb
            rw [← hd, List.length_drop, HLS.out] at h1
            have h2 : z = ((j + 1 : Nat) : Int) := by
              rw [← hfe]
              unfold findEnd
              rw [if_pos hb, ← hd, List.drop_drop]
              show (((s.size - (l.drop (j + 1)).length : Nat)) : Int) = _
              rw [List.length_drop, HLS.out]
              simp only [List.length_cons, List.length_nil] at h1
              omega
            subst h2
            clear hb hd hfe hpb hcl h1
            go_wp2_with (go_at_call 33; refine (HBE.out _).mono ?_)
            rintro e w1 ⟨rfl, x1⟩
            go_wp2_with fail
            go_ret
            exact ⟨by first | rfl | (push_cast; rfl), XR.out.trans x1⟩
          | false =>
            rw [hb] at HBE
            have HFE2 : Hid (noteZ s (some (findEnd ([62] : List UInt8) (l.drop (j + 1)))) = z) := Lib.hid (by
              rw [← hfe]
              conv => rhs; unfold findEnd
              rw [if_neg (by rw [hb]; decide)])
            clear hb hd hfe hpb hcl
            go_wp2_with (go_at_call 33; refine (HBE.out _).mono ?_)
            rintro e w1 ⟨rfl, x1⟩
            go_wp2_with fail
            go_roundw
            case rel => exact ⟨j + 1, by omega, by omega, by go_num, HFE2.out, XR.out.trans x1⟩
            case measure => simp [intOf]; omega
        · have hje : j = s.size := by omega
          have e0 : decide ((j : Int) < (s.size : Int)) = false := decide_eq_false (by omega)
          have e0n : decide (j < s.size) = false := decide_eq_false hlt
          have h2 : z = (s.size : Int) := by
            rw [← hfe, hje, show l.drop s.size = [] from List.drop_eq_nil_of_le (by rw [HLS.out]; exact Nat.le_refl _)]
            rfl
          subst h2
          clear hje hfe hlt
          go_wp2_with fail
          go_ret
          exact ⟨rfl, XR.out⟩
    | false =>
      rw [h2] at H2
      cases h3 : ([60, 63] : List UInt8).isPrefixOf r with
      | true =>
        rw [h3] at H3
        have hfit : k + 2 ≤ s.size := by have := pre_take h3; simp only [List.length_cons, List.length_nil] at this; omega
        have hnote : noteL r = some (findEnd [62] (l.drop (k + 2))) := by
          unfold noteL
          rw [if_neg (by rw [h4]; decide), if_pos (by rw [h2, h3]; rfl), ← HDR.out, List.drop_drop]
        clear h4 h2 h3 hrl
        go_enter Tryz.func16, Tryz.ntmps16
        go_wp2_with (go_at_call 33; refine (H4.out _).mono ?_)
        rintro e w4 ⟨rfl, x4⟩
        go_wp2_with (go_at_call 33; refine (H2.out _).mono ?_)
        rintro e w2 ⟨rfl, x2⟩
        go_wp2_with (go_at_call 33; refine (H3.out _).mono ?_)
        rintro e w3 ⟨rfl, x3⟩
        have XX := Lib.hid ((x4.trans x2).trans x3)
        clear x4 x2 x3
        have HFE : Hid (noteZ s (some (findEnd ([62] : List UInt8) (l.drop (k + 2)))) = z) := Lib.hid (by rw [← HZ.out]; exact congrArg (noteZ s) hnote.symm)
        have hkl : k + 2 ≤ s.size := hfit
        clear hnote hfit
        go_wp2_with fail
        go_loopw [7] (fun iv wr => ∃ j : Nat, k + 2 ≤ j ∧ j ≤ s.size ∧ iv = .int .i64 j ∧ noteZ s (some (findEnd ([62] : List UInt8) (l.drop j))) = z ∧ Ext w0 wr) (fun iv _ => s.size - (intOf iv).toNat)
        case atStart => exact ⟨k + 2, Nat.le_refl _, hkl, by first | rfl | (push_cast; rfl), HFE.out, XX.out⟩
        case round =>
          obtain ⟨j, hkj, hjs, rfl, hfe, xr⟩ := hrel
          have XR := Lib.hid xr
          clear xr
          by_cases hlt : j < s.size
          · obtain ⟨c, hcl, -⟩ := at_idx s j hlt
            have hd : l.drop j = c :: l.drop (j + 1) := by rw [← HL.out]; exact drop_ix hcl
            have e0 : decide ((j : Int) < (s.size : Int)) = true := decide_eq_true (by omega)
            have e0n : decide (j < s.size) = true := decide_eq_true hlt
            have HBE := Lib.hid (fun W => begins_any s ⟨#[62]⟩ j (by omega) (by decide) (by decide) (by omega) W)
            have hpb : beginsL s.data.toList j (⟨#[62]⟩ : ByteArray).data.toList = ([62] : List UInt8).isPrefixOf (l.drop j) := by rw [pre_begins, HL.out]; rfl
            rw [hpb, hd] at HBE
            rw [hd] at hfe
            have hw1 : IntKind.i64.wrap ((j : Int) + 1) = (j : Int) + 1 := IntWalk.i64_in _ (by omega)
            have hw2 : IntKind.i64.wrap ((j : Int) + 1) = (j : Int) + 1 := IntWalk.i64_in _ (by omega)
            cases hb : ([62] : List UInt8).isPrefixOf (c :: l.drop (j + 1)) with
            | true =>
              rw [hb] at HBE
              have h1 := pre_take hb
              rw [← hd, List.length_drop, HLS.out] at h1
              have h2 : z = ((j + 1 : Nat) : Int) := by
                rw [← hfe]
                unfold findEnd
                rw [if_pos hb, ← hd, List.drop_drop]
                show (((s.size - (l.drop (j + 1)).length : Nat)) : Int) = _
                rw [List.length_drop, HLS.out]
                simp only [List.length_cons, List.length_nil] at h1
                omega
              subst h2
              clear hb hd hfe hpb hcl h1
              go_wp2_with (go_at_call 33; refine (HBE.out _).mono ?_)
              rintro e w1 ⟨rfl, x1⟩
              go_wp2_with fail
              go_ret
              exact ⟨by first | rfl | (push_cast; rfl), XR.out.trans x1⟩
            | false =>
              rw [hb] at HBE
              have HFE2 : Hid (noteZ s (some (findEnd ([62] : List UInt8) (l.drop (j + 1)))) = z) := Lib.hid (by
                rw [← hfe]
                conv => rhs; unfold findEnd
                rw [if_neg (by rw [hb]; decide)])
              clear hb hd hfe hpb hcl
              go_wp2_with (go_at_call 33; refine (HBE.out _).mono ?_)
              rintro e w1 ⟨rfl, x1⟩
              go_wp2_with fail
              go_roundw
              case rel => exact ⟨j + 1, by omega, by omega, by go_num, HFE2.out, XR.out.trans x1⟩
              case measure => simp [intOf]; omega
          · have hje : j = s.size := by omega
            have e0 : decide ((j : Int) < (s.size : Int)) = false := decide_eq_false (by omega)
            have e0n : decide (j < s.size) = false := decide_eq_false hlt
            have h2 : z = (s.size : Int) := by
              rw [← hfe, hje, show l.drop s.size = [] from List.drop_eq_nil_of_le (by rw [HLS.out]; exact Nat.le_refl _)]
              rfl
            subst h2
            clear hje hfe hlt
            go_wp2_with fail
            go_ret
            exact ⟨rfl, XR.out⟩
      | false =>
        rw [h3] at H3
        have hnote : noteL r = none := by
          unfold noteL
          rw [if_neg (by rw [h4]; decide), if_neg (by rw [h2, h3]; decide)]
        have hz1 : z = -1 := by rw [← HZ.out, hnote]; rfl
        subst hz1
        clear h4 h2 h3 hrl hnote
        go_enter Tryz.func16, Tryz.ntmps16
        go_wp2_with (go_at_call 33; refine (H4.out _).mono ?_)
        rintro e w4 ⟨rfl, x4⟩
        go_wp2_with (go_at_call 33; refine (H2.out _).mono ?_)
        rintro e w2 ⟨rfl, x2⟩
        go_wp2_with (go_at_call 33; refine (H3.out _).mono ?_)
        rintro e w3 ⟨rfl, x3⟩
        go_wp2_with fail
        go_ret
        exact ⟨rfl, (x4.trans x2).trans x3⟩
end Go.Proofs.YtdafdoodegpdhaaGreatDoor
