/- what of ZP Z1 Z2 Z3 BA BB BC BD BE BF BG BH BI BJ BK BL BM BN BO BP BQ BR NA NC NB ND NE NF BS BT ZY BV BW BY Z4 CA CB CC CD TA TB TC TD TE TF TG TK TH TI is leant on -/
import Derived.Test.YtalaajbajgdglaaGreatDoorLBhg
set_option linter.unusedVariables false
set_option linter.unusedSimpArgs false
set_option maxRecDepth 1000000
set_option maxHeartbeats 8000000
namespace Go.Proofs.YtalaajbajgdglaaGreatDoor
open Go Go.RowKit Go.BigFrame
theorem drop_ix {s : ByteArray} {j : Nat} {c : UInt8} (h : s.data.toList[j]? = some c) : s.data.toList.drop j = c :: s.data.toList.drop (j + 1) := by
  obtain ⟨h1, h2⟩ := List.getElem?_eq_some_iff.1 h
  rw [List.drop_eq_getElem_cons h1, h2]
theorem pre_begins (t l : List UInt8) : t.isPrefixOf l = decide (l.take t.length = t) := by
  rw [Bool.eq_iff_iff, List.isPrefixOf_iff_prefix, decide_eq_true_iff, List.prefix_iff_eq_take]
  exact eq_comm
def noteZ (s : ByteArray) : Option (List UInt8) → Int
  | some e => ((s.size - e.length : Nat) : Int)
  | none => -1
theorem rNote_any (s : ByteArray) (k : Nat) (hs : s.size ≤ 1000000) (hk : k ≤ s.size) (w0 : World) :
    Calls Tryz.prog 66 #[.string s, .int .i64 (k : Int)] w0 (RVal (.int .i64 (noteZ s (noteL (s.data.toList.drop k)))) w0) := by
  obtain ⟨z, hz⟩ : ∃ z, noteZ s (noteL (s.data.toList.drop k)) = z := ⟨_, rfl⟩
  rw [hz]
  have HZ := qh hz
  have hls : s.data.toList.length = s.size := rfl
  have b4 := begins_any s ⟨#[60, 33, 45, 45]⟩ k (by omega) (by decide) (by decide) (by omega)
  have b2 := begins_any s ⟨#[60, 33]⟩ k (by omega) (by decide) (by decide) (by omega)
  have b3 := begins_any s ⟨#[60, 63]⟩ k (by omega) (by decide) (by decide) (by omega)
  have p4 : beginsL s.data.toList k (⟨#[60, 33, 45, 45]⟩ : ByteArray).data.toList = [60, 33, 45, 45].isPrefixOf (s.data.toList.drop k) := by rw [pre_begins]; rfl
  have p2 : beginsL s.data.toList k (⟨#[60, 33]⟩ : ByteArray).data.toList = [60, 33].isPrefixOf (s.data.toList.drop k) := by rw [pre_begins]; rfl
  have p3 : beginsL s.data.toList k (⟨#[60, 63]⟩ : ByteArray).data.toList = [60, 63].isPrefixOf (s.data.toList.drop k) := by rw [pre_begins]; rfl
  rw [p4] at b4
  rw [p2] at b2
  rw [p3] at b3
  obtain ⟨l, hl⟩ : ∃ l, s.data.toList = l := ⟨_, rfl⟩
  rw [hl] at b4 b2 b3 HZ hls
  have HL := qh hl
  have HLS := qh hls
  obtain ⟨r, hr⟩ : ∃ r, l.drop k = r := ⟨_, rfl⟩
  rw [hr] at b4 b2 b3 HZ
  have HDR := qh hr
  have H4 := qh b4
  have H2 := qh b2
  have H3 := qh b3
  have hrl : r.length = s.size - k := by rw [← hr, List.length_drop, hls]
  have hw2 : IntKind.i64.wrap ((k : Int) + 2) = (k : Int) + 2 := IntWalk.i64_in _ (by omega)
  have hw4 : IntKind.i64.wrap ((k : Int) + 4) = (k : Int) + 4 := IntWalk.i64_in _ (by omega)
  clear b4 b2 b3 p4 p2 p3 hz hl hls hr
  cases h4 : ([60, 33, 45, 45] : List UInt8).isPrefixOf r with
  | true =>
    rw [h4] at H4
    have hfit : k + 4 ≤ s.size := by have := pre_take h4; simp only [List.length_cons, List.length_nil] at this; omega
    have hnote : noteL r = some (findEnd [45, 45, 62] (l.drop (k + 4))) := by
      unfold noteL
      rw [if_pos h4, ← HDR.out, List.drop_drop]
    clear h4 hrl H2 H3
    go_enter Tryz.func66, Tryz.ntmps66
    go_wp2_with (go_at_call 109; refine (H4.out _).mono ?_)
    rintro e w4 ⟨rfl, x4⟩
    have XX := qh x4
    clear x4
    have HFE : Hid (noteZ s (some (findEnd ([45, 45, 62] : List UInt8) (l.drop (k + 4)))) = z) := qh (by rw [← HZ.out]; exact congrArg (noteZ s) hnote.symm)
    have hkl : k + 4 ≤ s.size := hfit
    clear hnote hfit
    go_wp2_with fail
    go_loopw [7] (fun iv wr => ∃ j : Nat, k + 4 ≤ j ∧ j ≤ s.size ∧ iv = .int .i64 j ∧ noteZ s (some (findEnd ([45, 45, 62] : List UInt8) (l.drop j))) = z ∧ Ext w0 wr) (fun iv _ => s.size - (intOf iv).toNat)
    case atStart => exact ⟨k + 4, Nat.le_refl _, hkl, by first | rfl | (push_cast; rfl), HFE.out, XX.out⟩
    case round =>
      obtain ⟨j, hkj, hjs, rfl, hfe, xr⟩ := hrel
      have XR := qh xr
      clear xr
      by_cases hlt : j < s.size
      · obtain ⟨c, hcl, -⟩ := at_idx s j hlt
        have hd : l.drop j = c :: l.drop (j + 1) := by rw [← HL.out]; exact drop_ix hcl
        have e0 : decide ((j : Int) < (s.size : Int)) = true := decide_eq_true (by omega)
        have e0n : decide (j < s.size) = true := decide_eq_true hlt
        have HBE := qh (fun W => begins_any s ⟨#[45, 45, 62]⟩ j (by omega) (by decide) (by decide) (by omega) W)
        have hpb : beginsL s.data.toList j (⟨#[45, 45, 62]⟩ : ByteArray).data.toList = ([45, 45, 62] : List UInt8).isPrefixOf (l.drop j) := by rw [pre_begins, HL.out]; rfl
        rw [hpb, hd] at HBE
        rw [hd] at hfe
        have hw1 : IntKind.i64.wrap ((j : Int) + 1) = (j : Int) + 1 := IntWalk.i64_in _ (by omega)
        have hw2 : IntKind.i64.wrap ((j : Int) + 3) = (j : Int) + 3 := IntWalk.i64_in _ (by omega)
        cases hb : ([45, 45, 62] : List UInt8).isPrefixOf (c :: l.drop (j + 1)) with
        | true =>
          rw [hb] at HBE
          have h1 := pre_take hb
          rw [← hd, List.length_drop, HLS.out] at h1
          have h2 : z = ((j + 3 : Nat) : Int) := by
            rw [← hfe]
            unfold findEnd
            rw [if_pos hb, ← hd, List.drop_drop]
            show (((s.size - (l.drop (j + 3)).length : Nat)) : Int) = _
            rw [List.length_drop, HLS.out]
            simp only [List.length_cons, List.length_nil] at h1
            omega
          subst h2
          clear hb hd hfe hpb hcl h1
          go_wp2_with (go_at_call 109; refine (HBE.out _).mono ?_)
          rintro e w1 ⟨rfl, x1⟩
          go_wp2_with fail
          go_ret
          exact ⟨by first | rfl | (push_cast; rfl), XR.out.trans x1⟩
        | false =>
          rw [hb] at HBE
          have HFE2 : Hid (noteZ s (some (findEnd ([45, 45, 62] : List UInt8) (l.drop (j + 1)))) = z) := qh (by
            rw [← hfe]
            conv => rhs; unfold findEnd
            rw [if_neg (by rw [hb]; decide)])
          clear hb hd hfe hpb hcl
          go_wp2_with (go_at_call 109; refine (HBE.out _).mono ?_)
          rintro e w1 ⟨rfl, x1⟩
          go_wp2_with fail
          go_roundw
          case rel => exact ⟨j + 1, by omega, by omega, by go_num, HFE2.out, XR.out.trans x1⟩
          case measure => simp [intOf]; omega
      · have hje : j = s.size := by omega
        have e0 : decide ((j : Int) < (s.size : Int)) = false := decide_eq_false (by omega)
        have e0n : decide (j < s.size) = false := decide_eq_false hlt
        have h2 : z = (s.size : Int) := by
          rw [← hfe, hje, show l.drop s.size = [] from List.drop_eq_nil_of_le (by rw [HLS.out]; exact Nat.le_refl _)]
          rfl
        subst h2
        clear hje hfe hlt
        go_wp2_with fail
        go_ret
        exact ⟨rfl, XR.out⟩
  | false =>
    rw [h4] at H4
    cases h2 : ([60, 33] : List UInt8).isPrefixOf r with
    | true =>
      rw [h2] at H2
      have hfit : k + 2 ≤ s.size := by have := pre_take h2; simp only [List.length_cons, List.length_nil] at this; omega
      have hnote : noteL r = some (findEnd [62] (l.drop (k + 2))) := by
        unfold noteL
        rw [if_neg (by rw [h4]; decide), if_pos (by rw [h2]; rfl), ← HDR.out, List.drop_drop]
      clear h4 h2 hrl H3
      go_enter Tryz.func66, Tryz.ntmps66
      go_wp2_with (go_at_call 109; refine (H4.out _).mono ?_)
      rintro e w4 ⟨rfl, x4⟩
      go_wp2_with (go_at_call 109; refine (H2.out _).mono ?_)
      rintro e w2 ⟨rfl, x2⟩
      have XX := qh (x4.trans x2)
      clear x4 x2
      have HFE : Hid (noteZ s (some (findEnd ([62] : List UInt8) (l.drop (k + 2)))) = z) := qh (by rw [← HZ.out]; exact congrArg (noteZ s) hnote.symm)
      have hkl : k + 2 ≤ s.size := hfit
      clear hnote hfit
      go_wp2_with fail
      go_loopw [7] (fun iv wr => ∃ j : Nat, k + 2 ≤ j ∧ j ≤ s.size ∧ iv = .int .i64 j ∧ noteZ s (some (findEnd ([62] : List UInt8) (l.drop j))) = z ∧ Ext w0 wr) (fun iv _ => s.size - (intOf iv).toNat)
      case atStart => exact ⟨k + 2, Nat.le_refl _, hkl, by first | rfl | (push_cast; rfl), HFE.out, XX.out⟩
      case round =>
        obtain ⟨j, hkj, hjs, rfl, hfe, xr⟩ := hrel
        have XR := qh xr
        clear xr
        by_cases hlt : j < s.size
        · obtain ⟨c, hcl, -⟩ := at_idx s j hlt
          have hd : l.drop j = c :: l.drop (j + 1) := by rw [← HL.out]; exact drop_ix hcl
          have e0 : decide ((j : Int) < (s.size : Int)) = true := decide_eq_true (by omega)
          have e0n : decide (j < s.size) = true := decide_eq_true hlt
          have HBE := qh (fun W => begins_any s ⟨#[62]⟩ j (by omega) (by decide) (by decide) (by omega) W)
          have hpb : beginsL s.data.toList j (⟨#[62]⟩ : ByteArray).data.toList = ([62] : List UInt8).isPrefixOf (l.drop j) := by rw [pre_begins, HL.out]; rfl
          rw [hpb, hd] at HBE
          rw [hd] at hfe
          have hw1 : IntKind.i64.wrap ((j : Int) + 1) = (j : Int) + 1 := IntWalk.i64_in _ (by omega)
          have hw2 : IntKind.i64.wrap ((j : Int) + 1) = (j : Int) + 1 := IntWalk.i64_in _ (by omega)
          cases hb : ([62] : List UInt8).isPrefixOf (c :: l.drop (j + 1)) with
          | true =>
            rw [hb] at HBE
            have h1 := pre_take hb
            rw [← hd, List.length_drop, HLS.out] at h1
            have h2 : z = ((j + 1 : Nat) : Int) := by
              rw [← hfe]
              unfold findEnd
              rw [if_pos hb, ← hd, List.drop_drop]
              show (((s.size - (l.drop (j + 1)).length : Nat)) : Int) = _
              rw [List.length_drop, HLS.out]
              simp only [List.length_cons, List.length_nil] at h1
              omega
            subst h2
            clear hb hd hfe hpb hcl h1
            go_wp2_with (go_at_call 109; refine (HBE.out _).mono ?_)
            rintro e w1 ⟨rfl, x1⟩
            go_wp2_with fail
            go_ret
            exact ⟨by first | rfl | (push_cast; rfl), XR.out.trans x1⟩
          | false =>
            rw [hb] at HBE
            have HFE2 : Hid (noteZ s (some (findEnd ([62] : List UInt8) (l.drop (j + 1)))) = z) := qh (by
              rw [← hfe]
              conv => rhs; unfold findEnd
              rw [if_neg (by rw [hb]; decide)])
            clear hb hd hfe hpb hcl
            go_wp2_with (go_at_call 109; refine (HBE.out _).mono ?_)
            rintro e w1 ⟨rfl, x1⟩
            go_wp2_with fail
            go_roundw
            case rel => exact ⟨j + 1, by omega, by omega, by go_num, HFE2.out, XR.out.trans x1⟩
            case measure => simp [intOf]; omega
        · have hje : j = s.size := by omega
          have e0 : decide ((j : Int) < (s.size : Int)) = false := decide_eq_false (by omega)
          have e0n : decide (j < s.size) = false := decide_eq_false hlt
          have h2 : z = (s.size : Int) := by
            rw [← hfe, hje, show l.drop s.size = [] from List.drop_eq_nil_of_le (by rw [HLS.out]; exact Nat.le_refl _)]
            rfl
          subst h2
          clear hje hfe hlt
          go_wp2_with fail
          go_ret
          exact ⟨rfl, XR.out⟩
    | false =>
      rw [h2] at H2
      cases h3 : ([60, 63] : List UInt8).isPrefixOf r with
      | true =>
        rw [h3] at H3
        have hfit : k + 2 ≤ s.size := by have := pre_take h3; simp only [List.length_cons, List.length_nil] at this; omega
        have hnote : noteL r = some (findEnd [62] (l.drop (k + 2))) := by
          unfold noteL
          rw [if_neg (by rw [h4]; decide), if_pos (by rw [h2, h3]; rfl), ← HDR.out, List.drop_drop]
        clear h4 h2 h3 hrl
        go_enter Tryz.func66, Tryz.ntmps66
        go_wp2_with (go_at_call 109; refine (H4.out _).mono ?_)
        rintro e w4 ⟨rfl, x4⟩
        go_wp2_with (go_at_call 109; refine (H2.out _).mono ?_)
        rintro e w2 ⟨rfl, x2⟩
        go_wp2_with (go_at_call 109; refine (H3.out _).mono ?_)
        rintro e w3 ⟨rfl, x3⟩
        have XX := qh ((x4.trans x2).trans x3)
        clear x4 x2 x3
        have HFE : Hid (noteZ s (some (findEnd ([62] : List UInt8) (l.drop (k + 2)))) = z) := qh (by rw [← HZ.out]; exact congrArg (noteZ s) hnote.symm)
        have hkl : k + 2 ≤ s.size := hfit
        clear hnote hfit
        go_wp2_with fail
        go_loopw [7] (fun iv wr => ∃ j : Nat, k + 2 ≤ j ∧ j ≤ s.size ∧ iv = .int .i64 j ∧ noteZ s (some (findEnd ([62] : List UInt8) (l.drop j))) = z ∧ Ext w0 wr) (fun iv _ => s.size - (intOf iv).toNat)
        case atStart => exact ⟨k + 2, Nat.le_refl _, hkl, by first | rfl | (push_cast; rfl), HFE.out, XX.out⟩
        case round =>
          obtain ⟨j, hkj, hjs, rfl, hfe, xr⟩ := hrel
          have XR := qh xr
          clear xr
          by_cases hlt : j < s.size
          · obtain ⟨c, hcl, -⟩ := at_idx s j hlt
            have hd : l.drop j = c :: l.drop (j + 1) := by rw [← HL.out]; exact drop_ix hcl
            have e0 : decide ((j : Int) < (s.size : Int)) = true := decide_eq_true (by omega)
            have e0n : decide (j < s.size) = true := decide_eq_true hlt
            have HBE := qh (fun W => begins_any s ⟨#[62]⟩ j (by omega) (by decide) (by decide) (by omega) W)
            have hpb : beginsL s.data.toList j (⟨#[62]⟩ : ByteArray).data.toList = ([62] : List UInt8).isPrefixOf (l.drop j) := by rw [pre_begins, HL.out]; rfl
            rw [hpb, hd] at HBE
            rw [hd] at hfe
            have hw1 : IntKind.i64.wrap ((j : Int) + 1) = (j : Int) + 1 := IntWalk.i64_in _ (by omega)
            have hw2 : IntKind.i64.wrap ((j : Int) + 1) = (j : Int) + 1 := IntWalk.i64_in _ (by omega)
            cases hb : ([62] : List UInt8).isPrefixOf (c :: l.drop (j + 1)) with
            | true =>
              rw [hb] at HBE
              have h1 := pre_take hb
              rw [← hd, List.length_drop, HLS.out] at h1
              have h2 : z = ((j + 1 : Nat) : Int) := by
                rw [← hfe]
                unfold findEnd
                rw [if_pos hb, ← hd, List.drop_drop]
                show (((s.size - (l.drop (j + 1)).length : Nat)) : Int) = _
                rw [List.length_drop, HLS.out]
                simp only [List.length_cons, List.length_nil] at h1
                omega
              subst h2
              clear hb hd hfe hpb hcl h1
              go_wp2_with (go_at_call 109; refine (HBE.out _).mono ?_)
              rintro e w1 ⟨rfl, x1⟩
              go_wp2_with fail
              go_ret
              exact ⟨by first | rfl | (push_cast; rfl), XR.out.trans x1⟩
            | false =>
              rw [hb] at HBE
              have HFE2 : Hid (noteZ s (some (findEnd ([62] : List UInt8) (l.drop (j + 1)))) = z) := qh (by
                rw [← hfe]
                conv => rhs; unfold findEnd
                rw [if_neg (by rw [hb]; decide)])
              clear hb hd hfe hpb hcl
              go_wp2_with (go_at_call 109; refine (HBE.out _).mono ?_)
              rintro e w1 ⟨rfl, x1⟩
              go_wp2_with fail
              go_roundw
              case rel => exact ⟨j + 1, by omega, by omega, by go_num, HFE2.out, XR.out.trans x1⟩
              case measure => simp [intOf]; omega
          · have hje : j = s.size := by omega
            have e0 : decide ((j : Int) < (s.size : Int)) = false := decide_eq_false (by omega)
            have e0n : decide (j < s.size) = false := decide_eq_false hlt
            have h2 : z = (s.size : Int) := by
              rw [← hfe, hje, show l.drop s.size = [] from List.drop_eq_nil_of_le (by rw [HLS.out]; exact Nat.le_refl _)]
              rfl
            subst h2
            clear hje hfe hlt
            go_wp2_with fail
            go_ret
            exact ⟨rfl, XR.out⟩
      | false =>
        rw [h3] at H3
        have hnote : noteL r = none := by
          unfold noteL
          rw [if_neg (by rw [h4]; decide), if_neg (by rw [h2, h3]; decide)]
        have hz1 : z = -1 := by rw [← HZ.out, hnote]; rfl
        subst hz1
        clear h4 h2 h3 hrl hnote
        go_enter Tryz.func66, Tryz.ntmps66
        go_wp2_with (go_at_call 109; refine (H4.out _).mono ?_)
        rintro e w4 ⟨rfl, x4⟩
        go_wp2_with (go_at_call 109; refine (H2.out _).mono ?_)
        rintro e w2 ⟨rfl, x2⟩
        go_wp2_with (go_at_call 109; refine (H3.out _).mono ?_)
        rintro e w3 ⟨rfl, x3⟩
        go_wp2_with fail
        go_ret
        exact ⟨rfl, (x4.trans x2).trans x3⟩
theorem infoAttr14 : (Tryz.prog.info? 157).map (fun i => (i.zero, i.size, i.bytes)) = some (some (.agg #[.string ByteArray.empty, .string ByteArray.empty]), 2, 32) := by kernel_rfl
def RRParts (s : ByteArray) (o : Option (List Part × Bool × List UInt8)) (w : World) (e : Ending) (w' : World) : Prop :=
  match o with
  | some (l, self, t) => ∃ v z, z = ((s.size - t.length : Nat) : Int) ∧ e = .returned (.tuple #[v, .int .i64 (if self then 1 else 0), .int .i64 z]) ∧ Mv (fun _ => False) w w' ∧ RowP w' (fun g => w.heap.size ≤ g) 157 2 v l.length (attrCells (l.map pb))
  | none => e = .returned (.tuple #[.slice none 0 0, .int .i64 0, .int .i64 (-1)]) ∧ Mv (fun _ => False) w w'
theorem drop_at {s : ByteArray} {j : Nat} {c : UInt8} (h : s.data.toList[j]? = some c) : s.data.toList.drop j = c :: s.data.toList.drop (j + 1) := by
  obtain ⟨h1, h2⟩ := List.getElem?_eq_some_iff.1 h
  rw [List.drop_eq_getElem_cons h1, h2]
theorem valueL_quote' {r t : List UInt8} {q : UInt8} (h : r.dropWhile blankB = q :: t) (hq : q = 34 ∨ q = 39) : valueL r = match t.dropWhile (neB q) with
    | [] => none
    | _ :: r3 => some (t.takeWhile (neB q), r3) := valueL_quote h hq
theorem headP_at {s : ByteArray} {j : Nat} (q : UInt8) (h : ∀ c, s.data.toList[j]? = some c → c ≠ q) : headP (· == q) (s.data.toList.drop j) = false := by
  cases hd : s.data.toList.drop j with
  | nil => rfl
  | cons c t =>
    have h1 : s.data.toList[j]? = some c := by rw [← List.head?_drop, hd]; rfl
    show (c == q) = false
    rw [beq_eq_false_iff_ne]
    exact h c h1
theorem rparts_any (s : ByteArray) (k : Nat) (w : World) (hs : s.size ≤ 1000000) (hk : k ≤ s.size) :
    Calls Tryz.prog 113 #[.string s, .int .i64 (k : Int)] w (RRParts s (partsL (s.data.toList.drop k)) w) := by
  have HS6 := qh hs
  obtain ⟨o, ho⟩ : ∃ o, partsL (s.data.toList.drop k) = o := ⟨_, rfl⟩
  rw [ho]
  have HO := qh ho
  have HK := qh hk
  clear ho hs hk
  go_enter Tryz.func113, Tryz.ntmps113
  go_wp2_with fail
  go_loopg [1, 7, 8, 9, 10, 11, 12, 13, 14] (s.size + 1) (fun gf iv lv sv _ _ _ _ _ _ wr => ∃ (j : Nat) (acc : List Part) (b : Bool), j ≤ s.size ∧ iv = .int .i64 j ∧ sv = .int .i64 (if b then 1 else 0) ∧ RowP wr (fun g => w.heap.size ≤ g) 157 2 lv acc.length (attrCells (acc.map pb)) ∧ Mv (fun _ => False) w wr ∧ s.size - j < gf ∧ acc.length + (s.size - j) ≤ s.size ∧ (partsS b (s.data.toList.drop j)).map (fun x => (acc ++ x.1, x.2)) = o)
  case atStart =>
    exact ⟨k, [], false, HK.out, rfl, rfl, ⟨rfl, .inl ⟨rfl, none, rfl⟩⟩, Mv.refl _ _, by omega, by simp, by rw [partsS_false, HO.out]; cases o <;> rfl⟩
  case round =>
    obtain ⟨j, acc, b, hj, rfl, rfl, hrow, hm, hgf, hal, hres⟩ := hrel
    obtain ⟨la, lcap, rfl, _⟩ := hrow.rd.len_of
    have HM := qh hm
    have HROW := qh hrow
    have HGF := qh hgf
    have HAL := qh hal
    have hwr := hm.size
    have hs6 := HS6.out
    clear hm hrow hgf hal
    obtain ⟨bz, hbz⟩ : ∃ z : Int, (if b then 1 else 0) = z := ⟨_, rfl⟩
    rw [hbz]
    have HBZ := qh hbz
    clear hbz
    have hw1 : IntKind.i64.wrap ((j : Int) + 1) = (j : Int) + 1 := IntWalk.i64_in _ (by omega)
    by_cases hlt : j < s.size
    · obtain ⟨c, hcl, -⟩ := at_idx s j hlt
      have hix := idx_of s j c hcl
      have hdr := drop_at hcl
      have e0 : decide ((j : Int) < (s.size : Int)) = true := decide_eq_true (by omega)
      have e0n : decide (j < s.size) = true := decide_eq_true hlt
      rw [hdr] at hres
      have hl1 : (s.data.toList.drop (j + 1)).length = s.size - (j + 1) := List.length_drop
      by_cases h62 : c = 62
      · have f62 : ((c.toNat : Int) == 62) = true := (u8_eq c 62).trans (by simp [h62])
        have hO : o = some (acc, b, s.data.toList.drop (j + 1)) := by rw [← hres, h62, partsS_end]; simp
        subst hO
        have HL := qh hl1
        clear h62 hdr hres hcl hl1
        go_wp2_with fail
        go_ret3
        exact ⟨_, (j : Int) + 1, by rw [HL.out]; omega, by rw [← HBZ.out]; rfl, HM.out, HROW.out⟩
      · have f62 : ((c.toNat : Int) == 62) = false := (u8_eq c 62).trans (by simp [h62])
        have HBL := qh (fun W => rBlank_any c W)
        by_cases hgp : gapB c = true
        · have HRES : Hid ((partsS (c == 47) (s.data.toList.drop (j + 1))).map (fun x => (acc ++ x.1, x.2)) = o) := qh (by rw [← hres, partsS_gap hgp])
          cases hb : blankB c with
          | true =>
            have h47 : c ≠ 47 := by rintro rfl; exact absurd hb (by decide)
            have f47 : ((c.toNat : Int) == 47) = false := (u8_eq c 47).trans (by simp [h47])
            have h47b : (c == 47) = false := by simp [h47]
            rw [hb] at HBL
            rw [h47b] at HRES
            clear h62 hdr hres hcl hl1 hgp h47 h47b hb
            go_wp2_with (go_at_call 117; refine (HBL.out _).mono ?_)
            rintro e w1 ⟨rfl, x1⟩
            go_wp2_with fail
            obtain ⟨g', rfl⟩ : ∃ g', gk = g' + 1 := ⟨gk - 1, by have := HGF.out; omega⟩
            go_roundg g'
            case measure => omega
            case rel => exact ⟨j + 1, acc, false, by omega, by first | rfl | (push_cast; rfl), rfl, HROW.out.ext x1, HM.out.ext x1, by have := HGF.out; omega, by have := HAL.out; omega, HRES.out⟩
          | false =>
            have h47 : c = 47 := by simpa [gapB, hb] using hgp
            have f47 : ((c.toNat : Int) == 47) = true := (u8_eq c 47).trans (by simp [h47])
            have h47b : (c == 47) = true := by simp [h47]
            rw [hb] at HBL
            rw [h47b] at HRES
            clear h62 hdr hres hcl hl1 hgp h47 h47b hb
            go_wp2_with (go_at_call 117; refine (HBL.out _).mono ?_)
            rintro e w1 ⟨rfl, x1⟩
            go_wp2_with fail
            obtain ⟨g', rfl⟩ : ∃ g', gk = g' + 1 := ⟨gk - 1, by have := HGF.out; omega⟩
            go_roundg g'
            case measure => omega
            case rel => exact ⟨j + 1, acc, true, by omega, by first | rfl | (push_cast; rfl), rfl, HROW.out.ext x1, HM.out.ext x1, by have := HGF.out; omega, by have := HAL.out; omega, HRES.out⟩
        · have hgf : gapB c = false := by simpa using hgp
          have hb : blankB c = false := by unfold gapB at hgf; exact (Bool.or_eq_false_iff.1 hgf).1
          have h47 : c ≠ 47 := by rintro rfl; exact absurd hgf (by decide)
          have f47 : ((c.toNat : Int) == 47) = false := (u8_eq c 47).trans (by simp [h47])
          have HRES : Hid ((match partL c (s.data.toList.drop (j + 1)) with | none => none | some (p, e) => (partsL e).map fun (x : List Part × Bool × List UInt8) => (p :: x.1, x.2)).map (fun (x : List Part × Bool × List UInt8) => (acc ++ x.1, x.2)) = o) := qh (by rw [← hres, partsS_part hgf h62]; rfl)
          rw [hb] at HBL
          obtain ⟨m1, SC1, D1, T1⟩ := scan_of nmB s (j + 1) (by omega)
          have hm1 := SC1.le
          have hm1f := SC1.fit
          have hcut : s.extract j m1 = bs (c :: (s.data.toList.drop (j + 1)).takeWhile nmB) := by
            have h := bs_cut s.data.toList j m1
            rw [bs_list] at h
            have h2 := bs_cut s.data.toList (j + 1) m1
            rw [bs_list, T1] at h2
            rw [h, hdr, show m1 - j = (m1 - (j + 1)) + 1 by omega, List.take_succ_cons]
            exact congrArg (fun l => bs (c :: l)) (bs_inj.1 h2).symm
          have SC1 := qh SC1
          have HCUT := qh hcut
          have HD1 := qh D1
          generalize hE : s.extract j m1 = E at HCUT hcut
          have HE := qh hE
          obtain ⟨nm, hnm⟩ : ∃ nm, c :: (s.data.toList.drop (j + 1)).takeWhile nmB = nm := ⟨_, rfl⟩
          rw [hnm] at HCUT
          have HNM := qh hnm
          have b1 : (0 : Int) ≤ (j : Int) := by omega
          have b2 : (j : Int) ≤ (m1 : Int) := by omega
          have b3 : (m1 : Int) ≤ (s.size : Int) := by omega
          clear h62 hdr hres hcl hl1 hgp h47 hb hgf hcut D1 T1 hE hnm
          go_wp2_with (go_at_call 117; refine (HBL.out _).mono ?_)
          rintro e w4 ⟨rfl, x4⟩
          have X4 := qh x4
          have hw4 := x4.size
          clear x4 HBL
          go_upto_block 2 with fail
          go_cut [10] (fun ev wx => ev = .int .i64 (m1 : Int) ∧ Ext w4 wx)
          case first =>
           as_aux_lemma =>
            go_wp2_with fail
            go_loopw [10] (fun ev wr => ∃ i : Nat, j + 1 ≤ i ∧ i ≤ m1 ∧ ev = .int .i64 i ∧ Ext w4 wr) (fun ev _ => m1 - (intOf ev).toNat)
            case atStart => exact ⟨j + 1, Nat.le_refl _, SC1.out.le, by first | rfl | (push_cast; rfl), Ext.refl _⟩
            case round =>
              obtain ⟨i, hki, him, rfl, xr⟩ := hrel
              have XR := qh xr
              clear xr
              have hmf := SC1.out.fit
              have hs6 := HS6.out
              by_cases hsz : i < s.size
              · obtain ⟨d, hdl, -⟩ := at_idx s i hsz
                have hix := idx_of s i d hdl
                have ON := qh (fun h => SC1.out.on i d hki h hdl)
                have OFF := qh (fun (h : i = m1) => SC1.out.off d (h ▸ hdl))
                have e0 : decide ((i : Int) < (s.size : Int)) = true := decide_eq_true (by omega)
                have e0n : decide (i < s.size) = true := decide_eq_true hsz
                have hw1 : IntKind.i64.wrap ((i : Int) + 1) = (i : Int) + 1 := IntWalk.i64_in _ (by omega)
                clear hdl
                have HBL := qh (fun W => rBlank_any d W)
                cases hb : blankB d with
                | true =>
                  rw [hb] at HBL
                  have hlt : i = m1 := by
                    rcases Nat.lt_or_ge i m1 with h | h
                    · have h := ON.out h; simp [nmB, valB, hb] at h
                    · omega
                  subst hlt
                  clear hb
                  go_wp2_with (go_at_call 117; refine (HBL.out _).mono ?_)
                  rintro e w1 ⟨rfl, x1⟩
                  go_wp2_with fail
                  go_meet
                  exact ⟨rfl, XR.out.trans x1⟩
                | false =>
                  rw [hb] at HBL
                  by_cases h47 : d = 47
                  · have f47 : ((d.toNat : Int) == 47) = true := (u8_eq d 47).trans (by simp [h47])
                    have g47 : ((d.toNat : Int) != 47) = false := (u8_ne d 47).trans (by simp [h47])
                    have hlt : i = m1 := by
                      rcases Nat.lt_or_ge i m1 with h | h
                      · have h := ON.out h; simp [nmB, valB, h47, hb] at h
                      · omega
                    subst hlt
                    clear h47 hb
                    go_wp2_with (go_at_call 117; refine (HBL.out _).mono ?_)
                    rintro e w1 ⟨rfl, x1⟩
                    go_wp2_with fail
                    go_meet
                    exact ⟨rfl, XR.out.trans x1⟩
                  · have f47 : ((d.toNat : Int) == 47) = false := (u8_eq d 47).trans (by simp [h47])
                    have g47 : ((d.toNat : Int) != 47) = true := (u8_ne d 47).trans (by simp [h47])
                    by_cases h62 : d = 62
                    · have f62 : ((d.toNat : Int) == 62) = true := (u8_eq d 62).trans (by simp [h62])
                      have g62 : ((d.toNat : Int) != 62) = false := (u8_ne d 62).trans (by simp [h62])
                      have hlt : i = m1 := by
                        rcases Nat.lt_or_ge i m1 with h | h
                        · have h := ON.out h; simp [nmB, valB, h62, hb] at h
                        · omega
                      subst hlt
                      clear h62 hb
                      go_wp2_with (go_at_call 117; refine (HBL.out _).mono ?_)
                      rintro e w1 ⟨rfl, x1⟩
                      go_wp2_with fail
                      go_meet
                      exact ⟨rfl, XR.out.trans x1⟩
                    · have f62 : ((d.toNat : Int) == 62) = false := (u8_eq d 62).trans (by simp [h62])
                      have g62 : ((d.toNat : Int) != 62) = true := (u8_ne d 62).trans (by simp [h62])
                      by_cases h61 : d = 61
                      · have f61 : ((d.toNat : Int) == 61) = true := (u8_eq d 61).trans (by simp [h61])
                        have g61 : ((d.toNat : Int) != 61) = false := (u8_ne d 61).trans (by simp [h61])
                        have hlt : i = m1 := by
                          rcases Nat.lt_or_ge i m1 with h | h
                          · have h := ON.out h; simp [nmB, valB, h61, hb] at h
                          · omega
                        subst hlt
                        clear h61 hb
                        go_wp2_with (go_at_call 117; refine (HBL.out _).mono ?_)
                        rintro e w1 ⟨rfl, x1⟩
                        go_wp2_with fail
                        go_meet
                        exact ⟨rfl, XR.out.trans x1⟩
                      · have f61 : ((d.toNat : Int) == 61) = false := (u8_eq d 61).trans (by simp [h61])
                        have g61 : ((d.toNat : Int) != 61) = true := (u8_ne d 61).trans (by simp [h61])
                        have hlt : i < m1 := by
                          rcases Nat.lt_or_ge i m1 with h | h
                          · exact h
                          · have h := OFF.out (by omega); simp [nmB, valB, hb, h47, h62, h61] at h
                        clear hb h47 h62 h61
                        go_wp2_with (go_at_call 117; refine (HBL.out _).mono ?_)
                        rintro e w1 ⟨rfl, x1⟩
                        go_wp2_with fail
                        go_roundw
                        case rel => exact ⟨i + 1, by omega, by omega, by go_num, XR.out.trans x1⟩
                        case measure => simp [intOf]; omega
              · have e0 : decide ((i : Int) < (s.size : Int)) = false := decide_eq_false (by omega)
                have e0n : decide (i < s.size) = false := decide_eq_false hsz
                have hlt : i = m1 := by omega
                subst hlt
                clear hsz
                go_wp2_with fail
                go_meet
                exact ⟨rfl, XR.out⟩
          case rest =>
           obtain ⟨rfl, xcut⟩ := hcut
           have X5 := qh (X4.out.trans xcut)
           have hw5 := xcut.size
           obtain ⟨w5, hw5e⟩ : ∃ W, wc = W := ⟨_, rfl⟩
           rw [hw5e] at X5 hw5 xcut ⊢
           clear xcut hw5e
           go_upto_region 17 with fail
           first | rw [HE.out, HCUT.out] | rw [HCUT.out]
           have hx6 := (Ext.refl w5).alloc (.cells #[.string (bs nm), .string ⟨#[]⟩] 157)
           have hb6 := heap_alloc_new w5 (.cells #[.string (bs nm), .string ⟨#[]⟩] 157)
           obtain ⟨w6, hw6⟩ : ∃ w6 : World, w6 = w5.alloc (.cells #[.string (bs nm), .string ⟨#[]⟩] 157) := ⟨_, rfl⟩
           rw [← hw6] at hx6 hb6 ⊢
           clear hw6
           have hrow5 := ((HROW.out.ext X5.out)).full
           obtain ⟨bx, hbx⟩ : ∃ bx, w5.heap.size = bx := ⟨_, rfl⟩
           rw [hbx] at hb6 hrow5 ⊢
           have hbxw : w.heap.size ≤ bx := by omega
           have HROW6 := qh (hrow5.ext hx6)
           have M6 := qh ((HM.out.ext X5.out).ext hx6)
           have BX6 := qh hb6
           obtain ⟨m2, SC2, D2, -⟩ := scan_of blankB s m1 hm1f
           have hm2 := SC2.le
           have hm2f := SC2.fit
           have SC2 := qh SC2
           rw [← HD1.out] at D2
           have HD2 := qh D2
           clear hb6 hx6 hrow5 hbx D2
           go_upto_block 4 with fail
           go_cut [10] (fun ev wx => ev = .int .i64 (m2 : Int) ∧ Ext w6 wx)
           case first =>
            as_aux_lemma =>
             go_wp2_with fail
             go_loopw [10] (fun ev wr => ∃ i : Nat, m1 ≤ i ∧ i ≤ m2 ∧ ev = .int .i64 i ∧ Ext w6 wr) (fun ev _ => m2 - (intOf ev).toNat)
             case atStart => exact ⟨m1, Nat.le_refl _, SC2.out.le, by first | rfl | (push_cast; rfl), Ext.refl _⟩
             case round =>
               obtain ⟨i, hki, him, rfl, xr⟩ := hrel
               have XR := qh xr
               clear xr
               have hmf := SC2.out.fit
               have hs6 := HS6.out
               by_cases hsz : i < s.size
               · obtain ⟨d, hdl, -⟩ := at_idx s i hsz
                 have hix := idx_of s i d hdl
                 have ON := qh (fun h => SC2.out.on i d hki h hdl)
                 have OFF := qh (fun (h : i = m2) => SC2.out.off d (h ▸ hdl))
                 have e0 : decide ((i : Int) < (s.size : Int)) = true := decide_eq_true (by omega)
                 have e0n : decide (i < s.size) = true := decide_eq_true hsz
                 have hw1 : IntKind.i64.wrap ((i : Int) + 1) = (i : Int) + 1 := IntWalk.i64_in _ (by omega)
                 clear hdl
                 have HBL := qh (fun W => rBlank_any d W)
                 cases hb : blankB d with
                 | true =>
                   rw [hb] at HBL
                   have hlt : i < m2 := by
                     rcases Nat.lt_or_ge i m2 with h | h
                     · exact h
                     · have h := OFF.out (by omega); simp [hb] at h
                   clear hb
                   go_wp2_with (go_at_call 117; refine (HBL.out _).mono ?_)
                   rintro e w1 ⟨rfl, x1⟩
                   go_wp2_with fail
                   go_roundw
                   case rel => exact ⟨i + 1, by omega, by omega, by go_num, XR.out.trans x1⟩
                   case measure => simp [intOf]; omega
                 | false =>
                   rw [hb] at HBL
                   have hlt : i = m2 := by
                     rcases Nat.lt_or_ge i m2 with h | h
                     · have h := ON.out h; simp [hb] at h
                     · omega
                   subst hlt
                   clear hb
                   go_wp2_with (go_at_call 117; refine (HBL.out _).mono ?_)
                   rintro e w1 ⟨rfl, x1⟩
                   go_wp2_with fail
                   go_meet
                   exact ⟨rfl, XR.out.trans x1⟩
               · have e0 : decide ((i : Int) < (s.size : Int)) = false := decide_eq_false (by omega)
                 have e0n : decide (i < s.size) = false := decide_eq_false hsz
                 have hlt : i = m2 := by omega
                 subst hlt
                 clear hsz
                 go_wp2_with fail
                 go_meet
                 exact ⟨rfl, XR.out⟩
           case rest =>
            obtain ⟨rfl, xcut⟩ := hcut
            have X7 := qh xcut
            obtain ⟨w7, hw7e⟩ : ∃ W, wc = W := ⟨_, rfl⟩
            rw [hw7e] at X7 xcut ⊢
            clear xcut hw7e
            have hlm1 : (s.data.toList.drop m1).length = s.size - m1 := List.length_drop
            by_cases h61 : s.data.toList[m2]? = some 61
            · have hz2 : m2 < s.size := (List.getElem?_eq_some_iff.1 h61).1
              have hix2 := idx_of s m2 61 h61
              have HPV : Hid (partL c (s.data.toList.drop (j + 1)) = (valueL (s.data.toList.drop (m2 + 1))).map fun ve => ((nm, ve.1), ve.2)) := qh (by
                have h := part_none (c := c) (r2 := s.data.toList.drop (j + 1)) (r5 := s.data.toList.drop (m2 + 1)) (by rw [HD2.out]; exact drop_at h61)
                rw [h, HNM.out])
              obtain ⟨m3, SC3, D3, -⟩ := scan_of blankB s (m2 + 1) (by omega)
              have hm3 := SC3.le
              have hm3f := SC3.fit
              have SC3 := qh SC3
              have HD3 := qh D3
              have e2 : decide ((m2 : Int) < (s.size : Int)) = true := decide_eq_true (by omega)
              have e2n : decide (m2 < s.size) = true := decide_eq_true hz2
              have hw2 : IntKind.i64.wrap ((m2 : Int) + 1) = (m2 : Int) + 1 := IntWalk.i64_in _ (by omega)
              clear D3 h61
              go_upto_block 6 with fail
              go_cut [10] (fun ev wx => ev = .int .i64 (m3 : Int) ∧ Ext w7 wx)
              case first =>
               as_aux_lemma =>
                go_wp2_with fail
                go_loopw [10] (fun ev wr => ∃ i : Nat, m2 + 1 ≤ i ∧ i ≤ m3 ∧ ev = .int .i64 i ∧ Ext w7 wr) (fun ev _ => m3 - (intOf ev).toNat)
                case atStart => exact ⟨m2 + 1, Nat.le_refl _, SC3.out.le, by first | rfl | (push_cast; rfl), Ext.refl _⟩
                case round =>
                  obtain ⟨i, hki, him, rfl, xr⟩ := hrel
                  have XR := qh xr
                  clear xr
                  have hmf := SC3.out.fit
                  have hs6 := HS6.out
                  by_cases hsz : i < s.size
                  · obtain ⟨d, hdl, -⟩ := at_idx s i hsz
                    have hix := idx_of s i d hdl
                    have ON := qh (fun h => SC3.out.on i d hki h hdl)
                    have OFF := qh (fun (h : i = m3) => SC3.out.off d (h ▸ hdl))
                    have e0 : decide ((i : Int) < (s.size : Int)) = true := decide_eq_true (by omega)
                    have e0n : decide (i < s.size) = true := decide_eq_true hsz
                    have hw1 : IntKind.i64.wrap ((i : Int) + 1) = (i : Int) + 1 := IntWalk.i64_in _ (by omega)
                    clear hdl
                    have HBL := qh (fun W => rBlank_any d W)
                    cases hb : blankB d with
                    | true =>
                      rw [hb] at HBL
                      have hlt : i < m3 := by
                        rcases Nat.lt_or_ge i m3 with h | h
                        · exact h
                        · have h := OFF.out (by omega); simp [hb] at h
                      clear hb
                      go_wp2_with (go_at_call 117; refine (HBL.out _).mono ?_)
                      rintro e w1 ⟨rfl, x1⟩
                      go_wp2_with fail
                      go_roundw
                      case rel => exact ⟨i + 1, by omega, by omega, by go_num, XR.out.trans x1⟩
                      case measure => simp [intOf]; omega
                    | false =>
                      rw [hb] at HBL
                      have hlt : i = m3 := by
                        rcases Nat.lt_or_ge i m3 with h | h
                        · have h := ON.out h; simp [hb] at h
                        · omega
                      subst hlt
                      clear hb
                      go_wp2_with (go_at_call 117; refine (HBL.out _).mono ?_)
                      rintro e w1 ⟨rfl, x1⟩
                      go_wp2_with fail
                      go_meet
                      exact ⟨rfl, XR.out.trans x1⟩
                  · have e0 : decide ((i : Int) < (s.size : Int)) = false := decide_eq_false (by omega)
                    have e0n : decide (i < s.size) = false := decide_eq_false hsz
                    have hlt : i = m3 := by omega
                    subst hlt
                    clear hsz
                    go_wp2_with fail
                    go_meet
                    exact ⟨rfl, XR.out⟩
              case rest =>
               obtain ⟨rfl, xcut⟩ := hcut
               have X8 := qh (X7.out.trans xcut)
               obtain ⟨w8, hw8e⟩ : ∃ W, wc = W := ⟨_, rfl⟩
               rw [hw8e] at X8 xcut ⊢
               clear xcut hw8e
               by_cases hq : ∃ q : UInt8, s.data.toList[m3]? = some q ∧ (q = 34 ∨ q = 39)
               · obtain ⟨q, hql, hqq⟩ := hq
                 have hz3 : m3 < s.size := (List.getElem?_eq_some_iff.1 hql).1
                 have hix3 := idx_of s m3 q hql
                 obtain ⟨m4, SC4, D4, T4⟩ := scan_of (neB q) s (m3 + 1) (by omega)
                 have hm4 := SC4.le
                 have hm4f := SC4.fit
                 have SC4 := qh SC4
                 have HVQ := qh (valueL_quote' (r := s.data.toList.drop (m2 + 1)) (t := s.data.toList.drop (m3 + 1)) (by rw [HD3.out]; exact drop_at hql) hqq)
                 rw [D4] at HVQ
                 have HT4 := qh T4
                 have e3 : decide ((m3 : Int) < (s.size : Int)) = true := decide_eq_true (by omega)
                 have e3n : decide (m3 < s.size) = true := decide_eq_true hz3
                 have hw3 : IntKind.i64.wrap ((m3 : Int) + 1) = (m3 : Int) + 1 := IntWalk.i64_in _ (by omega)
                 have q34 : ((q.toNat : Int) == 34) = (q == 34) := u8_eq q 34
                 have q39 : ((q.toNat : Int) == 39) = (q == 39) := u8_eq q 39
                 have hq34 : (q == 34) = true ∨ (q == 34) = false ∧ (q == 39) = true := by rcases hqq with h | h <;> subst h; exact .inl rfl; exact .inr ⟨rfl, rfl⟩
                 have hq39 := hq34
                 clear D4 T4 hql hqq
                 rcases hq34 with h34 | ⟨h34, h39⟩
                 · rw [h34] at q34
                   clear hq39
                   go_upto_region 27 with fail
                   go_upto_block 8 with fail
                   go_cut [10] (fun ev wx => ev = .int .i64 (m4 : Int) ∧ Ext w8 wx)
                   case first =>
                    as_aux_lemma =>
                     go_wp2_with fail
                     go_loopw [10] (fun ev wr => ∃ i : Nat, m3 + 1 ≤ i ∧ i ≤ m4 ∧ ev = .int .i64 i ∧ Ext w8 wr) (fun ev _ => m4 - (intOf ev).toNat)
                     case atStart => exact ⟨m3 + 1, Nat.le_refl _, SC4.out.le, by first | rfl | (push_cast; rfl), Ext.refl _⟩
                     case round =>
                       obtain ⟨i, hki, him, rfl, xr⟩ := hrel
                       have XR := qh xr
                       clear xr
                       have hmf := SC4.out.fit
                       have hs6 := HS6.out
                       by_cases hsz : i < s.size
                       · obtain ⟨d, hdl, -⟩ := at_idx s i hsz
                         have hix := idx_of s i d hdl
                         have ON := qh (fun h => SC4.out.on i d hki h hdl)
                         have OFF := qh (fun (h : i = m4) => SC4.out.off d (h ▸ hdl))
                         have e0 : decide ((i : Int) < (s.size : Int)) = true := decide_eq_true (by omega)
                         have e0n : decide (i < s.size) = true := decide_eq_true hsz
                         have hw1 : IntKind.i64.wrap ((i : Int) + 1) = (i : Int) + 1 := IntWalk.i64_in _ (by omega)
                         clear hdl
                         have fq := u8_ne d q
                         cases hb : (d != q) with
                         | true =>
                           rw [hb] at fq
                           have hlt : i < m4 := by
                             rcases Nat.lt_or_ge i m4 with h | h
                             · exact h
                             · have h := OFF.out (by omega); simp [neB, hb] at h
                           clear hb
                           go_wp2_with fail
                           go_roundw
                           case rel => exact ⟨i + 1, by omega, by omega, by go_num, XR.out⟩
                           case measure => simp [intOf]; omega
                         | false =>
                           rw [hb] at fq
                           have hlt : i = m4 := by
                             rcases Nat.lt_or_ge i m4 with h | h
                             · have h := ON.out h; simp [neB, hb] at h
                             · omega
                           subst hlt
                           clear hb
                           go_wp2_with fail
                           go_meet
                           exact ⟨rfl, XR.out⟩
                       · have e0 : decide ((i : Int) < (s.size : Int)) = false := decide_eq_false (by omega)
                         have e0n : decide (i < s.size) = false := decide_eq_false hsz
                         have hlt : i = m4 := by omega
                         subst hlt
                         clear hsz
                         go_wp2_with fail
                         go_meet
                         exact ⟨rfl, XR.out⟩
                   case rest =>
                    obtain ⟨rfl, xcut⟩ := hcut
                    have X10 := qh (X8.out.trans xcut)
                    obtain ⟨w10, hw10e⟩ : ∃ W, wc = W := ⟨_, rfl⟩
                    rw [hw10e] at X10 xcut ⊢
                    clear xcut hw10e
                    by_cases hz4 : m4 = s.size
                    · have e4 : ((m4 : Int) == (s.size : Int)) = true := by rw [hz4]; exact beq_self_eq_true _
                      have e4n : (m4 == s.size) = true := by rw [hz4]; exact beq_self_eq_true _
                      have hN : o = none := by
                        have h := HVQ.out
                        rw [hz4, show s.data.toList.drop s.size = [] from List.drop_eq_nil_of_le (Nat.le_refl _)] at h
                        rw [← HRES.out, HPV.out, h]
                        rfl
                      subst hN
                      clear hz4
                      go_wp2_with fail
                      go_ret3
                      exact ⟨rfl, M6.out.ext X10.out⟩
                    · have e4 : ((m4 : Int) == (s.size : Int)) = false := by rw [beq_eq_false_iff_ne]; omega
                      have e4n : (m4 == s.size) = false := by rw [beq_eq_false_iff_ne]; omega
                      have hm4s : m4 < s.size := by omega
                      obtain ⟨d4, hd4, -⟩ := at_idx s m4 (by omega)
                      obtain ⟨v, hv⟩ : ∃ v, (s.data.toList.drop (m3 + 1)).takeWhile (neB q) = v := ⟨_, rfl⟩
                      have HPL : Hid (partL c (s.data.toList.drop (j + 1)) = some ((nm, v), s.data.toList.drop (m4 + 1))) := qh (by
                        have h := HVQ.out
                        rw [drop_at hd4] at h
                        rw [HPV.out, h, ← hv]
                        rfl)
                      have HCUT2 := qh (HT4.out.trans (congrArg bs hv))
                      generalize hE2 : s.extract (m3 + 1) m4 = E2 at HCUT2
                      have HE2 := qh hE2
                      have hlm4 : (s.data.toList.drop (m4 + 1)).length = s.size - (m4 + 1) := List.length_drop
                      have hw4' : IntKind.i64.wrap ((m4 : Int) + 1) = (m4 : Int) + 1 := IntWalk.i64_in _ (by omega)
                      have b4 : (0 : Int) ≤ (m3 : Int) + 1 := by omega
                      have b5 : (m3 : Int) + 1 ≤ (m4 : Int) := by omega
                      have b6 : (m4 : Int) ≤ (s.size : Int) := by omega
                      have b7 : ((m3 : Int) + 1).toNat = m3 + 1 := by omega
                      clear hd4 hv hE2 hz4
                      have hb10 := (X10.out).block BX6.out
                      have f10 := freeOf hb10 1
                      have hrow10 := HROW6.out.ext (X10.out)
                      have HROW9 := qh (hrow10.mv (Mv.setCell (S := (· = bx)) (p := ⟨bx, 1, none⟩) (Mv.refl (· = bx) w10) (fun _ => rfl) (.string (bs v))) (by intro g hg; show ¬ g = bx; omega))
                      have M9 := qh (Mv.setCell (p := ⟨bx, 1, none⟩) (M6.out.ext (X10.out)) (by intro h; exact absurd h (by show ¬ bx < w.heap.size; omega)) (.string (bs v)))
                      have hb9 := heap_setCell_same (i := 1) hb10 (.string (bs v))
                      have cx0 := cellOf hb9 (i := 0) (v := .string (bs nm)) rfl
                      have cx1 := cellOf hb9 (i := 1) (v := .string (bs v)) rfl
                      have cy0 := cellOf hb10 (i := 0) rfl
                      have cy1 := cellOf hb10 (i := 1) rfl
                      clear hrow10 hb10 hb9
                      go_upto_region 39 with fail
                      first | rw [HE2.out, HCUT2.out] | rw [HCUT2.out]
                      obtain ⟨w9, hw9⟩ : ∃ w9 : World, w9 = World.setCell w10 ⟨bx, 1, none⟩ (.string (bs v)) := ⟨_, rfl⟩
                      rw [← hw9] at M9 HROW9 cx0 cx1 ⊢
                      clear hw9 f10 cy0 cy1
                      have he9 : (s.data.toList.drop (m4 + 1)).length ≤ s.size - (j + 1) := by omega
                      have HRES9 : Hid ((partsS false (s.data.toList.drop (m4 + 1))).map (fun x => ((acc ++ [(nm, v)]) ++ x.1, x.2)) = o) := qh (by
                        rw [partsS_false, ← HRES.out, HPL.out]
                        dsimp only
                        cases partsL (s.data.toList.drop (m4 + 1)) with
                        | none => rfl
                        | some y => simp)
                      have hl2 := HAL.out
                      obtain ⟨i0, hi, hz0, hz1, hz2⟩ := info_parts infoAttr14
                      have hxa := (Ext.refl w9).alloc (.cells #[.string (bs nm), .string (bs v)] 157)
                      have hrA := HROW9.out.ext hxa
                      have hna := heap_alloc_new w9 (.cells #[.string (bs nm), .string (bs v)] 157)
                      obtain ⟨v', wB, row, hrunB, hrB, hgB, hrowB⟩ := run_append_row (P := Tryz.prog) (w9.alloc (.cells #[.string (bs nm), .string (bs v)] 157)) 153 153 157 i0 _ 2 32 Tryz.underlying153 hi hz0 hz1 hz2 (by kernel_rfl) (by decide)
                        hrA ⟨w9.heap.size, 0, none⟩ 1 1 [.string (bs nm), .string (bs v)] rfl (by
                          intro j u hj
                          rw [Addr.add_lit, Nat.zero_add]
                          exact cellOf hna (by simpa using hj)) (by intro u hu; simp at hu; rcases hu with rfl | rfl <;> rfl) (by decide) (by unfold maxLen; omega) (by omega)
                      have MB := qh ((M9.out.ext hxa).grown hgB (by
                        intro z hz hlt
                        have h1 := (hrowB z hz).1
                        omega))
                      obtain ⟨a7, cap7, e7, _⟩ := hrB.rd.len_of
                      subst e7
                      have HRB := qh hrunB
                      have HFIN := qh (RowP.imp hrB (q := fun g => w.heap.size ≤ g) (by
                        intro g _ hg
                        have h9 := M9.out.size
                        have h8 : (w9.alloc (.cells #[.string (bs nm), .string (bs v)] 157)).heap.size = w9.heap.size + 1 := by simp
                        rcases hg with ⟨h1, _⟩ | h1
                        · exact h1
                        · omega))
                      have HNS : Hid (attrCells (acc.map pb) ++ [.string (bs nm), .string (bs v)] = attrCells ((acc ++ [(nm, v)]).map pb)) := qh (by rw [List.map_append, List.map_cons, List.map_nil, attrCells_snoc]; rfl)
                      have HLE := qh he9
                      clear hrunB hrB hgB hrowB hi hz0 hz1 hz2 hxa hrA hna he9
                      go_wp2_with (at_builtin; refine wpList_append_run _ rfl _ _ 153 rfl _ _ rfl rfl _ _ HRB.out ?_)
                      obtain ⟨g', rfl⟩ : ∃ g', gk = g' + 1 := ⟨gk - 1, by have := HGF.out; omega⟩
                      go_roundg g'
                      case measure => omega
                      case rel => exact ⟨m4 + 1, acc ++ [(nm, v)], false, by omega, by first | rfl | (push_cast; rfl), rfl, by rw [← HNS.out, List.length_append]; exact HFIN.out, MB.out, by have := HGF.out; omega, by rw [List.length_append, List.length_cons, List.length_nil]; omega, HRES9.out⟩
                 · rw [h34] at q34
                   rw [h39] at q39
                   clear hq39
                   go_upto_region 27 with fail
                   go_upto_block 8 with fail
                   go_cut [10] (fun ev wx => ev = .int .i64 (m4 : Int) ∧ Ext w8 wx)
                   case first =>
                    as_aux_lemma =>
                     go_wp2_with fail
                     go_loopw [10] (fun ev wr => ∃ i : Nat, m3 + 1 ≤ i ∧ i ≤ m4 ∧ ev = .int .i64 i ∧ Ext w8 wr) (fun ev _ => m4 - (intOf ev).toNat)
                     case atStart => exact ⟨m3 + 1, Nat.le_refl _, SC4.out.le, by first | rfl | (push_cast; rfl), Ext.refl _⟩
                     case round =>
                       obtain ⟨i, hki, him, rfl, xr⟩ := hrel
                       have XR := qh xr
                       clear xr
                       have hmf := SC4.out.fit
                       have hs6 := HS6.out
                       by_cases hsz : i < s.size
                       · obtain ⟨d, hdl, -⟩ := at_idx s i hsz
                         have hix := idx_of s i d hdl
                         have ON := qh (fun h => SC4.out.on i d hki h hdl)
                         have OFF := qh (fun (h : i = m4) => SC4.out.off d (h ▸ hdl))
                         have e0 : decide ((i : Int) < (s.size : Int)) = true := decide_eq_true (by omega)
                         have e0n : decide (i < s.size) = true := decide_eq_true hsz
                         have hw1 : IntKind.i64.wrap ((i : Int) + 1) = (i : Int) + 1 := IntWalk.i64_in _ (by omega)
                         clear hdl
                         have fq := u8_ne d q
                         cases hb : (d != q) with
                         | true =>
                           rw [hb] at fq
                           have hlt : i < m4 := by
                             rcases Nat.lt_or_ge i m4 with h | h
                             · exact h
                             · have h := OFF.out (by omega); simp [neB, hb] at h
                           clear hb
                           go_wp2_with fail
                           go_roundw
                           case rel => exact ⟨i + 1, by omega, by omega, by go_num, XR.out⟩
                           case measure => simp [intOf]; omega
                         | false =>
                           rw [hb] at fq
                           have hlt : i = m4 := by
                             rcases Nat.lt_or_ge i m4 with h | h
                             · have h := ON.out h; simp [neB, hb] at h
                             · omega
                           subst hlt
                           clear hb
                           go_wp2_with fail
                           go_meet
                           exact ⟨rfl, XR.out⟩
                       · have e0 : decide ((i : Int) < (s.size : Int)) = false := decide_eq_false (by omega)
                         have e0n : decide (i < s.size) = false := decide_eq_false hsz
                         have hlt : i = m4 := by omega
                         subst hlt
                         clear hsz
                         go_wp2_with fail
                         go_meet
                         exact ⟨rfl, XR.out⟩
                   case rest =>
                    obtain ⟨rfl, xcut⟩ := hcut
                    have X10 := qh (X8.out.trans xcut)
                    obtain ⟨w10, hw10e⟩ : ∃ W, wc = W := ⟨_, rfl⟩
                    rw [hw10e] at X10 xcut ⊢
                    clear xcut hw10e
                    by_cases hz4 : m4 = s.size
                    · have e4 : ((m4 : Int) == (s.size : Int)) = true := by rw [hz4]; exact beq_self_eq_true _
                      have e4n : (m4 == s.size) = true := by rw [hz4]; exact beq_self_eq_true _
                      have hN : o = none := by
                        have h := HVQ.out
                        rw [hz4, show s.data.toList.drop s.size = [] from List.drop_eq_nil_of_le (Nat.le_refl _)] at h
                        rw [← HRES.out, HPV.out, h]
                        rfl
                      subst hN
                      clear hz4
                      go_wp2_with fail
                      go_ret3
                      exact ⟨rfl, M6.out.ext X10.out⟩
                    · have e4 : ((m4 : Int) == (s.size : Int)) = false := by rw [beq_eq_false_iff_ne]; omega
                      have e4n : (m4 == s.size) = false := by rw [beq_eq_false_iff_ne]; omega
                      have hm4s : m4 < s.size := by omega
                      obtain ⟨d4, hd4, -⟩ := at_idx s m4 (by omega)
                      obtain ⟨v, hv⟩ : ∃ v, (s.data.toList.drop (m3 + 1)).takeWhile (neB q) = v := ⟨_, rfl⟩
                      have HPL : Hid (partL c (s.data.toList.drop (j + 1)) = some ((nm, v), s.data.toList.drop (m4 + 1))) := qh (by
                        have h := HVQ.out
                        rw [drop_at hd4] at h
                        rw [HPV.out, h, ← hv]
                        rfl)
                      have HCUT2 := qh (HT4.out.trans (congrArg bs hv))
                      generalize hE2 : s.extract (m3 + 1) m4 = E2 at HCUT2
                      have HE2 := qh hE2
                      have hlm4 : (s.data.toList.drop (m4 + 1)).length = s.size - (m4 + 1) := List.length_drop
                      have hw4' : IntKind.i64.wrap ((m4 : Int) + 1) = (m4 : Int) + 1 := IntWalk.i64_in _ (by omega)
                      have b4 : (0 : Int) ≤ (m3 : Int) + 1 := by omega
                      have b5 : (m3 : Int) + 1 ≤ (m4 : Int) := by omega
                      have b6 : (m4 : Int) ≤ (s.size : Int) := by omega
                      have b7 : ((m3 : Int) + 1).toNat = m3 + 1 := by omega
                      clear hd4 hv hE2 hz4
                      have hb10 := (X10.out).block BX6.out
                      have f10 := freeOf hb10 1
                      have hrow10 := HROW6.out.ext (X10.out)
                      have HROW9 := qh (hrow10.mv (Mv.setCell (S := (· = bx)) (p := ⟨bx, 1, none⟩) (Mv.refl (· = bx) w10) (fun _ => rfl) (.string (bs v))) (by intro g hg; show ¬ g = bx; omega))
                      have M9 := qh (Mv.setCell (p := ⟨bx, 1, none⟩) (M6.out.ext (X10.out)) (by intro h; exact absurd h (by show ¬ bx < w.heap.size; omega)) (.string (bs v)))
                      have hb9 := heap_setCell_same (i := 1) hb10 (.string (bs v))
                      have cx0 := cellOf hb9 (i := 0) (v := .string (bs nm)) rfl
                      have cx1 := cellOf hb9 (i := 1) (v := .string (bs v)) rfl
                      have cy0 := cellOf hb10 (i := 0) rfl
                      have cy1 := cellOf hb10 (i := 1) rfl
                      clear hrow10 hb10 hb9
                      go_upto_region 39 with fail
                      first | rw [HE2.out, HCUT2.out] | rw [HCUT2.out]
                      obtain ⟨w9, hw9⟩ : ∃ w9 : World, w9 = World.setCell w10 ⟨bx, 1, none⟩ (.string (bs v)) := ⟨_, rfl⟩
                      rw [← hw9] at M9 HROW9 cx0 cx1 ⊢
                      clear hw9 f10 cy0 cy1
                      have he9 : (s.data.toList.drop (m4 + 1)).length ≤ s.size - (j + 1) := by omega
                      have HRES9 : Hid ((partsS false (s.data.toList.drop (m4 + 1))).map (fun x => ((acc ++ [(nm, v)]) ++ x.1, x.2)) = o) := qh (by
                        rw [partsS_false, ← HRES.out, HPL.out]
                        dsimp only
                        cases partsL (s.data.toList.drop (m4 + 1)) with
                        | none => rfl
                        | some y => simp)
                      have hl2 := HAL.out
                      obtain ⟨i0, hi, hz0, hz1, hz2⟩ := info_parts infoAttr14
                      have hxa := (Ext.refl w9).alloc (.cells #[.string (bs nm), .string (bs v)] 157)
                      have hrA := HROW9.out.ext hxa
                      have hna := heap_alloc_new w9 (.cells #[.string (bs nm), .string (bs v)] 157)
                      obtain ⟨v', wB, row, hrunB, hrB, hgB, hrowB⟩ := run_append_row (P := Tryz.prog) (w9.alloc (.cells #[.string (bs nm), .string (bs v)] 157)) 153 153 157 i0 _ 2 32 Tryz.underlying153 hi hz0 hz1 hz2 (by kernel_rfl) (by decide)
                        hrA ⟨w9.heap.size, 0, none⟩ 1 1 [.string (bs nm), .string (bs v)] rfl (by
                          intro j u hj
                          rw [Addr.add_lit, Nat.zero_add]
                          exact cellOf hna (by simpa using hj)) (by intro u hu; simp at hu; rcases hu with rfl | rfl <;> rfl) (by decide) (by unfold maxLen; omega) (by omega)
                      have MB := qh ((M9.out.ext hxa).grown hgB (by
                        intro z hz hlt
                        have h1 := (hrowB z hz).1
                        omega))
                      obtain ⟨a7, cap7, e7, _⟩ := hrB.rd.len_of
                      subst e7
                      have HRB := qh hrunB
                      have HFIN := qh (RowP.imp hrB (q := fun g => w.heap.size ≤ g) (by
                        intro g _ hg
                        have h9 := M9.out.size
                        have h8 : (w9.alloc (.cells #[.string (bs nm), .string (bs v)] 157)).heap.size = w9.heap.size + 1 := by simp
                        rcases hg with ⟨h1, _⟩ | h1
                        · exact h1
                        · omega))
                      have HNS : Hid (attrCells (acc.map pb) ++ [.string (bs nm), .string (bs v)] = attrCells ((acc ++ [(nm, v)]).map pb)) := qh (by rw [List.map_append, List.map_cons, List.map_nil, attrCells_snoc]; rfl)
                      have HLE := qh he9
                      clear hrunB hrB hgB hrowB hi hz0 hz1 hz2 hxa hrA hna he9
                      go_wp2_with (at_builtin; refine wpList_append_run _ rfl _ _ 153 rfl _ _ rfl rfl _ _ HRB.out ?_)
                      obtain ⟨g', rfl⟩ : ∃ g', gk = g' + 1 := ⟨gk - 1, by have := HGF.out; omega⟩
                      go_roundg g'
                      case measure => omega
                      case rel => exact ⟨m4 + 1, acc ++ [(nm, v)], false, by omega, by first | rfl | (push_cast; rfl), rfl, by rw [← HNS.out, List.length_append]; exact HFIN.out, MB.out, by have := HGF.out; omega, by rw [List.length_append, List.length_cons, List.length_nil]; omega, HRES9.out⟩
               · obtain ⟨m5, SC5, D5, T5⟩ := scan_of valB s m3 hm3f
                 have hm5 := SC5.le
                 have hm5f := SC5.fit
                 have SC5 := qh SC5
                 obtain ⟨v, hv⟩ : ∃ v, (s.data.toList.drop m3).takeWhile valB = v := ⟨_, rfl⟩
                 have HPL : Hid (partL c (s.data.toList.drop (j + 1)) = some ((nm, v), s.data.toList.drop m5)) := qh (by
                   have h := valueL_bare (r := s.data.toList.drop (m2 + 1)) (by rw [HD3.out]; exact headP_at 34 (fun x hx e => hq ⟨x, hx, .inl e⟩)) (by rw [HD3.out]; exact headP_at 39 (fun x hx e => hq ⟨x, hx, .inr e⟩))
                   rw [HPV.out, h, HD3.out, D5, hv]
                   rfl)
                 have HCUT2 := qh (T5.trans (congrArg bs hv))
                 generalize hE2 : s.extract m3 m5 = E2 at HCUT2
                 have HE2 := qh hE2
                 have hlm5 : (s.data.toList.drop m5).length = s.size - m5 := List.length_drop
                 have b4 : (0 : Int) ≤ (m3 : Int) := by omega
                 have b5 : (m3 : Int) ≤ (m5 : Int) := by omega
                 have b6 : (m5 : Int) ≤ (s.size : Int) := by omega
                 have QF : Hid (∀ x, s.data.toList[m3]? = some x → (x == 34) = false ∧ (x == 39) = false) := qh (fun x hx => ⟨beq_eq_false_iff_ne.2 (fun e => hq ⟨x, hx, .inl e⟩), beq_eq_false_iff_ne.2 (fun e => hq ⟨x, hx, .inr e⟩)⟩)
                 clear D5 T5 hv hE2 hq
                 by_cases hz3 : m3 < s.size
                 · obtain ⟨d3, hd3, -⟩ := at_idx s m3 hz3
                   have hix3 := idx_of s m3 d3 hd3
                   have f34 : ((d3.toNat : Int) == 34) = false := (u8_eq d3 34).trans (QF.out d3 hd3).1
                   have f39 : ((d3.toNat : Int) == 39) = false := (u8_eq d3 39).trans (QF.out d3 hd3).2
                   have e3 : decide ((m3 : Int) < (s.size : Int)) = true := decide_eq_true (by omega)
                   have e3n : decide (m3 < s.size) = true := decide_eq_true hz3
                   clear hd3 hz3
                   go_upto_block 10 with fail
                   go_cut [10] (fun ev wx => ev = .int .i64 (m5 : Int) ∧ Ext w8 wx)
                   case first =>
                    as_aux_lemma =>
                     go_wp2_with fail
                     go_loopw [10] (fun ev wr => ∃ i : Nat, m3 ≤ i ∧ i ≤ m5 ∧ ev = .int .i64 i ∧ Ext w8 wr) (fun ev _ => m5 - (intOf ev).toNat)
                     case atStart => exact ⟨m3, Nat.le_refl _, SC5.out.le, by first | rfl | (push_cast; rfl), Ext.refl _⟩
                     case round =>
                       obtain ⟨i, hki, him, rfl, xr⟩ := hrel
                       have XR := qh xr
                       clear xr
                       have hmf := SC5.out.fit
                       have hs6 := HS6.out
                       by_cases hsz : i < s.size
                       · obtain ⟨d, hdl, -⟩ := at_idx s i hsz
                         have hix := idx_of s i d hdl
                         have ON := qh (fun h => SC5.out.on i d hki h hdl)
                         have OFF := qh (fun (h : i = m5) => SC5.out.off d (h ▸ hdl))
                         have e0 : decide ((i : Int) < (s.size : Int)) = true := decide_eq_true (by omega)
                         have e0n : decide (i < s.size) = true := decide_eq_true hsz
                         have hw1 : IntKind.i64.wrap ((i : Int) + 1) = (i : Int) + 1 := IntWalk.i64_in _ (by omega)
                         clear hdl
                         have HBL := qh (fun W => rBlank_any d W)
                         cases hb : blankB d with
                         | true =>
                           rw [hb] at HBL
                           have hlt : i = m5 := by
                             rcases Nat.lt_or_ge i m5 with h | h
                             · have h := ON.out h; simp [nmB, valB, hb] at h
                             · omega
                           subst hlt
                           clear hb
                           go_wp2_with (go_at_call 117; refine (HBL.out _).mono ?_)
                           rintro e w1 ⟨rfl, x1⟩
                           go_wp2_with fail
                           go_meet
                           exact ⟨rfl, XR.out.trans x1⟩
                         | false =>
                           rw [hb] at HBL
                           by_cases h62 : d = 62
                           · have f62 : ((d.toNat : Int) == 62) = true := (u8_eq d 62).trans (by simp [h62])
                             have g62 : ((d.toNat : Int) != 62) = false := (u8_ne d 62).trans (by simp [h62])
                             have hlt : i = m5 := by
                               rcases Nat.lt_or_ge i m5 with h | h
                               · have h := ON.out h; simp [nmB, valB, h62, hb] at h
                               · omega
                             subst hlt
                             clear h62 hb
                             go_wp2_with (go_at_call 117; refine (HBL.out _).mono ?_)
                             rintro e w1 ⟨rfl, x1⟩
                             go_wp2_with fail
                             go_meet
                             exact ⟨rfl, XR.out.trans x1⟩
                           · have f62 : ((d.toNat : Int) == 62) = false := (u8_eq d 62).trans (by simp [h62])
                             have g62 : ((d.toNat : Int) != 62) = true := (u8_ne d 62).trans (by simp [h62])
                             have hlt : i < m5 := by
                               rcases Nat.lt_or_ge i m5 with h | h
                               · exact h
                               · have h := OFF.out (by omega); simp [nmB, valB, hb, h62] at h
                             clear hb h62
                             go_wp2_with (go_at_call 117; refine (HBL.out _).mono ?_)
                             rintro e w1 ⟨rfl, x1⟩
                             go_wp2_with fail
                             go_roundw
                             case rel => exact ⟨i + 1, by omega, by omega, by go_num, XR.out.trans x1⟩
                             case measure => simp [intOf]; omega
                       · have e0 : decide ((i : Int) < (s.size : Int)) = false := decide_eq_false (by omega)
                         have e0n : decide (i < s.size) = false := decide_eq_false hsz
                         have hlt : i = m5 := by omega
                         subst hlt
                         clear hsz
                         go_wp2_with fail
                         go_meet
                         exact ⟨rfl, XR.out⟩
                   case rest =>
                    obtain ⟨rfl, xcut⟩ := hcut
                    have X10 := qh (X8.out.trans xcut)
                    obtain ⟨w10, hw10e⟩ : ∃ W, wc = W := ⟨_, rfl⟩
                    rw [hw10e] at X10 xcut ⊢
                    clear xcut hw10e
                    have hb10 := (X10.out).block BX6.out
                    have f10 := freeOf hb10 1
                    have hrow10 := HROW6.out.ext (X10.out)
                    have HROW9 := qh (hrow10.mv (Mv.setCell (S := (· = bx)) (p := ⟨bx, 1, none⟩) (Mv.refl (· = bx) w10) (fun _ => rfl) (.string (bs v))) (by intro g hg; show ¬ g = bx; omega))
                    have M9 := qh (Mv.setCell (p := ⟨bx, 1, none⟩) (M6.out.ext (X10.out)) (by intro h; exact absurd h (by show ¬ bx < w.heap.size; omega)) (.string (bs v)))
                    have hb9 := heap_setCell_same (i := 1) hb10 (.string (bs v))
                    have cx0 := cellOf hb9 (i := 0) (v := .string (bs nm)) rfl
                    have cx1 := cellOf hb9 (i := 1) (v := .string (bs v)) rfl
                    have cy0 := cellOf hb10 (i := 0) rfl
                    have cy1 := cellOf hb10 (i := 1) rfl
                    clear hrow10 hb10 hb9
                    go_upto_region 39 with fail
                    first | rw [HE2.out, HCUT2.out] | rw [HCUT2.out]
                    obtain ⟨w9, hw9⟩ : ∃ w9 : World, w9 = World.setCell w10 ⟨bx, 1, none⟩ (.string (bs v)) := ⟨_, rfl⟩
                    rw [← hw9] at M9 HROW9 cx0 cx1 ⊢
                    clear hw9 f10 cy0 cy1
                    have he9 : (s.data.toList.drop m5).length ≤ s.size - (j + 1) := by omega
                    have HRES9 : Hid ((partsS false (s.data.toList.drop m5)).map (fun x => ((acc ++ [(nm, v)]) ++ x.1, x.2)) = o) := qh (by
                      rw [partsS_false, ← HRES.out, HPL.out]
                      dsimp only
                      cases partsL (s.data.toList.drop m5) with
                      | none => rfl
                      | some y => simp)
                    have hl2 := HAL.out
                    obtain ⟨i0, hi, hz0, hz1, hz2⟩ := info_parts infoAttr14
                    have hxa := (Ext.refl w9).alloc (.cells #[.string (bs nm), .string (bs v)] 157)
                    have hrA := HROW9.out.ext hxa
                    have hna := heap_alloc_new w9 (.cells #[.string (bs nm), .string (bs v)] 157)
                    obtain ⟨v', wB, row, hrunB, hrB, hgB, hrowB⟩ := run_append_row (P := Tryz.prog) (w9.alloc (.cells #[.string (bs nm), .string (bs v)] 157)) 153 153 157 i0 _ 2 32 Tryz.underlying153 hi hz0 hz1 hz2 (by kernel_rfl) (by decide)
                      hrA ⟨w9.heap.size, 0, none⟩ 1 1 [.string (bs nm), .string (bs v)] rfl (by
                        intro j u hj
                        rw [Addr.add_lit, Nat.zero_add]
                        exact cellOf hna (by simpa using hj)) (by intro u hu; simp at hu; rcases hu with rfl | rfl <;> rfl) (by decide) (by unfold maxLen; omega) (by omega)
                    have MB := qh ((M9.out.ext hxa).grown hgB (by
                      intro z hz hlt
                      have h1 := (hrowB z hz).1
                      omega))
                    obtain ⟨a7, cap7, e7, _⟩ := hrB.rd.len_of
                    subst e7
                    have HRB := qh hrunB
                    have HFIN := qh (RowP.imp hrB (q := fun g => w.heap.size ≤ g) (by
                      intro g _ hg
                      have h9 := M9.out.size
                      have h8 : (w9.alloc (.cells #[.string (bs nm), .string (bs v)] 157)).heap.size = w9.heap.size + 1 := by simp
                      rcases hg with ⟨h1, _⟩ | h1
                      · exact h1
                      · omega))
                    have HNS : Hid (attrCells (acc.map pb) ++ [.string (bs nm), .string (bs v)] = attrCells ((acc ++ [(nm, v)]).map pb)) := qh (by rw [List.map_append, List.map_cons, List.map_nil, attrCells_snoc]; rfl)
                    have HLE := qh he9
                    clear hrunB hrB hgB hrowB hi hz0 hz1 hz2 hxa hrA hna he9
                    go_wp2_with (at_builtin; refine wpList_append_run _ rfl _ _ 153 rfl _ _ rfl rfl _ _ HRB.out ?_)
                    obtain ⟨g', rfl⟩ : ∃ g', gk = g' + 1 := ⟨gk - 1, by have := HGF.out; omega⟩
                    go_roundg g'
                    case measure => omega
                    case rel => exact ⟨m5, acc ++ [(nm, v)], false, by omega, by first | rfl | (push_cast; rfl), rfl, by rw [← HNS.out, List.length_append]; exact HFIN.out, MB.out, by have := HGF.out; omega, by rw [List.length_append, List.length_cons, List.length_nil]; omega, HRES9.out⟩
                 · have e3 : decide ((m3 : Int) < (s.size : Int)) = false := decide_eq_false (by omega)
                   have e3n : decide (m3 < s.size) = false := decide_eq_false hz3
                   clear hz3
                   go_upto_block 10 with fail
                   go_cut [10] (fun ev wx => ev = .int .i64 (m5 : Int) ∧ Ext w8 wx)
                   case first =>
                    as_aux_lemma =>
                     go_wp2_with fail
                     go_loopw [10] (fun ev wr => ∃ i : Nat, m3 ≤ i ∧ i ≤ m5 ∧ ev = .int .i64 i ∧ Ext w8 wr) (fun ev _ => m5 - (intOf ev).toNat)
                     case atStart => exact ⟨m3, Nat.le_refl _, SC5.out.le, by first | rfl | (push_cast; rfl), Ext.refl _⟩
                     case round =>
                       obtain ⟨i, hki, him, rfl, xr⟩ := hrel
                       have XR := qh xr
                       clear xr
                       have hmf := SC5.out.fit
                       have hs6 := HS6.out
                       by_cases hsz : i < s.size
                       · obtain ⟨d, hdl, -⟩ := at_idx s i hsz
                         have hix := idx_of s i d hdl
                         have ON := qh (fun h => SC5.out.on i d hki h hdl)
                         have OFF := qh (fun (h : i = m5) => SC5.out.off d (h ▸ hdl))
                         have e0 : decide ((i : Int) < (s.size : Int)) = true := decide_eq_true (by omega)
                         have e0n : decide (i < s.size) = true := decide_eq_true hsz
                         have hw1 : IntKind.i64.wrap ((i : Int) + 1) = (i : Int) + 1 := IntWalk.i64_in _ (by omega)
                         clear hdl
                         have HBL := qh (fun W => rBlank_any d W)
                         cases hb : blankB d with
                         | true =>
                           rw [hb] at HBL
                           have hlt : i = m5 := by
                             rcases Nat.lt_or_ge i m5 with h | h
                             · have h := ON.out h; simp [nmB, valB, hb] at h
                             · omega
                           subst hlt
                           clear hb
                           go_wp2_with (go_at_call 117; refine (HBL.out _).mono ?_)
                           rintro e w1 ⟨rfl, x1⟩
                           go_wp2_with fail
                           go_meet
                           exact ⟨rfl, XR.out.trans x1⟩
                         | false =>
                           rw [hb] at HBL
                           by_cases h62 : d = 62
                           · have f62 : ((d.toNat : Int) == 62) = true := (u8_eq d 62).trans (by simp [h62])
                             have g62 : ((d.toNat : Int) != 62) = false := (u8_ne d 62).trans (by simp [h62])
                             have hlt : i = m5 := by
                               rcases Nat.lt_or_ge i m5 with h | h
                               · have h := ON.out h; simp [nmB, valB, h62, hb] at h
                               · omega
                             subst hlt
                             clear h62 hb
                             go_wp2_with (go_at_call 117; refine (HBL.out _).mono ?_)
                             rintro e w1 ⟨rfl, x1⟩
                             go_wp2_with fail
                             go_meet
                             exact ⟨rfl, XR.out.trans x1⟩
                           · have f62 : ((d.toNat : Int) == 62) = false := (u8_eq d 62).trans (by simp [h62])
                             have g62 : ((d.toNat : Int) != 62) = true := (u8_ne d 62).trans (by simp [h62])
                             have hlt : i < m5 := by
                               rcases Nat.lt_or_ge i m5 with h | h
                               · exact h
                               · have h := OFF.out (by omega); simp [nmB, valB, hb, h62] at h
                             clear hb h62
                             go_wp2_with (go_at_call 117; refine (HBL.out _).mono ?_)
                             rintro e w1 ⟨rfl, x1⟩
                             go_wp2_with fail
                             go_roundw
                             case rel => exact ⟨i + 1, by omega, by omega, by go_num, XR.out.trans x1⟩
                             case measure => simp [intOf]; omega
                       · have e0 : decide ((i : Int) < (s.size : Int)) = false := decide_eq_false (by omega)
                         have e0n : decide (i < s.size) = false := decide_eq_false hsz
                         have hlt : i = m5 := by omega
                         subst hlt
                         clear hsz
                         go_wp2_with fail
                         go_meet
                         exact ⟨rfl, XR.out⟩
                   case rest =>
                    obtain ⟨rfl, xcut⟩ := hcut
                    have X10 := qh (X8.out.trans xcut)
                    obtain ⟨w10, hw10e⟩ : ∃ W, wc = W := ⟨_, rfl⟩
                    rw [hw10e] at X10 xcut ⊢
                    clear xcut hw10e
                    have hb10 := (X10.out).block BX6.out
                    have f10 := freeOf hb10 1
                    have hrow10 := HROW6.out.ext (X10.out)
                    have HROW9 := qh (hrow10.mv (Mv.setCell (S := (· = bx)) (p := ⟨bx, 1, none⟩) (Mv.refl (· = bx) w10) (fun _ => rfl) (.string (bs v))) (by intro g hg; show ¬ g = bx; omega))
                    have M9 := qh (Mv.setCell (p := ⟨bx, 1, none⟩) (M6.out.ext (X10.out)) (by intro h; exact absurd h (by show ¬ bx < w.heap.size; omega)) (.string (bs v)))
                    have hb9 := heap_setCell_same (i := 1) hb10 (.string (bs v))
                    have cx0 := cellOf hb9 (i := 0) (v := .string (bs nm)) rfl
                    have cx1 := cellOf hb9 (i := 1) (v := .string (bs v)) rfl
                    have cy0 := cellOf hb10 (i := 0) rfl
                    have cy1 := cellOf hb10 (i := 1) rfl
                    clear hrow10 hb10 hb9
                    go_upto_region 39 with fail
                    first | rw [HE2.out, HCUT2.out] | rw [HCUT2.out]
                    obtain ⟨w9, hw9⟩ : ∃ w9 : World, w9 = World.setCell w10 ⟨bx, 1, none⟩ (.string (bs v)) := ⟨_, rfl⟩
                    rw [← hw9] at M9 HROW9 cx0 cx1 ⊢
                    clear hw9 f10 cy0 cy1
                    have he9 : (s.data.toList.drop m5).length ≤ s.size - (j + 1) := by omega
                    have HRES9 : Hid ((partsS false (s.data.toList.drop m5)).map (fun x => ((acc ++ [(nm, v)]) ++ x.1, x.2)) = o) := qh (by
                      rw [partsS_false, ← HRES.out, HPL.out]
                      dsimp only
                      cases partsL (s.data.toList.drop m5) with
                      | none => rfl
                      | some y => simp)
                    have hl2 := HAL.out
                    obtain ⟨i0, hi, hz0, hz1, hz2⟩ := info_parts infoAttr14
                    have hxa := (Ext.refl w9).alloc (.cells #[.string (bs nm), .string (bs v)] 157)
                    have hrA := HROW9.out.ext hxa
                    have hna := heap_alloc_new w9 (.cells #[.string (bs nm), .string (bs v)] 157)
                    obtain ⟨v', wB, row, hrunB, hrB, hgB, hrowB⟩ := run_append_row (P := Tryz.prog) (w9.alloc (.cells #[.string (bs nm), .string (bs v)] 157)) 153 153 157 i0 _ 2 32 Tryz.underlying153 hi hz0 hz1 hz2 (by kernel_rfl) (by decide)
                      hrA ⟨w9.heap.size, 0, none⟩ 1 1 [.string (bs nm), .string (bs v)] rfl (by
                        intro j u hj
                        rw [Addr.add_lit, Nat.zero_add]
                        exact cellOf hna (by simpa using hj)) (by intro u hu; simp at hu; rcases hu with rfl | rfl <;> rfl) (by decide) (by unfold maxLen; omega) (by omega)
                    have MB := qh ((M9.out.ext hxa).grown hgB (by
                      intro z hz hlt
                      have h1 := (hrowB z hz).1
                      omega))
                    obtain ⟨a7, cap7, e7, _⟩ := hrB.rd.len_of
                    subst e7
                    have HRB := qh hrunB
                    have HFIN := qh (RowP.imp hrB (q := fun g => w.heap.size ≤ g) (by
                      intro g _ hg
                      have h9 := M9.out.size
                      have h8 : (w9.alloc (.cells #[.string (bs nm), .string (bs v)] 157)).heap.size = w9.heap.size + 1 := by simp
                      rcases hg with ⟨h1, _⟩ | h1
                      · exact h1
                      · omega))
                    have HNS : Hid (attrCells (acc.map pb) ++ [.string (bs nm), .string (bs v)] = attrCells ((acc ++ [(nm, v)]).map pb)) := qh (by rw [List.map_append, List.map_cons, List.map_nil, attrCells_snoc]; rfl)
                    have HLE := qh he9
                    clear hrunB hrB hgB hrowB hi hz0 hz1 hz2 hxa hrA hna he9
                    go_wp2_with (at_builtin; refine wpList_append_run _ rfl _ _ 153 rfl _ _ rfl rfl _ _ HRB.out ?_)
                    obtain ⟨g', rfl⟩ : ∃ g', gk = g' + 1 := ⟨gk - 1, by have := HGF.out; omega⟩
                    go_roundg g'
                    case measure => omega
                    case rel => exact ⟨m5, acc ++ [(nm, v)], false, by omega, by first | rfl | (push_cast; rfl), rfl, by rw [← HNS.out, List.length_append]; exact HFIN.out, MB.out, by have := HGF.out; omega, by rw [List.length_append, List.length_cons, List.length_nil]; omega, HRES9.out⟩
            · have HPL : Hid (partL c (s.data.toList.drop (j + 1)) = some ((nm, []), s.data.toList.drop m1)) := qh (by
                have h := part_bare (c := c) (r2 := s.data.toList.drop (j + 1)) (by rw [HD2.out]; exact headP_at 61 (fun x hx e => h61 (e ▸ hx)))
                rw [h, HNM.out, HD1.out])
              have HROW9 := qh (HROW6.out.ext X7.out)
              have M9 := qh (M6.out.ext X7.out)
              have hb9 := X7.out.block BX6.out
              have cx0 := cellOf hb9 (i := 0) (v := .string (bs nm)) rfl
              have cx1 := cellOf hb9 (i := 1) (v := .string (bs [])) rfl
              clear hb9
              by_cases hz2 : m2 < s.size
              · obtain ⟨d, hdl, -⟩ := at_idx s m2 hz2
                have hix := idx_of s m2 d hdl
                have f61 : ((d.toNat : Int) == 61) = false := (u8_eq d 61).trans (by rw [beq_eq_false_iff_ne]; rintro rfl; exact h61 hdl)
                have e0 : decide ((m2 : Int) < (s.size : Int)) = true := decide_eq_true (by omega)
                have e0n : decide (m2 < s.size) = true := decide_eq_true hz2
                clear hz2 hdl h61
                go_upto_region 39 with fail
                obtain ⟨w9, hw9⟩ : ∃ w9 : World, w9 = w7 := ⟨_, rfl⟩
                rw [← hw9] at M9 HROW9 cx0 cx1 ⊢
                clear hw9
                have he9 : (s.data.toList.drop m1).length ≤ s.size - (j + 1) := by omega
                have HRES9 : Hid ((partsS false (s.data.toList.drop m1)).map (fun x => ((acc ++ [(nm, [])]) ++ x.1, x.2)) = o) := qh (by
                  rw [partsS_false, ← HRES.out, HPL.out]
                  dsimp only
                  cases partsL (s.data.toList.drop m1) with
                  | none => rfl
                  | some y => simp)
                have hl2 := HAL.out
                obtain ⟨i0, hi, hz0, hz1, hz2⟩ := info_parts infoAttr14
                have hxa := (Ext.refl w9).alloc (.cells #[.string (bs nm), .string (bs [])] 157)
                have hrA := HROW9.out.ext hxa
                have hna := heap_alloc_new w9 (.cells #[.string (bs nm), .string (bs [])] 157)
                obtain ⟨v', wB, row, hrunB, hrB, hgB, hrowB⟩ := run_append_row (P := Tryz.prog) (w9.alloc (.cells #[.string (bs nm), .string (bs [])] 157)) 153 153 157 i0 _ 2 32 Tryz.underlying153 hi hz0 hz1 hz2 (by kernel_rfl) (by decide)
                  hrA ⟨w9.heap.size, 0, none⟩ 1 1 [.string (bs nm), .string (bs [])] rfl (by
                    intro j u hj
                    rw [Addr.add_lit, Nat.zero_add]
                    exact cellOf hna (by simpa using hj)) (by intro u hu; simp at hu; rcases hu with rfl | rfl <;> rfl) (by decide) (by unfold maxLen; omega) (by omega)
                have MB := qh ((M9.out.ext hxa).grown hgB (by
                  intro z hz hlt
                  have h1 := (hrowB z hz).1
                  omega))
                obtain ⟨a7, cap7, e7, _⟩ := hrB.rd.len_of
                subst e7
                have HRB := qh hrunB
                have HFIN := qh (RowP.imp hrB (q := fun g => w.heap.size ≤ g) (by
                  intro g _ hg
                  have h9 := M9.out.size
                  have h8 : (w9.alloc (.cells #[.string (bs nm), .string (bs [])] 157)).heap.size = w9.heap.size + 1 := by simp
                  rcases hg with ⟨h1, _⟩ | h1
                  · exact h1
                  · omega))
                have HNS : Hid (attrCells (acc.map pb) ++ [.string (bs nm), .string (bs [])] = attrCells ((acc ++ [(nm, [])]).map pb)) := qh (by rw [List.map_append, List.map_cons, List.map_nil, attrCells_snoc]; rfl)
                have HLE := qh he9
                clear hrunB hrB hgB hrowB hi hz0 hz1 hz2 hxa hrA hna he9
                go_wp2_with (at_builtin; refine wpList_append_run _ rfl _ _ 153 rfl _ _ rfl rfl _ _ HRB.out ?_)
                obtain ⟨g', rfl⟩ : ∃ g', gk = g' + 1 := ⟨gk - 1, by have := HGF.out; omega⟩
                go_roundg g'
                case measure => omega
                case rel => exact ⟨m1, acc ++ [(nm, [])], false, by omega, by first | rfl | (push_cast; rfl), rfl, by rw [← HNS.out, List.length_append]; exact HFIN.out, MB.out, by have := HGF.out; omega, by rw [List.length_append, List.length_cons, List.length_nil]; omega, HRES9.out⟩
              · have e0 : decide ((m2 : Int) < (s.size : Int)) = false := decide_eq_false (by omega)
                have e0n : decide (m2 < s.size) = false := decide_eq_false hz2
                clear hz2 h61
                go_upto_region 39 with fail
                obtain ⟨w9, hw9⟩ : ∃ w9 : World, w9 = w7 := ⟨_, rfl⟩
                rw [← hw9] at M9 HROW9 cx0 cx1 ⊢
                clear hw9
                have he9 : (s.data.toList.drop m1).length ≤ s.size - (j + 1) := by omega
                have HRES9 : Hid ((partsS false (s.data.toList.drop m1)).map (fun x => ((acc ++ [(nm, [])]) ++ x.1, x.2)) = o) := qh (by
                  rw [partsS_false, ← HRES.out, HPL.out]
                  dsimp only
                  cases partsL (s.data.toList.drop m1) with
                  | none => rfl
                  | some y => simp)
                have hl2 := HAL.out
                obtain ⟨i0, hi, hz0, hz1, hz2⟩ := info_parts infoAttr14
                have hxa := (Ext.refl w9).alloc (.cells #[.string (bs nm), .string (bs [])] 157)
                have hrA := HROW9.out.ext hxa
                have hna := heap_alloc_new w9 (.cells #[.string (bs nm), .string (bs [])] 157)
                obtain ⟨v', wB, row, hrunB, hrB, hgB, hrowB⟩ := run_append_row (P := Tryz.prog) (w9.alloc (.cells #[.string (bs nm), .string (bs [])] 157)) 153 153 157 i0 _ 2 32 Tryz.underlying153 hi hz0 hz1 hz2 (by kernel_rfl) (by decide)
                  hrA ⟨w9.heap.size, 0, none⟩ 1 1 [.string (bs nm), .string (bs [])] rfl (by
                    intro j u hj
                    rw [Addr.add_lit, Nat.zero_add]
                    exact cellOf hna (by simpa using hj)) (by intro u hu; simp at hu; rcases hu with rfl | rfl <;> rfl) (by decide) (by unfold maxLen; omega) (by omega)
                have MB := qh ((M9.out.ext hxa).grown hgB (by
                  intro z hz hlt
                  have h1 := (hrowB z hz).1
                  omega))
                obtain ⟨a7, cap7, e7, _⟩ := hrB.rd.len_of
                subst e7
                have HRB := qh hrunB
                have HFIN := qh (RowP.imp hrB (q := fun g => w.heap.size ≤ g) (by
                  intro g _ hg
                  have h9 := M9.out.size
                  have h8 : (w9.alloc (.cells #[.string (bs nm), .string (bs [])] 157)).heap.size = w9.heap.size + 1 := by simp
                  rcases hg with ⟨h1, _⟩ | h1
                  · exact h1
                  · omega))
                have HNS : Hid (attrCells (acc.map pb) ++ [.string (bs nm), .string (bs [])] = attrCells ((acc ++ [(nm, [])]).map pb)) := qh (by rw [List.map_append, List.map_cons, List.map_nil, attrCells_snoc]; rfl)
                have HLE := qh he9
                clear hrunB hrB hgB hrowB hi hz0 hz1 hz2 hxa hrA hna he9
                go_wp2_with (at_builtin; refine wpList_append_run _ rfl _ _ 153 rfl _ _ rfl rfl _ _ HRB.out ?_)
                obtain ⟨g', rfl⟩ : ∃ g', gk = g' + 1 := ⟨gk - 1, by have := HGF.out; omega⟩
                go_roundg g'
                case measure => omega
                case rel => exact ⟨m1, acc ++ [(nm, [])], false, by omega, by first | rfl | (push_cast; rfl), rfl, by rw [← HNS.out, List.length_append]; exact HFIN.out, MB.out, by have := HGF.out; omega, by rw [List.length_append, List.length_cons, List.length_nil]; omega, HRES9.out⟩
    · have e0 : decide ((j : Int) < (s.size : Int)) = false := decide_eq_false (by omega)
      have e0n : decide (j < s.size) = false := decide_eq_false hlt
      have hjs : j = s.size := by omega
      have hN : o = none := by
        rw [← hres, hjs, show s.data.toList.drop s.size = [] from List.drop_eq_nil_of_le (Nat.le_refl _)]
        rfl
      subst hN
      clear hres hlt hjs
      go_wp2_with fail
      go_ret3
      exact ⟨rfl, HM.out⟩
def RTagD (s : ByteArray) (o : Option (Tk × List UInt8)) (w : World) (e : Ending) (w' : World) : Prop :=
  match o with
  | some (t, r) => ∃ av, e = .returned (.tuple #[.agg (tkV t.kind t.name t.text av (if t.self then 1 else 0) t.lo t.hi), .bool true]) ∧ Mv (fun _ => False) w w' ∧ RowP w' (fun g => w.heap.size ≤ g) 104 2 av t.attrs.length (attrCells t.attrs)
  | none => ∃ k n l a c z lo hi, e = .returned (.tuple #[.agg (tkV k n l (.slice a 0 c) z lo hi), .bool false]) ∧ Mv (fun _ => False) w w'
theorem rsmall_bs (l : List UInt8) (h : l.length ≤ 1000000) (w : World) : Calls Tryz.prog 112 #[.string (bs l)] w (RVal (.string (bs (l.map smallC))) w) := by
  have h2 := rSmall_any (bs l) (by rw [bs_size]; omega) w
  rw [bs_data] at h2
  exact h2
theorem rdecode_bs (l : List UInt8) (h : l.length ≤ 1000000) (w : World) : Calls Tryz.prog 68 #[.string (bs l)] w (RVal (.string (bs (decT l))) w) := rDecode_any (bs l) (by rw [bs_size]; omega) w
theorem any_snoc {l : List Part} {j : Nat} {q : Part} (h : l[j]? = some q) (f : Part → Bool) : (l.take (j + 1)).any f = ((l.take j).any f || f q) := by
  rw [List.take_add_one, h]; simp
theorem rTag_any (s : ByteArray) (k : Nat) (w : World) (hs : s.size ≤ 1000000) (h60 : s.data.toList[k]? = some 60) :
    Calls Tryz.prog 67 #[.string s, .int .i64 (k : Int)] w (RTagD s (tagL s.size (s.data.toList.drop k)) w) := by
  have HS6 := qh hs
  obtain ⟨o, ho⟩ : ∃ o, tagL s.size (s.data.toList.drop k) = o := ⟨_, rfl⟩
  rw [ho]
  have hks : k < s.size := (List.getElem?_eq_some_iff.1 h60).1
  have hdr := drop_at h60
  rw [hdr] at ho
  have hb := begins_any s ⟨#[60, 47]⟩ k (by omega) (by decide) (by decide) (by omega)
  have hpb : beginsL s.data.toList k (⟨#[60, 47]⟩ : ByteArray).data.toList = headP (· == 47) (s.data.toList.drop (k + 1)) := by
    have h1 : beginsL s.data.toList k (⟨#[60, 47]⟩ : ByteArray).data.toList = [60, 47].isPrefixOf (s.data.toList.drop k) := by rw [pre_begins]; rfl
    rw [h1, hdr]
    cases s.data.toList.drop (k + 1) with
    | nil => rfl
    | cons c q => show (true && ((47 : UInt8) == c && true)) = (c == 47); rw [Bool.true_and, Bool.and_true, Bool.eq_iff_iff, beq_iff_eq, beq_iff_eq]; exact eq_comm
  rw [hpb] at hb
  have HB := qh hb
  have HTL := qh (show (if headP letterB (tagR (60 :: s.data.toList.drop (k + 1))) then (if headP (· == 47) (s.data.toList.drop (k + 1)) then closeL s.size (60 :: s.data.toList.drop (k + 1)) else openL s.size (60 :: s.data.toList.drop (k + 1))) else none) = o from ho)
  have HLR : Hid (s.size - (60 :: s.data.toList.drop (k + 1)).length = k) := qh (by rw [← hdr, List.length_drop]; have : s.data.toList.length = s.size := rfl; omega)
  have hw1 : IntKind.i64.wrap ((k : Int) + 1) = (k : Int) + 1 := IntWalk.i64_in _ (by omega)
  have hw2 : IntKind.i64.wrap ((k : Int) + 2) = (k : Int) + 2 := IntWalk.i64_in _ (by omega)
  have xa := (Ext.refl w).alloc (.cells #[.int .i64 0, .string ⟨#[]⟩, .string ⟨#[]⟩, .slice none 0 0, .int .i64 0, .int .i64 0, .int .i64 0] 55)
  have hba := heap_alloc_new w (.cells #[.int .i64 0, .string ⟨#[]⟩, .string ⟨#[]⟩, .slice none 0 0, .int .i64 0, .int .i64 0, .int .i64 0] 55)
  clear hs ho hdr hb hpb h60
  go_enter Tryz.func67, Tryz.ntmps67
  go_upto_region 1 with fail
  obtain ⟨wa, hwa⟩ : ∃ w' : World, w' = w.alloc (.cells #[.int .i64 0, .string ⟨#[]⟩, .string ⟨#[]⟩, .slice none 0 0, .int .i64 0, .int .i64 0, .int .i64 0] 55) := ⟨_, rfl⟩
  have hsa : wa.heap.size = w.heap.size + 1 := by rw [hwa]; simp
  rw [← hwa] at xa hba ⊢
  have HSA := qh hsa
  clear hwa hsa
  have xb := xa.alloc (.cells #[.int .i64 2, .string ⟨#[]⟩, .string ⟨#[]⟩, .slice none 0 0, .int .i64 0, .int .i64 k, .int .i64 0] 55)
  have hbb := heap_alloc_new wa (.cells #[.int .i64 2, .string ⟨#[]⟩, .string ⟨#[]⟩, .slice none 0 0, .int .i64 0, .int .i64 k, .int .i64 0] 55)
  have hba2 := ((Ext.refl wa).alloc (.cells #[.int .i64 2, .string ⟨#[]⟩, .string ⟨#[]⟩, .slice none 0 0, .int .i64 0, .int .i64 k, .int .i64 0] 55)).block hba
  go_upto_region 2 with fail
  obtain ⟨wb, hwb⟩ : ∃ w' : World, w' = wa.alloc (.cells #[.int .i64 2, .string ⟨#[]⟩, .string ⟨#[]⟩, .slice none 0 0, .int .i64 0, .int .i64 k, .int .i64 0] 55) := ⟨_, rfl⟩
  rw [← hwb] at xb hbb hba2 ⊢
  clear hwb hba
  obtain ⟨br, hbr⟩ : ∃ b, w.heap.size = b := ⟨_, rfl⟩
  obtain ⟨bt, hbt⟩ : ∃ b, wa.heap.size = b := ⟨_, rfl⟩
  have hsa := HSA.out
  rw [hbr] at hba2 ⊢
  rw [hbt] at hbb ⊢
  have hnrt : br ≠ bt := by omega
  have hgr : w.heap.size ≤ br := by omega
  have hgt : w.heap.size ≤ bt := by omega
  have BR := qh hba2
  have BT := qh hbb
  have M0 := qh (Mv.ofExt (S := fun _ => False) xb)
  clear hsa hbr hbt xa xb hba2 hbb
  have hs6 := HS6.out
  cases hcb : headP (· == 47) (s.data.toList.drop (k + 1)) with
  | true =>
    rw [hcb] at HB HTL
    have HTR : Hid (tagR (60 :: s.data.toList.drop (k + 1)) = s.data.toList.drop (k + 2)) := qh (by
      have hc : closeB (60 :: s.data.toList.drop (k + 1)) = true := hcb
      unfold tagR
      rw [hc]
      rw [if_pos rfl, List.drop_succ_cons, List.drop_drop])
    have hk2 : k + 2 ≤ s.size := by
      have : s.data.toList.drop (k + 1) ≠ [] := by rintro e; rw [e] at hcb; cases hcb
      have h2 := List.length_pos_iff.2 this
      rw [List.length_drop] at h2
      have : s.data.toList.length = s.size := rfl
      omega
    clear hcb
    go_wp2_with (go_at_call 109; refine (HB.out _).mono ?_)
    rintro e w1 ⟨rfl, x1⟩
    have hb4 := x1.block BT.out
    have f4 := freeOf hb4 0
    have c4 := cellOf hb4 (i := 0) rfl
    have BTa := heap_setCell_same (i := 0) hb4 (.int .i64 3)
    have h4m := Mv.setCell (S := (· = bt)) (p := ⟨bt, 0, none⟩) (Mv.refl (· = bt) w1) (fun _ => rfl) (.int .i64 3)
    have BRa := h4m.block (x1.block BR.out) (show ¬ br = bt from hnrt)
    have M2 := Mv.setCell (p := ⟨bt, 0, none⟩) (M0.out.ext x1) (fun h => absurd h (by show ¬ bt < w.heap.size; omega)) (.int .i64 3)
    clear x1 hb4 h4m
    go_upto_region 5 with fail
    obtain ⟨w2, hw2⟩ : ∃ w' : World, w' = w1.setCell ⟨bt, 0, none⟩ (.int .i64 3) := ⟨_, rfl⟩
    rw [← hw2] at BTa BRa M2 ⊢
    clear hw2 f4 c4
    have BT2 := qh BTa
    have BR2 := qh BRa
    have M2 := qh M2
    clear BTa BRa
    by_cases hsz : k + 2 < s.size
    · obtain ⟨c2, hcl, -⟩ := at_idx s (k + 2) hsz
      have hix0 := idx_of s (k + 2) c2 hcl
      have hix : ∀ W : World, (Instr.index 9 (.string s) (.int .i64 ((k : Int) + 2))).run Tryz.prog W = .ok (.int .u8 (c2.toNat : Int)) W := fun W => by have h := hix0 W; push_cast at h; exact h
      have e0 : decide ((s.size : Int) ≤ (k : Int) + 2) = false := decide_eq_false (by omega)
      have HLET := qh (fun W => rLetter_any c2 W)
      have hhp : headP letterB (s.data.toList.drop (k + 2)) = letterB c2 := by rw [drop_at hcl]; rfl
      rw [HTR.out, hhp] at HTL
      clear hix0 hcl hhp hsz
      cases hlb : letterB c2 with
      | false =>
        rw [hlb] at HLET HTL
        have HN : Hid (o = none) := qh HTL.out.symm
        clear hlb
        go_wp2_with (go_at_call 110; refine (HLET.out _).mono ?_)
        rintro e w3 ⟨rfl, x3⟩
        have BRz := x3.block BR2.out
        have Mz := M2.out.ext x3
        clear x3
        have B2s := heap_setRow_same (vs := #[.int .i64 0, .string ⟨#[]⟩, .string ⟨#[]⟩, .slice none 0 0, .int .i64 0, .int .i64 0, .int .i64 0]) BRz
        have hlv := run_loadVar_row (P := Tryz.prog) _ br 55 55 _ (0, 0) _ B2s Tryz.underlying55 rfl (by kernel_rfl)
        have MZ := qh (Mv.setRow Mz (b := br) (fun h => absurd h (by omega)) #[.int .i64 0, .string ⟨#[]⟩, .string ⟨#[]⟩, .slice none 0 0, .int .i64 0, .int .i64 0, .int .i64 0])
        clear B2s Mz
        go_wp2_with (refine wpList_storeRow rfl rfl rfl rfl BRz sizeTok rfl (tkOne _ _ _ _ _ _ _ rfl rfl rfl rfl rfl rfl rfl) ?_)
        refine bodyPost_ret (v := .tuple #[.agg #[.int .i64 0, .string ⟨#[]⟩, .string ⟨#[]⟩, .slice none 0 0, .int .i64 0, .int .i64 0, .int .i64 0], .bool false]) (by simp [results, Tryz.results67, asAddr, hlv]) rfl ?_
        rw [HN.out]
        exact ⟨0, [], [], none, 0, 0, 0, 0, rfl, MZ.out⟩
      | true =>
        rw [hlb] at HLET HTL
        clear hlb
        obtain ⟨m1, SC1, D1, T1⟩ := scan_of alnumB s (k + 2) hk2
        have hm1 := SC1.le
        have hm1f := SC1.fit
        have HRN := qh (fun W => (rname_any s (k + 2) m1 HS6.out SC1 W : Calls Tryz.prog 111 #[.string s, .int .i64 (((k + 2) : Nat) : Int)] W (RVal (.int .i64 (m1 : Int)) W)))
        push_cast at HRN
        have HD1 := qh D1
        have hnl : ((s.data.toList.drop (k + 2)).takeWhile alnumB).length ≤ 1000000 := by
          have h1 := congrArg List.length (take_drop_while alnumB (s.data.toList.drop (k + 2)))
          rw [List.length_append, List.length_drop] at h1
          have : s.data.toList.length = s.size := rfl
          omega
        have HSM := qh (fun W => rsmall_bs ((s.data.toList.drop (k + 2)).takeWhile alnumB) hnl W)
        have HT1 := qh T1
        have htoN : ((k : Int) + 2).toNat = k + 2 := by omega
        generalize hE : s.extract (k + 2) m1 = E at HT1
        have HE := qh hE
        obtain ⟨nm, hnm⟩ : ∃ nm, ((s.data.toList.drop (k + 2)).takeWhile alnumB).map smallC = nm := ⟨_, rfl⟩
        rw [hnm] at HSM
        have HNM : Hid (tagN (60 :: s.data.toList.drop (k + 1)) = nm) := qh (by unfold tagN; rw [HTR.out]; exact hnm)
        have b1 : (0 : Int) ≤ (k : Int) + 2 := by omega
        have b2 : (k : Int) + 2 ≤ (m1 : Int) := by omega
        have b3 : (m1 : Int) ≤ (s.size : Int) := by omega
        clear D1 T1 hnl hnm SC1 hE
        go_wp2_with (go_at_call 110; refine (HLET.out _).mono ?_)
        rintro e w3 ⟨rfl, x3⟩
        have BT3 := qh (x3.block BT2.out)
        have BR3 := qh (x3.block BR2.out)
        have M3 := qh (M2.out.ext x3)
        clear x3 e0 hix
        go_wp2_with (go_at_call 111; refine (HRN.out _).mono ?_)
        rintro e w4 ⟨rfl, x4⟩
        have BT4 := qh (x4.block BT3.out)
        have BR4 := qh (x4.block BR3.out)
        have M4 := qh (M3.out.ext x4)
        clear x4
        go_wp2_with ((first | rw [HE.out, HT1.out] | rw [HT1.out]); go_at_call 112; refine (HSM.out _).mono ?_)
        rintro e w5 ⟨rfl, x5⟩
        have hb4 := x5.block BT4.out
        have f4 := freeOf hb4 1
        have c4 := cellOf hb4 (i := 1) rfl
        have BTc := heap_setCell_same (i := 1) hb4 (.string (bs nm))
        have h4m := Mv.setCell (S := (· = bt)) (p := ⟨bt, 1, none⟩) (Mv.refl (· = bt) w5) (fun _ => rfl) (.string (bs nm))
        have BRc := h4m.block (x5.block BR4.out) (show ¬ br = bt from hnrt)
        have M5 := Mv.setCell (p := ⟨bt, 1, none⟩) (M4.out.ext x5) (fun h => absurd h (by show ¬ bt < w.heap.size; omega)) (.string (bs nm))
        clear x5 hb4 h4m
        go_upto_region 10 with fail
        obtain ⟨w6, hw6⟩ : ∃ w' : World, w' = w5.setCell ⟨bt, 1, none⟩ (.string (bs nm)) := ⟨_, rfl⟩
        rw [← hw6] at BTc BRc M5 ⊢
        clear hw6 f4 c4
        have c40 := cellOf BTc (i := 0) (v := .int .i64 3) rfl
        have BT6 := qh BTc
        have BR6 := qh BRc
        have M6 := qh M5
        clear BTc BRc M5
        obtain ⟨m2, SC2, D2, -⟩ := scan_of (neB 62) s m1 hm1f
        have hm2 := SC2.le
        have hm2f := SC2.fit
        have SC2 := qh SC2
        have HD2 := qh D2
        clear D2
        go_upto_block 0 with fail
        go_cut [8] (fun ev wx => ev = .int .i64 (m2 : Int) ∧ Ext w6 wx)
        case first =>
         as_aux_lemma =>
          go_wp2_with fail
          go_loopw [8] (fun ev wr => ∃ i : Nat, m1 ≤ i ∧ i ≤ m2 ∧ ev = .int .i64 i ∧ Ext w6 wr) (fun ev _ => m2 - (intOf ev).toNat)
          case atStart => exact ⟨m1, Nat.le_refl _, SC2.out.le, by first | rfl | (push_cast; rfl), Ext.refl _⟩
          case round =>
            obtain ⟨i, hki, him, rfl, xr⟩ := hrel
            have XR := qh xr
            clear xr
            have hmf := SC2.out.fit
            have hs6 := HS6.out
            by_cases hsz : i < s.size
            · obtain ⟨d, hdl, -⟩ := at_idx s i hsz
              have hix := idx_of s i d hdl
              have ON := qh (fun h => SC2.out.on i d hki h hdl)
              have OFF := qh (fun (h : i = m2) => SC2.out.off d (h ▸ hdl))
              have e0 : decide ((i : Int) < (s.size : Int)) = true := decide_eq_true (by omega)
              have e0n : decide (i < s.size) = true := decide_eq_true hsz
              have hw1 : IntKind.i64.wrap ((i : Int) + 1) = (i : Int) + 1 := IntWalk.i64_in _ (by omega)
              clear hdl
              have fq : ((d.toNat : Int) != 62) = (d != 62) := u8_ne d 62
              cases hb : (d != 62) with
              | true =>
                rw [hb] at fq
                have hlt : i < m2 := by
                  rcases Nat.lt_or_ge i m2 with h | h
                  · exact h
                  · have h := OFF.out (by omega); simp [neB, hb] at h
                clear hb
                go_wp2_with fail
                go_roundw
                case rel => exact ⟨i + 1, by omega, by omega, by go_num, XR.out⟩
                case measure => simp [intOf]; omega
              | false =>
                rw [hb] at fq
                have hlt : i = m2 := by
                  rcases Nat.lt_or_ge i m2 with h | h
                  · have h := ON.out h; simp [neB, hb] at h
                  · omega
                subst hlt
                clear hb
                go_wp2_with fail
                go_meet
                exact ⟨rfl, XR.out⟩
            · have e0 : decide ((i : Int) < (s.size : Int)) = false := decide_eq_false (by omega)
              have e0n : decide (i < s.size) = false := decide_eq_false hsz
              have hlt : i = m2 := by omega
              subst hlt
              clear hsz
              go_wp2_with fail
              go_meet
              exact ⟨rfl, XR.out⟩
        case rest =>
         obtain ⟨rfl, xcut⟩ := hcut
         have hb4 := xcut.block BT6.out
         have f4 := freeOf hb4 6
         have c46 := cellOf hb4 (i := 6) (v := .int .i64 0) rfl
         have BTz := heap_setCell_same (i := 6) hb4 (.int .i64 ((m2 : Int) + 1))
         have h4m := Mv.setCell (S := (· = bt)) (p := ⟨bt, 6, none⟩) (Mv.refl (· = bt) wc) (fun _ => rfl) (.int .i64 ((m2 : Int) + 1))
         have BRz := h4m.block (xcut.block BR6.out) (show ¬ br = bt from hnrt)
         have Mz := Mv.setCell (p := ⟨bt, 6, none⟩) (M6.out.ext xcut) (fun h => absurd h (by show ¬ bt < w.heap.size; omega)) (.int .i64 ((m2 : Int) + 1))
         have hwm2 : IntKind.i64.wrap ((m2 : Int) + 1) = (m2 : Int) + 1 := IntWalk.i64_in _ (by omega)
         clear hb4 h4m xcut
         go_upto_region 14 with fail
         obtain ⟨w8, hw8⟩ : ∃ w' : World, w' = World.setCell wc ⟨bt, 6, none⟩ (.int .i64 ((m2 : Int) + 1)) := ⟨_, rfl⟩
         rw [← hw8] at BTz BRz Mz ⊢
         clear hw8 f4 c46
         have d0 := cellOf BTz (i := 0) (v := .int .i64 3) rfl
         have d1 := cellOf BTz (i := 1) (v := .string (bs nm)) rfl
         have d2 := cellOf BTz (i := 2) (v := .string ⟨#[]⟩) rfl
         have d3 := cellOf BTz (i := 3) (v := .slice none 0 0) rfl
         have d4 := cellOf BTz (i := 4) (v := .int .i64 0) rfl
         have d5 := cellOf BTz (i := 5) (v := .int .i64 k) rfl
         have d6 := cellOf BTz (i := 6) (v := .int .i64 ((m2 : Int) + 1)) rfl
         by_cases hend : m2 < s.size
         · obtain ⟨c3, hc3, -⟩ := at_idx s m2 hend
           have h62 : c3 = 62 := by have h := SC2.out.off c3 hc3; simpa [neB] using h
           have e1 : decide ((m2 : Int) < (s.size : Int)) = true := decide_eq_true (by omega)
           have e1n : decide (m2 < s.size) = true := decide_eq_true hend
           have HN : Hid (o = some (⟨3, nm, [], [], false, k, s.size - (s.data.toList.drop (m2 + 1)).length⟩, s.data.toList.drop (m2 + 1))) := qh (by
             have h : closeL s.size (60 :: s.data.toList.drop (k + 1)) = o := by simpa using HTL.out
             rw [← h]
             unfold closeL
             rw [HTR.out, HD1.out, HD2.out, drop_at hc3, HNM.out, HLR.out])
           have HHI : Hid (((s.size - (s.data.toList.drop (m2 + 1)).length : Nat) : Int) = (m2 : Int) + 1) := qh (by rw [List.length_drop]; have : s.data.toList.length = s.size := rfl; omega)
           clear hc3 h62 hend
           have B2s := heap_setRow_same (vs := #[.int .i64 3, .string (bs nm), .string ⟨#[]⟩, .slice none 0 0, .int .i64 0, .int .i64 k, .int .i64 ((m2 : Int) + 1)]) BRz
           have hlv := run_loadVar_row (P := Tryz.prog) _ br 55 55 _ (0, 0) _ B2s Tryz.underlying55 rfl (by kernel_rfl)
           have MZ := qh (Mv.setRow Mz (b := br) (fun h => absurd h (by omega)) #[.int .i64 3, .string (bs nm), .string ⟨#[]⟩, .slice none 0 0, .int .i64 0, .int .i64 k, .int .i64 ((m2 : Int) + 1)])
           clear B2s Mz
           go_wp2_with (refine wpList_storeRow rfl rfl rfl rfl BRz sizeTok rfl (tkOne _ _ _ _ _ _ _ rfl rfl rfl rfl rfl rfl rfl) ?_)
           refine bodyPost_ret (v := .tuple #[.agg #[.int .i64 3, .string (bs nm), .string ⟨#[]⟩, .slice none 0 0, .int .i64 0, .int .i64 k, .int .i64 ((m2 : Int) + 1)], .bool true]) (by simp [results, Tryz.results67, asAddr, hlv]) rfl ?_
           rw [HN.out]
           exact ⟨.slice none 0 0, by rw [HHI.out]; rfl, MZ.out, ⟨rfl, .inl ⟨rfl, none, rfl⟩⟩⟩
         · have e1 : decide ((m2 : Int) < (s.size : Int)) = false := decide_eq_false (by omega)
           have e1n : decide (m2 < s.size) = false := decide_eq_false hend
           have HN : Hid (o = none) := qh (by
             have h : closeL s.size (60 :: s.data.toList.drop (k + 1)) = o := by simpa using HTL.out
             rw [← h]
             unfold closeL
             rw [HTR.out, HD1.out, HD2.out, show s.data.toList.drop m2 = [] from List.drop_eq_nil_of_le (by have : s.data.toList.length = s.size := rfl; omega)])
           clear hend
           have B2s := heap_setRow_same (vs := #[.int .i64 3, .string (bs nm), .string ⟨#[]⟩, .slice none 0 0, .int .i64 0, .int .i64 k, .int .i64 ((m2 : Int) + 1)]) BRz
           have hlv := run_loadVar_row (P := Tryz.prog) _ br 55 55 _ (0, 0) _ B2s Tryz.underlying55 rfl (by kernel_rfl)
           have MZ := qh (Mv.setRow Mz (b := br) (fun h => absurd h (by omega)) #[.int .i64 3, .string (bs nm), .string ⟨#[]⟩, .slice none 0 0, .int .i64 0, .int .i64 k, .int .i64 ((m2 : Int) + 1)])
           clear B2s Mz
           go_wp2_with (refine wpList_storeRow rfl rfl rfl rfl BRz sizeTok rfl (tkOne _ _ _ _ _ _ _ rfl rfl rfl rfl rfl rfl rfl) ?_)
           refine bodyPost_ret (v := .tuple #[.agg #[.int .i64 3, .string (bs nm), .string ⟨#[]⟩, .slice none 0 0, .int .i64 0, .int .i64 k, .int .i64 ((m2 : Int) + 1)], .bool false]) (by simp [results, Tryz.results67, asAddr, hlv]) rfl ?_
           rw [HN.out]
           exact ⟨3, nm, [], none, 0, 0, k, _, rfl, MZ.out⟩
    · have e0 : decide ((s.size : Int) ≤ (k : Int) + 2) = true := decide_eq_true (by omega)
      have hnil : s.data.toList.drop (k + 2) = [] := List.drop_eq_nil_of_le (by have : s.data.toList.length = s.size := rfl; omega)
      have HN : Hid (o = none) := qh (by rw [← HTL.out, HTR.out, hnil]; rfl)
      have BRz := BR2.out
      have Mz := M2.out
      clear hnil hsz
      have B2s := heap_setRow_same (vs := #[.int .i64 0, .string ⟨#[]⟩, .string ⟨#[]⟩, .slice none 0 0, .int .i64 0, .int .i64 0, .int .i64 0]) BRz
      have hlv := run_loadVar_row (P := Tryz.prog) _ br 55 55 _ (0, 0) _ B2s Tryz.underlying55 rfl (by kernel_rfl)
      have MZ := qh (Mv.setRow Mz (b := br) (fun h => absurd h (by omega)) #[.int .i64 0, .string ⟨#[]⟩, .string ⟨#[]⟩, .slice none 0 0, .int .i64 0, .int .i64 0, .int .i64 0])
      clear B2s Mz
      go_wp2_with (refine wpList_storeRow rfl rfl rfl rfl BRz sizeTok rfl (tkOne _ _ _ _ _ _ _ rfl rfl rfl rfl rfl rfl rfl) ?_)
      refine bodyPost_ret (v := .tuple #[.agg #[.int .i64 0, .string ⟨#[]⟩, .string ⟨#[]⟩, .slice none 0 0, .int .i64 0, .int .i64 0, .int .i64 0], .bool false]) (by simp [results, Tryz.results67, asAddr, hlv]) rfl ?_
      rw [HN.out]
      exact ⟨0, [], [], none, 0, 0, 0, 0, rfl, MZ.out⟩
  | false =>
    rw [hcb] at HB HTL
    have HTR : Hid (tagR (60 :: s.data.toList.drop (k + 1)) = s.data.toList.drop (k + 1)) := qh (by
      have hc : closeB (60 :: s.data.toList.drop (k + 1)) = false := hcb
      unfold tagR
      rw [hc]
      rw [if_neg (by decide), List.drop_succ_cons, List.drop_zero])
    have hk2 : k + 1 ≤ s.size := by omega
    clear hcb
    go_wp2_with (go_at_call 109; refine (HB.out _).mono ?_)
    rintro e w1 ⟨rfl, x1⟩
    have BTa := x1.block BT.out
    have BRa := x1.block BR.out
    have M2 := M0.out.ext x1
    obtain ⟨w2, hw2⟩ : ∃ w' : World, w' = w1 := ⟨_, rfl⟩
    rw [← hw2] at BTa BRa M2 ⊢
    clear hw2 x1
    have BT2 := qh BTa
    have BR2 := qh BRa
    have M2 := qh M2
    clear BTa BRa
    by_cases hsz : k + 1 < s.size
    · obtain ⟨c2, hcl, -⟩ := at_idx s (k + 1) hsz
      have hix0 := idx_of s (k + 1) c2 hcl
      have hix : ∀ W : World, (Instr.index 9 (.string s) (.int .i64 ((k : Int) + 1))).run Tryz.prog W = .ok (.int .u8 (c2.toNat : Int)) W := fun W => by have h := hix0 W; push_cast at h; exact h
      have e0 : decide ((s.size : Int) ≤ (k : Int) + 1) = false := decide_eq_false (by omega)
      have HLET := qh (fun W => rLetter_any c2 W)
      have hhp : headP letterB (s.data.toList.drop (k + 1)) = letterB c2 := by rw [drop_at hcl]; rfl
      rw [HTR.out, hhp] at HTL
      clear hix0 hcl hhp hsz
      cases hlb : letterB c2 with
      | false =>
        rw [hlb] at HLET HTL
        have HN : Hid (o = none) := qh HTL.out.symm
        clear hlb
        go_wp2_with (go_at_call 110; refine (HLET.out _).mono ?_)
        rintro e w3 ⟨rfl, x3⟩
        have BRz := x3.block BR2.out
        have Mz := M2.out.ext x3
        clear x3
        have B2s := heap_setRow_same (vs := #[.int .i64 0, .string ⟨#[]⟩, .string ⟨#[]⟩, .slice none 0 0, .int .i64 0, .int .i64 0, .int .i64 0]) BRz
        have hlv := run_loadVar_row (P := Tryz.prog) _ br 55 55 _ (0, 0) _ B2s Tryz.underlying55 rfl (by kernel_rfl)
        have MZ := qh (Mv.setRow Mz (b := br) (fun h => absurd h (by omega)) #[.int .i64 0, .string ⟨#[]⟩, .string ⟨#[]⟩, .slice none 0 0, .int .i64 0, .int .i64 0, .int .i64 0])
        clear B2s Mz
        go_wp2_with (refine wpList_storeRow rfl rfl rfl rfl BRz sizeTok rfl (tkOne _ _ _ _ _ _ _ rfl rfl rfl rfl rfl rfl rfl) ?_)
        refine bodyPost_ret (v := .tuple #[.agg #[.int .i64 0, .string ⟨#[]⟩, .string ⟨#[]⟩, .slice none 0 0, .int .i64 0, .int .i64 0, .int .i64 0], .bool false]) (by simp [results, Tryz.results67, asAddr, hlv]) rfl ?_
        rw [HN.out]
        exact ⟨0, [], [], none, 0, 0, 0, 0, rfl, MZ.out⟩
      | true =>
        rw [hlb] at HLET HTL
        clear hlb
        obtain ⟨m1, SC1, D1, T1⟩ := scan_of alnumB s (k + 1) hk2
        have hm1 := SC1.le
        have hm1f := SC1.fit
        have HRN := qh (fun W => (rname_any s (k + 1) m1 HS6.out SC1 W : Calls Tryz.prog 111 #[.string s, .int .i64 (((k + 1) : Nat) : Int)] W (RVal (.int .i64 (m1 : Int)) W)))
        push_cast at HRN
        have HD1 := qh D1
        have hnl : ((s.data.toList.drop (k + 1)).takeWhile alnumB).length ≤ 1000000 := by
          have h1 := congrArg List.length (take_drop_while alnumB (s.data.toList.drop (k + 1)))
          rw [List.length_append, List.length_drop] at h1
          have : s.data.toList.length = s.size := rfl
          omega
        have HSM := qh (fun W => rsmall_bs ((s.data.toList.drop (k + 1)).takeWhile alnumB) hnl W)
        have HT1 := qh T1
        have htoN : ((k : Int) + 1).toNat = k + 1 := by omega
        generalize hE : s.extract (k + 1) m1 = E at HT1
        have HE := qh hE
        obtain ⟨nm, hnm⟩ : ∃ nm, ((s.data.toList.drop (k + 1)).takeWhile alnumB).map smallC = nm := ⟨_, rfl⟩
        rw [hnm] at HSM
        have HNM : Hid (tagN (60 :: s.data.toList.drop (k + 1)) = nm) := qh (by unfold tagN; rw [HTR.out]; exact hnm)
        have b1 : (0 : Int) ≤ (k : Int) + 1 := by omega
        have b2 : (k : Int) + 1 ≤ (m1 : Int) := by omega
        have b3 : (m1 : Int) ≤ (s.size : Int) := by omega
        clear D1 T1 hnl hnm SC1 hE
        go_wp2_with (go_at_call 110; refine (HLET.out _).mono ?_)
        rintro e w3 ⟨rfl, x3⟩
        have BT3 := qh (x3.block BT2.out)
        have BR3 := qh (x3.block BR2.out)
        have M3 := qh (M2.out.ext x3)
        clear x3 e0 hix
        go_wp2_with (go_at_call 111; refine (HRN.out _).mono ?_)
        rintro e w4 ⟨rfl, x4⟩
        have BT4 := qh (x4.block BT3.out)
        have BR4 := qh (x4.block BR3.out)
        have M4 := qh (M3.out.ext x4)
        clear x4
        go_wp2_with ((first | rw [HE.out, HT1.out] | rw [HT1.out]); go_at_call 112; refine (HSM.out _).mono ?_)
        rintro e w5 ⟨rfl, x5⟩
        have hb4 := x5.block BT4.out
        have f4 := freeOf hb4 1
        have c4 := cellOf hb4 (i := 1) rfl
        have BTc := heap_setCell_same (i := 1) hb4 (.string (bs nm))
        have h4m := Mv.setCell (S := (· = bt)) (p := ⟨bt, 1, none⟩) (Mv.refl (· = bt) w5) (fun _ => rfl) (.string (bs nm))
        have BRc := h4m.block (x5.block BR4.out) (show ¬ br = bt from hnrt)
        have M5 := Mv.setCell (p := ⟨bt, 1, none⟩) (M4.out.ext x5) (fun h => absurd h (by show ¬ bt < w.heap.size; omega)) (.string (bs nm))
        clear x5 hb4 h4m
        go_upto_region 10 with fail
        obtain ⟨w6, hw6⟩ : ∃ w' : World, w' = w5.setCell ⟨bt, 1, none⟩ (.string (bs nm)) := ⟨_, rfl⟩
        rw [← hw6] at BTc BRc M5 ⊢
        clear hw6 f4 c4
        have c40 := cellOf BTc (i := 0) (v := .int .i64 2) rfl
        have BT6 := qh BTc
        have BR6 := qh BRc
        have M6 := qh M5
        clear BTc BRc M5
        cases hpx : partsL (s.data.toList.drop m1) with
        | none =>
          have HN : Hid (o = none) := qh (by
            have h : openL s.size (60 :: s.data.toList.drop (k + 1)) = o := by simpa using HTL.out
            rw [← h]
            unfold openL
            rw [HTR.out, HD1.out, hpx]
            rfl)
          have HPT := qh (rparts_any s m1 w6 HS6.out hm1f)
          rw [hpx] at HPT
          clear hpx
          go_wp2_with (go_at_call 113; refine HPT.out.mono ?_)
          rintro e w7 ⟨rfl, m7⟩
          have BRz := m7.block BR6.out (fun h => h)
          have Mz := Mv.over M6.out m7 (fun x _ hx => hx)
          clear m7 c40
          have B2s := heap_setRow_same (vs := #[.int .i64 0, .string ⟨#[]⟩, .string ⟨#[]⟩, .slice none 0 0, .int .i64 0, .int .i64 0, .int .i64 0]) BRz
          have hlv := run_loadVar_row (P := Tryz.prog) _ br 55 55 _ (0, 0) _ B2s Tryz.underlying55 rfl (by kernel_rfl)
          have MZ := qh (Mv.setRow Mz (b := br) (fun h => absurd h (by omega)) #[.int .i64 0, .string ⟨#[]⟩, .string ⟨#[]⟩, .slice none 0 0, .int .i64 0, .int .i64 0, .int .i64 0])
          clear B2s Mz
          go_wp2_with (refine wpList_storeRow rfl rfl rfl rfl BRz sizeTok rfl (tkOne _ _ _ _ _ _ _ rfl rfl rfl rfl rfl rfl rfl) ?_)
          refine bodyPost_ret (v := .tuple #[.agg #[.int .i64 0, .string ⟨#[]⟩, .string ⟨#[]⟩, .slice none 0 0, .int .i64 0, .int .i64 0, .int .i64 0], .bool false]) (by simp [results, Tryz.results67, asAddr, hlv]) rfl ?_
          rw [HN.out]
          exact ⟨0, [], [], none, 0, 0, 0, 0, rfl, MZ.out⟩
        | some x =>
          obtain ⟨l, self, e5⟩ := x
          have hok := partsL_ok 1000000 (s.data.toList.drop m1) _ (by rw [List.length_drop]; have : s.data.toList.length = s.size := rfl; omega) hpx
          have hll : l.length ≤ 1000000 := by have h := hok.2; rw [List.length_drop] at h; have : s.data.toList.length = s.size := rfl; dsimp only at h; omega
          have HOK := qh hok.1
          have HPT := qh (rparts_any s m1 w6 HS6.out hm1f)
          rw [hpx] at HPT
          have HN : Hid (o = some (⟨2, nm, [], ownedL l, self, k, s.size - e5.length⟩, e5)) := qh (by
            have h : openL s.size (60 :: s.data.toList.drop (k + 1)) = o := by simpa using HTL.out
            rw [← h]
            unfold openL
            rw [HTR.out, HD1.out, hpx, HNM.out, HLR.out]
            rfl)
          clear hpx hok
          go_wp2_with (go_at_call 113; refine HPT.out.mono ?_)
          rintro e w7 ⟨lv, z, hz, rfl, m7, hrow7⟩
          have HZ := qh hz
          have hz0 : decide (z < 0) = false := decide_eq_false (by omega)
          obtain ⟨zs, hzs⟩ : ∃ y : Int, (if self then (1 : Int) else 0) = y := ⟨_, rfl⟩
          rw [hzs]
          have HZS := qh hzs
          have hb4 := m7.block BT6.out (fun h => h)
          have f4 := freeOf hb4 4
          have c44 := cellOf hb4 (i := 4) (v := .int .i64 0) rfl
          have c46 := cellOf hb4 (i := 6) (v := .int .i64 0) rfl
          have f6 := freeOf hb4 6
          have hbt6 := (Array.getElem?_eq_some_iff.1 BT6.out).1
          have BT7 := heap_setCell_same (i := 4) hb4 (.int .i64 zs)
          have BT8 := heap_setCell_same (i := 6) BT7 (.int .i64 z)
          have mA := Mv.setCell (S := (· = bt)) (p := ⟨bt, 4, none⟩) (Mv.refl (· = bt) w7) (fun _ => rfl) (.int .i64 zs)
          have mB := Mv.setCell (S := (· = bt)) (p := ⟨bt, 6, none⟩) mA (fun _ => rfl) (.int .i64 z)
          have BR8 := mB.block (m7.block BR6.out (fun h => h)) (show ¬ br = bt from hnrt)
          have M7 := Mv.over M6.out m7 (fun x _ hx => hx)
          have M8 := Mv.over M7 mB (fun x hx hb => by
            have hb' : x = bt := hb
            omega)
          have ROW8 := hrow7.mv mB (fun g hg => by have hg' : w6.heap.size ≤ g := hg; show ¬ g = bt; omega)
          clear hz hzs m7 hrow7 hb4 BT7 mA mB M7
          go_upto_region 19 with fail
          obtain ⟨w8, hw8⟩ : ∃ w' : World, w' = World.setCell (World.setCell w7 ⟨bt, 4, none⟩ (.int .i64 zs)) ⟨bt, 6, none⟩ (.int .i64 z) := ⟨_, rfl⟩
          rw [← hw8] at BT8 BR8 M8 ROW8 ⊢
          clear hw8 f4 f6 c44 c46 c40
          have BT9 : Hid (w8.heap[bt]? = some (.cells #[.int .i64 2, .string (bs nm), .string ⟨#[]⟩, .slice none 0 0, .int .i64 zs, .int .i64 k, .int .i64 z] 55 (0, 0))) := qh BT8
          have BR9 := qh BR8
          have M9 := qh M8
          obtain ⟨la, lcap, rfl, _⟩ := ROW8.rd.len_of
          have ROW9 := qh ROW8
          have hbt8 := (Array.getElem?_eq_some_iff.1 BT8).1
          have hbr8 := (Array.getElem?_eq_some_iff.1 BR8).1
          clear BT8 BR8 M8 ROW8
          go_wp2_with fail
          go_loopw [12, 13, 14, 15, 16] (fun iv _ _ _ _ wr => ∃ (i : Nat) (av : Value), i ≤ l.length ∧ iv = .int .i64 i ∧ Mv (· = bt) w8 wr ∧ wr.heap[bt]? = some (.cells #[.int .i64 2, .string (bs nm), .string ⟨#[]⟩, av, .int .i64 zs, .int .i64 k, .int .i64 z] 55 (0, 0)) ∧ RowP wr (fun g => w8.heap.size ≤ g) 104 2 av (ownedL (l.take i)).length (attrCells (ownedL (l.take i)))) (fun iv _ _ _ _ _ => l.length - (intOf iv).toNat)
          case atStart => exact ⟨0, _, Nat.zero_le _, rfl, Mv.refl _ _, BT9.out, ⟨rfl, .inl ⟨rfl, none, rfl⟩⟩⟩
          case round =>
            obtain ⟨i, av, hi, rfl, hm, hbt, hrow⟩ := hrel
            obtain ⟨oa, ocap, rfl, _⟩ := hrow.rd.len_of
            have HM := qh hm
            have HBT := qh hbt
            have HOUT := qh hrow
            have hll2 := hll
            clear hm hbt hrow
            by_cases hlt : i < l.length
            · obtain ⟨p, hp⟩ : ∃ p, l[i]? = some p := ⟨l[i], by simp [hlt]⟩
              have hpo := HOK.out p (List.mem_of_getElem? hp)
              cases la with
              | none =>
                obtain ⟨_, ao', cap', e, _, h0, _⟩ := ROW9.out.rd
                cases e
                exact absurd (h0 rfl).1 (by omega)
              | some a =>
                obtain ⟨bk, off, sp⟩ := a
                have hrr := (ROW9.out.mv HM.out (fun g hg => by have hg' : w6.heap.size ≤ g := hg; show ¬ g = bt; omega)).rd
                have HRR := qh hrr
                obtain ⟨q0, q1⟩ := RowRd.attr hrr (pb_cells hp)
                rw [add_later _ _ _ (by decide)] at q1
                have Q0 := qh q0
                have Q1 := qh q1
                have HP := qh hp
                have HNX := qh (owned_next hp)
                have HSP := qh (fun W => rsmall_bs p.1 hpo.1 W)
                have HDE := qh (fun W => rdecode_bs p.2 hpo.2 W)
                obtain ⟨b1, hb1⟩ : ∃ b, nameOk (bs (p.1.map smallC)) = b := ⟨_, rfl⟩
                obtain ⟨b2, hb2⟩ : ∃ b, valueOk (bs (decT p.2)) = b := ⟨_, rfl⟩
                obtain ⟨F, hF⟩ : ∃ F : Nat → Bool, ∀ j, F j = (l.take j).any fun q => decide (bs (q.1.map smallC) = bs (p.1.map smallC)) := ⟨_, fun _ => rfl⟩
                have F0 := qh (show F 0 = false by rw [hF]; rfl)
                have FS := qh (fun (j : Nat) (q : Part) (h : l[j]? = some q) => show F (j + 1) = (F j || decide (bs (q.1.map smallC) = bs (p.1.map smallC))) by rw [hF, hF, any_snoc h])
                have HNA : Hid (∀ W, Calls Tryz.prog 114 #[.string (bs (p.1.map smallC))] W (RBool b1 W)) := qh (fun W => by rw [← hb1]; exact r3Name_any _ W)
                have hdz : (bs (decT p.2)).size ≤ 1000000000000 := by
                  rw [bs_size]
                  have h1 := decL_len (anewB (bs p.2)).data.toList
                  have h2 : (anewB (bs p.2)).data.toList.length ≤ 4 * (bs p.2).size := anewB_size (bs p.2)
                  rw [bs_size] at h2
                  have h4 := hpo.2
                  unfold decT
                  omega
                have HVA : Hid (∀ W, Calls Tryz.prog 115 #[.string (bs (decT p.2))] W (RBool b2 W)) := qh (fun W => by rw [← hb2]; exact r3Value_any _ hdz W)
                rw [hb1, hb2, ← hF i] at HNX
                have e0 : decide ((i : Int) < (l.length : Int)) = true := decide_eq_true (by omega)
                have e0n : decide (i < l.length) = true := decide_eq_true hlt
                have i0 : (0 : Int) ≤ (i : Int) := by omega
                have i1 : (i : Int) < (l.length : Int) := by omega
                have itn : (i : Int).toNat = i := by omega
                clear hb1 hb2 hF hrr hp hpo hdz
                go_wp2_with (go_at_call 112; refine (HSP.out _).mono ?_)
                rintro e w10 ⟨rfl, x10⟩
                have X10 := qh x10
                clear x10 q0 q1
                go_wp2_with fail
                go_loopw [14, 15] (fun sv jv wj => ∃ j : Nat, j ≤ i ∧ jv = .int .i64 j ∧ sv = .bool (F j) ∧ Ext wr wj) (fun _ jv _ => i - (intOf jv).toNat)
                case atStart => exact ⟨0, Nat.zero_le _, rfl, by rw [F0.out], X10.out⟩
                case round =>
                  obtain ⟨j, hji, rfl, rfl, xj⟩ := hrel
                  have XJ := qh xj
                  clear xj
                  by_cases hjl : j < i
                  · obtain ⟨q, hq⟩ : ∃ q, l[j]? = some q := ⟨l[j], by rw [List.getElem?_eq_getElem (by omega)]⟩
                    have hqo := HOK.out q (List.mem_of_getElem? hq)
                    have HSQ := qh (fun W => rsmall_bs q.1 hqo.1 W)
                    have HFS := FS.out j q hq
                    obtain ⟨q0, q1⟩ := RowRd.attr (HRR.out.ext XJ.out) (pb_cells hq)
                    have g0 : decide ((j : Int) < (i : Int)) = true := decide_eq_true (by omega)
                    have g0n : decide (j < i) = true := decide_eq_true hjl
                    have j0 : (0 : Int) ≤ (j : Int) := by omega
                    have j1 : (j : Int) < (l.length : Int) := by omega
                    have jtn : (j : Int).toNat = j := by omega
                    obtain ⟨fj, hfj⟩ : ∃ b, F j = b := ⟨_, rfl⟩
                    rw [hfj] at HFS ⊢
                    clear hq hqo hfj q1
                    cases fj with
                    | true =>
                      have HT := qh (show F (j + 1) = true by rw [HFS]; rfl)
                      clear HFS q0
                      go_wp2_with fail
                      go_roundw
                      case rel => exact ⟨j + 1, by omega, by go_num, by rw [HT.out], XJ.out⟩
                      case measure => simp [intOf]; omega
                    | false =>
                      have hse := str_eq (bs (q.1.map smallC)) (bs (p.1.map smallC))
                      obtain ⟨d, hd⟩ : ∃ d, decide (bs (q.1.map smallC) = bs (p.1.map smallC)) = d := ⟨_, rfl⟩
                      have hse2 : (q.1.map smallC == p.1.map smallC) = d := by rw [← hd, Bool.eq_iff_iff, beq_iff_eq, decide_eq_true_eq, bs_inj]
                      rw [hd] at hse HFS
                      have HT := qh (show F (j + 1) = d by rw [HFS]; rfl)
                      clear HFS hd
                      go_wp2_with (go_at_call 112; refine (HSQ.out _).mono ?_)
                      rintro e w12 ⟨rfl, x12⟩
                      clear q0
                      go_wp2_with fail
                      go_roundw
                      case rel => exact ⟨j + 1, by omega, by go_num, by rw [HT.out], XJ.out.trans x12⟩
                      case measure => simp [intOf]; omega
                  · have hje : j = i := by omega
                    subst hje
                    have g0 : decide ((j : Int) < (j : Int)) = false := decide_eq_false (by omega)
                    have g0n : decide (j < j) = false := decide_eq_false hjl
                    have q0 := XJ.out.cells _ _ Q0.out
                    have q1 := XJ.out.cells _ _ Q1.out
                    obtain ⟨b3, hb3⟩ : ∃ b, F j = b := ⟨_, rfl⟩
                    rw [hb3] at HNX ⊢
                    clear hb3 hjl
                    go_wp2_with (go_at_call 68; refine (HDE.out _).mono ?_)
                    rintro e w11 ⟨rfl, x11⟩
                    have X11 := qh (XJ.out.trans x11)
                    clear x11 q0 q1
                    cases b3 with
                    | true =>
                      have XN := X11
                      go_wp2_with fail
                      go_roundw
                      case rel => exact ⟨j + 1, _, by omega, by go_num, HM.out.ext XN.out, XN.out.block HBT.out, by rw [HNX.out]; first | exact HOUT.out.ext XN.out | (simp only [Bool.false_and, Bool.true_and, Bool.and_true, Bool.and_false, Bool.not_true, Bool.not_false, Bool.false_eq_true, if_false, if_true, List.append_nil]; exact HOUT.out.ext XN.out)⟩
                      case measure => simp [intOf]; omega
                    | false =>
                      cases b1 with
                      | false =>
                        go_wp2_with (go_at_call 114; refine (HNA.out _).mono ?_)
                        rintro e w12 ⟨rfl, x12⟩
                        have XN := qh (X11.out.trans x12)
                        clear x12
                        go_wp2_with fail
                        go_roundw
                        case rel => exact ⟨j + 1, _, by omega, by go_num, HM.out.ext XN.out, XN.out.block HBT.out, by rw [HNX.out]; first | exact HOUT.out.ext XN.out | (simp only [Bool.false_and, Bool.true_and, Bool.and_true, Bool.and_false, Bool.not_true, Bool.not_false, Bool.false_eq_true, if_false, if_true, List.append_nil]; exact HOUT.out.ext XN.out)⟩
                        case measure => simp [intOf]; omega
                      | true =>
                        go_wp2_with (go_at_call 114; refine (HNA.out _).mono ?_)
                        rintro e w12 ⟨rfl, x12⟩
                        have X12 := qh (X11.out.trans x12)
                        clear x12
                        cases b2 with
                        | false =>
                          go_wp2_with (go_at_call 115; refine (HVA.out _).mono ?_)
                          rintro e w13 ⟨rfl, x13⟩
                          have XN := qh (X12.out.trans x13)
                          clear x13
                          go_wp2_with fail
                          go_roundw
                          case rel => exact ⟨j + 1, _, by omega, by go_num, HM.out.ext XN.out, XN.out.block HBT.out, by rw [HNX.out]; first | exact HOUT.out.ext XN.out | (simp only [Bool.false_and, Bool.true_and, Bool.and_true, Bool.and_false, Bool.not_true, Bool.not_false, Bool.false_eq_true, if_false, if_true, List.append_nil]; exact HOUT.out.ext XN.out)⟩
                          case measure => simp [intOf]; omega
                        | true =>
                          go_wp2_with (go_at_call 115; refine (HVA.out _).mono ?_)
                          rintro e wn ⟨rfl, x13⟩
                          have XN := qh (X12.out.trans x13)
                          clear x13
                          have HNX2 : Hid (ownedL (l.take (j + 1)) = ownedL (l.take j) ++ [(bs (p.1.map smallC), bs (decT p.2))]) := qh (by rw [HNX.out]; rfl)
                          obtain ⟨i0, hii, hz0', hz1, hz2⟩ := info_parts infoA
                          have hxa := (Ext.refl wn).alloc (.cells #[.string (bs (p.1.map smallC)), .string (bs (decT p.2))] 104)
                          have hrA := (HOUT.out.ext XN.out).ext hxa
                          have hna := heap_alloc_new wn (.cells #[.string (bs (p.1.map smallC)), .string (bs (decT p.2))] 104)
                          have hlen := ownedF_len (l.take j) []
                          have hlt2 : (l.take j).length ≤ 1000000 := by rw [List.length_take]; omega
                          have hlen2 : (ownedL (l.take j)).length ≤ 1000000 := Nat.le_trans hlen hlt2
                          obtain ⟨v', wB, row, hrunB, hrB, hgB, hrowB⟩ := run_append_row (P := Tryz.prog) (wn.alloc (.cells #[.string (bs (p.1.map smallC)), .string (bs (decT p.2))] 104)) 23 23 104 i0 _ 2 32 Tryz.underlying23 hii hz0' hz1 hz2 (by kernel_rfl) (by decide)
                            hrA ⟨wn.heap.size, 0, none⟩ 1 1 [.string (bs (p.1.map smallC)), .string (bs (decT p.2))] rfl (by
                              intro j u hj
                              rw [Addr.add_lit, Nat.zero_add]
                              exact cellOf hna (by simpa using hj)) (by intro u hu; simp at hu; rcases hu with rfl | rfl <;> rfl) (by decide) (by unfold maxLen; omega) (by omega)
                          have hbtW := (XN.out.trans hxa).block HBT.out
                          have hbtB := (Mv.grown (Mv.refl (fun x => row = some x) _) hgB (fun z hz _ => hz)).block hbtW (by
                            intro h
                            have h1 := hrowB bt h
                            have h2 : w8.heap.size ≤ bt := h1
                            omega)
                          have hwn := HM.out.size
                          have hxs := XN.out.size
                          have hal : (wn.alloc (.cells #[.string (bs (p.1.map smallC)), .string (bs (decT p.2))] 104)).heap.size = wn.heap.size + 1 := by simp
                          have hrC := RowP.imp hrB (q := fun g => w8.heap.size ≤ g) (by
                            intro g _ hg
                            rcases hg with h1 | h1
                            · exact h1
                            · omega)
                          have MB := ((HM.out.ext XN.out).ext hxa).grown hgB (by
                            intro z hz hlt
                            have h1 : w8.heap.size ≤ z := hrowB z hz
                            omega)
                          obtain ⟨a7, cap7, e7, _⟩ := hrC.rd.len_of
                          subst e7
                          have HRB := qh hrunB
                          have fB := freeOf hbtB 3
                          have cB := cellOf hbtB (i := 3) rfl
                          have d3 := cellOf (XN.out.block HBT.out) (i := 3) (v := .slice oa (ownedL (l.take j)).length ocap) rfl
                          have dA3 := cellOf hbtW (i := 3) (v := .slice oa (ownedL (l.take j)).length ocap) rfl
                          have FBT := qh (heap_setCell_same (i := 3) hbtB (.slice a7 ((ownedL (l.take j)).length + 1) cap7))
                          have mS := Mv.setCell (S := (· = bt)) (p := ⟨bt, 3, none⟩) (Mv.refl (· = bt) wB) (fun _ => rfl) (.slice a7 ((ownedL (l.take j)).length + 1) cap7)
                          have FROW := qh (hrC.mv mS (fun g hg => by have hg' : w8.heap.size ≤ g := hg; show ¬ g = bt; omega))
                          have FM := qh (Mv.setCell (p := ⟨bt, 3, none⟩) MB (fun _ => rfl) (.slice a7 ((ownedL (l.take j)).length + 1) cap7))
                          have HNS : Hid (attrCells (ownedL (l.take j)) ++ [.string (bs (p.1.map smallC)), .string (bs (decT p.2))] = attrCells (ownedL (l.take j) ++ [(bs (p.1.map smallC), bs (decT p.2))])) := qh (by rw [attrCells_snoc])
                          clear hrunB hrB hgB hrowB hii hz0' hz1 hz2 hxa hrA hna hlen hlt2 hbtW hbtB hwn hxs hal hrC MB mS
                          go_wp2_with (at_builtin; refine wpList_append_run _ rfl _ _ 23 rfl _ _ rfl rfl _ _ HRB.out ?_)
                          go_roundw
                          case rel => exact ⟨j + 1, _, by omega, by go_num, FM.out, FBT.out, by rw [HNX2.out]; have h := FROW.out; rw [HNS.out] at h; first | exact h | (simp only [List.length_append, List.length_cons, List.length_nil]; exact h)⟩
                          case measure => simp [intOf]; omega
            · have hie : i = l.length := by omega
              have e0 : decide ((i : Int) < (l.length : Int)) = false := decide_eq_false (by omega)
              have e0n : decide (i < l.length) = false := decide_eq_false hlt
              have HTA : Hid (ownedL (l.take i) = ownedL l) := qh (by rw [hie, List.take_length])
              have BTz := HBT.out
              have BRz := HM.out.block BR9.out (show ¬ br = bt from hnrt)
              have Mz := Mv.over M9.out HM.out (fun x hx hb => by
                have hb' : x = bt := hb
                omega)
              have FRW := qh ((RowP.imp HOUT.out (q := fun g => w8.heap.size ≤ g) (fun g _ hg => hg)).mv (Mv.setRow (S := (· = br)) (Mv.refl (· = br) wr) (fun _ => rfl) #[.int .i64 2, .string (bs nm), .string ⟨#[]⟩, .slice oa (ownedL (l.take i)).length ocap, .int .i64 zs, .int .i64 k, .int .i64 z]) (fun g hg => by have hg' : w8.heap.size ≤ g := hg; show ¬ g = br; omega))
              have h98 := M9.out.size
              have H98 := qh h98
              clear hie hlt h98
              have d0 := cellOf BTz (i := 0) (v := .int .i64 2) rfl
              have d1 := cellOf BTz (i := 1) (v := .string (bs nm)) rfl
              have d2 := cellOf BTz (i := 2) (v := .string ⟨#[]⟩) rfl
              have d3 := cellOf BTz (i := 3) (v := .slice oa (ownedL (l.take i)).length ocap) rfl
              have d4 := cellOf BTz (i := 4) (v := .int .i64 zs) rfl
              have d5 := cellOf BTz (i := 5) (v := .int .i64 k) rfl
              have d6 := cellOf BTz (i := 6) (v := .int .i64 z) rfl
              have B2s := heap_setRow_same (vs := #[.int .i64 2, .string (bs nm), .string ⟨#[]⟩, .slice oa (ownedL (l.take i)).length ocap, .int .i64 zs, .int .i64 k, .int .i64 z]) BRz
              have hlv := run_loadVar_row (P := Tryz.prog) _ br 55 55 _ (0, 0) _ B2s Tryz.underlying55 rfl (by kernel_rfl)
              have MZ := qh (Mv.setRow Mz (b := br) (fun h => absurd h (by omega)) #[.int .i64 2, .string (bs nm), .string ⟨#[]⟩, .slice oa (ownedL (l.take i)).length ocap, .int .i64 zs, .int .i64 k, .int .i64 z])
              clear B2s Mz
              go_wp2_with (refine wpList_storeRow rfl rfl rfl rfl BRz sizeTok rfl (tkOne _ _ _ _ _ _ _ rfl rfl rfl rfl rfl rfl rfl) ?_)
              refine bodyPost_ret (v := .tuple #[.agg #[.int .i64 2, .string (bs nm), .string ⟨#[]⟩, .slice oa (ownedL (l.take i)).length ocap, .int .i64 zs, .int .i64 k, .int .i64 z], .bool true]) (by simp [results, Tryz.results67, asAddr, hlv]) rfl ?_
              rw [HN.out]
              exact ⟨_, by rw [← HZS.out, HZ.out]; rfl, MZ.out, by show RowP _ _ _ _ _ (ownedL l).length (attrCells (ownedL l)); rw [← HTA.out]; exact RowP.imp FRW.out (fun g _ hg => Nat.le_trans H98.out hg)⟩
    · have e0 : decide ((s.size : Int) ≤ (k : Int) + 1) = true := decide_eq_true (by omega)
      have hnil : s.data.toList.drop (k + 1) = [] := List.drop_eq_nil_of_le (by have : s.data.toList.length = s.size := rfl; omega)
      have HN : Hid (o = none) := qh (by rw [← HTL.out, HTR.out, hnil]; rfl)
      have BRz := BR2.out
      have Mz := M2.out
      clear hnil hsz
      have B2s := heap_setRow_same (vs := #[.int .i64 0, .string ⟨#[]⟩, .string ⟨#[]⟩, .slice none 0 0, .int .i64 0, .int .i64 0, .int .i64 0]) BRz
      have hlv := run_loadVar_row (P := Tryz.prog) _ br 55 55 _ (0, 0) _ B2s Tryz.underlying55 rfl (by kernel_rfl)
      have MZ := qh (Mv.setRow Mz (b := br) (fun h => absurd h (by omega)) #[.int .i64 0, .string ⟨#[]⟩, .string ⟨#[]⟩, .slice none 0 0, .int .i64 0, .int .i64 0, .int .i64 0])
      clear B2s Mz
      go_wp2_with (refine wpList_storeRow rfl rfl rfl rfl BRz sizeTok rfl (tkOne _ _ _ _ _ _ _ rfl rfl rfl rfl rfl rfl rfl) ?_)
      refine bodyPost_ret (v := .tuple #[.agg #[.int .i64 0, .string ⟨#[]⟩, .string ⟨#[]⟩, .slice none 0 0, .int .i64 0, .int .i64 0, .int .i64 0], .bool false]) (by simp [results, Tryz.results67, asAddr, hlv]) rfl ?_
      rw [HN.out]
      exact ⟨0, [], [], none, 0, 0, 0, 0, rfl, MZ.out⟩
end Go.Proofs.YtalaajbajgdglaaGreatDoor
