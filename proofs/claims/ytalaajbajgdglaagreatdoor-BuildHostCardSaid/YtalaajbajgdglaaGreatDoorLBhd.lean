/- what of ZP Z1 Z2 Z3 BA BB BC BD BE BF BG BH BI BJ BK BL BM BN BO BP BQ BR NA NC NB ND NE NF BS BT ZY BV BW BY Z4 CA CB CC CD TA TB TC TD TE TF TG TK TH TI is leant on -/
import Derived.Test.YtalaajbajgdglaaGreatDoorLBhc
set_option linter.unusedVariables false
set_option linter.unusedSimpArgs false
set_option maxRecDepth 1000000
set_option maxHeartbeats 8000000
namespace Go.Proofs.YtalaajbajgdglaaGreatDoor
open Go Go.RowKit Go.BigFrame
theorem setCells_other (g : Nat) : ∀ (news : List Value) (o : Nat) (w : World) (b : Nat), b ≠ g → (w.setCells g o news).heap[b]? = w.heap[b]? := by
  intro news
  induction news with
  | nil => intro o w b hb; rfl
  | cons v r ih => intro o w b hb; exact (ih (o + 1) (w.setCell ⟨g, o, none⟩ v) b hb).trans (heap_setCell_other (p := ⟨g, o, none⟩) v hb)
def Oth (v v' : Value) (w w' : World) : Prop := ∀ g n c, v = .slice (some ⟨g, 0, none⟩) n c →
  (∀ b, b < w.heap.size → b ≠ g → w'.heap[b]? = w.heap[b]?) ∧ w.heap.size ≤ w'.heap.size ∧ ∀ g' n' c', v' = .slice (some ⟨g', 0, none⟩) n' c' → g' = g ∨ w.heap.size ≤ g'
theorem run_buf2 {W0 w : World} {v : Value} {l : List UInt8} (h : Buf W0 v l w) {tx : TypeId} {x : Value} {l2 : List UInt8} (ty : TypeId) (hs : Src Tryz.prog 1 tx x l2.length (Lib.byteCells l2) w) (hlen : l.length + l2.length ≤ 140737488355328) :
    ∃ v' w', (Builtin.append_ #[71, tx] ty #[v, x]).run Tryz.prog w = .ok v' w' ∧ Buf W0 v' (l ++ l2) w' ∧ Oth v v' w w' := by
  have hcells : ∀ g n cap, v = .slice (some ⟨g, 0, none⟩) n cap → ∀ j u, (Lib.byteCells l)[j]? = some u → w.cell? ((⟨g, 0, none⟩ : Addr).add j) = some u := fun g n cap hv => h.cells hv
  obtain ⟨v', w', hrun, hb⟩ := run_buf h ty hs hlen
  refine ⟨v', w', hrun, hb, ?_⟩
  obtain ⟨g, cap, cur, fz, rfl, h2, h3, h4, h5, h6, h7, h8, h9, h10⟩ := h
  obtain ⟨i0, hi, hz0, hz1, hz2⟩ := info_parts infoByte
  have hl2 : (Lib.byteCells l2).length = l2.length := Lib.byteCells_length l2
  have hl1 : (Lib.byteCells l).length = l.length := Lib.byteCells_length l
  have hlt : g < w.heap.size := (Array.getElem?_eq_some_iff.1 h3).1
  by_cases hroom : l.length + l2.length ≤ cap
  · have hr := run_append_room_src (P := Tryz.prog) (w := w) 71 tx ty 5 i0 Tryz.underlying71 hi g 0 l.length cap x l2.length (Lib.byteCells l2) (by rw [hz1]; exact hs) hroom
      (by
        intro j hj
        rw [hz1, Nat.zero_add, Nat.mul_one]
        have : l.length + j < cur.size := by omega
        rw [cellOf h3 (i := l.length + j) (v := cur[l.length + j]) (by simp [this])]; rfl)
      (by
        intro j hj
        rw [hz1, Nat.zero_add, Nat.mul_one]
        unfold World.frozen?
        simp only [h3]
        rcases h4 with h4 | h4 <;> simp <;> omega)
    rw [hz1, Nat.mul_one, Nat.zero_add] at hr
    rw [hr] at hrun
    injection hrun with e1 e2
    subst e1
    subst e2
    intro g0 n0 c0 e
    cases e
    exact ⟨fun b hb1 hb2 => setCells_other g _ _ _ _ hb2, by rw [size_sc]; exact Nat.le_refl _, fun g' n' c' e => by cases e; exact .inl rfl⟩
  · have hold : (Builtin.firstCells i0.size l.length (.slice (some ⟨g, 0, none⟩) l.length cap)).run Tryz.prog w.drew = .ok (Lib.byteCells l).toArray w.drew := by
      rw [hz1]
      exact run_firstCells_some w.drew 1 l.length ⟨g, 0, none⟩ l.length cap (Lib.byteCells l) (by omega) (by simpa using hcells g _ _ rfl)
    have hr := run_append_grow_src (P := Tryz.prog) (w := w) 71 tx ty 5 i0 (.int .u8 0) Tryz.underlying71 hi hz0 (some ⟨g, 0, none⟩) l.length cap (Lib.byteCells l) hold x l2.length (Lib.byteCells l2) (by rw [hz1]; exact hs) (by omega) (by omega) (by rw [hz2]; exact growslice_fits (by omega) (by omega))
    rw [hr] at hrun
    injection hrun with e1 e2
    subst e1
    subst e2
    intro g0 n0 c0 e
    cases e
    exact ⟨fun b hb1 hb2 => Below.block ((Ext.refl w).drew.alloc _) b hb1, Ext.size ((Ext.refl w).drew.alloc _), fun g' n' c' e => by cases e; exact .inr (Nat.le_refl _)⟩
section
variable {ops : Array Oper} {rest : List Oper} {o : Oper} {a : Act} {Q : Exit → Act → World → Prop}
theorem wpB_text2 {w : World} (hgd : o.guard = none) (sl x : Operand) (ho : o.op = .call { callee := .builtin .append, args := #[sl, x], argTypes := #[71, 9] })
    (v : Value) (l : List UInt8) (hs : a.eval sl = v) (W0 : World) (hb : Buf W0 v l w) (s : ByteArray) (hx : a.eval x = .string s) (hlen : l.length + s.size ≤ 140737488355328)
    (l' : List UInt8) (hl : l ++ s.data.toList = l') (h : ∀ v' w', Buf W0 v' l' w' → Oth v v' w w' → wpList Tryz.prog ops Q rest (a.put o.dst v') w') : wpList Tryz.prog ops Q (o :: rest) a w := by
  refine wpList_plain hgd fun K hK => ?_
  obtain ⟨v', w', hr, hb', ho'⟩ := run_buf2 hb (x := .string s) (l2 := s.data.toList) o.type (Src.ofString w Tryz.underlying9 s) hlen
  subst hl
  unfold Oper.wp execOp
  simp only [ho, resolve, invoke, builtin, Sem.run_bind, Sem.run_pure, Result.andThen_ok, List.map_toArray, List.map_cons, List.map_nil, hs, hx, hr]
  exact hK _ _ (h v' w' hb' ho')
end
def nmA : Array Value := #[.string ⟨#[38, 97, 109, 112, 59]⟩, .string ⟨#[38, 108, 116, 59]⟩, .string ⟨#[38, 103, 116, 59]⟩, .string ⟨#[38, 113, 117, 111, 116, 59]⟩, .string ⟨#[38, 97, 112, 111, 115, 59]⟩, .string ⟨#[38, 110, 98, 115, 112, 59]⟩]
def meA : Array Value := #[.string ⟨#[38]⟩, .string ⟨#[60]⟩, .string ⟨#[62]⟩, .string ⟨#[34]⟩, .string ⟨#[39]⟩, .string ⟨#[194, 160]⟩]
theorem namesR_at {n : Nat} (h : n < 6) : ∃ nm me, namesR[n]? = some (nm, me) ∧ nmA[n]? = some (.string (bs nm)) ∧ meA[n]? = some (.string (bs me)) ∧ 0 < nm.length ∧ nm.length ≤ 6 := by
  rcases (show n = 0 ∨ n = 1 ∨ n = 2 ∨ n = 3 ∨ n = 4 ∨ n = 5 by omega) with rfl | rfl | rfl | rfl | rfl | rfl
  · exact ⟨nm0, [38], rfl, rfl, rfl, by decide, by decide⟩
  · exact ⟨nm1, [60], rfl, rfl, rfl, by decide, by decide⟩
  · exact ⟨nm2, [62], rfl, rfl, rfl, by decide, by decide⟩
  · exact ⟨nm3, [34], rfl, rfl, rfl, by decide, by decide⟩
  · exact ⟨nm4, [39], rfl, rfl, rfl, by decide, by decide⟩
  · exact ⟨nm5, [194, 160], rfl, rfl, rfl, by decide, by decide⟩
theorem fold_snoc {r : List UInt8} {n : Nat} {p : List UInt8 × List UInt8} (h : namesR[n]? = some p) (z : List UInt8 × Nat) : (namesR.take (n + 1)).foldl (nameStep r) z = nameStep r ((namesR.take n).foldl (nameStep r) z) p := by
  obtain ⟨hn, e⟩ := List.getElem?_eq_some_iff.1 h
  rw [List.take_succ_eq_append_getElem hn, List.foldl_append, e]
  rfl
theorem named_len (r : List UInt8) : ∀ (l : List (List UInt8 × List UInt8)) (z : List UInt8 × Nat), (∀ p ∈ l, p.1.length ≤ 6) → z.2 ≤ 6 → (l.foldl (nameStep r) z).2 ≤ 6 := by
  intro l
  induction l with
  | nil => intro z _ h; exact h
  | cons p l ih =>
    intro z hp hz
    rw [List.foldl_cons]
    refine ih _ (fun q hq => hp q (by simp [hq])) ?_
    unfold nameStep
    split
    · exact hp p (by simp)
    · exact hz
theorem refN_bound (base most : Nat) (l : List UInt8) : refN base most l ≤ 1114111 := by
  unfold refN
  cases h : codeN base most l with
  | none => dsimp only; omega
  | some n =>
    dsimp only
    unfold codeN at h
    split at h
    · cases h
    · rw [Option.filter_eq_some_iff] at h
      have := of_decide_eq_true (show decide _ = true from h.2)
      omega
theorem scan_step {p : List UInt8} {j f : Nat} {c : UInt8} (h : p[j]? = some c) (hc : c ≠ 59) : scanE (f + 1) (p.drop j) = scanE f (p.drop (j + 1)) + 1 := by
  obtain ⟨hj, e⟩ := List.getElem?_eq_some_iff.1 h
  rw [List.drop_eq_getElem_cons hj, e, scanE, if_neg hc]
theorem scan_stop {p : List UInt8} {j f : Nat} (h : p[j]? = some 59) : scanE f (p.drop j) = 0 := by
  obtain ⟨hj, e⟩ := List.getElem?_eq_some_iff.1 h
  rw [List.drop_eq_getElem_cons hj, e]
  cases f <;> simp [scanE]
theorem scan_over {p : List UInt8} {j f : Nat} (h : p.length ≤ j) : scanE f (p.drop j) = 0 := by
  rw [List.drop_eq_nil_of_le h]
  cases f <;> rfl
theorem rDecode_any (s : ByteArray) (hs : s.size ≤ 10000000000) (w : World) : Calls Tryz.prog 68 #[.string s] w (RVal (.string (bs (decL (anewB s).data.toList))) w) := by
  have HA := qh (Anew_big s (by omega) w)
  have hts := anewB_size s
  obtain ⟨t, ht⟩ : ∃ t, anewB s = t := ⟨_, rfl⟩
  rw [ht] at HA hts ⊢
  obtain ⟨l, hl⟩ : ∃ l, t.data.toList = l := ⟨_, rfl⟩
  have hz : l.length = t.size := by rw [← hl]; rfl
  rw [hl]
  obtain ⟨out, ho⟩ : ∃ out, decL l = out := ⟨_, rfl⟩
  have hol : out.length ≤ 160000000000 := by
    have := decL_len l
    rw [ho] at this
    omega
  rw [ho]
  have HOL := qh hol
  have HO := qh ho
  have HLL := qh hl
  have HZ := qh hz
  have HTS := qh (show t.size ≤ 40000000000 by omega)
  clear ht hts hs ho hol hl hz
  go_enter Tryz.func68, Tryz.ntmps68
  go_wp2_with (go_at_call 65; refine HA.out.mono ?_)
  rintro e w1 ⟨rfl, x1⟩
  have X1 := qh x1
  have HB1 := qh (Buf.new w1)
  have XA := qh ((Ext.refl w1).alloc (.cells #[] 5))
  clear x1
  go_upto_region 3 with fail
  obtain ⟨wa, hwa⟩ : ∃ wa : World, wa = w1.alloc (.cells #[] 5) := ⟨_, rfl⟩
  rw [← hwa] at HB1 XA ⊢
  have hsz1 : w1.heap.size < wa.heap.size := by rw [hwa]; simp
  clear hwa
  have HNB := qh (heap_alloc_new wa (.cells nmA 9))
  have XB := qh ((Ext.refl wa).alloc (.cells nmA 9))
  go_upto_region 4 with fail
  obtain ⟨wb, hwb⟩ : ∃ wb : World, wb = wa.alloc (.cells nmA 9) := ⟨_, rfl⟩
  unfold nmA at hwb
  rw [← hwb]
  have HWB := qh hwb
  have hsz2 : wa.heap.size < wb.heap.size := by rw [hwb]; simp
  clear hwb
  have HMB := qh (heap_alloc_new wb (.cells meA 9))
  have XC := qh ((Ext.refl wb).alloc (.cells meA 9))
  go_upto_region 5 with fail
  obtain ⟨wc, hwc⟩ : ∃ wc : World, wc = wb.alloc (.cells meA 9) := ⟨_, rfl⟩
  unfold meA at hwc
  rw [← hwc]
  have HWC := qh hwc
  clear hwc
  obtain ⟨G0, hG0⟩ : ∃ g, w1.heap.size = g := ⟨_, rfl⟩
  obtain ⟨G1, hG1⟩ : ∃ g, wa.heap.size = g := ⟨_, rfl⟩
  obtain ⟨G2, hG2⟩ : ∃ g, wb.heap.size = g := ⟨_, rfl⟩
  have xb : Ext wa wb := by have h := XB.out; rw [HWB.out]; exact h
  have xc : Ext wb wc := by have h := XC.out; rw [HWC.out]; exact h
  have hnb : wb.heap[wa.heap.size]? = some (.cells nmA 9 (0, 0)) := by have h := HNB.out; rw [HWB.out]; exact h
  have hmb : wc.heap[wb.heap.size]? = some (.cells meA 9 (0, 0)) := by have h := HMB.out; rw [HWC.out]; exact h
  rw [hG1] at hnb
  rw [hG2] at hmb
  have HB3 : Hid (Buf w1 (.slice (some ⟨G0, 0, none⟩) 0 0) [] wc) := qh (by have h := HB1.out; rw [hG0] at h; exact (h.ext xb).ext xc)
  have HN3 := qh (xc.block hnb)
  have HM3 := qh hmb
  clear xb xc hnb hmb
  have HGG := qh (show G0 < G1 ∧ G1 < G2 by omega)
  clear HB1 XA HNB XB HMB XC HWB HWC
  rw [hG0, hG1, hG2]
  clear hG0 hG1 hG2 hsz1 hsz2
  go_wp2_with fail
  go_loopw [3, 6, 7, 8, 9, 10, 11] (fun ov i _ _ _ _ _ wr => ∃ (k : Nat) (acc : List UInt8), k ≤ t.size ∧ i = .int .i64 k ∧ (∃ g cap, ov = .slice (some ⟨g, 0, none⟩) acc.length cap ∧ g ≠ G1 ∧ g ≠ G2) ∧ Buf w1 ov acc wr ∧ acc ++ decL (l.drop k) = out ∧ wr.heap[G1]? = some (.cells nmA 9 (0, 0)) ∧ wr.heap[G2]? = some (.cells meA 9 (0, 0))) (fun _ i _ _ _ _ _ _ => t.size - (intOf i).toNat)
  case atStart => exact ⟨0, [], Nat.zero_le _, rfl, ⟨_, _, rfl, by have := HGG.out; omega, by have := HGG.out; omega⟩, HB3.out, by rw [List.drop_zero, HO.out]; rfl, HN3.out, HM3.out⟩
  case round =>
    obtain ⟨k, acc, hk, rfl, ⟨g, cap, rfl, hg1, hg2⟩, hb, hacc, hn, hm⟩ := hrel
    have HBR := qh hb
    have HACC := qh hacc
    have HN := qh hn
    have HM := qh hm
    have HG := qh (And.intro hg1 hg2)
    have HLA := qh (Nat.le_trans (pre_len hacc) HOL.out)
    have hts : t.size ≤ 40000000000 := HTS.out
    clear hb hacc hn hm hg1 hg2
    by_cases hlt : k < t.size
    · obtain ⟨c, q, hcq⟩ : ∃ c q, l.drop k = c :: q := ⟨_, _, List.drop_eq_getElem_cons (by have := HZ.out; omega)⟩
      have hcut : ∀ i j, t.extract i j = bs ((l.drop i).take (j - i)) := fun i j => by
        have h := bs_cut t.data.toList i j
        rw [bs_list, HLL.out] at h; exact h
      have HCUT := qh hcut
      have HCQ := qh hcq
      have hx0 : t.extract k (k + 1) = bs [c] := by rw [hcut, hcq, Nat.add_sub_cancel_left]; rfl
      have HX0 := qh hx0
      have hw1 : IntKind.i64.wrap ((k : Int) + 1) = (k : Int) + 1 := IntWalk.i64_in _ (by omega)
      have b0 : (0 : Int) ≤ (k : Int) := by omega
      have d0 : decide ((k : Int) < (t.size : Int)) = true := decide_eq_true (by omega)
      have d0n : decide (k < t.size) = true := decide_eq_true hlt
      have b1 : (k : Int) ≤ (k : Int) + 1 := by omega
      have b2 : (k : Int) + 1 ≤ (t.size : Int) := by omega
      have hkn : ((k : Int) + 1).toNat = k + 1 := by omega
      generalize hEx : t.extract k (k + 1) = Ex at HX0 hx0
      have HEX := qh hEx
      clear hcq hcut hx0
      go_wp2_with fail
      rw [HX0.out]
      go_loopw [7, 8, 9] (fun kv xv nv wi => ∃ (n : Nat) (p : List UInt8 × Nat), n ≤ 6 ∧ nv = .int .i64 n ∧ xv = .string (bs p.1) ∧ kv = .int .i64 p.2 ∧ p = (namesR.take n).foldl (nameStep (c :: q)) ([c], 1) ∧ Ext wr wi) (fun _ _ nv _ => 6 - (intOf nv).toNat)
      case atStart => exact ⟨0, _, Nat.zero_le _, rfl, rfl, rfl, rfl, Ext.refl _⟩
      case round =>
        obtain ⟨n, p, hn6, rfl, rfl, rfl, hp, xi⟩ := hrel
        have HP := qh hp
        have XI := qh xi
        by_cases hn : n < 6
        · obtain ⟨nm, me, e1, e2, e3, e4, e5⟩ := namesR_at hn
          have q1 := cellOf (xi.block HN.out) e2
          have q2 := cellOf (xi.block HM.out) e3
          have HBG := qh (fun W => begins_any t (bs nm) k (by omega) (by rw [bs_size]; exact e4) (by rw [bs_size]; omega) (by omega) W)
          have hbl : beginsL t.data.toList k (bs nm).data.toList = decide ((c :: q).take nm.length = nm) := by unfold beginsL; rw [HLL.out, HCQ.out, bs_data]
          rw [hbl] at HBG
          have HST := qh (fold_snoc (r := c :: q) e1 ([c], 1))
          have hnz : (bs nm).size = nm.length := bs_size nm
          have HNZ := qh hnz
          clear e1 e2 e3 hbl hp xi hnz
          obtain ⟨bn, hbn⟩ : ∃ b, bs nm = b := ⟨_, rfl⟩
          rw [hbn] at q1 HBG HNZ
          clear hbn
          by_cases hd : (c :: q).take nm.length = nm
          · rw [decide_eq_true hd] at HBG
            have HNS : Hid (nameStep (c :: q) p (nm, me) = (me, nm.length)) := qh (by unfold nameStep; rw [if_pos hd])
            clear hd
            go_wp2_with (go_at_call 109; refine (HBG.out _).mono ?_)
            rintro e w2 ⟨rfl, x2⟩
            have q1' := x2.cell q1
            have q2' := x2.cell q2
            have X2 := qh (XI.out.trans x2)
            clear x2 q1 q2
            go_wp2_with fail
            go_roundw
            case rel => exact ⟨n + 1, (me, nm.length), by omega, by go_num, rfl, by rw [← HNZ.out], by rw [HST.out, ← HP.out, HNS.out], X2.out⟩
            case measure => simp [intOf]; omega
          · rw [decide_eq_false hd] at HBG
            have HNS : Hid (nameStep (c :: q) p (nm, me) = p) := qh (by unfold nameStep; rw [if_neg hd])
            clear hd
            go_wp2_with (go_at_call 109; refine (HBG.out _).mono ?_)
            rintro e w2 ⟨rfl, x2⟩
            have X2 := qh (XI.out.trans x2)
            clear x2 q1 q2
            go_wp2_with fail
            go_roundw
            case rel => exact ⟨n + 1, p, by omega, by go_num, rfl, rfl, by rw [HST.out, ← HP.out, HNS.out], X2.out⟩
            case measure => simp [intOf]; omega
        · obtain rfl : n = 6 := by omega
          have hnr : p = namedR (c :: q) := hp
          have hp6 : p.2 ≤ 6 := by rw [hnr]; exact named_len _ _ _ (by decide) (by show 1 ≤ 6; omega)
          have HNR := qh hnr
          have HBG := qh (fun W => begins_any t ⟨#[38, 35]⟩ k (by omega) (by decide) (by decide) (by omega) W)
          have hbl : beginsL t.data.toList k (⟨#[38, 35]⟩ : ByteArray).data.toList = decide ((c :: q).take 2 = [38, 35]) := by unfold beginsL; rw [HLL.out, HCQ.out]; rfl
          rw [hbl] at HBG
          have hs1 := stepR_pos (c := c) q
          have hs2 := stepR_le c q
          have hs3 := stepR_len c q
          have hql : (c :: q).length = t.size - k := by rw [← HCQ.out, List.length_drop, HZ.out]
          have HSP := qh (And.intro hs1 (And.intro (hql ▸ hs2) hs3))
          have HSTEP : Hid (∀ x n, stepR (c :: q) = (x, n) → (acc ++ (bs x).data.toList) ++ decL (l.drop (k + n)) = out) := qh (by
            intro x n h
            have h1 := HACC.out
            rw [HCQ.out, decL_step, h] at h1
            rw [bs_data, ← h1, ← List.drop_drop, HCQ.out, List.append_assoc])
          have hql2 := hql
          clear hp xi hnr hbl hs1 hs2 hs3 hn
          by_cases h2 : (c :: q).take 2 = [38, 35]
          · rw [decide_eq_true h2] at HBG
            have HT2 := qh h2
            obtain ⟨pq, hpq⟩ : ∃ pq, (c :: q).drop 2 = pq := ⟨_, rfl⟩
            have hpl : pq.length + 2 = t.size - k := by
              have h3 := congrArg List.length h2
              rw [List.length_take] at h3
              rw [← hpq, List.length_drop, ← hql]
              simp only [List.length_cons, List.length_nil] at h3 ⊢
              omega
            have hpd : l.drop (k + 2) = pq := by rw [← List.drop_drop, HCQ.out, hpq]
            have hidx : ∀ j, j < pq.length → ∃ (h : k + 2 + j < t.size), pq[j]? = some (t[k + 2 + j]'h) := by
              intro j hj
              refine ⟨by omega, ?_⟩
              have hlen := HZ.out
              have e1 : l[k + 2 + j]? = pq[j]? := by rw [← hpd, List.getElem?_drop]
              rw [← e1]
              have e2 := HLL.out
              subst e2
              exact List.getElem?_eq_getElem _
            have HPQ := qh hpq
            have HPD := qh hpd
            have HIDX := qh hidx
            have hw2 : IntKind.i64.wrap ((k : Int) + 2) = (k : Int) + 2 := IntWalk.i64_in _ (by omega)
            have hw12 : IntKind.i64.wrap ((k : Int) + 12) = (k : Int) + 12 := IntWalk.i64_in _ (by omega)
            clear h2 hpq hpd hidx hql
            go_wp2_with (go_at_call 109; refine (HBG.out _).mono ?_)
            rintro e w2 ⟨rfl, x2⟩
            have X2 := qh (XI.out.trans x2)
            clear x2
            go_wp2_with fail
            go_loop [10] (fun ev => ∃ j : Nat, j ≤ 10 ∧ j ≤ pq.length ∧ ev = .int .i64 ((k + 2 + j : Nat) : Int) ∧ j + scanE (10 - j) (pq.drop j) = scanE 10 pq) (fun ev => t.size - (intOf ev).toNat)
            case atStart => exact ⟨0, Nat.zero_le _, Nat.zero_le _, by go_num, by simp⟩
            case round =>
              obtain ⟨j, hj10, hjl, rfl, hsc⟩ := hrel
              have HSC := qh hsc
              clear hsc
              obtain ⟨E, hE⟩ : ∃ E, k + 2 + j = E := ⟨_, rfl⟩
              have HE := qh hE
              have hEj : k + 2 + j = E := hE
              rw [hE]
              clear hE
              by_cases hgo : ∃ x, pq[j]? = some x ∧ x ≠ 59 ∧ j < 10
              · obtain ⟨x, hx, hx59, hj⟩ := hgo
                have hjl2 := (List.getElem?_eq_some_iff.1 hx).1
                obtain ⟨hE2, hE3⟩ := HIDX.out j hjl2
                rw [hx] at hE3
                have hxe : t[E]'(by omega) = x := by
                  have h5 := Option.some.inj hE3
                  rw [h5]
                  congr 1
                  exact hEj.symm
                have hElt : E < t.size := by omega
                have hix : ∀ W : World, (Instr.index 9 (.string t) (.int .i64 (E : Int))).run Tryz.prog W = .ok (.int .u8 (x.toNat : Int)) W := by
                  intro W
                  rw [run_index_string W 9 t .i64 (E : Int) Tryz.underlying9, dif_pos ⟨by omega, by omega⟩]
                  simp only [Int.toNat_natCast, hxe]
                have e59 : ((x.toNat : Int) != 59) = true := by rw [bne_iff_ne]; intro h; exact hx59 (UInt8.toNat_inj.1 (by have : (59 : UInt8).toNat = 59 := rfl; omega))
                have d1 : decide ((E : Int) < (t.size : Int)) = true := decide_eq_true (by omega)
                have d1n : decide (E < t.size) = true := decide_eq_true hElt
                have d2 : decide ((E : Int) < (k : Int) + 12) = true := decide_eq_true (by omega)
                have hwE : IntKind.i64.wrap ((E : Int) + 1) = (E : Int) + 1 := IntWalk.i64_in _ (by omega)
                have HS2 := qh (scan_step (f := 9 - j) hx hx59)
                clear hx hE3 hxe hx59
                go_wp2_with fail
                go_round
                case rel =>
                  refine ⟨j + 1, by omega, by omega, by have := hEj; rw [show k + 2 + (j + 1) = E + 1 by omega]; go_num, ?_⟩
                  rw [← HSC.out, show 10 - j = (9 - j) + 1 by omega, HS2.out, show 10 - (j + 1) = 9 - j by omega]
                  omega
                case measure => simp [intOf]; omega
              · have hm0 : scanE (10 - j) (pq.drop j) = 0 := by
                  by_cases hjl2 : j < pq.length
                  · obtain ⟨x, hx⟩ : ∃ x, pq[j]? = some x := ⟨_, List.getElem?_eq_getElem hjl2⟩
                    by_cases h59 : x = 59
                    · rw [h59] at hx; exact scan_stop hx
                    · have : ¬ j < 10 := fun h => hgo ⟨x, hx, h59, h⟩
                      rw [show 10 - j = 0 by omega, scanE]
                  · exact scan_over (by omega)
                have hmj : scanE 10 pq = j := by rw [← HSC.out, hm0]; omega
                have HMJ := qh hmj
                clear hm0 hmj
                by_cases hjl2 : j < pq.length
                · obtain ⟨hElt', hxE⟩ := HIDX.out j hjl2
                  have hElt : E < t.size := by omega
                  obtain ⟨x, hx⟩ : ∃ x, t[E]'hElt = x := ⟨_, rfl⟩
                  have hxj : pq[j]? = some x := by
                    rw [hxE, ← hx]
                    congr 2
                  have hix : ∀ W : World, (Instr.index 9 (.string t) (.int .i64 (E : Int))).run Tryz.prog W = .ok (.int .u8 (x.toNat : Int)) W := by
                    intro W
                    rw [run_index_string W 9 t .i64 (E : Int) Tryz.underlying9, dif_pos ⟨by omega, by omega⟩]
                    simp only [Int.toNat_natCast, hx]
                  have d1 : decide ((E : Int) < (t.size : Int)) = true := decide_eq_true (by omega)
                  have d1n : decide (E < t.size) = true := decide_eq_true hElt
                  by_cases h59 : x = 59
                  · have e59 : ((x.toNat : Int) != 59) = false := by rw [h59]; rfl
                    have e59b : ((x.toNat : Int) == 59) = true := by rw [h59]; rfl
                    rw [h59] at hxj
                    have hN10 : (t.extract (k + 2) E).data.toList = pq.take j := by rw [HCUT.out, bs_data, HPD.out]; congr 1; omega
                    have hNz : (t.extract (k + 2) E).size ≤ 1000000000000 := by
                      show (t.extract (k + 2) E).data.toList.length ≤ _
                      rw [hN10, List.length_take]; omega
                    have HN10 := qh (fun W => (hN10 ▸ number10_any (t.extract (k + 2) E) hNz W : Calls Tryz.prog 116 #[.string (t.extract (k + 2) E), .int .i64 10, .int .i64 7] W (RVal (.int .i64 (refN 10 7 (pq.take j))) W)))
                    generalize hE1 : t.extract (k + 2) E = E1 at HN10
                    have HE1 := qh hE1
                    have hpp : ∃ y, pq.head? = some y := by cases pq with | nil => simp at hjl2 | cons a b => exact ⟨a, rfl⟩
                    obtain ⟨y, hy⟩ := hpp
                    have hy0 : t[k + 2]'(by omega) = y := by
                      obtain ⟨h6, h7⟩ := HIDX.out 0 (by omega)
                      rw [← List.head?_eq_getElem?, hy] at h7
                      exact (Option.some.inj h7).symm
                    have hix2 : ∀ W : World, (Instr.index 9 (.string t) (.int .i64 ((k : Int) + 2))).run Tryz.prog W = .ok (.int .u8 (y.toNat : Int)) W := by
                      intro W
                      rw [run_index_string W 9 t .i64 ((k : Int) + 2) Tryz.underlying9, dif_pos ⟨by omega, by omega⟩]
                      simp only [show ((k : Int) + 2).toNat = k + 2 by omega, hy0]
                    have bA : (0 : Int) ≤ (k : Int) + 2 := by omega
                    have bB : (k : Int) + 2 ≤ (E : Int) := by omega
                    have bC : (E : Int) ≤ (t.size : Int) := by omega
                    have hk2 : ((k : Int) + 2).toNat = k + 2 := by omega
                    have HXJ := qh hxj
                    have HY := qh hy
                    have hwE : IntKind.i64.wrap ((E : Int) + 1) = (E : Int) + 1 := IntWalk.i64_in _ (by omega)
                    have hwEk : IntKind.i64.wrap ((E : Int) + 1 - (k : Int)) = ((j + 3 : Nat) : Int) := by rw [IntWalk.i64_in _ (by omega)]; omega
                    clear hxj hy hy0 hN10 hNz hx hxE h59 hgo
                    by_cases hxx : y = 120
                    · have e120 : ((y.toNat : Int) == 120) = true := by rw [hxx]; rfl
                      have hj1 : 1 ≤ j := by
                        rcases Nat.eq_zero_or_pos j with rfl | h
                        · have h6 := HXJ.out
                          rw [← List.head?_eq_getElem?, HY.out, hxx] at h6
                          cases h6
                        · exact h
                      have hN16 : (t.extract (k + 3) E).data.toList = (pq.drop 1).take (j - 1) := by
                        rw [HCUT.out, bs_data, ← HPD.out, List.drop_drop]; congr 1; omega
                      have hNz : (t.extract (k + 3) E).size ≤ 1000000000000 := by
                        show (t.extract (k + 3) E).data.toList.length ≤ _
                        rw [hN16, List.length_take, List.length_drop]; omega
                      have HN16 := qh (fun W => (hN16 ▸ number16_any (t.extract (k + 3) E) hNz W : Calls Tryz.prog 116 #[.string (t.extract (k + 3) E), .int .i64 16, .int .i64 6] W (RVal (.int .i64 (refN 16 6 ((pq.drop 1).take (j - 1)))) W)))
                      generalize hE2 : t.extract (k + 3) E = E2 at HN16
                      have HE2 := qh hE2
                      have hw3 : IntKind.i64.wrap ((k : Int) + 3) = (k : Int) + 3 := IntWalk.i64_in _ (by omega)
                      have bD : (0 : Int) ≤ (k : Int) + 3 := by omega
                      have bE : (k : Int) + 3 ≤ (E : Int) := by omega
                      have hk3 : ((k : Int) + 3).toNat = k + 3 := by omega
                      obtain ⟨z, hz⟩ : ∃ z, refN 16 6 ((pq.drop 1).take (j - 1)) = z := ⟨_, rfl⟩
                      rw [hz] at HN16
                      have hzn : numR pq j = z := by unfold numR; rw [if_pos (by rw [HY.out, hxx]), hz]
                      obtain ⟨z1, hz1⟩ : ∃ z, refN 10 7 (pq.take j) = z := ⟨_, rfl⟩
                      rw [hz1] at HN10
                      have HZN := qh hzn
                      have hzb := refN_bound 16 6 ((pq.drop 1).take (j - 1))
                      rw [hz] at hzb
                      clear hz hzn hz1 hxx hN16 hNz
                      go_wp2_with (go_at_call 116; refine (HN10.out _).mono ?_)
                      rintro e w3 ⟨rfl, x3⟩
                      have X3 := qh (X2.out.trans x3)
                      clear x3
                      go_wp2_with (go_at_call 116; refine (HN16.out _).mono ?_)
                      rintro e w4 ⟨rfl, x4⟩
                      have X4 := qh (X3.out.trans x4)
                      clear x4
                      by_cases hz0 : 0 < z
                      · obtain ⟨zn, rfl⟩ : ∃ zn : Nat, z = (zn : Int) := ⟨z.toNat, by omega⟩
                        have hz0d : decide ((0 : Int) < (zn : Int)) = true := decide_eq_true hz0
                        have hz0n : decide (0 < zn) = true := decide_eq_true (by omega)
                        have HST : Hid (stepR (c :: q) = ((Utf8.encode (zn : Int)).data.toList, j + 3)) := qh (by
                          unfold stepR
                          rw [HPQ.out, HMJ.out, HZN.out, if_pos ⟨HT2.out, HXJ.out, hz0⟩])
                        have hcv1 : ∀ W : World, (Go.convert 3 21 (.int .i64 (zn : Int))).run Tryz.prog W = .ok (.int .i32 (zn : Int)) W := by
                          intro W
                          have : IntKind.i32.wrap (zn : Int) = (zn : Int) := IntWalk.i32_in _ (by omega)
                          simp [convert, run_underlying Tryz.underlying3, run_underlying Tryz.underlying21, Conv.intToInt, this]
                        have hcv : ∀ W : World, (Go.convert 21 9 (.int .i32 (zn : Int))).run Tryz.prog W = .ok (.string (bs (Utf8.encode (zn : Int)).data.toList)) W := by
                          intro W
                          rw [bs_list]
                          simp [convert, run_underlying Tryz.underlying21, run_underlying Tryz.underlying9, Conv.intToString]
                        obtain ⟨x9, hx9⟩ : ∃ x, (Utf8.encode (zn : Int)).data.toList = x := ⟨_, rfl⟩
                        obtain ⟨n9, hn9⟩ : ∃ n, j + 3 = n := ⟨_, rfl⟩
                        rw [hx9, hn9] at HST
                        rw [hx9] at hcv
                        rw [hn9] at hwEk
                        clear hx9 hn9 hp6 hz0 HNR
                        have HSPP := HSP.out
                        rw [HST.out] at HSPP
                        dsimp only at HSPP
                        have HNX := qh (HSTEP.out x9 n9 HST.out)
                        have hp1 : 1 ≤ n9 := HSPP.1
                        have hp2 : n9 ≤ t.size - k := HSPP.2.1
                        have HX4 := qh HSPP.2.2
                        clear HSPP
                        obtain ⟨acc2, ha2⟩ : ∃ a, acc ++ (bs x9).data.toList = a := ⟨_, rfl⟩
                        rw [ha2] at HNX
                        have HA2 := qh ha2
                        have hlen : acc.length + (bs x9).size ≤ 140737488355328 := by rw [bs_size]; have := HLA.out; have := HX4.out; omega
                        have HLEN := qh hlen
                        have HB4 := qh (HBR.out.ext X4.out)
                        have HN4 := qh (X4.out.block HN.out)
                        have HM4 := qh (X4.out.block HM.out)
                        have hwn : IntKind.i64.wrap ((k : Int) + (n9 : Int)) = (k : Int) + (n9 : Int) := IntWalk.i64_in _ (by omega)
                        clear ha2 hlen
                        go_wp2_with (at_builtin; refine wpB_text2 rfl _ _ rfl (.slice (some ⟨g, 0, none⟩) acc.length cap) acc rfl w1 HB4.out (bs x9) rfl HLEN.out acc2 HA2.out ?_)
                        intro v' w' hb' ho'
                        obtain ⟨g', cap', _, _, rfl, _, _, _⟩ := hb'.at
                        obtain ⟨o1, o2, o3⟩ := ho' g acc.length cap rfl
                        have HO3 := qh (o3 g' _ _ rfl)
                        have HN5 := qh ((o1 G1 (Array.getElem?_eq_some_iff.1 HN4.out).1 (Ne.symm HG.out.1)).trans HN4.out)
                        have HM5 := qh ((o1 G2 (Array.getElem?_eq_some_iff.1 HM4.out).1 (Ne.symm HG.out.2)).trans HM4.out)
                        have HLT := qh (And.intro (Array.getElem?_eq_some_iff.1 HN4.out).1 (Array.getElem?_eq_some_iff.1 HM4.out).1)
                        have HB' := qh hb'
                        clear hb' ho' o1 o2 o3
                        go_wp2_with fail
                        go_roundw
                        case rel => exact ⟨k + n9, acc2, by omega, by first | rfl | go_num | (push_cast; rfl), ⟨g', cap', rfl, by have := HO3.out; have := HLT.out; have := HG.out; omega, by have := HO3.out; have := HLT.out; have := HG.out; omega⟩, HB'.out, HNX.out, HN5.out, HM5.out⟩
                        case measure => simp [intOf]; omega
                      · have hz0d : decide (0 < z) = false := decide_eq_false hz0
                        have HST : Hid (stepR (c :: q) = p) := qh (by
                          unfold stepR
                          rw [HPQ.out, HMJ.out, HZN.out, if_neg, ← HNR.out]
                          rintro ⟨_, _, h6⟩
                          exact hz0 h6)
                        clear hz0
                        obtain ⟨x9, n9⟩ := p
                        have HSPP := HSP.out
                        rw [HST.out] at HSPP
                        dsimp only at HSPP
                        have HNX := qh (HSTEP.out x9 n9 HST.out)
                        have hp1 : 1 ≤ n9 := HSPP.1
                        have hp2 : n9 ≤ t.size - k := HSPP.2.1
                        have HX4 := qh HSPP.2.2
                        clear HSPP
                        obtain ⟨acc2, ha2⟩ : ∃ a, acc ++ (bs x9).data.toList = a := ⟨_, rfl⟩
                        rw [ha2] at HNX
                        have HA2 := qh ha2
                        have hlen : acc.length + (bs x9).size ≤ 140737488355328 := by rw [bs_size]; have := HLA.out; have := HX4.out; omega
                        have HLEN := qh hlen
                        have HB4 := qh (HBR.out.ext X4.out)
                        have HN4 := qh (X4.out.block HN.out)
                        have HM4 := qh (X4.out.block HM.out)
                        have hwn : IntKind.i64.wrap ((k : Int) + (n9 : Int)) = (k : Int) + (n9 : Int) := IntWalk.i64_in _ (by omega)
                        clear ha2 hlen
                        go_wp2_with (at_builtin; refine wpB_text2 rfl _ _ rfl (.slice (some ⟨g, 0, none⟩) acc.length cap) acc rfl w1 HB4.out (bs x9) rfl HLEN.out acc2 HA2.out ?_)
                        intro v' w' hb' ho'
                        obtain ⟨g', cap', _, _, rfl, _, _, _⟩ := hb'.at
                        obtain ⟨o1, o2, o3⟩ := ho' g acc.length cap rfl
                        have HO3 := qh (o3 g' _ _ rfl)
                        have HN5 := qh ((o1 G1 (Array.getElem?_eq_some_iff.1 HN4.out).1 (Ne.symm HG.out.1)).trans HN4.out)
                        have HM5 := qh ((o1 G2 (Array.getElem?_eq_some_iff.1 HM4.out).1 (Ne.symm HG.out.2)).trans HM4.out)
                        have HLT := qh (And.intro (Array.getElem?_eq_some_iff.1 HN4.out).1 (Array.getElem?_eq_some_iff.1 HM4.out).1)
                        have HB' := qh hb'
                        clear hb' ho' o1 o2 o3
                        go_wp2_with fail
                        go_roundw
                        case rel => exact ⟨k + n9, acc2, by omega, by first | rfl | go_num | (push_cast; rfl), ⟨g', cap', rfl, by have := HO3.out; have := HLT.out; have := HG.out; omega, by have := HO3.out; have := HLT.out; have := HG.out; omega⟩, HB'.out, HNX.out, HN5.out, HM5.out⟩
                        case measure => simp [intOf]; omega
                    · have e120 : ((y.toNat : Int) == 120) = false := by rw [beq_eq_false_iff_ne]; intro h; exact hxx (UInt8.toNat_inj.1 (by have : (120 : UInt8).toNat = 120 := rfl; omega))
                      obtain ⟨z, hz⟩ : ∃ z, refN 10 7 (pq.take j) = z := ⟨_, rfl⟩
                      rw [hz] at HN10
                      have hzn : numR pq j = z := by unfold numR; rw [if_neg (by rw [HY.out]; intro h; exact hxx (Option.some.inj h)), hz]
                      have HZN := qh hzn
                      have hzb := refN_bound 10 7 (pq.take j)
                      rw [hz] at hzb
                      clear hz hzn hxx
                      go_wp2_with (go_at_call 116; refine (HN10.out _).mono ?_)
                      rintro e w4 ⟨rfl, x4⟩
                      have X4 := qh (X2.out.trans x4)
                      clear x4
                      by_cases hz0 : 0 < z
                      · obtain ⟨zn, rfl⟩ : ∃ zn : Nat, z = (zn : Int) := ⟨z.toNat, by omega⟩
                        have hz0d : decide ((0 : Int) < (zn : Int)) = true := decide_eq_true hz0
                        have hz0n : decide (0 < zn) = true := decide_eq_true (by omega)
                        have HST : Hid (stepR (c :: q) = ((Utf8.encode (zn : Int)).data.toList, j + 3)) := qh (by
                          unfold stepR
                          rw [HPQ.out, HMJ.out, HZN.out, if_pos ⟨HT2.out, HXJ.out, hz0⟩])
                        have hcv1 : ∀ W : World, (Go.convert 3 21 (.int .i64 (zn : Int))).run Tryz.prog W = .ok (.int .i32 (zn : Int)) W := by
                          intro W
                          have : IntKind.i32.wrap (zn : Int) = (zn : Int) := IntWalk.i32_in _ (by omega)
                          simp [convert, run_underlying Tryz.underlying3, run_underlying Tryz.underlying21, Conv.intToInt, this]
                        have hcv : ∀ W : World, (Go.convert 21 9 (.int .i32 (zn : Int))).run Tryz.prog W = .ok (.string (bs (Utf8.encode (zn : Int)).data.toList)) W := by
                          intro W
                          rw [bs_list]
                          simp [convert, run_underlying Tryz.underlying21, run_underlying Tryz.underlying9, Conv.intToString]
                        obtain ⟨x9, hx9⟩ : ∃ x, (Utf8.encode (zn : Int)).data.toList = x := ⟨_, rfl⟩
                        obtain ⟨n9, hn9⟩ : ∃ n, j + 3 = n := ⟨_, rfl⟩
                        rw [hx9, hn9] at HST
                        rw [hx9] at hcv
                        rw [hn9] at hwEk
                        clear hx9 hn9 hp6 hz0 HNR
                        have HSPP := HSP.out
                        rw [HST.out] at HSPP
                        dsimp only at HSPP
                        have HNX := qh (HSTEP.out x9 n9 HST.out)
                        have hp1 : 1 ≤ n9 := HSPP.1
                        have hp2 : n9 ≤ t.size - k := HSPP.2.1
                        have HX4 := qh HSPP.2.2
                        clear HSPP
                        obtain ⟨acc2, ha2⟩ : ∃ a, acc ++ (bs x9).data.toList = a := ⟨_, rfl⟩
                        rw [ha2] at HNX
                        have HA2 := qh ha2
                        have hlen : acc.length + (bs x9).size ≤ 140737488355328 := by rw [bs_size]; have := HLA.out; have := HX4.out; omega
                        have HLEN := qh hlen
                        have HB4 := qh (HBR.out.ext X4.out)
                        have HN4 := qh (X4.out.block HN.out)
                        have HM4 := qh (X4.out.block HM.out)
                        have hwn : IntKind.i64.wrap ((k : Int) + (n9 : Int)) = (k : Int) + (n9 : Int) := IntWalk.i64_in _ (by omega)
                        clear ha2 hlen
                        go_wp2_with (at_builtin; refine wpB_text2 rfl _ _ rfl (.slice (some ⟨g, 0, none⟩) acc.length cap) acc rfl w1 HB4.out (bs x9) rfl HLEN.out acc2 HA2.out ?_)
                        intro v' w' hb' ho'
                        obtain ⟨g', cap', _, _, rfl, _, _, _⟩ := hb'.at
                        obtain ⟨o1, o2, o3⟩ := ho' g acc.length cap rfl
                        have HO3 := qh (o3 g' _ _ rfl)
                        have HN5 := qh ((o1 G1 (Array.getElem?_eq_some_iff.1 HN4.out).1 (Ne.symm HG.out.1)).trans HN4.out)
                        have HM5 := qh ((o1 G2 (Array.getElem?_eq_some_iff.1 HM4.out).1 (Ne.symm HG.out.2)).trans HM4.out)
                        have HLT := qh (And.intro (Array.getElem?_eq_some_iff.1 HN4.out).1 (Array.getElem?_eq_some_iff.1 HM4.out).1)
                        have HB' := qh hb'
                        clear hb' ho' o1 o2 o3
                        go_wp2_with fail
                        go_roundw
                        case rel => exact ⟨k + n9, acc2, by omega, by first | rfl | go_num | (push_cast; rfl), ⟨g', cap', rfl, by have := HO3.out; have := HLT.out; have := HG.out; omega, by have := HO3.out; have := HLT.out; have := HG.out; omega⟩, HB'.out, HNX.out, HN5.out, HM5.out⟩
                        case measure => simp [intOf]; omega
                      · have hz0d : decide (0 < z) = false := decide_eq_false hz0
                        have HST : Hid (stepR (c :: q) = p) := qh (by
                          unfold stepR
                          rw [HPQ.out, HMJ.out, HZN.out, if_neg, ← HNR.out]
                          rintro ⟨_, _, h6⟩
                          exact hz0 h6)
                        clear hz0
                        obtain ⟨x9, n9⟩ := p
                        have HSPP := HSP.out
                        rw [HST.out] at HSPP
                        dsimp only at HSPP
                        have HNX := qh (HSTEP.out x9 n9 HST.out)
                        have hp1 : 1 ≤ n9 := HSPP.1
                        have hp2 : n9 ≤ t.size - k := HSPP.2.1
                        have HX4 := qh HSPP.2.2
                        clear HSPP
                        obtain ⟨acc2, ha2⟩ : ∃ a, acc ++ (bs x9).data.toList = a := ⟨_, rfl⟩
                        rw [ha2] at HNX
                        have HA2 := qh ha2
                        have hlen : acc.length + (bs x9).size ≤ 140737488355328 := by rw [bs_size]; have := HLA.out; have := HX4.out; omega
                        have HLEN := qh hlen
                        have HB4 := qh (HBR.out.ext X4.out)
                        have HN4 := qh (X4.out.block HN.out)
                        have HM4 := qh (X4.out.block HM.out)
                        have hwn : IntKind.i64.wrap ((k : Int) + (n9 : Int)) = (k : Int) + (n9 : Int) := IntWalk.i64_in _ (by omega)
                        clear ha2 hlen
                        go_wp2_with (at_builtin; refine wpB_text2 rfl _ _ rfl (.slice (some ⟨g, 0, none⟩) acc.length cap) acc rfl w1 HB4.out (bs x9) rfl HLEN.out acc2 HA2.out ?_)
                        intro v' w' hb' ho'
                        obtain ⟨g', cap', _, _, rfl, _, _, _⟩ := hb'.at
                        obtain ⟨o1, o2, o3⟩ := ho' g acc.length cap rfl
                        have HO3 := qh (o3 g' _ _ rfl)
                        have HN5 := qh ((o1 G1 (Array.getElem?_eq_some_iff.1 HN4.out).1 (Ne.symm HG.out.1)).trans HN4.out)
                        have HM5 := qh ((o1 G2 (Array.getElem?_eq_some_iff.1 HM4.out).1 (Ne.symm HG.out.2)).trans HM4.out)
                        have HLT := qh (And.intro (Array.getElem?_eq_some_iff.1 HN4.out).1 (Array.getElem?_eq_some_iff.1 HM4.out).1)
                        have HB' := qh hb'
                        clear hb' ho' o1 o2 o3
                        go_wp2_with fail
                        go_roundw
                        case rel => exact ⟨k + n9, acc2, by omega, by first | rfl | go_num | (push_cast; rfl), ⟨g', cap', rfl, by have := HO3.out; have := HLT.out; have := HG.out; omega, by have := HO3.out; have := HLT.out; have := HG.out; omega⟩, HB'.out, HNX.out, HN5.out, HM5.out⟩
                        case measure => simp [intOf]; omega
                  · have e59 : ((x.toNat : Int) != 59) = true := by rw [bne_iff_ne]; intro h; exact h59 (UInt8.toNat_inj.1 (by have : (59 : UInt8).toNat = 59 := rfl; omega))
                    have e59b : ((x.toNat : Int) == 59) = false := by rw [beq_eq_false_iff_ne]; intro h; exact h59 (UInt8.toNat_inj.1 (by have : (59 : UInt8).toNat = 59 := rfl; omega))
                    have hj10' : j = 10 := by
                      rcases Nat.lt_or_ge j 10 with h | h
                      · exact absurd ⟨x, hxj, h59, h⟩ hgo
                      · omega
                    have d2 : decide ((E : Int) < (k : Int) + 12) = false := decide_eq_false (by omega)
                    have HST : Hid (stepR (c :: q) = p) := qh (by
                      unfold stepR
                      rw [HPQ.out, HMJ.out, if_neg, ← HNR.out]
                      rintro ⟨_, h6, _⟩
                      rw [hxj] at h6
                      exact h59 (Option.some.inj h6))
                    have X4 := X2
                    clear hxj hx hxE h59 hgo hj10'
                    obtain ⟨x9, n9⟩ := p
                    have HSPP := HSP.out
                    rw [HST.out] at HSPP
                    dsimp only at HSPP
                    have HNX := qh (HSTEP.out x9 n9 HST.out)
                    have hp1 : 1 ≤ n9 := HSPP.1
                    have hp2 : n9 ≤ t.size - k := HSPP.2.1
                    have HX4 := qh HSPP.2.2
                    clear HSPP
                    obtain ⟨acc2, ha2⟩ : ∃ a, acc ++ (bs x9).data.toList = a := ⟨_, rfl⟩
                    rw [ha2] at HNX
                    have HA2 := qh ha2
                    have hlen : acc.length + (bs x9).size ≤ 140737488355328 := by rw [bs_size]; have := HLA.out; have := HX4.out; omega
                    have HLEN := qh hlen
                    have HB4 := qh (HBR.out.ext X4.out)
                    have HN4 := qh (X4.out.block HN.out)
                    have HM4 := qh (X4.out.block HM.out)
                    have hwn : IntKind.i64.wrap ((k : Int) + (n9 : Int)) = (k : Int) + (n9 : Int) := IntWalk.i64_in _ (by omega)
                    clear ha2 hlen
                    go_wp2_with (at_builtin; refine wpB_text2 rfl _ _ rfl (.slice (some ⟨g, 0, none⟩) acc.length cap) acc rfl w1 HB4.out (bs x9) rfl HLEN.out acc2 HA2.out ?_)
                    intro v' w' hb' ho'
                    obtain ⟨g', cap', _, _, rfl, _, _, _⟩ := hb'.at
                    obtain ⟨o1, o2, o3⟩ := ho' g acc.length cap rfl
                    have HO3 := qh (o3 g' _ _ rfl)
                    have HN5 := qh ((o1 G1 (Array.getElem?_eq_some_iff.1 HN4.out).1 (Ne.symm HG.out.1)).trans HN4.out)
                    have HM5 := qh ((o1 G2 (Array.getElem?_eq_some_iff.1 HM4.out).1 (Ne.symm HG.out.2)).trans HM4.out)
                    have HLT := qh (And.intro (Array.getElem?_eq_some_iff.1 HN4.out).1 (Array.getElem?_eq_some_iff.1 HM4.out).1)
                    have HB' := qh hb'
                    clear hb' ho' o1 o2 o3
                    go_wp2_with fail
                    go_roundw
                    case rel => exact ⟨k + n9, acc2, by omega, by first | rfl | go_num | (push_cast; rfl), ⟨g', cap', rfl, by have := HO3.out; have := HLT.out; have := HG.out; omega, by have := HO3.out; have := HLT.out; have := HG.out; omega⟩, HB'.out, HNX.out, HN5.out, HM5.out⟩
                    case measure => simp [intOf]; omega
                · have d1 : decide ((E : Int) < (t.size : Int)) = false := decide_eq_false (by omega)
                  have d1n : decide (E < t.size) = false := decide_eq_false (by omega)
                  have HST : Hid (stepR (c :: q) = p) := qh (by
                    unfold stepR
                    rw [HPQ.out, HMJ.out, if_neg, ← HNR.out]
                    rintro ⟨_, h6, _⟩
                    exact hjl2 (List.getElem?_eq_some_iff.1 h6).1)
                  have X4 := X2
                  clear hgo
                  obtain ⟨x9, n9⟩ := p
                  have HSPP := HSP.out
                  rw [HST.out] at HSPP
                  dsimp only at HSPP
                  have HNX := qh (HSTEP.out x9 n9 HST.out)
                  have hp1 : 1 ≤ n9 := HSPP.1
                  have hp2 : n9 ≤ t.size - k := HSPP.2.1
                  have HX4 := qh HSPP.2.2
                  clear HSPP
                  obtain ⟨acc2, ha2⟩ : ∃ a, acc ++ (bs x9).data.toList = a := ⟨_, rfl⟩
                  rw [ha2] at HNX
                  have HA2 := qh ha2
                  have hlen : acc.length + (bs x9).size ≤ 140737488355328 := by rw [bs_size]; have := HLA.out; have := HX4.out; omega
                  have HLEN := qh hlen
                  have HB4 := qh (HBR.out.ext X4.out)
                  have HN4 := qh (X4.out.block HN.out)
                  have HM4 := qh (X4.out.block HM.out)
                  have hwn : IntKind.i64.wrap ((k : Int) + (n9 : Int)) = (k : Int) + (n9 : Int) := IntWalk.i64_in _ (by omega)
                  clear ha2 hlen
                  go_wp2_with (at_builtin; refine wpB_text2 rfl _ _ rfl (.slice (some ⟨g, 0, none⟩) acc.length cap) acc rfl w1 HB4.out (bs x9) rfl HLEN.out acc2 HA2.out ?_)
                  intro v' w' hb' ho'
                  obtain ⟨g', cap', _, _, rfl, _, _, _⟩ := hb'.at
                  obtain ⟨o1, o2, o3⟩ := ho' g acc.length cap rfl
                  have HO3 := qh (o3 g' _ _ rfl)
                  have HN5 := qh ((o1 G1 (Array.getElem?_eq_some_iff.1 HN4.out).1 (Ne.symm HG.out.1)).trans HN4.out)
                  have HM5 := qh ((o1 G2 (Array.getElem?_eq_some_iff.1 HM4.out).1 (Ne.symm HG.out.2)).trans HM4.out)
                  have HLT := qh (And.intro (Array.getElem?_eq_some_iff.1 HN4.out).1 (Array.getElem?_eq_some_iff.1 HM4.out).1)
                  have HB' := qh hb'
                  clear hb' ho' o1 o2 o3
                  go_wp2_with fail
                  go_roundw
                  case rel => exact ⟨k + n9, acc2, by omega, by first | rfl | go_num | (push_cast; rfl), ⟨g', cap', rfl, by have := HO3.out; have := HLT.out; have := HG.out; omega, by have := HO3.out; have := HLT.out; have := HG.out; omega⟩, HB'.out, HNX.out, HN5.out, HM5.out⟩
                  case measure => simp [intOf]; omega
          · rw [decide_eq_false h2] at HBG
            have HST : Hid (stepR (c :: q) = p) := qh (by
              unfold stepR
              rw [if_neg (fun h => h2 h.1), ← HNR.out])
            clear h2
            go_wp2_with (go_at_call 109; refine (HBG.out _).mono ?_)
            rintro e w2 ⟨rfl, x2⟩
            have X4 := qh (XI.out.trans x2)
            clear x2
            obtain ⟨x9, n9⟩ := p
            have HSPP := HSP.out
            rw [HST.out] at HSPP
            dsimp only at HSPP
            have HNX := qh (HSTEP.out x9 n9 HST.out)
            have hp1 : 1 ≤ n9 := HSPP.1
            have hp2 : n9 ≤ t.size - k := HSPP.2.1
            have HX4 := qh HSPP.2.2
            clear HSPP
            obtain ⟨acc2, ha2⟩ : ∃ a, acc ++ (bs x9).data.toList = a := ⟨_, rfl⟩
            rw [ha2] at HNX
            have HA2 := qh ha2
            have hlen : acc.length + (bs x9).size ≤ 140737488355328 := by rw [bs_size]; have := HLA.out; have := HX4.out; omega
            have HLEN := qh hlen
            have HB4 := qh (HBR.out.ext X4.out)
            have HN4 := qh (X4.out.block HN.out)
            have HM4 := qh (X4.out.block HM.out)
            have hwn : IntKind.i64.wrap ((k : Int) + (n9 : Int)) = (k : Int) + (n9 : Int) := IntWalk.i64_in _ (by omega)
            clear ha2 hlen
            go_wp2_with (at_builtin; refine wpB_text2 rfl _ _ rfl (.slice (some ⟨g, 0, none⟩) acc.length cap) acc rfl w1 HB4.out (bs x9) rfl HLEN.out acc2 HA2.out ?_)
            intro v' w' hb' ho'
            obtain ⟨g', cap', _, _, rfl, _, _, _⟩ := hb'.at
            obtain ⟨o1, o2, o3⟩ := ho' g acc.length cap rfl
            have HO3 := qh (o3 g' _ _ rfl)
            have HN5 := qh ((o1 G1 (Array.getElem?_eq_some_iff.1 HN4.out).1 (Ne.symm HG.out.1)).trans HN4.out)
            have HM5 := qh ((o1 G2 (Array.getElem?_eq_some_iff.1 HM4.out).1 (Ne.symm HG.out.2)).trans HM4.out)
            have HLT := qh (And.intro (Array.getElem?_eq_some_iff.1 HN4.out).1 (Array.getElem?_eq_some_iff.1 HM4.out).1)
            have HB' := qh hb'
            clear hb' ho' o1 o2 o3
            go_wp2_with fail
            go_roundw
            case rel => exact ⟨k + n9, acc2, by omega, by first | rfl | go_num | (push_cast; rfl), ⟨g', cap', rfl, by have := HO3.out; have := HLT.out; have := HG.out; omega, by have := HO3.out; have := HLT.out; have := HG.out; omega⟩, HB'.out, HNX.out, HN5.out, HM5.out⟩
            case measure => simp [intOf]; omega
    · obtain rfl : k = t.size := by omega
      have hfin : acc = out := by
        have h := HACC.out
        rw [List.drop_eq_nil_of_le (by have := HZ.out; omega), decL_nil, List.append_nil] at h
        exact h
      have HFIN := qh hfin
      have HCV := qh (show (Go.convert 71 9 (.slice (some ⟨g, 0, none⟩) acc.length cap)).run Tryz.prog wr = .ok (.string (bs out)) wr by have h := run_ofBytes HBR.out; rw [h, HFIN.out])
      clear hfin
      go_wp2_with fail
      rw [HCV.out]
      go_wp2_with fail
      go_ret
      exact ⟨rfl, X1.out.trans HBR.out.ex⟩
end Go.Proofs.YtalaajbajgdglaaGreatDoor
namespace Go.Proofs.YtalaajbajgdglaaGreatDoor
open Go
theorem suf_drop (p : UInt8 → Bool) (l : List UInt8) : l.dropWhile p <:+ l := List.dropWhile_suffix p
theorem take_drop_while (p : UInt8 → Bool) (l : List UInt8) : l.takeWhile p ++ l.dropWhile p = l := List.takeWhile_append_dropWhile
def findEnd (t : List UInt8) : List UInt8 → List UInt8
  | [] => []
  | c :: q => if t.isPrefixOf (c :: q) then (c :: q).drop t.length else findEnd t q
theorem findEnd_suf (t : List UInt8) : ∀ l, findEnd t l <:+ l := by
  intro l
  induction l with
  | nil => exact List.suffix_refl _
  | cons c q ih =>
    unfold findEnd
    split
    · exact List.drop_suffix _ _
    · exact ih.trans (List.suffix_cons _ _)
theorem findEnd_index {t : List UInt8} (ht : t ≠ []) : ∀ l, findEnd t l = if Lib.index l t < 0 then [] else l.drop ((Lib.index l t).toNat + t.length) := by
  intro l
  induction l with
  | nil =>
    have : t.isEmpty = false := by cases t; exact absurd rfl ht; rfl
    simp [findEnd]
  | cons c q ih =>
    unfold findEnd Lib.index
    by_cases hp : t.isPrefixOf (c :: q) = true
    · rw [if_pos hp, if_pos hp]; simp
    · rw [if_neg hp, if_neg hp, ih]
      have hge := Lib.index_ge q t
      by_cases h1 : Lib.index q t < 0
      · have e : Lib.index q t = -1 := by omega
        rw [e]
        rfl
      · have e : (Lib.index q t == -1) = false := by rw [beq_eq_false_iff_ne]; omega
        rw [if_neg h1, e, if_neg (by decide : ¬ (false = true)), if_neg (by omega)]
        obtain ⟨k, hk⟩ : ∃ k : Nat, Lib.index q t = (k : Int) := ⟨(Lib.index q t).toNat, by omega⟩
        rw [hk, show ((k : Int) + 1).toNat + t.length = ((k : Int).toNat + t.length) + 1 by omega, List.drop_succ_cons]
def noteL (r : List UInt8) : Option (List UInt8) :=
  if [60, 33, 45, 45].isPrefixOf r then some (findEnd [45, 45, 62] (r.drop 4))
  else if [60, 33].isPrefixOf r || [60, 63].isPrefixOf r then some (findEnd [62] (r.drop 2)) else none
theorem noteL_suf {r e : List UInt8} (h : noteL r = some e) : e <:+ r ∧ e.length < r.length := by
  unfold noteL at h
  split at h
  · rename_i hp
    cases h
    have h1 := findEnd_suf [45, 45, 62] (r.drop 4)
    have h2 := List.drop_suffix 4 r
    have h3 := (List.isPrefixOf_iff_prefix.1 hp).length_le
    refine ⟨h1.trans h2, ?_⟩
    have h4 := h1.length_le
    rw [List.length_drop] at h4
    simp only [List.length_cons, List.length_nil] at h3
    omega
  · split at h
    · rename_i hp
      cases h
      have h1 := findEnd_suf [62] (r.drop 2)
      have h2 := List.drop_suffix 2 r
      have h3 : 2 ≤ r.length := by
        rw [Bool.or_eq_true] at hp
        rcases hp with hp | hp
        · exact (List.isPrefixOf_iff_prefix.1 hp).length_le
        · exact (List.isPrefixOf_iff_prefix.1 hp).length_le
      refine ⟨h1.trans h2, ?_⟩
      have h4 := h1.length_le
      rw [List.length_drop] at h4
      omega
    · cases h
def gapB (c : UInt8) : Bool := blankB c || c == 47
def nmB (c : UInt8) : Bool := !blankB c && c != 47 && c != 62 && c != 61
def valB (c : UInt8) : Bool := !blankB c && c != 62
def neB (q c : UInt8) : Bool := c != q
def valueL (r : List UInt8) : Option (List UInt8 × List UInt8) :=
  match r.dropWhile blankB with
  | [] => some ([], [])
  | q :: r2 => if q = 34 ∨ q = 39 then (match r2.dropWhile (neB q) with
      | [] => none
      | _ :: r3 => some (r2.takeWhile (neB q), r3))
    else some ((q :: r2).takeWhile valB, (q :: r2).dropWhile valB)
theorem valueL_suf {r v e : List UInt8} (h : valueL r = some (v, e)) : e <:+ r := by
  unfold valueL at h
  have h0 := suf_drop blankB r
  split at h
  · cases h; exact List.nil_suffix
  · rename_i q r2 hr
    rw [hr] at h0
    split at h
    · split at h
      · cases h
      · rename_i c r3 h3
        cases h
        have h1 := suf_drop (neB q) r2
        rw [h3] at h1
        exact (List.suffix_cons c _).trans (h1.trans ((List.suffix_cons q r2).trans h0))
    · cases h
      exact (suf_drop valB (q :: r2)).trans h0
abbrev Part := List UInt8 × List UInt8
def partL (c : UInt8) (r2 : List UInt8) : Option (Part × List UInt8) :=
  let r3 := r2.dropWhile nmB
  match r3.dropWhile blankB with
  | 61 :: r5 => (valueL r5).map fun ve => ((c :: r2.takeWhile nmB, ve.1), ve.2)
  | _ => some ((c :: r2.takeWhile nmB, []), r3)
theorem partL_suf {c : UInt8} {r2 e : List UInt8} {p : Part} (h : partL c r2 = some (p, e)) : e <:+ r2 := by
  unfold partL at h
  dsimp only at h
  have h0 := suf_drop nmB r2
  have h1 := suf_drop blankB (r2.dropWhile nmB)
  split at h
  · rename_i r5 h5
    rw [h5] at h1
    cases hv : valueL r5 with
    | none => rw [hv] at h; cases h
    | some ve =>
      rw [hv] at h
      have := valueL_suf (v := ve.1) (e := ve.2) hv
      cases h
      exact this.trans ((List.suffix_cons 61 r5).trans (h1.trans h0))
  · cases h
    exact h0
def partsF : Nat → List UInt8 → Option (List Part × Bool × List UInt8)
  | 0, _ => none
  | f + 1, r => match r.dropWhile gapB with
    | [] => none
    | c :: r2 => if c = 62 then some ([], (r.takeWhile gapB).getLast? == some 47, r2) else match partL c r2 with
      | none => none
      | some (p, e) => (partsF f e).map fun x => (p :: x.1, x.2)
def partsL (r : List UInt8) : Option (List Part × Bool × List UInt8) := partsF (r.length + 1) r
theorem partsF_more : ∀ (f : Nat) (r : List UInt8), r.length < f → partsF f r = partsL r := by
  intro f
  induction f using Nat.strongRecOn with
  | ind f ih =>
    intro r hl
    obtain ⟨g, rfl⟩ : ∃ g, f = g + 1 := ⟨f - 1, by omega⟩
    unfold partsL partsF
    have h0 := (suf_drop gapB r).length_le
    split
    · rfl
    · rename_i c r2 hr
      split
      · rfl
      · split
        · rfl
        · rename_i p e hp
          have h1 := (partL_suf hp).length_le
          rw [hr] at h0
          simp only [List.length_cons] at h0
          rw [ih g (by omega) e (by omega)]
          rcases Nat.lt_or_ge r.length g with h | h
          · rw [ih r.length (by omega) e (by omega)]
          · rw [ih r.length (by omega) e (by omega)]
theorem partsL_eq (r : List UInt8) : partsL r = match r.dropWhile gapB with
    | [] => none
    | c :: r2 => if c = 62 then some ([], (r.takeWhile gapB).getLast? == some 47, r2) else match partL c r2 with
      | none => none
      | some (p, e) => (partsL e).map fun x => (p :: x.1, x.2) := by
  conv => lhs; unfold partsL partsF
  have h0 := (suf_drop gapB r).length_le
  split
  · rfl
  · rename_i c r2 hr
    split
    · rfl
    · split
      · rfl
      · rename_i p e hp
        have h1 := (partL_suf hp).length_le
        rw [hr] at h0
        simp only [List.length_cons] at h0
        rw [partsF_more _ e (by omega)]
theorem partsL_suf : ∀ (n : Nat) (r : List UInt8) (x : List Part × Bool × List UInt8), r.length ≤ n → partsL r = some x → (62 :: x.2.2) <:+ r := by
  intro n
  induction n with
  | zero =>
    intro r x hl h
    obtain rfl : r = [] := List.eq_nil_of_length_eq_zero (by omega)
    cases h
  | succ n ih =>
    intro r x hl h
    rw [partsL_eq] at h
    have h0 := suf_drop gapB r
    split at h
    · cases h
    · rename_i c r2 hr
      rw [hr] at h0
      split at h
      · rename_i hc
        cases h
        rw [← hc]
        exact h0
      · split at h
        · cases h
        · rename_i p e hp
          cases hx : partsL e with
          | none => rw [hx] at h; cases h
          | some y =>
            rw [hx] at h
            have h1 := partL_suf hp
            have h2 := h1.length_le
            have h3 := h0.length_le
            simp only [List.length_cons] at h3
            have h4 := ih e y (by omega) hx
            cases h
            exact h4.trans (h1.trans ((List.suffix_cons c r2).trans h0))
def partsS (self : Bool) (r : List UInt8) : Option (List Part × Bool × List UInt8) :=
  match r with
  | 62 :: e => some ([], self, e)
  | _ => partsL r
theorem partsS_false (r : List UInt8) : partsS false r = partsL r := by
  unfold partsS
  split
  · rename_i e
    rw [partsL_eq]
    rfl
  · rfl
theorem partsS_end (self : Bool) (e : List UInt8) : partsS self (62 :: e) = some ([], self, e) := rfl
theorem partsS_not {r : List UInt8} (h : ∀ e, r ≠ 62 :: e) (self : Bool) : partsS self r = partsL r := by
  unfold partsS
  split
  · exact absurd rfl (h _)
  · rfl
theorem partsS_gap {c : UInt8} (h : gapB c = true) (self : Bool) (r : List UInt8) : partsS self (c :: r) = partsS (c == 47) r := by
  have hc : c ≠ 62 := by rintro rfl; exact absurd h (by decide)
  rw [partsS_not (fun e he => hc (List.cons.inj he).1), partsL_eq, List.dropWhile_cons_of_pos h, List.takeWhile_cons_of_pos h]
  by_cases hr : ∃ e, r = 62 :: e
  · obtain ⟨e, rfl⟩ := hr
    have hd : List.dropWhile gapB (62 :: e) = 62 :: e := List.dropWhile_cons_of_neg (by decide)
    have ht : List.takeWhile gapB (62 :: e) = [] := List.takeWhile_cons_of_neg (by decide)
    rw [hd, ht, partsS_end]
    simp
  · have hne : ∀ e, r ≠ 62 :: e := fun e he => hr ⟨e, he⟩
    rw [partsS_not hne, partsL_eq r]
    cases hd : r.dropWhile gapB with
    | nil => rfl
    | cons d r2 =>
      dsimp only
      by_cases h62 : d = 62
      · rw [if_pos h62, if_pos h62]
        have hg : r.takeWhile gapB ≠ [] := by
          intro hg
          have := take_drop_while gapB r
          rw [hg, hd, h62] at this
          exact hne r2 this.symm
        obtain ⟨a, q, hq⟩ := List.exists_cons_of_ne_nil hg
        rw [hq]
        simp [List.getLast?_cons_cons]
      · rw [if_neg h62, if_neg h62]
theorem partsS_part {c : UInt8} (hg : gapB c = false) (hc : c ≠ 62) (self : Bool) (r : List UInt8) : partsS self (c :: r) = match partL c r with
    | none => none
    | some (p, e) => (partsL e).map fun x => (p :: x.1, x.2) := by
  have e1 : partsS self (c :: r) = partsL (c :: r) := by
    unfold partsS
    split
    · rename_i e he
      exact absurd (List.cons.inj he).1 hc
    · rfl
  rw [e1, partsL_eq, List.dropWhile_cons_of_neg (by simp [hg])]
  dsimp only
  rw [if_neg hc]
abbrev AttrB := ByteArray × ByteArray
def decT (l : List UInt8) : List UInt8 := decL (anewB (bs l)).data.toList
def ownedF : List (List UInt8) → List Part → List AttrB
  | _, [] => []
  | seen, (n, v) :: l => (if nameOk (bs (n.map smallC)) && valueOk (bs (decT v)) && !(seen.contains (n.map smallC)) then [(bs (n.map smallC), bs (decT v))] else []) ++ ownedF (seen ++ [n.map smallC]) l
def ownedL (l : List Part) : List AttrB := ownedF [] l
theorem ownedF_len : ∀ (l : List Part) (seen : List (List UInt8)), (ownedF seen l).length ≤ l.length := by
  intro l
  induction l with
  | nil => intro _; exact Nat.le_refl _
  | cons p l ih =>
    intro seen
    obtain ⟨n, v⟩ := p
    have := ih (seen ++ [n.map smallC])
    rw [ownedF, List.length_append, List.length_cons]
    split
    · simp only [List.length_cons, List.length_nil]; omega
    · simp only [List.length_nil]; omega
structure Tk where
  kind : Int
  name : List UInt8
  text : List UInt8
  attrs : List AttrB
  self : Bool
  lo : Nat
  hi : Nat
def headP (p : UInt8 → Bool) : List UInt8 → Bool
  | [] => false
  | c :: _ => p c
def closeB (r : List UInt8) : Bool := headP (· == 47) (r.drop 1)
def tagR (r : List UInt8) : List UInt8 := if closeB r then r.drop 2 else r.drop 1
def tagN (r : List UInt8) : List UInt8 := ((tagR r).takeWhile alnumB).map smallC
def closeL (N : Nat) (r : List UInt8) : Option (Tk × List UInt8) := match ((tagR r).dropWhile alnumB).dropWhile (neB 62) with
  | [] => none
  | _ :: e => some (⟨3, tagN r, [], [], false, N - r.length, N - e.length⟩, e)
def openL (N : Nat) (r : List UInt8) : Option (Tk × List UInt8) := (partsL ((tagR r).dropWhile alnumB)).map fun x => (⟨2, tagN r, [], ownedL x.1, x.2.1, N - r.length, N - x.2.2.length⟩, x.2.2)
def tagL (N : Nat) (r : List UInt8) : Option (Tk × List UInt8) := if headP letterB (tagR r) then (if closeB r then closeL N r else openL N r) else none
theorem tagR_suf (r : List UInt8) : tagR r <:+ r.drop 1 := by
  unfold tagR
  split
  · have : r.drop 2 = (r.drop 1).drop 1 := by rw [List.drop_drop]
    rw [this]; exact List.drop_suffix _ _
  · exact List.suffix_refl _
theorem neB_head {q c : UInt8} {l r : List UInt8} (h : l.dropWhile (neB q) = c :: r) : c = q := by
  have := List.head?_dropWhile_not (neB q) l
  rw [h] at this
  simpa [neB] using this
theorem tagL_suf {N : Nat} {r e : List UInt8} {t : Tk} (h : tagL N r = some (t, e)) : (62 :: e) <:+ r.drop 1 := by
  unfold tagL at h
  have h1 := (suf_drop alnumB (tagR r)).trans (tagR_suf r)
  by_cases h0 : headP letterB (tagR r) = true
  · rw [if_pos h0] at h
    by_cases hc : closeB r = true
    · rw [if_pos hc] at h
      unfold closeL at h
      have h4 := suf_drop (neB 62) ((tagR r).dropWhile alnumB)
      split at h
      · cases h
      · rename_i c e' he
        have hc := neB_head he
        subst hc
        cases h
        rw [he] at h4
        exact h4.trans h1
    · rw [if_neg hc] at h
      unfold openL at h
      cases hx : partsL ((tagR r).dropWhile alnumB) with
      | none => rw [hx] at h; cases h
      | some x =>
        rw [hx] at h
        have h2 := partsL_suf _ _ x (Nat.le_refl _) hx
        cases h
        exact h2.trans h1
  · rw [if_neg h0] at h
    cases h
theorem tagL_len {N : Nat} {r e : List UInt8} {t : Tk} (h : tagL N r = some (t, e)) : e <:+ r ∧ e.length < r.length := by
  have h1 := tagL_suf h
  have h2 := List.drop_suffix 1 r
  have h3 := h1.length_le
  simp only [List.length_cons, List.length_drop] at h3
  exact ⟨(List.suffix_cons 62 e).trans (h1.trans h2), by omega⟩
def flushT (raw : List UInt8) (a b : Nat) : List Tk := if raw = [] then [] else [⟨1, [], raw, [], false, a, b⟩]
def lexF (N : Nat) : Nat → List UInt8 → Nat → Nat → List UInt8 → List Tk
  | 0, raw, a, b, _ => flushT raw a b
  | f + 1, raw, a, b, [] => flushT raw a b
  | f + 1, raw, a, b, c :: q => if c = 60 then (match noteL (c :: q) with
      | some e => lexF N f raw a b e
      | none => match tagL N (c :: q) with
        | some (t, e) => flushT raw a b ++ t :: lexF N f [] a b e
        | none => lexF N f (raw ++ [c]) (if raw = [] then N - (q.length + 1) else a) (N - q.length) q)
    else lexF N f (raw ++ [c]) (if raw = [] then N - (q.length + 1) else a) (N - q.length) q
def lexL (N : Nat) (raw : List UInt8) (a b : Nat) (r : List UInt8) : List Tk := lexF N r.length raw a b r
theorem lexF_more (N : Nat) : ∀ (f : Nat) (raw : List UInt8) (a b : Nat) (r : List UInt8), r.length ≤ f → lexF N f raw a b r = lexL N raw a b r := by
  intro f
  induction f using Nat.strongRecOn with
  | ind f ih =>
    intro raw a b r hl
    unfold lexL
    cases r with
    | nil => cases f <;> rfl
    | cons c q =>
      simp only [List.length_cons] at hl ⊢
      obtain ⟨g, rfl⟩ : ∃ g, f = g + 1 := ⟨f - 1, by omega⟩
      unfold lexF
      have hq : ∀ raw' a' b', lexF N g raw' a' b' q = lexF N q.length raw' a' b' q := fun raw' a' b' => by
        rw [ih g (by omega) _ _ _ q (by omega)]; rfl
      have hs : ∀ raw' a' b' e, e.length ≤ q.length → lexF N g raw' a' b' e = lexF N q.length raw' a' b' e := fun raw' a' b' e he => by
        rw [ih g (by omega) _ _ _ e (by omega)]
        rcases Nat.lt_or_ge q.length (g + 1) with h | h
        · rw [ih q.length h _ _ _ e he]
        · omega
      split
      · split
        · rename_i e hn
          have := (noteL_suf hn).2
          simp only [List.length_cons] at this
          exact hs _ _ _ _ (by omega)
        · split
          · rename_i t e ht
            have := (tagL_len ht).2
            simp only [List.length_cons] at this
            rw [hs _ _ _ e (by omega)]
          · exact hq _ _ _
      · exact hq _ _ _
theorem lexL_nil (N : Nat) (raw : List UInt8) (a b : Nat) : lexL N raw a b [] = flushT raw a b := rfl
theorem lexL_char {N : Nat} {raw : List UInt8} {a b : Nat} {c : UInt8} {q : List UInt8} (h : c ≠ 60 ∨ noteL (c :: q) = none ∧ tagL N (c :: q) = none) :
    lexL N raw a b (c :: q) = lexL N (raw ++ [c]) (if raw = [] then N - (q.length + 1) else a) (N - q.length) q := by
  show lexF N (q.length + 1) raw a b (c :: q) = _
  unfold lexF
  rcases h with h | ⟨h1, h2⟩
  · rw [if_neg h]; rfl
  · rw [h1, h2]
    split <;> rfl
theorem lexL_note {N : Nat} {raw : List UInt8} {a b : Nat} {q e : List UInt8} (h : noteL (60 :: q) = some e) : lexL N raw a b (60 :: q) = lexL N raw a b e := by
  show lexF N (q.length + 1) raw a b (60 :: q) = _
  unfold lexF
  rw [h, if_pos rfl]
  have := (noteL_suf h).2
  simp only [List.length_cons] at this
  exact lexF_more N q.length raw a b e (by omega)
theorem lexL_tag {N : Nat} {raw : List UInt8} {a b : Nat} {q e : List UInt8} {t : Tk} (h : noteL (60 :: q) = none) (ht : tagL N (60 :: q) = some (t, e)) : lexL N raw a b (60 :: q) = flushT raw a b ++ t :: lexL N [] a b e := by
  show lexF N (q.length + 1) raw a b (60 :: q) = _
  unfold lexF
  rw [h, ht, if_pos rfl]
  have := (tagL_len ht).2
  simp only [List.length_cons] at this
  rw [← lexF_more N q.length [] a b e (by omega)]
theorem lexL_run {N : Nat} : ∀ (p : List UInt8) (raw : List UInt8) (a b : Nat) (r : List UInt8), p ≠ [] → (∀ c ∈ p, c ≠ 60) → lexL N raw a b (p ++ r) = lexL N (raw ++ p) (if raw = [] then N - (p ++ r).length else a) (N - r.length) r := by
  intro p
  induction p with
  | nil => intro _ _ _ _ h; exact absurd rfl h
  | cons c q ih =>
    intro raw a b r _ hc
    rw [List.cons_append, lexL_char (.inl (hc c (by simp)))]
    cases q with
    | nil => rfl
    | cons d q =>
      rw [ih _ _ _ _ (by simp) fun x hx => hc x (by simp [hx])]
      have hne : raw ++ [c] ≠ [] := by simp
      rw [if_neg hne]
      simp
def Tk.fin (t : Tk) : Tk := if t.kind = 1 then { t with text := decT t.text } else t
def tokens (l : List UInt8) : List Tk := (lexL l.length [] 0 0 l).map Tk.fin
end Go.Proofs.YtalaajbajgdglaaGreatDoor
namespace Go.Proofs.YtalaajbajgdglaaGreatDoor
open Go Go.RowKit Go.BigFrame
structure Mv (S : Nat → Prop) (w w' : World) : Prop where
  os : w'.os = w.os
  tape : w'.tape = w.tape
  output : w'.output = w.output
  size : w.heap.size ≤ w'.heap.size
  rest : ∀ b, b < w.heap.size → ¬ S b → w'.heap[b]? = w.heap[b]?
theorem Mv.ofExt {S : Nat → Prop} {w w' : World} (h : Ext w w') : Mv S w w' := ⟨Below.os h, Below.tape h, Below.output h, Ext.size h, fun b hb _ => Below.block h b hb⟩
theorem Mv.refl (S : Nat → Prop) (w : World) : Mv S w w := Mv.ofExt (Ext.refl w)
theorem Mv.trans {S : Nat → Prop} {a b c : World} (h : Mv S a b) (k : Mv S b c) : Mv S a c :=
  ⟨k.os.trans h.os, k.tape.trans h.tape, k.output.trans h.output, Nat.le_trans h.size k.size, fun x hx hn => (k.rest x (Nat.lt_of_lt_of_le hx h.size) hn).trans (h.rest x hx hn)⟩
theorem Mv.ext {S : Nat → Prop} {a b c : World} (h : Mv S a b) (k : Ext b c) : Mv S a c := h.trans (Mv.ofExt k)
theorem Mv.after {S : Nat → Prop} {a b c : World} (h : Ext a b) (k : Mv S b c) : Mv S a c := (Mv.ofExt h).trans k
theorem Mv.imp {S S' : Nat → Prop} {a b : World} (h : Mv S a b) (k : ∀ x, x < a.heap.size → S x → S' x) : Mv S' a b := ⟨h.os, h.tape, h.output, h.size, fun x hx hn => h.rest x hx fun hs => hn (k x hx hs)⟩
theorem Mv.block {S : Nat → Prop} {w w' : World} (h : Mv S w w') {b : Nat} {x : Obj} (hb : w.heap[b]? = some x) (hn : ¬ S b) : w'.heap[b]? = some x := (h.rest b (Array.getElem?_eq_some_iff.1 hb).1 hn).trans hb
theorem Mv.setCell {S : Nat → Prop} {a b : World} (h : Mv S a b) {p : Addr} (hp : p.block < a.heap.size → S p.block) (u : Value) : Mv S a (b.setCell p u) :=
  ⟨h.os, h.tape, h.output, by have := h.size; simpa [World.setCell] using this, fun x hx hn => by
    have hne : x ≠ p.block := fun e => hn (by rw [e]; exact hp (e ▸ hx))
    exact (heap_setCell_other u hne).trans (h.rest x hx hn)⟩
theorem Mv.setRb {rb o : Nat} {a b : World} (h : Mv (· = rb) a b) (u : Value) : Mv (· = rb) a (b.setCell ⟨rb, o, none⟩ u) := h.setCell (p := ⟨rb, o, none⟩) (fun _ => rfl) u
theorem Mv.toExt {S : Nat → Prop} {w0 w w' : World} (h0 : Ext w0 w) (h : Mv S w w') (hS : ∀ b, S b → w0.heap.size ≤ b) : Ext w0 w' :=
  ⟨h.os.trans (Below.os h0), h.tape.trans (Below.tape h0), h.output.trans (Below.output h0), Nat.le_trans (Ext.size h0) h.size,
   fun b hb => (h.rest b (Nat.lt_of_lt_of_le hb (Ext.size h0)) fun hs => absurd (hS b hs) (by omega)).trans (Below.block h0 b hb)⟩
theorem Mv.cell {S : Nat → Prop} {w w' : World} (h : Mv S w w') {b o : Nat} {v : Value} (hc : w.cell? ⟨b, o, none⟩ = some v) (hn : ¬ S b) : w'.cell? ⟨b, o, none⟩ = some v := by
  have := h.rest b (cell_lt hc) hn
  unfold World.cell? at hc ⊢
  simp only at hc ⊢
  rw [this]; exact hc
def Rd (rb : Nat) (s : ByteArray) (r : List UInt8) (w : World) : Prop :=
  ∃ k : Nat, k + r.length = s.size ∧ r = s.data.toList.drop k ∧ w.heap[rb]? = some (.cells #[.string s, .int .i64 (k : Int)] 107 (0, 0))
theorem Rd.ext {rb : Nat} {s : ByteArray} {r : List UInt8} {w w' : World} (h : Rd rb s r w) (x : Ext w w') : Rd rb s r w' := by
  obtain ⟨k, h1, h2, h3⟩ := h
  exact ⟨k, h1, h2, x.block h3⟩
theorem Rd.lt {rb : Nat} {s : ByteArray} {r : List UInt8} {w : World} (h : Rd rb s r w) : rb < w.heap.size := by
  obtain ⟨k, h1, h2, h3⟩ := h
  exact (Array.getElem?_eq_some_iff.1 h3).1
theorem Rd.head {s : ByteArray} {k : Nat} {c : UInt8} {q : List UInt8} (h1 : k + (c :: q).length = s.size) (h2 : c :: q = s.data.toList.drop k) : ∃ hk : k < s.size, s[k]'hk = c ∧ q = s.data.toList.drop (k + 1) ∧ k + 1 + q.length = s.size := by
  simp only [List.length_cons] at h1
  have hk : k < s.size := by omega
  have hk2 : k < s.data.toList.length := hk
  rw [List.drop_eq_getElem_cons hk2] at h2
  obtain ⟨e1, e2⟩ := List.cons.inj h2
  exact ⟨hk, e1.symm, e2, by omega⟩
def IsP (rb : Nat) (p : UInt8 → Bool) (fv : Value) (w : World) : Prop :=
  ∃ (g : Nat) (lb : Array Value), fv = .func (.func g) #[] lb ∧ (∀ args w, (callFunc g args).run Tryz.prog w = .ok (.enter g args) w) ∧
    ∀ (W : World) (c : UInt8), Mv (· = rb) w W → Calls Tryz.prog g (#[.int .u8 (c.toNat : Int)] ++ lb) W (RBool (p c) W)
theorem IsP.later {rb : Nat} {p : UInt8 → Bool} {fv : Value} {w w' : World} (h : IsP rb p fv w) (k : Mv (· = rb) w w') : IsP rb p fv w' := by
  obtain ⟨g, lb, h1, h2, h3⟩ := h
  exact ⟨g, lb, h1, h2, fun W c hW => h3 W c (k.trans hW)⟩
theorem more_any (rb : Nat) (s : ByteArray) (r : List UInt8) (p : UInt8 → Bool) (fv : Value) (w : World) (hs : s.size ≤ 100000000000) (hr : Rd rb s r w) (hp : IsP rb p fv w) :
    Calls Tryz.prog 83 #[.pointer (some ⟨rb, 0, none⟩), fv] w (RBool (headP p r) w) := by
  obtain ⟨k, h1, h2, h3⟩ := hr
  obtain ⟨g, lb, rfl, eg, hp⟩ := hp
  have c0 : ∀ u : ExtOf w, u.val.cell? ⟨rb, 0, none⟩ = some (.string s) := fun u => u.ext.cell (cellOf h3 rfl)
  have c1 : ∀ u : ExtOf w, u.val.cell? ⟨rb, 1, none⟩ = some (.int .i64 k) := fun u => u.ext.cell (cellOf h3 rfl)
  cases r with
  | nil =>
    have hlt : decide ((k : Int) < (s.size : Int)) = false := decide_eq_false (by simp at h1; omega)
    have hltn : decide (k < s.size) = false := decide_eq_false (by simp at h1; omega)
    clear h1 h2 h3 hs hp
    go_enter Tryz.func83, Tryz.ntmps83
    go_upto_region 1 with fail
    refine wp_region_ext (by kernel_rfl) (by kernel_rfl) ?_
    repeat (go_big_quiet_step (fail))
    refine wpQuiet_nil ?_
    rintro _ ⟨u, rfl⟩
    go_wp2_with fail
    go_ret
    exact ⟨rfl, u.ext⟩
  | cons c q =>
    obtain ⟨hk, e, _, _⟩ := Rd.head h1 h2
    have hix : ∀ W : World, (Instr.index 9 (.string s) (.int .i64 (k : Int))).run Tryz.prog W = .ok (.int .u8 (c.toNat : Int)) W := by
      intro W
      rw [run_index_string W 9 s .i64 (k : Int) Tryz.underlying9, dif_pos ⟨by omega, by omega⟩]
      simp only [Int.toNat_natCast, e]
    have hlt : decide ((k : Int) < (s.size : Int)) = true := decide_eq_true (by omega)
    have hltn : decide (k < s.size) = true := decide_eq_true hk
    have HP := qh (fun u : ExtOf w => inExt (u := u) (hp u.val c (Mv.ofExt u.ext)))
    clear h1 h2 h3 hs hp e
    show Calls Tryz.prog _ _ w (RBool (p c) w)
    obtain ⟨b, hb⟩ : ∃ b, p c = b := ⟨_, rfl⟩
    rw [hb] at HP ⊢
    clear hb hk
    go_enter Tryz.func83, Tryz.ntmps83
    go_upto_region 1 with fail
    refine wp_region_ext (by kernel_rfl) (by kernel_rfl) ?_
    repeat (go_big_quiet_step ((go_at_fn g; exact HP.out _)))
    refine wpQuiet_nil ?_
    rintro _ ⟨u, rfl⟩
    go_wp2_with fail
    go_ret
    exact ⟨rfl, u.ext⟩
theorem Rd.move {rb k : Nat} {s : ByteArray} {v : Value} {r : List UInt8} {w : World} (h : w.heap[rb]? = some (.cells #[.string s, v] 107 (0, 0))) (h1 : k + r.length = s.size) (h2 : r = s.data.toList.drop k) :
    Rd rb s r (w.setCell ⟨rb, 1, none⟩ (.int .i64 (k : Int))) :=
  ⟨k, h1, h2, heap_setCell_same h _⟩
def RRun (rb : Nat) (s : ByteArray) (p : UInt8 → Bool) (r : List UInt8) (w : World) (e : Ending) (w' : World) : Prop :=
  e = .returned (.string (bs (r.takeWhile p))) ∧ Mv (· = rb) w w' ∧ Rd rb s (r.dropWhile p) w'
theorem while_cut (p : UInt8 → Bool) (r : List UInt8) : r.take (r.length - (r.dropWhile p).length) = r.takeWhile p := by
  have h := take_drop_while p r
  have hl := congrArg List.length h
  rw [List.length_append] at hl
  conv => lhs; rw [← h]
  exact List.take_left' (by rw [h]; omega)
theorem run_any (rb : Nat) (s : ByteArray) (r : List UInt8) (p : UInt8 → Bool) (fv : Value) (w : World) (hs : s.size ≤ 100000000000) (hr : Rd rb s r w) (hp : IsP rb p fv w) :
    Calls Tryz.prog 51 #[.pointer (some ⟨rb, 0, none⟩), fv] w (RRun rb s p r w) := by
  have HR0 := qh hr
  obtain ⟨k0, h1, h2, h3⟩ := hr
  have c1 := cellOf h3 (i := 1) rfl
  have H1 := qh h1
  have H2 := qh h2
  have HP := qh hp
  clear h1 h2 h3 hp
  go_enter Tryz.func51, Tryz.ntmps51
  go_wp2_with fail
  clear c1
  go_loopg [] r.length (fun gf wr => ∃ r' : List UInt8, Rd rb s r' wr ∧ Mv (· = rb) w wr ∧ r'.dropWhile p = r.dropWhile p ∧ r'.length ≤ r.length ∧ r'.length ≤ gf)
  case atStart => exact ⟨r, HR0.out, Mv.refl _ _, rfl, Nat.le_refl _, Nat.le_refl _⟩
  case round =>
    obtain ⟨r', hr', hm, hd, hl, hg⟩ := hrel
    have HM := qh hm
    have HD := qh hd
    have HL := qh hl
    have HC := qh (more_any rb s r' p fv wr hs hr' (HP.out.later hm))
    obtain ⟨k, h1, h2, h3⟩ := hr'
    have HB := qh h3
    clear hm hd hl
    by_cases hh : headP p r' = true
    · rw [hh] at HC
      cases r' with
      | nil => cases hh
      | cons c q =>
        obtain ⟨hk, e, hq, hq1⟩ := Rd.head h1 h2
        obtain ⟨g', rfl⟩ : ∃ g', gk = g' + 1 := ⟨gk - 1, by simp at hg; omega⟩
        have HQ := qh (And.intro hq hq1)
        have HG := qh (show q.length ≤ g' by simp at hg; omega)
        have HHH := qh (show p c = true from hh)
        have hw1 : IntKind.i64.wrap ((k : Int) + 1) = (k : Int) + 1 := IntWalk.i64_in _ (by omega)
        clear h1 h2 h3 hq hq1 hg hh e
        go_wp2_with (go_at_call 83; refine HC.out.mono ?_)
        rintro e w1 ⟨rfl, x1⟩
        have hb1 := x1.block HB.out
        have c1 := cellOf hb1 (i := 1) rfl
        have f1 := freeOf hb1 1
        have HB1 := qh hb1
        have X1 := qh x1
        clear hb1 x1
        go_wp2_with fail
        go_roundg g'
        case measure => omega
        case rel =>
          refine ⟨q, Rd.move (k := k + 1) HB1.out HQ.out.2 HQ.out.1, Mv.setRb (HM.out.ext X1.out) _, ?_, ?_, HG.out⟩
          · rw [← HD.out, List.dropWhile_cons_of_pos HHH.out]
          · have := HL.out; simp at this; omega
    · rw [Bool.not_eq_true] at hh
      rw [hh] at HC
      have he : r' = r.dropWhile p := by
        rw [← HD.out]
        cases r' with
        | nil => rfl
        | cons c q => exact (List.dropWhile_cons_of_neg (by simpa [headP] using hh)).symm
      have HE := qh he
      have HK := qh (And.intro h1 h2)
      have hk0 : k0 + r.length = s.size := H1.out
      have hle : r'.length ≤ r.length := HL.out
      have hcut : s.extract k0 k = bs (r.takeWhile p) := by
        have h := bs_cut s.data.toList k0 k
        rw [bs_list] at h
        rw [h, ← H2.out, ← while_cut p r, ← he]
        congr 2
        omega
      have HCUT := qh hcut
      have b1 : (0 : Int) ≤ (k0 : Int) := by omega
      have b2 : (k0 : Int) ≤ (k : Int) := by omega
      have b3 : (k : Int) ≤ (s.size : Int) := by omega
      generalize hE : s.extract k0 k = E at HCUT hcut
      clear h1 h2 h3 hg hh hcut he hk0 hle
      go_wp2_with (go_at_call 83; refine HC.out.mono ?_)
      rintro e w1 ⟨rfl, x1⟩
      have hb1 := x1.block HB.out
      have c0 : ∀ u : ExtOf w1, u.val.cell? ⟨rb, 0, none⟩ = some (.string s) := fun u => u.ext.cell (cellOf hb1 rfl)
      have c1 : ∀ u : ExtOf w1, u.val.cell? ⟨rb, 1, none⟩ = some (.int .i64 k) := fun u => u.ext.cell (cellOf hb1 rfl)
      have X1 := qh x1
      clear hb1 x1
      go_upto_region 4 with fail
      refine wp_region_ext (by kernel_rfl) (by kernel_rfl) ?_
      repeat (go_big_quiet_step (fail))
      refine wpQuiet_nil ?_
      rintro _ ⟨u, rfl⟩
      go_wp2_with fail
      go_ret
      refine ⟨?_, (HM.out.ext X1.out).ext u.ext, ?_⟩
      · rw [HCUT.out]; rfl
      · rw [← HE.out]
        exact Rd.ext (Rd.ext ⟨k, HK.out.1, HK.out.2, HB.out⟩ X1.out) u.ext
theorem u8_eq (c q : UInt8) : ((c.toNat : Int) == (q.toNat : Int)) = (c == q) := by
  rw [Bool.eq_iff_iff, beq_iff_eq, beq_iff_eq]
  constructor
  · intro h; exact UInt8.toNat_inj.1 (by omega)
  · rintro rfl; rfl
theorem u8_ne (c q : UInt8) : ((c.toNat : Int) != (q.toNat : Int)) = (c != q) := by simp only [bne, u8_eq]
theorem oneP_any (c q : UInt8) (b : Nat) (w : World) (hb : w.cell? ⟨b, 0, none⟩ = some (.int .u8 (q.toNat : Int))) : Calls Tryz.prog 126 #[.int .u8 (c.toNat : Int), .pointer (some ⟨b, 0, none⟩)] w (RBool (c == q) w) := by
  have x := Ext.refl w
  obtain ⟨z, hz⟩ : ∃ z, (c == q) = z := ⟨_, rfl⟩
  have e := (u8_eq c q).trans hz
  rw [hz]
  clear hz
  go_enter Tryz.func126, Tryz.ntmps126
  go_wp2
  go_ret
  exact ⟨by first | rfl | rw [e], x⟩
theorem valueP_any (c q : UInt8) (b : Nat) (w : World) (hb : w.cell? ⟨b, 0, none⟩ = some (.int .u8 (q.toNat : Int))) : Calls Tryz.prog 163 #[.int .u8 (c.toNat : Int), .pointer (some ⟨b, 0, none⟩)] w (RBool (neB q c) w) := by
  have x := Ext.refl w
  obtain ⟨z, hz⟩ : ∃ z, neB q c = z := ⟨_, rfl⟩
  have e := (u8_ne c q).trans hz
  rw [hz]
  clear hz
  go_enter Tryz.func163, Tryz.ntmps163
  go_wp2
  go_ret
  exact ⟨by first | rfl | rw [e], x⟩
theorem tagP_any (c : UInt8) (w : World) : Calls Tryz.prog 89 #[.int .u8 (c.toNat : Int)] w (RBool (neB 62 c) w) := by
  have x := Ext.refl w
  obtain ⟨z, hz⟩ : ∃ z, neB 62 c = z := ⟨_, rfl⟩
  have e : ((c.toNat : Int) != 62) = z := (u8_ne c 62).trans hz
  rw [hz]
  clear hz
  go_enter Tryz.func89, Tryz.ntmps89
  go_wp2
  go_ret
  exact ⟨by first | rfl | rw [e], x⟩
theorem allP_any (c : UInt8) (w : World) : Calls Tryz.prog 52 #[.int .u8 (c.toNat : Int)] w (RBool (neB 60 c) w) := by
  have x := Ext.refl w
  obtain ⟨z, hz⟩ : ∃ z, neB 60 c = z := ⟨_, rfl⟩
  have e : ((c.toNat : Int) != 60) = z := (u8_ne c 60).trans hz
  rw [hz]
  clear hz
  go_enter Tryz.func52, Tryz.ntmps52
  go_wp2
  go_ret
  exact ⟨by first | rfl | rw [e], x⟩
theorem nameP_any (c : UInt8) (w : World) : Calls Tryz.prog 128 #[.int .u8 (c.toNat : Int)] w (RBool (alnumB c) w) := by
  have HB := qh (xletter_any c w)
  cases hl : letterB c with
  | true =>
    have e : alnumB c = true := by unfold alnumB; rw [hl]; rfl
    rw [hl] at HB
    rw [e]
    clear e hl
    go_enter Tryz.func128, Tryz.ntmps128
    go_wp2_with (go_at_call 87; refine HB.out.mono ?_)
    rintro e w1 ⟨rfl, x1⟩
    go_wp2_with fail
    go_ret
    exact ⟨rfl, x1⟩
  | false =>
    have e : alnumB c = digitB c := by unfold alnumB; rw [hl]; rfl
    rw [hl] at HB
    rw [e]
    clear e hl
    have HD := qh (fun W => xdigit_any c W)
    obtain ⟨z, hz⟩ : ∃ z, digitB c = z := ⟨_, rfl⟩
    rw [hz] at HD ⊢
    clear hz
    go_enter Tryz.func128, Tryz.ntmps128
    go_wp2_with (go_at_call 87; refine HB.out.mono ?_)
    rintro e w1 ⟨rfl, x1⟩
    go_wp2_with (go_at_call 129; refine (HD.out _).mono ?_)
    rintro e w2 ⟨rfl, x2⟩
    go_wp2_with fail
    go_ret
    exact ⟨rfl, x1.trans x2⟩
theorem gapP_any (c : UInt8) (w : World) : Calls Tryz.prog 130 #[.int .u8 (c.toNat : Int)] w (RBool (gapB c) w) := by
  have HB := qh (xblank_any c w)
  cases hl : blankB c with
  | true =>
    have e : gapB c = true := by unfold gapB; rw [hl]; rfl
    rw [hl] at HB
    rw [e]
    clear e hl
    go_enter Tryz.func130, Tryz.ntmps130
    go_wp2_with (go_at_call 131; refine HB.out.mono ?_)
    rintro e w1 ⟨rfl, x1⟩
    go_wp2_with fail
    go_ret
    exact ⟨rfl, x1⟩
  | false =>
    have e : gapB c = (c == 47) := by unfold gapB; rw [hl]; rfl
    have e2 : ((c.toNat : Int) == 47) = (c == 47) := u8_eq c 47
    rw [hl] at HB
    rw [e]
    obtain ⟨z, hz⟩ : ∃ z, (c == 47) = z := ⟨_, rfl⟩
    rw [hz] at e2 ⊢
    clear hz e hl
    go_enter Tryz.func130, Tryz.ntmps130
    go_wp2_with (go_at_call 131; refine HB.out.mono ?_)
    rintro e w1 ⟨rfl, x1⟩
    go_wp2_with fail
    go_ret
    exact ⟨by first | rfl | rw [e2], x1⟩
theorem valP_any (c : UInt8) (w : World) : Calls Tryz.prog 164 #[.int .u8 (c.toNat : Int)] w (RBool (valB c) w) := by
  have HB := qh (xblank_any c w)
  cases hl : blankB c with
  | true =>
    have e : valB c = false := by unfold valB; rw [hl]; rfl
    rw [hl] at HB
    rw [e]
    clear e hl
    go_enter Tryz.func164, Tryz.ntmps164
    go_wp2_with (go_at_call 131; refine HB.out.mono ?_)
    rintro e w1 ⟨rfl, x1⟩
    go_wp2_with fail
    go_ret
    exact ⟨rfl, x1⟩
  | false =>
    have e : valB c = (c != 62) := by unfold valB; rw [hl]; rfl
    have e2 : ((c.toNat : Int) != 62) = (c != 62) := u8_ne c 62
    rw [hl] at HB
    rw [e]
    obtain ⟨z, hz⟩ : ∃ z, (c != 62) = z := ⟨_, rfl⟩
    rw [hz] at e2 ⊢
    clear hz e hl
    go_enter Tryz.func164, Tryz.ntmps164
    go_wp2_with (go_at_call 131; refine HB.out.mono ?_)
    rintro e w1 ⟨rfl, x1⟩
    go_wp2_with fail
    go_ret
    exact ⟨by first | rfl | rw [e2], x1⟩
theorem nmP_any (c : UInt8) (w : World) : Calls Tryz.prog 133 #[.int .u8 (c.toNat : Int)] w (RBool (nmB c) w) := by
  have HB := qh (xblank_any c w)
  have e47 : ((c.toNat : Int) != 47) = (c != 47) := u8_ne c 47
  have e62 : ((c.toNat : Int) != 62) = (c != 62) := u8_ne c 62
  have e61 : ((c.toNat : Int) != 61) = (c != 61) := u8_ne c 61
  have e : nmB c = (!blankB c && (c != 47) && (c != 62) && (c != 61)) := rfl
  obtain ⟨z1, h1⟩ : ∃ z, (c != 47) = z := ⟨_, rfl⟩
  obtain ⟨z2, h2⟩ : ∃ z, (c != 62) = z := ⟨_, rfl⟩
  obtain ⟨z3, h3⟩ : ∃ z, (c != 61) = z := ⟨_, rfl⟩
  obtain ⟨z0, h0⟩ : ∃ z, blankB c = z := ⟨_, rfl⟩
  rw [h1] at e47 e
  rw [h2] at e62 e
  rw [h3] at e61 e
  rw [h0] at HB e
  rw [e]
  clear h0 h1 h2 h3 e
  cases z0 <;> cases z1 <;> cases z2 <;> cases z3 <;>
    (go_enter Tryz.func133, Tryz.ntmps133
     go_wp2_with (go_at_call 131; refine HB.out.mono ?_)
     rintro e w1 ⟨rfl, x1⟩
     go_wp2_with fail
     go_ret
     exact ⟨by first | rfl | rw [e61], x1⟩)
theorem IsP.ofFn {rb g : Nat} {p : UInt8 → Bool} (eg : ∀ args w, (callFunc g args).run Tryz.prog w = .ok (.enter g args) w) (h : ∀ c w, Calls Tryz.prog g #[.int .u8 (c.toNat : Int)] w (RBool (p c) w)) (w : World) : IsP rb p (.func (.func g) #[] #[]) w :=
  ⟨g, #[], rfl, eg, fun W c _ => h c W⟩
theorem isBlank (rb : Nat) (w : World) : IsP rb blankB (.func (.func 131) #[] #[]) w := IsP.ofFn (enters_of Tryz.func131 (by kernel_rfl) rfl) (fun c w => xblank_any c w) w
theorem isLetter (rb : Nat) (w : World) : IsP rb letterB (.func (.func 87) #[] #[]) w := IsP.ofFn (enters_of Tryz.func87 (by kernel_rfl) rfl) (fun c w => xletter_any c w) w
theorem isAlnum (rb : Nat) (w : World) : IsP rb alnumB (.func (.func 128) #[] #[]) w := IsP.ofFn (enters_of Tryz.func128 (by kernel_rfl) rfl) (fun c w => nameP_any c w) w
theorem isGap (rb : Nat) (w : World) : IsP rb gapB (.func (.func 130) #[] #[]) w := IsP.ofFn (enters_of Tryz.func130 (by kernel_rfl) rfl) (fun c w => gapP_any c w) w
theorem isNm (rb : Nat) (w : World) : IsP rb nmB (.func (.func 133) #[] #[]) w := IsP.ofFn (enters_of Tryz.func133 (by kernel_rfl) rfl) (fun c w => nmP_any c w) w
theorem isVal (rb : Nat) (w : World) : IsP rb valB (.func (.func 164) #[] #[]) w := IsP.ofFn (enters_of Tryz.func164 (by kernel_rfl) rfl) (fun c w => valP_any c w) w
theorem isTag (rb : Nat) (w : World) : IsP rb (neB 62) (.func (.func 89) #[] #[]) w := IsP.ofFn (enters_of Tryz.func89 (by kernel_rfl) rfl) (fun c w => tagP_any c w) w
theorem isAll (rb : Nat) (w : World) : IsP rb (neB 60) (.func (.func 52) #[] #[]) w := IsP.ofFn (enters_of Tryz.func52 (by kernel_rfl) rfl) (fun c w => allP_any c w) w
theorem isOne {rb b : Nat} {q : UInt8} {w : World} (hb : w.cell? ⟨b, 0, none⟩ = some (.int .u8 (q.toNat : Int))) (hn : b ≠ rb) : IsP rb (· == q) (.func (.func 126) #[] #[.pointer (some ⟨b, 0, none⟩)]) w :=
  ⟨_, _, rfl, enters_of Tryz.func126 (by kernel_rfl) rfl, fun W c hW => oneP_any c q b W (hW.cell hb hn)⟩
theorem isQuote {rb b : Nat} {q : UInt8} {w : World} (hb : w.cell? ⟨b, 0, none⟩ = some (.int .u8 (q.toNat : Int))) (hn : b ≠ rb) : IsP rb (neB q) (.func (.func 163) #[] #[.pointer (some ⟨b, 0, none⟩)]) w :=
  ⟨_, _, rfl, enters_of Tryz.func163 (by kernel_rfl) rfl, fun W c hW => valueP_any c q b W (hW.cell hb hn)⟩
def oneL (q : UInt8) (r : List UInt8) : List UInt8 := if headP (· == q) r then r.tail else r
def ROne (rb : Nat) (s : ByteArray) (b : Bool) (r : List UInt8) (w : World) (e : Ending) (w' : World) : Prop := e = .returned (.bool b) ∧ Mv (· = rb) w w' ∧ Rd rb s r w'
theorem one_any (rb : Nat) (s : ByteArray) (r : List UInt8) (q : UInt8) (z : Int) (hz : z = (q.toNat : Int)) (w : World) (hs : s.size ≤ 100000000000) (hr : Rd rb s r w) :
    Calls Tryz.prog 86 #[.pointer (some ⟨rb, 0, none⟩), .int .u8 z] w (ROne rb s (headP (· == q) r) (oneL q r) w) := by
  subst hz
  have hlt := hr.lt
  have X0 := qh ((Ext.refl w).alloc (.cells #[.int .u8 (q.toNat : Int)] 5))
  have HC := qh (more_any rb s r (· == q) _ (w.alloc (.cells #[.int .u8 (q.toNat : Int)] 5)) hs (hr.ext X0.out) (isOne (b := w.heap.size) (cellOf (heap_alloc_new w _) rfl) (by omega)))
  have hmf : ∀ (fn : Fn) (first cap : Array Value) (w : World), (Instr.makeFunc fn first cap).run Tryz.prog w = .ok (.func fn first cap) w := fun _ _ _ _ => rfl
  have HR := qh (hr.ext X0.out)
  clear hr hlt
  cases hh : headP (· == q) r with
  | false =>
    have he : oneL q r = r := by unfold oneL; rw [hh]; rfl
    rw [hh] at HC
    rw [he]
    clear hh he
    go_enter Tryz.func86, Tryz.ntmps86
    go_wp2_with (go_at_call 83; refine HC.out.mono ?_)
    rintro e w1 ⟨rfl, x1⟩
    go_wp2_with fail
    go_ret
    exact ⟨rfl, Mv.ofExt (X0.out.trans x1), HR.out.ext x1⟩
  | true =>
    rw [hh] at HC
    cases r with
    | nil => cases hh
    | cons c t =>
      have he : oneL q (c :: t) = t := by unfold oneL; rw [hh]; rfl
      rw [he]
      obtain ⟨k, h1, h2, h3⟩ := HR.out
      obtain ⟨hk, _, hq, hq1⟩ := Rd.head h1 h2
      have HB := qh h3
      have HQ := qh (And.intro hq1 hq)
      have hw1 : IntKind.i64.wrap ((k : Int) + 1) = (k : Int) + 1 := IntWalk.i64_in _ (by omega)
      clear hh he h1 h2 h3 hq hq1
      go_enter Tryz.func86, Tryz.ntmps86
      go_wp2_with (go_at_call 83; refine HC.out.mono ?_)
      rintro e w1 ⟨rfl, x1⟩
      have hb1 := x1.block HB.out
      have c1 := cellOf hb1 (i := 1) rfl
      have f1 := freeOf hb1 1
      have HB1 := qh hb1
      have X1 := qh (X0.out.trans x1)
      clear hb1 x1
      go_wp2_with fail
      go_ret
      exact ⟨rfl, Mv.setRb (Mv.ofExt X1.out) _, Rd.move (k := k + 1) HB1.out HQ.out.1 HQ.out.2⟩
def RValue (rb : Nat) (s : ByteArray) (o : Option (List UInt8 × List UInt8)) (w : World) (e : Ending) (w' : World) : Prop :=
  match o with
  | some (v, t) => e = .returned (.tuple #[.string (bs v), .bool true]) ∧ Mv (· = rb) w w' ∧ Rd rb s t w'
  | none => ∃ x r', e = .returned (.tuple #[.string x, .bool false]) ∧ Mv (· = rb) w w' ∧ Rd rb s r' w'
theorem valueL_quote {r t : List UInt8} {q : UInt8} (h : r.dropWhile blankB = q :: t) (hq : q = 34 ∨ q = 39) : valueL r = match t.dropWhile (neB q) with
    | [] => none
    | _ :: r3 => some (t.takeWhile (neB q), r3) := by
  unfold valueL
  rw [h]
  dsimp only
  exact (if_pos hq).trans rfl
theorem valueL_bare {r : List UInt8} (h : headP (· == 34) (r.dropWhile blankB) = false) (h2 : headP (· == 39) (r.dropWhile blankB) = false) : valueL r = some ((r.dropWhile blankB).takeWhile valB, (r.dropWhile blankB).dropWhile valB) := by
  unfold valueL
  cases hr : r.dropWhile blankB with
  | nil => rfl
  | cons q t =>
    rw [hr] at h h2
    have e1 : (q == 34) = false := h
    have e2 : (q == 39) = false := h2
    dsimp only
    rw [if_neg]
    rintro (rfl | rfl)
    · exact absurd e1 (by decide)
    · exact absurd e2 (by decide)
def quoteN (k : Nat) : UInt8 := if k = 0 then 34 else 39
theorem value_any (rb : Nat) (s : ByteArray) (r : List UInt8) (w : World) (hs : s.size ≤ 100000000000) (hr : Rd rb s r w) :
    Calls Tryz.prog 134 #[.pointer (some ⟨rb, 0, none⟩)] w (RValue rb s (valueL r) w) := by
  have HS := qh hs
  have HRUN := qh (run_any rb s r blankB _ w hs hr (isBlank rb w))
  have hmf : ∀ (fn : Fn) (first cap : Array Value) (w : World), (Instr.makeFunc fn first cap).run Tryz.prog w = .ok (.func fn first cap) w := fun _ _ _ _ => rfl
  clear hr hs
  go_enter Tryz.func134, Tryz.ntmps134
  go_wp2_with (go_at_call 51; refine HRUN.out.mono ?_)
  rintro e w1 ⟨rfl, m1, r1⟩
  have M1 := qh m1
  have R1 := qh r1
  have XQ := qh ((Ext.refl w1).alloc (.cells #[.int .u8 34, .int .u8 39] 5))
  have HQB := qh (heap_alloc_new w1 (.cells #[.int .u8 34, .int .u8 39] 5))
  have hrb := r1.lt
  clear m1 r1
  go_wp2_with fail
  obtain ⟨wq, hwq⟩ : ∃ wq : World, wq = w1.alloc (.cells #[.int .u8 34, .int .u8 39] 5) := ⟨_, rfl⟩
  rw [← hwq] at XQ HQB ⊢
  clear hwq
  go_loopw [11] (fun i wr => ∃ k : Nat, k ≤ 2 ∧ i = .int .i64 k ∧ Rd rb s (r.dropWhile blankB) wr ∧ Mv (· = rb) wq wr ∧ ∀ j, j < k → headP (· == quoteN j) (r.dropWhile blankB) = false) (fun i _ => 2 - (intOf i).toNat)
  case atStart => exact ⟨0, Nat.zero_le _, rfl, R1.out.ext XQ.out, Mv.refl _ _, fun j hj => absurd hj (Nat.not_lt_zero _)⟩
  case round =>
    obtain ⟨k, hk, rfl, hr, hm, hno⟩ := hrel
    have HR := qh hr
    have HM := qh hm
    have HNO := qh hno
    have hgb := hm.block HQB.out (by omega)
    have hrb2 := hr.lt
    clear hr hno hm
    by_cases hlt : k < 2
    · obtain ⟨q, hq⟩ : ∃ q, quoteN k = q := ⟨_, rfl⟩
      have hcell : wr.cell? ⟨w1.heap.size, k, none⟩ = some (.int .u8 (q.toNat : Int)) := by
        refine cellOf hgb ?_
        rw [← hq]
        rcases (show k = 0 ∨ k = 1 by omega) with rfl | rfl <;> rfl
      have hq2 : q = 34 ∨ q = 39 := by
        rw [← hq]; unfold quoteN; split; exact .inl rfl; exact .inr rfl
      have HQ := qh hq
      have HQ2 := qh hq2
      have X0 := qh ((Ext.refl wr).alloc (.cells #[.int .u8 (q.toNat : Int)] 5))
      have hbox : (wr.alloc (.cells #[.int .u8 (q.toNat : Int)] 5)).cell? ⟨wr.heap.size, 0, none⟩ = some (.int .u8 (q.toNat : Int)) := cellOf (heap_alloc_new wr _) rfl
      have HBOX := qh hbox
      have HONE := qh (one_any rb s (r.dropWhile blankB) q (q.toNat : Int) rfl _ HS.out (HR.out.ext X0.out))
      have hbn : wr.heap.size ≠ rb := by omega
      clear hq hq2 hgb hbox
      cases hh : headP (· == q) (r.dropWhile blankB) with
      | false =>
        have HH := qh hh
        have HOL := qh (show oneL q (r.dropWhile blankB) = r.dropWhile blankB by unfold oneL; rw [hh]; rfl)
        rw [hh] at HONE
        clear hh
        go_wp2_with (go_at_call 86; refine HONE.out.mono ?_)
        rintro e w2 ⟨rfl, m2, r2⟩
        rw [HOL.out] at r2
        have M2 := qh m2
        have R2 := qh r2
        clear m2 r2
        go_wp2_with fail
        go_roundw
        case rel =>
          refine ⟨k + 1, by omega, by go_num, R2.out, (HM.out.ext X0.out).trans M2.out, fun j hj => ?_⟩
          rcases Nat.lt_or_ge j k with h | h
          · exact HNO.out j h
          · obtain rfl : j = k := by omega
            rw [HQ.out]; exact HH.out
        case measure => simp [intOf]; omega
      | true =>
        obtain ⟨t, ht⟩ : ∃ t, r.dropWhile blankB = q :: t := by
          cases hr1 : r.dropWhile blankB with
          | nil => rw [hr1] at hh; cases hh
          | cons c t =>
            rw [hr1] at hh
            have : c = q := by simpa [headP] using hh
            exact ⟨t, by rw [this]⟩
        have HVL := qh (valueL_quote ht HQ2.out)
        have HOL := qh (show oneL q (r.dropWhile blankB) = t by unfold oneL; rw [hh, ht]; rfl)
        rw [hh] at HONE
        clear hh ht
        go_wp2_with (go_at_call 86; refine HONE.out.mono ?_)
        rintro e w2 ⟨rfl, m2, r2⟩
        rw [HOL.out] at r2
        have hb2 := m2.cell HBOX.out hbn
        have HRUN2 := qh (run_any rb s t (neB q) _ w2 HS.out r2 (isQuote hb2 hbn))
        have M2 := qh m2
        have HB2 := qh hb2
        clear m2 r2
        go_wp2_with (go_at_call 51; refine HRUN2.out.mono ?_)
        rintro e w3 ⟨rfl, m3, r3⟩
        have hb3 := m3.cell HB2.out hbn
        have HONE3 := qh (one_any rb s (t.dropWhile (neB q)) q (q.toNat : Int) rfl w3 HS.out r3)
        have MM := qh ((M1.out.ext XQ.out).trans (((HM.out.ext X0.out).trans M2.out).trans m3))
        clear m3 r3 hb2
        cases hd : t.dropWhile (neB q) with
        | nil =>
          rw [hd] at HONE3
          have HV : Hid (valueL r = none) := qh (by rw [HVL.out, hd])
          clear hd
          go_wp2_with (go_at_call 86; refine HONE3.out.mono ?_)
          rintro e w4 ⟨rfl, m4, r4⟩
          have M4 := qh m4
          have R4 := qh r4
          clear m4 r4
          go_wp2_with fail
          go_ret2
          rw [HV.out]
          exact ⟨_, _, rfl, MM.out.trans M4.out, R4.out⟩
        | cons c r3 =>
          have hc := neB_head hd
          subst hc
          rw [hd] at HONE3
          have HV : Hid (valueL r = some (t.takeWhile (neB c), r3)) := qh (by rw [HVL.out, hd])
          have hh3 : headP (· == c) (c :: r3) = true := by simp [headP]
          have HO3 := qh (show oneL c (c :: r3) = r3 by unfold oneL; rw [hh3]; rfl)
          rw [hh3] at HONE3
          clear hd hh3
          go_wp2_with (go_at_call 86; refine HONE3.out.mono ?_)
          rintro e w4 ⟨rfl, m4, r4⟩
          rw [HO3.out] at r4
          have M4 := qh m4
          have R4 := qh r4
          clear m4 r4
          go_wp2_with fail
          go_ret2
          rw [HV.out]
          exact ⟨rfl, MM.out.trans M4.out, R4.out⟩
    · obtain rfl : k = 2 := by omega
      have HVB := qh (valueL_bare (r := r) (HNO.out 0 (by decide)) (HNO.out 1 (by decide)))
      have HRUN2 := qh (run_any rb s (r.dropWhile blankB) valB _ wr HS.out HR.out (isVal rb wr))
      go_wp2_with (go_at_call 51; refine HRUN2.out.mono ?_)
      rintro e w3 ⟨rfl, m3, r3⟩
      have M3 := qh m3
      have R3 := qh r3
      clear m3 r3
      go_wp2_with fail
      go_ret2
      rw [HVB.out]
      exact ⟨rfl, (M1.out.ext XQ.out).trans (HM.out.trans M3.out), R3.out⟩
def RName (rb : Nat) (s : ByteArray) (r : List UInt8) (w : World) (e : Ending) (w' : World) : Prop :=
  e = .returned (.string (bs ((r.takeWhile alnumB).map smallC))) ∧ Mv (· = rb) w w' ∧ Rd rb s (r.dropWhile alnumB) w'
theorem name_any (rb : Nat) (s : ByteArray) (r : List UInt8) (w : World) (hs : s.size ≤ 100000000000) (hr : Rd rb s r w) :
    Calls Tryz.prog 88 #[.pointer (some ⟨rb, 0, none⟩)] w (RName rb s r w) := by
  have HRUN := qh (run_any rb s r alnumB _ w hs hr (isAlnum rb w))
  have hz : (bs (r.takeWhile alnumB)).size ≤ 1000000000000 := by
    obtain ⟨k, h1, _, _⟩ := hr
    rw [bs_size]
    have := congrArg List.length (take_drop_while alnumB r)
    rw [List.length_append] at this
    omega
  have HSM := qh (fun W => (bs_data (r.takeWhile alnumB) ▸ small_any (bs (r.takeWhile alnumB)) hz W : Calls Tryz.prog 127 #[.string (bs (r.takeWhile alnumB))] W (RVal (.string (bs ((r.takeWhile alnumB).map smallC))) W)))
  clear hr hs hz
  go_enter Tryz.func88, Tryz.ntmps88
  go_wp2_with (go_at_call 51; refine HRUN.out.mono ?_)
  rintro e w1 ⟨rfl, m1, r1⟩
  have M1 := qh m1
  have R1 := qh r1
  clear m1 r1
  go_wp2_with (go_at_call 127; refine (HSM.out _).mono ?_)
  rintro e w2 ⟨rfl, x2⟩
  have X2 := qh x2
  clear x2
  go_wp2_with fail
  go_ret
  exact ⟨rfl, M1.out.ext X2.out, R1.out.ext X2.out⟩
def RNote (rb : Nat) (s : ByteArray) (o : Option (List UInt8)) (r : List UInt8) (w : World) (e : Ending) (w' : World) : Prop :=
  match o with
  | some t => e = .returned (.bool true) ∧ Mv (· = rb) w w' ∧ Rd rb s t w'
  | none => e = .returned (.bool false) ∧ Mv (· = rb) w w' ∧ Rd rb s r w'
theorem Rd.moveI {rb k : Nat} {z : Int} {s : ByteArray} {v : Value} {r : List UInt8} {w : World} (hz : z = (k : Int)) (h : w.heap[rb]? = some (.cells #[.string s, v] 107 (0, 0))) (h1 : k + r.length = s.size) (h2 : r = s.data.toList.drop k) :
    Rd rb s r (w.setCell ⟨rb, 1, none⟩ (.int .i64 z)) := hz ▸ Rd.move h h1 h2
theorem pre_take {p l : List UInt8} (h : p.isPrefixOf l = true) : p.length ≤ l.length := (List.isPrefixOf_iff_prefix.1 h).length_le
theorem note_any (rb : Nat) (s : ByteArray) (r : List UInt8) (w : World) (hs : s.size ≤ 1000000) (hr : Rd rb s r w) (hl : LW w) :
    Calls Tryz.prog 53 #[.pointer (some ⟨rb, 0, none⟩)] w (RNote rb s (noteL r) r w) := by
  have HR := qh hr
  have HL := qh hl
  obtain ⟨k, h1, h2, h3⟩ := hr
  have HB := qh h3
  have c0 : ∀ u : ExtOf w, u.val.cell? ⟨rb, 0, none⟩ = some (.string s) := fun u => u.ext.cell (cellOf h3 rfl)
  have c1 : ∀ u : ExtOf w, u.val.cell? ⟨rb, 1, none⟩ = some (.int .i64 k) := fun u => u.ext.cell (cellOf h3 rfl)
  have hcut : s.extract k s.size = bs r := by
    have h := bs_cut s.data.toList k s.size
    rw [bs_list] at h
    rw [h, h2]
    exact congrArg bs (List.take_of_length_le (by rw [List.length_drop]; exact Nat.le_refl _))
  obtain ⟨R, hR⟩ : ∃ R, bs r = R := ⟨_, rfl⟩
  have hRd : R.data.toList = r := by rw [← hR, bs_data]
  have hRz : R.size = r.length := by rw [← hR, bs_size]
  rw [hR] at hcut
  have hRz2 : R.size ≤ 1000000 := by omega
  have hksz : k + R.size = s.size := by omega
  have HKS := qh hksz
  have hcutR : ∀ i, R.extract i R.size = bs (r.drop i) := fun i => by
    have h := bs_cut R.data.toList i R.size
    rw [bs_list, hRd] at h
    rw [h]
    exact congrArg bs (List.take_of_length_le (by rw [List.length_drop]; omega))
  have HCR := qh hcutR
  have HCUT := qh hcut
  have HRZ := qh hRz
  have HP := qh (fun (p : ByteArray) W => (hRd ▸ HasPrefix_any R p W : Calls Tryz.prog 84 #[.string R, .string p] W (RVal (.bool (Lib.hasPrefix r p.data.toList)) W)))
  have H2 := qh (And.intro h1 h2)
  obtain ⟨o, ho⟩ : ∃ o, noteL r = o := ⟨_, rfl⟩
  rw [ho]
  have HO := qh ho
  have b1 : (0 : Int) ≤ (k : Int) := by omega
  have b2 : (k : Int) ≤ (s.size : Int) := by omega
  generalize hE : s.extract k s.size = E at HCUT hcut
  have HE := qh hE
  clear h1 h2 h3 hR hRd hcut hcutR ho hksz hl hRz
  go_enter Tryz.func53, Tryz.ntmps53
  go_upto_region 1 with fail
  refine wp_region_ext (by kernel_rfl) (by kernel_rfl) ?_
  repeat (go_big_quiet_step (fail))
  refine wpQuiet_nil ?_
  rintro _ ⟨u, rfl⟩
  first | rw [HCUT.out] | rw [hE, HCUT.out]
  have xu := u.ext
  obtain ⟨w1, hw1⟩ : ∃ w1, u.val = w1 := ⟨_, rfl⟩
  rw [hw1] at xu ⊢
  have X1 := qh xu
  clear c0 c1 hw1 xu
  clear u
  have hpl := fun (p : List UInt8) (h : p.isPrefixOf r = true) => pre_take h
  by_cases h4 : [60, 33, 45, 45].isPrefixOf r = true
  · have e4 : Lib.hasPrefix r (⟨#[60, 33, 45, 45]⟩ : ByteArray).data.toList = true := h4
    have HP4 := qh (fun W => e4 ▸ HP.out ⟨#[60, 33, 45, 45]⟩ W)
    have h4l := hpl _ h4
    have hr4 : 4 ≤ R.size := by rw [HRZ.out]; exact h4l
    have b3 : (4 : Int) ≤ (R.size : Int) := by omega
    have HNO : Hid (o = some (findEnd [45, 45, 62] (r.drop 4))) := qh (by rw [← HO.out]; unfold noteL; rw [if_pos h4])
    clear h4 e4 h4l hpl
    go_wp2_with (go_at_call 84; refine (HP4.out _).mono ?_)
    rintro e w2 ⟨rfl, x2⟩
    have X2 := qh (X1.out.trans x2)
    clear x2
    go_upto_region 5 with fail
    refine wp_region_ext (by kernel_rfl) (by kernel_rfl) ?_
    repeat (go_big_quiet_step (fail))
    refine wpQuiet_nil ?_
    rintro _ ⟨u, rfl⟩
    have xu := u.ext
    obtain ⟨w3, hw3⟩ : ∃ w3, u.val = w3 := ⟨_, rfl⟩
    rw [hw3] at xu ⊢
    have X3 := qh (X2.out.trans xu)
    clear hw3 xu
    clear u
    rw [HCR.out]
    obtain ⟨mm, hmm⟩ := (HL.out.ext X3.out).len
    have HIX := qh (bs_data (r.drop 4) ▸ Index_any (bs (r.drop 4)) ⟨#[45, 45, 62]⟩ mm w3 (by rw [bs_size, List.length_drop]; have := HRZ.out; omega) hmm : Calls Tryz.prog 85 #[.string (bs (r.drop 4)), .string ⟨#[45, 45, 62]⟩] w3 (RVal (.int .i64 (Lib.index (r.drop 4) [45, 45, 62])) w3))
    have hfe := findEnd_index (t := [45, 45, 62]) (by decide) (r.drop 4)
    have hrm := Lib.index_room (r.drop 4) [45, 45, 62]
    have hge := Lib.index_ge (r.drop 4) [45, 45, 62]
    obtain ⟨z, hz⟩ : ∃ z, Lib.index (r.drop 4) [45, 45, 62] = z := ⟨_, rfl⟩
    rw [hz] at hfe hrm HIX hge
    have HD := qh (bs_size (r.drop 4))
    have hdl : (r.drop 4).length = R.size - 4 := by rw [List.length_drop, HRZ.out]
    rw [hdl] at hrm
    have hds : (bs (r.drop 4)).size = R.size - 4 := by rw [bs_size, hdl]
    obtain ⟨D, hD⟩ : ∃ D, bs (r.drop 4) = D := ⟨_, rfl⟩
    rw [hD] at HIX hds ⊢
    have HFE := qh hfe
    have HDL := qh hdl
    clear hz hD hfe hdl hmm HD
    by_cases hneg : z < 0
    · have hnd : decide ((0 : Int) ≤ z) = false := decide_eq_false (by omega)
      have HF : Hid (findEnd [45, 45, 62] (r.drop 4) = []) := qh (by rw [HFE.out, if_pos hneg])
      clear hrm hds
      go_wp2_with (go_at_call 85; refine HIX.out.mono ?_)
      rintro e w5 ⟨rfl, x5⟩
      have hb5 := (X3.out.trans x5).block HB.out
      have c0 := cellOf hb5 (i := 0) rfl
      have c1 := cellOf hb5 (i := 1) rfl
      have f1 := freeOf hb5 1
      have HB5 := qh hb5
      have X5 := qh (X3.out.trans x5)
      clear hb5 x5
      go_wp2_with fail
      go_ret
      rw [HNO.out, HF.out]
      exact ⟨rfl, Mv.setRb (Mv.ofExt X5.out) _, Rd.move (k := s.size) (r := []) HB5.out (by simp) (by rw [List.drop_eq_nil_of_le]; exact Nat.le_refl _)⟩
    · obtain ⟨m, rfl⟩ : ∃ m : Nat, z = (m : Int) := ⟨z.toNat, by omega⟩
      have hm := hrm (by omega)
      simp only [List.length_cons, List.length_nil] at hm
      have HF : Hid (findEnd [45, 45, 62] (r.drop 4) = r.drop (4 + m + 3)) := qh (by
        rw [HFE.out, if_neg hneg, List.drop_drop]
        congr 1
        try (simp only [List.length_cons, List.length_nil, Int.toNat_natCast])
        try omega)
      have hnd : decide ((0 : Int) ≤ (m : Int)) = true := decide_eq_true (by omega)
      have hk2 : k + R.size = s.size := HKS.out
      have a1 : IntKind.i64.wrap ((s.size : Int) - (D.size : Int)) = (k : Int) + 4 := by rw [IntWalk.i64_in _ (by omega)]; omega
      have a2 : IntKind.i64.wrap ((k : Int) + 4 + (m : Int)) = (k : Int) + 4 + (m : Int) := IntWalk.i64_in _ (by omega)
      have a3 : IntKind.i64.wrap ((k : Int) + 4 + (m : Int) + 3) = (k : Int) + 4 + (m : Int) + 3 := IntWalk.i64_in _ (by omega)
      have HM := qh hm
      have HDS := qh hds
      clear hrm hds hneg hge hm hk2
      go_wp2_with (go_at_call 85; refine HIX.out.mono ?_)
      rintro e w5 ⟨rfl, x5⟩
      have hb5 := (X3.out.trans x5).block HB.out
      have c0 := cellOf hb5 (i := 0) rfl
      have c1 := cellOf hb5 (i := 1) rfl
      have f1 := freeOf hb5 1
      have HB5 := qh hb5
      have X5 := qh (X3.out.trans x5)
      clear hb5 x5
      go_wp2_with fail
      go_ret
      rw [HNO.out, HF.out]
      have hz1 := HM.out
      have hz2 := HKS.out
      have hz3 := HRZ.out
      have hz4 := H2.out.2
      exact ⟨rfl, Mv.setRb (Mv.ofExt X5.out) _, Rd.moveI (k := k + 4 + m + 3) (z := (k : Int) + 4 + (m : Int) + 3) (by omega) (r := r.drop (4 + m + 3)) HB5.out (by rw [List.length_drop]; omega) (by rw [hz4, List.drop_drop]; congr 1; omega)⟩
  · have e4 : Lib.hasPrefix r (⟨#[60, 33, 45, 45]⟩ : ByteArray).data.toList = false := Bool.eq_false_iff.2 h4
    have HP4 := qh (fun W => e4 ▸ HP.out ⟨#[60, 33, 45, 45]⟩ W)
    have HN4 := qh h4
    clear h4 e4
    go_wp2_with (go_at_call 84; refine (HP4.out _).mono ?_)
    rintro e w2 ⟨rfl, x2⟩
    have X2 := qh (X1.out.trans x2)
    clear x2
    by_cases h2 : [60, 33].isPrefixOf r = true
    · have e2 : Lib.hasPrefix r (⟨#[60, 33]⟩ : ByteArray).data.toList = true := h2
      have HP2 := qh (fun W => e2 ▸ HP.out ⟨#[60, 33]⟩ W)
      have h2l := hpl _ h2
      have hr2 : 2 ≤ R.size := by rw [HRZ.out]; exact h2l
      have b3 : (2 : Int) ≤ (R.size : Int) := by omega
      have HNO : Hid (o = some (findEnd [62] (r.drop 2))) := qh (by rw [← HO.out]; unfold noteL; rw [if_neg HN4.out, if_pos (by rw [h2]; rfl)])
      clear h2 e2 h2l hpl
      go_wp2_with (go_at_call 84; refine (HP2.out _).mono ?_)
      rintro e w3 ⟨rfl, x3⟩
      have X3 := qh (X2.out.trans x3)
      clear x3
      go_upto_region 8 with fail
      rw [HCR.out]
      obtain ⟨mm, hmm⟩ := (HL.out.ext X3.out).len
      have HIX := qh (bs_data (r.drop 2) ▸ Index_any (bs (r.drop 2)) ⟨#[62]⟩ mm w3 (by rw [bs_size, List.length_drop]; have := HRZ.out; omega) hmm : Calls Tryz.prog 85 #[.string (bs (r.drop 2)), .string ⟨#[62]⟩] w3 (RVal (.int .i64 (Lib.index (r.drop 2) [62])) w3))
      have hfe := findEnd_index (t := [62]) (by decide) (r.drop 2)
      have hrm := Lib.index_room (r.drop 2) [62]
      have hge := Lib.index_ge (r.drop 2) [62]
      obtain ⟨z, hz⟩ : ∃ z, Lib.index (r.drop 2) [62] = z := ⟨_, rfl⟩
      rw [hz] at hfe hrm HIX hge
      have HD := qh (bs_size (r.drop 2))
      have hdl : (r.drop 2).length = R.size - 2 := by rw [List.length_drop, HRZ.out]
      rw [hdl] at hrm
      have hds : (bs (r.drop 2)).size = R.size - 2 := by rw [bs_size, hdl]
      obtain ⟨D, hD⟩ : ∃ D, bs (r.drop 2) = D := ⟨_, rfl⟩
      rw [hD] at HIX hds ⊢
      have HFE := qh hfe
      have HDL := qh hdl
      clear hz hD hfe hdl hmm HD
      by_cases hneg : z < 0
      · have hnd : decide ((0 : Int) ≤ z) = false := decide_eq_false (by omega)
        have HF : Hid (findEnd [62] (r.drop 2) = []) := qh (by rw [HFE.out, if_pos hneg])
        clear hrm hds
        go_wp2_with (go_at_call 85; refine HIX.out.mono ?_)
        rintro e w5 ⟨rfl, x5⟩
        have hb5 := (X3.out.trans x5).block HB.out
        have c0 := cellOf hb5 (i := 0) rfl
        have c1 := cellOf hb5 (i := 1) rfl
        have f1 := freeOf hb5 1
        have HB5 := qh hb5
        have X5 := qh (X3.out.trans x5)
        clear hb5 x5
        go_wp2_with fail
        go_ret
        rw [HNO.out, HF.out]
        exact ⟨rfl, Mv.setRb (Mv.ofExt X5.out) _, Rd.move (k := s.size) (r := []) HB5.out (by simp) (by rw [List.drop_eq_nil_of_le]; exact Nat.le_refl _)⟩
      · obtain ⟨m, rfl⟩ : ∃ m : Nat, z = (m : Int) := ⟨z.toNat, by omega⟩
        have hm := hrm (by omega)
        simp only [List.length_cons, List.length_nil] at hm
        have HF : Hid (findEnd [62] (r.drop 2) = r.drop (2 + m + 1)) := qh (by
          rw [HFE.out, if_neg hneg, List.drop_drop]
          congr 1
          try (simp only [List.length_cons, List.length_nil, Int.toNat_natCast])
          try omega)
        have hnd : decide ((0 : Int) ≤ (m : Int)) = true := decide_eq_true (by omega)
        have hk2 : k + R.size = s.size := HKS.out
        have a1 : IntKind.i64.wrap ((s.size : Int) - (D.size : Int)) = (k : Int) + 2 := by rw [IntWalk.i64_in _ (by omega)]; omega
        have a2 : IntKind.i64.wrap ((k : Int) + 2 + (m : Int)) = (k : Int) + 2 + (m : Int) := IntWalk.i64_in _ (by omega)
        have a3 : IntKind.i64.wrap ((k : Int) + 2 + (m : Int) + 1) = (k : Int) + 2 + (m : Int) + 1 := IntWalk.i64_in _ (by omega)
        have HM := qh hm
        have HDS := qh hds
        clear hrm hds hneg hge hm hk2
        go_wp2_with (go_at_call 85; refine HIX.out.mono ?_)
        rintro e w5 ⟨rfl, x5⟩
        have hb5 := (X3.out.trans x5).block HB.out
        have c0 := cellOf hb5 (i := 0) rfl
        have c1 := cellOf hb5 (i := 1) rfl
        have f1 := freeOf hb5 1
        have HB5 := qh hb5
        have X5 := qh (X3.out.trans x5)
        clear hb5 x5
        go_wp2_with fail
        go_ret
        rw [HNO.out, HF.out]
        have hz1 := HM.out
        have hz2 := HKS.out
        have hz3 := HRZ.out
        have hz4 := H2.out.2
        exact ⟨rfl, Mv.setRb (Mv.ofExt X5.out) _, Rd.moveI (k := k + 2 + m + 1) (z := (k : Int) + 2 + (m : Int) + 1) (by omega) (r := r.drop (2 + m + 1)) HB5.out (by rw [List.length_drop]; omega) (by rw [hz4, List.drop_drop]; congr 1; omega)⟩
    · have e2 : Lib.hasPrefix r (⟨#[60, 33]⟩ : ByteArray).data.toList = false := Bool.eq_false_iff.2 h2
      have HP2 := qh (fun W => e2 ▸ HP.out ⟨#[60, 33]⟩ W)
      by_cases h3 : [60, 63].isPrefixOf r = true
      · have e3 : Lib.hasPrefix r (⟨#[60, 63]⟩ : ByteArray).data.toList = true := h3
        have HP3 := qh (fun W => e3 ▸ HP.out ⟨#[60, 63]⟩ W)
        have h2l := hpl _ h3
        have hr2 : 2 ≤ R.size := by rw [HRZ.out]; exact h2l
        have b3 : (2 : Int) ≤ (R.size : Int) := by omega
        have HNO : Hid (o = some (findEnd [62] (r.drop 2))) := qh (by rw [← HO.out]; unfold noteL; rw [if_neg HN4.out, if_pos (by rw [h3, Bool.or_true])])
        clear h2 e2 h3 e3 h2l hpl
        go_wp2_with (go_at_call 84; refine (HP2.out _).mono ?_)
        rintro e w4 ⟨rfl, x4⟩
        have X4 := qh (X2.out.trans x4)
        clear x4
        go_wp2_with (go_at_call 84; refine (HP3.out _).mono ?_)
        rintro e w3 ⟨rfl, x3⟩
        have X3 := qh (X4.out.trans x3)
        clear x3
        go_upto_region 8 with fail
        rw [HCR.out]
        obtain ⟨mm, hmm⟩ := (HL.out.ext X3.out).len
        have HIX := qh (bs_data (r.drop 2) ▸ Index_any (bs (r.drop 2)) ⟨#[62]⟩ mm w3 (by rw [bs_size, List.length_drop]; have := HRZ.out; omega) hmm : Calls Tryz.prog 85 #[.string (bs (r.drop 2)), .string ⟨#[62]⟩] w3 (RVal (.int .i64 (Lib.index (r.drop 2) [62])) w3))
        have hfe := findEnd_index (t := [62]) (by decide) (r.drop 2)
        have hrm := Lib.index_room (r.drop 2) [62]
        have hge := Lib.index_ge (r.drop 2) [62]
        obtain ⟨z, hz⟩ : ∃ z, Lib.index (r.drop 2) [62] = z := ⟨_, rfl⟩
        rw [hz] at hfe hrm HIX hge
        have HD := qh (bs_size (r.drop 2))
        have hdl : (r.drop 2).length = R.size - 2 := by rw [List.length_drop, HRZ.out]
        rw [hdl] at hrm
        have hds : (bs (r.drop 2)).size = R.size - 2 := by rw [bs_size, hdl]
        obtain ⟨D, hD⟩ : ∃ D, bs (r.drop 2) = D := ⟨_, rfl⟩
        rw [hD] at HIX hds ⊢
        have HFE := qh hfe
        have HDL := qh hdl
        clear hz hD hfe hdl hmm HD
        by_cases hneg : z < 0
        · have hnd : decide ((0 : Int) ≤ z) = false := decide_eq_false (by omega)
          have HF : Hid (findEnd [62] (r.drop 2) = []) := qh (by rw [HFE.out, if_pos hneg])
          clear hrm hds
          go_wp2_with (go_at_call 85; refine HIX.out.mono ?_)
          rintro e w5 ⟨rfl, x5⟩
          have hb5 := (X3.out.trans x5).block HB.out
          have c0 := cellOf hb5 (i := 0) rfl
          have c1 := cellOf hb5 (i := 1) rfl
          have f1 := freeOf hb5 1
          have HB5 := qh hb5
          have X5 := qh (X3.out.trans x5)
          clear hb5 x5
          go_wp2_with fail
          go_ret
          rw [HNO.out, HF.out]
          exact ⟨rfl, Mv.setRb (Mv.ofExt X5.out) _, Rd.move (k := s.size) (r := []) HB5.out (by simp) (by rw [List.drop_eq_nil_of_le]; exact Nat.le_refl _)⟩
        · obtain ⟨m, rfl⟩ : ∃ m : Nat, z = (m : Int) := ⟨z.toNat, by omega⟩
          have hm := hrm (by omega)
          simp only [List.length_cons, List.length_nil] at hm
          have HF : Hid (findEnd [62] (r.drop 2) = r.drop (2 + m + 1)) := qh (by
            rw [HFE.out, if_neg hneg, List.drop_drop]
            congr 1
            try (simp only [List.length_cons, List.length_nil, Int.toNat_natCast])
            try omega)
          have hnd : decide ((0 : Int) ≤ (m : Int)) = true := decide_eq_true (by omega)
          have hk2 : k + R.size = s.size := HKS.out
          have a1 : IntKind.i64.wrap ((s.size : Int) - (D.size : Int)) = (k : Int) + 2 := by rw [IntWalk.i64_in _ (by omega)]; omega
          have a2 : IntKind.i64.wrap ((k : Int) + 2 + (m : Int)) = (k : Int) + 2 + (m : Int) := IntWalk.i64_in _ (by omega)
          have a3 : IntKind.i64.wrap ((k : Int) + 2 + (m : Int) + 1) = (k : Int) + 2 + (m : Int) + 1 := IntWalk.i64_in _ (by omega)
          have HM := qh hm
          have HDS := qh hds
          clear hrm hds hneg hge hm hk2
          go_wp2_with (go_at_call 85; refine HIX.out.mono ?_)
          rintro e w5 ⟨rfl, x5⟩
          have hb5 := (X3.out.trans x5).block HB.out
          have c0 := cellOf hb5 (i := 0) rfl
          have c1 := cellOf hb5 (i := 1) rfl
          have f1 := freeOf hb5 1
          have HB5 := qh hb5
          have X5 := qh (X3.out.trans x5)
          clear hb5 x5
          go_wp2_with fail
          go_ret
          rw [HNO.out, HF.out]
          have hz1 := HM.out
          have hz2 := HKS.out
          have hz3 := HRZ.out
          have hz4 := H2.out.2
          exact ⟨rfl, Mv.setRb (Mv.ofExt X5.out) _, Rd.moveI (k := k + 2 + m + 1) (z := (k : Int) + 2 + (m : Int) + 1) (by omega) (r := r.drop (2 + m + 1)) HB5.out (by rw [List.length_drop]; omega) (by rw [hz4, List.drop_drop]; congr 1; omega)⟩
      · have e3 : Lib.hasPrefix r (⟨#[60, 63]⟩ : ByteArray).data.toList = false := Bool.eq_false_iff.2 h3
        have HP3 := qh (fun W => e3 ▸ HP.out ⟨#[60, 63]⟩ W)
        have HNO : Hid (o = none) := qh (by rw [← HO.out]; unfold noteL; rw [if_neg HN4.out, if_neg]; rw [Bool.or_eq_true]; rintro (h | h); exact h2 h; exact h3 h)
        clear h2 e2 h3 e3 hpl
        go_wp2_with (go_at_call 84; refine (HP2.out _).mono ?_)
        rintro e w4 ⟨rfl, x4⟩
        have X4 := qh (X2.out.trans x4)
        clear x4
        go_wp2_with (go_at_call 84; refine (HP3.out _).mono ?_)
        rintro e w3 ⟨rfl, x3⟩
        have X3 := qh (X4.out.trans x3)
        clear x3
        go_wp2_with fail
        go_ret
        rw [HNO.out]
        exact ⟨rfl, Mv.ofExt X3.out, HR.out.ext X3.out⟩
theorem Mv.grown {S : Nat → Prop} {a w w' : World} {row : Option Nat} (h : Mv S a w) (hg : w.grownBy w' row) (hr : ∀ k, row = some k → k < a.heap.size → S k) : Mv S a w' :=
  ⟨hg.os.trans h.os, hg.tape.trans h.tape, hg.output.trans h.output, Nat.le_trans h.size hg.size, fun x hx hn => (hg.block x (Nat.lt_of_lt_of_le hx h.size) fun e => hn (hr x e.symm hx)).trans (h.rest x hx hn)⟩
theorem RowP.mv {S : Nat → Prop} {w w' : World} {p : Nat → Prop} {e size : Nat} {v : Value} {n : Nat} {xs : List Value} (h : RowP w p e size v n xs) (k : Mv S w w') (hp : ∀ g, p g → ¬ S g) : RowP w' p e size v n xs := by
  refine ⟨h.1, ?_⟩
  rcases h.2 with h0 | ⟨g, cap, cur, h1, h2, h3, h4⟩
  · exact .inl h0
  · exact .inr ⟨g, cap, cur, h1, h2, k.block h3 (hp g h2), h4⟩
theorem Rd.mv {S : Nat → Prop} {rb : Nat} {s : ByteArray} {r : List UInt8} {w w' : World} (h : Rd rb s r w) (k : Mv S w w') (hn : ¬ S rb) : Rd rb s r w' := by
  obtain ⟨j, h1, h2, h3⟩ := h
  exact ⟨j, h1, h2, k.block h3 hn⟩
theorem RowP.full {w : World} {p : Nat → Prop} {e size : Nat} {v : Value} {n : Nat} {xs : List Value} (h : RowP w p e size v n xs) : RowP w (fun g => p g ∧ g < w.heap.size) e size v n xs := by
  refine ⟨h.1, ?_⟩
  rcases h.2 with h0 | ⟨g, cap, cur, h1, h2, h3, h4⟩
  · exact .inl h0
  · exact .inr ⟨g, cap, cur, h1, ⟨h2, (Array.getElem?_eq_some_iff.1 h3).1⟩, h3, h4⟩
def pb (p : Part) : AttrB := (bs p.1, bs p.2)
theorem infoPart : (Tryz.prog.info? 166).map (fun i => (i.zero, i.size, i.bytes)) = some (some (.agg #[.string ByteArray.empty, .string ByteArray.empty]), 2, 32) := by kernel_rfl
def RParts (rb : Nat) (s : ByteArray) (o : Option (List Part × Bool × List UInt8)) (w : World) (e : Ending) (w' : World) : Prop :=
  match o with
  | some (l, self, t) => ∃ v, e = .returned (.tuple #[v, .int .i64 (if self then 1 else 0), .bool true]) ∧ Mv (· = rb) w w' ∧ Rd rb s t w' ∧ RowP w' (fun g => w.heap.size ≤ g) 166 2 v l.length (attrCells (l.map pb))
  | none => ∃ r', e = .returned (.tuple #[.slice none 0 0, .int .i64 0, .bool false]) ∧ Mv (· = rb) w w' ∧ Rd rb s r' w'
theorem attrCells_snoc (l : List AttrB) (a : AttrB) : attrCells (l ++ [a]) = attrCells l ++ [.string a.1, .string a.2] := by
  induction l with
  | nil => rfl
  | cons b l ih => obtain ⟨x, y⟩ := b; simp [attrCells, ih]
theorem suffix_gap (g : List UInt8) : Lib.hasSuffix g [47] = (g.getLast? == some 47) := by
  unfold Lib.hasSuffix
  rw [Bool.eq_iff_iff, List.isSuffixOf_iff_suffix, beq_iff_eq]
  constructor
  · rintro ⟨p, rfl⟩; simp
  · intro h
    obtain ⟨ne, e⟩ := List.getLast?_eq_some_iff.1 h
    exact ⟨ne, e.symm⟩
theorem part_none {c : UInt8} {r2 r5 : List UInt8} (h : (r2.dropWhile nmB).dropWhile blankB = 61 :: r5) : partL c r2 = (valueL r5).map fun ve => ((c :: r2.takeWhile nmB, ve.1), ve.2) := by
  unfold partL
  dsimp only
  rw [h]
  rfl
theorem part_bare {c : UInt8} {r2 : List UInt8} (h : headP (· == 61) ((r2.dropWhile nmB).dropWhile blankB) = false) : partL c r2 = some ((c :: r2.takeWhile nmB, []), r2.dropWhile nmB) := by
  unfold partL
  dsimp only
  split
  · rename_i r5 h5
    rw [h5] at h
    exact absurd h (by simp [headP])
  · rfl
theorem parts_any (rb : Nat) (s : ByteArray) (r : List UInt8) (w : World) (hs : s.size ≤ 1000000) (hr : Rd rb s r w) :
    Calls Tryz.prog 90 #[.pointer (some ⟨rb, 0, none⟩)] w (RParts rb s (partsL r) w) := by
  have HS := qh (show s.size ≤ 100000000000 by omega)
  have HS6 := qh hs
  have hrb := hr.lt
  have HR0 := qh hr
  obtain ⟨o, ho⟩ : ∃ o, partsL r = o := ⟨_, rfl⟩
  rw [ho]
  have HO := qh ho
  clear hs hr ho
  go_enter Tryz.func90, Tryz.ntmps90
  go_wp2_with fail
  go_loopg [2, 3, 5, 6, 7, 8, 9, 10] (s.size + 1) (fun gf lv sv _ _ _ _ _ _ wr => ∃ (acc : List Part) (r' : List UInt8), sv = .int .i64 0 ∧ Rd rb s r' wr ∧ Mv (· = rb) w wr ∧ RowP wr (fun g => w.heap.size ≤ g) 166 2 lv acc.length (attrCells (acc.map pb)) ∧ r'.length < gf ∧ acc.length + r'.length ≤ s.size ∧ (partsL r').map (fun x => (acc ++ x.1, x.2)) = o)
  case atStart =>
    obtain ⟨k, h1, _, _⟩ := HR0.out
    exact ⟨[], r, rfl, HR0.out, Mv.refl _ _, ⟨rfl, .inl ⟨rfl, none, rfl⟩⟩, by omega, by simp; omega, by rw [HO.out]; cases o <;> rfl⟩
  case round =>
    obtain ⟨acc, r', rfl, hr', hm, hrow, hgf, hal, hres⟩ := hrel
    obtain ⟨la, lcap, rfl, _⟩ := hrow.rd.len_of
    have hm0 := hm
    have HM := qh hm
    have HROW := qh hrow
    have HRES := qh hres
    have HRUN := qh (run_any rb s r' gapB _ wr HS.out hr' (isGap rb wr))
    have HGF := qh hgf
    have HAL := qh hal
    have hwr := hm.size
    clear hr' hm hrow hres hgf hal hm0
    go_wp2_with (go_at_call 51; refine HRUN.out.mono ?_)
    rintro e w1 ⟨rfl, m1, r1⟩
    have M1 := qh m1
    have R1 := qh r1
    have HONE := qh (one_any rb s (r'.dropWhile gapB) 62 62 rfl w1 HS.out r1)
    have hw1 := m1.size
    clear m1 r1
    have hPE := partsL_eq r'
    have hdl := (suf_drop gapB r').length_le
    cases hd : r'.dropWhile gapB with
    | nil =>
      have hN : o = none := by rw [← HRES.out, hPE, hd]; rfl
      rw [hd] at HONE R1
      subst hN
      clear hPE hd hdl
      go_wp2_with (go_at_call 86; refine HONE.out.mono ?_)
      rintro e w2 ⟨rfl, m2, r2⟩
      have R2 := qh r2
      have M2 := qh m2
      obtain ⟨k2, q1, q2, q3⟩ := r2
      have c0 : ∀ u : ExtOf w2, u.val.cell? ⟨rb, 0, none⟩ = some (.string s) := fun u => u.ext.cell (cellOf q3 rfl)
      have c1 : ∀ u : ExtOf w2, u.val.cell? ⟨rb, 1, none⟩ = some (.int .i64 k2) := fun u => u.ext.cell (cellOf q3 rfl)
      have hk2 : k2 = s.size := by simpa [oneL, headP] using q1
      have heq : ((k2 : Int) == (s.size : Int)) = true := by rw [hk2]; exact beq_self_eq_true _
      have heqn : (k2 == s.size) = true := by rw [hk2]; exact beq_self_eq_true _
      clear q1 q2 q3 m2 hk2
      go_upto_region 6 with fail
      refine wp_region_ext (by kernel_rfl) (by kernel_rfl) ?_
      repeat (go_big_quiet_step (fail))
      refine wpQuiet_nil ?_
      rintro _ ⟨u, rfl⟩
      go_wp2_with fail
      go_ret3
      exact ⟨_, rfl, ((HM.out.trans M1.out).trans M2.out).ext u.ext, R2.out.ext u.ext⟩
    | cons c r2 =>
      rw [hd] at HONE R1 hPE hdl
      by_cases hc : c = 62
      · subst hc
        have hP : partsL r' = some ([], (r'.takeWhile gapB).getLast? == some 47, r2) := by rw [hPE]; exact if_pos rfl
        have hON : o = some (acc, (r'.takeWhile gapB).getLast? == some 47, r2) := by rw [← HRES.out, hP]; simp
        have hone : headP (· == (62 : UInt8)) (62 :: r2) = true := rfl
        have hol : oneL 62 (62 :: r2) = r2 := rfl
        rw [hone, hol] at HONE
        have hz : (bs (r'.takeWhile gapB)).size ≤ 9223372036854775807 := by
          obtain ⟨k, q1, _, _⟩ := R1.out
          have h3 := congrArg List.length (take_drop_while gapB r')
          rw [List.length_append] at h3
          rw [bs_size]
          have := HAL.out
          have := HS6.out
          omega
        have HSF := qh (fun W => (bs_data (r'.takeWhile gapB) ▸ HasSuffix_any (bs (r'.takeWhile gapB)) ⟨#[47]⟩ W hz : Calls Tryz.prog 132 #[.string (bs (r'.takeWhile gapB)), .string ⟨#[47]⟩] W (RVal (.bool (Lib.hasSuffix (r'.takeWhile gapB) [47])) W)))
        rw [suffix_gap] at HSF
        obtain ⟨sf, hsf⟩ : ∃ b, ((r'.takeWhile gapB).getLast? == some 47) = b := ⟨_, rfl⟩
        rw [hsf] at HSF hON
        subst hON
        obtain ⟨GB, hGB⟩ : ∃ g, bs (r'.takeWhile gapB) = g := ⟨_, rfl⟩
        rw [hGB] at HSF ⊢
        clear hPE hP hd hdl hone hol hz hsf hGB
        go_wp2_with (go_at_call 86; refine HONE.out.mono ?_)
        rintro e w2 ⟨rfl, m2, r2'⟩
        have R2 := qh r2'
        have M2 := qh m2
        clear r2' m2
        have HROW2 := qh ((HROW.out.mv M1.out (by intro g hg; show ¬ g = rb; omega)).mv M2.out (by intro g hg; show ¬ g = rb; omega))
        cases sf with
        | true =>
          go_wp2_with (go_at_call 132; refine (HSF.out _).mono ?_)
          rintro e w3 ⟨rfl, x3⟩
          have X3 := qh x3
          clear x3
          go_wp2_with fail
          go_ret3
          exact ⟨_, rfl, ((HM.out.trans M1.out).trans M2.out).ext X3.out, R2.out.ext X3.out, HROW2.out.ext X3.out⟩
        | false =>
          go_wp2_with (go_at_call 132; refine (HSF.out _).mono ?_)
          rintro e w3 ⟨rfl, x3⟩
          have X3 := qh x3
          clear x3
          go_wp2_with fail
          go_ret3
          exact ⟨_, rfl, ((HM.out.trans M1.out).trans M2.out).ext X3.out, R2.out.ext X3.out, HROW2.out.ext X3.out⟩
      · have hP : partsL r' = match partL c r2 with | none => none | some (p, e) => (partsL e).map fun x => (p :: x.1, x.2) := by rw [hPE]; exact if_neg hc
        have hone : headP (· == (62 : UInt8)) (c :: r2) = false := by show (c == 62) = false; rw [beq_eq_false_iff_ne]; exact hc
        have hol : oneL 62 (c :: r2) = c :: r2 := by unfold oneL; rw [hone]; rfl
        rw [hone, hol] at HONE
        have HP := qh hP
        have HDL := qh hdl
        clear hPE hd hone hol hc hP
        go_wp2_with (go_at_call 86; refine HONE.out.mono ?_)
        rintro e w2 ⟨rfl, m2, r2'⟩
        have M2 := qh m2
        have hw2 := m2.size
        obtain ⟨k2, q1, q2, q3⟩ := r2'
        obtain ⟨hk2, hck, q4, q5⟩ := Rd.head q1 q2
        have c0 : ∀ u : ExtOf w2, u.val.cell? ⟨rb, 0, none⟩ = some (.string s) := fun u => u.ext.cell (cellOf q3 rfl)
        have c1 : ∀ u : ExtOf w2, u.val.cell? ⟨rb, 1, none⟩ = some (.int .i64 k2) := fun u => u.ext.cell (cellOf q3 rfl)
        have heq : ((k2 : Int) == (s.size : Int)) = false := by rw [beq_eq_false_iff_ne]; omega
        have heqn : (k2 == s.size) = false := by rw [beq_eq_false_iff_ne]; omega
        have HQ3 := qh q3
        have HQ := qh (And.intro q2 (And.intro q4 q5))
        clear q1 q2 q3 q4 q5 m2 hck
        go_upto_region 6 with fail
        refine wp_region_ext (by kernel_rfl) (by kernel_rfl) ?_
        repeat (go_big_quiet_step (fail))
        refine wpQuiet_nil ?_
        rintro _ ⟨u, rfl⟩
        have xu := u.ext
        obtain ⟨w3, hw3⟩ : ∃ w3, u.val = w3 := ⟨_, rfl⟩
        rw [hw3] at xu ⊢
        have hb3 := xu.block HQ3.out
        have hw3s := xu.size
        have X3 := qh xu
        clear c0 c1 hw3 xu heq heqn
        clear u
        have c1 := cellOf hb3 (i := 1) rfl
        have f1 := freeOf hb3 1
        have hwk : IntKind.i64.wrap ((k2 : Int) + 1) = (k2 : Int) + 1 := IntWalk.i64_in _ (by have := HS6.out; omega)
        have R4 := qh (Rd.move (k := k2 + 1) (r := r2) hb3 HQ.out.2.2 HQ.out.2.1)
        have M4 := qh (Mv.setRb (rb := rb) (o := 1) (Mv.refl (· = rb) w3) (.int .i64 ((k2 : Int) + 1)))
        have HRUN2 : Hid (Calls Tryz.prog 51 #[.pointer (some ⟨rb, 0, none⟩), .func (.func 133) #[] #[]] (w3.setCell ⟨rb, 1, none⟩ (.int .i64 ((k2 : Int) + 1))) (RRun rb s nmB r2 (w3.setCell ⟨rb, 1, none⟩ (.int .i64 ((k2 : Int) + 1))))) := qh (run_any rb s r2 nmB _ _ HS.out R4.out (isNm rb _))
        clear hb3
        go_wp2_with (go_at_call 51; refine HRUN2.out.mono ?_)
        rintro e w5 ⟨rfl, m5, r5⟩
        have M5 := qh (((M2.out.ext X3.out).trans M4.out).trans m5)
        have hw5 := M5.out.size
        have R5 := qh r5
        obtain ⟨k5, q1, q2, q3⟩ := r5
        have hnmz : k5 = k2 + 1 + (r2.takeWhile nmB).length := by
          have h3 := congrArg List.length (take_drop_while nmB r2)
          rw [List.length_append] at h3
          have := HQ.out.2.2
          omega
        have hcut : s.extract k2 k5 = bs (c :: r2.takeWhile nmB) := by
          have h := bs_cut s.data.toList k2 k5
          rw [bs_list] at h
          rw [h, ← HQ.out.1, hnmz, show k2 + 1 + (r2.takeWhile nmB).length - k2 = (r2.takeWhile nmB).length + 1 by omega, List.take_succ_cons]
          conv => lhs; rw [← take_drop_while nmB r2]
          rw [List.take_left' (by rw [take_drop_while])]
        have HCUT := qh hcut
        have b1 : (0 : Int) ≤ (k2 : Int) := by omega
        have b2 : (k2 : Int) ≤ (k5 : Int) := by omega
        have b3 : (k5 : Int) ≤ (s.size : Int) := by omega
        have HB5 := qh q3
        have c0 := cellOf q3 (i := 0) rfl
        have c1 := cellOf q3 (i := 1) rfl
        have hrb5 : rb < w5.heap.size := by omega
        generalize hE : s.extract k2 k5 = E at HCUT hcut
        have HE := qh hE
        obtain ⟨nm, hnm⟩ : ∃ nm, c :: r2.takeWhile nmB = nm := ⟨_, rfl⟩
        rw [hnm] at HCUT
        have HNM := qh hnm
        have HK5 := qh (And.intro q1 q2)
        clear hcut q1 q2 q3 hnmz hE hnm m5
        go_upto_region 11 with fail
        go_region
        go_upto_region 12 with fail
        first | rw [HE.out, HCUT.out] | rw [HCUT.out]
        have hx6 := ((Ext.refl w5).alloc (.cells #[.string (bs nm), .string ⟨#[]⟩] 166)).drew
        have hb6 := heap_alloc_new w5 (.cells #[.string (bs nm), .string ⟨#[]⟩] 166)
        have hb6' : (w5.alloc (.cells #[.string (bs nm), .string ⟨#[]⟩] 166)).drew.heap[w5.heap.size]? = some (.cells #[.string (bs nm), .string ⟨#[]⟩] 166 (0, 0)) := hb6
        obtain ⟨w6, hw6⟩ : ∃ w6 : World, w6 = (w5.alloc (.cells #[.string (bs nm), .string ⟨#[]⟩] 166)).drew := ⟨_, rfl⟩
        rw [← hw6] at hx6 hb6' ⊢
        clear hw6 hb6 c0 c1
        have hrow5 := (((HROW.out.mv M1.out (by intro g hg; show ¬ g = rb; omega)).mv M5.out (by intro g hg; show ¬ g = rb; omega))).full
        obtain ⟨bx, hbx⟩ : ∃ bx, w5.heap.size = bx := ⟨_, rfl⟩
        rw [hbx] at hb6' hrow5 ⊢
        have hbxw : w.heap.size ≤ bx := by omega
        have HROW6 := qh (hrow5.ext hx6)
        have M6 := qh ((((HM.out.trans M1.out)).trans M5.out).ext hx6)
        have hb6 := hx6.block HB5.out
        have c1 := cellOf hb6 (i := 1) rfl
        have BX6 := qh hb6'
        have R6 := R5.out.ext hx6
        have HRUN3 := qh (run_any rb s (r2.dropWhile nmB) blankB _ w6 HS.out R6 (isBlank rb w6))
        have hbr : bx ≠ rb := by omega
        clear hb6 hb6' hx6 hrow5 hbx R6 hrb5
        go_wp2_with (go_at_call 51; refine HRUN3.out.mono ?_)
        rintro e w7 ⟨rfl, m7, r7⟩
        have M7 := qh m7
        have R7 := qh r7
        have HONE7 := qh (one_any rb s ((r2.dropWhile nmB).dropWhile blankB) 61 61 rfl w7 HS.out r7)
        have hd1 := (suf_drop nmB r2).length_le
        clear m7 r7 c1
        cases h61 : headP (· == 61) ((r2.dropWhile nmB).dropWhile blankB) with
        | false =>
          rw [h61] at HONE7
          have HPL : Hid (partL c r2 = some ((nm, []), r2.dropWhile nmB)) := qh (by rw [part_bare h61, HNM.out])
          clear h61
          go_wp2_with (go_at_call 86; refine HONE7.out.mono ?_)
          rintro e w8 ⟨rfl, m8, r8⟩
          have m78 := M7.out.trans m8
          obtain ⟨k8, _, _, q8⟩ := r8
          have f1 := freeOf q8 1
          have c1 := cellOf q8 (i := 1) rfl
          have hb8 := m78.block BX6.out hbr
          have hrow8 := HROW6.out.mv m78 (by intro g hg; show ¬ g = rb; omega)
          have h5 : k5 + (r2.dropWhile nmB).length = s.size ∧ r2.dropWhile nmB = s.data.toList.drop k5 := HK5.out
          have R9 := qh (Rd.move (k := k5) (r := r2.dropWhile nmB) q8 h5.1 h5.2)
          have M9 := qh (Mv.setRb (rb := rb) (o := 1) (M6.out.trans m78) (.int .i64 (k5 : Int)))
          have hset := Mv.setRb (rb := rb) (o := 1) (Mv.refl (· = rb) w8) (.int .i64 (k5 : Int))
          have hb9 := hset.block hb8 hbr
          have HROW9 := qh (hrow8.mv hset (by intro g hg; show ¬ g = rb; omega))
          have cx0 := cellOf hb9 (i := 0) rfl
          have cx1 := cellOf hb9 (i := 1) rfl
          clear m8 q8 m78 hb8 hrow8 h5 hset hb9
          go_upto_region 20 with fail
          obtain ⟨w9, hw9⟩ : ∃ w9 : World, w9 = w8.setCell ⟨rb, 1, none⟩ (.int .i64 (k5 : Int)) := ⟨_, rfl⟩
          rw [← hw9] at R9 M9 HROW9 cx0 cx1 ⊢
          clear hw9 f1 c1
          have he9 : (r2.dropWhile nmB).length ≤ r2.length := by omega
          have HRES9 : Hid ((partsL (r2.dropWhile nmB)).map (fun x => ((acc ++ [(nm, [])]) ++ x.1, x.2)) = o) := qh (by
            rw [← HRES.out, HP.out, HPL.out]
            dsimp only
            cases partsL (r2.dropWhile nmB) with
            | none => rfl
            | some y => simp)
          have hl1 := HDL.out
          simp only [List.length_cons] at hl1
          have hl2 := HAL.out
          have hl3 := HS6.out
          obtain ⟨i0, hi, hz0, hz1, hz2⟩ := info_parts infoPart
          have hxa := (Ext.refl w9).alloc (.cells #[.string (bs nm), .string (bs [])] 166)
          have hrA := HROW9.out.ext hxa
          have hna := heap_alloc_new w9 (.cells #[.string (bs nm), .string (bs [])] 166)
          obtain ⟨v', wB, row, hrunB, hrB, hgB, hrowB⟩ := run_append_row (P := Tryz.prog) (w9.alloc (.cells #[.string (bs nm), .string (bs [])] 166)) 130 130 166 i0 _ 2 32 Tryz.underlying130 hi hz0 hz1 hz2 (by kernel_rfl) (by decide)
            hrA ⟨w9.heap.size, 0, none⟩ 1 1 [.string (bs nm), .string (bs [])] rfl (by
              intro j u hj
              rw [Addr.add_lit, Nat.zero_add]
              exact cellOf hna (by simpa using hj)) (by intro u hu; simp at hu; rcases hu with rfl | rfl <;> rfl) (by decide) (by unfold maxLen; omega) (by omega)
          have MB := qh ((M9.out.ext hxa).grown hgB (by
            intro z hz hlt
            have h1 := (hrowB z hz).1
            omega))
          have R11 := qh ((R9.out.ext hxa).mv (Mv.grown (Mv.refl (fun x => row = some x) _) hgB fun z hz _ => hz) (by
            intro h
            have h1 := (hrowB rb h).1
            omega))
          obtain ⟨a7, cap7, e7, _⟩ := hrB.rd.len_of
          subst e7
          have HRB := qh hrunB
          have HFIN := qh (RowP.imp hrB (q := fun g => w.heap.size ≤ g) (by
            intro g _ hg
            have h9 := M9.out.size
            have h8 : (w9.alloc (.cells #[.string (bs nm), .string (bs [])] 166)).heap.size = w9.heap.size + 1 := by simp
            rcases hg with ⟨h1, _⟩ | h1
            · exact h1
            · omega))
          have HNS : Hid (attrCells (acc.map pb) ++ [.string (bs nm), .string (bs [])] = attrCells ((acc ++ [(nm, [])]).map pb)) := qh (by rw [List.map_append, List.map_cons, List.map_nil, attrCells_snoc]; rfl)
          have HLE := qh he9
          clear hrunB hrB hgB hrowB hi hz0 hz1 hz2 hxa hrA hna he9
          go_wp2_with (at_builtin; refine wpList_append_run _ rfl _ _ 130 rfl _ _ rfl rfl _ _ HRB.out ?_)
          obtain ⟨g', rfl⟩ : ∃ g', gk = g' + 1 := ⟨gk - 1, by have := HGF.out; omega⟩
          go_roundg g'
          case measure => omega
          case rel => exact ⟨acc ++ [(nm, [])], r2.dropWhile nmB, rfl, R11.out, MB.out, by rw [← HNS.out, List.length_append]; exact HFIN.out, by have := HGF.out; have := HLE.out; omega, by have := HLE.out; rw [List.length_append, List.length_cons, List.length_nil]; omega, HRES9.out⟩
        | true =>
          rw [h61] at HONE7
          obtain ⟨r5, hr5⟩ : ∃ r5, (r2.dropWhile nmB).dropWhile blankB = 61 :: r5 := by
            cases hq : (r2.dropWhile nmB).dropWhile blankB with
            | nil => rw [hq] at h61; cases h61
            | cons y q =>
              rw [hq] at h61
              have : y = 61 := by simpa [headP] using h61
              exact ⟨q, by rw [this]⟩
          have hd5 := (suf_drop blankB (r2.dropWhile nmB)).length_le
          rw [hr5] at hd5
          simp only [List.length_cons] at hd5
          have hol : oneL 61 (61 :: r5) = r5 := rfl
          rw [hr5, hol] at HONE7
          have HPV := qh (part_none (c := c) hr5)
          clear h61 hr5 hol
          go_wp2_with (go_at_call 86; refine HONE7.out.mono ?_)
          rintro e w8 ⟨rfl, m8, r8⟩
          have M8 := qh (M7.out.trans m8)
          have HVAL := qh (value_any rb s r5 w8 HS.out r8)
          clear m8 r8
          cases hv : valueL r5 with
          | none =>
            have HN : Hid (o = none) := qh (by rw [← HRES.out, HP.out, HPV.out, hv]; rfl)
            rw [hv] at HVAL
            clear hv
            go_wp2_with (go_at_call 134; refine HVAL.out.mono ?_)
            rintro e w10 ⟨x, r10, rfl, m10, q10⟩
            have M10 := qh m10
            have R10 := qh q10
            clear m10 q10
            go_wp2_with fail
            go_ret3
            rw [HN.out]
            exact ⟨r10, rfl, (M6.out.trans M8.out).trans M10.out, R10.out⟩
          | some ve =>
            obtain ⟨v, e5⟩ := ve
            rw [hv] at HVAL
            have HPL : Hid (partL c r2 = some ((nm, v), e5)) := qh (by rw [HPV.out, hv, ← HNM.out]; rfl)
            have he5 := (valueL_suf hv).length_le
            clear hv
            go_wp2_with (go_at_call 134; refine HVAL.out.mono ?_)
            rintro e w10 ⟨rfl, m10, q10⟩
            have m810 := M8.out.trans m10
            have hb10 := m810.block BX6.out hbr
            have f10 := freeOf hb10 1
            have R9 := qh (q10.mv (Mv.setCell (S := (· = bx)) (p := ⟨bx, 1, none⟩) (Mv.refl (· = bx) w10) (fun _ => rfl) (.string (bs v))) (by show ¬ rb = bx; omega))
            have hrow10 := HROW6.out.mv m810 (by intro g hg; show ¬ g = rb; omega)
            have HROW9 := qh (hrow10.mv (Mv.setCell (S := (· = bx)) (p := ⟨bx, 1, none⟩) (Mv.refl (· = bx) w10) (fun _ => rfl) (.string (bs v))) (by intro g hg; show ¬ g = bx; omega))
            have M9 := qh (Mv.setCell (p := ⟨bx, 1, none⟩) (M6.out.trans m810) (by intro h; exact absurd h (by show ¬ bx < w.heap.size; omega)) (.string (bs v)))
            have hb9 := heap_setCell_same (i := 1) hb10 (.string (bs v))
            have cx0 := cellOf hb9 (i := 0) (v := .string (bs nm)) rfl
            have cx1 := cellOf hb9 (i := 1) (v := .string (bs v)) rfl
            have cy0 := cellOf hb10 (i := 0) rfl
            have cy1 := cellOf hb10 (i := 1) rfl
            clear m10 q10 m810 hrow10 hb10 hb9
            go_upto_region 20 with fail
            obtain ⟨w9, hw9⟩ : ∃ w9 : World, w9 = w10.setCell ⟨bx, 1, none⟩ (.string (bs v)) := ⟨_, rfl⟩
            rw [← hw9] at R9 M9 HROW9 cx0 cx1 ⊢
            clear hw9 f10 cy0 cy1
            have he9 : (e5).length ≤ r2.length := by omega
            have HRES9 : Hid ((partsL (e5)).map (fun x => ((acc ++ [(nm, v)]) ++ x.1, x.2)) = o) := qh (by
              rw [← HRES.out, HP.out, HPL.out]
              dsimp only
              cases partsL (e5) with
              | none => rfl
              | some y => simp)
            have hl1 := HDL.out
            simp only [List.length_cons] at hl1
            have hl2 := HAL.out
            have hl3 := HS6.out
            obtain ⟨i0, hi, hz0, hz1, hz2⟩ := info_parts infoPart
            have hxa := (Ext.refl w9).alloc (.cells #[.string (bs nm), .string (bs v)] 166)
            have hrA := HROW9.out.ext hxa
            have hna := heap_alloc_new w9 (.cells #[.string (bs nm), .string (bs v)] 166)
            obtain ⟨v', wB, row, hrunB, hrB, hgB, hrowB⟩ := run_append_row (P := Tryz.prog) (w9.alloc (.cells #[.string (bs nm), .string (bs v)] 166)) 130 130 166 i0 _ 2 32 Tryz.underlying130 hi hz0 hz1 hz2 (by kernel_rfl) (by decide)
              hrA ⟨w9.heap.size, 0, none⟩ 1 1 [.string (bs nm), .string (bs v)] rfl (by
                intro j u hj
                rw [Addr.add_lit, Nat.zero_add]
                exact cellOf hna (by simpa using hj)) (by intro u hu; simp at hu; rcases hu with rfl | rfl <;> rfl) (by decide) (by unfold maxLen; omega) (by omega)
            have MB := qh ((M9.out.ext hxa).grown hgB (by
              intro z hz hlt
              have h1 := (hrowB z hz).1
              omega))
            have R11 := qh ((R9.out.ext hxa).mv (Mv.grown (Mv.refl (fun x => row = some x) _) hgB fun z hz _ => hz) (by
              intro h
              have h1 := (hrowB rb h).1
              omega))
            obtain ⟨a7, cap7, e7, _⟩ := hrB.rd.len_of
            subst e7
            have HRB := qh hrunB
            have HFIN := qh (RowP.imp hrB (q := fun g => w.heap.size ≤ g) (by
              intro g _ hg
              have h9 := M9.out.size
              have h8 : (w9.alloc (.cells #[.string (bs nm), .string (bs v)] 166)).heap.size = w9.heap.size + 1 := by simp
              rcases hg with ⟨h1, _⟩ | h1
              · exact h1
              · omega))
            have HNS : Hid (attrCells (acc.map pb) ++ [.string (bs nm), .string (bs v)] = attrCells ((acc ++ [(nm, v)]).map pb)) := qh (by rw [List.map_append, List.map_cons, List.map_nil, attrCells_snoc]; rfl)
            have HLE := qh he9
            clear hrunB hrB hgB hrowB hi hz0 hz1 hz2 hxa hrA hna he9
            go_wp2_with (at_builtin; refine wpList_append_run _ rfl _ _ 130 rfl _ _ rfl rfl _ _ HRB.out ?_)
            obtain ⟨g', rfl⟩ : ∃ g', gk = g' + 1 := ⟨gk - 1, by have := HGF.out; omega⟩
            go_roundg g'
            case measure => omega
            case rel => exact ⟨acc ++ [(nm, v)], e5, rfl, R11.out, MB.out, by rw [← HNS.out, List.length_append]; exact HFIN.out, by have := HGF.out; have := HLE.out; omega, by have := HLE.out; rw [List.length_append, List.length_cons, List.length_nil]; omega, HRES9.out⟩
end Go.Proofs.YtalaajbajgdglaaGreatDoor
