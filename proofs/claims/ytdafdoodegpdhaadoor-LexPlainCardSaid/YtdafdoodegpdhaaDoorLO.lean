/- The document's lexer (14): Decode: what any bytes stand for. Conditions: at most 10^10 bytes. -/
import Derived.Test.YtdafdoodegpdhaaDoorLN
namespace Go.Proofs.YtdafdoodegpdhaaDoor
open Go Go.RowKit Go.BigFrame
set_option linter.unusedVariables false
set_option linter.unusedSimpArgs false

theorem setCells_other (g : Nat) : ∀ (news : List Value) (o : Nat) (w : World) (b : Nat), b ≠ g → (w.setCells g o news).heap[b]? = w.heap[b]? := by
  intro news
  induction news with
  | nil => intro o w b hb; rfl
  | cons v r ih => intro o w b hb; exact (ih (o + 1) (w.setCell ⟨g, o, none⟩ v) b hb).trans (heap_setCell_other (p := ⟨g, o, none⟩) v hb)
/-- .. and the other blocks stay -/
def Oth (v v' : Value) (w w' : World) : Prop := ∀ g n c, v = .slice (some ⟨g, 0, none⟩) n c →
  (∀ b, b < w.heap.size → b ≠ g → w'.heap[b]? = w.heap[b]?) ∧ w.heap.size ≤ w'.heap.size ∧ ∀ g' n' c', v' = .slice (some ⟨g', 0, none⟩) n' c' → g' = g ∨ w.heap.size ≤ g'
/-- bytes appended; the other blocks stay -/
theorem run_buf2 {W0 w : World} {v : Value} {l : List UInt8} (h : Buf W0 v l w) {tx : TypeId} {x : Value} {l2 : List UInt8} (ty : TypeId) (hs : Src Tryd.prog 1 tx x l2.length (Lib.byteCells l2) w) (hlen : l.length + l2.length ≤ 140737488355328) :
    ∃ v' w', (Builtin.append_ #[30, tx] ty #[v, x]).run Tryd.prog w = .ok v' w' ∧ Buf W0 v' (l ++ l2) w' ∧ Oth v v' w w' := by
  have hcells : ∀ g n cap, v = .slice (some ⟨g, 0, none⟩) n cap → ∀ j u, (Lib.byteCells l)[j]? = some u → w.cell? ((⟨g, 0, none⟩ : Addr).add j) = some u := fun g n cap hv => h.cells hv
  obtain ⟨v', w', hrun, hb⟩ := run_buf h ty hs hlen
  refine ⟨v', w', hrun, hb, ?_⟩
  obtain ⟨g, cap, cur, fz, rfl, h2, h3, h4, h5, h6, h7, h8, h9, h10⟩ := h
  obtain ⟨i0, hi, hz0, hz1, hz2⟩ := info_parts infoByte
  have hl2 : (Lib.byteCells l2).length = l2.length := Lib.byteCells_length l2
  have hl1 : (Lib.byteCells l).length = l.length := Lib.byteCells_length l
  have hlt : g < w.heap.size := (Array.getElem?_eq_some_iff.1 h3).1
  by_cases hroom : l.length + l2.length ≤ cap
  · have hr := run_append_room_src (P := Tryd.prog) (w := w) 30 tx ty 5 i0 Tryd.underlying30 hi g 0 l.length cap x l2.length (Lib.byteCells l2) (by rw [hz1]; exact hs) hroom
      (by
        intro j hj
        rw [hz1, Nat.zero_add, Nat.mul_one]
        have : l.length + j < cur.size := by omega
        rw [cellOf h3 (i := l.length + j) (v := cur[l.length + j]) (by simp [this])]; rfl)
      (by
        intro j hj
        rw [hz1, Nat.zero_add, Nat.mul_one]
        unfold World.frozen?
        simp only [h3]
        rcases h4 with h4 | h4 <;> simp <;> omega)
    rw [hz1, Nat.mul_one, Nat.zero_add] at hr
    rw [hr] at hrun
    injection hrun with e1 e2
    subst e1
    subst e2
    intro g0 n0 c0 e
    cases e
    exact ⟨fun b hb1 hb2 => setCells_other g _ _ _ _ hb2, by rw [size_sc]; exact Nat.le_refl _, fun g' n' c' e => by cases e; exact .inl rfl⟩
  · have hold : (Builtin.firstCells i0.size l.length (.slice (some ⟨g, 0, none⟩) l.length cap)).run Tryd.prog w.drew = .ok (Lib.byteCells l).toArray w.drew := by
      rw [hz1]
      exact run_firstCells_some w.drew 1 l.length ⟨g, 0, none⟩ l.length cap (Lib.byteCells l) (by omega) (by simpa using hcells g _ _ rfl)
    have hr := run_append_grow_src (P := Tryd.prog) (w := w) 30 tx ty 5 i0 (.int .u8 0) Tryd.underlying30 hi hz0 (some ⟨g, 0, none⟩) l.length cap (Lib.byteCells l) hold x l2.length (Lib.byteCells l2) (by rw [hz1]; exact hs) (by omega) (by omega) (by rw [hz2]; exact growslice_fits (by omega) (by omega))
    rw [hr] at hrun
    injection hrun with e1 e2
    subst e1
    subst e2
    intro g0 n0 c0 e
    cases e
    exact ⟨fun b hb1 hb2 => Below.block ((Ext.refl w).drew.alloc _) b hb1, Ext.size ((Ext.refl w).drew.alloc _), fun g' n' c' e => by cases e; exact .inr (Nat.le_refl _)⟩
section
variable {ops : Array Oper} {rest : List Oper} {o : Oper} {a : Act} {Q : Exit → Act → World → Prop}
theorem wpB_text2 {w : World} (hgd : o.guard = none) (sl x : Operand) (ho : o.op = .call { callee := .builtin .append, args := #[sl, x], argTypes := #[30, 9] })
    (v : Value) (l : List UInt8) (hs : a.eval sl = v) (W0 : World) (hb : Buf W0 v l w) (s : ByteArray) (hx : a.eval x = .string s) (hlen : l.length + s.size ≤ 140737488355328)
    (l' : List UInt8) (hl : l ++ s.data.toList = l') (h : ∀ v' w', Buf W0 v' l' w' → Oth v v' w w' → wpList Tryd.prog ops Q rest (a.put o.dst v') w') : wpList Tryd.prog ops Q (o :: rest) a w := by
  refine wpList_plain hgd fun K hK => ?_
  obtain ⟨v', w', hr, hb', ho'⟩ := run_buf2 hb (x := .string s) (l2 := s.data.toList) o.type (Src.ofString w Tryd.underlying9 s) hlen
  subst hl
  unfold Oper.wp execOp
  simp only [ho, resolve, invoke, builtin, Sem.run_bind, Sem.run_pure, Result.andThen_ok, List.map_toArray, List.map_cons, List.map_nil, hs, hx, hr]
  exact hK _ _ (h v' w' hb' ho')
end
def nmA : Array Value := #[.string ⟨#[38, 97, 109, 112, 59]⟩, .string ⟨#[38, 108, 116, 59]⟩, .string ⟨#[38, 103, 116, 59]⟩, .string ⟨#[38, 113, 117, 111, 116, 59]⟩, .string ⟨#[38, 97, 112, 111, 115, 59]⟩, .string ⟨#[38, 110, 98, 115, 112, 59]⟩]
def meA : Array Value := #[.string ⟨#[38]⟩, .string ⟨#[60]⟩, .string ⟨#[62]⟩, .string ⟨#[34]⟩, .string ⟨#[39]⟩, .string ⟨#[194, 160]⟩]
theorem namesR_at {n : Nat} (h : n < 6) : ∃ nm me, namesR[n]? = some (nm, me) ∧ nmA[n]? = some (.string (bs nm)) ∧ meA[n]? = some (.string (bs me)) ∧ 0 < nm.length ∧ nm.length ≤ 6 := by
  rcases (show n = 0 ∨ n = 1 ∨ n = 2 ∨ n = 3 ∨ n = 4 ∨ n = 5 by omega) with rfl | rfl | rfl | rfl | rfl | rfl
  · exact ⟨nm0, [38], rfl, rfl, rfl, by decide, by decide⟩
  · exact ⟨nm1, [60], rfl, rfl, rfl, by decide, by decide⟩
  · exact ⟨nm2, [62], rfl, rfl, rfl, by decide, by decide⟩
  · exact ⟨nm3, [34], rfl, rfl, rfl, by decide, by decide⟩
  · exact ⟨nm4, [39], rfl, rfl, rfl, by decide, by decide⟩
  · exact ⟨nm5, [194, 160], rfl, rfl, rfl, by decide, by decide⟩
theorem fold_snoc {r : List UInt8} {n : Nat} {p : List UInt8 × List UInt8} (h : namesR[n]? = some p) (z : List UInt8 × Nat) : (namesR.take (n + 1)).foldl (nameStep r) z = nameStep r ((namesR.take n).foldl (nameStep r) z) p := by
  obtain ⟨hn, e⟩ := List.getElem?_eq_some_iff.1 h
  rw [List.take_succ_eq_append_getElem hn, List.foldl_append, e]
  rfl
def nrOk (p : List UInt8 × Nat) : Prop := p.2 ≤ 6 ∧ p.1.length ≤ 2
theorem named_len (r : List UInt8) : ∀ (l : List (List UInt8 × List UInt8)) (z : List UInt8 × Nat), (∀ p ∈ l, p.1.length ≤ 6) → z.2 ≤ 6 → (l.foldl (nameStep r) z).2 ≤ 6 := by
  intro l
  induction l with
  | nil => intro z _ h; exact h
  | cons p l ih =>
    intro z hp hz
    rw [List.foldl_cons]
    refine ih _ (fun q hq => hp q (by simp [hq])) ?_
    unfold nameStep
    split
    · exact hp p (by simp)
    · exact hz
theorem refN_bound (base most : Nat) (l : List UInt8) : refN base most l ≤ 1114111 := by
  unfold refN
  cases h : codeN base most l with
  | none => dsimp only; omega
  | some n =>
    dsimp only
    unfold codeN at h
    split at h
    · cases h
    · rw [Option.filter_eq_some_iff] at h
      have := of_decide_eq_true (show decide _ = true from h.2)
      omega
/-- one round of the scan -/
theorem scan_step {p : List UInt8} {j f : Nat} {c : UInt8} (h : p[j]? = some c) (hc : c ≠ 59) : scanE (f + 1) (p.drop j) = scanE f (p.drop (j + 1)) + 1 := by
  obtain ⟨hj, e⟩ := List.getElem?_eq_some_iff.1 h
  rw [List.drop_eq_getElem_cons hj, e, scanE, if_neg hc]
theorem scan_stop {p : List UInt8} {j f : Nat} (h : p[j]? = some 59) : scanE f (p.drop j) = 0 := by
  obtain ⟨hj, e⟩ := List.getElem?_eq_some_iff.1 h
  rw [List.drop_eq_getElem_cons hj, e]
  cases f <;> simp [scanE]
theorem scan_over {p : List UInt8} {j f : Nat} (h : p.length ≤ j) : scanE f (p.drop j) = 0 := by
  rw [List.drop_eq_nil_of_le h]
  cases f <;> rfl
set_option maxHeartbeats 4000000 in
set_option maxRecDepth 100000 in
theorem rDecode_any (s : ByteArray) (hs : s.size ≤ 10000000000) (w : World) : Calls Tryd.prog 20 #[.string s] w (RVal (.string (bs (decL (anewB s).data.toList))) w) := by
  have HA := Lib.hid (Anew_big s (by omega) w)
  have hts := anewB_size s
  obtain ⟨t, ht⟩ : ∃ t, anewB s = t := ⟨_, rfl⟩
  rw [ht] at HA hts ⊢
  obtain ⟨l, hl⟩ : ∃ l, t.data.toList = l := ⟨_, rfl⟩
  have hz : l.length = t.size := by rw [← hl]; rfl
  rw [hl]
  obtain ⟨out, ho⟩ : ∃ out, decL l = out := ⟨_, rfl⟩
  have hol : out.length ≤ 160000000000 := by
    have := decL_len l
    rw [ho] at this
    omega
  rw [ho]
  have HOL := Lib.hid hol
  have HO := Lib.hid ho
  have HLL := Lib.hid hl
  have HZ := Lib.hid hz
  have HTS := Lib.hid (show t.size ≤ 40000000000 by omega)
  clear ht hts hs ho hol hl hz
  go_enter Tryd.func20, Tryd.ntmps20
  go_wp2_with (go_at_call 22; refine HA.out.mono ?_)
  rintro e w1 ⟨rfl, x1⟩
  have X1 := Lib.hid x1
  have HB1 := Lib.hid (Buf.new w1)
  have XA := Lib.hid ((Ext.refl w1).alloc (.cells #[] 5))
  clear x1
  go_upto_region 3 with fail
  obtain ⟨wa, hwa⟩ : ∃ wa : World, wa = w1.alloc (.cells #[] 5) := ⟨_, rfl⟩
  rw [← hwa] at HB1 XA ⊢
  have hsz1 : w1.heap.size < wa.heap.size := by rw [hwa]; simp
  clear hwa
  have HNB := Lib.hid (heap_alloc_new wa (.cells nmA 9))
  have XB := Lib.hid ((Ext.refl wa).alloc (.cells nmA 9))
  go_upto_region 4 with fail
  obtain ⟨wb, hwb⟩ : ∃ wb : World, wb = wa.alloc (.cells nmA 9) := ⟨_, rfl⟩
  unfold nmA at hwb
  rw [← hwb]
  have HWB := Lib.hid hwb
  have hsz2 : wa.heap.size < wb.heap.size := by rw [hwb]; simp
  clear hwb
  have HMB := Lib.hid (heap_alloc_new wb (.cells meA 9))
  have XC := Lib.hid ((Ext.refl wb).alloc (.cells meA 9))
  go_upto_region 5 with fail
  obtain ⟨wc, hwc⟩ : ∃ wc : World, wc = wb.alloc (.cells meA 9) := ⟨_, rfl⟩
  unfold meA at hwc
  rw [← hwc]
  have HWC := Lib.hid hwc
  clear hwc
  obtain ⟨G0, hG0⟩ : ∃ g, w1.heap.size = g := ⟨_, rfl⟩
  obtain ⟨G1, hG1⟩ : ∃ g, wa.heap.size = g := ⟨_, rfl⟩
  obtain ⟨G2, hG2⟩ : ∃ g, wb.heap.size = g := ⟨_, rfl⟩
  have xb : Ext wa wb := by have h := XB.out; rw [HWB.out]; exact h
  have xc : Ext wb wc := by have h := XC.out; rw [HWC.out]; exact h
  have hnb : wb.heap[wa.heap.size]? = some (.cells nmA 9 (0, 0)) := by have h := HNB.out; rw [HWB.out]; exact h
  have hmb : wc.heap[wb.heap.size]? = some (.cells meA 9 (0, 0)) := by have h := HMB.out; rw [HWC.out]; exact h
  rw [hG1] at hnb
  rw [hG2] at hmb
  have HB3 : Hid (Buf w1 (.slice (some ⟨G0, 0, none⟩) 0 0) [] wc) := Lib.hid (by have h := HB1.out; rw [hG0] at h; exact (h.ext xb).ext xc)
  have HN3 := Lib.hid (xc.block hnb)
  have HM3 := Lib.hid hmb
  clear xb xc hnb hmb
  have HGG := Lib.hid (show G0 < G1 ∧ G1 < G2 by omega)
  clear HB1 XA HNB XB HMB XC HWB HWC
  rw [hG0, hG1, hG2]
  clear hG0 hG1 hG2 hsz1 hsz2
  go_wp2_with fail
  go_loopw [3, 6, 7, 8, 9, 10, 11] (fun ov i _ _ _ _ _ wr => ∃ (k : Nat) (acc : List UInt8), k ≤ t.size ∧ i = .int .i64 k ∧ (∃ g cap, ov = .slice (some ⟨g, 0, none⟩) acc.length cap ∧ g ≠ G1 ∧ g ≠ G2) ∧ Buf w1 ov acc wr ∧ acc ++ decL (l.drop k) = out ∧ wr.heap[G1]? = some (.cells nmA 9 (0, 0)) ∧ wr.heap[G2]? = some (.cells meA 9 (0, 0))) (fun _ i _ _ _ _ _ _ => t.size - (intOf i).toNat)
  case atStart => exact ⟨0, [], Nat.zero_le _, rfl, ⟨_, _, rfl, by have := HGG.out; omega, by have := HGG.out; omega⟩, HB3.out, by rw [List.drop_zero, HO.out]; rfl, HN3.out, HM3.out⟩
  case round =>
    obtain ⟨k, acc, hk, rfl, ⟨g, cap, rfl, hg1, hg2⟩, hb, hacc, hn, hm⟩ := hrel
    have HBR := Lib.hid hb
    have HACC := Lib.hid hacc
    have HN := Lib.hid hn
    have HM := Lib.hid hm
    have HG := Lib.hid (And.intro hg1 hg2)
    have HLA := Lib.hid (Nat.le_trans (pre_len hacc) HOL.out)
    have hts : t.size ≤ 40000000000 := HTS.out
    clear hb hacc hn hm hg1 hg2
    by_cases hlt : k < t.size
    · obtain ⟨c, q, hcq⟩ : ∃ c q, l.drop k = c :: q := ⟨_, _, List.drop_eq_getElem_cons (by have := HZ.out; omega)⟩
      have hcut : ∀ i j, t.extract i j = bs ((l.drop i).take (j - i)) := fun i j => by
        have h := bs_cut t.data.toList i j
        rw [bs_list, HLL.out] at h; exact h
      have HCUT := Lib.hid hcut
      have HCQ := Lib.hid hcq
      have hx0 : t.extract k (k + 1) = bs [c] := by rw [hcut, hcq, Nat.add_sub_cancel_left]; rfl
      have HX0 := Lib.hid hx0
      have hw1 : IntKind.i64.wrap ((k : Int) + 1) = (k : Int) + 1 := IntWalk.i64_in _ (by omega)
      have b0 : (0 : Int) ≤ (k : Int) := by omega
      have d0 : decide ((k : Int) < (t.size : Int)) = true := decide_eq_true (by omega)
      have d0n : decide (k < t.size) = true := decide_eq_true hlt
      have b1 : (k : Int) ≤ (k : Int) + 1 := by omega
      have b2 : (k : Int) + 1 ≤ (t.size : Int) := by omega
      have hkn : ((k : Int) + 1).toNat = k + 1 := by omega
      generalize hEx : t.extract k (k + 1) = Ex at HX0 hx0
      have HEX := Lib.hid hEx
      clear hcq hcut hx0
      go_wp2_with fail
      rw [HX0.out]
      go_loopw [7, 8, 9] (fun kv xv nv wi => ∃ (n : Nat) (p : List UInt8 × Nat), n ≤ 6 ∧ nv = .int .i64 n ∧ xv = .string (bs p.1) ∧ kv = .int .i64 p.2 ∧ p = (namesR.take n).foldl (nameStep (c :: q)) ([c], 1) ∧ Ext wr wi) (fun _ _ nv _ => 6 - (intOf nv).toNat)
      case atStart => exact ⟨0, _, Nat.zero_le _, rfl, rfl, rfl, rfl, Ext.refl _⟩
      case round =>
        obtain ⟨n, p, hn6, rfl, rfl, rfl, hp, xi⟩ := hrel
        have HP := Lib.hid hp
        have XI := Lib.hid xi
        by_cases hn : n < 6
        · obtain ⟨nm, me, e1, e2, e3, e4, e5⟩ := namesR_at hn
          have q1 := cellOf (xi.block HN.out) e2
          have q2 := cellOf (xi.block HM.out) e3
          have HBG := Lib.hid (fun W => begins_any t (bs nm) k (by omega) (by rw [bs_size]; exact e4) (by rw [bs_size]; omega) (by omega) W)
          have hbl : beginsL t.data.toList k (bs nm).data.toList = decide ((c :: q).take nm.length = nm) := by unfold beginsL; rw [HLL.out, HCQ.out, bs_data]
          rw [hbl] at HBG
          have HST := Lib.hid (fold_snoc (r := c :: q) e1 ([c], 1))
          have hnz : (bs nm).size = nm.length := bs_size nm
          have HNZ := Lib.hid hnz
          clear e1 e2 e3 hbl hp xi hnz
          obtain ⟨bn, hbn⟩ : ∃ b, bs nm = b := ⟨_, rfl⟩
          rw [hbn] at q1 HBG HNZ
          clear hbn
          by_cases hd : (c :: q).take nm.length = nm
          · rw [decide_eq_true hd] at HBG
            have HNS : Hid (nameStep (c :: q) p (nm, me) = (me, nm.length)) := Lib.hid (by unfold nameStep; rw [if_pos hd])
            clear hd
            go_wp2_with (go_at_call 41; refine (HBG.out _).mono ?_)
            rintro e w2 ⟨rfl, x2⟩
            have q1' := x2.cell q1
            have q2' := x2.cell q2
            have X2 := Lib.hid (XI.out.trans x2)
            clear x2 q1 q2
            go_wp2_with fail
            go_roundw
            case rel => exact ⟨n + 1, (me, nm.length), by omega, by go_num, rfl, by rw [← HNZ.out], by rw [HST.out, ← HP.out, HNS.out], X2.out⟩
            case measure => simp [intOf]; omega
          · rw [decide_eq_false hd] at HBG
            have HNS : Hid (nameStep (c :: q) p (nm, me) = p) := Lib.hid (by unfold nameStep; rw [if_neg hd])
            clear hd
            go_wp2_with (go_at_call 41; refine (HBG.out _).mono ?_)
            rintro e w2 ⟨rfl, x2⟩
            have X2 := Lib.hid (XI.out.trans x2)
            clear x2 q1 q2
            go_wp2_with fail
            go_roundw
            case rel => exact ⟨n + 1, p, by omega, by go_num, rfl, rfl, by rw [HST.out, ← HP.out, HNS.out], X2.out⟩
            case measure => simp [intOf]; omega
        · obtain rfl : n = 6 := by omega
          have hnr : p = namedR (c :: q) := hp
          have hp6 : p.2 ≤ 6 := by rw [hnr]; exact named_len _ _ _ (by decide) (by show 1 ≤ 6; omega)
          have HNR := Lib.hid hnr
          have HBG := Lib.hid (fun W => begins_any t ⟨#[38, 35]⟩ k (by omega) (by decide) (by decide) (by omega) W)
          have hbl : beginsL t.data.toList k (⟨#[38, 35]⟩ : ByteArray).data.toList = decide ((c :: q).take 2 = [38, 35]) := by unfold beginsL; rw [HLL.out, HCQ.out]; rfl
          rw [hbl] at HBG
          have hs1 := stepR_pos (c := c) q
          have hs2 := stepR_le c q
          have hs3 := stepR_len c q
          have hql : (c :: q).length = t.size - k := by rw [← HCQ.out, List.length_drop, HZ.out]
          have HSP := Lib.hid (And.intro hs1 (And.intro (hql ▸ hs2) hs3))
          have HSTEP : Hid (∀ x n, stepR (c :: q) = (x, n) → (acc ++ (bs x).data.toList) ++ decL (l.drop (k + n)) = out) := Lib.hid (by
            intro x n h
            have h1 := HACC.out
            rw [HCQ.out, decL_step, h] at h1
            rw [bs_data, ← h1, ← List.drop_drop, HCQ.out, List.append_assoc])
          have hql2 := hql
          clear hp xi hnr hbl hs1 hs2 hs3 hn
          by_cases h2 : (c :: q).take 2 = [38, 35]
          · rw [decide_eq_true h2] at HBG
            have HT2 := Lib.hid h2
            obtain ⟨pq, hpq⟩ : ∃ pq, (c :: q).drop 2 = pq := ⟨_, rfl⟩
            have hpl : pq.length + 2 = t.size - k := by
              have h3 := congrArg List.length h2
              rw [List.length_take] at h3
              rw [← hpq, List.length_drop, ← hql]
              simp only [List.length_cons, List.length_nil] at h3 ⊢
              omega
            have hpd : l.drop (k + 2) = pq := by rw [← List.drop_drop, HCQ.out, hpq]
            have hidx : ∀ j, j < pq.length → ∃ (h : k + 2 + j < t.size), pq[j]? = some (t[k + 2 + j]'h) := by
              intro j hj
              refine ⟨by omega, ?_⟩
              have hlen := HZ.out
              have e1 : l[k + 2 + j]? = pq[j]? := by rw [← hpd, List.getElem?_drop]
              rw [← e1]
              have e2 := HLL.out
              subst e2
              exact List.getElem?_eq_getElem _
            have HPQ := Lib.hid hpq
            have HPD := Lib.hid hpd
            have HIDX := Lib.hid hidx
            have hw2 : IntKind.i64.wrap ((k : Int) + 2) = (k : Int) + 2 := IntWalk.i64_in _ (by omega)
            have hw12 : IntKind.i64.wrap ((k : Int) + 12) = (k : Int) + 12 := IntWalk.i64_in _ (by omega)
            clear h2 hpq hpd hidx hql
            go_wp2_with (go_at_call 41; refine (HBG.out _).mono ?_)
            rintro e w2 ⟨rfl, x2⟩
            have X2 := Lib.hid (XI.out.trans x2)
            clear x2
            go_wp2_with fail
            go_loop [10] (fun ev => ∃ j : Nat, j ≤ 10 ∧ j ≤ pq.length ∧ ev = .int .i64 ((k + 2 + j : Nat) : Int) ∧ j + scanE (10 - j) (pq.drop j) = scanE 10 pq) (fun ev => t.size - (intOf ev).toNat)
            case atStart => exact ⟨0, Nat.zero_le _, Nat.zero_le _, by go_num, by simp⟩
            case round =>
              obtain ⟨j, hj10, hjl, rfl, hsc⟩ := hrel
              have HSC := Lib.hid hsc
              clear hsc
              obtain ⟨E, hE⟩ : ∃ E, k + 2 + j = E := ⟨_, rfl⟩
              have HE := Lib.hid hE
              have hEj : k + 2 + j = E := hE
              rw [hE]
              clear hE
              by_cases hgo : ∃ x, pq[j]? = some x ∧ x ≠ 59 ∧ j < 10
              · obtain ⟨x, hx, hx59, hj⟩ := hgo
                have hjl2 := (List.getElem?_eq_some_iff.1 hx).1
                obtain ⟨hE2, hE3⟩ := HIDX.out j hjl2
                rw [hx] at hE3
                have hxe : t[E]'(by omega) = x := by
                  have h5 := Option.some.inj hE3
                  rw [h5]
                  congr 1
                  exact hEj.symm
                have hElt : E < t.size := by omega
                have hix : ∀ W : World, (Instr.index 9 (.string t) (.int .i64 (E : Int))).run Tryd.prog W = .ok (.int .u8 (x.toNat : Int)) W := by
                  intro W
                  rw [run_index_string W 9 t .i64 (E : Int) Tryd.underlying9, dif_pos ⟨by omega, by omega⟩]
                  simp only [Int.toNat_natCast, hxe]
                have e59 : ((x.toNat : Int) != 59) = true := by rw [bne_iff_ne]; intro h; exact hx59 (UInt8.toNat_inj.1 (by have : (59 : UInt8).toNat = 59 := rfl; omega))
                have d1 : decide ((E : Int) < (t.size : Int)) = true := decide_eq_true (by omega)
                have d1n : decide (E < t.size) = true := decide_eq_true hElt
                have d2 : decide ((E : Int) < (k : Int) + 12) = true := decide_eq_true (by omega)
                have hwE : IntKind.i64.wrap ((E : Int) + 1) = (E : Int) + 1 := IntWalk.i64_in _ (by omega)
                have HS2 := Lib.hid (scan_step (f := 9 - j) hx hx59)
                clear hx hE3 hxe hx59
                go_wp2_with fail
                go_round
                case rel =>
                  refine ⟨j + 1, by omega, by omega, by have := hEj; rw [show k + 2 + (j + 1) = E + 1 by omega]; go_num, ?_⟩
                  rw [← HSC.out, show 10 - j = (9 - j) + 1 by omega, HS2.out, show 10 - (j + 1) = 9 - j by omega]
                  omega
                case measure => simp [intOf]; omega
              · have hm0 : scanE (10 - j) (pq.drop j) = 0 := by
                  by_cases hjl2 : j < pq.length
                  · obtain ⟨x, hx⟩ : ∃ x, pq[j]? = some x := ⟨_, List.getElem?_eq_getElem hjl2⟩
                    by_cases h59 : x = 59
                    · rw [h59] at hx; exact scan_stop hx
                    · have : ¬ j < 10 := fun h => hgo ⟨x, hx, h59, h⟩
                      rw [show 10 - j = 0 by omega, scanE]
                  · exact scan_over (by omega)
                have hmj : scanE 10 pq = j := by rw [← HSC.out, hm0]; omega
                have HMJ := Lib.hid hmj
                clear hm0 hmj
                by_cases hjl2 : j < pq.length
                · obtain ⟨hElt', hxE⟩ := HIDX.out j hjl2
                  have hElt : E < t.size := by omega
                  obtain ⟨x, hx⟩ : ∃ x, t[E]'hElt = x := ⟨_, rfl⟩
                  have hxj : pq[j]? = some x := by
                    rw [hxE, ← hx]
                    congr 2
                  have hix : ∀ W : World, (Instr.index 9 (.string t) (.int .i64 (E : Int))).run Tryd.prog W = .ok (.int .u8 (x.toNat : Int)) W := by
                    intro W
                    rw [run_index_string W 9 t .i64 (E : Int) Tryd.underlying9, dif_pos ⟨by omega, by omega⟩]
                    simp only [Int.toNat_natCast, hx]
                  have d1 : decide ((E : Int) < (t.size : Int)) = true := decide_eq_true (by omega)
                  have d1n : decide (E < t.size) = true := decide_eq_true hElt
                  by_cases h59 : x = 59
                  · have e59 : ((x.toNat : Int) != 59) = false := by rw [h59]; rfl
                    have e59b : ((x.toNat : Int) == 59) = true := by rw [h59]; rfl
                    rw [h59] at hxj
                    have hN10 : (t.extract (k + 2) E).data.toList = pq.take j := by rw [HCUT.out, bs_data, HPD.out]; congr 1; omega
                    have hNz : (t.extract (k + 2) E).size ≤ 1000000000000 := by
                      show (t.extract (k + 2) E).data.toList.length ≤ _
                      rw [hN10, List.length_take]; omega
                    have HN10 := Lib.hid (fun W => (hN10 ▸ number10_any (t.extract (k + 2) E) hNz W : Calls Tryd.prog 42 #[.string (t.extract (k + 2) E), .int .i64 10, .int .i64 7] W (RVal (.int .i64 (refN 10 7 (pq.take j))) W)))
                    generalize hE1 : t.extract (k + 2) E = E1 at HN10
                    have HE1 := Lib.hid hE1
                    have hpp : ∃ y, pq.head? = some y := by cases pq with | nil => simp at hjl2 | cons a b => exact ⟨a, rfl⟩
                    obtain ⟨y, hy⟩ := hpp
                    have hy0 : t[k + 2]'(by omega) = y := by
                      obtain ⟨h6, h7⟩ := HIDX.out 0 (by omega)
                      rw [← List.head?_eq_getElem?, hy] at h7
                      exact (Option.some.inj h7).symm
                    have hix2 : ∀ W : World, (Instr.index 9 (.string t) (.int .i64 ((k : Int) + 2))).run Tryd.prog W = .ok (.int .u8 (y.toNat : Int)) W := by
                      intro W
                      rw [run_index_string W 9 t .i64 ((k : Int) + 2) Tryd.underlying9, dif_pos ⟨by omega, by omega⟩]
                      simp only [show ((k : Int) + 2).toNat = k + 2 by omega, hy0]
                    have bA : (0 : Int) ≤ (k : Int) + 2 := by omega
                    have bB : (k : Int) + 2 ≤ (E : Int) := by omega
                    have bC : (E : Int) ≤ (t.size : Int) := by omega
                    have hk2 : ((k : Int) + 2).toNat = k + 2 := by omega
                    have HXJ := Lib.hid hxj
                    have HY := Lib.hid hy
                    have hwE : IntKind.i64.wrap ((E : Int) + 1) = (E : Int) + 1 := IntWalk.i64_in _ (by omega)
                    have hwEk : IntKind.i64.wrap ((E : Int) + 1 - (k : Int)) = ((j + 3 : Nat) : Int) := by rw [IntWalk.i64_in _ (by omega)]; omega
                    clear hxj hy hy0 hN10 hNz hx hxE h59 hgo
                    by_cases hxx : y = 120
                    · have e120 : ((y.toNat : Int) == 120) = true := by rw [hxx]; rfl
                      have hj1 : 1 ≤ j := by
                        rcases Nat.eq_zero_or_pos j with rfl | h
                        · have h6 := HXJ.out
                          rw [← List.head?_eq_getElem?, HY.out, hxx] at h6
                          cases h6
                        · exact h
                      have hN16 : (t.extract (k + 3) E).data.toList = (pq.drop 1).take (j - 1) := by
                        rw [HCUT.out, bs_data, ← HPD.out, List.drop_drop]; congr 1; omega
                      have hNz : (t.extract (k + 3) E).size ≤ 1000000000000 := by
                        show (t.extract (k + 3) E).data.toList.length ≤ _
                        rw [hN16, List.length_take, List.length_drop]; omega
                      have HN16 := Lib.hid (fun W => (hN16 ▸ number16_any (t.extract (k + 3) E) hNz W : Calls Tryd.prog 42 #[.string (t.extract (k + 3) E), .int .i64 16, .int .i64 6] W (RVal (.int .i64 (refN 16 6 ((pq.drop 1).take (j - 1)))) W)))
                      generalize hE2 : t.extract (k + 3) E = E2 at HN16
                      have HE2 := Lib.hid hE2
                      have hw3 : IntKind.i64.wrap ((k : Int) + 3) = (k : Int) + 3 := IntWalk.i64_in _ (by omega)
                      have bD : (0 : Int) ≤ (k : Int) + 3 := by omega
                      have bE : (k : Int) + 3 ≤ (E : Int) := by omega
                      have hk3 : ((k : Int) + 3).toNat = k + 3 := by omega
                      obtain ⟨z, hz⟩ : ∃ z, refN 16 6 ((pq.drop 1).take (j - 1)) = z := ⟨_, rfl⟩
                      rw [hz] at HN16
                      have hzn : numR pq j = z := by unfold numR; rw [if_pos (by rw [HY.out, hxx]), hz]
                      obtain ⟨z1, hz1⟩ : ∃ z, refN 10 7 (pq.take j) = z := ⟨_, rfl⟩
                      rw [hz1] at HN10
                      have HZN := Lib.hid hzn
                      have hzb := refN_bound 16 6 ((pq.drop 1).take (j - 1))
                      rw [hz] at hzb
                      clear hz hzn hz1 hxx hN16 hNz
                      go_wp2_with (go_at_call 42; refine (HN10.out _).mono ?_)
                      rintro e w3 ⟨rfl, x3⟩
                      have X3 := Lib.hid (X2.out.trans x3)
                      clear x3
                      go_wp2_with (go_at_call 42; refine (HN16.out _).mono ?_)
                      rintro e w4 ⟨rfl, x4⟩
                      have X4 := Lib.hid (X3.out.trans x4)
                      clear x4
                      by_cases hz0 : 0 < z
                      · obtain ⟨zn, rfl⟩ : ∃ zn : Nat, z = (zn : Int) := ⟨z.toNat, by omega⟩
                        have hz0d : decide ((0 : Int) < (zn : Int)) = true := decide_eq_true hz0
                        have hz0n : decide (0 < zn) = true := decide_eq_true (by omega)
                        have HST : Hid (stepR (c :: q) = ((Utf8.encode (zn : Int)).data.toList, j + 3)) := Lib.hid (by
                          unfold stepR
                          rw [HPQ.out, HMJ.out, HZN.out, if_pos ⟨HT2.out, HXJ.out, hz0⟩])
                        have hcv1 : ∀ W : World, (Go.convert 3 21 (.int .i64 (zn : Int))).run Tryd.prog W = .ok (.int .i32 (zn : Int)) W := by
                          intro W
                          have : IntKind.i32.wrap (zn : Int) = (zn : Int) := IntWalk.i32_in _ (by omega)
                          simp [convert, run_underlying Tryd.underlying3, run_underlying Tryd.underlying21, Conv.intToInt, this]
                        have hcv : ∀ W : World, (Go.convert 21 9 (.int .i32 (zn : Int))).run Tryd.prog W = .ok (.string (bs (Utf8.encode (zn : Int)).data.toList)) W := by
                          intro W
                          rw [bs_list]
                          simp [convert, run_underlying Tryd.underlying21, run_underlying Tryd.underlying9, Conv.intToString]
                        obtain ⟨x9, hx9⟩ : ∃ x, (Utf8.encode (zn : Int)).data.toList = x := ⟨_, rfl⟩
                        obtain ⟨n9, hn9⟩ : ∃ n, j + 3 = n := ⟨_, rfl⟩
                        rw [hx9, hn9] at HST
                        rw [hx9] at hcv
                        rw [hn9] at hwEk
                        clear hx9 hn9 hp6 hz0 HNR
                        have HSPP := HSP.out
                        rw [HST.out] at HSPP
                        dsimp only at HSPP
                        have HNX := Lib.hid (HSTEP.out x9 n9 HST.out)
                        have hp1 : 1 ≤ n9 := HSPP.1
                        have hp2 : n9 ≤ t.size - k := HSPP.2.1
                        have HX4 := Lib.hid HSPP.2.2
                        clear HSPP
                        obtain ⟨acc2, ha2⟩ : ∃ a, acc ++ (bs x9).data.toList = a := ⟨_, rfl⟩
                        rw [ha2] at HNX
                        have HA2 := Lib.hid ha2
                        have hlen : acc.length + (bs x9).size ≤ 140737488355328 := by rw [bs_size]; have := HLA.out; have := HX4.out; omega
                        have HLEN := Lib.hid hlen
                        have HB4 := Lib.hid (HBR.out.ext X4.out)
                        have HN4 := Lib.hid (X4.out.block HN.out)
                        have HM4 := Lib.hid (X4.out.block HM.out)
                        have hwn : IntKind.i64.wrap ((k : Int) + (n9 : Int)) = (k : Int) + (n9 : Int) := IntWalk.i64_in _ (by omega)
                        clear ha2 hlen
                        go_wp2_with (at_builtin; refine wpB_text2 rfl _ _ rfl (.slice (some ⟨g, 0, none⟩) acc.length cap) acc rfl w1 HB4.out (bs x9) rfl HLEN.out acc2 HA2.out ?_)
                        intro v' w' hb' ho'
                        obtain ⟨g', cap', _, _, rfl, _, _, _⟩ := hb'.at
                        obtain ⟨o1, o2, o3⟩ := ho' g acc.length cap rfl
                        have HO3 := Lib.hid (o3 g' _ _ rfl)
                        have HN5 := Lib.hid ((o1 G1 (Array.getElem?_eq_some_iff.1 HN4.out).1 (Ne.symm HG.out.1)).trans HN4.out)
                        have HM5 := Lib.hid ((o1 G2 (Array.getElem?_eq_some_iff.1 HM4.out).1 (Ne.symm HG.out.2)).trans HM4.out)
                        have HLT := Lib.hid (And.intro (Array.getElem?_eq_some_iff.1 HN4.out).1 (Array.getElem?_eq_some_iff.1 HM4.out).1)
                        have HB' := Lib.hid hb'
                        clear hb' ho' o1 o2 o3
                        go_wp2_with fail
                        go_roundw
                        case rel => exact ⟨k + n9, acc2, by omega, by first | rfl | go_num | (push_cast; rfl), ⟨g', cap', rfl, by have := HO3.out; have := HLT.out; have := HG.out; omega, by have := HO3.out; have := HLT.out; have := HG.out; omega⟩, HB'.out, HNX.out, HN5.out, HM5.out⟩
                        case measure => simp [intOf]; omega
                      · have hz0d : decide (0 < z) = false := decide_eq_false hz0
                        have HST : Hid (stepR (c :: q) = p) := Lib.hid (by
                          unfold stepR
                          rw [HPQ.out, HMJ.out, HZN.out, if_neg, ← HNR.out]
                          rintro ⟨_, _, h6⟩
                          exact hz0 h6)
                        clear hz0
                        obtain ⟨x9, n9⟩ := p
                        have HSPP := HSP.out
                        rw [HST.out] at HSPP
                        dsimp only at HSPP
                        have HNX := Lib.hid (HSTEP.out x9 n9 HST.out)
                        have hp1 : 1 ≤ n9 := HSPP.1
                        have hp2 : n9 ≤ t.size - k := HSPP.2.1
                        have HX4 := Lib.hid HSPP.2.2
                        clear HSPP
                        obtain ⟨acc2, ha2⟩ : ∃ a, acc ++ (bs x9).data.toList = a := ⟨_, rfl⟩
                        rw [ha2] at HNX
                        have HA2 := Lib.hid ha2
                        have hlen : acc.length + (bs x9).size ≤ 140737488355328 := by rw [bs_size]; have := HLA.out; have := HX4.out; omega
                        have HLEN := Lib.hid hlen
                        have HB4 := Lib.hid (HBR.out.ext X4.out)
                        have HN4 := Lib.hid (X4.out.block HN.out)
                        have HM4 := Lib.hid (X4.out.block HM.out)
                        have hwn : IntKind.i64.wrap ((k : Int) + (n9 : Int)) = (k : Int) + (n9 : Int) := IntWalk.i64_in _ (by omega)
                        clear ha2 hlen
                        go_wp2_with (at_builtin; refine wpB_text2 rfl _ _ rfl (.slice (some ⟨g, 0, none⟩) acc.length cap) acc rfl w1 HB4.out (bs x9) rfl HLEN.out acc2 HA2.out ?_)
                        intro v' w' hb' ho'
                        obtain ⟨g', cap', _, _, rfl, _, _, _⟩ := hb'.at
                        obtain ⟨o1, o2, o3⟩ := ho' g acc.length cap rfl
                        have HO3 := Lib.hid (o3 g' _ _ rfl)
                        have HN5 := Lib.hid ((o1 G1 (Array.getElem?_eq_some_iff.1 HN4.out).1 (Ne.symm HG.out.1)).trans HN4.out)
                        have HM5 := Lib.hid ((o1 G2 (Array.getElem?_eq_some_iff.1 HM4.out).1 (Ne.symm HG.out.2)).trans HM4.out)
                        have HLT := Lib.hid (And.intro (Array.getElem?_eq_some_iff.1 HN4.out).1 (Array.getElem?_eq_some_iff.1 HM4.out).1)
                        have HB' := Lib.hid hb'
                        clear hb' ho' o1 o2 o3
                        go_wp2_with fail
                        go_roundw
                        case rel => exact ⟨k + n9, acc2, by omega, by first | rfl | go_num | (push_cast; rfl), ⟨g', cap', rfl, by have := HO3.out; have := HLT.out; have := HG.out; omega, by have := HO3.out; have := HLT.out; have := HG.out; omega⟩, HB'.out, HNX.out, HN5.out, HM5.out⟩
                        case measure => simp [intOf]; omega
                    · have e120 : ((y.toNat : Int) == 120) = false := by rw [beq_eq_false_iff_ne]; intro h; exact hxx (UInt8.toNat_inj.1 (by have : (120 : UInt8).toNat = 120 := rfl; omega))
                      obtain ⟨z, hz⟩ : ∃ z, refN 10 7 (pq.take j) = z := ⟨_, rfl⟩
                      rw [hz] at HN10
                      have hzn : numR pq j = z := by unfold numR; rw [if_neg (by rw [HY.out]; intro h; exact hxx (Option.some.inj h)), hz]
                      have HZN := Lib.hid hzn
                      have hzb := refN_bound 10 7 (pq.take j)
                      rw [hz] at hzb
                      clear hz hzn hxx
                      go_wp2_with (go_at_call 42; refine (HN10.out _).mono ?_)
                      rintro e w4 ⟨rfl, x4⟩
                      have X4 := Lib.hid (X2.out.trans x4)
                      clear x4
                      by_cases hz0 : 0 < z
                      · obtain ⟨zn, rfl⟩ : ∃ zn : Nat, z = (zn : Int) := ⟨z.toNat, by omega⟩
                        have hz0d : decide ((0 : Int) < (zn : Int)) = true := decide_eq_true hz0
                        have hz0n : decide (0 < zn) = true := decide_eq_true (by omega)
                        have HST : Hid (stepR (c :: q) = ((Utf8.encode (zn : Int)).data.toList, j + 3)) := Lib.hid (by
                          unfold stepR
                          rw [HPQ.out, HMJ.out, HZN.out, if_pos ⟨HT2.out, HXJ.out, hz0⟩])
                        have hcv1 : ∀ W : World, (Go.convert 3 21 (.int .i64 (zn : Int))).run Tryd.prog W = .ok (.int .i32 (zn : Int)) W := by
                          intro W
                          have : IntKind.i32.wrap (zn : Int) = (zn : Int) := IntWalk.i32_in _ (by omega)
                          simp [convert, run_underlying Tryd.underlying3, run_underlying Tryd.underlying21, Conv.intToInt, this]
                        have hcv : ∀ W : World, (Go.convert 21 9 (.int .i32 (zn : Int))).run Tryd.prog W = .ok (.string (bs (Utf8.encode (zn : Int)).data.toList)) W := by
                          intro W
                          rw [bs_list]
                          simp [convert, run_underlying Tryd.underlying21, run_underlying Tryd.underlying9, Conv.intToString]
                        obtain ⟨x9, hx9⟩ : ∃ x, (Utf8.encode (zn : Int)).data.toList = x := ⟨_, rfl⟩
                        obtain ⟨n9, hn9⟩ : ∃ n, j + 3 = n := ⟨_, rfl⟩
                        rw [hx9, hn9] at HST
                        rw [hx9] at hcv
                        rw [hn9] at hwEk
                        clear hx9 hn9 hp6 hz0 HNR
                        have HSPP := HSP.out
                        rw [HST.out] at HSPP
                        dsimp only at HSPP
                        have HNX := Lib.hid (HSTEP.out x9 n9 HST.out)
                        have hp1 : 1 ≤ n9 := HSPP.1
                        have hp2 : n9 ≤ t.size - k := HSPP.2.1
                        have HX4 := Lib.hid HSPP.2.2
                        clear HSPP
                        obtain ⟨acc2, ha2⟩ : ∃ a, acc ++ (bs x9).data.toList = a := ⟨_, rfl⟩
                        rw [ha2] at HNX
                        have HA2 := Lib.hid ha2
                        have hlen : acc.length + (bs x9).size ≤ 140737488355328 := by rw [bs_size]; have := HLA.out; have := HX4.out; omega
                        have HLEN := Lib.hid hlen
                        have HB4 := Lib.hid (HBR.out.ext X4.out)
                        have HN4 := Lib.hid (X4.out.block HN.out)
                        have HM4 := Lib.hid (X4.out.block HM.out)
                        have hwn : IntKind.i64.wrap ((k : Int) + (n9 : Int)) = (k : Int) + (n9 : Int) := IntWalk.i64_in _ (by omega)
                        clear ha2 hlen
                        go_wp2_with (at_builtin; refine wpB_text2 rfl _ _ rfl (.slice (some ⟨g, 0, none⟩) acc.length cap) acc rfl w1 HB4.out (bs x9) rfl HLEN.out acc2 HA2.out ?_)
                        intro v' w' hb' ho'
                        obtain ⟨g', cap', _, _, rfl, _, _, _⟩ := hb'.at
                        obtain ⟨o1, o2, o3⟩ := ho' g acc.length cap rfl
                        have HO3 := Lib.hid (o3 g' _ _ rfl)
                        have HN5 := Lib.hid ((o1 G1 (Array.getElem?_eq_some_iff.1 HN4.out).1 (Ne.symm HG.out.1)).trans HN4.out)
                        have HM5 := Lib.hid ((o1 G2 (Array.getElem?_eq_some_iff.1 HM4.out).1 (Ne.symm HG.out.2)).trans HM4.out)
                        have HLT := Lib.hid (And.intro (Array.getElem?_eq_some_iff.1 HN4.out).1 (Array.getElem?_eq_some_iff.1 HM4.out).1)
                        have HB' := Lib.hid hb'
                        clear hb' ho' o1 o2 o3
                        go_wp2_with fail
                        go_roundw
                        case rel => exact ⟨k + n9, acc2, by omega, by first | rfl | go_num | (push_cast; rfl), ⟨g', cap', rfl, by have := HO3.out; have := HLT.out; have := HG.out; omega, by have := HO3.out; have := HLT.out; have := HG.out; omega⟩, HB'.out, HNX.out, HN5.out, HM5.out⟩
                        case measure => simp [intOf]; omega
                      · have hz0d : decide (0 < z) = false := decide_eq_false hz0
                        have HST : Hid (stepR (c :: q) = p) := Lib.hid (by
                          unfold stepR
                          rw [HPQ.out, HMJ.out, HZN.out, if_neg, ← HNR.out]
                          rintro ⟨_, _, h6⟩
                          exact hz0 h6)
                        clear hz0
                        obtain ⟨x9, n9⟩ := p
                        have HSPP := HSP.out
                        rw [HST.out] at HSPP
                        dsimp only at HSPP
                        have HNX := Lib.hid (HSTEP.out x9 n9 HST.out)
                        have hp1 : 1 ≤ n9 := HSPP.1
                        have hp2 : n9 ≤ t.size - k := HSPP.2.1
                        have HX4 := Lib.hid HSPP.2.2
                        clear HSPP
                        obtain ⟨acc2, ha2⟩ : ∃ a, acc ++ (bs x9).data.toList = a := ⟨_, rfl⟩
                        rw [ha2] at HNX
                        have HA2 := Lib.hid ha2
                        have hlen : acc.length + (bs x9).size ≤ 140737488355328 := by rw [bs_size]; have := HLA.out; have := HX4.out; omega
                        have HLEN := Lib.hid hlen
                        have HB4 := Lib.hid (HBR.out.ext X4.out)
                        have HN4 := Lib.hid (X4.out.block HN.out)
                        have HM4 := Lib.hid (X4.out.block HM.out)
                        have hwn : IntKind.i64.wrap ((k : Int) + (n9 : Int)) = (k : Int) + (n9 : Int) := IntWalk.i64_in _ (by omega)
                        clear ha2 hlen
                        go_wp2_with (at_builtin; refine wpB_text2 rfl _ _ rfl (.slice (some ⟨g, 0, none⟩) acc.length cap) acc rfl w1 HB4.out (bs x9) rfl HLEN.out acc2 HA2.out ?_)
                        intro v' w' hb' ho'
                        obtain ⟨g', cap', _, _, rfl, _, _, _⟩ := hb'.at
                        obtain ⟨o1, o2, o3⟩ := ho' g acc.length cap rfl
                        have HO3 := Lib.hid (o3 g' _ _ rfl)
                        have HN5 := Lib.hid ((o1 G1 (Array.getElem?_eq_some_iff.1 HN4.out).1 (Ne.symm HG.out.1)).trans HN4.out)
                        have HM5 := Lib.hid ((o1 G2 (Array.getElem?_eq_some_iff.1 HM4.out).1 (Ne.symm HG.out.2)).trans HM4.out)
                        have HLT := Lib.hid (And.intro (Array.getElem?_eq_some_iff.1 HN4.out).1 (Array.getElem?_eq_some_iff.1 HM4.out).1)
                        have HB' := Lib.hid hb'
                        clear hb' ho' o1 o2 o3
                        go_wp2_with fail
                        go_roundw
                        case rel => exact ⟨k + n9, acc2, by omega, by first | rfl | go_num | (push_cast; rfl), ⟨g', cap', rfl, by have := HO3.out; have := HLT.out; have := HG.out; omega, by have := HO3.out; have := HLT.out; have := HG.out; omega⟩, HB'.out, HNX.out, HN5.out, HM5.out⟩
                        case measure => simp [intOf]; omega
                  · have e59 : ((x.toNat : Int) != 59) = true := by rw [bne_iff_ne]; intro h; exact h59 (UInt8.toNat_inj.1 (by have : (59 : UInt8).toNat = 59 := rfl; omega))
                    have e59b : ((x.toNat : Int) == 59) = false := by rw [beq_eq_false_iff_ne]; intro h; exact h59 (UInt8.toNat_inj.1 (by have : (59 : UInt8).toNat = 59 := rfl; omega))
                    have hj10' : j = 10 := by
                      rcases Nat.lt_or_ge j 10 with h | h
                      · exact absurd ⟨x, hxj, h59, h⟩ hgo
                      · omega
                    have d2 : decide ((E : Int) < (k : Int) + 12) = false := decide_eq_false (by omega)
                    have HST : Hid (stepR (c :: q) = p) := Lib.hid (by
                      unfold stepR
                      rw [HPQ.out, HMJ.out, if_neg, ← HNR.out]
                      rintro ⟨_, h6, _⟩
                      rw [hxj] at h6
                      exact h59 (Option.some.inj h6))
                    have X4 := X2
                    clear hxj hx hxE h59 hgo hj10'
                    obtain ⟨x9, n9⟩ := p
                    have HSPP := HSP.out
                    rw [HST.out] at HSPP
                    dsimp only at HSPP
                    have HNX := Lib.hid (HSTEP.out x9 n9 HST.out)
                    have hp1 : 1 ≤ n9 := HSPP.1
                    have hp2 : n9 ≤ t.size - k := HSPP.2.1
                    have HX4 := Lib.hid HSPP.2.2
                    clear HSPP
                    obtain ⟨acc2, ha2⟩ : ∃ a, acc ++ (bs x9).data.toList = a := ⟨_, rfl⟩
                    rw [ha2] at HNX
                    have HA2 := Lib.hid ha2
                    have hlen : acc.length + (bs x9).size ≤ 140737488355328 := by rw [bs_size]; have := HLA.out; have := HX4.out; omega
                    have HLEN := Lib.hid hlen
                    have HB4 := Lib.hid (HBR.out.ext X4.out)
                    have HN4 := Lib.hid (X4.out.block HN.out)
                    have HM4 := Lib.hid (X4.out.block HM.out)
                    have hwn : IntKind.i64.wrap ((k : Int) + (n9 : Int)) = (k : Int) + (n9 : Int) := IntWalk.i64_in _ (by omega)
                    clear ha2 hlen
                    go_wp2_with (at_builtin; refine wpB_text2 rfl _ _ rfl (.slice (some ⟨g, 0, none⟩) acc.length cap) acc rfl w1 HB4.out (bs x9) rfl HLEN.out acc2 HA2.out ?_)
                    intro v' w' hb' ho'
                    obtain ⟨g', cap', _, _, rfl, _, _, _⟩ := hb'.at
                    obtain ⟨o1, o2, o3⟩ := ho' g acc.length cap rfl
                    have HO3 := Lib.hid (o3 g' _ _ rfl)
                    have HN5 := Lib.hid ((o1 G1 (Array.getElem?_eq_some_iff.1 HN4.out).1 (Ne.symm HG.out.1)).trans HN4.out)
                    have HM5 := Lib.hid ((o1 G2 (Array.getElem?_eq_some_iff.1 HM4.out).1 (Ne.symm HG.out.2)).trans HM4.out)
                    have HLT := Lib.hid (And.intro (Array.getElem?_eq_some_iff.1 HN4.out).1 (Array.getElem?_eq_some_iff.1 HM4.out).1)
                    have HB' := Lib.hid hb'
                    clear hb' ho' o1 o2 o3
                    go_wp2_with fail
                    go_roundw
                    case rel => exact ⟨k + n9, acc2, by omega, by first | rfl | go_num | (push_cast; rfl), ⟨g', cap', rfl, by have := HO3.out; have := HLT.out; have := HG.out; omega, by have := HO3.out; have := HLT.out; have := HG.out; omega⟩, HB'.out, HNX.out, HN5.out, HM5.out⟩
                    case measure => simp [intOf]; omega
                · have d1 : decide ((E : Int) < (t.size : Int)) = false := decide_eq_false (by omega)
                  have d1n : decide (E < t.size) = false := decide_eq_false (by omega)
                  have HST : Hid (stepR (c :: q) = p) := Lib.hid (by
                    unfold stepR
                    rw [HPQ.out, HMJ.out, if_neg, ← HNR.out]
                    rintro ⟨_, h6, _⟩
                    exact hjl2 (List.getElem?_eq_some_iff.1 h6).1)
                  have X4 := X2
                  clear hgo
                  obtain ⟨x9, n9⟩ := p
                  have HSPP := HSP.out
                  rw [HST.out] at HSPP
                  dsimp only at HSPP
                  have HNX := Lib.hid (HSTEP.out x9 n9 HST.out)
                  have hp1 : 1 ≤ n9 := HSPP.1
                  have hp2 : n9 ≤ t.size - k := HSPP.2.1
                  have HX4 := Lib.hid HSPP.2.2
                  clear HSPP
                  obtain ⟨acc2, ha2⟩ : ∃ a, acc ++ (bs x9).data.toList = a := ⟨_, rfl⟩
                  rw [ha2] at HNX
                  have HA2 := Lib.hid ha2
                  have hlen : acc.length + (bs x9).size ≤ 140737488355328 := by rw [bs_size]; have := HLA.out; have := HX4.out; omega
                  have HLEN := Lib.hid hlen
                  have HB4 := Lib.hid (HBR.out.ext X4.out)
                  have HN4 := Lib.hid (X4.out.block HN.out)
                  have HM4 := Lib.hid (X4.out.block HM.out)
                  have hwn : IntKind.i64.wrap ((k : Int) + (n9 : Int)) = (k : Int) + (n9 : Int) := IntWalk.i64_in _ (by omega)
                  clear ha2 hlen
                  go_wp2_with (at_builtin; refine wpB_text2 rfl _ _ rfl (.slice (some ⟨g, 0, none⟩) acc.length cap) acc rfl w1 HB4.out (bs x9) rfl HLEN.out acc2 HA2.out ?_)
                  intro v' w' hb' ho'
                  obtain ⟨g', cap', _, _, rfl, _, _, _⟩ := hb'.at
                  obtain ⟨o1, o2, o3⟩ := ho' g acc.length cap rfl
                  have HO3 := Lib.hid (o3 g' _ _ rfl)
                  have HN5 := Lib.hid ((o1 G1 (Array.getElem?_eq_some_iff.1 HN4.out).1 (Ne.symm HG.out.1)).trans HN4.out)
                  have HM5 := Lib.hid ((o1 G2 (Array.getElem?_eq_some_iff.1 HM4.out).1 (Ne.symm HG.out.2)).trans HM4.out)
                  have HLT := Lib.hid (And.intro (Array.getElem?_eq_some_iff.1 HN4.out).1 (Array.getElem?_eq_some_iff.1 HM4.out).1)
                  have HB' := Lib.hid hb'
                  clear hb' ho' o1 o2 o3
                  go_wp2_with fail
                  go_roundw
                  case rel => exact ⟨k + n9, acc2, by omega, by first | rfl | go_num | (push_cast; rfl), ⟨g', cap', rfl, by have := HO3.out; have := HLT.out; have := HG.out; omega, by have := HO3.out; have := HLT.out; have := HG.out; omega⟩, HB'.out, HNX.out, HN5.out, HM5.out⟩
                  case measure => simp [intOf]; omega
          · rw [decide_eq_false h2] at HBG
            have HST : Hid (stepR (c :: q) = p) := Lib.hid (by
              unfold stepR
              rw [if_neg (fun h => h2 h.1), ← HNR.out])
            clear h2
            go_wp2_with (go_at_call 41; refine (HBG.out _).mono ?_)
            rintro e w2 ⟨rfl, x2⟩
            have X4 := Lib.hid (XI.out.trans x2)
            clear x2
            obtain ⟨x9, n9⟩ := p
            have HSPP := HSP.out
            rw [HST.out] at HSPP
            dsimp only at HSPP
            have HNX := Lib.hid (HSTEP.out x9 n9 HST.out)
            have hp1 : 1 ≤ n9 := HSPP.1
            have hp2 : n9 ≤ t.size - k := HSPP.2.1
            have HX4 := Lib.hid HSPP.2.2
            clear HSPP
            obtain ⟨acc2, ha2⟩ : ∃ a, acc ++ (bs x9).data.toList = a := ⟨_, rfl⟩
            rw [ha2] at HNX
            have HA2 := Lib.hid ha2
            have hlen : acc.length + (bs x9).size ≤ 140737488355328 := by rw [bs_size]; have := HLA.out; have := HX4.out; omega
            have HLEN := Lib.hid hlen
            have HB4 := Lib.hid (HBR.out.ext X4.out)
            have HN4 := Lib.hid (X4.out.block HN.out)
            have HM4 := Lib.hid (X4.out.block HM.out)
            have hwn : IntKind.i64.wrap ((k : Int) + (n9 : Int)) = (k : Int) + (n9 : Int) := IntWalk.i64_in _ (by omega)
            clear ha2 hlen
            go_wp2_with (at_builtin; refine wpB_text2 rfl _ _ rfl (.slice (some ⟨g, 0, none⟩) acc.length cap) acc rfl w1 HB4.out (bs x9) rfl HLEN.out acc2 HA2.out ?_)
            intro v' w' hb' ho'
            obtain ⟨g', cap', _, _, rfl, _, _, _⟩ := hb'.at
            obtain ⟨o1, o2, o3⟩ := ho' g acc.length cap rfl
            have HO3 := Lib.hid (o3 g' _ _ rfl)
            have HN5 := Lib.hid ((o1 G1 (Array.getElem?_eq_some_iff.1 HN4.out).1 (Ne.symm HG.out.1)).trans HN4.out)
            have HM5 := Lib.hid ((o1 G2 (Array.getElem?_eq_some_iff.1 HM4.out).1 (Ne.symm HG.out.2)).trans HM4.out)
            have HLT := Lib.hid (And.intro (Array.getElem?_eq_some_iff.1 HN4.out).1 (Array.getElem?_eq_some_iff.1 HM4.out).1)
            have HB' := Lib.hid hb'
            clear hb' ho' o1 o2 o3
            go_wp2_with fail
            go_roundw
            case rel => exact ⟨k + n9, acc2, by omega, by first | rfl | go_num | (push_cast; rfl), ⟨g', cap', rfl, by have := HO3.out; have := HLT.out; have := HG.out; omega, by have := HO3.out; have := HLT.out; have := HG.out; omega⟩, HB'.out, HNX.out, HN5.out, HM5.out⟩
            case measure => simp [intOf]; omega
    · obtain rfl : k = t.size := by omega
      have hfin : acc = out := by
        have h := HACC.out
        rw [List.drop_eq_nil_of_le (by have := HZ.out; omega), decL_nil, List.append_nil] at h
        exact h
      have HFIN := Lib.hid hfin
      have HCV := Lib.hid (show (Go.convert 30 9 (.slice (some ⟨g, 0, none⟩) acc.length cap)).run Tryd.prog wr = .ok (.string (bs out)) wr by have h := run_ofBytes HBR.out; rw [h, HFIN.out])
      clear hfin
      go_wp2_with fail
      rw [HCV.out]
      go_wp2_with fail
      go_ret
      exact ⟨rfl, X1.out.trans HBR.out.ex⟩
end Go.Proofs.YtdafdoodegpdhaaDoor
