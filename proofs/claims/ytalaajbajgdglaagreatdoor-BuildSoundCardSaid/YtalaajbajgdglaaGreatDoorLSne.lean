/- what of ZP Z1 Z2 Z3 BA BB BC BD BE BF BG BH BI BJ BK BL BM BN BO BP BQ BR BS BT ZY BV BW BY Z4 CA CB CC CD CE CF ZD CG CI CH is leant on -/
import Derived.Test.YtalaajbajgdglaaGreatDoorLSnd
set_option linter.unusedVariables false
set_option linter.unusedSimpArgs false
set_option maxRecDepth 1000000
set_option maxHeartbeats 8000000
namespace Go.Proofs.YtalaajbajgdglaaGreatDoor
open Go Go.RowKit Go.BigFrame We
theorem takeW_len (p : UInt8 → Bool) (l : List UInt8) : (l.takeWhile p).length ≤ l.length := by
  have := congrArg List.length (take_drop_while p l)
  rw [List.length_append] at this
  omega
theorem valueL_len {r v e : List UInt8} (h : valueL r = some (v, e)) : v.length ≤ r.length := by
  unfold valueL at h
  have h0 := (suf_drop blankB r).length_le
  split at h
  · cases h; exact Nat.zero_le _
  · rename_i q r2 hr
    rw [hr] at h0
    simp only [List.length_cons] at h0
    split at h
    · split at h
      · cases h
      · cases h
        have := takeW_len (neB q) r2
        omega
    · cases h
      have := takeW_len valB (q :: r2)
      simp only [List.length_cons] at this
      omega
theorem partL_len {c : UInt8} {r2 e : List UInt8} {p : Part} (h : partL c r2 = some (p, e)) : p.1.length ≤ r2.length + 1 ∧ p.2.length ≤ r2.length := by
  have h1 := takeW_len nmB r2
  have h2 := (suf_drop nmB r2).length_le
  have h3 := (suf_drop blankB (r2.dropWhile nmB)).length_le
  cases hh : headP (· == 61) ((r2.dropWhile nmB).dropWhile blankB) with
  | false =>
    rw [part_bare hh] at h
    cases h
    exact ⟨by simp; omega, Nat.zero_le _⟩
  | true =>
    obtain ⟨r5, hr5⟩ : ∃ r5, (r2.dropWhile nmB).dropWhile blankB = 61 :: r5 := by
      cases hq : (r2.dropWhile nmB).dropWhile blankB with
      | nil => rw [hq] at hh; cases hh
      | cons y q =>
        rw [hq] at hh
        have : y = 61 := by simpa [headP] using hh
        exact ⟨q, by rw [this]⟩
    rw [part_none hr5] at h
    rw [hr5] at h3
    simp only [List.length_cons] at h3
    cases hv : valueL r5 with
    | none => rw [hv] at h; cases h
    | some ve =>
      rw [hv] at h
      have h4 := valueL_len (v := ve.1) (e := ve.2) hv
      cases h
      exact ⟨by simp; omega, by dsimp only; omega⟩
theorem partsL_ok : ∀ (n : Nat) (r : List UInt8) (x : List Part × Bool × List UInt8), r.length ≤ n → partsL r = some x → (∀ p ∈ x.1, p.1.length ≤ n ∧ p.2.length ≤ n) ∧ x.1.length ≤ r.length := by
  intro n
  induction n with
  | zero =>
    intro r x hl h
    obtain rfl : r = [] := List.eq_nil_of_length_eq_zero (by omega)
    cases h
  | succ n ih =>
    intro r x hl h
    rw [partsL_eq] at h
    have h0 := (suf_drop gapB r).length_le
    split at h
    · cases h
    · rename_i c r2 hr
      rw [hr] at h0
      simp only [List.length_cons] at h0
      split at h
      · cases h; exact ⟨(fun p hp => by cases hp), Nat.zero_le _⟩
      · split at h
        · cases h
        · rename_i p e hp
          have h1 := (partL_suf hp).length_le
          obtain ⟨h2, h3⟩ := partL_len hp
          cases hx : partsL e with
          | none => rw [hx] at h; cases h
          | some y =>
            rw [hx] at h
            obtain ⟨h4, h5⟩ := ih e y (by omega) hx
            cases h
            refine ⟨fun q hq => ?_, by dsimp only; rw [List.length_cons]; omega⟩
            rcases List.mem_cons.1 hq with rfl | hq
            · exact ⟨by omega, by omega⟩
            · have := h4 q hq
              exact ⟨by omega, by omega⟩
def tkV (k : Int) (n t : List UInt8) (av : Value) (z lo hi : Int) : Array Value := #[.int .i64 k, .string (bs n), .string (bs t), av, .int .i64 z, .int .i64 lo, .int .i64 hi]
section
variable {P : Program} {ops : Array Oper} {rest : List Oper} {o : Oper} {a : Act} {Q : Exit → Act → World → Prop}
theorem run_storeRow (w : World) {b : Nat} {t T : TypeId} {cur vs : Array Value} (hg : w.heap[b]? = some (.cells cur T (0, 0))) (hz : ∀ w, (sizeOf t).run P w = .ok vs.size w) (hl : vs.size = cur.size) (h1 : ∀ v ∈ vs.toList, v.oneCell' = true) :
    (Instr.storeAt t (.pointer (some ⟨b, 0, none⟩)) (.agg vs)).run P w = .ok () (w.setRow b vs) := by
  have h := run_storeCells_at (P := P) b 0 T vs.toList 0 cur w hg (by simp [hl]) h1
  simp only [Nat.zero_add, List.take_zero, List.nil_append] at h
  rw [List.drop_eq_nil_of_le (by simp [hl])] at h
  simp only [List.append_nil, Array.toArray_toList] at h
  simp only [Instr.storeAt, Instr.sureAddr, storeVar, Sem.run_bind, Sem.run_pure, Result.andThen_ok, hz, Value.cells, ne_eq, not_true, if_false]
  exact h
theorem wpList_storeRow {w : World} {b : Nat} {t T : TypeId} {x y : Operand} {cur vs : Array Value} (hgd : o.guard = none) (ho : o.op = .store t x y) (hx : a.eval x = .pointer (some ⟨b, 0, none⟩)) (hy : a.eval y = .agg vs)
    (hg : w.heap[b]? = some (.cells cur T (0, 0))) (hz : ∀ w, (sizeOf t).run P w = .ok vs.size w) (hl : vs.size = cur.size) (h1 : ∀ v ∈ vs.toList, v.oneCell' = true) (h : wpList P ops Q rest (a.put o.dst undef) (w.setRow b vs)) : wpList P ops Q (o :: rest) a w := by
  refine wpList_plain hgd fun K hK => ?_
  have hr := run_storeRow (P := P) w hg hz hl h1
  unfold Oper.wp execOp
  simp only [ho, hx, hy, hr, Sem.run_bind, Sem.run_pure, Result.andThen_ok]
  first | exact hK _ _ h | (rw [Oper.upon_skip]; exact hK _ _ h) | (simp only [Oper.upon]; exact hK _ _ h)
end
theorem heap_setRow_same {w : World} {b : Nat} {cs vs : Array Value} {T : TypeId} {fr : Nat × Nat} (h : w.heap[b]? = some (.cells cs T fr)) : (w.setRow b vs).heap[b]? = some (.cells vs T fr) := by simp [World.setRow, Array.getElem?_modify, h]
theorem heap_setRow_other {w : World} {b j : Nat} {vs : Array Value} (h : j ≠ b) : (w.setRow b vs).heap[j]? = w.heap[j]? := by simp [World.setRow, Array.getElem?_modify, Ne.symm h]
theorem Mv.setRow {S : Nat → Prop} {a w : World} (h : Mv S a w) {b : Nat} (hb : b < a.heap.size → S b) (vs : Array Value) : Mv S a (w.setRow b vs) :=
  ⟨h.os, h.tape, h.output, by have := h.size; simpa [World.setRow] using this, fun x hx hn => (heap_setRow_other fun e => hn (by rw [e]; exact hb (e ▸ hx))).trans (h.rest x hx hn)⟩
theorem Mv.over {S S' : Nat → Prop} {a b c : World} (h : Mv S a b) (k : Mv S' b c) (hS : ∀ x, x < a.heap.size → S' x → S x) : Mv S a c :=
  ⟨k.os.trans h.os, k.tape.trans h.tape, k.output.trans h.output, Nat.le_trans h.size k.size, fun x hx hn => (k.rest x (Nat.lt_of_lt_of_le hx h.size) fun hs => hn (hS x hx hs)).trans (h.rest x hx hn)⟩
def RTag (rb : Nat) (s : ByteArray) (o : Option (Tk × List UInt8)) (w : World) (e : Ending) (w' : World) : Prop :=
  match o with
  | some (t, r) => ∃ av, e = .returned (.tuple #[.agg (tkV t.kind t.name t.text av (if t.self then 1 else 0) t.lo t.hi), .bool true]) ∧ Mv (· = rb) w w' ∧ Rd rb s r w' ∧ RowP w' (fun g => w.heap.size ≤ g) 104 2 av t.attrs.length (attrCells t.attrs)
  | none => ∃ k n l av a c z lo hi r', e = .returned (.tuple #[.agg (tkV k n l av z lo hi), .bool false]) ∧ av = .slice a 0 c ∧ Mv (· = rb) w w' ∧ Rd rb s r' w'
theorem oneL_tag (c : UInt8) (q : List UInt8) : oneL 47 q = tagR (c :: q) := by
  unfold oneL tagR closeB
  rw [List.drop_succ_cons, List.drop_zero]
  split
  · cases q <;> rfl
  · rfl
theorem tkOne (v0 v1 v2 v3 v4 v5 v6 : Value) (h0 : v0.oneCell' = true) (h1 : v1.oneCell' = true) (h2 : v2.oneCell' = true) (h3 : v3.oneCell' = true) (h4 : v4.oneCell' = true) (h5 : v5.oneCell' = true) (h6 : v6.oneCell' = true) :
    ∀ u ∈ (#[v0, v1, v2, v3, v4, v5, v6] : Array Value).toList, u.oneCell' = true := by
  intro u hu
  simp at hu
  rcases hu with rfl | rfl | rfl | rfl | rfl | rfl | rfl <;> assumption
theorem sizeTok (w : World) : (sizeOf 55).run Tryz.prog w = .ok 7 w := Tryz.sizeOf55 w
theorem tag_any (rb : Nat) (s : ByteArray) (c : UInt8) (q : List UInt8) (w : World) (hs : s.size ≤ 1000000) (hr : Rd rb s (c :: q) w) (hl : ∀ W, Mv (· = rb) w W → LW W) :
    Calls Tryz.prog 54 #[.pointer (some ⟨rb, 0, none⟩)] w (RTag rb s (tagL s.size (c :: q)) w) := by
  have HS := qh (show s.size ≤ 100000000000 by omega)
  have HS6 := qh hs
  have HL := qh hl
  have hrb := hr.lt
  obtain ⟨o, ho⟩ : ∃ o, tagL s.size (c :: q) = o := ⟨_, rfl⟩
  rw [ho]
  have HO := qh ho
  obtain ⟨k, h1, h2, h3⟩ := hr
  obtain ⟨hk, _, hq, hq1⟩ := Rd.head h1 h2
  have HQ := qh (And.intro hq1 (And.intro hq h1))
  have HB := qh h3
  have hwk : IntKind.i64.wrap ((k : Int) + 1) = (k : Int) + 1 := IntWalk.i64_in _ (by omega)
  have xa := (Ext.refl w).alloc (.cells #[.int .i64 0, .string ⟨#[]⟩, .string ⟨#[]⟩, .slice none 0 0, .int .i64 0, .int .i64 0, .int .i64 0] 55)
  have hba := heap_alloc_new w (.cells #[.int .i64 0, .string ⟨#[]⟩, .string ⟨#[]⟩, .slice none 0 0, .int .i64 0, .int .i64 0, .int .i64 0] 55)
  clear h1 h2 h3 hq hq1 ho hs hl
  go_enter Tryz.func54, Tryz.ntmps54
  go_upto_region 1 with fail
  obtain ⟨wa, hwa⟩ : ∃ w' : World, w' = w.alloc (.cells #[.int .i64 0, .string ⟨#[]⟩, .string ⟨#[]⟩, .slice none 0 0, .int .i64 0, .int .i64 0, .int .i64 0] 55) := ⟨_, rfl⟩
  have hsa : wa.heap.size = w.heap.size + 1 := by rw [hwa]; simp
  rw [← hwa] at xa hba ⊢
  have HSA := qh hsa
  clear hwa hsa
  have c1 := cellOf (xa.block HB.out) (i := 1) rfl
  have xb := xa.alloc (.cells #[.int .i64 2, .string ⟨#[]⟩, .string ⟨#[]⟩, .slice none 0 0, .int .i64 0, .int .i64 k, .int .i64 0] 55)
  have hbb := heap_alloc_new wa (.cells #[.int .i64 2, .string ⟨#[]⟩, .string ⟨#[]⟩, .slice none 0 0, .int .i64 0, .int .i64 k, .int .i64 0] 55)
  have hba2 := ((Ext.refl wa).alloc (.cells #[.int .i64 2, .string ⟨#[]⟩, .string ⟨#[]⟩, .slice none 0 0, .int .i64 0, .int .i64 k, .int .i64 0] 55)).block hba
  go_upto_region 2 with fail
  obtain ⟨wb, hwb⟩ : ∃ w' : World, w' = wa.alloc (.cells #[.int .i64 2, .string ⟨#[]⟩, .string ⟨#[]⟩, .slice none 0 0, .int .i64 0, .int .i64 k, .int .i64 0] 55) := ⟨_, rfl⟩
  rw [← hwb] at xb hbb hba2 ⊢
  clear hwb c1 hba
  obtain ⟨b2, hb2⟩ : ∃ b, w.heap.size = b := ⟨_, rfl⟩
  obtain ⟨b4, hb4⟩ : ∃ b, wa.heap.size = b := ⟨_, rfl⟩
  have hsa := HSA.out
  rw [hb2] at hba2 ⊢
  rw [hb4] at hbb ⊢
  have hn2 : b2 ≠ rb := by omega
  have hn4 : b4 ≠ rb := by omega
  have hn24 : b2 ≠ b4 := by omega
  have hg2 : w.heap.size ≤ b2 := by omega
  have hg4 : w.heap.size ≤ b4 := by omega
  have hrb1 := xb.block HB.out
  have c1 := cellOf hrb1 (i := 1) rfl
  have f1 := freeOf hrb1 1
  have R0 := Rd.move (k := k + 1) hrb1 HQ.out.1 HQ.out.2.1
  have M0 := Mv.setRb (rb := rb) (o := 1) (Mv.ofExt xb) (.int .i64 ((k + 1 : Nat) : Int))
  have hms := Mv.setRb (rb := rb) (o := 1) (Mv.refl (· = rb) wb) (.int .i64 ((k + 1 : Nat) : Int))
  have B2 := hms.block hba2 hn2
  have B4 := hms.block hbb hn4
  clear hsa hb2 hb4 xa xb hba2 hbb hrb1 hms
  go_upto_region 3 with fail
  obtain ⟨wc, hwc⟩ : ∃ w' : World, w' = wb.setCell ⟨rb, 1, none⟩ (.int .i64 ((k + 1 : Nat) : Int)) := ⟨_, rfl⟩
  have hwc' : wb.setCell ⟨rb, 1, none⟩ (.int .i64 ((k : Int) + 1)) = wc := by rw [hwc]; push_cast; rfl
  rw [hwc']
  rw [← hwc] at R0 M0 B2 B4
  clear hwc hwc' c1 f1
  have HONE := qh (one_any rb s q 47 47 rfl wc HS.out R0)
  rw [oneL_tag c q] at HONE
  have M0 := qh M0
  have B2 := qh B2
  have B4 := qh B4
  clear R0
  have hcl : closeB (c :: q) = headP (· == 47) q := rfl
  have HTL := qh (show (if headP letterB (tagR (c :: q)) then (if headP (· == 47) q then closeL s.size (c :: q) else openL s.size (c :: q)) else none) = o from HO.out)
  clear hcl
  obtain ⟨r1, hr1⟩ : ∃ r1, tagR (c :: q) = r1 := ⟨_, rfl⟩
  rw [hr1] at HONE HTL
  have HR1 := qh hr1
  clear hr1
  cases hcb : headP (· == 47) q with
  | true =>
    rw [hcb] at HONE HTL
    clear hcb
    go_wp2_with (go_at_call 86; refine HONE.out.mono ?_)
    rintro e w1 ⟨rfl, m1, R1⟩
    have hb4 := m1.block B4.out hn4
    have f4 := freeOf hb4 0
    have c4 := cellOf hb4 (i := 0) rfl
    have B4a := heap_setCell_same (i := 0) hb4 (.int .i64 3)
    have h4m := Mv.setCell (S := (· = b4)) (p := ⟨b4, 0, none⟩) (Mv.refl (· = b4) w1) (fun _ => rfl) (.int .i64 3)
    have B2a := h4m.block (m1.block B2.out hn2) (show ¬ b2 = b4 from hn24)
    have R2 := R1.mv h4m (show ¬ rb = b4 from Ne.symm hn4)
    have M2 := Mv.setCell (p := ⟨b4, 0, none⟩) (M0.out.trans m1) (fun h => absurd h (by show ¬ b4 < w.heap.size; omega)) (.int .i64 3)
    clear m1 R1 hb4 h4m
    go_upto_region 5 with fail
    obtain ⟨w2, hw2⟩ : ∃ w' : World, w' = w1.setCell ⟨b4, 0, none⟩ (.int .i64 3) := ⟨_, rfl⟩
    rw [← hw2] at B4a B2a R2 M2 ⊢
    clear hw2 f4 c4
    have HM := qh (more_any rb s r1 letterB _ w2 HS.out R2 (isLetter rb w2))
    cases hlt : headP letterB r1 with
    | false =>
      have HN : Hid (o = none) := qh (by rw [← HTL.out, hlt]; rfl)
      rw [hlt] at HM
      clear hlt
      go_wp2_with (go_at_call 83; refine HM.out.mono ?_)
      rintro e w3 ⟨rfl, x3⟩
      have B4z := x3.block B4a
      have B2z := x3.block B2a
      have Rz := R2.ext x3
      have Mz := M2.ext x3
      clear x3 B4a B2a R2 M2
      have d0 := cellOf B4z (i := 0) (v := .int .i64 3) rfl
      have d1 := cellOf B4z (i := 1) (v := .string ⟨#[]⟩) rfl
      have d2 := cellOf B4z (i := 2) (v := .string ⟨#[]⟩) rfl
      have d3 := cellOf B4z (i := 3) (v := .slice none 0 0) rfl
      have d4 := cellOf B4z (i := 4) (v := .int .i64 0) rfl
      have d5 := cellOf B4z (i := 5) (v := .int .i64 k) rfl
      have d6 := cellOf B4z (i := 6) (v := .int .i64 0) rfl
      have B2s := heap_setRow_same (vs := #[.int .i64 3, .string ⟨#[]⟩, .string ⟨#[]⟩, .slice none 0 0, .int .i64 0, .int .i64 k, .int .i64 0]) B2z
      have hlv := run_loadVar_row (P := Tryz.prog) _ b2 55 55 _ (0, 0) _ B2s Tryz.underlying55 rfl (by kernel_rfl)
      have RZ := qh (Rz.mv (Mv.setRow (S := (· = b2)) (Mv.refl (· = b2) _) (fun _ => rfl) #[.int .i64 3, .string ⟨#[]⟩, .string ⟨#[]⟩, .slice none 0 0, .int .i64 0, .int .i64 k, .int .i64 0]) (show ¬ rb = b2 from Ne.symm hn2))
      have MZ := qh (Mv.setRow Mz (b := b2) (fun h => absurd h (by omega)) #[.int .i64 3, .string ⟨#[]⟩, .string ⟨#[]⟩, .slice none 0 0, .int .i64 0, .int .i64 k, .int .i64 0])
      clear B4z B2s Rz Mz
      go_wp2_with (refine wpList_storeRow rfl rfl rfl rfl B2z sizeTok rfl (tkOne _ _ _ _ _ _ _ rfl rfl rfl rfl rfl rfl rfl) ?_)
      clear d0 d1 d2 d3 d4 d5 d6 B2z
      refine bodyPost_ret (v := .tuple #[.agg #[.int .i64 3, .string ⟨#[]⟩, .string ⟨#[]⟩, .slice none 0 0, .int .i64 0, .int .i64 k, .int .i64 0], .bool false]) (by simp [results, Tryz.results54, asAddr, hlv]) rfl ?_
      rw [HN.out]
      exact ⟨3, [], [], _, none, 0, 0, k, 0, _, rfl, rfl, MZ.out, RZ.out⟩
    | true =>
      rw [hlt] at HM HTL
      clear hlt
      go_wp2_with (go_at_call 83; refine HM.out.mono ?_)
      rintro e w3 ⟨rfl, x3⟩
      have B4b := qh (x3.block B4a)
      have B2b := qh (x3.block B2a)
      have M3 := qh (M2.ext x3)
      have HNM := qh (name_any rb s r1 w3 HS.out (R2.ext x3))
      clear x3 B4a B2a R2 M2
      go_wp2_with (go_at_call 88; refine HNM.out.mono ?_)
      rintro e w4 ⟨rfl, m4, R4⟩
      obtain ⟨nm, hnm⟩ : ∃ nm, (r1.takeWhile alnumB).map smallC = nm := ⟨_, rfl⟩
      rw [hnm]
      have HNMM := qh hnm
      have hb4 := m4.block B4b.out hn4
      have f4 := freeOf hb4 1
      have c4 := cellOf hb4 (i := 1) rfl
      have c40 := cellOf hb4 (i := 0) rfl
      have B4c := heap_setCell_same (i := 1) hb4 (.string (bs nm))
      have h4m := Mv.setCell (S := (· = b4)) (p := ⟨b4, 1, none⟩) (Mv.refl (· = b4) w4) (fun _ => rfl) (.string (bs nm))
      have B2c := h4m.block (m4.block B2b.out hn2) (show ¬ b2 = b4 from hn24)
      have R5 := R4.mv h4m (show ¬ rb = b4 from Ne.symm hn4)
      have M5 := Mv.setCell (p := ⟨b4, 1, none⟩) (M3.out.trans m4) (fun h => absurd h (by show ¬ b4 < w.heap.size; omega)) (.string (bs nm))
      clear m4 R4 hb4 h4m hnm
      go_upto_region 8 with fail
      obtain ⟨w5, hw5⟩ : ∃ w' : World, w' = w4.setCell ⟨b4, 1, none⟩ (.string (bs nm)) := ⟨_, rfl⟩
      rw [← hw5] at B4c B2c R5 M5 ⊢
      clear hw5 f4 c4 c40
      have c40 := cellOf B4c (i := 0) (v := .int .i64 3) rfl
      obtain ⟨r2, hr2⟩ : ∃ r2, r1.dropWhile alnumB = r2 := ⟨_, rfl⟩
      rw [hr2] at R5
      have HR2 := qh hr2
      clear hr2
      have HRUN := qh (run_any rb s r2 (neB 62) _ w5 HS.out R5 (isTag rb w5))
      go_wp2_with (go_at_call 51; refine HRUN.out.mono ?_)
      rintro e w6 ⟨rfl, m6, R6⟩
      have HONE6 := qh (one_any rb s (r2.dropWhile (neB 62)) 62 62 rfl w6 HS.out R6)
      have B4d := qh (m6.block B4c hn4)
      have B2d := qh (m6.block B2c hn2)
      have M6 := qh (M5.trans m6)
      clear m6 R6 B4c B2c R5 M5 c40
      cases hd : r2.dropWhile (neB 62) with
      | nil =>
        have hh : headP (· == (62 : UInt8)) [] = false := rfl
        have ho1 : oneL 62 [] = [] := rfl
        have HN : Hid (o = none) := qh (by
          have h : closeL s.size (c :: q) = o := by simpa using HTL.out
          rw [← h]
          unfold closeL
          rw [HR1.out, HR2.out, hd])
        rw [hd, hh, ho1] at HONE6
        clear hd hh ho1
        go_wp2_with (go_at_call 86; refine HONE6.out.mono ?_)
        rintro e w7 ⟨rfl, m7, R7⟩
        have hb4 := m7.block B4d.out hn4
        have f4 := freeOf hb4 6
        have c46 := cellOf hb4 (i := 6) (v := .int .i64 0) rfl
        obtain ⟨k7, g1, g2, g3⟩ := R7
        have c1 := cellOf g3 (i := 1) rfl
        have hk7 : s.size - ([] : List UInt8).length = k7 := by omega
        have B4z := heap_setCell_same (i := 6) hb4 (.int .i64 (k7 : Int))
        have h4m := Mv.setCell (S := (· = b4)) (p := ⟨b4, 6, none⟩) (Mv.refl (· = b4) w7) (fun _ => rfl) (.int .i64 (k7 : Int))
        have B2z := h4m.block (m7.block B2d.out hn2) (show ¬ b2 = b4 from hn24)
        have Rz : Rd rb s ([] : List UInt8) _ := Rd.mv ⟨k7, g1, g2, g3⟩ h4m (show ¬ rb = b4 from Ne.symm hn4)
        have Mz := Mv.setCell (p := ⟨b4, 6, none⟩) (M6.out.trans m7) (fun h => absurd h (by show ¬ b4 < w.heap.size; omega)) (.int .i64 (k7 : Int))
        have HK7 := qh hk7
        clear m7 g1 g2 g3 hb4 h4m hk7
        go_upto_region 12 with fail
        obtain ⟨w8, hw8⟩ : ∃ w' : World, w' = w7.setCell ⟨b4, 6, none⟩ (.int .i64 (k7 : Int)) := ⟨_, rfl⟩
        rw [← hw8] at B4z B2z Rz Mz ⊢
        clear hw8 f4 c46 c1
        have d0 := cellOf B4z (i := 0) (v := .int .i64 3) rfl
        have d1 := cellOf B4z (i := 1) (v := .string (bs nm)) rfl
        have d2 := cellOf B4z (i := 2) (v := .string ⟨#[]⟩) rfl
        have d3 := cellOf B4z (i := 3) (v := .slice none 0 0) rfl
        have d4 := cellOf B4z (i := 4) (v := .int .i64 0) rfl
        have d5 := cellOf B4z (i := 5) (v := .int .i64 k) rfl
        have d6 := cellOf B4z (i := 6) (v := .int .i64 (k7 : Int)) rfl
        have B2s := heap_setRow_same (vs := #[.int .i64 3, .string (bs nm), .string ⟨#[]⟩, .slice none 0 0, .int .i64 0, .int .i64 k, .int .i64 (k7 : Int)]) B2z
        have hlv := run_loadVar_row (P := Tryz.prog) _ b2 55 55 _ (0, 0) _ B2s Tryz.underlying55 rfl (by kernel_rfl)
        have RZ := qh (Rz.mv (Mv.setRow (S := (· = b2)) (Mv.refl (· = b2) _) (fun _ => rfl) #[.int .i64 3, .string (bs nm), .string ⟨#[]⟩, .slice none 0 0, .int .i64 0, .int .i64 k, .int .i64 (k7 : Int)]) (show ¬ rb = b2 from Ne.symm hn2))
        have MZ := qh (Mv.setRow Mz (b := b2) (fun h => absurd h (by omega)) #[.int .i64 3, .string (bs nm), .string ⟨#[]⟩, .slice none 0 0, .int .i64 0, .int .i64 k, .int .i64 (k7 : Int)])
        clear B4z B2s Rz Mz
        go_wp2_with (refine wpList_storeRow rfl rfl rfl rfl B2z sizeTok rfl (tkOne _ _ _ _ _ _ _ rfl rfl rfl rfl rfl rfl rfl) ?_)
        clear d0 d1 d2 d3 d4 d5 d6 B2z
        refine bodyPost_ret (v := .tuple #[.agg #[.int .i64 3, .string (bs nm), .string ⟨#[]⟩, .slice none 0 0, .int .i64 0, .int .i64 k, .int .i64 (k7 : Int)], .bool false]) (by simp [results, Tryz.results54, asAddr, hlv]) rfl ?_
        rw [HN.out]
        exact ⟨3, nm, [], _, none, 0, 0, k, _, _, rfl, rfl, MZ.out, RZ.out⟩
      | cons y e5 =>
        have hy := neB_head hd
        subst hy
        have hh : headP (· == (62 : UInt8)) (62 :: e5) = true := rfl
        have ho1 : oneL 62 (62 :: e5) = e5 := rfl
        have HN : Hid (o = some (⟨3, nm, [], [], false, k, s.size - e5.length⟩, e5)) := qh (by
          have h : closeL s.size (c :: q) = o := by simpa using HTL.out
          rw [← h]
          unfold closeL
          rw [HR1.out, HR2.out, hd]
          dsimp only
          unfold tagN
          rw [HR1.out, HNMM.out]
          have h8 := HQ.out.2.2
          rw [show s.size - (c :: q).length = k by omega])
        rw [hd, hh, ho1] at HONE6
        clear hd hh ho1
        go_wp2_with (go_at_call 86; refine HONE6.out.mono ?_)
        rintro e w7 ⟨rfl, m7, R7⟩
        have hb4 := m7.block B4d.out hn4
        have f4 := freeOf hb4 6
        have c46 := cellOf hb4 (i := 6) (v := .int .i64 0) rfl
        obtain ⟨k7, g1, g2, g3⟩ := R7
        have c1 := cellOf g3 (i := 1) rfl
        have hk7 : s.size - (e5).length = k7 := by omega
        have B4z := heap_setCell_same (i := 6) hb4 (.int .i64 (k7 : Int))
        have h4m := Mv.setCell (S := (· = b4)) (p := ⟨b4, 6, none⟩) (Mv.refl (· = b4) w7) (fun _ => rfl) (.int .i64 (k7 : Int))
        have B2z := h4m.block (m7.block B2d.out hn2) (show ¬ b2 = b4 from hn24)
        have Rz : Rd rb s (e5) _ := Rd.mv ⟨k7, g1, g2, g3⟩ h4m (show ¬ rb = b4 from Ne.symm hn4)
        have Mz := Mv.setCell (p := ⟨b4, 6, none⟩) (M6.out.trans m7) (fun h => absurd h (by show ¬ b4 < w.heap.size; omega)) (.int .i64 (k7 : Int))
        have HK7 := qh hk7
        clear m7 g1 g2 g3 hb4 h4m hk7
        go_upto_region 12 with fail
        obtain ⟨w8, hw8⟩ : ∃ w' : World, w' = w7.setCell ⟨b4, 6, none⟩ (.int .i64 (k7 : Int)) := ⟨_, rfl⟩
        rw [← hw8] at B4z B2z Rz Mz ⊢
        clear hw8 f4 c46 c1
        have d0 := cellOf B4z (i := 0) (v := .int .i64 3) rfl
        have d1 := cellOf B4z (i := 1) (v := .string (bs nm)) rfl
        have d2 := cellOf B4z (i := 2) (v := .string ⟨#[]⟩) rfl
        have d3 := cellOf B4z (i := 3) (v := .slice none 0 0) rfl
        have d4 := cellOf B4z (i := 4) (v := .int .i64 0) rfl
        have d5 := cellOf B4z (i := 5) (v := .int .i64 k) rfl
        have d6 := cellOf B4z (i := 6) (v := .int .i64 (k7 : Int)) rfl
        have B2s := heap_setRow_same (vs := #[.int .i64 3, .string (bs nm), .string ⟨#[]⟩, .slice none 0 0, .int .i64 0, .int .i64 k, .int .i64 (k7 : Int)]) B2z
        have hlv := run_loadVar_row (P := Tryz.prog) _ b2 55 55 _ (0, 0) _ B2s Tryz.underlying55 rfl (by kernel_rfl)
        have RZ := qh (Rz.mv (Mv.setRow (S := (· = b2)) (Mv.refl (· = b2) _) (fun _ => rfl) #[.int .i64 3, .string (bs nm), .string ⟨#[]⟩, .slice none 0 0, .int .i64 0, .int .i64 k, .int .i64 (k7 : Int)]) (show ¬ rb = b2 from Ne.symm hn2))
        have MZ := qh (Mv.setRow Mz (b := b2) (fun h => absurd h (by omega)) #[.int .i64 3, .string (bs nm), .string ⟨#[]⟩, .slice none 0 0, .int .i64 0, .int .i64 k, .int .i64 (k7 : Int)])
        clear B4z B2s Rz Mz
        go_wp2_with (refine wpList_storeRow rfl rfl rfl rfl B2z sizeTok rfl (tkOne _ _ _ _ _ _ _ rfl rfl rfl rfl rfl rfl rfl) ?_)
        clear d0 d1 d2 d3 d4 d5 d6 B2z
        refine bodyPost_ret (v := .tuple #[.agg #[.int .i64 3, .string (bs nm), .string ⟨#[]⟩, .slice none 0 0, .int .i64 0, .int .i64 k, .int .i64 (k7 : Int)], .bool true]) (by simp [results, Tryz.results54, asAddr, hlv]) rfl ?_
        rw [HN.out, HK7.out]
        exact ⟨_, rfl, MZ.out, RZ.out, ⟨rfl, .inl ⟨rfl, none, rfl⟩⟩⟩
  | false =>
    rw [hcb] at HONE HTL
    clear hcb
    go_wp2_with (go_at_call 86; refine HONE.out.mono ?_)
    rintro e w2 ⟨rfl, m1, R2⟩
    have B4a := m1.block B4.out hn4
    have B2a := m1.block B2.out hn2
    have M2 := M0.out.trans m1
    clear m1
    go_upto_region 5 with fail
    have HM := qh (more_any rb s r1 letterB _ w2 HS.out R2 (isLetter rb w2))
    cases hlt : headP letterB r1 with
    | false =>
      have HN : Hid (o = none) := qh (by rw [← HTL.out, hlt]; rfl)
      rw [hlt] at HM
      clear hlt
      go_wp2_with (go_at_call 83; refine HM.out.mono ?_)
      rintro e w3 ⟨rfl, x3⟩
      have B4z := x3.block B4a
      have B2z := x3.block B2a
      have Rz := R2.ext x3
      have Mz := M2.ext x3
      clear x3 B4a B2a R2 M2
      have d0 := cellOf B4z (i := 0) (v := .int .i64 2) rfl
      have d1 := cellOf B4z (i := 1) (v := .string ⟨#[]⟩) rfl
      have d2 := cellOf B4z (i := 2) (v := .string ⟨#[]⟩) rfl
      have d3 := cellOf B4z (i := 3) (v := .slice none 0 0) rfl
      have d4 := cellOf B4z (i := 4) (v := .int .i64 0) rfl
      have d5 := cellOf B4z (i := 5) (v := .int .i64 k) rfl
      have d6 := cellOf B4z (i := 6) (v := .int .i64 0) rfl
      have B2s := heap_setRow_same (vs := #[.int .i64 2, .string ⟨#[]⟩, .string ⟨#[]⟩, .slice none 0 0, .int .i64 0, .int .i64 k, .int .i64 0]) B2z
      have hlv := run_loadVar_row (P := Tryz.prog) _ b2 55 55 _ (0, 0) _ B2s Tryz.underlying55 rfl (by kernel_rfl)
      have RZ := qh (Rz.mv (Mv.setRow (S := (· = b2)) (Mv.refl (· = b2) _) (fun _ => rfl) #[.int .i64 2, .string ⟨#[]⟩, .string ⟨#[]⟩, .slice none 0 0, .int .i64 0, .int .i64 k, .int .i64 0]) (show ¬ rb = b2 from Ne.symm hn2))
      have MZ := qh (Mv.setRow Mz (b := b2) (fun h => absurd h (by omega)) #[.int .i64 2, .string ⟨#[]⟩, .string ⟨#[]⟩, .slice none 0 0, .int .i64 0, .int .i64 k, .int .i64 0])
      clear B4z B2s Rz Mz
      go_wp2_with (refine wpList_storeRow rfl rfl rfl rfl B2z sizeTok rfl (tkOne _ _ _ _ _ _ _ rfl rfl rfl rfl rfl rfl rfl) ?_)
      clear d0 d1 d2 d3 d4 d5 d6 B2z
      refine bodyPost_ret (v := .tuple #[.agg #[.int .i64 2, .string ⟨#[]⟩, .string ⟨#[]⟩, .slice none 0 0, .int .i64 0, .int .i64 k, .int .i64 0], .bool false]) (by simp [results, Tryz.results54, asAddr, hlv]) rfl ?_
      rw [HN.out]
      exact ⟨2, [], [], _, none, 0, 0, k, 0, _, rfl, rfl, MZ.out, RZ.out⟩
    | true =>
      rw [hlt] at HM HTL
      clear hlt
      go_wp2_with (go_at_call 83; refine HM.out.mono ?_)
      rintro e w3 ⟨rfl, x3⟩
      have B4b := qh (x3.block B4a)
      have B2b := qh (x3.block B2a)
      have M3 := qh (M2.ext x3)
      have HNM := qh (name_any rb s r1 w3 HS.out (R2.ext x3))
      clear x3 B4a B2a R2 M2
      go_wp2_with (go_at_call 88; refine HNM.out.mono ?_)
      rintro e w4 ⟨rfl, m4, R4⟩
      obtain ⟨nm, hnm⟩ : ∃ nm, (r1.takeWhile alnumB).map smallC = nm := ⟨_, rfl⟩
      rw [hnm]
      have HNMM := qh hnm
      have hb4 := m4.block B4b.out hn4
      have f4 := freeOf hb4 1
      have c4 := cellOf hb4 (i := 1) rfl
      have c40 := cellOf hb4 (i := 0) rfl
      have B4c := heap_setCell_same (i := 1) hb4 (.string (bs nm))
      have h4m := Mv.setCell (S := (· = b4)) (p := ⟨b4, 1, none⟩) (Mv.refl (· = b4) w4) (fun _ => rfl) (.string (bs nm))
      have B2c := h4m.block (m4.block B2b.out hn2) (show ¬ b2 = b4 from hn24)
      have R5 := R4.mv h4m (show ¬ rb = b4 from Ne.symm hn4)
      have M5 := Mv.setCell (p := ⟨b4, 1, none⟩) (M3.out.trans m4) (fun h => absurd h (by show ¬ b4 < w.heap.size; omega)) (.string (bs nm))
      clear m4 R4 hb4 h4m hnm
      go_upto_region 8 with fail
      obtain ⟨w5, hw5⟩ : ∃ w' : World, w' = w4.setCell ⟨b4, 1, none⟩ (.string (bs nm)) := ⟨_, rfl⟩
      rw [← hw5] at B4c B2c R5 M5 ⊢
      clear hw5 f4 c4 c40
      have c40 := cellOf B4c (i := 0) (v := .int .i64 2) rfl
      obtain ⟨r2, hr2⟩ : ∃ r2, r1.dropWhile alnumB = r2 := ⟨_, rfl⟩
      rw [hr2] at R5
      have HR2 := qh hr2
      clear hr2
      have HPT := qh (parts_any rb s r2 w5 HS6.out R5)
      have HRL := qh (show r2.length ≤ s.size by obtain ⟨k9, q1, _, _⟩ := R5; omega)
      cases hpx : partsL r2 with
      | none =>
        rw [hpx] at HPT
        have HN : Hid (o = none) := qh (by
          have h : openL s.size (c :: q) = o := by simpa using HTL.out
          rw [← h]
          unfold openL
          rw [HR1.out, HR2.out, hpx]
          rfl)
        clear hpx
        go_wp2_with (go_at_call 90; refine HPT.out.mono ?_)
        rintro e w6 ⟨e5, rfl, m6, R6⟩
        have hlw6 : LW w6 := HL.out _ (M5.trans m6)
        have HOWN := qh (fun W (x : Ext w6 W) => owned_any [] (.slice none 0 0) W ⟨rfl, none, 0, rfl, Nat.le_refl _, fun _ => ⟨rfl, rfl⟩, fun a h => by cases h⟩ (by decide) (fun p hp => by cases hp) (hlw6.ext x))
        clear hlw6
        have B4d := m6.block B4c hn4
        have B2d := m6.block B2c hn2
        have M6 := M5.trans m6
        have hws6 := M6.size
        obtain ⟨k7, g1, g2, g3⟩ := R6
        have HK7 := qh (show s.size - (e5).length = k7 by omega)
        have R6 : Rd rb s (e5) w6 := ⟨k7, g1, g2, g3⟩
        have c1 := cellOf g3 (i := 1) rfl
        have C1 := qh c1
        clear m6 g1 g2 B4c B2c R5 M5 c40 c1
        go_upto_region 14 with fail
        refine wp_region_E (S := fun w' => w'.cell? ⟨rb, 1, none⟩ = some (.int .i64 k7)) (n := 99) (by kernel_rfl) ?_
        have hS : w6.drew.cell? ⟨rb, 1, none⟩ = some (.int .i64 k7) := C1.out
        show wpE _ _ _ _ _ 99 13 (Array.replicate 13 false) _ _
        refine wpE_tk 0 51 ((.slice none 0 0)) rfl (.inl ⟨by rfl, fun w' hSw => ?_⟩) hS ?_
        · (clear hS; go_simp)
        try simp only [Act.put, zA, zB, zC]
        refine wpE_tk 2 53 (.int .i64 0) rfl (.inl ⟨by rfl, fun w' hSw => ?_⟩) hS ?_
        · (clear hS; go_simp)
        try simp only [Act.put, zA, zB, zC]
        refine wpE_tk 3 54 (.pointer (some ⟨rb, 0, none⟩)) rfl (.inl ⟨by rfl, fun w' hSw => ?_⟩) hS ?_
        · (clear hS; go_simp)
        try simp only [Act.put, zA, zB, zC]
        refine wpE_tk 4 55 (.pointer (some ⟨rb, 0, none⟩)) rfl (.inl ⟨by rfl, fun w' hSw => ?_⟩) hS ?_
        · (clear hS; go_simp)
        try simp only [Act.put, zA, zB, zC]
        refine wpE_tk 5 56 (.pointer (some ⟨rb, 1, none⟩)) rfl (.inl ⟨by rfl, fun w' hSw => ?_⟩) hS ?_
        · (clear hS; go_simp)
        try simp only [Act.put, zA, zB, zC]
        refine wpE_tk 6 57 (.int .i64 k7) rfl (.inl ⟨by rfl, fun w' hSw => ?_⟩) hS ?_
        · (clear hS; go_simp)
        try simp only [Act.put, zA, zB, zC]
        obtain ⟨wd, hwd⟩ : ∃ wd : World, wd = w6.drew := ⟨_, rfl⟩
        have xd : Ext w6 wd := by rw [hwd]; exact (Ext.refl w6).drew
        rw [← hwd] at hS ⊢
        clear hwd
        refine wpE_on 1 (some 52) rfl (fun K hK => ?_)
        go_simp
        go_at_call 91
        refine (HOWN.out wd xd).mono ?_
        rintro e w7 ⟨ov, rfl, x7, hov⟩
        have x67 := xd.trans x7
        have hS7 := x67.cell C1.out
        refine hK.out _ _ (.inr hS7) ?_
        clear hK K hS
        try simp only [Act.put, zA, zB, zC]
        have BBw7 := x67.block B4d
        have B2w := x67.block B2d
        have mmw7 := Mv.ofExt (S := (· = b4)) (Ext.refl w7)
        have kkw7 := hS7
        have M7 := M6.ext x67
        have R7 := R6.ext x67
        have hb4d := (Array.getElem?_eq_some_iff.1 B4d).1
        have hb2d := (Array.getElem?_eq_some_iff.1 B2d).1
        have hov2 := RowP.imp hov (q := fun g => w6.heap.size ≤ g) (fun g _ hg => Nat.le_trans xd.size hg)
        obtain ⟨ova, ovc, rfl, _⟩ := hov2.rd.len_of
        clear x7 xd x67 B4d B2d M6 R6 hS7 C1
        have hS := kkw7
        refine wpE_tk 7 58 (.pointer (some ⟨b4, 3, none⟩)) rfl (.inl ⟨by rfl, fun w' hSw => ?_⟩) hS ?_
        · (clear hS; go_simp)
        try simp only [Act.put, zA, zB, zC]
        have f3 := freeOf BBw7 3
        have z3 := cellOf BBw7 (i := 3) rfl
        have BBw8 := heap_setCell_same (i := 3) BBw7 (.slice ova (ownedL ([])).length ovc)
        have mmw8 := Mv.setCell (S := (· = b4)) (p := ⟨b4, 3, none⟩) mmw7 (fun _ => rfl) (.slice ova (ownedL ([])).length ovc)
        have kkw8 := (Mv.setCell (S := (· = b4)) (p := ⟨b4, 3, none⟩) (Mv.refl (· = b4) w7) (fun _ => rfl) (.slice ova (ownedL ([])).length ovc)).cell kkw7 (show ¬ rb = b4 from Ne.symm hn4)
        refine wpE_on 8 (none) rfl (fun K hK => ?_)
        go_simp
        refine hK.out _ _ (.inr kkw8) ?_
        clear hK K
        obtain ⟨w8, hww8⟩ : ∃ w' : World, w' = w7.setCell ⟨b4, 3, none⟩ (.slice ova (ownedL ([])).length ovc) := ⟨_, rfl⟩
        rw [← hww8] at BBw8 mmw8 kkw8 ⊢
        clear hww8 f3 z3 BBw7 mmw7 kkw7
        clear hS
        have hS := kkw8
        refine wpE_tk 9 59 (.pointer (some ⟨b4, 4, none⟩)) rfl (.inl ⟨by rfl, fun w' hSw => ?_⟩) hS ?_
        · (clear hS; go_simp)
        try simp only [Act.put, zA, zB, zC]
        have f4 := freeOf BBw8 4
        have z4 := cellOf BBw8 (i := 4) rfl
        have BBw9 := heap_setCell_same (i := 4) BBw8 (.int .i64 0)
        have mmw9 := Mv.setCell (S := (· = b4)) (p := ⟨b4, 4, none⟩) mmw8 (fun _ => rfl) (.int .i64 0)
        have kkw9 := (Mv.setCell (S := (· = b4)) (p := ⟨b4, 4, none⟩) (Mv.refl (· = b4) w8) (fun _ => rfl) (.int .i64 0)).cell kkw8 (show ¬ rb = b4 from Ne.symm hn4)
        refine wpE_on 10 (none) rfl (fun K hK => ?_)
        go_simp
        refine hK.out _ _ (.inr kkw9) ?_
        clear hK K
        obtain ⟨w9, hww9⟩ : ∃ w' : World, w' = w8.setCell ⟨b4, 4, none⟩ (.int .i64 0) := ⟨_, rfl⟩
        rw [← hww9] at BBw9 mmw9 kkw9 ⊢
        clear hww9 f4 z4 BBw8 mmw8 kkw8
        clear hS
        have hS := kkw9
        refine wpE_tk 11 60 (.pointer (some ⟨b4, 6, none⟩)) rfl (.inl ⟨by rfl, fun w' hSw => ?_⟩) hS ?_
        · (clear hS; go_simp)
        try simp only [Act.put, zA, zB, zC]
        have f6 := freeOf BBw9 6
        have z6 := cellOf BBw9 (i := 6) rfl
        have BBw10 := heap_setCell_same (i := 6) BBw9 (.int .i64 (k7 : Int))
        have mmw10 := Mv.setCell (S := (· = b4)) (p := ⟨b4, 6, none⟩) mmw9 (fun _ => rfl) (.int .i64 (k7 : Int))
        have kkw10 := (Mv.setCell (S := (· = b4)) (p := ⟨b4, 6, none⟩) (Mv.refl (· = b4) w9) (fun _ => rfl) (.int .i64 (k7 : Int))).cell kkw9 (show ¬ rb = b4 from Ne.symm hn4)
        refine wpE_on 12 (none) rfl (fun K hK => ?_)
        go_simp
        refine hK.out _ _ (.inr kkw10) ?_
        clear hK K
        obtain ⟨w10, hww10⟩ : ∃ w' : World, w' = w9.setCell ⟨b4, 6, none⟩ (.int .i64 (k7 : Int)) := ⟨_, rfl⟩
        rw [← hww10] at BBw10 mmw10 kkw10 ⊢
        clear hww10 f6 z6 BBw9 mmw9 kkw9
        clear hS
        refine wpE_done (by kernel_rfl) ?_
        have B4z := BBw10
        have B2z := mmw10.block B2w (show ¬ b2 = b4 from hn24)
        have Rz := R7.mv mmw10 (show ¬ rb = b4 from Ne.symm hn4)
        have Mz := Mv.over M7 mmw10 (fun x hx hb => by
          have hb' : x = b4 := hb
          omega)
        have d0 := cellOf B4z (i := 0) (v := .int .i64 2) rfl
        have d1 := cellOf B4z (i := 1) (v := .string (bs nm)) rfl
        have d2 := cellOf B4z (i := 2) (v := .string ⟨#[]⟩) rfl
        have d3 := cellOf B4z (i := 3) (v := .slice ova (ownedL ([])).length ovc) rfl
        have d4 := cellOf B4z (i := 4) (v := .int .i64 0) rfl
        have d5 := cellOf B4z (i := 5) (v := .int .i64 k) rfl
        have d6 := cellOf B4z (i := 6) (v := .int .i64 (k7 : Int)) rfl
        have B2s := heap_setRow_same (vs := #[.int .i64 2, .string (bs nm), .string ⟨#[]⟩, .slice ova (ownedL ([])).length ovc, .int .i64 0, .int .i64 k, .int .i64 (k7 : Int)]) B2z
        have hlv := run_loadVar_row (P := Tryz.prog) _ b2 55 55 _ (0, 0) _ B2s Tryz.underlying55 rfl (by kernel_rfl)
        have RZ := qh (Rz.mv (Mv.setRow (S := (· = b2)) (Mv.refl (· = b2) _) (fun _ => rfl) #[.int .i64 2, .string (bs nm), .string ⟨#[]⟩, .slice ova (ownedL ([])).length ovc, .int .i64 0, .int .i64 k, .int .i64 (k7 : Int)]) (show ¬ rb = b2 from Ne.symm hn2))
        have MZ := qh (Mv.setRow Mz (b := b2) (fun h => absurd h (by omega)) #[.int .i64 2, .string (bs nm), .string ⟨#[]⟩, .slice ova (ownedL ([])).length ovc, .int .i64 0, .int .i64 k, .int .i64 (k7 : Int)])
        have OVZ := qh ((RowP.imp ((hov2.mv mmw10 (fun g hg => by have hg' : w6.heap.size ≤ g := hg; show ¬ g = b4; omega)).mv (Mv.setRow (S := (· = b2)) (Mv.refl (· = b2) _) (fun _ => rfl) #[.int .i64 2, .string (bs nm), .string ⟨#[]⟩, .slice ova (ownedL ([])).length ovc, .int .i64 0, .int .i64 k, .int .i64 (k7 : Int)]) (fun g hg => by have hg' : w6.heap.size ≤ g := hg; show ¬ g = b2; omega)) (q := fun g => w.heap.size ≤ g) (fun g _ hg => by have hg' : w6.heap.size ≤ g := hg; omega)))
        clear B4z B2s Rz Mz
        go_wp2_with (refine wpList_storeRow rfl rfl rfl rfl B2z sizeTok rfl (tkOne _ _ _ _ _ _ _ rfl rfl rfl rfl rfl rfl rfl) ?_)
        clear d0 d1 d2 d3 d4 d5 d6 B2z
        refine bodyPost_ret (v := .tuple #[.agg #[.int .i64 2, .string (bs nm), .string ⟨#[]⟩, .slice ova (ownedL ([])).length ovc, .int .i64 0, .int .i64 k, .int .i64 (k7 : Int)], .bool false]) (by simp [results, Tryz.results54, asAddr, hlv]) rfl ?_
        rw [HN.out]
        obtain ⟨oa, oc, eo, _⟩ := OVZ.out.rd.len_of
        exact ⟨2, nm, [], _, oa, oc, 0, k, _, _, rfl, eo, MZ.out, RZ.out⟩
      | some x =>
        obtain ⟨l, self, e5⟩ := x
        have hok := partsL_ok 1000000 r2 _ (by have h8 := HRL.out; have := HS6.out; omega) hpx
        have HOK := qh hok
        rw [hpx] at HPT
        have HN : Hid (o = some (⟨2, nm, [], ownedL l, self, k, s.size - e5.length⟩, e5)) := qh (by
          have h : openL s.size (c :: q) = o := by simpa using HTL.out
          rw [← h]
          unfold openL
          rw [HR1.out, HR2.out, hpx]
          unfold tagN
          rw [HR1.out, HNMM.out]
          have h8 := HQ.out.2.2
          rw [show s.size - (c :: q).length = k by omega]
          rfl)
        clear hpx hok
        go_wp2_with (go_at_call 90; refine HPT.out.mono ?_)
        rintro e w6 ⟨lv, rfl, m6, R6, hrow6⟩
        obtain ⟨zs, hzs⟩ : ∃ z : Int, (if self then (1 : Int) else 0) = z := ⟨_, rfl⟩
        rw [hzs]
        have HZS := qh hzs
        have hlw6 : LW w6 := HL.out _ (M5.trans m6)
        have HOWN := qh (fun W (x : Ext w6 W) => owned_any l lv W (hrow6.rd.ext x) (by have h8 := HOK.out.2; have h9 := HRL.out; have := HS6.out; omega) (fun p hp => HOK.out.1 p hp) (hlw6.ext x))
        clear hzs hrow6 hlw6
        have B4d := m6.block B4c hn4
        have B2d := m6.block B2c hn2
        have M6 := M5.trans m6
        have hws6 := M6.size
        obtain ⟨k7, g1, g2, g3⟩ := R6
        have HK7 := qh (show s.size - (e5).length = k7 by omega)
        have R6 : Rd rb s (e5) w6 := ⟨k7, g1, g2, g3⟩
        have c1 := cellOf g3 (i := 1) rfl
        have C1 := qh c1
        clear m6 g1 g2 B4c B2c R5 M5 c40 c1
        go_upto_region 14 with fail
        refine wp_region_E (S := fun w' => w'.cell? ⟨rb, 1, none⟩ = some (.int .i64 k7)) (n := 99) (by kernel_rfl) ?_
        have hS : w6.drew.cell? ⟨rb, 1, none⟩ = some (.int .i64 k7) := C1.out
        show wpE _ _ _ _ _ 99 13 (Array.replicate 13 false) _ _
        refine wpE_tk 0 51 (lv) rfl (.inl ⟨by rfl, fun w' hSw => ?_⟩) hS ?_
        · (clear hS; go_simp)
        try simp only [Act.put, zA, zB, zC]
        refine wpE_tk 2 53 (.int .i64 zs) rfl (.inl ⟨by rfl, fun w' hSw => ?_⟩) hS ?_
        · (clear hS; go_simp)
        try simp only [Act.put, zA, zB, zC]
        refine wpE_tk 3 54 (.pointer (some ⟨rb, 0, none⟩)) rfl (.inl ⟨by rfl, fun w' hSw => ?_⟩) hS ?_
        · (clear hS; go_simp)
        try simp only [Act.put, zA, zB, zC]
        refine wpE_tk 4 55 (.pointer (some ⟨rb, 0, none⟩)) rfl (.inl ⟨by rfl, fun w' hSw => ?_⟩) hS ?_
        · (clear hS; go_simp)
        try simp only [Act.put, zA, zB, zC]
        refine wpE_tk 5 56 (.pointer (some ⟨rb, 1, none⟩)) rfl (.inl ⟨by rfl, fun w' hSw => ?_⟩) hS ?_
        · (clear hS; go_simp)
        try simp only [Act.put, zA, zB, zC]
        refine wpE_tk 6 57 (.int .i64 k7) rfl (.inl ⟨by rfl, fun w' hSw => ?_⟩) hS ?_
        · (clear hS; go_simp)
        try simp only [Act.put, zA, zB, zC]
        obtain ⟨wd, hwd⟩ : ∃ wd : World, wd = w6.drew := ⟨_, rfl⟩
        have xd : Ext w6 wd := by rw [hwd]; exact (Ext.refl w6).drew
        rw [← hwd] at hS ⊢
        clear hwd
        refine wpE_on 1 (some 52) rfl (fun K hK => ?_)
        go_simp
        go_at_call 91
        refine (HOWN.out wd xd).mono ?_
        rintro e w7 ⟨ov, rfl, x7, hov⟩
        have x67 := xd.trans x7
        have hS7 := x67.cell C1.out
        refine hK.out _ _ (.inr hS7) ?_
        clear hK K hS
        try simp only [Act.put, zA, zB, zC]
        have BBw7 := x67.block B4d
        have B2w := x67.block B2d
        have mmw7 := Mv.ofExt (S := (· = b4)) (Ext.refl w7)
        have kkw7 := hS7
        have M7 := M6.ext x67
        have R7 := R6.ext x67
        have hb4d := (Array.getElem?_eq_some_iff.1 B4d).1
        have hb2d := (Array.getElem?_eq_some_iff.1 B2d).1
        have hov2 := RowP.imp hov (q := fun g => w6.heap.size ≤ g) (fun g _ hg => Nat.le_trans xd.size hg)
        obtain ⟨ova, ovc, rfl, _⟩ := hov2.rd.len_of
        clear x7 xd x67 B4d B2d M6 R6 hS7 C1
        have hS := kkw7
        refine wpE_tk 7 58 (.pointer (some ⟨b4, 3, none⟩)) rfl (.inl ⟨by rfl, fun w' hSw => ?_⟩) hS ?_
        · (clear hS; go_simp)
        try simp only [Act.put, zA, zB, zC]
        have f3 := freeOf BBw7 3
        have z3 := cellOf BBw7 (i := 3) rfl
        have BBw8 := heap_setCell_same (i := 3) BBw7 (.slice ova (ownedL (l)).length ovc)
        have mmw8 := Mv.setCell (S := (· = b4)) (p := ⟨b4, 3, none⟩) mmw7 (fun _ => rfl) (.slice ova (ownedL (l)).length ovc)
        have kkw8 := (Mv.setCell (S := (· = b4)) (p := ⟨b4, 3, none⟩) (Mv.refl (· = b4) w7) (fun _ => rfl) (.slice ova (ownedL (l)).length ovc)).cell kkw7 (show ¬ rb = b4 from Ne.symm hn4)
        refine wpE_on 8 (none) rfl (fun K hK => ?_)
        go_simp
        refine hK.out _ _ (.inr kkw8) ?_
        clear hK K
        obtain ⟨w8, hww8⟩ : ∃ w' : World, w' = w7.setCell ⟨b4, 3, none⟩ (.slice ova (ownedL (l)).length ovc) := ⟨_, rfl⟩
        rw [← hww8] at BBw8 mmw8 kkw8 ⊢
        clear hww8 f3 z3 BBw7 mmw7 kkw7
        clear hS
        have hS := kkw8
        refine wpE_tk 9 59 (.pointer (some ⟨b4, 4, none⟩)) rfl (.inl ⟨by rfl, fun w' hSw => ?_⟩) hS ?_
        · (clear hS; go_simp)
        try simp only [Act.put, zA, zB, zC]
        have f4 := freeOf BBw8 4
        have z4 := cellOf BBw8 (i := 4) rfl
        have BBw9 := heap_setCell_same (i := 4) BBw8 (.int .i64 zs)
        have mmw9 := Mv.setCell (S := (· = b4)) (p := ⟨b4, 4, none⟩) mmw8 (fun _ => rfl) (.int .i64 zs)
        have kkw9 := (Mv.setCell (S := (· = b4)) (p := ⟨b4, 4, none⟩) (Mv.refl (· = b4) w8) (fun _ => rfl) (.int .i64 zs)).cell kkw8 (show ¬ rb = b4 from Ne.symm hn4)
        refine wpE_on 10 (none) rfl (fun K hK => ?_)
        go_simp
        refine hK.out _ _ (.inr kkw9) ?_
        clear hK K
        obtain ⟨w9, hww9⟩ : ∃ w' : World, w' = w8.setCell ⟨b4, 4, none⟩ (.int .i64 zs) := ⟨_, rfl⟩
        rw [← hww9] at BBw9 mmw9 kkw9 ⊢
        clear hww9 f4 z4 BBw8 mmw8 kkw8
        clear hS
        have hS := kkw9
        refine wpE_tk 11 60 (.pointer (some ⟨b4, 6, none⟩)) rfl (.inl ⟨by rfl, fun w' hSw => ?_⟩) hS ?_
        · (clear hS; go_simp)
        try simp only [Act.put, zA, zB, zC]
        have f6 := freeOf BBw9 6
        have z6 := cellOf BBw9 (i := 6) rfl
        have BBw10 := heap_setCell_same (i := 6) BBw9 (.int .i64 (k7 : Int))
        have mmw10 := Mv.setCell (S := (· = b4)) (p := ⟨b4, 6, none⟩) mmw9 (fun _ => rfl) (.int .i64 (k7 : Int))
        have kkw10 := (Mv.setCell (S := (· = b4)) (p := ⟨b4, 6, none⟩) (Mv.refl (· = b4) w9) (fun _ => rfl) (.int .i64 (k7 : Int))).cell kkw9 (show ¬ rb = b4 from Ne.symm hn4)
        refine wpE_on 12 (none) rfl (fun K hK => ?_)
        go_simp
        refine hK.out _ _ (.inr kkw10) ?_
        clear hK K
        obtain ⟨w10, hww10⟩ : ∃ w' : World, w' = w9.setCell ⟨b4, 6, none⟩ (.int .i64 (k7 : Int)) := ⟨_, rfl⟩
        rw [← hww10] at BBw10 mmw10 kkw10 ⊢
        clear hww10 f6 z6 BBw9 mmw9 kkw9
        clear hS
        refine wpE_done (by kernel_rfl) ?_
        have B4z := BBw10
        have B2z := mmw10.block B2w (show ¬ b2 = b4 from hn24)
        have Rz := R7.mv mmw10 (show ¬ rb = b4 from Ne.symm hn4)
        have Mz := Mv.over M7 mmw10 (fun x hx hb => by
          have hb' : x = b4 := hb
          omega)
        have d0 := cellOf B4z (i := 0) (v := .int .i64 2) rfl
        have d1 := cellOf B4z (i := 1) (v := .string (bs nm)) rfl
        have d2 := cellOf B4z (i := 2) (v := .string ⟨#[]⟩) rfl
        have d3 := cellOf B4z (i := 3) (v := .slice ova (ownedL (l)).length ovc) rfl
        have d4 := cellOf B4z (i := 4) (v := .int .i64 zs) rfl
        have d5 := cellOf B4z (i := 5) (v := .int .i64 k) rfl
        have d6 := cellOf B4z (i := 6) (v := .int .i64 (k7 : Int)) rfl
        have B2s := heap_setRow_same (vs := #[.int .i64 2, .string (bs nm), .string ⟨#[]⟩, .slice ova (ownedL (l)).length ovc, .int .i64 zs, .int .i64 k, .int .i64 (k7 : Int)]) B2z
        have hlv := run_loadVar_row (P := Tryz.prog) _ b2 55 55 _ (0, 0) _ B2s Tryz.underlying55 rfl (by kernel_rfl)
        have RZ := qh (Rz.mv (Mv.setRow (S := (· = b2)) (Mv.refl (· = b2) _) (fun _ => rfl) #[.int .i64 2, .string (bs nm), .string ⟨#[]⟩, .slice ova (ownedL (l)).length ovc, .int .i64 zs, .int .i64 k, .int .i64 (k7 : Int)]) (show ¬ rb = b2 from Ne.symm hn2))
        have MZ := qh (Mv.setRow Mz (b := b2) (fun h => absurd h (by omega)) #[.int .i64 2, .string (bs nm), .string ⟨#[]⟩, .slice ova (ownedL (l)).length ovc, .int .i64 zs, .int .i64 k, .int .i64 (k7 : Int)])
        have OVZ := qh ((RowP.imp ((hov2.mv mmw10 (fun g hg => by have hg' : w6.heap.size ≤ g := hg; show ¬ g = b4; omega)).mv (Mv.setRow (S := (· = b2)) (Mv.refl (· = b2) _) (fun _ => rfl) #[.int .i64 2, .string (bs nm), .string ⟨#[]⟩, .slice ova (ownedL (l)).length ovc, .int .i64 zs, .int .i64 k, .int .i64 (k7 : Int)]) (fun g hg => by have hg' : w6.heap.size ≤ g := hg; show ¬ g = b2; omega)) (q := fun g => w.heap.size ≤ g) (fun g _ hg => by have hg' : w6.heap.size ≤ g := hg; omega)))
        clear B4z B2s Rz Mz
        go_wp2_with (refine wpList_storeRow rfl rfl rfl rfl B2z sizeTok rfl (tkOne _ _ _ _ _ _ _ rfl rfl rfl rfl rfl rfl rfl) ?_)
        clear d0 d1 d2 d3 d4 d5 d6 B2z
        refine bodyPost_ret (v := .tuple #[.agg #[.int .i64 2, .string (bs nm), .string ⟨#[]⟩, .slice ova (ownedL (l)).length ovc, .int .i64 zs, .int .i64 k, .int .i64 (k7 : Int)], .bool true]) (by simp [results, Tryz.results54, asAddr, hlv]) rfl ?_
        rw [HN.out, HK7.out]
        exact ⟨_, by rw [HZS.out]; rfl, MZ.out, RZ.out, OVZ.out⟩
abbrev TkA := Tk × Value
def selfZ (b : Bool) : Int := if b then 1 else 0
def tkC (p : TkA) : List Value := [.int .i64 p.1.kind, .string (bs p.1.name), .string (bs p.1.text), p.2, .int .i64 (selfZ p.1.self), .int .i64 (p.1.lo : Int), .int .i64 (p.1.hi : Int)]
theorem tkC_len (p : TkA) : (tkC p).length = 7 := rfl
def tkCells (L : List TkA) : List Value := L.flatMap tkC
theorem tkCells_len (L : List TkA) : (tkCells L).length = L.length * 7 := by
  induction L with
  | nil => rfl
  | cons p L ih =>
    show (tkC p ++ tkCells L).length = _
    rw [List.length_append, ih, tkC_len, List.length_cons]
    omega
theorem tkCells_append (a b : List TkA) : tkCells (a ++ b) = tkCells a ++ tkCells b := List.flatMap_append
theorem tkCells_get {L : List TkA} {i f : Nat} {p : TkA} {v : Value} (h : L[i]? = some p) (hv : (tkC p)[f]? = some v) : (tkCells L)[i * 7 + f]? = some v := by
  have hf := (List.getElem?_eq_some_iff.1 hv).1
  rw [tkC_len] at hf
  induction L generalizing i with
  | nil => cases h
  | cons q L ih =>
    show (tkC q ++ tkCells L)[i * 7 + f]? = _
    cases i with
    | zero =>
      have : q = p := by simpa using h
      subst this
      rw [Nat.zero_mul, Nat.zero_add, List.getElem?_append_left (by rw [tkC_len]; exact hf)]
      exact hv
    | succ i =>
      rw [List.getElem?_append_right (by rw [tkC_len]; omega), tkC_len, show (i + 1) * 7 + f - 7 = i * 7 + f by omega]
      exact ih (by simpa using h)
theorem tkCells_set {L : List TkA} {i f : Nat} {p p' : TkA} {v : Value} (h : L[i]? = some p) (hf : f < 7) (hv : (tkC p).set f v = tkC p') : (tkCells L).set (i * 7 + f) v = tkCells (L.set i p') := by
  induction L generalizing i with
  | nil => cases h
  | cons q L ih =>
    cases i with
    | zero =>
      have : q = p := by simpa using h
      subst this
      show (tkC q ++ tkCells L).set (0 * 7 + f) v = tkC p' ++ tkCells L
      rw [Nat.zero_mul, Nat.zero_add, List.set_append_left _ _ (by rw [tkC_len]; exact hf), hv]
    | succ i =>
      show (tkC q ++ tkCells L).set ((i + 1) * 7 + f) v = tkC q ++ tkCells (L.set i p')
      rw [List.set_append_right _ _ (by rw [tkC_len]; omega), tkC_len, show (i + 1) * 7 + f - 7 = i * 7 + f by omega, ih (by simpa using h)]
structure TL (B : Nat) (N : Nat → Prop) (lb : Nat) (L : List TkA) (lv : Value) (gb : Option Nat) (w : World) : Prop where
  box : w.heap[lb]? = some (.cells #[lv] 44 (0, 0))
  row : RowP w (fun g => gb = some g ∧ B ≤ g ∧ ¬ N g) 55 7 lv L.length (tkCells L)
  blk : ∀ z, gb = some z → z < w.heap.size ∧ B ≤ z ∧ ¬ N z
  att : ∀ p ∈ L, RowP w (fun g => B ≤ g ∧ ¬ N g ∧ gb ≠ some g ∧ g < w.heap.size) 104 2 p.2 p.1.attrs.length (attrCells p.1.attrs)
section
variable {B lb : Nat} {N : Nat → Prop} {L : List TkA} {lv : Value} {gb : Option Nat} {w w' : World}
theorem TL.mv {S : Nat → Prop} (h : TL B N lb L lv gb w) (k : Mv S w w') (hS : ∀ g, S g → N g) (hl : ¬ S lb) : TL B N lb L lv gb w' :=
  ⟨k.block h.box hl, h.row.mv k fun g hg hs => hg.2.2 (hS g hs), fun z hz => ⟨Nat.lt_of_lt_of_le (h.blk z hz).1 k.size, (h.blk z hz).2⟩,
   fun p hp => RowP.imp ((h.att p hp).mv k fun g hg hs => hg.2.1 (hS g hs)) fun g _ hg => ⟨hg.1, hg.2.1, hg.2.2.1, Nat.lt_of_lt_of_le hg.2.2.2 k.size⟩⟩
theorem TL.ext (h : TL B N lb L lv gb w) (k : Ext w w') : TL B N lb L lv gb w' := h.mv (S := fun _ => False) (Mv.ofExt k) (fun _ h => h.elim) id
theorem TL.some_ (h : TL B N lb L lv gb w) (hL : 0 < L.length) : ∃ g cap cur, gb = some g ∧ B ≤ g ∧ ¬ N g ∧ lv = .slice (some ⟨g, 0, none⟩) L.length cap ∧ w.heap[g]? = some (.cells cur 55 (0, 0)) ∧ L.length ≤ cap ∧ cap ≤ maxLen ∧ cur.size = cap * 7 ∧ cur.toList.take (L.length * 7) = tkCells L := by
  rcases h.row.2 with ⟨h0, _⟩ | ⟨g, cap, cur, h1, h2, h3, h4, h5, h6, h7⟩
  · omega
  · exact ⟨g, cap, cur, h2.1, h2.2.1, h2.2.2, h1, h3, h4, h5, h6, h7⟩
theorem row_cell {g : Nat} {cur : Array Value} {T : TypeId} {n : Nat} (h3 : w.heap[g]? = some (.cells cur T (0, 0))) (h7 : cur.toList.take (n * 7) = tkCells L) {i f : Nat} {p : TkA} {v : Value} (hp : L[i]? = some p) (hv : (tkC p)[f]? = some v) :
    w.cell? ⟨g, i * 7 + f, none⟩ = some v := by
  refine cellOf h3 ?_
  have h := tkCells_get hp hv
  rw [← h7, List.getElem?_take] at h
  split at h
  · rw [← Array.getElem?_toList]; exact h
  · cases h
theorem TL.set (h : TL B N lb L lv gb w) {i f : Nat} {p p' : TkA} {v : Value} (hp : L[i]? = some p) (hf : f < 7) (hv : (tkC p).set f v = tkC p') (h2 : p'.2 = p.2) (ha : p'.1.attrs = p.1.attrs) (hN : N lb) {g : Nat} (hg : gb = some g) :
    TL B N lb (L.set i p') lv gb (w.setCell ⟨g, i * 7 + f, none⟩ v) := by
  have hi := (List.getElem?_eq_some_iff.1 hp).1
  obtain ⟨g', cap, cur, e1, e2, e3, e4, e5, e6, e7, e8, e9⟩ := h.some_ (by omega)
  rw [hg] at e1
  cases e1
  have hm : Mv (fun x => x = g) w (w.setCell ⟨g, i * 7 + f, none⟩ v) := Mv.setRb (Mv.refl _ w) v
  have hbox : (w.setCell ⟨g, i * 7 + f, none⟩ v).heap[lb]? = _ := hm.block h.box (fun e => e3 (by rw [← (show lb = g from e)]; exact hN))
  refine ⟨hbox, ?_, fun z hz => ⟨Nat.lt_of_lt_of_le (h.blk z hz).1 hm.size, (h.blk z hz).2⟩, fun q hq => ?_⟩
  · refine ⟨?_, .inr ⟨g, cap, _, by rw [List.length_set]; exact e4, ⟨hg, e2, e3⟩, heap_setCell_same e5 v, by rw [List.length_set]; exact e6, e7, by simpa using e8, ?_⟩⟩
    · rw [tkCells_len]
    · rw [Array.toList_setIfInBounds, List.length_set, List.take_set, e9, tkCells_set hp hf hv]
  · have key : ∀ q0 ∈ L, RowP (w.setCell ⟨g, i * 7 + f, none⟩ v) (fun x => B ≤ x ∧ ¬ N x ∧ gb ≠ some x ∧ x < (w.setCell ⟨g, i * 7 + f, none⟩ v).heap.size) 104 2 q0.2 q0.1.attrs.length (attrCells q0.1.attrs) := fun q0 hq0 =>
      RowP.imp ((h.att q0 hq0).mv hm fun x hx hs => hx.2.2.1 (by rw [hg, hs])) fun x _ hx => ⟨hx.1, hx.2.1, hx.2.2.1, Nat.lt_of_lt_of_le hx.2.2.2 hm.size⟩
    rcases List.mem_or_eq_of_mem_set hq with hq | rfl
    · exact key q hq
    · rw [h2, ha]; exact key p (List.mem_of_getElem? hp)
theorem infoTok : (Tryz.prog.info? 55).map (fun i => (i.zero, i.size, i.bytes)) = some (some (.agg #[.int .i64 0, .string ByteArray.empty, .string ByteArray.empty, .slice none 0 0, .int .i64 0, .int .i64 0, .int .i64 0]), 7, 88) := by kernel_rfl
theorem tkC_one (p : TkA) (h : p.2.oneCell' = true) : ∀ u ∈ tkC p, u.oneCell' = true := by
  intro u hu
  unfold tkC at hu
  simp only [List.mem_cons, List.not_mem_nil, or_false] at hu
  rcases hu with rfl | rfl | rfl | rfl | rfl | rfl | rfl <;> first | rfl | exact h
theorem TL.push (h : TL B N lb L lv gb w) (hlen : L.length ≤ 1000000) (hN : ∀ g, N g → g < w.heap.size) (hNl : N lb) (hB : B ≤ w.heap.size) (p : TkA) (hone : p.2.oneCell' = true)
    (hav : RowP w (fun g => B ≤ g ∧ ¬ N g ∧ gb ≠ some g ∧ g < w.heap.size) 104 2 p.2 p.1.attrs.length (attrCells p.1.attrs)) {cs : Array Value} (hcs : cs.toList = tkC p) :
    ∃ (a : Option Addr) (cap : Nat) (wB : World), (Builtin.append_ #[44, 44] 44 #[lv, .slice (some ⟨w.heap.size, 0, none⟩) 1 1]).run Tryz.prog (w.alloc (.cells cs 55)) = .ok (.slice a (L.length + 1) cap) wB ∧
      wB.heap[lb]? = some (.cells #[lv] 44 (0, 0)) ∧ Mv (fun g => gb = some g) w wB ∧
      ∃ gb', TL B N lb (L ++ [p]) (.slice a (L.length + 1) cap) gb' (wB.setCell ⟨lb, 0, none⟩ (.slice a (L.length + 1) cap)) := by
  obtain ⟨i0, hi, hz0, hz1, hz2⟩ := info_parts infoTok
  have hxa := (Ext.refl w).alloc (.cells cs 55)
  have hA := h.ext hxa
  have hna := heap_alloc_new w (.cells cs 55)
  have hszA : (w.alloc (.cells cs 55)).heap.size = w.heap.size + 1 := by simp
  obtain ⟨v', wB, row, hrun, hr, hg, hrow⟩ := run_append_row (P := Tryz.prog) (w.alloc (.cells cs 55)) 44 44 55 i0 _ 7 88 Tryz.underlying44 hi hz0 hz1 hz2 (by kernel_rfl) (by decide)
    hA.row ⟨w.heap.size, 0, none⟩ 1 1 (tkC p) rfl (by
      intro j u hj
      rw [Addr.add_lit, Nat.zero_add]
      refine cellOf hna ?_
      rw [← Array.getElem?_toList, hcs]; exact hj) (tkC_one p hone) (by decide) (by unfold maxLen; omega) (by omega)
  obtain ⟨a, cap, e, _⟩ := hr.rd.len_of
  subst e
  have hmB : Mv (fun g => gb = some g) w wB := (Mv.ofExt hxa).grown hg fun k hk _ => (hrow k hk).1
  have hboxB : wB.heap[lb]? = some (.cells #[lv] 44 (0, 0)) := hmB.block h.box fun e => (h.blk lb e).2.2 hNl
  have hmL : Mv (fun x => x = lb) wB (wB.setCell ⟨lb, 0, none⟩ (.slice a (L.length + 1) cap)) := Mv.setRb (Mv.refl _ wB) _
  have hsw := hmB.size
  have hnew : ∀ g, (Value.slice a (L.length + 1) cap).ownBlock = some g → (gb = some g ∧ B ≤ g ∧ ¬ N g) ∨ (w.alloc (.cells cs 55)).heap.size ≤ g := by
    intro g hgo
    rcases hr.2 with ⟨h0, _⟩ | ⟨g', cap', cur, h1, h2, h3, _⟩
    · omega
    · rw [h1] at hgo
      cases hgo
      exact h2
  have hnew2 : ∀ g, (Value.slice a (L.length + 1) cap).ownBlock = some g → g < wB.heap.size := by
    intro g hgo
    rcases hr.2 with ⟨h0, _⟩ | ⟨g', cap', cur, h1, h2, h3, _⟩
    · omega
    · rw [h1] at hgo
      cases hgo
      exact (Array.getElem?_eq_some_iff.1 h3).1
  have hok : ∀ g, (Value.slice a (L.length + 1) cap).ownBlock = some g → B ≤ g ∧ ¬ N g := by
    intro g hgo
    rcases hnew g hgo with h1 | h1
    · exact h1.2
    · exact ⟨by omega, fun hn => by have := hN g hn; omega⟩
  refine ⟨a, cap, wB, hrun, hboxB, hmB, (Value.slice a (L.length + 1) cap).ownBlock, ⟨heap_setCell_same hboxB _, ?_, fun z hz => ⟨Nat.lt_of_lt_of_le (hnew2 z hz) hmL.size, hok z hz⟩, fun q hq => ?_⟩⟩
  · rw [List.length_append, tkCells_append]
    have hr2 : RowP wB (fun g => (Value.slice a (L.length + 1) cap).ownBlock = some g ∧ B ≤ g ∧ ¬ N g) 55 7 (.slice a (L.length + 1) cap) (L.length + 1) (tkCells L ++ tkC p) := RowP.imp hr fun g hgo _ => ⟨hgo, hok g hgo⟩
    have hr3 := hr2.mv hmL fun g hg2 e => hg2.2.2 (by rw [(show g = lb from e)]; exact hNl)
    have e1 : tkCells [p] = tkC p := by show tkC p ++ [] = _; rw [List.append_nil]
    rw [e1]
    exact hr3
  · have hq0 : RowP w (fun g => B ≤ g ∧ ¬ N g ∧ gb ≠ some g ∧ g < w.heap.size) 104 2 q.2 q.1.attrs.length (attrCells q.1.attrs) := by
      rcases List.mem_append.1 hq with hq | hq
      · exact h.att q hq
      · have : q = p := by simpa using hq
        rw [this]; exact hav
    have h1 := hq0.mv hmB fun g hg2 e => hg2.2.2.1 e
    have h2 := h1.mv hmL fun g hg2 e => hg2.2.1 (by rw [(show g = lb from e)]; exact hNl)
    refine RowP.imp h2 fun g _ hg2 => ⟨hg2.1, hg2.2.1, fun hgo => ?_, by have := hg2.2.2.2; have := hmL.size; omega⟩
    rcases hnew g hgo with h3 | h3
    · exact hg2.2.2.1 h3.1
    · have := hg2.2.2.2; omega
end
def Nb (lb ob sb rb : Nat) : Nat → Prop := fun g => g = lb ∨ g = ob ∨ g = sb ∨ g = rb
structure AS (B lb ob sb rb : Nat) (s : ByteArray) (op : Bool) (L : List TkA) (w : World) : Prop where
  tl : ∃ lv gb, TL B (Nb lb ob sb rb) lb L lv gb w
  ob : w.heap[ob]? = some (.cells #[.bool op] 4 (0, 0))
  sb : w.heap[sb]? = some (.cells #[.string s] 9 (0, 0))
structure Dist (B lb ob sb rb : Nat) : Prop where
  b : B ≤ sb
  sl : sb < lb
  lr : lb < rb
  ro : rb < ob
abbrev Ch (B rb sb : Nat) : Nat → Prop := fun g => B ≤ g ∧ g ≠ rb ∧ g ≠ sb
def RText (B lb ob sb rb : Nat) (s : ByteArray) (L : List TkA) (w : World) (e : Ending) (w' : World) : Prop := e = .returned (.tuple #[]) ∧ AS B lb ob sb rb s true L w' ∧ Mv (Ch B rb sb) w w'
def Tk.more (t : Tk) (pc : List UInt8) (hi : Nat) : Tk := { t with text := t.text ++ pc, hi := hi }
theorem snoc_get (D : List TkA) (p : TkA) : (D ++ [p])[D.length]? = some p := by simp
theorem snoc_set (D : List TkA) (p q : TkA) : (D ++ [p]).set D.length q = D ++ [q] := by simp
theorem text_more (B lb ob sb rb : Nat) (s : ByteArray) (D : List TkA) (p : TkA) (w : World) (hs : s.size ≤ 1000000) (hD : D.length ≤ 1000000) (hd : Dist B lb ob sb rb) (h : AS B lb ob sb rb s true (D ++ [p]) w) (htz : p.1.text.length ≤ 1000000) (k1 k2 : Nat) (hk : k1 ≤ k2) (hk2 : k2 ≤ s.size) (pc : List UInt8) (hpc : s.extract k1 k2 = bs pc) :
    Calls Tryz.prog 50 #[.int .i64 k1, .int .i64 k2, .pointer (some ⟨ob, 0, none⟩), .pointer (some ⟨lb, 0, none⟩), .pointer (some ⟨sb, 0, none⟩)] w (RText B lb ob sb rb s (D ++ [(p.1.more pc k2, p.2)]) w) := by
  obtain ⟨⟨lv, gb, TLW⟩, OBW, SBW⟩ := h
  have c2 := cellOf OBW (i := 0) (v := .bool true) rfl
  have HPC := qh hpc
  have HTZ := qh htz
  have HD := qh hd
  clear hpc htz hd
  go_enter Tryz.func50, Tryz.ntmps50
  go_upto_region 3 with fail
  clear c2
  obtain ⟨g, cap, cur, hgb, hBg, hNg, hlv, hrow, hrl, hq1, hq2, hrt⟩ := TLW.some_ (by simp)
  subst hlv
  subst hgb
  have htx := row_cell (f := 2) hrow hrt (snoc_get D p) (v := .string (bs p.1.text)) rfl
  have hhi := row_cell (f := 6) hrow hrt (snoc_get D p) (v := .int .i64 (p.1.hi : Int)) rfl
  have hff2 := freeOf hrow (D.length * 7 + 2)
  have hff6 := freeOf hrow (D.length * 7 + 6)
  have hlen1 : (D ++ [p]).length = D.length + 1 := by simp
  have c3 := cellOf TLW.box (i := 0) (v := .slice (some ⟨g, 0, none⟩) (D.length + 1) cap) (by rw [← hlen1]; rfl)
  have hcapl : D.length + 1 ≤ cap := by rw [← hlen1]; exact hrl
  obtain ⟨d, hd⟩ : ∃ d, D.length = d := ⟨_, rfl⟩
  have HDD := qh hd
  have hd6 : d ≤ 1000000 := by omega
  rw [hd] at htx hhi hff2 hff6 c3 hcapl
  have TLH := qh TLW
  have OBH := qh OBW
  have SBH := qh SBW
  have c4 := cellOf SBW (i := 0) (v := .string s) rfl
  have HNG := qh hNg
  have gl : g ≠ lb := fun e => hNg (.inl e)
  have go' : g ≠ ob := fun e => hNg (.inr (.inl e))
  have gs : g ≠ sb := fun e => hNg (.inr (.inr (.inl e)))
  have gr : g ≠ rb := fun e => hNg (.inr (.inr (.inr e)))
  clear hrow hrl hrt hlen1 hd TLW OBW SBW hNg hq1 hq2
  have hwd : IntKind.i64.wrap ((d : Int) + 1 - 1) = (d : Int) := by rw [IntWalk.i64_in _ (by omega)]; omega
  have hwd0 : (0 : Int) ≤ (d : Int) := by omega
  have hwd1 : (d : Int) < (d : Int) + 1 := by omega
  have htn : (d : Int).toNat = d := by omega
  go_upto_region 4 with fail
  clear c3 hwd hwd0 hwd1 htn
  obtain ⟨pt, hpt⟩ : ∃ pt : ByteArray, bs p.1.text = pt := ⟨_, rfl⟩
  have HPT := qh hpt
  rw [hpt] at htx
  clear hpt
  have hptz : pt.size ≤ 1000000 := by rw [← HPT.out, bs_size]; exact HTZ.out
  refine wp_region_E (S := fun w' => w'.cell? ⟨g, d * 7 + 2, none⟩ = some (.string pt) ∧ w'.cell? ⟨sb, 0, none⟩ = some (.string s)) (n := 11) (by kernel_rfl) ?_
  have hS : (w).drew.cell? ⟨g, d * 7 + 2, none⟩ = some (.string pt) ∧ (w).drew.cell? ⟨sb, 0, none⟩ = some (.string s) := ⟨htx, c4⟩
  show wpE _ _ _ _ _ 11 12 (Array.replicate 12 false) _ _
  refine wpE_tk 0 20 (.pointer (some ⟨g, d * 7, none⟩)) rfl (.inl ⟨by rfl, fun w' hSw => ?_⟩) hS ?_
  · (obtain ⟨s1, s2⟩ := hSw; clear hS; go_simp)
  try simp only [Act.put, zA, zB, zC]
  refine wpE_tk 1 21 (.pointer (some ⟨g, d * 7, none⟩)) rfl (.inl ⟨by rfl, fun w' hSw => ?_⟩) hS ?_
  · (obtain ⟨s1, s2⟩ := hSw; clear hS; go_simp)
  try simp only [Act.put, zA, zB, zC]
  refine wpE_tk 2 22 (.pointer (some ⟨g, d * 7 + 2, none⟩)) rfl (.inl ⟨by rfl, fun w' hSw => ?_⟩) hS ?_
  · (obtain ⟨s1, s2⟩ := hSw; clear hS; go_simp)
  try simp only [Act.put, zA, zB, zC]
  refine wpE_tk 3 23 (.string pt) rfl (.inl ⟨by rfl, fun w' hSw => ?_⟩) hS ?_
  · (obtain ⟨s1, s2⟩ := hSw; clear hS; go_simp)
  try simp only [Act.put, zA, zB, zC]
  refine wpE_tk 4 24 (.string s) rfl (.inl ⟨by rfl, fun w' hSw => ?_⟩) hS ?_
  · (obtain ⟨s1, s2⟩ := hSw; clear hS; go_simp)
  try simp only [Act.put, zA, zB, zC]
  refine wpE_tk 5 25 (.int .i64 k1) rfl (.inl ⟨by rfl, fun w' hSw => ?_⟩) hS ?_
  · (obtain ⟨s1, s2⟩ := hSw; clear hS; go_simp)
  try simp only [Act.put, zA, zB, zC]
  refine wpE_tk 6 26 (.int .i64 k2) rfl (.inl ⟨by rfl, fun w' hSw => ?_⟩) hS ?_
  · (obtain ⟨s1, s2⟩ := hSw; clear hS; go_simp)
  try simp only [Act.put, zA, zB, zC]
  refine wpE_tk 7 27 (.string (s.extract k1 k2)) rfl (.inl ⟨by rfl, fun w' hSw => ?_⟩) hS ?_
  · (obtain ⟨s1, s2⟩ := hSw; clear hS; go_simp)
  try simp only [Act.put, zA, zB, zC]
  refine wpE_tk 8 28 (.string (pt ++ s.extract k1 k2)) rfl (.inl ⟨by rfl, fun w' hSw => ?_⟩) hS ?_
  · (obtain ⟨s1, s2⟩ := hSw; clear hS; go_simp; omega)
  try simp only [Act.put, zA, zB, zC]
  obtain ⟨wd, hwd⟩ : ∃ wd : World, wd = (w).drew := ⟨_, rfl⟩
  have xd : Ext (w) wd := by rw [hwd]; exact (Ext.refl _).drew
  rw [← hwd] at hS ⊢
  clear hwd
  refine wpE_on 9 (some 29) rfl (fun K hK => ?_)
  go_simp
  refine hK.out _ _ (.inr hS) ?_
  clear hK K
  try simp only [Act.put, zA, zB, zC]
  refine wpE_on 10 (some 30) rfl (fun K hK => ?_)
  go_simp
  refine hK.out _ _ (.inr hS) ?_
  clear hK K
  try simp only [Act.put, zA, zB, zC]
  have TLD := TLH.out.ext xd
  have OBD := xd.block OBH.out
  have SBD := xd.block SBH.out
  have ff2 := xd.free (cell_lt htx) hff2
  have ff6 := xd.free (cell_lt htx) hff6
  have tx := hS.1
  refine wpE_on 11 (none) rfl (fun K hK => ?_)
  go_simp
  refine hK.out _ _ (.inl rfl) ?_
  clear hK K hS
  refine wpE_done (by kernel_rfl) ?_
  have hgetd : (D ++ [p])[d]? = some p := by rw [← HDD.out]; exact snoc_get D p
  have hadd : pt ++ s.extract k1 k2 = bs (p.1.text ++ pc) := by rw [← HPT.out, HPC.out, bs_add]
  have TL1 := TLD.set (i := d) (f := 2) (p := p) (p' := ({ p.1 with text := p.1.text ++ pc }, p.2)) (v := .string (pt ++ s.extract k1 k2)) hgetd (by decide) (by rw [hadd]; rfl) rfl rfl (.inl rfl) rfl
  have hget1 : ((D ++ [p]).set d ({ p.1 with text := p.1.text ++ pc }, p.2))[d]? = some ({ p.1 with text := p.1.text ++ pc }, p.2) := by rw [← HDD.out, snoc_set]; exact snoc_get D _
  have TL2 := TL1.set (i := d) (f := 6) (p' := (p.1.more pc k2, p.2)) (v := .int .i64 (k2 : Int)) hget1 (by decide) rfl rfl rfl (.inl rfl) rfl
  rw [← HDD.out, snoc_set, snoc_set, HDD.out] at TL2
  have mm1 : Mv (· = g) wd (wd.setCell ⟨g, d * 7 + 2, none⟩ (.string (pt ++ s.extract k1 k2))) := Mv.setRb (Mv.refl _ wd) _
  have mm2 : Mv (· = g) wd ((wd.setCell ⟨g, d * 7 + 2, none⟩ (.string (pt ++ s.extract k1 k2))).setCell ⟨g, d * 7 + 6, none⟩ (.int .i64 (k2 : Int))) := Mv.setRb mm1 _
  have FIN : Hid (AS B lb ob sb rb s true (D ++ [(p.1.more pc k2, p.2)]) ((wd.setCell ⟨g, d * 7 + 2, none⟩ (.string (pt ++ s.extract k1 k2))).setCell ⟨g, d * 7 + 6, none⟩ (.int .i64 (k2 : Int)))) := qh ⟨⟨_, _, TL2⟩, mm2.block OBD (Ne.symm go'), mm2.block SBD (Ne.symm gs)⟩
  have MFIN := qh (Mv.after xd (mm2.imp (S' := Ch B rb sb) fun x _ hx => by rw [(show x = g from hx)]; exact ⟨hBg, gr, gs⟩))
  have hh6 := xd.cell hhi
  clear hgetd hadd TL1 hget1 TL2 mm1 mm2 TLD OBD SBD
  go_wp2_with fail
  go_end0
  exact ⟨rfl, FIN.out, MFIN.out⟩
theorem text_new (B lb ob sb rb : Nat) (s : ByteArray) (D : List TkA) (w : World) (hs : s.size ≤ 1000000) (hD : D.length ≤ 1000000) (hd : Dist B lb ob sb rb) (hrb : rb < w.heap.size) (h : AS B lb ob sb rb s false D w) (k1 k2 : Nat) (hk : k1 ≤ k2) (hk2 : k2 ≤ s.size) (pc : List UInt8) (hpc : s.extract k1 k2 = bs pc) :
    Calls Tryz.prog 50 #[.int .i64 k1, .int .i64 k2, .pointer (some ⟨ob, 0, none⟩), .pointer (some ⟨lb, 0, none⟩), .pointer (some ⟨sb, 0, none⟩)] w (RText B lb ob sb rb s (D ++ [(⟨1, [], pc, [], false, k1, k2⟩, .slice none 0 0)]) w) := by
  obtain ⟨⟨lv0, gb0, TL0⟩, OB0, SB0⟩ := h
  have hlb := (Array.getElem?_eq_some_iff.1 TL0.box).1
  have hob := (Array.getElem?_eq_some_iff.1 OB0).1
  have hsb := (Array.getElem?_eq_some_iff.1 SB0).1
  obtain ⟨d1, d2, d3, d4⟩ := hd
  have hHPC := qh hpc
  obtain ⟨a0, cap0, wB, hrun, hboxB, hmB, gb1, TLP⟩ := TL0.push hD (by rintro g (rfl | rfl | rfl | rfl) <;> assumption) (.inl rfl) (by omega) (⟨1, [], [], [], false, k1, 0⟩, .slice none 0 0) rfl ⟨rfl, .inl ⟨rfl, none, rfl⟩⟩ (cs := #[.int .i64 1, .string ⟨#[]⟩, .string ⟨#[]⟩, .slice none 0 0, .int .i64 0, .int .i64 k1, .int .i64 0]) rfl
  have nOb : ¬ gb0 = some ob := fun e => (TL0.blk ob e).2.2 (.inr (.inl rfl))
  have nSb : ¬ gb0 = some sb := fun e => (TL0.blk sb e).2.2 (.inr (.inr (.inl rfl)))
  have nLb : ¬ gb0 = some lb := fun e => (TL0.blk lb e).2.2 (.inl rfl)
  have nRb : ¬ gb0 = some rb := fun e => (TL0.blk rb e).2.2 (.inr (.inr (.inr rfl)))
  have OBB := hmB.block OB0 nOb
  have SBB := hmB.block SB0 nSb
  have mB : Mv (Ch B rb sb) w wB := hmB.imp fun x _ hx => ⟨(TL0.blk x hx).2.1, fun e => nRb (e ▸ hx), fun e => nSb (e ▸ hx)⟩
  have c2 := cellOf OB0 (i := 0) (v := .bool false) rfl
  have c3 := cellOf TL0.box (i := 0) (v := lv0) rfl
  have b3 := cellOf hboxB (i := 0) (v := lv0) rfl
  have g3 := freeOf hboxB 0
  have MB := qh mB
  have HRUN := qh hrun
  have HTLP := qh TLP
  have HBX := qh hboxB
  have HOBB := qh OBB
  have HSBB := qh SBB
  clear hpc hrun hmB TLP TL0 OB0 SB0 mB hboxB OBB SBB
  go_enter Tryz.func50, Tryz.ntmps50
  go_upto_region 2 with (at_builtin; refine wpList_append_run _ rfl _ _ 44 rfl _ _ rfl rfl _ _ HRUN.out ?_)
  have m1 : Mv (· = lb) wB (wB.setCell ⟨lb, 0, none⟩ (.slice a0 (D.length + 1) cap0)) := Mv.setRb (Mv.refl _ wB) _
  have OB1 := m1.block HOBB.out (show ¬ ob = lb by omega)
  have SB1 := m1.block HSBB.out (show ¬ sb = lb by omega)
  have M1 : Mv (Ch B rb sb) w (wB.setCell ⟨lb, 0, none⟩ (.slice a0 (D.length + 1) cap0)) := MB.out.trans (m1.imp fun x _ hx => by rw [(show x = lb from hx)]; exact ⟨by omega, by omega, by omega⟩)
  have TL1 := HTLP.out
  clear c2 c3 b3 g3
  obtain ⟨w2, hw2⟩ : ∃ w' : World, w' = wB.setCell ⟨lb, 0, none⟩ (.slice a0 (D.length + 1) cap0) := ⟨_, rfl⟩
  rw [← hw2] at OB1 SB1 M1 TL1 ⊢
  clear hw2 m1
  have c2 := cellOf OB1 (i := 0) (v := .bool false) rfl
  have f2 := freeOf OB1 0
  have m2 : Mv (· = ob) w2 (w2.setCell ⟨ob, 0, none⟩ (.bool true)) := Mv.setRb (Mv.refl _ w2) _
  have OBW := heap_setCell_same (i := 0) OB1 (.bool true)
  have SBW := m2.block SB1 (show ¬ sb = ob by omega)
  have M2 : Mv (Ch B rb sb) w (w2.setCell ⟨ob, 0, none⟩ (.bool true)) := M1.trans (m2.imp fun x _ hx => by rw [(show x = ob from hx)]; exact ⟨by omega, by omega, by omega⟩)
  have TLW := TL1.mv m2 (fun g hg => .inr (.inl hg)) (show ¬ lb = ob by omega)
  clear OB1 SB1 M1 TL1 m2
  go_upto_region 3 with fail
  obtain ⟨w3, hw3⟩ : ∃ w' : World, w' = w2.setCell ⟨ob, 0, none⟩ (.bool true) := ⟨_, rfl⟩
  rw [← hw3] at OBW SBW M2 TLW ⊢
  clear hw3 c2 f2
  have OBW : w3.heap[ob]? = some (.cells #[.bool true] 4 (0, 0)) := OBW
  have MW3 := qh M2
  clear M2
  obtain ⟨lv, hlv0⟩ : ∃ v : Value, v = .slice a0 (D.length + 1) cap0 := ⟨_, rfl⟩
  rw [← hlv0] at TLW
  clear hlv0
  obtain ⟨p, hp⟩ : ∃ p : TkA, p = (⟨1, [], [], [], false, k1, 0⟩, .slice none 0 0) := ⟨_, rfl⟩
  rw [← hp] at TLW
  have HTZ : Hid (p.1.text.length ≤ 1000000) := qh (by rw [hp]; exact Nat.zero_le _)
  have HPQ : Hid ((p.1.more pc k2, p.2) = (⟨1, [], pc, [], false, k1, k2⟩, .slice none 0 0)) := qh (by rw [hp]; rfl)
  have HPC := hHPC
  obtain ⟨gb, hgb1⟩ : ∃ g : Option Nat, g = gb1 := ⟨_, rfl⟩
  rw [← hgb1] at TLW
  clear hgb1 hp HTLP HRUN HBX HOBB HSBB MB nOb nSb nLb nRb hlb hob hsb
  obtain ⟨g, cap, cur, hgb, hBg, hNg, hlv, hrow, hrl, hq1, hq2, hrt⟩ := TLW.some_ (by simp)
  subst hlv
  subst hgb
  have htx := row_cell (f := 2) hrow hrt (snoc_get D p) (v := .string (bs p.1.text)) rfl
  have hhi := row_cell (f := 6) hrow hrt (snoc_get D p) (v := .int .i64 (p.1.hi : Int)) rfl
  have hff2 := freeOf hrow (D.length * 7 + 2)
  have hff6 := freeOf hrow (D.length * 7 + 6)
  have hlen1 : (D ++ [p]).length = D.length + 1 := by simp
  have c3 := cellOf TLW.box (i := 0) (v := .slice (some ⟨g, 0, none⟩) (D.length + 1) cap) (by rw [← hlen1]; rfl)
  have hcapl : D.length + 1 ≤ cap := by rw [← hlen1]; exact hrl
  obtain ⟨d, hd⟩ : ∃ d, D.length = d := ⟨_, rfl⟩
  have HDD := qh hd
  have hd6 : d ≤ 1000000 := by omega
  rw [hd] at htx hhi hff2 hff6 c3 hcapl
  have TLH := qh TLW
  have OBH := qh OBW
  have SBH := qh SBW
  have c4 := cellOf SBW (i := 0) (v := .string s) rfl
  have HNG := qh hNg
  have gl : g ≠ lb := fun e => hNg (.inl e)
  have go' : g ≠ ob := fun e => hNg (.inr (.inl e))
  have gs : g ≠ sb := fun e => hNg (.inr (.inr (.inl e)))
  have gr : g ≠ rb := fun e => hNg (.inr (.inr (.inr e)))
  clear hrow hrl hrt hlen1 hd TLW OBW SBW hNg hq1 hq2
  have hwd : IntKind.i64.wrap ((d : Int) + 1 - 1) = (d : Int) := by rw [IntWalk.i64_in _ (by omega)]; omega
  have hwd0 : (0 : Int) ≤ (d : Int) := by omega
  have hwd1 : (d : Int) < (d : Int) + 1 := by omega
  have htn : (d : Int).toNat = d := by omega
  go_upto_region 4 with fail
  clear c3 hwd hwd0 hwd1 htn
  obtain ⟨pt, hpt⟩ : ∃ pt : ByteArray, bs p.1.text = pt := ⟨_, rfl⟩
  have HPT := qh hpt
  rw [hpt] at htx
  clear hpt
  have hptz : pt.size ≤ 1000000 := by rw [← HPT.out, bs_size]; exact HTZ.out
  refine wp_region_E (S := fun w' => w'.cell? ⟨g, d * 7 + 2, none⟩ = some (.string pt) ∧ w'.cell? ⟨sb, 0, none⟩ = some (.string s)) (n := 11) (by kernel_rfl) ?_
  have hS : (w3).drew.cell? ⟨g, d * 7 + 2, none⟩ = some (.string pt) ∧ (w3).drew.cell? ⟨sb, 0, none⟩ = some (.string s) := ⟨htx, c4⟩
  show wpE _ _ _ _ _ 11 12 (Array.replicate 12 false) _ _
  refine wpE_tk 0 20 (.pointer (some ⟨g, d * 7, none⟩)) rfl (.inl ⟨by rfl, fun w' hSw => ?_⟩) hS ?_
  · (obtain ⟨s1, s2⟩ := hSw; clear hS; go_simp)
  try simp only [Act.put, zA, zB, zC]
  refine wpE_tk 1 21 (.pointer (some ⟨g, d * 7, none⟩)) rfl (.inl ⟨by rfl, fun w' hSw => ?_⟩) hS ?_
  · (obtain ⟨s1, s2⟩ := hSw; clear hS; go_simp)
  try simp only [Act.put, zA, zB, zC]
  refine wpE_tk 2 22 (.pointer (some ⟨g, d * 7 + 2, none⟩)) rfl (.inl ⟨by rfl, fun w' hSw => ?_⟩) hS ?_
  · (obtain ⟨s1, s2⟩ := hSw; clear hS; go_simp)
  try simp only [Act.put, zA, zB, zC]
  refine wpE_tk 3 23 (.string pt) rfl (.inl ⟨by rfl, fun w' hSw => ?_⟩) hS ?_
  · (obtain ⟨s1, s2⟩ := hSw; clear hS; go_simp)
  try simp only [Act.put, zA, zB, zC]
  refine wpE_tk 4 24 (.string s) rfl (.inl ⟨by rfl, fun w' hSw => ?_⟩) hS ?_
  · (obtain ⟨s1, s2⟩ := hSw; clear hS; go_simp)
  try simp only [Act.put, zA, zB, zC]
  refine wpE_tk 5 25 (.int .i64 k1) rfl (.inl ⟨by rfl, fun w' hSw => ?_⟩) hS ?_
  · (obtain ⟨s1, s2⟩ := hSw; clear hS; go_simp)
  try simp only [Act.put, zA, zB, zC]
  refine wpE_tk 6 26 (.int .i64 k2) rfl (.inl ⟨by rfl, fun w' hSw => ?_⟩) hS ?_
  · (obtain ⟨s1, s2⟩ := hSw; clear hS; go_simp)
  try simp only [Act.put, zA, zB, zC]
  refine wpE_tk 7 27 (.string (s.extract k1 k2)) rfl (.inl ⟨by rfl, fun w' hSw => ?_⟩) hS ?_
  · (obtain ⟨s1, s2⟩ := hSw; clear hS; go_simp)
  try simp only [Act.put, zA, zB, zC]
  refine wpE_tk 8 28 (.string (pt ++ s.extract k1 k2)) rfl (.inl ⟨by rfl, fun w' hSw => ?_⟩) hS ?_
  · (obtain ⟨s1, s2⟩ := hSw; clear hS; go_simp; omega)
  try simp only [Act.put, zA, zB, zC]
  obtain ⟨wd, hwd⟩ : ∃ wd : World, wd = (w3).drew := ⟨_, rfl⟩
  have xd : Ext (w3) wd := by rw [hwd]; exact (Ext.refl _).drew
  rw [← hwd] at hS ⊢
  clear hwd
  refine wpE_on 9 (some 29) rfl (fun K hK => ?_)
  go_simp
  refine hK.out _ _ (.inr hS) ?_
  clear hK K
  try simp only [Act.put, zA, zB, zC]
  refine wpE_on 10 (some 30) rfl (fun K hK => ?_)
  go_simp
  refine hK.out _ _ (.inr hS) ?_
  clear hK K
  try simp only [Act.put, zA, zB, zC]
  have TLD := TLH.out.ext xd
  have OBD := xd.block OBH.out
  have SBD := xd.block SBH.out
  have ff2 := xd.free (cell_lt htx) hff2
  have ff6 := xd.free (cell_lt htx) hff6
  have tx := hS.1
  refine wpE_on 11 (none) rfl (fun K hK => ?_)
  go_simp
  refine hK.out _ _ (.inl rfl) ?_
  clear hK K hS
  refine wpE_done (by kernel_rfl) ?_
  have hgetd : (D ++ [p])[d]? = some p := by rw [← HDD.out]; exact snoc_get D p
  have hadd : pt ++ s.extract k1 k2 = bs (p.1.text ++ pc) := by rw [← HPT.out, HPC.out, bs_add]
  have TL1 := TLD.set (i := d) (f := 2) (p := p) (p' := ({ p.1 with text := p.1.text ++ pc }, p.2)) (v := .string (pt ++ s.extract k1 k2)) hgetd (by decide) (by rw [hadd]; rfl) rfl rfl (.inl rfl) rfl
  have hget1 : ((D ++ [p]).set d ({ p.1 with text := p.1.text ++ pc }, p.2))[d]? = some ({ p.1 with text := p.1.text ++ pc }, p.2) := by rw [← HDD.out, snoc_set]; exact snoc_get D _
  have TL2 := TL1.set (i := d) (f := 6) (p' := (p.1.more pc k2, p.2)) (v := .int .i64 (k2 : Int)) hget1 (by decide) rfl rfl rfl (.inl rfl) rfl
  rw [← HDD.out, snoc_set, snoc_set, HDD.out] at TL2
  have mm1 : Mv (· = g) wd (wd.setCell ⟨g, d * 7 + 2, none⟩ (.string (pt ++ s.extract k1 k2))) := Mv.setRb (Mv.refl _ wd) _
  have mm2 : Mv (· = g) wd ((wd.setCell ⟨g, d * 7 + 2, none⟩ (.string (pt ++ s.extract k1 k2))).setCell ⟨g, d * 7 + 6, none⟩ (.int .i64 (k2 : Int))) := Mv.setRb mm1 _
  have FIN : Hid (AS B lb ob sb rb s true (D ++ [(p.1.more pc k2, p.2)]) ((wd.setCell ⟨g, d * 7 + 2, none⟩ (.string (pt ++ s.extract k1 k2))).setCell ⟨g, d * 7 + 6, none⟩ (.int .i64 (k2 : Int)))) := qh ⟨⟨_, _, TL2⟩, mm2.block OBD (Ne.symm go'), mm2.block SBD (Ne.symm gs)⟩
  have MFIN := qh (Mv.after xd (mm2.imp (S' := Ch B rb sb) fun x _ hx => by rw [(show x = g from hx)]; exact ⟨hBg, gr, gs⟩))
  have hh6 := xd.cell hhi
  clear hgetd hadd TL1 hget1 TL2 mm1 mm2 TLD OBD SBD
  go_wp2_with fail
  go_end0
  exact ⟨rfl, HPQ.out ▸ FIN.out, MW3.out.trans MFIN.out⟩
theorem tagL_text {N : Nat} {r e : List UInt8} {t : Tk} (h : tagL N r = some (t, e)) : t.text = [] ∧ t.kind ≠ 1 := by
  unfold tagL at h
  by_cases hl0 : headP letterB (tagR r) = true
  · rw [if_pos hl0] at h
    by_cases hcl : closeB r = true
    · rw [if_pos hcl] at h
      unfold closeL at h
      split at h
      · cases h
      · cases h; exact ⟨rfl, (by decide : ¬ (3 : Int) = 1)⟩
    · rw [if_neg hcl] at h
      unfold openL at h
      cases hx : partsL ((tagR r).dropWhile alnumB) with
      | none => rw [hx] at h; cases h
      | some x => rw [hx] at h; cases h; exact ⟨rfl, (by decide : ¬ (2 : Int) = 1)⟩
  · rw [if_neg hl0] at h
    cases h
theorem lexL_small (N : Nat) : ∀ (n : Nat) (r raw : List UInt8) (a b : Nat), r.length ≤ n → (∀ t ∈ lexL N raw a b r, t.text.length ≤ raw.length + r.length) ∧ (lexL N raw a b r).length ≤ r.length + (if raw = [] then 0 else 1) := by
  have hfl : ∀ raw a b, (flushT raw a b).length = (if raw = [] then 0 else 1) ∧ ∀ t ∈ flushT raw a b, t.text.length ≤ raw.length := by
    intro raw a b
    unfold flushT
    split
    · exact ⟨rfl, fun t ht => by cases ht⟩
    · exact ⟨rfl, fun t ht => by rw [List.mem_singleton.1 ht]; exact Nat.le_refl _⟩
  intro n
  induction n with
  | zero =>
    intro r raw a b hn
    obtain rfl : r = [] := List.eq_nil_of_length_eq_zero (by omega)
    rw [lexL_nil]
    exact ⟨fun t ht => Nat.le_trans ((hfl raw a b).2 t ht) (Nat.le_add_right _ _), by rw [(hfl raw a b).1]; omega⟩
  | succ n ih =>
    intro r raw a b hn
    cases r with
    | nil =>
      rw [lexL_nil]
      exact ⟨fun t ht => Nat.le_trans ((hfl raw a b).2 t ht) (Nat.le_add_right _ _), by rw [(hfl raw a b).1]; omega⟩
    | cons c q =>
      simp only [List.length_cons] at hn
      have hch : (c ≠ 60 ∨ noteL (c :: q) = none ∧ tagL N (c :: q) = none) → (∀ t ∈ lexL N raw a b (c :: q), t.text.length ≤ raw.length + (c :: q).length) ∧ (lexL N raw a b (c :: q)).length ≤ (c :: q).length + (if raw = [] then 0 else 1) := by
        intro h
        rw [lexL_char h]
        obtain ⟨i1, i2⟩ := ih q (raw ++ [c]) (if raw = [] then N - (q.length + 1) else a) (N - q.length) (by omega)
        refine ⟨fun t ht => by have := i1 t ht; simp at this ⊢; omega, ?_⟩
        rw [if_neg (show ¬ raw ++ [c] = [] by simp)] at i2
        simp only [List.length_cons]
        omega
      by_cases hc : c = 60
      · subst hc
        cases hno : noteL (60 :: q) with
        | some e =>
          rw [lexL_note hno]
          have h2 := (noteL_suf hno).2
          simp only [List.length_cons] at h2
          obtain ⟨i1, i2⟩ := ih e raw a b (by omega)
          exact ⟨fun t ht => by have := i1 t ht; simp; omega, by simp only [List.length_cons]; omega⟩
        | none =>
          cases hta : tagL N (60 :: q) with
          | none => exact hch (.inr ⟨hno, hta⟩)
          | some te =>
            obtain ⟨t, e⟩ := te
            rw [lexL_tag hno hta]
            have h2 := (tagL_len hta).2
            simp only [List.length_cons] at h2
            obtain ⟨i1, i2⟩ := ih e [] a b (by omega)
            obtain ⟨f1, f2⟩ := hfl raw a b
            have htx : t.text = [] := (tagL_text hta).1
            refine ⟨fun x hx => ?_, ?_⟩
            · rcases List.mem_append.1 hx with hx | hx
              · exact Nat.le_trans (f2 x hx) (Nat.le_add_right _ _)
              · rcases List.mem_cons.1 hx with rfl | hx
                · rw [htx]; exact Nat.zero_le _
                · have := i1 x hx
                  simp at this ⊢
                  omega
            · rw [List.length_append, List.length_cons, f1]
              simp only [List.length_cons, if_true] at i2 ⊢
              omega
      · exact hch (.inl hc)
theorem map_snoc {L : List TkA} {d : List Tk} {x : Tk} (h : L.map Prod.fst = d ++ [x]) : ∃ D p, L = D ++ [p] ∧ D.map Prod.fst = d ∧ p.1 = x := by
  obtain ⟨D, Q, h1, h2, h3⟩ := List.map_eq_append_iff.1 h
  cases Q with
  | nil => cases h3
  | cons p Q =>
    cases Q with
    | cons _ _ => cases h3
    | nil => exact ⟨D, p, h1, h2, by simpa using h3⟩
theorem map_step {f : Tk → Tk} {l : List Tk} {k : Nat} {c : Tk} (h : l[k]? = some c) : (l.take (k + 1)).map f ++ l.drop (k + 1) = ((l.take k).map f ++ l.drop k).set k (f c) := by
  obtain ⟨hk, e⟩ := List.getElem?_eq_some_iff.1 h
  have hm : min k l.length = k := Nat.min_eq_left (Nat.le_of_lt hk)
  rw [List.take_succ_eq_append_getElem hk, List.map_append, List.drop_eq_getElem_cons hk, e, List.set_append_right _ _ (by simp; omega)]
  simp [hm]
theorem map_same {f : Tk → Tk} {l : List Tk} {k : Nat} {c : Tk} (h : l[k]? = some c) (hc : f c = c) : (l.take (k + 1)).map f ++ l.drop (k + 1) = (l.take k).map f ++ l.drop k := by
  obtain ⟨hk, e⟩ := List.getElem?_eq_some_iff.1 h
  rw [List.take_succ_eq_append_getElem hk, List.map_append, List.drop_eq_getElem_cons hk, e]
  simp [hc]
def opB (raw : List UInt8) : Bool := !raw.isEmpty
section
variable {B lb ob sb rb : Nat} {s : ByteArray} {op : Bool} {L : List TkA} {w w' : World}
theorem AS.mv {S : Nat → Prop} (h : AS B lb ob sb rb s op L w) (k : Mv S w w') (hS : ∀ g, S g → Nb lb ob sb rb g) (h1 : ¬ S lb) (h2 : ¬ S ob) (h3 : ¬ S sb) : AS B lb ob sb rb s op L w' := by
  obtain ⟨⟨lv, gb, h0⟩, hob, hsb⟩ := h
  exact ⟨⟨lv, gb, h0.mv k hS h1⟩, k.block hob h2, k.block hsb h3⟩
theorem AS.rdr (h : AS B lb ob sb rb s op L w) (k : Mv (· = rb) w w') (hd : Dist B lb ob sb rb) : AS B lb ob sb rb s op L w' :=
  h.mv k (fun g hg => .inr (.inr (.inr hg))) (by show ¬ lb = rb; have := hd.lr; omega) (by show ¬ ob = rb; have := hd.ro; omega) (by show ¬ sb = rb; have := hd.sl; have := hd.lr; omega)
theorem AS.ext (h : AS B lb ob sb rb s op L w) (k : Ext w w') : AS B lb ob sb rb s op L w' := h.mv (S := fun _ => False) (Mv.ofExt k) (fun _ h => h.elim) id id id
end
def TkNew (B : Nat) (w : World) (v : Value) (l : List Tk) : Prop := ∃ L : List TkA, L.map Prod.fst = l ∧ RowP w (fun _ => True) 55 7 v L.length (tkCells L) ∧ ∀ p ∈ L, RowP w (fun g => B ≤ g) 104 2 p.2 p.1.attrs.length (attrCells p.1.attrs)
def RAllN (t : ByteArray) (w : World) (e : Ending) (w' : World) : Prop :=
  (8192 < t.size ∧ e = .returned (.tuple #[.slice none 0 0, .int .i64 10]) ∧ Ext w w') ∨ (t.size ≤ 8192 ∧ ∃ v, e = .returned (.tuple #[v, .int .i64 0]) ∧ Ext w w' ∧ TkNew w.heap.size w' v (tokens t.data.toList))
def ARel (B lb ob sb rb : Nat) (t : ByteArray) (w : World) (gf : Nat) (wr : World) : Prop := ∃ (done : List Tk) (raw : List UInt8) (a b : Nat) (r : List UInt8) (L : List TkA),
  Rd rb t r wr ∧ AS B lb ob sb rb t (opB raw) L wr ∧ Ext w wr ∧ L.map Prod.fst = done ++ flushT raw a b ∧ r.length ≤ gf ∧ done ++ lexL t.size raw a b r = lexL t.size [] 0 0 t.data.toList ∧ L.length + r.length ≤ t.size ∧ raw.length + r.length ≤ t.size
theorem flush_nil (a b : Nat) : flushT [] a b = [] := rfl
theorem flush_some {raw : List UInt8} (h : raw ≠ []) (a b : Nat) : flushT raw a b = [⟨1, [], raw, [], false, a, b⟩] := if_neg h
theorem opB_nil : opB [] = false := rfl
theorem opB_some {raw : List UInt8} (h : raw ≠ []) : opB raw = true := by cases raw; exact absurd rfl h; rfl
theorem All_new (s : ByteArray) (hs : s.size ≤ 10000000000) (w : World) (hl : LW w) : Calls Tryz.prog 24 #[.string s] w (RAllN (anewB s) w) := by
  have HA := qh (xanew_any s (by omega))
  obtain ⟨t, ht⟩ : ∃ t, anewB s = t := ⟨_, rfl⟩
  rw [ht] at HA ⊢
  have hmf : ∀ (fn : Fn) (first cap : Array Value) (w : World), (Instr.makeFunc fn first cap).run Tryz.prog w = .ok (.func fn first cap) w := fun _ _ _ _ => rfl
  have HL := qh hl
  clear ht hs hl
  have x0 := (Ext.refl w).alloc (.cells #[.string s] 9)
  have hb0 := heap_alloc_new w (.cells #[.string s] 9)
  go_enter Tryz.func24, Tryz.ntmps24
  go_upto_region 1 with fail
  obtain ⟨w0, hw0⟩ : ∃ w' : World, w' = w.alloc (.cells #[.string s] 9) := ⟨_, rfl⟩
  rw [← hw0] at x0 hb0 ⊢
  clear hw0
  obtain ⟨sb, hsb⟩ : ∃ b, w.heap.size = b := ⟨_, rfl⟩
  rw [hsb] at hb0 ⊢
  have HSB := qh hsb
  have c0 := cellOf hb0 (i := 0) (v := .string s) rfl
  have X0 := qh x0
  have HB0 := qh hb0
  clear hsb x0 hb0
  go_wp2_with (go_at_call 49; refine (HA.out _).mono ?_)
  rintro e w1 ⟨rfl, x1⟩
  have hb1 := x1.block HB0.out
  have c1 := cellOf hb1 (i := 0) (v := .string s) rfl
  have f1 := freeOf hb1 0
  have x2 : Ext w (w1.setCell ⟨sb, 0, none⟩ (.string t)) := (X0.out.trans x1).setCell (p := ⟨sb, 0, none⟩) (by show w.heap.size ≤ sb; rw [HSB.out]; exact Nat.le_refl _) _
  have hb2 := heap_setCell_same (i := 0) hb1 (.string t)
  clear x1 hb1 c0
  go_upto_region 2 with fail
  obtain ⟨w2, hw2⟩ : ∃ w' : World, w' = w1.setCell ⟨sb, 0, none⟩ (.string t) := ⟨_, rfl⟩
  rw [← hw2] at x2 hb2 ⊢
  clear hw2 c1 f1
  have hb2 : w2.heap[sb]? = some (.cells #[.string t] 9 (0, 0)) := hb2
  have c2 := cellOf hb2 (i := 0) (v := .string t) rfl
  have X2 := qh x2
  have HB2 := qh hb2
  clear x2 hb2
  by_cases hlong : 8192 < t.size
  · have hli : decide ((8192 : Int) < (t.size : Int)) = true := decide_eq_true (by omega)
    have hln : decide (8192 < t.size) = true := decide_eq_true hlong
    have HLO := qh hlong
    clear hlong
    go_wp2_with fail
    go_ret2
    exact .inl ⟨HLO.out, rfl, X2.out⟩
  have hli : decide ((8192 : Int) < (t.size : Int)) = false := decide_eq_false (by omega)
  have hln : decide (8192 < t.size) = false := decide_eq_false hlong
  have h81 : t.size ≤ 8192 := by omega
  have H81 := qh h81
  clear hlong
  go_upto_region 4 with fail
  clear hli hln
  have x3 := (Ext.refl w2).alloc (.cells #[.slice none 0 0] 44)
  have hb3 := heap_alloc_new w2 (.cells #[.slice none 0 0] 44)
  obtain ⟨lb, hlb⟩ : ∃ b, w2.heap.size = b := ⟨_, rfl⟩
  have HLB := qh hlb
  clear hlb
  go_upto_region 5 with fail
  obtain ⟨w3, hw3⟩ : ∃ w' : World, w' = w2.alloc (.cells #[.slice none 0 0] 44) := ⟨_, rfl⟩
  have hs3 : Hid (w3.heap.size = w2.heap.size + 1) := qh (by rw [hw3]; simp)
  rw [← hw3] at x3 hb3 ⊢
  clear hw3
  rw [HLB.out] at hb3 ⊢
  have c3 := x3.cell c2
  have x4 := (Ext.refl w3).alloc (.cells #[.string t, .int .i64 0] 107)
  have hb4 := heap_alloc_new w3 (.cells #[.string t, .int .i64 0] 107)
  obtain ⟨rb, hrb⟩ : ∃ b, w3.heap.size = b := ⟨_, rfl⟩
  have HRB := qh hrb
  clear hrb
  go_upto_region 6 with fail
  obtain ⟨w4, hw4⟩ : ∃ w' : World, w' = w3.alloc (.cells #[.string t, .int .i64 0] 107) := ⟨_, rfl⟩
  have hs4 : Hid (w4.heap.size = w3.heap.size + 1) := qh (by rw [hw4]; simp)
  rw [← hw4] at x4 hb4 ⊢
  clear hw4 c3 c2
  rw [HRB.out] at hb4 ⊢
  have x5 := (Ext.refl w4).alloc (.cells #[.bool false] 4)
  have hb5 := heap_alloc_new w4 (.cells #[.bool false] 4)
  obtain ⟨ob, hob⟩ : ∃ b, w4.heap.size = b := ⟨_, rfl⟩
  have HOB := qh hob
  clear hob
  go_upto_region 7 with fail
  obtain ⟨w5, hw5⟩ : ∃ w' : World, w' = w4.alloc (.cells #[.bool false] 4) := ⟨_, rfl⟩
  rw [← hw5] at x5 hb5 ⊢
  clear hw5
  rw [HOB.out] at hb5 ⊢
  have hB : sb < w2.heap.size := (Array.getElem?_eq_some_iff.1 HB2.out).1
  have HD : Hid (Dist w.heap.size lb ob sb rb) := qh (by
    have e1 := HSB.out; have e2 := HLB.out; have e3 := HRB.out; have e4 := HOB.out; have e5 := hs3.out; have e6 := hs4.out
    exact ⟨by omega, by omega, by omega, by omega⟩)
  have hz : t.data.toList.length = t.size := rfl
  have HREL0 : Hid (ARel w.heap.size lb ob sb rb t w t.size w5) := qh (by
    have hx35 := (x4.trans x5)
    refine ⟨[], [], 0, 0, t.data.toList, [], ⟨0, by rw [hz, Nat.zero_add], rfl, x5.block hb4⟩, ⟨⟨.slice none 0 0, none, ⟨hx35.block hb3, ⟨rfl, .inl ⟨rfl, none, rfl⟩⟩, (fun z hz => by cases hz), (fun p hp => by cases hp)⟩⟩, hb5, ((x3.trans x4).trans x5).block HB2.out⟩, X2.out.trans ((x3.trans x4).trans x5), rfl, by rw [hz]; exact Nat.le_refl _, rfl, by rw [hz]; simp, by rw [hz]; simp⟩)
  clear x3 x4 x5 hb3 hb4 hb5 hs3 hs4 hB hz
  have HT := qh (lexL_small t.size t.data.toList.length t.data.toList [] 0 0 (Nat.le_refl _))
  go_wp2_with fail
  go_loopg [8, 9, 10] t.size (fun gf _ _ _ wr => ARel w.heap.size lb ob sb rb t w gf wr)
  case atStart => exact HREL0.out
  case round =>
    obtain ⟨done, raw, a, b, r, L, hrd, has, hx, hfl, hgf, hlex, hll, hrl⟩ := hrel
    have HAS := qh has
    have HX := qh hx
    have HFL := qh hfl
    have HGF := qh hgf
    have HLEX := qh hlex
    have HLL := qh hll
    have HRL := qh hrl
    have HRD := qh hrd
    have hd := HD.out
    obtain ⟨k, k1, k2, k3⟩ := hrd
    obtain ⟨⟨lv0, gb0, tl0⟩, hob0, hsb0⟩ := has
    have hbz : w.heap.size ≤ wr.heap.size := hx.size
    have hrbz := (Array.getElem?_eq_some_iff.1 k3).1
    have c0 : ∀ u : ExtOf wr, u.val.cell? ⟨rb, 1, none⟩ = some (.int .i64 k) := fun u => u.ext.cell (cellOf k3 rfl)
    have c1 : ∀ u : ExtOf wr, u.val.cell? ⟨sb, 0, none⟩ = some (.string t) := fun u => u.ext.cell (cellOf hsb0 rfl)
    have HK := qh (And.intro k1 (And.intro k2 k3))
    clear hx hfl hgf hlex hll hrl tl0 hob0 hsb0 k3 hd
    cases r with
    | nil =>
      have hlt : decide ((k : Int) < (t.size : Int)) = false := decide_eq_false (by simp at k1; omega)
      have hltn : decide (k < t.size) = false := decide_eq_false (by simp at k1; omega)
      clear k1 k2
      go_upto_region 8 with fail
      refine wp_region_ext (by kernel_rfl) (by kernel_rfl) ?_
      repeat (go_big_quiet_step (fail))
      refine wpQuiet_nil ?_
      rintro _ ⟨u, rfl⟩
      have xu := u.ext
      obtain ⟨w6, hw6⟩ : ∃ w', u.val = w' := ⟨_, rfl⟩
      rw [hw6] at xu ⊢
      obtain ⟨⟨lv, gb, tl6⟩, _, _⟩ := HAS.out.ext xu
      have c6 := cellOf tl6.box (i := 0) (v := lv) rfl
      have XW6 := qh (HX.out.trans xu)
      have HTL6 := qh tl6
      have HTT : Hid (L.map Prod.fst = lexL t.size [] 0 0 t.data.toList) := qh (by rw [HFL.out, ← HLEX.out, lexL_nil])
      obtain ⟨la, lcap, hlv, _⟩ := tl6.row.rd.len_of
      have HLV := qh hlv
      rw [hlv] at c6
      clear c0 c1 hw6 xu tl6 hlt hltn hlv
      clear u
      obtain ⟨T, hT⟩ : ∃ T, lexL t.size [] 0 0 t.data.toList = T := ⟨_, rfl⟩
      rw [hT] at HTT
      have HTE := qh hT
      have hTl : L.length = T.length := by rw [← HTT.out, List.length_map]
      clear hT
      go_wp2_with fail
      clear c6
      go_loopw [71, 11] (fun i _ wl => ∃ (m : Nat) (L' : List TkA), m ≤ L.length ∧ i = .int .i64 m ∧ TL w.heap.size (Nb lb ob sb rb) lb L' lv gb wl ∧ L'.length = L.length ∧ L'.map Prod.fst = (T.take m).map Tk.fin ++ T.drop m ∧ Ext w wl) (fun i _ _ => L.length - (intOf i).toNat)
      case atStart => exact ⟨0, L, Nat.zero_le _, rfl, HTL6.out, rfl, by simpa using HTT.out, XW6.out⟩
      case round =>
        obtain ⟨m, L', hm, rfl, htl, hl', hmap, hxl⟩ := hrel
        have HTLL := qh htl
        have HL' := qh hl'
        have HMAP := qh hmap
        have HXL := qh hxl
        have c6 := cellOf htl.box (i := 0) (v := lv) rfl
        have hlen8 : L.length ≤ 8192 := by have := HLL.out; simp at this; omega
        by_cases hml : m < L.length
        · obtain ⟨p, hp⟩ : ∃ p, L'[m]? = some p := ⟨L'[m]'(by omega), List.getElem?_eq_getElem (by omega)⟩
          have htp : T[m]? = some p.1 := by
            have h1 := congrArg (fun l : List Tk => l[m]?) hmap
            simp only [List.getElem?_map, hp, Option.map_some] at h1
            rw [List.getElem?_append_right (by simp; omega)] at h1
            have hmin : min m T.length = m := by omega
            simp only [List.length_map, List.length_take, hmin, Nat.sub_self, List.getElem?_drop, Nat.add_zero] at h1
            exact h1.symm
          obtain ⟨g, cap, cur, hgb, hBg, hNg, hlvg, hrow, hrl, hq1, hq2, hrt⟩ := htl.some_ (by omega)
          have hlv2 : Value.slice la L.length lcap = Value.slice (some ⟨g, 0, none⟩) L'.length cap := HLV.out.symm.trans hlvg
          rw [hl'] at hlv2
          injection hlv2 with hla hlc1 hlc2
          subst hla
          subst hlc2
          have e0 := row_cell (f := 0) hrow hrt hp (v := .int .i64 p.1.kind) rfl
          have e2 := row_cell (f := 2) hrow hrt hp (v := .string (bs p.1.text)) rfl
          have ff2 := freeOf hrow (m * 7 + 2)
          rw [Nat.add_zero] at e0
          rw [HLV.out] at c6
          have HP := qh hp
          have HTP := qh htp
          have HGB := qh hgb
          have hgl : g ≠ lb := fun e => hNg (.inl e)
          have hgs : g ≠ sb := fun e => hNg (.inr (.inr (.inl e)))
          have HTX := qh (HT.out.1 p.1 (by rw [HTE.out]; exact List.mem_of_getElem? htp))
          have htn : (m : Int).toNat = m := by omega
          have hmi : (m : Int) < (L.length : Int) := by omega
          have hm0 : (0 : Int) ≤ (m : Int) := by omega
          have hbw : w.heap.size ≤ g := hBg
          clear htl hl' hmap hxl hp htp hgb hNg hlvg hrow hrl hq1 hq2 hrt hBg
          by_cases hk1 : p.1.kind = 1
          · have hki : (p.1.kind == 1) = true := by rw [hk1]; rfl
            have HK1 := qh hk1
            clear hk1
            have HNX : Hid ((T.take (m + 1)).map Tk.fin ++ T.drop (m + 1) = ((T.take m).map Tk.fin ++ T.drop m).set m p.1.fin) := qh (map_step HTP.out)
            have hdz : (bs p.1.text).size ≤ 100000000000 := by rw [bs_size]; have h7 := HTX.out; have h8 := H81.out; have hz : t.data.toList.length = t.size := rfl; have h9 : ([] : List UInt8).length = 0 := rfl; omega
            have HDE := qh (fun W hW => (show Calls Tryz.prog 55 #[.string (bs p.1.text)] W (RVal (.string (bs (decT p.1.text))) W) from Decode_any (bs p.1.text) hdz W hW))
            obtain ⟨dt, hdt⟩ : ∃ x, decT p.1.text = x := ⟨_, rfl⟩
            rw [hdt] at HDE
            have HFI : Hid (p.1.fin = { p.1 with text := dt }) := qh (by unfold Tk.fin; rw [if_pos HK1.out, hdt])
            obtain ⟨pt, hpt⟩ : ∃ pt, bs p.1.text = pt := ⟨_, rfl⟩
            rw [hpt] at e2 HDE
            obtain ⟨kd, hkd⟩ : ∃ z, p.1.kind = z := ⟨_, rfl⟩
            rw [hkd] at e0 hki
            clear hpt hdz hkd hdt
            go_upto_region 24 with fail
            refine wp_region_E (S := fun w' => w'.cell? ⟨lb, 0, none⟩ = some (.slice (some ⟨g, 0, none⟩) L.length lcap) ∧ w'.cell? ⟨g, m * 7 + 2, none⟩ = some (.string pt)) (n := 10) (by kernel_rfl) ?_
            have hS : wr.drew.cell? ⟨lb, 0, none⟩ = some (.slice (some ⟨g, 0, none⟩) L.length lcap) ∧ wr.drew.cell? ⟨g, m * 7 + 2, none⟩ = some (.string pt) := ⟨c6, e2⟩
            show wpE _ _ _ _ _ 10 11 (Array.replicate 11 false) _ _
            refine wpE_tk 0 80 (.slice (some ⟨g, 0, none⟩) L.length lcap) rfl (.inl ⟨by rfl, fun w' hSw => ?_⟩) hS ?_
            · (obtain ⟨s1, s2⟩ := hSw; clear hS; go_simp)
            try simp only [Act.put, zA, zB, zC]
            refine wpE_tk 1 81 (.int .i64 m) rfl (.inl ⟨by rfl, fun w' hSw => ?_⟩) hS ?_
            · (obtain ⟨s1, s2⟩ := hSw; clear hS; go_simp)
            try simp only [Act.put, zA, zB, zC]
            refine wpE_tk 2 82 (.slice (some ⟨g, 0, none⟩) L.length lcap) rfl (.inl ⟨by rfl, fun w' hSw => ?_⟩) hS ?_
            · (obtain ⟨s1, s2⟩ := hSw; clear hS; go_simp)
            try simp only [Act.put, zA, zB, zC]
            refine wpE_tk 3 83 (.int .i64 m) rfl (.inl ⟨by rfl, fun w' hSw => ?_⟩) hS ?_
            · (obtain ⟨s1, s2⟩ := hSw; clear hS; go_simp)
            try simp only [Act.put, zA, zB, zC]
            refine wpE_tk 4 84 (.pointer (some ⟨g, m * 7, none⟩)) rfl (.inl ⟨by rfl, fun w' hSw => ?_⟩) hS ?_
            · (obtain ⟨s1, s2⟩ := hSw; clear hS; go_simp)
            try simp only [Act.put, zA, zB, zC]
            refine wpE_tk 5 85 (.pointer (some ⟨g, m * 7 + 2, none⟩)) rfl (.inl ⟨by rfl, fun w' hSw => ?_⟩) hS ?_
            · (obtain ⟨s1, s2⟩ := hSw; clear hS; go_simp)
            try simp only [Act.put, zA, zB, zC]
            refine wpE_tk 6 86 (.string pt) rfl (.inl ⟨by rfl, fun w' hSw => ?_⟩) hS ?_
            · (obtain ⟨s1, s2⟩ := hSw; clear hS; go_simp)
            try simp only [Act.put, zA, zB, zC]
            obtain ⟨wd, hwd⟩ : ∃ wd : World, wd = wr.drew := ⟨_, rfl⟩
            have xd : Ext wr wd := by rw [hwd]; exact (Ext.refl _).drew
            rw [← hwd] at hS ⊢
            clear hwd
            refine wpE_on 7 (some 87) rfl (fun K hK => ?_)
            go_simp
            go_at_call 55
            refine (HDE.out wd (HL.out.ext (HXL.out.trans xd))).mono ?_
            rintro e w30 ⟨rfl, x30⟩
            have x31 : Ext wr w30 := xd.trans x30
            have hS2 := And.intro (x31.cell c6) (x31.cell e2)
            have gf2 := x31.free (cell_lt e2) ff2
            have TL30 := qh (HTLL.out.ext x31)
            have X30 := qh (HXL.out.trans x31)
            refine hK.out _ _ (.inr hS2) ?_
            clear hK K hS x30 x31 xd
            have hS := hS2
            clear hS2
            try simp only [Act.put, zA, zB, zC]
            refine wpE_on 8 (some 88) rfl (fun K hK => ?_)
            go_simp
            refine hK.out _ _ (.inr hS) ?_
            clear hK K
            try simp only [Act.put, zA, zB, zC]
            refine wpE_on 9 (some 89) rfl (fun K hK => ?_)
            go_simp
            refine hK.out _ _ (.inr hS) ?_
            clear hK K
            try simp only [Act.put, zA, zB, zC]
            have hcg := hS.2
            refine wpE_on 10 (none) rfl (fun K hK => ?_)
            go_simp
            refine hK.out _ _ (.inl rfl) ?_
            clear hK K hS hcg
            refine wpE_done (by kernel_rfl) ?_
            have TL31 := qh (TL30.out.set (i := m) (f := 2) (p' := (p.1.fin, p.2)) (v := .string (bs dt)) HP.out (by decide) (by rw [HFI.out]; rfl) rfl (by rw [HFI.out]) (.inl rfl) HGB.out)
            have X31 : Hid (Ext w (w30.setCell ⟨g, m * 7 + 2, none⟩ (.string (bs dt)))) := qh (X30.out.setCell (p := ⟨g, m * 7 + 2, none⟩) hbw _)
            clear gf2
            go_wp2_with fail
            go_roundw
            case rel => exact ⟨m + 1, L'.set m (p.1.fin, p.2), by omega, by go_num, TL31.out, by rw [List.length_set]; exact HL'.out, by rw [HNX.out, ← HMAP.out, List.map_set], X31.out⟩
            case measure => simp [intOf]; omega
          · have hki : (p.1.kind == 1) = false := by rw [beq_eq_false_iff_ne]; exact hk1
            have HNX : Hid ((T.take (m + 1)).map Tk.fin ++ T.drop (m + 1) = (T.take m).map Tk.fin ++ T.drop m) := qh (map_same HTP.out (by unfold Tk.fin; rw [if_neg hk1]))
            obtain ⟨kd, hkd⟩ : ∃ z, p.1.kind = z := ⟨_, rfl⟩
            rw [hkd] at e0 hki
            clear hkd hk1 e2
            go_wp2_with fail
            go_roundw
            case rel => exact ⟨m + 1, L', by omega, by go_num, HTLL.out, HL'.out, by rw [HNX.out]; exact HMAP.out, HXL.out⟩
            case measure => simp [intOf]; omega
        · obtain rfl : m = L.length := by omega
          have hfin : L'.map Prod.fst = tokens t.data.toList := by
            rw [hmap, hTl, List.take_length, List.drop_length, List.append_nil]
            unfold tokens
            rw [show t.data.toList.length = t.size from rfl, HTE.out]
          have HFIN : Hid (TkNew w.heap.size wr lv (tokens t.data.toList)) := qh ⟨L', hfin, RowP.imp htl.row (fun _ _ _ => trivial), fun p hp => RowP.imp (htl.att p hp) fun g _ hg => hg.1⟩
          clear hfin htl hl' hmap hxl
          go_wp2_with fail
          go_ret2
          exact .inr ⟨H81.out, lv, rfl, HXL.out, HFIN.out⟩
    | cons c q =>
      obtain ⟨hk, hck, hq1, hq2⟩ := Rd.head k1 k2
      have hlt : decide ((k : Int) < (t.size : Int)) = true := decide_eq_true (by omega)
      have hltn : decide (k < t.size) = true := decide_eq_true hk
      have hix : ∀ W : World, (Instr.index 9 (.string t) (.int .i64 (k : Int))).run Tryz.prog W = .ok (.int .u8 (c.toNat : Int)) W := by
        intro W
        rw [run_index_string W 9 t .i64 (k : Int) Tryz.underlying9, dif_pos ⟨by omega, by omega⟩]
        simp only [Int.toNat_natCast, hck]
      have HQ := qh (And.intro hq1 hq2)
      have hkl : k + (q.length + 1) = t.size := by simpa using k1
      clear k1 k2 hq1 hq2 hck
      go_upto_region 8 with fail
      refine wp_region_ext (by kernel_rfl) (by kernel_rfl) ?_
      repeat (go_big_quiet_step (fail))
      refine wpQuiet_nil ?_
      rintro _ ⟨u, rfl⟩
      have xu := u.ext
      have c0' := c0 u
      have c1' := c1 u
      obtain ⟨w6, hw6⟩ : ∃ w', u.val = w' := ⟨_, rfl⟩
      rw [hw6] at xu c0' c1' ⊢
      have X6 := qh xu
      have HAS6 := qh (HAS.out.ext xu)
      have HRD6 := qh (HRD.out.ext xu)
      have XW6 := qh (HX.out.trans xu)
      clear c0 c1 hw6 xu
      clear u
      have hu8 := u8_ne c 60
      by_cases hc : c = 60
      · subst hc
        have e60 : (((60 : UInt8).toNat : Int) != 60) = false := rfl
        have e60b : ((60 : Int) != 60) = false := rfl
        clear hu8
        have HNOTE := qh (note_any rb t (60 :: q) w6 (by omega) HRD6.out (HL.out.ext XW6.out))
        cases hno : noteL (60 :: q) with
        | some e5 =>
          rw [hno] at HNOTE
          have HN := qh (lexL_note (N := t.size) (raw := raw) (a := a) (b := b) hno)
          have hn2 := (noteL_suf hno).2
          simp only [List.length_cons] at hn2
          clear hno
          go_wp2_with (go_at_call 53; refine HNOTE.out.mono ?_)
          rintro e w7 ⟨rfl, m7, r7⟩
          have M7 := qh m7
          have R7 := qh r7
          clear m7 r7 c0' c1'
          go_wp2_with fail
          obtain ⟨g', rfl⟩ : ∃ g', gk = g' + 1 := ⟨gk - 1, by have := HGF.out; simp at this; omega⟩
          go_roundg g'
          case measure => omega
          case rel =>
            have h1 := HGF.out; have h2 := HLL.out; have h3 := HRL.out
            simp only [List.length_cons] at h1 h2 h3
            exact ⟨done, raw, a, b, e5, L, R7.out, HAS6.out.rdr M7.out HD.out, Mv.toExt XW6.out M7.out (fun x hx => by rw [(show x = rb from hx)]; have := HD.out.b; have := HD.out.sl; have := HD.out.lr; omega), HFL.out, by omega, by rw [← HN.out]; exact HLEX.out, by omega, by omega⟩
        | none =>
          rw [hno] at HNOTE
          have HNO := qh hno
          clear hno
          go_wp2_with (go_at_call 53; refine HNOTE.out.mono ?_)
          rintro e w7 ⟨rfl, m7, r7⟩
          have XW7 : Hid (Ext w w7) := qh (Mv.toExt XW6.out m7 (fun x hx => by rw [(show x = rb from hx)]; have := HD.out.b; have := HD.out.sl; have := HD.out.lr; omega))
          have HAS7 := qh (HAS6.out.rdr m7 HD.out)
          have HTAG := qh (tag_any rb t 60 q w7 (by omega) r7 (fun W hW => HL.out.ext (Mv.toExt XW7.out hW (fun x hx => by rw [(show x = rb from hx)]; have := HD.out.b; have := HD.out.sl; have := HD.out.lr; omega))))
          clear m7 r7 c0' c1'
          cases hta : tagL t.size (60 :: q) with
          | some te =>
            obtain ⟨tk, e5⟩ := te
            rw [hta] at HTAG
            have HN := qh (lexL_tag (N := t.size) (raw := raw) (a := a) (b := b) HNO.out hta)
            have hn2 := (tagL_len hta).2
            simp only [List.length_cons] at hn2
            clear hta
            go_wp2_with (go_at_call 54; refine HTAG.out.mono ?_)
            rintro e w8 ⟨av, rfl, m8, r8, hav⟩
            unfold tkV
            have hws7 := m8.size
            have as8 := HAS7.out.rdr m8 HD.out
            obtain ⟨⟨lv, gb, tl7⟩, _, _⟩ := HAS7.out
            have xw8 := Mv.toExt XW7.out m8 (fun x hx => by rw [(show x = rb from hx)]; have := HD.out.b; have := HD.out.sl; have := HD.out.lr; omega)
            have tl8 : TL w.heap.size (Nb lb ob sb rb) lb L lv gb w8 := tl7.mv m8 (fun g hg => .inr (.inr (.inr hg))) (by show ¬ lb = rb; have := HD.out.lr; omega)
            have hN7 : ∀ g, Nb lb ob sb rb g → g < w7.heap.size := by
              obtain ⟨_, hob7, hsb7⟩ := HAS7.out
              rintro g (rfl | rfl | rfl | rfl)
              · exact (Array.getElem?_eq_some_iff.1 tl7.box).1
              · exact (Array.getElem?_eq_some_iff.1 hob7).1
              · exact (Array.getElem?_eq_some_iff.1 hsb7).1
              · have := HD.out.ro; have := (Array.getElem?_eq_some_iff.1 hob7).1; omega
            obtain ⟨ava, avc, rfl, _⟩ := hav.rd.len_of
            have havc := RowP.imp hav.full (q := fun g => w.heap.size ≤ g ∧ ¬ Nb lb ob sb rb g ∧ gb ≠ some g ∧ g < w8.heap.size) (fun g _ hg => ⟨Nat.le_trans XW7.out.size hg.1, fun hn => absurd (hN7 g hn) (Nat.not_lt.2 hg.1), fun e => absurd (tl7.blk g e).1 (Nat.not_lt.2 hg.1), hg.2⟩)
            have x9 := (Ext.refl w8).alloc (.cells (tkV tk.kind tk.name tk.text (.slice ava tk.attrs.length avc) (if tk.self then 1 else 0) tk.lo tk.hi) 55)
            have hb9 := heap_alloc_new w8 (.cells (tkV tk.kind tk.name tk.text (.slice ava tk.attrs.length avc) (if tk.self then 1 else 0) tk.lo tk.hi) 55)
            have as9 := as8.ext x9
            have tl9 := tl8.ext x9
            have r9 := r8.ext x9
            have xw9 := xw8.trans x9
            have hav9 := RowP.imp (havc.ext x9) (q := fun g => w.heap.size ≤ g ∧ ¬ Nb lb ob sb rb g ∧ gb ≠ some g ∧ g < (w8.alloc (.cells (tkV tk.kind tk.name tk.text (.slice ava tk.attrs.length avc) (if tk.self then 1 else 0) tk.lo tk.hi) 55)).heap.size) (fun g _ hg => ⟨hg.1, hg.2.1, hg.2.2.1, Nat.lt_of_lt_of_le hg.2.2.2 x9.size⟩)
            obtain ⟨sz, hsz⟩ : ∃ z : Int, (if tk.self then (1 : Int) else 0) = z := ⟨_, rfl⟩
            unfold tkV at x9 hb9 as9 tl9 r9 xw9 hav9
            rw [hsz] at x9 hb9 as9 tl9 r9 xw9 hav9 ⊢
            have HSZ := qh (show selfZ tk.self = sz from hsz)
            clear m8 r8 hav havc as8 tl8 tl7 xw8 hsz
            go_upto_region 16 with fail
            obtain ⟨w9, hw9⟩ : ∃ w' : World, w' = w8.alloc (.cells #[.int .i64 tk.kind, .string (bs tk.name), .string (bs tk.text), .slice ava tk.attrs.length avc, .int .i64 sz, .int .i64 (tk.lo : Int), .int .i64 (tk.hi : Int)] 55) := ⟨_, rfl⟩
            rw [← hw9] at x9 hb9 as9 tl9 r9 xw9 hav9 ⊢
            clear hw9
            obtain ⟨b9, hb9e⟩ : ∃ b, w8.heap.size = b := ⟨_, rfl⟩
            rw [hb9e] at hb9 ⊢
            have hx9 := x9.size
            clear hb9e
            have d0 := cellOf hb9 (i := 0) (v := .int .i64 tk.kind) rfl
            have d1 := cellOf hb9 (i := 1) (v := .string (bs tk.name)) rfl
            have d2 := cellOf hb9 (i := 2) (v := .string (bs tk.text)) rfl
            have d3 := cellOf hb9 (i := 3) (v := .slice ava tk.attrs.length avc) rfl
            have d4 := cellOf hb9 (i := 4) (v := .int .i64 sz) rfl
            have d5 := cellOf hb9 (i := 5) (v := .int .i64 (tk.lo : Int)) rfl
            have d6 := cellOf hb9 (i := 6) (v := .int .i64 (tk.hi : Int)) rfl
            have c9 := cellOf tl9.box (i := 0) (v := lv) rfl
            obtain ⟨a0, cap0, wB, hrun, hboxB, hmB, gb1, TLP⟩ := tl9.push (by have := HLL.out; omega) (fun g hg => Nat.lt_of_lt_of_le (hN7 g hg) (Nat.le_trans hws7 hx9)) (.inl rfl) xw9.size (tk, .slice ava tk.attrs.length avc) rfl hav9 (cs := #[.int .i64 tk.kind, .string (bs tk.name), .string (bs tk.text), .slice ava tk.attrs.length avc, .int .i64 sz, .int .i64 (tk.lo : Int), .int .i64 (tk.hi : Int)]) (by rw [← HSZ.out]; rfl)
            have nOb : ¬ gb = some ob := fun e => (tl9.blk ob e).2.2 (.inr (.inl rfl))
            have nSb : ¬ gb = some sb := fun e => (tl9.blk sb e).2.2 (.inr (.inr (.inl rfl)))
            have nRb : ¬ gb = some rb := fun e => (tl9.blk rb e).2.2 (.inr (.inr (.inr rfl)))
            obtain ⟨_, OB9, SB9⟩ := as9
            have OBB := hmB.block OB9 nOb
            have SBB := hmB.block SB9 nSb
            have RB := r9.mv hmB nRb
            have XB := Mv.toExt xw9 hmB (fun x hx => (tl9.blk x hx).2.1)
            have m1 : Mv (· = lb) wB (wB.setCell ⟨lb, 0, none⟩ (.slice a0 (L.length + 1) cap0)) := Mv.setRb (Mv.refl _ wB) _
            have hDD := HD.out
            have OB1 := m1.block OBB (show ¬ ob = lb by have := hDD.lr; have := hDD.ro; omega)
            have SB1 := m1.block SBB (show ¬ sb = lb by have := hDD.sl; omega)
            have R1 := RB.mv m1 (show ¬ rb = lb by have := hDD.lr; omega)
            have X1 := Mv.toExt XB m1 (fun x hx => by rw [(show x = lb from hx)]; have := hDD.b; have := hDD.sl; omega)
            have b3 := cellOf hboxB (i := 0) (v := lv) rfl
            have g3 := freeOf hboxB 0
            have HRUN := qh hrun
            have m2 : Mv (· = ob) (wB.setCell ⟨lb, 0, none⟩ (.slice a0 (L.length + 1) cap0)) ((wB.setCell ⟨lb, 0, none⟩ (.slice a0 (L.length + 1) cap0)).setCell ⟨ob, 0, none⟩ (.bool false)) := Mv.setRb (Mv.refl _ _) _
            have OB2 := heap_setCell_same (i := 0) OB1 (.bool false)
            have SB2 := m2.block SB1 (show ¬ sb = ob by have := hDD.sl; have := hDD.lr; have := hDD.ro; omega)
            have R2 := R1.mv m2 (show ¬ rb = ob by have := hDD.ro; omega)
            have X2' := Mv.toExt X1 m2 (fun x hx => by rw [(show x = ob from hx)]; have := hDD.b; have := hDD.sl; have := hDD.lr; have := hDD.ro; omega)
            have TL2 := TLP.mv m2 (fun g hg => .inr (.inl hg)) (show ¬ lb = ob by have := hDD.lr; have := hDD.ro; omega)
            have AS2 : Hid (AS w.heap.size lb ob sb rb t false (L ++ [(tk, .slice ava tk.attrs.length avc)]) ((wB.setCell ⟨lb, 0, none⟩ (.slice a0 (L.length + 1) cap0)).setCell ⟨ob, 0, none⟩ (.bool false))) := qh ⟨⟨_, _, TL2⟩, OB2, SB2⟩
            have R2H := qh R2
            have X2H := qh X2'
            have o1 := cellOf OB1 (i := 0) (v := .bool (opB raw)) rfl
            have o2 := freeOf OB1 0
            have OB1H := qh OB1
            clear hrun hboxB hmB TLP tl9 nOb nSb nRb OB9 SB9 OBB SBB RB XB m1 hDD OB1 SB1 R1 X1 m2 OB2 SB2 R2 X2' TL2 hav9 hb9 x9 r9 xw9 hN7 hws7 hx9
            go_wp2_with (at_builtin; refine wpList_append_run _ rfl _ _ 44 rfl _ _ rfl rfl _ _ HRUN.out ?_)
            obtain ⟨g', rfl⟩ : ∃ g', gk = g' + 1 := ⟨gk - 1, by have := HGF.out; simp at this; omega⟩
            go_roundg g'
            case measure => omega
            case rel =>
              have h1 := HGF.out; have h2 := HLL.out; have h3 := HRL.out
              simp only [List.length_cons] at h1 h2 h3
              refine ⟨done ++ flushT raw a b ++ [tk], [], a, b, e5, L ++ [(tk, .slice ava tk.attrs.length avc)], R2H.out, (by rw [opB_nil]; exact AS2.out), X2H.out, ?_, by omega, ?_, by simp; omega, by simp; omega⟩
              · rw [List.map_append, HFL.out, flush_nil, List.append_nil]; rfl
              · rw [← HLEX.out, HN.out]; simp
          | none =>
            rw [hta] at HTAG
            have HCH := qh (lexL_char (N := t.size) (raw := raw) (a := a) (b := b) (c := 60) (q := q) (.inr ⟨HNO.out, hta⟩))
            clear hta
            go_wp2_with (go_at_call 54; refine HTAG.out.mono ?_)
            rintro e w8 ⟨f0, f1, f2, f3, f3a, f3c, f4, f5, f6, r9, rfl, rfl, m8, r8⟩
            unfold tkV
            have x9 := (Ext.refl w8).alloc (.cells (tkV f0 f1 f2 (.slice f3a 0 f3c) f4 f5 f6) 55)
            have hb9 := (x9.block (show w8.heap[rb]? = some (.cells #[.string t, .int .i64 ((t.size - r9.length : Nat) : Int)] 107 (0, 0)) by obtain ⟨k9, g1, g2, g3⟩ := r8; rw [g3, show t.size - r9.length = k9 by omega]))
            have as9 := (HAS7.out.rdr m8 HD.out).ext x9
            have xw9 := (Mv.toExt XW7.out m8 (fun x hx => by rw [(show x = rb from hx)]; have := HD.out.b; have := HD.out.sl; have := HD.out.lr; omega)).trans x9
            have hwk : IntKind.i64.wrap ((k : Int) + 1) = (k : Int) + 1 := IntWalk.i64_in _ (by omega)
            unfold tkV at x9 hb9 as9 xw9
            clear m8 r8
            go_upto_region 18 with fail
            obtain ⟨w9, hw9⟩ : ∃ w' : World, w' = w8.alloc (.cells #[.int .i64 f0, .string (bs f1), .string (bs f2), .slice f3a 0 f3c, .int .i64 f4, .int .i64 f5, .int .i64 f6] 55) := ⟨_, rfl⟩
            rw [← hw9] at x9 hb9 as9 xw9 ⊢
            clear hw9 x9
            have c9 := cellOf hb9 (i := 1) rfl
            have f9 := freeOf hb9 1
            have RDx := qh (Rd.move (k := k + 1) (r := q) hb9 HQ.out.2 HQ.out.1)
            have hbx := heap_setCell_same (i := 1) hb9 (.int .i64 ((k + 1 : Nat) : Int))
            have m10 : Mv (· = rb) w9 (w9.setCell ⟨rb, 1, none⟩ (.int .i64 ((k + 1 : Nat) : Int))) := Mv.setRb (Mv.refl _ w9) _
            have HASx := qh (as9.rdr m10 HD.out)
            have XWx := qh (Mv.toExt xw9 m10 (fun x hx => by rw [(show x = rb from hx)]; have := HD.out.b; have := HD.out.sl; have := HD.out.lr; omega))
            clear hb9 as9 xw9 m10
            go_upto_region 19 with fail
            obtain ⟨w10, hw10⟩ : ∃ w' : World, w' = w9.setCell ⟨rb, 1, none⟩ (.int .i64 ((k + 1 : Nat) : Int)) := ⟨_, rfl⟩
            have hw10' : w9.setCell ⟨rb, 1, none⟩ (.int .i64 ((k : Int) + 1)) = w10 := by rw [hw10]; push_cast; rfl
            rw [hw10']
            rw [← hw10] at RDx hbx HASx XWx
            clear hw10 hw10' c9 f9 hwk
            have cx := cellOf hbx (i := 1) (v := .int .i64 ((k + 1 : Nat) : Int)) rfl
            have hk2x : k + 1 ≤ t.size := by omega
            have HPCx : Hid (t.extract k (k + 1) = bs [60]) := qh (by
              have h := bs_cut t.data.toList k (k + 1)
              rw [bs_list] at h
              rw [h, ← HK.out.2.1, Nat.add_sub_cancel_left]
              rfl)
            have HLXx : Hid (lexL t.size raw a b (60 :: q) = lexL t.size (raw ++ [60]) (if raw = [] then k else a) (k + 1) q) := qh (by
              have h := HCH.out
              rw [h, show t.size - (q.length + 1) = k by omega, show t.size - q.length = k + 1 by omega])
            have HLENx : Hid (q.length + ([60] : List UInt8).length = q.length + 1 ∧ 1 ≤ ([60] : List UInt8).length) := qh ⟨rfl, by decide⟩
            obtain ⟨k10, hk10⟩ : ∃ j, k + 1 = j := ⟨_, rfl⟩
            rw [hk10] at cx hk2x HPCx HLXx
            have hkk : k ≤ k10 := by omega
            clear hbx hk10
            by_cases hraw : raw = []
            · have HLX0 : Hid (lexL t.size [] a b (60 :: q) = lexL t.size (([60] : List UInt8)) k (k10) (q)) := qh (by have h := HLXx.out; rw [hraw, if_pos rfl, List.nil_append] at h; exact h)
              subst hraw
              have HT5 := qh (text_new w.heap.size lb ob sb rb t L w10 (by omega) (by have := HLL.out; omega) HD.out RDx.out.lt HASx.out k (k10) (by omega) hk2x (([60] : List UInt8)) HPCx.out)
              go_wp2_with (go_at_call 50; refine HT5.out.mono ?_)
              rintro e w20 ⟨rfl, as20, m20⟩
              have AS20 := qh as20
              have M20 := qh m20
              clear as20 m20
              go_wp2_with fail
              obtain ⟨g', rfl⟩ : ∃ g', gk = g' + 1 := ⟨gk - 1, by have := HGF.out; simp at this; omega⟩
              go_roundg g'
              case measure => omega
              case rel =>
                have h1 := HGF.out; have h2 := HLL.out; have h3 := HRL.out; have h4 := HLENx.out
                simp only [List.length_cons] at h1 h2 h3
                have hne : (([60] : List UInt8)) ≠ [] := by intro e; rw [e] at h4; simp at h4
                refine ⟨done, ([60] : List UInt8), k, k10, q, L ++ [(⟨1, [], ([60] : List UInt8), [], false, k, k10⟩, .slice none 0 0)], RDx.out.mv M20.out (fun h => h.2.1 rfl), ?_, Mv.toExt XWx.out M20.out (fun x hx => hx.1), ?_, by omega, ?_, by first | omega | (simp; omega) | (rw [List.length_append, List.length_cons, List.length_nil]; omega), by first | omega | (simp; omega) | (rw [List.length_append]; omega)⟩
                · rw [opB_some hne]; exact AS20.out
                · rw [List.map_append, HFL.out, flush_nil, List.append_nil, flush_some hne]; rfl
                · rw [← HLEX.out, HLX0.out]
            · have hfl2 := HFL.out
              rw [flush_some hraw] at hfl2
              obtain ⟨D, p, rfl, hDm, hp1⟩ := map_snoc hfl2
              have HDM := qh hDm
              have HP1 := qh hp1
              have hop : opB raw = true := opB_some hraw
              have HRW := qh hraw
              have hasx := HASx.out
              rw [hop] at hasx
              have HT5 := qh (text_more w.heap.size lb ob sb rb t D p w10 (by omega) (by have := HLL.out; simp at this; omega) HD.out hasx (by rw [hp1]; have := HRL.out; simp at this ⊢; omega) k (k10) (by omega) hk2x (([60] : List UInt8)) HPCx.out)
              clear hfl2 hDm hp1 hop hasx hraw
              go_wp2_with (go_at_call 50; refine HT5.out.mono ?_)
              rintro e w20 ⟨rfl, as20, m20⟩
              have AS20 := qh as20
              have M20 := qh m20
              clear as20 m20
              go_wp2_with fail
              obtain ⟨g', rfl⟩ : ∃ g', gk = g' + 1 := ⟨gk - 1, by have := HGF.out; simp at this; omega⟩
              go_roundg g'
              case measure => omega
              case rel =>
                have h1 := HGF.out; have h2 := HLL.out; have h3 := HRL.out; have h4 := HLENx.out
                simp only [List.length_cons, List.length_append, List.length_nil] at h1 h2 h3
                have hne : raw ++ (([60] : List UInt8)) ≠ [] := by intro e; exact HRW.out (List.append_eq_nil_iff.1 e).1
                refine ⟨done, raw ++ (([60] : List UInt8)), a, k10, q, D ++ [(p.1.more (([60] : List UInt8)) (k10), p.2)], RDx.out.mv M20.out (fun h => h.2.1 rfl), ?_, Mv.toExt XWx.out M20.out (fun x hx => hx.1), ?_, by omega, ?_, by first | omega | (simp; omega) | (rw [List.length_append, List.length_cons, List.length_nil]; omega), by first | omega | (simp; omega) | (rw [List.length_append]; omega)⟩
                · rw [opB_some hne]; exact AS20.out
                · rw [List.map_append, HDM.out, flush_some hne, List.map_cons, List.map_nil, HP1.out]; rfl
                · rw [← HLEX.out, HLXx.out, if_neg HRW.out]
      · have e60 : ((c.toNat : Int) != 60) = true := hu8.trans (bne_iff_ne.2 hc)
        clear hu8
        have HRUN := qh (run_any rb t (c :: q) (neB 60) _ w6 (by omega) HRD6.out (isAll rb w6))
        go_wp2_with (go_at_call 51; refine HRUN.out.mono ?_)
        rintro e w7 ⟨rfl, m7, r7⟩
        obtain ⟨k7, g1, g2, g3⟩ := r7
        have hpl : (q.takeWhile (neB 60)).length + 1 + ((c :: q).dropWhile (neB 60)).length = q.length + 1 := by
          have h1 := congrArg List.length (take_drop_while (neB 60) (c :: q))
          have h2 : (c :: q).takeWhile (neB 60) = c :: q.takeWhile (neB 60) := List.takeWhile_cons_of_pos (by unfold neB; exact bne_iff_ne.2 hc)
          rw [h2, List.length_append, List.length_cons, List.length_cons] at h1
          exact h1
        have htw : (c :: q).takeWhile (neB 60) = c :: q.takeWhile (neB 60) := List.takeWhile_cons_of_pos (by unfold neB; exact bne_iff_ne.2 hc)
        have hk7 : k7 = k + (c :: q.takeWhile (neB 60)).length := by rw [List.length_cons]; omega
        have hk2x : k7 ≤ t.size := by omega
        have HPCx : Hid (t.extract k k7 = bs (c :: q.takeWhile (neB 60))) := qh (by
          have h := bs_cut t.data.toList k k7
          rw [bs_list] at h
          rw [h, ← HK.out.2.1, hk7, Nat.add_sub_cancel_left]
          conv => lhs; rw [← take_drop_while (neB 60) (c :: q), htw]
          rw [List.take_left' rfl])
        have HLXx : Hid (lexL t.size raw a b (c :: q) = lexL t.size (raw ++ (c :: q.takeWhile (neB 60))) (if raw = [] then k else a) k7 ((c :: q).dropWhile (neB 60))) := qh (by
          have h := lexL_run (N := t.size) (c :: q.takeWhile (neB 60)) raw a b ((c :: q).dropWhile (neB 60)) (by simp) (fun x hx => by
            rw [← htw] at hx
            have := takeWhile_mem hx
            unfold neB at this
            exact bne_iff_ne.1 this)
          rw [← htw, take_drop_while, htw] at h
          rw [h, show t.size - (c :: q).length = k by rw [List.length_cons]; omega, show t.size - ((c :: q).dropWhile (neB 60)).length = k7 by omega])
        have HLENx : Hid (((c :: q).dropWhile (neB 60)).length + (c :: q.takeWhile (neB 60)).length = q.length + 1 ∧ 1 ≤ (c :: q.takeWhile (neB 60)).length) := qh (by rw [List.length_cons]; exact ⟨by omega, by omega⟩)
        have RDx : Hid (Rd rb t ((c :: q).dropWhile (neB 60)) w7) := qh ⟨k7, g1, g2, g3⟩
        have cx := cellOf g3 (i := 1) (v := .int .i64 k7) rfl
        have HASx := qh (HAS6.out.rdr m7 HD.out)
        have XWx : Hid (Ext w w7) := qh (Mv.toExt XW6.out m7 (fun x hx => by rw [(show x = rb from hx)]; have := HD.out.b; have := HD.out.sl; have := HD.out.lr; omega))
        have hkk : k ≤ k7 := by omega
        clear g1 g2 g3 m7 hpl htw hk7 c0' c1' e60 hc
        by_cases hraw : raw = []
        · have HLX0 : Hid (lexL t.size [] a b (c :: q) = lexL t.size (c :: q.takeWhile (neB 60)) k (k7) ((c :: q).dropWhile (neB 60))) := qh (by have h := HLXx.out; rw [hraw, if_pos rfl, List.nil_append] at h; exact h)
          subst hraw
          have HT5 := qh (text_new w.heap.size lb ob sb rb t L w7 (by omega) (by have := HLL.out; omega) HD.out RDx.out.lt HASx.out k (k7) (by omega) hk2x (c :: q.takeWhile (neB 60)) HPCx.out)
          go_wp2_with (go_at_call 50; refine HT5.out.mono ?_)
          rintro e w20 ⟨rfl, as20, m20⟩
          have AS20 := qh as20
          have M20 := qh m20
          clear as20 m20
          go_wp2_with fail
          obtain ⟨g', rfl⟩ : ∃ g', gk = g' + 1 := ⟨gk - 1, by have := HGF.out; simp at this; omega⟩
          go_roundg g'
          case measure => omega
          case rel =>
            have h1 := HGF.out; have h2 := HLL.out; have h3 := HRL.out; have h4 := HLENx.out
            simp only [List.length_cons] at h1 h2 h3
            have hne : (c :: q.takeWhile (neB 60)) ≠ [] := by intro e; rw [e] at h4; simp at h4
            refine ⟨done, c :: q.takeWhile (neB 60), k, k7, (c :: q).dropWhile (neB 60), L ++ [(⟨1, [], c :: q.takeWhile (neB 60), [], false, k, k7⟩, .slice none 0 0)], RDx.out.mv M20.out (fun h => h.2.1 rfl), ?_, Mv.toExt XWx.out M20.out (fun x hx => hx.1), ?_, by omega, ?_, by first | omega | (simp; omega) | (rw [List.length_append, List.length_cons, List.length_nil]; omega), by first | omega | (simp; omega) | (rw [List.length_append]; omega)⟩
            · rw [opB_some hne]; exact AS20.out
            · rw [List.map_append, HFL.out, flush_nil, List.append_nil, flush_some hne]; rfl
            · rw [← HLEX.out, HLX0.out]
        · have hfl2 := HFL.out
          rw [flush_some hraw] at hfl2
          obtain ⟨D, p, rfl, hDm, hp1⟩ := map_snoc hfl2
          have HDM := qh hDm
          have HP1 := qh hp1
          have hop : opB raw = true := opB_some hraw
          have HRW := qh hraw
          have hasx := HASx.out
          rw [hop] at hasx
          have HT5 := qh (text_more w.heap.size lb ob sb rb t D p w7 (by omega) (by have := HLL.out; simp at this; omega) HD.out hasx (by rw [hp1]; have := HRL.out; simp at this ⊢; omega) k (k7) (by omega) hk2x (c :: q.takeWhile (neB 60)) HPCx.out)
          clear hfl2 hDm hp1 hop hasx hraw
          go_wp2_with (go_at_call 50; refine HT5.out.mono ?_)
          rintro e w20 ⟨rfl, as20, m20⟩
          have AS20 := qh as20
          have M20 := qh m20
          clear as20 m20
          go_wp2_with fail
          obtain ⟨g', rfl⟩ : ∃ g', gk = g' + 1 := ⟨gk - 1, by have := HGF.out; simp at this; omega⟩
          go_roundg g'
          case measure => omega
          case rel =>
            have h1 := HGF.out; have h2 := HLL.out; have h3 := HRL.out; have h4 := HLENx.out
            simp only [List.length_cons, List.length_append, List.length_nil] at h1 h2 h3
            have hne : raw ++ (c :: q.takeWhile (neB 60)) ≠ [] := by intro e; exact HRW.out (List.append_eq_nil_iff.1 e).1
            refine ⟨done, raw ++ (c :: q.takeWhile (neB 60)), a, k7, (c :: q).dropWhile (neB 60), D ++ [(p.1.more (c :: q.takeWhile (neB 60)) (k7), p.2)], RDx.out.mv M20.out (fun h => h.2.1 rfl), ?_, Mv.toExt XWx.out M20.out (fun x hx => hx.1), ?_, by omega, ?_, by first | omega | (simp; omega) | (rw [List.length_append, List.length_cons, List.length_nil]; omega), by first | omega | (simp; omega) | (rw [List.length_append]; omega)⟩
            · rw [opB_some hne]; exact AS20.out
            · rw [List.map_append, HDM.out, flush_some hne, List.map_cons, List.map_nil, HP1.out]; rfl
            · rw [← HLEX.out, HLXx.out, if_neg HRW.out]
end Go.Proofs.YtalaajbajgdglaaGreatDoor
namespace Go.Proofs.YtalaajbajgdglaaGreatDoor
open Go
end Go.Proofs.YtalaajbajgdglaaGreatDoor
namespace Go.Proofs.YtalaajbajgdglaaGreatDoor
open Go Go.RowKit Go.BigFrame
end Go.Proofs.YtalaajbajgdglaaGreatDoor
namespace Go.Proofs.YtalaajbajgdglaaGreatDoor
open Go
structure ZF where
  tag : Int
  attrs : List AttrB
  kids : List PN
def ZF.node (f : ZF) : PN := .mk f.tag f.attrs ⟨#[]⟩ f.kids
def ZF.put (f : ZF) (n : PN) : ZF := ⟨f.tag, f.attrs, f.kids ++ [n]⟩
abbrev ZS := List ZF
def pop1 : ZS → ZS
  | f :: g :: r => g.put f.node :: r
  | z => z
def popN : Nat → ZS → ZS
  | 0, z => z
  | n + 1, z => popN n (pop1 z)
def closeC (is stops : Int → Bool) : List Int → Nat
  | [] => 0
  | [_] => 0
  | t :: u :: r => if stops t && !is t then 0 else if is t then 1 else match closeC is stops (u :: r) with
    | 0 => 0
    | n + 1 => n + 2
def tagsZ (z : ZS) : List Int := z.map ZF.tag
def closeZ (is stops : Int → Bool) (z : ZS) : ZS := popN (closeC is stops (tagsZ z)) z
def boxT (x : Int) : Bool := clsT x == 2
def headT (x : Int) : Bool := decide (3 ≤ x) && decide (x ≤ 5)
def isPH (x : Int) : Bool := x == 2 || headT x
def stPH (x : Int) : Bool := boxT x || x == 9
def isLi (x : Int) : Bool := x == 9
def stLi (x : Int) : Bool := x == 7 || x == 8
def lineT (tag : Int) : Bool := clsT tag == 3 || clsT tag == 2
def aheadZ (tag : Int) (z : ZS) : ZS :=
  let z1 := if lineT tag then closeZ isPH stPH z else z
  if tag = 9 then closeZ isLi stLi z1 else z1
def roomB (cnt n : Nat) : Bool := decide (cnt < 2000) && decide (n ≤ 40)
structure BZ where
  z : ZS
  cnt : Nat
def BZ.add (b : BZ) (n : PN) : BZ := match b.z with
  | [] => b
  | f :: r => ⟨f.put n :: r, b.cnt + 1⟩
def lastText (l : List PN) : Option PN := match l.getLast? with
  | none => none
  | some k => if k.tag = 0 then some k else none
def textZ (s : List UInt8) (b : BZ) : BZ := match b.z with
  | [] => b
  | f :: r => if boxT f.tag && s.all blankB then b else match lastText f.kids with
    | some k => ⟨⟨f.tag, f.attrs, f.kids.dropLast ++ [.mk 0 k.attrs (bs (k.text.data.toList ++ s)) k.kids]⟩ :: r, b.cnt⟩
    | none => if roomB b.cnt b.z.length then b.add (.mk 0 [] (bs s) []) else b
def namesT : List (List UInt8 × Int) := [([100, 105, 118], 1), ([112], 2), ([104, 49], 3), ([104, 50], 4), ([104, 51], 5), ([98, 108, 111, 99, 107, 113, 117, 111, 116, 101], 6), ([117, 108], 7), ([111, 108], 8), ([108, 105], 9),
  ([97], 10), ([98], 11), ([115, 116, 114, 111, 110, 103], 11), ([105], 12), ([101, 109], 12), ([117], 13), ([105, 110, 115], 13), ([115], 14), ([115, 116, 114, 105, 107, 101], 14), ([100, 101, 108], 14), ([115, 112, 97, 110], 15), ([98, 114], 16)]
def findT (n : List UInt8) : Option Int := (namesT.find? (·.1 == n)).map Prod.snd
def openZ (tag : Int) (attrs : List AttrB) (b : BZ) : BZ :=
  if clsT tag = 5 then b.add (.mk tag attrs ⟨#[]⟩ []) else ⟨⟨tag, attrs, []⟩ :: b.z, b.cnt + 1⟩
def tokenZ (t : Tk) (b : BZ) : BZ :=
  if t.kind = 1 then textZ t.text b else match findT t.name with
  | none => b
  | some tag => if t.kind = 3 then ⟨closeZ (· == tag) (fun _ => false) b.z, b.cnt⟩
    else if roomB b.cnt (aheadZ tag b.z).length then openZ tag t.attrs ⟨aheadZ tag b.z, b.cnt⟩ else b
def startZ : BZ := ⟨[⟨1, [], []⟩], 1⟩
def runZ (l : List Tk) : BZ := l.foldl (fun b t => tokenZ t b) startZ
def popAll (z : ZS) : ZS := popN (z.length - 1) z
def topN (z : ZS) : PN := match popAll z with
  | [] => .mk 0 [] ⟨#[]⟩ []
  | f :: _ => f.node
def hostZ (l : List Tk) : PN := topN (runZ l).z

theorem closeC_lt (is stops : Int → Bool) : ∀ l : List Int, l ≠ [] → closeC is stops l < l.length
  | [], h => (h rfl).elim
  | [_], _ => by unfold closeC; simp
  | t :: u :: r, _ => by
    unfold closeC
    have ih := closeC_lt is stops (u :: r) (by simp)
    split
    · simp
    · split
      · simp
      · split
        · simp
        · rename_i n hn
          rw [hn] at ih
          simp only [List.length_cons] at ih ⊢
          omega
theorem pop1_len : ∀ z : ZS, (pop1 z).length = if 2 ≤ z.length then z.length - 1 else z.length
  | [] => rfl
  | [_] => rfl
  | f :: g :: r => by show (g.put f.node :: r).length = _; simp
theorem pop1_tags : ∀ z : ZS, 2 ≤ z.length → tagsZ (pop1 z) = (tagsZ z).drop 1
  | [], h => by simp at h
  | [_], h => by simp at h
  | f :: g :: r, _ => rfl
theorem popN_len : ∀ (n : Nat) (z : ZS), n < z.length → (popN n z).length = z.length - n
  | 0, z, _ => rfl
  | n + 1, z, h => by
    have h1 := pop1_len z
    rw [if_pos (show 2 ≤ z.length by omega)] at h1
    show (popN n (pop1 z)).length = _
    rw [popN_len n _ (by omega), h1]
    omega
theorem popN_tags : ∀ (n : Nat) (z : ZS), n < z.length → tagsZ (popN n z) = (tagsZ z).drop n
  | 0, z, _ => rfl
  | n + 1, z, h => by
    have h1 := pop1_len z
    rw [if_pos (show 2 ≤ z.length by omega)] at h1
    show tagsZ (popN n (pop1 z)) = _
    rw [popN_tags n _ (by omega), pop1_tags z (by omega), List.drop_drop, Nat.add_comm]
theorem closeZ_len (is stops : Int → Bool) (z : ZS) (h : z ≠ []) : (closeZ is stops z).length = z.length - closeC is stops (tagsZ z) ∧ closeC is stops (tagsZ z) < z.length := by
  have h1 := closeC_lt is stops (tagsZ z) (by unfold tagsZ; simpa using h)
  have h2 : (tagsZ z).length = z.length := by unfold tagsZ; simp
  rw [h2] at h1
  exact ⟨popN_len _ z h1, h1⟩
def aheadC (tag : Int) (l : List Int) : Nat :=
  let n := if lineT tag then closeC isPH stPH l else 0
  if tag = 9 then n + closeC isLi stLi (l.drop n) else n
theorem popN_add : ∀ (m n : Nat) (z : ZS), popN n (popN m z) = popN (m + n) z
  | 0, n, z => by rw [Nat.zero_add]; rfl
  | m + 1, n, z => by
    show popN n (popN m (pop1 z)) = _
    rw [popN_add m n (pop1 z), show m + 1 + n = (m + n) + 1 by omega]
    rfl
theorem aheadZ_eq (tag : Int) (z : ZS) (h : z ≠ []) : aheadZ tag z = popN (aheadC tag (tagsZ z)) z ∧ aheadC tag (tagsZ z) < z.length := by
  have hz : 0 < z.length := List.length_pos_iff.2 h
  unfold aheadZ aheadC
  dsimp only
  have a1 : (if lineT tag = true then closeZ isPH stPH z else z) = popN (if lineT tag = true then closeC isPH stPH (tagsZ z) else 0) z ∧ (if lineT tag = true then closeC isPH stPH (tagsZ z) else 0) < z.length := by
    split
    · exact ⟨rfl, (closeZ_len isPH stPH z h).2⟩
    · exact ⟨rfl, hz⟩
  obtain ⟨a2, a3⟩ := a1
  rw [a2]
  generalize (if lineT tag = true then closeC isPH stPH (tagsZ z) else 0) = n at a3 ⊢
  split
  · unfold closeZ
    rw [popN_tags n z a3, popN_add]
    have h1 := popN_len n z a3
    have h2 := closeC_lt isLi stLi ((tagsZ z).drop n) (by
      intro e
      have := congrArg List.length e
      unfold tagsZ at this
      simp at this
      omega)
    have h3 : (tagsZ z).length = z.length := by unfold tagsZ; simp
    rw [List.length_drop, h3] at h2
    exact ⟨rfl, by omega⟩
  · exact ⟨rfl, a3⟩
theorem BZ.add_ne {b : BZ} {n : PN} (h : b.z ≠ []) : (b.add n).z ≠ [] ∧ (b.add n).z.length = b.z.length ∧ (b.add n).cnt = b.cnt + 1 := by
  unfold BZ.add
  cases hz : b.z with
  | nil => exact (h hz).elim
  | cons f r => exact ⟨List.cons_ne_nil _ _, rfl, rfl⟩
end Go.Proofs.YtalaajbajgdglaaGreatDoor
