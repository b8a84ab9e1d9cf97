/- lex's reader: tag. Conditions: at most 10^6 bytes; a byte is there. -/
import Derived.Test.YtdafdoodegpdhaaDoorLU
namespace Go.Proofs.YtdafdoodegpdhaaDoor
open Go Go.RowKit Go.BigFrame We
set_option linter.unusedVariables false
set_option linter.unusedSimpArgs false

theorem takeW_len (p : UInt8 → Bool) (l : List UInt8) : (l.takeWhile p).length ≤ l.length := by
  have := congrArg List.length (take_drop_while p l)
  rw [List.length_append] at this
  omega
theorem valueL_len {r v e : List UInt8} (h : valueL r = some (v, e)) : v.length ≤ r.length := by
  unfold valueL at h
  have h0 := (suf_drop blankB r).length_le
  split at h
  · cases h; exact Nat.zero_le _
  · rename_i q r2 hr
    rw [hr] at h0
    simp only [List.length_cons] at h0
    split at h
    · split at h
      · cases h
      · cases h
        have := takeW_len (neB q) r2
        omega
    · cases h
      have := takeW_len valB (q :: r2)
      simp only [List.length_cons] at this
      omega
theorem partL_len {c : UInt8} {r2 e : List UInt8} {p : Part} (h : partL c r2 = some (p, e)) : p.1.length ≤ r2.length + 1 ∧ p.2.length ≤ r2.length := by
  have h1 := takeW_len nmB r2
  have h2 := (suf_drop nmB r2).length_le
  have h3 := (suf_drop blankB (r2.dropWhile nmB)).length_le
  cases hh : headP (· == 61) ((r2.dropWhile nmB).dropWhile blankB) with
  | false =>
    rw [part_bare hh] at h
    cases h
    exact ⟨by simp; omega, Nat.zero_le _⟩
  | true =>
    obtain ⟨r5, hr5⟩ : ∃ r5, (r2.dropWhile nmB).dropWhile blankB = 61 :: r5 := by
      cases hq : (r2.dropWhile nmB).dropWhile blankB with
      | nil => rw [hq] at hh; cases hh
      | cons y q =>
        rw [hq] at hh
        have : y = 61 := by simpa [headP] using hh
        exact ⟨q, by rw [this]⟩
    rw [part_none hr5] at h
    rw [hr5] at h3
    simp only [List.length_cons] at h3
    cases hv : valueL r5 with
    | none => rw [hv] at h; cases h
    | some ve =>
      rw [hv] at h
      have h4 := valueL_len (v := ve.1) (e := ve.2) hv
      cases h
      exact ⟨by simp; omega, by dsimp only; omega⟩
theorem partsL_ok : ∀ (n : Nat) (r : List UInt8) (x : List Part × Bool × List UInt8), r.length ≤ n → partsL r = some x → (∀ p ∈ x.1, p.1.length ≤ n ∧ p.2.length ≤ n) ∧ x.1.length ≤ r.length := by
  intro n
  induction n with
  | zero =>
    intro r x hl h
    obtain rfl : r = [] := List.eq_nil_of_length_eq_zero (by omega)
    cases h
  | succ n ih =>
    intro r x hl h
    rw [partsL_eq] at h
    have h0 := (suf_drop gapB r).length_le
    split at h
    · cases h
    · rename_i c r2 hr
      rw [hr] at h0
      simp only [List.length_cons] at h0
      split at h
      · cases h; exact ⟨(fun p hp => by cases hp), Nat.zero_le _⟩
      · split at h
        · cases h
        · rename_i p e hp
          have h1 := (partL_suf hp).length_le
          obtain ⟨h2, h3⟩ := partL_len hp
          cases hx : partsL e with
          | none => rw [hx] at h; cases h
          | some y =>
            rw [hx] at h
            obtain ⟨h4, h5⟩ := ih e y (by omega) hx
            cases h
            refine ⟨fun q hq => ?_, by dsimp only; rw [List.length_cons]; omega⟩
            rcases List.mem_cons.1 hq with rfl | hq
            · exact ⟨by omega, by omega⟩
            · have := h4 q hq
              exact ⟨by omega, by omega⟩
/-- a token's cells -/
def tkV (k : Int) (n t : List UInt8) (av : Value) (z lo hi : Int) : Array Value := #[.int .i64 k, .string (bs n), .string (bs t), av, .int .i64 z, .int .i64 lo, .int .i64 hi]
theorem bs_nil : bs [] = ⟨#[]⟩ := rfl
section
variable {P : Program} {ops : Array Oper} {rest : List Oper} {o : Oper} {a : Act} {Q : Exit → Act → World → Prop}
theorem run_storeRow (w : World) {b : Nat} {t T : TypeId} {cur vs : Array Value} (hg : w.heap[b]? = some (.cells cur T (0, 0))) (hz : ∀ w, (sizeOf t).run P w = .ok vs.size w) (hl : vs.size = cur.size) (h1 : ∀ v ∈ vs.toList, v.oneCell' = true) :
    (Instr.storeAt t (.pointer (some ⟨b, 0, none⟩)) (.agg vs)).run P w = .ok () (w.setRow b vs) := by
  have h := run_storeCells_at (P := P) b 0 T vs.toList 0 cur w hg (by simp [hl]) h1
  simp only [Nat.zero_add, List.take_zero, List.nil_append] at h
  rw [List.drop_eq_nil_of_le (by simp [hl])] at h
  simp only [List.append_nil, Array.toArray_toList] at h
  simp only [Instr.storeAt, Instr.sureAddr, storeVar, Sem.run_bind, Sem.run_pure, Result.andThen_ok, hz, Value.cells, ne_eq, not_true, if_false]
  exact h
theorem wpList_storeRow {w : World} {b : Nat} {t T : TypeId} {x y : Operand} {cur vs : Array Value} (hgd : o.guard = none) (ho : o.op = .store t x y) (hx : a.eval x = .pointer (some ⟨b, 0, none⟩)) (hy : a.eval y = .agg vs)
    (hg : w.heap[b]? = some (.cells cur T (0, 0))) (hz : ∀ w, (sizeOf t).run P w = .ok vs.size w) (hl : vs.size = cur.size) (h1 : ∀ v ∈ vs.toList, v.oneCell' = true) (h : wpList P ops Q rest (a.put o.dst undef) (w.setRow b vs)) : wpList P ops Q (o :: rest) a w := by
  refine wpList_plain hgd fun K hK => ?_
  have hr := run_storeRow (P := P) w hg hz hl h1
  unfold Oper.wp execOp
  simp only [ho, hx, hy, hr, Sem.run_bind, Sem.run_pure, Result.andThen_ok]
  first | exact hK _ _ h | (rw [Oper.upon_skip]; exact hK _ _ h) | (simp only [Oper.upon]; exact hK _ _ h)
end
theorem heap_setRow_same {w : World} {b : Nat} {cs vs : Array Value} {T : TypeId} {fr : Nat × Nat} (h : w.heap[b]? = some (.cells cs T fr)) : (w.setRow b vs).heap[b]? = some (.cells vs T fr) := by simp [World.setRow, Array.getElem?_modify, h]
theorem heap_setRow_other {w : World} {b j : Nat} {vs : Array Value} (h : j ≠ b) : (w.setRow b vs).heap[j]? = w.heap[j]? := by simp [World.setRow, Array.getElem?_modify, Ne.symm h]
theorem Mv.setRow {S : Nat → Prop} {a w : World} (h : Mv S a w) {b : Nat} (hb : b < a.heap.size → S b) (vs : Array Value) : Mv S a (w.setRow b vs) :=
  ⟨h.os, h.tape, h.output, by have := h.size; simpa [World.setRow] using this, fun x hx hn => (heap_setRow_other fun e => hn (by rw [e]; exact hb (e ▸ hx))).trans (h.rest x hx hn)⟩
theorem Mv.over {S S' : Nat → Prop} {a b c : World} (h : Mv S a b) (k : Mv S' b c) (hS : ∀ x, x < a.heap.size → S' x → S x) : Mv S a c :=
  ⟨k.os.trans h.os, k.tape.trans h.tape, k.output.trans h.output, Nat.le_trans h.size k.size, fun x hx hn => (k.rest x (Nat.lt_of_lt_of_le hx h.size) fun hs => hn (hS x hx hs)).trans (h.rest x hx hn)⟩
def RTag (rb : Nat) (s : ByteArray) (o : Option (Tk × List UInt8)) (w : World) (e : Ending) (w' : World) : Prop :=
  match o with
  | some (t, r) => ∃ av, e = .returned (.tuple #[.agg (tkV t.kind t.name t.text av (if t.self then 1 else 0) t.lo t.hi), .bool true]) ∧ Mv (· = rb) w w' ∧ Rd rb s r w' ∧ RowP w' (fun g => w.heap.size ≤ g) 55 2 av t.attrs.length (attrCells t.attrs)
  | none => ∃ k n l av a c z lo hi r', e = .returned (.tuple #[.agg (tkV k n l av z lo hi), .bool false]) ∧ av = .slice a 0 c ∧ Mv (· = rb) w w' ∧ Rd rb s r' w'
theorem oneL_tag (c : UInt8) (q : List UInt8) : oneL 47 q = tagR (c :: q) := by
  unfold oneL tagR closeB
  rw [List.drop_succ_cons, List.drop_zero]
  split
  · cases q <;> rfl
  · rfl
theorem tkOne (v0 v1 v2 v3 v4 v5 v6 : Value) (h0 : v0.oneCell' = true) (h1 : v1.oneCell' = true) (h2 : v2.oneCell' = true) (h3 : v3.oneCell' = true) (h4 : v4.oneCell' = true) (h5 : v5.oneCell' = true) (h6 : v6.oneCell' = true) :
    ∀ u ∈ (#[v0, v1, v2, v3, v4, v5, v6] : Array Value).toList, u.oneCell' = true := by
  intro u hu
  simp at hu
  rcases hu with rfl | rfl | rfl | rfl | rfl | rfl | rfl <;> assumption
theorem sizeTok (w : World) : (sizeOf 40).run Tryd.prog w = .ok 7 w := Tryd.sizeOf40 w
set_option maxHeartbeats 4000000 in
set_option maxRecDepth 100000 in
theorem tag_any (rb : Nat) (s : ByteArray) (c : UInt8) (q : List UInt8) (w : World) (hs : s.size ≤ 1000000) (hr : Rd rb s (c :: q) w) (hl : ∀ W, Mv (· = rb) w W → LW W) :
    Calls Tryd.prog 47 #[.pointer (some ⟨rb, 0, none⟩)] w (RTag rb s (tagL s.size (c :: q)) w) := by
  have HS := Lib.hid (show s.size ≤ 100000000000 by omega)
  have HS6 := Lib.hid hs
  have HL := Lib.hid hl
  have hrb := hr.lt
  obtain ⟨o, ho⟩ : ∃ o, tagL s.size (c :: q) = o := ⟨_, rfl⟩
  rw [ho]
  have HO := Lib.hid ho
  obtain ⟨k, h1, h2, h3⟩ := hr
  obtain ⟨hk, _, hq, hq1⟩ := Rd.head h1 h2
  have HQ := Lib.hid (And.intro hq1 (And.intro hq h1))
  have HB := Lib.hid h3
  have hwk : IntKind.i64.wrap ((k : Int) + 1) = (k : Int) + 1 := IntWalk.i64_in _ (by omega)
  have xa := (Ext.refl w).alloc (.cells #[.int .i64 0, .string ⟨#[]⟩, .string ⟨#[]⟩, .slice none 0 0, .int .i64 0, .int .i64 0, .int .i64 0] 40)
  have hba := heap_alloc_new w (.cells #[.int .i64 0, .string ⟨#[]⟩, .string ⟨#[]⟩, .slice none 0 0, .int .i64 0, .int .i64 0, .int .i64 0] 40)
  clear h1 h2 h3 hq hq1 ho hs hl
  go_enter Tryd.func47, Tryd.ntmps47
  go_upto_region 1 with fail
  obtain ⟨wa, hwa⟩ : ∃ w' : World, w' = w.alloc (.cells #[.int .i64 0, .string ⟨#[]⟩, .string ⟨#[]⟩, .slice none 0 0, .int .i64 0, .int .i64 0, .int .i64 0] 40) := ⟨_, rfl⟩
  have hsa : wa.heap.size = w.heap.size + 1 := by rw [hwa]; simp
  rw [← hwa] at xa hba ⊢
  have HSA := Lib.hid hsa
  clear hwa hsa
  have c1 := cellOf (xa.block HB.out) (i := 1) rfl
  have xb := xa.alloc (.cells #[.int .i64 2, .string ⟨#[]⟩, .string ⟨#[]⟩, .slice none 0 0, .int .i64 0, .int .i64 k, .int .i64 0] 40)
  have hbb := heap_alloc_new wa (.cells #[.int .i64 2, .string ⟨#[]⟩, .string ⟨#[]⟩, .slice none 0 0, .int .i64 0, .int .i64 k, .int .i64 0] 40)
  have hba2 := ((Ext.refl wa).alloc (.cells #[.int .i64 2, .string ⟨#[]⟩, .string ⟨#[]⟩, .slice none 0 0, .int .i64 0, .int .i64 k, .int .i64 0] 40)).block hba
  go_upto_region 2 with fail
  obtain ⟨wb, hwb⟩ : ∃ w' : World, w' = wa.alloc (.cells #[.int .i64 2, .string ⟨#[]⟩, .string ⟨#[]⟩, .slice none 0 0, .int .i64 0, .int .i64 k, .int .i64 0] 40) := ⟨_, rfl⟩
  rw [← hwb] at xb hbb hba2 ⊢
  clear hwb c1 hba
  obtain ⟨b2, hb2⟩ : ∃ b, w.heap.size = b := ⟨_, rfl⟩
  obtain ⟨b4, hb4⟩ : ∃ b, wa.heap.size = b := ⟨_, rfl⟩
  have hsa := HSA.out
  rw [hb2] at hba2 ⊢
  rw [hb4] at hbb ⊢
  have hn2 : b2 ≠ rb := by omega
  have hn4 : b4 ≠ rb := by omega
  have hn24 : b2 ≠ b4 := by omega
  have hg2 : w.heap.size ≤ b2 := by omega
  have hg4 : w.heap.size ≤ b4 := by omega
  have hrb1 := xb.block HB.out
  have c1 := cellOf hrb1 (i := 1) rfl
  have f1 := freeOf hrb1 1
  have R0 := Rd.move (k := k + 1) hrb1 HQ.out.1 HQ.out.2.1
  have M0 := Mv.setRb (rb := rb) (o := 1) (Mv.ofExt xb) (.int .i64 ((k + 1 : Nat) : Int))
  have hms := Mv.setRb (rb := rb) (o := 1) (Mv.refl (· = rb) wb) (.int .i64 ((k + 1 : Nat) : Int))
  have B2 := hms.block hba2 hn2
  have B4 := hms.block hbb hn4
  clear hsa hb2 hb4 xa xb hba2 hbb hrb1 hms
  go_upto_region 3 with fail
  obtain ⟨wc, hwc⟩ : ∃ w' : World, w' = wb.setCell ⟨rb, 1, none⟩ (.int .i64 ((k + 1 : Nat) : Int)) := ⟨_, rfl⟩
  have hwc' : wb.setCell ⟨rb, 1, none⟩ (.int .i64 ((k : Int) + 1)) = wc := by rw [hwc]; push_cast; rfl
  rw [hwc']
  rw [← hwc] at R0 M0 B2 B4
  clear hwc hwc' c1 f1
  have HONE := Lib.hid (one_any rb s q 47 47 rfl wc HS.out R0)
  rw [oneL_tag c q] at HONE
  have M0 := Lib.hid M0
  have B2 := Lib.hid B2
  have B4 := Lib.hid B4
  clear R0
  have hcl : closeB (c :: q) = headP (· == 47) q := rfl
  have HTL := Lib.hid (show (if headP letterB (tagR (c :: q)) then (if headP (· == 47) q then closeL s.size (c :: q) else openL s.size (c :: q)) else none) = o from HO.out)
  clear hcl
  obtain ⟨r1, hr1⟩ : ∃ r1, tagR (c :: q) = r1 := ⟨_, rfl⟩
  rw [hr1] at HONE HTL
  have HR1 := Lib.hid hr1
  clear hr1
  cases hcb : headP (· == 47) q with
  | true =>
    rw [hcb] at HONE HTL
    clear hcb
    go_wp2_with (go_at_call 61; refine HONE.out.mono ?_)
    rintro e w1 ⟨rfl, m1, R1⟩
    have hb4 := m1.block B4.out hn4
    have f4 := freeOf hb4 0
    have c4 := cellOf hb4 (i := 0) rfl
    have B4a := heap_setCell_same (i := 0) hb4 (.int .i64 3)
    have h4m := Mv.setCell (S := (· = b4)) (p := ⟨b4, 0, none⟩) (Mv.refl (· = b4) w1) (fun _ => rfl) (.int .i64 3)
    have B2a := h4m.block (m1.block B2.out hn2) (show ¬ b2 = b4 from hn24)
    have R2 := R1.mv h4m (show ¬ rb = b4 from Ne.symm hn4)
    have M2 := Mv.setCell (p := ⟨b4, 0, none⟩) (M0.out.trans m1) (fun h => absurd h (by show ¬ b4 < w.heap.size; omega)) (.int .i64 3)
    clear m1 R1 hb4 h4m
    go_upto_region 5 with fail
    obtain ⟨w2, hw2⟩ : ∃ w' : World, w' = w1.setCell ⟨b4, 0, none⟩ (.int .i64 3) := ⟨_, rfl⟩
    rw [← hw2] at B4a B2a R2 M2 ⊢
    clear hw2 f4 c4
    have HM := Lib.hid (more_any rb s r1 letterB _ w2 HS.out R2 (isLetter rb w2))
    cases hlt : headP letterB r1 with
    | false =>
      have HN : Hid (o = none) := Lib.hid (by rw [← HTL.out, hlt]; rfl)
      rw [hlt] at HM
      clear hlt
      go_wp2_with (go_at_call 59; refine HM.out.mono ?_)
      rintro e w3 ⟨rfl, x3⟩
      have B4z := x3.block B4a
      have B2z := x3.block B2a
      have Rz := R2.ext x3
      have Mz := M2.ext x3
      clear x3 B4a B2a R2 M2
      have d0 := cellOf B4z (i := 0) (v := .int .i64 3) rfl
      have d1 := cellOf B4z (i := 1) (v := .string ⟨#[]⟩) rfl
      have d2 := cellOf B4z (i := 2) (v := .string ⟨#[]⟩) rfl
      have d3 := cellOf B4z (i := 3) (v := .slice none 0 0) rfl
      have d4 := cellOf B4z (i := 4) (v := .int .i64 0) rfl
      have d5 := cellOf B4z (i := 5) (v := .int .i64 k) rfl
      have d6 := cellOf B4z (i := 6) (v := .int .i64 0) rfl
      have B2s := heap_setRow_same (vs := #[.int .i64 3, .string ⟨#[]⟩, .string ⟨#[]⟩, .slice none 0 0, .int .i64 0, .int .i64 k, .int .i64 0]) B2z
      have hlv := run_loadVar_row (P := Tryd.prog) _ b2 40 40 _ (0, 0) _ B2s Tryd.underlying40 rfl (by kernel_rfl)
      have RZ := Lib.hid (Rz.mv (Mv.setRow (S := (· = b2)) (Mv.refl (· = b2) _) (fun _ => rfl) #[.int .i64 3, .string ⟨#[]⟩, .string ⟨#[]⟩, .slice none 0 0, .int .i64 0, .int .i64 k, .int .i64 0]) (show ¬ rb = b2 from Ne.symm hn2))
      have MZ := Lib.hid (Mv.setRow Mz (b := b2) (fun h => absurd h (by omega)) #[.int .i64 3, .string ⟨#[]⟩, .string ⟨#[]⟩, .slice none 0 0, .int .i64 0, .int .i64 k, .int .i64 0])
      clear B4z B2s Rz Mz
      go_wp2_with (refine wpList_storeRow rfl rfl rfl rfl B2z sizeTok rfl (tkOne _ _ _ _ _ _ _ rfl rfl rfl rfl rfl rfl rfl) ?_)
      clear d0 d1 d2 d3 d4 d5 d6 B2z
      refine bodyPost_ret (v := .tuple #[.agg #[.int .i64 3, .string ⟨#[]⟩, .string ⟨#[]⟩, .slice none 0 0, .int .i64 0, .int .i64 k, .int .i64 0], .bool false]) (by simp [results, Tryd.results47, asAddr, hlv]) rfl ?_
      rw [HN.out]
      exact ⟨3, [], [], _, none, 0, 0, k, 0, _, rfl, rfl, MZ.out, RZ.out⟩
    | true =>
      rw [hlt] at HM HTL
      clear hlt
      go_wp2_with (go_at_call 59; refine HM.out.mono ?_)
      rintro e w3 ⟨rfl, x3⟩
      have B4b := Lib.hid (x3.block B4a)
      have B2b := Lib.hid (x3.block B2a)
      have M3 := Lib.hid (M2.ext x3)
      have HNM := Lib.hid (name_any rb s r1 w3 HS.out (R2.ext x3))
      clear x3 B4a B2a R2 M2
      go_wp2_with (go_at_call 63; refine HNM.out.mono ?_)
      rintro e w4 ⟨rfl, m4, R4⟩
      obtain ⟨nm, hnm⟩ : ∃ nm, (r1.takeWhile alnumB).map smallC = nm := ⟨_, rfl⟩
      rw [hnm]
      have HNMM := Lib.hid hnm
      have hb4 := m4.block B4b.out hn4
      have f4 := freeOf hb4 1
      have c4 := cellOf hb4 (i := 1) rfl
      have c40 := cellOf hb4 (i := 0) rfl
      have B4c := heap_setCell_same (i := 1) hb4 (.string (bs nm))
      have h4m := Mv.setCell (S := (· = b4)) (p := ⟨b4, 1, none⟩) (Mv.refl (· = b4) w4) (fun _ => rfl) (.string (bs nm))
      have B2c := h4m.block (m4.block B2b.out hn2) (show ¬ b2 = b4 from hn24)
      have R5 := R4.mv h4m (show ¬ rb = b4 from Ne.symm hn4)
      have M5 := Mv.setCell (p := ⟨b4, 1, none⟩) (M3.out.trans m4) (fun h => absurd h (by show ¬ b4 < w.heap.size; omega)) (.string (bs nm))
      clear m4 R4 hb4 h4m hnm
      go_upto_region 8 with fail
      obtain ⟨w5, hw5⟩ : ∃ w' : World, w' = w4.setCell ⟨b4, 1, none⟩ (.string (bs nm)) := ⟨_, rfl⟩
      rw [← hw5] at B4c B2c R5 M5 ⊢
      clear hw5 f4 c4 c40
      have c40 := cellOf B4c (i := 0) (v := .int .i64 3) rfl
      obtain ⟨r2, hr2⟩ : ∃ r2, r1.dropWhile alnumB = r2 := ⟨_, rfl⟩
      rw [hr2] at R5
      have HR2 := Lib.hid hr2
      clear hr2
      have HRUN := Lib.hid (run_any rb s r2 (neB 62) _ w5 HS.out R5 (isTag rb w5))
      go_wp2_with (go_at_call 44; refine HRUN.out.mono ?_)
      rintro e w6 ⟨rfl, m6, R6⟩
      have HONE6 := Lib.hid (one_any rb s (r2.dropWhile (neB 62)) 62 62 rfl w6 HS.out R6)
      have B4d := Lib.hid (m6.block B4c hn4)
      have B2d := Lib.hid (m6.block B2c hn2)
      have M6 := Lib.hid (M5.trans m6)
      clear m6 R6 B4c B2c R5 M5 c40
      cases hd : r2.dropWhile (neB 62) with
      | nil =>
        have hh : headP (· == (62 : UInt8)) [] = false := rfl
        have ho1 : oneL 62 [] = [] := rfl
        have HN : Hid (o = none) := Lib.hid (by
          have h : closeL s.size (c :: q) = o := by simpa using HTL.out
          rw [← h]
          unfold closeL
          rw [HR1.out, HR2.out, hd])
        rw [hd, hh, ho1] at HONE6
        clear hd hh ho1
        go_wp2_with (go_at_call 61; refine HONE6.out.mono ?_)
        rintro e w7 ⟨rfl, m7, R7⟩
        have hb4 := m7.block B4d.out hn4
        have f4 := freeOf hb4 6
        have c46 := cellOf hb4 (i := 6) (v := .int .i64 0) rfl
        obtain ⟨k7, g1, g2, g3⟩ := R7
        have c1 := cellOf g3 (i := 1) rfl
        have hk7 : s.size - ([] : List UInt8).length = k7 := by omega
        have B4z := heap_setCell_same (i := 6) hb4 (.int .i64 (k7 : Int))
        have h4m := Mv.setCell (S := (· = b4)) (p := ⟨b4, 6, none⟩) (Mv.refl (· = b4) w7) (fun _ => rfl) (.int .i64 (k7 : Int))
        have B2z := h4m.block (m7.block B2d.out hn2) (show ¬ b2 = b4 from hn24)
        have Rz : Rd rb s ([] : List UInt8) _ := Rd.mv ⟨k7, g1, g2, g3⟩ h4m (show ¬ rb = b4 from Ne.symm hn4)
        have Mz := Mv.setCell (p := ⟨b4, 6, none⟩) (M6.out.trans m7) (fun h => absurd h (by show ¬ b4 < w.heap.size; omega)) (.int .i64 (k7 : Int))
        have HK7 := Lib.hid hk7
        clear m7 g1 g2 g3 hb4 h4m hk7
        go_upto_region 12 with fail
        obtain ⟨w8, hw8⟩ : ∃ w' : World, w' = w7.setCell ⟨b4, 6, none⟩ (.int .i64 (k7 : Int)) := ⟨_, rfl⟩
        rw [← hw8] at B4z B2z Rz Mz ⊢
        clear hw8 f4 c46 c1
        have d0 := cellOf B4z (i := 0) (v := .int .i64 3) rfl
        have d1 := cellOf B4z (i := 1) (v := .string (bs nm)) rfl
        have d2 := cellOf B4z (i := 2) (v := .string ⟨#[]⟩) rfl
        have d3 := cellOf B4z (i := 3) (v := .slice none 0 0) rfl
        have d4 := cellOf B4z (i := 4) (v := .int .i64 0) rfl
        have d5 := cellOf B4z (i := 5) (v := .int .i64 k) rfl
        have d6 := cellOf B4z (i := 6) (v := .int .i64 (k7 : Int)) rfl
        have B2s := heap_setRow_same (vs := #[.int .i64 3, .string (bs nm), .string ⟨#[]⟩, .slice none 0 0, .int .i64 0, .int .i64 k, .int .i64 (k7 : Int)]) B2z
        have hlv := run_loadVar_row (P := Tryd.prog) _ b2 40 40 _ (0, 0) _ B2s Tryd.underlying40 rfl (by kernel_rfl)
        have RZ := Lib.hid (Rz.mv (Mv.setRow (S := (· = b2)) (Mv.refl (· = b2) _) (fun _ => rfl) #[.int .i64 3, .string (bs nm), .string ⟨#[]⟩, .slice none 0 0, .int .i64 0, .int .i64 k, .int .i64 (k7 : Int)]) (show ¬ rb = b2 from Ne.symm hn2))
        have MZ := Lib.hid (Mv.setRow Mz (b := b2) (fun h => absurd h (by omega)) #[.int .i64 3, .string (bs nm), .string ⟨#[]⟩, .slice none 0 0, .int .i64 0, .int .i64 k, .int .i64 (k7 : Int)])
        clear B4z B2s Rz Mz
        go_wp2_with (refine wpList_storeRow rfl rfl rfl rfl B2z sizeTok rfl (tkOne _ _ _ _ _ _ _ rfl rfl rfl rfl rfl rfl rfl) ?_)
        clear d0 d1 d2 d3 d4 d5 d6 B2z
        refine bodyPost_ret (v := .tuple #[.agg #[.int .i64 3, .string (bs nm), .string ⟨#[]⟩, .slice none 0 0, .int .i64 0, .int .i64 k, .int .i64 (k7 : Int)], .bool false]) (by simp [results, Tryd.results47, asAddr, hlv]) rfl ?_
        rw [HN.out]
        exact ⟨3, nm, [], _, none, 0, 0, k, _, _, rfl, rfl, MZ.out, RZ.out⟩
      | cons y e5 =>
        have hy := neB_head hd
        subst hy
        have hh : headP (· == (62 : UInt8)) (62 :: e5) = true := rfl
        have ho1 : oneL 62 (62 :: e5) = e5 := rfl
        have HN : Hid (o = some (⟨3, nm, [], [], false, k, s.size - e5.length⟩, e5)) := Lib.hid (by
          have h : closeL s.size (c :: q) = o := by simpa using HTL.out
          rw [← h]
          unfold closeL
          rw [HR1.out, HR2.out, hd]
          dsimp only
          unfold tagN
          rw [HR1.out, HNMM.out]
          have h8 := HQ.out.2.2
          rw [show s.size - (c :: q).length = k by omega])
        rw [hd, hh, ho1] at HONE6
        clear hd hh ho1
        go_wp2_with (go_at_call 61; refine HONE6.out.mono ?_)
        rintro e w7 ⟨rfl, m7, R7⟩
        have hb4 := m7.block B4d.out hn4
        have f4 := freeOf hb4 6
        have c46 := cellOf hb4 (i := 6) (v := .int .i64 0) rfl
        obtain ⟨k7, g1, g2, g3⟩ := R7
        have c1 := cellOf g3 (i := 1) rfl
        have hk7 : s.size - (e5).length = k7 := by omega
        have B4z := heap_setCell_same (i := 6) hb4 (.int .i64 (k7 : Int))
        have h4m := Mv.setCell (S := (· = b4)) (p := ⟨b4, 6, none⟩) (Mv.refl (· = b4) w7) (fun _ => rfl) (.int .i64 (k7 : Int))
        have B2z := h4m.block (m7.block B2d.out hn2) (show ¬ b2 = b4 from hn24)
        have Rz : Rd rb s (e5) _ := Rd.mv ⟨k7, g1, g2, g3⟩ h4m (show ¬ rb = b4 from Ne.symm hn4)
        have Mz := Mv.setCell (p := ⟨b4, 6, none⟩) (M6.out.trans m7) (fun h => absurd h (by show ¬ b4 < w.heap.size; omega)) (.int .i64 (k7 : Int))
        have HK7 := Lib.hid hk7
        clear m7 g1 g2 g3 hb4 h4m hk7
        go_upto_region 12 with fail
        obtain ⟨w8, hw8⟩ : ∃ w' : World, w' = w7.setCell ⟨b4, 6, none⟩ (.int .i64 (k7 : Int)) := ⟨_, rfl⟩
        rw [← hw8] at B4z B2z Rz Mz ⊢
        clear hw8 f4 c46 c1
        have d0 := cellOf B4z (i := 0) (v := .int .i64 3) rfl
        have d1 := cellOf B4z (i := 1) (v := .string (bs nm)) rfl
        have d2 := cellOf B4z (i := 2) (v := .string ⟨#[]⟩) rfl
        have d3 := cellOf B4z (i := 3) (v := .slice none 0 0) rfl
        have d4 := cellOf B4z (i := 4) (v := .int .i64 0) rfl
        have d5 := cellOf B4z (i := 5) (v := .int .i64 k) rfl
        have d6 := cellOf B4z (i := 6) (v := .int .i64 (k7 : Int)) rfl
        have B2s := heap_setRow_same (vs := #[.int .i64 3, .string (bs nm), .string ⟨#[]⟩, .slice none 0 0, .int .i64 0, .int .i64 k, .int .i64 (k7 : Int)]) B2z
        have hlv := run_loadVar_row (P := Tryd.prog) _ b2 40 40 _ (0, 0) _ B2s Tryd.underlying40 rfl (by kernel_rfl)
        have RZ := Lib.hid (Rz.mv (Mv.setRow (S := (· = b2)) (Mv.refl (· = b2) _) (fun _ => rfl) #[.int .i64 3, .string (bs nm), .string ⟨#[]⟩, .slice none 0 0, .int .i64 0, .int .i64 k, .int .i64 (k7 : Int)]) (show ¬ rb = b2 from Ne.symm hn2))
        have MZ := Lib.hid (Mv.setRow Mz (b := b2) (fun h => absurd h (by omega)) #[.int .i64 3, .string (bs nm), .string ⟨#[]⟩, .slice none 0 0, .int .i64 0, .int .i64 k, .int .i64 (k7 : Int)])
        clear B4z B2s Rz Mz
        go_wp2_with (refine wpList_storeRow rfl rfl rfl rfl B2z sizeTok rfl (tkOne _ _ _ _ _ _ _ rfl rfl rfl rfl rfl rfl rfl) ?_)
        clear d0 d1 d2 d3 d4 d5 d6 B2z
        refine bodyPost_ret (v := .tuple #[.agg #[.int .i64 3, .string (bs nm), .string ⟨#[]⟩, .slice none 0 0, .int .i64 0, .int .i64 k, .int .i64 (k7 : Int)], .bool true]) (by simp [results, Tryd.results47, asAddr, hlv]) rfl ?_
        rw [HN.out, HK7.out]
        exact ⟨_, rfl, MZ.out, RZ.out, ⟨rfl, .inl ⟨rfl, none, rfl⟩⟩⟩
  | false =>
    rw [hcb] at HONE HTL
    clear hcb
    go_wp2_with (go_at_call 61; refine HONE.out.mono ?_)
    rintro e w2 ⟨rfl, m1, R2⟩
    have B4a := m1.block B4.out hn4
    have B2a := m1.block B2.out hn2
    have M2 := M0.out.trans m1
    clear m1
    go_upto_region 5 with fail
    have HM := Lib.hid (more_any rb s r1 letterB _ w2 HS.out R2 (isLetter rb w2))
    cases hlt : headP letterB r1 with
    | false =>
      have HN : Hid (o = none) := Lib.hid (by rw [← HTL.out, hlt]; rfl)
      rw [hlt] at HM
      clear hlt
      go_wp2_with (go_at_call 59; refine HM.out.mono ?_)
      rintro e w3 ⟨rfl, x3⟩
      have B4z := x3.block B4a
      have B2z := x3.block B2a
      have Rz := R2.ext x3
      have Mz := M2.ext x3
      clear x3 B4a B2a R2 M2
      have d0 := cellOf B4z (i := 0) (v := .int .i64 2) rfl
      have d1 := cellOf B4z (i := 1) (v := .string ⟨#[]⟩) rfl
      have d2 := cellOf B4z (i := 2) (v := .string ⟨#[]⟩) rfl
      have d3 := cellOf B4z (i := 3) (v := .slice none 0 0) rfl
      have d4 := cellOf B4z (i := 4) (v := .int .i64 0) rfl
      have d5 := cellOf B4z (i := 5) (v := .int .i64 k) rfl
      have d6 := cellOf B4z (i := 6) (v := .int .i64 0) rfl
      have B2s := heap_setRow_same (vs := #[.int .i64 2, .string ⟨#[]⟩, .string ⟨#[]⟩, .slice none 0 0, .int .i64 0, .int .i64 k, .int .i64 0]) B2z
      have hlv := run_loadVar_row (P := Tryd.prog) _ b2 40 40 _ (0, 0) _ B2s Tryd.underlying40 rfl (by kernel_rfl)
      have RZ := Lib.hid (Rz.mv (Mv.setRow (S := (· = b2)) (Mv.refl (· = b2) _) (fun _ => rfl) #[.int .i64 2, .string ⟨#[]⟩, .string ⟨#[]⟩, .slice none 0 0, .int .i64 0, .int .i64 k, .int .i64 0]) (show ¬ rb = b2 from Ne.symm hn2))
      have MZ := Lib.hid (Mv.setRow Mz (b := b2) (fun h => absurd h (by omega)) #[.int .i64 2, .string ⟨#[]⟩, .string ⟨#[]⟩, .slice none 0 0, .int .i64 0, .int .i64 k, .int .i64 0])
      clear B4z B2s Rz Mz
      go_wp2_with (refine wpList_storeRow rfl rfl rfl rfl B2z sizeTok rfl (tkOne _ _ _ _ _ _ _ rfl rfl rfl rfl rfl rfl rfl) ?_)
      clear d0 d1 d2 d3 d4 d5 d6 B2z
      refine bodyPost_ret (v := .tuple #[.agg #[.int .i64 2, .string ⟨#[]⟩, .string ⟨#[]⟩, .slice none 0 0, .int .i64 0, .int .i64 k, .int .i64 0], .bool false]) (by simp [results, Tryd.results47, asAddr, hlv]) rfl ?_
      rw [HN.out]
      exact ⟨2, [], [], _, none, 0, 0, k, 0, _, rfl, rfl, MZ.out, RZ.out⟩
    | true =>
      rw [hlt] at HM HTL
      clear hlt
      go_wp2_with (go_at_call 59; refine HM.out.mono ?_)
      rintro e w3 ⟨rfl, x3⟩
      have B4b := Lib.hid (x3.block B4a)
      have B2b := Lib.hid (x3.block B2a)
      have M3 := Lib.hid (M2.ext x3)
      have HNM := Lib.hid (name_any rb s r1 w3 HS.out (R2.ext x3))
      clear x3 B4a B2a R2 M2
      go_wp2_with (go_at_call 63; refine HNM.out.mono ?_)
      rintro e w4 ⟨rfl, m4, R4⟩
      obtain ⟨nm, hnm⟩ : ∃ nm, (r1.takeWhile alnumB).map smallC = nm := ⟨_, rfl⟩
      rw [hnm]
      have HNMM := Lib.hid hnm
      have hb4 := m4.block B4b.out hn4
      have f4 := freeOf hb4 1
      have c4 := cellOf hb4 (i := 1) rfl
      have c40 := cellOf hb4 (i := 0) rfl
      have B4c := heap_setCell_same (i := 1) hb4 (.string (bs nm))
      have h4m := Mv.setCell (S := (· = b4)) (p := ⟨b4, 1, none⟩) (Mv.refl (· = b4) w4) (fun _ => rfl) (.string (bs nm))
      have B2c := h4m.block (m4.block B2b.out hn2) (show ¬ b2 = b4 from hn24)
      have R5 := R4.mv h4m (show ¬ rb = b4 from Ne.symm hn4)
      have M5 := Mv.setCell (p := ⟨b4, 1, none⟩) (M3.out.trans m4) (fun h => absurd h (by show ¬ b4 < w.heap.size; omega)) (.string (bs nm))
      clear m4 R4 hb4 h4m hnm
      go_upto_region 8 with fail
      obtain ⟨w5, hw5⟩ : ∃ w' : World, w' = w4.setCell ⟨b4, 1, none⟩ (.string (bs nm)) := ⟨_, rfl⟩
      rw [← hw5] at B4c B2c R5 M5 ⊢
      clear hw5 f4 c4 c40
      have c40 := cellOf B4c (i := 0) (v := .int .i64 2) rfl
      obtain ⟨r2, hr2⟩ : ∃ r2, r1.dropWhile alnumB = r2 := ⟨_, rfl⟩
      rw [hr2] at R5
      have HR2 := Lib.hid hr2
      clear hr2
      have HPT := Lib.hid (parts_any rb s r2 w5 HS6.out R5)
      have HRL := Lib.hid (show r2.length ≤ s.size by obtain ⟨k9, q1, _, _⟩ := R5; omega)
      cases hpx : partsL r2 with
      | none =>
        rw [hpx] at HPT
        have HN : Hid (o = none) := Lib.hid (by
          have h : openL s.size (c :: q) = o := by simpa using HTL.out
          rw [← h]
          unfold openL
          rw [HR1.out, HR2.out, hpx]
          rfl)
        clear hpx
        go_wp2_with (go_at_call 65; refine HPT.out.mono ?_)
        rintro e w6 ⟨e5, rfl, m6, R6⟩
        have hlw6 : LW w6 := HL.out _ (M5.trans m6)
        have HOWN := Lib.hid (fun W (x : Ext w6 W) => owned_any [] (.slice none 0 0) W ⟨rfl, none, 0, rfl, Nat.le_refl _, fun _ => ⟨rfl, rfl⟩, fun a h => by cases h⟩ (by decide) (fun p hp => by cases hp) (hlw6.ext x))
        clear hlw6
        have B4d := m6.block B4c hn4
        have B2d := m6.block B2c hn2
        have M6 := M5.trans m6
        have hws6 := M6.size
        obtain ⟨k7, g1, g2, g3⟩ := R6
        have HK7 := Lib.hid (show s.size - (e5).length = k7 by omega)
        have R6 : Rd rb s (e5) w6 := ⟨k7, g1, g2, g3⟩
        have c1 := cellOf g3 (i := 1) rfl
        have C1 := Lib.hid c1
        clear m6 g1 g2 B4c B2c R5 M5 c40 c1
        go_upto_region 14 with fail
        refine wp_region_E (S := fun w' => w'.cell? ⟨rb, 1, none⟩ = some (.int .i64 k7)) (n := 99) (by kernel_rfl) ?_
        have hS : w6.drew.cell? ⟨rb, 1, none⟩ = some (.int .i64 k7) := C1.out
        show wpE _ _ _ _ _ 99 13 (Array.replicate 13 false) _ _
        refine wpE_take (i := 0) (v := (.slice none 0 0)) (o := { dst := some 51, op := _, type := _, pos := _, after := _, guard := none }) rfl (by kernel_rfl) (by kernel_rfl) (by kernel_rfl) (by kernel_rfl) (fun _ _ _ h => h) (Or.inl ⟨by rfl, fun w' hSw => ?_⟩) hS ?_
        · (clear hS; go_simp)
        try simp only [Act.put, List.setIfInBounds_toArray, List.set_cons_zero, List.set_cons_succ]
        refine wpE_take (i := 2) (v := .int .i64 0) (o := { dst := some 53, op := _, type := _, pos := _, after := _, guard := none }) rfl (by kernel_rfl) (by kernel_rfl) (by kernel_rfl) (by kernel_rfl) (fun _ _ _ h => h) (Or.inl ⟨by rfl, fun w' hSw => ?_⟩) hS ?_
        · (clear hS; go_simp)
        try simp only [Act.put, List.setIfInBounds_toArray, List.set_cons_zero, List.set_cons_succ]
        refine wpE_take (i := 3) (v := .pointer (some ⟨rb, 0, none⟩)) (o := { dst := some 54, op := _, type := _, pos := _, after := _, guard := none }) rfl (by kernel_rfl) (by kernel_rfl) (by kernel_rfl) (by kernel_rfl) (fun _ _ _ h => h) (Or.inl ⟨by rfl, fun w' hSw => ?_⟩) hS ?_
        · (clear hS; go_simp)
        try simp only [Act.put, List.setIfInBounds_toArray, List.set_cons_zero, List.set_cons_succ]
        refine wpE_take (i := 4) (v := .pointer (some ⟨rb, 0, none⟩)) (o := { dst := some 55, op := _, type := _, pos := _, after := _, guard := none }) rfl (by kernel_rfl) (by kernel_rfl) (by kernel_rfl) (by kernel_rfl) (fun _ _ _ h => h) (Or.inl ⟨by rfl, fun w' hSw => ?_⟩) hS ?_
        · (clear hS; go_simp)
        try simp only [Act.put, List.setIfInBounds_toArray, List.set_cons_zero, List.set_cons_succ]
        refine wpE_take (i := 5) (v := .pointer (some ⟨rb, 1, none⟩)) (o := { dst := some 56, op := _, type := _, pos := _, after := _, guard := none }) rfl (by kernel_rfl) (by kernel_rfl) (by kernel_rfl) (by kernel_rfl) (fun _ _ _ h => h) (Or.inl ⟨by rfl, fun w' hSw => ?_⟩) hS ?_
        · (clear hS; go_simp)
        try simp only [Act.put, List.setIfInBounds_toArray, List.set_cons_zero, List.set_cons_succ]
        refine wpE_take (i := 6) (v := .int .i64 k7) (o := { dst := some 57, op := _, type := _, pos := _, after := _, guard := none }) rfl (by kernel_rfl) (by kernel_rfl) (by kernel_rfl) (by kernel_rfl) (fun _ _ _ h => h) (Or.inl ⟨by rfl, fun w' hSw => ?_⟩) hS ?_
        · (clear hS; go_simp)
        try simp only [Act.put, List.setIfInBounds_toArray, List.set_cons_zero, List.set_cons_succ]
        obtain ⟨wd, hwd⟩ : ∃ wd : World, wd = w6.drew := ⟨_, rfl⟩
        have xd : Ext w6 wd := by rw [hwd]; exact (Ext.refl w6).drew
        rw [← hwd] at hS ⊢
        clear hwd
        refine wpE_one (i := 1) (o := { dst := some 52, op := _, type := _, pos := _, after := _, guard := none }) (by kernel_rfl) rfl (fun K hK => ?_)
        go_simp
        go_at_call 66
        refine (HOWN.out wd xd).mono ?_
        rintro e w7 ⟨ov, rfl, x7, hov⟩
        have x67 := xd.trans x7
        have hS7 := x67.cell C1.out
        refine hK.out _ _ (.inr hS7) ?_
        clear hK K hS
        try simp only [Act.put, List.setIfInBounds_toArray, List.set_cons_zero, List.set_cons_succ]
        have BBw7 := x67.block B4d
        have B2w := x67.block B2d
        have mmw7 := Mv.ofExt (S := (· = b4)) (Ext.refl w7)
        have kkw7 := hS7
        have M7 := M6.ext x67
        have R7 := R6.ext x67
        have hb4d := (Array.getElem?_eq_some_iff.1 B4d).1
        have hb2d := (Array.getElem?_eq_some_iff.1 B2d).1
        have hov2 := RowP.imp hov (q := fun g => w6.heap.size ≤ g) (fun g _ hg => Nat.le_trans xd.size hg)
        obtain ⟨ova, ovc, rfl, _⟩ := hov2.rd.len_of
        clear x7 xd x67 B4d B2d M6 R6 hS7 C1
        have hS := kkw7
        refine wpE_take (i := 7) (v := .pointer (some ⟨b4, 3, none⟩)) (o := { dst := some 58, op := _, type := _, pos := _, after := _, guard := none }) rfl (by kernel_rfl) (by kernel_rfl) (by kernel_rfl) (by kernel_rfl) (fun _ _ _ h => h) (Or.inl ⟨by rfl, fun w' hSw => ?_⟩) hS ?_
        · (clear hS; go_simp)
        try simp only [Act.put, List.setIfInBounds_toArray, List.set_cons_zero, List.set_cons_succ]
        have f3 := freeOf BBw7 3
        have z3 := cellOf BBw7 (i := 3) rfl
        have BBw8 := heap_setCell_same (i := 3) BBw7 (.slice ova (ownedL ([])).length ovc)
        have mmw8 := Mv.setCell (S := (· = b4)) (p := ⟨b4, 3, none⟩) mmw7 (fun _ => rfl) (.slice ova (ownedL ([])).length ovc)
        have kkw8 := (Mv.setCell (S := (· = b4)) (p := ⟨b4, 3, none⟩) (Mv.refl (· = b4) w7) (fun _ => rfl) (.slice ova (ownedL ([])).length ovc)).cell kkw7 (show ¬ rb = b4 from Ne.symm hn4)
        refine wpE_one (i := 8) (o := { dst := none, op := _, type := _, pos := _, after := _, guard := none }) (by kernel_rfl) rfl (fun K hK => ?_)
        go_simp
        refine hK.out _ _ (.inr kkw8) ?_
        clear hK K
        obtain ⟨w8, hww8⟩ : ∃ w' : World, w' = w7.setCell ⟨b4, 3, none⟩ (.slice ova (ownedL ([])).length ovc) := ⟨_, rfl⟩
        rw [← hww8] at BBw8 mmw8 kkw8 ⊢
        clear hww8 f3 z3 BBw7 mmw7 kkw7
        clear hS
        have hS := kkw8
        refine wpE_take (i := 9) (v := .pointer (some ⟨b4, 4, none⟩)) (o := { dst := some 59, op := _, type := _, pos := _, after := _, guard := none }) rfl (by kernel_rfl) (by kernel_rfl) (by kernel_rfl) (by kernel_rfl) (fun _ _ _ h => h) (Or.inl ⟨by rfl, fun w' hSw => ?_⟩) hS ?_
        · (clear hS; go_simp)
        try simp only [Act.put, List.setIfInBounds_toArray, List.set_cons_zero, List.set_cons_succ]
        have f4 := freeOf BBw8 4
        have z4 := cellOf BBw8 (i := 4) rfl
        have BBw9 := heap_setCell_same (i := 4) BBw8 (.int .i64 0)
        have mmw9 := Mv.setCell (S := (· = b4)) (p := ⟨b4, 4, none⟩) mmw8 (fun _ => rfl) (.int .i64 0)
        have kkw9 := (Mv.setCell (S := (· = b4)) (p := ⟨b4, 4, none⟩) (Mv.refl (· = b4) w8) (fun _ => rfl) (.int .i64 0)).cell kkw8 (show ¬ rb = b4 from Ne.symm hn4)
        refine wpE_one (i := 10) (o := { dst := none, op := _, type := _, pos := _, after := _, guard := none }) (by kernel_rfl) rfl (fun K hK => ?_)
        go_simp
        refine hK.out _ _ (.inr kkw9) ?_
        clear hK K
        obtain ⟨w9, hww9⟩ : ∃ w' : World, w' = w8.setCell ⟨b4, 4, none⟩ (.int .i64 0) := ⟨_, rfl⟩
        rw [← hww9] at BBw9 mmw9 kkw9 ⊢
        clear hww9 f4 z4 BBw8 mmw8 kkw8
        clear hS
        have hS := kkw9
        refine wpE_take (i := 11) (v := .pointer (some ⟨b4, 6, none⟩)) (o := { dst := some 60, op := _, type := _, pos := _, after := _, guard := none }) rfl (by kernel_rfl) (by kernel_rfl) (by kernel_rfl) (by kernel_rfl) (fun _ _ _ h => h) (Or.inl ⟨by rfl, fun w' hSw => ?_⟩) hS ?_
        · (clear hS; go_simp)
        try simp only [Act.put, List.setIfInBounds_toArray, List.set_cons_zero, List.set_cons_succ]
        have f6 := freeOf BBw9 6
        have z6 := cellOf BBw9 (i := 6) rfl
        have BBw10 := heap_setCell_same (i := 6) BBw9 (.int .i64 (k7 : Int))
        have mmw10 := Mv.setCell (S := (· = b4)) (p := ⟨b4, 6, none⟩) mmw9 (fun _ => rfl) (.int .i64 (k7 : Int))
        have kkw10 := (Mv.setCell (S := (· = b4)) (p := ⟨b4, 6, none⟩) (Mv.refl (· = b4) w9) (fun _ => rfl) (.int .i64 (k7 : Int))).cell kkw9 (show ¬ rb = b4 from Ne.symm hn4)
        refine wpE_one (i := 12) (o := { dst := none, op := _, type := _, pos := _, after := _, guard := none }) (by kernel_rfl) rfl (fun K hK => ?_)
        go_simp
        refine hK.out _ _ (.inr kkw10) ?_
        clear hK K
        obtain ⟨w10, hww10⟩ : ∃ w' : World, w' = w9.setCell ⟨b4, 6, none⟩ (.int .i64 (k7 : Int)) := ⟨_, rfl⟩
        rw [← hww10] at BBw10 mmw10 kkw10 ⊢
        clear hww10 f6 z6 BBw9 mmw9 kkw9
        clear hS
        refine wpE_done (by kernel_rfl) ?_
        have B4z := BBw10
        have B2z := mmw10.block B2w (show ¬ b2 = b4 from hn24)
        have Rz := R7.mv mmw10 (show ¬ rb = b4 from Ne.symm hn4)
        have Mz := Mv.over M7 mmw10 (fun x hx hb => by
          have hb' : x = b4 := hb
          omega)
        have d0 := cellOf B4z (i := 0) (v := .int .i64 2) rfl
        have d1 := cellOf B4z (i := 1) (v := .string (bs nm)) rfl
        have d2 := cellOf B4z (i := 2) (v := .string ⟨#[]⟩) rfl
        have d3 := cellOf B4z (i := 3) (v := .slice ova (ownedL ([])).length ovc) rfl
        have d4 := cellOf B4z (i := 4) (v := .int .i64 0) rfl
        have d5 := cellOf B4z (i := 5) (v := .int .i64 k) rfl
        have d6 := cellOf B4z (i := 6) (v := .int .i64 (k7 : Int)) rfl
        have B2s := heap_setRow_same (vs := #[.int .i64 2, .string (bs nm), .string ⟨#[]⟩, .slice ova (ownedL ([])).length ovc, .int .i64 0, .int .i64 k, .int .i64 (k7 : Int)]) B2z
        have hlv := run_loadVar_row (P := Tryd.prog) _ b2 40 40 _ (0, 0) _ B2s Tryd.underlying40 rfl (by kernel_rfl)
        have RZ := Lib.hid (Rz.mv (Mv.setRow (S := (· = b2)) (Mv.refl (· = b2) _) (fun _ => rfl) #[.int .i64 2, .string (bs nm), .string ⟨#[]⟩, .slice ova (ownedL ([])).length ovc, .int .i64 0, .int .i64 k, .int .i64 (k7 : Int)]) (show ¬ rb = b2 from Ne.symm hn2))
        have MZ := Lib.hid (Mv.setRow Mz (b := b2) (fun h => absurd h (by omega)) #[.int .i64 2, .string (bs nm), .string ⟨#[]⟩, .slice ova (ownedL ([])).length ovc, .int .i64 0, .int .i64 k, .int .i64 (k7 : Int)])
        have OVZ := Lib.hid ((RowP.imp ((hov2.mv mmw10 (fun g hg => by have hg' : w6.heap.size ≤ g := hg; show ¬ g = b4; omega)).mv (Mv.setRow (S := (· = b2)) (Mv.refl (· = b2) _) (fun _ => rfl) #[.int .i64 2, .string (bs nm), .string ⟨#[]⟩, .slice ova (ownedL ([])).length ovc, .int .i64 0, .int .i64 k, .int .i64 (k7 : Int)]) (fun g hg => by have hg' : w6.heap.size ≤ g := hg; show ¬ g = b2; omega)) (q := fun g => w.heap.size ≤ g) (fun g _ hg => by have hg' : w6.heap.size ≤ g := hg; omega)))
        clear B4z B2s Rz Mz
        go_wp2_with (refine wpList_storeRow rfl rfl rfl rfl B2z sizeTok rfl (tkOne _ _ _ _ _ _ _ rfl rfl rfl rfl rfl rfl rfl) ?_)
        clear d0 d1 d2 d3 d4 d5 d6 B2z
        refine bodyPost_ret (v := .tuple #[.agg #[.int .i64 2, .string (bs nm), .string ⟨#[]⟩, .slice ova (ownedL ([])).length ovc, .int .i64 0, .int .i64 k, .int .i64 (k7 : Int)], .bool false]) (by simp [results, Tryd.results47, asAddr, hlv]) rfl ?_
        rw [HN.out]
        obtain ⟨oa, oc, eo, _⟩ := OVZ.out.rd.len_of
        exact ⟨2, nm, [], _, oa, oc, 0, k, _, _, rfl, eo, MZ.out, RZ.out⟩
      | some x =>
        obtain ⟨l, self, e5⟩ := x
        have hok := partsL_ok 1000000 r2 _ (by have h8 := HRL.out; have := HS6.out; omega) hpx
        have HOK := Lib.hid hok
        rw [hpx] at HPT
        have HN : Hid (o = some (⟨2, nm, [], ownedL l, self, k, s.size - e5.length⟩, e5)) := Lib.hid (by
          have h : openL s.size (c :: q) = o := by simpa using HTL.out
          rw [← h]
          unfold openL
          rw [HR1.out, HR2.out, hpx]
          unfold tagN
          rw [HR1.out, HNMM.out]
          have h8 := HQ.out.2.2
          rw [show s.size - (c :: q).length = k by omega]
          rfl)
        clear hpx hok
        go_wp2_with (go_at_call 65; refine HPT.out.mono ?_)
        rintro e w6 ⟨lv, rfl, m6, R6, hrow6⟩
        obtain ⟨zs, hzs⟩ : ∃ z : Int, (if self then (1 : Int) else 0) = z := ⟨_, rfl⟩
        rw [hzs]
        have HZS := Lib.hid hzs
        have hlw6 : LW w6 := HL.out _ (M5.trans m6)
        have HOWN := Lib.hid (fun W (x : Ext w6 W) => owned_any l lv W (hrow6.rd.ext x) (by have h8 := HOK.out.2; have h9 := HRL.out; have := HS6.out; omega) (fun p hp => HOK.out.1 p hp) (hlw6.ext x))
        clear hzs hrow6 hlw6
        have B4d := m6.block B4c hn4
        have B2d := m6.block B2c hn2
        have M6 := M5.trans m6
        have hws6 := M6.size
        obtain ⟨k7, g1, g2, g3⟩ := R6
        have HK7 := Lib.hid (show s.size - (e5).length = k7 by omega)
        have R6 : Rd rb s (e5) w6 := ⟨k7, g1, g2, g3⟩
        have c1 := cellOf g3 (i := 1) rfl
        have C1 := Lib.hid c1
        clear m6 g1 g2 B4c B2c R5 M5 c40 c1
        go_upto_region 14 with fail
        refine wp_region_E (S := fun w' => w'.cell? ⟨rb, 1, none⟩ = some (.int .i64 k7)) (n := 99) (by kernel_rfl) ?_
        have hS : w6.drew.cell? ⟨rb, 1, none⟩ = some (.int .i64 k7) := C1.out
        show wpE _ _ _ _ _ 99 13 (Array.replicate 13 false) _ _
        refine wpE_take (i := 0) (v := lv) (o := { dst := some 51, op := _, type := _, pos := _, after := _, guard := none }) rfl (by kernel_rfl) (by kernel_rfl) (by kernel_rfl) (by kernel_rfl) (fun _ _ _ h => h) (Or.inl ⟨by rfl, fun w' hSw => ?_⟩) hS ?_
        · (clear hS; go_simp)
        try simp only [Act.put, List.setIfInBounds_toArray, List.set_cons_zero, List.set_cons_succ]
        refine wpE_take (i := 2) (v := .int .i64 zs) (o := { dst := some 53, op := _, type := _, pos := _, after := _, guard := none }) rfl (by kernel_rfl) (by kernel_rfl) (by kernel_rfl) (by kernel_rfl) (fun _ _ _ h => h) (Or.inl ⟨by rfl, fun w' hSw => ?_⟩) hS ?_
        · (clear hS; go_simp)
        try simp only [Act.put, List.setIfInBounds_toArray, List.set_cons_zero, List.set_cons_succ]
        refine wpE_take (i := 3) (v := .pointer (some ⟨rb, 0, none⟩)) (o := { dst := some 54, op := _, type := _, pos := _, after := _, guard := none }) rfl (by kernel_rfl) (by kernel_rfl) (by kernel_rfl) (by kernel_rfl) (fun _ _ _ h => h) (Or.inl ⟨by rfl, fun w' hSw => ?_⟩) hS ?_
        · (clear hS; go_simp)
        try simp only [Act.put, List.setIfInBounds_toArray, List.set_cons_zero, List.set_cons_succ]
        refine wpE_take (i := 4) (v := .pointer (some ⟨rb, 0, none⟩)) (o := { dst := some 55, op := _, type := _, pos := _, after := _, guard := none }) rfl (by kernel_rfl) (by kernel_rfl) (by kernel_rfl) (by kernel_rfl) (fun _ _ _ h => h) (Or.inl ⟨by rfl, fun w' hSw => ?_⟩) hS ?_
        · (clear hS; go_simp)
        try simp only [Act.put, List.setIfInBounds_toArray, List.set_cons_zero, List.set_cons_succ]
        refine wpE_take (i := 5) (v := .pointer (some ⟨rb, 1, none⟩)) (o := { dst := some 56, op := _, type := _, pos := _, after := _, guard := none }) rfl (by kernel_rfl) (by kernel_rfl) (by kernel_rfl) (by kernel_rfl) (fun _ _ _ h => h) (Or.inl ⟨by rfl, fun w' hSw => ?_⟩) hS ?_
        · (clear hS; go_simp)
        try simp only [Act.put, List.setIfInBounds_toArray, List.set_cons_zero, List.set_cons_succ]
        refine wpE_take (i := 6) (v := .int .i64 k7) (o := { dst := some 57, op := _, type := _, pos := _, after := _, guard := none }) rfl (by kernel_rfl) (by kernel_rfl) (by kernel_rfl) (by kernel_rfl) (fun _ _ _ h => h) (Or.inl ⟨by rfl, fun w' hSw => ?_⟩) hS ?_
        · (clear hS; go_simp)
        try simp only [Act.put, List.setIfInBounds_toArray, List.set_cons_zero, List.set_cons_succ]
        obtain ⟨wd, hwd⟩ : ∃ wd : World, wd = w6.drew := ⟨_, rfl⟩
        have xd : Ext w6 wd := by rw [hwd]; exact (Ext.refl w6).drew
        rw [← hwd] at hS ⊢
        clear hwd
        refine wpE_one (i := 1) (o := { dst := some 52, op := _, type := _, pos := _, after := _, guard := none }) (by kernel_rfl) rfl (fun K hK => ?_)
        go_simp
        go_at_call 66
        refine (HOWN.out wd xd).mono ?_
        rintro e w7 ⟨ov, rfl, x7, hov⟩
        have x67 := xd.trans x7
        have hS7 := x67.cell C1.out
        refine hK.out _ _ (.inr hS7) ?_
        clear hK K hS
        try simp only [Act.put, List.setIfInBounds_toArray, List.set_cons_zero, List.set_cons_succ]
        have BBw7 := x67.block B4d
        have B2w := x67.block B2d
        have mmw7 := Mv.ofExt (S := (· = b4)) (Ext.refl w7)
        have kkw7 := hS7
        have M7 := M6.ext x67
        have R7 := R6.ext x67
        have hb4d := (Array.getElem?_eq_some_iff.1 B4d).1
        have hb2d := (Array.getElem?_eq_some_iff.1 B2d).1
        have hov2 := RowP.imp hov (q := fun g => w6.heap.size ≤ g) (fun g _ hg => Nat.le_trans xd.size hg)
        obtain ⟨ova, ovc, rfl, _⟩ := hov2.rd.len_of
        clear x7 xd x67 B4d B2d M6 R6 hS7 C1
        have hS := kkw7
        refine wpE_take (i := 7) (v := .pointer (some ⟨b4, 3, none⟩)) (o := { dst := some 58, op := _, type := _, pos := _, after := _, guard := none }) rfl (by kernel_rfl) (by kernel_rfl) (by kernel_rfl) (by kernel_rfl) (fun _ _ _ h => h) (Or.inl ⟨by rfl, fun w' hSw => ?_⟩) hS ?_
        · (clear hS; go_simp)
        try simp only [Act.put, List.setIfInBounds_toArray, List.set_cons_zero, List.set_cons_succ]
        have f3 := freeOf BBw7 3
        have z3 := cellOf BBw7 (i := 3) rfl
        have BBw8 := heap_setCell_same (i := 3) BBw7 (.slice ova (ownedL (l)).length ovc)
        have mmw8 := Mv.setCell (S := (· = b4)) (p := ⟨b4, 3, none⟩) mmw7 (fun _ => rfl) (.slice ova (ownedL (l)).length ovc)
        have kkw8 := (Mv.setCell (S := (· = b4)) (p := ⟨b4, 3, none⟩) (Mv.refl (· = b4) w7) (fun _ => rfl) (.slice ova (ownedL (l)).length ovc)).cell kkw7 (show ¬ rb = b4 from Ne.symm hn4)
        refine wpE_one (i := 8) (o := { dst := none, op := _, type := _, pos := _, after := _, guard := none }) (by kernel_rfl) rfl (fun K hK => ?_)
        go_simp
        refine hK.out _ _ (.inr kkw8) ?_
        clear hK K
        obtain ⟨w8, hww8⟩ : ∃ w' : World, w' = w7.setCell ⟨b4, 3, none⟩ (.slice ova (ownedL (l)).length ovc) := ⟨_, rfl⟩
        rw [← hww8] at BBw8 mmw8 kkw8 ⊢
        clear hww8 f3 z3 BBw7 mmw7 kkw7
        clear hS
        have hS := kkw8
        refine wpE_take (i := 9) (v := .pointer (some ⟨b4, 4, none⟩)) (o := { dst := some 59, op := _, type := _, pos := _, after := _, guard := none }) rfl (by kernel_rfl) (by kernel_rfl) (by kernel_rfl) (by kernel_rfl) (fun _ _ _ h => h) (Or.inl ⟨by rfl, fun w' hSw => ?_⟩) hS ?_
        · (clear hS; go_simp)
        try simp only [Act.put, List.setIfInBounds_toArray, List.set_cons_zero, List.set_cons_succ]
        have f4 := freeOf BBw8 4
        have z4 := cellOf BBw8 (i := 4) rfl
        have BBw9 := heap_setCell_same (i := 4) BBw8 (.int .i64 zs)
        have mmw9 := Mv.setCell (S := (· = b4)) (p := ⟨b4, 4, none⟩) mmw8 (fun _ => rfl) (.int .i64 zs)
        have kkw9 := (Mv.setCell (S := (· = b4)) (p := ⟨b4, 4, none⟩) (Mv.refl (· = b4) w8) (fun _ => rfl) (.int .i64 zs)).cell kkw8 (show ¬ rb = b4 from Ne.symm hn4)
        refine wpE_one (i := 10) (o := { dst := none, op := _, type := _, pos := _, after := _, guard := none }) (by kernel_rfl) rfl (fun K hK => ?_)
        go_simp
        refine hK.out _ _ (.inr kkw9) ?_
        clear hK K
        obtain ⟨w9, hww9⟩ : ∃ w' : World, w' = w8.setCell ⟨b4, 4, none⟩ (.int .i64 zs) := ⟨_, rfl⟩
        rw [← hww9] at BBw9 mmw9 kkw9 ⊢
        clear hww9 f4 z4 BBw8 mmw8 kkw8
        clear hS
        have hS := kkw9
        refine wpE_take (i := 11) (v := .pointer (some ⟨b4, 6, none⟩)) (o := { dst := some 60, op := _, type := _, pos := _, after := _, guard := none }) rfl (by kernel_rfl) (by kernel_rfl) (by kernel_rfl) (by kernel_rfl) (fun _ _ _ h => h) (Or.inl ⟨by rfl, fun w' hSw => ?_⟩) hS ?_
        · (clear hS; go_simp)
        try simp only [Act.put, List.setIfInBounds_toArray, List.set_cons_zero, List.set_cons_succ]
        have f6 := freeOf BBw9 6
        have z6 := cellOf BBw9 (i := 6) rfl
        have BBw10 := heap_setCell_same (i := 6) BBw9 (.int .i64 (k7 : Int))
        have mmw10 := Mv.setCell (S := (· = b4)) (p := ⟨b4, 6, none⟩) mmw9 (fun _ => rfl) (.int .i64 (k7 : Int))
        have kkw10 := (Mv.setCell (S := (· = b4)) (p := ⟨b4, 6, none⟩) (Mv.refl (· = b4) w9) (fun _ => rfl) (.int .i64 (k7 : Int))).cell kkw9 (show ¬ rb = b4 from Ne.symm hn4)
        refine wpE_one (i := 12) (o := { dst := none, op := _, type := _, pos := _, after := _, guard := none }) (by kernel_rfl) rfl (fun K hK => ?_)
        go_simp
        refine hK.out _ _ (.inr kkw10) ?_
        clear hK K
        obtain ⟨w10, hww10⟩ : ∃ w' : World, w' = w9.setCell ⟨b4, 6, none⟩ (.int .i64 (k7 : Int)) := ⟨_, rfl⟩
        rw [← hww10] at BBw10 mmw10 kkw10 ⊢
        clear hww10 f6 z6 BBw9 mmw9 kkw9
        clear hS
        refine wpE_done (by kernel_rfl) ?_
        have B4z := BBw10
        have B2z := mmw10.block B2w (show ¬ b2 = b4 from hn24)
        have Rz := R7.mv mmw10 (show ¬ rb = b4 from Ne.symm hn4)
        have Mz := Mv.over M7 mmw10 (fun x hx hb => by
          have hb' : x = b4 := hb
          omega)
        have d0 := cellOf B4z (i := 0) (v := .int .i64 2) rfl
        have d1 := cellOf B4z (i := 1) (v := .string (bs nm)) rfl
        have d2 := cellOf B4z (i := 2) (v := .string ⟨#[]⟩) rfl
        have d3 := cellOf B4z (i := 3) (v := .slice ova (ownedL (l)).length ovc) rfl
        have d4 := cellOf B4z (i := 4) (v := .int .i64 zs) rfl
        have d5 := cellOf B4z (i := 5) (v := .int .i64 k) rfl
        have d6 := cellOf B4z (i := 6) (v := .int .i64 (k7 : Int)) rfl
        have B2s := heap_setRow_same (vs := #[.int .i64 2, .string (bs nm), .string ⟨#[]⟩, .slice ova (ownedL (l)).length ovc, .int .i64 zs, .int .i64 k, .int .i64 (k7 : Int)]) B2z
        have hlv := run_loadVar_row (P := Tryd.prog) _ b2 40 40 _ (0, 0) _ B2s Tryd.underlying40 rfl (by kernel_rfl)
        have RZ := Lib.hid (Rz.mv (Mv.setRow (S := (· = b2)) (Mv.refl (· = b2) _) (fun _ => rfl) #[.int .i64 2, .string (bs nm), .string ⟨#[]⟩, .slice ova (ownedL (l)).length ovc, .int .i64 zs, .int .i64 k, .int .i64 (k7 : Int)]) (show ¬ rb = b2 from Ne.symm hn2))
        have MZ := Lib.hid (Mv.setRow Mz (b := b2) (fun h => absurd h (by omega)) #[.int .i64 2, .string (bs nm), .string ⟨#[]⟩, .slice ova (ownedL (l)).length ovc, .int .i64 zs, .int .i64 k, .int .i64 (k7 : Int)])
        have OVZ := Lib.hid ((RowP.imp ((hov2.mv mmw10 (fun g hg => by have hg' : w6.heap.size ≤ g := hg; show ¬ g = b4; omega)).mv (Mv.setRow (S := (· = b2)) (Mv.refl (· = b2) _) (fun _ => rfl) #[.int .i64 2, .string (bs nm), .string ⟨#[]⟩, .slice ova (ownedL (l)).length ovc, .int .i64 zs, .int .i64 k, .int .i64 (k7 : Int)]) (fun g hg => by have hg' : w6.heap.size ≤ g := hg; show ¬ g = b2; omega)) (q := fun g => w.heap.size ≤ g) (fun g _ hg => by have hg' : w6.heap.size ≤ g := hg; omega)))
        clear B4z B2s Rz Mz
        go_wp2_with (refine wpList_storeRow rfl rfl rfl rfl B2z sizeTok rfl (tkOne _ _ _ _ _ _ _ rfl rfl rfl rfl rfl rfl rfl) ?_)
        clear d0 d1 d2 d3 d4 d5 d6 B2z
        refine bodyPost_ret (v := .tuple #[.agg #[.int .i64 2, .string (bs nm), .string ⟨#[]⟩, .slice ova (ownedL (l)).length ovc, .int .i64 zs, .int .i64 k, .int .i64 (k7 : Int)], .bool true]) (by simp [results, Tryd.results47, asAddr, hlv]) rfl ?_
        rw [HN.out, HK7.out]
        exact ⟨_, by rw [HZS.out]; rfl, MZ.out, RZ.out, OVZ.out⟩
end Go.Proofs.YtdafdoodegpdhaaDoor
