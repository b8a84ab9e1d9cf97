/- lex's reader: parts. Conditions: at most 10^6 bytes. -/
import Derived.Test.YtdafdoodegpdhaaDoorLS
namespace Go.Proofs.YtdafdoodegpdhaaDoor
open Go Go.RowKit Go.BigFrame
set_option linter.unusedVariables false
set_option linter.unusedSimpArgs false

theorem Mv.grown {S : Nat → Prop} {a w w' : World} {row : Option Nat} (h : Mv S a w) (hg : w.grownBy w' row) (hr : ∀ k, row = some k → k < a.heap.size → S k) : Mv S a w' :=
  ⟨hg.os.trans h.os, hg.tape.trans h.tape, hg.output.trans h.output, Nat.le_trans h.size hg.size, fun x hx hn => (hg.block x (Nat.lt_of_lt_of_le hx h.size) fun e => hn (hr x e.symm hx)).trans (h.rest x hx hn)⟩
theorem RowP.mv {S : Nat → Prop} {w w' : World} {p : Nat → Prop} {e size : Nat} {v : Value} {n : Nat} {xs : List Value} (h : RowP w p e size v n xs) (k : Mv S w w') (hp : ∀ g, p g → ¬ S g) : RowP w' p e size v n xs := by
  refine ⟨h.1, ?_⟩
  rcases h.2 with h0 | ⟨g, cap, cur, h1, h2, h3, h4⟩
  · exact .inl h0
  · exact .inr ⟨g, cap, cur, h1, h2, k.block h3 (hp g h2), h4⟩
theorem Rd.mv {S : Nat → Prop} {rb : Nat} {s : ByteArray} {r : List UInt8} {w w' : World} (h : Rd rb s r w) (k : Mv S w w') (hn : ¬ S rb) : Rd rb s r w' := by
  obtain ⟨j, h1, h2, h3⟩ := h
  exact ⟨j, h1, h2, k.block h3 hn⟩
theorem RowP.full {w : World} {p : Nat → Prop} {e size : Nat} {v : Value} {n : Nat} {xs : List Value} (h : RowP w p e size v n xs) : RowP w (fun g => p g ∧ g < w.heap.size) e size v n xs := by
  refine ⟨h.1, ?_⟩
  rcases h.2 with h0 | ⟨g, cap, cur, h1, h2, h3, h4⟩
  · exact .inl h0
  · exact .inr ⟨g, cap, cur, h1, ⟨h2, (Array.getElem?_eq_some_iff.1 h3).1⟩, h3, h4⟩
def pb (p : Part) : AttrB := (bs p.1, bs p.2)
theorem infoPart : (Tryd.prog.info? 110).map (fun i => (i.zero, i.size, i.bytes)) = some (some (.agg #[.string ByteArray.empty, .string ByteArray.empty]), 2, 32) := by kernel_rfl
def RParts (rb : Nat) (s : ByteArray) (o : Option (List Part × Bool × List UInt8)) (w : World) (e : Ending) (w' : World) : Prop :=
  match o with
  | some (l, self, t) => ∃ v, e = .returned (.tuple #[v, .int .i64 (if self then 1 else 0), .bool true]) ∧ Mv (· = rb) w w' ∧ Rd rb s t w' ∧ RowP w' (fun g => w.heap.size ≤ g) 110 2 v l.length (attrCells (l.map pb))
  | none => ∃ r', e = .returned (.tuple #[.slice none 0 0, .int .i64 0, .bool false]) ∧ Mv (· = rb) w w' ∧ Rd rb s r' w'
theorem attrCells_snoc (l : List AttrB) (a : AttrB) : attrCells (l ++ [a]) = attrCells l ++ [.string a.1, .string a.2] := by
  induction l with
  | nil => rfl
  | cons b l ih => obtain ⟨x, y⟩ := b; simp [attrCells, ih]
theorem suffix_gap (g : List UInt8) : Lib.hasSuffix g [47] = (g.getLast? == some 47) := by
  unfold Lib.hasSuffix
  rw [Bool.eq_iff_iff, List.isSuffixOf_iff_suffix, beq_iff_eq]
  constructor
  · rintro ⟨p, rfl⟩; simp
  · intro h
    obtain ⟨ne, e⟩ := List.getLast?_eq_some_iff.1 h
    exact ⟨ne, e.symm⟩
theorem part_none {c : UInt8} {r2 r5 : List UInt8} (h : (r2.dropWhile nmB).dropWhile blankB = 61 :: r5) : partL c r2 = (valueL r5).map fun ve => ((c :: r2.takeWhile nmB, ve.1), ve.2) := by
  unfold partL
  dsimp only
  rw [h]
  rfl
theorem part_bare {c : UInt8} {r2 : List UInt8} (h : headP (· == 61) ((r2.dropWhile nmB).dropWhile blankB) = false) : partL c r2 = some ((c :: r2.takeWhile nmB, []), r2.dropWhile nmB) := by
  unfold partL
  dsimp only
  split
  · rename_i r5 h5
    rw [h5] at h
    exact absurd h (by simp [headP])
  · rfl
set_option maxHeartbeats 4000000 in
set_option maxRecDepth 100000 in
theorem parts_any (rb : Nat) (s : ByteArray) (r : List UInt8) (w : World) (hs : s.size ≤ 1000000) (hr : Rd rb s r w) :
    Calls Tryd.prog 65 #[.pointer (some ⟨rb, 0, none⟩)] w (RParts rb s (partsL r) w) := by
  have HS := Lib.hid (show s.size ≤ 100000000000 by omega)
  have HS6 := Lib.hid hs
  have hrb := hr.lt
  have HR0 := Lib.hid hr
  obtain ⟨o, ho⟩ : ∃ o, partsL r = o := ⟨_, rfl⟩
  rw [ho]
  have HO := Lib.hid ho
  clear hs hr ho
  go_enter Tryd.func65, Tryd.ntmps65
  go_wp2_with fail
  go_loopg [2, 3, 5, 6, 7, 8, 9, 10] (s.size + 1) (fun gf lv sv _ _ _ _ _ _ wr => ∃ (acc : List Part) (r' : List UInt8), sv = .int .i64 0 ∧ Rd rb s r' wr ∧ Mv (· = rb) w wr ∧ RowP wr (fun g => w.heap.size ≤ g) 110 2 lv acc.length (attrCells (acc.map pb)) ∧ r'.length < gf ∧ acc.length + r'.length ≤ s.size ∧ (partsL r').map (fun x => (acc ++ x.1, x.2)) = o)
  case atStart =>
    obtain ⟨k, h1, _, _⟩ := HR0.out
    exact ⟨[], r, rfl, HR0.out, Mv.refl _ _, ⟨rfl, .inl ⟨rfl, none, rfl⟩⟩, by omega, by simp; omega, by rw [HO.out]; cases o <;> rfl⟩
  case round =>
    obtain ⟨acc, r', rfl, hr', hm, hrow, hgf, hal, hres⟩ := hrel
    obtain ⟨la, lcap, rfl, _⟩ := hrow.rd.len_of
    have hm0 := hm
    have HM := Lib.hid hm
    have HROW := Lib.hid hrow
    have HRES := Lib.hid hres
    have HRUN := Lib.hid (run_any rb s r' gapB _ wr HS.out hr' (isGap rb wr))
    have HGF := Lib.hid hgf
    have HAL := Lib.hid hal
    have hwr := hm.size
    clear hr' hm hrow hres hgf hal hm0
    go_wp2_with (go_at_call 44; refine HRUN.out.mono ?_)
    rintro e w1 ⟨rfl, m1, r1⟩
    have M1 := Lib.hid m1
    have R1 := Lib.hid r1
    have HONE := Lib.hid (one_any rb s (r'.dropWhile gapB) 62 62 rfl w1 HS.out r1)
    have hw1 := m1.size
    clear m1 r1
    have hPE := partsL_eq r'
    have hdl := (suf_drop gapB r').length_le
    cases hd : r'.dropWhile gapB with
    | nil =>
      have hN : o = none := by rw [← HRES.out, hPE, hd]; rfl
      rw [hd] at HONE R1
      subst hN
      clear hPE hd hdl
      go_wp2_with (go_at_call 61; refine HONE.out.mono ?_)
      rintro e w2 ⟨rfl, m2, r2⟩
      have R2 := Lib.hid r2
      have M2 := Lib.hid m2
      obtain ⟨k2, q1, q2, q3⟩ := r2
      have c0 : ∀ u : ExtOf w2, u.val.cell? ⟨rb, 0, none⟩ = some (.string s) := fun u => u.ext.cell (cellOf q3 rfl)
      have c1 : ∀ u : ExtOf w2, u.val.cell? ⟨rb, 1, none⟩ = some (.int .i64 k2) := fun u => u.ext.cell (cellOf q3 rfl)
      have hk2 : k2 = s.size := by simpa [oneL, headP] using q1
      have heq : ((k2 : Int) == (s.size : Int)) = true := by rw [hk2]; exact beq_self_eq_true _
      have heqn : (k2 == s.size) = true := by rw [hk2]; exact beq_self_eq_true _
      clear q1 q2 q3 m2 hk2
      go_upto_region 6 with fail
      refine wp_region_ext (by kernel_rfl) (by kernel_rfl) ?_
      repeat (go_big_quiet_step (fail))
      refine wpQuiet_nil ?_
      rintro _ ⟨u, rfl⟩
      go_wp2_with fail
      go_ret3
      exact ⟨_, rfl, ((HM.out.trans M1.out).trans M2.out).ext u.ext, R2.out.ext u.ext⟩
    | cons c r2 =>
      rw [hd] at HONE R1 hPE hdl
      by_cases hc : c = 62
      · subst hc
        have hP : partsL r' = some ([], (r'.takeWhile gapB).getLast? == some 47, r2) := by rw [hPE]; exact if_pos rfl
        have hON : o = some (acc, (r'.takeWhile gapB).getLast? == some 47, r2) := by rw [← HRES.out, hP]; simp
        have hone : headP (· == (62 : UInt8)) (62 :: r2) = true := rfl
        have hol : oneL 62 (62 :: r2) = r2 := rfl
        rw [hone, hol] at HONE
        have hz : (bs (r'.takeWhile gapB)).size ≤ 9223372036854775807 := by
          obtain ⟨k, q1, _, _⟩ := R1.out
          have h3 := congrArg List.length (take_drop_while gapB r')
          rw [List.length_append] at h3
          rw [bs_size]
          have := HAL.out
          have := HS6.out
          omega
        have HSF := Lib.hid (fun W => (bs_data (r'.takeWhile gapB) ▸ HasSuffix_any (bs (r'.takeWhile gapB)) ⟨#[47]⟩ W hz : Calls Tryd.prog 86 #[.string (bs (r'.takeWhile gapB)), .string ⟨#[47]⟩] W (RVal (.bool (Lib.hasSuffix (r'.takeWhile gapB) [47])) W)))
        rw [suffix_gap] at HSF
        obtain ⟨sf, hsf⟩ : ∃ b, ((r'.takeWhile gapB).getLast? == some 47) = b := ⟨_, rfl⟩
        rw [hsf] at HSF hON
        subst hON
        obtain ⟨GB, hGB⟩ : ∃ g, bs (r'.takeWhile gapB) = g := ⟨_, rfl⟩
        rw [hGB] at HSF ⊢
        clear hPE hP hd hdl hone hol hz hsf hGB
        go_wp2_with (go_at_call 61; refine HONE.out.mono ?_)
        rintro e w2 ⟨rfl, m2, r2'⟩
        have R2 := Lib.hid r2'
        have M2 := Lib.hid m2
        clear r2' m2
        have HROW2 := Lib.hid ((HROW.out.mv M1.out (by intro g hg; show ¬ g = rb; omega)).mv M2.out (by intro g hg; show ¬ g = rb; omega))
        cases sf with
        | true =>
          go_wp2_with (go_at_call 86; refine (HSF.out _).mono ?_)
          rintro e w3 ⟨rfl, x3⟩
          have X3 := Lib.hid x3
          clear x3
          go_wp2_with fail
          go_ret3
          exact ⟨_, rfl, ((HM.out.trans M1.out).trans M2.out).ext X3.out, R2.out.ext X3.out, HROW2.out.ext X3.out⟩
        | false =>
          go_wp2_with (go_at_call 86; refine (HSF.out _).mono ?_)
          rintro e w3 ⟨rfl, x3⟩
          have X3 := Lib.hid x3
          clear x3
          go_wp2_with fail
          go_ret3
          exact ⟨_, rfl, ((HM.out.trans M1.out).trans M2.out).ext X3.out, R2.out.ext X3.out, HROW2.out.ext X3.out⟩
      · have hP : partsL r' = match partL c r2 with | none => none | some (p, e) => (partsL e).map fun x => (p :: x.1, x.2) := by rw [hPE]; exact if_neg hc
        have hone : headP (· == (62 : UInt8)) (c :: r2) = false := by show (c == 62) = false; rw [beq_eq_false_iff_ne]; exact hc
        have hol : oneL 62 (c :: r2) = c :: r2 := by unfold oneL; rw [hone]; rfl
        rw [hone, hol] at HONE
        have HP := Lib.hid hP
        have HDL := Lib.hid hdl
        clear hPE hd hone hol hc hP
        go_wp2_with (go_at_call 61; refine HONE.out.mono ?_)
        rintro e w2 ⟨rfl, m2, r2'⟩
        have M2 := Lib.hid m2
        have hw2 := m2.size
        obtain ⟨k2, q1, q2, q3⟩ := r2'
        obtain ⟨hk2, hck, q4, q5⟩ := Rd.head q1 q2
        have c0 : ∀ u : ExtOf w2, u.val.cell? ⟨rb, 0, none⟩ = some (.string s) := fun u => u.ext.cell (cellOf q3 rfl)
        have c1 : ∀ u : ExtOf w2, u.val.cell? ⟨rb, 1, none⟩ = some (.int .i64 k2) := fun u => u.ext.cell (cellOf q3 rfl)
        have heq : ((k2 : Int) == (s.size : Int)) = false := by rw [beq_eq_false_iff_ne]; omega
        have heqn : (k2 == s.size) = false := by rw [beq_eq_false_iff_ne]; omega
        have HQ3 := Lib.hid q3
        have HQ := Lib.hid (And.intro q2 (And.intro q4 q5))
        clear q1 q2 q3 q4 q5 m2 hck
        go_upto_region 6 with fail
        refine wp_region_ext (by kernel_rfl) (by kernel_rfl) ?_
        repeat (go_big_quiet_step (fail))
        refine wpQuiet_nil ?_
        rintro _ ⟨u, rfl⟩
        have xu := u.ext
        obtain ⟨w3, hw3⟩ : ∃ w3, u.val = w3 := ⟨_, rfl⟩
        rw [hw3] at xu ⊢
        have hb3 := xu.block HQ3.out
        have hw3s := xu.size
        have X3 := Lib.hid xu
        clear c0 c1 hw3 xu heq heqn
        clear u
        have c1 := cellOf hb3 (i := 1) rfl
        have f1 := freeOf hb3 1
        have hwk : IntKind.i64.wrap ((k2 : Int) + 1) = (k2 : Int) + 1 := IntWalk.i64_in _ (by have := HS6.out; omega)
        have R4 := Lib.hid (Rd.move (k := k2 + 1) (r := r2) hb3 HQ.out.2.2 HQ.out.2.1)
        have M4 := Lib.hid (Mv.setRb (rb := rb) (o := 1) (Mv.refl (· = rb) w3) (.int .i64 ((k2 : Int) + 1)))
        have HRUN2 : Hid (Calls Tryd.prog 44 #[.pointer (some ⟨rb, 0, none⟩), .func (.func 87) #[] #[]] (w3.setCell ⟨rb, 1, none⟩ (.int .i64 ((k2 : Int) + 1))) (RRun rb s nmB r2 (w3.setCell ⟨rb, 1, none⟩ (.int .i64 ((k2 : Int) + 1))))) := Lib.hid (run_any rb s r2 nmB _ _ HS.out R4.out (isNm rb _))
        clear hb3
        go_wp2_with (go_at_call 44; refine HRUN2.out.mono ?_)
        rintro e w5 ⟨rfl, m5, r5⟩
        have M5 := Lib.hid (((M2.out.ext X3.out).trans M4.out).trans m5)
        have hw5 := M5.out.size
        have R5 := Lib.hid r5
        obtain ⟨k5, q1, q2, q3⟩ := r5
        have hnmz : k5 = k2 + 1 + (r2.takeWhile nmB).length := by
          have h3 := congrArg List.length (take_drop_while nmB r2)
          rw [List.length_append] at h3
          have := HQ.out.2.2
          omega
        have hcut : s.extract k2 k5 = bs (c :: r2.takeWhile nmB) := by
          have h := bs_cut s.data.toList k2 k5
          rw [bs_list] at h
          rw [h, ← HQ.out.1, hnmz, show k2 + 1 + (r2.takeWhile nmB).length - k2 = (r2.takeWhile nmB).length + 1 by omega, List.take_succ_cons]
          conv => lhs; rw [← take_drop_while nmB r2]
          rw [List.take_left' (by rw [take_drop_while])]
        have HCUT := Lib.hid hcut
        have b1 : (0 : Int) ≤ (k2 : Int) := by omega
        have b2 : (k2 : Int) ≤ (k5 : Int) := by omega
        have b3 : (k5 : Int) ≤ (s.size : Int) := by omega
        have HB5 := Lib.hid q3
        have c0 := cellOf q3 (i := 0) rfl
        have c1 := cellOf q3 (i := 1) rfl
        have hrb5 : rb < w5.heap.size := by omega
        generalize hE : s.extract k2 k5 = E at HCUT hcut
        have HE := Lib.hid hE
        obtain ⟨nm, hnm⟩ : ∃ nm, c :: r2.takeWhile nmB = nm := ⟨_, rfl⟩
        rw [hnm] at HCUT
        have HNM := Lib.hid hnm
        have HK5 := Lib.hid (And.intro q1 q2)
        clear hcut q1 q2 q3 hnmz hE hnm m5
        go_upto_region 11 with fail
        go_region
        go_upto_region 12 with fail
        first | rw [HE.out, HCUT.out] | rw [HCUT.out]
        have hx6 := ((Ext.refl w5).alloc (.cells #[.string (bs nm), .string ⟨#[]⟩] 110)).drew
        have hb6 := heap_alloc_new w5 (.cells #[.string (bs nm), .string ⟨#[]⟩] 110)
        have hb6' : (w5.alloc (.cells #[.string (bs nm), .string ⟨#[]⟩] 110)).drew.heap[w5.heap.size]? = some (.cells #[.string (bs nm), .string ⟨#[]⟩] 110 (0, 0)) := hb6
        obtain ⟨w6, hw6⟩ : ∃ w6 : World, w6 = (w5.alloc (.cells #[.string (bs nm), .string ⟨#[]⟩] 110)).drew := ⟨_, rfl⟩
        rw [← hw6] at hx6 hb6' ⊢
        clear hw6 hb6 c0 c1
        have hrow5 := (((HROW.out.mv M1.out (by intro g hg; show ¬ g = rb; omega)).mv M5.out (by intro g hg; show ¬ g = rb; omega))).full
        obtain ⟨bx, hbx⟩ : ∃ bx, w5.heap.size = bx := ⟨_, rfl⟩
        rw [hbx] at hb6' hrow5 ⊢
        have hbxw : w.heap.size ≤ bx := by omega
        have HROW6 := Lib.hid (hrow5.ext hx6)
        have M6 := Lib.hid ((((HM.out.trans M1.out)).trans M5.out).ext hx6)
        have hb6 := hx6.block HB5.out
        have c1 := cellOf hb6 (i := 1) rfl
        have BX6 := Lib.hid hb6'
        have R6 := R5.out.ext hx6
        have HRUN3 := Lib.hid (run_any rb s (r2.dropWhile nmB) blankB _ w6 HS.out R6 (isBlank rb w6))
        have hbr : bx ≠ rb := by omega
        clear hb6 hb6' hx6 hrow5 hbx R6 hrb5
        go_wp2_with (go_at_call 44; refine HRUN3.out.mono ?_)
        rintro e w7 ⟨rfl, m7, r7⟩
        have M7 := Lib.hid m7
        have R7 := Lib.hid r7
        have HONE7 := Lib.hid (one_any rb s ((r2.dropWhile nmB).dropWhile blankB) 61 61 rfl w7 HS.out r7)
        have hd1 := (suf_drop nmB r2).length_le
        clear m7 r7 c1
        cases h61 : headP (· == 61) ((r2.dropWhile nmB).dropWhile blankB) with
        | false =>
          rw [h61] at HONE7
          have HPL : Hid (partL c r2 = some ((nm, []), r2.dropWhile nmB)) := Lib.hid (by rw [part_bare h61, HNM.out])
          clear h61
          go_wp2_with (go_at_call 61; refine HONE7.out.mono ?_)
          rintro e w8 ⟨rfl, m8, r8⟩
          have m78 := M7.out.trans m8
          obtain ⟨k8, _, _, q8⟩ := r8
          have f1 := freeOf q8 1
          have c1 := cellOf q8 (i := 1) rfl
          have hb8 := m78.block BX6.out hbr
          have hrow8 := HROW6.out.mv m78 (by intro g hg; show ¬ g = rb; omega)
          have h5 : k5 + (r2.dropWhile nmB).length = s.size ∧ r2.dropWhile nmB = s.data.toList.drop k5 := HK5.out
          have R9 := Lib.hid (Rd.move (k := k5) (r := r2.dropWhile nmB) q8 h5.1 h5.2)
          have M9 := Lib.hid (Mv.setRb (rb := rb) (o := 1) (M6.out.trans m78) (.int .i64 (k5 : Int)))
          have hset := Mv.setRb (rb := rb) (o := 1) (Mv.refl (· = rb) w8) (.int .i64 (k5 : Int))
          have hb9 := hset.block hb8 hbr
          have HROW9 := Lib.hid (hrow8.mv hset (by intro g hg; show ¬ g = rb; omega))
          have cx0 := cellOf hb9 (i := 0) rfl
          have cx1 := cellOf hb9 (i := 1) rfl
          clear m8 q8 m78 hb8 hrow8 h5 hset hb9
          go_upto_region 20 with fail
          obtain ⟨w9, hw9⟩ : ∃ w9 : World, w9 = w8.setCell ⟨rb, 1, none⟩ (.int .i64 (k5 : Int)) := ⟨_, rfl⟩
          rw [← hw9] at R9 M9 HROW9 cx0 cx1 ⊢
          clear hw9 f1 c1
          have he9 : (r2.dropWhile nmB).length ≤ r2.length := by omega
          have HRES9 : Hid ((partsL (r2.dropWhile nmB)).map (fun x => ((acc ++ [(nm, [])]) ++ x.1, x.2)) = o) := Lib.hid (by
            rw [← HRES.out, HP.out, HPL.out]
            dsimp only
            cases partsL (r2.dropWhile nmB) with
            | none => rfl
            | some y => simp)
          have hl1 := HDL.out
          simp only [List.length_cons] at hl1
          have hl2 := HAL.out
          have hl3 := HS6.out
          obtain ⟨i0, hi, hz0, hz1, hz2⟩ := info_parts infoPart
          have hxa := (Ext.refl w9).alloc (.cells #[.string (bs nm), .string (bs [])] 110)
          have hrA := HROW9.out.ext hxa
          have hna := heap_alloc_new w9 (.cells #[.string (bs nm), .string (bs [])] 110)
          obtain ⟨v', wB, row, hrunB, hrB, hgB, hrowB⟩ := run_append_row (P := Tryd.prog) (w9.alloc (.cells #[.string (bs nm), .string (bs [])] 110)) 94 94 110 i0 _ 2 32 Tryd.underlying94 hi hz0 hz1 hz2 (by kernel_rfl) (by decide)
            hrA ⟨w9.heap.size, 0, none⟩ 1 1 [.string (bs nm), .string (bs [])] rfl (by
              intro j u hj
              rw [Addr.add_lit, Nat.zero_add]
              exact cellOf hna (by simpa using hj)) (by intro u hu; simp at hu; rcases hu with rfl | rfl <;> rfl) (by decide) (by unfold maxLen; omega) (by omega)
          have MB := Lib.hid ((M9.out.ext hxa).grown hgB (by
            intro z hz hlt
            have h1 := (hrowB z hz).1
            omega))
          have R11 := Lib.hid ((R9.out.ext hxa).mv (Mv.grown (Mv.refl (fun x => row = some x) _) hgB fun z hz _ => hz) (by
            intro h
            have h1 := (hrowB rb h).1
            omega))
          obtain ⟨a7, cap7, e7, _⟩ := hrB.rd.len_of
          subst e7
          have HRB := Lib.hid hrunB
          have HFIN := Lib.hid (RowP.imp hrB (q := fun g => w.heap.size ≤ g) (by
            intro g _ hg
            have h9 := M9.out.size
            have h8 : (w9.alloc (.cells #[.string (bs nm), .string (bs [])] 110)).heap.size = w9.heap.size + 1 := by simp
            rcases hg with ⟨h1, _⟩ | h1
            · exact h1
            · omega))
          have HNS : Hid (attrCells (acc.map pb) ++ [.string (bs nm), .string (bs [])] = attrCells ((acc ++ [(nm, [])]).map pb)) := Lib.hid (by rw [List.map_append, List.map_cons, List.map_nil, attrCells_snoc]; rfl)
          have HLE := Lib.hid he9
          clear hrunB hrB hgB hrowB hi hz0 hz1 hz2 hxa hrA hna he9
          go_wp2_with (at_builtin; refine wpList_append_run _ rfl _ _ 94 rfl _ _ rfl rfl _ _ HRB.out ?_)
          obtain ⟨g', rfl⟩ : ∃ g', gk = g' + 1 := ⟨gk - 1, by have := HGF.out; omega⟩
          go_roundg g'
          case measure => omega
          case rel => exact ⟨acc ++ [(nm, [])], r2.dropWhile nmB, rfl, R11.out, MB.out, by rw [← HNS.out, List.length_append]; exact HFIN.out, by have := HGF.out; have := HLE.out; omega, by have := HLE.out; rw [List.length_append, List.length_cons, List.length_nil]; omega, HRES9.out⟩
        | true =>
          rw [h61] at HONE7
          obtain ⟨r5, hr5⟩ : ∃ r5, (r2.dropWhile nmB).dropWhile blankB = 61 :: r5 := by
            cases hq : (r2.dropWhile nmB).dropWhile blankB with
            | nil => rw [hq] at h61; cases h61
            | cons y q =>
              rw [hq] at h61
              have : y = 61 := by simpa [headP] using h61
              exact ⟨q, by rw [this]⟩
          have hd5 := (suf_drop blankB (r2.dropWhile nmB)).length_le
          rw [hr5] at hd5
          simp only [List.length_cons] at hd5
          have hol : oneL 61 (61 :: r5) = r5 := rfl
          rw [hr5, hol] at HONE7
          have HPV := Lib.hid (part_none (c := c) hr5)
          clear h61 hr5 hol
          go_wp2_with (go_at_call 61; refine HONE7.out.mono ?_)
          rintro e w8 ⟨rfl, m8, r8⟩
          have M8 := Lib.hid (M7.out.trans m8)
          have HVAL := Lib.hid (value_any rb s r5 w8 HS.out r8)
          clear m8 r8
          cases hv : valueL r5 with
          | none =>
            have HN : Hid (o = none) := Lib.hid (by rw [← HRES.out, HP.out, HPV.out, hv]; rfl)
            rw [hv] at HVAL
            clear hv
            go_wp2_with (go_at_call 88; refine HVAL.out.mono ?_)
            rintro e w10 ⟨x, r10, rfl, m10, q10⟩
            have M10 := Lib.hid m10
            have R10 := Lib.hid q10
            clear m10 q10
            go_wp2_with fail
            go_ret3
            rw [HN.out]
            exact ⟨r10, rfl, (M6.out.trans M8.out).trans M10.out, R10.out⟩
          | some ve =>
            obtain ⟨v, e5⟩ := ve
            rw [hv] at HVAL
            have HPL : Hid (partL c r2 = some ((nm, v), e5)) := Lib.hid (by rw [HPV.out, hv, ← HNM.out]; rfl)
            have he5 := (valueL_suf hv).length_le
            clear hv
            go_wp2_with (go_at_call 88; refine HVAL.out.mono ?_)
            rintro e w10 ⟨rfl, m10, q10⟩
            have m810 := M8.out.trans m10
            have hb10 := m810.block BX6.out hbr
            have f10 := freeOf hb10 1
            have R9 := Lib.hid (q10.mv (Mv.setCell (S := (· = bx)) (p := ⟨bx, 1, none⟩) (Mv.refl (· = bx) w10) (fun _ => rfl) (.string (bs v))) (by show ¬ rb = bx; omega))
            have hrow10 := HROW6.out.mv m810 (by intro g hg; show ¬ g = rb; omega)
            have HROW9 := Lib.hid (hrow10.mv (Mv.setCell (S := (· = bx)) (p := ⟨bx, 1, none⟩) (Mv.refl (· = bx) w10) (fun _ => rfl) (.string (bs v))) (by intro g hg; show ¬ g = bx; omega))
            have M9 := Lib.hid (Mv.setCell (p := ⟨bx, 1, none⟩) (M6.out.trans m810) (by intro h; exact absurd h (by show ¬ bx < w.heap.size; omega)) (.string (bs v)))
            have hb9 := heap_setCell_same (i := 1) hb10 (.string (bs v))
            have cx0 := cellOf hb9 (i := 0) (v := .string (bs nm)) rfl
            have cx1 := cellOf hb9 (i := 1) (v := .string (bs v)) rfl
            have cy0 := cellOf hb10 (i := 0) rfl
            have cy1 := cellOf hb10 (i := 1) rfl
            clear m10 q10 m810 hrow10 hb10 hb9
            go_upto_region 20 with fail
            obtain ⟨w9, hw9⟩ : ∃ w9 : World, w9 = w10.setCell ⟨bx, 1, none⟩ (.string (bs v)) := ⟨_, rfl⟩
            rw [← hw9] at R9 M9 HROW9 cx0 cx1 ⊢
            clear hw9 f10 cy0 cy1
            have he9 : (e5).length ≤ r2.length := by omega
            have HRES9 : Hid ((partsL (e5)).map (fun x => ((acc ++ [(nm, v)]) ++ x.1, x.2)) = o) := Lib.hid (by
              rw [← HRES.out, HP.out, HPL.out]
              dsimp only
              cases partsL (e5) with
              | none => rfl
              | some y => simp)
            have hl1 := HDL.out
            simp only [List.length_cons] at hl1
            have hl2 := HAL.out
            have hl3 := HS6.out
            obtain ⟨i0, hi, hz0, hz1, hz2⟩ := info_parts infoPart
            have hxa := (Ext.refl w9).alloc (.cells #[.string (bs nm), .string (bs v)] 110)
            have hrA := HROW9.out.ext hxa
            have hna := heap_alloc_new w9 (.cells #[.string (bs nm), .string (bs v)] 110)
            obtain ⟨v', wB, row, hrunB, hrB, hgB, hrowB⟩ := run_append_row (P := Tryd.prog) (w9.alloc (.cells #[.string (bs nm), .string (bs v)] 110)) 94 94 110 i0 _ 2 32 Tryd.underlying94 hi hz0 hz1 hz2 (by kernel_rfl) (by decide)
              hrA ⟨w9.heap.size, 0, none⟩ 1 1 [.string (bs nm), .string (bs v)] rfl (by
                intro j u hj
                rw [Addr.add_lit, Nat.zero_add]
                exact cellOf hna (by simpa using hj)) (by intro u hu; simp at hu; rcases hu with rfl | rfl <;> rfl) (by decide) (by unfold maxLen; omega) (by omega)
            have MB := Lib.hid ((M9.out.ext hxa).grown hgB (by
              intro z hz hlt
              have h1 := (hrowB z hz).1
              omega))
            have R11 := Lib.hid ((R9.out.ext hxa).mv (Mv.grown (Mv.refl (fun x => row = some x) _) hgB fun z hz _ => hz) (by
              intro h
              have h1 := (hrowB rb h).1
              omega))
            obtain ⟨a7, cap7, e7, _⟩ := hrB.rd.len_of
            subst e7
            have HRB := Lib.hid hrunB
            have HFIN := Lib.hid (RowP.imp hrB (q := fun g => w.heap.size ≤ g) (by
              intro g _ hg
              have h9 := M9.out.size
              have h8 : (w9.alloc (.cells #[.string (bs nm), .string (bs v)] 110)).heap.size = w9.heap.size + 1 := by simp
              rcases hg with ⟨h1, _⟩ | h1
              · exact h1
              · omega))
            have HNS : Hid (attrCells (acc.map pb) ++ [.string (bs nm), .string (bs v)] = attrCells ((acc ++ [(nm, v)]).map pb)) := Lib.hid (by rw [List.map_append, List.map_cons, List.map_nil, attrCells_snoc]; rfl)
            have HLE := Lib.hid he9
            clear hrunB hrB hgB hrowB hi hz0 hz1 hz2 hxa hrA hna he9
            go_wp2_with (at_builtin; refine wpList_append_run _ rfl _ _ 94 rfl _ _ rfl rfl _ _ HRB.out ?_)
            obtain ⟨g', rfl⟩ : ∃ g', gk = g' + 1 := ⟨gk - 1, by have := HGF.out; omega⟩
            go_roundg g'
            case measure => omega
            case rel => exact ⟨acc ++ [(nm, v)], e5, rfl, R11.out, MB.out, by rw [← HNS.out, List.length_append]; exact HFIN.out, by have := HGF.out; have := HLE.out; omega, by have := HLE.out; rw [List.length_append, List.length_cons, List.length_nil]; omega, HRES9.out⟩
end Go.Proofs.YtdafdoodegpdhaaDoor
