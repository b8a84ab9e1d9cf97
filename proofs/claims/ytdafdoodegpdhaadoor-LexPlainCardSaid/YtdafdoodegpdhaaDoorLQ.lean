/- lex's reader: more, run, one. Conditions: at most 10^11 bytes; the predicate is a function value that makes new memory at most. -/
import Derived.Test.YtdafdoodegpdhaaDoorLP
import Derived.Shelf.Lays
namespace Go.Proofs.YtdafdoodegpdhaaDoor
open Go Go.RowKit Go.BigFrame
set_option linter.unusedVariables false
set_option linter.unusedSimpArgs false

/-- all old blocks but those of S are as they were -/
structure Mv (S : Nat → Prop) (w w' : World) : Prop where
  os : w'.os = w.os
  tape : w'.tape = w.tape
  output : w'.output = w.output
  size : w.heap.size ≤ w'.heap.size
  rest : ∀ b, b < w.heap.size → ¬ S b → w'.heap[b]? = w.heap[b]?
theorem Mv.ofExt {S : Nat → Prop} {w w' : World} (h : Ext w w') : Mv S w w' := ⟨Below.os h, Below.tape h, Below.output h, Ext.size h, fun b hb _ => Below.block h b hb⟩
theorem Mv.refl (S : Nat → Prop) (w : World) : Mv S w w := Mv.ofExt (Ext.refl w)
theorem Mv.trans {S : Nat → Prop} {a b c : World} (h : Mv S a b) (k : Mv S b c) : Mv S a c :=
  ⟨k.os.trans h.os, k.tape.trans h.tape, k.output.trans h.output, Nat.le_trans h.size k.size, fun x hx hn => (k.rest x (Nat.lt_of_lt_of_le hx h.size) hn).trans (h.rest x hx hn)⟩
theorem Mv.ext {S : Nat → Prop} {a b c : World} (h : Mv S a b) (k : Ext b c) : Mv S a c := h.trans (Mv.ofExt k)
theorem Mv.after {S : Nat → Prop} {a b c : World} (h : Ext a b) (k : Mv S b c) : Mv S a c := (Mv.ofExt h).trans k
theorem Mv.imp {S S' : Nat → Prop} {a b : World} (h : Mv S a b) (k : ∀ x, x < a.heap.size → S x → S' x) : Mv S' a b := ⟨h.os, h.tape, h.output, h.size, fun x hx hn => h.rest x hx fun hs => hn (k x hx hs)⟩
theorem Mv.block {S : Nat → Prop} {w w' : World} (h : Mv S w w') {b : Nat} {x : Obj} (hb : w.heap[b]? = some x) (hn : ¬ S b) : w'.heap[b]? = some x := (h.rest b (Array.getElem?_eq_some_iff.1 hb).1 hn).trans hb
theorem Mv.setCell {S : Nat → Prop} {a b : World} (h : Mv S a b) {p : Addr} (hp : p.block < a.heap.size → S p.block) (u : Value) : Mv S a (b.setCell p u) :=
  ⟨h.os, h.tape, h.output, by have := h.size; simpa [World.setCell] using this, fun x hx hn => by
    have hne : x ≠ p.block := fun e => hn (by rw [e]; exact hp (e ▸ hx))
    exact (heap_setCell_other u hne).trans (h.rest x hx hn)⟩
theorem Mv.setRb {rb o : Nat} {a b : World} (h : Mv (· = rb) a b) (u : Value) : Mv (· = rb) a (b.setCell ⟨rb, o, none⟩ u) := h.setCell (p := ⟨rb, o, none⟩) (fun _ => rfl) u
theorem Mv.toExt {S : Nat → Prop} {w0 w w' : World} (h0 : Ext w0 w) (h : Mv S w w') (hS : ∀ b, S b → w0.heap.size ≤ b) : Ext w0 w' :=
  ⟨h.os.trans (Below.os h0), h.tape.trans (Below.tape h0), h.output.trans (Below.output h0), Nat.le_trans (Ext.size h0) h.size,
   fun b hb => (h.rest b (Nat.lt_of_lt_of_le hb (Ext.size h0)) fun hs => absurd (hS b hs) (by omega)).trans (Below.block h0 b hb)⟩
theorem Mv.cell {S : Nat → Prop} {w w' : World} (h : Mv S w w') {b o : Nat} {v : Value} (hc : w.cell? ⟨b, o, none⟩ = some v) (hn : ¬ S b) : w'.cell? ⟨b, o, none⟩ = some v := by
  have := h.rest b (cell_lt hc) hn
  unfold World.cell? at hc ⊢
  simp only at hc ⊢
  rw [this]; exact hc
/-- the reader, and what is left of its text -/
def Rd (rb : Nat) (s : ByteArray) (r : List UInt8) (w : World) : Prop :=
  ∃ k : Nat, k + r.length = s.size ∧ r = s.data.toList.drop k ∧ w.heap[rb]? = some (.cells #[.string s, .int .i64 (k : Int)] 78 (0, 0))
theorem Rd.ext {rb : Nat} {s : ByteArray} {r : List UInt8} {w w' : World} (h : Rd rb s r w) (x : Ext w w') : Rd rb s r w' := by
  obtain ⟨k, h1, h2, h3⟩ := h
  exact ⟨k, h1, h2, x.block h3⟩
theorem Rd.lt {rb : Nat} {s : ByteArray} {r : List UInt8} {w : World} (h : Rd rb s r w) : rb < w.heap.size := by
  obtain ⟨k, h1, h2, h3⟩ := h
  exact (Array.getElem?_eq_some_iff.1 h3).1
theorem Rd.head {s : ByteArray} {k : Nat} {c : UInt8} {q : List UInt8} (h1 : k + (c :: q).length = s.size) (h2 : c :: q = s.data.toList.drop k) : ∃ hk : k < s.size, s[k]'hk = c ∧ q = s.data.toList.drop (k + 1) ∧ k + 1 + q.length = s.size := by
  simp only [List.length_cons] at h1
  have hk : k < s.size := by omega
  have hk2 : k < s.data.toList.length := hk
  rw [List.drop_eq_getElem_cons hk2] at h2
  obtain ⟨e1, e2⟩ := List.cons.inj h2
  exact ⟨hk, e1.symm, e2, by omega⟩
/-- a predicate on bytes, handed over -/
def IsP (rb : Nat) (p : UInt8 → Bool) (fv : Value) (w : World) : Prop :=
  ∃ (g : Nat) (lb : Array Value), fv = .func (.func g) #[] lb ∧ (∀ args w, (callFunc g args).run Tryd.prog w = .ok (.enter g args) w) ∧
    ∀ (W : World) (c : UInt8), Mv (· = rb) w W → Calls Tryd.prog g (#[.int .u8 (c.toNat : Int)] ++ lb) W (RBool (p c) W)
theorem IsP.later {rb : Nat} {p : UInt8 → Bool} {fv : Value} {w w' : World} (h : IsP rb p fv w) (k : Mv (· = rb) w w') : IsP rb p fv w' := by
  obtain ⟨g, lb, h1, h2, h3⟩ := h
  exact ⟨g, lb, h1, h2, fun W c hW => h3 W c (k.trans hW)⟩
set_option maxHeartbeats 1000000 in
set_option maxRecDepth 100000 in
theorem more_any (rb : Nat) (s : ByteArray) (r : List UInt8) (p : UInt8 → Bool) (fv : Value) (w : World) (hs : s.size ≤ 100000000000) (hr : Rd rb s r w) (hp : IsP rb p fv w) :
    Calls Tryd.prog 59 #[.pointer (some ⟨rb, 0, none⟩), fv] w (RBool (headP p r) w) := by
  obtain ⟨k, h1, h2, h3⟩ := hr
  obtain ⟨g, lb, rfl, eg, hp⟩ := hp
  have c0 : ∀ u : ExtOf w, u.val.cell? ⟨rb, 0, none⟩ = some (.string s) := fun u => u.ext.cell (cellOf h3 rfl)
  have c1 : ∀ u : ExtOf w, u.val.cell? ⟨rb, 1, none⟩ = some (.int .i64 k) := fun u => u.ext.cell (cellOf h3 rfl)
  cases r with
  | nil =>
    have hlt : decide ((k : Int) < (s.size : Int)) = false := decide_eq_false (by simp at h1; omega)
    have hltn : decide (k < s.size) = false := decide_eq_false (by simp at h1; omega)
    clear h1 h2 h3 hs hp
    go_enter Tryd.func59, Tryd.ntmps59
    go_upto_region 1 with fail
    refine wp_region_ext (by kernel_rfl) (by kernel_rfl) ?_
    repeat (go_big_quiet_step (fail))
    refine wpQuiet_nil ?_
    rintro _ ⟨u, rfl⟩
    go_wp2_with fail
    go_ret
    exact ⟨rfl, u.ext⟩
  | cons c q =>
    obtain ⟨hk, e, _, _⟩ := Rd.head h1 h2
    have hix : ∀ W : World, (Instr.index 9 (.string s) (.int .i64 (k : Int))).run Tryd.prog W = .ok (.int .u8 (c.toNat : Int)) W := by
      intro W
      rw [run_index_string W 9 s .i64 (k : Int) Tryd.underlying9, dif_pos ⟨by omega, by omega⟩]
      simp only [Int.toNat_natCast, e]
    have hlt : decide ((k : Int) < (s.size : Int)) = true := decide_eq_true (by omega)
    have hltn : decide (k < s.size) = true := decide_eq_true hk
    have HP := Lib.hid (fun u : ExtOf w => inExt (u := u) (hp u.val c (Mv.ofExt u.ext)))
    clear h1 h2 h3 hs hp e
    show Calls Tryd.prog _ _ w (RBool (p c) w)
    obtain ⟨b, hb⟩ : ∃ b, p c = b := ⟨_, rfl⟩
    rw [hb] at HP ⊢
    clear hb hk
    go_enter Tryd.func59, Tryd.ntmps59
    go_upto_region 1 with fail
    refine wp_region_ext (by kernel_rfl) (by kernel_rfl) ?_
    repeat (go_big_quiet_step ((go_at_fn g; exact HP.out _)))
    refine wpQuiet_nil ?_
    rintro _ ⟨u, rfl⟩
    go_wp2_with fail
    go_ret
    exact ⟨rfl, u.ext⟩
/-- the place is moved -/
theorem Rd.move {rb k : Nat} {s : ByteArray} {v : Value} {r : List UInt8} {w : World} (h : w.heap[rb]? = some (.cells #[.string s, v] 78 (0, 0))) (h1 : k + r.length = s.size) (h2 : r = s.data.toList.drop k) :
    Rd rb s r (w.setCell ⟨rb, 1, none⟩ (.int .i64 (k : Int))) :=
  ⟨k, h1, h2, heap_setCell_same h _⟩
def RRun (rb : Nat) (s : ByteArray) (p : UInt8 → Bool) (r : List UInt8) (w : World) (e : Ending) (w' : World) : Prop :=
  e = .returned (.string (bs (r.takeWhile p))) ∧ Mv (· = rb) w w' ∧ Rd rb s (r.dropWhile p) w'
theorem while_cut (p : UInt8 → Bool) (r : List UInt8) : r.take (r.length - (r.dropWhile p).length) = r.takeWhile p := by
  have h := take_drop_while p r
  have hl := congrArg List.length h
  rw [List.length_append] at hl
  conv => lhs; rw [← h]
  exact List.take_left' (by rw [h]; omega)
set_option maxHeartbeats 1000000 in
set_option maxRecDepth 100000 in
theorem run_any (rb : Nat) (s : ByteArray) (r : List UInt8) (p : UInt8 → Bool) (fv : Value) (w : World) (hs : s.size ≤ 100000000000) (hr : Rd rb s r w) (hp : IsP rb p fv w) :
    Calls Tryd.prog 44 #[.pointer (some ⟨rb, 0, none⟩), fv] w (RRun rb s p r w) := by
  have HR0 := Lib.hid hr
  obtain ⟨k0, h1, h2, h3⟩ := hr
  have c1 := cellOf h3 (i := 1) rfl
  have H1 := Lib.hid h1
  have H2 := Lib.hid h2
  have HP := Lib.hid hp
  clear h1 h2 h3 hp
  go_enter Tryd.func44, Tryd.ntmps44
  go_wp2_with fail
  clear c1
  go_loopg [] r.length (fun gf wr => ∃ r' : List UInt8, Rd rb s r' wr ∧ Mv (· = rb) w wr ∧ r'.dropWhile p = r.dropWhile p ∧ r'.length ≤ r.length ∧ r'.length ≤ gf)
  case atStart => exact ⟨r, HR0.out, Mv.refl _ _, rfl, Nat.le_refl _, Nat.le_refl _⟩
  case round =>
    obtain ⟨r', hr', hm, hd, hl, hg⟩ := hrel
    have HM := Lib.hid hm
    have HD := Lib.hid hd
    have HL := Lib.hid hl
    have HC := Lib.hid (more_any rb s r' p fv wr hs hr' (HP.out.later hm))
    obtain ⟨k, h1, h2, h3⟩ := hr'
    have HB := Lib.hid h3
    clear hm hd hl
    by_cases hh : headP p r' = true
    · rw [hh] at HC
      cases r' with
      | nil => cases hh
      | cons c q =>
        obtain ⟨hk, e, hq, hq1⟩ := Rd.head h1 h2
        obtain ⟨g', rfl⟩ : ∃ g', gk = g' + 1 := ⟨gk - 1, by simp at hg; omega⟩
        have HQ := Lib.hid (And.intro hq hq1)
        have HG := Lib.hid (show q.length ≤ g' by simp at hg; omega)
        have HHH := Lib.hid (show p c = true from hh)
        have hw1 : IntKind.i64.wrap ((k : Int) + 1) = (k : Int) + 1 := IntWalk.i64_in _ (by omega)
        clear h1 h2 h3 hq hq1 hg hh e
        go_wp2_with (go_at_call 59; refine HC.out.mono ?_)
        rintro e w1 ⟨rfl, x1⟩
        have hb1 := x1.block HB.out
        have c1 := cellOf hb1 (i := 1) rfl
        have f1 := freeOf hb1 1
        have HB1 := Lib.hid hb1
        have X1 := Lib.hid x1
        clear hb1 x1
        go_wp2_with fail
        go_roundg g'
        case measure => omega
        case rel =>
          refine ⟨q, Rd.move (k := k + 1) HB1.out HQ.out.2 HQ.out.1, Mv.setRb (HM.out.ext X1.out) _, ?_, ?_, HG.out⟩
          · rw [← HD.out, List.dropWhile_cons_of_pos HHH.out]
          · have := HL.out; simp at this; omega
    · rw [Bool.not_eq_true] at hh
      rw [hh] at HC
      have he : r' = r.dropWhile p := by
        rw [← HD.out]
        cases r' with
        | nil => rfl
        | cons c q => exact (List.dropWhile_cons_of_neg (by simpa [headP] using hh)).symm
      have HE := Lib.hid he
      have HK := Lib.hid (And.intro h1 h2)
      have hk0 : k0 + r.length = s.size := H1.out
      have hle : r'.length ≤ r.length := HL.out
      have hcut : s.extract k0 k = bs (r.takeWhile p) := by
        have h := bs_cut s.data.toList k0 k
        rw [bs_list] at h
        rw [h, ← H2.out, ← while_cut p r, ← he]
        congr 2
        omega
      have HCUT := Lib.hid hcut
      have b1 : (0 : Int) ≤ (k0 : Int) := by omega
      have b2 : (k0 : Int) ≤ (k : Int) := by omega
      have b3 : (k : Int) ≤ (s.size : Int) := by omega
      generalize hE : s.extract k0 k = E at HCUT hcut
      clear h1 h2 h3 hg hh hcut he hk0 hle
      go_wp2_with (go_at_call 59; refine HC.out.mono ?_)
      rintro e w1 ⟨rfl, x1⟩
      have hb1 := x1.block HB.out
      have c0 : ∀ u : ExtOf w1, u.val.cell? ⟨rb, 0, none⟩ = some (.string s) := fun u => u.ext.cell (cellOf hb1 rfl)
      have c1 : ∀ u : ExtOf w1, u.val.cell? ⟨rb, 1, none⟩ = some (.int .i64 k) := fun u => u.ext.cell (cellOf hb1 rfl)
      have X1 := Lib.hid x1
      clear hb1 x1
      go_upto_region 4 with fail
      refine wp_region_ext (by kernel_rfl) (by kernel_rfl) ?_
      repeat (go_big_quiet_step (fail))
      refine wpQuiet_nil ?_
      rintro _ ⟨u, rfl⟩
      go_wp2_with fail
      go_ret
      refine ⟨?_, (HM.out.ext X1.out).ext u.ext, ?_⟩
      · rw [HCUT.out]; rfl
      · rw [← HE.out]
        exact Rd.ext (Rd.ext ⟨k, HK.out.1, HK.out.2, HB.out⟩ X1.out) u.ext
theorem u8_eq (c q : UInt8) : ((c.toNat : Int) == (q.toNat : Int)) = (c == q) := by
  rw [Bool.eq_iff_iff, beq_iff_eq, beq_iff_eq]
  constructor
  · intro h; exact UInt8.toNat_inj.1 (by omega)
  · rintro rfl; rfl
theorem u8_ne (c q : UInt8) : ((c.toNat : Int) != (q.toNat : Int)) = (c != q) := by simp only [bne, u8_eq]
/-- lex.one's predicate -/
theorem oneP_any (c q : UInt8) (b : Nat) (w : World) (hb : w.cell? ⟨b, 0, none⟩ = some (.int .u8 (q.toNat : Int))) : Calls Tryd.prog 80 #[.int .u8 (c.toNat : Int), .pointer (some ⟨b, 0, none⟩)] w (RBool (c == q) w) := by
  have x := Ext.refl w
  obtain ⟨z, hz⟩ : ∃ z, (c == q) = z := ⟨_, rfl⟩
  have e := (u8_eq c q).trans hz
  rw [hz]
  clear hz
  go_enter Tryd.func80, Tryd.ntmps80
  go_wp2
  go_ret
  exact ⟨by first | rfl | rw [e], x⟩
theorem valueP_any (c q : UInt8) (b : Nat) (w : World) (hb : w.cell? ⟨b, 0, none⟩ = some (.int .u8 (q.toNat : Int))) : Calls Tryd.prog 107 #[.int .u8 (c.toNat : Int), .pointer (some ⟨b, 0, none⟩)] w (RBool (neB q c) w) := by
  have x := Ext.refl w
  obtain ⟨z, hz⟩ : ∃ z, neB q c = z := ⟨_, rfl⟩
  have e := (u8_ne c q).trans hz
  rw [hz]
  clear hz
  go_enter Tryd.func107, Tryd.ntmps107
  go_wp2
  go_ret
  exact ⟨by first | rfl | rw [e], x⟩
theorem tagP_any (c : UInt8) (w : World) : Calls Tryd.prog 64 #[.int .u8 (c.toNat : Int)] w (RBool (neB 62 c) w) := by
  have x := Ext.refl w
  obtain ⟨z, hz⟩ : ∃ z, neB 62 c = z := ⟨_, rfl⟩
  have e : ((c.toNat : Int) != 62) = z := (u8_ne c 62).trans hz
  rw [hz]
  clear hz
  go_enter Tryd.func64, Tryd.ntmps64
  go_wp2
  go_ret
  exact ⟨by first | rfl | rw [e], x⟩
theorem allP_any (c : UInt8) (w : World) : Calls Tryd.prog 45 #[.int .u8 (c.toNat : Int)] w (RBool (neB 60 c) w) := by
  have x := Ext.refl w
  obtain ⟨z, hz⟩ : ∃ z, neB 60 c = z := ⟨_, rfl⟩
  have e : ((c.toNat : Int) != 60) = z := (u8_ne c 60).trans hz
  rw [hz]
  clear hz
  go_enter Tryd.func45, Tryd.ntmps45
  go_wp2
  go_ret
  exact ⟨by first | rfl | rw [e], x⟩
theorem nameP_any (c : UInt8) (w : World) : Calls Tryd.prog 82 #[.int .u8 (c.toNat : Int)] w (RBool (alnumB c) w) := by
  have HB := Lib.hid (xletter_any c w)
  cases hl : letterB c with
  | true =>
    have e : alnumB c = true := by unfold alnumB; rw [hl]; rfl
    rw [hl] at HB
    rw [e]
    clear e hl
    go_enter Tryd.func82, Tryd.ntmps82
    go_wp2_with (go_at_call 62; refine HB.out.mono ?_)
    rintro e w1 ⟨rfl, x1⟩
    go_wp2_with fail
    go_ret
    exact ⟨rfl, x1⟩
  | false =>
    have e : alnumB c = digitB c := by unfold alnumB; rw [hl]; rfl
    rw [hl] at HB
    rw [e]
    clear e hl
    have HD := Lib.hid (fun W => xdigit_any c W)
    obtain ⟨z, hz⟩ : ∃ z, digitB c = z := ⟨_, rfl⟩
    rw [hz] at HD ⊢
    clear hz
    go_enter Tryd.func82, Tryd.ntmps82
    go_wp2_with (go_at_call 62; refine HB.out.mono ?_)
    rintro e w1 ⟨rfl, x1⟩
    go_wp2_with (go_at_call 83; refine (HD.out _).mono ?_)
    rintro e w2 ⟨rfl, x2⟩
    go_wp2_with fail
    go_ret
    exact ⟨rfl, x1.trans x2⟩
theorem gapP_any (c : UInt8) (w : World) : Calls Tryd.prog 84 #[.int .u8 (c.toNat : Int)] w (RBool (gapB c) w) := by
  have HB := Lib.hid (xblank_any c w)
  cases hl : blankB c with
  | true =>
    have e : gapB c = true := by unfold gapB; rw [hl]; rfl
    rw [hl] at HB
    rw [e]
    clear e hl
    go_enter Tryd.func84, Tryd.ntmps84
    go_wp2_with (go_at_call 85; refine HB.out.mono ?_)
    rintro e w1 ⟨rfl, x1⟩
    go_wp2_with fail
    go_ret
    exact ⟨rfl, x1⟩
  | false =>
    have e : gapB c = (c == 47) := by unfold gapB; rw [hl]; rfl
    have e2 : ((c.toNat : Int) == 47) = (c == 47) := u8_eq c 47
    rw [hl] at HB
    rw [e]
    obtain ⟨z, hz⟩ : ∃ z, (c == 47) = z := ⟨_, rfl⟩
    rw [hz] at e2 ⊢
    clear hz e hl
    go_enter Tryd.func84, Tryd.ntmps84
    go_wp2_with (go_at_call 85; refine HB.out.mono ?_)
    rintro e w1 ⟨rfl, x1⟩
    go_wp2_with fail
    go_ret
    exact ⟨by first | rfl | rw [e2], x1⟩
theorem valP_any (c : UInt8) (w : World) : Calls Tryd.prog 108 #[.int .u8 (c.toNat : Int)] w (RBool (valB c) w) := by
  have HB := Lib.hid (xblank_any c w)
  cases hl : blankB c with
  | true =>
    have e : valB c = false := by unfold valB; rw [hl]; rfl
    rw [hl] at HB
    rw [e]
    clear e hl
    go_enter Tryd.func108, Tryd.ntmps108
    go_wp2_with (go_at_call 85; refine HB.out.mono ?_)
    rintro e w1 ⟨rfl, x1⟩
    go_wp2_with fail
    go_ret
    exact ⟨rfl, x1⟩
  | false =>
    have e : valB c = (c != 62) := by unfold valB; rw [hl]; rfl
    have e2 : ((c.toNat : Int) != 62) = (c != 62) := u8_ne c 62
    rw [hl] at HB
    rw [e]
    obtain ⟨z, hz⟩ : ∃ z, (c != 62) = z := ⟨_, rfl⟩
    rw [hz] at e2 ⊢
    clear hz e hl
    go_enter Tryd.func108, Tryd.ntmps108
    go_wp2_with (go_at_call 85; refine HB.out.mono ?_)
    rintro e w1 ⟨rfl, x1⟩
    go_wp2_with fail
    go_ret
    exact ⟨by first | rfl | rw [e2], x1⟩
theorem nmP_any (c : UInt8) (w : World) : Calls Tryd.prog 87 #[.int .u8 (c.toNat : Int)] w (RBool (nmB c) w) := by
  have HB := Lib.hid (xblank_any c w)
  have e47 : ((c.toNat : Int) != 47) = (c != 47) := u8_ne c 47
  have e62 : ((c.toNat : Int) != 62) = (c != 62) := u8_ne c 62
  have e61 : ((c.toNat : Int) != 61) = (c != 61) := u8_ne c 61
  have e : nmB c = (!blankB c && (c != 47) && (c != 62) && (c != 61)) := rfl
  obtain ⟨z1, h1⟩ : ∃ z, (c != 47) = z := ⟨_, rfl⟩
  obtain ⟨z2, h2⟩ : ∃ z, (c != 62) = z := ⟨_, rfl⟩
  obtain ⟨z3, h3⟩ : ∃ z, (c != 61) = z := ⟨_, rfl⟩
  obtain ⟨z0, h0⟩ : ∃ z, blankB c = z := ⟨_, rfl⟩
  rw [h1] at e47 e
  rw [h2] at e62 e
  rw [h3] at e61 e
  rw [h0] at HB e
  rw [e]
  clear h0 h1 h2 h3 e
  cases z0 <;> cases z1 <;> cases z2 <;> cases z3 <;>
    (go_enter Tryd.func87, Tryd.ntmps87
     go_wp2_with (go_at_call 85; refine HB.out.mono ?_)
     rintro e w1 ⟨rfl, x1⟩
     go_wp2_with fail
     go_ret
     exact ⟨by first | rfl | rw [e61], x1⟩)
theorem IsP.ofFn {rb g : Nat} {p : UInt8 → Bool} (eg : ∀ args w, (callFunc g args).run Tryd.prog w = .ok (.enter g args) w) (h : ∀ c w, Calls Tryd.prog g #[.int .u8 (c.toNat : Int)] w (RBool (p c) w)) (w : World) : IsP rb p (.func (.func g) #[] #[]) w :=
  ⟨g, #[], rfl, eg, fun W c _ => h c W⟩
theorem isBlank (rb : Nat) (w : World) : IsP rb blankB (.func (.func 85) #[] #[]) w := IsP.ofFn (enters_of Tryd.func85 (by kernel_rfl) rfl) (fun c w => xblank_any c w) w
theorem isLetter (rb : Nat) (w : World) : IsP rb letterB (.func (.func 62) #[] #[]) w := IsP.ofFn (enters_of Tryd.func62 (by kernel_rfl) rfl) (fun c w => xletter_any c w) w
theorem isAlnum (rb : Nat) (w : World) : IsP rb alnumB (.func (.func 82) #[] #[]) w := IsP.ofFn (enters_of Tryd.func82 (by kernel_rfl) rfl) (fun c w => nameP_any c w) w
theorem isGap (rb : Nat) (w : World) : IsP rb gapB (.func (.func 84) #[] #[]) w := IsP.ofFn (enters_of Tryd.func84 (by kernel_rfl) rfl) (fun c w => gapP_any c w) w
theorem isNm (rb : Nat) (w : World) : IsP rb nmB (.func (.func 87) #[] #[]) w := IsP.ofFn (enters_of Tryd.func87 (by kernel_rfl) rfl) (fun c w => nmP_any c w) w
theorem isVal (rb : Nat) (w : World) : IsP rb valB (.func (.func 108) #[] #[]) w := IsP.ofFn (enters_of Tryd.func108 (by kernel_rfl) rfl) (fun c w => valP_any c w) w
theorem isTag (rb : Nat) (w : World) : IsP rb (neB 62) (.func (.func 64) #[] #[]) w := IsP.ofFn (enters_of Tryd.func64 (by kernel_rfl) rfl) (fun c w => tagP_any c w) w
theorem isAll (rb : Nat) (w : World) : IsP rb (neB 60) (.func (.func 45) #[] #[]) w := IsP.ofFn (enters_of Tryd.func45 (by kernel_rfl) rfl) (fun c w => allP_any c w) w
theorem isOne {rb b : Nat} {q : UInt8} {w : World} (hb : w.cell? ⟨b, 0, none⟩ = some (.int .u8 (q.toNat : Int))) (hn : b ≠ rb) : IsP rb (· == q) (.func (.func 80) #[] #[.pointer (some ⟨b, 0, none⟩)]) w :=
  ⟨_, _, rfl, enters_of Tryd.func80 (by kernel_rfl) rfl, fun W c hW => oneP_any c q b W (hW.cell hb hn)⟩
theorem isQuote {rb b : Nat} {q : UInt8} {w : World} (hb : w.cell? ⟨b, 0, none⟩ = some (.int .u8 (q.toNat : Int))) (hn : b ≠ rb) : IsP rb (neB q) (.func (.func 107) #[] #[.pointer (some ⟨b, 0, none⟩)]) w :=
  ⟨_, _, rfl, enters_of Tryd.func107 (by kernel_rfl) rfl, fun W c hW => valueP_any c q b W (hW.cell hb hn)⟩
/-- a byte that is gone over, if it is there -/
def oneL (q : UInt8) (r : List UInt8) : List UInt8 := if headP (· == q) r then r.tail else r
def ROne (rb : Nat) (s : ByteArray) (b : Bool) (r : List UInt8) (w : World) (e : Ending) (w' : World) : Prop := e = .returned (.bool b) ∧ Mv (· = rb) w w' ∧ Rd rb s r w'
set_option maxHeartbeats 1000000 in
theorem one_any (rb : Nat) (s : ByteArray) (r : List UInt8) (q : UInt8) (z : Int) (hz : z = (q.toNat : Int)) (w : World) (hs : s.size ≤ 100000000000) (hr : Rd rb s r w) :
    Calls Tryd.prog 61 #[.pointer (some ⟨rb, 0, none⟩), .int .u8 z] w (ROne rb s (headP (· == q) r) (oneL q r) w) := by
  subst hz
  have hlt := hr.lt
  have X0 := Lib.hid ((Ext.refl w).alloc (.cells #[.int .u8 (q.toNat : Int)] 5))
  have HC := Lib.hid (more_any rb s r (· == q) _ (w.alloc (.cells #[.int .u8 (q.toNat : Int)] 5)) hs (hr.ext X0.out) (isOne (b := w.heap.size) (cellOf (heap_alloc_new w _) rfl) (by omega)))
  have hmf : ∀ (fn : Fn) (first cap : Array Value) (w : World), (Instr.makeFunc fn first cap).run Tryd.prog w = .ok (.func fn first cap) w := fun _ _ _ _ => rfl
  have HR := Lib.hid (hr.ext X0.out)
  clear hr hlt
  cases hh : headP (· == q) r with
  | false =>
    have he : oneL q r = r := by unfold oneL; rw [hh]; rfl
    rw [hh] at HC
    rw [he]
    clear hh he
    go_enter Tryd.func61, Tryd.ntmps61
    go_wp2_with (go_at_call 59; refine HC.out.mono ?_)
    rintro e w1 ⟨rfl, x1⟩
    go_wp2_with fail
    go_ret
    exact ⟨rfl, Mv.ofExt (X0.out.trans x1), HR.out.ext x1⟩
  | true =>
    rw [hh] at HC
    cases r with
    | nil => cases hh
    | cons c t =>
      have he : oneL q (c :: t) = t := by unfold oneL; rw [hh]; rfl
      rw [he]
      obtain ⟨k, h1, h2, h3⟩ := HR.out
      obtain ⟨hk, _, hq, hq1⟩ := Rd.head h1 h2
      have HB := Lib.hid h3
      have HQ := Lib.hid (And.intro hq1 hq)
      have hw1 : IntKind.i64.wrap ((k : Int) + 1) = (k : Int) + 1 := IntWalk.i64_in _ (by omega)
      clear hh he h1 h2 h3 hq hq1
      go_enter Tryd.func61, Tryd.ntmps61
      go_wp2_with (go_at_call 59; refine HC.out.mono ?_)
      rintro e w1 ⟨rfl, x1⟩
      have hb1 := x1.block HB.out
      have c1 := cellOf hb1 (i := 1) rfl
      have f1 := freeOf hb1 1
      have HB1 := Lib.hid hb1
      have X1 := Lib.hid (X0.out.trans x1)
      clear hb1 x1
      go_wp2_with fail
      go_ret
      exact ⟨rfl, Mv.setRb (Mv.ofExt X1.out) _, Rd.move (k := k + 1) HB1.out HQ.out.1 HQ.out.2⟩
end Go.Proofs.YtdafdoodegpdhaaDoor
