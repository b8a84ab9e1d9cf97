/- what of ZP Z1 Z2 Z3 BA BB BC BD BE BF BG BH BI BJ BK BL BM BN BO BP BQ BR NA NC NB ND NE NF BS BT ZY BV BW BY Z4 CA CB CC CD TA TB TC TD TE TF TG TK TH TI is leant on -/
import Derived.Test.YtalaajbajgdglaaGreatDoorLBhb
set_option linter.unusedVariables false
set_option linter.unusedSimpArgs false
set_option maxRecDepth 1000000
set_option maxHeartbeats 8000000
namespace Go.Proofs.YtalaajbajgdglaaGreatDoor
open Go Go.RowKit Go.BigFrame
def PIis (r : Option Nat) (w : World) (e : Ending) (w' : World) : Prop := e = .returned (.tuple #[.int .i64 (r.getD 0 : Nat), match r with | some _ => .nilIface | none => .iface 215 (.int .i64 2)]) ∧ Ext w w'
theorem numL_lt (b : Nat) (hb : b ≤ 16) : ∀ (l : List UInt8) (m n P : Nat), numL b m l = some n → m < P → n < P * 16 ^ l.length := by
  intro l
  induction l with
  | nil => intro m n P h hm; cases h; simpa using hm
  | cons c r ih =>
    intro m n P h hm
    rw [numL] at h
    split at h
    · cases h
    · have h1 : m * b + digV c < P * 16 := by
        have : m * b ≤ m * 16 := Nat.mul_le_mul_left m hb
        omega
      have := ih _ _ _ h h1
      rw [List.length_cons, Nat.pow_succ]
      rw [Nat.mul_assoc] at this
      rw [Nat.mul_comm (16 ^ r.length) 16]
      exact this
theorem pi10_any (s : ByteArray) (h0 : s.size ≠ 0) (h7 : s.size ≤ 7) (hs1 : s.data.toList.head? ≠ some 43) (hs2 : s.data.toList.head? ≠ some 45) (w : World) : Calls Tryz.prog 190 #[.string s, .int .i64 10, .int .i64 32] w (PIis (numL 10 0 s.data.toList) w) := by
  have HP := qh (pu10_any s h0 h7)
  have e0 : (s.toList == ([] : List UInt8)) = false := by rw [ByteArray.toList_eq, beq_eq_false_iff_ne]; intro h; exact h0 (by show s.data.size = 0; have := congrArg List.length h; simpa using this)
  have hpos : 0 < s.size := by omega
  obtain ⟨c, hc⟩ : ∃ c, s[0]'hpos = c := ⟨_, rfl⟩
  have hix : ∀ W : World, (Instr.index 9 (.string s) (.int .i64 0)).run Tryz.prog W = .ok (.int .u8 (c.toNat : Int)) W := by
    intro W
    rw [run_index_string W 9 s .i64 0 Tryz.underlying9, dif_pos ⟨by omega, by omega⟩]
    simp only [Int.toNat_zero, hc]
  have hhd : s.data.toList.head? = some c := by
    rw [List.head?_eq_getElem?, List.getElem?_eq_getElem (by exact hpos)]
    exact congrArg some hc
  rw [hhd] at hs1 hs2
  have b43 : ((c.toNat : Int) == 43) = false := by
    rw [beq_eq_false_iff_ne]; intro h; exact hs1 (congrArg some (UInt8.toNat_inj.1 (by show c.toNat = 43; omega)))
  have b45 : ((c.toNat : Int) == 45) = false := by
    rw [beq_eq_false_iff_ne]; intro h; exact hs2 (congrArg some (UInt8.toNat_inj.1 (by show c.toNat = 45; omega)))
  have hlt : ∀ n, numL 10 0 s.data.toList = some n → n < 268435456 := fun n h => by
    have h1 := numL_lt 10 (by decide) _ 0 n 1 h (by decide)
    have h2 : 16 ^ s.data.toList.length ≤ 268435456 := pow_le7 (by exact h7)
    omega
  have HLT := qh hlt
  obtain ⟨r, hr⟩ : ∃ r, numL 10 0 s.data.toList = r := ⟨_, rfl⟩
  rw [hr] at HP HLT ⊢
  have hq2 : ∀ W, (binOp .neq 136 (.iface 215 (.int .i64 2)) (.iface 215 (.int .i64 1))).run Tryz.prog W = .ok (.bool true) W := fun W => Lib.run_neq_iface_int W 2 1 Tryz.underlying136 (by kernel_rfl) Tryz.underlying215
  clear hr hlt hhd hs1 hs2 hc
  go_enter Tryz.func190, Tryz.ntmps190
  cases r with
  | none =>
    go_wp2_with (go_at_call 198; refine (HP.out _).mono ?_; rintro e wx ⟨rfl, xx⟩; have XX := qh xx; clear xx)
    go_ret2
    exact ⟨rfl, XX.out⟩
  | some n =>
    have hn := HLT.out n rfl
    have k1 : decide ((2147483648 : Int) ≤ (n : Int)) = false := decide_eq_false (by omega)
    have k2 : decide (2147483648 ≤ n) = false := decide_eq_false (by omega)
    have hw : IntKind.i64.wrap (n : Int) = (n : Int) := IntWalk.i64_in _ (by omega)
    go_wp2_with (go_at_call 198; refine (HP.out _).mono ?_; rintro e wx ⟨rfl, xx⟩; have XX := qh xx; clear xx)
    go_ret2
    exact ⟨rfl, XX.out⟩
theorem pi16_any (s : ByteArray) (h0 : s.size ≠ 0) (h7 : s.size ≤ 7) (hs1 : s.data.toList.head? ≠ some 43) (hs2 : s.data.toList.head? ≠ some 45) (w : World) : Calls Tryz.prog 190 #[.string s, .int .i64 16, .int .i64 32] w (PIis (numL 16 0 s.data.toList) w) := by
  have HP := qh (pu16_any s h0 h7)
  have e0 : (s.toList == ([] : List UInt8)) = false := by rw [ByteArray.toList_eq, beq_eq_false_iff_ne]; intro h; exact h0 (by show s.data.size = 0; have := congrArg List.length h; simpa using this)
  have hpos : 0 < s.size := by omega
  obtain ⟨c, hc⟩ : ∃ c, s[0]'hpos = c := ⟨_, rfl⟩
  have hix : ∀ W : World, (Instr.index 9 (.string s) (.int .i64 0)).run Tryz.prog W = .ok (.int .u8 (c.toNat : Int)) W := by
    intro W
    rw [run_index_string W 9 s .i64 0 Tryz.underlying9, dif_pos ⟨by omega, by omega⟩]
    simp only [Int.toNat_zero, hc]
  have hhd : s.data.toList.head? = some c := by
    rw [List.head?_eq_getElem?, List.getElem?_eq_getElem (by exact hpos)]
    exact congrArg some hc
  rw [hhd] at hs1 hs2
  have b43 : ((c.toNat : Int) == 43) = false := by
    rw [beq_eq_false_iff_ne]; intro h; exact hs1 (congrArg some (UInt8.toNat_inj.1 (by show c.toNat = 43; omega)))
  have b45 : ((c.toNat : Int) == 45) = false := by
    rw [beq_eq_false_iff_ne]; intro h; exact hs2 (congrArg some (UInt8.toNat_inj.1 (by show c.toNat = 45; omega)))
  have hlt : ∀ n, numL 16 0 s.data.toList = some n → n < 268435456 := fun n h => by
    have h1 := numL_lt 16 (by decide) _ 0 n 1 h (by decide)
    have h2 : 16 ^ s.data.toList.length ≤ 268435456 := pow_le7 (by exact h7)
    omega
  have HLT := qh hlt
  obtain ⟨r, hr⟩ : ∃ r, numL 16 0 s.data.toList = r := ⟨_, rfl⟩
  rw [hr] at HP HLT ⊢
  have hq2 : ∀ W, (binOp .neq 136 (.iface 215 (.int .i64 2)) (.iface 215 (.int .i64 1))).run Tryz.prog W = .ok (.bool true) W := fun W => Lib.run_neq_iface_int W 2 1 Tryz.underlying136 (by kernel_rfl) Tryz.underlying215
  clear hr hlt hhd hs1 hs2 hc
  go_enter Tryz.func190, Tryz.ntmps190
  cases r with
  | none =>
    go_wp2_with (go_at_call 198; refine (HP.out _).mono ?_; rintro e wx ⟨rfl, xx⟩; have XX := qh xx; clear xx)
    go_ret2
    exact ⟨rfl, XX.out⟩
  | some n =>
    have hn := HLT.out n rfl
    have k1 : decide ((2147483648 : Int) ≤ (n : Int)) = false := decide_eq_false (by omega)
    have k2 : decide (2147483648 ≤ n) = false := decide_eq_false (by omega)
    have hw : IntKind.i64.wrap (n : Int) = (n : Int) := IntWalk.i64_in _ (by omega)
    go_wp2_with (go_at_call 198; refine (HP.out _).mono ?_; rintro e wx ⟨rfl, xx⟩; have XX := qh xx; clear xx)
    go_ret2
    exact ⟨rfl, XX.out⟩
def layTE_ren : Go.Shelf.Ren := ⟨fun | 129 => 216 | 171 => 208 | 205 => 207 | 243 => 209 | 245 => 191 | 246 => 210 | 279 => 199 | 280 => 200 | 281 => 201 | 282 => 202 | 283 => 211 | 284 => 212 | 285 => 213 | 286 => 214 | 316 => 206 | 317 => 215 | 318 => 217 | 319 => 218 | 320 => 219 | 337 => 220 | 338 => 221 | n => n, fun | 0 => 0 | 2 => 2 | 3 => 3 | 4 => 4 | 5 => 5 | 9 => 9 | 20 => 20 | 37 => 71 | 46 => 188 | 51 => 204 | 53 => 214 | 75 => 136 | 80 => 86 | 127 => 121 | 143 => 226 | 145 => 228 | 167 => 215 | 168 => 218 | 171 => 230 | 173 => 233 | 210 => 224 | 212 => 236 | 213 => 237 | 232 => 240 | 233 => 241 | n => n, fun | 15 => 3 | 16 => 4 | 17 => 5 | 18 => 6 | 19 => 7 | n => n⟩
theorem layTE : Go.Proofs.LaysC.n245 Tryz.prog layTE_ren := {
  mixed := by kernel_rfl
  f129 := Tryz.func216.trans (congrArg some (by kernel_rfl))
  f171 := Tryz.func208.trans (congrArg some (by kernel_rfl))
  f205 := Tryz.func207.trans (congrArg some (by kernel_rfl))
  f243 := Tryz.func209.trans (congrArg some (by kernel_rfl))
  f245 := Tryz.func191.trans (congrArg some (by kernel_rfl))
  f246 := Tryz.func210.trans (congrArg some (by kernel_rfl))
  f279 := Tryz.func199.trans (congrArg some (by kernel_rfl))
  f280 := Tryz.func200.trans (congrArg some (by kernel_rfl))
  f281 := Tryz.func201.trans (congrArg some (by kernel_rfl))
  f282 := Tryz.func202.trans (congrArg some (by kernel_rfl))
  f283 := Tryz.func211.trans (congrArg some (by kernel_rfl))
  f284 := Tryz.func212.trans (congrArg some (by kernel_rfl))
  f285 := Tryz.func213.trans (congrArg some (by kernel_rfl))
  f286 := Tryz.func214.trans (congrArg some (by kernel_rfl))
  f316 := Tryz.func206.trans (congrArg some (by kernel_rfl))
  f317 := Tryz.func215.trans (congrArg some (by kernel_rfl))
  f318 := Tryz.func217.trans (congrArg some (by kernel_rfl))
  f319 := Tryz.func218.trans (congrArg some (by kernel_rfl))
  f320 := Tryz.func219.trans (congrArg some (by kernel_rfl))
  f337 := Tryz.func220.trans (congrArg some (by kernel_rfl))
  f338 := Tryz.func221.trans (congrArg some (by kernel_rfl))
  t0 := Tryz.underlying0
  a0 := Tryz.isAgg0
  z0 := Tryz.sizeOf0
  v0 := Tryz.zeroValue0
  t2 := Tryz.underlying2
  a2 := Tryz.isAgg2
  z2 := Tryz.sizeOf2
  v2 := Tryz.zeroValue2
  t3 := Tryz.underlying3
  a3 := Tryz.isAgg3
  z3 := Tryz.sizeOf3
  v3 := Tryz.zeroValue3
  t4 := Tryz.underlying4
  a4 := Tryz.isAgg4
  z4 := Tryz.sizeOf4
  v4 := Tryz.zeroValue4
  t5 := Tryz.underlying5
  a5 := Tryz.isAgg5
  z5 := Tryz.sizeOf5
  v5 := Tryz.zeroValue5
  t9 := Tryz.underlying9
  a9 := Tryz.isAgg9
  z9 := Tryz.sizeOf9
  v9 := Tryz.zeroValue9
  t20 := Tryz.underlying20
  a20 := Tryz.isAgg20
  z20 := Tryz.sizeOf20
  v20 := Tryz.zeroValue20
  t37 := Tryz.underlying71
  a37 := Tryz.isAgg71
  z37 := Tryz.sizeOf71
  v37 := Tryz.zeroValue71
  t46 := Tryz.underlying188
  a46 := Tryz.isAgg188
  z46 := Tryz.sizeOf188
  v46 := Tryz.zeroValue188
  t51 := Tryz.underlying204
  a51 := Tryz.isAgg204
  z51 := Tryz.sizeOf204
  v51 := Tryz.zeroValue204
  t53 := Tryz.underlying214
  a53 := Tryz.isAgg214
  z53 := Tryz.sizeOf214
  v53 := Tryz.zeroValue214
  t75 := Tryz.underlying136
  a75 := Tryz.isAgg136
  z75 := Tryz.sizeOf136
  v75 := Tryz.zeroValue136
  t127 := Tryz.underlying121
  a127 := Tryz.isAgg121
  z127 := Tryz.sizeOf121
  v127 := Tryz.zeroValue121
  t143 := Tryz.underlying226
  a143 := Tryz.isAgg226
  z143 := Tryz.sizeOf226
  v143 := Tryz.zeroValue226
  t145 := Tryz.underlying228
  a145 := Tryz.isAgg228
  z145 := Tryz.sizeOf228
  v145 := Tryz.zeroValue228
  t167 := Tryz.underlying215
  a167 := Tryz.isAgg215
  z167 := Tryz.sizeOf215
  v167 := Tryz.zeroValue215
  t168 := Tryz.underlying218
  a168 := Tryz.isAgg218
  z168 := Tryz.sizeOf218
  v168 := Tryz.zeroValue218
  t171 := Tryz.underlying230
  a171 := Tryz.isAgg230
  z171 := Tryz.sizeOf230
  v171 := Tryz.zeroValue230
  t173 := Tryz.underlying233
  a173 := Tryz.isAgg233
  z173 := Tryz.sizeOf233
  v173 := Tryz.zeroValue233
  t210 := Tryz.underlying224
  a210 := Tryz.isAgg224
  z210 := Tryz.sizeOf224
  v210 := Tryz.zeroValue224
  t212 := Tryz.underlying236
  a212 := Tryz.isAgg236
  z212 := Tryz.sizeOf236
  v212 := Tryz.zeroValue236
  t213 := Tryz.underlying237
  a213 := Tryz.isAgg237
  z213 := Tryz.sizeOf237
  t232 := Tryz.underlying240
  a232 := Tryz.isAgg240
  z232 := Tryz.sizeOf240
  v232 := Tryz.zeroValue240
  t233 := Tryz.underlying241
  a233 := Tryz.isAgg241
  z233 := Tryz.sizeOf241
  v233 := Tryz.zeroValue241
  g15 := by kernel_rfl
  g16 := by kernel_rfl
  g17 := by kernel_rfl
  g18 := by kernel_rfl
  g19 := by kernel_rfl
  t80 := Tryz.underlying86
  a80 := Tryz.isAgg86
  z80 := Tryz.sizeOf86
  v80 := Tryz.zeroValue86
  i0 := by kernel_rfl
  i2 := by kernel_rfl
  i3 := by kernel_rfl
  i4 := by kernel_rfl
  i5 := by kernel_rfl
  i9 := by kernel_rfl
  i20 := by kernel_rfl
  i37 := by kernel_rfl
  i46 := by kernel_rfl
  i51 := by kernel_rfl
  i53 := by kernel_rfl
  i75 := by kernel_rfl
  i80 := by kernel_rfl
  i127 := by kernel_rfl
  i143 := by kernel_rfl
  i145 := by kernel_rfl
  i167 := by kernel_rfl
  i168 := by kernel_rfl
  i171 := by kernel_rfl
  i173 := by kernel_rfl
  i210 := by kernel_rfl
  i212 := by kernel_rfl
  i232 := by kernel_rfl
  i233 := by kernel_rfl
  m15 := by kernel_rfl
  m16 := by kernel_rfl
  m17 := by kernel_rfl
  m18 := by kernel_rfl
  m19 := by kernel_rfl
  c0 := by kernel_rfl
  c2 := by kernel_rfl
  c3 := by kernel_rfl
  c4 := by kernel_rfl
  c5 := by kernel_rfl
  c9 := by kernel_rfl
  c20 := by kernel_rfl
  c37 := by kernel_rfl
  c46 := by kernel_rfl
  c51 := by kernel_rfl
  c53 := by kernel_rfl
  c75 := by kernel_rfl
  c80 := by kernel_rfl
  c127 := by kernel_rfl
  c143 := by kernel_rfl
  c145 := by kernel_rfl
  c167 := by kernel_rfl
  c168 := by kernel_rfl
  c171 := by kernel_rfl
  c173 := by kernel_rfl
  c210 := by kernel_rfl
  c212 := by kernel_rfl
  c213 := by kernel_rfl
  c232 := by kernel_rfl
  c233 := by kernel_rfl }

structure LW (w : World) : Prop where
  tabs : Tabs w
  len : ∃ m : Int, w.cell? ⟨0, 0, none⟩ = some (.int .i64 m)
  err : ∃ ev, w.cell? ⟨3, 0, none⟩ = some ev ∧ (ev = .nilIface ∨ ∃ te pe, ev = .iface te pe)
theorem LW.ext {w w' : World} (h : LW w) (x : Ext w w') : LW w' := ⟨h.tabs.ext x, h.len.imp fun _ h => x.cell h, h.err.imp fun _ h => ⟨x.cell h.1, h.2⟩⟩
def ErrIs (w : World) (e : Ending) (w' : World) : Prop := ∃ p, e = .returned (.iface 218 p) ∧ Ext w w'
theorem toError_any (fn s : ByteArray) (base bits : Int) (w : World) (hl : LW w) (hs : s.size ≤ 281474976710656) :
    Calls Tryz.prog 191 #[.string fn, .string s, .int .i64 base, .int .i64 bits, .iface 215 (.int .i64 2)] w (ErrIs w) := by
  obtain ⟨ev, h1, h2⟩ := hl.err
  exact (Any.strconv_toError_syntax layTE fn s base bits ev w hs h1 h2).mono fun _ _ ⟨N, h3, _, _, h4⟩ => ⟨_, h3, h4⟩
def PPis (r : Option Nat) (w : World) (e : Ending) (w' : World) : Prop := ∃ ev, e = .returned (.tuple #[.int .i64 (r.getD 0 : Nat), ev]) ∧ (r ≠ none → ev = .nilIface) ∧ (r = none → ∃ p, ev = .iface 218 p) ∧ Ext w w'
theorem ppi10_any (s : ByteArray) (h0 : s.size ≠ 0) (h7 : s.size ≤ 7) (hs1 : s.data.toList.head? ≠ some 43) (hs2 : s.data.toList.head? ≠ some 45) (w : World) (hl : LW w) : Calls Tryz.prog 171 #[.string s, .int .i64 10, .int .i64 32] w (PPis (numL 10 0 s.data.toList) w) := by
  have HP := qh (pi10_any s h0 h7 hs1 hs2)
  obtain ⟨r, hr⟩ : ∃ r, numL 10 0 s.data.toList = r := ⟨_, rfl⟩
  rw [hr] at HP ⊢
  have HL := qh hl
  have HS := qh (show s.size ≤ 281474976710656 by omega)
  clear hr h0 h7 hs1 hs2 hl
  go_enter Tryz.func171, Tryz.ntmps171
  cases r with
  | none =>
    go_wp2_with (go_at_call 190; refine (HP.out _).mono ?_)
    rintro e w1 ⟨rfl, x1⟩
    have X1 := qh x1
    clear x1
    go_wp2_with (go_at_call 191; refine (toError_any _ s 10 32 w1 (HL.out.ext X1.out) HS.out).mono ?_)
    rintro e w2 ⟨p, rfl, x2⟩
    go_wp2_with fail
    go_ret2
    exact ⟨_, rfl, fun h => absurd rfl h, fun _ => ⟨p, rfl⟩, X1.out.trans x2⟩
  | some n =>
    go_wp2_with (go_at_call 190; refine (HP.out _).mono ?_)
    rintro e w1 ⟨rfl, x1⟩
    go_wp2_with fail
    go_ret2
    exact ⟨_, rfl, fun _ => rfl, (fun h => by cases h), x1⟩
theorem ppi16_any (s : ByteArray) (h0 : s.size ≠ 0) (h7 : s.size ≤ 7) (hs1 : s.data.toList.head? ≠ some 43) (hs2 : s.data.toList.head? ≠ some 45) (w : World) (hl : LW w) : Calls Tryz.prog 171 #[.string s, .int .i64 16, .int .i64 32] w (PPis (numL 16 0 s.data.toList) w) := by
  have HP := qh (pi16_any s h0 h7 hs1 hs2)
  obtain ⟨r, hr⟩ : ∃ r, numL 16 0 s.data.toList = r := ⟨_, rfl⟩
  rw [hr] at HP ⊢
  have HL := qh hl
  have HS := qh (show s.size ≤ 281474976710656 by omega)
  clear hr h0 h7 hs1 hs2 hl
  go_enter Tryz.func171, Tryz.ntmps171
  cases r with
  | none =>
    go_wp2_with (go_at_call 190; refine (HP.out _).mono ?_)
    rintro e w1 ⟨rfl, x1⟩
    have X1 := qh x1
    clear x1
    go_wp2_with (go_at_call 191; refine (toError_any _ s 16 32 w1 (HL.out.ext X1.out) HS.out).mono ?_)
    rintro e w2 ⟨p, rfl, x2⟩
    go_wp2_with fail
    go_ret2
    exact ⟨_, rfl, fun h => absurd rfl h, fun _ => ⟨p, rfl⟩, X1.out.trans x2⟩
  | some n =>
    go_wp2_with (go_at_call 190; refine (HP.out _).mono ?_)
    rintro e w1 ⟨rfl, x1⟩
    go_wp2_with fail
    go_ret2
    exact ⟨_, rfl, fun _ => rfl, (fun h => by cases h), x1⟩
def signR (r : Int) : Prop := r = 43 ∨ r = 45 ∨ r = 95
def IRis (r : Int) (w : World) (e : Ending) (w' : World) : Prop := ∃ z : Int, e = .returned (.int .i64 z) ∧ (0 ≤ z ↔ signR r) ∧ Ext w w'
theorem index_high {x : UInt8} (hx : 128 ≤ x.toNat) (l : List UInt8) (h : ∀ b ∈ l, b.toNat < 128) : Lib.indexByte l x = -1 := by
  induction l with
  | nil => rfl
  | cons b r ih =>
    unfold Lib.indexByte
    have hb : (b == x) = false := by rw [beq_eq_false_iff_ne]; rintro rfl; have := h b (by simp); omega
    rw [if_neg (by simp [hb]), ih fun c hc => h c (by simp [hc])]
    rfl
theorem encode_high {n : Nat} (hn : n < 55296 ∨ 57344 ≤ n ∧ n ≤ 1114111) (h128 : 128 ≤ n) : ((Utf8.encode (n : Int)).size = 2 ∨ (Utf8.encode (n : Int)).size = 3 ∨ (Utf8.encode (n : Int)).size = 4) ∧ ∀ b ∈ (Utf8.encode (n : Int)).data.toList, 128 ≤ b.toNat := by
  have e := encode_nat hn
  have hs : ∀ b : ByteArray, b.size = b.data.toList.length := fun _ => rfl
  rw [hs (Utf8.encode (n : Int)), e]
  rw [if_neg (by omega)]
  split
  · exact ⟨.inl rfl, by intro b hb; simp only [List.mem_cons, List.not_mem_nil, or_false] at hb; rcases hb with h | h <;> (rw [h, ofNat_nat (by omega)]; omega)⟩
  · split
    · exact ⟨.inr (.inl rfl), by intro b hb; simp only [List.mem_cons, List.not_mem_nil, or_false] at hb; rcases hb with h | h | h <;> (rw [h, ofNat_nat (by omega)]; omega)⟩
    · exact ⟨.inr (.inr rfl), by intro b hb; simp only [List.mem_cons, List.not_mem_nil, or_false] at hb; rcases hb with h | h | h | h <;> (rw [h, ofNat_nat (by omega)]; omega)⟩
theorem IndexRune_low (r : Int) (h0 : 0 ≤ r) (h1 : r < 128) (w : World) : Calls Tryz.prog 194 #[.string ⟨#[43, 45, 95]⟩, .int .i32 r] w (IRis r w) := by
  obtain ⟨c, hc⟩ : ∃ c : UInt8, r = (c.toNat : Int) := ⟨UInt8.ofNat r.toNat, by rw [ofNat_nat (by omega)]; omega⟩
  subst hc
  have hw : IntKind.u8.wrap (c.toNat : Int) = (c.toNat : Int) := IntWalk.u8_in _ (by omega)
  have hz : 0 ≤ Lib.indexByte [43, 45, 95] c ↔ signR (c.toNat : Int) := by
    unfold signR
    revert c
    intro c _ _ _
    have h := all_bytes (p := fun c => (0 ≤ Lib.indexByte [43, 45, 95] c ↔ ((c.toNat : Int) = 43 ∨ (c.toNat : Int) = 45 ∨ (c.toNat : Int) = 95))) (by decide +kernel) c
    exact h
  have HZ := qh hz
  have HI := qh (IndexByte_any ⟨#[43, 45, 95]⟩ c (c.toNat : Int) rfl)
  clear hz
  go_enter Tryz.func194, Tryz.ntmps194
  go_wp2_with (go_at_call 92; refine (HI.out _).mono ?_)
  rintro e w1 ⟨rfl, x1⟩
  go_wp2_with fail
  go_ret
  exact ⟨_, rfl, HZ.out, x1⟩
theorem IndexRune_high (n : Nat) (h : n < 55296 ∨ 57344 ≤ n ∧ n ≤ 1114111) (h128 : 128 ≤ n) (hE : n ≠ 65533) (w : World) : Calls Tryz.prog 194 #[.string ⟨#[43, 45, 95]⟩, .int .i32 (n : Int)] w (IRis (n : Int) w) := by
  have hv : Utf8.valid (n : Int) = true := by unfold Utf8.valid; simp; omega
  have HV := qh (ValidRune_ok (n : Int) hv)
  obtain ⟨h234, hb⟩ := encode_high h h128
  have k1 : decide ((n : Int) < 128) = false := decide_eq_false (by omega)
  have k2 : decide (n < 128) = false := decide_eq_false (by omega)
  have k3 : ((n : Int) == 65533) = false := by rw [beq_eq_false_iff_ne]; omega
  have FIN := qh (fun (w' : World) (x : Ext w w') => (⟨-1, rfl, ⟨fun h => absurd h (by decide), fun h => by unfold signR at h; omega⟩, x⟩ : IRis (n : Int) w (.returned (.int .i64 (-1))) w'))
  have hcv : ∀ W : World, (Go.convert 21 9 (.int .i32 (n : Int))).run Tryz.prog W = .ok (.string (Utf8.encode (n : Int))) W := by
    intro W
    simp [convert, run_underlying Tryz.underlying21, run_underlying Tryz.underlying9, Conv.intToString]
  obtain ⟨e, he⟩ : ∃ e, Utf8.encode (n : Int) = e := ⟨_, rfl⟩
  rw [he] at h234 hb hcv
  have HB := qh hb
  clear he hb hv h hE h128
  rcases h234 with h2 | h3 | h4
  ·
    have hsz : e.size = 2 := h2
    have hlast : 1 < e.size := by omega
    obtain ⟨x, hx⟩ : ∃ x, e[1]'hlast = x := ⟨_, rfl⟩
    have hx128 : 128 ≤ x.toNat := HB.out x (by rw [← hx]; exact byte_mem.2 ⟨1, hlast, rfl⟩)
    have hix : ∀ W : World, (Instr.index 9 (.string e) (.int .i64 1)).run Tryz.prog W = .ok (.int .u8 (x.toNat : Int)) W := by
      intro W
      rw [run_index_string W 9 e .i64 1 Tryz.underlying9, dif_pos ⟨by omega, by omega⟩]
      exact congrArg (fun y : UInt8 => Result.ok (Value.int .u8 (y.toNat : Int)) W) hx
    have hneg : Lib.indexByte ((⟨#[43, 45, 95]⟩ : ByteArray).extract 2 3).data.toList x = -1 := index_high hx128 _ (by decide +kernel)
    have HI := qh (fun W => hneg ▸ IndexByte_any ((⟨#[43, 45, 95]⟩ : ByteArray).extract 2 3) x (x.toNat : Int) rfl W)
    have kne : ((45 : Int) == (x.toNat : Int)) = false := by rw [beq_eq_false_iff_ne]; omega
    have kne2 : ((45 : Int) != (x.toNat : Int)) = true := by simp [bne, kne]
    clear h2 hlast hx hx128 hneg
    go_enter Tryz.func194, Tryz.ntmps194
    go_wp2_with (go_at_call 172; refine (HV.out _).mono ?_)
    rintro e1 w1 ⟨rfl, x1⟩
    have X1 := qh x1
    clear x1
    go_wp2_with fail
    go_step3
    go_wp2_with fail
    go_loopw [9, 10, 11, 12] (fun i _ _ _ wr => i = .int .i64 1 ∧ Ext w wr) (fun _ _ _ _ _ => 0)
    case atStart => exact ⟨rfl, X1.out⟩
    case round =>
      obtain ⟨rfl, xr⟩ := hrel
      have XR := qh xr
      clear xr
      have hix0 : ∀ W : World, (Instr.index 9 (.string ⟨#[43, 45, 95]⟩) (.int .i64 1)).run Tryz.prog W = .ok (.int .u8 45) W := by
        intro W
        rw [run_index_string W 9 ⟨#[43, 45, 95]⟩ .i64 1 Tryz.underlying9, dif_pos ⟨by decide, by decide⟩]
        rfl
      go_wp2_with fail
      go_step3
      go_upto_region 6 with fail
      refine wp_region_ext (by kernel_rfl) (by kernel_rfl) ?_
      repeat (go_big_quiet_step (fail))
      refine wpQuiet_nil ?_
      rintro _ ⟨u0, rfl⟩
      have XU0 := qh (XR.out.trans u0.ext)
      go_upto_region 7 with fail
      refine wp_region_ext (by kernel_rfl) (by kernel_rfl) ?_
      repeat (go_big_quiet_step ((go_at_call 92; exact inExt (HI.out _))))
      refine wpQuiet_nil ?_
      rintro _ ⟨u, rfl⟩
      go_wp2_with fail
      rw [Exit.noGoto_ret]
      go_ret
      exact FIN.out _ (XU0.out.trans u.ext)
  ·
    have hsz : e.size = 3 := h3
    have hlast : 2 < e.size := by omega
    obtain ⟨x, hx⟩ : ∃ x, e[2]'hlast = x := ⟨_, rfl⟩
    have hx128 : 128 ≤ x.toNat := HB.out x (by rw [← hx]; exact byte_mem.2 ⟨2, hlast, rfl⟩)
    have hix : ∀ W : World, (Instr.index 9 (.string e) (.int .i64 2)).run Tryz.prog W = .ok (.int .u8 (x.toNat : Int)) W := by
      intro W
      rw [run_index_string W 9 e .i64 2 Tryz.underlying9, dif_pos ⟨by omega, by omega⟩]
      exact congrArg (fun y : UInt8 => Result.ok (Value.int .u8 (y.toNat : Int)) W) hx
    have hneg : Lib.indexByte ((⟨#[43, 45, 95]⟩ : ByteArray).extract 3 3).data.toList x = -1 := index_high hx128 _ (by decide +kernel)
    have HI := qh (fun W => hneg ▸ IndexByte_any ((⟨#[43, 45, 95]⟩ : ByteArray).extract 3 3) x (x.toNat : Int) rfl W)
    have kne : ((95 : Int) == (x.toNat : Int)) = false := by rw [beq_eq_false_iff_ne]; omega
    have kne2 : ((95 : Int) != (x.toNat : Int)) = true := by simp [bne, kne]
    clear h3 hlast hx hx128 hneg
    go_enter Tryz.func194, Tryz.ntmps194
    go_wp2_with (go_at_call 172; refine (HV.out _).mono ?_)
    rintro e1 w1 ⟨rfl, x1⟩
    have X1 := qh x1
    clear x1
    go_wp2_with fail
    go_step3
    go_wp2_with fail
    go_loopw [9, 10, 11, 12] (fun i _ _ _ wr => i = .int .i64 2 ∧ Ext w wr) (fun _ _ _ _ _ => 0)
    case atStart => exact ⟨rfl, X1.out⟩
    case round =>
      obtain ⟨rfl, xr⟩ := hrel
      have XR := qh xr
      clear xr
      have hix0 : ∀ W : World, (Instr.index 9 (.string ⟨#[43, 45, 95]⟩) (.int .i64 2)).run Tryz.prog W = .ok (.int .u8 95) W := by
        intro W
        rw [run_index_string W 9 ⟨#[43, 45, 95]⟩ .i64 2 Tryz.underlying9, dif_pos ⟨by decide, by decide⟩]
        rfl
      go_wp2_with fail
      go_step3
      go_upto_region 6 with fail
      refine wp_region_ext (by kernel_rfl) (by kernel_rfl) ?_
      repeat (go_big_quiet_step (fail))
      refine wpQuiet_nil ?_
      rintro _ ⟨u0, rfl⟩
      have XU0 := qh (XR.out.trans u0.ext)
      go_upto_region 7 with fail
      refine wp_region_ext (by kernel_rfl) (by kernel_rfl) ?_
      repeat (go_big_quiet_step ((go_at_call 92; exact inExt (HI.out _))))
      refine wpQuiet_nil ?_
      rintro _ ⟨u, rfl⟩
      go_wp2_with fail
      rw [Exit.noGoto_ret]
      go_ret
      exact FIN.out _ (XU0.out.trans u.ext)
  · have hsz : e.size = 4 := h4
    clear h4
    go_enter Tryz.func194, Tryz.ntmps194
    go_wp2_with (go_at_call 172; refine (HV.out _).mono ?_)
    rintro e1 w1 ⟨rfl, x1⟩
    have X1 := qh x1
    clear x1
    go_wp2_with fail
    go_step3
    go_wp2_with fail
    go_loopw [9, 10, 11, 12] (fun i _ _ _ wr => i = .int .i64 3 ∧ Ext w wr) (fun _ _ _ _ _ => 0)
    case atStart => exact ⟨rfl, X1.out⟩
    case round =>
      obtain ⟨rfl, xr⟩ := hrel
      have XR := qh xr
      clear xr
      go_wp2_with fail
      rw [Exit.noGoto_ret]
      go_ret
      exact FIN.out _ XR.out
theorem IndexRune_bad (w : World) : Calls Tryz.prog 194 #[.string ⟨#[43, 45, 95]⟩, .int .i32 65533] w (IRis 65533 w) := by
  go_enter Tryz.func194, Tryz.ntmps194
  go_wp2_with fail
  go_loopw [5, 6] (fun _ _ wr => ∃ pos : Nat, wr.heap[w.heap.size]? = some (.stringIter ⟨#[43, 45, 95]⟩ pos) ∧ Ext w wr ∧ pos ≤ 3) (fun _ _ wr => 3 - wr.iterPos w.heap.size)
  case atStart => exact ⟨0, by have := World.iter_heap w ⟨#[43, 45, 95]⟩ 0; simpa using this, (Ext.refl w).alloc _, Nat.zero_le _⟩
  case round =>
    obtain ⟨pos, hit, xr, hle⟩ := hrel
    have hsz : w.heap.size < wr.heap.size := (Array.getElem?_eq_some_iff.1 hit).1
    by_cases hp : pos < (⟨#[43, 45, 95]⟩ : ByteArray).size
    · have hp3 : pos < 3 := hp
      have hdec : Utf8.decode ⟨#[43, 45, 95]⟩ pos = ((if pos = 0 then 43 else if pos = 1 then 45 else 95), 1) := by
        have h : pos = 0 ∨ pos = 1 ∨ pos = 2 := by omega
        rcases h with rfl | rfl | rfl <;> decide +kernel
      have hnx : ∀ ty, (Instr.next (.pointer (some ⟨w.heap.size, 0, none⟩)) true ty).run Tryz.prog wr = _ := fun ty => Lib.run_next_any_at wr w.heap.size ⟨#[43, 45, 95]⟩ pos ty hit hp
      have hit2 := Lib.iterAt_heap wr w.heap.size ⟨#[43, 45, 95]⟩ pos (pos + 1) hit
      have xr2 := xr.iterAt (Nat.le_refl _) ⟨#[43, 45, 95]⟩ (pos + 1)
      rw [hdec] at hnx
      obtain ⟨v, hv, hv2⟩ : ∃ v : Nat, (if pos = 0 then 43 else if pos = 1 then 45 else 95) = v ∧ v < 128 := ⟨_, rfl, by split; decide; split <;> decide⟩
      rw [hv] at hnx
      have HIT := qh hit
      have HIT2 := qh hit2
      have XR2 := qh xr2
      have k1 : ((v : Int) == 65533) = false := by rw [beq_eq_false_iff_ne]; omega
      clear hit hit2 xr xr2 hdec hv hp
      go_wp2_with fail
      go_roundw
      case rel => exact ⟨pos + 1, HIT2.out, XR2.out, by omega⟩
      case measure => simp only [World.iterPos, HIT2.out, HIT.out]; omega
    · have hnx : ∀ ty, (Instr.next (.pointer (some ⟨w.heap.size, 0, none⟩)) true ty).run Tryz.prog wr = _ := fun ty => Lib.run_next_end_at wr w.heap.size ⟨#[43, 45, 95]⟩ pos ty hit hp
      have XR := qh xr
      clear xr
      go_wp2
      go_ret
      exact ⟨-1, rfl, ⟨fun h => absurd h (by decide), fun h => by unfold signR at h; omega⟩, XR.out⟩
theorem IndexRune_any (r : Int) (h : Utf8.valid r = true) (w : World) : Calls Tryz.prog 194 #[.string ⟨#[43, 45, 95]⟩, .int .i32 r] w (IRis r w) := by
  obtain ⟨n, rfl, hn⟩ := valid_cases h
  by_cases h1 : n < 128
  · exact IndexRune_low _ (by omega) (by omega) w
  · by_cases h2 : n = 65533
    · subst h2; exact IndexRune_bad w
    · exact IndexRune_high n hn (by omega) h2 w
def signC (c : UInt8) : Prop := c = 43 ∨ c = 45 ∨ c = 95
def HeadOk (l : List UInt8) : Prop := l.head? ≠ some 43 ∧ l.head? ≠ some 45
def IAis (s : ByteArray) (w : World) (e : Ending) (w' : World) : Prop := ∃ z : Int, e = .returned (.int .i64 z) ∧ (0 ≤ z → ∃ c ∈ s.data.toList, signC c) ∧ (z < 0 → HeadOk s.data.toList) ∧ Ext w w'
def CAis (s : ByteArray) (w : World) (e : Ending) (w' : World) : Prop := ∃ b : Bool, e = .returned (.bool b) ∧ (b = true → ∃ c ∈ s.data.toList, signC c) ∧ (b = false → HeadOk s.data.toList) ∧ Ext w w'
theorem sign_at {s : ByteArray} {pos : Nat} (hp : pos < s.size) (h : signR (Int.ofNat (Utf8.decode s pos).1)) : ∃ c ∈ s.data.toList, signC c := by
  have hs : (Utf8.decode s pos).1 < 128 := by unfold signR at h; simp at h; omega
  obtain ⟨h1, h2⟩ := decode_small s hp hs
  rw [h1] at h
  refine ⟨s[pos], byte_mem.2 ⟨pos, hp, rfl⟩, ?_⟩
  unfold signR at h
  simp at h
  unfold signC
  rcases h with h | h | h
  · exact .inl (UInt8.toNat_inj.1 (by show (s[pos]).toNat = 43; omega))
  · exact .inr (.inl (UInt8.toNat_inj.1 (by show (s[pos]).toNat = 45; omega)))
  · exact .inr (.inr (UInt8.toNat_inj.1 (by show (s[pos]).toNat = 95; omega)))
theorem head_ok {s : ByteArray} (hp : 0 < s.size) (h : ¬ signR (Int.ofNat (Utf8.decode s 0).1)) : HeadOk s.data.toList := by
  have hd : s.data.toList.head? = some (s[0]'hp) := by rw [List.head?_eq_getElem?, List.getElem?_eq_getElem (by exact hp)]; rfl
  unfold HeadOk
  rw [hd]
  constructor
  · intro e
    have e1 : s[0]'hp = 43 := Option.some.inj e
    have h2 := decode_ascii s 0 hp (by rw [e1]; decide)
    exact h (by rw [h2, e1]; exact .inl rfl)
  · intro e
    have e1 : s[0]'hp = 45 := Option.some.inj e
    have h2 := decode_ascii s 0 hp (by rw [e1]; decide)
    exact h (by rw [h2, e1]; exact .inr (.inl rfl))
theorem IndexAny_any (s : ByteArray) (h0 : s.size ≠ 0) (h7 : s.size ≤ 7) (w : World) : Calls Tryz.prog 189 #[.string s, .string ⟨#[43, 45, 95]⟩] w (IAis s w) := by
  have k8 : ¬ (8 : Int) < (s.size : Int) := by omega
  have HASC := qh (show ∀ W, Calls Tryz.prog 197 #[.int .i64 (s.size : Int)] W (RBool false W) from fun W => by
    have x := Ext.refl W
    go_enter Tryz.func197, Tryz.ntmps197
    go_wp2_with fail
    go_ret
    exact ⟨by simp [k8], x⟩)
  have H0 := qh (show 0 < s.size by omega)
  clear k8 h0
  go_enter Tryz.func189, Tryz.ntmps189
  go_wp2_with (go_at_call 197; refine (HASC.out _).mono ?_)
  rintro e w1 ⟨rfl, x1⟩
  have X1 := qh x1
  clear x1
  go_wp2_with fail
  go_loopw [9, 10] (fun _ _ wr => ∃ pos : Nat, wr.heap[w1.heap.size]? = some (.stringIter s pos) ∧ Ext w1 wr ∧ (0 < pos → HeadOk s.data.toList)) (fun _ _ wr => s.size - wr.iterPos w1.heap.size)
  case atStart => exact ⟨0, by have := World.iter_heap w1 s 0; simpa using this, (Ext.refl w1).alloc _, fun h => absurd h (by decide)⟩
  case round =>
    obtain ⟨pos, hit, xr, hpre⟩ := hrel
    have hsz : w1.heap.size < wr.heap.size := (Array.getElem?_eq_some_iff.1 hit).1
    have HPRE := qh hpre
    clear hpre
    by_cases hp : pos < s.size
    · have hnx : ∀ ty, (Instr.next (.pointer (some ⟨w1.heap.size, 0, none⟩)) true ty).run Tryz.prog wr = _ := fun ty => Lib.run_next_any_at wr w1.heap.size s pos ty hit hp
      have HV := qh (decode_valid s pos)
      have HSG := qh (fun h => sign_at (s := s) hp h)
      have HHD := qh (fun (e : pos = 0) (h : ¬ signR (Int.ofNat (Utf8.decode s pos).1)) => head_ok (s := s) (by omega) (e ▸ h))
      have hwd := width_pos s pos hp
      have HDL := qh (decode_le s pos)
      have hit2 := Lib.iterAt_heap wr w1.heap.size s pos (pos + (Utf8.decode s pos).2) hit
      have xr2 := xr.iterAt (Nat.le_refl _) s (pos + (Utf8.decode s pos).2)
      have HIT2 := qh hit2
      have XR2 := qh xr2
      have HIT := qh hit
      clear hit hit2 xr xr2
      generalize Utf8.decode s pos = D at *
      obtain ⟨rn, wd⟩ := D
      dsimp only at *
      have HIR := qh (fun W => IndexRune_any (Int.ofNat rn) HV.out W)
      have HW := qh hwd
      clear hwd
      go_wp2_with (go_at_call 194; refine (HIR.out _).mono ?_)
      rintro e wx ⟨z, rfl, hz, xx⟩
      have XX := qh (XR2.out.trans xx)
      have hitx := xx.block HIT2.out
      have HITX := qh hitx
      have HZ := qh hz
      clear hz hitx xx
      by_cases hz0 : (0 : Int) ≤ z
      · have FS := qh (HSG.out (HZ.out.1 hz0))
        go_wp2_with fail
        go_ret
        exact ⟨_, rfl, fun _ => FS.out, fun h => by omega, X1.out.trans XX.out⟩
      · have FH := qh (show HeadOk s.data.toList from by
          by_cases hp0 : pos = 0
          · exact HHD.out hp0 fun h => hz0 (HZ.out.2 h)
          · exact HPRE.out (by omega))
        have kz : decide ((0 : Int) ≤ z) = false := decide_eq_false hz0
        have kz2 : z < 0 := by omega
        clear hz0
        go_wp2_with fail
        go_roundw
        case rel => exact ⟨pos + wd, HITX.out, XX.out, fun _ => FH.out⟩
        case measure => simp only [World.iterPos, HITX.out, HIT.out]; have := HW.out; omega
    · have hnx : ∀ ty, (Instr.next (.pointer (some ⟨w1.heap.size, 0, none⟩)) true ty).run Tryz.prog wr = _ := fun ty => Lib.run_next_end_at wr w1.heap.size s pos ty hit hp
      have XR := qh xr
      have FH := qh (HPRE.out (by have := H0.out; omega))
      clear xr
      go_wp2
      go_ret
      exact ⟨-1, rfl, fun h => absurd h (by decide), fun _ => FH.out, X1.out.trans XR.out⟩
theorem ContainsAny_any (s : ByteArray) (h0 : s.size ≠ 0) (h7 : s.size ≤ 7) (w : World) : Calls Tryz.prog 170 #[.string s, .string ⟨#[43, 45, 95]⟩] w (CAis s w) := by
  have HI := qh (IndexAny_any s h0 h7)
  clear h0 h7
  go_enter Tryz.func170, Tryz.ntmps170
  go_wp2_with (go_at_call 189; refine (HI.out _).mono ?_)
  rintro e w1 ⟨z, rfl, h1, h2, x1⟩
  have H1 := qh h1
  have H2 := qh h2
  have X1 := qh x1
  clear h1 h2 x1
  go_wp2_with fail
  go_ret
  exact ⟨decide (0 ≤ z), rfl, fun h => H1.out (by simpa using h), fun h => H2.out (by simpa using h), X1.out⟩
theorem etext_none {s : ByteArray} (h : s.size = 0) : (s.toList == ([] : List UInt8)) = true := by rw [ByteArray.toList_eq, show s.data.toList = [] from List.eq_nil_of_length_eq_zero h]; rfl
theorem etext_some {s : ByteArray} (h : ¬ s.size = 0) : (s.toList == ([] : List UInt8)) = false := by
  rw [ByteArray.toList_eq, beq_eq_false_iff_ne]
  intro e
  exact h (by show s.data.toList.length = 0; rw [e]; rfl)
theorem numL_bad (b : Nat) (c : UInt8) (hc : b ≤ digV c) : ∀ (l : List UInt8) (m : Nat), c ∈ l → numL b m l = none := by
  intro l
  induction l with
  | nil => intro m h; cases h
  | cons d r ih =>
    intro m h
    rw [numL]
    rcases List.mem_cons.1 h with rfl | h
    · rw [if_pos hc]
    · split
      · rfl
      · exact ih _ h
theorem sign_bad {l : List UInt8} (b : Nat) (hb : b ≤ 16) (h : ∃ c ∈ l, signC c) : numL b 0 l = none := by
  obtain ⟨c, hc, hs⟩ := h
  refine numL_bad b c ?_ l 0 hc
  have h99 : digV c = 99 := by rcases hs with rfl | rfl | rfl <;> rfl
  omega
theorem ValidRune_any (n : Nat) (hn : n < 268435456) (w : World) : Calls Tryz.prog 172 #[.int .i32 (n : Int)] w (RBool (decide (n < 55296 ∨ 57344 ≤ n ∧ n ≤ 1114111)) w) := by
  have x := Ext.refl w
  by_cases h : n < 55296 ∨ 57344 ≤ n ∧ n ≤ 1114111
  · rw [decide_eq_true h]
    exact ValidRune_ok (n : Int) (by unfold Utf8.valid; simp; omega) w
  · rw [decide_eq_false h]
    have h1 : ¬ (n : Int) < 55296 := by omega
    by_cases h2 : (n : Int) ≤ 57343
    · have h3 : ¬ (57343 : Int) < (n : Int) := by omega
      clear h
      go_enter Tryz.func172, Tryz.ntmps172
      go_wp2
      go_ret
      exact ⟨rfl, x⟩
    · have h3 : (57343 : Int) < (n : Int) := by omega
      have h4 : ¬ (n : Int) ≤ 1114111 := by omega
      clear h
      go_enter Tryz.func172, Tryz.ntmps172
      go_wp2
      go_ret
      exact ⟨rfl, x⟩
theorem prefix_one (l : List UInt8) (c : UInt8) : Lib.hasPrefix l [c] = decide (l.head? = some c) := by
  cases l with
  | nil => rfl
  | cons b r =>
    rw [Bool.eq_iff_iff]
    simp [Lib.hasPrefix, List.isPrefixOf]
    exact eq_comm
theorem code_parts {B most : Nat} {t : ByteArray} {o : Option (List UInt8)} (h0 : t.size ≠ 0) (hm : ¬ most < t.size) (h : (codeN B most t.data.toList).map (fun (n : Nat) => (Utf8.encode (n : Int)).data.toList) = o) :
    ((numL B 0 t.data.toList).filter runeN).map (fun (n : Nat) => (Utf8.encode (n : Int)).data.toList) = o := by
  rw [← h]
  unfold codeN
  rw [if_neg]
  rintro (h1 | h1)
  · exact h0 (by show t.data.toList.length = 0; rw [h1]; rfl)
  · exact hm h1
theorem coded_any (s : ByteArray) (hs : s.size ≤ 20) (w : World) (hl : LW w) : Calls Tryz.prog 142 #[.string s] w (RVal (optV (codedL s.data.toList)) w) := by
  have HP := qh (HasPrefix_any s ⟨#[120]⟩)
  have HL := qh hl
  obtain ⟨o, ho⟩ : ∃ o, codedL s.data.toList = o := ⟨_, rfl⟩
  rw [ho]
  have hpx := prefix_one s.data.toList 120
  unfold codedL codeL at ho
  by_cases hx : s.data.toList.head? = some 120
  · rw [if_pos hx] at ho
    have hpos : 0 < s.size := by
      rcases Nat.eq_zero_or_pos s.size with h | h
      · have : s.data.toList = [] := List.eq_nil_of_length_eq_zero h
        rw [this] at hx; cases hx
      · exact h
    rw [decide_eq_true hx] at hpx
    have HP2 := qh (fun W => (hpx ▸ HP.out W : Calls Tryz.prog 84 #[.string s, .string ⟨#[120]⟩] W (RVal (.bool true) W)))
    obtain ⟨t, ht⟩ : ∃ t, s.extract 1 s.size = t := ⟨_, rfl⟩
    have htl : t.data.toList = s.data.toList.tail := by
      have h1 := bs_cut s.data.toList 1 s.size
      rw [bs_list, ht] at h1
      rw [h1, bs_data, List.drop_one]
      exact List.take_of_length_le (by rw [List.length_tail]; exact Nat.le_refl _)
    have hsl : ∀ W : World, (Instr.slice 9 (.string s) (some (.int .i64 1)) none none).run Tryz.prog W = .ok (.string t) W := by
      intro W
      rw [run_slice_string_l W 9 s Tryz.underlying9 .i64 1 (by decide) (by omega), ← ht]
      rfl
    have htz : t.size ≤ 20 := by
      have h1 : t.size = t.data.toList.length := rfl
      have h2 : s.data.toList.length = s.size := rfl
      rw [h1, htl, List.length_tail]; omega
    rw [← htl] at ho
    have HO := qh ho
    clear ho hx hpx ht htl hs hl hpos
    go_enter Tryz.func142, Tryz.ntmps142
    go_wp2_with (go_at_call 84; refine (HP2.out _).mono ?_)
    rintro e w1 ⟨rfl, x1⟩
    have X1 := qh x1
    clear x1
    by_cases z0 : t.size = 0
    · have e0 : (t.toList == ([] : List UInt8)) = true := etext_none z0
      have ho1 : o = none := by rw [← HO.out]; unfold codeN; rw [if_pos (.inl (List.eq_nil_of_length_eq_zero z0))]; rfl
      subst ho1
      clear z0
      go_wp2_with fail
      go_ret2
      exact ⟨rfl, X1.out⟩
    have e0 : (t.toList == ([] : List UInt8)) = false := etext_some z0
    by_cases z6 : 6 < t.size
    · have k6 : (6 : Int) < (t.size : Int) := by omega
      have k6i : decide ((6 : Int) < (t.size : Int)) = true := decide_eq_true k6
      have k6n : decide (6 < t.size) = true := decide_eq_true z6
      have ho1 : o = none := by rw [← HO.out]; unfold codeN; rw [if_pos (.inr z6)]; rfl
      subst ho1
      clear z6
      go_wp2_with fail
      go_ret2
      exact ⟨rfl, X1.out⟩
    have k6 : ¬ (6 : Int) < (t.size : Int) := by omega
    have k6i : decide ((6 : Int) < (t.size : Int)) = false := decide_eq_false k6
    have k6n : decide (6 < t.size) = false := decide_eq_false z6
    have HO2 := qh (code_parts z0 z6 HO.out)
    have HCA := qh (ContainsAny_any t z0 (by omega))
    have Z0 := qh z0
    have Z7 := qh (show t.size ≤ 7 by omega)
    clear z0 z6 htz
    go_wp2_with (go_at_call 170; refine (HCA.out _).mono ?_)
    rintro e w2 ⟨b, rfl, h1, h2, x2⟩
    have H1 := qh h1
    have H2 := qh h2
    have X2 := qh (X1.out.trans x2)
    clear h1 h2 x2
    cases b with
    | true =>
      have ho1 : o = none := by rw [← HO2.out, sign_bad 16 (by decide) (H1.out rfl)]; rfl
      subst ho1
      go_wp2_with fail
      go_ret2
      exact ⟨rfl, X2.out⟩
    | false =>
      have HPI := qh (ppi16_any t Z0.out Z7.out (H2.out rfl).1 (H2.out rfl).2 w2 (HL.out.ext X2.out))
      have hlt : ∀ n, numL 16 0 t.data.toList = some n → n < 268435456 := fun n h => by
        have h1 := numL_lt 16 (by decide) _ 0 n 1 h (by decide)
        have h2 : 16 ^ t.data.toList.length ≤ 268435456 := pow_le7 Z7.out
        omega
      have HLT := qh hlt
      obtain ⟨r, hr⟩ : ∃ r, numL 16 0 t.data.toList = r := ⟨_, rfl⟩
      rw [hr] at HPI HLT HO2
      clear hr hlt
      go_wp2_with (go_at_call 171; refine HPI.out.mono ?_)
      rintro e w3 ⟨ev, rfl, hv1, hv2, x3⟩
      have X3 := qh (X2.out.trans x3)
      clear x3
      cases r with
      | none =>
        obtain ⟨p, rfl⟩ := hv2 rfl
        have ho1 : o = none := HO2.out.symm
        subst ho1
        clear hv1 hv2
        go_wp2_with fail
        go_ret2
        exact ⟨rfl, X3.out⟩
      | some n =>
        obtain rfl := hv1 (by simp)
        have hn := HLT.out n rfl
        clear hv1 hv2
        have hw : IntKind.i32.wrap (n : Int) = (n : Int) := IntWalk.i32_in _ (by omega)
        by_cases n0 : n = 0
        · have ho1 : o = none := by rw [← HO2.out, n0]; rfl
          subst ho1
          have kn : ((n : Int) == 0) = true := by simp [n0]
          clear n0
          go_wp2_with fail
          go_ret2
          exact ⟨rfl, X3.out⟩
        have kn : ((n : Int) == 0) = false := by rw [beq_eq_false_iff_ne]; omega
        have HVR := qh (ValidRune_any n hn)
        by_cases nv : n < 55296 ∨ 57344 ≤ n ∧ n ≤ 1114111
        case neg =>
          have hf : runeN n = false := by unfold runeN; exact decide_eq_false (by omega)
          have ho1 : o = none := by rw [← HO2.out]; simp [Option.filter, hf]
          subst ho1
          have HVF := qh (fun W => (decide_eq_false nv ▸ HVR.out W : Calls Tryz.prog 172 #[.int .i32 (n : Int)] W (RBool false W)))
          clear nv hf n0
          go_wp2_with (go_at_call 172; refine (HVF.out _).mono ?_)
          rintro e w4 ⟨rfl, x4⟩
          go_wp2_with fail
          go_ret2
          exact ⟨rfl, X3.out.trans x4⟩
        have hf : runeN n = true := by unfold runeN; exact decide_eq_true (by omega)
        have ho1 : o = some (Utf8.encode (n : Int)).data.toList := by rw [← HO2.out]; simp [Option.filter, hf]
        have HVF := qh (fun W => (decide_eq_true nv ▸ HVR.out W : Calls Tryz.prog 172 #[.int .i32 (n : Int)] W (RBool true W)))
        have hcv : ∀ W : World, (Go.convert 21 9 (.int .i32 (n : Int))).run Tryz.prog W = .ok (.string (Utf8.encode (n : Int))) W := by
          intro W
          simp [convert, run_underlying Tryz.underlying21, run_underlying Tryz.underlying9, Conv.intToString]
        have hfin : optV o = .tuple #[.string (Utf8.encode (n : Int)), .bool true] := by rw [ho1]; unfold optV; simp [bs_list]
        clear nv hf n0 ho1
        generalize Utf8.encode (n : Int) = E at *
        have HFIN := qh hfin
        clear hfin
        go_wp2_with (go_at_call 172; refine (HVF.out _).mono ?_)
        rintro e w4 ⟨rfl, x4⟩
        go_wp2_with fail
        go_ret2
        exact ⟨by rw [HFIN.out]; rfl, X3.out.trans x4⟩
  · rw [if_neg hx] at ho
    rw [decide_eq_false hx] at hpx
    have HP2 := qh (fun W => (hpx ▸ HP.out W : Calls Tryz.prog 84 #[.string s, .string ⟨#[120]⟩] W (RVal (.bool false) W)))
    have HO := qh ho
    obtain ⟨t, ht⟩ : ∃ t, s = t := ⟨_, rfl⟩
    subst ht
    have htz := hs
    clear ho hx hpx hs hl
    go_enter Tryz.func142, Tryz.ntmps142
    go_wp2_with (go_at_call 84; refine (HP2.out _).mono ?_)
    rintro e w1 ⟨rfl, x1⟩
    have X1 := qh x1
    clear x1
    by_cases z0 : s.size = 0
    · have e0 : (s.toList == ([] : List UInt8)) = true := etext_none z0
      have ho1 : o = none := by rw [← HO.out]; unfold codeN; rw [if_pos (.inl (List.eq_nil_of_length_eq_zero z0))]; rfl
      subst ho1
      clear z0
      go_wp2_with fail
      go_ret2
      exact ⟨rfl, X1.out⟩
    have e0 : (s.toList == ([] : List UInt8)) = false := etext_some z0
    by_cases z6 : 7 < s.size
    · have k6 : (7 : Int) < (s.size : Int) := by omega
      have k6i : decide ((7 : Int) < (s.size : Int)) = true := decide_eq_true k6
      have k6n : decide (7 < s.size) = true := decide_eq_true z6
      have ho1 : o = none := by rw [← HO.out]; unfold codeN; rw [if_pos (.inr z6)]; rfl
      subst ho1
      clear z6
      go_wp2_with fail
      go_ret2
      exact ⟨rfl, X1.out⟩
    have k6 : ¬ (7 : Int) < (s.size : Int) := by omega
    have k6i : decide ((7 : Int) < (s.size : Int)) = false := decide_eq_false k6
    have k6n : decide (7 < s.size) = false := decide_eq_false z6
    have HO2 := qh (code_parts z0 z6 HO.out)
    have HCA := qh (ContainsAny_any s z0 (by omega))
    have Z0 := qh z0
    have Z7 := qh (show s.size ≤ 7 by omega)
    clear z0 z6 htz
    go_wp2_with (go_at_call 170; refine (HCA.out _).mono ?_)
    rintro e w2 ⟨b, rfl, h1, h2, x2⟩
    have H1 := qh h1
    have H2 := qh h2
    have X2 := qh (X1.out.trans x2)
    clear h1 h2 x2
    cases b with
    | true =>
      have ho1 : o = none := by rw [← HO2.out, sign_bad 10 (by decide) (H1.out rfl)]; rfl
      subst ho1
      go_wp2_with fail
      go_ret2
      exact ⟨rfl, X2.out⟩
    | false =>
      have HPI := qh (ppi10_any s Z0.out Z7.out (H2.out rfl).1 (H2.out rfl).2 w2 (HL.out.ext X2.out))
      have hlt : ∀ n, numL 10 0 s.data.toList = some n → n < 268435456 := fun n h => by
        have h1 := numL_lt 10 (by decide) _ 0 n 1 h (by decide)
        have h2 : 16 ^ s.data.toList.length ≤ 268435456 := pow_le7 Z7.out
        omega
      have HLT := qh hlt
      obtain ⟨r, hr⟩ : ∃ r, numL 10 0 s.data.toList = r := ⟨_, rfl⟩
      rw [hr] at HPI HLT HO2
      clear hr hlt
      go_wp2_with (go_at_call 171; refine HPI.out.mono ?_)
      rintro e w3 ⟨ev, rfl, hv1, hv2, x3⟩
      have X3 := qh (X2.out.trans x3)
      clear x3
      cases r with
      | none =>
        obtain ⟨p, rfl⟩ := hv2 rfl
        have ho1 : o = none := HO2.out.symm
        subst ho1
        clear hv1 hv2
        go_wp2_with fail
        go_ret2
        exact ⟨rfl, X3.out⟩
      | some n =>
        obtain rfl := hv1 (by simp)
        have hn := HLT.out n rfl
        clear hv1 hv2
        have hw : IntKind.i32.wrap (n : Int) = (n : Int) := IntWalk.i32_in _ (by omega)
        by_cases n0 : n = 0
        · have ho1 : o = none := by rw [← HO2.out, n0]; rfl
          subst ho1
          have kn : ((n : Int) == 0) = true := by simp [n0]
          clear n0
          go_wp2_with fail
          go_ret2
          exact ⟨rfl, X3.out⟩
        have kn : ((n : Int) == 0) = false := by rw [beq_eq_false_iff_ne]; omega
        have HVR := qh (ValidRune_any n hn)
        by_cases nv : n < 55296 ∨ 57344 ≤ n ∧ n ≤ 1114111
        case neg =>
          have hf : runeN n = false := by unfold runeN; exact decide_eq_false (by omega)
          have ho1 : o = none := by rw [← HO2.out]; simp [Option.filter, hf]
          subst ho1
          have HVF := qh (fun W => (decide_eq_false nv ▸ HVR.out W : Calls Tryz.prog 172 #[.int .i32 (n : Int)] W (RBool false W)))
          clear nv hf n0
          go_wp2_with (go_at_call 172; refine (HVF.out _).mono ?_)
          rintro e w4 ⟨rfl, x4⟩
          go_wp2_with fail
          go_ret2
          exact ⟨rfl, X3.out.trans x4⟩
        have hf : runeN n = true := by unfold runeN; exact decide_eq_true (by omega)
        have ho1 : o = some (Utf8.encode (n : Int)).data.toList := by rw [← HO2.out]; simp [Option.filter, hf]
        have HVF := qh (fun W => (decide_eq_true nv ▸ HVR.out W : Calls Tryz.prog 172 #[.int .i32 (n : Int)] W (RBool true W)))
        have hcv : ∀ W : World, (Go.convert 21 9 (.int .i32 (n : Int))).run Tryz.prog W = .ok (.string (Utf8.encode (n : Int))) W := by
          intro W
          simp [convert, run_underlying Tryz.underlying21, run_underlying Tryz.underlying9, Conv.intToString]
        have hfin : optV o = .tuple #[.string (Utf8.encode (n : Int)), .bool true] := by rw [ho1]; unfold optV; simp [bs_list]
        clear nv hf n0 ho1
        generalize Utf8.encode (n : Int) = E at *
        have HFIN := qh hfin
        clear hfin
        go_wp2_with (go_at_call 172; refine (HVF.out _).mono ?_)
        rintro e w4 ⟨rfl, x4⟩
        go_wp2_with fail
        go_ret2
        exact ⟨by rw [HFIN.out]; rfl, X3.out.trans x4⟩
theorem entity_any (s : ByteArray) (hs : s.size ≤ 1000000000000) (hh : s.data.toList.head? = some 38) (w : World) (hl : LW w) :
    Calls Tryz.prog 94 #[.string s] w (RTwo (.string (bs (entityL s.data.toList).1)) (.int .i64 (entityL s.data.toList).2) w) := by
  obtain ⟨l, hl0⟩ : ∃ l, s.data.toList = l := ⟨_, rfl⟩
  have hsb : s = bs l := by rw [← hl0, bs_list]
  have hz : s.size = l.length := by rw [← hl0]; rfl
  have hcut : ∀ i j, s.extract i j = bs ((l.drop i).take (j - i)) := fun i j => by rw [hsb]; exact bs_cut l i j
  have h12 : (bs (l.take 12)).data.toList = l.take 12 := bs_data _
  have hd12 : (s.extract 0 (min (s.size : Int) 12).toNat).data.toList = l.take 12 := by
    rw [hcut, bs_data, List.drop_zero]
    have e : (min (s.size : Int) 12).toNat - 0 = min l.length 12 := by omega
    rw [e]
    by_cases h : l.length ≤ 12
    · rw [Nat.min_eq_left h, List.take_of_length_le (Nat.le_refl _), List.take_of_length_le h]
    · rw [Nat.min_eq_right (by omega)]
  have HI := qh (fun W => (hd12 ▸ IndexByte_any (s.extract 0 (min (s.size : Int) 12).toNat) 59 59 rfl W : Calls Tryz.prog 92 #[.string (s.extract 0 (min (s.size : Int) 12).toNat), .int .u8 59] W (RVal (.int .i64 (Lib.indexByte (l.take 12) 59)) W)))
  obtain ⟨res, hres⟩ : ∃ r, entityL l = r := ⟨_, rfl⟩
  rw [hl0, hres]
  rw [hl0] at hh
  unfold entityL at hres
  have HR := qh hres
  have HL := qh hl
  have HC := qh hcut
  have HH := qh hh
  have HZ := qh hz
  have HB := qh hl0
  obtain ⟨e, he⟩ : ∃ e, Lib.indexByte (l.take 12) 59 = e := ⟨_, rfl⟩
  rw [he] at HI HR
  have HE := qh he
  have b12 : 0 ≤ min (s.size : Int) 12 := by omega
  have c12 : min (s.size : Int) 12 ≤ (s.size : Int) := by omega
  clear hres hl hcut hh hsb h12 hl0 hd12 hz he
  go_enter Tryz.func94, Tryz.ntmps94
  go_wp2_with (go_at_call 92; refine (HI.out _).mono ?_)
  rintro e w1 ⟨rfl, x1⟩
  have X1 := qh x1
  clear x1 b12 c12
  by_cases hneg : e < 0
  · have hr : res = ([38], 1) := by rw [← HR.out, if_pos hneg]
    subst hr
    go_wp2_with fail
    go_ret2
    exact ⟨rfl, X1.out⟩
  obtain ⟨k, hk, hk59, _⟩ := indexByte_some (by rw [HE.out]; exact hneg)
  rw [HE.out] at hk
  subst hk
  have hk12 : k < 12 ∧ k < l.length := by
    have h := (List.getElem?_eq_some_iff.1 hk59).1
    rw [List.length_take] at h; omega
  have hlk : l[k]? = some 59 := by rw [List.getElem?_take, if_pos hk12.1] at hk59; exact hk59
  have hk0 : 1 ≤ k := by
    rcases Nat.eq_zero_or_pos k with rfl | h
    · have h1 := HH.out; rw [List.head?_eq_getElem?, hlk] at h1; cases h1
    · exact h
  have HR2 : Hid ((match meansL l k with | some x => (x, k + 1) | none => ([38], 1)) = res) := qh (by rw [← HR.out, if_neg hneg]; rfl)
  have HK := qh hlk
  have HK12 := qh hk12
  have b1 : (1 : Int) ≤ (k : Int) := by omega
  have b2 : (k : Int) ≤ (s.size : Int) := by have := HZ.out; have := hk12.2; omega
  have kneg : decide ((k : Int) < 0) = false := decide_eq_false (by omega)
  have hn1 : (s.extract 1 k).data.toList = (l.drop 1).take (k - 1) := by rw [HC.out, bs_data]
  have HN := qh (fun W => (hn1 ▸ named_any (s.extract 1 k) W : Calls Tryz.prog 141 #[.string (s.extract 1 k)] W (RVal (optV (namedL ((l.drop 1).take (k - 1)))) W)))
  clear hneg hk59 hlk hk12 hn1
  obtain ⟨o, ho⟩ : ∃ o, namedL ((l.drop 1).take (k - 1)) = o := ⟨_, rfl⟩
  rw [ho] at HN
  have HO := qh ho
  clear ho
  go_wp2_with (go_at_call 141; refine (HN.out _).mono ?_)
  rintro e w2 ⟨rfl, x2⟩
  have X2 := qh (X1.out.trans x2)
  clear x2
  have hwk : IntKind.i64.wrap ((k : Int) + 1) = (k : Int) + 1 := IntWalk.i64_in _ (by have := HK12.out; omega)
  cases o with
  | some x =>
    have hr : res = (x, k + 1) := by rw [← HR2.out]; unfold meansL; rw [HO.out]
    subst hr
    unfold optV
    go_wp2_with fail
    go_ret2
    exact ⟨rfl, X2.out⟩
  | none =>
    have hpx : Lib.hasPrefix l [38, 35] = decide (l.take 2 = [38, 35]) := by
      cases l with
      | nil => rfl
      | cons a r =>
        cases r with
        | nil => rw [Bool.eq_iff_iff]; simp [Lib.hasPrefix, List.isPrefixOf]
        | cons b r => rw [Bool.eq_iff_iff]; simp [Lib.hasPrefix, List.isPrefixOf]; exact ⟨fun h => ⟨h.1.symm, h.2.symm⟩, fun h => ⟨h.1.symm, h.2.symm⟩⟩
    have HP := qh (fun W => (HB.out ▸ HasPrefix_any s ⟨#[38, 35]⟩ W : Calls Tryz.prog 84 #[.string s, .string ⟨#[38, 35]⟩] W (RVal (.bool (Lib.hasPrefix l [38, 35])) W)))
    by_cases h2 : l.take 2 = [38, 35]
    · rw [hpx, decide_eq_true h2] at HP
      have hk2 : 2 ≤ k := by
        rcases Nat.lt_or_ge k 2 with h | h
        · have h1 : k = 1 := by omega
          have h3 : (l.take 2)[1]? = some 59 := by rw [List.getElem?_take, if_pos (by decide), ← h1]; exact HK.out
          rw [h2] at h3
          cases h3
        · exact h
      have hn2 : (s.extract 2 k).data.toList = (l.drop 2).take (k - 2) := by rw [HC.out, bs_data]
      have hz2 : (s.extract 2 k).size ≤ 20 := by
        show (s.extract 2 k).data.toList.length ≤ 20
        rw [hn2, List.length_take]
        have := HK12.out
        omega
      have HCD := qh (fun W (hW : LW W) => (hn2 ▸ coded_any (s.extract 2 k) hz2 W hW : Calls Tryz.prog 142 #[.string (s.extract 2 k)] W (RVal (optV (codedL ((l.drop 2).take (k - 2)))) W)))
      have b3 : (2 : Int) ≤ (k : Int) := by omega
      obtain ⟨o2, ho2⟩ : ∃ o, codedL ((l.drop 2).take (k - 2)) = o := ⟨_, rfl⟩
      rw [ho2] at HCD
      have hm : meansL l k = o2 := by unfold meansL; rw [HO.out]; dsimp only; rw [if_pos h2, ho2]
      have HM := qh hm
      clear hm ho2 hz2 hn2 hk2 h2 hpx
      unfold optV
      go_wp2_with (go_at_call 84; refine (HP.out _).mono ?_)
      rintro e w3 ⟨rfl, x3⟩
      have X3 := qh (X2.out.trans x3)
      clear x3
      go_wp2_with (go_at_call 142; refine (HCD.out _ (HL.out.ext X3.out)).mono ?_)
      rintro e w4 ⟨rfl, x4⟩
      have X4 := qh (X3.out.trans x4)
      clear x4
      cases o2 with
      | some x =>
        have hr : res = (x, k + 1) := by rw [← HR2.out, HM.out]
        subst hr
        unfold optV
        go_wp2_with fail
        go_ret2
        exact ⟨rfl, X4.out⟩
      | none =>
        have hr : res = ([38], 1) := by rw [← HR2.out, HM.out]
        subst hr
        unfold optV
        go_wp2_with fail
        go_ret2
        exact ⟨rfl, X4.out⟩
    · rw [hpx, decide_eq_false h2] at HP
      have hr : res = ([38], 1) := by rw [← HR2.out]; unfold meansL; rw [HO.out]; dsimp only; rw [if_neg h2]
      subst hr
      clear h2 hpx
      unfold optV
      go_wp2_with (go_at_call 84; refine (HP.out _).mono ?_)
      rintro e w3 ⟨rfl, x3⟩
      go_wp2_with fail
      go_ret2
      exact ⟨rfl, X2.out.trans x3⟩
end Go.Proofs.YtalaajbajgdglaaGreatDoor
namespace Go.Proofs.YtalaajbajgdglaaGreatDoor.Lx
open Go Go.RowKit Go.BigFrame
abbrev BuF (B b : Nat) (bs : List Value) (w : World) : Prop := Lib.IsBuilderF 82 5 B b bs w
abbrev BuA (B b : Nat) (p : Value) (bs : List Value) (w : World) : Prop := Lib.BuilderAtF 82 5 B b p bs w
abbrev Kept (b : Nat) (w w' : World) : Prop := Lib.OthersKept 5 (some b) w w'
theorem infoBuilder : (Tryz.prog.info? 82).map (fun i => i.size) = some 2 := by kernel_rfl
theorem liesPrinter : liesAt Tryz.prog Tryz.prog.depth 82 (2 / Tryz.prog.cellsOf 82) 0 82 1 = true := by kernel_rfl
theorem copyCheck_fresh (b : Nat) (w : World) (h0 : w.cell? ⟨b, 0, none⟩ = some (.pointer none)) (hsh : w.shape? b = some (82, 2)) (hfz : w.frozen? ⟨b, 0, none⟩ = false) :
    Calls Tryz.prog 140 #[.pointer (some ⟨b, 0, none⟩)] w fun e w' => e = .returned (.tuple #[]) ∧ w' = w.setCell ⟨b, 0, none⟩ (.pointer (some ⟨b, 0, none⟩)) := by
  obtain ⟨j, hj, hjs⟩ := Option.map_eq_some_iff.1 infoBuilder
  go_enter Tryz.func140, Tryz.ntmps140
  go_wp2
  rw [Lib.run_to_unsafe w ⟨b, 0, none⟩ Tryz.underlying80 Tryz.underlying190 hj (by rw [hjs]; decide) hsh (Nat.zero_lt_succ 1)]
  simp only [Result.andThen]
  rw [Oper.upon_value]
  go_wp2
  rw [run_callFunc_extern Tryz.func169 (by kernel_rfl) (by kernel_rfl) (by kernel_rfl) (e := Extern.AbiNoEscape.same) (by kernel_rfl)]
  rw [Lib.run_noEscape]
  simp only [Result.andThen]
  rw [Oper.upon_value]
  go_wp2
  rw [Lib.run_from_unsafe w ⟨b, 0, none⟩ Tryz.underlying190 Tryz.underlying80 hj hsh liesPrinter]
  simp only [Result.andThen]
  rw [Oper.upon_value]
  go_wp2
  go_end0
  exact ⟨rfl, rfl⟩
theorem copyCheck_used (b : Nat) (w : World) (h0 : w.cell? ⟨b, 0, none⟩ = some (.pointer (some ⟨b, 0, none⟩))) :
    Calls Tryz.prog 140 #[.pointer (some ⟨b, 0, none⟩)] w fun e w' => e = .returned (.tuple #[]) ∧ w' = w := by
  obtain ⟨j, hj, _⟩ := Option.map_eq_some_iff.1 infoBuilder
  go_enter Tryz.func140, Tryz.ntmps140
  go_wp2
  rw [Lib.run_neq_ptr_same w _ Tryz.underlying80 hj]
  go_wp2
  go_end0
  exact ⟨rfl, rfl⟩
theorem copyCheck_k (B b : Nat) (bs : List Value) (w : World) (h : BuF B b bs w) :
    Calls Tryz.prog 140 #[.pointer (some ⟨b, 0, none⟩)] w fun e w' => e = .returned (.tuple #[]) ∧ (BuA B b (.pointer (some ⟨b, 0, none⟩)) bs w' ∧ Below B w w' ∧ Kept b w w') := by
  rcases h with h | h
  · refine (copyCheck_fresh b w h.cell0 h.shape h.frozen0).mono ?_
    rintro e w' ⟨rfl, rfl⟩
    exact ⟨rfl, h.used _, (Below.refl B w).setCell (p := ⟨b, 0, none⟩) h.1 _, (Lib.OthersKept.refl _ _ w).setCell ⟨b, 0, none⟩ rfl _⟩
  · refine (copyCheck_used b w h.cell0).mono ?_
    rintro e w' ⟨rfl, rfl⟩
    exact ⟨rfl, h, Below.refl B _, Lib.OthersKept.refl _ _ _⟩
theorem WriteString_k (B b : Nat) (bs : List Value) (s : ByteArray) (w : World) (h : BuF B b bs w) (hlen : bs.length + s.size ≤ 140737488355328) (hBw : B ≤ w.heap.size) :
    Calls Tryz.prog 93 #[.pointer (some ⟨b, 0, none⟩), .string s] w fun e w' => e = .returned (.tuple #[.int .i64 s.size, .nilIface]) ∧ (BuA B b (.pointer (some ⟨b, 0, none⟩)) (bs ++ Lib.strCells s) w' ∧ Below B w w' ∧ Kept b w w') := by
  obtain ⟨i0, hi, hz0, hz1, hz2⟩ := info_parts infoByte
  go_enter Tryz.func93, Tryz.ntmps93
  go_wp2_with (go_at_call 140; refine (copyCheck_k B b bs _ h).mono ?_)
  rintro e w1 ⟨rfl, h1, hb1, hk1⟩
  obtain ⟨hB, v, hbk, hown, hne⟩ := h1
  have c0 : w1.cell? ⟨b, 0, none⟩ = some (.pointer (some ⟨b, 0, none⟩)) := by rw [Lib.cell_of_heap hbk]; rfl
  have c1 : w1.cell? ⟨b, 1, none⟩ = some v := by rw [Lib.cell_of_heap hbk]; rfl
  go_wp2_with (at_builtin; refine Lib.wpList_append_own_stringF _ rfl _ _ 71 9 rfl B 5 i0 Tryz.underlying71 Tryz.underlying9 hi hz0 hz1 hz2 _ _ _ rfl hown s rfl ?c3 ?c4 ?c5 ?_)
  case c3 => unfold maxLen; omega
  case c4 => omega
  case c5 => have := hb1.size; omega
  intro v' w2 hown' hgrow _
  have hlt : b < w1.heap.size := by
    rcases Nat.lt_or_ge b w1.heap.size with h' | h'
    · exact h'
    · simp [Array.getElem?_eq_none h'] at hbk
  have hb2 : w2.heap[b]? = some (.cells #[.pointer (some ⟨b, 0, none⟩), v] 82 (0, 0)) := by
    rw [hgrow.block b hlt (fun e => hne e.symm)]
    exact hbk
  have d0 : w2.cell? ⟨b, 0, none⟩ = some (.pointer (some ⟨b, 0, none⟩)) := by rw [Lib.cell_of_heap hb2]; rfl
  have d1 : w2.cell? ⟨b, 1, none⟩ = some v := by rw [Lib.cell_of_heap hb2]; rfl
  have f1 : w2.frozen? ⟨b, 1, none⟩ = false := Lib.frozen_of_heap hb2 1
  obtain ⟨ao, n', cap, rfl⟩ : ∃ ao n' cap, v' = .slice ao n' cap := by
    rcases hown'.2 with ⟨hv, _⟩ | ⟨g, cap, cur, fz, hv, _⟩
    · exact ⟨_, _, _, hv⟩
    · exact ⟨_, _, _, hv⟩
  go_wp2
  go_ret2
  refine ⟨rfl, ?_, ?_, (hk1.grown hgrow (Lib.ownsRowF_kind hown)).setCell ⟨b, 1, none⟩ rfl _⟩
  · exact Lib.BuilderAtF.put (T := 82) (e := 5) hB hb2 (bs' := bs ++ Lib.strCells s) (by simpa [Lib.strCells_length] using hown') (by decide)
  · exact (hb1.grown hgrow (by have := hb1.size; omega) (fun k hk => (hown.lt k hk).1)).setCell (p := ⟨b, 1, none⟩) hB _
theorem cellsByte : Tryz.prog.cellsOf 5 = 1 := by kernel_rfl
theorem String_k (B b : Nat) (l : List UInt8) (w : World) (h : BuF B b (Lib.byteCells l) w) (h0 : l ≠ []) :
    Calls Tryz.prog 38 #[.pointer (some ⟨b, 0, none⟩)] w fun e w' => e = .returned (.string ⟨l.toArray⟩) ∧ Below B w w' := by
  obtain ⟨p, hp, hAt⟩ : ∃ p, (p = .pointer none ∨ p = .pointer (some ⟨b, 0, none⟩)) ∧ BuA B b p (Lib.byteCells l) w := by
    rcases h with h | h
    · exact ⟨_, .inl rfl, h⟩
    · exact ⟨_, .inr rfl, h⟩
  obtain ⟨hB, v, hbk, hown, hne⟩ := hAt
  have hl0 : l.length ≠ 0 := by simpa using h0
  rw [Lib.byteCells_length] at hown
  obtain ⟨g, cap, cur, fz, rfl, hbg, hg, hfz, hnc, hcm, hcs, htake⟩ : ∃ g cap cur fz, v = .slice (some ⟨g, 0, none⟩) l.length cap ∧ B ≤ g ∧ w.heap[g]? = some (.cells cur 5 fz) ∧ fz.2 ≤ l.length * 1 ∧ l.length ≤ cap ∧ cap ≤ maxLen ∧ cur.size = cap * 1 ∧ cur.toList.take (l.length * 1) = Lib.byteCells l := by
    rcases hown.2 with ⟨_, hz⟩ | ⟨g, cap, cur, fz, hv, r⟩
    · exact absurd hz hl0
    · exact ⟨g, cap, cur, fz, hv, r⟩
  have c1 : w.drew.cell? ⟨b, 1, none⟩ = some (.slice (some ⟨g, 0, none⟩) l.length cap) := by
    have : w.drew.heap[b]? = some (.cells #[p, .slice (some ⟨g, 0, none⟩) l.length cap] 82 (0, 0)) := hbk
    rw [Lib.cell_of_heap this]; rfl
  have hSD : (Builtin.unsafeSliceData_ #[71] 121 #[.slice (some ⟨g, 0, none⟩) l.length cap]).run Tryz.prog w.drew = .ok (.pointer (some ⟨g, 0, none⟩)) w.drew :=
    Lib.run_unsafeSliceData_row _ _ _ _ _ _ (by omega)
  have hUS : (Builtin.unsafeString_ #[121, 3] 9 #[.pointer (some ⟨g, 0, none⟩), .int .i64 l.length]).run Tryz.prog w.drew = .ok (.string ⟨l.toArray⟩) (w.drew.freeze ⟨g, 0, none⟩ l.length) := by
    refine Lib.run_unsafeString_row w.drew 121 3 9 5 Tryz.underlying121 cellsByte g cur.size (by have hg' : w.drew.heap[g]? = some (.cells cur 5 fz) := hg; simp [World.shape?, hg']) l h0 (by omega) (by unfold maxLen at hcm; omega) ?_
    intro j x hx
    have := hown.cells (g := g) rfl j (.int .u8 x.toNat) (by simp [Lib.byteCells, hx])
    exact this
  have mixed : Tryz.prog.follows .mixedOrders = true := by kernel_rfl
  go_enter Tryz.func38, Tryz.ntmps38
  go_wp2
  go_region_o
  all_goals (go_wp2; go_ret; exact ⟨rfl, Lib.below_freeze (Below.drew (Below.refl B w)) (p := ⟨g, 0, none⟩) hbg _⟩)
def Printed (B b : Nat) (l : List UInt8) (w : World) (e : Ending) (w' : World) : Prop := e = .returned (.tuple #[]) ∧ BuF B b (Lib.byteCells l) w' ∧ Below B w w' ∧ Kept b w w'
def Wrote (B b : Nat) (l : List UInt8) (w : World) (e : Ending) (w' : World) : Prop := ∃ m : Nat, e = .returned (.tuple #[.int .i64 m, .nilIface]) ∧ Printed B b l w (.returned (.tuple #[])) w'
theorem Write_any (B b : Nat) (acc : List UInt8) (s : ByteArray) (l : List UInt8) (hs : acc ++ s.data.toList = l) (w : World) (h : BuF B b (Lib.byteCells acc) w) (hlen : acc.length + s.size ≤ 140737488355328) (hBw : B ≤ w.heap.size) :
    Calls Tryz.prog 93 #[.pointer (some ⟨b, 0, none⟩), .string s] w (Wrote B b l w) :=
  (WriteString_k B b _ s w h (by rw [Lib.byteCells_length]; exact hlen) hBw).mono fun e w' hh => ⟨s.size, hh.1, rfl, by rw [← hs, Lib.byteCells_append]; exact .inr hh.2.1, hh.2.2.1, hh.2.2.2⟩
theorem unsafeString_none (w : World) (p : Option Addr) : (Builtin.unsafeString_ #[121, 3] 9 #[.pointer p, .int .i64 0]).run Tryz.prog w = .ok (.string ⟨#[]⟩) w := Lib.run_unsafeString_none _ _ _ _ p
theorem String_nil (B b : Nat) (p : Value) (w : World) (hbk : w.heap[b]? = some (.cells #[p, .slice none 0 0] 82 (0, 0))) :
    Calls Tryz.prog 38 #[.pointer (some ⟨b, 0, none⟩)] w fun e w' => e = .returned (.string ⟨#[]⟩) ∧ Below B w w' := by
  have hUS := unsafeString_none
  have c1 : w.drew.cell? ⟨b, 1, none⟩ = some (.slice none 0 0) := by
    have : w.drew.heap[b]? = some (.cells #[p, .slice none 0 0] 82 (0, 0)) := hbk
    rw [Lib.cell_of_heap this]; rfl
  have hSD : (Builtin.unsafeSliceData_ #[71] 121 #[.slice none 0 0]).run Tryz.prog w.drew = .ok (.pointer none) w.drew := rfl
  have mixed : Tryz.prog.follows .mixedOrders = true := by kernel_rfl
  go_enter Tryz.func38, Tryz.ntmps38
  go_wp2
  go_region_o
  all_goals (go_wp2; go_ret; exact ⟨rfl, Below.drew (Below.refl B w)⟩)
theorem String_noroom (B b g : Nat) (p : Value) (cur : Array Value) (w : World) (hBw : B ≤ w.heap.size) (hbk : w.heap[b]? = some (.cells #[p, .slice (some ⟨g, 0, none⟩) 0 0] 82 (0, 0))) (fz : Nat × Nat) (hg : w.heap[g]? = some (.cells cur 5 fz)) :
    Calls Tryz.prog 38 #[.pointer (some ⟨b, 0, none⟩)] w fun e w' => e = .returned (.string ⟨#[]⟩) ∧ Below B w w' := by
  have hUS := unsafeString_none
  have hlt : b < w.heap.size := (Array.getElem?_eq_some_iff.1 hbk).1
  have c1 : w.drew.cell? ⟨b, 1, none⟩ = some (.slice (some ⟨g, 0, none⟩) 0 0) := by
    have : w.drew.heap[b]? = some (.cells #[p, .slice (some ⟨g, 0, none⟩) 0 0] 82 (0, 0)) := hbk
    rw [Lib.cell_of_heap this]; rfl
  have hSD : (Builtin.unsafeSliceData_ #[71] 121 #[.slice (some ⟨g, 0, none⟩) 0 0]).run Tryz.prog w.drew = .ok (.pointer (some ⟨w.drew.heap.size, 0, none⟩)) (w.drew.alloc (.view ⟨g, 0, none⟩ 5)) :=
    Lib.run_unsafeSliceData_zero w.drew _ _ 5 Tryz.underlying121 ⟨g, 0, none⟩ 0 (5, cur.size) (by have hg' : w.drew.heap[g]? = some (.cells cur 5 fz) := hg; simp [World.shape?, hg'])
  have c2 : (w.drew.alloc (.view ⟨g, 0, none⟩ 5)).cell? ⟨b, 1, none⟩ = some (.slice (some ⟨g, 0, none⟩) 0 0) := by
    have : (w.drew.alloc (.view ⟨g, 0, none⟩ 5)).heap[b]? = _ := (Lib.alloc_old w.drew _ b hlt).trans hbk
    rw [Lib.cell_of_heap this]; rfl
  have c3 : (w.alloc (.view ⟨g, 0, none⟩ 5)).drew.cell? ⟨b, 1, none⟩ = some (.slice (some ⟨g, 0, none⟩) 0 0) := c2
  have c0 : w.cell? ⟨b, 1, none⟩ = some (.slice (some ⟨g, 0, none⟩) 0 0) := c1
  have mixed : Tryz.prog.follows .mixedOrders = true := by kernel_rfl
  go_enter Tryz.func38, Tryz.ntmps38
  go_wp2
  go_region_o
  all_goals (go_wp2; go_ret; exact ⟨rfl, (Below.drew (Below.refl B w)).alloc hBw _⟩)
theorem String_room (B b g cap : Nat) (p : Value) (w : World) (hc0 : cap ≠ 0) (hbk : w.heap[b]? = some (.cells #[p, .slice (some ⟨g, 0, none⟩) 0 cap] 82 (0, 0))) :
    Calls Tryz.prog 38 #[.pointer (some ⟨b, 0, none⟩)] w fun e w' => e = .returned (.string ⟨#[]⟩) ∧ Below B w w' := by
  have hUS := unsafeString_none
  have c1 : w.drew.cell? ⟨b, 1, none⟩ = some (.slice (some ⟨g, 0, none⟩) 0 cap) := by
    have : w.drew.heap[b]? = some (.cells #[p, .slice (some ⟨g, 0, none⟩) 0 cap] 82 (0, 0)) := hbk
    rw [Lib.cell_of_heap this]; rfl
  have hSD : (Builtin.unsafeSliceData_ #[71] 121 #[.slice (some ⟨g, 0, none⟩) 0 cap]).run Tryz.prog w.drew = .ok (.pointer (some ⟨g, 0, none⟩)) w.drew :=
    Lib.run_unsafeSliceData_row _ _ _ _ _ _ hc0
  clear hc0
  have mixed : Tryz.prog.follows .mixedOrders = true := by kernel_rfl
  go_enter Tryz.func38, Tryz.ntmps38
  go_wp2
  go_region_o
  all_goals (go_wp2; go_ret; exact ⟨rfl, Below.drew (Below.refl B w)⟩)
theorem String_any (B b : Nat) (l : List UInt8) (w : World) (h : BuF B b (Lib.byteCells l) w) (hBw : B ≤ w.heap.size) :
    Calls Tryz.prog 38 #[.pointer (some ⟨b, 0, none⟩)] w fun e w' => e = .returned (.string ⟨l.toArray⟩) ∧ Below B w w' := by
  cases l with
  | cons x r => exact String_k B b (x :: r) w h (by simp)
  | nil =>
    obtain ⟨p, hA⟩ : ∃ p, BuA B b p [] w := by
      rcases h with h | h
      · exact ⟨_, h⟩
      · exact ⟨_, h⟩
    obtain ⟨hB, v, hbk, hown, hne⟩ := hA
    rcases hown.2 with ⟨rfl, _⟩ | ⟨g, cap, cur, fz, rfl, hbg, hg, _, _, _, _, _⟩
    · exact String_nil B b p w hbk
    · by_cases hc0 : cap = 0
      · subst hc0
        exact String_noroom B b g p cur w hBw hbk fz hg
      · exact String_room B b g cap p w hc0 hbk
theorem BuF.new (w : World) (B : Nat) (h : B ≤ w.heap.size) : BuF B w.heap.size (Lib.byteCells []) (w.alloc (.cells #[.pointer none, .slice none 0 0] 82)) :=
  .inl ⟨h, .slice none 0 0, heap_alloc_new w _, ⟨rfl, .inl ⟨rfl, rfl⟩⟩, by simp [Value.ownBlock]⟩
end Go.Proofs.YtalaajbajgdglaaGreatDoor.Lx
namespace Go.Proofs.YtalaajbajgdglaaGreatDoor
open Go Go.RowKit Go.BigFrame
theorem Lx.BuA.ext {B b : Nat} {p : Value} {l : List Value} {w w' : World} (h : Lx.BuA B b p l w) (k : Ext w w') : Lx.BuA B b p l w' := by
  obtain ⟨hB, v, hb, hown, hne⟩ := h
  refine ⟨hB, v, k.block hb, ⟨hown.1, ?_⟩, hne⟩
  rcases hown.2 with hn | ⟨g, cap, cur, fz, hv, hbg, hg, rest⟩
  · exact .inl hn
  · exact .inr ⟨g, cap, cur, fz, hv, hbg, k.block hg, rest⟩
theorem Lx.BuF.ext {B b : Nat} {l : List Value} {w w' : World} (h : Lx.BuF B b l w) (k : Ext w w') : Lx.BuF B b l w' :=
  h.elim (fun x => .inl (Lx.BuA.ext x k)) (fun x => .inr (Lx.BuA.ext x k))
theorem meansL_len (l : List UInt8) (e : Nat) (x : List UInt8) (h : meansL l e = some x) : x.length ≤ 4 := by
  unfold meansL at h
  cases hn : namedL ((l.drop 1).take (e - 1)) with
  | some y =>
    rw [hn] at h
    cases h
    unfold namedL at hn
    repeat' split at hn
    all_goals (first | (cases hn; decide) | cases hn)
  | none =>
    rw [hn] at h
    dsimp only at h
    split at h
    · unfold codedL at h
      cases hc : codeL ((l.drop 2).take (e - 2)) with
      | none => rw [hc] at h; cases h
      | some n =>
        rw [hc] at h
        have e : (Utf8.encode (n : Int)).data.toList = x := Option.some.inj h
        rw [← e]
        exact (encode_len (n : Int)).2
    · cases h
theorem entityL_len (l : List UInt8) : (entityL l).1.length ≤ 4 := by
  unfold entityL
  dsimp only
  split
  · decide
  · split
    · exact meansL_len _ _ _ ‹_›
    · decide
theorem entityL_le (c : UInt8) (r : List UInt8) : (entityL (c :: r)).2 ≤ (c :: r).length := by
  unfold entityL
  dsimp only
  split
  · simp
  · rename_i h
    obtain ⟨k, e, h1, _⟩ := indexByte_some h
    have hk := (List.getElem?_eq_some_iff.1 h1).1
    rw [List.length_take] at hk
    rw [e]
    split
    · show k + 1 ≤ _; omega
    · simp
theorem decF_len : ∀ (f : Nat) (l : List UInt8), (decF f l).length ≤ 4 * l.length := by
  intro f
  induction f with
  | zero => intro l; simp [decF]
  | succ f ih =>
    intro l
    cases l with
    | nil => simp [decF]
    | cons c r =>
      rw [decF]
      split
      · have h1 := entityL_len (c :: r)
        have h2 := ih ((c :: r).drop (entityL (c :: r)).2)
        have h3 := entityL_pos (c :: r)
        rw [List.length_append]
        rw [List.length_drop] at h2
        simp only [List.length_cons] at h2 ⊢
        omega
      · have := ih r
        simp only [List.length_cons]
        omega
theorem decL_len (l : List UInt8) : (decL l).length ≤ 4 * l.length := decF_len _ l
theorem decL_all {l : List UInt8} (h : ∀ c ∈ l, c ≠ 38) : decL l = l := by
  have := decL_front h []
  rw [List.append_nil, decL_nil, List.append_nil] at this
  exact this
theorem decL_at {l : List UInt8} {k : Nat} (h : l[k]? = some 38) (hb : ∀ j x, j < k → l[j]? = some x → x ≠ 38) :
    decL l = l.take k ++ ((entityL (l.drop k)).1 ++ decL ((l.drop k).drop (entityL (l.drop k)).2)) := by
  obtain ⟨hk, e⟩ := List.getElem?_eq_some_iff.1 h
  have hd : l.drop k = 38 :: l.drop (k + 1) := by rw [List.drop_eq_getElem_cons hk, e]
  have h1 : l = l.take k ++ l.drop k := (List.take_append_drop k l).symm
  have hp : ∀ c ∈ l.take k, c ≠ 38 := by
    intro c hc
    obtain ⟨j, hj, ej⟩ := List.getElem_of_mem hc
    rw [List.length_take] at hj
    exact hb j c (by omega) (by rw [← ej, List.getElem_take]; exact List.getElem?_eq_getElem (by omega))
  have h2 := decL_front hp (l.drop k)
  rw [← h1] at h2
  rw [h2]
  conv => lhs; rw [hd, decL_amp]
  rw [← hd]
def strLen : Value → Nat
  | .string s => s.size
  | _ => 0
theorem pre_len {a b c : List UInt8} (h : a ++ b = c) : a.length ≤ c.length := by rw [← h, List.length_append]; omega
theorem Decode_any (s : ByteArray) (hs : s.size ≤ 100000000000) (w : World) (hl : LW w) : Calls Tryz.prog 55 #[.string s] w (RVal (.string (bs (decL (anewB s).data.toList))) w) := by
  have HA := qh (xanew_any s (by omega))
  have hts := anewB_size s
  obtain ⟨t, ht⟩ : ∃ t, anewB s = t := ⟨_, rfl⟩
  rw [ht] at HA hts ⊢
  obtain ⟨out, ho⟩ : ∃ out, decL t.data.toList = out := ⟨_, rfl⟩
  have hol : out.length ≤ 1600000000000 := by
    have := decL_len t.data.toList
    rw [ho] at this
    have e : t.data.toList.length = t.size := rfl
    omega
  rw [ho]
  have HOL := qh hol
  have HO := qh ho
  have HL := qh hl
  have HTS := qh (show t.size ≤ 400000000000 by omega)
  clear ht hts hs ho hol hl
  go_enter Tryz.func55, Tryz.ntmps55
  go_wp2_with (go_at_call 49; refine (HA.out _).mono ?_)
  rintro e w1 ⟨rfl, x1⟩
  have X1 := qh x1
  have BN := qh (Lx.BuF.new w1 w1.heap.size (Nat.le_refl _))
  have XA := qh ((Ext.refl w1).alloc (.cells #[.pointer none, .slice none 0 0] 82))
  clear x1
  go_upto_region 3 with fail
  obtain ⟨wA, hwA⟩ : ∃ wA : World, wA = w1.alloc (.cells #[.pointer none, .slice none 0 0] 82) := ⟨_, rfl⟩
  rw [← hwA] at BN XA ⊢
  clear hwA
  go_wp2_with fail
  go_loopw [0, 4, 5, 6] (fun sv _ _ _ wr => ∃ (r : ByteArray) (acc : List UInt8), sv = .string r ∧ r.size ≤ t.size ∧ acc ++ decL r.data.toList = out ∧ Lx.BuF w1.heap.size w1.heap.size (Lib.byteCells acc) wr ∧ Ext w1 wr) (fun sv _ _ _ _ => strLen sv)
  case atStart => exact ⟨t, [], rfl, Nat.le_refl _, HO.out, BN.out, XA.out⟩
  case round =>
    obtain ⟨r, acc, rfl, hrt, hacc, hbf, xr⟩ := hrel
    have HACC := qh hacc
    have HBF := qh hbf
    have XR := qh xr
    have HRT := qh hrt
    have hws := xr.size
    have HLA := qh (Nat.le_trans (pre_len hacc) HOL.out)
    clear hacc hbf xr hrt
    by_cases hz : r.size = 0
    · have e0 : (r.toList == ([] : List UInt8)) = true := etext_none hz
      have e1 : (r.toList != ([] : List UInt8)) = false := by simp [bne, e0]
      have hfin : acc = out := by
        have h := HACC.out
        rw [show r.data.toList = [] from List.eq_nil_of_length_eq_zero hz, decL_nil, List.append_nil] at h
        exact h
      subst hfin
      clear hz
      go_wp2_with (go_at_call 38; refine (Lx.String_any w1.heap.size w1.heap.size _ wr HBF.out hws).mono ?_)
      rintro e w2 ⟨rfl, x2⟩
      go_wp2_with fail
      go_ret
      exact ⟨rfl, X1.out.trans (Below.trans XR.out x2)⟩
    have e0 : (r.toList == ([] : List UInt8)) = false := etext_some hz
    have e1 : (r.toList != ([] : List UInt8)) = true := by simp [bne, e0]
    have HI := qh (IndexByte_any r 38 38 rfl)
    obtain ⟨z, hzz⟩ : ∃ z, Lib.indexByte r.data.toList 38 = z := ⟨_, rfl⟩
    rw [hzz] at HI
    have HZZ := qh hzz
    have HNZ := qh hz
    clear hzz hz
    by_cases hneg : z < 0
    · have hfin : acc ++ r.data.toList = out := by
        rw [← HACC.out, decL_all (indexByte_none (by rw [HZZ.out]; exact hneg))]
      have HFIN := qh hfin
      have hlen : acc.length + r.size ≤ 140737488355328 := by have := HLA.out; have := HRT.out; have := HTS.out; omega
      have HLN := qh hlen
      clear hfin hlen
      go_wp2_with (go_at_call 92; refine (HI.out _).mono ?_)
      rintro e w2 ⟨rfl, x2⟩
      have X2 := qh (XR.out.trans x2)
      have hs2 := X2.out.size
      have HB2 := qh (HBF.out.ext x2)
      clear x2
      go_wp2_with (go_at_call 93; refine (Lx.Write_any w1.heap.size w1.heap.size acc r out HFIN.out w2 HB2.out HLN.out hs2).mono ?_)
      rintro e w3 ⟨m3, rfl, _, hb3, x3, _⟩
      have X3 := qh (Below.trans X2.out x3)
      have hs3 := X3.out.size
      have HB3 := qh hb3
      clear x3 hb3
      go_wp2_with (go_at_call 38; refine (Lx.String_any w1.heap.size w1.heap.size out w3 HB3.out hs3).mono ?_)
      rintro e w4 ⟨rfl, x4⟩
      go_wp2_with fail
      go_ret
      exact ⟨rfl, X1.out.trans (Below.trans X3.out x4)⟩
    · obtain ⟨k, hk, hk38, hkb⟩ := indexByte_some (by rw [HZZ.out]; exact hneg)
      rw [HZZ.out] at hk
      subst hk
      have hkr : k < r.size := (List.getElem?_eq_some_iff.1 hk38).1
      have hat := decL_at hk38 hkb
      have hlen0 : r.data.toList.length = r.size := rfl
      obtain ⟨c, q, hcq⟩ : ∃ c q, r.data.toList.drop k = c :: q := by
        obtain ⟨h1, h2⟩ := List.getElem?_eq_some_iff.1 hk38
        exact ⟨_, _, List.drop_eq_getElem_cons h1⟩
      have hle : (entityL (r.data.toList.drop k)).2 ≤ r.size - k := by
        have h1 := entityL_le c q
        rw [← hcq, List.length_drop] at h1
        omega
      have hpos := entityL_pos (r.data.toList.drop k)
      have hx4 := entityL_len (r.data.toList.drop k)
      have hhead : (r.data.toList.drop k).head? = some 38 := by rw [List.head?_drop]; exact hk38
      have hcut : ∀ i j, r.extract i j = bs ((r.data.toList.drop i).take (j - i)) := fun i j => by
        have h := bs_cut r.data.toList i j
        rw [bs_list] at h; exact h
      have hp : (r.extract 0 k).data.toList = r.data.toList.take k := by rw [hcut, bs_data, List.drop_zero, Nat.sub_zero]
      have hd : (r.extract k r.size).data.toList = r.data.toList.drop k := by
        rw [hcut, bs_data]; exact List.take_of_length_le (by rw [List.length_drop]; omega)
      have hdz : (r.extract k r.size).size ≤ 1000000000000 := by
        show (r.extract k r.size).data.toList.length ≤ _
        rw [hd, List.length_drop]; have := HRT.out; have := HTS.out; omega
      have HENT := qh (fun W (hW : LW W) => (hd ▸ entity_any (r.extract k r.size) hdz (by rw [hd]; exact hhead) W hW : Calls Tryz.prog 94 #[.string (r.extract k r.size)] W (RTwo (.string (bs (entityL (r.data.toList.drop k)).1)) (.int .i64 (entityL (r.data.toList.drop k)).2) W)))
      obtain ⟨x, hx⟩ : ∃ x, (entityL (r.data.toList.drop k)).1 = x := ⟨_, rfl⟩
      obtain ⟨n, hn⟩ : ∃ n, (entityL (r.data.toList.drop k)).2 = n := ⟨_, rfl⟩
      rw [hx, hn] at HENT hat
      rw [hn] at hle hpos
      rw [hx] at hx4
      obtain ⟨acc1, ha1⟩ : ∃ a, acc ++ (r.extract 0 k).data.toList = a := ⟨_, rfl⟩
      obtain ⟨acc2, ha2⟩ : ∃ a, acc1 ++ (bs x).data.toList = a := ⟨_, rfl⟩
      have hnext : (r.extract (k + n) r.size).data.toList = (r.data.toList.drop k).drop n := by
        rw [hcut, bs_data, List.drop_drop]; exact List.take_of_length_le (by rw [List.length_drop]; omega)
      have hnz : (r.extract (k + n) r.size).size = r.size - (k + n) := by
        show (r.extract (k + n) r.size).data.toList.length = _
        rw [hnext, List.length_drop, List.length_drop]; omega
      have hacc2 : acc2 ++ decL (r.extract (k + n) r.size).data.toList = out := by
        rw [hnext, ← ha2, ← ha1, hp, bs_data, ← HACC.out, hat]; simp
      have HACC2 := qh hacc2
      have HNZ2 := qh hnz
      have HA1 := qh ha1
      have HA2 := qh ha2
      have hl1 : acc.length + (r.extract 0 k).size ≤ 140737488355328 := by
        have h1 : (r.extract 0 k).size = (r.data.toList.take k).length := by show (r.extract 0 k).data.toList.length = _; rw [hp]
        rw [h1, List.length_take]; have := HLA.out; have := HRT.out; have := HTS.out; omega
      have hl2 : acc1.length + (bs x).size ≤ 140737488355328 := by
        have h1 := pre_len hacc2
        have h2 := HOL.out
        have h3 : acc2.length = acc1.length + (bs x).size := by rw [← ha2, List.length_append]; rfl
        omega
      have HL1 := qh hl1
      have HL2 := qh hl2
      have kneg : decide ((k : Int) < 0) = false := decide_eq_false (by omega)
      have b1 : (0 : Int) ≤ (k : Int) := by omega
      have b2 : (k : Int) ≤ (r.size : Int) := by omega
      have hwk : IntKind.i64.wrap ((k : Int) + (n : Int)) = (k : Int) + (n : Int) := IntWalk.i64_in _ (by have := HRT.out; have := HTS.out; omega)
      have b3 : (0 : Int) ≤ (k : Int) + (n : Int) := by omega
      have b4 : (k : Int) + (n : Int) ≤ (r.size : Int) := by omega
      have hkn : ((k : Int) + (n : Int)).toNat = k + n := by omega
      have HPN := qh (And.intro hpos (And.intro hle hkr))
      clear hneg hk38 hkb hat hlen0 hcq hle hpos hx4 hhead hcut hp hd hdz hx hn ha1 ha2 hnext hnz hacc2 hl1 hl2 hkr
      go_wp2_with (go_at_call 92; refine (HI.out _).mono ?_)
      rintro e w2 ⟨rfl, x2⟩
      have X2 := qh (XR.out.trans x2)
      have hs2 := X2.out.size
      have HB2 := qh (HBF.out.ext x2)
      clear x2
      go_wp2_with (go_at_call 93; refine (Lx.Write_any w1.heap.size w1.heap.size acc (r.extract 0 k) acc1 HA1.out w2 HB2.out HL1.out hs2).mono ?_)
      rintro e w3 ⟨m3, rfl, _, hb3, x3, _⟩
      have X3 := qh (Below.trans X2.out x3)
      have HB3 := qh hb3
      clear x3 hb3
      go_wp2_with (go_at_call 94; refine (HENT.out _ (HL.out.ext (X1.out.trans X3.out))).mono ?_)
      rintro e w4 ⟨rfl, x4⟩
      have X4 := qh (Ext.trans (b := w3) X3.out x4)
      have hs4 := X4.out.size
      have HB4 := qh (HB3.out.ext x4)
      clear x4
      go_wp2_with (go_at_call 93; refine (Lx.Write_any w1.heap.size w1.heap.size acc1 (bs x) acc2 HA2.out w4 HB4.out HL2.out hs4).mono ?_)
      rintro e w5 ⟨m5, rfl, _, hb5, x5, _⟩
      have X5 := qh (Below.trans X4.out x5)
      have HB5 := qh hb5
      clear x5 hb5
      go_wp2_with fail
      go_roundw
      case rel => exact ⟨r.extract (k + n) r.size, acc2, by first | rfl | rw [hkn], by rw [HNZ2.out]; have := HRT.out; omega, HACC2.out, HB5.out, X5.out⟩
      case measure => simp only [strLen]; rw [HNZ2.out]; have := HPN.out; omega
def beginsL (l : List UInt8) (k : Nat) (t : List UInt8) : Bool := decide ((l.drop k).take t.length = t)
theorem begins_any (s t : ByteArray) (k : Nat) (hs : s.size ≤ 1000000000000) (ht0 : 0 < t.size) (ht : t.size ≤ 1000) (hk : k ≤ 1000000000000) (w : World) :
    Calls Tryz.prog 109 #[.string s, .int .i64 k, .string t] w (RBool (beginsL s.data.toList k t.data.toList) w) := by
  have x := Ext.refl w
  obtain ⟨b, hb⟩ : ∃ b, beginsL s.data.toList k t.data.toList = b := ⟨_, rfl⟩
  rw [hb]
  unfold beginsL at hb
  have e1 : s.data.toList.length = s.size := rfl
  have e2 : t.data.toList.length = t.size := rfl
  have hw : IntKind.i64.wrap ((k : Int) + (t.size : Int)) = (k : Int) + (t.size : Int) := IntWalk.i64_in _ (by omega)
  by_cases h1 : k + t.size ≤ s.size
  · have h1i : (k : Int) + (t.size : Int) ≤ (s.size : Int) := by omega
    have b1 : (0 : Int) ≤ (k : Int) := by omega
    have b2 : (k : Int) ≤ (k : Int) + (t.size : Int) := by omega
    have hkn : ((k : Int) + (t.size : Int)).toNat = k + t.size := by omega
    have hcut : s.extract k (k + t.size) = bs ((s.data.toList.drop k).take t.size) := by
      have h := bs_cut s.data.toList k (k + t.size)
      rw [bs_list, Nat.add_sub_cancel_left] at h; exact h
    have heq : ((s.extract k (k + t.size)).toList == t.toList) = b := by
      rw [← hb, hcut, e2]
      have h := list_beq ((s.data.toList.drop k).take t.size) t.data.toList
      rw [bs_list] at h
      exact h
    have HEQ := qh heq
    generalize hE : s.extract k (k + t.size) = E at *
    clear hcut hb h1 e1 e2
    go_enter Tryz.func109, Tryz.ntmps109
    go_wp2_with fail
    go_ret
    exact ⟨rfl, x⟩
  · have h1i : ¬ (k : Int) + (t.size : Int) ≤ (s.size : Int) := by omega
    have hb0 : b = false := by
      rw [← hb]
      refine decide_eq_false fun h => ?_
      have h2 := congrArg List.length h
      rw [List.length_take, List.length_drop] at h2
      omega
    subst hb0
    clear hb h1 e1 e2
    go_enter Tryz.func109, Tryz.ntmps109
    go_wp2_with fail
    go_ret
    exact ⟨rfl, x⟩
def refN (base most : Nat) (l : List UInt8) : Int := match codeN base most l with | some n => n | none => -1
theorem number10_any (s : ByteArray) (hs : s.size ≤ 1000000000000) (w : World) : Calls Tryz.prog 116 #[.string s, .int .i64 10, .int .i64 7] w (RVal (.int .i64 (refN 10 7 s.data.toList)) w) := by
  have x := Ext.refl w
  obtain ⟨res, hres⟩ : ∃ z, refN 10 7 s.data.toList = z := ⟨_, rfl⟩
  rw [hres]
  unfold refN at hres
  obtain ⟨l, hl⟩ : ∃ l, s.data.toList = l := ⟨_, rfl⟩
  have hz : l.length = s.size := by rw [← hl]; rfl
  rw [hl] at hres
  by_cases h1 : s.size < 1
  · have h1i : (s.size : Int) < 1 := by omega
    have hr : res = -1 := by rw [← hres]; unfold codeN; rw [if_pos (.inl (List.eq_nil_of_length_eq_zero (by omega)))]
    subst hr
    clear hres hz hl h1
    go_enter Tryz.func116, Tryz.ntmps116
    go_wp2_with fail
    go_ret
    exact ⟨rfl, x⟩
  have h1i : ¬ (s.size : Int) < 1 := by omega
  by_cases h2 : 7 < s.size
  · have h2i : (7 : Int) < (s.size : Int) := by omega
    have hr : res = -1 := by rw [← hres]; unfold codeN; rw [if_pos (.inr (by omega))]
    subst hr
    clear hres hz hl h1 h2
    go_enter Tryz.func116, Tryz.ntmps116
    go_wp2_with fail
    go_ret
    exact ⟨rfl, x⟩
  have h2i : ¬ (7 : Int) < (s.size : Int) := by omega
  obtain ⟨r, hr⟩ : ∃ r, numL 10 0 l = r := ⟨_, rfl⟩
  have hres2 : (match r.filter runeN with | some n => (n : Int) | none => -1) = res := by
    rw [← hres, ← hr]; unfold codeN; rw [if_neg]
    rintro (h | h)
    · rw [h] at hz; simp at hz; omega
    · omega
  have HRES := qh hres2
  have HR := qh hr
  have HZ := qh hz
  have HLL := qh hl
  obtain ⟨N, hN⟩ : ∃ N, s.size = N := ⟨_, rfl⟩
  have h7 : N ≤ 7 := by omega
  have HN := qh hN
  clear hres hres2 hr hz h1 h2 hl hN
  go_enter Tryz.func116, Tryz.ntmps116
  go_wp2_with fail
  go_loopw [7, 8, 9, 10] (fun n i _ _ wr => ∃ (k m : Nat), k ≤ s.size ∧ i = .int .i64 k ∧ n = .int .i64 m ∧ numL 10 m (l.drop k) = r ∧ m < 16 ^ k ∧ Ext w wr) (fun _ i _ _ _ => s.size - (intOf i).toNat)
  case atStart => exact ⟨0, 0, Nat.zero_le _, rfl, rfl, by simpa using HR.out, by decide, Ext.refl _⟩
  case round =>
    obtain ⟨k, m, hk, rfl, rfl, hnum, hm, xr⟩ := hrel
    have hp7 := pow_le7 (k := k) (by have := HN.out; omega)
    have HNUM := qh hnum
    have XR := qh xr
    have hs7 : s.size ≤ 7 := by have := HN.out; omega
    clear hnum xr
    by_cases hlt : k < s.size
    · obtain ⟨c, hc⟩ : ∃ c, s[k]'hlt = c := ⟨_, rfl⟩
      have hix : ∀ W : World, (Instr.index 9 (.string s) (.int .i64 (k : Int))).run Tryz.prog W = .ok (.int .u8 (c.toNat : Int)) W := by
        intro W
        rw [run_index_string W 9 s .i64 (k : Int) Tryz.underlying9, dif_pos ⟨by omega, by omega⟩]
        simp only [Int.toNat_natCast, hc]
      have hlc : l[k]? = some c := by rw [← HLL.out, List.getElem?_eq_getElem (by exact hlt)]; exact congrArg some hc
      have hdrop : l.drop k = c :: l.drop (k + 1) := by
        obtain ⟨hk2, e⟩ := List.getElem?_eq_some_iff.1 hlc
        rw [List.drop_eq_getElem_cons hk2, e]
      have hn := HNUM.out
      rw [hdrop, numL] at hn
      have BAD := qh (fun h : ¬ digV c < 10 => show r = none by rw [← hn, if_pos (by omega)])
      have GOOD := qh (fun h : digV c < 10 => show numL 10 (m * 10 + digV c) (l.drop (k + 1)) = r by rw [← hn, if_neg (by omega)])
      have PW := qh (show 16 ^ (k + 1) = 16 ^ k * 16 from Nat.pow_succ 16 k)
      have PD := qh (show digV c = if 48 ≤ c.toNat ∧ c.toNat ≤ 57 then c.toNat - 48 else if 97 ≤ c.toNat ∧ c.toNat ≤ 102 then c.toNat - 87 else if 65 ≤ c.toNat ∧ c.toNat ≤ 70 then c.toNat - 55 else 99 from rfl)
      obtain ⟨P, hP⟩ : ∃ P, 16 ^ k = P := ⟨_, rfl⟩
      rw [hP] at hm hp7 PW
      obtain ⟨d, hd0⟩ : ∃ d, digV c = d := ⟨_, rfl⟩
      rw [hd0] at BAD GOOD PD
      have hc256 : c.toNat < 256 := c.toNat_lt
      clear hc hlc hdrop hn hP hd0
      by_cases c1 : 48 ≤ c.toNat ∧ c.toNat ≤ 57
      · have hd : d = c.toNat - 48 := by rw [PD.out, if_pos c1]
        have c1a : (48 : Int) ≤ (c.toNat : Int) := by omega
        have c1b : (c.toNat : Int) ≤ 57 := by omega
        have hw1 : IntKind.u8.wrap ((c.toNat : Int) - 48) = (d : Int) := by rw [IntWalk.u8_in _ (by omega)]; omega
        have hw2 : IntKind.i64.wrap (d : Int) = (d : Int) := IntWalk.i64_in _ (by omega)
        clear c1
        by_cases hdb : d < 10
        · have G := qh (GOOD.out hdb)
          have h3d : decide (10 ≤ d) = false := decide_eq_false (by omega)
          have h3i : decide ((10 : Int) ≤ (d : Int)) = false := decide_eq_false (by omega)
          have hm1 : IntKind.i64.wrap ((m : Int) * 10) = (m : Int) * 10 := IntWalk.i64_in _ (by omega)
          have hm2 : IntKind.i64.wrap ((m : Int) * 10 + (d : Int)) = (m : Int) * 10 + (d : Int) := IntWalk.i64_in _ (by omega)
          have hpw : m * 10 + d < 16 ^ (k + 1) := by rw [PW.out]; omega
          have HPW := qh hpw
          clear hpw hdb hd
          go_wp2_with fail
          go_roundw
          case rel => exact ⟨k + 1, m * 10 + d, by omega, by go_num, by push_cast; rfl, G.out, HPW.out, XR.out⟩
          case measure => simp [intOf]; omega
        · have hr0 : r = none := BAD.out hdb
          have h3d : decide (10 ≤ d) = true := decide_eq_true (by omega)
          have h3i : decide ((10 : Int) ≤ (d : Int)) = true := decide_eq_true (by omega)
          have hres : res = -1 := by rw [← HRES.out, hr0]; rfl
          subst hres
          clear hdb hd
          go_wp2_with fail
          go_ret
          exact ⟨rfl, XR.out⟩

      by_cases q1 : c.toNat < 48
      · skip
        have t0 : ¬ ((48 : Int) ≤ (c.toNat : Int)) := by omega
        have t1 : ¬ ((97 : Int) ≤ (c.toNat : Int)) := by omega
        have t2 : ¬ ((65 : Int) ≤ (c.toNat : Int)) := by omega
        have hd99 : d = 99 := by rw [PD.out, if_neg (by omega), if_neg (by omega), if_neg (by omega)]
        have hr0 : r = none := BAD.out (by omega)
        have hres : res = -1 := by rw [← HRES.out, hr0]; rfl
        subst hres
        clear hd99 c1 q1
        go_wp2_with fail
        go_ret
        exact ⟨rfl, XR.out⟩
      by_cases q2 : c.toNat < 65
      · skip
        have t0 : ((48 : Int) ≤ (c.toNat : Int)) := by omega
        have t1 : ¬ ((c.toNat : Int) ≤ (57 : Int)) := by omega
        have t2 : ¬ ((97 : Int) ≤ (c.toNat : Int)) := by omega
        have t3 : ¬ ((65 : Int) ≤ (c.toNat : Int)) := by omega
        have hd99 : d = 99 := by rw [PD.out, if_neg (by omega), if_neg (by omega), if_neg (by omega)]
        have hr0 : r = none := BAD.out (by omega)
        have hres : res = -1 := by rw [← HRES.out, hr0]; rfl
        subst hres
        clear hd99 c1 q1 q2
        go_wp2_with fail
        go_ret
        exact ⟨rfl, XR.out⟩
      by_cases q3 : c.toNat ≤ 70
      · have hd : d = c.toNat - 55 := by rw [PD.out, if_neg (by omega), if_neg (by omega), if_pos (by omega)]
        have t0 : ((48 : Int) ≤ (c.toNat : Int)) := by omega
        have t1 : ¬ ((c.toNat : Int) ≤ (57 : Int)) := by omega
        have t2 : ¬ ((97 : Int) ≤ (c.toNat : Int)) := by omega
        have t3 : ((65 : Int) ≤ (c.toNat : Int)) := by omega
        have t4 : ((c.toNat : Int) ≤ (70 : Int)) := by omega
        have hw1 : IntKind.u8.wrap ((c.toNat : Int) - 65) = (c.toNat : Int) - 65 := IntWalk.u8_in _ (by omega)
        have hw2 : IntKind.i64.wrap ((c.toNat : Int) - 65) = (c.toNat : Int) - 65 := IntWalk.i64_in _ (by omega)
        have hw3 : IntKind.i64.wrap ((c.toNat : Int) - 65 + 10) = (d : Int) := by rw [IntWalk.i64_in _ (by omega)]; omega
        clear c1 q1 q2 q3
        by_cases hdb : d < 10
        · have G := qh (GOOD.out hdb)
          have h3d : decide (10 ≤ d) = false := decide_eq_false (by omega)
          have h3i : decide ((10 : Int) ≤ (d : Int)) = false := decide_eq_false (by omega)
          have hm1 : IntKind.i64.wrap ((m : Int) * 10) = (m : Int) * 10 := IntWalk.i64_in _ (by omega)
          have hm2 : IntKind.i64.wrap ((m : Int) * 10 + (d : Int)) = (m : Int) * 10 + (d : Int) := IntWalk.i64_in _ (by omega)
          have hpw : m * 10 + d < 16 ^ (k + 1) := by rw [PW.out]; omega
          have HPW := qh hpw
          clear hpw hdb hd
          go_wp2_with fail
          go_roundw
          case rel => exact ⟨k + 1, m * 10 + d, by omega, by go_num, by push_cast; rfl, G.out, HPW.out, XR.out⟩
          case measure => simp [intOf]; omega
        · have hr0 : r = none := BAD.out hdb
          have h3d : decide (10 ≤ d) = true := decide_eq_true (by omega)
          have h3i : decide ((10 : Int) ≤ (d : Int)) = true := decide_eq_true (by omega)
          have hres : res = -1 := by rw [← HRES.out, hr0]; rfl
          subst hres
          clear hdb hd
          go_wp2_with fail
          go_ret
          exact ⟨rfl, XR.out⟩
      by_cases q4 : c.toNat < 97
      · skip
        have t0 : ((48 : Int) ≤ (c.toNat : Int)) := by omega
        have t1 : ¬ ((c.toNat : Int) ≤ (57 : Int)) := by omega
        have t2 : ¬ ((97 : Int) ≤ (c.toNat : Int)) := by omega
        have t3 : ((65 : Int) ≤ (c.toNat : Int)) := by omega
        have t4 : ¬ ((c.toNat : Int) ≤ (70 : Int)) := by omega
        have hd99 : d = 99 := by rw [PD.out, if_neg (by omega), if_neg (by omega), if_neg (by omega)]
        have hr0 : r = none := BAD.out (by omega)
        have hres : res = -1 := by rw [← HRES.out, hr0]; rfl
        subst hres
        clear hd99 c1 q1 q2 q3 q4
        go_wp2_with fail
        go_ret
        exact ⟨rfl, XR.out⟩
      by_cases q5 : c.toNat ≤ 102
      · have hd : d = c.toNat - 87 := by rw [PD.out, if_neg (by omega), if_pos (by omega)]
        have t0 : ((48 : Int) ≤ (c.toNat : Int)) := by omega
        have t1 : ¬ ((c.toNat : Int) ≤ (57 : Int)) := by omega
        have t2 : ((97 : Int) ≤ (c.toNat : Int)) := by omega
        have t3 : ((c.toNat : Int) ≤ (102 : Int)) := by omega
        have hw1 : IntKind.u8.wrap ((c.toNat : Int) - 97) = (c.toNat : Int) - 97 := IntWalk.u8_in _ (by omega)
        have hw2 : IntKind.i64.wrap ((c.toNat : Int) - 97) = (c.toNat : Int) - 97 := IntWalk.i64_in _ (by omega)
        have hw3 : IntKind.i64.wrap ((c.toNat : Int) - 97 + 10) = (d : Int) := by rw [IntWalk.i64_in _ (by omega)]; omega
        clear c1 q1 q2 q3 q4 q5
        by_cases hdb : d < 10
        · have G := qh (GOOD.out hdb)
          have h3d : decide (10 ≤ d) = false := decide_eq_false (by omega)
          have h3i : decide ((10 : Int) ≤ (d : Int)) = false := decide_eq_false (by omega)
          have hm1 : IntKind.i64.wrap ((m : Int) * 10) = (m : Int) * 10 := IntWalk.i64_in _ (by omega)
          have hm2 : IntKind.i64.wrap ((m : Int) * 10 + (d : Int)) = (m : Int) * 10 + (d : Int) := IntWalk.i64_in _ (by omega)
          have hpw : m * 10 + d < 16 ^ (k + 1) := by rw [PW.out]; omega
          have HPW := qh hpw
          clear hpw hdb hd
          go_wp2_with fail
          go_roundw
          case rel => exact ⟨k + 1, m * 10 + d, by omega, by go_num, by push_cast; rfl, G.out, HPW.out, XR.out⟩
          case measure => simp [intOf]; omega
        · have hr0 : r = none := BAD.out hdb
          have h3d : decide (10 ≤ d) = true := decide_eq_true (by omega)
          have h3i : decide ((10 : Int) ≤ (d : Int)) = true := decide_eq_true (by omega)
          have hres : res = -1 := by rw [← HRES.out, hr0]; rfl
          subst hres
          clear hdb hd
          go_wp2_with fail
          go_ret
          exact ⟨rfl, XR.out⟩
      have t0 : ((48 : Int) ≤ (c.toNat : Int)) := by omega
      have t1 : ¬ ((c.toNat : Int) ≤ (57 : Int)) := by omega
      have t2 : ((97 : Int) ≤ (c.toNat : Int)) := by omega
      have t3 : ¬ ((c.toNat : Int) ≤ (102 : Int)) := by omega
      have t4 : ((65 : Int) ≤ (c.toNat : Int)) := by omega
      have t5 : ¬ ((c.toNat : Int) ≤ (70 : Int)) := by omega
      have hd99 : d = 99 := by rw [PD.out, if_neg (by omega), if_neg (by omega), if_neg (by omega)]
      have hr0 : r = none := BAD.out (by omega)
      have hres : res = -1 := by rw [← HRES.out, hr0]; rfl
      subst hres
      clear hd99 c1 q1 q2 q3 q4 q5
      go_wp2_with fail
      go_ret
      exact ⟨rfl, XR.out⟩
    · obtain rfl : k = s.size := by omega
      have hr1 : r = some m := by rw [← HNUM.out, List.drop_eq_nil_of_le (by have := HZ.out; omega)]; rfl
      have hlt1 : ¬ (s.size : Int) < (s.size : Int) := by omega
      by_cases n0 : m = 0
      · have hres : res = -1 := by rw [← HRES.out, hr1, n0]; rfl
        have k0 : ((m : Int) == 0) = true := by simp [n0]
        subst hres
        clear n0 hr1
        go_wp2_with fail
        go_ret
        exact ⟨rfl, XR.out⟩
      have k0 : ((m : Int) == 0) = false := by rw [beq_eq_false_iff_ne]; omega
      by_cases n1 : (1114111 : Int) < (m : Int)
      · have hres : res = -1 := by
          have hf : runeN m = false := by unfold runeN; exact decide_eq_false (by omega)
          rw [← HRES.out, hr1]; simp [Option.filter, hf]
        subst hres
        clear n0 hr1
        go_wp2_with fail
        go_ret
        exact ⟨rfl, XR.out⟩
      by_cases n2 : (55296 : Int) ≤ (m : Int)
      · by_cases n3 : (m : Int) ≤ 57343
        · have hres : res = -1 := by
            have hf : runeN m = false := by unfold runeN; exact decide_eq_false (by omega)
            rw [← HRES.out, hr1]; simp [Option.filter, hf]
          subst hres
          clear n0 hr1
          go_wp2_with fail
          go_ret
          exact ⟨rfl, XR.out⟩
        · have hres : res = (m : Int) := by
            have hf : runeN m = true := by unfold runeN; exact decide_eq_true (by omega)
            rw [← HRES.out, hr1]; simp [Option.filter, hf]
          subst hres
          clear n0 hr1
          go_wp2_with fail
          go_ret
          exact ⟨rfl, XR.out⟩
      · have hres : res = (m : Int) := by
          have hf : runeN m = true := by unfold runeN; exact decide_eq_true (by omega)
          rw [← HRES.out, hr1]; simp [Option.filter, hf]
        subst hres
        clear n0 hr1
        go_wp2_with fail
        go_ret
        exact ⟨rfl, XR.out⟩
theorem number16_any (s : ByteArray) (hs : s.size ≤ 1000000000000) (w : World) : Calls Tryz.prog 116 #[.string s, .int .i64 16, .int .i64 6] w (RVal (.int .i64 (refN 16 6 s.data.toList)) w) := by
  have x := Ext.refl w
  obtain ⟨res, hres⟩ : ∃ z, refN 16 6 s.data.toList = z := ⟨_, rfl⟩
  rw [hres]
  unfold refN at hres
  obtain ⟨l, hl⟩ : ∃ l, s.data.toList = l := ⟨_, rfl⟩
  have hz : l.length = s.size := by rw [← hl]; rfl
  rw [hl] at hres
  by_cases h1 : s.size < 1
  · have h1i : (s.size : Int) < 1 := by omega
    have hr : res = -1 := by rw [← hres]; unfold codeN; rw [if_pos (.inl (List.eq_nil_of_length_eq_zero (by omega)))]
    subst hr
    clear hres hz hl h1
    go_enter Tryz.func116, Tryz.ntmps116
    go_wp2_with fail
    go_ret
    exact ⟨rfl, x⟩
  have h1i : ¬ (s.size : Int) < 1 := by omega
  by_cases h2 : 6 < s.size
  · have h2i : (6 : Int) < (s.size : Int) := by omega
    have hr : res = -1 := by rw [← hres]; unfold codeN; rw [if_pos (.inr (by omega))]
    subst hr
    clear hres hz hl h1 h2
    go_enter Tryz.func116, Tryz.ntmps116
    go_wp2_with fail
    go_ret
    exact ⟨rfl, x⟩
  have h2i : ¬ (6 : Int) < (s.size : Int) := by omega
  obtain ⟨r, hr⟩ : ∃ r, numL 16 0 l = r := ⟨_, rfl⟩
  have hres2 : (match r.filter runeN with | some n => (n : Int) | none => -1) = res := by
    rw [← hres, ← hr]; unfold codeN; rw [if_neg]
    rintro (h | h)
    · rw [h] at hz; simp at hz; omega
    · omega
  have HRES := qh hres2
  have HR := qh hr
  have HZ := qh hz
  have HLL := qh hl
  obtain ⟨N, hN⟩ : ∃ N, s.size = N := ⟨_, rfl⟩
  have h7 : N ≤ 7 := by omega
  have HN := qh hN
  clear hres hres2 hr hz h1 h2 hl hN
  go_enter Tryz.func116, Tryz.ntmps116
  go_wp2_with fail
  go_loopw [7, 8, 9, 10] (fun n i _ _ wr => ∃ (k m : Nat), k ≤ s.size ∧ i = .int .i64 k ∧ n = .int .i64 m ∧ numL 16 m (l.drop k) = r ∧ m < 16 ^ k ∧ Ext w wr) (fun _ i _ _ _ => s.size - (intOf i).toNat)
  case atStart => exact ⟨0, 0, Nat.zero_le _, rfl, rfl, by simpa using HR.out, by decide, Ext.refl _⟩
  case round =>
    obtain ⟨k, m, hk, rfl, rfl, hnum, hm, xr⟩ := hrel
    have hp7 := pow_le7 (k := k) (by have := HN.out; omega)
    have HNUM := qh hnum
    have XR := qh xr
    have hs7 : s.size ≤ 7 := by have := HN.out; omega
    clear hnum xr
    by_cases hlt : k < s.size
    · obtain ⟨c, hc⟩ : ∃ c, s[k]'hlt = c := ⟨_, rfl⟩
      have hix : ∀ W : World, (Instr.index 9 (.string s) (.int .i64 (k : Int))).run Tryz.prog W = .ok (.int .u8 (c.toNat : Int)) W := by
        intro W
        rw [run_index_string W 9 s .i64 (k : Int) Tryz.underlying9, dif_pos ⟨by omega, by omega⟩]
        simp only [Int.toNat_natCast, hc]
      have hlc : l[k]? = some c := by rw [← HLL.out, List.getElem?_eq_getElem (by exact hlt)]; exact congrArg some hc
      have hdrop : l.drop k = c :: l.drop (k + 1) := by
        obtain ⟨hk2, e⟩ := List.getElem?_eq_some_iff.1 hlc
        rw [List.drop_eq_getElem_cons hk2, e]
      have hn := HNUM.out
      rw [hdrop, numL] at hn
      have BAD := qh (fun h : ¬ digV c < 16 => show r = none by rw [← hn, if_pos (by omega)])
      have GOOD := qh (fun h : digV c < 16 => show numL 16 (m * 16 + digV c) (l.drop (k + 1)) = r by rw [← hn, if_neg (by omega)])
      have PW := qh (show 16 ^ (k + 1) = 16 ^ k * 16 from Nat.pow_succ 16 k)
      have PD := qh (show digV c = if 48 ≤ c.toNat ∧ c.toNat ≤ 57 then c.toNat - 48 else if 97 ≤ c.toNat ∧ c.toNat ≤ 102 then c.toNat - 87 else if 65 ≤ c.toNat ∧ c.toNat ≤ 70 then c.toNat - 55 else 99 from rfl)
      obtain ⟨P, hP⟩ : ∃ P, 16 ^ k = P := ⟨_, rfl⟩
      rw [hP] at hm hp7 PW
      obtain ⟨d, hd0⟩ : ∃ d, digV c = d := ⟨_, rfl⟩
      rw [hd0] at BAD GOOD PD
      have hc256 : c.toNat < 256 := c.toNat_lt
      clear hc hlc hdrop hn hP hd0
      by_cases c1 : 48 ≤ c.toNat ∧ c.toNat ≤ 57
      · have hd : d = c.toNat - 48 := by rw [PD.out, if_pos c1]
        have c1a : (48 : Int) ≤ (c.toNat : Int) := by omega
        have c1b : (c.toNat : Int) ≤ 57 := by omega
        have hw1 : IntKind.u8.wrap ((c.toNat : Int) - 48) = (d : Int) := by rw [IntWalk.u8_in _ (by omega)]; omega
        have hw2 : IntKind.i64.wrap (d : Int) = (d : Int) := IntWalk.i64_in _ (by omega)
        clear c1
        by_cases hdb : d < 16
        · have G := qh (GOOD.out hdb)
          have h3d : decide (16 ≤ d) = false := decide_eq_false (by omega)
          have h3i : decide ((16 : Int) ≤ (d : Int)) = false := decide_eq_false (by omega)
          have hm1 : IntKind.i64.wrap ((m : Int) * 16) = (m : Int) * 16 := IntWalk.i64_in _ (by omega)
          have hm2 : IntKind.i64.wrap ((m : Int) * 16 + (d : Int)) = (m : Int) * 16 + (d : Int) := IntWalk.i64_in _ (by omega)
          have hpw : m * 16 + d < 16 ^ (k + 1) := by rw [PW.out]; omega
          have HPW := qh hpw
          clear hpw hdb hd
          go_wp2_with fail
          go_roundw
          case rel => exact ⟨k + 1, m * 16 + d, by omega, by go_num, by push_cast; rfl, G.out, HPW.out, XR.out⟩
          case measure => simp [intOf]; omega
        · have hr0 : r = none := BAD.out hdb
          have h3d : decide (16 ≤ d) = true := decide_eq_true (by omega)
          have h3i : decide ((16 : Int) ≤ (d : Int)) = true := decide_eq_true (by omega)
          have hres : res = -1 := by rw [← HRES.out, hr0]; rfl
          subst hres
          clear hdb hd
          go_wp2_with fail
          go_ret
          exact ⟨rfl, XR.out⟩

      by_cases q1 : c.toNat < 48
      · skip
        have t0 : ¬ ((48 : Int) ≤ (c.toNat : Int)) := by omega
        have t1 : ¬ ((97 : Int) ≤ (c.toNat : Int)) := by omega
        have t2 : ¬ ((65 : Int) ≤ (c.toNat : Int)) := by omega
        have hd99 : d = 99 := by rw [PD.out, if_neg (by omega), if_neg (by omega), if_neg (by omega)]
        have hr0 : r = none := BAD.out (by omega)
        have hres : res = -1 := by rw [← HRES.out, hr0]; rfl
        subst hres
        clear hd99 c1 q1
        go_wp2_with fail
        go_ret
        exact ⟨rfl, XR.out⟩
      by_cases q2 : c.toNat < 65
      · skip
        have t0 : ((48 : Int) ≤ (c.toNat : Int)) := by omega
        have t1 : ¬ ((c.toNat : Int) ≤ (57 : Int)) := by omega
        have t2 : ¬ ((97 : Int) ≤ (c.toNat : Int)) := by omega
        have t3 : ¬ ((65 : Int) ≤ (c.toNat : Int)) := by omega
        have hd99 : d = 99 := by rw [PD.out, if_neg (by omega), if_neg (by omega), if_neg (by omega)]
        have hr0 : r = none := BAD.out (by omega)
        have hres : res = -1 := by rw [← HRES.out, hr0]; rfl
        subst hres
        clear hd99 c1 q1 q2
        go_wp2_with fail
        go_ret
        exact ⟨rfl, XR.out⟩
      by_cases q3 : c.toNat ≤ 70
      · have hd : d = c.toNat - 55 := by rw [PD.out, if_neg (by omega), if_neg (by omega), if_pos (by omega)]
        have t0 : ((48 : Int) ≤ (c.toNat : Int)) := by omega
        have t1 : ¬ ((c.toNat : Int) ≤ (57 : Int)) := by omega
        have t2 : ¬ ((97 : Int) ≤ (c.toNat : Int)) := by omega
        have t3 : ((65 : Int) ≤ (c.toNat : Int)) := by omega
        have t4 : ((c.toNat : Int) ≤ (70 : Int)) := by omega
        have hw1 : IntKind.u8.wrap ((c.toNat : Int) - 65) = (c.toNat : Int) - 65 := IntWalk.u8_in _ (by omega)
        have hw2 : IntKind.i64.wrap ((c.toNat : Int) - 65) = (c.toNat : Int) - 65 := IntWalk.i64_in _ (by omega)
        have hw3 : IntKind.i64.wrap ((c.toNat : Int) - 65 + 10) = (d : Int) := by rw [IntWalk.i64_in _ (by omega)]; omega
        clear c1 q1 q2 q3
        by_cases hdb : d < 16
        · have G := qh (GOOD.out hdb)
          have h3d : decide (16 ≤ d) = false := decide_eq_false (by omega)
          have h3i : decide ((16 : Int) ≤ (d : Int)) = false := decide_eq_false (by omega)
          have hm1 : IntKind.i64.wrap ((m : Int) * 16) = (m : Int) * 16 := IntWalk.i64_in _ (by omega)
          have hm2 : IntKind.i64.wrap ((m : Int) * 16 + (d : Int)) = (m : Int) * 16 + (d : Int) := IntWalk.i64_in _ (by omega)
          have hpw : m * 16 + d < 16 ^ (k + 1) := by rw [PW.out]; omega
          have HPW := qh hpw
          clear hpw hdb hd
          go_wp2_with fail
          go_roundw
          case rel => exact ⟨k + 1, m * 16 + d, by omega, by go_num, by push_cast; rfl, G.out, HPW.out, XR.out⟩
          case measure => simp [intOf]; omega
        · have hr0 : r = none := BAD.out hdb
          have h3d : decide (16 ≤ d) = true := decide_eq_true (by omega)
          have h3i : decide ((16 : Int) ≤ (d : Int)) = true := decide_eq_true (by omega)
          have hres : res = -1 := by rw [← HRES.out, hr0]; rfl
          subst hres
          clear hdb hd
          go_wp2_with fail
          go_ret
          exact ⟨rfl, XR.out⟩
      by_cases q4 : c.toNat < 97
      · skip
        have t0 : ((48 : Int) ≤ (c.toNat : Int)) := by omega
        have t1 : ¬ ((c.toNat : Int) ≤ (57 : Int)) := by omega
        have t2 : ¬ ((97 : Int) ≤ (c.toNat : Int)) := by omega
        have t3 : ((65 : Int) ≤ (c.toNat : Int)) := by omega
        have t4 : ¬ ((c.toNat : Int) ≤ (70 : Int)) := by omega
        have hd99 : d = 99 := by rw [PD.out, if_neg (by omega), if_neg (by omega), if_neg (by omega)]
        have hr0 : r = none := BAD.out (by omega)
        have hres : res = -1 := by rw [← HRES.out, hr0]; rfl
        subst hres
        clear hd99 c1 q1 q2 q3 q4
        go_wp2_with fail
        go_ret
        exact ⟨rfl, XR.out⟩
      by_cases q5 : c.toNat ≤ 102
      · have hd : d = c.toNat - 87 := by rw [PD.out, if_neg (by omega), if_pos (by omega)]
        have t0 : ((48 : Int) ≤ (c.toNat : Int)) := by omega
        have t1 : ¬ ((c.toNat : Int) ≤ (57 : Int)) := by omega
        have t2 : ((97 : Int) ≤ (c.toNat : Int)) := by omega
        have t3 : ((c.toNat : Int) ≤ (102 : Int)) := by omega
        have hw1 : IntKind.u8.wrap ((c.toNat : Int) - 97) = (c.toNat : Int) - 97 := IntWalk.u8_in _ (by omega)
        have hw2 : IntKind.i64.wrap ((c.toNat : Int) - 97) = (c.toNat : Int) - 97 := IntWalk.i64_in _ (by omega)
        have hw3 : IntKind.i64.wrap ((c.toNat : Int) - 97 + 10) = (d : Int) := by rw [IntWalk.i64_in _ (by omega)]; omega
        clear c1 q1 q2 q3 q4 q5
        by_cases hdb : d < 16
        · have G := qh (GOOD.out hdb)
          have h3d : decide (16 ≤ d) = false := decide_eq_false (by omega)
          have h3i : decide ((16 : Int) ≤ (d : Int)) = false := decide_eq_false (by omega)
          have hm1 : IntKind.i64.wrap ((m : Int) * 16) = (m : Int) * 16 := IntWalk.i64_in _ (by omega)
          have hm2 : IntKind.i64.wrap ((m : Int) * 16 + (d : Int)) = (m : Int) * 16 + (d : Int) := IntWalk.i64_in _ (by omega)
          have hpw : m * 16 + d < 16 ^ (k + 1) := by rw [PW.out]; omega
          have HPW := qh hpw
          clear hpw hdb hd
          go_wp2_with fail
          go_roundw
          case rel => exact ⟨k + 1, m * 16 + d, by omega, by go_num, by push_cast; rfl, G.out, HPW.out, XR.out⟩
          case measure => simp [intOf]; omega
        · have hr0 : r = none := BAD.out hdb
          have h3d : decide (16 ≤ d) = true := decide_eq_true (by omega)
          have h3i : decide ((16 : Int) ≤ (d : Int)) = true := decide_eq_true (by omega)
          have hres : res = -1 := by rw [← HRES.out, hr0]; rfl
          subst hres
          clear hdb hd
          go_wp2_with fail
          go_ret
          exact ⟨rfl, XR.out⟩
      have t0 : ((48 : Int) ≤ (c.toNat : Int)) := by omega
      have t1 : ¬ ((c.toNat : Int) ≤ (57 : Int)) := by omega
      have t2 : ((97 : Int) ≤ (c.toNat : Int)) := by omega
      have t3 : ¬ ((c.toNat : Int) ≤ (102 : Int)) := by omega
      have t4 : ((65 : Int) ≤ (c.toNat : Int)) := by omega
      have t5 : ¬ ((c.toNat : Int) ≤ (70 : Int)) := by omega
      have hd99 : d = 99 := by rw [PD.out, if_neg (by omega), if_neg (by omega), if_neg (by omega)]
      have hr0 : r = none := BAD.out (by omega)
      have hres : res = -1 := by rw [← HRES.out, hr0]; rfl
      subst hres
      clear hd99 c1 q1 q2 q3 q4 q5
      go_wp2_with fail
      go_ret
      exact ⟨rfl, XR.out⟩
    · obtain rfl : k = s.size := by omega
      have hr1 : r = some m := by rw [← HNUM.out, List.drop_eq_nil_of_le (by have := HZ.out; omega)]; rfl
      have hlt1 : ¬ (s.size : Int) < (s.size : Int) := by omega
      by_cases n0 : m = 0
      · have hres : res = -1 := by rw [← HRES.out, hr1, n0]; rfl
        have k0 : ((m : Int) == 0) = true := by simp [n0]
        subst hres
        clear n0 hr1
        go_wp2_with fail
        go_ret
        exact ⟨rfl, XR.out⟩
      have k0 : ((m : Int) == 0) = false := by rw [beq_eq_false_iff_ne]; omega
      by_cases n1 : (1114111 : Int) < (m : Int)
      · have hres : res = -1 := by
          have hf : runeN m = false := by unfold runeN; exact decide_eq_false (by omega)
          rw [← HRES.out, hr1]; simp [Option.filter, hf]
        subst hres
        clear n0 hr1
        go_wp2_with fail
        go_ret
        exact ⟨rfl, XR.out⟩
      by_cases n2 : (55296 : Int) ≤ (m : Int)
      · by_cases n3 : (m : Int) ≤ 57343
        · have hres : res = -1 := by
            have hf : runeN m = false := by unfold runeN; exact decide_eq_false (by omega)
            rw [← HRES.out, hr1]; simp [Option.filter, hf]
          subst hres
          clear n0 hr1
          go_wp2_with fail
          go_ret
          exact ⟨rfl, XR.out⟩
        · have hres : res = (m : Int) := by
            have hf : runeN m = true := by unfold runeN; exact decide_eq_true (by omega)
            rw [← HRES.out, hr1]; simp [Option.filter, hf]
          subst hres
          clear n0 hr1
          go_wp2_with fail
          go_ret
          exact ⟨rfl, XR.out⟩
      · have hres : res = (m : Int) := by
          have hf : runeN m = true := by unfold runeN; exact decide_eq_true (by omega)
          rw [← HRES.out, hr1]; simp [Option.filter, hf]
        subst hres
        clear n0 hr1
        go_wp2_with fail
        go_ret
        exact ⟨rfl, XR.out⟩
theorem rSmall_any (s : ByteArray) (hs : s.size ≤ 1000000000000) (w : World) : Calls Tryz.prog 112 #[.string s] w (RVal (.string (bs (s.data.toList.map smallC))) w) := by
  obtain ⟨l, hl⟩ : ∃ l, s.data.toList = l := ⟨_, rfl⟩
  have hz : l.length = s.size := by rw [← hl]; rfl
  rw [hl]
  have HLL := qh hl
  have HZ := qh hz
  clear hl hz
  have HB1 := qh (Buf.new w)
  go_enter Tryz.func112, Tryz.ntmps112
  go_upto_region 2 with fail
  obtain ⟨w1, hw1⟩ : ∃ w1 : World, w1 = w.alloc (.cells #[] 5) := ⟨_, rfl⟩
  rw [← hw1] at HB1 ⊢
  clear hw1
  go_wp2_with fail
  go_loopw [3, 4, 5] (fun ov i _ wr => ∃ (k : Nat) (acc : List UInt8), k ≤ s.size ∧ i = .int .i64 k ∧ (∃ g cap, ov = .slice (some ⟨g, 0, none⟩) acc.length cap) ∧ Buf w ov acc wr ∧ acc = (l.take k).map smallC) (fun _ i _ _ => s.size - (intOf i).toNat)
  case atStart => exact ⟨0, [], Nat.zero_le _, rfl, ⟨_, _, rfl⟩, HB1.out, rfl⟩
  case round =>
    obtain ⟨k, acc, hk, rfl, ⟨g, cap, rfl⟩, hb, hacc⟩ := hrel
    have HBR := qh hb
    have HACC := qh hacc
    have hal : acc.length + 1 ≤ 140737488355328 := by rw [hacc, List.length_map, List.length_take]; omega
    have HAL := qh hal
    clear hb hacc hal
    by_cases hlt : k < s.size
    · obtain ⟨c, hc⟩ : ∃ c, s[k]'hlt = c := ⟨_, rfl⟩
      have hix : ∀ W : World, (Instr.index 9 (.string s) (.int .i64 (k : Int))).run Tryz.prog W = .ok (.int .u8 (c.toNat : Int)) W := by
        intro W
        rw [run_index_string W 9 s .i64 (k : Int) Tryz.underlying9, dif_pos ⟨by omega, by omega⟩]
        simp only [Int.toNat_natCast, hc]
      have hlc : l[k]? = some c := by rw [← HLL.out, List.getElem?_eq_getElem (by exact hlt)]; exact congrArg some hc
      obtain ⟨acc2, ha2⟩ : ∃ a, acc ++ [smallC c] = a := ⟨_, rfl⟩
      have hnext : acc2 = (l.take (k + 1)).map smallC := by
        obtain ⟨hk2, e⟩ := List.getElem?_eq_some_iff.1 hlc
        rw [← ha2, HACC.out, List.take_succ_eq_append_getElem hk2, List.map_append, e]; rfl
      have HNX := qh hnext
      have HA2 := qh ha2
      clear hlc hc ha2 hnext
      have hc256 : c.toNat < 256 := c.toNat_lt
      by_cases t1 : (65 : Int) ≤ (c.toNat : Int)
      · by_cases t2 : (c.toNat : Int) ≤ 90
        · have hw1 : IntKind.u8.wrap ((c.toNat : Int) + 32) = (c.toNat : Int) + 32 := IntWalk.u8_in _ (by omega)
          have hsc : ((c.toNat : Int) + 32) = ((smallC c).toNat : Int) := by
            rw [small_add, if_pos ⟨by omega, by omega⟩, UInt8.toNat_add]
            show _ = (((c.toNat + 32) % 256 : Nat) : Int)
            omega
          have HSC := qh hsc
          clear hsc
          go_wp2_with (refine wpB_byte rfl _ _ rfl (.slice (some ⟨g, 0, none⟩) acc.length cap) acc rfl w HBR.out (smallC c) _ (by first | rfl | exact HSC.out) rfl HAL.out acc2 HA2.out ?_)
          intro v' w' hb'
          obtain ⟨g', cap', _, _, rfl, _, _, _⟩ := hb'.at
          have HB' := qh hb'
          clear hb'
          go_wp2_with fail
          go_roundw
          case rel => exact ⟨k + 1, acc2, by omega, by go_num, ⟨g', cap', rfl⟩, HB'.out, HNX.out⟩
          case measure => simp [intOf]; omega
        · have HSC := qh (show (c.toNat : Int) = ((smallC c).toNat : Int) by unfold smallC; rw [if_neg (by omega)])
          go_wp2_with (refine wpB_byte rfl _ _ rfl (.slice (some ⟨g, 0, none⟩) acc.length cap) acc rfl w HBR.out (smallC c) _ (by first | rfl | exact HSC.out) rfl HAL.out acc2 HA2.out ?_)
          intro v' w' hb'
          obtain ⟨g', cap', _, _, rfl, _, _, _⟩ := hb'.at
          have HB' := qh hb'
          clear hb'
          go_wp2_with fail
          go_roundw
          case rel => exact ⟨k + 1, acc2, by omega, by go_num, ⟨g', cap', rfl⟩, HB'.out, HNX.out⟩
          case measure => simp [intOf]; omega
      · have HSC := qh (show (c.toNat : Int) = ((smallC c).toNat : Int) by unfold smallC; rw [if_neg (by omega)])
        go_wp2_with (refine wpB_byte rfl _ _ rfl (.slice (some ⟨g, 0, none⟩) acc.length cap) acc rfl w HBR.out (smallC c) _ (by first | rfl | exact HSC.out) rfl HAL.out acc2 HA2.out ?_)
        intro v' w' hb'
        obtain ⟨g', cap', _, _, rfl, _, _, _⟩ := hb'.at
        have HB' := qh hb'
        clear hb'
        go_wp2_with fail
        go_roundw
        case rel => exact ⟨k + 1, acc2, by omega, by go_num, ⟨g', cap', rfl⟩, HB'.out, HNX.out⟩
        case measure => simp [intOf]; omega
    · obtain rfl : k = s.size := by omega
      have hfin : acc = l.map smallC := by rw [HACC.out, List.take_of_length_le (by have := HZ.out; omega)]
      have hcv := run_ofBytes HBR.out
      rw [hfin] at hcv
      have HFIN := qh hfin
      have HCV := qh (show (Go.convert 71 9 (.slice (some ⟨g, 0, none⟩) acc.length cap)).run Tryz.prog wr = .ok (.string (bs (l.map smallC))) wr by have h := run_ofBytes HBR.out; rw [h, HFIN.out])
      clear hcv hfin
      go_wp2_with fail
      rw [HCV.out]
      go_wp2_with fail
      go_ret
      exact ⟨rfl, HBR.out.ex⟩
end Go.Proofs.YtalaajbajgdglaaGreatDoor
namespace Go.Proofs.YtalaajbajgdglaaGreatDoor
open Go
def nm0 : List UInt8 := [38, 97, 109, 112, 59]
def nm1 : List UInt8 := [38, 108, 116, 59]
def nm2 : List UInt8 := [38, 103, 116, 59]
def nm3 : List UInt8 := [38, 113, 117, 111, 116, 59]
def nm4 : List UInt8 := [38, 97, 112, 111, 115, 59]
def nm5 : List UInt8 := [38, 110, 98, 115, 112, 59]
def namesR : List (List UInt8 × List UInt8) := [(nm0, [38]), (nm1, [60]), (nm2, [62]), (nm3, [34]), (nm4, [39]), (nm5, [194, 160])]
def nameStep (r : List UInt8) (xk : List UInt8 × Nat) (nm : List UInt8 × List UInt8) : List UInt8 × Nat := if r.take nm.1.length = nm.1 then (nm.2, nm.1.length) else xk
def scanE : Nat → List UInt8 → Nat
  | 0, _ => 0
  | f + 1, [] => 0
  | f + 1, c :: r => if c = 59 then 0 else scanE f r + 1
def numR (p : List UInt8) (m : Nat) : Int := if p.head? = some 120 then refN 16 6 ((p.drop 1).take (m - 1)) else refN 10 7 (p.take m)
def namedR (r : List UInt8) : List UInt8 × Nat := namesR.foldl (nameStep r) (r.take 1, 1)
def stepR (r : List UInt8) : List UInt8 × Nat :=
  if r.take 2 = [38, 35] ∧ (r.drop 2)[scanE 10 (r.drop 2)]? = some 59 ∧ 0 < numR (r.drop 2) (scanE 10 (r.drop 2)) then
    ((Utf8.encode (numR (r.drop 2) (scanE 10 (r.drop 2)))).data.toList, scanE 10 (r.drop 2) + 3)
  else namedR r
theorem scanE_le : ∀ (f : Nat) (p : List UInt8), scanE f p ≤ f ∧ scanE f p ≤ p.length := by
  intro f
  induction f with
  | zero => intro p; exact ⟨Nat.le_refl _, Nat.zero_le _⟩
  | succ f ih =>
    intro p
    cases p with
    | nil => exact ⟨Nat.zero_le _, Nat.le_refl _⟩
    | cons c r =>
      unfold scanE
      split
      · exact ⟨Nat.zero_le _, Nat.zero_le _⟩
      · have := ih r
        simp only [List.length_cons]
        omega
theorem scanE_index : ∀ (f : Nat) (p : List UInt8), (Lib.indexByte (p.take f) 59 < 0 ∧ scanE f p = min f p.length) ∨ (Lib.indexByte (p.take f) 59 = (scanE f p : Int) ∧ scanE f p < f ∧ p[scanE f p]? = some 59) := by
  intro f
  induction f with
  | zero => intro p; left; exact ⟨by rw [List.take_zero]; decide, by simp [scanE]⟩
  | succ f ih =>
    intro p
    cases p with
    | nil => left; exact ⟨by rw [List.take_nil]; decide, by simp [scanE]⟩
    | cons c r =>
      rw [List.take_succ_cons, Lib.indexByte]
      by_cases hc : c = 59
      · right
        subst hc
        exact ⟨by simp [scanE], by simp [scanE], by simp [scanE]⟩
      · have e1 : (c == 59) = false := by simp [hc]
        have e2 : scanE (f + 1) (c :: r) = scanE f r + 1 := by simp [scanE, hc]
        rw [e1, if_neg (by decide), e2]
        have hge := Lib.indexByte_ge (r.take f) 59
        rcases ih r with ⟨h1, h2⟩ | ⟨h1, h2, h3⟩
        · left
          have h : Lib.indexByte (r.take f) 59 = -1 := by omega
          rw [h]
          exact ⟨by decide, by rw [h2, List.length_cons]; omega⟩
        · right
          rw [h1]
          have : ((scanE f r : Int) == -1) = false := by rw [beq_eq_false_iff_ne]; omega
          rw [this, if_neg (by decide)]
          exact ⟨by push_cast; rfl, by omega, by simpa using h3⟩
theorem take_eq_iff {l t : List UInt8} : l.take t.length = t ↔ ∃ q, l = t ++ q := by
  constructor
  · intro h
    exact ⟨l.drop t.length, by conv => lhs; rw [← List.take_append_drop t.length l, h]⟩
  · rintro ⟨q, rfl⟩
    exact List.take_left' rfl
theorem entityL_name {l : List UInt8} {e : Nat} {x : List UInt8} (h1 : Lib.indexByte (l.take 12) 59 = (e : Int)) (h2 : namedL ((l.drop 1).take (e - 1)) = some x) : entityL l = (x, e + 1) := by
  unfold entityL
  dsimp only
  rw [h1, if_neg (by omega)]
  unfold meansL
  rw [Int.toNat_natCast, h2]
theorem named_hit (nm x q : List UInt8) (h : (nm, x) ∈ namesR) : entityL (nm ++ q) = (x, nm.length) ∧ stepR (nm ++ q) = (x, nm.length) := by
  simp only [namesR, List.mem_cons, Prod.mk.injEq, List.not_mem_nil, or_false] at h
  rcases h with ⟨rfl, rfl⟩ | ⟨rfl, rfl⟩ | ⟨rfl, rfl⟩ | ⟨rfl, rfl⟩ | ⟨rfl, rfl⟩ | ⟨rfl, rfl⟩
  · exact ⟨entityL_name (e := 4) (by simp [nm0, Lib.indexByte]) (by simp [nm0, namedL]), by simp [stepR, namedR, namesR, nameStep, nm0, nm1, nm2, nm3, nm4, nm5]⟩
  · exact ⟨entityL_name (e := 3) (by simp [nm1, Lib.indexByte]) (by simp [nm1, namedL]), by simp [stepR, namedR, namesR, nameStep, nm0, nm1, nm2, nm3, nm4, nm5]⟩
  · exact ⟨entityL_name (e := 3) (by simp [nm2, Lib.indexByte]) (by simp [nm2, namedL]), by simp [stepR, namedR, namesR, nameStep, nm0, nm1, nm2, nm3, nm4, nm5]⟩
  · exact ⟨entityL_name (e := 5) (by simp [nm3, Lib.indexByte]) (by simp [nm3, namedL]), by simp [stepR, namedR, namesR, nameStep, nm0, nm1, nm2, nm3, nm4, nm5]⟩
  · exact ⟨entityL_name (e := 5) (by simp [nm4, Lib.indexByte]) (by simp [nm4, namedL]), by simp [stepR, namedR, namesR, nameStep, nm0, nm1, nm2, nm3, nm4, nm5]⟩
  · exact ⟨entityL_name (e := 5) (by simp [nm5, Lib.indexByte]) (by simp [nm5, namedL]), by simp [stepR, namedR, namesR, nameStep, nm0, nm1, nm2, nm3, nm4, nm5]⟩
theorem namedR_none {r : List UInt8} (h : ∀ nm x, (nm, x) ∈ namesR → r.take nm.length ≠ nm) : namedR r = (r.take 1, 1) := by
  have H : ∀ (l : List (List UInt8 × List UInt8)) (xk : List UInt8 × Nat), (∀ p ∈ l, p ∈ namesR) → l.foldl (nameStep r) xk = xk := by
    intro l
    induction l with
    | nil => intro xk _; rfl
    | cons p l ih =>
      intro xk hp
      rw [List.foldl_cons]
      have : nameStep r xk p = xk := by unfold nameStep; rw [if_neg (h p.1 p.2 (hp p (by simp)))]
      rw [this]
      exact ih xk fun q hq => hp q (by simp [hq])
  exact H namesR _ fun p hp => hp
theorem namedL_mem {m x : List UInt8} (h : namedL m = some x) : (38 :: m ++ [59], x) ∈ namesR := by
  unfold namedL at h
  repeat' split at h
  all_goals (first | (cases h; rename_i e; rw [e]; decide) | cases h)
theorem codeN_pos {base most : Nat} {l : List UInt8} {n : Nat} (h : codeN base most l = some n) : 0 < n := by
  unfold codeN at h
  split at h
  · cases h
  · rw [Option.filter_eq_some_iff] at h
    have := h.2
    unfold runeN at this
    have := of_decide_eq_true this
    omega
theorem codedL_num (p : List UInt8) (m : Nat) (h : p[m]? = some 59) : codedL (p.take m) = if 0 < numR p m then some (Utf8.encode (numR p m)).data.toList else none := by
  have key : ∀ (base most : Nat) (l : List UInt8), (codeN base most l).map (fun (n : Nat) => (Utf8.encode (n : Int)).data.toList) = if 0 < refN base most l then some (Utf8.encode (refN base most l)).data.toList else none := by
    intro base most l
    cases hc : codeN base most l with
    | none => rw [if_neg (by unfold refN; rw [hc]; decide)]; rfl
    | some n =>
      have hn := codeN_pos hc
      have e : refN base most l = (n : Int) := by unfold refN; rw [hc]
      rw [e, if_pos (by omega)]
      rfl
  unfold codedL codeL numR
  cases p with
  | nil => simp at h
  | cons c q =>
    cases m with
    | zero =>
      have : c = 59 := by simpa using h
      subst this
      simpa using key 10 7 []
    | succ m =>
      rw [List.take_succ_cons]
      by_cases hx : (c :: q).head? = some 120
      · rw [if_pos (show (c :: List.take m q).head? = some 120 from hx), if_pos hx]; exact key 16 6 _
      · rw [if_neg (show ¬ (c :: List.take m q).head? = some 120 from hx), if_neg hx]; exact key 10 7 _
theorem numR_long (p : List UInt8) (h : 10 ≤ p.length) : ¬ 0 < numR p 10 := by
  have key : ∀ (base most : Nat) (l : List UInt8), most < l.length → ¬ 0 < refN base most l := by
    intro base most l hl
    unfold refN codeN
    rw [if_pos (.inr hl)]
    decide
  unfold numR
  split
  · exact key _ _ _ (by rw [List.length_take, List.length_drop]; omega)
  · exact key _ _ _ (by rw [List.length_take]; omega)
theorem stepR_other {c : UInt8} (hc : c ≠ 38) (q : List UInt8) : stepR (c :: q) = ([c], 1) := by
  have h2 : (c :: q).take 2 ≠ [38, 35] := by
    intro h
    rw [List.take_succ_cons] at h
    exact hc (List.cons.inj h).1
  unfold stepR
  rw [if_neg fun h => h2 h.1]
  refine namedR_none fun nm x hm h => ?_
  simp only [namesR, List.mem_cons, Prod.mk.injEq, List.not_mem_nil, or_false] at hm
  rcases hm with ⟨rfl, rfl⟩ | ⟨rfl, rfl⟩ | ⟨rfl, rfl⟩ | ⟨rfl, rfl⟩ | ⟨rfl, rfl⟩ | ⟨rfl, rfl⟩ <;> exact hc (List.cons.inj h).1
theorem stepR_amp (q : List UInt8) : stepR (38 :: q) = entityL (38 :: q) := by
  by_cases hn : ∃ nm x, (nm, x) ∈ namesR ∧ (38 :: q).take nm.length = nm
  · obtain ⟨nm, x, hm, ht⟩ := hn
    obtain ⟨q', e⟩ := take_eq_iff.1 ht
    rw [e, (named_hit nm x q' hm).1, (named_hit nm x q' hm).2]
  have hnr := namedR_none (r := 38 :: q) fun nm x hm h => hn ⟨nm, x, hm, h⟩
  have hnl : ∀ e : Nat, Lib.indexByte ((38 :: q).take 12) 59 = (e : Int) → namedL (((38 :: q).drop 1).take (e - 1)) = none := by
    intro e he
    cases h : namedL (((38 :: q).drop 1).take (e - 1)) with
    | none => rfl
    | some x =>
      exfalso
      have hm := namedL_mem h
      refine hn ⟨_, x, hm, ?_⟩
      obtain ⟨k, hk, hk1, _⟩ := indexByte_some (l := (38 :: q).take 12) (c := 59) (by omega)
      have hke : k = e := by omega
      subst hke
      have hk12 := (List.getElem?_eq_some_iff.1 hk1).1
      rw [List.length_take] at hk12
      rw [List.getElem?_take, if_pos (by omega)] at hk1
      obtain ⟨hkl, hk59⟩ := List.getElem?_eq_some_iff.1 hk1
      have hk0 : k ≠ 0 := by rintro rfl; simp at hk59
      obtain ⟨j, rfl⟩ : ∃ j, k = j + 1 := ⟨k - 1, by omega⟩
      simp only [List.drop_succ_cons, List.drop_zero, Nat.add_sub_cancel, List.length_cons] at *
      have e1 : (38 :: q).take (j + 2) = 38 :: q.take j ++ [59] := by
        rw [List.take_succ_cons, List.take_succ_eq_append_getElem (by omega)]
        simp only [List.getElem_cons_succ] at hk59
        rw [hk59]
        rfl
      have e2 : (38 :: q.take j ++ [59]).length = j + 2 := by simp; omega
      simp only [List.length_append, List.length_cons, List.length_nil] at e2 ⊢
      rw [show (List.take j q).length + 1 + (0 + 1) = j + 2 by omega]
      exact e1
  have one : (38 :: q).take 1 = [38] := rfl
  rw [one] at hnr
  unfold stepR
  by_cases h2 : (38 :: q).take 2 = [38, 35]
  · obtain ⟨p, rfl⟩ : ∃ p, q = 35 :: p := by
      cases q with
      | nil => cases h2
      | cons d p =>
        have : d = 35 := by
          have := (List.cons.inj (List.cons.inj h2).2).1
          exact this
        exact ⟨p, by rw [this]⟩
    have ed : (38 :: 35 :: p).drop 2 = p := rfl
    have et : (38 :: 35 :: p).take 12 = 38 :: 35 :: p.take 10 := rfl
    rw [ed]
    have hi := scanE_index 10 p
    have hle := scanE_le 10 p
    rcases hi with ⟨h1, hs⟩ | ⟨h1, hlt, h59⟩
    · have hid : Lib.indexByte (38 :: 35 :: p.take 10) 59 < 0 := by
        have hge := Lib.indexByte_ge (p.take 10) 59
        have e : Lib.indexByte (p.take 10) 59 = -1 := by omega
        simp [Lib.indexByte, e]
      rw [if_neg, hnr]
      · unfold entityL
        dsimp only
        rw [et, if_pos hid]
      · rintro ⟨_, ha, hb⟩
        rcases Nat.lt_or_ge p.length 10 with hl | hl
        · rw [hs, Nat.min_eq_right (by omega)] at ha
          simp at ha
        · rw [hs, Nat.min_eq_left hl] at hb
          exact numR_long p hl hb
    · obtain ⟨m, hm⟩ : ∃ m, scanE 10 p = m := ⟨_, rfl⟩
      rw [hm] at h1 hlt h59 hle ⊢
      have hid : Lib.indexByte ((38 :: 35 :: p).take 12) 59 = ((m + 2 : Nat) : Int) := by
        rw [et]
        have e1 : ((m : Int) == -1) = false := by rw [beq_eq_false_iff_ne]; omega
        have e2 : ((m : Int) + 1 == -1) = false := by rw [beq_eq_false_iff_ne]; omega
        simp [Lib.indexByte, h1, e1, e2]
        omega
      have hent : entityL (38 :: 35 :: p) = match codedL (p.take m) with | some x => (x, m + 3) | none => ([38], 1) := by
        unfold entityL
        dsimp only
        rw [hid, if_neg (by omega), Int.toNat_natCast]
        unfold meansL
        rw [hnl _ hid]
        dsimp only
        rw [if_pos h2, ed, Nat.add_sub_cancel]
        first | done | rfl
      rw [hent, codedL_num p m h59]
      by_cases hp : 0 < numR p m
      · rw [if_pos ⟨h2, h59, hp⟩, if_pos hp]
      · rw [if_neg (fun h => hp h.2.2), if_neg hp, hnr]
  · rw [if_neg (fun h => h2 h.1), hnr]
    unfold entityL
    dsimp only
    split
    · rfl
    · rename_i hge
      obtain ⟨k, hk, _⟩ := indexByte_some hge
      unfold meansL
      rw [hk, Int.toNat_natCast, hnl k hk]
      dsimp only
      rw [if_neg h2]
theorem stepR_pos {c : UInt8} (q : List UInt8) : 1 ≤ (stepR (c :: q)).2 := by
  by_cases hc : c = 38
  · subst hc; rw [stepR_amp]; exact entityL_pos _
  · rw [stepR_other hc]; exact Nat.le_refl _
theorem stepR_le (c : UInt8) (q : List UInt8) : (stepR (c :: q)).2 ≤ (c :: q).length := by
  by_cases hc : c = 38
  · subst hc; rw [stepR_amp]; exact entityL_le _ _
  · rw [stepR_other hc]; simp
theorem stepR_len (c : UInt8) (q : List UInt8) : (stepR (c :: q)).1.length ≤ 4 := by
  by_cases hc : c = 38
  · subst hc; rw [stepR_amp]; exact entityL_len _
  · rw [stepR_other hc]; simp
theorem decL_step (c : UInt8) (q : List UInt8) : decL (c :: q) = (stepR (c :: q)).1 ++ decL ((c :: q).drop (stepR (c :: q)).2) := by
  by_cases hc : c = 38
  · subst hc; rw [stepR_amp]; exact decL_amp q
  · rw [stepR_other hc, decL_cons hc]; rfl
end Go.Proofs.YtalaajbajgdglaaGreatDoor
