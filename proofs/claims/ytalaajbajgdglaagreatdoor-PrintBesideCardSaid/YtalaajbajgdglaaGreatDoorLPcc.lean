/- what of ZP Z1 Z2 Z3 BA BB BC BD BE BF BG BH BI BJ BK BL BM BN BO BP BQ BR BS BT ZY BV BW BY Z4 CA CB CC CD CE is leant on -/
import Derived.Test.YtalaajbajgdglaaGreatDoorLPcb
set_option linter.unusedVariables false
set_option linter.unusedSimpArgs false
set_option maxRecDepth 1000000
set_option maxHeartbeats 8000000
namespace Go.Proofs.YtalaajbajgdglaaGreatDoor
open Go Go.RowKit Go.BigFrame
def PIis (r : Option Nat) (w : World) (e : Ending) (w' : World) : Prop := e = .returned (.tuple #[.int .i64 (r.getD 0 : Nat), match r with | some _ => .nilIface | none => .iface 215 (.int .i64 2)]) ∧ Ext w w'
theorem numL_lt (b : Nat) (hb : b ≤ 16) : ∀ (l : List UInt8) (m n P : Nat), numL b m l = some n → m < P → n < P * 16 ^ l.length := by
  intro l
  induction l with
  | nil => intro m n P h hm; cases h; simpa using hm
  | cons c r ih =>
    intro m n P h hm
    rw [numL] at h
    split at h
    · cases h
    · have h1 : m * b + digV c < P * 16 := by
        have : m * b ≤ m * 16 := Nat.mul_le_mul_left m hb
        omega
      have := ih _ _ _ h h1
      rw [List.length_cons, Nat.pow_succ]
      rw [Nat.mul_assoc] at this
      rw [Nat.mul_comm (16 ^ r.length) 16]
      exact this
theorem pi10_any (s : ByteArray) (h0 : s.size ≠ 0) (h7 : s.size ≤ 7) (hs1 : s.data.toList.head? ≠ some 43) (hs2 : s.data.toList.head? ≠ some 45) (w : World) : Calls Tryz.prog 190 #[.string s, .int .i64 10, .int .i64 32] w (PIis (numL 10 0 s.data.toList) w) := by
  have HP := qh (pu10_any s h0 h7)
  have e0 : (s.toList == ([] : List UInt8)) = false := by rw [ByteArray.toList_eq, beq_eq_false_iff_ne]; intro h; exact h0 (by show s.data.size = 0; have := congrArg List.length h; simpa using this)
  have hpos : 0 < s.size := by omega
  obtain ⟨c, hc⟩ : ∃ c, s[0]'hpos = c := ⟨_, rfl⟩
  have hix : ∀ W : World, (Instr.index 9 (.string s) (.int .i64 0)).run Tryz.prog W = .ok (.int .u8 (c.toNat : Int)) W := by
    intro W
    rw [run_index_string W 9 s .i64 0 Tryz.underlying9, dif_pos ⟨by omega, by omega⟩]
    simp only [Int.toNat_zero, hc]
  have hhd : s.data.toList.head? = some c := by
    rw [List.head?_eq_getElem?, List.getElem?_eq_getElem (by exact hpos)]
    exact congrArg some hc
  rw [hhd] at hs1 hs2
  have b43 : ((c.toNat : Int) == 43) = false := by
    rw [beq_eq_false_iff_ne]; intro h; exact hs1 (congrArg some (UInt8.toNat_inj.1 (by show c.toNat = 43; omega)))
  have b45 : ((c.toNat : Int) == 45) = false := by
    rw [beq_eq_false_iff_ne]; intro h; exact hs2 (congrArg some (UInt8.toNat_inj.1 (by show c.toNat = 45; omega)))
  have hlt : ∀ n, numL 10 0 s.data.toList = some n → n < 268435456 := fun n h => by
    have h1 := numL_lt 10 (by decide) _ 0 n 1 h (by decide)
    have h2 : 16 ^ s.data.toList.length ≤ 268435456 := pow_le7 (by exact h7)
    omega
  have HLT := qh hlt
  obtain ⟨r, hr⟩ : ∃ r, numL 10 0 s.data.toList = r := ⟨_, rfl⟩
  rw [hr] at HP HLT ⊢
  have hq2 : ∀ W, (binOp .neq 136 (.iface 215 (.int .i64 2)) (.iface 215 (.int .i64 1))).run Tryz.prog W = .ok (.bool true) W := fun W => Lib.run_neq_iface_int W 2 1 Tryz.underlying136 (by kernel_rfl) Tryz.underlying215
  clear hr hlt hhd hs1 hs2 hc
  go_enter Tryz.func190, Tryz.ntmps190
  cases r with
  | none =>
    go_wp2_with (go_at_call 198; refine (HP.out _).mono ?_; rintro e wx ⟨rfl, xx⟩; have XX := qh xx; clear xx)
    go_ret2
    exact ⟨rfl, XX.out⟩
  | some n =>
    have hn := HLT.out n rfl
    have k1 : decide ((2147483648 : Int) ≤ (n : Int)) = false := decide_eq_false (by omega)
    have k2 : decide (2147483648 ≤ n) = false := decide_eq_false (by omega)
    have hw : IntKind.i64.wrap (n : Int) = (n : Int) := IntWalk.i64_in _ (by omega)
    go_wp2_with (go_at_call 198; refine (HP.out _).mono ?_; rintro e wx ⟨rfl, xx⟩; have XX := qh xx; clear xx)
    go_ret2
    exact ⟨rfl, XX.out⟩
theorem pi16_any (s : ByteArray) (h0 : s.size ≠ 0) (h7 : s.size ≤ 7) (hs1 : s.data.toList.head? ≠ some 43) (hs2 : s.data.toList.head? ≠ some 45) (w : World) : Calls Tryz.prog 190 #[.string s, .int .i64 16, .int .i64 32] w (PIis (numL 16 0 s.data.toList) w) := by
  have HP := qh (pu16_any s h0 h7)
  have e0 : (s.toList == ([] : List UInt8)) = false := by rw [ByteArray.toList_eq, beq_eq_false_iff_ne]; intro h; exact h0 (by show s.data.size = 0; have := congrArg List.length h; simpa using this)
  have hpos : 0 < s.size := by omega
  obtain ⟨c, hc⟩ : ∃ c, s[0]'hpos = c := ⟨_, rfl⟩
  have hix : ∀ W : World, (Instr.index 9 (.string s) (.int .i64 0)).run Tryz.prog W = .ok (.int .u8 (c.toNat : Int)) W := by
    intro W
    rw [run_index_string W 9 s .i64 0 Tryz.underlying9, dif_pos ⟨by omega, by omega⟩]
    simp only [Int.toNat_zero, hc]
  have hhd : s.data.toList.head? = some c := by
    rw [List.head?_eq_getElem?, List.getElem?_eq_getElem (by exact hpos)]
    exact congrArg some hc
  rw [hhd] at hs1 hs2
  have b43 : ((c.toNat : Int) == 43) = false := by
    rw [beq_eq_false_iff_ne]; intro h; exact hs1 (congrArg some (UInt8.toNat_inj.1 (by show c.toNat = 43; omega)))
  have b45 : ((c.toNat : Int) == 45) = false := by
    rw [beq_eq_false_iff_ne]; intro h; exact hs2 (congrArg some (UInt8.toNat_inj.1 (by show c.toNat = 45; omega)))
  have hlt : ∀ n, numL 16 0 s.data.toList = some n → n < 268435456 := fun n h => by
    have h1 := numL_lt 16 (by decide) _ 0 n 1 h (by decide)
    have h2 : 16 ^ s.data.toList.length ≤ 268435456 := pow_le7 (by exact h7)
    omega
  have HLT := qh hlt
  obtain ⟨r, hr⟩ : ∃ r, numL 16 0 s.data.toList = r := ⟨_, rfl⟩
  rw [hr] at HP HLT ⊢
  have hq2 : ∀ W, (binOp .neq 136 (.iface 215 (.int .i64 2)) (.iface 215 (.int .i64 1))).run Tryz.prog W = .ok (.bool true) W := fun W => Lib.run_neq_iface_int W 2 1 Tryz.underlying136 (by kernel_rfl) Tryz.underlying215
  clear hr hlt hhd hs1 hs2 hc
  go_enter Tryz.func190, Tryz.ntmps190
  cases r with
  | none =>
    go_wp2_with (go_at_call 198; refine (HP.out _).mono ?_; rintro e wx ⟨rfl, xx⟩; have XX := qh xx; clear xx)
    go_ret2
    exact ⟨rfl, XX.out⟩
  | some n =>
    have hn := HLT.out n rfl
    have k1 : decide ((2147483648 : Int) ≤ (n : Int)) = false := decide_eq_false (by omega)
    have k2 : decide (2147483648 ≤ n) = false := decide_eq_false (by omega)
    have hw : IntKind.i64.wrap (n : Int) = (n : Int) := IntWalk.i64_in _ (by omega)
    go_wp2_with (go_at_call 198; refine (HP.out _).mono ?_; rintro e wx ⟨rfl, xx⟩; have XX := qh xx; clear xx)
    go_ret2
    exact ⟨rfl, XX.out⟩
def layTE_ren : Go.Shelf.Ren := ⟨fun | 129 => 216 | 171 => 208 | 205 => 207 | 243 => 209 | 245 => 191 | 246 => 210 | 279 => 199 | 280 => 200 | 281 => 201 | 282 => 202 | 283 => 211 | 284 => 212 | 285 => 213 | 286 => 214 | 316 => 206 | 317 => 215 | 318 => 217 | 319 => 218 | 320 => 219 | 337 => 220 | 338 => 221 | n => n, fun | 0 => 0 | 2 => 2 | 3 => 3 | 4 => 4 | 5 => 5 | 9 => 9 | 20 => 20 | 37 => 71 | 46 => 188 | 51 => 204 | 53 => 214 | 75 => 136 | 80 => 86 | 127 => 121 | 143 => 226 | 145 => 228 | 167 => 215 | 168 => 218 | 171 => 230 | 173 => 233 | 210 => 224 | 212 => 236 | 213 => 237 | 232 => 240 | 233 => 241 | n => n, fun | 15 => 3 | 16 => 4 | 17 => 5 | 18 => 6 | 19 => 7 | n => n⟩
theorem layTE : Go.Proofs.LaysC.n245 Tryz.prog layTE_ren := {
  mixed := by kernel_rfl
  f129 := Tryz.func216.trans (congrArg some (by kernel_rfl))
  f171 := Tryz.func208.trans (congrArg some (by kernel_rfl))
  f205 := Tryz.func207.trans (congrArg some (by kernel_rfl))
  f243 := Tryz.func209.trans (congrArg some (by kernel_rfl))
  f245 := Tryz.func191.trans (congrArg some (by kernel_rfl))
  f246 := Tryz.func210.trans (congrArg some (by kernel_rfl))
  f279 := Tryz.func199.trans (congrArg some (by kernel_rfl))
  f280 := Tryz.func200.trans (congrArg some (by kernel_rfl))
  f281 := Tryz.func201.trans (congrArg some (by kernel_rfl))
  f282 := Tryz.func202.trans (congrArg some (by kernel_rfl))
  f283 := Tryz.func211.trans (congrArg some (by kernel_rfl))
  f284 := Tryz.func212.trans (congrArg some (by kernel_rfl))
  f285 := Tryz.func213.trans (congrArg some (by kernel_rfl))
  f286 := Tryz.func214.trans (congrArg some (by kernel_rfl))
  f316 := Tryz.func206.trans (congrArg some (by kernel_rfl))
  f317 := Tryz.func215.trans (congrArg some (by kernel_rfl))
  f318 := Tryz.func217.trans (congrArg some (by kernel_rfl))
  f319 := Tryz.func218.trans (congrArg some (by kernel_rfl))
  f320 := Tryz.func219.trans (congrArg some (by kernel_rfl))
  f337 := Tryz.func220.trans (congrArg some (by kernel_rfl))
  f338 := Tryz.func221.trans (congrArg some (by kernel_rfl))
  t0 := Tryz.underlying0
  a0 := Tryz.isAgg0
  z0 := Tryz.sizeOf0
  v0 := Tryz.zeroValue0
  t2 := Tryz.underlying2
  a2 := Tryz.isAgg2
  z2 := Tryz.sizeOf2
  v2 := Tryz.zeroValue2
  t3 := Tryz.underlying3
  a3 := Tryz.isAgg3
  z3 := Tryz.sizeOf3
  v3 := Tryz.zeroValue3
  t4 := Tryz.underlying4
  a4 := Tryz.isAgg4
  z4 := Tryz.sizeOf4
  v4 := Tryz.zeroValue4
  t5 := Tryz.underlying5
  a5 := Tryz.isAgg5
  z5 := Tryz.sizeOf5
  v5 := Tryz.zeroValue5
  t9 := Tryz.underlying9
  a9 := Tryz.isAgg9
  z9 := Tryz.sizeOf9
  v9 := Tryz.zeroValue9
  t20 := Tryz.underlying20
  a20 := Tryz.isAgg20
  z20 := Tryz.sizeOf20
  v20 := Tryz.zeroValue20
  t37 := Tryz.underlying71
  a37 := Tryz.isAgg71
  z37 := Tryz.sizeOf71
  v37 := Tryz.zeroValue71
  t46 := Tryz.underlying188
  a46 := Tryz.isAgg188
  z46 := Tryz.sizeOf188
  v46 := Tryz.zeroValue188
  t51 := Tryz.underlying204
  a51 := Tryz.isAgg204
  z51 := Tryz.sizeOf204
  v51 := Tryz.zeroValue204
  t53 := Tryz.underlying214
  a53 := Tryz.isAgg214
  z53 := Tryz.sizeOf214
  v53 := Tryz.zeroValue214
  t75 := Tryz.underlying136
  a75 := Tryz.isAgg136
  z75 := Tryz.sizeOf136
  v75 := Tryz.zeroValue136
  t127 := Tryz.underlying121
  a127 := Tryz.isAgg121
  z127 := Tryz.sizeOf121
  v127 := Tryz.zeroValue121
  t143 := Tryz.underlying226
  a143 := Tryz.isAgg226
  z143 := Tryz.sizeOf226
  v143 := Tryz.zeroValue226
  t145 := Tryz.underlying228
  a145 := Tryz.isAgg228
  z145 := Tryz.sizeOf228
  v145 := Tryz.zeroValue228
  t167 := Tryz.underlying215
  a167 := Tryz.isAgg215
  z167 := Tryz.sizeOf215
  v167 := Tryz.zeroValue215
  t168 := Tryz.underlying218
  a168 := Tryz.isAgg218
  z168 := Tryz.sizeOf218
  v168 := Tryz.zeroValue218
  t171 := Tryz.underlying230
  a171 := Tryz.isAgg230
  z171 := Tryz.sizeOf230
  v171 := Tryz.zeroValue230
  t173 := Tryz.underlying233
  a173 := Tryz.isAgg233
  z173 := Tryz.sizeOf233
  v173 := Tryz.zeroValue233
  t210 := Tryz.underlying224
  a210 := Tryz.isAgg224
  z210 := Tryz.sizeOf224
  v210 := Tryz.zeroValue224
  t212 := Tryz.underlying236
  a212 := Tryz.isAgg236
  z212 := Tryz.sizeOf236
  v212 := Tryz.zeroValue236
  t213 := Tryz.underlying237
  a213 := Tryz.isAgg237
  z213 := Tryz.sizeOf237
  t232 := Tryz.underlying240
  a232 := Tryz.isAgg240
  z232 := Tryz.sizeOf240
  v232 := Tryz.zeroValue240
  t233 := Tryz.underlying241
  a233 := Tryz.isAgg241
  z233 := Tryz.sizeOf241
  v233 := Tryz.zeroValue241
  g15 := by kernel_rfl
  g16 := by kernel_rfl
  g17 := by kernel_rfl
  g18 := by kernel_rfl
  g19 := by kernel_rfl
  t80 := Tryz.underlying86
  a80 := Tryz.isAgg86
  z80 := Tryz.sizeOf86
  v80 := Tryz.zeroValue86
  i0 := by kernel_rfl
  i2 := by kernel_rfl
  i3 := by kernel_rfl
  i4 := by kernel_rfl
  i5 := by kernel_rfl
  i9 := by kernel_rfl
  i20 := by kernel_rfl
  i37 := by kernel_rfl
  i46 := by kernel_rfl
  i51 := by kernel_rfl
  i53 := by kernel_rfl
  i75 := by kernel_rfl
  i80 := by kernel_rfl
  i127 := by kernel_rfl
  i143 := by kernel_rfl
  i145 := by kernel_rfl
  i167 := by kernel_rfl
  i168 := by kernel_rfl
  i171 := by kernel_rfl
  i173 := by kernel_rfl
  i210 := by kernel_rfl
  i212 := by kernel_rfl
  i232 := by kernel_rfl
  i233 := by kernel_rfl
  m15 := by kernel_rfl
  m16 := by kernel_rfl
  m17 := by kernel_rfl
  m18 := by kernel_rfl
  m19 := by kernel_rfl
  c0 := by kernel_rfl
  c2 := by kernel_rfl
  c3 := by kernel_rfl
  c4 := by kernel_rfl
  c5 := by kernel_rfl
  c9 := by kernel_rfl
  c20 := by kernel_rfl
  c37 := by kernel_rfl
  c46 := by kernel_rfl
  c51 := by kernel_rfl
  c53 := by kernel_rfl
  c75 := by kernel_rfl
  c80 := by kernel_rfl
  c127 := by kernel_rfl
  c143 := by kernel_rfl
  c145 := by kernel_rfl
  c167 := by kernel_rfl
  c168 := by kernel_rfl
  c171 := by kernel_rfl
  c173 := by kernel_rfl
  c210 := by kernel_rfl
  c212 := by kernel_rfl
  c213 := by kernel_rfl
  c232 := by kernel_rfl
  c233 := by kernel_rfl }

structure LW (w : World) : Prop where
  tabs : Tabs w
  len : ∃ m : Int, w.cell? ⟨0, 0, none⟩ = some (.int .i64 m)
  err : ∃ ev, w.cell? ⟨3, 0, none⟩ = some ev ∧ (ev = .nilIface ∨ ∃ te pe, ev = .iface te pe)
theorem LW.ext {w w' : World} (h : LW w) (x : Ext w w') : LW w' := ⟨h.tabs.ext x, h.len.imp fun _ h => x.cell h, h.err.imp fun _ h => ⟨x.cell h.1, h.2⟩⟩
def ErrIs (w : World) (e : Ending) (w' : World) : Prop := ∃ p, e = .returned (.iface 218 p) ∧ Ext w w'
theorem toError_any (fn s : ByteArray) (base bits : Int) (w : World) (hl : LW w) (hs : s.size ≤ 281474976710656) :
    Calls Tryz.prog 191 #[.string fn, .string s, .int .i64 base, .int .i64 bits, .iface 215 (.int .i64 2)] w (ErrIs w) := by
  obtain ⟨ev, h1, h2⟩ := hl.err
  exact (Any.strconv_toError_syntax layTE fn s base bits ev w hs h1 h2).mono fun _ _ ⟨N, h3, _, _, h4⟩ => ⟨_, h3, h4⟩
def PPis (r : Option Nat) (w : World) (e : Ending) (w' : World) : Prop := ∃ ev, e = .returned (.tuple #[.int .i64 (r.getD 0 : Nat), ev]) ∧ (r ≠ none → ev = .nilIface) ∧ (r = none → ∃ p, ev = .iface 218 p) ∧ Ext w w'
theorem ppi10_any (s : ByteArray) (h0 : s.size ≠ 0) (h7 : s.size ≤ 7) (hs1 : s.data.toList.head? ≠ some 43) (hs2 : s.data.toList.head? ≠ some 45) (w : World) (hl : LW w) : Calls Tryz.prog 171 #[.string s, .int .i64 10, .int .i64 32] w (PPis (numL 10 0 s.data.toList) w) := by
  have HP := qh (pi10_any s h0 h7 hs1 hs2)
  obtain ⟨r, hr⟩ : ∃ r, numL 10 0 s.data.toList = r := ⟨_, rfl⟩
  rw [hr] at HP ⊢
  have HL := qh hl
  have HS := qh (show s.size ≤ 281474976710656 by omega)
  clear hr h0 h7 hs1 hs2 hl
  go_enter Tryz.func171, Tryz.ntmps171
  cases r with
  | none =>
    go_wp2_with (go_at_call 190; refine (HP.out _).mono ?_)
    rintro e w1 ⟨rfl, x1⟩
    have X1 := qh x1
    clear x1
    go_wp2_with (go_at_call 191; refine (toError_any _ s 10 32 w1 (HL.out.ext X1.out) HS.out).mono ?_)
    rintro e w2 ⟨p, rfl, x2⟩
    go_wp2_with fail
    go_ret2
    exact ⟨_, rfl, fun h => absurd rfl h, fun _ => ⟨p, rfl⟩, X1.out.trans x2⟩
  | some n =>
    go_wp2_with (go_at_call 190; refine (HP.out _).mono ?_)
    rintro e w1 ⟨rfl, x1⟩
    go_wp2_with fail
    go_ret2
    exact ⟨_, rfl, fun _ => rfl, (fun h => by cases h), x1⟩
theorem ppi16_any (s : ByteArray) (h0 : s.size ≠ 0) (h7 : s.size ≤ 7) (hs1 : s.data.toList.head? ≠ some 43) (hs2 : s.data.toList.head? ≠ some 45) (w : World) (hl : LW w) : Calls Tryz.prog 171 #[.string s, .int .i64 16, .int .i64 32] w (PPis (numL 16 0 s.data.toList) w) := by
  have HP := qh (pi16_any s h0 h7 hs1 hs2)
  obtain ⟨r, hr⟩ : ∃ r, numL 16 0 s.data.toList = r := ⟨_, rfl⟩
  rw [hr] at HP ⊢
  have HL := qh hl
  have HS := qh (show s.size ≤ 281474976710656 by omega)
  clear hr h0 h7 hs1 hs2 hl
  go_enter Tryz.func171, Tryz.ntmps171
  cases r with
  | none =>
    go_wp2_with (go_at_call 190; refine (HP.out _).mono ?_)
    rintro e w1 ⟨rfl, x1⟩
    have X1 := qh x1
    clear x1
    go_wp2_with (go_at_call 191; refine (toError_any _ s 16 32 w1 (HL.out.ext X1.out) HS.out).mono ?_)
    rintro e w2 ⟨p, rfl, x2⟩
    go_wp2_with fail
    go_ret2
    exact ⟨_, rfl, fun h => absurd rfl h, fun _ => ⟨p, rfl⟩, X1.out.trans x2⟩
  | some n =>
    go_wp2_with (go_at_call 190; refine (HP.out _).mono ?_)
    rintro e w1 ⟨rfl, x1⟩
    go_wp2_with fail
    go_ret2
    exact ⟨_, rfl, fun _ => rfl, (fun h => by cases h), x1⟩
def signR (r : Int) : Prop := r = 43 ∨ r = 45 ∨ r = 95
def IRis (r : Int) (w : World) (e : Ending) (w' : World) : Prop := ∃ z : Int, e = .returned (.int .i64 z) ∧ (0 ≤ z ↔ signR r) ∧ Ext w w'
theorem index_high {x : UInt8} (hx : 128 ≤ x.toNat) (l : List UInt8) (h : ∀ b ∈ l, b.toNat < 128) : Lib.indexByte l x = -1 := by
  induction l with
  | nil => rfl
  | cons b r ih =>
    unfold Lib.indexByte
    have hb : (b == x) = false := by rw [beq_eq_false_iff_ne]; rintro rfl; have := h b (by simp); omega
    rw [if_neg (by simp [hb]), ih fun c hc => h c (by simp [hc])]
    rfl
theorem encode_high {n : Nat} (hn : n < 55296 ∨ 57344 ≤ n ∧ n ≤ 1114111) (h128 : 128 ≤ n) : ((Utf8.encode (n : Int)).size = 2 ∨ (Utf8.encode (n : Int)).size = 3 ∨ (Utf8.encode (n : Int)).size = 4) ∧ ∀ b ∈ (Utf8.encode (n : Int)).data.toList, 128 ≤ b.toNat := by
  have e := encode_nat hn
  have hs : ∀ b : ByteArray, b.size = b.data.toList.length := fun _ => rfl
  rw [hs (Utf8.encode (n : Int)), e]
  rw [if_neg (by omega)]
  split
  · exact ⟨.inl rfl, by intro b hb; simp only [List.mem_cons, List.not_mem_nil, or_false] at hb; rcases hb with h | h <;> (rw [h, ofNat_nat (by omega)]; omega)⟩
  · split
    · exact ⟨.inr (.inl rfl), by intro b hb; simp only [List.mem_cons, List.not_mem_nil, or_false] at hb; rcases hb with h | h | h <;> (rw [h, ofNat_nat (by omega)]; omega)⟩
    · exact ⟨.inr (.inr rfl), by intro b hb; simp only [List.mem_cons, List.not_mem_nil, or_false] at hb; rcases hb with h | h | h | h <;> (rw [h, ofNat_nat (by omega)]; omega)⟩
theorem IndexRune_low (r : Int) (h0 : 0 ≤ r) (h1 : r < 128) (w : World) : Calls Tryz.prog 194 #[.string ⟨#[43, 45, 95]⟩, .int .i32 r] w (IRis r w) := by
  obtain ⟨c, hc⟩ : ∃ c : UInt8, r = (c.toNat : Int) := ⟨UInt8.ofNat r.toNat, by rw [ofNat_nat (by omega)]; omega⟩
  subst hc
  have hw : IntKind.u8.wrap (c.toNat : Int) = (c.toNat : Int) := IntWalk.u8_in _ (by omega)
  have hz : 0 ≤ Lib.indexByte [43, 45, 95] c ↔ signR (c.toNat : Int) := by
    unfold signR
    revert c
    intro c _ _ _
    have h := all_bytes (p := fun c => (0 ≤ Lib.indexByte [43, 45, 95] c ↔ ((c.toNat : Int) = 43 ∨ (c.toNat : Int) = 45 ∨ (c.toNat : Int) = 95))) (by decide +kernel) c
    exact h
  have HZ := qh hz
  have HI := qh (IndexByte_any ⟨#[43, 45, 95]⟩ c (c.toNat : Int) rfl)
  clear hz
  go_enter Tryz.func194, Tryz.ntmps194
  go_wp2_with (go_at_call 92; refine (HI.out _).mono ?_)
  rintro e w1 ⟨rfl, x1⟩
  go_wp2_with fail
  go_ret
  exact ⟨_, rfl, HZ.out, x1⟩
theorem IndexRune_high (n : Nat) (h : n < 55296 ∨ 57344 ≤ n ∧ n ≤ 1114111) (h128 : 128 ≤ n) (hE : n ≠ 65533) (w : World) : Calls Tryz.prog 194 #[.string ⟨#[43, 45, 95]⟩, .int .i32 (n : Int)] w (IRis (n : Int) w) := by
  have hv : Utf8.valid (n : Int) = true := by unfold Utf8.valid; simp; omega
  have HV := qh (ValidRune_ok (n : Int) hv)
  obtain ⟨h234, hb⟩ := encode_high h h128
  have k1 : decide ((n : Int) < 128) = false := decide_eq_false (by omega)
  have k2 : decide (n < 128) = false := decide_eq_false (by omega)
  have k3 : ((n : Int) == 65533) = false := by rw [beq_eq_false_iff_ne]; omega
  have FIN := qh (fun (w' : World) (x : Ext w w') => (⟨-1, rfl, ⟨fun h => absurd h (by decide), fun h => by unfold signR at h; omega⟩, x⟩ : IRis (n : Int) w (.returned (.int .i64 (-1))) w'))
  have hcv : ∀ W : World, (Go.convert 21 9 (.int .i32 (n : Int))).run Tryz.prog W = .ok (.string (Utf8.encode (n : Int))) W := by
    intro W
    simp [convert, run_underlying Tryz.underlying21, run_underlying Tryz.underlying9, Conv.intToString]
  obtain ⟨e, he⟩ : ∃ e, Utf8.encode (n : Int) = e := ⟨_, rfl⟩
  rw [he] at h234 hb hcv
  have HB := qh hb
  clear he hb hv h hE h128
  rcases h234 with h2 | h3 | h4
  ·
    have hsz : e.size = 2 := h2
    have hlast : 1 < e.size := by omega
    obtain ⟨x, hx⟩ : ∃ x, e[1]'hlast = x := ⟨_, rfl⟩
    have hx128 : 128 ≤ x.toNat := HB.out x (by rw [← hx]; exact byte_mem.2 ⟨1, hlast, rfl⟩)
    have hix : ∀ W : World, (Instr.index 9 (.string e) (.int .i64 1)).run Tryz.prog W = .ok (.int .u8 (x.toNat : Int)) W := by
      intro W
      rw [run_index_string W 9 e .i64 1 Tryz.underlying9, dif_pos ⟨by omega, by omega⟩]
      exact congrArg (fun y : UInt8 => Result.ok (Value.int .u8 (y.toNat : Int)) W) hx
    have hneg : Lib.indexByte ((⟨#[43, 45, 95]⟩ : ByteArray).extract 2 3).data.toList x = -1 := index_high hx128 _ (by decide +kernel)
    have HI := qh (fun W => hneg ▸ IndexByte_any ((⟨#[43, 45, 95]⟩ : ByteArray).extract 2 3) x (x.toNat : Int) rfl W)
    have kne : ((45 : Int) == (x.toNat : Int)) = false := by rw [beq_eq_false_iff_ne]; omega
    have kne2 : ((45 : Int) != (x.toNat : Int)) = true := by simp [bne, kne]
    clear h2 hlast hx hx128 hneg
    go_enter Tryz.func194, Tryz.ntmps194
    go_wp2_with (go_at_call 172; refine (HV.out _).mono ?_)
    rintro e1 w1 ⟨rfl, x1⟩
    have X1 := qh x1
    clear x1
    go_wp2_with fail
    go_step3
    go_wp2_with fail
    go_loopw [9, 10, 11, 12] (fun i _ _ _ wr => i = .int .i64 1 ∧ Ext w wr) (fun _ _ _ _ _ => 0)
    case atStart => exact ⟨rfl, X1.out⟩
    case round =>
      obtain ⟨rfl, xr⟩ := hrel
      have XR := qh xr
      clear xr
      have hix0 : ∀ W : World, (Instr.index 9 (.string ⟨#[43, 45, 95]⟩) (.int .i64 1)).run Tryz.prog W = .ok (.int .u8 45) W := by
        intro W
        rw [run_index_string W 9 ⟨#[43, 45, 95]⟩ .i64 1 Tryz.underlying9, dif_pos ⟨by decide, by decide⟩]
        rfl
      go_wp2_with fail
      go_step3
      go_upto_region 6 with fail
      refine wp_region_ext (by kernel_rfl) (by kernel_rfl) ?_
      repeat (go_big_quiet_step (fail))
      refine wpQuiet_nil ?_
      rintro _ ⟨u0, rfl⟩
      have XU0 := qh (XR.out.trans u0.ext)
      go_upto_region 7 with fail
      refine wp_region_ext (by kernel_rfl) (by kernel_rfl) ?_
      repeat (go_big_quiet_step ((go_at_call 92; exact inExt (HI.out _))))
      refine wpQuiet_nil ?_
      rintro _ ⟨u, rfl⟩
      go_wp2_with fail
      rw [Exit.noGoto_ret]
      go_ret
      exact FIN.out _ (XU0.out.trans u.ext)
  ·
    have hsz : e.size = 3 := h3
    have hlast : 2 < e.size := by omega
    obtain ⟨x, hx⟩ : ∃ x, e[2]'hlast = x := ⟨_, rfl⟩
    have hx128 : 128 ≤ x.toNat := HB.out x (by rw [← hx]; exact byte_mem.2 ⟨2, hlast, rfl⟩)
    have hix : ∀ W : World, (Instr.index 9 (.string e) (.int .i64 2)).run Tryz.prog W = .ok (.int .u8 (x.toNat : Int)) W := by
      intro W
      rw [run_index_string W 9 e .i64 2 Tryz.underlying9, dif_pos ⟨by omega, by omega⟩]
      exact congrArg (fun y : UInt8 => Result.ok (Value.int .u8 (y.toNat : Int)) W) hx
    have hneg : Lib.indexByte ((⟨#[43, 45, 95]⟩ : ByteArray).extract 3 3).data.toList x = -1 := index_high hx128 _ (by decide +kernel)
    have HI := qh (fun W => hneg ▸ IndexByte_any ((⟨#[43, 45, 95]⟩ : ByteArray).extract 3 3) x (x.toNat : Int) rfl W)
    have kne : ((95 : Int) == (x.toNat : Int)) = false := by rw [beq_eq_false_iff_ne]; omega
    have kne2 : ((95 : Int) != (x.toNat : Int)) = true := by simp [bne, kne]
    clear h3 hlast hx hx128 hneg
    go_enter Tryz.func194, Tryz.ntmps194
    go_wp2_with (go_at_call 172; refine (HV.out _).mono ?_)
    rintro e1 w1 ⟨rfl, x1⟩
    have X1 := qh x1
    clear x1
    go_wp2_with fail
    go_step3
    go_wp2_with fail
    go_loopw [9, 10, 11, 12] (fun i _ _ _ wr => i = .int .i64 2 ∧ Ext w wr) (fun _ _ _ _ _ => 0)
    case atStart => exact ⟨rfl, X1.out⟩
    case round =>
      obtain ⟨rfl, xr⟩ := hrel
      have XR := qh xr
      clear xr
      have hix0 : ∀ W : World, (Instr.index 9 (.string ⟨#[43, 45, 95]⟩) (.int .i64 2)).run Tryz.prog W = .ok (.int .u8 95) W := by
        intro W
        rw [run_index_string W 9 ⟨#[43, 45, 95]⟩ .i64 2 Tryz.underlying9, dif_pos ⟨by decide, by decide⟩]
        rfl
      go_wp2_with fail
      go_step3
      go_upto_region 6 with fail
      refine wp_region_ext (by kernel_rfl) (by kernel_rfl) ?_
      repeat (go_big_quiet_step (fail))
      refine wpQuiet_nil ?_
      rintro _ ⟨u0, rfl⟩
      have XU0 := qh (XR.out.trans u0.ext)
      go_upto_region 7 with fail
      refine wp_region_ext (by kernel_rfl) (by kernel_rfl) ?_
      repeat (go_big_quiet_step ((go_at_call 92; exact inExt (HI.out _))))
      refine wpQuiet_nil ?_
      rintro _ ⟨u, rfl⟩
      go_wp2_with fail
      rw [Exit.noGoto_ret]
      go_ret
      exact FIN.out _ (XU0.out.trans u.ext)
  · have hsz : e.size = 4 := h4
    clear h4
    go_enter Tryz.func194, Tryz.ntmps194
    go_wp2_with (go_at_call 172; refine (HV.out _).mono ?_)
    rintro e1 w1 ⟨rfl, x1⟩
    have X1 := qh x1
    clear x1
    go_wp2_with fail
    go_step3
    go_wp2_with fail
    go_loopw [9, 10, 11, 12] (fun i _ _ _ wr => i = .int .i64 3 ∧ Ext w wr) (fun _ _ _ _ _ => 0)
    case atStart => exact ⟨rfl, X1.out⟩
    case round =>
      obtain ⟨rfl, xr⟩ := hrel
      have XR := qh xr
      clear xr
      go_wp2_with fail
      rw [Exit.noGoto_ret]
      go_ret
      exact FIN.out _ XR.out
theorem IndexRune_bad (w : World) : Calls Tryz.prog 194 #[.string ⟨#[43, 45, 95]⟩, .int .i32 65533] w (IRis 65533 w) := by
  go_enter Tryz.func194, Tryz.ntmps194
  go_wp2_with fail
  go_loopw [5, 6] (fun _ _ wr => ∃ pos : Nat, wr.heap[w.heap.size]? = some (.stringIter ⟨#[43, 45, 95]⟩ pos) ∧ Ext w wr ∧ pos ≤ 3) (fun _ _ wr => 3 - wr.iterPos w.heap.size)
  case atStart => exact ⟨0, by have := World.iter_heap w ⟨#[43, 45, 95]⟩ 0; simpa using this, (Ext.refl w).alloc _, Nat.zero_le _⟩
  case round =>
    obtain ⟨pos, hit, xr, hle⟩ := hrel
    have hsz : w.heap.size < wr.heap.size := (Array.getElem?_eq_some_iff.1 hit).1
    by_cases hp : pos < (⟨#[43, 45, 95]⟩ : ByteArray).size
    · have hp3 : pos < 3 := hp
      have hdec : Utf8.decode ⟨#[43, 45, 95]⟩ pos = ((if pos = 0 then 43 else if pos = 1 then 45 else 95), 1) := by
        have h : pos = 0 ∨ pos = 1 ∨ pos = 2 := by omega
        rcases h with rfl | rfl | rfl <;> decide +kernel
      have hnx : ∀ ty, (Instr.next (.pointer (some ⟨w.heap.size, 0, none⟩)) true ty).run Tryz.prog wr = _ := fun ty => Lib.run_next_any_at wr w.heap.size ⟨#[43, 45, 95]⟩ pos ty hit hp
      have hit2 := Lib.iterAt_heap wr w.heap.size ⟨#[43, 45, 95]⟩ pos (pos + 1) hit
      have xr2 := xr.iterAt (Nat.le_refl _) ⟨#[43, 45, 95]⟩ (pos + 1)
      rw [hdec] at hnx
      obtain ⟨v, hv, hv2⟩ : ∃ v : Nat, (if pos = 0 then 43 else if pos = 1 then 45 else 95) = v ∧ v < 128 := ⟨_, rfl, by split; decide; split <;> decide⟩
      rw [hv] at hnx
      have HIT := qh hit
      have HIT2 := qh hit2
      have XR2 := qh xr2
      have k1 : ((v : Int) == 65533) = false := by rw [beq_eq_false_iff_ne]; omega
      clear hit hit2 xr xr2 hdec hv hp
      go_wp2_with fail
      go_roundw
      case rel => exact ⟨pos + 1, HIT2.out, XR2.out, by omega⟩
      case measure => simp only [World.iterPos, HIT2.out, HIT.out]; omega
    · have hnx : ∀ ty, (Instr.next (.pointer (some ⟨w.heap.size, 0, none⟩)) true ty).run Tryz.prog wr = _ := fun ty => Lib.run_next_end_at wr w.heap.size ⟨#[43, 45, 95]⟩ pos ty hit hp
      have XR := qh xr
      clear xr
      go_wp2
      go_ret
      exact ⟨-1, rfl, ⟨fun h => absurd h (by decide), fun h => by unfold signR at h; omega⟩, XR.out⟩
theorem IndexRune_any (r : Int) (h : Utf8.valid r = true) (w : World) : Calls Tryz.prog 194 #[.string ⟨#[43, 45, 95]⟩, .int .i32 r] w (IRis r w) := by
  obtain ⟨n, rfl, hn⟩ := valid_cases h
  by_cases h1 : n < 128
  · exact IndexRune_low _ (by omega) (by omega) w
  · by_cases h2 : n = 65533
    · subst h2; exact IndexRune_bad w
    · exact IndexRune_high n hn (by omega) h2 w
def signC (c : UInt8) : Prop := c = 43 ∨ c = 45 ∨ c = 95
def HeadOk (l : List UInt8) : Prop := l.head? ≠ some 43 ∧ l.head? ≠ some 45
def IAis (s : ByteArray) (w : World) (e : Ending) (w' : World) : Prop := ∃ z : Int, e = .returned (.int .i64 z) ∧ (0 ≤ z → ∃ c ∈ s.data.toList, signC c) ∧ (z < 0 → HeadOk s.data.toList) ∧ Ext w w'
def CAis (s : ByteArray) (w : World) (e : Ending) (w' : World) : Prop := ∃ b : Bool, e = .returned (.bool b) ∧ (b = true → ∃ c ∈ s.data.toList, signC c) ∧ (b = false → HeadOk s.data.toList) ∧ Ext w w'
theorem sign_at {s : ByteArray} {pos : Nat} (hp : pos < s.size) (h : signR (Int.ofNat (Utf8.decode s pos).1)) : ∃ c ∈ s.data.toList, signC c := by
  have hs : (Utf8.decode s pos).1 < 128 := by unfold signR at h; simp at h; omega
  obtain ⟨h1, h2⟩ := decode_small s hp hs
  rw [h1] at h
  refine ⟨s[pos], byte_mem.2 ⟨pos, hp, rfl⟩, ?_⟩
  unfold signR at h
  simp at h
  unfold signC
  rcases h with h | h | h
  · exact .inl (UInt8.toNat_inj.1 (by show (s[pos]).toNat = 43; omega))
  · exact .inr (.inl (UInt8.toNat_inj.1 (by show (s[pos]).toNat = 45; omega)))
  · exact .inr (.inr (UInt8.toNat_inj.1 (by show (s[pos]).toNat = 95; omega)))
theorem head_ok {s : ByteArray} (hp : 0 < s.size) (h : ¬ signR (Int.ofNat (Utf8.decode s 0).1)) : HeadOk s.data.toList := by
  have hd : s.data.toList.head? = some (s[0]'hp) := by rw [List.head?_eq_getElem?, List.getElem?_eq_getElem (by exact hp)]; rfl
  unfold HeadOk
  rw [hd]
  constructor
  · intro e
    have e1 : s[0]'hp = 43 := Option.some.inj e
    have h2 := decode_ascii s 0 hp (by rw [e1]; decide)
    exact h (by rw [h2, e1]; exact .inl rfl)
  · intro e
    have e1 : s[0]'hp = 45 := Option.some.inj e
    have h2 := decode_ascii s 0 hp (by rw [e1]; decide)
    exact h (by rw [h2, e1]; exact .inr (.inl rfl))
theorem IndexAny_any (s : ByteArray) (h0 : s.size ≠ 0) (h7 : s.size ≤ 7) (w : World) : Calls Tryz.prog 189 #[.string s, .string ⟨#[43, 45, 95]⟩] w (IAis s w) := by
  have k8 : ¬ (8 : Int) < (s.size : Int) := by omega
  have HASC := qh (show ∀ W, Calls Tryz.prog 197 #[.int .i64 (s.size : Int)] W (RBool false W) from fun W => by
    have x := Ext.refl W
    go_enter Tryz.func197, Tryz.ntmps197
    go_wp2_with fail
    go_ret
    exact ⟨by simp [k8], x⟩)
  have H0 := qh (show 0 < s.size by omega)
  clear k8 h0
  go_enter Tryz.func189, Tryz.ntmps189
  go_wp2_with (go_at_call 197; refine (HASC.out _).mono ?_)
  rintro e w1 ⟨rfl, x1⟩
  have X1 := qh x1
  clear x1
  go_wp2_with fail
  go_loopw [9, 10] (fun _ _ wr => ∃ pos : Nat, wr.heap[w1.heap.size]? = some (.stringIter s pos) ∧ Ext w1 wr ∧ (0 < pos → HeadOk s.data.toList)) (fun _ _ wr => s.size - wr.iterPos w1.heap.size)
  case atStart => exact ⟨0, by have := World.iter_heap w1 s 0; simpa using this, (Ext.refl w1).alloc _, fun h => absurd h (by decide)⟩
  case round =>
    obtain ⟨pos, hit, xr, hpre⟩ := hrel
    have hsz : w1.heap.size < wr.heap.size := (Array.getElem?_eq_some_iff.1 hit).1
    have HPRE := qh hpre
    clear hpre
    by_cases hp : pos < s.size
    · have hnx : ∀ ty, (Instr.next (.pointer (some ⟨w1.heap.size, 0, none⟩)) true ty).run Tryz.prog wr = _ := fun ty => Lib.run_next_any_at wr w1.heap.size s pos ty hit hp
      have HV := qh (decode_valid s pos)
      have HSG := qh (fun h => sign_at (s := s) hp h)
      have HHD := qh (fun (e : pos = 0) (h : ¬ signR (Int.ofNat (Utf8.decode s pos).1)) => head_ok (s := s) (by omega) (e ▸ h))
      have hwd := width_pos s pos hp
      have HDL := qh (decode_le s pos)
      have hit2 := Lib.iterAt_heap wr w1.heap.size s pos (pos + (Utf8.decode s pos).2) hit
      have xr2 := xr.iterAt (Nat.le_refl _) s (pos + (Utf8.decode s pos).2)
      have HIT2 := qh hit2
      have XR2 := qh xr2
      have HIT := qh hit
      clear hit hit2 xr xr2
      generalize Utf8.decode s pos = D at *
      obtain ⟨rn, wd⟩ := D
      dsimp only at *
      have HIR := qh (fun W => IndexRune_any (Int.ofNat rn) HV.out W)
      have HW := qh hwd
      clear hwd
      go_wp2_with (go_at_call 194; refine (HIR.out _).mono ?_)
      rintro e wx ⟨z, rfl, hz, xx⟩
      have XX := qh (XR2.out.trans xx)
      have hitx := xx.block HIT2.out
      have HITX := qh hitx
      have HZ := qh hz
      clear hz hitx xx
      by_cases hz0 : (0 : Int) ≤ z
      · have FS := qh (HSG.out (HZ.out.1 hz0))
        go_wp2_with fail
        go_ret
        exact ⟨_, rfl, fun _ => FS.out, fun h => by omega, X1.out.trans XX.out⟩
      · have FH := qh (show HeadOk s.data.toList from by
          by_cases hp0 : pos = 0
          · exact HHD.out hp0 fun h => hz0 (HZ.out.2 h)
          · exact HPRE.out (by omega))
        have kz : decide ((0 : Int) ≤ z) = false := decide_eq_false hz0
        have kz2 : z < 0 := by omega
        clear hz0
        go_wp2_with fail
        go_roundw
        case rel => exact ⟨pos + wd, HITX.out, XX.out, fun _ => FH.out⟩
        case measure => simp only [World.iterPos, HITX.out, HIT.out]; have := HW.out; omega
    · have hnx : ∀ ty, (Instr.next (.pointer (some ⟨w1.heap.size, 0, none⟩)) true ty).run Tryz.prog wr = _ := fun ty => Lib.run_next_end_at wr w1.heap.size s pos ty hit hp
      have XR := qh xr
      have FH := qh (HPRE.out (by have := H0.out; omega))
      clear xr
      go_wp2
      go_ret
      exact ⟨-1, rfl, fun h => absurd h (by decide), fun _ => FH.out, X1.out.trans XR.out⟩
theorem ContainsAny_any (s : ByteArray) (h0 : s.size ≠ 0) (h7 : s.size ≤ 7) (w : World) : Calls Tryz.prog 170 #[.string s, .string ⟨#[43, 45, 95]⟩] w (CAis s w) := by
  have HI := qh (IndexAny_any s h0 h7)
  clear h0 h7
  go_enter Tryz.func170, Tryz.ntmps170
  go_wp2_with (go_at_call 189; refine (HI.out _).mono ?_)
  rintro e w1 ⟨z, rfl, h1, h2, x1⟩
  have H1 := qh h1
  have H2 := qh h2
  have X1 := qh x1
  clear h1 h2 x1
  go_wp2_with fail
  go_ret
  exact ⟨decide (0 ≤ z), rfl, fun h => H1.out (by simpa using h), fun h => H2.out (by simpa using h), X1.out⟩
theorem etext_none {s : ByteArray} (h : s.size = 0) : (s.toList == ([] : List UInt8)) = true := by rw [ByteArray.toList_eq, show s.data.toList = [] from List.eq_nil_of_length_eq_zero h]; rfl
theorem etext_some {s : ByteArray} (h : ¬ s.size = 0) : (s.toList == ([] : List UInt8)) = false := by
  rw [ByteArray.toList_eq, beq_eq_false_iff_ne]
  intro e
  exact h (by show s.data.toList.length = 0; rw [e]; rfl)
theorem numL_bad (b : Nat) (c : UInt8) (hc : b ≤ digV c) : ∀ (l : List UInt8) (m : Nat), c ∈ l → numL b m l = none := by
  intro l
  induction l with
  | nil => intro m h; cases h
  | cons d r ih =>
    intro m h
    rw [numL]
    rcases List.mem_cons.1 h with rfl | h
    · rw [if_pos hc]
    · split
      · rfl
      · exact ih _ h
theorem sign_bad {l : List UInt8} (b : Nat) (hb : b ≤ 16) (h : ∃ c ∈ l, signC c) : numL b 0 l = none := by
  obtain ⟨c, hc, hs⟩ := h
  refine numL_bad b c ?_ l 0 hc
  have h99 : digV c = 99 := by rcases hs with rfl | rfl | rfl <;> rfl
  omega
theorem ValidRune_any (n : Nat) (hn : n < 268435456) (w : World) : Calls Tryz.prog 172 #[.int .i32 (n : Int)] w (RBool (decide (n < 55296 ∨ 57344 ≤ n ∧ n ≤ 1114111)) w) := by
  have x := Ext.refl w
  by_cases h : n < 55296 ∨ 57344 ≤ n ∧ n ≤ 1114111
  · rw [decide_eq_true h]
    exact ValidRune_ok (n : Int) (by unfold Utf8.valid; simp; omega) w
  · rw [decide_eq_false h]
    have h1 : ¬ (n : Int) < 55296 := by omega
    by_cases h2 : (n : Int) ≤ 57343
    · have h3 : ¬ (57343 : Int) < (n : Int) := by omega
      clear h
      go_enter Tryz.func172, Tryz.ntmps172
      go_wp2
      go_ret
      exact ⟨rfl, x⟩
    · have h3 : (57343 : Int) < (n : Int) := by omega
      have h4 : ¬ (n : Int) ≤ 1114111 := by omega
      clear h
      go_enter Tryz.func172, Tryz.ntmps172
      go_wp2
      go_ret
      exact ⟨rfl, x⟩
theorem prefix_one (l : List UInt8) (c : UInt8) : Lib.hasPrefix l [c] = decide (l.head? = some c) := by
  cases l with
  | nil => rfl
  | cons b r =>
    rw [Bool.eq_iff_iff]
    simp [Lib.hasPrefix, List.isPrefixOf]
    exact eq_comm
theorem code_parts {B most : Nat} {t : ByteArray} {o : Option (List UInt8)} (h0 : t.size ≠ 0) (hm : ¬ most < t.size) (h : (codeN B most t.data.toList).map (fun (n : Nat) => (Utf8.encode (n : Int)).data.toList) = o) :
    ((numL B 0 t.data.toList).filter runeN).map (fun (n : Nat) => (Utf8.encode (n : Int)).data.toList) = o := by
  rw [← h]
  unfold codeN
  rw [if_neg]
  rintro (h1 | h1)
  · exact h0 (by show t.data.toList.length = 0; rw [h1]; rfl)
  · exact hm h1
theorem coded_any (s : ByteArray) (hs : s.size ≤ 20) (w : World) (hl : LW w) : Calls Tryz.prog 142 #[.string s] w (RVal (optV (codedL s.data.toList)) w) := by
  have HP := qh (HasPrefix_any s ⟨#[120]⟩)
  have HL := qh hl
  obtain ⟨o, ho⟩ : ∃ o, codedL s.data.toList = o := ⟨_, rfl⟩
  rw [ho]
  have hpx := prefix_one s.data.toList 120
  unfold codedL codeL at ho
  by_cases hx : s.data.toList.head? = some 120
  · rw [if_pos hx] at ho
    have hpos : 0 < s.size := by
      rcases Nat.eq_zero_or_pos s.size with h | h
      · have : s.data.toList = [] := List.eq_nil_of_length_eq_zero h
        rw [this] at hx; cases hx
      · exact h
    rw [decide_eq_true hx] at hpx
    have HP2 := qh (fun W => (hpx ▸ HP.out W : Calls Tryz.prog 84 #[.string s, .string ⟨#[120]⟩] W (RVal (.bool true) W)))
    obtain ⟨t, ht⟩ : ∃ t, s.extract 1 s.size = t := ⟨_, rfl⟩
    have htl : t.data.toList = s.data.toList.tail := by
      have h1 := bs_cut s.data.toList 1 s.size
      rw [bs_list, ht] at h1
      rw [h1, bs_data, List.drop_one]
      exact List.take_of_length_le (by rw [List.length_tail]; exact Nat.le_refl _)
    have hsl : ∀ W : World, (Instr.slice 9 (.string s) (some (.int .i64 1)) none none).run Tryz.prog W = .ok (.string t) W := by
      intro W
      rw [run_slice_string_l W 9 s Tryz.underlying9 .i64 1 (by decide) (by omega), ← ht]
      rfl
    have htz : t.size ≤ 20 := by
      have h1 : t.size = t.data.toList.length := rfl
      have h2 : s.data.toList.length = s.size := rfl
      rw [h1, htl, List.length_tail]; omega
    rw [← htl] at ho
    have HO := qh ho
    clear ho hx hpx ht htl hs hl hpos
    go_enter Tryz.func142, Tryz.ntmps142
    go_wp2_with (go_at_call 84; refine (HP2.out _).mono ?_)
    rintro e w1 ⟨rfl, x1⟩
    have X1 := qh x1
    clear x1
    by_cases z0 : t.size = 0
    · have e0 : (t.toList == ([] : List UInt8)) = true := etext_none z0
      have ho1 : o = none := by rw [← HO.out]; unfold codeN; rw [if_pos (.inl (List.eq_nil_of_length_eq_zero z0))]; rfl
      subst ho1
      clear z0
      go_wp2_with fail
      go_ret2
      exact ⟨rfl, X1.out⟩
    have e0 : (t.toList == ([] : List UInt8)) = false := etext_some z0
    by_cases z6 : 6 < t.size
    · have k6 : (6 : Int) < (t.size : Int) := by omega
      have k6i : decide ((6 : Int) < (t.size : Int)) = true := decide_eq_true k6
      have k6n : decide (6 < t.size) = true := decide_eq_true z6
      have ho1 : o = none := by rw [← HO.out]; unfold codeN; rw [if_pos (.inr z6)]; rfl
      subst ho1
      clear z6
      go_wp2_with fail
      go_ret2
      exact ⟨rfl, X1.out⟩
    have k6 : ¬ (6 : Int) < (t.size : Int) := by omega
    have k6i : decide ((6 : Int) < (t.size : Int)) = false := decide_eq_false k6
    have k6n : decide (6 < t.size) = false := decide_eq_false z6
    have HO2 := qh (code_parts z0 z6 HO.out)
    have HCA := qh (ContainsAny_any t z0 (by omega))
    have Z0 := qh z0
    have Z7 := qh (show t.size ≤ 7 by omega)
    clear z0 z6 htz
    go_wp2_with (go_at_call 170; refine (HCA.out _).mono ?_)
    rintro e w2 ⟨b, rfl, h1, h2, x2⟩
    have H1 := qh h1
    have H2 := qh h2
    have X2 := qh (X1.out.trans x2)
    clear h1 h2 x2
    cases b with
    | true =>
      have ho1 : o = none := by rw [← HO2.out, sign_bad 16 (by decide) (H1.out rfl)]; rfl
      subst ho1
      go_wp2_with fail
      go_ret2
      exact ⟨rfl, X2.out⟩
    | false =>
      have HPI := qh (ppi16_any t Z0.out Z7.out (H2.out rfl).1 (H2.out rfl).2 w2 (HL.out.ext X2.out))
      have hlt : ∀ n, numL 16 0 t.data.toList = some n → n < 268435456 := fun n h => by
        have h1 := numL_lt 16 (by decide) _ 0 n 1 h (by decide)
        have h2 : 16 ^ t.data.toList.length ≤ 268435456 := pow_le7 Z7.out
        omega
      have HLT := qh hlt
      obtain ⟨r, hr⟩ : ∃ r, numL 16 0 t.data.toList = r := ⟨_, rfl⟩
      rw [hr] at HPI HLT HO2
      clear hr hlt
      go_wp2_with (go_at_call 171; refine HPI.out.mono ?_)
      rintro e w3 ⟨ev, rfl, hv1, hv2, x3⟩
      have X3 := qh (X2.out.trans x3)
      clear x3
      cases r with
      | none =>
        obtain ⟨p, rfl⟩ := hv2 rfl
        have ho1 : o = none := HO2.out.symm
        subst ho1
        clear hv1 hv2
        go_wp2_with fail
        go_ret2
        exact ⟨rfl, X3.out⟩
      | some n =>
        obtain rfl := hv1 (by simp)
        have hn := HLT.out n rfl
        clear hv1 hv2
        have hw : IntKind.i32.wrap (n : Int) = (n : Int) := IntWalk.i32_in _ (by omega)
        by_cases n0 : n = 0
        · have ho1 : o = none := by rw [← HO2.out, n0]; rfl
          subst ho1
          have kn : ((n : Int) == 0) = true := by simp [n0]
          clear n0
          go_wp2_with fail
          go_ret2
          exact ⟨rfl, X3.out⟩
        have kn : ((n : Int) == 0) = false := by rw [beq_eq_false_iff_ne]; omega
        have HVR := qh (ValidRune_any n hn)
        by_cases nv : n < 55296 ∨ 57344 ≤ n ∧ n ≤ 1114111
        case neg =>
          have hf : runeN n = false := by unfold runeN; exact decide_eq_false (by omega)
          have ho1 : o = none := by rw [← HO2.out]; simp [Option.filter, hf]
          subst ho1
          have HVF := qh (fun W => (decide_eq_false nv ▸ HVR.out W : Calls Tryz.prog 172 #[.int .i32 (n : Int)] W (RBool false W)))
          clear nv hf n0
          go_wp2_with (go_at_call 172; refine (HVF.out _).mono ?_)
          rintro e w4 ⟨rfl, x4⟩
          go_wp2_with fail
          go_ret2
          exact ⟨rfl, X3.out.trans x4⟩
        have hf : runeN n = true := by unfold runeN; exact decide_eq_true (by omega)
        have ho1 : o = some (Utf8.encode (n : Int)).data.toList := by rw [← HO2.out]; simp [Option.filter, hf]
        have HVF := qh (fun W => (decide_eq_true nv ▸ HVR.out W : Calls Tryz.prog 172 #[.int .i32 (n : Int)] W (RBool true W)))
        have hcv : ∀ W : World, (Go.convert 21 9 (.int .i32 (n : Int))).run Tryz.prog W = .ok (.string (Utf8.encode (n : Int))) W := by
          intro W
          simp [convert, run_underlying Tryz.underlying21, run_underlying Tryz.underlying9, Conv.intToString]
        have hfin : optV o = .tuple #[.string (Utf8.encode (n : Int)), .bool true] := by rw [ho1]; unfold optV; simp [bs_list]
        clear nv hf n0 ho1
        generalize Utf8.encode (n : Int) = E at *
        have HFIN := qh hfin
        clear hfin
        go_wp2_with (go_at_call 172; refine (HVF.out _).mono ?_)
        rintro e w4 ⟨rfl, x4⟩
        go_wp2_with fail
        go_ret2
        exact ⟨by rw [HFIN.out]; rfl, X3.out.trans x4⟩
  · rw [if_neg hx] at ho
    rw [decide_eq_false hx] at hpx
    have HP2 := qh (fun W => (hpx ▸ HP.out W : Calls Tryz.prog 84 #[.string s, .string ⟨#[120]⟩] W (RVal (.bool false) W)))
    have HO := qh ho
    obtain ⟨t, ht⟩ : ∃ t, s = t := ⟨_, rfl⟩
    subst ht
    have htz := hs
    clear ho hx hpx hs hl
    go_enter Tryz.func142, Tryz.ntmps142
    go_wp2_with (go_at_call 84; refine (HP2.out _).mono ?_)
    rintro e w1 ⟨rfl, x1⟩
    have X1 := qh x1
    clear x1
    by_cases z0 : s.size = 0
    · have e0 : (s.toList == ([] : List UInt8)) = true := etext_none z0
      have ho1 : o = none := by rw [← HO.out]; unfold codeN; rw [if_pos (.inl (List.eq_nil_of_length_eq_zero z0))]; rfl
      subst ho1
      clear z0
      go_wp2_with fail
      go_ret2
      exact ⟨rfl, X1.out⟩
    have e0 : (s.toList == ([] : List UInt8)) = false := etext_some z0
    by_cases z6 : 7 < s.size
    · have k6 : (7 : Int) < (s.size : Int) := by omega
      have k6i : decide ((7 : Int) < (s.size : Int)) = true := decide_eq_true k6
      have k6n : decide (7 < s.size) = true := decide_eq_true z6
      have ho1 : o = none := by rw [← HO.out]; unfold codeN; rw [if_pos (.inr z6)]; rfl
      subst ho1
      clear z6
      go_wp2_with fail
      go_ret2
      exact ⟨rfl, X1.out⟩
    have k6 : ¬ (7 : Int) < (s.size : Int) := by omega
    have k6i : decide ((7 : Int) < (s.size : Int)) = false := decide_eq_false k6
    have k6n : decide (7 < s.size) = false := decide_eq_false z6
    have HO2 := qh (code_parts z0 z6 HO.out)
    have HCA := qh (ContainsAny_any s z0 (by omega))
    have Z0 := qh z0
    have Z7 := qh (show s.size ≤ 7 by omega)
    clear z0 z6 htz
    go_wp2_with (go_at_call 170; refine (HCA.out _).mono ?_)
    rintro e w2 ⟨b, rfl, h1, h2, x2⟩
    have H1 := qh h1
    have H2 := qh h2
    have X2 := qh (X1.out.trans x2)
    clear h1 h2 x2
    cases b with
    | true =>
      have ho1 : o = none := by rw [← HO2.out, sign_bad 10 (by decide) (H1.out rfl)]; rfl
      subst ho1
      go_wp2_with fail
      go_ret2
      exact ⟨rfl, X2.out⟩
    | false =>
      have HPI := qh (ppi10_any s Z0.out Z7.out (H2.out rfl).1 (H2.out rfl).2 w2 (HL.out.ext X2.out))
      have hlt : ∀ n, numL 10 0 s.data.toList = some n → n < 268435456 := fun n h => by
        have h1 := numL_lt 10 (by decide) _ 0 n 1 h (by decide)
        have h2 : 16 ^ s.data.toList.length ≤ 268435456 := pow_le7 Z7.out
        omega
      have HLT := qh hlt
      obtain ⟨r, hr⟩ : ∃ r, numL 10 0 s.data.toList = r := ⟨_, rfl⟩
      rw [hr] at HPI HLT HO2
      clear hr hlt
      go_wp2_with (go_at_call 171; refine HPI.out.mono ?_)
      rintro e w3 ⟨ev, rfl, hv1, hv2, x3⟩
      have X3 := qh (X2.out.trans x3)
      clear x3
      cases r with
      | none =>
        obtain ⟨p, rfl⟩ := hv2 rfl
        have ho1 : o = none := HO2.out.symm
        subst ho1
        clear hv1 hv2
        go_wp2_with fail
        go_ret2
        exact ⟨rfl, X3.out⟩
      | some n =>
        obtain rfl := hv1 (by simp)
        have hn := HLT.out n rfl
        clear hv1 hv2
        have hw : IntKind.i32.wrap (n : Int) = (n : Int) := IntWalk.i32_in _ (by omega)
        by_cases n0 : n = 0
        · have ho1 : o = none := by rw [← HO2.out, n0]; rfl
          subst ho1
          have kn : ((n : Int) == 0) = true := by simp [n0]
          clear n0
          go_wp2_with fail
          go_ret2
          exact ⟨rfl, X3.out⟩
        have kn : ((n : Int) == 0) = false := by rw [beq_eq_false_iff_ne]; omega
        have HVR := qh (ValidRune_any n hn)
        by_cases nv : n < 55296 ∨ 57344 ≤ n ∧ n ≤ 1114111
        case neg =>
          have hf : runeN n = false := by unfold runeN; exact decide_eq_false (by omega)
          have ho1 : o = none := by rw [← HO2.out]; simp [Option.filter, hf]
          subst ho1
          have HVF := qh (fun W => (decide_eq_false nv ▸ HVR.out W : Calls Tryz.prog 172 #[.int .i32 (n : Int)] W (RBool false W)))
          clear nv hf n0
          go_wp2_with (go_at_call 172; refine (HVF.out _).mono ?_)
          rintro e w4 ⟨rfl, x4⟩
          go_wp2_with fail
          go_ret2
          exact ⟨rfl, X3.out.trans x4⟩
        have hf : runeN n = true := by unfold runeN; exact decide_eq_true (by omega)
        have ho1 : o = some (Utf8.encode (n : Int)).data.toList := by rw [← HO2.out]; simp [Option.filter, hf]
        have HVF := qh (fun W => (decide_eq_true nv ▸ HVR.out W : Calls Tryz.prog 172 #[.int .i32 (n : Int)] W (RBool true W)))
        have hcv : ∀ W : World, (Go.convert 21 9 (.int .i32 (n : Int))).run Tryz.prog W = .ok (.string (Utf8.encode (n : Int))) W := by
          intro W
          simp [convert, run_underlying Tryz.underlying21, run_underlying Tryz.underlying9, Conv.intToString]
        have hfin : optV o = .tuple #[.string (Utf8.encode (n : Int)), .bool true] := by rw [ho1]; unfold optV; simp [bs_list]
        clear nv hf n0 ho1
        generalize Utf8.encode (n : Int) = E at *
        have HFIN := qh hfin
        clear hfin
        go_wp2_with (go_at_call 172; refine (HVF.out _).mono ?_)
        rintro e w4 ⟨rfl, x4⟩
        go_wp2_with fail
        go_ret2
        exact ⟨by rw [HFIN.out]; rfl, X3.out.trans x4⟩
theorem entity_any (s : ByteArray) (hs : s.size ≤ 1000000000000) (hh : s.data.toList.head? = some 38) (w : World) (hl : LW w) :
    Calls Tryz.prog 94 #[.string s] w (RTwo (.string (bs (entityL s.data.toList).1)) (.int .i64 (entityL s.data.toList).2) w) := by
  obtain ⟨l, hl0⟩ : ∃ l, s.data.toList = l := ⟨_, rfl⟩
  have hsb : s = bs l := by rw [← hl0, bs_list]
  have hz : s.size = l.length := by rw [← hl0]; rfl
  have hcut : ∀ i j, s.extract i j = bs ((l.drop i).take (j - i)) := fun i j => by rw [hsb]; exact bs_cut l i j
  have h12 : (bs (l.take 12)).data.toList = l.take 12 := bs_data _
  have hd12 : (s.extract 0 (min (s.size : Int) 12).toNat).data.toList = l.take 12 := by
    rw [hcut, bs_data, List.drop_zero]
    have e : (min (s.size : Int) 12).toNat - 0 = min l.length 12 := by omega
    rw [e]
    by_cases h : l.length ≤ 12
    · rw [Nat.min_eq_left h, List.take_of_length_le (Nat.le_refl _), List.take_of_length_le h]
    · rw [Nat.min_eq_right (by omega)]
  have HI := qh (fun W => (hd12 ▸ IndexByte_any (s.extract 0 (min (s.size : Int) 12).toNat) 59 59 rfl W : Calls Tryz.prog 92 #[.string (s.extract 0 (min (s.size : Int) 12).toNat), .int .u8 59] W (RVal (.int .i64 (Lib.indexByte (l.take 12) 59)) W)))
  obtain ⟨res, hres⟩ : ∃ r, entityL l = r := ⟨_, rfl⟩
  rw [hl0, hres]
  rw [hl0] at hh
  unfold entityL at hres
  have HR := qh hres
  have HL := qh hl
  have HC := qh hcut
  have HH := qh hh
  have HZ := qh hz
  have HB := qh hl0
  obtain ⟨e, he⟩ : ∃ e, Lib.indexByte (l.take 12) 59 = e := ⟨_, rfl⟩
  rw [he] at HI HR
  have HE := qh he
  have b12 : 0 ≤ min (s.size : Int) 12 := by omega
  have c12 : min (s.size : Int) 12 ≤ (s.size : Int) := by omega
  clear hres hl hcut hh hsb h12 hl0 hd12 hz he
  go_enter Tryz.func94, Tryz.ntmps94
  go_wp2_with (go_at_call 92; refine (HI.out _).mono ?_)
  rintro e w1 ⟨rfl, x1⟩
  have X1 := qh x1
  clear x1 b12 c12
  by_cases hneg : e < 0
  · have hr : res = ([38], 1) := by rw [← HR.out, if_pos hneg]
    subst hr
    go_wp2_with fail
    go_ret2
    exact ⟨rfl, X1.out⟩
  obtain ⟨k, hk, hk59, _⟩ := indexByte_some (by rw [HE.out]; exact hneg)
  rw [HE.out] at hk
  subst hk
  have hk12 : k < 12 ∧ k < l.length := by
    have h := (List.getElem?_eq_some_iff.1 hk59).1
    rw [List.length_take] at h; omega
  have hlk : l[k]? = some 59 := by rw [List.getElem?_take, if_pos hk12.1] at hk59; exact hk59
  have hk0 : 1 ≤ k := by
    rcases Nat.eq_zero_or_pos k with rfl | h
    · have h1 := HH.out; rw [List.head?_eq_getElem?, hlk] at h1; cases h1
    · exact h
  have HR2 : Hid ((match meansL l k with | some x => (x, k + 1) | none => ([38], 1)) = res) := qh (by rw [← HR.out, if_neg hneg]; rfl)
  have HK := qh hlk
  have HK12 := qh hk12
  have b1 : (1 : Int) ≤ (k : Int) := by omega
  have b2 : (k : Int) ≤ (s.size : Int) := by have := HZ.out; have := hk12.2; omega
  have kneg : decide ((k : Int) < 0) = false := decide_eq_false (by omega)
  have hn1 : (s.extract 1 k).data.toList = (l.drop 1).take (k - 1) := by rw [HC.out, bs_data]
  have HN := qh (fun W => (hn1 ▸ named_any (s.extract 1 k) W : Calls Tryz.prog 141 #[.string (s.extract 1 k)] W (RVal (optV (namedL ((l.drop 1).take (k - 1)))) W)))
  clear hneg hk59 hlk hk12 hn1
  obtain ⟨o, ho⟩ : ∃ o, namedL ((l.drop 1).take (k - 1)) = o := ⟨_, rfl⟩
  rw [ho] at HN
  have HO := qh ho
  clear ho
  go_wp2_with (go_at_call 141; refine (HN.out _).mono ?_)
  rintro e w2 ⟨rfl, x2⟩
  have X2 := qh (X1.out.trans x2)
  clear x2
  have hwk : IntKind.i64.wrap ((k : Int) + 1) = (k : Int) + 1 := IntWalk.i64_in _ (by have := HK12.out; omega)
  cases o with
  | some x =>
    have hr : res = (x, k + 1) := by rw [← HR2.out]; unfold meansL; rw [HO.out]
    subst hr
    unfold optV
    go_wp2_with fail
    go_ret2
    exact ⟨rfl, X2.out⟩
  | none =>
    have hpx : Lib.hasPrefix l [38, 35] = decide (l.take 2 = [38, 35]) := by
      cases l with
      | nil => rfl
      | cons a r =>
        cases r with
        | nil => rw [Bool.eq_iff_iff]; simp [Lib.hasPrefix, List.isPrefixOf]
        | cons b r => rw [Bool.eq_iff_iff]; simp [Lib.hasPrefix, List.isPrefixOf]; exact ⟨fun h => ⟨h.1.symm, h.2.symm⟩, fun h => ⟨h.1.symm, h.2.symm⟩⟩
    have HP := qh (fun W => (HB.out ▸ HasPrefix_any s ⟨#[38, 35]⟩ W : Calls Tryz.prog 84 #[.string s, .string ⟨#[38, 35]⟩] W (RVal (.bool (Lib.hasPrefix l [38, 35])) W)))
    by_cases h2 : l.take 2 = [38, 35]
    · rw [hpx, decide_eq_true h2] at HP
      have hk2 : 2 ≤ k := by
        rcases Nat.lt_or_ge k 2 with h | h
        · have h1 : k = 1 := by omega
          have h3 : (l.take 2)[1]? = some 59 := by rw [List.getElem?_take, if_pos (by decide), ← h1]; exact HK.out
          rw [h2] at h3
          cases h3
        · exact h
      have hn2 : (s.extract 2 k).data.toList = (l.drop 2).take (k - 2) := by rw [HC.out, bs_data]
      have hz2 : (s.extract 2 k).size ≤ 20 := by
        show (s.extract 2 k).data.toList.length ≤ 20
        rw [hn2, List.length_take]
        have := HK12.out
        omega
      have HCD := qh (fun W (hW : LW W) => (hn2 ▸ coded_any (s.extract 2 k) hz2 W hW : Calls Tryz.prog 142 #[.string (s.extract 2 k)] W (RVal (optV (codedL ((l.drop 2).take (k - 2)))) W)))
      have b3 : (2 : Int) ≤ (k : Int) := by omega
      obtain ⟨o2, ho2⟩ : ∃ o, codedL ((l.drop 2).take (k - 2)) = o := ⟨_, rfl⟩
      rw [ho2] at HCD
      have hm : meansL l k = o2 := by unfold meansL; rw [HO.out]; dsimp only; rw [if_pos h2, ho2]
      have HM := qh hm
      clear hm ho2 hz2 hn2 hk2 h2 hpx
      unfold optV
      go_wp2_with (go_at_call 84; refine (HP.out _).mono ?_)
      rintro e w3 ⟨rfl, x3⟩
      have X3 := qh (X2.out.trans x3)
      clear x3
      go_wp2_with (go_at_call 142; refine (HCD.out _ (HL.out.ext X3.out)).mono ?_)
      rintro e w4 ⟨rfl, x4⟩
      have X4 := qh (X3.out.trans x4)
      clear x4
      cases o2 with
      | some x =>
        have hr : res = (x, k + 1) := by rw [← HR2.out, HM.out]
        subst hr
        unfold optV
        go_wp2_with fail
        go_ret2
        exact ⟨rfl, X4.out⟩
      | none =>
        have hr : res = ([38], 1) := by rw [← HR2.out, HM.out]
        subst hr
        unfold optV
        go_wp2_with fail
        go_ret2
        exact ⟨rfl, X4.out⟩
    · rw [hpx, decide_eq_false h2] at HP
      have hr : res = ([38], 1) := by rw [← HR2.out]; unfold meansL; rw [HO.out]; dsimp only; rw [if_neg h2]
      subst hr
      clear h2 hpx
      unfold optV
      go_wp2_with (go_at_call 84; refine (HP.out _).mono ?_)
      rintro e w3 ⟨rfl, x3⟩
      go_wp2_with fail
      go_ret2
      exact ⟨rfl, X2.out.trans x3⟩
end Go.Proofs.YtalaajbajgdglaaGreatDoor
namespace Go.Proofs.YtalaajbajgdglaaGreatDoor.Lx
open Go Go.RowKit Go.BigFrame
abbrev BuF (B b : Nat) (bs : List Value) (w : World) : Prop := Lib.IsBuilderF 82 5 B b bs w
abbrev BuA (B b : Nat) (p : Value) (bs : List Value) (w : World) : Prop := Lib.BuilderAtF 82 5 B b p bs w
abbrev Kept (b : Nat) (w w' : World) : Prop := Lib.OthersKept 5 (some b) w w'
theorem infoBuilder : (Tryz.prog.info? 82).map (fun i => i.size) = some 2 := by kernel_rfl
theorem liesPrinter : liesAt Tryz.prog Tryz.prog.depth 82 (2 / Tryz.prog.cellsOf 82) 0 82 1 = true := by kernel_rfl
theorem copyCheck_fresh (b : Nat) (w : World) (h0 : w.cell? ⟨b, 0, none⟩ = some (.pointer none)) (hsh : w.shape? b = some (82, 2)) (hfz : w.frozen? ⟨b, 0, none⟩ = false) :
    Calls Tryz.prog 140 #[.pointer (some ⟨b, 0, none⟩)] w fun e w' => e = .returned (.tuple #[]) ∧ w' = w.setCell ⟨b, 0, none⟩ (.pointer (some ⟨b, 0, none⟩)) := by
  obtain ⟨j, hj, hjs⟩ := Option.map_eq_some_iff.1 infoBuilder
  go_enter Tryz.func140, Tryz.ntmps140
  go_wp2
  rw [Lib.run_to_unsafe w ⟨b, 0, none⟩ Tryz.underlying80 Tryz.underlying190 hj (by rw [hjs]; decide) hsh (Nat.zero_lt_succ 1)]
  simp only [Result.andThen]
  rw [Oper.upon_value]
  go_wp2
  rw [run_callFunc_extern Tryz.func169 (by kernel_rfl) (by kernel_rfl) (by kernel_rfl) (e := Extern.AbiNoEscape.same) (by kernel_rfl)]
  rw [Lib.run_noEscape]
  simp only [Result.andThen]
  rw [Oper.upon_value]
  go_wp2
  rw [Lib.run_from_unsafe w ⟨b, 0, none⟩ Tryz.underlying190 Tryz.underlying80 hj hsh liesPrinter]
  simp only [Result.andThen]
  rw [Oper.upon_value]
  go_wp2
  go_end0
  exact ⟨rfl, rfl⟩
theorem copyCheck_used (b : Nat) (w : World) (h0 : w.cell? ⟨b, 0, none⟩ = some (.pointer (some ⟨b, 0, none⟩))) :
    Calls Tryz.prog 140 #[.pointer (some ⟨b, 0, none⟩)] w fun e w' => e = .returned (.tuple #[]) ∧ w' = w := by
  obtain ⟨j, hj, _⟩ := Option.map_eq_some_iff.1 infoBuilder
  go_enter Tryz.func140, Tryz.ntmps140
  go_wp2
  rw [Lib.run_neq_ptr_same w _ Tryz.underlying80 hj]
  go_wp2
  go_end0
  exact ⟨rfl, rfl⟩
theorem copyCheck_k (B b : Nat) (bs : List Value) (w : World) (h : BuF B b bs w) :
    Calls Tryz.prog 140 #[.pointer (some ⟨b, 0, none⟩)] w fun e w' => e = .returned (.tuple #[]) ∧ (BuA B b (.pointer (some ⟨b, 0, none⟩)) bs w' ∧ Below B w w' ∧ Kept b w w') := by
  rcases h with h | h
  · refine (copyCheck_fresh b w h.cell0 h.shape h.frozen0).mono ?_
    rintro e w' ⟨rfl, rfl⟩
    exact ⟨rfl, h.used _, (Below.refl B w).setCell (p := ⟨b, 0, none⟩) h.1 _, (Lib.OthersKept.refl _ _ w).setCell ⟨b, 0, none⟩ rfl _⟩
  · refine (copyCheck_used b w h.cell0).mono ?_
    rintro e w' ⟨rfl, rfl⟩
    exact ⟨rfl, h, Below.refl B _, Lib.OthersKept.refl _ _ _⟩
theorem WriteString_k (B b : Nat) (bs : List Value) (s : ByteArray) (w : World) (h : BuF B b bs w) (hlen : bs.length + s.size ≤ 140737488355328) (hBw : B ≤ w.heap.size) :
    Calls Tryz.prog 93 #[.pointer (some ⟨b, 0, none⟩), .string s] w fun e w' => e = .returned (.tuple #[.int .i64 s.size, .nilIface]) ∧ (BuA B b (.pointer (some ⟨b, 0, none⟩)) (bs ++ Lib.strCells s) w' ∧ Below B w w' ∧ Kept b w w') := by
  obtain ⟨i0, hi, hz0, hz1, hz2⟩ := info_parts infoByte
  go_enter Tryz.func93, Tryz.ntmps93
  go_wp2_with (go_at_call 140; refine (copyCheck_k B b bs _ h).mono ?_)
  rintro e w1 ⟨rfl, h1, hb1, hk1⟩
  obtain ⟨hB, v, hbk, hown, hne⟩ := h1
  have c0 : w1.cell? ⟨b, 0, none⟩ = some (.pointer (some ⟨b, 0, none⟩)) := by rw [Lib.cell_of_heap hbk]; rfl
  have c1 : w1.cell? ⟨b, 1, none⟩ = some v := by rw [Lib.cell_of_heap hbk]; rfl
  go_wp2_with (at_builtin; refine Lib.wpList_append_own_stringF _ rfl _ _ 71 9 rfl B 5 i0 Tryz.underlying71 Tryz.underlying9 hi hz0 hz1 hz2 _ _ _ rfl hown s rfl ?c3 ?c4 ?c5 ?_)
  case c3 => unfold maxLen; omega
  case c4 => omega
  case c5 => have := hb1.size; omega
  intro v' w2 hown' hgrow _
  have hlt : b < w1.heap.size := by
    rcases Nat.lt_or_ge b w1.heap.size with h' | h'
    · exact h'
    · simp [Array.getElem?_eq_none h'] at hbk
  have hb2 : w2.heap[b]? = some (.cells #[.pointer (some ⟨b, 0, none⟩), v] 82 (0, 0)) := by
    rw [hgrow.block b hlt (fun e => hne e.symm)]
    exact hbk
  have d0 : w2.cell? ⟨b, 0, none⟩ = some (.pointer (some ⟨b, 0, none⟩)) := by rw [Lib.cell_of_heap hb2]; rfl
  have d1 : w2.cell? ⟨b, 1, none⟩ = some v := by rw [Lib.cell_of_heap hb2]; rfl
  have f1 : w2.frozen? ⟨b, 1, none⟩ = false := Lib.frozen_of_heap hb2 1
  obtain ⟨ao, n', cap, rfl⟩ : ∃ ao n' cap, v' = .slice ao n' cap := by
    rcases hown'.2 with ⟨hv, _⟩ | ⟨g, cap, cur, fz, hv, _⟩
    · exact ⟨_, _, _, hv⟩
    · exact ⟨_, _, _, hv⟩
  go_wp2
  go_ret2
  refine ⟨rfl, ?_, ?_, (hk1.grown hgrow (Lib.ownsRowF_kind hown)).setCell ⟨b, 1, none⟩ rfl _⟩
  · exact Lib.BuilderAtF.put (T := 82) (e := 5) hB hb2 (bs' := bs ++ Lib.strCells s) (by simpa [Lib.strCells_length] using hown') (by decide)
  · exact (hb1.grown hgrow (by have := hb1.size; omega) (fun k hk => (hown.lt k hk).1)).setCell (p := ⟨b, 1, none⟩) hB _
theorem cellsByte : Tryz.prog.cellsOf 5 = 1 := by kernel_rfl
theorem String_k (B b : Nat) (l : List UInt8) (w : World) (h : BuF B b (Lib.byteCells l) w) (h0 : l ≠ []) :
    Calls Tryz.prog 38 #[.pointer (some ⟨b, 0, none⟩)] w fun e w' => e = .returned (.string ⟨l.toArray⟩) ∧ Below B w w' := by
  obtain ⟨p, hp, hAt⟩ : ∃ p, (p = .pointer none ∨ p = .pointer (some ⟨b, 0, none⟩)) ∧ BuA B b p (Lib.byteCells l) w := by
    rcases h with h | h
    · exact ⟨_, .inl rfl, h⟩
    · exact ⟨_, .inr rfl, h⟩
  obtain ⟨hB, v, hbk, hown, hne⟩ := hAt
  have hl0 : l.length ≠ 0 := by simpa using h0
  rw [Lib.byteCells_length] at hown
  obtain ⟨g, cap, cur, fz, rfl, hbg, hg, hfz, hnc, hcm, hcs, htake⟩ : ∃ g cap cur fz, v = .slice (some ⟨g, 0, none⟩) l.length cap ∧ B ≤ g ∧ w.heap[g]? = some (.cells cur 5 fz) ∧ fz.2 ≤ l.length * 1 ∧ l.length ≤ cap ∧ cap ≤ maxLen ∧ cur.size = cap * 1 ∧ cur.toList.take (l.length * 1) = Lib.byteCells l := by
    rcases hown.2 with ⟨_, hz⟩ | ⟨g, cap, cur, fz, hv, r⟩
    · exact absurd hz hl0
    · exact ⟨g, cap, cur, fz, hv, r⟩
  have c1 : w.drew.cell? ⟨b, 1, none⟩ = some (.slice (some ⟨g, 0, none⟩) l.length cap) := by
    have : w.drew.heap[b]? = some (.cells #[p, .slice (some ⟨g, 0, none⟩) l.length cap] 82 (0, 0)) := hbk
    rw [Lib.cell_of_heap this]; rfl
  have hSD : (Builtin.unsafeSliceData_ #[71] 121 #[.slice (some ⟨g, 0, none⟩) l.length cap]).run Tryz.prog w.drew = .ok (.pointer (some ⟨g, 0, none⟩)) w.drew :=
    Lib.run_unsafeSliceData_row _ _ _ _ _ _ (by omega)
  have hUS : (Builtin.unsafeString_ #[121, 3] 9 #[.pointer (some ⟨g, 0, none⟩), .int .i64 l.length]).run Tryz.prog w.drew = .ok (.string ⟨l.toArray⟩) (w.drew.freeze ⟨g, 0, none⟩ l.length) := by
    refine Lib.run_unsafeString_row w.drew 121 3 9 5 Tryz.underlying121 cellsByte g cur.size (by have hg' : w.drew.heap[g]? = some (.cells cur 5 fz) := hg; simp [World.shape?, hg']) l h0 (by omega) (by unfold maxLen at hcm; omega) ?_
    intro j x hx
    have := hown.cells (g := g) rfl j (.int .u8 x.toNat) (by simp [Lib.byteCells, hx])
    exact this
  have mixed : Tryz.prog.follows .mixedOrders = true := by kernel_rfl
  go_enter Tryz.func38, Tryz.ntmps38
  go_wp2
  go_region_o
  all_goals (go_wp2; go_ret; exact ⟨rfl, Lib.below_freeze (Below.drew (Below.refl B w)) (p := ⟨g, 0, none⟩) hbg _⟩)
def Printed (B b : Nat) (l : List UInt8) (w : World) (e : Ending) (w' : World) : Prop := e = .returned (.tuple #[]) ∧ BuF B b (Lib.byteCells l) w' ∧ Below B w w' ∧ Kept b w w'
def Wrote (B b : Nat) (l : List UInt8) (w : World) (e : Ending) (w' : World) : Prop := ∃ m : Nat, e = .returned (.tuple #[.int .i64 m, .nilIface]) ∧ Printed B b l w (.returned (.tuple #[])) w'
theorem Write_any (B b : Nat) (acc : List UInt8) (s : ByteArray) (l : List UInt8) (hs : acc ++ s.data.toList = l) (w : World) (h : BuF B b (Lib.byteCells acc) w) (hlen : acc.length + s.size ≤ 140737488355328) (hBw : B ≤ w.heap.size) :
    Calls Tryz.prog 93 #[.pointer (some ⟨b, 0, none⟩), .string s] w (Wrote B b l w) :=
  (WriteString_k B b _ s w h (by rw [Lib.byteCells_length]; exact hlen) hBw).mono fun e w' hh => ⟨s.size, hh.1, rfl, by rw [← hs, Lib.byteCells_append]; exact .inr hh.2.1, hh.2.2.1, hh.2.2.2⟩
theorem unsafeString_none (w : World) (p : Option Addr) : (Builtin.unsafeString_ #[121, 3] 9 #[.pointer p, .int .i64 0]).run Tryz.prog w = .ok (.string ⟨#[]⟩) w := Lib.run_unsafeString_none _ _ _ _ p
theorem String_nil (B b : Nat) (p : Value) (w : World) (hbk : w.heap[b]? = some (.cells #[p, .slice none 0 0] 82 (0, 0))) :
    Calls Tryz.prog 38 #[.pointer (some ⟨b, 0, none⟩)] w fun e w' => e = .returned (.string ⟨#[]⟩) ∧ Below B w w' := by
  have hUS := unsafeString_none
  have c1 : w.drew.cell? ⟨b, 1, none⟩ = some (.slice none 0 0) := by
    have : w.drew.heap[b]? = some (.cells #[p, .slice none 0 0] 82 (0, 0)) := hbk
    rw [Lib.cell_of_heap this]; rfl
  have hSD : (Builtin.unsafeSliceData_ #[71] 121 #[.slice none 0 0]).run Tryz.prog w.drew = .ok (.pointer none) w.drew := rfl
  have mixed : Tryz.prog.follows .mixedOrders = true := by kernel_rfl
  go_enter Tryz.func38, Tryz.ntmps38
  go_wp2
  go_region_o
  all_goals (go_wp2; go_ret; exact ⟨rfl, Below.drew (Below.refl B w)⟩)
theorem String_noroom (B b g : Nat) (p : Value) (cur : Array Value) (w : World) (hBw : B ≤ w.heap.size) (hbk : w.heap[b]? = some (.cells #[p, .slice (some ⟨g, 0, none⟩) 0 0] 82 (0, 0))) (fz : Nat × Nat) (hg : w.heap[g]? = some (.cells cur 5 fz)) :
    Calls Tryz.prog 38 #[.pointer (some ⟨b, 0, none⟩)] w fun e w' => e = .returned (.string ⟨#[]⟩) ∧ Below B w w' := by
  have hUS := unsafeString_none
  have hlt : b < w.heap.size := (Array.getElem?_eq_some_iff.1 hbk).1
  have c1 : w.drew.cell? ⟨b, 1, none⟩ = some (.slice (some ⟨g, 0, none⟩) 0 0) := by
    have : w.drew.heap[b]? = some (.cells #[p, .slice (some ⟨g, 0, none⟩) 0 0] 82 (0, 0)) := hbk
    rw [Lib.cell_of_heap this]; rfl
  have hSD : (Builtin.unsafeSliceData_ #[71] 121 #[.slice (some ⟨g, 0, none⟩) 0 0]).run Tryz.prog w.drew = .ok (.pointer (some ⟨w.drew.heap.size, 0, none⟩)) (w.drew.alloc (.view ⟨g, 0, none⟩ 5)) :=
    Lib.run_unsafeSliceData_zero w.drew _ _ 5 Tryz.underlying121 ⟨g, 0, none⟩ 0 (5, cur.size) (by have hg' : w.drew.heap[g]? = some (.cells cur 5 fz) := hg; simp [World.shape?, hg'])
  have c2 : (w.drew.alloc (.view ⟨g, 0, none⟩ 5)).cell? ⟨b, 1, none⟩ = some (.slice (some ⟨g, 0, none⟩) 0 0) := by
    have : (w.drew.alloc (.view ⟨g, 0, none⟩ 5)).heap[b]? = _ := (Lib.alloc_old w.drew _ b hlt).trans hbk
    rw [Lib.cell_of_heap this]; rfl
  have c3 : (w.alloc (.view ⟨g, 0, none⟩ 5)).drew.cell? ⟨b, 1, none⟩ = some (.slice (some ⟨g, 0, none⟩) 0 0) := c2
  have c0 : w.cell? ⟨b, 1, none⟩ = some (.slice (some ⟨g, 0, none⟩) 0 0) := c1
  have mixed : Tryz.prog.follows .mixedOrders = true := by kernel_rfl
  go_enter Tryz.func38, Tryz.ntmps38
  go_wp2
  go_region_o
  all_goals (go_wp2; go_ret; exact ⟨rfl, (Below.drew (Below.refl B w)).alloc hBw _⟩)
theorem String_room (B b g cap : Nat) (p : Value) (w : World) (hc0 : cap ≠ 0) (hbk : w.heap[b]? = some (.cells #[p, .slice (some ⟨g, 0, none⟩) 0 cap] 82 (0, 0))) :
    Calls Tryz.prog 38 #[.pointer (some ⟨b, 0, none⟩)] w fun e w' => e = .returned (.string ⟨#[]⟩) ∧ Below B w w' := by
  have hUS := unsafeString_none
  have c1 : w.drew.cell? ⟨b, 1, none⟩ = some (.slice (some ⟨g, 0, none⟩) 0 cap) := by
    have : w.drew.heap[b]? = some (.cells #[p, .slice (some ⟨g, 0, none⟩) 0 cap] 82 (0, 0)) := hbk
    rw [Lib.cell_of_heap this]; rfl
  have hSD : (Builtin.unsafeSliceData_ #[71] 121 #[.slice (some ⟨g, 0, none⟩) 0 cap]).run Tryz.prog w.drew = .ok (.pointer (some ⟨g, 0, none⟩)) w.drew :=
    Lib.run_unsafeSliceData_row _ _ _ _ _ _ hc0
  clear hc0
  have mixed : Tryz.prog.follows .mixedOrders = true := by kernel_rfl
  go_enter Tryz.func38, Tryz.ntmps38
  go_wp2
  go_region_o
  all_goals (go_wp2; go_ret; exact ⟨rfl, Below.drew (Below.refl B w)⟩)
theorem String_any (B b : Nat) (l : List UInt8) (w : World) (h : BuF B b (Lib.byteCells l) w) (hBw : B ≤ w.heap.size) :
    Calls Tryz.prog 38 #[.pointer (some ⟨b, 0, none⟩)] w fun e w' => e = .returned (.string ⟨l.toArray⟩) ∧ Below B w w' := by
  cases l with
  | cons x r => exact String_k B b (x :: r) w h (by simp)
  | nil =>
    obtain ⟨p, hA⟩ : ∃ p, BuA B b p [] w := by
      rcases h with h | h
      · exact ⟨_, h⟩
      · exact ⟨_, h⟩
    obtain ⟨hB, v, hbk, hown, hne⟩ := hA
    rcases hown.2 with ⟨rfl, _⟩ | ⟨g, cap, cur, fz, rfl, hbg, hg, _, _, _, _, _⟩
    · exact String_nil B b p w hbk
    · by_cases hc0 : cap = 0
      · subst hc0
        exact String_noroom B b g p cur w hBw hbk fz hg
      · exact String_room B b g cap p w hc0 hbk
theorem BuF.new (w : World) (B : Nat) (h : B ≤ w.heap.size) : BuF B w.heap.size (Lib.byteCells []) (w.alloc (.cells #[.pointer none, .slice none 0 0] 82)) :=
  .inl ⟨h, .slice none 0 0, heap_alloc_new w _, ⟨rfl, .inl ⟨rfl, rfl⟩⟩, by simp [Value.ownBlock]⟩
end Go.Proofs.YtalaajbajgdglaaGreatDoor.Lx
namespace Go.Proofs.YtalaajbajgdglaaGreatDoor
open Go Go.RowKit Go.BigFrame
theorem Lx.BuA.ext {B b : Nat} {p : Value} {l : List Value} {w w' : World} (h : Lx.BuA B b p l w) (k : Ext w w') : Lx.BuA B b p l w' := by
  obtain ⟨hB, v, hb, hown, hne⟩ := h
  refine ⟨hB, v, k.block hb, ⟨hown.1, ?_⟩, hne⟩
  rcases hown.2 with hn | ⟨g, cap, cur, fz, hv, hbg, hg, rest⟩
  · exact .inl hn
  · exact .inr ⟨g, cap, cur, fz, hv, hbg, k.block hg, rest⟩
theorem Lx.BuF.ext {B b : Nat} {l : List Value} {w w' : World} (h : Lx.BuF B b l w) (k : Ext w w') : Lx.BuF B b l w' :=
  h.elim (fun x => .inl (Lx.BuA.ext x k)) (fun x => .inr (Lx.BuA.ext x k))
theorem meansL_len (l : List UInt8) (e : Nat) (x : List UInt8) (h : meansL l e = some x) : x.length ≤ 4 := by
  unfold meansL at h
  cases hn : namedL ((l.drop 1).take (e - 1)) with
  | some y =>
    rw [hn] at h
    cases h
    unfold namedL at hn
    repeat' split at hn
    all_goals (first | (cases hn; decide) | cases hn)
  | none =>
    rw [hn] at h
    dsimp only at h
    split at h
    · unfold codedL at h
      cases hc : codeL ((l.drop 2).take (e - 2)) with
      | none => rw [hc] at h; cases h
      | some n =>
        rw [hc] at h
        have e : (Utf8.encode (n : Int)).data.toList = x := Option.some.inj h
        rw [← e]
        exact (encode_len (n : Int)).2
    · cases h
theorem entityL_len (l : List UInt8) : (entityL l).1.length ≤ 4 := by
  unfold entityL
  dsimp only
  split
  · decide
  · split
    · exact meansL_len _ _ _ ‹_›
    · decide
theorem entityL_le (c : UInt8) (r : List UInt8) : (entityL (c :: r)).2 ≤ (c :: r).length := by
  unfold entityL
  dsimp only
  split
  · simp
  · rename_i h
    obtain ⟨k, e, h1, _⟩ := indexByte_some h
    have hk := (List.getElem?_eq_some_iff.1 h1).1
    rw [List.length_take] at hk
    rw [e]
    split
    · show k + 1 ≤ _; omega
    · simp
theorem decF_len : ∀ (f : Nat) (l : List UInt8), (decF f l).length ≤ 4 * l.length := by
  intro f
  induction f with
  | zero => intro l; simp [decF]
  | succ f ih =>
    intro l
    cases l with
    | nil => simp [decF]
    | cons c r =>
      rw [decF]
      split
      · have h1 := entityL_len (c :: r)
        have h2 := ih ((c :: r).drop (entityL (c :: r)).2)
        have h3 := entityL_pos (c :: r)
        rw [List.length_append]
        rw [List.length_drop] at h2
        simp only [List.length_cons] at h2 ⊢
        omega
      · have := ih r
        simp only [List.length_cons]
        omega
theorem decL_len (l : List UInt8) : (decL l).length ≤ 4 * l.length := decF_len _ l
theorem decL_all {l : List UInt8} (h : ∀ c ∈ l, c ≠ 38) : decL l = l := by
  have := decL_front h []
  rw [List.append_nil, decL_nil, List.append_nil] at this
  exact this
theorem decL_at {l : List UInt8} {k : Nat} (h : l[k]? = some 38) (hb : ∀ j x, j < k → l[j]? = some x → x ≠ 38) :
    decL l = l.take k ++ ((entityL (l.drop k)).1 ++ decL ((l.drop k).drop (entityL (l.drop k)).2)) := by
  obtain ⟨hk, e⟩ := List.getElem?_eq_some_iff.1 h
  have hd : l.drop k = 38 :: l.drop (k + 1) := by rw [List.drop_eq_getElem_cons hk, e]
  have h1 : l = l.take k ++ l.drop k := (List.take_append_drop k l).symm
  have hp : ∀ c ∈ l.take k, c ≠ 38 := by
    intro c hc
    obtain ⟨j, hj, ej⟩ := List.getElem_of_mem hc
    rw [List.length_take] at hj
    exact hb j c (by omega) (by rw [← ej, List.getElem_take]; exact List.getElem?_eq_getElem (by omega))
  have h2 := decL_front hp (l.drop k)
  rw [← h1] at h2
  rw [h2]
  conv => lhs; rw [hd, decL_amp]
  rw [← hd]
def strLen : Value → Nat
  | .string s => s.size
  | _ => 0
theorem pre_len {a b c : List UInt8} (h : a ++ b = c) : a.length ≤ c.length := by rw [← h, List.length_append]; omega
theorem Decode_any (s : ByteArray) (hs : s.size ≤ 100000000000) (w : World) (hl : LW w) : Calls Tryz.prog 55 #[.string s] w (RVal (.string (bs (decL (anewB s).data.toList))) w) := by
  have HA := qh (xanew_any s (by omega))
  have hts := anewB_size s
  obtain ⟨t, ht⟩ : ∃ t, anewB s = t := ⟨_, rfl⟩
  rw [ht] at HA hts ⊢
  obtain ⟨out, ho⟩ : ∃ out, decL t.data.toList = out := ⟨_, rfl⟩
  have hol : out.length ≤ 1600000000000 := by
    have := decL_len t.data.toList
    rw [ho] at this
    have e : t.data.toList.length = t.size := rfl
    omega
  rw [ho]
  have HOL := qh hol
  have HO := qh ho
  have HL := qh hl
  have HTS := qh (show t.size ≤ 400000000000 by omega)
  clear ht hts hs ho hol hl
  go_enter Tryz.func55, Tryz.ntmps55
  go_wp2_with (go_at_call 49; refine (HA.out _).mono ?_)
  rintro e w1 ⟨rfl, x1⟩
  have X1 := qh x1
  have BN := qh (Lx.BuF.new w1 w1.heap.size (Nat.le_refl _))
  have XA := qh ((Ext.refl w1).alloc (.cells #[.pointer none, .slice none 0 0] 82))
  clear x1
  go_upto_region 3 with fail
  obtain ⟨wA, hwA⟩ : ∃ wA : World, wA = w1.alloc (.cells #[.pointer none, .slice none 0 0] 82) := ⟨_, rfl⟩
  rw [← hwA] at BN XA ⊢
  clear hwA
  go_wp2_with fail
  go_loopw [0, 4, 5, 6] (fun sv _ _ _ wr => ∃ (r : ByteArray) (acc : List UInt8), sv = .string r ∧ r.size ≤ t.size ∧ acc ++ decL r.data.toList = out ∧ Lx.BuF w1.heap.size w1.heap.size (Lib.byteCells acc) wr ∧ Ext w1 wr) (fun sv _ _ _ _ => strLen sv)
  case atStart => exact ⟨t, [], rfl, Nat.le_refl _, HO.out, BN.out, XA.out⟩
  case round =>
    obtain ⟨r, acc, rfl, hrt, hacc, hbf, xr⟩ := hrel
    have HACC := qh hacc
    have HBF := qh hbf
    have XR := qh xr
    have HRT := qh hrt
    have hws := xr.size
    have HLA := qh (Nat.le_trans (pre_len hacc) HOL.out)
    clear hacc hbf xr hrt
    by_cases hz : r.size = 0
    · have e0 : (r.toList == ([] : List UInt8)) = true := etext_none hz
      have e1 : (r.toList != ([] : List UInt8)) = false := by simp [bne, e0]
      have hfin : acc = out := by
        have h := HACC.out
        rw [show r.data.toList = [] from List.eq_nil_of_length_eq_zero hz, decL_nil, List.append_nil] at h
        exact h
      subst hfin
      clear hz
      go_wp2_with (go_at_call 38; refine (Lx.String_any w1.heap.size w1.heap.size _ wr HBF.out hws).mono ?_)
      rintro e w2 ⟨rfl, x2⟩
      go_wp2_with fail
      go_ret
      exact ⟨rfl, X1.out.trans (Below.trans XR.out x2)⟩
    have e0 : (r.toList == ([] : List UInt8)) = false := etext_some hz
    have e1 : (r.toList != ([] : List UInt8)) = true := by simp [bne, e0]
    have HI := qh (IndexByte_any r 38 38 rfl)
    obtain ⟨z, hzz⟩ : ∃ z, Lib.indexByte r.data.toList 38 = z := ⟨_, rfl⟩
    rw [hzz] at HI
    have HZZ := qh hzz
    have HNZ := qh hz
    clear hzz hz
    by_cases hneg : z < 0
    · have hfin : acc ++ r.data.toList = out := by
        rw [← HACC.out, decL_all (indexByte_none (by rw [HZZ.out]; exact hneg))]
      have HFIN := qh hfin
      have hlen : acc.length + r.size ≤ 140737488355328 := by have := HLA.out; have := HRT.out; have := HTS.out; omega
      have HLN := qh hlen
      clear hfin hlen
      go_wp2_with (go_at_call 92; refine (HI.out _).mono ?_)
      rintro e w2 ⟨rfl, x2⟩
      have X2 := qh (XR.out.trans x2)
      have hs2 := X2.out.size
      have HB2 := qh (HBF.out.ext x2)
      clear x2
      go_wp2_with (go_at_call 93; refine (Lx.Write_any w1.heap.size w1.heap.size acc r out HFIN.out w2 HB2.out HLN.out hs2).mono ?_)
      rintro e w3 ⟨m3, rfl, _, hb3, x3, _⟩
      have X3 := qh (Below.trans X2.out x3)
      have hs3 := X3.out.size
      have HB3 := qh hb3
      clear x3 hb3
      go_wp2_with (go_at_call 38; refine (Lx.String_any w1.heap.size w1.heap.size out w3 HB3.out hs3).mono ?_)
      rintro e w4 ⟨rfl, x4⟩
      go_wp2_with fail
      go_ret
      exact ⟨rfl, X1.out.trans (Below.trans X3.out x4)⟩
    · obtain ⟨k, hk, hk38, hkb⟩ := indexByte_some (by rw [HZZ.out]; exact hneg)
      rw [HZZ.out] at hk
      subst hk
      have hkr : k < r.size := (List.getElem?_eq_some_iff.1 hk38).1
      have hat := decL_at hk38 hkb
      have hlen0 : r.data.toList.length = r.size := rfl
      obtain ⟨c, q, hcq⟩ : ∃ c q, r.data.toList.drop k = c :: q := by
        obtain ⟨h1, h2⟩ := List.getElem?_eq_some_iff.1 hk38
        exact ⟨_, _, List.drop_eq_getElem_cons h1⟩
      have hle : (entityL (r.data.toList.drop k)).2 ≤ r.size - k := by
        have h1 := entityL_le c q
        rw [← hcq, List.length_drop] at h1
        omega
      have hpos := entityL_pos (r.data.toList.drop k)
      have hx4 := entityL_len (r.data.toList.drop k)
      have hhead : (r.data.toList.drop k).head? = some 38 := by rw [List.head?_drop]; exact hk38
      have hcut : ∀ i j, r.extract i j = bs ((r.data.toList.drop i).take (j - i)) := fun i j => by
        have h := bs_cut r.data.toList i j
        rw [bs_list] at h; exact h
      have hp : (r.extract 0 k).data.toList = r.data.toList.take k := by rw [hcut, bs_data, List.drop_zero, Nat.sub_zero]
      have hd : (r.extract k r.size).data.toList = r.data.toList.drop k := by
        rw [hcut, bs_data]; exact List.take_of_length_le (by rw [List.length_drop]; omega)
      have hdz : (r.extract k r.size).size ≤ 1000000000000 := by
        show (r.extract k r.size).data.toList.length ≤ _
        rw [hd, List.length_drop]; have := HRT.out; have := HTS.out; omega
      have HENT := qh (fun W (hW : LW W) => (hd ▸ entity_any (r.extract k r.size) hdz (by rw [hd]; exact hhead) W hW : Calls Tryz.prog 94 #[.string (r.extract k r.size)] W (RTwo (.string (bs (entityL (r.data.toList.drop k)).1)) (.int .i64 (entityL (r.data.toList.drop k)).2) W)))
      obtain ⟨x, hx⟩ : ∃ x, (entityL (r.data.toList.drop k)).1 = x := ⟨_, rfl⟩
      obtain ⟨n, hn⟩ : ∃ n, (entityL (r.data.toList.drop k)).2 = n := ⟨_, rfl⟩
      rw [hx, hn] at HENT hat
      rw [hn] at hle hpos
      rw [hx] at hx4
      obtain ⟨acc1, ha1⟩ : ∃ a, acc ++ (r.extract 0 k).data.toList = a := ⟨_, rfl⟩
      obtain ⟨acc2, ha2⟩ : ∃ a, acc1 ++ (bs x).data.toList = a := ⟨_, rfl⟩
      have hnext : (r.extract (k + n) r.size).data.toList = (r.data.toList.drop k).drop n := by
        rw [hcut, bs_data, List.drop_drop]; exact List.take_of_length_le (by rw [List.length_drop]; omega)
      have hnz : (r.extract (k + n) r.size).size = r.size - (k + n) := by
        show (r.extract (k + n) r.size).data.toList.length = _
        rw [hnext, List.length_drop, List.length_drop]; omega
      have hacc2 : acc2 ++ decL (r.extract (k + n) r.size).data.toList = out := by
        rw [hnext, ← ha2, ← ha1, hp, bs_data, ← HACC.out, hat]; simp
      have HACC2 := qh hacc2
      have HNZ2 := qh hnz
      have HA1 := qh ha1
      have HA2 := qh ha2
      have hl1 : acc.length + (r.extract 0 k).size ≤ 140737488355328 := by
        have h1 : (r.extract 0 k).size = (r.data.toList.take k).length := by show (r.extract 0 k).data.toList.length = _; rw [hp]
        rw [h1, List.length_take]; have := HLA.out; have := HRT.out; have := HTS.out; omega
      have hl2 : acc1.length + (bs x).size ≤ 140737488355328 := by
        have h1 := pre_len hacc2
        have h2 := HOL.out
        have h3 : acc2.length = acc1.length + (bs x).size := by rw [← ha2, List.length_append]; rfl
        omega
      have HL1 := qh hl1
      have HL2 := qh hl2
      have kneg : decide ((k : Int) < 0) = false := decide_eq_false (by omega)
      have b1 : (0 : Int) ≤ (k : Int) := by omega
      have b2 : (k : Int) ≤ (r.size : Int) := by omega
      have hwk : IntKind.i64.wrap ((k : Int) + (n : Int)) = (k : Int) + (n : Int) := IntWalk.i64_in _ (by have := HRT.out; have := HTS.out; omega)
      have b3 : (0 : Int) ≤ (k : Int) + (n : Int) := by omega
      have b4 : (k : Int) + (n : Int) ≤ (r.size : Int) := by omega
      have hkn : ((k : Int) + (n : Int)).toNat = k + n := by omega
      have HPN := qh (And.intro hpos (And.intro hle hkr))
      clear hneg hk38 hkb hat hlen0 hcq hle hpos hx4 hhead hcut hp hd hdz hx hn ha1 ha2 hnext hnz hacc2 hl1 hl2 hkr
      go_wp2_with (go_at_call 92; refine (HI.out _).mono ?_)
      rintro e w2 ⟨rfl, x2⟩
      have X2 := qh (XR.out.trans x2)
      have hs2 := X2.out.size
      have HB2 := qh (HBF.out.ext x2)
      clear x2
      go_wp2_with (go_at_call 93; refine (Lx.Write_any w1.heap.size w1.heap.size acc (r.extract 0 k) acc1 HA1.out w2 HB2.out HL1.out hs2).mono ?_)
      rintro e w3 ⟨m3, rfl, _, hb3, x3, _⟩
      have X3 := qh (Below.trans X2.out x3)
      have HB3 := qh hb3
      clear x3 hb3
      go_wp2_with (go_at_call 94; refine (HENT.out _ (HL.out.ext (X1.out.trans X3.out))).mono ?_)
      rintro e w4 ⟨rfl, x4⟩
      have X4 := qh (Ext.trans (b := w3) X3.out x4)
      have hs4 := X4.out.size
      have HB4 := qh (HB3.out.ext x4)
      clear x4
      go_wp2_with (go_at_call 93; refine (Lx.Write_any w1.heap.size w1.heap.size acc1 (bs x) acc2 HA2.out w4 HB4.out HL2.out hs4).mono ?_)
      rintro e w5 ⟨m5, rfl, _, hb5, x5, _⟩
      have X5 := qh (Below.trans X4.out x5)
      have HB5 := qh hb5
      clear x5 hb5
      go_wp2_with fail
      go_roundw
      case rel => exact ⟨r.extract (k + n) r.size, acc2, by first | rfl | rw [hkn], by rw [HNZ2.out]; have := HRT.out; omega, HACC2.out, HB5.out, X5.out⟩
      case measure => simp only [strLen]; rw [HNZ2.out]; have := HPN.out; omega
def refN (base most : Nat) (l : List UInt8) : Int := match codeN base most l with | some n => n | none => -1
end Go.Proofs.YtalaajbajgdglaaGreatDoor
namespace Go.Proofs.YtalaajbajgdglaaGreatDoor
open Go
def nm0 : List UInt8 := [38, 97, 109, 112, 59]
def nm1 : List UInt8 := [38, 108, 116, 59]
def nm2 : List UInt8 := [38, 103, 116, 59]
def nm3 : List UInt8 := [38, 113, 117, 111, 116, 59]
def nm4 : List UInt8 := [38, 97, 112, 111, 115, 59]
def nm5 : List UInt8 := [38, 110, 98, 115, 112, 59]
def namesR : List (List UInt8 × List UInt8) := [(nm0, [38]), (nm1, [60]), (nm2, [62]), (nm3, [34]), (nm4, [39]), (nm5, [194, 160])]
def nameStep (r : List UInt8) (xk : List UInt8 × Nat) (nm : List UInt8 × List UInt8) : List UInt8 × Nat := if r.take nm.1.length = nm.1 then (nm.2, nm.1.length) else xk
def scanE : Nat → List UInt8 → Nat
  | 0, _ => 0
  | f + 1, [] => 0
  | f + 1, c :: r => if c = 59 then 0 else scanE f r + 1
def numR (p : List UInt8) (m : Nat) : Int := if p.head? = some 120 then refN 16 6 ((p.drop 1).take (m - 1)) else refN 10 7 (p.take m)
def namedR (r : List UInt8) : List UInt8 × Nat := namesR.foldl (nameStep r) (r.take 1, 1)
def stepR (r : List UInt8) : List UInt8 × Nat :=
  if r.take 2 = [38, 35] ∧ (r.drop 2)[scanE 10 (r.drop 2)]? = some 59 ∧ 0 < numR (r.drop 2) (scanE 10 (r.drop 2)) then
    ((Utf8.encode (numR (r.drop 2) (scanE 10 (r.drop 2)))).data.toList, scanE 10 (r.drop 2) + 3)
  else namedR r
theorem entityL_name {l : List UInt8} {e : Nat} {x : List UInt8} (h1 : Lib.indexByte (l.take 12) 59 = (e : Int)) (h2 : namedL ((l.drop 1).take (e - 1)) = some x) : entityL l = (x, e + 1) := by
  unfold entityL
  dsimp only
  rw [h1, if_neg (by omega)]
  unfold meansL
  rw [Int.toNat_natCast, h2]
theorem named_hit (nm x q : List UInt8) (h : (nm, x) ∈ namesR) : entityL (nm ++ q) = (x, nm.length) ∧ stepR (nm ++ q) = (x, nm.length) := by
  simp only [namesR, List.mem_cons, Prod.mk.injEq, List.not_mem_nil, or_false] at h
  rcases h with ⟨rfl, rfl⟩ | ⟨rfl, rfl⟩ | ⟨rfl, rfl⟩ | ⟨rfl, rfl⟩ | ⟨rfl, rfl⟩ | ⟨rfl, rfl⟩
  · exact ⟨entityL_name (e := 4) (by simp [nm0, Lib.indexByte]) (by simp [nm0, namedL]), by simp [stepR, namedR, namesR, nameStep, nm0, nm1, nm2, nm3, nm4, nm5]⟩
  · exact ⟨entityL_name (e := 3) (by simp [nm1, Lib.indexByte]) (by simp [nm1, namedL]), by simp [stepR, namedR, namesR, nameStep, nm0, nm1, nm2, nm3, nm4, nm5]⟩
  · exact ⟨entityL_name (e := 3) (by simp [nm2, Lib.indexByte]) (by simp [nm2, namedL]), by simp [stepR, namedR, namesR, nameStep, nm0, nm1, nm2, nm3, nm4, nm5]⟩
  · exact ⟨entityL_name (e := 5) (by simp [nm3, Lib.indexByte]) (by simp [nm3, namedL]), by simp [stepR, namedR, namesR, nameStep, nm0, nm1, nm2, nm3, nm4, nm5]⟩
  · exact ⟨entityL_name (e := 5) (by simp [nm4, Lib.indexByte]) (by simp [nm4, namedL]), by simp [stepR, namedR, namesR, nameStep, nm0, nm1, nm2, nm3, nm4, nm5]⟩
  · exact ⟨entityL_name (e := 5) (by simp [nm5, Lib.indexByte]) (by simp [nm5, namedL]), by simp [stepR, namedR, namesR, nameStep, nm0, nm1, nm2, nm3, nm4, nm5]⟩
end Go.Proofs.YtalaajbajgdglaaGreatDoor
namespace Go.Proofs.YtalaajbajgdglaaGreatDoor
open Go Go.RowKit Go.BigFrame
end Go.Proofs.YtalaajbajgdglaaGreatDoor
namespace Go.Proofs.YtalaajbajgdglaaGreatDoor
open Go
theorem suf_drop (p : UInt8 → Bool) (l : List UInt8) : l.dropWhile p <:+ l := List.dropWhile_suffix p
theorem take_drop_while (p : UInt8 → Bool) (l : List UInt8) : l.takeWhile p ++ l.dropWhile p = l := List.takeWhile_append_dropWhile
def findEnd (t : List UInt8) : List UInt8 → List UInt8
  | [] => []
  | c :: q => if t.isPrefixOf (c :: q) then (c :: q).drop t.length else findEnd t q
theorem findEnd_suf (t : List UInt8) : ∀ l, findEnd t l <:+ l := by
  intro l
  induction l with
  | nil => exact List.suffix_refl _
  | cons c q ih =>
    unfold findEnd
    split
    · exact List.drop_suffix _ _
    · exact ih.trans (List.suffix_cons _ _)
theorem findEnd_index {t : List UInt8} (ht : t ≠ []) : ∀ l, findEnd t l = if Lib.index l t < 0 then [] else l.drop ((Lib.index l t).toNat + t.length) := by
  intro l
  induction l with
  | nil =>
    have : t.isEmpty = false := by cases t; exact absurd rfl ht; rfl
    simp [findEnd]
  | cons c q ih =>
    unfold findEnd Lib.index
    by_cases hp : t.isPrefixOf (c :: q) = true
    · rw [if_pos hp, if_pos hp]; simp
    · rw [if_neg hp, if_neg hp, ih]
      have hge := Lib.index_ge q t
      by_cases h1 : Lib.index q t < 0
      · have e : Lib.index q t = -1 := by omega
        rw [e]
        rfl
      · have e : (Lib.index q t == -1) = false := by rw [beq_eq_false_iff_ne]; omega
        rw [if_neg h1, e, if_neg (by decide : ¬ (false = true)), if_neg (by omega)]
        obtain ⟨k, hk⟩ : ∃ k : Nat, Lib.index q t = (k : Int) := ⟨(Lib.index q t).toNat, by omega⟩
        rw [hk, show ((k : Int) + 1).toNat + t.length = ((k : Int).toNat + t.length) + 1 by omega, List.drop_succ_cons]
def noteL (r : List UInt8) : Option (List UInt8) :=
  if [60, 33, 45, 45].isPrefixOf r then some (findEnd [45, 45, 62] (r.drop 4))
  else if [60, 33].isPrefixOf r || [60, 63].isPrefixOf r then some (findEnd [62] (r.drop 2)) else none
theorem noteL_suf {r e : List UInt8} (h : noteL r = some e) : e <:+ r ∧ e.length < r.length := by
  unfold noteL at h
  split at h
  · rename_i hp
    cases h
    have h1 := findEnd_suf [45, 45, 62] (r.drop 4)
    have h2 := List.drop_suffix 4 r
    have h3 := (List.isPrefixOf_iff_prefix.1 hp).length_le
    refine ⟨h1.trans h2, ?_⟩
    have h4 := h1.length_le
    rw [List.length_drop] at h4
    simp only [List.length_cons, List.length_nil] at h3
    omega
  · split at h
    · rename_i hp
      cases h
      have h1 := findEnd_suf [62] (r.drop 2)
      have h2 := List.drop_suffix 2 r
      have h3 : 2 ≤ r.length := by
        rw [Bool.or_eq_true] at hp
        rcases hp with hp | hp
        · exact (List.isPrefixOf_iff_prefix.1 hp).length_le
        · exact (List.isPrefixOf_iff_prefix.1 hp).length_le
      refine ⟨h1.trans h2, ?_⟩
      have h4 := h1.length_le
      rw [List.length_drop] at h4
      omega
    · cases h
def gapB (c : UInt8) : Bool := blankB c || c == 47
def nmB (c : UInt8) : Bool := !blankB c && c != 47 && c != 62 && c != 61
def valB (c : UInt8) : Bool := !blankB c && c != 62
def neB (q c : UInt8) : Bool := c != q
def valueL (r : List UInt8) : Option (List UInt8 × List UInt8) :=
  match r.dropWhile blankB with
  | [] => some ([], [])
  | q :: r2 => if q = 34 ∨ q = 39 then (match r2.dropWhile (neB q) with
      | [] => none
      | _ :: r3 => some (r2.takeWhile (neB q), r3))
    else some ((q :: r2).takeWhile valB, (q :: r2).dropWhile valB)
theorem valueL_suf {r v e : List UInt8} (h : valueL r = some (v, e)) : e <:+ r := by
  unfold valueL at h
  have h0 := suf_drop blankB r
  split at h
  · cases h; exact List.nil_suffix
  · rename_i q r2 hr
    rw [hr] at h0
    split at h
    · split at h
      · cases h
      · rename_i c r3 h3
        cases h
        have h1 := suf_drop (neB q) r2
        rw [h3] at h1
        exact (List.suffix_cons c _).trans (h1.trans ((List.suffix_cons q r2).trans h0))
    · cases h
      exact (suf_drop valB (q :: r2)).trans h0
abbrev Part := List UInt8 × List UInt8
def partL (c : UInt8) (r2 : List UInt8) : Option (Part × List UInt8) :=
  let r3 := r2.dropWhile nmB
  match r3.dropWhile blankB with
  | 61 :: r5 => (valueL r5).map fun ve => ((c :: r2.takeWhile nmB, ve.1), ve.2)
  | _ => some ((c :: r2.takeWhile nmB, []), r3)
theorem partL_suf {c : UInt8} {r2 e : List UInt8} {p : Part} (h : partL c r2 = some (p, e)) : e <:+ r2 := by
  unfold partL at h
  dsimp only at h
  have h0 := suf_drop nmB r2
  have h1 := suf_drop blankB (r2.dropWhile nmB)
  split at h
  · rename_i r5 h5
    rw [h5] at h1
    cases hv : valueL r5 with
    | none => rw [hv] at h; cases h
    | some ve =>
      rw [hv] at h
      have := valueL_suf (v := ve.1) (e := ve.2) hv
      cases h
      exact this.trans ((List.suffix_cons 61 r5).trans (h1.trans h0))
  · cases h
    exact h0
def partsF : Nat → List UInt8 → Option (List Part × Bool × List UInt8)
  | 0, _ => none
  | f + 1, r => match r.dropWhile gapB with
    | [] => none
    | c :: r2 => if c = 62 then some ([], (r.takeWhile gapB).getLast? == some 47, r2) else match partL c r2 with
      | none => none
      | some (p, e) => (partsF f e).map fun x => (p :: x.1, x.2)
def partsL (r : List UInt8) : Option (List Part × Bool × List UInt8) := partsF (r.length + 1) r
theorem partsF_more : ∀ (f : Nat) (r : List UInt8), r.length < f → partsF f r = partsL r := by
  intro f
  induction f using Nat.strongRecOn with
  | ind f ih =>
    intro r hl
    obtain ⟨g, rfl⟩ : ∃ g, f = g + 1 := ⟨f - 1, by omega⟩
    unfold partsL partsF
    have h0 := (suf_drop gapB r).length_le
    split
    · rfl
    · rename_i c r2 hr
      split
      · rfl
      · split
        · rfl
        · rename_i p e hp
          have h1 := (partL_suf hp).length_le
          rw [hr] at h0
          simp only [List.length_cons] at h0
          rw [ih g (by omega) e (by omega)]
          rcases Nat.lt_or_ge r.length g with h | h
          · rw [ih r.length (by omega) e (by omega)]
          · rw [ih r.length (by omega) e (by omega)]
theorem partsL_eq (r : List UInt8) : partsL r = match r.dropWhile gapB with
    | [] => none
    | c :: r2 => if c = 62 then some ([], (r.takeWhile gapB).getLast? == some 47, r2) else match partL c r2 with
      | none => none
      | some (p, e) => (partsL e).map fun x => (p :: x.1, x.2) := by
  conv => lhs; unfold partsL partsF
  have h0 := (suf_drop gapB r).length_le
  split
  · rfl
  · rename_i c r2 hr
    split
    · rfl
    · split
      · rfl
      · rename_i p e hp
        have h1 := (partL_suf hp).length_le
        rw [hr] at h0
        simp only [List.length_cons] at h0
        rw [partsF_more _ e (by omega)]
theorem partsL_suf : ∀ (n : Nat) (r : List UInt8) (x : List Part × Bool × List UInt8), r.length ≤ n → partsL r = some x → (62 :: x.2.2) <:+ r := by
  intro n
  induction n with
  | zero =>
    intro r x hl h
    obtain rfl : r = [] := List.eq_nil_of_length_eq_zero (by omega)
    cases h
  | succ n ih =>
    intro r x hl h
    rw [partsL_eq] at h
    have h0 := suf_drop gapB r
    split at h
    · cases h
    · rename_i c r2 hr
      rw [hr] at h0
      split at h
      · rename_i hc
        cases h
        rw [← hc]
        exact h0
      · split at h
        · cases h
        · rename_i p e hp
          cases hx : partsL e with
          | none => rw [hx] at h; cases h
          | some y =>
            rw [hx] at h
            have h1 := partL_suf hp
            have h2 := h1.length_le
            have h3 := h0.length_le
            simp only [List.length_cons] at h3
            have h4 := ih e y (by omega) hx
            cases h
            exact h4.trans (h1.trans ((List.suffix_cons c r2).trans h0))
abbrev AttrB := ByteArray × ByteArray
def decT (l : List UInt8) : List UInt8 := decL (anewB (bs l)).data.toList
def ownedF : List (List UInt8) → List Part → List AttrB
  | _, [] => []
  | seen, (n, v) :: l => (if nameOk (bs (n.map smallC)) && valueOk (bs (decT v)) && !(seen.contains (n.map smallC)) then [(bs (n.map smallC), bs (decT v))] else []) ++ ownedF (seen ++ [n.map smallC]) l
def ownedL (l : List Part) : List AttrB := ownedF [] l
theorem ownedF_len : ∀ (l : List Part) (seen : List (List UInt8)), (ownedF seen l).length ≤ l.length := by
  intro l
  induction l with
  | nil => intro _; exact Nat.le_refl _
  | cons p l ih =>
    intro seen
    obtain ⟨n, v⟩ := p
    have := ih (seen ++ [n.map smallC])
    rw [ownedF, List.length_append, List.length_cons]
    split
    · simp only [List.length_cons, List.length_nil]; omega
    · simp only [List.length_nil]; omega
structure Tk where
  kind : Int
  name : List UInt8
  text : List UInt8
  attrs : List AttrB
  self : Bool
  lo : Nat
  hi : Nat
def headP (p : UInt8 → Bool) : List UInt8 → Bool
  | [] => false
  | c :: _ => p c
def closeB (r : List UInt8) : Bool := headP (· == 47) (r.drop 1)
def tagR (r : List UInt8) : List UInt8 := if closeB r then r.drop 2 else r.drop 1
def tagN (r : List UInt8) : List UInt8 := ((tagR r).takeWhile alnumB).map smallC
def closeL (N : Nat) (r : List UInt8) : Option (Tk × List UInt8) := match ((tagR r).dropWhile alnumB).dropWhile (neB 62) with
  | [] => none
  | _ :: e => some (⟨3, tagN r, [], [], false, N - r.length, N - e.length⟩, e)
def openL (N : Nat) (r : List UInt8) : Option (Tk × List UInt8) := (partsL ((tagR r).dropWhile alnumB)).map fun x => (⟨2, tagN r, [], ownedL x.1, x.2.1, N - r.length, N - x.2.2.length⟩, x.2.2)
def tagL (N : Nat) (r : List UInt8) : Option (Tk × List UInt8) := if headP letterB (tagR r) then (if closeB r then closeL N r else openL N r) else none
theorem tagR_suf (r : List UInt8) : tagR r <:+ r.drop 1 := by
  unfold tagR
  split
  · have : r.drop 2 = (r.drop 1).drop 1 := by rw [List.drop_drop]
    rw [this]; exact List.drop_suffix _ _
  · exact List.suffix_refl _
theorem neB_head {q c : UInt8} {l r : List UInt8} (h : l.dropWhile (neB q) = c :: r) : c = q := by
  have := List.head?_dropWhile_not (neB q) l
  rw [h] at this
  simpa [neB] using this
theorem tagL_suf {N : Nat} {r e : List UInt8} {t : Tk} (h : tagL N r = some (t, e)) : (62 :: e) <:+ r.drop 1 := by
  unfold tagL at h
  have h1 := (suf_drop alnumB (tagR r)).trans (tagR_suf r)
  by_cases h0 : headP letterB (tagR r) = true
  · rw [if_pos h0] at h
    by_cases hc : closeB r = true
    · rw [if_pos hc] at h
      unfold closeL at h
      have h4 := suf_drop (neB 62) ((tagR r).dropWhile alnumB)
      split at h
      · cases h
      · rename_i c e' he
        have hc := neB_head he
        subst hc
        cases h
        rw [he] at h4
        exact h4.trans h1
    · rw [if_neg hc] at h
      unfold openL at h
      cases hx : partsL ((tagR r).dropWhile alnumB) with
      | none => rw [hx] at h; cases h
      | some x =>
        rw [hx] at h
        have h2 := partsL_suf _ _ x (Nat.le_refl _) hx
        cases h
        exact h2.trans h1
  · rw [if_neg h0] at h
    cases h
theorem tagL_len {N : Nat} {r e : List UInt8} {t : Tk} (h : tagL N r = some (t, e)) : e <:+ r ∧ e.length < r.length := by
  have h1 := tagL_suf h
  have h2 := List.drop_suffix 1 r
  have h3 := h1.length_le
  simp only [List.length_cons, List.length_drop] at h3
  exact ⟨(List.suffix_cons 62 e).trans (h1.trans h2), by omega⟩
def flushT (raw : List UInt8) (a b : Nat) : List Tk := if raw = [] then [] else [⟨1, [], raw, [], false, a, b⟩]
def lexF (N : Nat) : Nat → List UInt8 → Nat → Nat → List UInt8 → List Tk
  | 0, raw, a, b, _ => flushT raw a b
  | f + 1, raw, a, b, [] => flushT raw a b
  | f + 1, raw, a, b, c :: q => if c = 60 then (match noteL (c :: q) with
      | some e => lexF N f raw a b e
      | none => match tagL N (c :: q) with
        | some (t, e) => flushT raw a b ++ t :: lexF N f [] a b e
        | none => lexF N f (raw ++ [c]) (if raw = [] then N - (q.length + 1) else a) (N - q.length) q)
    else lexF N f (raw ++ [c]) (if raw = [] then N - (q.length + 1) else a) (N - q.length) q
def lexL (N : Nat) (raw : List UInt8) (a b : Nat) (r : List UInt8) : List Tk := lexF N r.length raw a b r
theorem lexF_more (N : Nat) : ∀ (f : Nat) (raw : List UInt8) (a b : Nat) (r : List UInt8), r.length ≤ f → lexF N f raw a b r = lexL N raw a b r := by
  intro f
  induction f using Nat.strongRecOn with
  | ind f ih =>
    intro raw a b r hl
    unfold lexL
    cases r with
    | nil => cases f <;> rfl
    | cons c q =>
      simp only [List.length_cons] at hl ⊢
      obtain ⟨g, rfl⟩ : ∃ g, f = g + 1 := ⟨f - 1, by omega⟩
      unfold lexF
      have hq : ∀ raw' a' b', lexF N g raw' a' b' q = lexF N q.length raw' a' b' q := fun raw' a' b' => by
        rw [ih g (by omega) _ _ _ q (by omega)]; rfl
      have hs : ∀ raw' a' b' e, e.length ≤ q.length → lexF N g raw' a' b' e = lexF N q.length raw' a' b' e := fun raw' a' b' e he => by
        rw [ih g (by omega) _ _ _ e (by omega)]
        rcases Nat.lt_or_ge q.length (g + 1) with h | h
        · rw [ih q.length h _ _ _ e he]
        · omega
      split
      · split
        · rename_i e hn
          have := (noteL_suf hn).2
          simp only [List.length_cons] at this
          exact hs _ _ _ _ (by omega)
        · split
          · rename_i t e ht
            have := (tagL_len ht).2
            simp only [List.length_cons] at this
            rw [hs _ _ _ e (by omega)]
          · exact hq _ _ _
      · exact hq _ _ _
theorem lexL_nil (N : Nat) (raw : List UInt8) (a b : Nat) : lexL N raw a b [] = flushT raw a b := rfl
theorem lexL_char {N : Nat} {raw : List UInt8} {a b : Nat} {c : UInt8} {q : List UInt8} (h : c ≠ 60 ∨ noteL (c :: q) = none ∧ tagL N (c :: q) = none) :
    lexL N raw a b (c :: q) = lexL N (raw ++ [c]) (if raw = [] then N - (q.length + 1) else a) (N - q.length) q := by
  show lexF N (q.length + 1) raw a b (c :: q) = _
  unfold lexF
  rcases h with h | ⟨h1, h2⟩
  · rw [if_neg h]; rfl
  · rw [h1, h2]
    split <;> rfl
theorem lexL_note {N : Nat} {raw : List UInt8} {a b : Nat} {q e : List UInt8} (h : noteL (60 :: q) = some e) : lexL N raw a b (60 :: q) = lexL N raw a b e := by
  show lexF N (q.length + 1) raw a b (60 :: q) = _
  unfold lexF
  rw [h, if_pos rfl]
  have := (noteL_suf h).2
  simp only [List.length_cons] at this
  exact lexF_more N q.length raw a b e (by omega)
theorem lexL_tag {N : Nat} {raw : List UInt8} {a b : Nat} {q e : List UInt8} {t : Tk} (h : noteL (60 :: q) = none) (ht : tagL N (60 :: q) = some (t, e)) : lexL N raw a b (60 :: q) = flushT raw a b ++ t :: lexL N [] a b e := by
  show lexF N (q.length + 1) raw a b (60 :: q) = _
  unfold lexF
  rw [h, ht, if_pos rfl]
  have := (tagL_len ht).2
  simp only [List.length_cons] at this
  rw [← lexF_more N q.length [] a b e (by omega)]
theorem lexL_run {N : Nat} : ∀ (p : List UInt8) (raw : List UInt8) (a b : Nat) (r : List UInt8), p ≠ [] → (∀ c ∈ p, c ≠ 60) → lexL N raw a b (p ++ r) = lexL N (raw ++ p) (if raw = [] then N - (p ++ r).length else a) (N - r.length) r := by
  intro p
  induction p with
  | nil => intro _ _ _ _ h; exact absurd rfl h
  | cons c q ih =>
    intro raw a b r _ hc
    rw [List.cons_append, lexL_char (.inl (hc c (by simp)))]
    cases q with
    | nil => rfl
    | cons d q =>
      rw [ih _ _ _ _ (by simp) fun x hx => hc x (by simp [hx])]
      have hne : raw ++ [c] ≠ [] := by simp
      rw [if_neg hne]
      simp
def Tk.fin (t : Tk) : Tk := if t.kind = 1 then { t with text := decT t.text } else t
def tokens (l : List UInt8) : List Tk := (lexL l.length [] 0 0 l).map Tk.fin
end Go.Proofs.YtalaajbajgdglaaGreatDoor
namespace Go.Proofs.YtalaajbajgdglaaGreatDoor
open Go Go.RowKit Go.BigFrame
structure Mv (S : Nat → Prop) (w w' : World) : Prop where
  os : w'.os = w.os
  tape : w'.tape = w.tape
  output : w'.output = w.output
  size : w.heap.size ≤ w'.heap.size
  rest : ∀ b, b < w.heap.size → ¬ S b → w'.heap[b]? = w.heap[b]?
theorem Mv.ofExt {S : Nat → Prop} {w w' : World} (h : Ext w w') : Mv S w w' := ⟨Below.os h, Below.tape h, Below.output h, Ext.size h, fun b hb _ => Below.block h b hb⟩
theorem Mv.refl (S : Nat → Prop) (w : World) : Mv S w w := Mv.ofExt (Ext.refl w)
theorem Mv.trans {S : Nat → Prop} {a b c : World} (h : Mv S a b) (k : Mv S b c) : Mv S a c :=
  ⟨k.os.trans h.os, k.tape.trans h.tape, k.output.trans h.output, Nat.le_trans h.size k.size, fun x hx hn => (k.rest x (Nat.lt_of_lt_of_le hx h.size) hn).trans (h.rest x hx hn)⟩
theorem Mv.ext {S : Nat → Prop} {a b c : World} (h : Mv S a b) (k : Ext b c) : Mv S a c := h.trans (Mv.ofExt k)
theorem Mv.after {S : Nat → Prop} {a b c : World} (h : Ext a b) (k : Mv S b c) : Mv S a c := (Mv.ofExt h).trans k
theorem Mv.imp {S S' : Nat → Prop} {a b : World} (h : Mv S a b) (k : ∀ x, x < a.heap.size → S x → S' x) : Mv S' a b := ⟨h.os, h.tape, h.output, h.size, fun x hx hn => h.rest x hx fun hs => hn (k x hx hs)⟩
theorem Mv.block {S : Nat → Prop} {w w' : World} (h : Mv S w w') {b : Nat} {x : Obj} (hb : w.heap[b]? = some x) (hn : ¬ S b) : w'.heap[b]? = some x := (h.rest b (Array.getElem?_eq_some_iff.1 hb).1 hn).trans hb
theorem Mv.setCell {S : Nat → Prop} {a b : World} (h : Mv S a b) {p : Addr} (hp : p.block < a.heap.size → S p.block) (u : Value) : Mv S a (b.setCell p u) :=
  ⟨h.os, h.tape, h.output, by have := h.size; simpa [World.setCell] using this, fun x hx hn => by
    have hne : x ≠ p.block := fun e => hn (by rw [e]; exact hp (e ▸ hx))
    exact (heap_setCell_other u hne).trans (h.rest x hx hn)⟩
theorem Mv.setRb {rb o : Nat} {a b : World} (h : Mv (· = rb) a b) (u : Value) : Mv (· = rb) a (b.setCell ⟨rb, o, none⟩ u) := h.setCell (p := ⟨rb, o, none⟩) (fun _ => rfl) u
theorem Mv.toExt {S : Nat → Prop} {w0 w w' : World} (h0 : Ext w0 w) (h : Mv S w w') (hS : ∀ b, S b → w0.heap.size ≤ b) : Ext w0 w' :=
  ⟨h.os.trans (Below.os h0), h.tape.trans (Below.tape h0), h.output.trans (Below.output h0), Nat.le_trans (Ext.size h0) h.size,
   fun b hb => (h.rest b (Nat.lt_of_lt_of_le hb (Ext.size h0)) fun hs => absurd (hS b hs) (by omega)).trans (Below.block h0 b hb)⟩
theorem Mv.cell {S : Nat → Prop} {w w' : World} (h : Mv S w w') {b o : Nat} {v : Value} (hc : w.cell? ⟨b, o, none⟩ = some v) (hn : ¬ S b) : w'.cell? ⟨b, o, none⟩ = some v := by
  have := h.rest b (cell_lt hc) hn
  unfold World.cell? at hc ⊢
  simp only at hc ⊢
  rw [this]; exact hc
def Rd (rb : Nat) (s : ByteArray) (r : List UInt8) (w : World) : Prop :=
  ∃ k : Nat, k + r.length = s.size ∧ r = s.data.toList.drop k ∧ w.heap[rb]? = some (.cells #[.string s, .int .i64 (k : Int)] 107 (0, 0))
theorem Rd.ext {rb : Nat} {s : ByteArray} {r : List UInt8} {w w' : World} (h : Rd rb s r w) (x : Ext w w') : Rd rb s r w' := by
  obtain ⟨k, h1, h2, h3⟩ := h
  exact ⟨k, h1, h2, x.block h3⟩
theorem Rd.lt {rb : Nat} {s : ByteArray} {r : List UInt8} {w : World} (h : Rd rb s r w) : rb < w.heap.size := by
  obtain ⟨k, h1, h2, h3⟩ := h
  exact (Array.getElem?_eq_some_iff.1 h3).1
theorem Rd.head {s : ByteArray} {k : Nat} {c : UInt8} {q : List UInt8} (h1 : k + (c :: q).length = s.size) (h2 : c :: q = s.data.toList.drop k) : ∃ hk : k < s.size, s[k]'hk = c ∧ q = s.data.toList.drop (k + 1) ∧ k + 1 + q.length = s.size := by
  simp only [List.length_cons] at h1
  have hk : k < s.size := by omega
  have hk2 : k < s.data.toList.length := hk
  rw [List.drop_eq_getElem_cons hk2] at h2
  obtain ⟨e1, e2⟩ := List.cons.inj h2
  exact ⟨hk, e1.symm, e2, by omega⟩
def IsP (rb : Nat) (p : UInt8 → Bool) (fv : Value) (w : World) : Prop :=
  ∃ (g : Nat) (lb : Array Value), fv = .func (.func g) #[] lb ∧ (∀ args w, (callFunc g args).run Tryz.prog w = .ok (.enter g args) w) ∧
    ∀ (W : World) (c : UInt8), Mv (· = rb) w W → Calls Tryz.prog g (#[.int .u8 (c.toNat : Int)] ++ lb) W (RBool (p c) W)
theorem IsP.later {rb : Nat} {p : UInt8 → Bool} {fv : Value} {w w' : World} (h : IsP rb p fv w) (k : Mv (· = rb) w w') : IsP rb p fv w' := by
  obtain ⟨g, lb, h1, h2, h3⟩ := h
  exact ⟨g, lb, h1, h2, fun W c hW => h3 W c (k.trans hW)⟩
theorem more_any (rb : Nat) (s : ByteArray) (r : List UInt8) (p : UInt8 → Bool) (fv : Value) (w : World) (hs : s.size ≤ 100000000000) (hr : Rd rb s r w) (hp : IsP rb p fv w) :
    Calls Tryz.prog 83 #[.pointer (some ⟨rb, 0, none⟩), fv] w (RBool (headP p r) w) := by
  obtain ⟨k, h1, h2, h3⟩ := hr
  obtain ⟨g, lb, rfl, eg, hp⟩ := hp
  have c0 : ∀ u : ExtOf w, u.val.cell? ⟨rb, 0, none⟩ = some (.string s) := fun u => u.ext.cell (cellOf h3 rfl)
  have c1 : ∀ u : ExtOf w, u.val.cell? ⟨rb, 1, none⟩ = some (.int .i64 k) := fun u => u.ext.cell (cellOf h3 rfl)
  cases r with
  | nil =>
    have hlt : decide ((k : Int) < (s.size : Int)) = false := decide_eq_false (by simp at h1; omega)
    have hltn : decide (k < s.size) = false := decide_eq_false (by simp at h1; omega)
    clear h1 h2 h3 hs hp
    go_enter Tryz.func83, Tryz.ntmps83
    go_upto_region 1 with fail
    refine wp_region_ext (by kernel_rfl) (by kernel_rfl) ?_
    repeat (go_big_quiet_step (fail))
    refine wpQuiet_nil ?_
    rintro _ ⟨u, rfl⟩
    go_wp2_with fail
    go_ret
    exact ⟨rfl, u.ext⟩
  | cons c q =>
    obtain ⟨hk, e, _, _⟩ := Rd.head h1 h2
    have hix : ∀ W : World, (Instr.index 9 (.string s) (.int .i64 (k : Int))).run Tryz.prog W = .ok (.int .u8 (c.toNat : Int)) W := by
      intro W
      rw [run_index_string W 9 s .i64 (k : Int) Tryz.underlying9, dif_pos ⟨by omega, by omega⟩]
      simp only [Int.toNat_natCast, e]
    have hlt : decide ((k : Int) < (s.size : Int)) = true := decide_eq_true (by omega)
    have hltn : decide (k < s.size) = true := decide_eq_true hk
    have HP := qh (fun u : ExtOf w => inExt (u := u) (hp u.val c (Mv.ofExt u.ext)))
    clear h1 h2 h3 hs hp e
    show Calls Tryz.prog _ _ w (RBool (p c) w)
    obtain ⟨b, hb⟩ : ∃ b, p c = b := ⟨_, rfl⟩
    rw [hb] at HP ⊢
    clear hb hk
    go_enter Tryz.func83, Tryz.ntmps83
    go_upto_region 1 with fail
    refine wp_region_ext (by kernel_rfl) (by kernel_rfl) ?_
    repeat (go_big_quiet_step ((go_at_fn g; exact HP.out _)))
    refine wpQuiet_nil ?_
    rintro _ ⟨u, rfl⟩
    go_wp2_with fail
    go_ret
    exact ⟨rfl, u.ext⟩
theorem Rd.move {rb k : Nat} {s : ByteArray} {v : Value} {r : List UInt8} {w : World} (h : w.heap[rb]? = some (.cells #[.string s, v] 107 (0, 0))) (h1 : k + r.length = s.size) (h2 : r = s.data.toList.drop k) :
    Rd rb s r (w.setCell ⟨rb, 1, none⟩ (.int .i64 (k : Int))) :=
  ⟨k, h1, h2, heap_setCell_same h _⟩
def RRun (rb : Nat) (s : ByteArray) (p : UInt8 → Bool) (r : List UInt8) (w : World) (e : Ending) (w' : World) : Prop :=
  e = .returned (.string (bs (r.takeWhile p))) ∧ Mv (· = rb) w w' ∧ Rd rb s (r.dropWhile p) w'
theorem while_cut (p : UInt8 → Bool) (r : List UInt8) : r.take (r.length - (r.dropWhile p).length) = r.takeWhile p := by
  have h := take_drop_while p r
  have hl := congrArg List.length h
  rw [List.length_append] at hl
  conv => lhs; rw [← h]
  exact List.take_left' (by rw [h]; omega)
theorem run_any (rb : Nat) (s : ByteArray) (r : List UInt8) (p : UInt8 → Bool) (fv : Value) (w : World) (hs : s.size ≤ 100000000000) (hr : Rd rb s r w) (hp : IsP rb p fv w) :
    Calls Tryz.prog 51 #[.pointer (some ⟨rb, 0, none⟩), fv] w (RRun rb s p r w) := by
  have HR0 := qh hr
  obtain ⟨k0, h1, h2, h3⟩ := hr
  have c1 := cellOf h3 (i := 1) rfl
  have H1 := qh h1
  have H2 := qh h2
  have HP := qh hp
  clear h1 h2 h3 hp
  go_enter Tryz.func51, Tryz.ntmps51
  go_wp2_with fail
  clear c1
  go_loopg [] r.length (fun gf wr => ∃ r' : List UInt8, Rd rb s r' wr ∧ Mv (· = rb) w wr ∧ r'.dropWhile p = r.dropWhile p ∧ r'.length ≤ r.length ∧ r'.length ≤ gf)
  case atStart => exact ⟨r, HR0.out, Mv.refl _ _, rfl, Nat.le_refl _, Nat.le_refl _⟩
  case round =>
    obtain ⟨r', hr', hm, hd, hl, hg⟩ := hrel
    have HM := qh hm
    have HD := qh hd
    have HL := qh hl
    have HC := qh (more_any rb s r' p fv wr hs hr' (HP.out.later hm))
    obtain ⟨k, h1, h2, h3⟩ := hr'
    have HB := qh h3
    clear hm hd hl
    by_cases hh : headP p r' = true
    · rw [hh] at HC
      cases r' with
      | nil => cases hh
      | cons c q =>
        obtain ⟨hk, e, hq, hq1⟩ := Rd.head h1 h2
        obtain ⟨g', rfl⟩ : ∃ g', gk = g' + 1 := ⟨gk - 1, by simp at hg; omega⟩
        have HQ := qh (And.intro hq hq1)
        have HG := qh (show q.length ≤ g' by simp at hg; omega)
        have HHH := qh (show p c = true from hh)
        have hw1 : IntKind.i64.wrap ((k : Int) + 1) = (k : Int) + 1 := IntWalk.i64_in _ (by omega)
        clear h1 h2 h3 hq hq1 hg hh e
        go_wp2_with (go_at_call 83; refine HC.out.mono ?_)
        rintro e w1 ⟨rfl, x1⟩
        have hb1 := x1.block HB.out
        have c1 := cellOf hb1 (i := 1) rfl
        have f1 := freeOf hb1 1
        have HB1 := qh hb1
        have X1 := qh x1
        clear hb1 x1
        go_wp2_with fail
        go_roundg g'
        case measure => omega
        case rel =>
          refine ⟨q, Rd.move (k := k + 1) HB1.out HQ.out.2 HQ.out.1, Mv.setRb (HM.out.ext X1.out) _, ?_, ?_, HG.out⟩
          · rw [← HD.out, List.dropWhile_cons_of_pos HHH.out]
          · have := HL.out; simp at this; omega
    · rw [Bool.not_eq_true] at hh
      rw [hh] at HC
      have he : r' = r.dropWhile p := by
        rw [← HD.out]
        cases r' with
        | nil => rfl
        | cons c q => exact (List.dropWhile_cons_of_neg (by simpa [headP] using hh)).symm
      have HE := qh he
      have HK := qh (And.intro h1 h2)
      have hk0 : k0 + r.length = s.size := H1.out
      have hle : r'.length ≤ r.length := HL.out
      have hcut : s.extract k0 k = bs (r.takeWhile p) := by
        have h := bs_cut s.data.toList k0 k
        rw [bs_list] at h
        rw [h, ← H2.out, ← while_cut p r, ← he]
        congr 2
        omega
      have HCUT := qh hcut
      have b1 : (0 : Int) ≤ (k0 : Int) := by omega
      have b2 : (k0 : Int) ≤ (k : Int) := by omega
      have b3 : (k : Int) ≤ (s.size : Int) := by omega
      generalize hE : s.extract k0 k = E at HCUT hcut
      clear h1 h2 h3 hg hh hcut he hk0 hle
      go_wp2_with (go_at_call 83; refine HC.out.mono ?_)
      rintro e w1 ⟨rfl, x1⟩
      have hb1 := x1.block HB.out
      have c0 : ∀ u : ExtOf w1, u.val.cell? ⟨rb, 0, none⟩ = some (.string s) := fun u => u.ext.cell (cellOf hb1 rfl)
      have c1 : ∀ u : ExtOf w1, u.val.cell? ⟨rb, 1, none⟩ = some (.int .i64 k) := fun u => u.ext.cell (cellOf hb1 rfl)
      have X1 := qh x1
      clear hb1 x1
      go_upto_region 4 with fail
      refine wp_region_ext (by kernel_rfl) (by kernel_rfl) ?_
      repeat (go_big_quiet_step (fail))
      refine wpQuiet_nil ?_
      rintro _ ⟨u, rfl⟩
      go_wp2_with fail
      go_ret
      refine ⟨?_, (HM.out.ext X1.out).ext u.ext, ?_⟩
      · rw [HCUT.out]; rfl
      · rw [← HE.out]
        exact Rd.ext (Rd.ext ⟨k, HK.out.1, HK.out.2, HB.out⟩ X1.out) u.ext
theorem u8_eq (c q : UInt8) : ((c.toNat : Int) == (q.toNat : Int)) = (c == q) := by
  rw [Bool.eq_iff_iff, beq_iff_eq, beq_iff_eq]
  constructor
  · intro h; exact UInt8.toNat_inj.1 (by omega)
  · rintro rfl; rfl
theorem u8_ne (c q : UInt8) : ((c.toNat : Int) != (q.toNat : Int)) = (c != q) := by simp only [bne, u8_eq]
theorem oneP_any (c q : UInt8) (b : Nat) (w : World) (hb : w.cell? ⟨b, 0, none⟩ = some (.int .u8 (q.toNat : Int))) : Calls Tryz.prog 126 #[.int .u8 (c.toNat : Int), .pointer (some ⟨b, 0, none⟩)] w (RBool (c == q) w) := by
  have x := Ext.refl w
  obtain ⟨z, hz⟩ : ∃ z, (c == q) = z := ⟨_, rfl⟩
  have e := (u8_eq c q).trans hz
  rw [hz]
  clear hz
  go_enter Tryz.func126, Tryz.ntmps126
  go_wp2
  go_ret
  exact ⟨by first | rfl | rw [e], x⟩
theorem valueP_any (c q : UInt8) (b : Nat) (w : World) (hb : w.cell? ⟨b, 0, none⟩ = some (.int .u8 (q.toNat : Int))) : Calls Tryz.prog 163 #[.int .u8 (c.toNat : Int), .pointer (some ⟨b, 0, none⟩)] w (RBool (neB q c) w) := by
  have x := Ext.refl w
  obtain ⟨z, hz⟩ : ∃ z, neB q c = z := ⟨_, rfl⟩
  have e := (u8_ne c q).trans hz
  rw [hz]
  clear hz
  go_enter Tryz.func163, Tryz.ntmps163
  go_wp2
  go_ret
  exact ⟨by first | rfl | rw [e], x⟩
theorem tagP_any (c : UInt8) (w : World) : Calls Tryz.prog 89 #[.int .u8 (c.toNat : Int)] w (RBool (neB 62 c) w) := by
  have x := Ext.refl w
  obtain ⟨z, hz⟩ : ∃ z, neB 62 c = z := ⟨_, rfl⟩
  have e : ((c.toNat : Int) != 62) = z := (u8_ne c 62).trans hz
  rw [hz]
  clear hz
  go_enter Tryz.func89, Tryz.ntmps89
  go_wp2
  go_ret
  exact ⟨by first | rfl | rw [e], x⟩
theorem allP_any (c : UInt8) (w : World) : Calls Tryz.prog 52 #[.int .u8 (c.toNat : Int)] w (RBool (neB 60 c) w) := by
  have x := Ext.refl w
  obtain ⟨z, hz⟩ : ∃ z, neB 60 c = z := ⟨_, rfl⟩
  have e : ((c.toNat : Int) != 60) = z := (u8_ne c 60).trans hz
  rw [hz]
  clear hz
  go_enter Tryz.func52, Tryz.ntmps52
  go_wp2
  go_ret
  exact ⟨by first | rfl | rw [e], x⟩
theorem nameP_any (c : UInt8) (w : World) : Calls Tryz.prog 128 #[.int .u8 (c.toNat : Int)] w (RBool (alnumB c) w) := by
  have HB := qh (xletter_any c w)
  cases hl : letterB c with
  | true =>
    have e : alnumB c = true := by unfold alnumB; rw [hl]; rfl
    rw [hl] at HB
    rw [e]
    clear e hl
    go_enter Tryz.func128, Tryz.ntmps128
    go_wp2_with (go_at_call 87; refine HB.out.mono ?_)
    rintro e w1 ⟨rfl, x1⟩
    go_wp2_with fail
    go_ret
    exact ⟨rfl, x1⟩
  | false =>
    have e : alnumB c = digitB c := by unfold alnumB; rw [hl]; rfl
    rw [hl] at HB
    rw [e]
    clear e hl
    have HD := qh (fun W => xdigit_any c W)
    obtain ⟨z, hz⟩ : ∃ z, digitB c = z := ⟨_, rfl⟩
    rw [hz] at HD ⊢
    clear hz
    go_enter Tryz.func128, Tryz.ntmps128
    go_wp2_with (go_at_call 87; refine HB.out.mono ?_)
    rintro e w1 ⟨rfl, x1⟩
    go_wp2_with (go_at_call 129; refine (HD.out _).mono ?_)
    rintro e w2 ⟨rfl, x2⟩
    go_wp2_with fail
    go_ret
    exact ⟨rfl, x1.trans x2⟩
theorem gapP_any (c : UInt8) (w : World) : Calls Tryz.prog 130 #[.int .u8 (c.toNat : Int)] w (RBool (gapB c) w) := by
  have HB := qh (xblank_any c w)
  cases hl : blankB c with
  | true =>
    have e : gapB c = true := by unfold gapB; rw [hl]; rfl
    rw [hl] at HB
    rw [e]
    clear e hl
    go_enter Tryz.func130, Tryz.ntmps130
    go_wp2_with (go_at_call 131; refine HB.out.mono ?_)
    rintro e w1 ⟨rfl, x1⟩
    go_wp2_with fail
    go_ret
    exact ⟨rfl, x1⟩
  | false =>
    have e : gapB c = (c == 47) := by unfold gapB; rw [hl]; rfl
    have e2 : ((c.toNat : Int) == 47) = (c == 47) := u8_eq c 47
    rw [hl] at HB
    rw [e]
    obtain ⟨z, hz⟩ : ∃ z, (c == 47) = z := ⟨_, rfl⟩
    rw [hz] at e2 ⊢
    clear hz e hl
    go_enter Tryz.func130, Tryz.ntmps130
    go_wp2_with (go_at_call 131; refine HB.out.mono ?_)
    rintro e w1 ⟨rfl, x1⟩
    go_wp2_with fail
    go_ret
    exact ⟨by first | rfl | rw [e2], x1⟩
theorem valP_any (c : UInt8) (w : World) : Calls Tryz.prog 164 #[.int .u8 (c.toNat : Int)] w (RBool (valB c) w) := by
  have HB := qh (xblank_any c w)
  cases hl : blankB c with
  | true =>
    have e : valB c = false := by unfold valB; rw [hl]; rfl
    rw [hl] at HB
    rw [e]
    clear e hl
    go_enter Tryz.func164, Tryz.ntmps164
    go_wp2_with (go_at_call 131; refine HB.out.mono ?_)
    rintro e w1 ⟨rfl, x1⟩
    go_wp2_with fail
    go_ret
    exact ⟨rfl, x1⟩
  | false =>
    have e : valB c = (c != 62) := by unfold valB; rw [hl]; rfl
    have e2 : ((c.toNat : Int) != 62) = (c != 62) := u8_ne c 62
    rw [hl] at HB
    rw [e]
    obtain ⟨z, hz⟩ : ∃ z, (c != 62) = z := ⟨_, rfl⟩
    rw [hz] at e2 ⊢
    clear hz e hl
    go_enter Tryz.func164, Tryz.ntmps164
    go_wp2_with (go_at_call 131; refine HB.out.mono ?_)
    rintro e w1 ⟨rfl, x1⟩
    go_wp2_with fail
    go_ret
    exact ⟨by first | rfl | rw [e2], x1⟩
theorem nmP_any (c : UInt8) (w : World) : Calls Tryz.prog 133 #[.int .u8 (c.toNat : Int)] w (RBool (nmB c) w) := by
  have HB := qh (xblank_any c w)
  have e47 : ((c.toNat : Int) != 47) = (c != 47) := u8_ne c 47
  have e62 : ((c.toNat : Int) != 62) = (c != 62) := u8_ne c 62
  have e61 : ((c.toNat : Int) != 61) = (c != 61) := u8_ne c 61
  have e : nmB c = (!blankB c && (c != 47) && (c != 62) && (c != 61)) := rfl
  obtain ⟨z1, h1⟩ : ∃ z, (c != 47) = z := ⟨_, rfl⟩
  obtain ⟨z2, h2⟩ : ∃ z, (c != 62) = z := ⟨_, rfl⟩
  obtain ⟨z3, h3⟩ : ∃ z, (c != 61) = z := ⟨_, rfl⟩
  obtain ⟨z0, h0⟩ : ∃ z, blankB c = z := ⟨_, rfl⟩
  rw [h1] at e47 e
  rw [h2] at e62 e
  rw [h3] at e61 e
  rw [h0] at HB e
  rw [e]
  clear h0 h1 h2 h3 e
  cases z0 <;> cases z1 <;> cases z2 <;> cases z3 <;>
    (go_enter Tryz.func133, Tryz.ntmps133
     go_wp2_with (go_at_call 131; refine HB.out.mono ?_)
     rintro e w1 ⟨rfl, x1⟩
     go_wp2_with fail
     go_ret
     exact ⟨by first | rfl | rw [e61], x1⟩)
theorem IsP.ofFn {rb g : Nat} {p : UInt8 → Bool} (eg : ∀ args w, (callFunc g args).run Tryz.prog w = .ok (.enter g args) w) (h : ∀ c w, Calls Tryz.prog g #[.int .u8 (c.toNat : Int)] w (RBool (p c) w)) (w : World) : IsP rb p (.func (.func g) #[] #[]) w :=
  ⟨g, #[], rfl, eg, fun W c _ => h c W⟩
theorem isBlank (rb : Nat) (w : World) : IsP rb blankB (.func (.func 131) #[] #[]) w := IsP.ofFn (enters_of Tryz.func131 (by kernel_rfl) rfl) (fun c w => xblank_any c w) w
theorem isLetter (rb : Nat) (w : World) : IsP rb letterB (.func (.func 87) #[] #[]) w := IsP.ofFn (enters_of Tryz.func87 (by kernel_rfl) rfl) (fun c w => xletter_any c w) w
theorem isAlnum (rb : Nat) (w : World) : IsP rb alnumB (.func (.func 128) #[] #[]) w := IsP.ofFn (enters_of Tryz.func128 (by kernel_rfl) rfl) (fun c w => nameP_any c w) w
theorem isGap (rb : Nat) (w : World) : IsP rb gapB (.func (.func 130) #[] #[]) w := IsP.ofFn (enters_of Tryz.func130 (by kernel_rfl) rfl) (fun c w => gapP_any c w) w
theorem isNm (rb : Nat) (w : World) : IsP rb nmB (.func (.func 133) #[] #[]) w := IsP.ofFn (enters_of Tryz.func133 (by kernel_rfl) rfl) (fun c w => nmP_any c w) w
theorem isVal (rb : Nat) (w : World) : IsP rb valB (.func (.func 164) #[] #[]) w := IsP.ofFn (enters_of Tryz.func164 (by kernel_rfl) rfl) (fun c w => valP_any c w) w
theorem isTag (rb : Nat) (w : World) : IsP rb (neB 62) (.func (.func 89) #[] #[]) w := IsP.ofFn (enters_of Tryz.func89 (by kernel_rfl) rfl) (fun c w => tagP_any c w) w
theorem isAll (rb : Nat) (w : World) : IsP rb (neB 60) (.func (.func 52) #[] #[]) w := IsP.ofFn (enters_of Tryz.func52 (by kernel_rfl) rfl) (fun c w => allP_any c w) w
theorem isOne {rb b : Nat} {q : UInt8} {w : World} (hb : w.cell? ⟨b, 0, none⟩ = some (.int .u8 (q.toNat : Int))) (hn : b ≠ rb) : IsP rb (· == q) (.func (.func 126) #[] #[.pointer (some ⟨b, 0, none⟩)]) w :=
  ⟨_, _, rfl, enters_of Tryz.func126 (by kernel_rfl) rfl, fun W c hW => oneP_any c q b W (hW.cell hb hn)⟩
theorem isQuote {rb b : Nat} {q : UInt8} {w : World} (hb : w.cell? ⟨b, 0, none⟩ = some (.int .u8 (q.toNat : Int))) (hn : b ≠ rb) : IsP rb (neB q) (.func (.func 163) #[] #[.pointer (some ⟨b, 0, none⟩)]) w :=
  ⟨_, _, rfl, enters_of Tryz.func163 (by kernel_rfl) rfl, fun W c hW => valueP_any c q b W (hW.cell hb hn)⟩
def oneL (q : UInt8) (r : List UInt8) : List UInt8 := if headP (· == q) r then r.tail else r
def ROne (rb : Nat) (s : ByteArray) (b : Bool) (r : List UInt8) (w : World) (e : Ending) (w' : World) : Prop := e = .returned (.bool b) ∧ Mv (· = rb) w w' ∧ Rd rb s r w'
theorem one_any (rb : Nat) (s : ByteArray) (r : List UInt8) (q : UInt8) (z : Int) (hz : z = (q.toNat : Int)) (w : World) (hs : s.size ≤ 100000000000) (hr : Rd rb s r w) :
    Calls Tryz.prog 86 #[.pointer (some ⟨rb, 0, none⟩), .int .u8 z] w (ROne rb s (headP (· == q) r) (oneL q r) w) := by
  subst hz
  have hlt := hr.lt
  have X0 := qh ((Ext.refl w).alloc (.cells #[.int .u8 (q.toNat : Int)] 5))
  have HC := qh (more_any rb s r (· == q) _ (w.alloc (.cells #[.int .u8 (q.toNat : Int)] 5)) hs (hr.ext X0.out) (isOne (b := w.heap.size) (cellOf (heap_alloc_new w _) rfl) (by omega)))
  have hmf : ∀ (fn : Fn) (first cap : Array Value) (w : World), (Instr.makeFunc fn first cap).run Tryz.prog w = .ok (.func fn first cap) w := fun _ _ _ _ => rfl
  have HR := qh (hr.ext X0.out)
  clear hr hlt
  cases hh : headP (· == q) r with
  | false =>
    have he : oneL q r = r := by unfold oneL; rw [hh]; rfl
    rw [hh] at HC
    rw [he]
    clear hh he
    go_enter Tryz.func86, Tryz.ntmps86
    go_wp2_with (go_at_call 83; refine HC.out.mono ?_)
    rintro e w1 ⟨rfl, x1⟩
    go_wp2_with fail
    go_ret
    exact ⟨rfl, Mv.ofExt (X0.out.trans x1), HR.out.ext x1⟩
  | true =>
    rw [hh] at HC
    cases r with
    | nil => cases hh
    | cons c t =>
      have he : oneL q (c :: t) = t := by unfold oneL; rw [hh]; rfl
      rw [he]
      obtain ⟨k, h1, h2, h3⟩ := HR.out
      obtain ⟨hk, _, hq, hq1⟩ := Rd.head h1 h2
      have HB := qh h3
      have HQ := qh (And.intro hq1 hq)
      have hw1 : IntKind.i64.wrap ((k : Int) + 1) = (k : Int) + 1 := IntWalk.i64_in _ (by omega)
      clear hh he h1 h2 h3 hq hq1
      go_enter Tryz.func86, Tryz.ntmps86
      go_wp2_with (go_at_call 83; refine HC.out.mono ?_)
      rintro e w1 ⟨rfl, x1⟩
      have hb1 := x1.block HB.out
      have c1 := cellOf hb1 (i := 1) rfl
      have f1 := freeOf hb1 1
      have HB1 := qh hb1
      have X1 := qh (X0.out.trans x1)
      clear hb1 x1
      go_wp2_with fail
      go_ret
      exact ⟨rfl, Mv.setRb (Mv.ofExt X1.out) _, Rd.move (k := k + 1) HB1.out HQ.out.1 HQ.out.2⟩
def RValue (rb : Nat) (s : ByteArray) (o : Option (List UInt8 × List UInt8)) (w : World) (e : Ending) (w' : World) : Prop :=
  match o with
  | some (v, t) => e = .returned (.tuple #[.string (bs v), .bool true]) ∧ Mv (· = rb) w w' ∧ Rd rb s t w'
  | none => ∃ x r', e = .returned (.tuple #[.string x, .bool false]) ∧ Mv (· = rb) w w' ∧ Rd rb s r' w'
theorem valueL_quote {r t : List UInt8} {q : UInt8} (h : r.dropWhile blankB = q :: t) (hq : q = 34 ∨ q = 39) : valueL r = match t.dropWhile (neB q) with
    | [] => none
    | _ :: r3 => some (t.takeWhile (neB q), r3) := by
  unfold valueL
  rw [h]
  dsimp only
  exact (if_pos hq).trans rfl
theorem valueL_bare {r : List UInt8} (h : headP (· == 34) (r.dropWhile blankB) = false) (h2 : headP (· == 39) (r.dropWhile blankB) = false) : valueL r = some ((r.dropWhile blankB).takeWhile valB, (r.dropWhile blankB).dropWhile valB) := by
  unfold valueL
  cases hr : r.dropWhile blankB with
  | nil => rfl
  | cons q t =>
    rw [hr] at h h2
    have e1 : (q == 34) = false := h
    have e2 : (q == 39) = false := h2
    dsimp only
    rw [if_neg]
    rintro (rfl | rfl)
    · exact absurd e1 (by decide)
    · exact absurd e2 (by decide)
def quoteN (k : Nat) : UInt8 := if k = 0 then 34 else 39
theorem value_any (rb : Nat) (s : ByteArray) (r : List UInt8) (w : World) (hs : s.size ≤ 100000000000) (hr : Rd rb s r w) :
    Calls Tryz.prog 134 #[.pointer (some ⟨rb, 0, none⟩)] w (RValue rb s (valueL r) w) := by
  have HS := qh hs
  have HRUN := qh (run_any rb s r blankB _ w hs hr (isBlank rb w))
  have hmf : ∀ (fn : Fn) (first cap : Array Value) (w : World), (Instr.makeFunc fn first cap).run Tryz.prog w = .ok (.func fn first cap) w := fun _ _ _ _ => rfl
  clear hr hs
  go_enter Tryz.func134, Tryz.ntmps134
  go_wp2_with (go_at_call 51; refine HRUN.out.mono ?_)
  rintro e w1 ⟨rfl, m1, r1⟩
  have M1 := qh m1
  have R1 := qh r1
  have XQ := qh ((Ext.refl w1).alloc (.cells #[.int .u8 34, .int .u8 39] 5))
  have HQB := qh (heap_alloc_new w1 (.cells #[.int .u8 34, .int .u8 39] 5))
  have hrb := r1.lt
  clear m1 r1
  go_wp2_with fail
  obtain ⟨wq, hwq⟩ : ∃ wq : World, wq = w1.alloc (.cells #[.int .u8 34, .int .u8 39] 5) := ⟨_, rfl⟩
  rw [← hwq] at XQ HQB ⊢
  clear hwq
  go_loopw [11] (fun i wr => ∃ k : Nat, k ≤ 2 ∧ i = .int .i64 k ∧ Rd rb s (r.dropWhile blankB) wr ∧ Mv (· = rb) wq wr ∧ ∀ j, j < k → headP (· == quoteN j) (r.dropWhile blankB) = false) (fun i _ => 2 - (intOf i).toNat)
  case atStart => exact ⟨0, Nat.zero_le _, rfl, R1.out.ext XQ.out, Mv.refl _ _, fun j hj => absurd hj (Nat.not_lt_zero _)⟩
  case round =>
    obtain ⟨k, hk, rfl, hr, hm, hno⟩ := hrel
    have HR := qh hr
    have HM := qh hm
    have HNO := qh hno
    have hgb := hm.block HQB.out (by omega)
    have hrb2 := hr.lt
    clear hr hno hm
    by_cases hlt : k < 2
    · obtain ⟨q, hq⟩ : ∃ q, quoteN k = q := ⟨_, rfl⟩
      have hcell : wr.cell? ⟨w1.heap.size, k, none⟩ = some (.int .u8 (q.toNat : Int)) := by
        refine cellOf hgb ?_
        rw [← hq]
        rcases (show k = 0 ∨ k = 1 by omega) with rfl | rfl <;> rfl
      have hq2 : q = 34 ∨ q = 39 := by
        rw [← hq]; unfold quoteN; split; exact .inl rfl; exact .inr rfl
      have HQ := qh hq
      have HQ2 := qh hq2
      have X0 := qh ((Ext.refl wr).alloc (.cells #[.int .u8 (q.toNat : Int)] 5))
      have hbox : (wr.alloc (.cells #[.int .u8 (q.toNat : Int)] 5)).cell? ⟨wr.heap.size, 0, none⟩ = some (.int .u8 (q.toNat : Int)) := cellOf (heap_alloc_new wr _) rfl
      have HBOX := qh hbox
      have HONE := qh (one_any rb s (r.dropWhile blankB) q (q.toNat : Int) rfl _ HS.out (HR.out.ext X0.out))
      have hbn : wr.heap.size ≠ rb := by omega
      clear hq hq2 hgb hbox
      cases hh : headP (· == q) (r.dropWhile blankB) with
      | false =>
        have HH := qh hh
        have HOL := qh (show oneL q (r.dropWhile blankB) = r.dropWhile blankB by unfold oneL; rw [hh]; rfl)
        rw [hh] at HONE
        clear hh
        go_wp2_with (go_at_call 86; refine HONE.out.mono ?_)
        rintro e w2 ⟨rfl, m2, r2⟩
        rw [HOL.out] at r2
        have M2 := qh m2
        have R2 := qh r2
        clear m2 r2
        go_wp2_with fail
        go_roundw
        case rel =>
          refine ⟨k + 1, by omega, by go_num, R2.out, (HM.out.ext X0.out).trans M2.out, fun j hj => ?_⟩
          rcases Nat.lt_or_ge j k with h | h
          · exact HNO.out j h
          · obtain rfl : j = k := by omega
            rw [HQ.out]; exact HH.out
        case measure => simp [intOf]; omega
      | true =>
        obtain ⟨t, ht⟩ : ∃ t, r.dropWhile blankB = q :: t := by
          cases hr1 : r.dropWhile blankB with
          | nil => rw [hr1] at hh; cases hh
          | cons c t =>
            rw [hr1] at hh
            have : c = q := by simpa [headP] using hh
            exact ⟨t, by rw [this]⟩
        have HVL := qh (valueL_quote ht HQ2.out)
        have HOL := qh (show oneL q (r.dropWhile blankB) = t by unfold oneL; rw [hh, ht]; rfl)
        rw [hh] at HONE
        clear hh ht
        go_wp2_with (go_at_call 86; refine HONE.out.mono ?_)
        rintro e w2 ⟨rfl, m2, r2⟩
        rw [HOL.out] at r2
        have hb2 := m2.cell HBOX.out hbn
        have HRUN2 := qh (run_any rb s t (neB q) _ w2 HS.out r2 (isQuote hb2 hbn))
        have M2 := qh m2
        have HB2 := qh hb2
        clear m2 r2
        go_wp2_with (go_at_call 51; refine HRUN2.out.mono ?_)
        rintro e w3 ⟨rfl, m3, r3⟩
        have hb3 := m3.cell HB2.out hbn
        have HONE3 := qh (one_any rb s (t.dropWhile (neB q)) q (q.toNat : Int) rfl w3 HS.out r3)
        have MM := qh ((M1.out.ext XQ.out).trans (((HM.out.ext X0.out).trans M2.out).trans m3))
        clear m3 r3 hb2
        cases hd : t.dropWhile (neB q) with
        | nil =>
          rw [hd] at HONE3
          have HV : Hid (valueL r = none) := qh (by rw [HVL.out, hd])
          clear hd
          go_wp2_with (go_at_call 86; refine HONE3.out.mono ?_)
          rintro e w4 ⟨rfl, m4, r4⟩
          have M4 := qh m4
          have R4 := qh r4
          clear m4 r4
          go_wp2_with fail
          go_ret2
          rw [HV.out]
          exact ⟨_, _, rfl, MM.out.trans M4.out, R4.out⟩
        | cons c r3 =>
          have hc := neB_head hd
          subst hc
          rw [hd] at HONE3
          have HV : Hid (valueL r = some (t.takeWhile (neB c), r3)) := qh (by rw [HVL.out, hd])
          have hh3 : headP (· == c) (c :: r3) = true := by simp [headP]
          have HO3 := qh (show oneL c (c :: r3) = r3 by unfold oneL; rw [hh3]; rfl)
          rw [hh3] at HONE3
          clear hd hh3
          go_wp2_with (go_at_call 86; refine HONE3.out.mono ?_)
          rintro e w4 ⟨rfl, m4, r4⟩
          rw [HO3.out] at r4
          have M4 := qh m4
          have R4 := qh r4
          clear m4 r4
          go_wp2_with fail
          go_ret2
          rw [HV.out]
          exact ⟨rfl, MM.out.trans M4.out, R4.out⟩
    · obtain rfl : k = 2 := by omega
      have HVB := qh (valueL_bare (r := r) (HNO.out 0 (by decide)) (HNO.out 1 (by decide)))
      have HRUN2 := qh (run_any rb s (r.dropWhile blankB) valB _ wr HS.out HR.out (isVal rb wr))
      go_wp2_with (go_at_call 51; refine HRUN2.out.mono ?_)
      rintro e w3 ⟨rfl, m3, r3⟩
      have M3 := qh m3
      have R3 := qh r3
      clear m3 r3
      go_wp2_with fail
      go_ret2
      rw [HVB.out]
      exact ⟨rfl, (M1.out.ext XQ.out).trans (HM.out.trans M3.out), R3.out⟩
def RName (rb : Nat) (s : ByteArray) (r : List UInt8) (w : World) (e : Ending) (w' : World) : Prop :=
  e = .returned (.string (bs ((r.takeWhile alnumB).map smallC))) ∧ Mv (· = rb) w w' ∧ Rd rb s (r.dropWhile alnumB) w'
theorem name_any (rb : Nat) (s : ByteArray) (r : List UInt8) (w : World) (hs : s.size ≤ 100000000000) (hr : Rd rb s r w) :
    Calls Tryz.prog 88 #[.pointer (some ⟨rb, 0, none⟩)] w (RName rb s r w) := by
  have HRUN := qh (run_any rb s r alnumB _ w hs hr (isAlnum rb w))
  have hz : (bs (r.takeWhile alnumB)).size ≤ 1000000000000 := by
    obtain ⟨k, h1, _, _⟩ := hr
    rw [bs_size]
    have := congrArg List.length (take_drop_while alnumB r)
    rw [List.length_append] at this
    omega
  have HSM := qh (fun W => (bs_data (r.takeWhile alnumB) ▸ small_any (bs (r.takeWhile alnumB)) hz W : Calls Tryz.prog 127 #[.string (bs (r.takeWhile alnumB))] W (RVal (.string (bs ((r.takeWhile alnumB).map smallC))) W)))
  clear hr hs hz
  go_enter Tryz.func88, Tryz.ntmps88
  go_wp2_with (go_at_call 51; refine HRUN.out.mono ?_)
  rintro e w1 ⟨rfl, m1, r1⟩
  have M1 := qh m1
  have R1 := qh r1
  clear m1 r1
  go_wp2_with (go_at_call 127; refine (HSM.out _).mono ?_)
  rintro e w2 ⟨rfl, x2⟩
  have X2 := qh x2
  clear x2
  go_wp2_with fail
  go_ret
  exact ⟨rfl, M1.out.ext X2.out, R1.out.ext X2.out⟩
def RNote (rb : Nat) (s : ByteArray) (o : Option (List UInt8)) (r : List UInt8) (w : World) (e : Ending) (w' : World) : Prop :=
  match o with
  | some t => e = .returned (.bool true) ∧ Mv (· = rb) w w' ∧ Rd rb s t w'
  | none => e = .returned (.bool false) ∧ Mv (· = rb) w w' ∧ Rd rb s r w'
end Go.Proofs.YtalaajbajgdglaaGreatDoor
