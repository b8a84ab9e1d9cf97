/- strconv.ParseInt at base 10 and 16, 32 bits. Conditions: 1 to 7 bytes, the first one no sign; the variable ErrSyntax holds an error. -/
import Derived.Test.YtdafdoodegpdhaaDoorLC
import Derived.Test.YtdafdoodegpdhaaDoorPQ
import Derived.Lib.IfaceNeq
import Derived.Shelf.Strconv.ToError
namespace Go.Proofs.YtdafdoodegpdhaaDoor
open Go Go.RowKit Go.BigFrame
set_option linter.unusedVariables false
set_option linter.unusedSimpArgs false

def PIis (r : Option Nat) (w : World) (e : Ending) (w' : World) : Prop := e = .returned (.tuple #[.int .i64 (r.getD 0 : Nat), match r with | some _ => .nilIface | none => .iface 135 (.int .i64 2)]) ∧ Ext w w'
theorem numL_lt (b : Nat) (hb : b ≤ 16) : ∀ (l : List UInt8) (m n P : Nat), numL b m l = some n → m < P → n < P * 16 ^ l.length := by
  intro l
  induction l with
  | nil => intro m n P h hm; cases h; simpa using hm
  | cons c r ih =>
    intro m n P h hm
    rw [numL] at h
    split at h
    · cases h
    · have h1 : m * b + digV c < P * 16 := by
        have : m * b ≤ m * 16 := Nat.mul_le_mul_left m hb
        omega
      have := ih _ _ _ h h1
      rw [List.length_cons, Nat.pow_succ]
      rw [Nat.mul_assoc] at this
      rw [Nat.mul_comm (16 ^ r.length) 16]
      exact this
set_option maxHeartbeats 1000000 in
set_option maxRecDepth 100000 in
theorem pi10_any (s : ByteArray) (h0 : s.size ≠ 0) (h7 : s.size ≤ 7) (hs1 : s.data.toList.head? ≠ some 43) (hs2 : s.data.toList.head? ≠ some 45) (w : World) : Calls Tryd.prog 101 #[.string s, .int .i64 10, .int .i64 32] w (PIis (numL 10 0 s.data.toList) w) := by
  have HP := Lib.hid (pu10_any s h0 h7)
  have e0 : (s.toList == ([] : List UInt8)) = false := by rw [ByteArray.toList_eq, beq_eq_false_iff_ne]; intro h; exact h0 (by show s.data.size = 0; have := congrArg List.length h; simpa using this)
  have hpos : 0 < s.size := by omega
  obtain ⟨c, hc⟩ : ∃ c, s[0]'hpos = c := ⟨_, rfl⟩
  have hix : ∀ W : World, (Instr.index 9 (.string s) (.int .i64 0)).run Tryd.prog W = .ok (.int .u8 (c.toNat : Int)) W := by
    intro W
    rw [run_index_string W 9 s .i64 0 Tryd.underlying9, dif_pos ⟨by omega, by omega⟩]
    simp only [Int.toNat_zero, hc]
  have hhd : s.data.toList.head? = some c := by
    rw [List.head?_eq_getElem?, List.getElem?_eq_getElem (by exact hpos)]
    exact congrArg some hc
  rw [hhd] at hs1 hs2
  have b43 : ((c.toNat : Int) == 43) = false := by
    rw [beq_eq_false_iff_ne]; intro h; exact hs1 (congrArg some (UInt8.toNat_inj.1 (by show c.toNat = 43; omega)))
  have b45 : ((c.toNat : Int) == 45) = false := by
    rw [beq_eq_false_iff_ne]; intro h; exact hs2 (congrArg some (UInt8.toNat_inj.1 (by show c.toNat = 45; omega)))
  have hlt : ∀ n, numL 10 0 s.data.toList = some n → n < 268435456 := fun n h => by
    have h1 := numL_lt 10 (by decide) _ 0 n 1 h (by decide)
    have h2 : 16 ^ s.data.toList.length ≤ 268435456 := pow_le7 (by exact h7)
    omega
  have HLT := Lib.hid hlt
  obtain ⟨r, hr⟩ : ∃ r, numL 10 0 s.data.toList = r := ⟨_, rfl⟩
  rw [hr] at HP HLT ⊢
  have hq2 : ∀ W, (binOp .neq 68 (.iface 135 (.int .i64 2)) (.iface 135 (.int .i64 1))).run Tryd.prog W = .ok (.bool true) W := fun W => Lib.run_neq_iface_int W 2 1 Tryd.underlying68 (by kernel_rfl) Tryd.underlying135
  clear hr hlt hhd hs1 hs2 hc
  go_enter Tryd.func101, Tryd.ntmps101
  cases r with
  | none =>
    go_wp2_with (go_at_call 127; refine (HP.out _).mono ?_; rintro e wx ⟨rfl, xx⟩; have XX := Lib.hid xx; clear xx)
    go_ret2
    exact ⟨rfl, XX.out⟩
  | some n =>
    have hn := HLT.out n rfl
    have k1 : decide ((2147483648 : Int) ≤ (n : Int)) = false := decide_eq_false (by omega)
    have k2 : decide (2147483648 ≤ n) = false := decide_eq_false (by omega)
    have hw : IntKind.i64.wrap (n : Int) = (n : Int) := IntWalk.i64_in _ (by omega)
    go_wp2_with (go_at_call 127; refine (HP.out _).mono ?_; rintro e wx ⟨rfl, xx⟩; have XX := Lib.hid xx; clear xx)
    go_ret2
    exact ⟨rfl, XX.out⟩
set_option maxHeartbeats 1000000 in
set_option maxRecDepth 100000 in
theorem pi16_any (s : ByteArray) (h0 : s.size ≠ 0) (h7 : s.size ≤ 7) (hs1 : s.data.toList.head? ≠ some 43) (hs2 : s.data.toList.head? ≠ some 45) (w : World) : Calls Tryd.prog 101 #[.string s, .int .i64 16, .int .i64 32] w (PIis (numL 16 0 s.data.toList) w) := by
  have HP := Lib.hid (pu16_any s h0 h7)
  have e0 : (s.toList == ([] : List UInt8)) = false := by rw [ByteArray.toList_eq, beq_eq_false_iff_ne]; intro h; exact h0 (by show s.data.size = 0; have := congrArg List.length h; simpa using this)
  have hpos : 0 < s.size := by omega
  obtain ⟨c, hc⟩ : ∃ c, s[0]'hpos = c := ⟨_, rfl⟩
  have hix : ∀ W : World, (Instr.index 9 (.string s) (.int .i64 0)).run Tryd.prog W = .ok (.int .u8 (c.toNat : Int)) W := by
    intro W
    rw [run_index_string W 9 s .i64 0 Tryd.underlying9, dif_pos ⟨by omega, by omega⟩]
    simp only [Int.toNat_zero, hc]
  have hhd : s.data.toList.head? = some c := by
    rw [List.head?_eq_getElem?, List.getElem?_eq_getElem (by exact hpos)]
    exact congrArg some hc
  rw [hhd] at hs1 hs2
  have b43 : ((c.toNat : Int) == 43) = false := by
    rw [beq_eq_false_iff_ne]; intro h; exact hs1 (congrArg some (UInt8.toNat_inj.1 (by show c.toNat = 43; omega)))
  have b45 : ((c.toNat : Int) == 45) = false := by
    rw [beq_eq_false_iff_ne]; intro h; exact hs2 (congrArg some (UInt8.toNat_inj.1 (by show c.toNat = 45; omega)))
  have hlt : ∀ n, numL 16 0 s.data.toList = some n → n < 268435456 := fun n h => by
    have h1 := numL_lt 16 (by decide) _ 0 n 1 h (by decide)
    have h2 : 16 ^ s.data.toList.length ≤ 268435456 := pow_le7 (by exact h7)
    omega
  have HLT := Lib.hid hlt
  obtain ⟨r, hr⟩ : ∃ r, numL 16 0 s.data.toList = r := ⟨_, rfl⟩
  rw [hr] at HP HLT ⊢
  have hq2 : ∀ W, (binOp .neq 68 (.iface 135 (.int .i64 2)) (.iface 135 (.int .i64 1))).run Tryd.prog W = .ok (.bool true) W := fun W => Lib.run_neq_iface_int W 2 1 Tryd.underlying68 (by kernel_rfl) Tryd.underlying135
  clear hr hlt hhd hs1 hs2 hc
  go_enter Tryd.func101, Tryd.ntmps101
  cases r with
  | none =>
    go_wp2_with (go_at_call 127; refine (HP.out _).mono ?_; rintro e wx ⟨rfl, xx⟩; have XX := Lib.hid xx; clear xx)
    go_ret2
    exact ⟨rfl, XX.out⟩
  | some n =>
    have hn := HLT.out n rfl
    have k1 : decide ((2147483648 : Int) ≤ (n : Int)) = false := decide_eq_false (by omega)
    have k2 : decide (2147483648 ≤ n) = false := decide_eq_false (by omega)
    have hw : IntKind.i64.wrap (n : Int) = (n : Int) := IntWalk.i64_in _ (by omega)
    go_wp2_with (go_at_call 127; refine (HP.out _).mono ?_; rintro e wx ⟨rfl, xx⟩; have XX := Lib.hid xx; clear xx)
    go_ret2
    exact ⟨rfl, XX.out⟩
set_option maxRecDepth 100000
def layTE_ren : Go.Shelf.Ren := ⟨fun | 129 => 153 | 171 => 143 | 205 => 142 | 243 => 146 | 245 => 102 | 246 => 147 | 279 => 128 | 280 => 129 | 281 => 130 | 282 => 131 | 283 => 148 | 284 => 149 | 285 => 150 | 286 => 151 | 316 => 141 | 317 => 152 | 318 => 154 | 319 => 155 | 320 => 156 | 337 => 157 | 338 => 158 | n => n, fun | 0 => 0 | 2 => 2 | 3 => 3 | 4 => 4 | 5 => 5 | 9 => 9 | 20 => 20 | 37 => 30 | 46 => 120 | 51 => 122 | 53 => 136 | 75 => 68 | 80 => 50 | 127 => 87 | 143 => 157 | 145 => 159 | 167 => 135 | 168 => 139 | 171 => 161 | 173 => 164 | 210 => 155 | 212 => 167 | 213 => 168 | 232 => 171 | 233 => 172 | n => n, fun | 15 => 3 | 16 => 4 | 17 => 5 | 18 => 6 | 19 => 7 | n => n⟩
theorem layTE : Go.Proofs.LaysC.n245 Tryd.prog layTE_ren := {
  mixed := by kernel_rfl
  f129 := Tryd.func153.trans (congrArg some (by kernel_rfl))
  f171 := Tryd.func143.trans (congrArg some (by kernel_rfl))
  f205 := Tryd.func142.trans (congrArg some (by kernel_rfl))
  f243 := Tryd.func146.trans (congrArg some (by kernel_rfl))
  f245 := Tryd.func102.trans (congrArg some (by kernel_rfl))
  f246 := Tryd.func147.trans (congrArg some (by kernel_rfl))
  f279 := Tryd.func128.trans (congrArg some (by kernel_rfl))
  f280 := Tryd.func129.trans (congrArg some (by kernel_rfl))
  f281 := Tryd.func130.trans (congrArg some (by kernel_rfl))
  f282 := Tryd.func131.trans (congrArg some (by kernel_rfl))
  f283 := Tryd.func148.trans (congrArg some (by kernel_rfl))
  f284 := Tryd.func149.trans (congrArg some (by kernel_rfl))
  f285 := Tryd.func150.trans (congrArg some (by kernel_rfl))
  f286 := Tryd.func151.trans (congrArg some (by kernel_rfl))
  f316 := Tryd.func141.trans (congrArg some (by kernel_rfl))
  f317 := Tryd.func152.trans (congrArg some (by kernel_rfl))
  f318 := Tryd.func154.trans (congrArg some (by kernel_rfl))
  f319 := Tryd.func155.trans (congrArg some (by kernel_rfl))
  f320 := Tryd.func156.trans (congrArg some (by kernel_rfl))
  f337 := Tryd.func157.trans (congrArg some (by kernel_rfl))
  f338 := Tryd.func158.trans (congrArg some (by kernel_rfl))
  t0 := Tryd.underlying0
  a0 := Tryd.isAgg0
  z0 := Tryd.sizeOf0
  v0 := Tryd.zeroValue0
  t2 := Tryd.underlying2
  a2 := Tryd.isAgg2
  z2 := Tryd.sizeOf2
  v2 := Tryd.zeroValue2
  t3 := Tryd.underlying3
  a3 := Tryd.isAgg3
  z3 := Tryd.sizeOf3
  v3 := Tryd.zeroValue3
  t4 := Tryd.underlying4
  a4 := Tryd.isAgg4
  z4 := Tryd.sizeOf4
  v4 := Tryd.zeroValue4
  t5 := Tryd.underlying5
  a5 := Tryd.isAgg5
  z5 := Tryd.sizeOf5
  v5 := Tryd.zeroValue5
  t9 := Tryd.underlying9
  a9 := Tryd.isAgg9
  z9 := Tryd.sizeOf9
  v9 := Tryd.zeroValue9
  t20 := Tryd.underlying20
  a20 := Tryd.isAgg20
  z20 := Tryd.sizeOf20
  v20 := Tryd.zeroValue20
  t37 := Tryd.underlying30
  a37 := Tryd.isAgg30
  z37 := Tryd.sizeOf30
  v37 := Tryd.zeroValue30
  t46 := Tryd.underlying120
  a46 := Tryd.isAgg120
  z46 := Tryd.sizeOf120
  v46 := Tryd.zeroValue120
  t51 := Tryd.underlying122
  a51 := Tryd.isAgg122
  z51 := Tryd.sizeOf122
  v51 := Tryd.zeroValue122
  t53 := Tryd.underlying136
  a53 := Tryd.isAgg136
  z53 := Tryd.sizeOf136
  v53 := Tryd.zeroValue136
  t75 := Tryd.underlying68
  a75 := Tryd.isAgg68
  z75 := Tryd.sizeOf68
  v75 := Tryd.zeroValue68
  t127 := Tryd.underlying87
  a127 := Tryd.isAgg87
  z127 := Tryd.sizeOf87
  v127 := Tryd.zeroValue87
  t143 := Tryd.underlying157
  a143 := Tryd.isAgg157
  z143 := Tryd.sizeOf157
  v143 := Tryd.zeroValue157
  t145 := Tryd.underlying159
  a145 := Tryd.isAgg159
  z145 := Tryd.sizeOf159
  v145 := Tryd.zeroValue159
  t167 := Tryd.underlying135
  a167 := Tryd.isAgg135
  z167 := Tryd.sizeOf135
  v167 := Tryd.zeroValue135
  t168 := Tryd.underlying139
  a168 := Tryd.isAgg139
  z168 := Tryd.sizeOf139
  v168 := Tryd.zeroValue139
  t171 := Tryd.underlying161
  a171 := Tryd.isAgg161
  z171 := Tryd.sizeOf161
  v171 := Tryd.zeroValue161
  t173 := Tryd.underlying164
  a173 := Tryd.isAgg164
  z173 := Tryd.sizeOf164
  v173 := Tryd.zeroValue164
  t210 := Tryd.underlying155
  a210 := Tryd.isAgg155
  z210 := Tryd.sizeOf155
  v210 := Tryd.zeroValue155
  t212 := Tryd.underlying167
  a212 := Tryd.isAgg167
  z212 := Tryd.sizeOf167
  v212 := Tryd.zeroValue167
  t213 := Tryd.underlying168
  a213 := Tryd.isAgg168
  z213 := Tryd.sizeOf168
  t232 := Tryd.underlying171
  a232 := Tryd.isAgg171
  z232 := Tryd.sizeOf171
  v232 := Tryd.zeroValue171
  t233 := Tryd.underlying172
  a233 := Tryd.isAgg172
  z233 := Tryd.sizeOf172
  v233 := Tryd.zeroValue172
  g15 := by kernel_rfl
  g16 := by kernel_rfl
  g17 := by kernel_rfl
  g18 := by kernel_rfl
  g19 := by kernel_rfl
  t80 := Tryd.underlying50
  a80 := Tryd.isAgg50
  z80 := Tryd.sizeOf50
  v80 := Tryd.zeroValue50
  i0 := by kernel_rfl
  i2 := by kernel_rfl
  i3 := by kernel_rfl
  i4 := by kernel_rfl
  i5 := by kernel_rfl
  i9 := by kernel_rfl
  i20 := by kernel_rfl
  i37 := by kernel_rfl
  i46 := by kernel_rfl
  i51 := by kernel_rfl
  i53 := by kernel_rfl
  i75 := by kernel_rfl
  i80 := by kernel_rfl
  i127 := by kernel_rfl
  i143 := by kernel_rfl
  i145 := by kernel_rfl
  i167 := by kernel_rfl
  i168 := by kernel_rfl
  i171 := by kernel_rfl
  i173 := by kernel_rfl
  i210 := by kernel_rfl
  i212 := by kernel_rfl
  i232 := by kernel_rfl
  i233 := by kernel_rfl
  m15 := by kernel_rfl
  m16 := by kernel_rfl
  m17 := by kernel_rfl
  m18 := by kernel_rfl
  m19 := by kernel_rfl
  c0 := by kernel_rfl
  c2 := by kernel_rfl
  c3 := by kernel_rfl
  c4 := by kernel_rfl
  c5 := by kernel_rfl
  c9 := by kernel_rfl
  c20 := by kernel_rfl
  c37 := by kernel_rfl
  c46 := by kernel_rfl
  c51 := by kernel_rfl
  c53 := by kernel_rfl
  c75 := by kernel_rfl
  c80 := by kernel_rfl
  c127 := by kernel_rfl
  c143 := by kernel_rfl
  c145 := by kernel_rfl
  c167 := by kernel_rfl
  c168 := by kernel_rfl
  c171 := by kernel_rfl
  c173 := by kernel_rfl
  c210 := by kernel_rfl
  c212 := by kernel_rfl
  c213 := by kernel_rfl
  c232 := by kernel_rfl
  c233 := by kernel_rfl }

/-- what the lexer asks of the package variables: the tables of unicode/utf8, a number in MaxLen, an error in ErrSyntax -/
structure LW (w : World) : Prop where
  tabs : Tabs w
  len : ∃ m : Int, w.cell? ⟨0, 0, none⟩ = some (.int .i64 m)
  err : ∃ ev, w.cell? ⟨3, 0, none⟩ = some ev ∧ (ev = .nilIface ∨ ∃ te pe, ev = .iface te pe)
theorem LW.ext {w w' : World} (h : LW w) (x : Ext w w') : LW w' := ⟨h.tabs.ext x, h.len.imp fun _ h => x.cell h, h.err.imp fun _ h => ⟨x.cell h.1, h.2⟩⟩
def ErrIs (w : World) (e : Ending) (w' : World) : Prop := ∃ p, e = .returned (.iface 139 p) ∧ Ext w w'
theorem toError_any (fn s : ByteArray) (base bits : Int) (w : World) (hl : LW w) (hs : s.size ≤ 281474976710656) :
    Calls Tryd.prog 102 #[.string fn, .string s, .int .i64 base, .int .i64 bits, .iface 135 (.int .i64 2)] w (ErrIs w) := by
  obtain ⟨ev, h1, h2⟩ := hl.err
  exact (Any.strconv_toError_syntax layTE fn s base bits ev w hs h1 h2).mono fun _ _ ⟨N, h3, _, _, h4⟩ => ⟨_, h3, h4⟩
def PPis (r : Option Nat) (w : World) (e : Ending) (w' : World) : Prop := ∃ ev, e = .returned (.tuple #[.int .i64 (r.getD 0 : Nat), ev]) ∧ (r ≠ none → ev = .nilIface) ∧ (r = none → ∃ p, ev = .iface 139 p) ∧ Ext w w'
set_option maxHeartbeats 1000000 in
theorem ppi10_any (s : ByteArray) (h0 : s.size ≠ 0) (h7 : s.size ≤ 7) (hs1 : s.data.toList.head? ≠ some 43) (hs2 : s.data.toList.head? ≠ some 45) (w : World) (hl : LW w) : Calls Tryd.prog 77 #[.string s, .int .i64 10, .int .i64 32] w (PPis (numL 10 0 s.data.toList) w) := by
  have HP := Lib.hid (pi10_any s h0 h7 hs1 hs2)
  obtain ⟨r, hr⟩ : ∃ r, numL 10 0 s.data.toList = r := ⟨_, rfl⟩
  rw [hr] at HP ⊢
  have HL := Lib.hid hl
  have HS := Lib.hid (show s.size ≤ 281474976710656 by omega)
  clear hr h0 h7 hs1 hs2 hl
  go_enter Tryd.func77, Tryd.ntmps77
  cases r with
  | none =>
    go_wp2_with (go_at_call 101; refine (HP.out _).mono ?_)
    rintro e w1 ⟨rfl, x1⟩
    have X1 := Lib.hid x1
    clear x1
    go_wp2_with (go_at_call 102; refine (toError_any _ s 10 32 w1 (HL.out.ext X1.out) HS.out).mono ?_)
    rintro e w2 ⟨p, rfl, x2⟩
    go_wp2_with fail
    go_ret2
    exact ⟨_, rfl, fun h => absurd rfl h, fun _ => ⟨p, rfl⟩, X1.out.trans x2⟩
  | some n =>
    go_wp2_with (go_at_call 101; refine (HP.out _).mono ?_)
    rintro e w1 ⟨rfl, x1⟩
    go_wp2_with fail
    go_ret2
    exact ⟨_, rfl, fun _ => rfl, (fun h => by cases h), x1⟩
set_option maxHeartbeats 1000000 in
theorem ppi16_any (s : ByteArray) (h0 : s.size ≠ 0) (h7 : s.size ≤ 7) (hs1 : s.data.toList.head? ≠ some 43) (hs2 : s.data.toList.head? ≠ some 45) (w : World) (hl : LW w) : Calls Tryd.prog 77 #[.string s, .int .i64 16, .int .i64 32] w (PPis (numL 16 0 s.data.toList) w) := by
  have HP := Lib.hid (pi16_any s h0 h7 hs1 hs2)
  obtain ⟨r, hr⟩ : ∃ r, numL 16 0 s.data.toList = r := ⟨_, rfl⟩
  rw [hr] at HP ⊢
  have HL := Lib.hid hl
  have HS := Lib.hid (show s.size ≤ 281474976710656 by omega)
  clear hr h0 h7 hs1 hs2 hl
  go_enter Tryd.func77, Tryd.ntmps77
  cases r with
  | none =>
    go_wp2_with (go_at_call 101; refine (HP.out _).mono ?_)
    rintro e w1 ⟨rfl, x1⟩
    have X1 := Lib.hid x1
    clear x1
    go_wp2_with (go_at_call 102; refine (toError_any _ s 16 32 w1 (HL.out.ext X1.out) HS.out).mono ?_)
    rintro e w2 ⟨p, rfl, x2⟩
    go_wp2_with fail
    go_ret2
    exact ⟨_, rfl, fun h => absurd rfl h, fun _ => ⟨p, rfl⟩, X1.out.trans x2⟩
  | some n =>
    go_wp2_with (go_at_call 101; refine (HP.out _).mono ?_)
    rintro e w1 ⟨rfl, x1⟩
    go_wp2_with fail
    go_ret2
    exact ⟨_, rfl, fun _ => rfl, (fun h => by cases h), x1⟩
end Go.Proofs.YtdafdoodegpdhaaDoor
