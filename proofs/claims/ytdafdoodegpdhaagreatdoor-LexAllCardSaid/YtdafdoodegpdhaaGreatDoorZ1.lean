/- what of LA LB LC LD LE LF LG LH LW LI LJ LK LL LM LN LO this seat can say -/
import Derived.Test.YtdafdoodegpdhaaGreatDoorZP
import Derived.Lib.Bytealg
import Derived.Shelf.Strings.Prefix
import Derived.Shelf.Small.Strs
import Derived.Shelf.Strings.Search3
import Derived.Lib.IfaceNeq
import Derived.Shelf.Strconv.ToError
import Derived.WalkMore
import Derived.Shelf.Strings.BuilderK
import Derived.Lib.OthersKept
import Derived.Lib.UnsafeStr
namespace Go.Proofs.YtdafdoodegpdhaaGreatDoor
open Go
set_option linter.unusedVariables false
set_option linter.unusedSimpArgs false

/-- a text of these bytes -/
abbrev bs (l : List UInt8) : ByteArray := ⟨l.toArray⟩
theorem bs_list (s : ByteArray) : bs s.data.toList = s := by cases s; simp
theorem bs_data (l : List UInt8) : (bs l).data.toList = l := by simp
theorem bs_size (l : List UInt8) : (bs l).size = l.length := by simp [bs, ByteArray.size]
theorem bs_get (l : List UInt8) (k : Nat) (h : k < (bs l).size) (h' : k < l.length) : (bs l)[k]'h = l[k] := by
  rfl
theorem bs_inj {a b : List UInt8} : bs a = bs b ↔ a = b := by
  constructor
  · intro h; have := congrArg (fun s : ByteArray => s.data.toList) h; simpa using this
  · rintro rfl; rfl
theorem bs_cut (l : List UInt8) (i j : Nat) : (bs l).extract i j = bs ((l.drop i).take (j - i)) := ByteArray.extract_mk l i j
theorem bs_add (a b : List UInt8) : bs a ++ bs b = bs (a ++ b) := by
  have h : (bs a ++ bs b).data.toList = (bs (a ++ b)).data.toList := by rw [ByteArray.data_append, Array.toList_append]
  have h2 := congrArg bs h
  rw [bs_list, bs_list] at h2
  exact h2
def smallC (c : UInt8) : UInt8 := if 65 ≤ c.toNat ∧ c.toNat ≤ 90 then c ||| 32 else c
def letterB (c : UInt8) : Bool := decide (97 ≤ (c ||| 32).toNat ∧ (c ||| 32).toNat ≤ 122)
def digitB (c : UInt8) : Bool := decide (48 ≤ c.toNat ∧ c.toNat ≤ 57)
def alnumB (c : UInt8) : Bool := letterB c || digitB c
theorem all_bytes {p : UInt8 → Prop} (h : ∀ n : Fin 256, p (UInt8.ofNat n.val)) (c : UInt8) : p c := by
  have := h ⟨c.toNat, c.toNat_lt⟩
  have e : UInt8.ofNat c.toNat = c := by simp
  rw [e] at this
  exact this
theorem letter_iff (c : UInt8) : letterB c = decide (97 ≤ c.toNat ∧ c.toNat ≤ 122 ∨ 65 ≤ c.toNat ∧ c.toNat ≤ 90) := by
  revert c
  exact all_bytes (p := fun c => letterB c = decide (97 ≤ c.toNat ∧ c.toNat ≤ 122 ∨ 65 ≤ c.toNat ∧ c.toNat ≤ 90)) (by decide +kernel)
theorem small_add (c : UInt8) : smallC c = if 65 ≤ c.toNat ∧ c.toNat ≤ 90 then c + 32 else c := by
  revert c
  exact all_bytes (p := fun c => smallC c = if 65 ≤ c.toNat ∧ c.toNat ≤ 90 then c + 32 else c) (by decide +kernel)
theorem small_small (c : UInt8) : smallC (smallC c) = smallC c := by
  revert c
  exact all_bytes (p := fun c => smallC (smallC c) = smallC c) (by decide +kernel)
theorem small_alnum (c : UInt8) (h : alnumB c = true) : alnumB (smallC c) = true := by
  revert c
  exact all_bytes (p := fun c => alnumB c = true → alnumB (smallC c) = true) (by decide +kernel)
/-- what a name behind an ampersand stands for -/
def namedL (l : List UInt8) : Option (List UInt8) :=
  if l = [97, 109, 112] then some [38] else if l = [108, 116] then some [60] else if l = [103, 116] then some [62] else if l = [113, 117, 111, 116] then some [34]
  else if l = [97, 112, 111, 115] then some [39] else if l = [110, 98, 115, 112] then some [194, 160] else none
def digV (c : UInt8) : Nat := if 48 ≤ c.toNat ∧ c.toNat ≤ 57 then c.toNat - 48 else if 97 ≤ c.toNat ∧ c.toNat ≤ 102 then c.toNat - 87 else if 65 ≤ c.toNat ∧ c.toNat ≤ 70 then c.toNat - 55 else 99
/-- digits to a base -/
def numL (base : Nat) : Nat → List UInt8 → Option Nat
  | n, [] => some n
  | n, c :: r => if base ≤ digV c then none else numL base (n * base + digV c) r
def runeN (n : Nat) : Bool := decide (n ≠ 0 ∧ n ≤ 1114111 ∧ ¬ (55296 ≤ n ∧ n ≤ 57343))
def codeN (base most : Nat) (l : List UInt8) : Option Nat := if l = [] ∨ most < l.length then none else (numL base 0 l).filter runeN
/-- the number behind an ampersand and a sign -/
def codeL (l : List UInt8) : Option Nat := if l.head? = some 120 then codeN 16 6 l.tail else codeN 10 7 l
def codedL (l : List UInt8) : Option (List UInt8) := (codeL l).map fun (n : Nat) => (Utf8.encode (n : Int)).data.toList
def meansL (l : List UInt8) (e : Nat) : Option (List UInt8) := match namedL ((l.drop 1).take (e - 1)) with
  | some x => some x
  | none => if l.take 2 = [38, 35] then codedL ((l.drop 2).take (e - 2)) else none
/-- what an ampersand, and what is behind it, stands for; how many bytes it has -/
def entityL (l : List UInt8) : List UInt8 × Nat :=
  let e := Lib.indexByte (l.take 12) 59
  if e < 0 then ([38], 1) else match meansL l e.toNat with
    | some x => (x, e.toNat + 1)
    | none => ([38], 1)
theorem entityL_pos (l : List UInt8) : 1 ≤ (entityL l).2 := by
  unfold entityL
  dsimp only
  split
  · exact Nat.le_refl _
  · split
    · exact Nat.succ_le_succ (Nat.zero_le _)
    · exact Nat.le_refl _
def decF : Nat → List UInt8 → List UInt8
  | 0, _ => []
  | f + 1, [] => []
  | f + 1, c :: r => if c = 38 then (entityL (c :: r)).1 ++ decF f ((c :: r).drop (entityL (c :: r)).2) else c :: decF f r
def decL (l : List UInt8) : List UInt8 := decF l.length l
theorem decF_more : ∀ (f : Nat) (l : List UInt8), l.length ≤ f → decF f l = decL l := by
  intro f
  induction f using Nat.strongRecOn with
  | ind f ih =>
    intro l hl
    unfold decL
    cases l with
    | nil => cases f <;> rfl
    | cons c r =>
      cases f with
      | zero => simp at hl
      | succ f =>
        simp only [List.length_cons] at hl ⊢
        simp only [decF]
        have hp := entityL_pos (c :: r)
        have hd : ((c :: r).drop (entityL (c :: r)).2).length ≤ r.length := by rw [List.length_drop]; simp; omega
        split
        · rw [ih f (by omega) _ (by omega)]
          rcases Nat.lt_or_ge r.length (f + 1) with h | h
          · rw [ih r.length (by omega) _ hd]
          · omega
        · rw [ih f (by omega) _ (by omega), ih r.length (by omega) _ (Nat.le_refl _)]
theorem decL_nil : decL [] = [] := rfl
theorem decL_amp (r : List UInt8) : decL (38 :: r) = (entityL (38 :: r)).1 ++ decL ((38 :: r).drop (entityL (38 :: r)).2) := by
  have h1 : decL (38 :: r) = (entityL (38 :: r)).1 ++ decF r.length ((38 :: r).drop (entityL (38 :: r)).2) := by
    show decF (r.length + 1) (38 :: r) = _
    simp [decF]
  rw [h1, decF_more]
  have hp := entityL_pos (38 :: r)
  rw [List.length_drop, List.length_cons]
  omega
theorem decL_cons {c : UInt8} (h : c ≠ 38) (r : List UInt8) : decL (c :: r) = c :: decL r := by
  show decF (r.length + 1) (c :: r) = _
  simp [decF, h]
  rfl
theorem decL_front {p : List UInt8} (h : ∀ c ∈ p, c ≠ 38) (r : List UInt8) : decL (p ++ r) = p ++ decL r := by
  induction p with
  | nil => rfl
  | cons c p ih =>
    rw [List.cons_append, decL_cons (h c (by simp)), ih fun c hc => h c (by simp [hc])]
    rfl
/-- the place of a byte -/
theorem indexByte_some {l : List UInt8} {c : UInt8} (h : ¬ Lib.indexByte l c < 0) : ∃ k : Nat, Lib.indexByte l c = (k : Int) ∧ l[k]? = some c ∧ ∀ j x, j < k → l[j]? = some x → x ≠ c := by
  induction l with
  | nil => exact absurd (by decide : (-1 : Int) < 0) h
  | cons b r ih =>
    unfold Lib.indexByte at h ⊢
    by_cases hb : (b == c) = true
    · rw [if_pos hb] at h ⊢
      have e : b = c := by simpa using hb
      exact ⟨0, rfl, by simp [e], fun j x hj => absurd hj (Nat.not_lt_zero _)⟩
    · rw [if_neg hb] at h ⊢
      by_cases hm : (Lib.indexByte r c == -1) = true
      · rw [if_pos hm] at h; exact absurd (by decide : (-1 : Int) < 0) h
      · rw [if_neg hm] at h ⊢
        have hge := Lib.indexByte_ge r c
        have hne : Lib.indexByte r c ≠ -1 := by simpa using hm
        obtain ⟨k, e, h1, h2⟩ := ih (by omega)
        refine ⟨k + 1, by rw [e]; rfl, by simpa using h1, fun j x hj hx => ?_⟩
        cases j with
        | zero => simp at hx; subst hx; simpa using hb
        | succ j => exact h2 j x (by omega) (by simpa using hx)
theorem indexByte_none {l : List UInt8} {c : UInt8} (h : Lib.indexByte l c < 0) : ∀ x ∈ l, x ≠ c := by
  induction l with
  | nil => intro x hx; cases hx
  | cons b r ih =>
    unfold Lib.indexByte at h
    by_cases hb : (b == c) = true
    · rw [if_pos hb] at h; exact absurd h (by decide)
    · rw [if_neg hb] at h
      by_cases hm : (Lib.indexByte r c == -1) = true
      · have hne : Lib.indexByte r c = -1 := by simpa using hm
        intro x hx
        rcases List.mem_cons.1 hx with rfl | hx
        · simpa using hb
        · exact ih (by omega) x hx
      · rw [if_neg hm] at h
        have hge := Lib.indexByte_ge r c
        have hne : Lib.indexByte r c ≠ -1 := by simpa using hm
        omega
end Go.Proofs.YtdafdoodegpdhaaGreatDoor

namespace Go.Proofs.YtdafdoodegpdhaaGreatDoor
open Go Go.RowKit Go.BigFrame
set_option linter.unusedVariables false
set_option linter.unusedSimpArgs false
set_option maxRecDepth 100000
def layPre_ren : Go.Shelf.Ren := ⟨fun | 99 => 21 | 206 => 41 | n => n, fun | 3 => 3 | 4 => 4 | 9 => 9 | n => n, fun | n => n⟩
theorem layPre : Go.Proofs.Lays.n99 Tryz.prog layPre_ren := {
  mixed := by kernel_rfl
  f99 := Tryz.func21.trans (congrArg some (by kernel_rfl))
  f206 := Tryz.func41.trans (congrArg some (by kernel_rfl))
  t3 := Tryz.underlying3
  a3 := Tryz.isAgg3
  z3 := Tryz.sizeOf3
  v3 := Tryz.zeroValue3
  t4 := Tryz.underlying4
  a4 := Tryz.isAgg4
  z4 := Tryz.sizeOf4
  v4 := Tryz.zeroValue4
  t9 := Tryz.underlying9
  a9 := Tryz.isAgg9
  z9 := Tryz.sizeOf9
  v9 := Tryz.zeroValue9 }
def laySuf_ren : Go.Shelf.Ren := ⟨fun | 100 => 49 | 207 => 66 | n => n, fun | 3 => 3 | 4 => 4 | 9 => 9 | n => n, fun | n => n⟩
theorem laySuf : Go.Proofs.Lays.n100 Tryz.prog laySuf_ren := {
  mixed := by kernel_rfl
  f100 := Tryz.func49.trans (congrArg some (by kernel_rfl))
  f207 := Tryz.func66.trans (congrArg some (by kernel_rfl))
  t3 := Tryz.underlying3
  a3 := Tryz.isAgg3
  z3 := Tryz.sizeOf3
  v3 := Tryz.zeroValue3
  t4 := Tryz.underlying4
  a4 := Tryz.isAgg4
  z4 := Tryz.sizeOf4
  v4 := Tryz.zeroValue4
  t9 := Tryz.underlying9
  a9 := Tryz.isAgg9
  z9 := Tryz.sizeOf9
  v9 := Tryz.zeroValue9 }
def layIB_ren : Go.Shelf.Ren := ⟨fun | 137 => 29 | 217 => 56 | 266 => 72 | n => n, fun | 3 => 3 | 5 => 5 | 9 => 9 | n => n, fun | n => n⟩
theorem layIB : Go.Proofs.Lays.n137 Tryz.prog layIB_ren := {
  mixed := by kernel_rfl
  f137 := Tryz.func29.trans (congrArg some (by kernel_rfl))
  f217 := Tryz.func56.trans (congrArg some (by kernel_rfl))
  f266 := Tryz.func72.trans (congrArg some (by kernel_rfl))
  t3 := Tryz.underlying3
  a3 := Tryz.isAgg3
  z3 := Tryz.sizeOf3
  v3 := Tryz.zeroValue3
  t5 := Tryz.underlying5
  a5 := Tryz.isAgg5
  z5 := Tryz.sizeOf5
  v5 := Tryz.zeroValue5
  t9 := Tryz.underlying9
  a9 := Tryz.isAgg9
  z9 := Tryz.sizeOf9
  v9 := Tryz.zeroValue9 }
def layIx_ren : Go.Shelf.Ren := ⟨fun | 143 => 22 | 217 => 56 | 219 => 42 | 224 => 64 | 225 => 63 | 266 => 72 | 267 => 65 | 314 => 78 | n => n, fun | 3 => 3 | 4 => 4 | 5 => 5 | 9 => 9 | 46 => 86 | 51 => 93 | 146 => 94 | n => n, fun | 1 => 0 | n => n⟩
theorem layIx : Go.Proofs.Lays.n143 Tryz.prog layIx_ren := {
  mixed := by kernel_rfl
  f143 := Tryz.func22.trans (congrArg some (by kernel_rfl))
  f217 := Tryz.func56.trans (congrArg some (by kernel_rfl))
  f219 := Tryz.func42.trans (congrArg some (by kernel_rfl))
  f224 := Tryz.func64.trans (congrArg some (by kernel_rfl))
  f225 := Tryz.func63.trans (congrArg some (by kernel_rfl))
  f266 := Tryz.func72.trans (congrArg some (by kernel_rfl))
  f267 := Tryz.func65.trans (congrArg some (by kernel_rfl))
  f314 := Tryz.func78.trans (congrArg some (by kernel_rfl))
  t3 := Tryz.underlying3
  a3 := Tryz.isAgg3
  z3 := Tryz.sizeOf3
  v3 := Tryz.zeroValue3
  t4 := Tryz.underlying4
  a4 := Tryz.isAgg4
  z4 := Tryz.sizeOf4
  v4 := Tryz.zeroValue4
  t5 := Tryz.underlying5
  a5 := Tryz.isAgg5
  z5 := Tryz.sizeOf5
  v5 := Tryz.zeroValue5
  t9 := Tryz.underlying9
  a9 := Tryz.isAgg9
  z9 := Tryz.sizeOf9
  v9 := Tryz.zeroValue9
  t46 := Tryz.underlying86
  a46 := Tryz.isAgg86
  z46 := Tryz.sizeOf86
  v46 := Tryz.zeroValue86
  t51 := Tryz.underlying93
  a51 := Tryz.isAgg93
  z51 := Tryz.sizeOf93
  v51 := Tryz.zeroValue93
  t146 := Tryz.underlying94
  a146 := Tryz.isAgg94
  z146 := Tryz.sizeOf94
  v146 := Tryz.zeroValue94
  g1 := by kernel_rfl }

theorem HasPrefix_any (s p : ByteArray) (w : World) : Calls Tryz.prog 21 #[.string s, .string p] w (RVal (.bool (Lib.hasPrefix s.data.toList p.data.toList)) w) :=
  (Any.strings_HasPrefix layPre s p w).mono fun _ _ ⟨h1, h2⟩ => ⟨h1, h2 ▸ Ext.refl w⟩
theorem HasSuffix_any (s p : ByteArray) (w : World) (hs : s.size ≤ 9223372036854775807) : Calls Tryz.prog 49 #[.string s, .string p] w (RVal (.bool (Lib.hasSuffix s.data.toList p.data.toList)) w) :=
  (Any.strings_HasSuffix laySuf s p w hs).mono fun _ _ ⟨h1, h2⟩ => ⟨h1, h2 ▸ Ext.refl w⟩
theorem IndexByte_any (s : ByteArray) (c : UInt8) (z : Int) (hz : z = (c.toNat : Int)) (w : World) : Calls Tryz.prog 29 #[.string s, .int .u8 z] w (RVal (.int .i64 (Lib.indexByte s.data.toList c)) w) := by
  subst hz
  refine (Any.strings_IndexByte layIB s (c.toNat : Int) w).mono fun _ _ ⟨h1, h2⟩ => ⟨h1.trans ?_, h2 ▸ Ext.refl w⟩
  have e : ((c.toNat : Int)).toNat.toUInt8 = c := by simp
  rw [e]
theorem Index_any (s sub : ByteArray) (m : Int) (w : World) (hs : s.size < 4294967281) (hm : w.cell? ⟨0, 0, none⟩ = some (.int .i64 m)) : Calls Tryz.prog 22 #[.string s, .string sub] w (RVal (.int .i64 (Lib.index s.data.toList sub.data.toList)) w) :=
  (Any.strings_Index layIx s sub m w hs hm).mono fun _ _ ⟨h1, h2⟩ => ⟨h1, h2 ▸ Ext.refl w⟩

set_option maxHeartbeats 400000 in
theorem xdigit_any (c : UInt8) (w : World) : Calls Tryz.prog 46 #[.int .u8 (c.toNat : Int)] w (RBool (digitB c) w) := by
  have x := Ext.refl w
  obtain ⟨b, hb⟩ : ∃ b, digitB c = b := ⟨_, rfl⟩
  rw [hb]
  unfold digitB at hb
  have HB := Lib.hid hb
  clear hb
  by_cases h1 : (48 : Int) ≤ (c.toNat : Int)
  · by_cases h2 : (c.toNat : Int) ≤ 57
    · have e : b = true := by rw [← HB.out]; exact decide_eq_true (by omega)
      subst e
      go_enter Tryz.func46, Tryz.ntmps46
      go_wp2
      go_ret
      exact ⟨rfl, x⟩
    · have e : b = false := by rw [← HB.out]; exact decide_eq_false (by omega)
      subst e
      go_enter Tryz.func46, Tryz.ntmps46
      go_wp2
      go_ret
      exact ⟨rfl, x⟩
  · have e : b = false := by rw [← HB.out]; exact decide_eq_false (by omega)
    subst e
    go_enter Tryz.func46, Tryz.ntmps46
    go_wp2
    go_ret
    exact ⟨rfl, x⟩
set_option maxHeartbeats 400000 in
theorem xblank_any (c : UInt8) (w : World) : Calls Tryz.prog 48 #[.int .u8 (c.toNat : Int)] w (RBool (blankB c) w) := by
  have x := Ext.refl w
  obtain ⟨b, hb⟩ : ∃ b, blankB c = b := ⟨_, rfl⟩
  rw [hb]
  have hbi : ∀ c : UInt8, blankB c = decide (c.toNat = 32 ∨ 9 ≤ c.toNat ∧ c.toNat ≤ 13 ∧ c.toNat ≠ 11) := by
    exact all_bytes (p := fun c => blankB c = decide (c.toNat = 32 ∨ 9 ≤ c.toNat ∧ c.toNat ≤ 13 ∧ c.toNat ≠ 11)) (by decide +kernel)
  have HB := Lib.hid ((hbi c).symm.trans hb)
  clear hb hbi
  by_cases h0 : c.toNat = 32
  · have e : b = true := by rw [← HB.out]; exact decide_eq_true (.inl h0)
    have e0 : ((c.toNat : Int) == 32) = true := by rw [h0]; rfl
    subst e
    clear h0
    go_enter Tryz.func48, Tryz.ntmps48
    go_wp2
    go_ret
    exact ⟨rfl, x⟩
  have e0 : ((c.toNat : Int) == 32) = false := by rw [beq_eq_false_iff_ne]; omega
  by_cases h1 : (9 : Int) ≤ (c.toNat : Int)
  · by_cases h2 : (c.toNat : Int) ≤ 13
    · by_cases h3 : c.toNat = 11
      · have e : b = false := by rw [← HB.out]; exact decide_eq_false (by omega)
        have e1 : ((c.toNat : Int) == 11) = true := by rw [h3]; rfl
        have e2 : ((c.toNat : Int) != 11) = false := by simp [bne, e1]
        subst e
        clear h3 h0
        go_enter Tryz.func48, Tryz.ntmps48
        go_wp2
        go_ret
        exact ⟨by first | rfl | (rw [e2]), x⟩
      · have e : b = true := by rw [← HB.out]; exact decide_eq_true (by omega)
        have e1 : ((c.toNat : Int) == 11) = false := by rw [beq_eq_false_iff_ne]; omega
        have e2 : ((c.toNat : Int) != 11) = true := by simp [bne, e1]
        subst e
        clear h3 h0
        go_enter Tryz.func48, Tryz.ntmps48
        go_wp2
        go_ret
        exact ⟨by first | rfl | (rw [e2]), x⟩
    · have e : b = false := by rw [← HB.out]; exact decide_eq_false (by omega)
      subst e
      go_enter Tryz.func48, Tryz.ntmps48
      go_wp2
      go_ret
      exact ⟨rfl, x⟩
  · have e : b = false := by rw [← HB.out]; exact decide_eq_false (by omega)
    subst e
    go_enter Tryz.func48, Tryz.ntmps48
    go_wp2
    go_ret
    exact ⟨rfl, x⟩
/-- the option's text, and whether there is one -/
def optV (o : Option (List UInt8)) : Value := .tuple #[.string (bs (o.getD [])), .bool o.isSome]
theorem list_beq (a b : List UInt8) : ((bs a).toList == (bs b).toList) = decide (a = b) := by
  rw [ByteArray.toList_eq, ByteArray.toList_eq]
  have e1 : (bs a).data.toList = a := by simp
  have e2 : (bs b).data.toList = b := by simp
  rw [e1, e2, Bool.eq_iff_iff, beq_iff_eq, decide_eq_true_eq]
set_option maxHeartbeats 1000000 in
theorem named_any (s : ByteArray) (w : World) : Calls Tryz.prog 58 #[.string s] w (RVal (optV (namedL s.data.toList)) w) := by
  have x := Ext.refl w
  obtain ⟨r, hr⟩ : ∃ r, namedL s.data.toList = r := ⟨_, rfl⟩
  rw [hr]
  unfold namedL at hr
  have HR := Lib.hid hr
  clear hr
  by_cases h0 : s.data.toList = [97, 109, 112]
  · have e : r = some [38] := by rw [← HR.out, if_pos h0]
    have e0 : (s.toList == ([97, 109, 112] : List UInt8)) = true := by rw [ByteArray.toList_eq, h0]; rfl
    subst e
    clear  h0
    go_enter Tryz.func58, Tryz.ntmps58
    go_wp2
    go_ret2
    exact ⟨rfl, x⟩
  have e0 : (s.toList == ([97, 109, 112] : List UInt8)) = false := by rw [ByteArray.toList_eq, beq_eq_false_iff_ne]; exact h0
  by_cases h1 : s.data.toList = [108, 116]
  · have e : r = some [60] := by rw [← HR.out, if_neg h0, if_pos h1]
    have e1 : (s.toList == ([108, 116] : List UInt8)) = true := by rw [ByteArray.toList_eq, h1]; rfl
    subst e
    clear h0 h1
    go_enter Tryz.func58, Tryz.ntmps58
    go_wp2
    go_ret2
    exact ⟨rfl, x⟩
  have e1 : (s.toList == ([108, 116] : List UInt8)) = false := by rw [ByteArray.toList_eq, beq_eq_false_iff_ne]; exact h1
  by_cases h2 : s.data.toList = [103, 116]
  · have e : r = some [62] := by rw [← HR.out, if_neg h0, if_neg h1, if_pos h2]
    have e2 : (s.toList == ([103, 116] : List UInt8)) = true := by rw [ByteArray.toList_eq, h2]; rfl
    subst e
    clear h0 h1 h2
    go_enter Tryz.func58, Tryz.ntmps58
    go_wp2
    go_ret2
    exact ⟨rfl, x⟩
  have e2 : (s.toList == ([103, 116] : List UInt8)) = false := by rw [ByteArray.toList_eq, beq_eq_false_iff_ne]; exact h2
  by_cases h3 : s.data.toList = [113, 117, 111, 116]
  · have e : r = some [34] := by rw [← HR.out, if_neg h0, if_neg h1, if_neg h2, if_pos h3]
    have e3 : (s.toList == ([113, 117, 111, 116] : List UInt8)) = true := by rw [ByteArray.toList_eq, h3]; rfl
    subst e
    clear h0 h1 h2 h3
    go_enter Tryz.func58, Tryz.ntmps58
    go_wp2
    go_ret2
    exact ⟨rfl, x⟩
  have e3 : (s.toList == ([113, 117, 111, 116] : List UInt8)) = false := by rw [ByteArray.toList_eq, beq_eq_false_iff_ne]; exact h3
  by_cases h4 : s.data.toList = [97, 112, 111, 115]
  · have e : r = some [39] := by rw [← HR.out, if_neg h0, if_neg h1, if_neg h2, if_neg h3, if_pos h4]
    have e4 : (s.toList == ([97, 112, 111, 115] : List UInt8)) = true := by rw [ByteArray.toList_eq, h4]; rfl
    subst e
    clear h0 h1 h2 h3 h4
    go_enter Tryz.func58, Tryz.ntmps58
    go_wp2
    go_ret2
    exact ⟨rfl, x⟩
  have e4 : (s.toList == ([97, 112, 111, 115] : List UInt8)) = false := by rw [ByteArray.toList_eq, beq_eq_false_iff_ne]; exact h4
  by_cases h5 : s.data.toList = [110, 98, 115, 112]
  · have e : r = some [194, 160] := by rw [← HR.out, if_neg h0, if_neg h1, if_neg h2, if_neg h3, if_neg h4, if_pos h5]
    have e5 : (s.toList == ([110, 98, 115, 112] : List UInt8)) = true := by rw [ByteArray.toList_eq, h5]; rfl
    subst e
    clear h0 h1 h2 h3 h4 h5
    go_enter Tryz.func58, Tryz.ntmps58
    go_wp2
    go_ret2
    exact ⟨rfl, x⟩
  have e5 : (s.toList == ([110, 98, 115, 112] : List UInt8)) = false := by rw [ByteArray.toList_eq, beq_eq_false_iff_ne]; exact h5
  have e : r = none := by rw [← HR.out, if_neg h0, if_neg h1, if_neg h2, if_neg h3, if_neg h4, if_neg h5]
  subst e
  clear h0 h1 h2 h3 h4 h5
  go_enter Tryz.func58, Tryz.ntmps58
  go_wp2
  go_ret2
  exact ⟨rfl, x⟩
theorem bits_or32 (c : UInt8) : bits BinOp.or IntKind.u8 (c.toNat : Int) 32 = ((c ||| 32).toNat : Int) := by
  revert c
  exact all_bytes (p := fun c => bits BinOp.or IntKind.u8 (c.toNat : Int) 32 = ((c ||| 32).toNat : Int)) (by decide +kernel)
set_option maxHeartbeats 400000 in
theorem xletter_any (c : UInt8) (w : World) : Calls Tryz.prog 24 #[.int .u8 (c.toNat : Int)] w (RBool (letterB c) w) := by
  have x := Ext.refl w
  obtain ⟨b, hb⟩ : ∃ b, letterB c = b := ⟨_, rfl⟩
  rw [hb]
  unfold letterB at hb
  have hor := bits_or32 c
  generalize c ||| 32 = d at *
  have HB := Lib.hid hb
  clear hb
  by_cases h1 : (97 : Int) ≤ (d.toNat : Int)
  · by_cases h2 : (d.toNat : Int) ≤ 122
    · have e : b = true := by rw [← HB.out]; exact decide_eq_true (by omega)
      subst e
      go_enter Tryz.func24, Tryz.ntmps24
      go_wp2
      go_ret
      exact ⟨rfl, x⟩
    · have e : b = false := by rw [← HB.out]; exact decide_eq_false (by omega)
      subst e
      go_enter Tryz.func24, Tryz.ntmps24
      go_wp2
      go_ret
      exact ⟨rfl, x⟩
  · have e : b = false := by rw [← HB.out]; exact decide_eq_false (by omega)
    subst e
    go_enter Tryz.func24, Tryz.ntmps24
    go_wp2
    go_ret
    exact ⟨rfl, x⟩
set_option maxHeartbeats 400000 in
/-- a text written anew -/
theorem xanew_any (s : ByteArray) (hs : s.size ≤ 1000000000000) (w : World) : Calls Tryz.prog 8 #[.string s] w (RVal (.string (anewB s)) w) := by
  obtain ⟨v, w', h1, v2, hv, hx, hr, hc⟩ := runes_run s hs w
  cases hv
  have H1 := Lib.hid h1
  have H2 := Lib.hid (hc w' (Ext.refl w'))
  have HX := Lib.hid hx
  clear h1 hr hc hx hs
  go_enter Tryz.func8, Tryz.ntmps8
  go_wp2_with fail
  rw [H1.out]
  go_wp2_with fail
  rw [H2.out]
  go_wp2_with fail
  go_ret
  exact ⟨rfl, HX.out⟩
/-- no byte of the row is shared with a string -/
def Fr (g cap : Nat) (w : World) : Prop := ∃ cur fz, w.heap[g]? = some (.cells cur 5 fz) ∧ cap ≤ fz.1
theorem run_toBytesF (w : World) (s : ByteArray) (hs : s.size ≤ 140737488355328) : ∃ g cap w', (Go.convert 9 42 (.string s)).run Tryz.prog w = .ok (.slice (some ⟨g, 0, none⟩) s.size cap) w' ∧ Buf w (.slice (some ⟨g, 0, none⟩) s.size cap) s.data.toList w' ∧ Fr g cap w' := by
  obtain ⟨v, w', h1, h2⟩ := run_toBytes w s hs
  have h3 := Lib.run_convert_string_bytes (P := Tryz.prog) w 9 42 5 s Tryz.underlying9 Tryz.underlying42 Tryz.underlying5
  rw [h3] at h1
  injection h1 with e1 e2
  subst e1
  subst e2
  refine ⟨_, _, _, h3, h2, _, _, Lib.bytesWorld_at_new w 5 s, ?_⟩
  have hge := grownCap_ge w s.size 0 5
  have : (Lib.bytesCells w 5 s).size = grownCap w s.size 0 5 := by
    unfold Lib.bytesCells
    simp
    show s.size + _ = _
    omega
  exact Nat.le_of_eq this.symm
/-- one byte of a row in new memory is written -/
theorem Buf.set {W0 w : World} {l : List UInt8} {g n cap : Nat} (h : Buf W0 (.slice (some ⟨g, 0, none⟩) n cap) l w) (hf : Fr g cap w) {k : Nat} (hk : k < l.length) (c : UInt8) :
    w.frozen? ⟨g, k, none⟩ = false ∧ Buf W0 (.slice (some ⟨g, 0, none⟩) n cap) (l.set k c) (w.setCell ⟨g, k, none⟩ (.int .u8 (c.toNat : Int))) ∧ Fr g cap (w.setCell ⟨g, k, none⟩ (.int .u8 (c.toNat : Int))) := by
  obtain ⟨g', cap', cur, fz, h1, h2, h3, h4, h5, h6, h7, h8, h9, h10⟩ := h
  cases h1
  obtain ⟨cur2, fz2, h11, h12⟩ := hf
  rw [h3] at h11
  cases h11
  refine ⟨?_, ⟨g, cap, _, fz, by rw [List.length_set], h2, heap_setCell_same (i := k) h3 _, by rw [List.length_set]; exact h4, by rw [List.length_set]; exact h5, h6, by simpa using h7, ?_, h9.setCell (p := ⟨g, k, none⟩) h2 _, by simpa using h10⟩, _, fz, heap_setCell_same (i := k) h3 _, h12⟩
  · unfold World.frozen?
    simp only [h3]
    simp
    omega
  · rw [Array.toList_setIfInBounds, List.length_set, List.take_set, h8]
    unfold Lib.byteCells
    rw [List.map_set]
theorem part_step {l : List UInt8} {k : Nat} {c : UInt8} (h : l[k]? = some c) : (l.take (k + 1)).map smallC ++ l.drop (k + 1) = ((l.take k).map smallC ++ l.drop k).set k (smallC c) := by
  obtain ⟨hk, e⟩ := List.getElem?_eq_some_iff.1 h
  have hm : min k l.length = k := Nat.min_eq_left (Nat.le_of_lt hk)
  rw [List.take_succ_eq_append_getElem hk, List.map_append, List.drop_eq_getElem_cons hk, e, List.set_append_right _ _ (by simp; omega)]
  simp [hm]
theorem part_same {l : List UInt8} {k : Nat} {c : UInt8} (h : l[k]? = some c) (hc : smallC c = c) : (l.take (k + 1)).map smallC ++ l.drop (k + 1) = (l.take k).map smallC ++ l.drop k := by
  obtain ⟨hk, e⟩ := List.getElem?_eq_some_iff.1 h
  rw [List.take_succ_eq_append_getElem hk, List.map_append, List.drop_eq_getElem_cons hk, e]
  simp [hc]
set_option maxHeartbeats 1000000 in
/-- with small letters -/
theorem small_any (s : ByteArray) (hs : s.size ≤ 1000000000000) (w : World) : Calls Tryz.prog 44 #[.string s] w (RVal (.string (bs (s.data.toList.map smallC))) w) := by
  obtain ⟨g, cap, w1, h1, hb1, hf1⟩ := run_toBytesF w s (by omega)
  have hsz : s.data.toList.length = s.size := rfl
  obtain ⟨l, hl⟩ : ∃ l, s.data.toList = l := ⟨_, rfl⟩
  obtain ⟨N, hN⟩ : ∃ N, s.size = N := ⟨_, rfl⟩
  rw [hl] at hb1 hsz ⊢
  rw [hN] at hsz hb1 h1 hs
  have H1 := Lib.hid h1
  have HB1 := Lib.hid hb1
  have HF1 := Lib.hid hf1
  clear h1 hb1 hf1 hl hN
  go_enter Tryz.func44, Tryz.ntmps44
  go_wp2_with fail
  rw [H1.out]
  go_wp2_with fail
  go_loopw [4, 5, 10] (fun _ _ i wr => ∃ k : Nat, k ≤ N ∧ i = .int .i64 k ∧ Buf w (.slice (some ⟨g, 0, none⟩) N cap) ((l.take k).map smallC ++ l.drop k) wr ∧ Fr g cap wr) (fun _ _ i _ => N - (intOf i).toNat)
  case atStart => exact ⟨0, Nat.zero_le _, rfl, by simpa using HB1.out, HF1.out⟩
  case round =>
    obtain ⟨k, hk, rfl, hbr, hfr⟩ := hrel
    have HBR := Lib.hid hbr
    have HFR := Lib.hid hfr
    by_cases hlt : k < N
    · obtain ⟨c, hc⟩ : ∃ c, l[k]? = some c := ⟨l[k]'(by omega), List.getElem?_eq_getElem (by omega)⟩
      have hlen : ((l.take k).map smallC ++ l.drop k).length = N := by simp; omega
      have hcur : ((l.take k).map smallC ++ l.drop k)[k]? = some c := by
        rw [List.getElem?_append_right (by simp; omega)]
        have hm : min k l.length = k := Nat.min_eq_left (by omega)
        simp [hm, hc]
      have q := hbr.cells rfl k (.int .u8 (c.toNat : Int)) (by unfold Lib.byteCells; rw [List.getElem?_map, hcur]; rfl)
      rw [Addr.add_lit, Nat.zero_add] at q
      obtain ⟨fq, hset, hfs⟩ := hbr.set hfr (k := k) (by omega) (smallC c)
      rw [← part_step hc] at hset
      have HSET := Lib.hid (And.intro hset hfs)
      have HSAME := Lib.hid (fun h : smallC c = c => part_same hc h)
      have hor := bits_or32 c
      clear hset hbr hcur hlen hc hfr hfs
      by_cases b1 : (65 : Int) ≤ (c.toNat : Int)
      · by_cases b2 : (c.toNat : Int) ≤ 90
        · have e : smallC c = c ||| 32 := by unfold smallC; rw [if_pos ⟨by omega, by omega⟩]
          rw [e] at HSET
          clear e
          go_wp2_with fail
          go_roundw
          case rel => exact ⟨k + 1, by omega, by go_num, HSET.out.1, HSET.out.2⟩
          case measure => simp [intOf]; omega
        · have e := HSAME.out (by unfold smallC; rw [if_neg (by omega)])
          have HSM := Lib.hid e
          clear e
          go_wp2_with fail
          go_roundw
          case rel => exact ⟨k + 1, by omega, by go_num, by rw [HSM.out]; exact HBR.out, HFR.out⟩
          case measure => simp [intOf]; omega
      · have e := HSAME.out (by unfold smallC; rw [if_neg (by omega)])
        have HSM := Lib.hid e
        clear e
        go_wp2_with fail
        go_roundw
        case rel => exact ⟨k + 1, by omega, by go_num, by rw [HSM.out]; exact HBR.out, HFR.out⟩
        case measure => simp [intOf]; omega
    · obtain rfl : k = N := by omega
      have e : (l.take k).map smallC ++ l.drop k = l.map smallC := by rw [List.take_of_length_le (by omega), List.drop_eq_nil_of_le (by omega), List.append_nil]
      rw [e] at hbr HBR
      have hcv := run_ofBytes hbr
      have HCV := Lib.hid hcv
      clear hbr hcv e
      go_wp2_with fail
      rw [HCV.out]
      go_wp2_with fail
      go_ret
      exact ⟨rfl, HBR.out.ex⟩
end Go.Proofs.YtdafdoodegpdhaaGreatDoor

namespace Go.Proofs.YtdafdoodegpdhaaGreatDoor
open Go Go.RowKit Go.BigFrame
set_option linter.unusedVariables false
set_option linter.unusedSimpArgs false

set_option maxHeartbeats 400000 in
set_option maxRecDepth 100000 in
theorem lower_any (c : UInt8) (w : World) : Calls Tryz.prog 93 #[.int .u8 (c.toNat : Int)] w (fun e w' => e = .returned (.int .u8 ((c ||| 32).toNat : Int)) ∧ w' = w) := by
  have hor := bits_or32 c
  go_enter Tryz.func93, Tryz.ntmps93
  go_wp2_with fail
  go_ret
  exact ⟨by first | rw [hor] | (rw [UInt8.toNat_or]; rfl), rfl⟩
/-- what a byte is as a digit, by its small letter -/
def pdig (c : UInt8) : Nat := if 48 ≤ c.toNat ∧ c.toNat ≤ 57 then c.toNat - 48 else if 97 ≤ (c ||| 32).toNat ∧ (c ||| 32).toNat ≤ 122 then (c ||| 32).toNat - 87 else 99
theorem pdig_digV (b : Nat) (hb : b ≤ 16) (c : UInt8) : (pdig c < b ↔ digV c < b) ∧ (digV c < b → pdig c = digV c) := by
  have h : ∀ c : UInt8, (pdig c < 16 ↔ digV c < 16) ∧ (digV c < 16 → pdig c = digV c) := all_bytes (p := fun c => (pdig c < 16 ↔ digV c < 16) ∧ (digV c < 16 → pdig c = digV c)) (by decide +kernel)
  obtain ⟨h1, h2⟩ := h c
  refine ⟨⟨fun h3 => ?_, fun h3 => ?_⟩, fun h3 => h2 (by omega)⟩
  · have := h2 (h1.1 (by omega)); omega
  · have := h2 (by omega); omega
def PUis (r : Option Nat) (w : World) (e : Ending) (w' : World) : Prop := e = .returned (.tuple #[.int .u64 (r.getD 0 : Nat), match r with | some _ => .nilIface | none => .iface 109 (.int .i64 2)]) ∧ Ext w w'
theorem pow_le7 {k : Nat} (h : k ≤ 7) : 16 ^ k ≤ 268435456 := Nat.pow_le_pow_right (by decide) h
set_option maxHeartbeats 2000000 in
set_option maxRecDepth 100000 in
theorem pu10_any (s : ByteArray) (h0 : s.size ≠ 0) (h7 : s.size ≤ 7) (w : World) : Calls Tryz.prog 88 #[.string s, .int .i64 10, .int .i64 32] w (PUis (numL 10 0 s.data.toList) w) := by
  obtain ⟨g, cap, w1, h1, hb1, hf1⟩ := run_toBytesF w s (by omega)
  have e0 : (s.toList == ([] : List UInt8)) = false := by rw [ByteArray.toList_eq, beq_eq_false_iff_ne]; intro h; exact h0 (by show s.data.size = 0; have := congrArg List.length h; simpa using this)
  have hsz : s.data.toList.length = s.size := rfl
  obtain ⟨l, hl⟩ : ∃ l, s.data.toList = l := ⟨_, rfl⟩
  obtain ⟨N, hN⟩ : ∃ N, s.size = N := ⟨_, rfl⟩
  rw [hl] at hb1 hsz ⊢
  rw [hN] at hsz hb1 h1 h7
  obtain ⟨r, hr⟩ : ∃ r, numL 10 0 l = r := ⟨_, rfl⟩
  rw [hr]
  have HR := Lib.hid hr
  have H1 := Lib.hid h1
  have HB1 := Lib.hid hb1
  clear h1 hb1 hf1 hl hN hr h0
  go_enter Tryz.func88, Tryz.ntmps88
  go_wp2_with fail
  rw [H1.out]
  go_wp2_with fail
  go_loopw [12, 13, 15, 16, 17, 101] (fun u n _ _ _ i wr => ∃ (k m : Nat), k ≤ N ∧ i = .int .i64 k ∧ u = .bool false ∧ n = .int .u64 m ∧ numL 10 m (l.drop k) = r ∧ m < 16 ^ k ∧ Ext w1 wr) (fun _ _ _ _ _ i _ => N - (intOf i).toNat)
  case atStart => exact ⟨0, 0, Nat.zero_le _, rfl, rfl, rfl, by simpa using HR.out, by decide, Ext.refl _⟩
  case round =>
    obtain ⟨k, m, hk, rfl, rfl, rfl, hnum, hm, xr⟩ := hrel
    have hp7 := pow_le7 (k := k) (by omega)
    have HNUM := Lib.hid hnum
    have XR := Lib.hid xr
    clear hnum
    by_cases hlt : k < N
    · obtain ⟨c, hc⟩ : ∃ c, l[k]? = some c := ⟨l[k]'(by omega), List.getElem?_eq_getElem (by omega)⟩
      have q := (HB1.out.ext xr).cells rfl k (.int .u8 (c.toNat : Int)) (by unfold Lib.byteCells; rw [List.getElem?_map, hc]; rfl)
      rw [Addr.add_lit, Nat.zero_add] at q
      have hdrop : l.drop k = c :: l.drop (k + 1) := by
        obtain ⟨hk2, e⟩ := List.getElem?_eq_some_iff.1 hc
        rw [List.drop_eq_getElem_cons hk2, e]
      have hn := HNUM.out
      rw [hdrop, numL] at hn
      obtain ⟨p1, p2⟩ := pdig_digV 10 (by decide) c
      have bad : ¬ pdig c < 10 → r = none := fun h => by rw [← hn, if_pos (by omega)]
      have good : pdig c < 10 → numL 10 (m * 10 + pdig c) (l.drop (k + 1)) = r := fun h => by
        rw [p2 (p1.1 h), ← hn, if_neg (by have := p1.1 h; omega)]
      have pw : 16 ^ (k + 1) = 16 ^ k * 16 := Nat.pow_succ 16 k
      have BAD := Lib.hid bad
      have GOOD := Lib.hid good
      have HLOW := Lib.hid (lower_any c)
      have PW := Lib.hid pw
      have PD := Lib.hid (show pdig c = if 48 ≤ c.toNat ∧ c.toNat ≤ 57 then c.toNat - 48 else if 97 ≤ (c ||| 32).toNat ∧ (c ||| 32).toNat ≤ 122 then (c ||| 32).toNat - 87 else 99 from rfl)
      obtain ⟨P, hP⟩ : ∃ P, 16 ^ k = P := ⟨_, rfl⟩
      rw [hP] at hm hp7 PW
      obtain ⟨d, hd⟩ : ∃ d, pdig c = d := ⟨_, rfl⟩
      rw [hd] at BAD GOOD PD
      obtain ⟨lo, hlo⟩ : ∃ lo, (c ||| 32).toNat = lo := ⟨_, rfl⟩
      rw [hlo] at HLOW PD
      have hl256 : lo < 256 := by rw [← hlo]; exact (c ||| 32).toNat_lt
      have hc256 : c.toNat < 256 := c.toNat_lt
      have b95 : ((c.toNat : Int) == 95) = true ∨ ((c.toNat : Int) == 95) = false := by cases ((c.toNat : Int) == 95); exact .inr rfl; exact .inl rfl
      clear hc hdrop hn p1 p2 bad good pw hP hd hlo xr
      have hcut : ¬ (1844674407370955162 : Int) ≤ (m : Int) := by omega
      have hcuti : decide ((1844674407370955162 : Int) ≤ (m : Int)) = false := decide_eq_false hcut
      have hcutn : decide (1844674407370955162 ≤ m) = false := decide_eq_false (by omega)
      rcases b95 with b95 | b95
      · by_cases c1 : (48 : Int) ≤ (c.toNat : Int)
        · by_cases c2 : (c.toNat : Int) ≤ 57
          · have hd : d = c.toNat - 48 := by rw [PD.out, if_pos ⟨by omega, by omega⟩]
            have hw1 : IntKind.u8.wrap ((c.toNat : Int) - 48) = (d : Int) := by rw [IntWalk.u8_in _ (by omega)]; omega
            by_cases hdb : d < 10
            · have G := Lib.hid (GOOD.out hdb)
              have h3 : ¬ (10 : Int) ≤ (d : Int) := by omega
              have h3d : decide (10 ≤ d) = false := decide_eq_false (by omega)
              have h3i : decide ((10 : Int) ≤ (d : Int)) = false := decide_eq_false h3
              have hm1 : IntKind.u64.wrap ((m : Int) * 10) = (m : Int) * 10 := IntWalk.u64_in _ (by omega)
              have hm2 : IntKind.u64.wrap ((m : Int) * 10 + (d : Int)) = (m : Int) * 10 + (d : Int) := IntWalk.u64_in _ (by omega)
              have h4 : ¬ (m : Int) * 10 + (d : Int) < (m : Int) * 10 := by omega
              have h4i : decide ((m : Int) * 10 + (d : Int) < (m : Int) * 10) = false := decide_eq_false h4
              have h5 : ¬ (4294967295 : Int) < (m : Int) * 10 + (d : Int) := by omega
              have h5i : decide ((4294967295 : Int) < (m : Int) * 10 + (d : Int)) = false := decide_eq_false h5
              have hpw : m * 10 + d < 16 ^ (k + 1) := by rw [PW.out]; omega
              have HPW := Lib.hid hpw
              clear hpw hdb hd
              go_wp2_with fail
              go_roundw
              case rel => exact ⟨k + 1, m * 10 + d, by omega, by go_num, rfl, by push_cast; rfl, G.out, HPW.out, XR.out⟩
              case measure => simp [intOf]; omega
            · have hr0 : r = none := BAD.out hdb
              have h3 : (10 : Int) ≤ (d : Int) := by omega
              subst hr0
              clear hdb hd
              go_wp2_with fail
              go_ret2
              exact ⟨rfl, HB1.out.ex.trans XR.out⟩
          · skip
            by_cases l1 : (97 : Int) ≤ (lo : Int)
            · have j1 : decide (97 ≤ lo) = true := decide_eq_true (by omega)
              have j1i : decide ((97 : Int) ≤ (lo : Int)) = true := decide_eq_true l1
              by_cases l2 : (lo : Int) ≤ 122
              · have j2 : decide (lo ≤ 122) = true := decide_eq_true (by omega)
                have j2i : decide ((lo : Int) ≤ 122) = true := decide_eq_true l2
                have hd : d = lo - 87 := by rw [PD.out, if_neg (by omega), if_pos ⟨by omega, by omega⟩]
                have hw1 : IntKind.u8.wrap ((lo : Int) - 97) = (lo : Int) - 97 := IntWalk.u8_in _ (by omega)
                have hw2 : IntKind.u8.wrap ((lo : Int) - 97 + 10) = (d : Int) := by rw [IntWalk.u8_in _ (by omega)]; omega
                by_cases hdb : d < 10
                · exact absurd hdb (by omega)
                · have hr0 : r = none := BAD.out hdb
                  have h3 : (10 : Int) ≤ (d : Int) := by omega
                  subst hr0
                  clear hdb hd
                  go_wp2_with (go_at_call 93; refine (HLOW.out _).mono ?_; rintro e wx ⟨rfl, hwx⟩; rw [hwx]; clear hwx)
                  go_ret2
                  exact ⟨rfl, HB1.out.ex.trans XR.out⟩
              · have j2 : decide (lo ≤ 122) = false := decide_eq_false (by omega)
                have j2i : decide ((lo : Int) ≤ 122) = false := decide_eq_false l2
                have hr0 : r = none := BAD.out (by rw [PD.out, if_neg (by omega), if_neg (by omega)]; decide)
                subst hr0
                go_wp2_with (go_at_call 93; refine (HLOW.out _).mono ?_; rintro e wx ⟨rfl, hwx⟩; rw [hwx]; clear hwx)
                go_ret2
                exact ⟨rfl, HB1.out.ex.trans XR.out⟩
            · have j1 : decide (97 ≤ lo) = false := decide_eq_false (by omega)
              have j1i : decide ((97 : Int) ≤ (lo : Int)) = false := decide_eq_false l1
              have hr0 : r = none := BAD.out (by rw [PD.out, if_neg (by omega), if_neg (by omega)]; decide)
              subst hr0
              go_wp2_with (go_at_call 93; refine (HLOW.out _).mono ?_; rintro e wx ⟨rfl, hwx⟩; rw [hwx]; clear hwx)
              go_ret2
              exact ⟨rfl, HB1.out.ex.trans XR.out⟩
        · skip
          by_cases l1 : (97 : Int) ≤ (lo : Int)
          · have j1 : decide (97 ≤ lo) = true := decide_eq_true (by omega)
            have j1i : decide ((97 : Int) ≤ (lo : Int)) = true := decide_eq_true l1
            by_cases l2 : (lo : Int) ≤ 122
            · have j2 : decide (lo ≤ 122) = true := decide_eq_true (by omega)
              have j2i : decide ((lo : Int) ≤ 122) = true := decide_eq_true l2
              have hd : d = lo - 87 := by rw [PD.out, if_neg (by omega), if_pos ⟨by omega, by omega⟩]
              have hw1 : IntKind.u8.wrap ((lo : Int) - 97) = (lo : Int) - 97 := IntWalk.u8_in _ (by omega)
              have hw2 : IntKind.u8.wrap ((lo : Int) - 97 + 10) = (d : Int) := by rw [IntWalk.u8_in _ (by omega)]; omega
              by_cases hdb : d < 10
              · exact absurd hdb (by omega)
              · have hr0 : r = none := BAD.out hdb
                have h3 : (10 : Int) ≤ (d : Int) := by omega
                subst hr0
                clear hdb hd
                go_wp2_with (go_at_call 93; refine (HLOW.out _).mono ?_; rintro e wx ⟨rfl, hwx⟩; rw [hwx]; clear hwx)
                go_ret2
                exact ⟨rfl, HB1.out.ex.trans XR.out⟩
            · have j2 : decide (lo ≤ 122) = false := decide_eq_false (by omega)
              have j2i : decide ((lo : Int) ≤ 122) = false := decide_eq_false l2
              have hr0 : r = none := BAD.out (by rw [PD.out, if_neg (by omega), if_neg (by omega)]; decide)
              subst hr0
              go_wp2_with (go_at_call 93; refine (HLOW.out _).mono ?_; rintro e wx ⟨rfl, hwx⟩; rw [hwx]; clear hwx)
              go_ret2
              exact ⟨rfl, HB1.out.ex.trans XR.out⟩
          · have j1 : decide (97 ≤ lo) = false := decide_eq_false (by omega)
            have j1i : decide ((97 : Int) ≤ (lo : Int)) = false := decide_eq_false l1
            have hr0 : r = none := BAD.out (by rw [PD.out, if_neg (by omega), if_neg (by omega)]; decide)
            subst hr0
            go_wp2_with (go_at_call 93; refine (HLOW.out _).mono ?_; rintro e wx ⟨rfl, hwx⟩; rw [hwx]; clear hwx)
            go_ret2
            exact ⟨rfl, HB1.out.ex.trans XR.out⟩
      · by_cases c1 : (48 : Int) ≤ (c.toNat : Int)
        · by_cases c2 : (c.toNat : Int) ≤ 57
          · have hd : d = c.toNat - 48 := by rw [PD.out, if_pos ⟨by omega, by omega⟩]
            have hw1 : IntKind.u8.wrap ((c.toNat : Int) - 48) = (d : Int) := by rw [IntWalk.u8_in _ (by omega)]; omega
            by_cases hdb : d < 10
            · have G := Lib.hid (GOOD.out hdb)
              have h3 : ¬ (10 : Int) ≤ (d : Int) := by omega
              have h3d : decide (10 ≤ d) = false := decide_eq_false (by omega)
              have h3i : decide ((10 : Int) ≤ (d : Int)) = false := decide_eq_false h3
              have hm1 : IntKind.u64.wrap ((m : Int) * 10) = (m : Int) * 10 := IntWalk.u64_in _ (by omega)
              have hm2 : IntKind.u64.wrap ((m : Int) * 10 + (d : Int)) = (m : Int) * 10 + (d : Int) := IntWalk.u64_in _ (by omega)
              have h4 : ¬ (m : Int) * 10 + (d : Int) < (m : Int) * 10 := by omega
              have h4i : decide ((m : Int) * 10 + (d : Int) < (m : Int) * 10) = false := decide_eq_false h4
              have h5 : ¬ (4294967295 : Int) < (m : Int) * 10 + (d : Int) := by omega
              have h5i : decide ((4294967295 : Int) < (m : Int) * 10 + (d : Int)) = false := decide_eq_false h5
              have hpw : m * 10 + d < 16 ^ (k + 1) := by rw [PW.out]; omega
              have HPW := Lib.hid hpw
              clear hpw hdb hd
              go_wp2_with fail
              go_roundw
              case rel => exact ⟨k + 1, m * 10 + d, by omega, by go_num, rfl, by push_cast; rfl, G.out, HPW.out, XR.out⟩
              case measure => simp [intOf]; omega
            · have hr0 : r = none := BAD.out hdb
              have h3 : (10 : Int) ≤ (d : Int) := by omega
              subst hr0
              clear hdb hd
              go_wp2_with fail
              go_ret2
              exact ⟨rfl, HB1.out.ex.trans XR.out⟩
          · skip
            by_cases l1 : (97 : Int) ≤ (lo : Int)
            · have j1 : decide (97 ≤ lo) = true := decide_eq_true (by omega)
              have j1i : decide ((97 : Int) ≤ (lo : Int)) = true := decide_eq_true l1
              by_cases l2 : (lo : Int) ≤ 122
              · have j2 : decide (lo ≤ 122) = true := decide_eq_true (by omega)
                have j2i : decide ((lo : Int) ≤ 122) = true := decide_eq_true l2
                have hd : d = lo - 87 := by rw [PD.out, if_neg (by omega), if_pos ⟨by omega, by omega⟩]
                have hw1 : IntKind.u8.wrap ((lo : Int) - 97) = (lo : Int) - 97 := IntWalk.u8_in _ (by omega)
                have hw2 : IntKind.u8.wrap ((lo : Int) - 97 + 10) = (d : Int) := by rw [IntWalk.u8_in _ (by omega)]; omega
                by_cases hdb : d < 10
                · exact absurd hdb (by omega)
                · have hr0 : r = none := BAD.out hdb
                  have h3 : (10 : Int) ≤ (d : Int) := by omega
                  subst hr0
                  clear hdb hd
                  go_wp2_with (go_at_call 93; refine (HLOW.out _).mono ?_; rintro e wx ⟨rfl, hwx⟩; rw [hwx]; clear hwx)
                  go_ret2
                  exact ⟨rfl, HB1.out.ex.trans XR.out⟩
              · have j2 : decide (lo ≤ 122) = false := decide_eq_false (by omega)
                have j2i : decide ((lo : Int) ≤ 122) = false := decide_eq_false l2
                have hr0 : r = none := BAD.out (by rw [PD.out, if_neg (by omega), if_neg (by omega)]; decide)
                subst hr0
                go_wp2_with (go_at_call 93; refine (HLOW.out _).mono ?_; rintro e wx ⟨rfl, hwx⟩; rw [hwx]; clear hwx)
                go_ret2
                exact ⟨rfl, HB1.out.ex.trans XR.out⟩
            · have j1 : decide (97 ≤ lo) = false := decide_eq_false (by omega)
              have j1i : decide ((97 : Int) ≤ (lo : Int)) = false := decide_eq_false l1
              have hr0 : r = none := BAD.out (by rw [PD.out, if_neg (by omega), if_neg (by omega)]; decide)
              subst hr0
              go_wp2_with (go_at_call 93; refine (HLOW.out _).mono ?_; rintro e wx ⟨rfl, hwx⟩; rw [hwx]; clear hwx)
              go_ret2
              exact ⟨rfl, HB1.out.ex.trans XR.out⟩
        · skip
          by_cases l1 : (97 : Int) ≤ (lo : Int)
          · have j1 : decide (97 ≤ lo) = true := decide_eq_true (by omega)
            have j1i : decide ((97 : Int) ≤ (lo : Int)) = true := decide_eq_true l1
            by_cases l2 : (lo : Int) ≤ 122
            · have j2 : decide (lo ≤ 122) = true := decide_eq_true (by omega)
              have j2i : decide ((lo : Int) ≤ 122) = true := decide_eq_true l2
              have hd : d = lo - 87 := by rw [PD.out, if_neg (by omega), if_pos ⟨by omega, by omega⟩]
              have hw1 : IntKind.u8.wrap ((lo : Int) - 97) = (lo : Int) - 97 := IntWalk.u8_in _ (by omega)
              have hw2 : IntKind.u8.wrap ((lo : Int) - 97 + 10) = (d : Int) := by rw [IntWalk.u8_in _ (by omega)]; omega
              by_cases hdb : d < 10
              · exact absurd hdb (by omega)
              · have hr0 : r = none := BAD.out hdb
                have h3 : (10 : Int) ≤ (d : Int) := by omega
                subst hr0
                clear hdb hd
                go_wp2_with (go_at_call 93; refine (HLOW.out _).mono ?_; rintro e wx ⟨rfl, hwx⟩; rw [hwx]; clear hwx)
                go_ret2
                exact ⟨rfl, HB1.out.ex.trans XR.out⟩
            · have j2 : decide (lo ≤ 122) = false := decide_eq_false (by omega)
              have j2i : decide ((lo : Int) ≤ 122) = false := decide_eq_false l2
              have hr0 : r = none := BAD.out (by rw [PD.out, if_neg (by omega), if_neg (by omega)]; decide)
              subst hr0
              go_wp2_with (go_at_call 93; refine (HLOW.out _).mono ?_; rintro e wx ⟨rfl, hwx⟩; rw [hwx]; clear hwx)
              go_ret2
              exact ⟨rfl, HB1.out.ex.trans XR.out⟩
          · have j1 : decide (97 ≤ lo) = false := decide_eq_false (by omega)
            have j1i : decide ((97 : Int) ≤ (lo : Int)) = false := decide_eq_false l1
            have hr0 : r = none := BAD.out (by rw [PD.out, if_neg (by omega), if_neg (by omega)]; decide)
            subst hr0
            go_wp2_with (go_at_call 93; refine (HLOW.out _).mono ?_; rintro e wx ⟨rfl, hwx⟩; rw [hwx]; clear hwx)
            go_ret2
            exact ⟨rfl, HB1.out.ex.trans XR.out⟩
    · obtain rfl : k = N := by omega
      have hr1 : r = some m := by rw [← HNUM.out, List.drop_eq_nil_of_le (by omega)]; rfl
      subst hr1
      clear xr
      go_wp2_with fail
      go_ret2
      exact ⟨rfl, HB1.out.ex.trans XR.out⟩
set_option maxHeartbeats 2000000 in
set_option maxRecDepth 100000 in
theorem pu16_any (s : ByteArray) (h0 : s.size ≠ 0) (h7 : s.size ≤ 7) (w : World) : Calls Tryz.prog 88 #[.string s, .int .i64 16, .int .i64 32] w (PUis (numL 16 0 s.data.toList) w) := by
  obtain ⟨g, cap, w1, h1, hb1, hf1⟩ := run_toBytesF w s (by omega)
  have e0 : (s.toList == ([] : List UInt8)) = false := by rw [ByteArray.toList_eq, beq_eq_false_iff_ne]; intro h; exact h0 (by show s.data.size = 0; have := congrArg List.length h; simpa using this)
  have hsz : s.data.toList.length = s.size := rfl
  obtain ⟨l, hl⟩ : ∃ l, s.data.toList = l := ⟨_, rfl⟩
  obtain ⟨N, hN⟩ : ∃ N, s.size = N := ⟨_, rfl⟩
  rw [hl] at hb1 hsz ⊢
  rw [hN] at hsz hb1 h1 h7
  obtain ⟨r, hr⟩ : ∃ r, numL 16 0 l = r := ⟨_, rfl⟩
  rw [hr]
  have HR := Lib.hid hr
  have H1 := Lib.hid h1
  have HB1 := Lib.hid hb1
  clear h1 hb1 hf1 hl hN hr h0
  go_enter Tryz.func88, Tryz.ntmps88
  go_wp2_with fail
  rw [H1.out]
  go_wp2_with fail
  go_loopw [12, 13, 15, 16, 17, 101] (fun u n _ _ _ i wr => ∃ (k m : Nat), k ≤ N ∧ i = .int .i64 k ∧ u = .bool false ∧ n = .int .u64 m ∧ numL 16 m (l.drop k) = r ∧ m < 16 ^ k ∧ Ext w1 wr) (fun _ _ _ _ _ i _ => N - (intOf i).toNat)
  case atStart => exact ⟨0, 0, Nat.zero_le _, rfl, rfl, rfl, by simpa using HR.out, by decide, Ext.refl _⟩
  case round =>
    obtain ⟨k, m, hk, rfl, rfl, rfl, hnum, hm, xr⟩ := hrel
    have hp7 := pow_le7 (k := k) (by omega)
    have HNUM := Lib.hid hnum
    have XR := Lib.hid xr
    clear hnum
    by_cases hlt : k < N
    · obtain ⟨c, hc⟩ : ∃ c, l[k]? = some c := ⟨l[k]'(by omega), List.getElem?_eq_getElem (by omega)⟩
      have q := (HB1.out.ext xr).cells rfl k (.int .u8 (c.toNat : Int)) (by unfold Lib.byteCells; rw [List.getElem?_map, hc]; rfl)
      rw [Addr.add_lit, Nat.zero_add] at q
      have hdrop : l.drop k = c :: l.drop (k + 1) := by
        obtain ⟨hk2, e⟩ := List.getElem?_eq_some_iff.1 hc
        rw [List.drop_eq_getElem_cons hk2, e]
      have hn := HNUM.out
      rw [hdrop, numL] at hn
      obtain ⟨p1, p2⟩ := pdig_digV 16 (by decide) c
      have bad : ¬ pdig c < 16 → r = none := fun h => by rw [← hn, if_pos (by omega)]
      have good : pdig c < 16 → numL 16 (m * 16 + pdig c) (l.drop (k + 1)) = r := fun h => by
        rw [p2 (p1.1 h), ← hn, if_neg (by have := p1.1 h; omega)]
      have pw : 16 ^ (k + 1) = 16 ^ k * 16 := Nat.pow_succ 16 k
      have BAD := Lib.hid bad
      have GOOD := Lib.hid good
      have HLOW := Lib.hid (lower_any c)
      have PW := Lib.hid pw
      have PD := Lib.hid (show pdig c = if 48 ≤ c.toNat ∧ c.toNat ≤ 57 then c.toNat - 48 else if 97 ≤ (c ||| 32).toNat ∧ (c ||| 32).toNat ≤ 122 then (c ||| 32).toNat - 87 else 99 from rfl)
      obtain ⟨P, hP⟩ : ∃ P, 16 ^ k = P := ⟨_, rfl⟩
      rw [hP] at hm hp7 PW
      obtain ⟨d, hd⟩ : ∃ d, pdig c = d := ⟨_, rfl⟩
      rw [hd] at BAD GOOD PD
      obtain ⟨lo, hlo⟩ : ∃ lo, (c ||| 32).toNat = lo := ⟨_, rfl⟩
      rw [hlo] at HLOW PD
      have hl256 : lo < 256 := by rw [← hlo]; exact (c ||| 32).toNat_lt
      have hc256 : c.toNat < 256 := c.toNat_lt
      have b95 : ((c.toNat : Int) == 95) = true ∨ ((c.toNat : Int) == 95) = false := by cases ((c.toNat : Int) == 95); exact .inr rfl; exact .inl rfl
      clear hc hdrop hn p1 p2 bad good pw hP hd hlo xr
      have hcut : ¬ (1152921504606846976 : Int) ≤ (m : Int) := by omega
      have hcuti : decide ((1152921504606846976 : Int) ≤ (m : Int)) = false := decide_eq_false hcut
      have hcutn : decide (1152921504606846976 ≤ m) = false := decide_eq_false (by omega)
      rcases b95 with b95 | b95
      · by_cases c1 : (48 : Int) ≤ (c.toNat : Int)
        · by_cases c2 : (c.toNat : Int) ≤ 57
          · have hd : d = c.toNat - 48 := by rw [PD.out, if_pos ⟨by omega, by omega⟩]
            have hw1 : IntKind.u8.wrap ((c.toNat : Int) - 48) = (d : Int) := by rw [IntWalk.u8_in _ (by omega)]; omega
            by_cases hdb : d < 16
            · have G := Lib.hid (GOOD.out hdb)
              have h3 : ¬ (16 : Int) ≤ (d : Int) := by omega
              have h3d : decide (16 ≤ d) = false := decide_eq_false (by omega)
              have h3i : decide ((16 : Int) ≤ (d : Int)) = false := decide_eq_false h3
              have hm1 : IntKind.u64.wrap ((m : Int) * 16) = (m : Int) * 16 := IntWalk.u64_in _ (by omega)
              have hm2 : IntKind.u64.wrap ((m : Int) * 16 + (d : Int)) = (m : Int) * 16 + (d : Int) := IntWalk.u64_in _ (by omega)
              have h4 : ¬ (m : Int) * 16 + (d : Int) < (m : Int) * 16 := by omega
              have h4i : decide ((m : Int) * 16 + (d : Int) < (m : Int) * 16) = false := decide_eq_false h4
              have h5 : ¬ (4294967295 : Int) < (m : Int) * 16 + (d : Int) := by omega
              have h5i : decide ((4294967295 : Int) < (m : Int) * 16 + (d : Int)) = false := decide_eq_false h5
              have hpw : m * 16 + d < 16 ^ (k + 1) := by rw [PW.out]; omega
              have HPW := Lib.hid hpw
              clear hpw hdb hd
              go_wp2_with fail
              go_roundw
              case rel => exact ⟨k + 1, m * 16 + d, by omega, by go_num, rfl, by push_cast; rfl, G.out, HPW.out, XR.out⟩
              case measure => simp [intOf]; omega
            · have hr0 : r = none := BAD.out hdb
              have h3 : (16 : Int) ≤ (d : Int) := by omega
              subst hr0
              clear hdb hd
              go_wp2_with fail
              go_ret2
              exact ⟨rfl, HB1.out.ex.trans XR.out⟩
          · skip
            by_cases l1 : (97 : Int) ≤ (lo : Int)
            · have j1 : decide (97 ≤ lo) = true := decide_eq_true (by omega)
              have j1i : decide ((97 : Int) ≤ (lo : Int)) = true := decide_eq_true l1
              by_cases l2 : (lo : Int) ≤ 122
              · have j2 : decide (lo ≤ 122) = true := decide_eq_true (by omega)
                have j2i : decide ((lo : Int) ≤ 122) = true := decide_eq_true l2
                have hd : d = lo - 87 := by rw [PD.out, if_neg (by omega), if_pos ⟨by omega, by omega⟩]
                have hw1 : IntKind.u8.wrap ((lo : Int) - 97) = (lo : Int) - 97 := IntWalk.u8_in _ (by omega)
                have hw2 : IntKind.u8.wrap ((lo : Int) - 97 + 10) = (d : Int) := by rw [IntWalk.u8_in _ (by omega)]; omega
                by_cases hdb : d < 16
                · have G := Lib.hid (GOOD.out hdb)
                  have h3 : ¬ (16 : Int) ≤ (d : Int) := by omega
                  have h3d : decide (16 ≤ d) = false := decide_eq_false (by omega)
                  have h3i : decide ((16 : Int) ≤ (d : Int)) = false := decide_eq_false h3
                  have hm1 : IntKind.u64.wrap ((m : Int) * 16) = (m : Int) * 16 := IntWalk.u64_in _ (by omega)
                  have hm2 : IntKind.u64.wrap ((m : Int) * 16 + (d : Int)) = (m : Int) * 16 + (d : Int) := IntWalk.u64_in _ (by omega)
                  have h4 : ¬ (m : Int) * 16 + (d : Int) < (m : Int) * 16 := by omega
                  have h4i : decide ((m : Int) * 16 + (d : Int) < (m : Int) * 16) = false := decide_eq_false h4
                  have h5 : ¬ (4294967295 : Int) < (m : Int) * 16 + (d : Int) := by omega
                  have h5i : decide ((4294967295 : Int) < (m : Int) * 16 + (d : Int)) = false := decide_eq_false h5
                  have hpw : m * 16 + d < 16 ^ (k + 1) := by rw [PW.out]; omega
                  have HPW := Lib.hid hpw
                  clear hpw hdb hd
                  go_wp2_with (go_at_call 93; refine (HLOW.out _).mono ?_; rintro e wx ⟨rfl, hwx⟩; rw [hwx]; clear hwx)
                  go_roundw
                  case rel => exact ⟨k + 1, m * 16 + d, by omega, by go_num, rfl, by push_cast; rfl, G.out, HPW.out, XR.out⟩
                  case measure => simp [intOf]; omega
                · have hr0 : r = none := BAD.out hdb
                  have h3 : (16 : Int) ≤ (d : Int) := by omega
                  subst hr0
                  clear hdb hd
                  go_wp2_with (go_at_call 93; refine (HLOW.out _).mono ?_; rintro e wx ⟨rfl, hwx⟩; rw [hwx]; clear hwx)
                  go_ret2
                  exact ⟨rfl, HB1.out.ex.trans XR.out⟩
              · have j2 : decide (lo ≤ 122) = false := decide_eq_false (by omega)
                have j2i : decide ((lo : Int) ≤ 122) = false := decide_eq_false l2
                have hr0 : r = none := BAD.out (by rw [PD.out, if_neg (by omega), if_neg (by omega)]; decide)
                subst hr0
                go_wp2_with (go_at_call 93; refine (HLOW.out _).mono ?_; rintro e wx ⟨rfl, hwx⟩; rw [hwx]; clear hwx)
                go_ret2
                exact ⟨rfl, HB1.out.ex.trans XR.out⟩
            · have j1 : decide (97 ≤ lo) = false := decide_eq_false (by omega)
              have j1i : decide ((97 : Int) ≤ (lo : Int)) = false := decide_eq_false l1
              have hr0 : r = none := BAD.out (by rw [PD.out, if_neg (by omega), if_neg (by omega)]; decide)
              subst hr0
              go_wp2_with (go_at_call 93; refine (HLOW.out _).mono ?_; rintro e wx ⟨rfl, hwx⟩; rw [hwx]; clear hwx)
              go_ret2
              exact ⟨rfl, HB1.out.ex.trans XR.out⟩
        · skip
          by_cases l1 : (97 : Int) ≤ (lo : Int)
          · have j1 : decide (97 ≤ lo) = true := decide_eq_true (by omega)
            have j1i : decide ((97 : Int) ≤ (lo : Int)) = true := decide_eq_true l1
            by_cases l2 : (lo : Int) ≤ 122
            · have j2 : decide (lo ≤ 122) = true := decide_eq_true (by omega)
              have j2i : decide ((lo : Int) ≤ 122) = true := decide_eq_true l2
              have hd : d = lo - 87 := by rw [PD.out, if_neg (by omega), if_pos ⟨by omega, by omega⟩]
              have hw1 : IntKind.u8.wrap ((lo : Int) - 97) = (lo : Int) - 97 := IntWalk.u8_in _ (by omega)
              have hw2 : IntKind.u8.wrap ((lo : Int) - 97 + 10) = (d : Int) := by rw [IntWalk.u8_in _ (by omega)]; omega
              by_cases hdb : d < 16
              · have G := Lib.hid (GOOD.out hdb)
                have h3 : ¬ (16 : Int) ≤ (d : Int) := by omega
                have h3d : decide (16 ≤ d) = false := decide_eq_false (by omega)
                have h3i : decide ((16 : Int) ≤ (d : Int)) = false := decide_eq_false h3
                have hm1 : IntKind.u64.wrap ((m : Int) * 16) = (m : Int) * 16 := IntWalk.u64_in _ (by omega)
                have hm2 : IntKind.u64.wrap ((m : Int) * 16 + (d : Int)) = (m : Int) * 16 + (d : Int) := IntWalk.u64_in _ (by omega)
                have h4 : ¬ (m : Int) * 16 + (d : Int) < (m : Int) * 16 := by omega
                have h4i : decide ((m : Int) * 16 + (d : Int) < (m : Int) * 16) = false := decide_eq_false h4
                have h5 : ¬ (4294967295 : Int) < (m : Int) * 16 + (d : Int) := by omega
                have h5i : decide ((4294967295 : Int) < (m : Int) * 16 + (d : Int)) = false := decide_eq_false h5
                have hpw : m * 16 + d < 16 ^ (k + 1) := by rw [PW.out]; omega
                have HPW := Lib.hid hpw
                clear hpw hdb hd
                go_wp2_with (go_at_call 93; refine (HLOW.out _).mono ?_; rintro e wx ⟨rfl, hwx⟩; rw [hwx]; clear hwx)
                go_roundw
                case rel => exact ⟨k + 1, m * 16 + d, by omega, by go_num, rfl, by push_cast; rfl, G.out, HPW.out, XR.out⟩
                case measure => simp [intOf]; omega
              · have hr0 : r = none := BAD.out hdb
                have h3 : (16 : Int) ≤ (d : Int) := by omega
                subst hr0
                clear hdb hd
                go_wp2_with (go_at_call 93; refine (HLOW.out _).mono ?_; rintro e wx ⟨rfl, hwx⟩; rw [hwx]; clear hwx)
                go_ret2
                exact ⟨rfl, HB1.out.ex.trans XR.out⟩
            · have j2 : decide (lo ≤ 122) = false := decide_eq_false (by omega)
              have j2i : decide ((lo : Int) ≤ 122) = false := decide_eq_false l2
              have hr0 : r = none := BAD.out (by rw [PD.out, if_neg (by omega), if_neg (by omega)]; decide)
              subst hr0
              go_wp2_with (go_at_call 93; refine (HLOW.out _).mono ?_; rintro e wx ⟨rfl, hwx⟩; rw [hwx]; clear hwx)
              go_ret2
              exact ⟨rfl, HB1.out.ex.trans XR.out⟩
          · have j1 : decide (97 ≤ lo) = false := decide_eq_false (by omega)
            have j1i : decide ((97 : Int) ≤ (lo : Int)) = false := decide_eq_false l1
            have hr0 : r = none := BAD.out (by rw [PD.out, if_neg (by omega), if_neg (by omega)]; decide)
            subst hr0
            go_wp2_with (go_at_call 93; refine (HLOW.out _).mono ?_; rintro e wx ⟨rfl, hwx⟩; rw [hwx]; clear hwx)
            go_ret2
            exact ⟨rfl, HB1.out.ex.trans XR.out⟩
      · by_cases c1 : (48 : Int) ≤ (c.toNat : Int)
        · by_cases c2 : (c.toNat : Int) ≤ 57
          · have hd : d = c.toNat - 48 := by rw [PD.out, if_pos ⟨by omega, by omega⟩]
            have hw1 : IntKind.u8.wrap ((c.toNat : Int) - 48) = (d : Int) := by rw [IntWalk.u8_in _ (by omega)]; omega
            by_cases hdb : d < 16
            · have G := Lib.hid (GOOD.out hdb)
              have h3 : ¬ (16 : Int) ≤ (d : Int) := by omega
              have h3d : decide (16 ≤ d) = false := decide_eq_false (by omega)
              have h3i : decide ((16 : Int) ≤ (d : Int)) = false := decide_eq_false h3
              have hm1 : IntKind.u64.wrap ((m : Int) * 16) = (m : Int) * 16 := IntWalk.u64_in _ (by omega)
              have hm2 : IntKind.u64.wrap ((m : Int) * 16 + (d : Int)) = (m : Int) * 16 + (d : Int) := IntWalk.u64_in _ (by omega)
              have h4 : ¬ (m : Int) * 16 + (d : Int) < (m : Int) * 16 := by omega
              have h4i : decide ((m : Int) * 16 + (d : Int) < (m : Int) * 16) = false := decide_eq_false h4
              have h5 : ¬ (4294967295 : Int) < (m : Int) * 16 + (d : Int) := by omega
              have h5i : decide ((4294967295 : Int) < (m : Int) * 16 + (d : Int)) = false := decide_eq_false h5
              have hpw : m * 16 + d < 16 ^ (k + 1) := by rw [PW.out]; omega
              have HPW := Lib.hid hpw
              clear hpw hdb hd
              go_wp2_with fail
              go_roundw
              case rel => exact ⟨k + 1, m * 16 + d, by omega, by go_num, rfl, by push_cast; rfl, G.out, HPW.out, XR.out⟩
              case measure => simp [intOf]; omega
            · have hr0 : r = none := BAD.out hdb
              have h3 : (16 : Int) ≤ (d : Int) := by omega
              subst hr0
              clear hdb hd
              go_wp2_with fail
              go_ret2
              exact ⟨rfl, HB1.out.ex.trans XR.out⟩
          · skip
            by_cases l1 : (97 : Int) ≤ (lo : Int)
            · have j1 : decide (97 ≤ lo) = true := decide_eq_true (by omega)
              have j1i : decide ((97 : Int) ≤ (lo : Int)) = true := decide_eq_true l1
              by_cases l2 : (lo : Int) ≤ 122
              · have j2 : decide (lo ≤ 122) = true := decide_eq_true (by omega)
                have j2i : decide ((lo : Int) ≤ 122) = true := decide_eq_true l2
                have hd : d = lo - 87 := by rw [PD.out, if_neg (by omega), if_pos ⟨by omega, by omega⟩]
                have hw1 : IntKind.u8.wrap ((lo : Int) - 97) = (lo : Int) - 97 := IntWalk.u8_in _ (by omega)
                have hw2 : IntKind.u8.wrap ((lo : Int) - 97 + 10) = (d : Int) := by rw [IntWalk.u8_in _ (by omega)]; omega
                by_cases hdb : d < 16
                · have G := Lib.hid (GOOD.out hdb)
                  have h3 : ¬ (16 : Int) ≤ (d : Int) := by omega
                  have h3d : decide (16 ≤ d) = false := decide_eq_false (by omega)
                  have h3i : decide ((16 : Int) ≤ (d : Int)) = false := decide_eq_false h3
                  have hm1 : IntKind.u64.wrap ((m : Int) * 16) = (m : Int) * 16 := IntWalk.u64_in _ (by omega)
                  have hm2 : IntKind.u64.wrap ((m : Int) * 16 + (d : Int)) = (m : Int) * 16 + (d : Int) := IntWalk.u64_in _ (by omega)
                  have h4 : ¬ (m : Int) * 16 + (d : Int) < (m : Int) * 16 := by omega
                  have h4i : decide ((m : Int) * 16 + (d : Int) < (m : Int) * 16) = false := decide_eq_false h4
                  have h5 : ¬ (4294967295 : Int) < (m : Int) * 16 + (d : Int) := by omega
                  have h5i : decide ((4294967295 : Int) < (m : Int) * 16 + (d : Int)) = false := decide_eq_false h5
                  have hpw : m * 16 + d < 16 ^ (k + 1) := by rw [PW.out]; omega
                  have HPW := Lib.hid hpw
                  clear hpw hdb hd
                  go_wp2_with (go_at_call 93; refine (HLOW.out _).mono ?_; rintro e wx ⟨rfl, hwx⟩; rw [hwx]; clear hwx)
                  go_roundw
                  case rel => exact ⟨k + 1, m * 16 + d, by omega, by go_num, rfl, by push_cast; rfl, G.out, HPW.out, XR.out⟩
                  case measure => simp [intOf]; omega
                · have hr0 : r = none := BAD.out hdb
                  have h3 : (16 : Int) ≤ (d : Int) := by omega
                  subst hr0
                  clear hdb hd
                  go_wp2_with (go_at_call 93; refine (HLOW.out _).mono ?_; rintro e wx ⟨rfl, hwx⟩; rw [hwx]; clear hwx)
                  go_ret2
                  exact ⟨rfl, HB1.out.ex.trans XR.out⟩
              · have j2 : decide (lo ≤ 122) = false := decide_eq_false (by omega)
                have j2i : decide ((lo : Int) ≤ 122) = false := decide_eq_false l2
                have hr0 : r = none := BAD.out (by rw [PD.out, if_neg (by omega), if_neg (by omega)]; decide)
                subst hr0
                go_wp2_with (go_at_call 93; refine (HLOW.out _).mono ?_; rintro e wx ⟨rfl, hwx⟩; rw [hwx]; clear hwx)
                go_ret2
                exact ⟨rfl, HB1.out.ex.trans XR.out⟩
            · have j1 : decide (97 ≤ lo) = false := decide_eq_false (by omega)
              have j1i : decide ((97 : Int) ≤ (lo : Int)) = false := decide_eq_false l1
              have hr0 : r = none := BAD.out (by rw [PD.out, if_neg (by omega), if_neg (by omega)]; decide)
              subst hr0
              go_wp2_with (go_at_call 93; refine (HLOW.out _).mono ?_; rintro e wx ⟨rfl, hwx⟩; rw [hwx]; clear hwx)
              go_ret2
              exact ⟨rfl, HB1.out.ex.trans XR.out⟩
        · skip
          by_cases l1 : (97 : Int) ≤ (lo : Int)
          · have j1 : decide (97 ≤ lo) = true := decide_eq_true (by omega)
            have j1i : decide ((97 : Int) ≤ (lo : Int)) = true := decide_eq_true l1
            by_cases l2 : (lo : Int) ≤ 122
            · have j2 : decide (lo ≤ 122) = true := decide_eq_true (by omega)
              have j2i : decide ((lo : Int) ≤ 122) = true := decide_eq_true l2
              have hd : d = lo - 87 := by rw [PD.out, if_neg (by omega), if_pos ⟨by omega, by omega⟩]
              have hw1 : IntKind.u8.wrap ((lo : Int) - 97) = (lo : Int) - 97 := IntWalk.u8_in _ (by omega)
              have hw2 : IntKind.u8.wrap ((lo : Int) - 97 + 10) = (d : Int) := by rw [IntWalk.u8_in _ (by omega)]; omega
              by_cases hdb : d < 16
              · have G := Lib.hid (GOOD.out hdb)
                have h3 : ¬ (16 : Int) ≤ (d : Int) := by omega
                have h3d : decide (16 ≤ d) = false := decide_eq_false (by omega)
                have h3i : decide ((16 : Int) ≤ (d : Int)) = false := decide_eq_false h3
                have hm1 : IntKind.u64.wrap ((m : Int) * 16) = (m : Int) * 16 := IntWalk.u64_in _ (by omega)
                have hm2 : IntKind.u64.wrap ((m : Int) * 16 + (d : Int)) = (m : Int) * 16 + (d : Int) := IntWalk.u64_in _ (by omega)
                have h4 : ¬ (m : Int) * 16 + (d : Int) < (m : Int) * 16 := by omega
                have h4i : decide ((m : Int) * 16 + (d : Int) < (m : Int) * 16) = false := decide_eq_false h4
                have h5 : ¬ (4294967295 : Int) < (m : Int) * 16 + (d : Int) := by omega
                have h5i : decide ((4294967295 : Int) < (m : Int) * 16 + (d : Int)) = false := decide_eq_false h5
                have hpw : m * 16 + d < 16 ^ (k + 1) := by rw [PW.out]; omega
                have HPW := Lib.hid hpw
                clear hpw hdb hd
                go_wp2_with (go_at_call 93; refine (HLOW.out _).mono ?_; rintro e wx ⟨rfl, hwx⟩; rw [hwx]; clear hwx)
                go_roundw
                case rel => exact ⟨k + 1, m * 16 + d, by omega, by go_num, rfl, by push_cast; rfl, G.out, HPW.out, XR.out⟩
                case measure => simp [intOf]; omega
              · have hr0 : r = none := BAD.out hdb
                have h3 : (16 : Int) ≤ (d : Int) := by omega
                subst hr0
                clear hdb hd
                go_wp2_with (go_at_call 93; refine (HLOW.out _).mono ?_; rintro e wx ⟨rfl, hwx⟩; rw [hwx]; clear hwx)
                go_ret2
                exact ⟨rfl, HB1.out.ex.trans XR.out⟩
            · have j2 : decide (lo ≤ 122) = false := decide_eq_false (by omega)
              have j2i : decide ((lo : Int) ≤ 122) = false := decide_eq_false l2
              have hr0 : r = none := BAD.out (by rw [PD.out, if_neg (by omega), if_neg (by omega)]; decide)
              subst hr0
              go_wp2_with (go_at_call 93; refine (HLOW.out _).mono ?_; rintro e wx ⟨rfl, hwx⟩; rw [hwx]; clear hwx)
              go_ret2
              exact ⟨rfl, HB1.out.ex.trans XR.out⟩
          · have j1 : decide (97 ≤ lo) = false := decide_eq_false (by omega)
            have j1i : decide ((97 : Int) ≤ (lo : Int)) = false := decide_eq_false l1
            have hr0 : r = none := BAD.out (by rw [PD.out, if_neg (by omega), if_neg (by omega)]; decide)
            subst hr0
            go_wp2_with (go_at_call 93; refine (HLOW.out _).mono ?_; rintro e wx ⟨rfl, hwx⟩; rw [hwx]; clear hwx)
            go_ret2
            exact ⟨rfl, HB1.out.ex.trans XR.out⟩
    · obtain rfl : k = N := by omega
      have hr1 : r = some m := by rw [← HNUM.out, List.drop_eq_nil_of_le (by omega)]; rfl
      subst hr1
      clear xr
      go_wp2_with fail
      go_ret2
      exact ⟨rfl, HB1.out.ex.trans XR.out⟩
end Go.Proofs.YtdafdoodegpdhaaGreatDoor

namespace Go.Proofs.YtdafdoodegpdhaaGreatDoor
open Go Go.RowKit Go.BigFrame
set_option linter.unusedVariables false
set_option linter.unusedSimpArgs false

def PIis (r : Option Nat) (w : World) (e : Ending) (w' : World) : Prop := e = .returned (.tuple #[.int .i64 (r.getD 0 : Nat), match r with | some _ => .nilIface | none => .iface 109 (.int .i64 2)]) ∧ Ext w w'
theorem numL_lt (b : Nat) (hb : b ≤ 16) : ∀ (l : List UInt8) (m n P : Nat), numL b m l = some n → m < P → n < P * 16 ^ l.length := by
  intro l
  induction l with
  | nil => intro m n P h hm; cases h; simpa using hm
  | cons c r ih =>
    intro m n P h hm
    rw [numL] at h
    split at h
    · cases h
    · have h1 : m * b + digV c < P * 16 := by
        have : m * b ≤ m * 16 := Nat.mul_le_mul_left m hb
        omega
      have := ih _ _ _ h h1
      rw [List.length_cons, Nat.pow_succ]
      rw [Nat.mul_assoc] at this
      rw [Nat.mul_comm (16 ^ r.length) 16]
      exact this
set_option maxHeartbeats 1000000 in
set_option maxRecDepth 100000 in
theorem pi10_any (s : ByteArray) (h0 : s.size ≠ 0) (h7 : s.size ≤ 7) (hs1 : s.data.toList.head? ≠ some 43) (hs2 : s.data.toList.head? ≠ some 45) (w : World) : Calls Tryz.prog 82 #[.string s, .int .i64 10, .int .i64 32] w (PIis (numL 10 0 s.data.toList) w) := by
  have HP := Lib.hid (pu10_any s h0 h7)
  have e0 : (s.toList == ([] : List UInt8)) = false := by rw [ByteArray.toList_eq, beq_eq_false_iff_ne]; intro h; exact h0 (by show s.data.size = 0; have := congrArg List.length h; simpa using this)
  have hpos : 0 < s.size := by omega
  obtain ⟨c, hc⟩ : ∃ c, s[0]'hpos = c := ⟨_, rfl⟩
  have hix : ∀ W : World, (Instr.index 9 (.string s) (.int .i64 0)).run Tryz.prog W = .ok (.int .u8 (c.toNat : Int)) W := by
    intro W
    rw [run_index_string W 9 s .i64 0 Tryz.underlying9, dif_pos ⟨by omega, by omega⟩]
    simp only [Int.toNat_zero, hc]
  have hhd : s.data.toList.head? = some c := by
    rw [List.head?_eq_getElem?, List.getElem?_eq_getElem (by exact hpos)]
    exact congrArg some hc
  rw [hhd] at hs1 hs2
  have b43 : ((c.toNat : Int) == 43) = false := by
    rw [beq_eq_false_iff_ne]; intro h; exact hs1 (congrArg some (UInt8.toNat_inj.1 (by show c.toNat = 43; omega)))
  have b45 : ((c.toNat : Int) == 45) = false := by
    rw [beq_eq_false_iff_ne]; intro h; exact hs2 (congrArg some (UInt8.toNat_inj.1 (by show c.toNat = 45; omega)))
  have hlt : ∀ n, numL 10 0 s.data.toList = some n → n < 268435456 := fun n h => by
    have h1 := numL_lt 10 (by decide) _ 0 n 1 h (by decide)
    have h2 : 16 ^ s.data.toList.length ≤ 268435456 := pow_le7 (by exact h7)
    omega
  have HLT := Lib.hid hlt
  obtain ⟨r, hr⟩ : ∃ r, numL 10 0 s.data.toList = r := ⟨_, rfl⟩
  rw [hr] at HP HLT ⊢
  have hq2 : ∀ W, (binOp .neq 60 (.iface 109 (.int .i64 2)) (.iface 109 (.int .i64 1))).run Tryz.prog W = .ok (.bool true) W := fun W => Lib.run_neq_iface_int W 2 1 Tryz.underlying60 (by kernel_rfl) Tryz.underlying109
  clear hr hlt hhd hs1 hs2 hc
  go_enter Tryz.func82, Tryz.ntmps82
  cases r with
  | none =>
    go_wp2_with (go_at_call 88; refine (HP.out _).mono ?_; rintro e wx ⟨rfl, xx⟩; have XX := Lib.hid xx; clear xx)
    go_ret2
    exact ⟨rfl, XX.out⟩
  | some n =>
    have hn := HLT.out n rfl
    have k1 : decide ((2147483648 : Int) ≤ (n : Int)) = false := decide_eq_false (by omega)
    have k2 : decide (2147483648 ≤ n) = false := decide_eq_false (by omega)
    have hw : IntKind.i64.wrap (n : Int) = (n : Int) := IntWalk.i64_in _ (by omega)
    go_wp2_with (go_at_call 88; refine (HP.out _).mono ?_; rintro e wx ⟨rfl, xx⟩; have XX := Lib.hid xx; clear xx)
    go_ret2
    exact ⟨rfl, XX.out⟩
set_option maxHeartbeats 1000000 in
set_option maxRecDepth 100000 in
theorem pi16_any (s : ByteArray) (h0 : s.size ≠ 0) (h7 : s.size ≤ 7) (hs1 : s.data.toList.head? ≠ some 43) (hs2 : s.data.toList.head? ≠ some 45) (w : World) : Calls Tryz.prog 82 #[.string s, .int .i64 16, .int .i64 32] w (PIis (numL 16 0 s.data.toList) w) := by
  have HP := Lib.hid (pu16_any s h0 h7)
  have e0 : (s.toList == ([] : List UInt8)) = false := by rw [ByteArray.toList_eq, beq_eq_false_iff_ne]; intro h; exact h0 (by show s.data.size = 0; have := congrArg List.length h; simpa using this)
  have hpos : 0 < s.size := by omega
  obtain ⟨c, hc⟩ : ∃ c, s[0]'hpos = c := ⟨_, rfl⟩
  have hix : ∀ W : World, (Instr.index 9 (.string s) (.int .i64 0)).run Tryz.prog W = .ok (.int .u8 (c.toNat : Int)) W := by
    intro W
    rw [run_index_string W 9 s .i64 0 Tryz.underlying9, dif_pos ⟨by omega, by omega⟩]
    simp only [Int.toNat_zero, hc]
  have hhd : s.data.toList.head? = some c := by
    rw [List.head?_eq_getElem?, List.getElem?_eq_getElem (by exact hpos)]
    exact congrArg some hc
  rw [hhd] at hs1 hs2
  have b43 : ((c.toNat : Int) == 43) = false := by
    rw [beq_eq_false_iff_ne]; intro h; exact hs1 (congrArg some (UInt8.toNat_inj.1 (by show c.toNat = 43; omega)))
  have b45 : ((c.toNat : Int) == 45) = false := by
    rw [beq_eq_false_iff_ne]; intro h; exact hs2 (congrArg some (UInt8.toNat_inj.1 (by show c.toNat = 45; omega)))
  have hlt : ∀ n, numL 16 0 s.data.toList = some n → n < 268435456 := fun n h => by
    have h1 := numL_lt 16 (by decide) _ 0 n 1 h (by decide)
    have h2 : 16 ^ s.data.toList.length ≤ 268435456 := pow_le7 (by exact h7)
    omega
  have HLT := Lib.hid hlt
  obtain ⟨r, hr⟩ : ∃ r, numL 16 0 s.data.toList = r := ⟨_, rfl⟩
  rw [hr] at HP HLT ⊢
  have hq2 : ∀ W, (binOp .neq 60 (.iface 109 (.int .i64 2)) (.iface 109 (.int .i64 1))).run Tryz.prog W = .ok (.bool true) W := fun W => Lib.run_neq_iface_int W 2 1 Tryz.underlying60 (by kernel_rfl) Tryz.underlying109
  clear hr hlt hhd hs1 hs2 hc
  go_enter Tryz.func82, Tryz.ntmps82
  cases r with
  | none =>
    go_wp2_with (go_at_call 88; refine (HP.out _).mono ?_; rintro e wx ⟨rfl, xx⟩; have XX := Lib.hid xx; clear xx)
    go_ret2
    exact ⟨rfl, XX.out⟩
  | some n =>
    have hn := HLT.out n rfl
    have k1 : decide ((2147483648 : Int) ≤ (n : Int)) = false := decide_eq_false (by omega)
    have k2 : decide (2147483648 ≤ n) = false := decide_eq_false (by omega)
    have hw : IntKind.i64.wrap (n : Int) = (n : Int) := IntWalk.i64_in _ (by omega)
    go_wp2_with (go_at_call 88; refine (HP.out _).mono ?_; rintro e wx ⟨rfl, xx⟩; have XX := Lib.hid xx; clear xx)
    go_ret2
    exact ⟨rfl, XX.out⟩
set_option maxRecDepth 100000
def layTE_ren : Go.Shelf.Ren := ⟨fun | 129 => 105 | 171 => 97 | 205 => 96 | 243 => 98 | 245 => 83 | 246 => 99 | 279 => 89 | 280 => 90 | 281 => 91 | 282 => 92 | 283 => 100 | 284 => 101 | 285 => 102 | 286 => 103 | 316 => 95 | 317 => 104 | 318 => 106 | 319 => 107 | 320 => 108 | 337 => 109 | 338 => 110 | n => n, fun | 0 => 0 | 2 => 2 | 3 => 3 | 4 => 4 | 5 => 5 | 9 => 9 | 20 => 20 | 37 => 42 | 46 => 86 | 51 => 93 | 53 => 102 | 75 => 60 | 80 => 50 | 127 => 82 | 143 => 121 | 145 => 123 | 167 => 109 | 168 => 112 | 171 => 125 | 173 => 128 | 210 => 118 | 212 => 131 | 213 => 132 | 232 => 135 | 233 => 136 | n => n, fun | 15 => 3 | 16 => 4 | 17 => 5 | 18 => 6 | 19 => 7 | n => n⟩
theorem layTE : Go.Proofs.LaysC.n245 Tryz.prog layTE_ren := {
  mixed := by kernel_rfl
  f129 := Tryz.func105.trans (congrArg some (by kernel_rfl))
  f171 := Tryz.func97.trans (congrArg some (by kernel_rfl))
  f205 := Tryz.func96.trans (congrArg some (by kernel_rfl))
  f243 := Tryz.func98.trans (congrArg some (by kernel_rfl))
  f245 := Tryz.func83.trans (congrArg some (by kernel_rfl))
  f246 := Tryz.func99.trans (congrArg some (by kernel_rfl))
  f279 := Tryz.func89.trans (congrArg some (by kernel_rfl))
  f280 := Tryz.func90.trans (congrArg some (by kernel_rfl))
  f281 := Tryz.func91.trans (congrArg some (by kernel_rfl))
  f282 := Tryz.func92.trans (congrArg some (by kernel_rfl))
  f283 := Tryz.func100.trans (congrArg some (by kernel_rfl))
  f284 := Tryz.func101.trans (congrArg some (by kernel_rfl))
  f285 := Tryz.func102.trans (congrArg some (by kernel_rfl))
  f286 := Tryz.func103.trans (congrArg some (by kernel_rfl))
  f316 := Tryz.func95.trans (congrArg some (by kernel_rfl))
  f317 := Tryz.func104.trans (congrArg some (by kernel_rfl))
  f318 := Tryz.func106.trans (congrArg some (by kernel_rfl))
  f319 := Tryz.func107.trans (congrArg some (by kernel_rfl))
  f320 := Tryz.func108.trans (congrArg some (by kernel_rfl))
  f337 := Tryz.func109.trans (congrArg some (by kernel_rfl))
  f338 := Tryz.func110.trans (congrArg some (by kernel_rfl))
  t0 := Tryz.underlying0
  a0 := Tryz.isAgg0
  z0 := Tryz.sizeOf0
  v0 := Tryz.zeroValue0
  t2 := Tryz.underlying2
  a2 := Tryz.isAgg2
  z2 := Tryz.sizeOf2
  v2 := Tryz.zeroValue2
  t3 := Tryz.underlying3
  a3 := Tryz.isAgg3
  z3 := Tryz.sizeOf3
  v3 := Tryz.zeroValue3
  t4 := Tryz.underlying4
  a4 := Tryz.isAgg4
  z4 := Tryz.sizeOf4
  v4 := Tryz.zeroValue4
  t5 := Tryz.underlying5
  a5 := Tryz.isAgg5
  z5 := Tryz.sizeOf5
  v5 := Tryz.zeroValue5
  t9 := Tryz.underlying9
  a9 := Tryz.isAgg9
  z9 := Tryz.sizeOf9
  v9 := Tryz.zeroValue9
  t20 := Tryz.underlying20
  a20 := Tryz.isAgg20
  z20 := Tryz.sizeOf20
  v20 := Tryz.zeroValue20
  t37 := Tryz.underlying42
  a37 := Tryz.isAgg42
  z37 := Tryz.sizeOf42
  v37 := Tryz.zeroValue42
  t46 := Tryz.underlying86
  a46 := Tryz.isAgg86
  z46 := Tryz.sizeOf86
  v46 := Tryz.zeroValue86
  t51 := Tryz.underlying93
  a51 := Tryz.isAgg93
  z51 := Tryz.sizeOf93
  v51 := Tryz.zeroValue93
  t53 := Tryz.underlying102
  a53 := Tryz.isAgg102
  z53 := Tryz.sizeOf102
  v53 := Tryz.zeroValue102
  t75 := Tryz.underlying60
  a75 := Tryz.isAgg60
  z75 := Tryz.sizeOf60
  v75 := Tryz.zeroValue60
  t127 := Tryz.underlying82
  a127 := Tryz.isAgg82
  z127 := Tryz.sizeOf82
  v127 := Tryz.zeroValue82
  t143 := Tryz.underlying121
  a143 := Tryz.isAgg121
  z143 := Tryz.sizeOf121
  v143 := Tryz.zeroValue121
  t145 := Tryz.underlying123
  a145 := Tryz.isAgg123
  z145 := Tryz.sizeOf123
  v145 := Tryz.zeroValue123
  t167 := Tryz.underlying109
  a167 := Tryz.isAgg109
  z167 := Tryz.sizeOf109
  v167 := Tryz.zeroValue109
  t168 := Tryz.underlying112
  a168 := Tryz.isAgg112
  z168 := Tryz.sizeOf112
  v168 := Tryz.zeroValue112
  t171 := Tryz.underlying125
  a171 := Tryz.isAgg125
  z171 := Tryz.sizeOf125
  v171 := Tryz.zeroValue125
  t173 := Tryz.underlying128
  a173 := Tryz.isAgg128
  z173 := Tryz.sizeOf128
  v173 := Tryz.zeroValue128
  t210 := Tryz.underlying118
  a210 := Tryz.isAgg118
  z210 := Tryz.sizeOf118
  v210 := Tryz.zeroValue118
  t212 := Tryz.underlying131
  a212 := Tryz.isAgg131
  z212 := Tryz.sizeOf131
  v212 := Tryz.zeroValue131
  t213 := Tryz.underlying132
  a213 := Tryz.isAgg132
  z213 := Tryz.sizeOf132
  t232 := Tryz.underlying135
  a232 := Tryz.isAgg135
  z232 := Tryz.sizeOf135
  v232 := Tryz.zeroValue135
  t233 := Tryz.underlying136
  a233 := Tryz.isAgg136
  z233 := Tryz.sizeOf136
  v233 := Tryz.zeroValue136
  g15 := by kernel_rfl
  g16 := by kernel_rfl
  g17 := by kernel_rfl
  g18 := by kernel_rfl
  g19 := by kernel_rfl
  t80 := Tryz.underlying50
  a80 := Tryz.isAgg50
  z80 := Tryz.sizeOf50
  v80 := Tryz.zeroValue50
  i0 := by kernel_rfl
  i2 := by kernel_rfl
  i3 := by kernel_rfl
  i4 := by kernel_rfl
  i5 := by kernel_rfl
  i9 := by kernel_rfl
  i20 := by kernel_rfl
  i37 := by kernel_rfl
  i46 := by kernel_rfl
  i51 := by kernel_rfl
  i53 := by kernel_rfl
  i75 := by kernel_rfl
  i80 := by kernel_rfl
  i127 := by kernel_rfl
  i143 := by kernel_rfl
  i145 := by kernel_rfl
  i167 := by kernel_rfl
  i168 := by kernel_rfl
  i171 := by kernel_rfl
  i173 := by kernel_rfl
  i210 := by kernel_rfl
  i212 := by kernel_rfl
  i232 := by kernel_rfl
  i233 := by kernel_rfl
  m15 := by kernel_rfl
  m16 := by kernel_rfl
  m17 := by kernel_rfl
  m18 := by kernel_rfl
  m19 := by kernel_rfl
  c0 := by kernel_rfl
  c2 := by kernel_rfl
  c3 := by kernel_rfl
  c4 := by kernel_rfl
  c5 := by kernel_rfl
  c9 := by kernel_rfl
  c20 := by kernel_rfl
  c37 := by kernel_rfl
  c46 := by kernel_rfl
  c51 := by kernel_rfl
  c53 := by kernel_rfl
  c75 := by kernel_rfl
  c80 := by kernel_rfl
  c127 := by kernel_rfl
  c143 := by kernel_rfl
  c145 := by kernel_rfl
  c167 := by kernel_rfl
  c168 := by kernel_rfl
  c171 := by kernel_rfl
  c173 := by kernel_rfl
  c210 := by kernel_rfl
  c212 := by kernel_rfl
  c213 := by kernel_rfl
  c232 := by kernel_rfl
  c233 := by kernel_rfl }

/-- what the lexer asks of the package variables: the tables of unicode/utf8, a number in MaxLen, an error in ErrSyntax -/
structure LW (w : World) : Prop where
  tabs : Tabs w
  len : ∃ m : Int, w.cell? ⟨0, 0, none⟩ = some (.int .i64 m)
  err : ∃ ev, w.cell? ⟨3, 0, none⟩ = some ev ∧ (ev = .nilIface ∨ ∃ te pe, ev = .iface te pe)
theorem LW.ext {w w' : World} (h : LW w) (x : Ext w w') : LW w' := ⟨h.tabs.ext x, h.len.imp fun _ h => x.cell h, h.err.imp fun _ h => ⟨x.cell h.1, h.2⟩⟩
def ErrIs (w : World) (e : Ending) (w' : World) : Prop := ∃ p, e = .returned (.iface 112 p) ∧ Ext w w'
theorem toError_any (fn s : ByteArray) (base bits : Int) (w : World) (hl : LW w) (hs : s.size ≤ 281474976710656) :
    Calls Tryz.prog 83 #[.string fn, .string s, .int .i64 base, .int .i64 bits, .iface 109 (.int .i64 2)] w (ErrIs w) := by
  obtain ⟨ev, h1, h2⟩ := hl.err
  exact (Any.strconv_toError_syntax layTE fn s base bits ev w hs h1 h2).mono fun _ _ ⟨N, h3, _, _, h4⟩ => ⟨_, h3, h4⟩
def PPis (r : Option Nat) (w : World) (e : Ending) (w' : World) : Prop := ∃ ev, e = .returned (.tuple #[.int .i64 (r.getD 0 : Nat), ev]) ∧ (r ≠ none → ev = .nilIface) ∧ (r = none → ∃ p, ev = .iface 112 p) ∧ Ext w w'
set_option maxHeartbeats 1000000 in
theorem ppi10_any (s : ByteArray) (h0 : s.size ≠ 0) (h7 : s.size ≤ 7) (hs1 : s.data.toList.head? ≠ some 43) (hs2 : s.data.toList.head? ≠ some 45) (w : World) (hl : LW w) : Calls Tryz.prog 75 #[.string s, .int .i64 10, .int .i64 32] w (PPis (numL 10 0 s.data.toList) w) := by
  have HP := Lib.hid (pi10_any s h0 h7 hs1 hs2)
  obtain ⟨r, hr⟩ : ∃ r, numL 10 0 s.data.toList = r := ⟨_, rfl⟩
  rw [hr] at HP ⊢
  have HL := Lib.hid hl
  have HS := Lib.hid (show s.size ≤ 281474976710656 by omega)
  clear hr h0 h7 hs1 hs2 hl
  go_enter Tryz.func75, Tryz.ntmps75
  cases r with
  | none =>
    go_wp2_with (go_at_call 82; refine (HP.out _).mono ?_)
    rintro e w1 ⟨rfl, x1⟩
    have X1 := Lib.hid x1
    clear x1
    go_wp2_with (go_at_call 83; refine (toError_any _ s 10 32 w1 (HL.out.ext X1.out) HS.out).mono ?_)
    rintro e w2 ⟨p, rfl, x2⟩
    go_wp2_with fail
    go_ret2
    exact ⟨_, rfl, fun h => absurd rfl h, fun _ => ⟨p, rfl⟩, X1.out.trans x2⟩
  | some n =>
    go_wp2_with (go_at_call 82; refine (HP.out _).mono ?_)
    rintro e w1 ⟨rfl, x1⟩
    go_wp2_with fail
    go_ret2
    exact ⟨_, rfl, fun _ => rfl, (fun h => by cases h), x1⟩
set_option maxHeartbeats 1000000 in
theorem ppi16_any (s : ByteArray) (h0 : s.size ≠ 0) (h7 : s.size ≤ 7) (hs1 : s.data.toList.head? ≠ some 43) (hs2 : s.data.toList.head? ≠ some 45) (w : World) (hl : LW w) : Calls Tryz.prog 75 #[.string s, .int .i64 16, .int .i64 32] w (PPis (numL 16 0 s.data.toList) w) := by
  have HP := Lib.hid (pi16_any s h0 h7 hs1 hs2)
  obtain ⟨r, hr⟩ : ∃ r, numL 16 0 s.data.toList = r := ⟨_, rfl⟩
  rw [hr] at HP ⊢
  have HL := Lib.hid hl
  have HS := Lib.hid (show s.size ≤ 281474976710656 by omega)
  clear hr h0 h7 hs1 hs2 hl
  go_enter Tryz.func75, Tryz.ntmps75
  cases r with
  | none =>
    go_wp2_with (go_at_call 82; refine (HP.out _).mono ?_)
    rintro e w1 ⟨rfl, x1⟩
    have X1 := Lib.hid x1
    clear x1
    go_wp2_with (go_at_call 83; refine (toError_any _ s 16 32 w1 (HL.out.ext X1.out) HS.out).mono ?_)
    rintro e w2 ⟨p, rfl, x2⟩
    go_wp2_with fail
    go_ret2
    exact ⟨_, rfl, fun h => absurd rfl h, fun _ => ⟨p, rfl⟩, X1.out.trans x2⟩
  | some n =>
    go_wp2_with (go_at_call 82; refine (HP.out _).mono ?_)
    rintro e w1 ⟨rfl, x1⟩
    go_wp2_with fail
    go_ret2
    exact ⟨_, rfl, fun _ => rfl, (fun h => by cases h), x1⟩
end Go.Proofs.YtdafdoodegpdhaaGreatDoor

namespace Go.Proofs.YtdafdoodegpdhaaGreatDoor
open Go Go.RowKit Go.BigFrame
set_option linter.unusedVariables false
set_option linter.unusedSimpArgs false

def signR (r : Int) : Prop := r = 43 ∨ r = 45 ∨ r = 95
def IRis (r : Int) (w : World) (e : Ending) (w' : World) : Prop := ∃ z : Int, e = .returned (.int .i64 z) ∧ (0 ≤ z ↔ signR r) ∧ Ext w w'
theorem index_high {x : UInt8} (hx : 128 ≤ x.toNat) (l : List UInt8) (h : ∀ b ∈ l, b.toNat < 128) : Lib.indexByte l x = -1 := by
  induction l with
  | nil => rfl
  | cons b r ih =>
    unfold Lib.indexByte
    have hb : (b == x) = false := by rw [beq_eq_false_iff_ne]; rintro rfl; have := h b (by simp); omega
    rw [if_neg (by simp [hb]), ih fun c hc => h c (by simp [hc])]
    rfl
theorem encode_high {n : Nat} (hn : n < 55296 ∨ 57344 ≤ n ∧ n ≤ 1114111) (h128 : 128 ≤ n) : ((Utf8.encode (n : Int)).size = 2 ∨ (Utf8.encode (n : Int)).size = 3 ∨ (Utf8.encode (n : Int)).size = 4) ∧ ∀ b ∈ (Utf8.encode (n : Int)).data.toList, 128 ≤ b.toNat := by
  have e := encode_nat hn
  have hs : ∀ b : ByteArray, b.size = b.data.toList.length := fun _ => rfl
  rw [hs (Utf8.encode (n : Int)), e]
  rw [if_neg (by omega)]
  split
  · exact ⟨.inl rfl, by intro b hb; simp only [List.mem_cons, List.not_mem_nil, or_false] at hb; rcases hb with h | h <;> (rw [h, ofNat_nat (by omega)]; omega)⟩
  · split
    · exact ⟨.inr (.inl rfl), by intro b hb; simp only [List.mem_cons, List.not_mem_nil, or_false] at hb; rcases hb with h | h | h <;> (rw [h, ofNat_nat (by omega)]; omega)⟩
    · exact ⟨.inr (.inr rfl), by intro b hb; simp only [List.mem_cons, List.not_mem_nil, or_false] at hb; rcases hb with h | h | h | h <;> (rw [h, ofNat_nat (by omega)]; omega)⟩
set_option maxHeartbeats 1000000 in
set_option maxRecDepth 100000 in
theorem IndexRune_low (r : Int) (h0 : 0 ≤ r) (h1 : r < 128) (w : World) : Calls Tryz.prog 84 #[.string ⟨#[43, 45, 95]⟩, .int .i32 r] w (IRis r w) := by
  obtain ⟨c, hc⟩ : ∃ c : UInt8, r = (c.toNat : Int) := ⟨UInt8.ofNat r.toNat, by rw [ofNat_nat (by omega)]; omega⟩
  subst hc
  have hw : IntKind.u8.wrap (c.toNat : Int) = (c.toNat : Int) := IntWalk.u8_in _ (by omega)
  have hz : 0 ≤ Lib.indexByte [43, 45, 95] c ↔ signR (c.toNat : Int) := by
    unfold signR
    revert c
    intro c _ _ _
    have h := all_bytes (p := fun c => (0 ≤ Lib.indexByte [43, 45, 95] c ↔ ((c.toNat : Int) = 43 ∨ (c.toNat : Int) = 45 ∨ (c.toNat : Int) = 95))) (by decide +kernel) c
    exact h
  have HZ := Lib.hid hz
  have HI := Lib.hid (IndexByte_any ⟨#[43, 45, 95]⟩ c (c.toNat : Int) rfl)
  clear hz
  go_enter Tryz.func84, Tryz.ntmps84
  go_wp2_with (go_at_call 29; refine (HI.out _).mono ?_)
  rintro e w1 ⟨rfl, x1⟩
  go_wp2_with fail
  go_ret
  exact ⟨_, rfl, HZ.out, x1⟩
set_option maxHeartbeats 2000000 in
set_option maxRecDepth 100000 in
theorem IndexRune_high (n : Nat) (h : n < 55296 ∨ 57344 ≤ n ∧ n ≤ 1114111) (h128 : 128 ≤ n) (hE : n ≠ 65533) (w : World) : Calls Tryz.prog 84 #[.string ⟨#[43, 45, 95]⟩, .int .i32 (n : Int)] w (IRis (n : Int) w) := by
  have hv : Utf8.valid (n : Int) = true := by unfold Utf8.valid; simp; omega
  have HV := Lib.hid (ValidRune_ok (n : Int) hv)
  obtain ⟨h234, hb⟩ := encode_high h h128
  have k1 : decide ((n : Int) < 128) = false := decide_eq_false (by omega)
  have k2 : decide (n < 128) = false := decide_eq_false (by omega)
  have k3 : ((n : Int) == 65533) = false := by rw [beq_eq_false_iff_ne]; omega
  have FIN := Lib.hid (fun (w' : World) (x : Ext w w') => (⟨-1, rfl, ⟨fun h => absurd h (by decide), fun h => by unfold signR at h; omega⟩, x⟩ : IRis (n : Int) w (.returned (.int .i64 (-1))) w'))
  have hcv : ∀ W : World, (Go.convert 21 9 (.int .i32 (n : Int))).run Tryz.prog W = .ok (.string (Utf8.encode (n : Int))) W := by
    intro W
    simp [convert, run_underlying Tryz.underlying21, run_underlying Tryz.underlying9, Conv.intToString]
  obtain ⟨e, he⟩ : ∃ e, Utf8.encode (n : Int) = e := ⟨_, rfl⟩
  rw [he] at h234 hb hcv
  have HB := Lib.hid hb
  clear he hb hv h hE h128
  rcases h234 with h2 | h3 | h4
  ·
    have hsz : e.size = 2 := h2
    have hlast : 1 < e.size := by omega
    obtain ⟨x, hx⟩ : ∃ x, e[1]'hlast = x := ⟨_, rfl⟩
    have hx128 : 128 ≤ x.toNat := HB.out x (by rw [← hx]; exact byte_mem.2 ⟨1, hlast, rfl⟩)
    have hix : ∀ W : World, (Instr.index 9 (.string e) (.int .i64 1)).run Tryz.prog W = .ok (.int .u8 (x.toNat : Int)) W := by
      intro W
      rw [run_index_string W 9 e .i64 1 Tryz.underlying9, dif_pos ⟨by omega, by omega⟩]
      exact congrArg (fun y : UInt8 => Result.ok (Value.int .u8 (y.toNat : Int)) W) hx
    have hneg : Lib.indexByte ((⟨#[43, 45, 95]⟩ : ByteArray).extract 2 3).data.toList x = -1 := index_high hx128 _ (by decide +kernel)
    have HI := Lib.hid (fun W => hneg ▸ IndexByte_any ((⟨#[43, 45, 95]⟩ : ByteArray).extract 2 3) x (x.toNat : Int) rfl W)
    have kne : ((45 : Int) == (x.toNat : Int)) = false := by rw [beq_eq_false_iff_ne]; omega
    have kne2 : ((45 : Int) != (x.toNat : Int)) = true := by simp [bne, kne]
    clear h2 hlast hx hx128 hneg
    go_enter Tryz.func84, Tryz.ntmps84
    go_wp2_with (go_at_call 76; refine (HV.out _).mono ?_)
    rintro e1 w1 ⟨rfl, x1⟩
    have X1 := Lib.hid x1
    clear x1
    go_wp2_with fail
    go_step3
    go_wp2_with fail
    go_loopw [9, 10, 11, 12] (fun i _ _ _ wr => i = .int .i64 1 ∧ Ext w wr) (fun _ _ _ _ _ => 0)
    case atStart => exact ⟨rfl, X1.out⟩
    case round =>
      obtain ⟨rfl, xr⟩ := hrel
      have XR := Lib.hid xr
      clear xr
      have hix0 : ∀ W : World, (Instr.index 9 (.string ⟨#[43, 45, 95]⟩) (.int .i64 1)).run Tryz.prog W = .ok (.int .u8 45) W := by
        intro W
        rw [run_index_string W 9 ⟨#[43, 45, 95]⟩ .i64 1 Tryz.underlying9, dif_pos ⟨by decide, by decide⟩]
        rfl
      go_wp2_with fail
      go_step3
      go_upto_region 6 with fail
      refine wp_region_ext (by kernel_rfl) (by kernel_rfl) ?_
      repeat (go_big_quiet_step (fail))
      refine wpQuiet_nil ?_
      rintro _ ⟨u0, rfl⟩
      have XU0 := Lib.hid (XR.out.trans u0.ext)
      go_upto_region 7 with fail
      refine wp_region_ext (by kernel_rfl) (by kernel_rfl) ?_
      repeat (go_big_quiet_step ((go_at_call 29; exact inExt (HI.out _))))
      refine wpQuiet_nil ?_
      rintro _ ⟨u, rfl⟩
      go_wp2_with fail
      rw [Exit.noGoto_ret]
      go_ret
      exact FIN.out _ (XU0.out.trans u.ext)
  ·
    have hsz : e.size = 3 := h3
    have hlast : 2 < e.size := by omega
    obtain ⟨x, hx⟩ : ∃ x, e[2]'hlast = x := ⟨_, rfl⟩
    have hx128 : 128 ≤ x.toNat := HB.out x (by rw [← hx]; exact byte_mem.2 ⟨2, hlast, rfl⟩)
    have hix : ∀ W : World, (Instr.index 9 (.string e) (.int .i64 2)).run Tryz.prog W = .ok (.int .u8 (x.toNat : Int)) W := by
      intro W
      rw [run_index_string W 9 e .i64 2 Tryz.underlying9, dif_pos ⟨by omega, by omega⟩]
      exact congrArg (fun y : UInt8 => Result.ok (Value.int .u8 (y.toNat : Int)) W) hx
    have hneg : Lib.indexByte ((⟨#[43, 45, 95]⟩ : ByteArray).extract 3 3).data.toList x = -1 := index_high hx128 _ (by decide +kernel)
    have HI := Lib.hid (fun W => hneg ▸ IndexByte_any ((⟨#[43, 45, 95]⟩ : ByteArray).extract 3 3) x (x.toNat : Int) rfl W)
    have kne : ((95 : Int) == (x.toNat : Int)) = false := by rw [beq_eq_false_iff_ne]; omega
    have kne2 : ((95 : Int) != (x.toNat : Int)) = true := by simp [bne, kne]
    clear h3 hlast hx hx128 hneg
    go_enter Tryz.func84, Tryz.ntmps84
    go_wp2_with (go_at_call 76; refine (HV.out _).mono ?_)
    rintro e1 w1 ⟨rfl, x1⟩
    have X1 := Lib.hid x1
    clear x1
    go_wp2_with fail
    go_step3
    go_wp2_with fail
    go_loopw [9, 10, 11, 12] (fun i _ _ _ wr => i = .int .i64 2 ∧ Ext w wr) (fun _ _ _ _ _ => 0)
    case atStart => exact ⟨rfl, X1.out⟩
    case round =>
      obtain ⟨rfl, xr⟩ := hrel
      have XR := Lib.hid xr
      clear xr
      have hix0 : ∀ W : World, (Instr.index 9 (.string ⟨#[43, 45, 95]⟩) (.int .i64 2)).run Tryz.prog W = .ok (.int .u8 95) W := by
        intro W
        rw [run_index_string W 9 ⟨#[43, 45, 95]⟩ .i64 2 Tryz.underlying9, dif_pos ⟨by decide, by decide⟩]
        rfl
      go_wp2_with fail
      go_step3
      go_upto_region 6 with fail
      refine wp_region_ext (by kernel_rfl) (by kernel_rfl) ?_
      repeat (go_big_quiet_step (fail))
      refine wpQuiet_nil ?_
      rintro _ ⟨u0, rfl⟩
      have XU0 := Lib.hid (XR.out.trans u0.ext)
      go_upto_region 7 with fail
      refine wp_region_ext (by kernel_rfl) (by kernel_rfl) ?_
      repeat (go_big_quiet_step ((go_at_call 29; exact inExt (HI.out _))))
      refine wpQuiet_nil ?_
      rintro _ ⟨u, rfl⟩
      go_wp2_with fail
      rw [Exit.noGoto_ret]
      go_ret
      exact FIN.out _ (XU0.out.trans u.ext)
  · have hsz : e.size = 4 := h4
    clear h4
    go_enter Tryz.func84, Tryz.ntmps84
    go_wp2_with (go_at_call 76; refine (HV.out _).mono ?_)
    rintro e1 w1 ⟨rfl, x1⟩
    have X1 := Lib.hid x1
    clear x1
    go_wp2_with fail
    go_step3
    go_wp2_with fail
    go_loopw [9, 10, 11, 12] (fun i _ _ _ wr => i = .int .i64 3 ∧ Ext w wr) (fun _ _ _ _ _ => 0)
    case atStart => exact ⟨rfl, X1.out⟩
    case round =>
      obtain ⟨rfl, xr⟩ := hrel
      have XR := Lib.hid xr
      clear xr
      go_wp2_with fail
      rw [Exit.noGoto_ret]
      go_ret
      exact FIN.out _ XR.out
set_option maxHeartbeats 1000000 in
set_option maxRecDepth 100000 in
theorem IndexRune_bad (w : World) : Calls Tryz.prog 84 #[.string ⟨#[43, 45, 95]⟩, .int .i32 65533] w (IRis 65533 w) := by
  go_enter Tryz.func84, Tryz.ntmps84
  go_wp2_with fail
  go_loopw [5, 6] (fun _ _ wr => ∃ pos : Nat, wr.heap[w.heap.size]? = some (.stringIter ⟨#[43, 45, 95]⟩ pos) ∧ Ext w wr ∧ pos ≤ 3) (fun _ _ wr => 3 - wr.iterPos w.heap.size)
  case atStart => exact ⟨0, by have := World.iter_heap w ⟨#[43, 45, 95]⟩ 0; simpa using this, (Ext.refl w).alloc _, Nat.zero_le _⟩
  case round =>
    obtain ⟨pos, hit, xr, hle⟩ := hrel
    have hsz : w.heap.size < wr.heap.size := (Array.getElem?_eq_some_iff.1 hit).1
    by_cases hp : pos < (⟨#[43, 45, 95]⟩ : ByteArray).size
    · have hp3 : pos < 3 := hp
      have hdec : Utf8.decode ⟨#[43, 45, 95]⟩ pos = ((if pos = 0 then 43 else if pos = 1 then 45 else 95), 1) := by
        have h : pos = 0 ∨ pos = 1 ∨ pos = 2 := by omega
        rcases h with rfl | rfl | rfl <;> decide +kernel
      have hnx : ∀ ty, (Instr.next (.pointer (some ⟨w.heap.size, 0, none⟩)) true ty).run Tryz.prog wr = _ := fun ty => Lib.run_next_any_at wr w.heap.size ⟨#[43, 45, 95]⟩ pos ty hit hp
      have hit2 := Lib.iterAt_heap wr w.heap.size ⟨#[43, 45, 95]⟩ pos (pos + 1) hit
      have xr2 := xr.iterAt (Nat.le_refl _) ⟨#[43, 45, 95]⟩ (pos + 1)
      rw [hdec] at hnx
      obtain ⟨v, hv, hv2⟩ : ∃ v : Nat, (if pos = 0 then 43 else if pos = 1 then 45 else 95) = v ∧ v < 128 := ⟨_, rfl, by split; decide; split <;> decide⟩
      rw [hv] at hnx
      have HIT := Lib.hid hit
      have HIT2 := Lib.hid hit2
      have XR2 := Lib.hid xr2
      have k1 : ((v : Int) == 65533) = false := by rw [beq_eq_false_iff_ne]; omega
      clear hit hit2 xr xr2 hdec hv hp
      go_wp2_with fail
      go_roundw
      case rel => exact ⟨pos + 1, HIT2.out, XR2.out, by omega⟩
      case measure => simp only [World.iterPos, HIT2.out, HIT.out]; omega
    · have hnx : ∀ ty, (Instr.next (.pointer (some ⟨w.heap.size, 0, none⟩)) true ty).run Tryz.prog wr = _ := fun ty => Lib.run_next_end_at wr w.heap.size ⟨#[43, 45, 95]⟩ pos ty hit hp
      have XR := Lib.hid xr
      clear xr
      go_wp2
      go_ret
      exact ⟨-1, rfl, ⟨fun h => absurd h (by decide), fun h => by unfold signR at h; omega⟩, XR.out⟩
theorem IndexRune_any (r : Int) (h : Utf8.valid r = true) (w : World) : Calls Tryz.prog 84 #[.string ⟨#[43, 45, 95]⟩, .int .i32 r] w (IRis r w) := by
  obtain ⟨n, rfl, hn⟩ := valid_cases h
  by_cases h1 : n < 128
  · exact IndexRune_low _ (by omega) (by omega) w
  · by_cases h2 : n = 65533
    · subst h2; exact IndexRune_bad w
    · exact IndexRune_high n hn (by omega) h2 w
end Go.Proofs.YtdafdoodegpdhaaGreatDoor

namespace Go.Proofs.YtdafdoodegpdhaaGreatDoor
open Go Go.RowKit Go.BigFrame
set_option linter.unusedVariables false
set_option linter.unusedSimpArgs false

def signC (c : UInt8) : Prop := c = 43 ∨ c = 45 ∨ c = 95
def HeadOk (l : List UInt8) : Prop := l.head? ≠ some 43 ∧ l.head? ≠ some 45
def IAis (s : ByteArray) (w : World) (e : Ending) (w' : World) : Prop := ∃ z : Int, e = .returned (.int .i64 z) ∧ (0 ≤ z → ∃ c ∈ s.data.toList, signC c) ∧ (z < 0 → HeadOk s.data.toList) ∧ Ext w w'
def CAis (s : ByteArray) (w : World) (e : Ending) (w' : World) : Prop := ∃ b : Bool, e = .returned (.bool b) ∧ (b = true → ∃ c ∈ s.data.toList, signC c) ∧ (b = false → HeadOk s.data.toList) ∧ Ext w w'
theorem sign_at {s : ByteArray} {pos : Nat} (hp : pos < s.size) (h : signR (Int.ofNat (Utf8.decode s pos).1)) : ∃ c ∈ s.data.toList, signC c := by
  have hs : (Utf8.decode s pos).1 < 128 := by unfold signR at h; simp at h; omega
  obtain ⟨h1, h2⟩ := decode_small s hp hs
  rw [h1] at h
  refine ⟨s[pos], byte_mem.2 ⟨pos, hp, rfl⟩, ?_⟩
  unfold signR at h
  simp at h
  unfold signC
  rcases h with h | h | h
  · exact .inl (UInt8.toNat_inj.1 (by show (s[pos]).toNat = 43; omega))
  · exact .inr (.inl (UInt8.toNat_inj.1 (by show (s[pos]).toNat = 45; omega)))
  · exact .inr (.inr (UInt8.toNat_inj.1 (by show (s[pos]).toNat = 95; omega)))
theorem head_ok {s : ByteArray} (hp : 0 < s.size) (h : ¬ signR (Int.ofNat (Utf8.decode s 0).1)) : HeadOk s.data.toList := by
  have hd : s.data.toList.head? = some (s[0]'hp) := by rw [List.head?_eq_getElem?, List.getElem?_eq_getElem (by exact hp)]; rfl
  unfold HeadOk
  rw [hd]
  constructor
  · intro e
    have e1 : s[0]'hp = 43 := Option.some.inj e
    have h2 := decode_ascii s 0 hp (by rw [e1]; decide)
    exact h (by rw [h2, e1]; exact .inl rfl)
  · intro e
    have e1 : s[0]'hp = 45 := Option.some.inj e
    have h2 := decode_ascii s 0 hp (by rw [e1]; decide)
    exact h (by rw [h2, e1]; exact .inr (.inl rfl))
set_option maxHeartbeats 1000000 in
set_option maxRecDepth 100000 in
theorem IndexAny_any (s : ByteArray) (h0 : s.size ≠ 0) (h7 : s.size ≤ 7) (w : World) : Calls Tryz.prog 81 #[.string s, .string ⟨#[43, 45, 95]⟩] w (IAis s w) := by
  have k8 : ¬ (8 : Int) < (s.size : Int) := by omega
  have HASC := Lib.hid (show ∀ W, Calls Tryz.prog 85 #[.int .i64 (s.size : Int)] W (RBool false W) from fun W => by
    have x := Ext.refl W
    go_enter Tryz.func85, Tryz.ntmps85
    go_wp2_with fail
    go_ret
    exact ⟨by simp [k8], x⟩)
  have H0 := Lib.hid (show 0 < s.size by omega)
  clear k8 h0
  go_enter Tryz.func81, Tryz.ntmps81
  go_wp2_with (go_at_call 85; refine (HASC.out _).mono ?_)
  rintro e w1 ⟨rfl, x1⟩
  have X1 := Lib.hid x1
  clear x1
  go_wp2_with fail
  go_loopw [9, 10] (fun _ _ wr => ∃ pos : Nat, wr.heap[w1.heap.size]? = some (.stringIter s pos) ∧ Ext w1 wr ∧ (0 < pos → HeadOk s.data.toList)) (fun _ _ wr => s.size - wr.iterPos w1.heap.size)
  case atStart => exact ⟨0, by have := World.iter_heap w1 s 0; simpa using this, (Ext.refl w1).alloc _, fun h => absurd h (by decide)⟩
  case round =>
    obtain ⟨pos, hit, xr, hpre⟩ := hrel
    have hsz : w1.heap.size < wr.heap.size := (Array.getElem?_eq_some_iff.1 hit).1
    have HPRE := Lib.hid hpre
    clear hpre
    by_cases hp : pos < s.size
    · have hnx : ∀ ty, (Instr.next (.pointer (some ⟨w1.heap.size, 0, none⟩)) true ty).run Tryz.prog wr = _ := fun ty => Lib.run_next_any_at wr w1.heap.size s pos ty hit hp
      have HV := Lib.hid (decode_valid s pos)
      have HSG := Lib.hid (fun h => sign_at (s := s) hp h)
      have HHD := Lib.hid (fun (e : pos = 0) (h : ¬ signR (Int.ofNat (Utf8.decode s pos).1)) => head_ok (s := s) (by omega) (e ▸ h))
      have hwd := width_pos s pos hp
      have HDL := Lib.hid (decode_le s pos)
      have hit2 := Lib.iterAt_heap wr w1.heap.size s pos (pos + (Utf8.decode s pos).2) hit
      have xr2 := xr.iterAt (Nat.le_refl _) s (pos + (Utf8.decode s pos).2)
      have HIT2 := Lib.hid hit2
      have XR2 := Lib.hid xr2
      have HIT := Lib.hid hit
      clear hit hit2 xr xr2
      generalize Utf8.decode s pos = D at *
      obtain ⟨rn, wd⟩ := D
      dsimp only at *
      have HIR := Lib.hid (fun W => IndexRune_any (Int.ofNat rn) HV.out W)
      have HW := Lib.hid hwd
      clear hwd
      go_wp2_with (go_at_call 84; refine (HIR.out _).mono ?_)
      rintro e wx ⟨z, rfl, hz, xx⟩
      have XX := Lib.hid (XR2.out.trans xx)
      have hitx := xx.block HIT2.out
      have HITX := Lib.hid hitx
      have HZ := Lib.hid hz
      clear hz hitx xx
      by_cases hz0 : (0 : Int) ≤ z
      · have FS := Lib.hid (HSG.out (HZ.out.1 hz0))
        go_wp2_with fail
        go_ret
        exact ⟨_, rfl, fun _ => FS.out, fun h => by omega, X1.out.trans XX.out⟩
      · have FH := Lib.hid (show HeadOk s.data.toList from by
          by_cases hp0 : pos = 0
          · exact HHD.out hp0 fun h => hz0 (HZ.out.2 h)
          · exact HPRE.out (by omega))
        have kz : decide ((0 : Int) ≤ z) = false := decide_eq_false hz0
        have kz2 : z < 0 := by omega
        clear hz0
        go_wp2_with fail
        go_roundw
        case rel => exact ⟨pos + wd, HITX.out, XX.out, fun _ => FH.out⟩
        case measure => simp only [World.iterPos, HITX.out, HIT.out]; have := HW.out; omega
    · have hnx : ∀ ty, (Instr.next (.pointer (some ⟨w1.heap.size, 0, none⟩)) true ty).run Tryz.prog wr = _ := fun ty => Lib.run_next_end_at wr w1.heap.size s pos ty hit hp
      have XR := Lib.hid xr
      have FH := Lib.hid (HPRE.out (by have := H0.out; omega))
      clear xr
      go_wp2
      go_ret
      exact ⟨-1, rfl, fun h => absurd h (by decide), fun _ => FH.out, X1.out.trans XR.out⟩
set_option maxHeartbeats 400000 in
theorem ContainsAny_any (s : ByteArray) (h0 : s.size ≠ 0) (h7 : s.size ≤ 7) (w : World) : Calls Tryz.prog 74 #[.string s, .string ⟨#[43, 45, 95]⟩] w (CAis s w) := by
  have HI := Lib.hid (IndexAny_any s h0 h7)
  clear h0 h7
  go_enter Tryz.func74, Tryz.ntmps74
  go_wp2_with (go_at_call 81; refine (HI.out _).mono ?_)
  rintro e w1 ⟨z, rfl, h1, h2, x1⟩
  have H1 := Lib.hid h1
  have H2 := Lib.hid h2
  have X1 := Lib.hid x1
  clear h1 h2 x1
  go_wp2_with fail
  go_ret
  exact ⟨decide (0 ≤ z), rfl, fun h => H1.out (by simpa using h), fun h => H2.out (by simpa using h), X1.out⟩
end Go.Proofs.YtdafdoodegpdhaaGreatDoor

namespace Go.Proofs.YtdafdoodegpdhaaGreatDoor
open Go Go.RowKit Go.BigFrame
set_option linter.unusedVariables false
set_option linter.unusedSimpArgs false

theorem etext_none {s : ByteArray} (h : s.size = 0) : (s.toList == ([] : List UInt8)) = true := by rw [ByteArray.toList_eq, show s.data.toList = [] from List.eq_nil_of_length_eq_zero h]; rfl
theorem etext_some {s : ByteArray} (h : ¬ s.size = 0) : (s.toList == ([] : List UInt8)) = false := by
  rw [ByteArray.toList_eq, beq_eq_false_iff_ne]
  intro e
  exact h (by show s.data.toList.length = 0; rw [e]; rfl)
theorem numL_bad (b : Nat) (c : UInt8) (hc : b ≤ digV c) : ∀ (l : List UInt8) (m : Nat), c ∈ l → numL b m l = none := by
  intro l
  induction l with
  | nil => intro m h; cases h
  | cons d r ih =>
    intro m h
    rw [numL]
    rcases List.mem_cons.1 h with rfl | h
    · rw [if_pos hc]
    · split
      · rfl
      · exact ih _ h
theorem sign_bad {l : List UInt8} (b : Nat) (hb : b ≤ 16) (h : ∃ c ∈ l, signC c) : numL b 0 l = none := by
  obtain ⟨c, hc, hs⟩ := h
  refine numL_bad b c ?_ l 0 hc
  have h99 : digV c = 99 := by rcases hs with rfl | rfl | rfl <;> rfl
  omega
set_option maxHeartbeats 400000 in
theorem ValidRune_any (n : Nat) (hn : n < 268435456) (w : World) : Calls Tryz.prog 76 #[.int .i32 (n : Int)] w (RBool (decide (n < 55296 ∨ 57344 ≤ n ∧ n ≤ 1114111)) w) := by
  have x := Ext.refl w
  by_cases h : n < 55296 ∨ 57344 ≤ n ∧ n ≤ 1114111
  · rw [decide_eq_true h]
    exact ValidRune_ok (n : Int) (by unfold Utf8.valid; simp; omega) w
  · rw [decide_eq_false h]
    have h1 : ¬ (n : Int) < 55296 := by omega
    by_cases h2 : (n : Int) ≤ 57343
    · have h3 : ¬ (57343 : Int) < (n : Int) := by omega
      clear h
      go_enter Tryz.func76, Tryz.ntmps76
      go_wp2
      go_ret
      exact ⟨rfl, x⟩
    · have h3 : (57343 : Int) < (n : Int) := by omega
      have h4 : ¬ (n : Int) ≤ 1114111 := by omega
      clear h
      go_enter Tryz.func76, Tryz.ntmps76
      go_wp2
      go_ret
      exact ⟨rfl, x⟩
theorem prefix_one (l : List UInt8) (c : UInt8) : Lib.hasPrefix l [c] = decide (l.head? = some c) := by
  cases l with
  | nil => rfl
  | cons b r =>
    rw [Bool.eq_iff_iff]
    simp [Lib.hasPrefix, List.isPrefixOf]
    exact eq_comm
theorem code_parts {B most : Nat} {t : ByteArray} {o : Option (List UInt8)} (h0 : t.size ≠ 0) (hm : ¬ most < t.size) (h : (codeN B most t.data.toList).map (fun (n : Nat) => (Utf8.encode (n : Int)).data.toList) = o) :
    ((numL B 0 t.data.toList).filter runeN).map (fun (n : Nat) => (Utf8.encode (n : Int)).data.toList) = o := by
  rw [← h]
  unfold codeN
  rw [if_neg]
  rintro (h1 | h1)
  · exact h0 (by show t.data.toList.length = 0; rw [h1]; rfl)
  · exact hm h1
set_option maxHeartbeats 2000000 in
set_option maxRecDepth 100000 in
theorem coded_any (s : ByteArray) (hs : s.size ≤ 20) (w : World) (hl : LW w) : Calls Tryz.prog 59 #[.string s] w (RVal (optV (codedL s.data.toList)) w) := by
  have HP := Lib.hid (HasPrefix_any s ⟨#[120]⟩)
  have HL := Lib.hid hl
  obtain ⟨o, ho⟩ : ∃ o, codedL s.data.toList = o := ⟨_, rfl⟩
  rw [ho]
  have hpx := prefix_one s.data.toList 120
  unfold codedL codeL at ho
  by_cases hx : s.data.toList.head? = some 120
  · rw [if_pos hx] at ho
    have hpos : 0 < s.size := by
      rcases Nat.eq_zero_or_pos s.size with h | h
      · have : s.data.toList = [] := List.eq_nil_of_length_eq_zero h
        rw [this] at hx; cases hx
      · exact h
    rw [decide_eq_true hx] at hpx
    have HP2 := Lib.hid (fun W => (hpx ▸ HP.out W : Calls Tryz.prog 21 #[.string s, .string ⟨#[120]⟩] W (RVal (.bool true) W)))
    obtain ⟨t, ht⟩ : ∃ t, s.extract 1 s.size = t := ⟨_, rfl⟩
    have htl : t.data.toList = s.data.toList.tail := by
      have h1 := bs_cut s.data.toList 1 s.size
      rw [bs_list, ht] at h1
      rw [h1, bs_data, List.drop_one]
      exact List.take_of_length_le (by rw [List.length_tail]; exact Nat.le_refl _)
    have hsl : ∀ W : World, (Instr.slice 9 (.string s) (some (.int .i64 1)) none none).run Tryz.prog W = .ok (.string t) W := by
      intro W
      rw [run_slice_string_l W 9 s Tryz.underlying9 .i64 1 (by decide) (by omega), ← ht]
      rfl
    have htz : t.size ≤ 20 := by
      have h1 : t.size = t.data.toList.length := rfl
      have h2 : s.data.toList.length = s.size := rfl
      rw [h1, htl, List.length_tail]; omega
    rw [← htl] at ho
    have HO := Lib.hid ho
    clear ho hx hpx ht htl hs hl hpos
    go_enter Tryz.func59, Tryz.ntmps59
    go_wp2_with (go_at_call 21; refine (HP2.out _).mono ?_)
    rintro e w1 ⟨rfl, x1⟩
    have X1 := Lib.hid x1
    clear x1
    by_cases z0 : t.size = 0
    · have e0 : (t.toList == ([] : List UInt8)) = true := etext_none z0
      have ho1 : o = none := by rw [← HO.out]; unfold codeN; rw [if_pos (.inl (List.eq_nil_of_length_eq_zero z0))]; rfl
      subst ho1
      clear z0
      go_wp2_with fail
      go_ret2
      exact ⟨rfl, X1.out⟩
    have e0 : (t.toList == ([] : List UInt8)) = false := etext_some z0
    by_cases z6 : 6 < t.size
    · have k6 : (6 : Int) < (t.size : Int) := by omega
      have k6i : decide ((6 : Int) < (t.size : Int)) = true := decide_eq_true k6
      have k6n : decide (6 < t.size) = true := decide_eq_true z6
      have ho1 : o = none := by rw [← HO.out]; unfold codeN; rw [if_pos (.inr z6)]; rfl
      subst ho1
      clear z6
      go_wp2_with fail
      go_ret2
      exact ⟨rfl, X1.out⟩
    have k6 : ¬ (6 : Int) < (t.size : Int) := by omega
    have k6i : decide ((6 : Int) < (t.size : Int)) = false := decide_eq_false k6
    have k6n : decide (6 < t.size) = false := decide_eq_false z6
    have HO2 := Lib.hid (code_parts z0 z6 HO.out)
    have HCA := Lib.hid (ContainsAny_any t z0 (by omega))
    have Z0 := Lib.hid z0
    have Z7 := Lib.hid (show t.size ≤ 7 by omega)
    clear z0 z6 htz
    go_wp2_with (go_at_call 74; refine (HCA.out _).mono ?_)
    rintro e w2 ⟨b, rfl, h1, h2, x2⟩
    have H1 := Lib.hid h1
    have H2 := Lib.hid h2
    have X2 := Lib.hid (X1.out.trans x2)
    clear h1 h2 x2
    cases b with
    | true =>
      have ho1 : o = none := by rw [← HO2.out, sign_bad 16 (by decide) (H1.out rfl)]; rfl
      subst ho1
      go_wp2_with fail
      go_ret2
      exact ⟨rfl, X2.out⟩
    | false =>
      have HPI := Lib.hid (ppi16_any t Z0.out Z7.out (H2.out rfl).1 (H2.out rfl).2 w2 (HL.out.ext X2.out))
      have hlt : ∀ n, numL 16 0 t.data.toList = some n → n < 268435456 := fun n h => by
        have h1 := numL_lt 16 (by decide) _ 0 n 1 h (by decide)
        have h2 : 16 ^ t.data.toList.length ≤ 268435456 := pow_le7 Z7.out
        omega
      have HLT := Lib.hid hlt
      obtain ⟨r, hr⟩ : ∃ r, numL 16 0 t.data.toList = r := ⟨_, rfl⟩
      rw [hr] at HPI HLT HO2
      clear hr hlt
      go_wp2_with (go_at_call 75; refine HPI.out.mono ?_)
      rintro e w3 ⟨ev, rfl, hv1, hv2, x3⟩
      have X3 := Lib.hid (X2.out.trans x3)
      clear x3
      cases r with
      | none =>
        obtain ⟨p, rfl⟩ := hv2 rfl
        have ho1 : o = none := HO2.out.symm
        subst ho1
        clear hv1 hv2
        go_wp2_with fail
        go_ret2
        exact ⟨rfl, X3.out⟩
      | some n =>
        obtain rfl := hv1 (by simp)
        have hn := HLT.out n rfl
        clear hv1 hv2
        have hw : IntKind.i32.wrap (n : Int) = (n : Int) := IntWalk.i32_in _ (by omega)
        by_cases n0 : n = 0
        · have ho1 : o = none := by rw [← HO2.out, n0]; rfl
          subst ho1
          have kn : ((n : Int) == 0) = true := by simp [n0]
          clear n0
          go_wp2_with fail
          go_ret2
          exact ⟨rfl, X3.out⟩
        have kn : ((n : Int) == 0) = false := by rw [beq_eq_false_iff_ne]; omega
        have HVR := Lib.hid (ValidRune_any n hn)
        by_cases nv : n < 55296 ∨ 57344 ≤ n ∧ n ≤ 1114111
        case neg =>
          have hf : runeN n = false := by unfold runeN; exact decide_eq_false (by omega)
          have ho1 : o = none := by rw [← HO2.out]; simp [Option.filter, hf]
          subst ho1
          have HVF := Lib.hid (fun W => (decide_eq_false nv ▸ HVR.out W : Calls Tryz.prog 76 #[.int .i32 (n : Int)] W (RBool false W)))
          clear nv hf n0
          go_wp2_with (go_at_call 76; refine (HVF.out _).mono ?_)
          rintro e w4 ⟨rfl, x4⟩
          go_wp2_with fail
          go_ret2
          exact ⟨rfl, X3.out.trans x4⟩
        have hf : runeN n = true := by unfold runeN; exact decide_eq_true (by omega)
        have ho1 : o = some (Utf8.encode (n : Int)).data.toList := by rw [← HO2.out]; simp [Option.filter, hf]
        have HVF := Lib.hid (fun W => (decide_eq_true nv ▸ HVR.out W : Calls Tryz.prog 76 #[.int .i32 (n : Int)] W (RBool true W)))
        have hcv : ∀ W : World, (Go.convert 21 9 (.int .i32 (n : Int))).run Tryz.prog W = .ok (.string (Utf8.encode (n : Int))) W := by
          intro W
          simp [convert, run_underlying Tryz.underlying21, run_underlying Tryz.underlying9, Conv.intToString]
        have hfin : optV o = .tuple #[.string (Utf8.encode (n : Int)), .bool true] := by rw [ho1]; unfold optV; simp [bs_list]
        clear nv hf n0 ho1
        generalize Utf8.encode (n : Int) = E at *
        have HFIN := Lib.hid hfin
        clear hfin
        go_wp2_with (go_at_call 76; refine (HVF.out _).mono ?_)
        rintro e w4 ⟨rfl, x4⟩
        go_wp2_with fail
        go_ret2
        exact ⟨by rw [HFIN.out]; rfl, X3.out.trans x4⟩
  · rw [if_neg hx] at ho
    rw [decide_eq_false hx] at hpx
    have HP2 := Lib.hid (fun W => (hpx ▸ HP.out W : Calls Tryz.prog 21 #[.string s, .string ⟨#[120]⟩] W (RVal (.bool false) W)))
    have HO := Lib.hid ho
    obtain ⟨t, ht⟩ : ∃ t, s = t := ⟨_, rfl⟩
    subst ht
    have htz := hs
    clear ho hx hpx hs hl
    go_enter Tryz.func59, Tryz.ntmps59
    go_wp2_with (go_at_call 21; refine (HP2.out _).mono ?_)
    rintro e w1 ⟨rfl, x1⟩
    have X1 := Lib.hid x1
    clear x1
    by_cases z0 : s.size = 0
    · have e0 : (s.toList == ([] : List UInt8)) = true := etext_none z0
      have ho1 : o = none := by rw [← HO.out]; unfold codeN; rw [if_pos (.inl (List.eq_nil_of_length_eq_zero z0))]; rfl
      subst ho1
      clear z0
      go_wp2_with fail
      go_ret2
      exact ⟨rfl, X1.out⟩
    have e0 : (s.toList == ([] : List UInt8)) = false := etext_some z0
    by_cases z6 : 7 < s.size
    · have k6 : (7 : Int) < (s.size : Int) := by omega
      have k6i : decide ((7 : Int) < (s.size : Int)) = true := decide_eq_true k6
      have k6n : decide (7 < s.size) = true := decide_eq_true z6
      have ho1 : o = none := by rw [← HO.out]; unfold codeN; rw [if_pos (.inr z6)]; rfl
      subst ho1
      clear z6
      go_wp2_with fail
      go_ret2
      exact ⟨rfl, X1.out⟩
    have k6 : ¬ (7 : Int) < (s.size : Int) := by omega
    have k6i : decide ((7 : Int) < (s.size : Int)) = false := decide_eq_false k6
    have k6n : decide (7 < s.size) = false := decide_eq_false z6
    have HO2 := Lib.hid (code_parts z0 z6 HO.out)
    have HCA := Lib.hid (ContainsAny_any s z0 (by omega))
    have Z0 := Lib.hid z0
    have Z7 := Lib.hid (show s.size ≤ 7 by omega)
    clear z0 z6 htz
    go_wp2_with (go_at_call 74; refine (HCA.out _).mono ?_)
    rintro e w2 ⟨b, rfl, h1, h2, x2⟩
    have H1 := Lib.hid h1
    have H2 := Lib.hid h2
    have X2 := Lib.hid (X1.out.trans x2)
    clear h1 h2 x2
    cases b with
    | true =>
      have ho1 : o = none := by rw [← HO2.out, sign_bad 10 (by decide) (H1.out rfl)]; rfl
      subst ho1
      go_wp2_with fail
      go_ret2
      exact ⟨rfl, X2.out⟩
    | false =>
      have HPI := Lib.hid (ppi10_any s Z0.out Z7.out (H2.out rfl).1 (H2.out rfl).2 w2 (HL.out.ext X2.out))
      have hlt : ∀ n, numL 10 0 s.data.toList = some n → n < 268435456 := fun n h => by
        have h1 := numL_lt 10 (by decide) _ 0 n 1 h (by decide)
        have h2 : 16 ^ s.data.toList.length ≤ 268435456 := pow_le7 Z7.out
        omega
      have HLT := Lib.hid hlt
      obtain ⟨r, hr⟩ : ∃ r, numL 10 0 s.data.toList = r := ⟨_, rfl⟩
      rw [hr] at HPI HLT HO2
      clear hr hlt
      go_wp2_with (go_at_call 75; refine HPI.out.mono ?_)
      rintro e w3 ⟨ev, rfl, hv1, hv2, x3⟩
      have X3 := Lib.hid (X2.out.trans x3)
      clear x3
      cases r with
      | none =>
        obtain ⟨p, rfl⟩ := hv2 rfl
        have ho1 : o = none := HO2.out.symm
        subst ho1
        clear hv1 hv2
        go_wp2_with fail
        go_ret2
        exact ⟨rfl, X3.out⟩
      | some n =>
        obtain rfl := hv1 (by simp)
        have hn := HLT.out n rfl
        clear hv1 hv2
        have hw : IntKind.i32.wrap (n : Int) = (n : Int) := IntWalk.i32_in _ (by omega)
        by_cases n0 : n = 0
        · have ho1 : o = none := by rw [← HO2.out, n0]; rfl
          subst ho1
          have kn : ((n : Int) == 0) = true := by simp [n0]
          clear n0
          go_wp2_with fail
          go_ret2
          exact ⟨rfl, X3.out⟩
        have kn : ((n : Int) == 0) = false := by rw [beq_eq_false_iff_ne]; omega
        have HVR := Lib.hid (ValidRune_any n hn)
        by_cases nv : n < 55296 ∨ 57344 ≤ n ∧ n ≤ 1114111
        case neg =>
          have hf : runeN n = false := by unfold runeN; exact decide_eq_false (by omega)
          have ho1 : o = none := by rw [← HO2.out]; simp [Option.filter, hf]
          subst ho1
          have HVF := Lib.hid (fun W => (decide_eq_false nv ▸ HVR.out W : Calls Tryz.prog 76 #[.int .i32 (n : Int)] W (RBool false W)))
          clear nv hf n0
          go_wp2_with (go_at_call 76; refine (HVF.out _).mono ?_)
          rintro e w4 ⟨rfl, x4⟩
          go_wp2_with fail
          go_ret2
          exact ⟨rfl, X3.out.trans x4⟩
        have hf : runeN n = true := by unfold runeN; exact decide_eq_true (by omega)
        have ho1 : o = some (Utf8.encode (n : Int)).data.toList := by rw [← HO2.out]; simp [Option.filter, hf]
        have HVF := Lib.hid (fun W => (decide_eq_true nv ▸ HVR.out W : Calls Tryz.prog 76 #[.int .i32 (n : Int)] W (RBool true W)))
        have hcv : ∀ W : World, (Go.convert 21 9 (.int .i32 (n : Int))).run Tryz.prog W = .ok (.string (Utf8.encode (n : Int))) W := by
          intro W
          simp [convert, run_underlying Tryz.underlying21, run_underlying Tryz.underlying9, Conv.intToString]
        have hfin : optV o = .tuple #[.string (Utf8.encode (n : Int)), .bool true] := by rw [ho1]; unfold optV; simp [bs_list]
        clear nv hf n0 ho1
        generalize Utf8.encode (n : Int) = E at *
        have HFIN := Lib.hid hfin
        clear hfin
        go_wp2_with (go_at_call 76; refine (HVF.out _).mono ?_)
        rintro e w4 ⟨rfl, x4⟩
        go_wp2_with fail
        go_ret2
        exact ⟨by rw [HFIN.out]; rfl, X3.out.trans x4⟩
end Go.Proofs.YtdafdoodegpdhaaGreatDoor

namespace Go.Proofs.YtdafdoodegpdhaaGreatDoor
open Go Go.RowKit Go.BigFrame
set_option linter.unusedVariables false
set_option linter.unusedSimpArgs false

set_option maxHeartbeats 2000000 in
set_option maxRecDepth 100000 in
theorem entity_any (s : ByteArray) (hs : s.size ≤ 1000000000000) (hh : s.data.toList.head? = some 38) (w : World) (hl : LW w) :
    Calls Tryz.prog 31 #[.string s] w (RTwo (.string (bs (entityL s.data.toList).1)) (.int .i64 (entityL s.data.toList).2) w) := by
  obtain ⟨l, hl0⟩ : ∃ l, s.data.toList = l := ⟨_, rfl⟩
  have hsb : s = bs l := by rw [← hl0, bs_list]
  have hz : s.size = l.length := by rw [← hl0]; rfl
  have hcut : ∀ i j, s.extract i j = bs ((l.drop i).take (j - i)) := fun i j => by rw [hsb]; exact bs_cut l i j
  have h12 : (bs (l.take 12)).data.toList = l.take 12 := bs_data _
  have hd12 : (s.extract 0 (min (s.size : Int) 12).toNat).data.toList = l.take 12 := by
    rw [hcut, bs_data, List.drop_zero]
    have e : (min (s.size : Int) 12).toNat - 0 = min l.length 12 := by omega
    rw [e]
    by_cases h : l.length ≤ 12
    · rw [Nat.min_eq_left h, List.take_of_length_le (Nat.le_refl _), List.take_of_length_le h]
    · rw [Nat.min_eq_right (by omega)]
  have HI := Lib.hid (fun W => (hd12 ▸ IndexByte_any (s.extract 0 (min (s.size : Int) 12).toNat) 59 59 rfl W : Calls Tryz.prog 29 #[.string (s.extract 0 (min (s.size : Int) 12).toNat), .int .u8 59] W (RVal (.int .i64 (Lib.indexByte (l.take 12) 59)) W)))
  obtain ⟨res, hres⟩ : ∃ r, entityL l = r := ⟨_, rfl⟩
  rw [hl0, hres]
  rw [hl0] at hh
  unfold entityL at hres
  have HR := Lib.hid hres
  have HL := Lib.hid hl
  have HC := Lib.hid hcut
  have HH := Lib.hid hh
  have HZ := Lib.hid hz
  have HB := Lib.hid hl0
  obtain ⟨e, he⟩ : ∃ e, Lib.indexByte (l.take 12) 59 = e := ⟨_, rfl⟩
  rw [he] at HI HR
  have HE := Lib.hid he
  have b12 : 0 ≤ min (s.size : Int) 12 := by omega
  have c12 : min (s.size : Int) 12 ≤ (s.size : Int) := by omega
  clear hres hl hcut hh hsb h12 hl0 hd12 hz he
  go_enter Tryz.func31, Tryz.ntmps31
  go_wp2_with (go_at_call 29; refine (HI.out _).mono ?_)
  rintro e w1 ⟨rfl, x1⟩
  have X1 := Lib.hid x1
  clear x1 b12 c12
  by_cases hneg : e < 0
  · have hr : res = ([38], 1) := by rw [← HR.out, if_pos hneg]
    subst hr
    go_wp2_with fail
    go_ret2
    exact ⟨rfl, X1.out⟩
  obtain ⟨k, hk, hk59, _⟩ := indexByte_some (by rw [HE.out]; exact hneg)
  rw [HE.out] at hk
  subst hk
  have hk12 : k < 12 ∧ k < l.length := by
    have h := (List.getElem?_eq_some_iff.1 hk59).1
    rw [List.length_take] at h; omega
  have hlk : l[k]? = some 59 := by rw [List.getElem?_take, if_pos hk12.1] at hk59; exact hk59
  have hk0 : 1 ≤ k := by
    rcases Nat.eq_zero_or_pos k with rfl | h
    · have h1 := HH.out; rw [List.head?_eq_getElem?, hlk] at h1; cases h1
    · exact h
  have HR2 : Hid ((match meansL l k with | some x => (x, k + 1) | none => ([38], 1)) = res) := Lib.hid (by rw [← HR.out, if_neg hneg]; rfl)
  have HK := Lib.hid hlk
  have HK12 := Lib.hid hk12
  have b1 : (1 : Int) ≤ (k : Int) := by omega
  have b2 : (k : Int) ≤ (s.size : Int) := by have := HZ.out; have := hk12.2; omega
  have kneg : decide ((k : Int) < 0) = false := decide_eq_false (by omega)
  have hn1 : (s.extract 1 k).data.toList = (l.drop 1).take (k - 1) := by rw [HC.out, bs_data]
  have HN := Lib.hid (fun W => (hn1 ▸ named_any (s.extract 1 k) W : Calls Tryz.prog 58 #[.string (s.extract 1 k)] W (RVal (optV (namedL ((l.drop 1).take (k - 1)))) W)))
  clear hneg hk59 hlk hk12 hn1
  obtain ⟨o, ho⟩ : ∃ o, namedL ((l.drop 1).take (k - 1)) = o := ⟨_, rfl⟩
  rw [ho] at HN
  have HO := Lib.hid ho
  clear ho
  go_wp2_with (go_at_call 58; refine (HN.out _).mono ?_)
  rintro e w2 ⟨rfl, x2⟩
  have X2 := Lib.hid (X1.out.trans x2)
  clear x2
  have hwk : IntKind.i64.wrap ((k : Int) + 1) = (k : Int) + 1 := IntWalk.i64_in _ (by have := HK12.out; omega)
  cases o with
  | some x =>
    have hr : res = (x, k + 1) := by rw [← HR2.out]; unfold meansL; rw [HO.out]
    subst hr
    unfold optV
    go_wp2_with fail
    go_ret2
    exact ⟨rfl, X2.out⟩
  | none =>
    have hpx : Lib.hasPrefix l [38, 35] = decide (l.take 2 = [38, 35]) := by
      cases l with
      | nil => rfl
      | cons a r =>
        cases r with
        | nil => rw [Bool.eq_iff_iff]; simp [Lib.hasPrefix, List.isPrefixOf]
        | cons b r => rw [Bool.eq_iff_iff]; simp [Lib.hasPrefix, List.isPrefixOf]; exact ⟨fun h => ⟨h.1.symm, h.2.symm⟩, fun h => ⟨h.1.symm, h.2.symm⟩⟩
    have HP := Lib.hid (fun W => (HB.out ▸ HasPrefix_any s ⟨#[38, 35]⟩ W : Calls Tryz.prog 21 #[.string s, .string ⟨#[38, 35]⟩] W (RVal (.bool (Lib.hasPrefix l [38, 35])) W)))
    by_cases h2 : l.take 2 = [38, 35]
    · rw [hpx, decide_eq_true h2] at HP
      have hk2 : 2 ≤ k := by
        rcases Nat.lt_or_ge k 2 with h | h
        · have h1 : k = 1 := by omega
          have h3 : (l.take 2)[1]? = some 59 := by rw [List.getElem?_take, if_pos (by decide), ← h1]; exact HK.out
          rw [h2] at h3
          cases h3
        · exact h
      have hn2 : (s.extract 2 k).data.toList = (l.drop 2).take (k - 2) := by rw [HC.out, bs_data]
      have hz2 : (s.extract 2 k).size ≤ 20 := by
        show (s.extract 2 k).data.toList.length ≤ 20
        rw [hn2, List.length_take]
        have := HK12.out
        omega
      have HCD := Lib.hid (fun W (hW : LW W) => (hn2 ▸ coded_any (s.extract 2 k) hz2 W hW : Calls Tryz.prog 59 #[.string (s.extract 2 k)] W (RVal (optV (codedL ((l.drop 2).take (k - 2)))) W)))
      have b3 : (2 : Int) ≤ (k : Int) := by omega
      obtain ⟨o2, ho2⟩ : ∃ o, codedL ((l.drop 2).take (k - 2)) = o := ⟨_, rfl⟩
      rw [ho2] at HCD
      have hm : meansL l k = o2 := by unfold meansL; rw [HO.out]; dsimp only; rw [if_pos h2, ho2]
      have HM := Lib.hid hm
      clear hm ho2 hz2 hn2 hk2 h2 hpx
      unfold optV
      go_wp2_with (go_at_call 21; refine (HP.out _).mono ?_)
      rintro e w3 ⟨rfl, x3⟩
      have X3 := Lib.hid (X2.out.trans x3)
      clear x3
      go_wp2_with (go_at_call 59; refine (HCD.out _ (HL.out.ext X3.out)).mono ?_)
      rintro e w4 ⟨rfl, x4⟩
      have X4 := Lib.hid (X3.out.trans x4)
      clear x4
      cases o2 with
      | some x =>
        have hr : res = (x, k + 1) := by rw [← HR2.out, HM.out]
        subst hr
        unfold optV
        go_wp2_with fail
        go_ret2
        exact ⟨rfl, X4.out⟩
      | none =>
        have hr : res = ([38], 1) := by rw [← HR2.out, HM.out]
        subst hr
        unfold optV
        go_wp2_with fail
        go_ret2
        exact ⟨rfl, X4.out⟩
    · rw [hpx, decide_eq_false h2] at HP
      have hr : res = ([38], 1) := by rw [← HR2.out]; unfold meansL; rw [HO.out]; dsimp only; rw [if_neg h2]
      subst hr
      clear h2 hpx
      unfold optV
      go_wp2_with (go_at_call 21; refine (HP.out _).mono ?_)
      rintro e w3 ⟨rfl, x3⟩
      go_wp2_with fail
      go_ret2
      exact ⟨rfl, X2.out.trans x3⟩
end Go.Proofs.YtdafdoodegpdhaaGreatDoor

namespace Go.Proofs.YtdafdoodegpdhaaGreatDoor.Lx
open Go Go.RowKit Go.BigFrame
set_option linter.unusedVariables false
set_option linter.unusedSimpArgs false
/-- the printer at b holds the bytes bs -/
abbrev BuF (B b : Nat) (bs : List Value) (w : World) : Prop := Lib.IsBuilderF 57 5 B b bs w
abbrev BuA (B b : Nat) (p : Value) (bs : List Value) (w : World) : Prop := Lib.BuilderAtF 57 5 B b p bs w
abbrev Kept (b : Nat) (w w' : World) : Prop := Lib.OthersKept 5 (some b) w w'
theorem infoBuilder : (Tryz.prog.info? 57).map (fun i => i.size) = some 2 := by kernel_rfl
theorem liesPrinter : liesAt Tryz.prog Tryz.prog.depth 57 (2 / Tryz.prog.cellsOf 57) 0 57 1 = true := by kernel_rfl
set_option maxHeartbeats 2000000 in
set_option maxRecDepth 100000 in
theorem copyCheck_fresh (b : Nat) (w : World) (h0 : w.cell? ⟨b, 0, none⟩ = some (.pointer none)) (hsh : w.shape? b = some (57, 2)) (hfz : w.frozen? ⟨b, 0, none⟩ = false) :
    Calls Tryz.prog 57 #[.pointer (some ⟨b, 0, none⟩)] w fun e w' => e = .returned (.tuple #[]) ∧ w' = w.setCell ⟨b, 0, none⟩ (.pointer (some ⟨b, 0, none⟩)) := by
  obtain ⟨j, hj, hjs⟩ := Option.map_eq_some_iff.1 infoBuilder
  go_enter Tryz.func57, Tryz.ntmps57
  go_wp2
  rw [Lib.run_to_unsafe w ⟨b, 0, none⟩ Tryz.underlying55 Tryz.underlying88 hj (by rw [hjs]; decide) hsh (Nat.zero_lt_succ 1)]
  simp only [Result.andThen]
  rw [Oper.upon_value]
  go_wp2
  rw [run_callFunc_extern Tryz.func73 (by kernel_rfl) (by kernel_rfl) (by kernel_rfl) (e := Extern.AbiNoEscape.same) (by kernel_rfl)]
  rw [Lib.run_noEscape]
  simp only [Result.andThen]
  rw [Oper.upon_value]
  go_wp2
  rw [Lib.run_from_unsafe w ⟨b, 0, none⟩ Tryz.underlying88 Tryz.underlying55 hj hsh liesPrinter]
  simp only [Result.andThen]
  rw [Oper.upon_value]
  go_wp2
  go_end0
  exact ⟨rfl, rfl⟩
set_option maxHeartbeats 2000000 in
set_option maxRecDepth 100000 in
theorem copyCheck_used (b : Nat) (w : World) (h0 : w.cell? ⟨b, 0, none⟩ = some (.pointer (some ⟨b, 0, none⟩))) :
    Calls Tryz.prog 57 #[.pointer (some ⟨b, 0, none⟩)] w fun e w' => e = .returned (.tuple #[]) ∧ w' = w := by
  obtain ⟨j, hj, _⟩ := Option.map_eq_some_iff.1 infoBuilder
  go_enter Tryz.func57, Tryz.ntmps57
  go_wp2
  rw [Lib.run_neq_ptr_same w _ Tryz.underlying55 hj]
  go_wp2
  go_end0
  exact ⟨rfl, rfl⟩
theorem copyCheck_k (B b : Nat) (bs : List Value) (w : World) (h : BuF B b bs w) :
    Calls Tryz.prog 57 #[.pointer (some ⟨b, 0, none⟩)] w fun e w' => e = .returned (.tuple #[]) ∧ (BuA B b (.pointer (some ⟨b, 0, none⟩)) bs w' ∧ Below B w w' ∧ Kept b w w') := by
  rcases h with h | h
  · refine (copyCheck_fresh b w h.cell0 h.shape h.frozen0).mono ?_
    rintro e w' ⟨rfl, rfl⟩
    exact ⟨rfl, h.used _, (Below.refl B w).setCell (p := ⟨b, 0, none⟩) h.1 _, (Lib.OthersKept.refl _ _ w).setCell ⟨b, 0, none⟩ rfl _⟩
  · refine (copyCheck_used b w h.cell0).mono ?_
    rintro e w' ⟨rfl, rfl⟩
    exact ⟨rfl, h, Below.refl B _, Lib.OthersKept.refl _ _ _⟩
set_option maxHeartbeats 2000000 in
set_option maxRecDepth 100000 in
theorem WriteString_k (B b : Nat) (bs : List Value) (s : ByteArray) (w : World) (h : BuF B b bs w) (hlen : bs.length + s.size ≤ 140737488355328) (hBw : B ≤ w.heap.size) :
    Calls Tryz.prog 30 #[.pointer (some ⟨b, 0, none⟩), .string s] w fun e w' => e = .returned (.tuple #[.int .i64 s.size, .nilIface]) ∧ (BuA B b (.pointer (some ⟨b, 0, none⟩)) (bs ++ Lib.strCells s) w' ∧ Below B w w' ∧ Kept b w w') := by
  obtain ⟨i0, hi, hz0, hz1, hz2⟩ := info_parts infoByte
  go_enter Tryz.func30, Tryz.ntmps30
  go_wp2_with (go_at_call 57; refine (copyCheck_k B b bs _ h).mono ?_)
  rintro e w1 ⟨rfl, h1, hb1, hk1⟩
  obtain ⟨hB, v, hbk, hown, hne⟩ := h1
  have c0 : w1.cell? ⟨b, 0, none⟩ = some (.pointer (some ⟨b, 0, none⟩)) := by rw [Lib.cell_of_heap hbk]; rfl
  have c1 : w1.cell? ⟨b, 1, none⟩ = some v := by rw [Lib.cell_of_heap hbk]; rfl
  go_wp2_with (at_builtin; refine Lib.wpList_append_own_stringF _ rfl _ _ 42 9 rfl B 5 i0 Tryz.underlying42 Tryz.underlying9 hi hz0 hz1 hz2 _ _ _ rfl hown s rfl ?c3 ?c4 ?c5 ?_)
  case c3 => unfold maxLen; omega
  case c4 => omega
  case c5 => have := hb1.size; omega
  intro v' w2 hown' hgrow _
  have hlt : b < w1.heap.size := by
    rcases Nat.lt_or_ge b w1.heap.size with h' | h'
    · exact h'
    · simp [Array.getElem?_eq_none h'] at hbk
  have hb2 : w2.heap[b]? = some (.cells #[.pointer (some ⟨b, 0, none⟩), v] 57 (0, 0)) := by
    rw [hgrow.block b hlt (fun e => hne e.symm)]
    exact hbk
  have d0 : w2.cell? ⟨b, 0, none⟩ = some (.pointer (some ⟨b, 0, none⟩)) := by rw [Lib.cell_of_heap hb2]; rfl
  have d1 : w2.cell? ⟨b, 1, none⟩ = some v := by rw [Lib.cell_of_heap hb2]; rfl
  have f1 : w2.frozen? ⟨b, 1, none⟩ = false := Lib.frozen_of_heap hb2 1
  obtain ⟨ao, n', cap, rfl⟩ : ∃ ao n' cap, v' = .slice ao n' cap := by
    rcases hown'.2 with ⟨hv, _⟩ | ⟨g, cap, cur, fz, hv, _⟩
    · exact ⟨_, _, _, hv⟩
    · exact ⟨_, _, _, hv⟩
  go_wp2
  go_ret2
  refine ⟨rfl, ?_, ?_, (hk1.grown hgrow (Lib.ownsRowF_kind hown)).setCell ⟨b, 1, none⟩ rfl _⟩
  · exact Lib.BuilderAtF.put (T := 57) (e := 5) hB hb2 (bs' := bs ++ Lib.strCells s) (by simpa [Lib.strCells_length] using hown') (by decide)
  · exact (hb1.grown hgrow (by have := hb1.size; omega) (fun k hk => (hown.lt k hk).1)).setCell (p := ⟨b, 1, none⟩) hB _
theorem cellsByte : Tryz.prog.cellsOf 5 = 1 := by kernel_rfl
set_option maxHeartbeats 1000000 in
set_option maxRecDepth 100000 in
theorem String_k (B b : Nat) (l : List UInt8) (w : World) (h : BuF B b (Lib.byteCells l) w) (h0 : l ≠ []) :
    Calls Tryz.prog 32 #[.pointer (some ⟨b, 0, none⟩)] w fun e w' => e = .returned (.string ⟨l.toArray⟩) ∧ Below B w w' := by
  obtain ⟨p, hp, hAt⟩ : ∃ p, (p = .pointer none ∨ p = .pointer (some ⟨b, 0, none⟩)) ∧ BuA B b p (Lib.byteCells l) w := by
    rcases h with h | h
    · exact ⟨_, .inl rfl, h⟩
    · exact ⟨_, .inr rfl, h⟩
  obtain ⟨hB, v, hbk, hown, hne⟩ := hAt
  have hl0 : l.length ≠ 0 := by simpa using h0
  rw [Lib.byteCells_length] at hown
  obtain ⟨g, cap, cur, fz, rfl, hbg, hg, hfz, hnc, hcm, hcs, htake⟩ : ∃ g cap cur fz, v = .slice (some ⟨g, 0, none⟩) l.length cap ∧ B ≤ g ∧ w.heap[g]? = some (.cells cur 5 fz) ∧ fz.2 ≤ l.length * 1 ∧ l.length ≤ cap ∧ cap ≤ maxLen ∧ cur.size = cap * 1 ∧ cur.toList.take (l.length * 1) = Lib.byteCells l := by
    rcases hown.2 with ⟨_, hz⟩ | ⟨g, cap, cur, fz, hv, r⟩
    · exact absurd hz hl0
    · exact ⟨g, cap, cur, fz, hv, r⟩
  have c1 : w.drew.cell? ⟨b, 1, none⟩ = some (.slice (some ⟨g, 0, none⟩) l.length cap) := by
    have : w.drew.heap[b]? = some (.cells #[p, .slice (some ⟨g, 0, none⟩) l.length cap] 57 (0, 0)) := hbk
    rw [Lib.cell_of_heap this]; rfl
  have hSD : (Builtin.unsafeSliceData_ #[42] 82 #[.slice (some ⟨g, 0, none⟩) l.length cap]).run Tryz.prog w.drew = .ok (.pointer (some ⟨g, 0, none⟩)) w.drew :=
    Lib.run_unsafeSliceData_row _ _ _ _ _ _ (by omega)
  have hUS : (Builtin.unsafeString_ #[82, 3] 9 #[.pointer (some ⟨g, 0, none⟩), .int .i64 l.length]).run Tryz.prog w.drew = .ok (.string ⟨l.toArray⟩) (w.drew.freeze ⟨g, 0, none⟩ l.length) := by
    refine Lib.run_unsafeString_row w.drew 82 3 9 5 Tryz.underlying82 cellsByte g cur.size (by have hg' : w.drew.heap[g]? = some (.cells cur 5 fz) := hg; simp [World.shape?, hg']) l h0 (by omega) (by unfold maxLen at hcm; omega) ?_
    intro j x hx
    have := hown.cells (g := g) rfl j (.int .u8 x.toNat) (by simp [Lib.byteCells, hx])
    exact this
  have mixed : Tryz.prog.follows .mixedOrders = true := by kernel_rfl
  go_enter Tryz.func32, Tryz.ntmps32
  go_wp2
  go_region_o
  all_goals (go_wp2; go_ret; exact ⟨rfl, Lib.below_freeze (Below.drew (Below.refl B w)) (p := ⟨g, 0, none⟩) hbg _⟩)
/-- behind what is printed -/
def Printed (B b : Nat) (l : List UInt8) (w : World) (e : Ending) (w' : World) : Prop := e = .returned (.tuple #[]) ∧ BuF B b (Lib.byteCells l) w' ∧ Below B w w' ∧ Kept b w w'
def Wrote (B b : Nat) (l : List UInt8) (w : World) (e : Ending) (w' : World) : Prop := ∃ m : Nat, e = .returned (.tuple #[.int .i64 m, .nilIface]) ∧ Printed B b l w (.returned (.tuple #[])) w'
theorem Write_any (B b : Nat) (acc : List UInt8) (s : ByteArray) (l : List UInt8) (hs : acc ++ s.data.toList = l) (w : World) (h : BuF B b (Lib.byteCells acc) w) (hlen : acc.length + s.size ≤ 140737488355328) (hBw : B ≤ w.heap.size) :
    Calls Tryz.prog 30 #[.pointer (some ⟨b, 0, none⟩), .string s] w (Wrote B b l w) :=
  (WriteString_k B b _ s w h (by rw [Lib.byteCells_length]; exact hlen) hBw).mono fun e w' hh => ⟨s.size, hh.1, rfl, by rw [← hs, Lib.byteCells_append]; exact .inr hh.2.1, hh.2.2.1, hh.2.2.2⟩
theorem unsafeString_none (w : World) (p : Option Addr) : (Builtin.unsafeString_ #[82, 3] 9 #[.pointer p, .int .i64 0]).run Tryz.prog w = .ok (.string ⟨#[]⟩) w := Lib.run_unsafeString_none _ _ _ _ p
set_option maxHeartbeats 1000000 in
set_option maxRecDepth 100000 in
theorem String_nil (B b : Nat) (p : Value) (w : World) (hbk : w.heap[b]? = some (.cells #[p, .slice none 0 0] 57 (0, 0))) :
    Calls Tryz.prog 32 #[.pointer (some ⟨b, 0, none⟩)] w fun e w' => e = .returned (.string ⟨#[]⟩) ∧ Below B w w' := by
  have hUS := unsafeString_none
  have c1 : w.drew.cell? ⟨b, 1, none⟩ = some (.slice none 0 0) := by
    have : w.drew.heap[b]? = some (.cells #[p, .slice none 0 0] 57 (0, 0)) := hbk
    rw [Lib.cell_of_heap this]; rfl
  have hSD : (Builtin.unsafeSliceData_ #[42] 82 #[.slice none 0 0]).run Tryz.prog w.drew = .ok (.pointer none) w.drew := rfl
  have mixed : Tryz.prog.follows .mixedOrders = true := by kernel_rfl
  go_enter Tryz.func32, Tryz.ntmps32
  go_wp2
  go_region_o
  all_goals (go_wp2; go_ret; exact ⟨rfl, Below.drew (Below.refl B w)⟩)
set_option maxHeartbeats 1000000 in
set_option maxRecDepth 100000 in
theorem String_noroom (B b g : Nat) (p : Value) (cur : Array Value) (w : World) (hBw : B ≤ w.heap.size) (hbk : w.heap[b]? = some (.cells #[p, .slice (some ⟨g, 0, none⟩) 0 0] 57 (0, 0))) (fz : Nat × Nat) (hg : w.heap[g]? = some (.cells cur 5 fz)) :
    Calls Tryz.prog 32 #[.pointer (some ⟨b, 0, none⟩)] w fun e w' => e = .returned (.string ⟨#[]⟩) ∧ Below B w w' := by
  have hUS := unsafeString_none
  have hlt : b < w.heap.size := (Array.getElem?_eq_some_iff.1 hbk).1
  have c1 : w.drew.cell? ⟨b, 1, none⟩ = some (.slice (some ⟨g, 0, none⟩) 0 0) := by
    have : w.drew.heap[b]? = some (.cells #[p, .slice (some ⟨g, 0, none⟩) 0 0] 57 (0, 0)) := hbk
    rw [Lib.cell_of_heap this]; rfl
  have hSD : (Builtin.unsafeSliceData_ #[42] 82 #[.slice (some ⟨g, 0, none⟩) 0 0]).run Tryz.prog w.drew = .ok (.pointer (some ⟨w.drew.heap.size, 0, none⟩)) (w.drew.alloc (.view ⟨g, 0, none⟩ 5)) :=
    Lib.run_unsafeSliceData_zero w.drew _ _ 5 Tryz.underlying82 ⟨g, 0, none⟩ 0 (5, cur.size) (by have hg' : w.drew.heap[g]? = some (.cells cur 5 fz) := hg; simp [World.shape?, hg'])
  have c2 : (w.drew.alloc (.view ⟨g, 0, none⟩ 5)).cell? ⟨b, 1, none⟩ = some (.slice (some ⟨g, 0, none⟩) 0 0) := by
    have : (w.drew.alloc (.view ⟨g, 0, none⟩ 5)).heap[b]? = _ := (Lib.alloc_old w.drew _ b hlt).trans hbk
    rw [Lib.cell_of_heap this]; rfl
  have c3 : (w.alloc (.view ⟨g, 0, none⟩ 5)).drew.cell? ⟨b, 1, none⟩ = some (.slice (some ⟨g, 0, none⟩) 0 0) := c2
  have c0 : w.cell? ⟨b, 1, none⟩ = some (.slice (some ⟨g, 0, none⟩) 0 0) := c1
  have mixed : Tryz.prog.follows .mixedOrders = true := by kernel_rfl
  go_enter Tryz.func32, Tryz.ntmps32
  go_wp2
  go_region_o
  all_goals (go_wp2; go_ret; exact ⟨rfl, (Below.drew (Below.refl B w)).alloc hBw _⟩)
set_option maxHeartbeats 1000000 in
set_option maxRecDepth 100000 in
theorem String_room (B b g cap : Nat) (p : Value) (w : World) (hc0 : cap ≠ 0) (hbk : w.heap[b]? = some (.cells #[p, .slice (some ⟨g, 0, none⟩) 0 cap] 57 (0, 0))) :
    Calls Tryz.prog 32 #[.pointer (some ⟨b, 0, none⟩)] w fun e w' => e = .returned (.string ⟨#[]⟩) ∧ Below B w w' := by
  have hUS := unsafeString_none
  have c1 : w.drew.cell? ⟨b, 1, none⟩ = some (.slice (some ⟨g, 0, none⟩) 0 cap) := by
    have : w.drew.heap[b]? = some (.cells #[p, .slice (some ⟨g, 0, none⟩) 0 cap] 57 (0, 0)) := hbk
    rw [Lib.cell_of_heap this]; rfl
  have hSD : (Builtin.unsafeSliceData_ #[42] 82 #[.slice (some ⟨g, 0, none⟩) 0 cap]).run Tryz.prog w.drew = .ok (.pointer (some ⟨g, 0, none⟩)) w.drew :=
    Lib.run_unsafeSliceData_row _ _ _ _ _ _ hc0
  clear hc0
  have mixed : Tryz.prog.follows .mixedOrders = true := by kernel_rfl
  go_enter Tryz.func32, Tryz.ntmps32
  go_wp2
  go_region_o
  all_goals (go_wp2; go_ret; exact ⟨rfl, Below.drew (Below.refl B w)⟩)
theorem String_any (B b : Nat) (l : List UInt8) (w : World) (h : BuF B b (Lib.byteCells l) w) (hBw : B ≤ w.heap.size) :
    Calls Tryz.prog 32 #[.pointer (some ⟨b, 0, none⟩)] w fun e w' => e = .returned (.string ⟨l.toArray⟩) ∧ Below B w w' := by
  cases l with
  | cons x r => exact String_k B b (x :: r) w h (by simp)
  | nil =>
    obtain ⟨p, hA⟩ : ∃ p, BuA B b p [] w := by
      rcases h with h | h
      · exact ⟨_, h⟩
      · exact ⟨_, h⟩
    obtain ⟨hB, v, hbk, hown, hne⟩ := hA
    rcases hown.2 with ⟨rfl, _⟩ | ⟨g, cap, cur, fz, rfl, hbg, hg, _, _, _, _, _⟩
    · exact String_nil B b p w hbk
    · by_cases hc0 : cap = 0
      · subst hc0
        exact String_noroom B b g p cur w hBw hbk fz hg
      · exact String_room B b g cap p w hc0 hbk
theorem BuF.new (w : World) (B : Nat) (h : B ≤ w.heap.size) : BuF B w.heap.size (Lib.byteCells []) (w.alloc (.cells #[.pointer none, .slice none 0 0] 57)) :=
  .inl ⟨h, .slice none 0 0, heap_alloc_new w _, ⟨rfl, .inl ⟨rfl, rfl⟩⟩, by simp [Value.ownBlock]⟩
end Go.Proofs.YtdafdoodegpdhaaGreatDoor.Lx

namespace Go.Proofs.YtdafdoodegpdhaaGreatDoor
open Go Go.RowKit Go.BigFrame
set_option linter.unusedVariables false
set_option linter.unusedSimpArgs false

theorem Lx.BuA.ext {B b : Nat} {p : Value} {l : List Value} {w w' : World} (h : Lx.BuA B b p l w) (k : Ext w w') : Lx.BuA B b p l w' := by
  obtain ⟨hB, v, hb, hown, hne⟩ := h
  refine ⟨hB, v, k.block hb, ⟨hown.1, ?_⟩, hne⟩
  rcases hown.2 with hn | ⟨g, cap, cur, fz, hv, hbg, hg, rest⟩
  · exact .inl hn
  · exact .inr ⟨g, cap, cur, fz, hv, hbg, k.block hg, rest⟩
theorem Lx.BuF.ext {B b : Nat} {l : List Value} {w w' : World} (h : Lx.BuF B b l w) (k : Ext w w') : Lx.BuF B b l w' :=
  h.elim (fun x => .inl (Lx.BuA.ext x k)) (fun x => .inr (Lx.BuA.ext x k))
theorem meansL_len (l : List UInt8) (e : Nat) (x : List UInt8) (h : meansL l e = some x) : x.length ≤ 4 := by
  unfold meansL at h
  cases hn : namedL ((l.drop 1).take (e - 1)) with
  | some y =>
    rw [hn] at h
    cases h
    unfold namedL at hn
    repeat' split at hn
    all_goals (first | (cases hn; decide) | cases hn)
  | none =>
    rw [hn] at h
    dsimp only at h
    split at h
    · unfold codedL at h
      cases hc : codeL ((l.drop 2).take (e - 2)) with
      | none => rw [hc] at h; cases h
      | some n =>
        rw [hc] at h
        have e : (Utf8.encode (n : Int)).data.toList = x := Option.some.inj h
        rw [← e]
        exact (encode_len (n : Int)).2
    · cases h
theorem entityL_len (l : List UInt8) : (entityL l).1.length ≤ 4 := by
  unfold entityL
  dsimp only
  split
  · decide
  · split
    · exact meansL_len _ _ _ ‹_›
    · decide
theorem entityL_le (c : UInt8) (r : List UInt8) : (entityL (c :: r)).2 ≤ (c :: r).length := by
  unfold entityL
  dsimp only
  split
  · simp
  · rename_i h
    obtain ⟨k, e, h1, _⟩ := indexByte_some h
    have hk := (List.getElem?_eq_some_iff.1 h1).1
    rw [List.length_take] at hk
    rw [e]
    split
    · show k + 1 ≤ _; omega
    · simp
theorem decF_len : ∀ (f : Nat) (l : List UInt8), (decF f l).length ≤ 4 * l.length := by
  intro f
  induction f with
  | zero => intro l; simp [decF]
  | succ f ih =>
    intro l
    cases l with
    | nil => simp [decF]
    | cons c r =>
      rw [decF]
      split
      · have h1 := entityL_len (c :: r)
        have h2 := ih ((c :: r).drop (entityL (c :: r)).2)
        have h3 := entityL_pos (c :: r)
        rw [List.length_append]
        rw [List.length_drop] at h2
        simp only [List.length_cons] at h2 ⊢
        omega
      · have := ih r
        simp only [List.length_cons]
        omega
theorem decL_len (l : List UInt8) : (decL l).length ≤ 4 * l.length := decF_len _ l
theorem decL_all {l : List UInt8} (h : ∀ c ∈ l, c ≠ 38) : decL l = l := by
  have := decL_front h []
  rw [List.append_nil, decL_nil, List.append_nil] at this
  exact this
theorem decL_at {l : List UInt8} {k : Nat} (h : l[k]? = some 38) (hb : ∀ j x, j < k → l[j]? = some x → x ≠ 38) :
    decL l = l.take k ++ ((entityL (l.drop k)).1 ++ decL ((l.drop k).drop (entityL (l.drop k)).2)) := by
  obtain ⟨hk, e⟩ := List.getElem?_eq_some_iff.1 h
  have hd : l.drop k = 38 :: l.drop (k + 1) := by rw [List.drop_eq_getElem_cons hk, e]
  have h1 : l = l.take k ++ l.drop k := (List.take_append_drop k l).symm
  have hp : ∀ c ∈ l.take k, c ≠ 38 := by
    intro c hc
    obtain ⟨j, hj, ej⟩ := List.getElem_of_mem hc
    rw [List.length_take] at hj
    exact hb j c (by omega) (by rw [← ej, List.getElem_take]; exact List.getElem?_eq_getElem (by omega))
  have h2 := decL_front hp (l.drop k)
  rw [← h1] at h2
  rw [h2]
  conv => lhs; rw [hd, decL_amp]
  rw [← hd]
def strLen : Value → Nat
  | .string s => s.size
  | _ => 0
theorem pre_len {a b c : List UInt8} (h : a ++ b = c) : a.length ≤ c.length := by rw [← h, List.length_append]; omega
set_option maxHeartbeats 2000000 in
set_option maxRecDepth 100000 in
theorem Decode_any (s : ByteArray) (hs : s.size ≤ 100000000000) (w : World) (hl : LW w) : Calls Tryz.prog 14 #[.string s] w (RVal (.string (bs (decL (anewB s).data.toList))) w) := by
  have HA := Lib.hid (xanew_any s (by omega))
  have hts := anewB_size s
  obtain ⟨t, ht⟩ : ∃ t, anewB s = t := ⟨_, rfl⟩
  rw [ht] at HA hts ⊢
  obtain ⟨out, ho⟩ : ∃ out, decL t.data.toList = out := ⟨_, rfl⟩
  have hol : out.length ≤ 1600000000000 := by
    have := decL_len t.data.toList
    rw [ho] at this
    have e : t.data.toList.length = t.size := rfl
    omega
  rw [ho]
  have HOL := Lib.hid hol
  have HO := Lib.hid ho
  have HL := Lib.hid hl
  have HTS := Lib.hid (show t.size ≤ 400000000000 by omega)
  clear ht hts hs ho hol hl
  go_enter Tryz.func14, Tryz.ntmps14
  go_wp2_with (go_at_call 8; refine (HA.out _).mono ?_)
  rintro e w1 ⟨rfl, x1⟩
  have X1 := Lib.hid x1
  have BN := Lib.hid (Lx.BuF.new w1 w1.heap.size (Nat.le_refl _))
  have XA := Lib.hid ((Ext.refl w1).alloc (.cells #[.pointer none, .slice none 0 0] 57))
  clear x1
  go_upto_region 3 with fail
  obtain ⟨wA, hwA⟩ : ∃ wA : World, wA = w1.alloc (.cells #[.pointer none, .slice none 0 0] 57) := ⟨_, rfl⟩
  rw [← hwA] at BN XA ⊢
  clear hwA
  go_wp2_with fail
  go_loopw [0, 4, 5, 6] (fun sv _ _ _ wr => ∃ (r : ByteArray) (acc : List UInt8), sv = .string r ∧ r.size ≤ t.size ∧ acc ++ decL r.data.toList = out ∧ Lx.BuF w1.heap.size w1.heap.size (Lib.byteCells acc) wr ∧ Ext w1 wr) (fun sv _ _ _ _ => strLen sv)
  case atStart => exact ⟨t, [], rfl, Nat.le_refl _, HO.out, BN.out, XA.out⟩
  case round =>
    obtain ⟨r, acc, rfl, hrt, hacc, hbf, xr⟩ := hrel
    have HACC := Lib.hid hacc
    have HBF := Lib.hid hbf
    have XR := Lib.hid xr
    have HRT := Lib.hid hrt
    have hws := xr.size
    have HLA := Lib.hid (Nat.le_trans (pre_len hacc) HOL.out)
    clear hacc hbf xr hrt
    by_cases hz : r.size = 0
    · have e0 : (r.toList == ([] : List UInt8)) = true := etext_none hz
      have e1 : (r.toList != ([] : List UInt8)) = false := by simp [bne, e0]
      have hfin : acc = out := by
        have h := HACC.out
        rw [show r.data.toList = [] from List.eq_nil_of_length_eq_zero hz, decL_nil, List.append_nil] at h
        exact h
      subst hfin
      clear hz
      go_wp2_with (go_at_call 32; refine (Lx.String_any w1.heap.size w1.heap.size _ wr HBF.out hws).mono ?_)
      rintro e w2 ⟨rfl, x2⟩
      go_wp2_with fail
      go_ret
      exact ⟨rfl, X1.out.trans (Below.trans XR.out x2)⟩
    have e0 : (r.toList == ([] : List UInt8)) = false := etext_some hz
    have e1 : (r.toList != ([] : List UInt8)) = true := by simp [bne, e0]
    have HI := Lib.hid (IndexByte_any r 38 38 rfl)
    obtain ⟨z, hzz⟩ : ∃ z, Lib.indexByte r.data.toList 38 = z := ⟨_, rfl⟩
    rw [hzz] at HI
    have HZZ := Lib.hid hzz
    have HNZ := Lib.hid hz
    clear hzz hz
    by_cases hneg : z < 0
    · have hfin : acc ++ r.data.toList = out := by
        rw [← HACC.out, decL_all (indexByte_none (by rw [HZZ.out]; exact hneg))]
      have HFIN := Lib.hid hfin
      have hlen : acc.length + r.size ≤ 140737488355328 := by have := HLA.out; have := HRT.out; have := HTS.out; omega
      have HLN := Lib.hid hlen
      clear hfin hlen
      go_wp2_with (go_at_call 29; refine (HI.out _).mono ?_)
      rintro e w2 ⟨rfl, x2⟩
      have X2 := Lib.hid (XR.out.trans x2)
      have hs2 := X2.out.size
      have HB2 := Lib.hid (HBF.out.ext x2)
      clear x2
      go_wp2_with (go_at_call 30; refine (Lx.Write_any w1.heap.size w1.heap.size acc r out HFIN.out w2 HB2.out HLN.out hs2).mono ?_)
      rintro e w3 ⟨m3, rfl, _, hb3, x3, _⟩
      have X3 := Lib.hid (Below.trans X2.out x3)
      have hs3 := X3.out.size
      have HB3 := Lib.hid hb3
      clear x3 hb3
      go_wp2_with (go_at_call 32; refine (Lx.String_any w1.heap.size w1.heap.size out w3 HB3.out hs3).mono ?_)
      rintro e w4 ⟨rfl, x4⟩
      go_wp2_with fail
      go_ret
      exact ⟨rfl, X1.out.trans (Below.trans X3.out x4)⟩
    · obtain ⟨k, hk, hk38, hkb⟩ := indexByte_some (by rw [HZZ.out]; exact hneg)
      rw [HZZ.out] at hk
      subst hk
      have hkr : k < r.size := (List.getElem?_eq_some_iff.1 hk38).1
      have hat := decL_at hk38 hkb
      have hlen0 : r.data.toList.length = r.size := rfl
      obtain ⟨c, q, hcq⟩ : ∃ c q, r.data.toList.drop k = c :: q := by
        obtain ⟨h1, h2⟩ := List.getElem?_eq_some_iff.1 hk38
        exact ⟨_, _, List.drop_eq_getElem_cons h1⟩
      have hle : (entityL (r.data.toList.drop k)).2 ≤ r.size - k := by
        have h1 := entityL_le c q
        rw [← hcq, List.length_drop] at h1
        omega
      have hpos := entityL_pos (r.data.toList.drop k)
      have hx4 := entityL_len (r.data.toList.drop k)
      have hhead : (r.data.toList.drop k).head? = some 38 := by rw [List.head?_drop]; exact hk38
      have hcut : ∀ i j, r.extract i j = bs ((r.data.toList.drop i).take (j - i)) := fun i j => by
        have h := bs_cut r.data.toList i j
        rw [bs_list] at h; exact h
      have hp : (r.extract 0 k).data.toList = r.data.toList.take k := by rw [hcut, bs_data, List.drop_zero, Nat.sub_zero]
      have hd : (r.extract k r.size).data.toList = r.data.toList.drop k := by
        rw [hcut, bs_data]; exact List.take_of_length_le (by rw [List.length_drop]; omega)
      have hdz : (r.extract k r.size).size ≤ 1000000000000 := by
        show (r.extract k r.size).data.toList.length ≤ _
        rw [hd, List.length_drop]; have := HRT.out; have := HTS.out; omega
      have HENT := Lib.hid (fun W (hW : LW W) => (hd ▸ entity_any (r.extract k r.size) hdz (by rw [hd]; exact hhead) W hW : Calls Tryz.prog 31 #[.string (r.extract k r.size)] W (RTwo (.string (bs (entityL (r.data.toList.drop k)).1)) (.int .i64 (entityL (r.data.toList.drop k)).2) W)))
      obtain ⟨x, hx⟩ : ∃ x, (entityL (r.data.toList.drop k)).1 = x := ⟨_, rfl⟩
      obtain ⟨n, hn⟩ : ∃ n, (entityL (r.data.toList.drop k)).2 = n := ⟨_, rfl⟩
      rw [hx, hn] at HENT hat
      rw [hn] at hle hpos
      rw [hx] at hx4
      obtain ⟨acc1, ha1⟩ : ∃ a, acc ++ (r.extract 0 k).data.toList = a := ⟨_, rfl⟩
      obtain ⟨acc2, ha2⟩ : ∃ a, acc1 ++ (bs x).data.toList = a := ⟨_, rfl⟩
      have hnext : (r.extract (k + n) r.size).data.toList = (r.data.toList.drop k).drop n := by
        rw [hcut, bs_data, List.drop_drop]; exact List.take_of_length_le (by rw [List.length_drop]; omega)
      have hnz : (r.extract (k + n) r.size).size = r.size - (k + n) := by
        show (r.extract (k + n) r.size).data.toList.length = _
        rw [hnext, List.length_drop, List.length_drop]; omega
      have hacc2 : acc2 ++ decL (r.extract (k + n) r.size).data.toList = out := by
        rw [hnext, ← ha2, ← ha1, hp, bs_data, ← HACC.out, hat]; simp
      have HACC2 := Lib.hid hacc2
      have HNZ2 := Lib.hid hnz
      have HA1 := Lib.hid ha1
      have HA2 := Lib.hid ha2
      have hl1 : acc.length + (r.extract 0 k).size ≤ 140737488355328 := by
        have h1 : (r.extract 0 k).size = (r.data.toList.take k).length := by show (r.extract 0 k).data.toList.length = _; rw [hp]
        rw [h1, List.length_take]; have := HLA.out; have := HRT.out; have := HTS.out; omega
      have hl2 : acc1.length + (bs x).size ≤ 140737488355328 := by
        have h1 := pre_len hacc2
        have h2 := HOL.out
        have h3 : acc2.length = acc1.length + (bs x).size := by rw [← ha2, List.length_append]; rfl
        omega
      have HL1 := Lib.hid hl1
      have HL2 := Lib.hid hl2
      have kneg : decide ((k : Int) < 0) = false := decide_eq_false (by omega)
      have b1 : (0 : Int) ≤ (k : Int) := by omega
      have b2 : (k : Int) ≤ (r.size : Int) := by omega
      have hwk : IntKind.i64.wrap ((k : Int) + (n : Int)) = (k : Int) + (n : Int) := IntWalk.i64_in _ (by have := HRT.out; have := HTS.out; omega)
      have b3 : (0 : Int) ≤ (k : Int) + (n : Int) := by omega
      have b4 : (k : Int) + (n : Int) ≤ (r.size : Int) := by omega
      have hkn : ((k : Int) + (n : Int)).toNat = k + n := by omega
      have HPN := Lib.hid (And.intro hpos (And.intro hle hkr))
      clear hneg hk38 hkb hat hlen0 hcq hle hpos hx4 hhead hcut hp hd hdz hx hn ha1 ha2 hnext hnz hacc2 hl1 hl2 hkr
      go_wp2_with (go_at_call 29; refine (HI.out _).mono ?_)
      rintro e w2 ⟨rfl, x2⟩
      have X2 := Lib.hid (XR.out.trans x2)
      have hs2 := X2.out.size
      have HB2 := Lib.hid (HBF.out.ext x2)
      clear x2
      go_wp2_with (go_at_call 30; refine (Lx.Write_any w1.heap.size w1.heap.size acc (r.extract 0 k) acc1 HA1.out w2 HB2.out HL1.out hs2).mono ?_)
      rintro e w3 ⟨m3, rfl, _, hb3, x3, _⟩
      have X3 := Lib.hid (Below.trans X2.out x3)
      have HB3 := Lib.hid hb3
      clear x3 hb3
      go_wp2_with (go_at_call 31; refine (HENT.out _ (HL.out.ext (X1.out.trans X3.out))).mono ?_)
      rintro e w4 ⟨rfl, x4⟩
      have X4 := Lib.hid (Ext.trans (b := w3) X3.out x4)
      have hs4 := X4.out.size
      have HB4 := Lib.hid (HB3.out.ext x4)
      clear x4
      go_wp2_with (go_at_call 30; refine (Lx.Write_any w1.heap.size w1.heap.size acc1 (bs x) acc2 HA2.out w4 HB4.out HL2.out hs4).mono ?_)
      rintro e w5 ⟨m5, rfl, _, hb5, x5, _⟩
      have X5 := Lib.hid (Below.trans X4.out x5)
      have HB5 := Lib.hid hb5
      clear x5 hb5
      go_wp2_with fail
      go_roundw
      case rel => exact ⟨r.extract (k + n) r.size, acc2, by first | rfl | rw [hkn], by rw [HNZ2.out]; have := HRT.out; omega, HACC2.out, HB5.out, X5.out⟩
      case measure => simp only [strLen]; rw [HNZ2.out]; have := HPN.out; omega
end Go.Proofs.YtdafdoodegpdhaaGreatDoor

namespace Go.Proofs.YtdafdoodegpdhaaGreatDoor
open Go Go.RowKit Go.BigFrame
set_option linter.unusedVariables false
set_option linter.unusedSimpArgs false

/-- does a text stand at a place? -/
def beginsL (l : List UInt8) (k : Nat) (t : List UInt8) : Bool := decide ((l.drop k).take t.length = t)
set_option maxHeartbeats 1000000 in
set_option maxRecDepth 100000 in
theorem begins_any (s t : ByteArray) (k : Nat) (hs : s.size ≤ 1000000000000) (ht0 : 0 < t.size) (ht : t.size ≤ 1000) (hk : k ≤ 1000000000000) (w : World) :
    Calls Tryz.prog 33 #[.string s, .int .i64 k, .string t] w (RBool (beginsL s.data.toList k t.data.toList) w) := by
  have x := Ext.refl w
  obtain ⟨b, hb⟩ : ∃ b, beginsL s.data.toList k t.data.toList = b := ⟨_, rfl⟩
  rw [hb]
  unfold beginsL at hb
  have e1 : s.data.toList.length = s.size := rfl
  have e2 : t.data.toList.length = t.size := rfl
  have hw : IntKind.i64.wrap ((k : Int) + (t.size : Int)) = (k : Int) + (t.size : Int) := IntWalk.i64_in _ (by omega)
  by_cases h1 : k + t.size ≤ s.size
  · have h1i : (k : Int) + (t.size : Int) ≤ (s.size : Int) := by omega
    have b1 : (0 : Int) ≤ (k : Int) := by omega
    have b2 : (k : Int) ≤ (k : Int) + (t.size : Int) := by omega
    have hkn : ((k : Int) + (t.size : Int)).toNat = k + t.size := by omega
    have hcut : s.extract k (k + t.size) = bs ((s.data.toList.drop k).take t.size) := by
      have h := bs_cut s.data.toList k (k + t.size)
      rw [bs_list, Nat.add_sub_cancel_left] at h; exact h
    have heq : ((s.extract k (k + t.size)).toList == t.toList) = b := by
      rw [← hb, hcut, e2]
      have h := list_beq ((s.data.toList.drop k).take t.size) t.data.toList
      rw [bs_list] at h
      exact h
    have HEQ := Lib.hid heq
    generalize hE : s.extract k (k + t.size) = E at *
    clear hcut hb h1 e1 e2
    go_enter Tryz.func33, Tryz.ntmps33
    go_wp2_with fail
    go_ret
    exact ⟨rfl, x⟩
  · have h1i : ¬ (k : Int) + (t.size : Int) ≤ (s.size : Int) := by omega
    have hb0 : b = false := by
      rw [← hb]
      refine decide_eq_false fun h => ?_
      have h2 := congrArg List.length h
      rw [List.length_take, List.length_drop] at h2
      omega
    subst hb0
    clear hb h1 e1 e2
    go_enter Tryz.func33, Tryz.ntmps33
    go_wp2_with fail
    go_ret
    exact ⟨rfl, x⟩
end Go.Proofs.YtdafdoodegpdhaaGreatDoor

namespace Go.Proofs.YtdafdoodegpdhaaGreatDoor
open Go Go.RowKit Go.BigFrame
set_option linter.unusedVariables false
set_option linter.unusedSimpArgs false

def refN (base most : Nat) (l : List UInt8) : Int := match codeN base most l with | some n => n | none => -1
set_option maxHeartbeats 2000000 in
set_option maxRecDepth 100000 in
theorem number10_any (s : ByteArray) (hs : s.size ≤ 1000000000000) (w : World) : Calls Tryz.prog 40 #[.string s, .int .i64 10, .int .i64 7] w (RVal (.int .i64 (refN 10 7 s.data.toList)) w) := by
  have x := Ext.refl w
  obtain ⟨res, hres⟩ : ∃ z, refN 10 7 s.data.toList = z := ⟨_, rfl⟩
  rw [hres]
  unfold refN at hres
  obtain ⟨l, hl⟩ : ∃ l, s.data.toList = l := ⟨_, rfl⟩
  have hz : l.length = s.size := by rw [← hl]; rfl
  rw [hl] at hres
  by_cases h1 : s.size < 1
  · have h1i : (s.size : Int) < 1 := by omega
    have hr : res = -1 := by rw [← hres]; unfold codeN; rw [if_pos (.inl (List.eq_nil_of_length_eq_zero (by omega)))]
    subst hr
    clear hres hz hl h1
    go_enter Tryz.func40, Tryz.ntmps40
    go_wp2_with fail
    go_ret
    exact ⟨rfl, x⟩
  have h1i : ¬ (s.size : Int) < 1 := by omega
  by_cases h2 : 7 < s.size
  · have h2i : (7 : Int) < (s.size : Int) := by omega
    have hr : res = -1 := by rw [← hres]; unfold codeN; rw [if_pos (.inr (by omega))]
    subst hr
    clear hres hz hl h1 h2
    go_enter Tryz.func40, Tryz.ntmps40
    go_wp2_with fail
    go_ret
    exact ⟨rfl, x⟩
  have h2i : ¬ (7 : Int) < (s.size : Int) := by omega
  obtain ⟨r, hr⟩ : ∃ r, numL 10 0 l = r := ⟨_, rfl⟩
  have hres2 : (match r.filter runeN with | some n => (n : Int) | none => -1) = res := by
    rw [← hres, ← hr]; unfold codeN; rw [if_neg]
    rintro (h | h)
    · rw [h] at hz; simp at hz; omega
    · omega
  have HRES := Lib.hid hres2
  have HR := Lib.hid hr
  have HZ := Lib.hid hz
  have HLL := Lib.hid hl
  obtain ⟨N, hN⟩ : ∃ N, s.size = N := ⟨_, rfl⟩
  have h7 : N ≤ 7 := by omega
  have HN := Lib.hid hN
  clear hres hres2 hr hz h1 h2 hl hN
  go_enter Tryz.func40, Tryz.ntmps40
  go_wp2_with fail
  go_loopw [7, 8, 9, 10] (fun n i _ _ wr => ∃ (k m : Nat), k ≤ s.size ∧ i = .int .i64 k ∧ n = .int .i64 m ∧ numL 10 m (l.drop k) = r ∧ m < 16 ^ k ∧ Ext w wr) (fun _ i _ _ _ => s.size - (intOf i).toNat)
  case atStart => exact ⟨0, 0, Nat.zero_le _, rfl, rfl, by simpa using HR.out, by decide, Ext.refl _⟩
  case round =>
    obtain ⟨k, m, hk, rfl, rfl, hnum, hm, xr⟩ := hrel
    have hp7 := pow_le7 (k := k) (by have := HN.out; omega)
    have HNUM := Lib.hid hnum
    have XR := Lib.hid xr
    have hs7 : s.size ≤ 7 := by have := HN.out; omega
    clear hnum xr
    by_cases hlt : k < s.size
    · obtain ⟨c, hc⟩ : ∃ c, s[k]'hlt = c := ⟨_, rfl⟩
      have hix : ∀ W : World, (Instr.index 9 (.string s) (.int .i64 (k : Int))).run Tryz.prog W = .ok (.int .u8 (c.toNat : Int)) W := by
        intro W
        rw [run_index_string W 9 s .i64 (k : Int) Tryz.underlying9, dif_pos ⟨by omega, by omega⟩]
        simp only [Int.toNat_natCast, hc]
      have hlc : l[k]? = some c := by rw [← HLL.out, List.getElem?_eq_getElem (by exact hlt)]; exact congrArg some hc
      have hdrop : l.drop k = c :: l.drop (k + 1) := by
        obtain ⟨hk2, e⟩ := List.getElem?_eq_some_iff.1 hlc
        rw [List.drop_eq_getElem_cons hk2, e]
      have hn := HNUM.out
      rw [hdrop, numL] at hn
      have BAD := Lib.hid (fun h : ¬ digV c < 10 => show r = none by rw [← hn, if_pos (by omega)])
      have GOOD := Lib.hid (fun h : digV c < 10 => show numL 10 (m * 10 + digV c) (l.drop (k + 1)) = r by rw [← hn, if_neg (by omega)])
      have PW := Lib.hid (show 16 ^ (k + 1) = 16 ^ k * 16 from Nat.pow_succ 16 k)
      have PD := Lib.hid (show digV c = if 48 ≤ c.toNat ∧ c.toNat ≤ 57 then c.toNat - 48 else if 97 ≤ c.toNat ∧ c.toNat ≤ 102 then c.toNat - 87 else if 65 ≤ c.toNat ∧ c.toNat ≤ 70 then c.toNat - 55 else 99 from rfl)
      obtain ⟨P, hP⟩ : ∃ P, 16 ^ k = P := ⟨_, rfl⟩
      rw [hP] at hm hp7 PW
      obtain ⟨d, hd0⟩ : ∃ d, digV c = d := ⟨_, rfl⟩
      rw [hd0] at BAD GOOD PD
      have hc256 : c.toNat < 256 := c.toNat_lt
      clear hc hlc hdrop hn hP hd0
      by_cases c1 : 48 ≤ c.toNat ∧ c.toNat ≤ 57
      · have hd : d = c.toNat - 48 := by rw [PD.out, if_pos c1]
        have c1a : (48 : Int) ≤ (c.toNat : Int) := by omega
        have c1b : (c.toNat : Int) ≤ 57 := by omega
        have hw1 : IntKind.u8.wrap ((c.toNat : Int) - 48) = (d : Int) := by rw [IntWalk.u8_in _ (by omega)]; omega
        have hw2 : IntKind.i64.wrap (d : Int) = (d : Int) := IntWalk.i64_in _ (by omega)
        clear c1
        by_cases hdb : d < 10
        · have G := Lib.hid (GOOD.out hdb)
          have h3d : decide (10 ≤ d) = false := decide_eq_false (by omega)
          have h3i : decide ((10 : Int) ≤ (d : Int)) = false := decide_eq_false (by omega)
          have hm1 : IntKind.i64.wrap ((m : Int) * 10) = (m : Int) * 10 := IntWalk.i64_in _ (by omega)
          have hm2 : IntKind.i64.wrap ((m : Int) * 10 + (d : Int)) = (m : Int) * 10 + (d : Int) := IntWalk.i64_in _ (by omega)
          have hpw : m * 10 + d < 16 ^ (k + 1) := by rw [PW.out]; omega
          have HPW := Lib.hid hpw
          clear hpw hdb hd
          go_wp2_with fail
          go_roundw
          case rel => exact ⟨k + 1, m * 10 + d, by omega, by go_num, by push_cast; rfl, G.out, HPW.out, XR.out⟩
          case measure => simp [intOf]; omega
        · have hr0 : r = none := BAD.out hdb
          have h3d : decide (10 ≤ d) = true := decide_eq_true (by omega)
          have h3i : decide ((10 : Int) ≤ (d : Int)) = true := decide_eq_true (by omega)
          have hres : res = -1 := by rw [← HRES.out, hr0]; rfl
          subst hres
          clear hdb hd
          go_wp2_with fail
          go_ret
          exact ⟨rfl, XR.out⟩

      by_cases q1 : c.toNat < 48
      · skip
        have t0 : ¬ ((48 : Int) ≤ (c.toNat : Int)) := by omega
        have t1 : ¬ ((97 : Int) ≤ (c.toNat : Int)) := by omega
        have t2 : ¬ ((65 : Int) ≤ (c.toNat : Int)) := by omega
        have hd99 : d = 99 := by rw [PD.out, if_neg (by omega), if_neg (by omega), if_neg (by omega)]
        have hr0 : r = none := BAD.out (by omega)
        have hres : res = -1 := by rw [← HRES.out, hr0]; rfl
        subst hres
        clear hd99 c1 q1
        go_wp2_with fail
        go_ret
        exact ⟨rfl, XR.out⟩
      by_cases q2 : c.toNat < 65
      · skip
        have t0 : ((48 : Int) ≤ (c.toNat : Int)) := by omega
        have t1 : ¬ ((c.toNat : Int) ≤ (57 : Int)) := by omega
        have t2 : ¬ ((97 : Int) ≤ (c.toNat : Int)) := by omega
        have t3 : ¬ ((65 : Int) ≤ (c.toNat : Int)) := by omega
        have hd99 : d = 99 := by rw [PD.out, if_neg (by omega), if_neg (by omega), if_neg (by omega)]
        have hr0 : r = none := BAD.out (by omega)
        have hres : res = -1 := by rw [← HRES.out, hr0]; rfl
        subst hres
        clear hd99 c1 q1 q2
        go_wp2_with fail
        go_ret
        exact ⟨rfl, XR.out⟩
      by_cases q3 : c.toNat ≤ 70
      · have hd : d = c.toNat - 55 := by rw [PD.out, if_neg (by omega), if_neg (by omega), if_pos (by omega)]
        have t0 : ((48 : Int) ≤ (c.toNat : Int)) := by omega
        have t1 : ¬ ((c.toNat : Int) ≤ (57 : Int)) := by omega
        have t2 : ¬ ((97 : Int) ≤ (c.toNat : Int)) := by omega
        have t3 : ((65 : Int) ≤ (c.toNat : Int)) := by omega
        have t4 : ((c.toNat : Int) ≤ (70 : Int)) := by omega
        have hw1 : IntKind.u8.wrap ((c.toNat : Int) - 65) = (c.toNat : Int) - 65 := IntWalk.u8_in _ (by omega)
        have hw2 : IntKind.i64.wrap ((c.toNat : Int) - 65) = (c.toNat : Int) - 65 := IntWalk.i64_in _ (by omega)
        have hw3 : IntKind.i64.wrap ((c.toNat : Int) - 65 + 10) = (d : Int) := by rw [IntWalk.i64_in _ (by omega)]; omega
        clear c1 q1 q2 q3
        by_cases hdb : d < 10
        · have G := Lib.hid (GOOD.out hdb)
          have h3d : decide (10 ≤ d) = false := decide_eq_false (by omega)
          have h3i : decide ((10 : Int) ≤ (d : Int)) = false := decide_eq_false (by omega)
          have hm1 : IntKind.i64.wrap ((m : Int) * 10) = (m : Int) * 10 := IntWalk.i64_in _ (by omega)
          have hm2 : IntKind.i64.wrap ((m : Int) * 10 + (d : Int)) = (m : Int) * 10 + (d : Int) := IntWalk.i64_in _ (by omega)
          have hpw : m * 10 + d < 16 ^ (k + 1) := by rw [PW.out]; omega
          have HPW := Lib.hid hpw
          clear hpw hdb hd
          go_wp2_with fail
          go_roundw
          case rel => exact ⟨k + 1, m * 10 + d, by omega, by go_num, by push_cast; rfl, G.out, HPW.out, XR.out⟩
          case measure => simp [intOf]; omega
        · have hr0 : r = none := BAD.out hdb
          have h3d : decide (10 ≤ d) = true := decide_eq_true (by omega)
          have h3i : decide ((10 : Int) ≤ (d : Int)) = true := decide_eq_true (by omega)
          have hres : res = -1 := by rw [← HRES.out, hr0]; rfl
          subst hres
          clear hdb hd
          go_wp2_with fail
          go_ret
          exact ⟨rfl, XR.out⟩
      by_cases q4 : c.toNat < 97
      · skip
        have t0 : ((48 : Int) ≤ (c.toNat : Int)) := by omega
        have t1 : ¬ ((c.toNat : Int) ≤ (57 : Int)) := by omega
        have t2 : ¬ ((97 : Int) ≤ (c.toNat : Int)) := by omega
        have t3 : ((65 : Int) ≤ (c.toNat : Int)) := by omega
        have t4 : ¬ ((c.toNat : Int) ≤ (70 : Int)) := by omega
        have hd99 : d = 99 := by rw [PD.out, if_neg (by omega), if_neg (by omega), if_neg (by omega)]
        have hr0 : r = none := BAD.out (by omega)
        have hres : res = -1 := by rw [← HRES.out, hr0]; rfl
        subst hres
        clear hd99 c1 q1 q2 q3 q4
        go_wp2_with fail
        go_ret
        exact ⟨rfl, XR.out⟩
      by_cases q5 : c.toNat ≤ 102
      · have hd : d = c.toNat - 87 := by rw [PD.out, if_neg (by omega), if_pos (by omega)]
        have t0 : ((48 : Int) ≤ (c.toNat : Int)) := by omega
        have t1 : ¬ ((c.toNat : Int) ≤ (57 : Int)) := by omega
        have t2 : ((97 : Int) ≤ (c.toNat : Int)) := by omega
        have t3 : ((c.toNat : Int) ≤ (102 : Int)) := by omega
        have hw1 : IntKind.u8.wrap ((c.toNat : Int) - 97) = (c.toNat : Int) - 97 := IntWalk.u8_in _ (by omega)
        have hw2 : IntKind.i64.wrap ((c.toNat : Int) - 97) = (c.toNat : Int) - 97 := IntWalk.i64_in _ (by omega)
        have hw3 : IntKind.i64.wrap ((c.toNat : Int) - 97 + 10) = (d : Int) := by rw [IntWalk.i64_in _ (by omega)]; omega
        clear c1 q1 q2 q3 q4 q5
        by_cases hdb : d < 10
        · have G := Lib.hid (GOOD.out hdb)
          have h3d : decide (10 ≤ d) = false := decide_eq_false (by omega)
          have h3i : decide ((10 : Int) ≤ (d : Int)) = false := decide_eq_false (by omega)
          have hm1 : IntKind.i64.wrap ((m : Int) * 10) = (m : Int) * 10 := IntWalk.i64_in _ (by omega)
          have hm2 : IntKind.i64.wrap ((m : Int) * 10 + (d : Int)) = (m : Int) * 10 + (d : Int) := IntWalk.i64_in _ (by omega)
          have hpw : m * 10 + d < 16 ^ (k + 1) := by rw [PW.out]; omega
          have HPW := Lib.hid hpw
          clear hpw hdb hd
          go_wp2_with fail
          go_roundw
          case rel => exact ⟨k + 1, m * 10 + d, by omega, by go_num, by push_cast; rfl, G.out, HPW.out, XR.out⟩
          case measure => simp [intOf]; omega
        · have hr0 : r = none := BAD.out hdb
          have h3d : decide (10 ≤ d) = true := decide_eq_true (by omega)
          have h3i : decide ((10 : Int) ≤ (d : Int)) = true := decide_eq_true (by omega)
          have hres : res = -1 := by rw [← HRES.out, hr0]; rfl
          subst hres
          clear hdb hd
          go_wp2_with fail
          go_ret
          exact ⟨rfl, XR.out⟩
      have t0 : ((48 : Int) ≤ (c.toNat : Int)) := by omega
      have t1 : ¬ ((c.toNat : Int) ≤ (57 : Int)) := by omega
      have t2 : ((97 : Int) ≤ (c.toNat : Int)) := by omega
      have t3 : ¬ ((c.toNat : Int) ≤ (102 : Int)) := by omega
      have t4 : ((65 : Int) ≤ (c.toNat : Int)) := by omega
      have t5 : ¬ ((c.toNat : Int) ≤ (70 : Int)) := by omega
      have hd99 : d = 99 := by rw [PD.out, if_neg (by omega), if_neg (by omega), if_neg (by omega)]
      have hr0 : r = none := BAD.out (by omega)
      have hres : res = -1 := by rw [← HRES.out, hr0]; rfl
      subst hres
      clear hd99 c1 q1 q2 q3 q4 q5
      go_wp2_with fail
      go_ret
      exact ⟨rfl, XR.out⟩
    · obtain rfl : k = s.size := by omega
      have hr1 : r = some m := by rw [← HNUM.out, List.drop_eq_nil_of_le (by have := HZ.out; omega)]; rfl
      have hlt1 : ¬ (s.size : Int) < (s.size : Int) := by omega
      by_cases n0 : m = 0
      · have hres : res = -1 := by rw [← HRES.out, hr1, n0]; rfl
        have k0 : ((m : Int) == 0) = true := by simp [n0]
        subst hres
        clear n0 hr1
        go_wp2_with fail
        go_ret
        exact ⟨rfl, XR.out⟩
      have k0 : ((m : Int) == 0) = false := by rw [beq_eq_false_iff_ne]; omega
      by_cases n1 : (1114111 : Int) < (m : Int)
      · have hres : res = -1 := by
          have hf : runeN m = false := by unfold runeN; exact decide_eq_false (by omega)
          rw [← HRES.out, hr1]; simp [Option.filter, hf]
        subst hres
        clear n0 hr1
        go_wp2_with fail
        go_ret
        exact ⟨rfl, XR.out⟩
      by_cases n2 : (55296 : Int) ≤ (m : Int)
      · by_cases n3 : (m : Int) ≤ 57343
        · have hres : res = -1 := by
            have hf : runeN m = false := by unfold runeN; exact decide_eq_false (by omega)
            rw [← HRES.out, hr1]; simp [Option.filter, hf]
          subst hres
          clear n0 hr1
          go_wp2_with fail
          go_ret
          exact ⟨rfl, XR.out⟩
        · have hres : res = (m : Int) := by
            have hf : runeN m = true := by unfold runeN; exact decide_eq_true (by omega)
            rw [← HRES.out, hr1]; simp [Option.filter, hf]
          subst hres
          clear n0 hr1
          go_wp2_with fail
          go_ret
          exact ⟨rfl, XR.out⟩
      · have hres : res = (m : Int) := by
          have hf : runeN m = true := by unfold runeN; exact decide_eq_true (by omega)
          rw [← HRES.out, hr1]; simp [Option.filter, hf]
        subst hres
        clear n0 hr1
        go_wp2_with fail
        go_ret
        exact ⟨rfl, XR.out⟩
set_option maxHeartbeats 2000000 in
set_option maxRecDepth 100000 in
theorem number16_any (s : ByteArray) (hs : s.size ≤ 1000000000000) (w : World) : Calls Tryz.prog 40 #[.string s, .int .i64 16, .int .i64 6] w (RVal (.int .i64 (refN 16 6 s.data.toList)) w) := by
  have x := Ext.refl w
  obtain ⟨res, hres⟩ : ∃ z, refN 16 6 s.data.toList = z := ⟨_, rfl⟩
  rw [hres]
  unfold refN at hres
  obtain ⟨l, hl⟩ : ∃ l, s.data.toList = l := ⟨_, rfl⟩
  have hz : l.length = s.size := by rw [← hl]; rfl
  rw [hl] at hres
  by_cases h1 : s.size < 1
  · have h1i : (s.size : Int) < 1 := by omega
    have hr : res = -1 := by rw [← hres]; unfold codeN; rw [if_pos (.inl (List.eq_nil_of_length_eq_zero (by omega)))]
    subst hr
    clear hres hz hl h1
    go_enter Tryz.func40, Tryz.ntmps40
    go_wp2_with fail
    go_ret
    exact ⟨rfl, x⟩
  have h1i : ¬ (s.size : Int) < 1 := by omega
  by_cases h2 : 6 < s.size
  · have h2i : (6 : Int) < (s.size : Int) := by omega
    have hr : res = -1 := by rw [← hres]; unfold codeN; rw [if_pos (.inr (by omega))]
    subst hr
    clear hres hz hl h1 h2
    go_enter Tryz.func40, Tryz.ntmps40
    go_wp2_with fail
    go_ret
    exact ⟨rfl, x⟩
  have h2i : ¬ (6 : Int) < (s.size : Int) := by omega
  obtain ⟨r, hr⟩ : ∃ r, numL 16 0 l = r := ⟨_, rfl⟩
  have hres2 : (match r.filter runeN with | some n => (n : Int) | none => -1) = res := by
    rw [← hres, ← hr]; unfold codeN; rw [if_neg]
    rintro (h | h)
    · rw [h] at hz; simp at hz; omega
    · omega
  have HRES := Lib.hid hres2
  have HR := Lib.hid hr
  have HZ := Lib.hid hz
  have HLL := Lib.hid hl
  obtain ⟨N, hN⟩ : ∃ N, s.size = N := ⟨_, rfl⟩
  have h7 : N ≤ 7 := by omega
  have HN := Lib.hid hN
  clear hres hres2 hr hz h1 h2 hl hN
  go_enter Tryz.func40, Tryz.ntmps40
  go_wp2_with fail
  go_loopw [7, 8, 9, 10] (fun n i _ _ wr => ∃ (k m : Nat), k ≤ s.size ∧ i = .int .i64 k ∧ n = .int .i64 m ∧ numL 16 m (l.drop k) = r ∧ m < 16 ^ k ∧ Ext w wr) (fun _ i _ _ _ => s.size - (intOf i).toNat)
  case atStart => exact ⟨0, 0, Nat.zero_le _, rfl, rfl, by simpa using HR.out, by decide, Ext.refl _⟩
  case round =>
    obtain ⟨k, m, hk, rfl, rfl, hnum, hm, xr⟩ := hrel
    have hp7 := pow_le7 (k := k) (by have := HN.out; omega)
    have HNUM := Lib.hid hnum
    have XR := Lib.hid xr
    have hs7 : s.size ≤ 7 := by have := HN.out; omega
    clear hnum xr
    by_cases hlt : k < s.size
    · obtain ⟨c, hc⟩ : ∃ c, s[k]'hlt = c := ⟨_, rfl⟩
      have hix : ∀ W : World, (Instr.index 9 (.string s) (.int .i64 (k : Int))).run Tryz.prog W = .ok (.int .u8 (c.toNat : Int)) W := by
        intro W
        rw [run_index_string W 9 s .i64 (k : Int) Tryz.underlying9, dif_pos ⟨by omega, by omega⟩]
        simp only [Int.toNat_natCast, hc]
      have hlc : l[k]? = some c := by rw [← HLL.out, List.getElem?_eq_getElem (by exact hlt)]; exact congrArg some hc
      have hdrop : l.drop k = c :: l.drop (k + 1) := by
        obtain ⟨hk2, e⟩ := List.getElem?_eq_some_iff.1 hlc
        rw [List.drop_eq_getElem_cons hk2, e]
      have hn := HNUM.out
      rw [hdrop, numL] at hn
      have BAD := Lib.hid (fun h : ¬ digV c < 16 => show r = none by rw [← hn, if_pos (by omega)])
      have GOOD := Lib.hid (fun h : digV c < 16 => show numL 16 (m * 16 + digV c) (l.drop (k + 1)) = r by rw [← hn, if_neg (by omega)])
      have PW := Lib.hid (show 16 ^ (k + 1) = 16 ^ k * 16 from Nat.pow_succ 16 k)
      have PD := Lib.hid (show digV c = if 48 ≤ c.toNat ∧ c.toNat ≤ 57 then c.toNat - 48 else if 97 ≤ c.toNat ∧ c.toNat ≤ 102 then c.toNat - 87 else if 65 ≤ c.toNat ∧ c.toNat ≤ 70 then c.toNat - 55 else 99 from rfl)
      obtain ⟨P, hP⟩ : ∃ P, 16 ^ k = P := ⟨_, rfl⟩
      rw [hP] at hm hp7 PW
      obtain ⟨d, hd0⟩ : ∃ d, digV c = d := ⟨_, rfl⟩
      rw [hd0] at BAD GOOD PD
      have hc256 : c.toNat < 256 := c.toNat_lt
      clear hc hlc hdrop hn hP hd0
      by_cases c1 : 48 ≤ c.toNat ∧ c.toNat ≤ 57
      · have hd : d = c.toNat - 48 := by rw [PD.out, if_pos c1]
        have c1a : (48 : Int) ≤ (c.toNat : Int) := by omega
        have c1b : (c.toNat : Int) ≤ 57 := by omega
        have hw1 : IntKind.u8.wrap ((c.toNat : Int) - 48) = (d : Int) := by rw [IntWalk.u8_in _ (by omega)]; omega
        have hw2 : IntKind.i64.wrap (d : Int) = (d : Int) := IntWalk.i64_in _ (by omega)
        clear c1
        by_cases hdb : d < 16
        · have G := Lib.hid (GOOD.out hdb)
          have h3d : decide (16 ≤ d) = false := decide_eq_false (by omega)
          have h3i : decide ((16 : Int) ≤ (d : Int)) = false := decide_eq_false (by omega)
          have hm1 : IntKind.i64.wrap ((m : Int) * 16) = (m : Int) * 16 := IntWalk.i64_in _ (by omega)
          have hm2 : IntKind.i64.wrap ((m : Int) * 16 + (d : Int)) = (m : Int) * 16 + (d : Int) := IntWalk.i64_in _ (by omega)
          have hpw : m * 16 + d < 16 ^ (k + 1) := by rw [PW.out]; omega
          have HPW := Lib.hid hpw
          clear hpw hdb hd
          go_wp2_with fail
          go_roundw
          case rel => exact ⟨k + 1, m * 16 + d, by omega, by go_num, by push_cast; rfl, G.out, HPW.out, XR.out⟩
          case measure => simp [intOf]; omega
        · have hr0 : r = none := BAD.out hdb
          have h3d : decide (16 ≤ d) = true := decide_eq_true (by omega)
          have h3i : decide ((16 : Int) ≤ (d : Int)) = true := decide_eq_true (by omega)
          have hres : res = -1 := by rw [← HRES.out, hr0]; rfl
          subst hres
          clear hdb hd
          go_wp2_with fail
          go_ret
          exact ⟨rfl, XR.out⟩

      by_cases q1 : c.toNat < 48
      · skip
        have t0 : ¬ ((48 : Int) ≤ (c.toNat : Int)) := by omega
        have t1 : ¬ ((97 : Int) ≤ (c.toNat : Int)) := by omega
        have t2 : ¬ ((65 : Int) ≤ (c.toNat : Int)) := by omega
        have hd99 : d = 99 := by rw [PD.out, if_neg (by omega), if_neg (by omega), if_neg (by omega)]
        have hr0 : r = none := BAD.out (by omega)
        have hres : res = -1 := by rw [← HRES.out, hr0]; rfl
        subst hres
        clear hd99 c1 q1
        go_wp2_with fail
        go_ret
        exact ⟨rfl, XR.out⟩
      by_cases q2 : c.toNat < 65
      · skip
        have t0 : ((48 : Int) ≤ (c.toNat : Int)) := by omega
        have t1 : ¬ ((c.toNat : Int) ≤ (57 : Int)) := by omega
        have t2 : ¬ ((97 : Int) ≤ (c.toNat : Int)) := by omega
        have t3 : ¬ ((65 : Int) ≤ (c.toNat : Int)) := by omega
        have hd99 : d = 99 := by rw [PD.out, if_neg (by omega), if_neg (by omega), if_neg (by omega)]
        have hr0 : r = none := BAD.out (by omega)
        have hres : res = -1 := by rw [← HRES.out, hr0]; rfl
        subst hres
        clear hd99 c1 q1 q2
        go_wp2_with fail
        go_ret
        exact ⟨rfl, XR.out⟩
      by_cases q3 : c.toNat ≤ 70
      · have hd : d = c.toNat - 55 := by rw [PD.out, if_neg (by omega), if_neg (by omega), if_pos (by omega)]
        have t0 : ((48 : Int) ≤ (c.toNat : Int)) := by omega
        have t1 : ¬ ((c.toNat : Int) ≤ (57 : Int)) := by omega
        have t2 : ¬ ((97 : Int) ≤ (c.toNat : Int)) := by omega
        have t3 : ((65 : Int) ≤ (c.toNat : Int)) := by omega
        have t4 : ((c.toNat : Int) ≤ (70 : Int)) := by omega
        have hw1 : IntKind.u8.wrap ((c.toNat : Int) - 65) = (c.toNat : Int) - 65 := IntWalk.u8_in _ (by omega)
        have hw2 : IntKind.i64.wrap ((c.toNat : Int) - 65) = (c.toNat : Int) - 65 := IntWalk.i64_in _ (by omega)
        have hw3 : IntKind.i64.wrap ((c.toNat : Int) - 65 + 10) = (d : Int) := by rw [IntWalk.i64_in _ (by omega)]; omega
        clear c1 q1 q2 q3
        by_cases hdb : d < 16
        · have G := Lib.hid (GOOD.out hdb)
          have h3d : decide (16 ≤ d) = false := decide_eq_false (by omega)
          have h3i : decide ((16 : Int) ≤ (d : Int)) = false := decide_eq_false (by omega)
          have hm1 : IntKind.i64.wrap ((m : Int) * 16) = (m : Int) * 16 := IntWalk.i64_in _ (by omega)
          have hm2 : IntKind.i64.wrap ((m : Int) * 16 + (d : Int)) = (m : Int) * 16 + (d : Int) := IntWalk.i64_in _ (by omega)
          have hpw : m * 16 + d < 16 ^ (k + 1) := by rw [PW.out]; omega
          have HPW := Lib.hid hpw
          clear hpw hdb hd
          go_wp2_with fail
          go_roundw
          case rel => exact ⟨k + 1, m * 16 + d, by omega, by go_num, by push_cast; rfl, G.out, HPW.out, XR.out⟩
          case measure => simp [intOf]; omega
        · have hr0 : r = none := BAD.out hdb
          have h3d : decide (16 ≤ d) = true := decide_eq_true (by omega)
          have h3i : decide ((16 : Int) ≤ (d : Int)) = true := decide_eq_true (by omega)
          have hres : res = -1 := by rw [← HRES.out, hr0]; rfl
          subst hres
          clear hdb hd
          go_wp2_with fail
          go_ret
          exact ⟨rfl, XR.out⟩
      by_cases q4 : c.toNat < 97
      · skip
        have t0 : ((48 : Int) ≤ (c.toNat : Int)) := by omega
        have t1 : ¬ ((c.toNat : Int) ≤ (57 : Int)) := by omega
        have t2 : ¬ ((97 : Int) ≤ (c.toNat : Int)) := by omega
        have t3 : ((65 : Int) ≤ (c.toNat : Int)) := by omega
        have t4 : ¬ ((c.toNat : Int) ≤ (70 : Int)) := by omega
        have hd99 : d = 99 := by rw [PD.out, if_neg (by omega), if_neg (by omega), if_neg (by omega)]
        have hr0 : r = none := BAD.out (by omega)
        have hres : res = -1 := by rw [← HRES.out, hr0]; rfl
        subst hres
        clear hd99 c1 q1 q2 q3 q4
        go_wp2_with fail
        go_ret
        exact ⟨rfl, XR.out⟩
      by_cases q5 : c.toNat ≤ 102
      · have hd : d = c.toNat - 87 := by rw [PD.out, if_neg (by omega), if_pos (by omega)]
        have t0 : ((48 : Int) ≤ (c.toNat : Int)) := by omega
        have t1 : ¬ ((c.toNat : Int) ≤ (57 : Int)) := by omega
        have t2 : ((97 : Int) ≤ (c.toNat : Int)) := by omega
        have t3 : ((c.toNat : Int) ≤ (102 : Int)) := by omega
        have hw1 : IntKind.u8.wrap ((c.toNat : Int) - 97) = (c.toNat : Int) - 97 := IntWalk.u8_in _ (by omega)
        have hw2 : IntKind.i64.wrap ((c.toNat : Int) - 97) = (c.toNat : Int) - 97 := IntWalk.i64_in _ (by omega)
        have hw3 : IntKind.i64.wrap ((c.toNat : Int) - 97 + 10) = (d : Int) := by rw [IntWalk.i64_in _ (by omega)]; omega
        clear c1 q1 q2 q3 q4 q5
        by_cases hdb : d < 16
        · have G := Lib.hid (GOOD.out hdb)
          have h3d : decide (16 ≤ d) = false := decide_eq_false (by omega)
          have h3i : decide ((16 : Int) ≤ (d : Int)) = false := decide_eq_false (by omega)
          have hm1 : IntKind.i64.wrap ((m : Int) * 16) = (m : Int) * 16 := IntWalk.i64_in _ (by omega)
          have hm2 : IntKind.i64.wrap ((m : Int) * 16 + (d : Int)) = (m : Int) * 16 + (d : Int) := IntWalk.i64_in _ (by omega)
          have hpw : m * 16 + d < 16 ^ (k + 1) := by rw [PW.out]; omega
          have HPW := Lib.hid hpw
          clear hpw hdb hd
          go_wp2_with fail
          go_roundw
          case rel => exact ⟨k + 1, m * 16 + d, by omega, by go_num, by push_cast; rfl, G.out, HPW.out, XR.out⟩
          case measure => simp [intOf]; omega
        · have hr0 : r = none := BAD.out hdb
          have h3d : decide (16 ≤ d) = true := decide_eq_true (by omega)
          have h3i : decide ((16 : Int) ≤ (d : Int)) = true := decide_eq_true (by omega)
          have hres : res = -1 := by rw [← HRES.out, hr0]; rfl
          subst hres
          clear hdb hd
          go_wp2_with fail
          go_ret
          exact ⟨rfl, XR.out⟩
      have t0 : ((48 : Int) ≤ (c.toNat : Int)) := by omega
      have t1 : ¬ ((c.toNat : Int) ≤ (57 : Int)) := by omega
      have t2 : ((97 : Int) ≤ (c.toNat : Int)) := by omega
      have t3 : ¬ ((c.toNat : Int) ≤ (102 : Int)) := by omega
      have t4 : ((65 : Int) ≤ (c.toNat : Int)) := by omega
      have t5 : ¬ ((c.toNat : Int) ≤ (70 : Int)) := by omega
      have hd99 : d = 99 := by rw [PD.out, if_neg (by omega), if_neg (by omega), if_neg (by omega)]
      have hr0 : r = none := BAD.out (by omega)
      have hres : res = -1 := by rw [← HRES.out, hr0]; rfl
      subst hres
      clear hd99 c1 q1 q2 q3 q4 q5
      go_wp2_with fail
      go_ret
      exact ⟨rfl, XR.out⟩
    · obtain rfl : k = s.size := by omega
      have hr1 : r = some m := by rw [← HNUM.out, List.drop_eq_nil_of_le (by have := HZ.out; omega)]; rfl
      have hlt1 : ¬ (s.size : Int) < (s.size : Int) := by omega
      by_cases n0 : m = 0
      · have hres : res = -1 := by rw [← HRES.out, hr1, n0]; rfl
        have k0 : ((m : Int) == 0) = true := by simp [n0]
        subst hres
        clear n0 hr1
        go_wp2_with fail
        go_ret
        exact ⟨rfl, XR.out⟩
      have k0 : ((m : Int) == 0) = false := by rw [beq_eq_false_iff_ne]; omega
      by_cases n1 : (1114111 : Int) < (m : Int)
      · have hres : res = -1 := by
          have hf : runeN m = false := by unfold runeN; exact decide_eq_false (by omega)
          rw [← HRES.out, hr1]; simp [Option.filter, hf]
        subst hres
        clear n0 hr1
        go_wp2_with fail
        go_ret
        exact ⟨rfl, XR.out⟩
      by_cases n2 : (55296 : Int) ≤ (m : Int)
      · by_cases n3 : (m : Int) ≤ 57343
        · have hres : res = -1 := by
            have hf : runeN m = false := by unfold runeN; exact decide_eq_false (by omega)
            rw [← HRES.out, hr1]; simp [Option.filter, hf]
          subst hres
          clear n0 hr1
          go_wp2_with fail
          go_ret
          exact ⟨rfl, XR.out⟩
        · have hres : res = (m : Int) := by
            have hf : runeN m = true := by unfold runeN; exact decide_eq_true (by omega)
            rw [← HRES.out, hr1]; simp [Option.filter, hf]
          subst hres
          clear n0 hr1
          go_wp2_with fail
          go_ret
          exact ⟨rfl, XR.out⟩
      · have hres : res = (m : Int) := by
          have hf : runeN m = true := by unfold runeN; exact decide_eq_true (by omega)
          rw [← HRES.out, hr1]; simp [Option.filter, hf]
        subst hres
        clear n0 hr1
        go_wp2_with fail
        go_ret
        exact ⟨rfl, XR.out⟩
end Go.Proofs.YtdafdoodegpdhaaGreatDoor

namespace Go.Proofs.YtdafdoodegpdhaaGreatDoor
open Go Go.RowKit Go.BigFrame
set_option linter.unusedVariables false
set_option linter.unusedSimpArgs false

set_option maxHeartbeats 1000000 in
set_option maxRecDepth 100000 in
theorem rSmall_any (s : ByteArray) (hs : s.size ≤ 1000000000000) (w : World) : Calls Tryz.prog 36 #[.string s] w (RVal (.string (bs (s.data.toList.map smallC))) w) := by
  obtain ⟨l, hl⟩ : ∃ l, s.data.toList = l := ⟨_, rfl⟩
  have hz : l.length = s.size := by rw [← hl]; rfl
  rw [hl]
  have HLL := Lib.hid hl
  have HZ := Lib.hid hz
  clear hl hz
  have HB1 := Lib.hid (Buf.new w)
  go_enter Tryz.func36, Tryz.ntmps36
  go_upto_region 2 with fail
  obtain ⟨w1, hw1⟩ : ∃ w1 : World, w1 = w.alloc (.cells #[] 5) := ⟨_, rfl⟩
  rw [← hw1] at HB1 ⊢
  clear hw1
  go_wp2_with fail
  go_loopw [3, 4, 5] (fun ov i _ wr => ∃ (k : Nat) (acc : List UInt8), k ≤ s.size ∧ i = .int .i64 k ∧ (∃ g cap, ov = .slice (some ⟨g, 0, none⟩) acc.length cap) ∧ Buf w ov acc wr ∧ acc = (l.take k).map smallC) (fun _ i _ _ => s.size - (intOf i).toNat)
  case atStart => exact ⟨0, [], Nat.zero_le _, rfl, ⟨_, _, rfl⟩, HB1.out, rfl⟩
  case round =>
    obtain ⟨k, acc, hk, rfl, ⟨g, cap, rfl⟩, hb, hacc⟩ := hrel
    have HBR := Lib.hid hb
    have HACC := Lib.hid hacc
    have hal : acc.length + 1 ≤ 140737488355328 := by rw [hacc, List.length_map, List.length_take]; omega
    have HAL := Lib.hid hal
    clear hb hacc hal
    by_cases hlt : k < s.size
    · obtain ⟨c, hc⟩ : ∃ c, s[k]'hlt = c := ⟨_, rfl⟩
      have hix : ∀ W : World, (Instr.index 9 (.string s) (.int .i64 (k : Int))).run Tryz.prog W = .ok (.int .u8 (c.toNat : Int)) W := by
        intro W
        rw [run_index_string W 9 s .i64 (k : Int) Tryz.underlying9, dif_pos ⟨by omega, by omega⟩]
        simp only [Int.toNat_natCast, hc]
      have hlc : l[k]? = some c := by rw [← HLL.out, List.getElem?_eq_getElem (by exact hlt)]; exact congrArg some hc
      obtain ⟨acc2, ha2⟩ : ∃ a, acc ++ [smallC c] = a := ⟨_, rfl⟩
      have hnext : acc2 = (l.take (k + 1)).map smallC := by
        obtain ⟨hk2, e⟩ := List.getElem?_eq_some_iff.1 hlc
        rw [← ha2, HACC.out, List.take_succ_eq_append_getElem hk2, List.map_append, e]; rfl
      have HNX := Lib.hid hnext
      have HA2 := Lib.hid ha2
      clear hlc hc ha2 hnext
      have hc256 : c.toNat < 256 := c.toNat_lt
      by_cases t1 : (65 : Int) ≤ (c.toNat : Int)
      · by_cases t2 : (c.toNat : Int) ≤ 90
        · have hw1 : IntKind.u8.wrap ((c.toNat : Int) + 32) = (c.toNat : Int) + 32 := IntWalk.u8_in _ (by omega)
          have hsc : ((c.toNat : Int) + 32) = ((smallC c).toNat : Int) := by
            rw [small_add, if_pos ⟨by omega, by omega⟩, UInt8.toNat_add]
            show _ = (((c.toNat + 32) % 256 : Nat) : Int)
            omega
          have HSC := Lib.hid hsc
          clear hsc
          go_wp2_with (refine wpB_byte rfl _ _ rfl (.slice (some ⟨g, 0, none⟩) acc.length cap) acc rfl w HBR.out (smallC c) _ (by first | rfl | exact HSC.out) rfl HAL.out acc2 HA2.out ?_)
          intro v' w' hb'
          obtain ⟨g', cap', _, _, rfl, _, _, _⟩ := hb'.at
          have HB' := Lib.hid hb'
          clear hb'
          go_wp2_with fail
          go_roundw
          case rel => exact ⟨k + 1, acc2, by omega, by go_num, ⟨g', cap', rfl⟩, HB'.out, HNX.out⟩
          case measure => simp [intOf]; omega
        · have HSC := Lib.hid (show (c.toNat : Int) = ((smallC c).toNat : Int) by unfold smallC; rw [if_neg (by omega)])
          go_wp2_with (refine wpB_byte rfl _ _ rfl (.slice (some ⟨g, 0, none⟩) acc.length cap) acc rfl w HBR.out (smallC c) _ (by first | rfl | exact HSC.out) rfl HAL.out acc2 HA2.out ?_)
          intro v' w' hb'
          obtain ⟨g', cap', _, _, rfl, _, _, _⟩ := hb'.at
          have HB' := Lib.hid hb'
          clear hb'
          go_wp2_with fail
          go_roundw
          case rel => exact ⟨k + 1, acc2, by omega, by go_num, ⟨g', cap', rfl⟩, HB'.out, HNX.out⟩
          case measure => simp [intOf]; omega
      · have HSC := Lib.hid (show (c.toNat : Int) = ((smallC c).toNat : Int) by unfold smallC; rw [if_neg (by omega)])
        go_wp2_with (refine wpB_byte rfl _ _ rfl (.slice (some ⟨g, 0, none⟩) acc.length cap) acc rfl w HBR.out (smallC c) _ (by first | rfl | exact HSC.out) rfl HAL.out acc2 HA2.out ?_)
        intro v' w' hb'
        obtain ⟨g', cap', _, _, rfl, _, _, _⟩ := hb'.at
        have HB' := Lib.hid hb'
        clear hb'
        go_wp2_with fail
        go_roundw
        case rel => exact ⟨k + 1, acc2, by omega, by go_num, ⟨g', cap', rfl⟩, HB'.out, HNX.out⟩
        case measure => simp [intOf]; omega
    · obtain rfl : k = s.size := by omega
      have hfin : acc = l.map smallC := by rw [HACC.out, List.take_of_length_le (by have := HZ.out; omega)]
      have hcv := run_ofBytes HBR.out
      rw [hfin] at hcv
      have HFIN := Lib.hid hfin
      have HCV := Lib.hid (show (Go.convert 42 9 (.slice (some ⟨g, 0, none⟩) acc.length cap)).run Tryz.prog wr = .ok (.string (bs (l.map smallC))) wr by have h := run_ofBytes HBR.out; rw [h, HFIN.out])
      clear hcv hfin
      go_wp2_with fail
      rw [HCV.out]
      go_wp2_with fail
      go_ret
      exact ⟨rfl, HBR.out.ex⟩
end Go.Proofs.YtdafdoodegpdhaaGreatDoor

namespace Go.Proofs.YtdafdoodegpdhaaGreatDoor
open Go Go.RowKit Go.BigFrame
set_option linter.unusedVariables false
set_option linter.unusedSimpArgs false

def writC (c : UInt8) : List UInt8 := if c = 60 then [38, 108, 116, 59] else if c = 38 then [38, 97, 109, 112, 59] else [c]
theorem writ_len (l : List UInt8) : (l.flatMap writC).length ≤ 5 * l.length := by
  induction l with
  | nil => simp
  | cons c r ih =>
    have : (writC c).length ≤ 5 := by unfold writC; split; decide; split; decide; simp
    rw [List.flatMap_cons, List.length_append, List.length_cons]
    omega
end Go.Proofs.YtdafdoodegpdhaaGreatDoor

namespace Go.Proofs.YtdafdoodegpdhaaGreatDoor
open Go
set_option linter.unusedVariables false
set_option linter.unusedSimpArgs false

def nm0 : List UInt8 := [38, 97, 109, 112, 59]
def nm1 : List UInt8 := [38, 108, 116, 59]
def nm2 : List UInt8 := [38, 103, 116, 59]
def nm3 : List UInt8 := [38, 113, 117, 111, 116, 59]
def nm4 : List UInt8 := [38, 97, 112, 111, 115, 59]
def nm5 : List UInt8 := [38, 110, 98, 115, 112, 59]
def namesR : List (List UInt8 × List UInt8) := [(nm0, [38]), (nm1, [60]), (nm2, [62]), (nm3, [34]), (nm4, [39]), (nm5, [194, 160])]
def nameStep (r : List UInt8) (xk : List UInt8 × Nat) (nm : List UInt8 × List UInt8) : List UInt8 × Nat := if r.take nm.1.length = nm.1 then (nm.2, nm.1.length) else xk
/-- how many bytes stand ahead of a semicolon, or as many as are gone through -/
def scanE : Nat → List UInt8 → Nat
  | 0, _ => 0
  | f + 1, [] => 0
  | f + 1, c :: r => if c = 59 then 0 else scanE f r + 1
def numR (p : List UInt8) (m : Nat) : Int := if p.head? = some 120 then refN 16 6 ((p.drop 1).take (m - 1)) else refN 10 7 (p.take m)
def namedR (r : List UInt8) : List UInt8 × Nat := namesR.foldl (nameStep r) (r.take 1, 1)
/-- what the document's loop writes at a place, and how many bytes it goes on -/
def stepR (r : List UInt8) : List UInt8 × Nat :=
  if r.take 2 = [38, 35] ∧ (r.drop 2)[scanE 10 (r.drop 2)]? = some 59 ∧ 0 < numR (r.drop 2) (scanE 10 (r.drop 2)) then
    ((Utf8.encode (numR (r.drop 2) (scanE 10 (r.drop 2)))).data.toList, scanE 10 (r.drop 2) + 3)
  else namedR r
theorem scanE_le : ∀ (f : Nat) (p : List UInt8), scanE f p ≤ f ∧ scanE f p ≤ p.length := by
  intro f
  induction f with
  | zero => intro p; exact ⟨Nat.le_refl _, Nat.zero_le _⟩
  | succ f ih =>
    intro p
    cases p with
    | nil => exact ⟨Nat.zero_le _, Nat.le_refl _⟩
    | cons c r =>
      unfold scanE
      split
      · exact ⟨Nat.zero_le _, Nat.zero_le _⟩
      · have := ih r
        simp only [List.length_cons]
        omega
/-- the scan, by the first semicolon among as many bytes -/
theorem scanE_index : ∀ (f : Nat) (p : List UInt8), (Lib.indexByte (p.take f) 59 < 0 ∧ scanE f p = min f p.length) ∨ (Lib.indexByte (p.take f) 59 = (scanE f p : Int) ∧ scanE f p < f ∧ p[scanE f p]? = some 59) := by
  intro f
  induction f with
  | zero => intro p; left; exact ⟨by rw [List.take_zero]; decide, by simp [scanE]⟩
  | succ f ih =>
    intro p
    cases p with
    | nil => left; exact ⟨by rw [List.take_nil]; decide, by simp [scanE]⟩
    | cons c r =>
      rw [List.take_succ_cons, Lib.indexByte]
      by_cases hc : c = 59
      · right
        subst hc
        exact ⟨by simp [scanE], by simp [scanE], by simp [scanE]⟩
      · have e1 : (c == 59) = false := by simp [hc]
        have e2 : scanE (f + 1) (c :: r) = scanE f r + 1 := by simp [scanE, hc]
        rw [e1, if_neg (by decide), e2]
        have hge := Lib.indexByte_ge (r.take f) 59
        rcases ih r with ⟨h1, h2⟩ | ⟨h1, h2, h3⟩
        · left
          have h : Lib.indexByte (r.take f) 59 = -1 := by omega
          rw [h]
          exact ⟨by decide, by rw [h2, List.length_cons]; omega⟩
        · right
          rw [h1]
          have : ((scanE f r : Int) == -1) = false := by rw [beq_eq_false_iff_ne]; omega
          rw [this, if_neg (by decide)]
          exact ⟨by push_cast; rfl, by omega, by simpa using h3⟩
theorem take_eq_iff {l t : List UInt8} : l.take t.length = t ↔ ∃ q, l = t ++ q := by
  constructor
  · intro h
    exact ⟨l.drop t.length, by conv => lhs; rw [← List.take_append_drop t.length l, h]⟩
  · rintro ⟨q, rfl⟩
    exact List.take_left' rfl
/-- a name that stands there -/
theorem entityL_name {l : List UInt8} {e : Nat} {x : List UInt8} (h1 : Lib.indexByte (l.take 12) 59 = (e : Int)) (h2 : namedL ((l.drop 1).take (e - 1)) = some x) : entityL l = (x, e + 1) := by
  unfold entityL
  dsimp only
  rw [h1, if_neg (by omega)]
  unfold meansL
  rw [Int.toNat_natCast, h2]
theorem named_hit (nm x q : List UInt8) (h : (nm, x) ∈ namesR) : entityL (nm ++ q) = (x, nm.length) ∧ stepR (nm ++ q) = (x, nm.length) := by
  simp only [namesR, List.mem_cons, Prod.mk.injEq, List.not_mem_nil, or_false] at h
  rcases h with ⟨rfl, rfl⟩ | ⟨rfl, rfl⟩ | ⟨rfl, rfl⟩ | ⟨rfl, rfl⟩ | ⟨rfl, rfl⟩ | ⟨rfl, rfl⟩
  · exact ⟨entityL_name (e := 4) (by simp [nm0, Lib.indexByte]) (by simp [nm0, namedL]), by simp [stepR, namedR, namesR, nameStep, nm0, nm1, nm2, nm3, nm4, nm5]⟩
  · exact ⟨entityL_name (e := 3) (by simp [nm1, Lib.indexByte]) (by simp [nm1, namedL]), by simp [stepR, namedR, namesR, nameStep, nm0, nm1, nm2, nm3, nm4, nm5]⟩
  · exact ⟨entityL_name (e := 3) (by simp [nm2, Lib.indexByte]) (by simp [nm2, namedL]), by simp [stepR, namedR, namesR, nameStep, nm0, nm1, nm2, nm3, nm4, nm5]⟩
  · exact ⟨entityL_name (e := 5) (by simp [nm3, Lib.indexByte]) (by simp [nm3, namedL]), by simp [stepR, namedR, namesR, nameStep, nm0, nm1, nm2, nm3, nm4, nm5]⟩
  · exact ⟨entityL_name (e := 5) (by simp [nm4, Lib.indexByte]) (by simp [nm4, namedL]), by simp [stepR, namedR, namesR, nameStep, nm0, nm1, nm2, nm3, nm4, nm5]⟩
  · exact ⟨entityL_name (e := 5) (by simp [nm5, Lib.indexByte]) (by simp [nm5, namedL]), by simp [stepR, namedR, namesR, nameStep, nm0, nm1, nm2, nm3, nm4, nm5]⟩
theorem namedR_none {r : List UInt8} (h : ∀ nm x, (nm, x) ∈ namesR → r.take nm.length ≠ nm) : namedR r = (r.take 1, 1) := by
  have H : ∀ (l : List (List UInt8 × List UInt8)) (xk : List UInt8 × Nat), (∀ p ∈ l, p ∈ namesR) → l.foldl (nameStep r) xk = xk := by
    intro l
    induction l with
    | nil => intro xk _; rfl
    | cons p l ih =>
      intro xk hp
      rw [List.foldl_cons]
      have : nameStep r xk p = xk := by unfold nameStep; rw [if_neg (h p.1 p.2 (hp p (by simp)))]
      rw [this]
      exact ih xk fun q hq => hp q (by simp [hq])
  exact H namesR _ fun p hp => hp
theorem namedL_mem {m x : List UInt8} (h : namedL m = some x) : (38 :: m ++ [59], x) ∈ namesR := by
  unfold namedL at h
  repeat' split at h
  all_goals (first | (cases h; rename_i e; rw [e]; decide) | cases h)
theorem refN_pos {base most : Nat} {l : List UInt8} : 0 < refN base most l ↔ ∃ n, codeN base most l = some n ∧ 0 < n := by
  unfold refN
  cases h : codeN base most l with
  | none => simp
  | some n => simp
theorem codeN_pos {base most : Nat} {l : List UInt8} {n : Nat} (h : codeN base most l = some n) : 0 < n := by
  unfold codeN at h
  split at h
  · cases h
  · rw [Option.filter_eq_some_iff] at h
    have := h.2
    unfold runeN at this
    have := of_decide_eq_true this
    omega
/-- what a number says, both ways -/
theorem codedL_num (p : List UInt8) (m : Nat) (h : p[m]? = some 59) : codedL (p.take m) = if 0 < numR p m then some (Utf8.encode (numR p m)).data.toList else none := by
  have key : ∀ (base most : Nat) (l : List UInt8), (codeN base most l).map (fun (n : Nat) => (Utf8.encode (n : Int)).data.toList) = if 0 < refN base most l then some (Utf8.encode (refN base most l)).data.toList else none := by
    intro base most l
    cases hc : codeN base most l with
    | none => rw [if_neg (by unfold refN; rw [hc]; decide)]; rfl
    | some n =>
      have hn := codeN_pos hc
      have e : refN base most l = (n : Int) := by unfold refN; rw [hc]
      rw [e, if_pos (by omega)]
      rfl
  unfold codedL codeL numR
  cases p with
  | nil => simp at h
  | cons c q =>
    cases m with
    | zero =>
      have : c = 59 := by simpa using h
      subst this
      simpa using key 10 7 []
    | succ m =>
      rw [List.take_succ_cons]
      by_cases hx : (c :: q).head? = some 120
      · rw [if_pos (show (c :: List.take m q).head? = some 120 from hx), if_pos hx]; exact key 16 6 _
      · rw [if_neg (show ¬ (c :: List.take m q).head? = some 120 from hx), if_neg hx]; exact key 10 7 _
theorem numR_long (p : List UInt8) (h : 10 ≤ p.length) : ¬ 0 < numR p 10 := by
  have key : ∀ (base most : Nat) (l : List UInt8), most < l.length → ¬ 0 < refN base most l := by
    intro base most l hl
    unfold refN codeN
    rw [if_pos (.inr hl)]
    decide
  unfold numR
  split
  · exact key _ _ _ (by rw [List.length_take, List.length_drop]; omega)
  · exact key _ _ _ (by rw [List.length_take]; omega)
theorem stepR_other {c : UInt8} (hc : c ≠ 38) (q : List UInt8) : stepR (c :: q) = ([c], 1) := by
  have h2 : (c :: q).take 2 ≠ [38, 35] := by
    intro h
    rw [List.take_succ_cons] at h
    exact hc (List.cons.inj h).1
  unfold stepR
  rw [if_neg fun h => h2 h.1]
  refine namedR_none fun nm x hm h => ?_
  simp only [namesR, List.mem_cons, Prod.mk.injEq, List.not_mem_nil, or_false] at hm
  rcases hm with ⟨rfl, rfl⟩ | ⟨rfl, rfl⟩ | ⟨rfl, rfl⟩ | ⟨rfl, rfl⟩ | ⟨rfl, rfl⟩ | ⟨rfl, rfl⟩ <;> exact hc (List.cons.inj h).1
/-- at an ampersand the document does what lex.entity does -/
theorem stepR_amp (q : List UInt8) : stepR (38 :: q) = entityL (38 :: q) := by
  by_cases hn : ∃ nm x, (nm, x) ∈ namesR ∧ (38 :: q).take nm.length = nm
  · obtain ⟨nm, x, hm, ht⟩ := hn
    obtain ⟨q', e⟩ := take_eq_iff.1 ht
    rw [e, (named_hit nm x q' hm).1, (named_hit nm x q' hm).2]
  have hnr := namedR_none (r := 38 :: q) fun nm x hm h => hn ⟨nm, x, hm, h⟩
  have hnl : ∀ e : Nat, Lib.indexByte ((38 :: q).take 12) 59 = (e : Int) → namedL (((38 :: q).drop 1).take (e - 1)) = none := by
    intro e he
    cases h : namedL (((38 :: q).drop 1).take (e - 1)) with
    | none => rfl
    | some x =>
      exfalso
      have hm := namedL_mem h
      refine hn ⟨_, x, hm, ?_⟩
      obtain ⟨k, hk, hk1, _⟩ := indexByte_some (l := (38 :: q).take 12) (c := 59) (by omega)
      have hke : k = e := by omega
      subst hke
      have hk12 := (List.getElem?_eq_some_iff.1 hk1).1
      rw [List.length_take] at hk12
      rw [List.getElem?_take, if_pos (by omega)] at hk1
      obtain ⟨hkl, hk59⟩ := List.getElem?_eq_some_iff.1 hk1
      have hk0 : k ≠ 0 := by rintro rfl; simp at hk59
      obtain ⟨j, rfl⟩ : ∃ j, k = j + 1 := ⟨k - 1, by omega⟩
      simp only [List.drop_succ_cons, List.drop_zero, Nat.add_sub_cancel, List.length_cons] at *
      have e1 : (38 :: q).take (j + 2) = 38 :: q.take j ++ [59] := by
        rw [List.take_succ_cons, List.take_succ_eq_append_getElem (by omega)]
        simp only [List.getElem_cons_succ] at hk59
        rw [hk59]
        rfl
      have e2 : (38 :: q.take j ++ [59]).length = j + 2 := by simp; omega
      simp only [List.length_append, List.length_cons, List.length_nil] at e2 ⊢
      rw [show (List.take j q).length + 1 + (0 + 1) = j + 2 by omega]
      exact e1
  have one : (38 :: q).take 1 = [38] := rfl
  rw [one] at hnr
  unfold stepR
  by_cases h2 : (38 :: q).take 2 = [38, 35]
  · obtain ⟨p, rfl⟩ : ∃ p, q = 35 :: p := by
      cases q with
      | nil => cases h2
      | cons d p =>
        have : d = 35 := by
          have := (List.cons.inj (List.cons.inj h2).2).1
          exact this
        exact ⟨p, by rw [this]⟩
    have ed : (38 :: 35 :: p).drop 2 = p := rfl
    have et : (38 :: 35 :: p).take 12 = 38 :: 35 :: p.take 10 := rfl
    rw [ed]
    have hi := scanE_index 10 p
    have hle := scanE_le 10 p
    rcases hi with ⟨h1, hs⟩ | ⟨h1, hlt, h59⟩
    · have hid : Lib.indexByte (38 :: 35 :: p.take 10) 59 < 0 := by
        have hge := Lib.indexByte_ge (p.take 10) 59
        have e : Lib.indexByte (p.take 10) 59 = -1 := by omega
        simp [Lib.indexByte, e]
      rw [if_neg, hnr]
      · unfold entityL
        dsimp only
        rw [et, if_pos hid]
      · rintro ⟨_, ha, hb⟩
        rcases Nat.lt_or_ge p.length 10 with hl | hl
        · rw [hs, Nat.min_eq_right (by omega)] at ha
          simp at ha
        · rw [hs, Nat.min_eq_left hl] at hb
          exact numR_long p hl hb
    · obtain ⟨m, hm⟩ : ∃ m, scanE 10 p = m := ⟨_, rfl⟩
      rw [hm] at h1 hlt h59 hle ⊢
      have hid : Lib.indexByte ((38 :: 35 :: p).take 12) 59 = ((m + 2 : Nat) : Int) := by
        rw [et]
        have e1 : ((m : Int) == -1) = false := by rw [beq_eq_false_iff_ne]; omega
        have e2 : ((m : Int) + 1 == -1) = false := by rw [beq_eq_false_iff_ne]; omega
        simp [Lib.indexByte, h1, e1, e2]
        omega
      have hent : entityL (38 :: 35 :: p) = match codedL (p.take m) with | some x => (x, m + 3) | none => ([38], 1) := by
        unfold entityL
        dsimp only
        rw [hid, if_neg (by omega), Int.toNat_natCast]
        unfold meansL
        rw [hnl _ hid]
        dsimp only
        rw [if_pos h2, ed, Nat.add_sub_cancel]
        first | done | rfl
      rw [hent, codedL_num p m h59]
      by_cases hp : 0 < numR p m
      · rw [if_pos ⟨h2, h59, hp⟩, if_pos hp]
      · rw [if_neg (fun h => hp h.2.2), if_neg hp, hnr]
  · rw [if_neg (fun h => h2 h.1), hnr]
    unfold entityL
    dsimp only
    split
    · rfl
    · rename_i hge
      obtain ⟨k, hk, _⟩ := indexByte_some hge
      unfold meansL
      rw [hk, Int.toNat_natCast, hnl k hk]
      dsimp only
      rw [if_neg h2]
theorem stepR_pos {c : UInt8} (q : List UInt8) : 1 ≤ (stepR (c :: q)).2 := by
  by_cases hc : c = 38
  · subst hc; rw [stepR_amp]; exact entityL_pos _
  · rw [stepR_other hc]; exact Nat.le_refl _
theorem stepR_le (c : UInt8) (q : List UInt8) : (stepR (c :: q)).2 ≤ (c :: q).length := by
  by_cases hc : c = 38
  · subst hc; rw [stepR_amp]; exact entityL_le _ _
  · rw [stepR_other hc]; simp
theorem stepR_len (c : UInt8) (q : List UInt8) : (stepR (c :: q)).1.length ≤ 4 := by
  by_cases hc : c = 38
  · subst hc; rw [stepR_amp]; exact entityL_len _
  · rw [stepR_other hc]; simp
/-- what is decoded, a step of the document's -/
theorem decL_step (c : UInt8) (q : List UInt8) : decL (c :: q) = (stepR (c :: q)).1 ++ decL ((c :: q).drop (stepR (c :: q)).2) := by
  by_cases hc : c = 38
  · subst hc; rw [stepR_amp]; exact decL_amp q
  · rw [stepR_other hc, decL_cons hc]; rfl
end Go.Proofs.YtdafdoodegpdhaaGreatDoor

namespace Go.Proofs.YtdafdoodegpdhaaGreatDoor
open Go Go.RowKit Go.BigFrame
set_option linter.unusedVariables false
set_option linter.unusedSimpArgs false

theorem setCells_other (g : Nat) : ∀ (news : List Value) (o : Nat) (w : World) (b : Nat), b ≠ g → (w.setCells g o news).heap[b]? = w.heap[b]? := by
  intro news
  induction news with
  | nil => intro o w b hb; rfl
  | cons v r ih => intro o w b hb; exact (ih (o + 1) (w.setCell ⟨g, o, none⟩ v) b hb).trans (heap_setCell_other (p := ⟨g, o, none⟩) v hb)
/-- .. and the other blocks stay -/
def Oth (v v' : Value) (w w' : World) : Prop := ∀ g n c, v = .slice (some ⟨g, 0, none⟩) n c →
  (∀ b, b < w.heap.size → b ≠ g → w'.heap[b]? = w.heap[b]?) ∧ w.heap.size ≤ w'.heap.size ∧ ∀ g' n' c', v' = .slice (some ⟨g', 0, none⟩) n' c' → g' = g ∨ w.heap.size ≤ g'
/-- bytes appended; the other blocks stay -/
theorem run_buf2 {W0 w : World} {v : Value} {l : List UInt8} (h : Buf W0 v l w) {tx : TypeId} {x : Value} {l2 : List UInt8} (ty : TypeId) (hs : Src Tryz.prog 1 tx x l2.length (Lib.byteCells l2) w) (hlen : l.length + l2.length ≤ 140737488355328) :
    ∃ v' w', (Builtin.append_ #[42, tx] ty #[v, x]).run Tryz.prog w = .ok v' w' ∧ Buf W0 v' (l ++ l2) w' ∧ Oth v v' w w' := by
  have hcells : ∀ g n cap, v = .slice (some ⟨g, 0, none⟩) n cap → ∀ j u, (Lib.byteCells l)[j]? = some u → w.cell? ((⟨g, 0, none⟩ : Addr).add j) = some u := fun g n cap hv => h.cells hv
  obtain ⟨v', w', hrun, hb⟩ := run_buf h ty hs hlen
  refine ⟨v', w', hrun, hb, ?_⟩
  obtain ⟨g, cap, cur, fz, rfl, h2, h3, h4, h5, h6, h7, h8, h9, h10⟩ := h
  obtain ⟨i0, hi, hz0, hz1, hz2⟩ := info_parts infoByte
  have hl2 : (Lib.byteCells l2).length = l2.length := Lib.byteCells_length l2
  have hl1 : (Lib.byteCells l).length = l.length := Lib.byteCells_length l
  have hlt : g < w.heap.size := (Array.getElem?_eq_some_iff.1 h3).1
  by_cases hroom : l.length + l2.length ≤ cap
  · have hr := run_append_room_src (P := Tryz.prog) (w := w) 42 tx ty 5 i0 Tryz.underlying42 hi g 0 l.length cap x l2.length (Lib.byteCells l2) (by rw [hz1]; exact hs) hroom
      (by
        intro j hj
        rw [hz1, Nat.zero_add, Nat.mul_one]
        have : l.length + j < cur.size := by omega
        rw [cellOf h3 (i := l.length + j) (v := cur[l.length + j]) (by simp [this])]; rfl)
      (by
        intro j hj
        rw [hz1, Nat.zero_add, Nat.mul_one]
        unfold World.frozen?
        simp only [h3]
        rcases h4 with h4 | h4 <;> simp <;> omega)
    rw [hz1, Nat.mul_one, Nat.zero_add] at hr
    rw [hr] at hrun
    injection hrun with e1 e2
    subst e1
    subst e2
    intro g0 n0 c0 e
    cases e
    exact ⟨fun b hb1 hb2 => setCells_other g _ _ _ _ hb2, by rw [size_sc]; exact Nat.le_refl _, fun g' n' c' e => by cases e; exact .inl rfl⟩
  · have hold : (Builtin.firstCells i0.size l.length (.slice (some ⟨g, 0, none⟩) l.length cap)).run Tryz.prog w.drew = .ok (Lib.byteCells l).toArray w.drew := by
      rw [hz1]
      exact run_firstCells_some w.drew 1 l.length ⟨g, 0, none⟩ l.length cap (Lib.byteCells l) (by omega) (by simpa using hcells g _ _ rfl)
    have hr := run_append_grow_src (P := Tryz.prog) (w := w) 42 tx ty 5 i0 (.int .u8 0) Tryz.underlying42 hi hz0 (some ⟨g, 0, none⟩) l.length cap (Lib.byteCells l) hold x l2.length (Lib.byteCells l2) (by rw [hz1]; exact hs) (by omega) (by omega) (by rw [hz2]; exact growslice_fits (by omega) (by omega))
    rw [hr] at hrun
    injection hrun with e1 e2
    subst e1
    subst e2
    intro g0 n0 c0 e
    cases e
    exact ⟨fun b hb1 hb2 => Below.block ((Ext.refl w).drew.alloc _) b hb1, Ext.size ((Ext.refl w).drew.alloc _), fun g' n' c' e => by cases e; exact .inr (Nat.le_refl _)⟩
section
variable {ops : Array Oper} {rest : List Oper} {o : Oper} {a : Act} {Q : Exit → Act → World → Prop}
theorem wpB_text2 {w : World} (hgd : o.guard = none) (sl x : Operand) (ho : o.op = .call { callee := .builtin .append, args := #[sl, x], argTypes := #[42, 9] })
    (v : Value) (l : List UInt8) (hs : a.eval sl = v) (W0 : World) (hb : Buf W0 v l w) (s : ByteArray) (hx : a.eval x = .string s) (hlen : l.length + s.size ≤ 140737488355328)
    (l' : List UInt8) (hl : l ++ s.data.toList = l') (h : ∀ v' w', Buf W0 v' l' w' → Oth v v' w w' → wpList Tryz.prog ops Q rest (a.put o.dst v') w') : wpList Tryz.prog ops Q (o :: rest) a w := by
  refine wpList_plain hgd fun K hK => ?_
  obtain ⟨v', w', hr, hb', ho'⟩ := run_buf2 hb (x := .string s) (l2 := s.data.toList) o.type (Src.ofString w Tryz.underlying9 s) hlen
  subst hl
  unfold Oper.wp execOp
  simp only [ho, resolve, invoke, builtin, Sem.run_bind, Sem.run_pure, Result.andThen_ok, List.map_toArray, List.map_cons, List.map_nil, hs, hx, hr]
  exact hK _ _ (h v' w' hb' ho')
end
def nmA : Array Value := #[.string ⟨#[38, 97, 109, 112, 59]⟩, .string ⟨#[38, 108, 116, 59]⟩, .string ⟨#[38, 103, 116, 59]⟩, .string ⟨#[38, 113, 117, 111, 116, 59]⟩, .string ⟨#[38, 97, 112, 111, 115, 59]⟩, .string ⟨#[38, 110, 98, 115, 112, 59]⟩]
def meA : Array Value := #[.string ⟨#[38]⟩, .string ⟨#[60]⟩, .string ⟨#[62]⟩, .string ⟨#[34]⟩, .string ⟨#[39]⟩, .string ⟨#[194, 160]⟩]
theorem namesR_at {n : Nat} (h : n < 6) : ∃ nm me, namesR[n]? = some (nm, me) ∧ nmA[n]? = some (.string (bs nm)) ∧ meA[n]? = some (.string (bs me)) ∧ 0 < nm.length ∧ nm.length ≤ 6 := by
  rcases (show n = 0 ∨ n = 1 ∨ n = 2 ∨ n = 3 ∨ n = 4 ∨ n = 5 by omega) with rfl | rfl | rfl | rfl | rfl | rfl
  · exact ⟨nm0, [38], rfl, rfl, rfl, by decide, by decide⟩
  · exact ⟨nm1, [60], rfl, rfl, rfl, by decide, by decide⟩
  · exact ⟨nm2, [62], rfl, rfl, rfl, by decide, by decide⟩
  · exact ⟨nm3, [34], rfl, rfl, rfl, by decide, by decide⟩
  · exact ⟨nm4, [39], rfl, rfl, rfl, by decide, by decide⟩
  · exact ⟨nm5, [194, 160], rfl, rfl, rfl, by decide, by decide⟩
theorem fold_snoc {r : List UInt8} {n : Nat} {p : List UInt8 × List UInt8} (h : namesR[n]? = some p) (z : List UInt8 × Nat) : (namesR.take (n + 1)).foldl (nameStep r) z = nameStep r ((namesR.take n).foldl (nameStep r) z) p := by
  obtain ⟨hn, e⟩ := List.getElem?_eq_some_iff.1 h
  rw [List.take_succ_eq_append_getElem hn, List.foldl_append, e]
  rfl
def nrOk (p : List UInt8 × Nat) : Prop := p.2 ≤ 6 ∧ p.1.length ≤ 2
theorem named_len (r : List UInt8) : ∀ (l : List (List UInt8 × List UInt8)) (z : List UInt8 × Nat), (∀ p ∈ l, p.1.length ≤ 6) → z.2 ≤ 6 → (l.foldl (nameStep r) z).2 ≤ 6 := by
  intro l
  induction l with
  | nil => intro z _ h; exact h
  | cons p l ih =>
    intro z hp hz
    rw [List.foldl_cons]
    refine ih _ (fun q hq => hp q (by simp [hq])) ?_
    unfold nameStep
    split
    · exact hp p (by simp)
    · exact hz
theorem refN_bound (base most : Nat) (l : List UInt8) : refN base most l ≤ 1114111 := by
  unfold refN
  cases h : codeN base most l with
  | none => dsimp only; omega
  | some n =>
    dsimp only
    unfold codeN at h
    split at h
    · cases h
    · rw [Option.filter_eq_some_iff] at h
      have := of_decide_eq_true (show decide _ = true from h.2)
      omega
/-- one round of the scan -/
theorem scan_step {p : List UInt8} {j f : Nat} {c : UInt8} (h : p[j]? = some c) (hc : c ≠ 59) : scanE (f + 1) (p.drop j) = scanE f (p.drop (j + 1)) + 1 := by
  obtain ⟨hj, e⟩ := List.getElem?_eq_some_iff.1 h
  rw [List.drop_eq_getElem_cons hj, e, scanE, if_neg hc]
theorem scan_stop {p : List UInt8} {j f : Nat} (h : p[j]? = some 59) : scanE f (p.drop j) = 0 := by
  obtain ⟨hj, e⟩ := List.getElem?_eq_some_iff.1 h
  rw [List.drop_eq_getElem_cons hj, e]
  cases f <;> simp [scanE]
theorem scan_over {p : List UInt8} {j f : Nat} (h : p.length ≤ j) : scanE f (p.drop j) = 0 := by
  rw [List.drop_eq_nil_of_le h]
  cases f <;> rfl
set_option maxHeartbeats 4000000 in
set_option maxRecDepth 100000 in
theorem rDecode_any (s : ByteArray) (hs : s.size ≤ 10000000000) (w : World) : Calls Tryz.prog 18 #[.string s] w (RVal (.string (bs (decL (anewB s).data.toList))) w) := by
  have HA := Lib.hid (Anew_big s (by omega) w)
  have hts := anewB_size s
  obtain ⟨t, ht⟩ : ∃ t, anewB s = t := ⟨_, rfl⟩
  rw [ht] at HA hts ⊢
  obtain ⟨l, hl⟩ : ∃ l, t.data.toList = l := ⟨_, rfl⟩
  have hz : l.length = t.size := by rw [← hl]; rfl
  rw [hl]
  obtain ⟨out, ho⟩ : ∃ out, decL l = out := ⟨_, rfl⟩
  have hol : out.length ≤ 160000000000 := by
    have := decL_len l
    rw [ho] at this
    omega
  rw [ho]
  have HOL := Lib.hid hol
  have HO := Lib.hid ho
  have HLL := Lib.hid hl
  have HZ := Lib.hid hz
  have HTS := Lib.hid (show t.size ≤ 40000000000 by omega)
  clear ht hts hs ho hol hl hz
  go_enter Tryz.func18, Tryz.ntmps18
  go_wp2_with (go_at_call 15; refine HA.out.mono ?_)
  rintro e w1 ⟨rfl, x1⟩
  have X1 := Lib.hid x1
  have HB1 := Lib.hid (Buf.new w1)
  have XA := Lib.hid ((Ext.refl w1).alloc (.cells #[] 5))
  clear x1
  go_upto_region 3 with fail
  obtain ⟨wa, hwa⟩ : ∃ wa : World, wa = w1.alloc (.cells #[] 5) := ⟨_, rfl⟩
  rw [← hwa] at HB1 XA ⊢
  have hsz1 : w1.heap.size < wa.heap.size := by rw [hwa]; simp
  clear hwa
  have HNB := Lib.hid (heap_alloc_new wa (.cells nmA 9))
  have XB := Lib.hid ((Ext.refl wa).alloc (.cells nmA 9))
  go_upto_region 4 with fail
  obtain ⟨wb, hwb⟩ : ∃ wb : World, wb = wa.alloc (.cells nmA 9) := ⟨_, rfl⟩
  unfold nmA at hwb
  rw [← hwb]
  have HWB := Lib.hid hwb
  have hsz2 : wa.heap.size < wb.heap.size := by rw [hwb]; simp
  clear hwb
  have HMB := Lib.hid (heap_alloc_new wb (.cells meA 9))
  have XC := Lib.hid ((Ext.refl wb).alloc (.cells meA 9))
  go_upto_region 5 with fail
  obtain ⟨wc, hwc⟩ : ∃ wc : World, wc = wb.alloc (.cells meA 9) := ⟨_, rfl⟩
  unfold meA at hwc
  rw [← hwc]
  have HWC := Lib.hid hwc
  clear hwc
  obtain ⟨G0, hG0⟩ : ∃ g, w1.heap.size = g := ⟨_, rfl⟩
  obtain ⟨G1, hG1⟩ : ∃ g, wa.heap.size = g := ⟨_, rfl⟩
  obtain ⟨G2, hG2⟩ : ∃ g, wb.heap.size = g := ⟨_, rfl⟩
  have xb : Ext wa wb := by have h := XB.out; rw [HWB.out]; exact h
  have xc : Ext wb wc := by have h := XC.out; rw [HWC.out]; exact h
  have hnb : wb.heap[wa.heap.size]? = some (.cells nmA 9 (0, 0)) := by have h := HNB.out; rw [HWB.out]; exact h
  have hmb : wc.heap[wb.heap.size]? = some (.cells meA 9 (0, 0)) := by have h := HMB.out; rw [HWC.out]; exact h
  rw [hG1] at hnb
  rw [hG2] at hmb
  have HB3 : Hid (Buf w1 (.slice (some ⟨G0, 0, none⟩) 0 0) [] wc) := Lib.hid (by have h := HB1.out; rw [hG0] at h; exact (h.ext xb).ext xc)
  have HN3 := Lib.hid (xc.block hnb)
  have HM3 := Lib.hid hmb
  clear xb xc hnb hmb
  have HGG := Lib.hid (show G0 < G1 ∧ G1 < G2 by omega)
  clear HB1 XA HNB XB HMB XC HWB HWC
  rw [hG0, hG1, hG2]
  clear hG0 hG1 hG2 hsz1 hsz2
  go_wp2_with fail
  go_loopw [3, 6, 7, 8, 9, 10, 11] (fun ov i _ _ _ _ _ wr => ∃ (k : Nat) (acc : List UInt8), k ≤ t.size ∧ i = .int .i64 k ∧ (∃ g cap, ov = .slice (some ⟨g, 0, none⟩) acc.length cap ∧ g ≠ G1 ∧ g ≠ G2) ∧ Buf w1 ov acc wr ∧ acc ++ decL (l.drop k) = out ∧ wr.heap[G1]? = some (.cells nmA 9 (0, 0)) ∧ wr.heap[G2]? = some (.cells meA 9 (0, 0))) (fun _ i _ _ _ _ _ _ => t.size - (intOf i).toNat)
  case atStart => exact ⟨0, [], Nat.zero_le _, rfl, ⟨_, _, rfl, by have := HGG.out; omega, by have := HGG.out; omega⟩, HB3.out, by rw [List.drop_zero, HO.out]; rfl, HN3.out, HM3.out⟩
  case round =>
    obtain ⟨k, acc, hk, rfl, ⟨g, cap, rfl, hg1, hg2⟩, hb, hacc, hn, hm⟩ := hrel
    have HBR := Lib.hid hb
    have HACC := Lib.hid hacc
    have HN := Lib.hid hn
    have HM := Lib.hid hm
    have HG := Lib.hid (And.intro hg1 hg2)
    have HLA := Lib.hid (Nat.le_trans (pre_len hacc) HOL.out)
    have hts : t.size ≤ 40000000000 := HTS.out
    clear hb hacc hn hm hg1 hg2
    by_cases hlt : k < t.size
    · obtain ⟨c, q, hcq⟩ : ∃ c q, l.drop k = c :: q := ⟨_, _, List.drop_eq_getElem_cons (by have := HZ.out; omega)⟩
      have hcut : ∀ i j, t.extract i j = bs ((l.drop i).take (j - i)) := fun i j => by
        have h := bs_cut t.data.toList i j
        rw [bs_list, HLL.out] at h; exact h
      have HCUT := Lib.hid hcut
      have HCQ := Lib.hid hcq
      have hx0 : t.extract k (k + 1) = bs [c] := by rw [hcut, hcq, Nat.add_sub_cancel_left]; rfl
      have HX0 := Lib.hid hx0
      have hw1 : IntKind.i64.wrap ((k : Int) + 1) = (k : Int) + 1 := IntWalk.i64_in _ (by omega)
      have b0 : (0 : Int) ≤ (k : Int) := by omega
      have d0 : decide ((k : Int) < (t.size : Int)) = true := decide_eq_true (by omega)
      have d0n : decide (k < t.size) = true := decide_eq_true hlt
      have b1 : (k : Int) ≤ (k : Int) + 1 := by omega
      have b2 : (k : Int) + 1 ≤ (t.size : Int) := by omega
      have hkn : ((k : Int) + 1).toNat = k + 1 := by omega
      generalize hEx : t.extract k (k + 1) = Ex at HX0 hx0
      have HEX := Lib.hid hEx
      clear hcq hcut hx0
      go_wp2_with fail
      rw [HX0.out]
      go_loopw [7, 8, 9] (fun kv xv nv wi => ∃ (n : Nat) (p : List UInt8 × Nat), n ≤ 6 ∧ nv = .int .i64 n ∧ xv = .string (bs p.1) ∧ kv = .int .i64 p.2 ∧ p = (namesR.take n).foldl (nameStep (c :: q)) ([c], 1) ∧ Ext wr wi) (fun _ _ nv _ => 6 - (intOf nv).toNat)
      case atStart => exact ⟨0, _, Nat.zero_le _, rfl, rfl, rfl, rfl, Ext.refl _⟩
      case round =>
        obtain ⟨n, p, hn6, rfl, rfl, rfl, hp, xi⟩ := hrel
        have HP := Lib.hid hp
        have XI := Lib.hid xi
        by_cases hn : n < 6
        · obtain ⟨nm, me, e1, e2, e3, e4, e5⟩ := namesR_at hn
          have q1 := cellOf (xi.block HN.out) e2
          have q2 := cellOf (xi.block HM.out) e3
          have HBG := Lib.hid (fun W => begins_any t (bs nm) k (by omega) (by rw [bs_size]; exact e4) (by rw [bs_size]; omega) (by omega) W)
          have hbl : beginsL t.data.toList k (bs nm).data.toList = decide ((c :: q).take nm.length = nm) := by unfold beginsL; rw [HLL.out, HCQ.out, bs_data]
          rw [hbl] at HBG
          have HST := Lib.hid (fold_snoc (r := c :: q) e1 ([c], 1))
          have hnz : (bs nm).size = nm.length := bs_size nm
          have HNZ := Lib.hid hnz
          clear e1 e2 e3 hbl hp xi hnz
          obtain ⟨bn, hbn⟩ : ∃ b, bs nm = b := ⟨_, rfl⟩
          rw [hbn] at q1 HBG HNZ
          clear hbn
          by_cases hd : (c :: q).take nm.length = nm
          · rw [decide_eq_true hd] at HBG
            have HNS : Hid (nameStep (c :: q) p (nm, me) = (me, nm.length)) := Lib.hid (by unfold nameStep; rw [if_pos hd])
            clear hd
            go_wp2_with (go_at_call 33; refine (HBG.out _).mono ?_)
            rintro e w2 ⟨rfl, x2⟩
            have q1' := x2.cell q1
            have q2' := x2.cell q2
            have X2 := Lib.hid (XI.out.trans x2)
            clear x2 q1 q2
            go_wp2_with fail
            go_roundw
            case rel => exact ⟨n + 1, (me, nm.length), by omega, by go_num, rfl, by rw [← HNZ.out], by rw [HST.out, ← HP.out, HNS.out], X2.out⟩
            case measure => simp [intOf]; omega
          · rw [decide_eq_false hd] at HBG
            have HNS : Hid (nameStep (c :: q) p (nm, me) = p) := Lib.hid (by unfold nameStep; rw [if_neg hd])
            clear hd
            go_wp2_with (go_at_call 33; refine (HBG.out _).mono ?_)
            rintro e w2 ⟨rfl, x2⟩
            have X2 := Lib.hid (XI.out.trans x2)
            clear x2 q1 q2
            go_wp2_with fail
            go_roundw
            case rel => exact ⟨n + 1, p, by omega, by go_num, rfl, rfl, by rw [HST.out, ← HP.out, HNS.out], X2.out⟩
            case measure => simp [intOf]; omega
        · obtain rfl : n = 6 := by omega
          have hnr : p = namedR (c :: q) := hp
          have hp6 : p.2 ≤ 6 := by rw [hnr]; exact named_len _ _ _ (by decide) (by show 1 ≤ 6; omega)
          have HNR := Lib.hid hnr
          have HBG := Lib.hid (fun W => begins_any t ⟨#[38, 35]⟩ k (by omega) (by decide) (by decide) (by omega) W)
          have hbl : beginsL t.data.toList k (⟨#[38, 35]⟩ : ByteArray).data.toList = decide ((c :: q).take 2 = [38, 35]) := by unfold beginsL; rw [HLL.out, HCQ.out]; rfl
          rw [hbl] at HBG
          have hs1 := stepR_pos (c := c) q
          have hs2 := stepR_le c q
          have hs3 := stepR_len c q
          have hql : (c :: q).length = t.size - k := by rw [← HCQ.out, List.length_drop, HZ.out]
          have HSP := Lib.hid (And.intro hs1 (And.intro (hql ▸ hs2) hs3))
          have HSTEP : Hid (∀ x n, stepR (c :: q) = (x, n) → (acc ++ (bs x).data.toList) ++ decL (l.drop (k + n)) = out) := Lib.hid (by
            intro x n h
            have h1 := HACC.out
            rw [HCQ.out, decL_step, h] at h1
            rw [bs_data, ← h1, ← List.drop_drop, HCQ.out, List.append_assoc])
          have hql2 := hql
          clear hp xi hnr hbl hs1 hs2 hs3 hn
          by_cases h2 : (c :: q).take 2 = [38, 35]
          · rw [decide_eq_true h2] at HBG
            have HT2 := Lib.hid h2
            obtain ⟨pq, hpq⟩ : ∃ pq, (c :: q).drop 2 = pq := ⟨_, rfl⟩
            have hpl : pq.length + 2 = t.size - k := by
              have h3 := congrArg List.length h2
              rw [List.length_take] at h3
              rw [← hpq, List.length_drop, ← hql]
              simp only [List.length_cons, List.length_nil] at h3 ⊢
              omega
            have hpd : l.drop (k + 2) = pq := by rw [← List.drop_drop, HCQ.out, hpq]
            have hidx : ∀ j, j < pq.length → ∃ (h : k + 2 + j < t.size), pq[j]? = some (t[k + 2 + j]'h) := by
              intro j hj
              refine ⟨by omega, ?_⟩
              have hlen := HZ.out
              have e1 : l[k + 2 + j]? = pq[j]? := by rw [← hpd, List.getElem?_drop]
              rw [← e1]
              have e2 := HLL.out
              subst e2
              exact List.getElem?_eq_getElem _
            have HPQ := Lib.hid hpq
            have HPD := Lib.hid hpd
            have HIDX := Lib.hid hidx
            have hw2 : IntKind.i64.wrap ((k : Int) + 2) = (k : Int) + 2 := IntWalk.i64_in _ (by omega)
            have hw12 : IntKind.i64.wrap ((k : Int) + 12) = (k : Int) + 12 := IntWalk.i64_in _ (by omega)
            clear h2 hpq hpd hidx hql
            go_wp2_with (go_at_call 33; refine (HBG.out _).mono ?_)
            rintro e w2 ⟨rfl, x2⟩
            have X2 := Lib.hid (XI.out.trans x2)
            clear x2
            go_wp2_with fail
            go_loop [10] (fun ev => ∃ j : Nat, j ≤ 10 ∧ j ≤ pq.length ∧ ev = .int .i64 ((k + 2 + j : Nat) : Int) ∧ j + scanE (10 - j) (pq.drop j) = scanE 10 pq) (fun ev => t.size - (intOf ev).toNat)
            case atStart => exact ⟨0, Nat.zero_le _, Nat.zero_le _, by go_num, by simp⟩
            case round =>
              obtain ⟨j, hj10, hjl, rfl, hsc⟩ := hrel
              have HSC := Lib.hid hsc
              clear hsc
              obtain ⟨E, hE⟩ : ∃ E, k + 2 + j = E := ⟨_, rfl⟩
              have HE := Lib.hid hE
              have hEj : k + 2 + j = E := hE
              rw [hE]
              clear hE
              by_cases hgo : ∃ x, pq[j]? = some x ∧ x ≠ 59 ∧ j < 10
              · obtain ⟨x, hx, hx59, hj⟩ := hgo
                have hjl2 := (List.getElem?_eq_some_iff.1 hx).1
                obtain ⟨hE2, hE3⟩ := HIDX.out j hjl2
                rw [hx] at hE3
                have hxe : t[E]'(by omega) = x := by
                  have h5 := Option.some.inj hE3
                  rw [h5]
                  congr 1
                  exact hEj.symm
                have hElt : E < t.size := by omega
                have hix : ∀ W : World, (Instr.index 9 (.string t) (.int .i64 (E : Int))).run Tryz.prog W = .ok (.int .u8 (x.toNat : Int)) W := by
                  intro W
                  rw [run_index_string W 9 t .i64 (E : Int) Tryz.underlying9, dif_pos ⟨by omega, by omega⟩]
                  simp only [Int.toNat_natCast, hxe]
                have e59 : ((x.toNat : Int) != 59) = true := by rw [bne_iff_ne]; intro h; exact hx59 (UInt8.toNat_inj.1 (by have : (59 : UInt8).toNat = 59 := rfl; omega))
                have d1 : decide ((E : Int) < (t.size : Int)) = true := decide_eq_true (by omega)
                have d1n : decide (E < t.size) = true := decide_eq_true hElt
                have d2 : decide ((E : Int) < (k : Int) + 12) = true := decide_eq_true (by omega)
                have hwE : IntKind.i64.wrap ((E : Int) + 1) = (E : Int) + 1 := IntWalk.i64_in _ (by omega)
                have HS2 := Lib.hid (scan_step (f := 9 - j) hx hx59)
                clear hx hE3 hxe hx59
                go_wp2_with fail
                go_round
                case rel =>
                  refine ⟨j + 1, by omega, by omega, by have := hEj; rw [show k + 2 + (j + 1) = E + 1 by omega]; go_num, ?_⟩
                  rw [← HSC.out, show 10 - j = (9 - j) + 1 by omega, HS2.out, show 10 - (j + 1) = 9 - j by omega]
                  omega
                case measure => simp [intOf]; omega
              · have hm0 : scanE (10 - j) (pq.drop j) = 0 := by
                  by_cases hjl2 : j < pq.length
                  · obtain ⟨x, hx⟩ : ∃ x, pq[j]? = some x := ⟨_, List.getElem?_eq_getElem hjl2⟩
                    by_cases h59 : x = 59
                    · rw [h59] at hx; exact scan_stop hx
                    · have : ¬ j < 10 := fun h => hgo ⟨x, hx, h59, h⟩
                      rw [show 10 - j = 0 by omega, scanE]
                  · exact scan_over (by omega)
                have hmj : scanE 10 pq = j := by rw [← HSC.out, hm0]; omega
                have HMJ := Lib.hid hmj
                clear hm0 hmj
                by_cases hjl2 : j < pq.length
                · obtain ⟨hElt', hxE⟩ := HIDX.out j hjl2
                  have hElt : E < t.size := by omega
                  obtain ⟨x, hx⟩ : ∃ x, t[E]'hElt = x := ⟨_, rfl⟩
                  have hxj : pq[j]? = some x := by
                    rw [hxE, ← hx]
                    congr 2
                  have hix : ∀ W : World, (Instr.index 9 (.string t) (.int .i64 (E : Int))).run Tryz.prog W = .ok (.int .u8 (x.toNat : Int)) W := by
                    intro W
                    rw [run_index_string W 9 t .i64 (E : Int) Tryz.underlying9, dif_pos ⟨by omega, by omega⟩]
                    simp only [Int.toNat_natCast, hx]
                  have d1 : decide ((E : Int) < (t.size : Int)) = true := decide_eq_true (by omega)
                  have d1n : decide (E < t.size) = true := decide_eq_true hElt
                  by_cases h59 : x = 59
                  · have e59 : ((x.toNat : Int) != 59) = false := by rw [h59]; rfl
                    have e59b : ((x.toNat : Int) == 59) = true := by rw [h59]; rfl
                    rw [h59] at hxj
                    have hN10 : (t.extract (k + 2) E).data.toList = pq.take j := by rw [HCUT.out, bs_data, HPD.out]; congr 1; omega
                    have hNz : (t.extract (k + 2) E).size ≤ 1000000000000 := by
                      show (t.extract (k + 2) E).data.toList.length ≤ _
                      rw [hN10, List.length_take]; omega
                    have HN10 := Lib.hid (fun W => (hN10 ▸ number10_any (t.extract (k + 2) E) hNz W : Calls Tryz.prog 40 #[.string (t.extract (k + 2) E), .int .i64 10, .int .i64 7] W (RVal (.int .i64 (refN 10 7 (pq.take j))) W)))
                    generalize hE1 : t.extract (k + 2) E = E1 at HN10
                    have HE1 := Lib.hid hE1
                    have hpp : ∃ y, pq.head? = some y := by cases pq with | nil => simp at hjl2 | cons a b => exact ⟨a, rfl⟩
                    obtain ⟨y, hy⟩ := hpp
                    have hy0 : t[k + 2]'(by omega) = y := by
                      obtain ⟨h6, h7⟩ := HIDX.out 0 (by omega)
                      rw [← List.head?_eq_getElem?, hy] at h7
                      exact (Option.some.inj h7).symm
                    have hix2 : ∀ W : World, (Instr.index 9 (.string t) (.int .i64 ((k : Int) + 2))).run Tryz.prog W = .ok (.int .u8 (y.toNat : Int)) W := by
                      intro W
                      rw [run_index_string W 9 t .i64 ((k : Int) + 2) Tryz.underlying9, dif_pos ⟨by omega, by omega⟩]
                      simp only [show ((k : Int) + 2).toNat = k + 2 by omega, hy0]
                    have bA : (0 : Int) ≤ (k : Int) + 2 := by omega
                    have bB : (k : Int) + 2 ≤ (E : Int) := by omega
                    have bC : (E : Int) ≤ (t.size : Int) := by omega
                    have hk2 : ((k : Int) + 2).toNat = k + 2 := by omega
                    have HXJ := Lib.hid hxj
                    have HY := Lib.hid hy
                    have hwE : IntKind.i64.wrap ((E : Int) + 1) = (E : Int) + 1 := IntWalk.i64_in _ (by omega)
                    have hwEk : IntKind.i64.wrap ((E : Int) + 1 - (k : Int)) = ((j + 3 : Nat) : Int) := by rw [IntWalk.i64_in _ (by omega)]; omega
                    clear hxj hy hy0 hN10 hNz hx hxE h59 hgo
                    by_cases hxx : y = 120
                    · have e120 : ((y.toNat : Int) == 120) = true := by rw [hxx]; rfl
                      have hj1 : 1 ≤ j := by
                        rcases Nat.eq_zero_or_pos j with rfl | h
                        · have h6 := HXJ.out
                          rw [← List.head?_eq_getElem?, HY.out, hxx] at h6
                          cases h6
                        · exact h
                      have hN16 : (t.extract (k + 3) E).data.toList = (pq.drop 1).take (j - 1) := by
                        rw [HCUT.out, bs_data, ← HPD.out, List.drop_drop]; congr 1; omega
                      have hNz : (t.extract (k + 3) E).size ≤ 1000000000000 := by
                        show (t.extract (k + 3) E).data.toList.length ≤ _
                        rw [hN16, List.length_take, List.length_drop]; omega
                      have HN16 := Lib.hid (fun W => (hN16 ▸ number16_any (t.extract (k + 3) E) hNz W : Calls Tryz.prog 40 #[.string (t.extract (k + 3) E), .int .i64 16, .int .i64 6] W (RVal (.int .i64 (refN 16 6 ((pq.drop 1).take (j - 1)))) W)))
                      generalize hE2 : t.extract (k + 3) E = E2 at HN16
                      have HE2 := Lib.hid hE2
                      have hw3 : IntKind.i64.wrap ((k : Int) + 3) = (k : Int) + 3 := IntWalk.i64_in _ (by omega)
                      have bD : (0 : Int) ≤ (k : Int) + 3 := by omega
                      have bE : (k : Int) + 3 ≤ (E : Int) := by omega
                      have hk3 : ((k : Int) + 3).toNat = k + 3 := by omega
                      obtain ⟨z, hz⟩ : ∃ z, refN 16 6 ((pq.drop 1).take (j - 1)) = z := ⟨_, rfl⟩
                      rw [hz] at HN16
                      have hzn : numR pq j = z := by unfold numR; rw [if_pos (by rw [HY.out, hxx]), hz]
                      obtain ⟨z1, hz1⟩ : ∃ z, refN 10 7 (pq.take j) = z := ⟨_, rfl⟩
                      rw [hz1] at HN10
                      have HZN := Lib.hid hzn
                      have hzb := refN_bound 16 6 ((pq.drop 1).take (j - 1))
                      rw [hz] at hzb
                      clear hz hzn hz1 hxx hN16 hNz
                      go_wp2_with (go_at_call 40; refine (HN10.out _).mono ?_)
                      rintro e w3 ⟨rfl, x3⟩
                      have X3 := Lib.hid (X2.out.trans x3)
                      clear x3
                      go_wp2_with (go_at_call 40; refine (HN16.out _).mono ?_)
                      rintro e w4 ⟨rfl, x4⟩
                      have X4 := Lib.hid (X3.out.trans x4)
                      clear x4
                      by_cases hz0 : 0 < z
                      · obtain ⟨zn, rfl⟩ : ∃ zn : Nat, z = (zn : Int) := ⟨z.toNat, by omega⟩
                        have hz0d : decide ((0 : Int) < (zn : Int)) = true := decide_eq_true hz0
                        have hz0n : decide (0 < zn) = true := decide_eq_true (by omega)
                        have HST : Hid (stepR (c :: q) = ((Utf8.encode (zn : Int)).data.toList, j + 3)) := Lib.hid (by
                          unfold stepR
                          rw [HPQ.out, HMJ.out, HZN.out, if_pos ⟨HT2.out, HXJ.out, hz0⟩])
                        have hcv1 : ∀ W : World, (Go.convert 3 21 (.int .i64 (zn : Int))).run Tryz.prog W = .ok (.int .i32 (zn : Int)) W := by
                          intro W
                          have : IntKind.i32.wrap (zn : Int) = (zn : Int) := IntWalk.i32_in _ (by omega)
                          simp [convert, run_underlying Tryz.underlying3, run_underlying Tryz.underlying21, Conv.intToInt, this]
                        have hcv : ∀ W : World, (Go.convert 21 9 (.int .i32 (zn : Int))).run Tryz.prog W = .ok (.string (bs (Utf8.encode (zn : Int)).data.toList)) W := by
                          intro W
                          rw [bs_list]
                          simp [convert, run_underlying Tryz.underlying21, run_underlying Tryz.underlying9, Conv.intToString]
                        obtain ⟨x9, hx9⟩ : ∃ x, (Utf8.encode (zn : Int)).data.toList = x := ⟨_, rfl⟩
                        obtain ⟨n9, hn9⟩ : ∃ n, j + 3 = n := ⟨_, rfl⟩
                        rw [hx9, hn9] at HST
                        rw [hx9] at hcv
                        rw [hn9] at hwEk
                        clear hx9 hn9 hp6 hz0 HNR
                        have HSPP := HSP.out
                        rw [HST.out] at HSPP
                        dsimp only at HSPP
                        have HNX := Lib.hid (HSTEP.out x9 n9 HST.out)
                        have hp1 : 1 ≤ n9 := HSPP.1
                        have hp2 : n9 ≤ t.size - k := HSPP.2.1
                        have HX4 := Lib.hid HSPP.2.2
                        clear HSPP
                        obtain ⟨acc2, ha2⟩ : ∃ a, acc ++ (bs x9).data.toList = a := ⟨_, rfl⟩
                        rw [ha2] at HNX
                        have HA2 := Lib.hid ha2
                        have hlen : acc.length + (bs x9).size ≤ 140737488355328 := by rw [bs_size]; have := HLA.out; have := HX4.out; omega
                        have HLEN := Lib.hid hlen
                        have HB4 := Lib.hid (HBR.out.ext X4.out)
                        have HN4 := Lib.hid (X4.out.block HN.out)
                        have HM4 := Lib.hid (X4.out.block HM.out)
                        have hwn : IntKind.i64.wrap ((k : Int) + (n9 : Int)) = (k : Int) + (n9 : Int) := IntWalk.i64_in _ (by omega)
                        clear ha2 hlen
                        go_wp2_with (at_builtin; refine wpB_text2 rfl _ _ rfl (.slice (some ⟨g, 0, none⟩) acc.length cap) acc rfl w1 HB4.out (bs x9) rfl HLEN.out acc2 HA2.out ?_)
                        intro v' w' hb' ho'
                        obtain ⟨g', cap', _, _, rfl, _, _, _⟩ := hb'.at
                        obtain ⟨o1, o2, o3⟩ := ho' g acc.length cap rfl
                        have HO3 := Lib.hid (o3 g' _ _ rfl)
                        have HN5 := Lib.hid ((o1 G1 (Array.getElem?_eq_some_iff.1 HN4.out).1 (Ne.symm HG.out.1)).trans HN4.out)
                        have HM5 := Lib.hid ((o1 G2 (Array.getElem?_eq_some_iff.1 HM4.out).1 (Ne.symm HG.out.2)).trans HM4.out)
                        have HLT := Lib.hid (And.intro (Array.getElem?_eq_some_iff.1 HN4.out).1 (Array.getElem?_eq_some_iff.1 HM4.out).1)
                        have HB' := Lib.hid hb'
                        clear hb' ho' o1 o2 o3
                        go_wp2_with fail
                        go_roundw
                        case rel => exact ⟨k + n9, acc2, by omega, by first | rfl | go_num | (push_cast; rfl), ⟨g', cap', rfl, by have := HO3.out; have := HLT.out; have := HG.out; omega, by have := HO3.out; have := HLT.out; have := HG.out; omega⟩, HB'.out, HNX.out, HN5.out, HM5.out⟩
                        case measure => simp [intOf]; omega
                      · have hz0d : decide (0 < z) = false := decide_eq_false hz0
                        have HST : Hid (stepR (c :: q) = p) := Lib.hid (by
                          unfold stepR
                          rw [HPQ.out, HMJ.out, HZN.out, if_neg, ← HNR.out]
                          rintro ⟨_, _, h6⟩
                          exact hz0 h6)
                        clear hz0
                        obtain ⟨x9, n9⟩ := p
                        have HSPP := HSP.out
                        rw [HST.out] at HSPP
                        dsimp only at HSPP
                        have HNX := Lib.hid (HSTEP.out x9 n9 HST.out)
                        have hp1 : 1 ≤ n9 := HSPP.1
                        have hp2 : n9 ≤ t.size - k := HSPP.2.1
                        have HX4 := Lib.hid HSPP.2.2
                        clear HSPP
                        obtain ⟨acc2, ha2⟩ : ∃ a, acc ++ (bs x9).data.toList = a := ⟨_, rfl⟩
                        rw [ha2] at HNX
                        have HA2 := Lib.hid ha2
                        have hlen : acc.length + (bs x9).size ≤ 140737488355328 := by rw [bs_size]; have := HLA.out; have := HX4.out; omega
                        have HLEN := Lib.hid hlen
                        have HB4 := Lib.hid (HBR.out.ext X4.out)
                        have HN4 := Lib.hid (X4.out.block HN.out)
                        have HM4 := Lib.hid (X4.out.block HM.out)
                        have hwn : IntKind.i64.wrap ((k : Int) + (n9 : Int)) = (k : Int) + (n9 : Int) := IntWalk.i64_in _ (by omega)
                        clear ha2 hlen
                        go_wp2_with (at_builtin; refine wpB_text2 rfl _ _ rfl (.slice (some ⟨g, 0, none⟩) acc.length cap) acc rfl w1 HB4.out (bs x9) rfl HLEN.out acc2 HA2.out ?_)
                        intro v' w' hb' ho'
                        obtain ⟨g', cap', _, _, rfl, _, _, _⟩ := hb'.at
                        obtain ⟨o1, o2, o3⟩ := ho' g acc.length cap rfl
                        have HO3 := Lib.hid (o3 g' _ _ rfl)
                        have HN5 := Lib.hid ((o1 G1 (Array.getElem?_eq_some_iff.1 HN4.out).1 (Ne.symm HG.out.1)).trans HN4.out)
                        have HM5 := Lib.hid ((o1 G2 (Array.getElem?_eq_some_iff.1 HM4.out).1 (Ne.symm HG.out.2)).trans HM4.out)
                        have HLT := Lib.hid (And.intro (Array.getElem?_eq_some_iff.1 HN4.out).1 (Array.getElem?_eq_some_iff.1 HM4.out).1)
                        have HB' := Lib.hid hb'
                        clear hb' ho' o1 o2 o3
                        go_wp2_with fail
                        go_roundw
                        case rel => exact ⟨k + n9, acc2, by omega, by first | rfl | go_num | (push_cast; rfl), ⟨g', cap', rfl, by have := HO3.out; have := HLT.out; have := HG.out; omega, by have := HO3.out; have := HLT.out; have := HG.out; omega⟩, HB'.out, HNX.out, HN5.out, HM5.out⟩
                        case measure => simp [intOf]; omega
                    · have e120 : ((y.toNat : Int) == 120) = false := by rw [beq_eq_false_iff_ne]; intro h; exact hxx (UInt8.toNat_inj.1 (by have : (120 : UInt8).toNat = 120 := rfl; omega))
                      obtain ⟨z, hz⟩ : ∃ z, refN 10 7 (pq.take j) = z := ⟨_, rfl⟩
                      rw [hz] at HN10
                      have hzn : numR pq j = z := by unfold numR; rw [if_neg (by rw [HY.out]; intro h; exact hxx (Option.some.inj h)), hz]
                      have HZN := Lib.hid hzn
                      have hzb := refN_bound 10 7 (pq.take j)
                      rw [hz] at hzb
                      clear hz hzn hxx
                      go_wp2_with (go_at_call 40; refine (HN10.out _).mono ?_)
                      rintro e w4 ⟨rfl, x4⟩
                      have X4 := Lib.hid (X2.out.trans x4)
                      clear x4
                      by_cases hz0 : 0 < z
                      · obtain ⟨zn, rfl⟩ : ∃ zn : Nat, z = (zn : Int) := ⟨z.toNat, by omega⟩
                        have hz0d : decide ((0 : Int) < (zn : Int)) = true := decide_eq_true hz0
                        have hz0n : decide (0 < zn) = true := decide_eq_true (by omega)
                        have HST : Hid (stepR (c :: q) = ((Utf8.encode (zn : Int)).data.toList, j + 3)) := Lib.hid (by
                          unfold stepR
                          rw [HPQ.out, HMJ.out, HZN.out, if_pos ⟨HT2.out, HXJ.out, hz0⟩])
                        have hcv1 : ∀ W : World, (Go.convert 3 21 (.int .i64 (zn : Int))).run Tryz.prog W = .ok (.int .i32 (zn : Int)) W := by
                          intro W
                          have : IntKind.i32.wrap (zn : Int) = (zn : Int) := IntWalk.i32_in _ (by omega)
                          simp [convert, run_underlying Tryz.underlying3, run_underlying Tryz.underlying21, Conv.intToInt, this]
                        have hcv : ∀ W : World, (Go.convert 21 9 (.int .i32 (zn : Int))).run Tryz.prog W = .ok (.string (bs (Utf8.encode (zn : Int)).data.toList)) W := by
                          intro W
                          rw [bs_list]
                          simp [convert, run_underlying Tryz.underlying21, run_underlying Tryz.underlying9, Conv.intToString]
                        obtain ⟨x9, hx9⟩ : ∃ x, (Utf8.encode (zn : Int)).data.toList = x := ⟨_, rfl⟩
                        obtain ⟨n9, hn9⟩ : ∃ n, j + 3 = n := ⟨_, rfl⟩
                        rw [hx9, hn9] at HST
                        rw [hx9] at hcv
                        rw [hn9] at hwEk
                        clear hx9 hn9 hp6 hz0 HNR
                        have HSPP := HSP.out
                        rw [HST.out] at HSPP
                        dsimp only at HSPP
                        have HNX := Lib.hid (HSTEP.out x9 n9 HST.out)
                        have hp1 : 1 ≤ n9 := HSPP.1
                        have hp2 : n9 ≤ t.size - k := HSPP.2.1
                        have HX4 := Lib.hid HSPP.2.2
                        clear HSPP
                        obtain ⟨acc2, ha2⟩ : ∃ a, acc ++ (bs x9).data.toList = a := ⟨_, rfl⟩
                        rw [ha2] at HNX
                        have HA2 := Lib.hid ha2
                        have hlen : acc.length + (bs x9).size ≤ 140737488355328 := by rw [bs_size]; have := HLA.out; have := HX4.out; omega
                        have HLEN := Lib.hid hlen
                        have HB4 := Lib.hid (HBR.out.ext X4.out)
                        have HN4 := Lib.hid (X4.out.block HN.out)
                        have HM4 := Lib.hid (X4.out.block HM.out)
                        have hwn : IntKind.i64.wrap ((k : Int) + (n9 : Int)) = (k : Int) + (n9 : Int) := IntWalk.i64_in _ (by omega)
                        clear ha2 hlen
                        go_wp2_with (at_builtin; refine wpB_text2 rfl _ _ rfl (.slice (some ⟨g, 0, none⟩) acc.length cap) acc rfl w1 HB4.out (bs x9) rfl HLEN.out acc2 HA2.out ?_)
                        intro v' w' hb' ho'
                        obtain ⟨g', cap', _, _, rfl, _, _, _⟩ := hb'.at
                        obtain ⟨o1, o2, o3⟩ := ho' g acc.length cap rfl
                        have HO3 := Lib.hid (o3 g' _ _ rfl)
                        have HN5 := Lib.hid ((o1 G1 (Array.getElem?_eq_some_iff.1 HN4.out).1 (Ne.symm HG.out.1)).trans HN4.out)
                        have HM5 := Lib.hid ((o1 G2 (Array.getElem?_eq_some_iff.1 HM4.out).1 (Ne.symm HG.out.2)).trans HM4.out)
                        have HLT := Lib.hid (And.intro (Array.getElem?_eq_some_iff.1 HN4.out).1 (Array.getElem?_eq_some_iff.1 HM4.out).1)
                        have HB' := Lib.hid hb'
                        clear hb' ho' o1 o2 o3
                        go_wp2_with fail
                        go_roundw
                        case rel => exact ⟨k + n9, acc2, by omega, by first | rfl | go_num | (push_cast; rfl), ⟨g', cap', rfl, by have := HO3.out; have := HLT.out; have := HG.out; omega, by have := HO3.out; have := HLT.out; have := HG.out; omega⟩, HB'.out, HNX.out, HN5.out, HM5.out⟩
                        case measure => simp [intOf]; omega
                      · have hz0d : decide (0 < z) = false := decide_eq_false hz0
                        have HST : Hid (stepR (c :: q) = p) := Lib.hid (by
                          unfold stepR
                          rw [HPQ.out, HMJ.out, HZN.out, if_neg, ← HNR.out]
                          rintro ⟨_, _, h6⟩
                          exact hz0 h6)
                        clear hz0
                        obtain ⟨x9, n9⟩ := p
                        have HSPP := HSP.out
                        rw [HST.out] at HSPP
                        dsimp only at HSPP
                        have HNX := Lib.hid (HSTEP.out x9 n9 HST.out)
                        have hp1 : 1 ≤ n9 := HSPP.1
                        have hp2 : n9 ≤ t.size - k := HSPP.2.1
                        have HX4 := Lib.hid HSPP.2.2
                        clear HSPP
                        obtain ⟨acc2, ha2⟩ : ∃ a, acc ++ (bs x9).data.toList = a := ⟨_, rfl⟩
                        rw [ha2] at HNX
                        have HA2 := Lib.hid ha2
                        have hlen : acc.length + (bs x9).size ≤ 140737488355328 := by rw [bs_size]; have := HLA.out; have := HX4.out; omega
                        have HLEN := Lib.hid hlen
                        have HB4 := Lib.hid (HBR.out.ext X4.out)
                        have HN4 := Lib.hid (X4.out.block HN.out)
                        have HM4 := Lib.hid (X4.out.block HM.out)
                        have hwn : IntKind.i64.wrap ((k : Int) + (n9 : Int)) = (k : Int) + (n9 : Int) := IntWalk.i64_in _ (by omega)
                        clear ha2 hlen
                        go_wp2_with (at_builtin; refine wpB_text2 rfl _ _ rfl (.slice (some ⟨g, 0, none⟩) acc.length cap) acc rfl w1 HB4.out (bs x9) rfl HLEN.out acc2 HA2.out ?_)
                        intro v' w' hb' ho'
                        obtain ⟨g', cap', _, _, rfl, _, _, _⟩ := hb'.at
                        obtain ⟨o1, o2, o3⟩ := ho' g acc.length cap rfl
                        have HO3 := Lib.hid (o3 g' _ _ rfl)
                        have HN5 := Lib.hid ((o1 G1 (Array.getElem?_eq_some_iff.1 HN4.out).1 (Ne.symm HG.out.1)).trans HN4.out)
                        have HM5 := Lib.hid ((o1 G2 (Array.getElem?_eq_some_iff.1 HM4.out).1 (Ne.symm HG.out.2)).trans HM4.out)
                        have HLT := Lib.hid (And.intro (Array.getElem?_eq_some_iff.1 HN4.out).1 (Array.getElem?_eq_some_iff.1 HM4.out).1)
                        have HB' := Lib.hid hb'
                        clear hb' ho' o1 o2 o3
                        go_wp2_with fail
                        go_roundw
                        case rel => exact ⟨k + n9, acc2, by omega, by first | rfl | go_num | (push_cast; rfl), ⟨g', cap', rfl, by have := HO3.out; have := HLT.out; have := HG.out; omega, by have := HO3.out; have := HLT.out; have := HG.out; omega⟩, HB'.out, HNX.out, HN5.out, HM5.out⟩
                        case measure => simp [intOf]; omega
                  · have e59 : ((x.toNat : Int) != 59) = true := by rw [bne_iff_ne]; intro h; exact h59 (UInt8.toNat_inj.1 (by have : (59 : UInt8).toNat = 59 := rfl; omega))
                    have e59b : ((x.toNat : Int) == 59) = false := by rw [beq_eq_false_iff_ne]; intro h; exact h59 (UInt8.toNat_inj.1 (by have : (59 : UInt8).toNat = 59 := rfl; omega))
                    have hj10' : j = 10 := by
                      rcases Nat.lt_or_ge j 10 with h | h
                      · exact absurd ⟨x, hxj, h59, h⟩ hgo
                      · omega
                    have d2 : decide ((E : Int) < (k : Int) + 12) = false := decide_eq_false (by omega)
                    have HST : Hid (stepR (c :: q) = p) := Lib.hid (by
                      unfold stepR
                      rw [HPQ.out, HMJ.out, if_neg, ← HNR.out]
                      rintro ⟨_, h6, _⟩
                      rw [hxj] at h6
                      exact h59 (Option.some.inj h6))
                    have X4 := X2
                    clear hxj hx hxE h59 hgo hj10'
                    obtain ⟨x9, n9⟩ := p
                    have HSPP := HSP.out
                    rw [HST.out] at HSPP
                    dsimp only at HSPP
                    have HNX := Lib.hid (HSTEP.out x9 n9 HST.out)
                    have hp1 : 1 ≤ n9 := HSPP.1
                    have hp2 : n9 ≤ t.size - k := HSPP.2.1
                    have HX4 := Lib.hid HSPP.2.2
                    clear HSPP
                    obtain ⟨acc2, ha2⟩ : ∃ a, acc ++ (bs x9).data.toList = a := ⟨_, rfl⟩
                    rw [ha2] at HNX
                    have HA2 := Lib.hid ha2
                    have hlen : acc.length + (bs x9).size ≤ 140737488355328 := by rw [bs_size]; have := HLA.out; have := HX4.out; omega
                    have HLEN := Lib.hid hlen
                    have HB4 := Lib.hid (HBR.out.ext X4.out)
                    have HN4 := Lib.hid (X4.out.block HN.out)
                    have HM4 := Lib.hid (X4.out.block HM.out)
                    have hwn : IntKind.i64.wrap ((k : Int) + (n9 : Int)) = (k : Int) + (n9 : Int) := IntWalk.i64_in _ (by omega)
                    clear ha2 hlen
                    go_wp2_with (at_builtin; refine wpB_text2 rfl _ _ rfl (.slice (some ⟨g, 0, none⟩) acc.length cap) acc rfl w1 HB4.out (bs x9) rfl HLEN.out acc2 HA2.out ?_)
                    intro v' w' hb' ho'
                    obtain ⟨g', cap', _, _, rfl, _, _, _⟩ := hb'.at
                    obtain ⟨o1, o2, o3⟩ := ho' g acc.length cap rfl
                    have HO3 := Lib.hid (o3 g' _ _ rfl)
                    have HN5 := Lib.hid ((o1 G1 (Array.getElem?_eq_some_iff.1 HN4.out).1 (Ne.symm HG.out.1)).trans HN4.out)
                    have HM5 := Lib.hid ((o1 G2 (Array.getElem?_eq_some_iff.1 HM4.out).1 (Ne.symm HG.out.2)).trans HM4.out)
                    have HLT := Lib.hid (And.intro (Array.getElem?_eq_some_iff.1 HN4.out).1 (Array.getElem?_eq_some_iff.1 HM4.out).1)
                    have HB' := Lib.hid hb'
                    clear hb' ho' o1 o2 o3
                    go_wp2_with fail
                    go_roundw
                    case rel => exact ⟨k + n9, acc2, by omega, by first | rfl | go_num | (push_cast; rfl), ⟨g', cap', rfl, by have := HO3.out; have := HLT.out; have := HG.out; omega, by have := HO3.out; have := HLT.out; have := HG.out; omega⟩, HB'.out, HNX.out, HN5.out, HM5.out⟩
                    case measure => simp [intOf]; omega
                · have d1 : decide ((E : Int) < (t.size : Int)) = false := decide_eq_false (by omega)
                  have d1n : decide (E < t.size) = false := decide_eq_false (by omega)
                  have HST : Hid (stepR (c :: q) = p) := Lib.hid (by
                    unfold stepR
                    rw [HPQ.out, HMJ.out, if_neg, ← HNR.out]
                    rintro ⟨_, h6, _⟩
                    exact hjl2 (List.getElem?_eq_some_iff.1 h6).1)
                  have X4 := X2
                  clear hgo
                  obtain ⟨x9, n9⟩ := p
                  have HSPP := HSP.out
                  rw [HST.out] at HSPP
                  dsimp only at HSPP
                  have HNX := Lib.hid (HSTEP.out x9 n9 HST.out)
                  have hp1 : 1 ≤ n9 := HSPP.1
                  have hp2 : n9 ≤ t.size - k := HSPP.2.1
                  have HX4 := Lib.hid HSPP.2.2
                  clear HSPP
                  obtain ⟨acc2, ha2⟩ : ∃ a, acc ++ (bs x9).data.toList = a := ⟨_, rfl⟩
                  rw [ha2] at HNX
                  have HA2 := Lib.hid ha2
                  have hlen : acc.length + (bs x9).size ≤ 140737488355328 := by rw [bs_size]; have := HLA.out; have := HX4.out; omega
                  have HLEN := Lib.hid hlen
                  have HB4 := Lib.hid (HBR.out.ext X4.out)
                  have HN4 := Lib.hid (X4.out.block HN.out)
                  have HM4 := Lib.hid (X4.out.block HM.out)
                  have hwn : IntKind.i64.wrap ((k : Int) + (n9 : Int)) = (k : Int) + (n9 : Int) := IntWalk.i64_in _ (by omega)
                  clear ha2 hlen
                  go_wp2_with (at_builtin; refine wpB_text2 rfl _ _ rfl (.slice (some ⟨g, 0, none⟩) acc.length cap) acc rfl w1 HB4.out (bs x9) rfl HLEN.out acc2 HA2.out ?_)
                  intro v' w' hb' ho'
                  obtain ⟨g', cap', _, _, rfl, _, _, _⟩ := hb'.at
                  obtain ⟨o1, o2, o3⟩ := ho' g acc.length cap rfl
                  have HO3 := Lib.hid (o3 g' _ _ rfl)
                  have HN5 := Lib.hid ((o1 G1 (Array.getElem?_eq_some_iff.1 HN4.out).1 (Ne.symm HG.out.1)).trans HN4.out)
                  have HM5 := Lib.hid ((o1 G2 (Array.getElem?_eq_some_iff.1 HM4.out).1 (Ne.symm HG.out.2)).trans HM4.out)
                  have HLT := Lib.hid (And.intro (Array.getElem?_eq_some_iff.1 HN4.out).1 (Array.getElem?_eq_some_iff.1 HM4.out).1)
                  have HB' := Lib.hid hb'
                  clear hb' ho' o1 o2 o3
                  go_wp2_with fail
                  go_roundw
                  case rel => exact ⟨k + n9, acc2, by omega, by first | rfl | go_num | (push_cast; rfl), ⟨g', cap', rfl, by have := HO3.out; have := HLT.out; have := HG.out; omega, by have := HO3.out; have := HLT.out; have := HG.out; omega⟩, HB'.out, HNX.out, HN5.out, HM5.out⟩
                  case measure => simp [intOf]; omega
          · rw [decide_eq_false h2] at HBG
            have HST : Hid (stepR (c :: q) = p) := Lib.hid (by
              unfold stepR
              rw [if_neg (fun h => h2 h.1), ← HNR.out])
            clear h2
            go_wp2_with (go_at_call 33; refine (HBG.out _).mono ?_)
            rintro e w2 ⟨rfl, x2⟩
            have X4 := Lib.hid (XI.out.trans x2)
            clear x2
            obtain ⟨x9, n9⟩ := p
            have HSPP := HSP.out
            rw [HST.out] at HSPP
            dsimp only at HSPP
            have HNX := Lib.hid (HSTEP.out x9 n9 HST.out)
            have hp1 : 1 ≤ n9 := HSPP.1
            have hp2 : n9 ≤ t.size - k := HSPP.2.1
            have HX4 := Lib.hid HSPP.2.2
            clear HSPP
            obtain ⟨acc2, ha2⟩ : ∃ a, acc ++ (bs x9).data.toList = a := ⟨_, rfl⟩
            rw [ha2] at HNX
            have HA2 := Lib.hid ha2
            have hlen : acc.length + (bs x9).size ≤ 140737488355328 := by rw [bs_size]; have := HLA.out; have := HX4.out; omega
            have HLEN := Lib.hid hlen
            have HB4 := Lib.hid (HBR.out.ext X4.out)
            have HN4 := Lib.hid (X4.out.block HN.out)
            have HM4 := Lib.hid (X4.out.block HM.out)
            have hwn : IntKind.i64.wrap ((k : Int) + (n9 : Int)) = (k : Int) + (n9 : Int) := IntWalk.i64_in _ (by omega)
            clear ha2 hlen
            go_wp2_with (at_builtin; refine wpB_text2 rfl _ _ rfl (.slice (some ⟨g, 0, none⟩) acc.length cap) acc rfl w1 HB4.out (bs x9) rfl HLEN.out acc2 HA2.out ?_)
            intro v' w' hb' ho'
            obtain ⟨g', cap', _, _, rfl, _, _, _⟩ := hb'.at
            obtain ⟨o1, o2, o3⟩ := ho' g acc.length cap rfl
            have HO3 := Lib.hid (o3 g' _ _ rfl)
            have HN5 := Lib.hid ((o1 G1 (Array.getElem?_eq_some_iff.1 HN4.out).1 (Ne.symm HG.out.1)).trans HN4.out)
            have HM5 := Lib.hid ((o1 G2 (Array.getElem?_eq_some_iff.1 HM4.out).1 (Ne.symm HG.out.2)).trans HM4.out)
            have HLT := Lib.hid (And.intro (Array.getElem?_eq_some_iff.1 HN4.out).1 (Array.getElem?_eq_some_iff.1 HM4.out).1)
            have HB' := Lib.hid hb'
            clear hb' ho' o1 o2 o3
            go_wp2_with fail
            go_roundw
            case rel => exact ⟨k + n9, acc2, by omega, by first | rfl | go_num | (push_cast; rfl), ⟨g', cap', rfl, by have := HO3.out; have := HLT.out; have := HG.out; omega, by have := HO3.out; have := HLT.out; have := HG.out; omega⟩, HB'.out, HNX.out, HN5.out, HM5.out⟩
            case measure => simp [intOf]; omega
    · obtain rfl : k = t.size := by omega
      have hfin : acc = out := by
        have h := HACC.out
        rw [List.drop_eq_nil_of_le (by have := HZ.out; omega), decL_nil, List.append_nil] at h
        exact h
      have HFIN := Lib.hid hfin
      have HCV := Lib.hid (show (Go.convert 42 9 (.slice (some ⟨g, 0, none⟩) acc.length cap)).run Tryz.prog wr = .ok (.string (bs out)) wr by have h := run_ofBytes HBR.out; rw [h, HFIN.out])
      clear hfin
      go_wp2_with fail
      rw [HCV.out]
      go_wp2_with fail
      go_ret
      exact ⟨rfl, X1.out.trans HBR.out.ex⟩
end Go.Proofs.YtdafdoodegpdhaaGreatDoor
