/- LexAll: the lexer's tokens beside the document's. Conditions: none. -/
import Derived.Test.YtdafdoodegpdhaaGreatDoorNF
namespace Go.Proofs.YtdafdoodegpdhaaGreatDoor
open Go Go.RowKit Go.BigFrame
set_option linter.unusedVariables false
set_option linter.unusedSimpArgs false

theorem lexL_attrs (N : Nat) : ∀ (n : Nat) (r raw : List UInt8) (a b : Nat), r.length ≤ n → ∀ t ∈ lexL N raw a b r, t.attrs.length ≤ r.length := by
  have hfl : ∀ raw a b, ∀ t ∈ flushT raw a b, t.attrs.length = 0 := by
    intro raw a b t ht
    unfold flushT at ht
    split at ht
    · cases ht
    · rw [List.mem_singleton.1 ht]; rfl
  intro n
  induction n with
  | zero =>
    intro r raw a b hn t ht
    obtain rfl : r = [] := List.eq_nil_of_length_eq_zero (by omega)
    rw [lexL_nil] at ht
    rw [hfl _ _ _ t ht]; exact Nat.zero_le _
  | succ n ih =>
    intro r raw a b hn t ht
    cases r with
    | nil => rw [lexL_nil] at ht; rw [hfl _ _ _ t ht]; exact Nat.zero_le _
    | cons c q =>
      simp only [List.length_cons] at hn ⊢
      have hch : (c ≠ 60 ∨ noteL (c :: q) = none ∧ tagL N (c :: q) = none) → t.attrs.length ≤ q.length + 1 := by
        intro h
        rw [lexL_char h] at ht
        have := ih q _ _ _ (by omega) t ht
        omega
      by_cases hc : c = 60
      · subst hc
        cases hno : noteL (60 :: q) with
        | some e =>
          rw [lexL_note hno] at ht
          have h2 := (noteL_suf hno).2
          simp only [List.length_cons] at h2
          have := ih e raw a b (by omega) t ht
          omega
        | none =>
          cases hta : tagL N (60 :: q) with
          | none => exact hch (.inr ⟨hno, hta⟩)
          | some te =>
            obtain ⟨tk, e⟩ := te
            rw [lexL_tag hno hta] at ht
            have h2 := (tagL_len hta).2
            simp only [List.length_cons] at h2
            rcases List.mem_append.1 ht with h | h
            · rw [hfl _ _ _ t h]; exact Nat.zero_le _
            · rcases List.mem_cons.1 h with rfl | h
              · have := (tagL_hi hta).2
                simpa using this
              · have := ih e [] a b (by omega) t h
                omega
      · exact hch (.inl hc)
theorem tokens_attrs (l : List UInt8) : ∀ t ∈ tokens l, t.attrs.length ≤ l.length := by
  intro t ht
  obtain ⟨x, hx, rfl⟩ := List.mem_map.1 ht
  have := lexL_attrs _ _ l [] 0 0 (Nat.le_refl _) x hx
  unfold Tk.fin
  split <;> exact this
/-- both answers of All, of any length -/
def toksOf (t : ByteArray) : List Tk := if 8192 < t.size then [] else tokens t.data.toList
theorem toksOf_attrs (t : ByteArray) : ∀ x ∈ toksOf t, x.attrs.length ≤ 8192 := by
  intro x hx
  unfold toksOf at hx
  split at hx
  · cases hx
  · have h := tokens_attrs _ x hx
    have : t.data.toList.length = t.size := rfl
    omega
theorem toksOf_len (t : ByteArray) : (toksOf t).length ≤ 8192 := by
  unfold toksOf
  split
  · exact Nat.zero_le _
  · have h := (lexL_small t.data.toList.length t.data.toList.length t.data.toList [] 0 0 (Nat.le_refl _)).2
    have : t.data.toList.length = t.size := rfl
    unfold tokens
    rw [List.length_map]
    rw [if_pos rfl] at h
    omega
theorem RAll.any {t : ByteArray} {w : World} {e : Ending} {w' : World} (h : RAll t w e w') : ∃ v, e = .returned (.tuple #[v, .int .i64 (if 8192 < t.size then 10 else 0)]) ∧ Ext w w' ∧ TkRd w' v (toksOf t) := by
  unfold toksOf
  rcases h with ⟨h1, h2, h3⟩ | ⟨h1, v, h2, h3, h4⟩
  · rw [if_pos h1, if_pos h1]
    exact ⟨_, h2, h3, [], rfl, ⟨rfl, .inl ⟨rfl, none, rfl⟩⟩, fun p hp => by cases hp⟩
  · rw [if_neg (by omega), if_neg (by omega)]
    exact ⟨v, h2, h3, h4⟩
def tkA (k : Int) (n t : ByteArray) (av : Value) (z lo hi : Int) : Value := .agg #[.int .i64 k, .string n, .string t, av, .int .i64 z, .int .i64 lo, .int .i64 hi]
set_option maxHeartbeats 2000000 in
set_option maxRecDepth 100000 in
theorem Same_eq {w : World} (k : Int) (n t : ByteArray) (z lo hi : Int) (l : List AttrB) (v v' : Value) (hlen : l.length ≤ 60000) (h : RowRd w 2 v l.length (attrCells l)) (h' : RowRd w 2 v' l.length (attrCells l)) :
    Calls Tryz.prog 7 #[tkA k n t v z lo hi, tkA k n t v' z lo hi] w (RBool true w) := by
  have xa := (Ext.refl w).alloc (.cells #[.int .i64 k, .string n, .string t, v, .int .i64 z, .int .i64 lo, .int .i64 hi] 30)
  have ha := heap_alloc_new w (.cells #[.int .i64 k, .string n, .string t, v, .int .i64 z, .int .i64 lo, .int .i64 hi] 30)
  obtain ⟨wa, hwa⟩ : ∃ W : World, W = w.alloc (.cells #[.int .i64 k, .string n, .string t, v, .int .i64 z, .int .i64 lo, .int .i64 hi] 30) := ⟨_, rfl⟩
  rw [← hwa] at xa ha
  have xb := (Ext.refl wa).alloc (.cells #[.int .i64 k, .string n, .string t, v', .int .i64 z, .int .i64 lo, .int .i64 hi] 30)
  have hb := heap_alloc_new wa (.cells #[.int .i64 k, .string n, .string t, v', .int .i64 z, .int .i64 lo, .int .i64 hi] 30)
  have hab := xb.block ha
  obtain ⟨wb, hwb⟩ : ∃ W : World, W = wa.alloc (.cells #[.int .i64 k, .string n, .string t, v', .int .i64 z, .int .i64 lo, .int .i64 hi] 30) := ⟨_, rfl⟩
  rw [← hwb] at xb hb hab
  have HSA := Lib.hid (SameAttrs_any hlen hlen ((h.ext xa).ext xb) ((h'.ext xa).ext xb))
  rw [(same_iff.2 rfl : same l l = true)] at HSA
  have e1 : (n.toList == n.toList) = true := beq_self_eq_true _
  have e2 : (t.toList == t.toList) = true := beq_self_eq_true _
  obtain ⟨ga, hga⟩ : ∃ g, w.heap.size = g := ⟨_, rfl⟩
  obtain ⟨gb, hgb⟩ : ∃ g, wa.heap.size = g := ⟨_, rfl⟩
  rw [hga] at hab
  rw [hgb] at hb
  have HGA := Lib.hid hga
  have HG1 : Hid (ga + 1 = gb) := Lib.hid (by rw [← hga, ← hgb, hwa]; simp)
  have HGB := Lib.hid hgb
  have HWA := Lib.hid hwa
  have HWB := Lib.hid hwb
  have XB := Lib.hid (xa.trans xb)
  have a0 := cellOf hab (i := 0) (v := .int .i64 k) rfl
  have a1 := cellOf hab (i := 1) (v := .string n) rfl
  have a2 := cellOf hab (i := 2) (v := .string t) rfl
  have a3 := cellOf hab (i := 3) (v := v) rfl
  have a4 := cellOf hab (i := 4) (v := .int .i64 z) rfl
  have a5 := cellOf hab (i := 5) (v := .int .i64 lo) rfl
  have a6 := cellOf hab (i := 6) (v := .int .i64 hi) rfl
  have b0 := cellOf hb (i := 0) (v := .int .i64 k) rfl
  have b1 := cellOf hb (i := 1) (v := .string n) rfl
  have b2 := cellOf hb (i := 2) (v := .string t) rfl
  have b3 := cellOf hb (i := 3) (v := v') rfl
  have b4 := cellOf hb (i := 4) (v := .int .i64 z) rfl
  have b5 := cellOf hb (i := 5) (v := .int .i64 lo) rfl
  have b6 := cellOf hb (i := 6) (v := .int .i64 hi) rfl
  clear xa xb ha hb hab hga hgb hwa hwb h h' hlen
  unfold tkA
  go_enter Tryz.func7, Tryz.ntmps7
  go_upto_region 1 with fail
  rw [← HWA.out, ← HWB.out, HGA.out]
  first | rw [HGB.out] | rw [HG1.out]
  go_wp2_with (go_at_call 19; refine HSA.out.mono ?_)
  rintro e w3 ⟨rfl, x3⟩
  go_wp2_with fail
  go_ret
  exact ⟨rfl, XB.out.trans x3⟩
set_option maxHeartbeats 4000000 in
set_option maxRecDepth 100000 in
theorem all_walk (s : ByteArray) (w : World) (hl : LW w) : Calls Tryz.prog 3 #[.string s] w (RBool true w) := by
  have HL := Lib.hid hl
  by_cases h5 : 50000 < s.size
  · have hi : decide ((50000 : Int) < (s.size : Int)) = true := decide_eq_true (by omega)
    have hn : decide (50000 < s.size) = true := decide_eq_true h5
    have HW := Lib.hid (awake_any w hl)
    clear hl h5
    go_enter Tryz.func3, Tryz.ntmps3
    go_wp2_with (go_at_call 4; refine HW.out.mono ?_)
    rintro e w1 ⟨rfl, x1⟩
    go_wp2_with fail
    go_ret
    exact ⟨rfl, x1⟩
  · have hi : decide ((50000 : Int) < (s.size : Int)) = false := decide_eq_false (by omega)
    have hn : decide (50000 < s.size) = false := decide_eq_false h5
    have HA := Lib.hid (All_any s (by omega) w hl)
    have HR := Lib.hid (fun W => rAll_any s (by omega) W)
    have HW := Lib.hid (fun W hW => awake_any W hW)
    have HAT := Lib.hid (toksOf_attrs (anewB s))
    have hlen := toksOf_len (anewB s)
    obtain ⟨z, hz⟩ : ∃ z : Int, (if 8192 < (anewB s).size then 10 else 0) = z := ⟨_, rfl⟩
    obtain ⟨toks, htk⟩ : ∃ l, toksOf (anewB s) = l := ⟨_, rfl⟩
    rw [htk] at HAT hlen
    have HZ := Lib.hid hz
    have HTK := Lib.hid htk
    clear hl h5 hz htk
    go_enter Tryz.func3, Tryz.ntmps3
    go_wp2_with (go_at_call 5; refine HA.out.mono ?_)
    intro e w1 h1
    obtain ⟨v1, rfl, x1, t1⟩ := h1.any
    rw [HZ.out]
    rw [HTK.out] at t1
    have X1 := Lib.hid x1
    have T1 := Lib.hid t1
    obtain ⟨a1, c1, rfl, hc1, hg1⟩ := t1.at
    have HG1 := Lib.hid hg1
    clear h1 t1 x1 hc1 hg1
    go_wp2_with (go_at_call 6; refine (HR.out _).mono ?_)
    intro e w2 h2
    obtain ⟨v2, rfl, x2, t2⟩ := h2.any
    rw [HZ.out]
    rw [HTK.out] at t2
    have X2 := Lib.hid (X1.out.trans x2)
    have XX := Lib.hid x2
    obtain ⟨a2, c2, rfl, hc2, hg2⟩ := t2.at
    have HG2 := Lib.hid hg2
    obtain ⟨n, hn2⟩ : ∃ n, toks.length = n := ⟨_, rfl⟩
    rw [hn2]
    rw [hn2] at hlen
    have HN := Lib.hid hn2
    clear h2 t2 x2 hc2 hg2 hn2 hi hn
    go_wp2_with fail
    go_loopw [7] (fun iv wr => ∃ i : Nat, i ≤ n ∧ iv = .int .i64 i ∧ Ext w2 wr) (fun iv _ => n - (intOf iv).toNat)
    case atStart => exact ⟨0, Nat.zero_le _, rfl, Ext.refl _⟩
    case round =>
      obtain ⟨i, hin, rfl, xr⟩ := hrel
      have XR := Lib.hid xr
      clear xr
      by_cases hlt : i < n
      · obtain ⟨tk, htk⟩ : ∃ x, toks[i]? = some x := ⟨_, List.getElem?_eq_getElem (by rw [HN.out]; exact hlt)⟩
        obtain ⟨g1, rfl, f1⟩ := HG1.out (by rw [HN.out]; omega)
        obtain ⟨g2, rfl, f2⟩ := HG2.out (by rw [HN.out]; omega)
        have p1 := ((f1 i tk htk).ext XX.out).ext XR.out
        have p2 := (f2 i tk htk).ext XR.out
        have hle := HAT.out tk (List.mem_of_getElem? htk)
        obtain ⟨aa, ac, qa3, ar⟩ := p1.attrs
        obtain ⟨ba, bc, qb3, br⟩ := p2.attrs
        have HS := Lib.hid (fun (W : World) (x : Ext wr W) => Same_eq tk.kind (bs tk.name) (bs tk.text) (selfZ tk.self) (tk.lo : Int) (tk.hi : Int) tk.attrs _ _ (by omega) (ar.ext x) (br.ext x))
        unfold tkA at HS
        have a0 : ∀ u : ExtOf wr, u.val.cell? ⟨g1, i * 7, none⟩ = _ := fun u => u.ext.cell p1.kind
        have a1 : ∀ u : ExtOf wr, u.val.cell? ⟨g1, i * 7 + 1, none⟩ = _ := fun u => u.ext.cell p1.name
        have a2 : ∀ u : ExtOf wr, u.val.cell? ⟨g1, i * 7 + 2, none⟩ = _ := fun u => u.ext.cell p1.text
        have a3 : ∀ u : ExtOf wr, u.val.cell? ⟨g1, i * 7 + 3, none⟩ = _ := fun u => u.ext.cell qa3
        have a4 : ∀ u : ExtOf wr, u.val.cell? ⟨g1, i * 7 + 4, none⟩ = _ := fun u => u.ext.cell p1.self
        have a5 : ∀ u : ExtOf wr, u.val.cell? ⟨g1, i * 7 + 5, none⟩ = _ := fun u => u.ext.cell p1.lo
        have a6 : ∀ u : ExtOf wr, u.val.cell? ⟨g1, i * 7 + 6, none⟩ = _ := fun u => u.ext.cell p1.hi
        have b0 : ∀ u : ExtOf wr, u.val.cell? ⟨g2, i * 7, none⟩ = _ := fun u => u.ext.cell p2.kind
        have b1 : ∀ u : ExtOf wr, u.val.cell? ⟨g2, i * 7 + 1, none⟩ = _ := fun u => u.ext.cell p2.name
        have b2 : ∀ u : ExtOf wr, u.val.cell? ⟨g2, i * 7 + 2, none⟩ = _ := fun u => u.ext.cell p2.text
        have b3 : ∀ u : ExtOf wr, u.val.cell? ⟨g2, i * 7 + 3, none⟩ = _ := fun u => u.ext.cell qb3
        have b4 : ∀ u : ExtOf wr, u.val.cell? ⟨g2, i * 7 + 4, none⟩ = _ := fun u => u.ext.cell p2.self
        have b5 : ∀ u : ExtOf wr, u.val.cell? ⟨g2, i * 7 + 5, none⟩ = _ := fun u => u.ext.cell p2.lo
        have b6 : ∀ u : ExtOf wr, u.val.cell? ⟨g2, i * 7 + 6, none⟩ = _ := fun u => u.ext.cell p2.hi
        obtain ⟨kd, hkd⟩ : ∃ x, tk.kind = x := ⟨_, rfl⟩
        obtain ⟨nb, hnb⟩ : ∃ x, bs tk.name = x := ⟨_, rfl⟩
        obtain ⟨tb, htb⟩ : ∃ x, bs tk.text = x := ⟨_, rfl⟩
        obtain ⟨al, hal⟩ : ∃ x, tk.attrs.length = x := ⟨_, rfl⟩
        obtain ⟨sz, hsz⟩ : ∃ x, selfZ tk.self = x := ⟨_, rfl⟩
        obtain ⟨lo, hlo⟩ : ∃ x : Int, (tk.lo : Int) = x := ⟨_, rfl⟩
        obtain ⟨hi, hhi⟩ : ∃ x : Int, (tk.hi : Int) = x := ⟨_, rfl⟩
        rw [hkd, hnb, htb, hal, hsz, hlo, hhi] at HS
        rw [hkd] at a0 b0
        rw [hnb] at a1 b1
        rw [htb] at a2 b2
        rw [hal] at a3 b3
        rw [hsz] at a4 b4
        rw [hlo] at a5 b5
        rw [hhi] at a6 b6
        have hm1 : (i : Int) < (n : Int) := by omega
        have hm2 : (0 : Int) ≤ (i : Int) := by omega
        have hmn : (i : Int).toNat = i := by omega
        have e0 : decide ((i : Int) < (n : Int)) = true := decide_eq_true (by omega)
        have e0n : decide (i < n) = true := decide_eq_true hlt
        clear htk f1 f2 p1 p2 hle ar br hkd hnb htb hal hsz hlo hhi hlt qa3 qb3
        go_upto_region 10 with fail
        refine wp_region_ext (by kernel_rfl) (by kernel_rfl) ?_
        repeat (go_big_quiet_step ((go_at_call 7; exact inExt (HS.out _ (by first | exact ExtOf.ext _ | assumption)))))
        refine wpQuiet_nil ?_
        rintro _ ⟨u, rfl⟩
        have XU := Lib.hid (XR.out.trans u.ext)
        go_wp2_with fail
        go_roundw
        case rel => exact ⟨i + 1, by omega, by go_num, XU.out⟩
        case measure => simp [intOf]; omega
      · obtain rfl : i = n := by omega
        have e0 : decide ((i : Int) < (i : Int)) = false := decide_eq_false (by omega)
        have e0n : decide (i < i) = false := decide_eq_false hlt
        have HWW := Lib.hid (HW.out wr ((HL.out.ext X2.out).ext XR.out))
        go_wp2_with (go_at_call 4; refine HWW.out.mono ?_)
        rintro e w3 ⟨rfl, x3⟩
        go_wp2_with fail
        go_ret
        exact ⟨rfl, (X2.out.trans XR.out).trans x3⟩
end Go.Proofs.YtdafdoodegpdhaaGreatDoor
