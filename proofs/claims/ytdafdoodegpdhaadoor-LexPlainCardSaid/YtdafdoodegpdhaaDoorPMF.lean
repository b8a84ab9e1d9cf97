/- The document's answers: 01 (Class, May, Runes), 03 (Name, Value, Find, May), 14 (Blank). Conditions: at most 10^12 bytes, at most 10^14 attributes. -/
import Derived.Test.YtdafdoodegpdhaaDoorPMA
import Derived.Test.YtdafdoodegpdhaaDoorPQ
namespace Go.Proofs.YtdafdoodegpdhaaDoor
open Go Go.RowKit Go.BigFrame
set_option linter.unusedVariables false
set_option linter.unusedSimpArgs false

theorem r1Class_any_fin {r : Int} {w : World} (k : Int) (w' : World) (h1 : decide (1 < k) = mayR r) (h2 : Ext w w') : ClassIs r w (.returned (.int .i64 k)) w' := ⟨k, rfl, h1, h2⟩
set_option maxHeartbeats 2000000 in
set_option maxRecDepth 100000 in
theorem r1Class_any (r : Int) (h : Utf8.valid r = true) (w : World) : Calls Tryd.prog 138 #[.int .i32 r] w (ClassIs r w) := by
  obtain ⟨n, rfl, hn⟩ := valid_cases h
  have FIN := Lib.hid (fun (k : Int) (w' : World) (h1 : decide (1 < k) = mayR (n : Int)) (h2 : Ext w w') => r1Class_any_fin (r := (n : Int)) k w' h1 h2)
  have x := Ext.refl w
  have z0 : ¬ (n : Int) < 0 := by omega
  have z1 : ¬ (1114111 : Int) < (n : Int) := by omega
  have z2 : (55296 : Int) ≤ (n : Int) ∧ ¬ (n : Int) ≤ 57343 ∨ ¬ (55296 : Int) ≤ (n : Int) := by omega
  clear h hn
  have go : ∀ {P : Prop}, P → P := fun p => p
  by_cases a1 : (n : Int) < 32
  · have a2 : ¬ (55296 : Int) ≤ (n : Int) := by omega
    go_enter Tryd.func138, Tryd.ntmps138
    go_wp2_with fail
    go_ret
    exact FIN.out _ _ (by unfold mayR; simp; omega) x
  by_cases a2 : (n : Int) = 127
  · have b2 : ((n : Int) == 127) = true := by simpa using a2
    have A2 := Lib.hid a2
    have a3 : ¬ (55296 : Int) ≤ (n : Int) := by omega
    clear a2
    go_enter Tryd.func138, Tryd.ntmps138
    go_wp2_with fail
    go_ret
    exact FIN.out _ _ (by unfold mayR; have := A2.out; simp; omega) x
  have b2 : ((n : Int) == 127) = false := by simpa using a2
  have hm : mayR (n : Int) = true := by unfold mayR; simp; omega
  rw [hm] at FIN
  have A1 := Lib.hid a1
  clear a2 hm
  by_cases a3 : (n : Int) = 32
  · have b3 : ((n : Int) == 32) = true := by simpa using a3
    have a4 : ¬ (55296 : Int) ≤ (n : Int) := by omega
    clear a3 A1
    go_enter Tryd.func138, Tryd.ntmps138
    go_wp2_with fail
    go_ret
    exact FIN.out _ _ rfl x
  have b3 : ((n : Int) == 32) = false := by simpa using a3
  by_cases a4 : (n : Int) = 160
  · have b4 : ((n : Int) == 160) = true := by simpa using a4
    have a5 : ¬ (55296 : Int) ≤ (n : Int) := by omega
    clear a4 a3
    go_enter Tryd.func138, Tryd.ntmps138
    go_wp2_with fail
    go_ret
    exact FIN.out _ _ rfl x
  have b4 : ((n : Int) == 160) = false := by simpa using a4
  clear a4 a3
  rcases z2 with ⟨y1, y2⟩ | y1
  · have c1 : (97 : Int) ≤ (n : Int) := by omega
    have c2 : ¬ (n : Int) ≤ 122 := by omega
    have c3 : (65 : Int) ≤ (n : Int) := by omega
    have c4 : ¬ (n : Int) ≤ 90 := by omega
    have c5 : (128 : Int) ≤ (n : Int) := by omega
    have c6 : (48 : Int) ≤ (n : Int) := by omega
    have c7 : ¬ (n : Int) ≤ 57 := by omega
    have b5 : ((n : Int) == 65533) = true ∨ ((n : Int) == 65533) = false := by cases ((n : Int) == 65533); exact .inr rfl; exact .inl rfl
    rcases b5 with b5 | b5
    · go_enter Tryd.func138, Tryd.ntmps138
      go_wp2_with fail
      go_ret
      exact FIN.out _ _ rfl x
    · go_enter Tryd.func138, Tryd.ntmps138
      go_wp2_with fail
      go_ret
      exact FIN.out _ _ rfl x
  · have b5 : ((n : Int) == 65533) = false := by rw [beq_eq_false_iff_ne]; omega
    by_cases c1 : (97 : Int) ≤ (n : Int)
    · have c3 : (65 : Int) ≤ (n : Int) := by omega
      have c4 : ¬ (n : Int) ≤ 90 := by omega
      have c6 : (48 : Int) ≤ (n : Int) := by omega
      have c7 : ¬ (n : Int) ≤ 57 := by omega
      by_cases c2 : (n : Int) ≤ 122
      · go_enter Tryd.func138, Tryd.ntmps138
        go_wp2_with fail
        go_ret
        exact FIN.out _ _ rfl x
      · by_cases c5 : (128 : Int) ≤ (n : Int)
        · go_enter Tryd.func138, Tryd.ntmps138
          go_wp2_with fail
          go_ret
          exact FIN.out _ _ rfl x
        · go_enter Tryd.func138, Tryd.ntmps138
          go_wp2_with fail
          go_ret
          exact FIN.out _ _ rfl x
    · have c5 : ¬ (128 : Int) ≤ (n : Int) := by omega
      by_cases c3 : (65 : Int) ≤ (n : Int)
      · have c6 : (48 : Int) ≤ (n : Int) := by omega
        have c7 : ¬ (n : Int) ≤ 57 := by omega
        by_cases c4 : (n : Int) ≤ 90
        · go_enter Tryd.func138, Tryd.ntmps138
          go_wp2_with fail
          go_ret
          exact FIN.out _ _ rfl x
        · go_enter Tryd.func138, Tryd.ntmps138
          go_wp2_with fail
          go_ret
          exact FIN.out _ _ rfl x
      · by_cases c6 : (48 : Int) ≤ (n : Int)
        · by_cases c7 : (n : Int) ≤ 57
          · go_enter Tryd.func138, Tryd.ntmps138
            go_wp2_with fail
            go_ret
            exact FIN.out _ _ rfl x
          · go_enter Tryd.func138, Tryd.ntmps138
            go_wp2_with fail
            go_ret
            exact FIN.out _ _ rfl x
        · go_enter Tryd.func138, Tryd.ntmps138
          go_wp2_with fail
          go_ret
          exact FIN.out _ _ rfl x
set_option maxHeartbeats 400000 in
set_option maxRecDepth 100000 in
theorem r1May_any (r : Int) (h : Utf8.valid r = true) (w : World) : Calls Tryd.prog 123 #[.int .i32 r] w (RBool (mayR r) w) := by
  have HC := Lib.hid (r1Class_any r h w)
  clear h
  obtain ⟨b, hb⟩ : ∃ b, mayR r = b := ⟨_, rfl⟩
  rw [hb]
  have HB := Lib.hid hb
  clear hb
  go_enter Tryd.func123, Tryd.ntmps123
  go_wp2_with fail
  refine HC.out.mono ?_
  rintro e w1 ⟨k, rfl, hk, x1⟩
  have HK := Lib.hid hk
  clear hk
  go_wp2_with fail
  go_ret
  refine ⟨?_, x1⟩
  have e : decide ((2 : Int) ≤ k) = b := by rw [← HB.out, ← HK.out]; exact decide_eq_decide.2 ⟨fun h => by omega, fun h => by omega⟩
  rw [← e]
  rfl
/-- a text's characters -/
def RRunes (s : ByteArray) (w : World) (e : Ending) (w' : World) : Prop := ∃ v, e = .returned v ∧ Ext w w' ∧ RowRd w' 1 v (runeList s s.size 0).length ((runeList s s.size 0).map (.int .i32)) ∧ ∀ u, Ext w' u → (Go.convert 85 9 v).run Tryd.prog u = .ok (.string (anewB s)) u
theorem runes_run (s : ByteArray) (hs : s.size ≤ 1000000000000) (w : World) : ∃ (v : Value) (w' : World), (Go.convert 9 85 (.string s)).run Tryd.prog w = .ok v w' ∧ RRunes s w (.returned v) w' := by
  have h1 := run_runes_of_string (P := Tryd.prog) w 9 85 21 s Tryd.underlying9 Tryd.underlying85 Tryd.underlying21 (by have := size_runesFrom s s.size 0 #[]; simp at this; omega)
  have e1 : Conv.runesFrom s s.size 0 #[] = ((runeList s s.size 0).map (Value.int .i32)).toArray := by rw [runesFrom_eq]; simp
  have hz : anewB s = runesBytes (runeList s s.size 0) := rfl
  rw [e1] at h1
  unfold RRunes
  rw [hz]
  clear hz e1 hs
  generalize runeList s s.size 0 = l at *
  generalize hk : grownCap w (List.map (Value.int IntKind.i32) l).toArray.size 0 21 = K at *
  have hge := grownCap_ge w (List.map (Value.int IntKind.i32) l).toArray.size 0 21
  rw [hk] at hge
  clear hk
  generalize hC : (List.map (Value.int IntKind.i32) l).toArray ++ Array.replicate (K - (List.map (Value.int IntKind.i32) l).toArray.size) (Value.int IntKind.i32 0) = C at *
  have hcells : ∀ u, Ext (w.drew.alloc (.cells C 21)) u → ∀ j (hj : j < l.length), u.cell? ((⟨w.heap.size, 0, none⟩ : Addr).add j) = some (.int .i32 l[j]) := by
    intro u hu j hj
    have hb : u.heap[w.heap.size]? = some (.cells C 21 (0, 0)) := hu.block (heap_alloc_new w.drew _)
    rw [Addr.add_lit, Nat.zero_add]
    refine cellOf hb ?_
    rw [← hC, Array.getElem?_append_left (by simpa using hj)]
    simp [hj]
  simp only [List.size_toArray, List.length_map] at h1 hge
  refine ⟨_, _, h1, _, rfl, (Ext.refl w).drew.alloc _, ⟨by simp, _, _, rfl, hge, (fun e => by cases e), fun a e j x hx => ?_⟩, fun u hu => ?_⟩
  · cases e
    obtain ⟨hj, e⟩ := List.getElem?_eq_some_iff.1 hx
    rw [List.getElem_map] at e
    rw [← e]
    exact hcells _ (Ext.refl _) j (by simpa using hj)
  · have h2 := run_convert_runes (P := Tryd.prog) u 85 9 21 ⟨w.heap.size, 0, none⟩ l.length K l (Nat.le_refl _) Tryd.underlying85 Tryd.underlying21 Tryd.underlying9 (fun j hj => by rw [hcells u hu j hj]; simp [List.getD, hj])
    rw [List.take_length] at h2
    exact h2
set_option maxHeartbeats 400000 in
set_option maxRecDepth 100000 in
theorem Runes_any (s : ByteArray) (hs : s.size ≤ 1000000000000) (w : World) : Calls Tryd.prog 122 #[.string s] w (RRunes s w) := by
  obtain ⟨v, w', h1, h2⟩ := runes_run s hs w
  have HR := Lib.hid h2
  have H1 := Lib.hid h1
  clear h1 h2 hs
  go_enter Tryd.func122, Tryd.ntmps122
  go_wp2_with fail
  rw [H1.out]
  go_wp2_with fail
  go_ret
  exact HR.out
set_option maxHeartbeats 1000000 in
set_option maxRecDepth 100000 in
theorem r3Name_any (s : ByteArray) (w : World) : Calls Tryd.prog 97 #[.string s] w (RBool (nameOk s) w) := by
  have x0 := Ext.refl w
  obtain ⟨b, hb⟩ : ∃ b, nameOk s = b := ⟨_, rfl⟩
  rw [hb]
  have HB := Lib.hid hb
  clear hb
  have bad : ¬ ((1 ≤ s.size ∧ s.size ≤ 16) ∧ ∀ j (h : j < s.size), nameR (decide (j = 0)) ((s[j]'h).toNat : Int) = true) → b = false := by
    intro h
    cases hb : b
    · rfl
    · exact absurd ((nameOk_iff s).1 (HB.out.trans hb)) h
  have BAD := Lib.hid bad
  clear bad
  by_cases h1 : s.size = 0
  · have e : b = false := BAD.out fun h => by omega
    subst e
    have h1' : ((s.size : Int) == 0) = true := by simpa using h1
    clear h1
    go_enter Tryd.func97, Tryd.ntmps97
    go_wp2
    go_ret
    exact ⟨rfl, x0⟩
  have h1' : ((s.size : Int) == 0) = false := by simpa using h1
  by_cases h2 : 16 < s.size
  · have e : b = false := BAD.out fun h => by omega
    subst e
    have h2' : (16 : Int) < (s.size : Int) := by omega
    clear h1 h2
    go_enter Tryd.func97, Tryd.ntmps97
    go_wp2
    go_ret
    exact ⟨rfl, x0⟩
  have h2' : ¬ (16 : Int) < (s.size : Int) := by omega
  have HS := Lib.hid (show 1 ≤ s.size ∧ s.size ≤ 16 by omega)
  have hpos : 0 < s.size := by omega
  obtain ⟨c, hc⟩ : ∃ c, s[0]'hpos = c := ⟨_, rfl⟩
  have hix : ∀ W : World, (Instr.index 9 (.string s) (.int .i64 0)).run Tryd.prog W = .ok (.int .u8 (c.toNat : Int)) W := by
    intro W
    rw [run_index_string W 9 s .i64 0 Tryd.underlying9, dif_pos ⟨by omega, by omega⟩]
    simp only [Int.toNat_zero, hc]
  have HC0 := Lib.hid hc
  have HP := Lib.hid hpos
  clear h1 h2 hc
  have bad0 : ¬ (97 ≤ c.toNat ∧ c.toNat ≤ 122) → b = false := fun h => BAD.out fun g => h (by
    have := g.2 0 HP.out
    rw [HC0.out] at this
    unfold nameR at this
    simp at this
    omega)
  by_cases l1 : (c.toNat : Int) < 97
  · have e : b = false := bad0 (by omega)
    subst e
    go_enter Tryd.func97, Tryd.ntmps97
    go_wp2
    go_ret
    exact ⟨rfl, x0⟩
  by_cases l2 : (122 : Int) < (c.toNat : Int)
  · have e : b = false := bad0 (by omega)
    subst e
    go_enter Tryd.func97, Tryd.ntmps97
    go_wp2
    go_ret
    exact ⟨rfl, x0⟩
  have H0 := Lib.hid (show 97 ≤ c.toNat ∧ c.toNat ≤ 122 by omega)
  clear bad0
  go_enter Tryd.func97, Tryd.ntmps97
  go_wp2_with fail
  clear h1' h2' l1 l2 hix
  go_loopw [3] (fun i wr => ∃ k : Nat, i = .int .i64 k ∧ k ≤ s.size ∧ wr = w ∧ ∀ j (h : j < s.size), j < k → nameR (decide (j = 0)) ((s[j]'h).toNat : Int) = true) (fun i _ => s.size - (intOf i).toNat)
  case atStart => exact ⟨0, rfl, Nat.zero_le _, rfl, fun j _ hj => absurd hj (Nat.not_lt_zero _)⟩
  case round =>
    obtain ⟨k, rfl, hk, rfl, hpre⟩ := hrel
    have HPRE := Lib.hid hpre
    have hs16 : s.size ≤ 16 := HS.out.2
    clear hpre
    by_cases hlt : k < s.size
    · obtain ⟨d, hd⟩ : ∃ d, s[k]'hlt = d := ⟨_, rfl⟩
      have hix : ∀ W : World, (Instr.index 9 (.string s) (.int .i64 (k : Int))).run Tryd.prog W = .ok (.int .u8 (d.toNat : Int)) W := by
        intro W
        rw [run_index_string W 9 s .i64 (k : Int) Tryd.underlying9, dif_pos ⟨by omega, by omega⟩]
        simp only [Int.toNat_natCast, hd]
      have good : nameR (decide (k = 0)) (d.toNat : Int) = true → ∀ j (h : j < s.size), j < k + 1 → nameR (decide (j = 0)) ((s[j]'h).toNat : Int) = true := by
        intro h j hj hjk
        by_cases hjp : j = k
        · subst hjp; rw [hd]; exact h
        · exact HPRE.out j hj (by omega)
      have bad : nameR (decide (k = 0)) (d.toNat : Int) = false → b = false := fun h => BAD.out fun g => by
        have := g.2 k hlt
        rw [hd, h] at this
        cases this
      have k0 : ¬ (97 ≤ d.toNat ∧ d.toNat ≤ 122) → k ≠ 0 := by
        rintro h rfl
        have := HC0.out
        rw [hd] at this
        exact h (this ▸ H0.out)
      have GOOD := Lib.hid good
      have BADK := Lib.hid bad
      have K0 := Lib.hid k0
      clear good bad k0 hd
      by_cases m1 : (97 : Int) ≤ (d.toNat : Int) ∧ (d.toNat : Int) ≤ 122
      · have HG := Lib.hid (GOOD.out (by unfold nameR; simp; omega))
        obtain ⟨m1, m2⟩ := m1
        go_wp2_with fail
        go_roundw
        case rel => exact ⟨k + 1, by go_num, by omega, by first | rfl | trivial, HG.out⟩
        case measure => simp [intOf]; omega
      · have hk0 := K0.out (by omega)
        have HK0 := Lib.hid hk0
        clear hk0
        have m2 : ¬ (97 : Int) ≤ (d.toNat : Int) ∨ ((97 : Int) ≤ (d.toNat : Int) ∧ ¬ (d.toNat : Int) ≤ 122) := by omega
        by_cases d1 : (48 : Int) ≤ (d.toNat : Int) ∧ (d.toNat : Int) ≤ 57
        · have HG := Lib.hid (GOOD.out (by unfold nameR; simp [HK0.out]; omega))
          have d4 : ¬ (97 : Int) ≤ (d.toNat : Int) := by omega
          obtain ⟨d1, d2⟩ := d1
          clear m1 m2
          go_wp2_with fail
          go_roundw
          case rel => exact ⟨k + 1, by go_num, by omega, by first | rfl | trivial, HG.out⟩
          case measure => simp [intOf]; omega
        · by_cases d5 : (d.toNat : Int) = 45
          · have HG := Lib.hid (GOOD.out (by unfold nameR; simp [HK0.out]; omega))
            have d4 : ¬ (97 : Int) ≤ (d.toNat : Int) := by omega
            have d3 : ¬ (48 : Int) ≤ (d.toNat : Int) := by omega
            have d6 : ((d.toNat : Int) == 45) = true := by simpa using d5
            clear m1 m2 d1 d5
            go_wp2_with fail
            go_roundw
            case rel => exact ⟨k + 1, by go_num, by omega, by first | rfl | trivial, HG.out⟩
            case measure => simp [intOf]; omega
          · have hb : b = false := BADK.out (by unfold nameR; simp [HK0.out]; omega)
            subst hb
            have d6 : ((d.toNat : Int) == 45) = false := by simpa using d5
            have d2 : ¬ (48 : Int) ≤ (d.toNat : Int) ∨ ((48 : Int) ≤ (d.toNat : Int) ∧ ¬ (d.toNat : Int) ≤ 57) := by omega
            clear m1 d1 d5
            rcases m2 with m2 | ⟨m2, m3⟩
            · rcases d2 with d2 | ⟨d2, d3⟩
              · go_wp2_with fail
                go_ret
                exact ⟨rfl, x0⟩
              · go_wp2_with fail
                go_ret
                exact ⟨rfl, x0⟩
            · rcases d2 with d2 | ⟨d2, d3⟩
              · go_wp2_with fail
                go_ret
                exact ⟨rfl, x0⟩
              · go_wp2_with fail
                go_ret
                exact ⟨rfl, x0⟩
    · have hb : b = true := by
        rw [← HB.out]
        exact (nameOk_iff s).2 ⟨HS.out, fun j hj => HPRE.out j hj (by omega)⟩
      subst hb
      go_wp2
      go_ret
      exact ⟨rfl, x0⟩
set_option maxHeartbeats 1000000 in
set_option maxRecDepth 100000 in
theorem r3Value_any (s : ByteArray) (hs : s.size ≤ 1000000000000) (w : World) : Calls Tryd.prog 98 #[.string s] w (RBool (valueOk s) w) := by
  obtain ⟨b, hb⟩ : ∃ b, valueOk s = b := ⟨_, rfl⟩
  rw [hb]
  have HB := Lib.hid hb
  have HR := Lib.hid (Runes_any s hs w)
  have HVAL := Lib.hid (runeList_valid s s.size 0)
  clear hb hs
  go_enter Tryd.func98, Tryd.ntmps98
  go_wp2_with fail
  refine HR.out.mono ?_
  rintro e w1 ⟨v, rfl, x1, hr, hcv⟩
  obtain ⟨ao, cap, rfl, hcap⟩ := hr.len_of
  have X1 := Lib.hid x1
  have HRW := Lib.hid hr
  have HCV := Lib.hid (hcv w1 (Ext.refl _))
  clear x1 hr hcv
  by_cases h1 : 200 < s.size
  · have e : b = false := by rw [← HB.out]; unfold valueOk; rw [decide_eq_false (by omega)]; simp
    subst e
    have h1' : (200 : Int) < (s.size : Int) := by omega
    clear h1
    go_wp2_with fail
    go_ret
    exact ⟨rfl, X1.out⟩
  have h1' : ¬ (200 : Int) < (s.size : Int) := by omega
  have H1 := Lib.hid (show s.size ≤ 200 by omega)
  clear h1
  by_cases h2 : anewB s = s
  case neg =>
    have e : b = false := by rw [← HB.out]; unfold valueOk; rw [decide_eq_false h2]; simp
    subst e
    have h2' : ((anewB s).toList == s.toList) = false := by rw [str_eq]; exact decide_eq_false h2
    clear h2
    go_wp2_with fail
    rw [HCV.out]
    go_wp2_with fail
    go_ret
    exact ⟨rfl, X1.out⟩
  have h2' : ((anewB s).toList == s.toList) = true := by rw [str_eq]; exact decide_eq_true h2
  have H2 := Lib.hid h2
  clear h2
  have hlen : (runeList s s.size 0).length ≤ 1000000000000 := by
    have := runeList_len s s.size 0
    have := H1.out
    omega
  go_wp2_with fail
  rw [HCV.out]
  go_wp2_with fail
  have hall : b = (runeList s s.size 0).all mayR := by
    rw [← HB.out]; unfold valueOk; rw [decide_eq_true H1.out, decide_eq_true H2.out]; rfl
  have HALL := Lib.hid hall
  clear hall h1' h2'
  generalize runeList s s.size 0 = l at *
  go_loopw [4] (fun i wr => ∃ k : Nat, i = .int .i64 k ∧ k ≤ l.length ∧ Ext w1 wr ∧ ∀ (j : Nat) (r : Int), j < k → l[j]? = some r → mayR r = true) (fun i _ => l.length - (intOf i).toNat)
  case atStart => exact ⟨0, rfl, Nat.zero_le _, Ext.refl _, fun j r hj => absurd hj (Nat.not_lt_zero _)⟩
  case round =>
    obtain ⟨k, rfl, hk, xr, hpre⟩ := hrel
    have HPRE := Lib.hid hpre
    have XR := Lib.hid xr
    clear hpre
    by_cases hlt : k < l.length
    · obtain ⟨r, hr⟩ : ∃ r, l[k]? = some r := ⟨l[k], by simp [hlt]⟩
      obtain ⟨_, ao', cap', e, _, h0, hc⟩ := HRW.out
      cases e
      cases ao with
      | none => exact absurd (h0 rfl).1 (by omega)
      | some a =>
        have q := xr.cells _ _ (hc a rfl k (.int .i32 r) (by rw [List.getElem?_map, hr]; rfl))
        have HM := Lib.hid (r1May_any r (HVAL.out r (List.mem_of_getElem? hr)) wr)
        have HRR := Lib.hid hr
        obtain ⟨m, hm⟩ : ∃ m, mayR r = m := ⟨_, rfl⟩
        rw [hm] at HM
        have HMM := Lib.hid hm
        clear hr hc h0 hm xr
        cases m with
        | true =>
          go_wp2_with (go_at_call 123; refine HM.out.mono ?_)
          rintro e w3 ⟨rfl, x3⟩
          go_wp2_with fail
          go_roundw
          case rel =>
            refine ⟨k + 1, by go_num, by omega, XR.out.trans x3, fun j y hj hy => ?_⟩
            by_cases hjk : j = k
            · subst hjk
              rw [HRR.out] at hy
              cases hy
              exact HMM.out
            · exact HPRE.out j y (by omega) hy
          case measure => simp [intOf]; omega
        | false =>
          have hb : b = false := by
            rw [HALL.out, Bool.eq_false_iff]
            intro h
            rw [List.all_eq_true] at h
            have := h r (List.mem_of_getElem? HRR.out)
            rw [HMM.out] at this
            cases this
          subst hb
          go_wp2_with (go_at_call 123; refine HM.out.mono ?_)
          rintro e w3 ⟨rfl, x3⟩
          go_wp2_with fail
          go_ret
          exact ⟨rfl, (X1.out.trans XR.out).trans x3⟩
    · have hb : b = true := by
        rw [HALL.out, List.all_eq_true]
        intro r hr
        obtain ⟨j, hj, e⟩ := List.getElem_of_mem hr
        exact HPRE.out j r (by omega) (by rw [List.getElem?_eq_getElem hj, e])
      subst hb
      clear xr
      go_wp2
      go_ret
      exact ⟨rfl, X1.out.trans XR.out⟩
set_option maxHeartbeats 1000000 in
set_option maxRecDepth 100000 in
theorem r3Find_any (l : List (ByteArray × ByteArray)) (v : Value) (nm : ByteArray) (w : World) (hr : RowRd w 2 v l.length (attrCells l)) (hl : l.length ≤ 100000000000000) :
    Calls Tryd.prog 99 #[v, .string nm] w (RVal (.int .i64 (attrAt l nm)) w) := by
  obtain ⟨ao, cap, rfl, hcap⟩ := hr.len_of
  have HR := Lib.hid hr
  clear hr hcap
  go_enter Tryd.func99, Tryd.ntmps99
  go_wp2_with fail
  go_loopw [5] (fun n wr => ∃ k : Nat, k ≤ l.length ∧ n = .int .i64 k ∧ Ext w wr ∧ ∀ (j : Nat) x, j < k → l[j]? = some x → x.1 ≠ nm) (fun n _ => l.length - (intOf n).toNat)
  case atStart => exact ⟨0, Nat.zero_le _, rfl, Ext.refl _, fun j x hj => absurd hj (Nat.not_lt_zero _)⟩
  case round =>
    obtain ⟨k, hk, rfl, xr, hpre⟩ := hrel
    have HPRE := Lib.hid hpre
    clear hpre
    by_cases hlt : k < l.length
    · obtain ⟨p, hp⟩ : ∃ p, l[k]? = some p := ⟨l[k], by simp [hlt]⟩
      cases ao with
      | none =>
        obtain ⟨_, ao', cap', e, _, h0, _⟩ := HR.out
        cases e
        exact absurd (h0 rfl).1 (by omega)
      | some a =>
        obtain ⟨bk, off, sp⟩ := a
        have hra : RowRd wr 2 (.slice (some ⟨bk, off, sp⟩) l.length cap) l.length (attrCells l) := HR.out.ext xr
        obtain ⟨q0, q1⟩ := hra.attr hp
        have HPP := Lib.hid hp
        have XR := Lib.hid xr
        clear hra hp xr q1
        by_cases he : p.1 = nm
        · have e1 : (p.1.toList == nm.toList) = true := by rw [str_eq]; exact decide_eq_true he
          have hat := attrAt_hit HPP.out he HPRE.out
          have HAT := Lib.hid hat
          clear he hat
          go_wp2_with fail
          go_ret
          exact ⟨ret_int HAT.out.symm, XR.out⟩
        · have e1 : (p.1.toList == nm.toList) = false := by rw [str_eq]; exact decide_eq_false he
          have HE := Lib.hid he
          clear he
          go_wp2_with fail
          go_roundw
          case rel =>
            refine ⟨k + 1, by omega, by go_num, XR.out, fun j x hj hx => ?_⟩
            by_cases hjk : j = k
            · subst hjk
              rw [HPP.out] at hx
              cases hx
              exact HE.out
            · exact HPRE.out j x (by omega) hx
          case measure => simp [intOf]; omega
    · have hat := attrAt_none (l := l) (n := nm) fun j x hx => HPRE.out j x (by have := (List.getElem?_eq_some_iff.1 hx).1; omega) hx
      have HAT := Lib.hid hat
      clear hat
      go_wp2
      go_ret
      exact ⟨ret_int HAT.out.symm, xr⟩
set_option maxHeartbeats 1000000 in
set_option maxRecDepth 100000 in
theorem r3May_any (l : List (ByteArray × ByteArray)) (v : Value) (w : World) (hr : RowRd w 2 v l.length (attrCells l)) (hl : l.length ≤ 100000000000000) (hv : ∀ a ∈ l, a.2.size ≤ 1000000000000) :
    Calls Tryd.prog 72 #[v] w (RBool (attrsMay l) w) := by
  obtain ⟨b, hb⟩ : ∃ b, attrsMay l = b := ⟨_, rfl⟩
  rw [hb]
  have HB := Lib.hid hb
  obtain ⟨ao, cap, rfl, hcap⟩ := hr.len_of
  have HR := Lib.hid hr
  have HV := Lib.hid hv
  clear hr hcap hb hv
  have bad : ∀ (k : Nat) (p : ByteArray × ByteArray), l[k]? = some p → ¬ (nameOk p.1 = true ∧ valueOk p.2 = true ∧ attrAt l p.1 = k) → b = false := by
    intro k p hp h
    cases hb : b
    · rfl
    · exact absurd ((attrsMay_iff l).1 (HB.out.trans hb) k p hp) h
  have BAD := Lib.hid bad
  clear bad
  go_enter Tryd.func72, Tryd.ntmps72
  go_wp2_with fail
  go_loopw [3] (fun n wr => ∃ k : Nat, k ≤ l.length ∧ n = .int .i64 k ∧ Ext w wr ∧ ∀ (j : Nat) x, j < k → l[j]? = some x → nameOk x.1 = true ∧ valueOk x.2 = true ∧ attrAt l x.1 = j) (fun n _ => l.length - (intOf n).toNat)
  case atStart => exact ⟨0, Nat.zero_le _, rfl, Ext.refl _, fun j x hj => absurd hj (Nat.not_lt_zero _)⟩
  case round =>
    obtain ⟨k, hk, rfl, xr, hpre⟩ := hrel
    have HPRE := Lib.hid hpre
    clear hpre
    by_cases hlt : k < l.length
    · obtain ⟨p, hp⟩ : ∃ p, l[k]? = some p := ⟨l[k], by simp [hlt]⟩
      cases ao with
      | none =>
        obtain ⟨_, ao', cap', e, _, h0, _⟩ := HR.out
        cases e
        exact absurd (h0 rfl).1 (by omega)
      | some a =>
        obtain ⟨bk, off, sp⟩ := a
        have hra : RowRd wr 2 (.slice (some ⟨bk, off, sp⟩) l.length cap) l.length (attrCells l) := HR.out.ext xr
        obtain ⟨q0, q1⟩ := hra.attr hp
        have HN := Lib.hid (r3Name_any p.1 wr)
        have HVV := Lib.hid (fun u => r3Value_any p.2 (HV.out p (List.mem_of_getElem? hp)) u)
        have HF := Lib.hid (fun u (x : Ext wr u) => r3Find_any l _ p.1 u (hra.ext x) hl)
        have HLE := Lib.hid (attrAt_le hp)
        have HPP := Lib.hid hp
        have XR := Lib.hid xr
        have Q0 := Lib.hid q0
        have Q1 := Lib.hid q1
        rw [add_later _ _ _ (by decide)] at q1
        obtain ⟨b1, h1⟩ : ∃ b, nameOk p.1 = b := ⟨_, rfl⟩
        obtain ⟨b2, h2⟩ : ∃ b, valueOk p.2 = b := ⟨_, rfl⟩
        obtain ⟨z, h3⟩ : ∃ z, attrAt l p.1 = z := ⟨_, rfl⟩
        rw [h1] at HN
        rw [h2] at HVV
        rw [h3] at HF HLE
        have N1 := Lib.hid h1
        have N2 := Lib.hid h2
        have N3 := Lib.hid h3
        clear hra hp h1 h2 h3 xr
        cases b1 with
        | false =>
          have hb : b = false := BAD.out _ _ HPP.out fun h => by have := h.1; rw [N1.out] at this; cases this
          subst hb
          go_wp2_with (go_at_call 97; refine HN.out.mono ?_)
          rintro e w3 ⟨rfl, x3⟩
          clear q0 q1
          go_wp2_with fail
          go_ret
          exact ⟨rfl, XR.out.trans x3⟩
        | true =>
          go_wp2_with (go_at_call 97; refine HN.out.mono ?_)
          rintro e w3 ⟨rfl, x3⟩
          replace q1 := x3.cells _ _ q1
          replace q0 := x3.cells _ _ q0
          have X3 := Lib.hid x3
          clear x3
          cases b2 with
          | false =>
            have hb : b = false := BAD.out _ _ HPP.out fun h => by have := h.2.1; rw [N2.out] at this; cases this
            subst hb
            go_wp2_with (go_at_call 98; refine (HVV.out w3).mono ?_)
            rintro e w4 ⟨rfl, x4⟩
            clear q0 q1
            go_wp2_with fail
            go_ret
            exact ⟨rfl, (XR.out.trans X3.out).trans x4⟩
          | true =>
            go_wp2_with (go_at_call 98; refine (HVV.out w3).mono ?_)
            rintro e w4 ⟨rfl, x4⟩
            replace q0 := x4.cells _ _ q0
            have X4 := Lib.hid (X3.out.trans x4)
            clear x4 q1
            by_cases hz : z < (k : Int)
            · have hb : b = false := BAD.out _ _ HPP.out fun h => by have := h.2.2; rw [N3.out] at this; omega
              subst hb
              go_wp2_with (go_at_call 99; refine (HF.out w4 X4.out).mono ?_)
              rintro e w5 ⟨rfl, x5⟩
              clear q0
              go_wp2_with fail
              go_ret
              exact ⟨rfl, (XR.out.trans X4.out).trans x5⟩
            · have hzk : z = (k : Int) := by have := HLE.out; omega
              have HZ := Lib.hid hzk
              clear hzk
              go_wp2_with (go_at_call 99; refine (HF.out w4 X4.out).mono ?_)
              rintro e w5 ⟨rfl, x5⟩
              clear q0
              go_wp2_with fail
              go_roundw
              case rel =>
                refine ⟨k + 1, by omega, by go_num, (XR.out.trans X4.out).trans x5, fun j x hj hx => ?_⟩
                by_cases hjk : j = k
                · subst hjk
                  rw [HPP.out] at hx
                  cases hx
                  exact ⟨N1.out, N2.out, N3.out.trans HZ.out⟩
                · exact HPRE.out j x (by omega) hx
              case measure => simp [intOf]; omega
    · have hb : b = true := by
        rw [← HB.out]
        exact (attrsMay_iff l).2 fun j x hx => HPRE.out j x (by have := (List.getElem?_eq_some_iff.1 hx).1; omega) hx
      subst hb
      go_wp2
      go_ret
      exact ⟨rfl, xr⟩
set_option maxHeartbeats 400000 in
set_option maxRecDepth 100000 in
theorem rBlank_any (c : UInt8) (w : World) : Calls Tryd.prog 71 #[.int .u8 (c.toNat : Int)] w (RBool (blankB c) w) := by
  obtain ⟨b, hb⟩ : ∃ b, blankB c = b := ⟨_, rfl⟩
  rw [hb]
  have HB := Lib.hid hb
  have x := Ext.refl w
  have ne : ∀ m : UInt8, c ≠ m → ((c.toNat : Int) == (m.toNat : Int)) = false := by
    intro m h
    rw [beq_eq_false_iff_ne]
    intro e
    exact h (UInt8.toNat_inj.1 (by omega))
  have NE := Lib.hid ne
  clear hb ne
  by_cases h1 : c = 9
  · have e : b = true := by rw [← HB.out, h1]; rfl
    have e1 : ((c.toNat : Int) == 9) = true := by rw [h1]; rfl
    subst e
    clear h1
    go_enter Tryd.func71, Tryd.ntmps71
    go_wp2
    go_ret
    exact ⟨rfl, x⟩
  have e1 : ((c.toNat : Int) == 9) = false := NE.out 9 h1
  by_cases h2 : c = 10
  · have e : b = true := by rw [← HB.out, h2]; rfl
    have e2 : ((c.toNat : Int) == 10) = true := by rw [h2]; rfl
    subst e
    clear h1 h2
    go_enter Tryd.func71, Tryd.ntmps71
    go_wp2
    go_ret
    exact ⟨rfl, x⟩
  have e2 : ((c.toNat : Int) == 10) = false := NE.out 10 h2
  by_cases h3 : c = 12
  · have e : b = true := by rw [← HB.out, h3]; rfl
    have e3 : ((c.toNat : Int) == 12) = true := by rw [h3]; rfl
    subst e
    clear h1 h2 h3
    go_enter Tryd.func71, Tryd.ntmps71
    go_wp2
    go_ret
    exact ⟨rfl, x⟩
  have e3 : ((c.toNat : Int) == 12) = false := NE.out 12 h3
  by_cases h4 : c = 13
  · have e : b = true := by rw [← HB.out, h4]; rfl
    have e4 : ((c.toNat : Int) == 13) = true := by rw [h4]; rfl
    subst e
    clear h1 h2 h3 h4
    go_enter Tryd.func71, Tryd.ntmps71
    go_wp2
    go_ret
    exact ⟨rfl, x⟩
  have e4 : ((c.toNat : Int) == 13) = false := NE.out 13 h4
  by_cases h5 : c = 32
  · have e : b = true := by rw [← HB.out, h5]; rfl
    have e5 : ((c.toNat : Int) == 32) = true := by rw [h5]; rfl
    subst e
    clear h1 h2 h3 h4 h5
    go_enter Tryd.func71, Tryd.ntmps71
    go_wp2
    go_ret
    exact ⟨rfl, x⟩
  have e5 : ((c.toNat : Int) == 32) = false := NE.out 32 h5
  have e : b = false := by rw [← HB.out]; unfold blankB; simp [h1, h2, h3, h4, h5]
  subst e
  clear h1 h2 h3 h4 h5
  go_enter Tryd.func71, Tryd.ntmps71
  go_wp2
  go_ret
  exact ⟨rfl, x⟩
end Go.Proofs.YtdafdoodegpdhaaDoor
