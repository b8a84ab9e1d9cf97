/- quillworklaw08: weigh, Heavy: what is not heavy is light. No conditions. -/
import Derived.Test.YtiglflmjidikpaaArgs
namespace Go.Proofs.Ytiglflmjidikpaa
open Go Go.RowKit Go.BigFrame
set_option linter.unusedVariables false
set_option linter.unusedSimpArgs false

mutual
/-- what weigh leaves, if it looks at all of it -/
def PN.light : PN → Bool
  | .mk _ a s ks => decide (s.size ≤ 20000) && decide (a.length ≤ 200) && PN.lights ks
def PN.lights : List PN → Bool
  | [] => true
  | k :: r => PN.light k && PN.lights r
end
theorem PN.light_eq (n : PN) : n.light = (decide (n.text.size ≤ 20000) && decide (n.attrs.length ≤ 200) && PN.lights n.kids) := by cases n; rfl
theorem lights_snoc (l : List PN) (k : PN) : PN.lights (l ++ [k]) = (PN.lights l && PN.light k) := by
  induction l with
  | nil => simp [PN.lights]
  | cons x r ih => simp only [List.cons_append, PN.lights, ih, Bool.and_assoc]
theorem PN.light_short : ∀ n : PN, n.light = true → n.short = true := by
  refine PN.induct _ fun n ih h => ?_
  rw [PN.light_eq] at h
  simp at h
  rw [PN.short_eq]
  have : ∀ l : List PN, (∀ k ∈ l, k ∈ n.kids) → PN.lights l = true → PN.shorts l = true := by
    intro l
    induction l with
    | nil => intro _ _; rfl
    | cons x r ih2 =>
      intro hm hl
      simp only [PN.lights, Bool.and_eq_true] at hl
      simp only [PN.shorts, Bool.and_eq_true]
      exact ⟨ih x (hm x (by simp)) hl.1, ih2 (fun k hk => hm k (by simp [hk])) hl.2⟩
  simp
  exact ⟨⟨by omega, by omega⟩, this n.kids (fun k hk => hk) h.2⟩
mutual
def PN.weigh (left : Int) : PN → Int
  | .mk _ a s ks => if 20000 < s.size ∨ 200 < a.length then -1 else PN.weighs (left - 1 - a.length - (s.size : Int) / 64) ks
def PN.weighs (left : Int) : List PN → Int
  | [] => left
  | k :: r => if 0 ≤ left then PN.weighs (PN.weigh left k) r else left
end
theorem PN.weigh_eq (left : Int) (n : PN) : PN.weigh left n = if 20000 < n.text.size ∨ 200 < n.attrs.length then -1 else PN.weighs (left - 1 - n.attrs.length - (n.text.size : Int) / 64) n.kids := by cases n; rfl
theorem weighs_neg (l : List PN) {r : Int} (h : r < 0) : PN.weighs r l = r := by
  cases l with
  | nil => rfl
  | cons x l => simp only [PN.weighs]; rw [if_neg (by omega)]
theorem weighs_append : ∀ (l r : List PN) (z : Int), PN.weighs z (l ++ r) = PN.weighs (PN.weighs z l) r := by
  intro l
  induction l with
  | nil => intro r z; rfl
  | cons x l ih =>
    intro r z
    simp only [List.cons_append, PN.weighs]
    split
    · exact ih r _
    · rw [weighs_neg r (by omega)]
/-- weigh's answer: what is left; if anything is left, all is light -/
def WeighIs (n : PN) (left : Int) (w : World) (e : Ending) (w' : World) : Prop := ∃ r : Int, r = n.weigh left ∧ e = .returned (.int .i64 r) ∧ -1000000 ≤ r ∧ r ≤ 10000 ∧ (0 ≤ r → n.light = true ∧ r + n.size ≤ left) ∧ Ext w w'
set_option maxRecDepth 100000 in
set_option maxHeartbeats 4000000 in
theorem weigh_any {w0 : World} : ∀ (n : PN) (nv : Value) (left : Int) (w : World), RdN w0 n nv → Ext w0 w → -10000 ≤ left → left ≤ 10000 →
    Calls Try.prog 30 #[nv, .int .i64 left] w (WeighIs n left w) := by
  refine PN.induct _ fun n ih nv left w hr hx h0 h1 => ?_
  obtain ⟨av, kv, rfl, ha, hk⟩ := hr.open
  obtain ⟨aa, acap, rfl, hac⟩ := ha.len_of
  obtain ⟨ka, kcap, rfl, hkc, hkm, hkn, hkr⟩ := hk
  have x1 := (Ext.refl w).alloc (.cells #[.int .i64 n.tag, .slice aa n.attrs.length acap, .string n.text, .slice ka n.kids.length kcap] 30)
  have hbox := heap_alloc_new w (.cells #[.int .i64 n.tag, .slice aa n.attrs.length acap, .string n.text, .slice ka n.kids.length kcap] 30)
  have HKR := Lib.hid hkr
  have HKN := Lib.hid hkn
  have HX := Lib.hid hx
  have HX1 := Lib.hid x1
  have IH := Lib.hid ih
  unfold maxLen at hkm
  clear hkr hkn hx ih hr ha x1
  have hq1 : IntKind.i64.wrap (left - 1) = left - 1 := IntWalk.i64_in _ (by omega)
  go_enter Try.func30, Try.ntmps30
  go_upto_region 1 with fail
  obtain ⟨wb, hwb⟩ : ∃ wb : World, wb = w.alloc (.cells #[.int .i64 n.tag, .slice aa n.attrs.length acap, .string n.text, .slice ka n.kids.length kcap] 30) := ⟨_, rfl⟩
  rw [← hwb] at hbox HX1 ⊢
  clear hwb hq1
  have k1 := cellOf hbox (i := 1) (v := .slice aa n.attrs.length acap) rfl
  have k2 := cellOf hbox (i := 2) (v := .string n.text) rfl
  have k3 := cellOf hbox (i := 3) (v := .slice ka n.kids.length kcap) rfl
  clear hbox
  by_cases hbig : 20000 < n.text.size
  · go_wp2
    go_ret
    exact ⟨-1, by rw [PN.weigh_eq, if_pos (by omega)], rfl, by omega, by omega, fun h => by omega, HX1.out⟩
  · by_cases hbg2 : 200 < n.attrs.length
    · go_wp2
      go_ret
      exact ⟨-1, by rw [PN.weigh_eq, if_pos (by omega)], rfl, by omega, by omega, fun h => by omega, HX1.out⟩
    · have hd : (n.text.size : Int) / 64 ≤ 400 := by omega
      have hd0 : 0 ≤ (n.text.size : Int) / 64 := by omega
      have hkl : (n.kids.length : Int) ≤ 9223372036854775807 := by omega
      go_wp2_with fail
      go_loopw [1, 5] (fun l i wr => ∃ (k : Nat) (r : Int), k ≤ n.kids.length ∧ i = .int .i64 k ∧ l = .int .i64 r ∧ r = PN.weighs (left - 1 - n.attrs.length - (n.text.size : Int) / 64) (n.kids.take k) ∧ -1000000 ≤ r ∧ r ≤ 10000 ∧ Ext wb wr ∧ (0 ≤ r → PN.lights (n.kids.take k) = true ∧ r + 1 + PN.sizes (n.kids.take k) ≤ left)) (fun _ i _ => n.kids.length - (intOf i).toNat)
      case atStart => exact ⟨0, _, Nat.zero_le _, rfl, rfl, by simp [PN.weighs], by omega, by omega, Ext.refl _, fun _ => ⟨by simp [PN.lights], by simp [PN.sizes]; omega⟩⟩
      case round =>
        obtain ⟨k, r, hk, rfl, rfl, hw, r0, r1, xr, hlt⟩ := hrel
        have HWW := Lib.hid hw
        clear hw
        have HLT := Lib.hid hlt
        have HXR := Lib.hid xr
        replace k3 := xr.cell k3
        clear hlt xr
        have hfin : (r < 0 ∨ k = n.kids.length) → 0 ≤ r → n.light = true ∧ r + n.size ≤ left := fun hc hr0 => by
          have h := HLT.out hr0
          have hk' : k = n.kids.length := by rcases hc with hc | hc; omega; exact hc
          rw [hk', List.take_length] at h
          rw [PN.light_eq, PN.size_eq]
          simp [h.1]
          exact ⟨⟨by omega, by omega⟩, by push_cast; omega⟩
        have HFIN := Lib.hid hfin
        clear hfin
        by_cases hkk : k < n.kids.length
        · by_cases hr0 : 0 ≤ r
          · obtain ⟨x, hx⟩ : ∃ x, n.kids[k]? = some x := ⟨n.kids[k], by simp [hkk]⟩
            cases ka with
            | none => exact absurd (HKN.out rfl).1 (by omega)
            | some a =>
              obtain ⟨b, off, sp⟩ := a
              obtain ⟨c0', c1', c2', c3', q0, q1, q2, q3, hrd⟩ := HKR.out _ rfl k x hx
              have hxx : Ext w0 wr := (HX.out.trans HX1.out).trans HXR.out
              replace q0 := hxx.cells _ _ q0
              replace q1 := hxx.cells _ _ q1
              replace q2 := hxx.cells _ _ q2
              replace q3 := hxx.cells _ _ q3
              rw [add_later _ _ _ (by decide)] at q1 q2 q3
              have hrec := IH.out x (List.mem_of_getElem? hx) _ r wr hrd hxx (by omega) (by omega)
              have HREC := Lib.hid hrec
              have HXV := Lib.hid hx
              clear hx hrd hrec hxx
              go_wp2_with fail
              refine HREC.out.mono ?_
              rintro e w' ⟨r', hw', rfl, p1, p2, p3, p4⟩
              have HW' := Lib.hid hw'
              clear hw'
              have P3 := Lib.hid p3
              clear p3
              go_wp2_with fail
              go_roundw
              case rel =>
                refine ⟨k + 1, r', by omega, by go_num, rfl, ?_, by omega, by omega, HXR.out.trans p4, fun hr' => ?_⟩
                · obtain ⟨hlt', hxe⟩ := List.getElem?_eq_some_iff.1 HXV.out
                  rw [List.take_succ_eq_append_getElem hlt', hxe, weighs_append, ← HWW.out, HW'.out]
                  simp only [PN.weighs]
                  rw [if_pos hr0]
                obtain ⟨g1, g2⟩ := P3.out hr'
                obtain ⟨g3, g4⟩ := HLT.out hr0
                obtain ⟨hlt', hxe⟩ := List.getElem?_eq_some_iff.1 HXV.out
                rw [List.take_succ_eq_append_getElem hlt', hxe, lights_snoc, sizes_append]
                refine ⟨by rw [g3, g1]; rfl, ?_⟩
                simp only [PN.sizes]
                push_cast; omega
              case measure => simp [intOf]; omega
          · go_wp2_with fail
            go_ret
            refine ⟨r, ?_, rfl, r0, by omega, HFIN.out (.inl (by omega)), HX1.out.trans HXR.out⟩
            rw [PN.weigh_eq, if_neg (by omega), ← List.take_append_drop k n.kids, weighs_append, ← HWW.out, weighs_neg _ (by omega)]
        · go_wp2_with fail
          go_ret
          refine ⟨r, ?_, rfl, r0, by omega, HFIN.out (.inr (by omega)), HX1.out.trans HXR.out⟩
          rw [PN.weigh_eq, if_neg (by omega), HWW.out, List.take_of_length_le (by omega)]
theorem weighs_spec : ∀ (l : List PN), (∀ k ∈ l, ∀ left : Int, -10000 ≤ left → left ≤ 10000 → -1000000 ≤ k.weigh left ∧ (k.weigh left ≤ left ∨ k.weigh left = -1) ∧ (0 ≤ k.weigh left → k.light = true ∧ k.weigh left + k.size ≤ left)) →
    ∀ left : Int, -11000 ≤ left → left ≤ 10000 → -1000000 ≤ PN.weighs left l ∧ (PN.weighs left l ≤ left ∨ PN.weighs left l = -1) ∧ (0 ≤ PN.weighs left l → PN.lights l = true ∧ PN.weighs left l + PN.sizes l ≤ left) := by
  intro l
  induction l with
  | nil => intro _ left h0 h1; simp [PN.weighs, PN.lights, PN.sizes]; omega
  | cons k r ih =>
    intro h left h0 h1
    simp only [PN.weighs, PN.lights, PN.sizes]
    by_cases hl : 0 ≤ left
    · rw [if_pos hl]
      obtain ⟨a1, a2, a3⟩ := h k (by simp) left (by omega) h1
      by_cases hk : k.weigh left < 0
      · rw [weighs_neg r hk]
        exact ⟨a1, a2, fun h => by omega⟩
      · obtain ⟨b1, b2, b3⟩ := ih (fun x hx => h x (by simp [hx])) (k.weigh left) (by omega) (by omega)
        refine ⟨b1, by omega, fun hw => ?_⟩
        obtain ⟨q1, q2⟩ := b3 hw
        obtain ⟨q3, q4⟩ := a3 (by omega)
        exact ⟨by rw [q3, q1]; rfl, by push_cast; omega⟩
    · rw [if_neg hl]
      exact ⟨by omega, .inl (by omega), fun h => by omega⟩
theorem weigh_spec : ∀ (n : PN) (left : Int), -10000 ≤ left → left ≤ 10000 → -1000000 ≤ n.weigh left ∧ (n.weigh left ≤ left ∨ n.weigh left = -1) ∧ (0 ≤ n.weigh left → n.light = true ∧ n.weigh left + n.size ≤ left) := by
  refine PN.induct _ fun n ih left h0 h1 => ?_
  rw [PN.weigh_eq, PN.light_eq, PN.size_eq]
  by_cases hb : 20000 < n.text.size ∨ 200 < n.attrs.length
  · rw [if_pos hb]
    exact ⟨by omega, .inr rfl, fun h => by omega⟩
  · rw [if_neg hb]
    have hd : (n.text.size : Int) / 64 ≤ 400 := by omega
    have hd0 : 0 ≤ (n.text.size : Int) / 64 := by omega
    obtain ⟨b1, b2, b3⟩ := weighs_spec n.kids ih (left - 1 - n.attrs.length - (n.text.size : Int) / 64) (by omega) (by omega)
    refine ⟨b1, by omega, fun hw => ?_⟩
    obtain ⟨q1, q2⟩ := b3 hw
    simp [q1]
    exact ⟨⟨by omega, by omega⟩, by omega⟩
/-- a call is light -/
def LightCl (c : Cl) : Prop := c.s.size ≤ 20000 ∧ c.attrs.length ≤ 200 ∧ c.n.light = true ∧ c.n.size ≤ 4000
def Light (l : List Cl) : Prop := l.length ≤ 200 ∧ ∀ c ∈ l, LightCl c
def HeavyIs (l : List Cl) (w : World) (e : Ending) (w' : World) : Prop := ∃ b : Bool, e = .returned (.bool b) ∧ Ext w w' ∧ (b = false → Light l)
theorem add_pos (a : Addr) (j : Nat) (hj : 0 < j) : a.add j = ⟨a.block, a.off + j, none⟩ := by unfold Addr.add; rw [if_neg (by omega)]
theorem weigh_ok {w0 : World} (n : PN) (nv : Value) (left : Int) (w : World) (h1 : RdN w0 n nv) (h2 : Ext w0 w) (h3 : -10000 ≤ left) (h4 : left ≤ 10000) (P : Prop)
    (h : (-1000000 ≤ n.weigh left → n.weigh left ≤ 10000 → (0 ≤ n.weigh left → n.light = true ∧ n.weigh left + n.size ≤ left) → P)) : Calls Try.prog 30 #[nv, .int .i64 left] w (fun e w' => RVal (.int .i64 (n.weigh left)) w e w' ∧ P) :=
  (weigh_any n nv left w h1 h2 h3 h4).mono fun e w' ⟨r, hr, he, p1, p2, p3, hx⟩ => ⟨⟨hr ▸ he, hx⟩, h (hr ▸ p1) (hr ▸ p2) (by rw [← hr]; exact p3)⟩
theorem weigh_any' {w0 : World} (n : PN) (nv : Value) (left : Int) (w : World) (h1 : RdN w0 n nv) (h2 : Ext w0 w) (h3 : -10000 ≤ left) (h4 : left ≤ 10000) :
    Calls Try.prog 30 #[nv, .int .i64 left] w (RVal (.int .i64 (n.weigh left)) w) :=
  (weigh_any n nv left w h1 h2 h3 h4).mono fun e w' ⟨r, hr, he, _, _, _, hx⟩ => ⟨hr ▸ he, hx⟩
set_option maxRecDepth 100000 in
set_option maxHeartbeats 4000000 in
theorem Heavy_any {w : World} {l : List Cl} {v : Value} (hl : CallsRd w l v) : Calls Try.prog 15 #[v] w (HeavyIs l w) := by
  obtain ⟨ao, cap, rfl, hc1, hc2, hno, hcl⟩ := hl
  have HNO := Lib.hid hno
  have HCL := Lib.hid hcl
  unfold maxLen at hc2
  clear hno hcl
  by_cases hbig : 200 < l.length
  · go_enter Try.func15, Try.ntmps15
    go_wp2_with fail
    go_ret
    exact ⟨true, rfl, Ext.refl _, fun h => by cases h⟩
  · go_enter Try.func15, Try.ntmps15
    go_wp2_with fail
    go_loopw [3, 4] (fun z i wr => ∃ (k : Nat) (r : Int), k ≤ l.length ∧ i = .int .i64 k ∧ z = .int .i64 r ∧ -1000000 ≤ r ∧ r ≤ 4000 ∧ Ext w wr ∧ (0 ≤ r → ∀ c ∈ l.take k, LightCl c)) (fun _ i _ => l.length - (intOf i).toNat)
    case atStart => exact ⟨0, 4000, Nat.zero_le _, rfl, rfl, by omega, by omega, Ext.refl _, fun _ c hc => by simp at hc⟩
    case round =>
      obtain ⟨k, r, hk, rfl, rfl, r0, r1, xr, hlt⟩ := hrel
      have HLT := Lib.hid hlt
      have HXR := Lib.hid xr
      clear hlt xr
      by_cases hkk : k < l.length
      · by_cases hr0 : 0 ≤ r
        · obtain ⟨c, hc⟩ : ∃ c, l[k]? = some c := ⟨l[k], by simp [hkk]⟩
          cases ao with
          | none => exact absurd (HNO.out rfl) (by omega)
          | some a =>
            obtain ⟨b, off, sp⟩ := a
            obtain ⟨av, c6, c7, c8, c9, q0, q1, q2, q3, q4, q5, q6, q7, q8, q9, hra, hrn⟩ := HCL.out _ rfl k c hc
            obtain ⟨aa, acap, rfl, hac⟩ := hra.len_of
            obtain ⟨n0, n1, en, hna, hnk⟩ := hrn.open
            obtain ⟨naa, nac, en0, _⟩ := hna.len_of
            obtain ⟨nka, nkc, en1, _⟩ := hnk
            subst en0 en1
            cases en
            have X := HXR.out.cells
            replace q4 := X _ _ q4
            replace q5 := X _ _ q5
            replace q6 := X _ _ q6
            replace q7 := X _ _ q7
            replace q8 := X _ _ q8
            replace q9 := X _ _ q9
            rw [add_pos _ _ (by decide)] at q4 q5 q6 q7 q8 q9
            have HRN := Lib.hid hrn
            have HC := Lib.hid hc
            clear q0 q1 q2 q3 X hra hrn hna hc
            by_cases hs1 : 20000 < c.s.size
            · go_wp2_with fail
              go_ret
              exact ⟨true, rfl, HXR.out, fun h => by cases h⟩
            · by_cases hs2 : 200 < c.attrs.length
              · go_wp2_with fail
                go_ret
                exact ⟨true, rfl, HXR.out, fun h => by cases h⟩
              · have hd : (c.s.size : Int) / 64 ≤ 400 := by omega
                have hd0 : 0 ≤ (c.s.size : Int) / 64 := by omega
                have d4 := fun u : ExtOf wr => u.ext.cells _ _ q4
                have d5 := fun u : ExtOf wr => u.ext.cells _ _ q5
                have d6 := fun u : ExtOf wr => u.ext.cells _ _ q6
                have d7 := fun u : ExtOf wr => u.ext.cells _ _ q7
                have d8 := fun u : ExtOf wr => u.ext.cells _ _ q8
                have d9 := fun u : ExtOf wr => u.ext.cells _ _ q9
                have e1 : IntKind.i64.wrap (r - (c.attrs.length : Int)) = r - c.attrs.length := IntWalk.i64_in _ (by omega)
                have e2 : IntKind.i64.wrap (r - (c.attrs.length : Int) - (c.s.size : Int) / 64) = r - c.attrs.length - (c.s.size : Int) / 64 := IntWalk.i64_in _ (by omega)
                have e3 : (c.s.size : Int).tdiv 64 = (c.s.size : Int) / 64 := Int.tdiv_eq_ediv_of_nonneg (by omega)
                have e4 : IntKind.i64.wrap ((c.s.size : Int) / 64) = (c.s.size : Int) / 64 := IntWalk.i64_in _ (by omega)
                go_upto_region 9 with fail
                refine wp_region_ext (by kernel_rfl) (by kernel_rfl) ?_
                repeat (go_big_quiet_step ((go_at_call 30; exact inExt (weigh_any' c.n _ (r - c.attrs.length - (c.s.size : Int) / 64) _ HRN.out (HXR.out.trans (ExtOf.ext _)) (by omega) (by omega)))))
                refine wpQuiet_nil ?_
                rintro _ ⟨u, rfl⟩
                clear d4 d5 d6 d7 d8 d9 e1 e2 e3 e4
                obtain ⟨p1, p2, p3⟩ := weigh_spec c.n (r - c.attrs.length - (c.s.size : Int) / 64) (by omega) (by omega)
                have P1 := Lib.hid p1
                have P2 := Lib.hid p2
                have P3 := Lib.hid p3
                clear p1 p2 p3
                go_wp2_with fail
                go_roundw
                case rel =>
                  have p1 := P1.out
                  have p2 := P2.out
                  refine ⟨k + 1, _, by omega, by go_num, rfl, by omega, by omega, HXR.out.trans u.ext, fun hr' c' hc' => ?_⟩
                  obtain ⟨g1, g2⟩ := P3.out hr'
                  obtain ⟨hlt', hxe⟩ := List.getElem?_eq_some_iff.1 HC.out
                  rw [List.take_succ_eq_append_getElem hlt', hxe] at hc'
                  rcases List.mem_append.1 hc' with h | h
                  · exact HLT.out hr0 c' h
                  · simp at h
                    subst h
                    exact ⟨by omega, by omega, g1, by omega⟩
                case measure => simp [intOf]; omega
        · go_wp2_with fail
          go_ret
          exact ⟨_, rfl, HXR.out, fun h => by simp at h <;> omega⟩
      · go_wp2_with fail
        go_ret
        refine ⟨_, rfl, HXR.out, fun h => ⟨by omega, fun c hc => ?_⟩⟩
        have h0 : 0 ≤ r := by simpa using h
        exact HLT.out h0 c (by rw [List.take_of_length_le (by omega)]; exact hc)
end Go.Proofs.Ytiglflmjidikpaa
