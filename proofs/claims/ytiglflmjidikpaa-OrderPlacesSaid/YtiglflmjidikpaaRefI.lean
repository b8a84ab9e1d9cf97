/- quillworkref08: May, High of plain trees; May is what measure finds. Conditions: texts of at most 100000 bytes, 100000 nodes. Printed by wip/gen_refi.py. -/
import Derived.Test.YtiglflmjidikpaaRefH
namespace Go.Proofs.Ytiglflmjidikpaa
open Go Go.RowKit Go.BigFrame
set_option linter.unusedVariables false
set_option linter.unusedSimpArgs false

def longZ (s : ByteArray) : Int := if 8192 < (anewB s).size then 10 else 0
mutual
/-- the error of a plain tree -/
def PN.worst : PN → Int
  | .mk t a s ks => if (PN.mk t a s ks).bad then 1 else PN.worsts (longZ s) ks
def PN.worsts (z : Int) : List PN → Int
  | [] => z
  | k :: r => if PN.worst k = 1 then 1 else PN.worsts (if PN.worst k = 0 then z else PN.worst k) r
end
theorem PN.worst_eq (n : PN) : n.worst = if n.bad then 1 else PN.worsts (longZ n.text) n.kids := by cases n; rfl
theorem longZ_in (s : ByteArray) : longZ s = 0 ∨ longZ s = 10 := by unfold longZ; split; exact .inr rfl; exact .inl rfl
theorem worsts_in : ∀ (l : List PN), (∀ k ∈ l, k.worst = 0 ∨ k.worst = 1 ∨ k.worst = 10) → ∀ z : Int, (z = 0 ∨ z = 10) → PN.worsts z l = 0 ∨ PN.worsts z l = 1 ∨ PN.worsts z l = 10 := by
  intro l
  induction l with
  | nil => intro _ z hz; simp only [PN.worsts]; rcases hz with h | h; exact .inl h; exact .inr (.inr h)
  | cons k r ih =>
    intro h z hz
    simp only [PN.worsts]
    have h1 := h k List.mem_cons_self
    split
    · exact .inr (.inl rfl)
    · refine ih (fun x hx => h x (List.mem_cons_of_mem _ hx)) _ ?_
      split
      · exact hz
      · rcases h1 with h1 | h1 | h1
        · exact .inl h1
        · contradiction
        · exact .inr h1
theorem worst_in (n : PN) : n.worst = 0 ∨ n.worst = 1 ∨ n.worst = 10 := by
  revert n
  refine PN.induct _ fun n ih => ?_
  rw [PN.worst_eq]
  split
  · exact .inr (.inl rfl)
  · exact worsts_in n.kids ih _ (longZ_in _)
theorem worsts_cons (z : Int) (k : PN) (r : List PN) : PN.worsts z (k :: r) = if k.worst = 1 then 1 else PN.worsts (if k.worst = 0 then z else k.worst) r := rfl
theorem worsts_ten : ∀ (l : List PN), PN.worsts 10 l = if PN.worsts 0 l = 1 then 1 else 10 := by
  intro l
  induction l with
  | nil => simp [PN.worsts]
  | cons k r ih =>
    have h3 := worsts_in r (fun k _ => worst_in k) 0 (.inl rfl)
    generalize hv : PN.worsts 0 (k :: r) = v
    rw [worsts_cons] at hv ⊢
    rcases worst_in k with h | h | h
    · rw [h] at hv ⊢
      simp only [if_true, if_neg (show ¬ (0 : Int) = 1 by decide)] at hv ⊢
      rw [ih, hv]
    · rw [h] at hv ⊢
      simp only [if_true] at hv ⊢
      rw [← hv]; rfl
    · rw [h] at hv ⊢
      simp only [if_neg (show ¬ (10 : Int) = 1 by decide), if_neg (show ¬ (10 : Int) = 0 by decide)] at hv ⊢
      rw [ih] at hv ⊢
      rw [← hv]
      split <;> simp
theorem looks_one : ∀ (l : List PN), (∀ k ∈ l, ∀ (deep : Int) (m : Ms), m.e = 1 → (PN.look deep m k).e = 1) → ∀ (deep : Int) (m : Ms), m.e = 1 → (PN.looks deep m l).e = 1 := by
  intro l
  induction l with
  | nil => intro _ deep m h; exact h
  | cons k r ih =>
    intro h deep m hm
    simp only [PN.looks]
    exact ih (fun x hx => h x (List.mem_cons_of_mem _ hx)) _ _ (h k List.mem_cons_self _ _ hm)
theorem look_one : ∀ (n : PN) (deep : Int) (m : Ms), m.e = 1 → (PN.look deep m n).e = 1 := by
  refine PN.induct _ fun n ih deep m hm => ?_
  rw [PN.look_eq]
  refine looks_one n.kids ih _ _ ?_
  unfold Ms.one
  simp [hm]
def WorstTo (z v : Int) : Int := if v = 1 then 1 else if v = 0 then z else v
theorem looks_worst : ∀ (l : List PN), (∀ k ∈ l, ∀ (deep : Int) (m : Ms), (m.e = 0 ∨ m.e = 10) → (PN.look deep m k).e = WorstTo m.e k.worst) → ∀ (deep : Int) (m : Ms), (m.e = 0 ∨ m.e = 10) → (PN.looks deep m l).e = PN.worsts m.e l := by
  intro l
  induction l with
  | nil => intro _ deep m h; rfl
  | cons k r ih =>
    intro h deep m hm
    simp only [PN.looks, PN.worsts]
    have h1 := h k List.mem_cons_self deep m hm
    unfold WorstTo at h1
    rcases worst_in k with h2 | h2 | h2
    · rw [h2] at h1 ⊢
      simp only [if_neg (show ¬ (0 : Int) = 1 by decide), if_true] at h1 ⊢
      rw [ih (fun x hx => h x (List.mem_cons_of_mem _ hx)) deep _ (by rw [h1]; exact hm), h1]
    · rw [h2] at h1 ⊢
      simp only [if_true] at h1 ⊢
      exact looks_one r (fun x _ => look_one x) _ _ h1
    · rw [h2] at h1 ⊢
      simp only [if_neg (show ¬ (10 : Int) = 1 by decide), if_neg (show ¬ (10 : Int) = 0 by decide)] at h1 ⊢
      rw [ih (fun x hx => h x (List.mem_cons_of_mem _ hx)) deep _ (by rw [h1]; exact .inr rfl), h1]
theorem look_worst : ∀ (n : PN) (deep : Int) (m : Ms), (m.e = 0 ∨ m.e = 10) → (PN.look deep m n).e = WorstTo m.e n.worst := by
  refine PN.induct _ fun n ih deep m hm => ?_
  rw [PN.look_eq, PN.worst_eq]
  cases hb : n.bad with
  | true =>
    simp only [if_true]
    have h1 : (Ms.one n deep m).e = 1 := by unfold Ms.one; simp [hb]
    rw [looks_one n.kids (fun x _ => look_one x) _ _ h1]
    rfl
  | false =>
    simp only [Bool.false_eq_true, if_false]
    have h1 : (Ms.one n deep m).e = if 8192 < (anewB n.text).size then 10 else m.e := by
      unfold Ms.one
      simp only [hb, Bool.false_eq_true, if_false]
      by_cases hl : 8192 < (anewB n.text).size
      · rcases hm with h | h <;> simp [hl, h]
      · simp [hl]
    have h2 : (Ms.one n deep m).e = 0 ∨ (Ms.one n deep m).e = 10 := by rw [h1]; split; exact .inr rfl; exact hm
    rw [looks_worst n.kids ih _ _ h2, h1]
    unfold WorstTo longZ
    have h3 := worsts_in n.kids (fun k _ => worst_in k) 0 (.inl rfl)
    have h4 := worsts_ten n.kids
    by_cases hl : 8192 < (anewB n.text).size
    · simp only [if_pos hl]
      rcases h3 with h3 | h3 | h3 <;> rw [h4, h3] <;> simp
    · simp only [if_neg hl]
      rcases hm with hm | hm <;> rw [hm]
      · rcases h3 with h3 | h3 | h3 <;> rw [h3] <;> simp
      · rcases h3 with h3 | h3 | h3 <;> rw [h4, h3] <;> simp
/-- measure finds the error of the document -/
theorem look_e0 (n : PN) : (PN.look 0 ⟨0, 0, 0⟩ n).e = n.worst := by
  rw [look_worst n 0 ⟨0, 0, 0⟩ (.inl rfl)]
  unfold WorstTo
  rcases worst_in n with h | h | h <;> rw [h] <;> simp
theorem worsts_step {l : List PN} {k : Nat} {x : PN} (h : l[k]? = some x) (z : Int) : PN.worsts z (l.drop k) = if x.worst = 1 then 1 else PN.worsts (if x.worst = 0 then z else x.worst) (l.drop (k + 1)) := by
  obtain ⟨hlt, he⟩ := List.getElem?_eq_some_iff.1 h
  rw [List.drop_eq_getElem_cons hlt, he]
  rfl
theorem worst_zero {n : PN} : n.worst = 0 ↔ n.ok = true := by
  rw [← look_e0, (look_spec n 0 ⟨0, 0, 0⟩).2.2]
  simp
theorem sizes_mem {l : List PN} {x : PN} (h : x ∈ l) : x.size ≤ PN.sizes l := by
  induction l with
  | nil => cases h
  | cons k r ih =>
    simp only [PN.sizes]
    rcases List.mem_cons.1 h with rfl | h
    · omega
    · have := ih h; omega
theorem highs_append : ∀ (l r : List PN), PN.highs (l ++ r) = max (PN.highs l) (PN.highs r) := by
  intro l
  induction l with
  | nil => intro r; simp [PN.highs]
  | cons k l ih => intro r; simp only [List.cons_append, PN.highs, ih]; omega
theorem highs_snoc {l : List PN} {k : Nat} {x : PN} (h : l[k]? = some x) : PN.highs (l.take (k + 1)) = max (PN.highs (l.take k)) (x.high + 1) := by
  obtain ⟨hlt, he⟩ := List.getElem?_eq_some_iff.1 h
  rw [List.take_succ_eq_append_getElem hlt, he, highs_append]
  simp [PN.highs]
set_option maxRecDepth 100000 in
set_option maxHeartbeats 2000000 in
theorem rMay_any {w0 : World} : ∀ (n : PN) (nv : Value) (w : World), n.short = true → n.size ≤ 100000 → RdN w0 n nv → Ext w0 w → Calls Try.prog 131 #[nv] w (RVal (.int .i64 n.worst) w) := by
  refine PN.induct _ fun n ih nv w hsh hsz hr hx => ?_
  have hnl := n.len_size
  obtain ⟨av, kv, rfl, ha, hk⟩ := hr.open
  obtain ⟨aa, acap, rfl, hac⟩ := ha.len_of
  obtain ⟨ka, kcap, rfl, hkc, hkm, hkn, hkr⟩ := hk
  have x1 := (Ext.refl w).alloc (.cells #[.int .i64 n.tag, .slice aa n.attrs.length acap, .string n.text, .slice ka n.kids.length kcap] 30)
  have hbox := heap_alloc_new w (.cells #[.int .i64 n.tag, .slice aa n.attrs.length acap, .string n.text, .slice ka n.kids.length kcap] 30)
  have HKR := Lib.hid hkr
  have HKN := Lib.hid hkn
  have HX := Lib.hid hx
  have HX1 := Lib.hid x1
  have IH := Lib.hid ih
  unfold maxLen at hkm
  have HSE := Lib.hid n.size_eq
  have HSZ := Lib.hid hsz
  have hts : n.text.size ≤ 100000 := by rw [PN.short_eq] at hsh; simp at hsh; exact hsh.1.1
  have has : n.attrs.length ≤ 60000 := by rw [PN.short_eq] at hsh; simp at hsh; exact hsh.1.2
  have hks : PN.shorts n.kids = true := by rw [PN.short_eq] at hsh; simp at hsh; exact hsh.2
  have hbs : (anewB n.text).size ≤ 400000 := by have := anewB_size n.text; omega
  have hwe := n.worst_eq
  have HTS := Lib.hid hts
  have HWE := Lib.hid hwe
  have HKS := Lib.hid hks
  replace hnl : n.kids.length ≤ 100000 := by omega
  clear hkr hkn hx ih hr ha x1 hsz hsh hks hwe hts
  go_enter Try.func131, Try.ntmps131
  go_upto_region 1 with fail
  obtain ⟨wb, hwb⟩ : ∃ wb : World, wb = w.alloc (.cells #[.int .i64 n.tag, .slice aa n.attrs.length acap, .string n.text, .slice ka n.kids.length kcap] 30) := ⟨_, rfl⟩
  rw [← hwb] at hbox HX1 ⊢
  clear hwb
  have k0 := cellOf hbox (i := 0) (v := .int .i64 n.tag) rfl
  have k1 := cellOf hbox (i := 1) (v := .slice aa n.attrs.length acap) rfl
  have k2 := cellOf hbox (i := 2) (v := .string n.text) rfl
  have k3 := cellOf hbox (i := 3) (v := .slice ka n.kids.length kcap) rfl
  clear hbox
  have K3 := Lib.hid (fun (wr : World) (x : Ext wb wr) => x.cell k3)
  have hz9 : (wb.heap.size : Int) = wb.heap.size := rfl
  clear hz9
  by_cases ht : n.tag = 0
  · have tb : (n.tag == 0) = true := by simp [ht]
    have d0 : decide (n.tag < 0) = false := by simp; omega
    have d1 : decide (16 < n.tag) = false := by simp; omega
    have d2 : decide (0 < n.tag) = false := by simp; omega
    have t0 : 0 ≤ n.tag := by omega
    have t1 : n.tag ≤ 16 := by omega
    have t2 : n.tag ≤ 0 := by omega
    have HT := Lib.hid ht
    by_cases hA : 0 < n.attrs.length
    · have HBAD : Hid (n.bad = true) := Lib.hid (bad_attrs ht hA)
      clear ht
      go_wp2_with fail
      go_ret
      refine ⟨?_, HX1.out⟩
      rw [HWE.out, if_pos HBAD.out]; rfl
    · have hA0 : n.attrs.length = 0 := by omega
      by_cases hK : 0 < n.kids.length
      · have HBAD : Hid (n.bad = true) := Lib.hid (bad_kids ht hK)
        clear ht hA0
        go_wp2_with fail
        go_ret
        refine ⟨?_, HX1.out⟩
        rw [HWE.out, if_pos HBAD.out]; rfl
      · have HBAD : Hid (n.bad = false) := Lib.hid (bad_text ht hA hK)
        clear ht
        go_upto_region 4 with fail
        clear hA hA0 hK
        obtain ⟨z, hz, hzc⟩ : ∃ z, longZ n.text = z ∧ (z = 0 ∨ z = 10) := ⟨_, rfl, longZ_in _⟩
        have hLZ : n.worst = PN.worsts z n.kids := by rw [HWE.out, if_neg (by rw [HBAD.out]; decide), hz]
        have HLZ := Lib.hid hLZ
        clear hLZ
        by_cases hl : 8192 < (anewB n.text).size
        · have hz10 : z = 10 := by rw [← hz]; unfold longZ; rw [if_pos hl]
          subst hz10
          have d3 : decide (8192 < ((anewB n.text).size : Int)) = true := by simp; omega
          go_wp2_with (go_at_call 127; refine (Anew_any _ HTS.out _).mono ?_; rintro e w' ⟨rfl, hy⟩; replace k3 := hy.cell k3; have HY := Lib.hid hy; clear hy)
          go_loopw [2, 3, 4, 5] (fun _ v i _ wr => ∃ (k : Nat) (z : Int), k ≤ n.kids.length ∧ i = .int .i64 k ∧ v = .int .i64 z ∧ (z = 0 ∨ z = 10) ∧ Ext wb wr ∧ Hid (n.worst = PN.worsts z (n.kids.drop k))) (fun _ _ i _ _ => n.kids.length - (intOf i).toNat)
          case atStart => exact ⟨0, _, Nat.zero_le _, rfl, rfl, .inr rfl, HY.out, Lib.hid (by rw [List.drop_zero]; exact HLZ.out)⟩
          case round =>
            obtain ⟨k, z, hk, rfl, rfl, hzc, xr, hwz⟩ := hrel
            have HXR := Lib.hid xr
            have k3 := (K3.out _ xr)
            by_cases hkk : k < n.kids.length
            · obtain ⟨x, hx⟩ : ∃ x, n.kids[k]? = some x := ⟨n.kids[k], by simp [hkk]⟩
              cases ka with
              | none => exact absurd (HKN.out rfl).1 (by omega)
              | some a =>
                obtain ⟨b, off, sp⟩ := a
                obtain ⟨c0', c1', c2', c3', q0, q1, q2, q3, hrd⟩ := HKR.out _ rfl k x hx
                have hxx : Ext w0 wr := (HX.out.trans HX1.out).trans HXR.out
                replace q0 := hxx.cells _ _ q0
                replace q1 := hxx.cells _ _ q1
                replace q2 := hxx.cells _ _ q2
                replace q3 := hxx.cells _ _ q3
                rw [add_later _ _ _ (by decide)] at q1 q2 q3
                have htk := sizes_mem (List.mem_of_getElem? hx)
                have h1 := HSE.out
                have h2 := HSZ.out
                have hrec := IH.out x (List.mem_of_getElem? hx) _ wr (PN.shorts_mem HKS.out (List.mem_of_getElem? hx)) (by omega) hrd hxx
                have hst := worsts_step hx z
                have hwz2 := hwz.out
                rw [hst] at hwz2
                have HWZ := Lib.hid hwz2
                rcases worst_in x with hv | hv | hv
                · rw [hv] at hrec
                  have HN := Lib.hid (show n.worst = PN.worsts z (n.kids.drop (k + 1)) by rw [HWZ.out, hv]; simp)
                  have HREC := Lib.hid hrec
                  clear hx hrd hrec hxx htk h1 h2 hst hwz2 hv hwz xr
                  go_wp2_with (go_at_call 131; refine HREC.out.mono ?_; rintro e w' ⟨rfl, p4⟩)
                  go_roundw
                  case rel => exact ⟨k + 1, z, by omega, by go_num, rfl, hzc, HXR.out.trans p4, HN⟩
                  case measure => simp [intOf]; omega
                · rw [hv] at hrec
                  have HN := Lib.hid (show n.worst = 1 by rw [HWZ.out, hv]; simp)
                  have HREC := Lib.hid hrec
                  clear hx hrd hrec hxx htk h1 h2 hst hwz2 hv hwz xr
                  go_wp2_with (go_at_call 131; refine HREC.out.mono ?_; rintro e w' ⟨rfl, p4⟩; have HP4 := Lib.hid p4)
                  go_ret
                  exact ⟨by rw [HN.out]; rfl, (HX1.out.trans HXR.out).trans HP4.out⟩
                · rw [hv] at hrec
                  have HN := Lib.hid (show n.worst = PN.worsts 10 (n.kids.drop (k + 1)) by rw [HWZ.out, hv]; simp)
                  have HREC := Lib.hid hrec
                  clear hx hrd hrec hxx htk h1 h2 hst hwz2 hv hwz xr
                  go_wp2_with (go_at_call 131; refine HREC.out.mono ?_; rintro e w' ⟨rfl, p4⟩)
                  go_roundw
                  case rel => exact ⟨k + 1, 10, by omega, by go_num, rfl, .inr rfl, HXR.out.trans p4, HN⟩
                  case measure => simp [intOf]; omega
            · obtain rfl : k = n.kids.length := by omega
              have hwz2 := hwz.out
              rw [List.drop_length] at hwz2
              have HN := Lib.hid (show n.worst = z from hwz2)
              clear hwz hwz2
              go_wp2_with fail
              go_ret
              exact ⟨by rw [HN.out]; rfl, HX1.out.trans HXR.out⟩
        · have hz0 : z = 0 := by rw [← hz]; unfold longZ; rw [if_neg hl]
          subst hz0
          have d3 : decide (8192 < ((anewB n.text).size : Int)) = false := by simp; omega
          go_wp2_with (go_at_call 127; refine (Anew_any _ HTS.out _).mono ?_; rintro e w' ⟨rfl, hy⟩; replace k3 := hy.cell k3; have HY := Lib.hid hy; clear hy)
          go_loopw [2, 3, 4, 5] (fun _ v i _ wr => ∃ (k : Nat) (z : Int), k ≤ n.kids.length ∧ i = .int .i64 k ∧ v = .int .i64 z ∧ (z = 0 ∨ z = 10) ∧ Ext wb wr ∧ Hid (n.worst = PN.worsts z (n.kids.drop k))) (fun _ _ i _ _ => n.kids.length - (intOf i).toNat)
          case atStart => exact ⟨0, _, Nat.zero_le _, rfl, rfl, .inl rfl, HY.out, Lib.hid (by rw [List.drop_zero]; exact HLZ.out)⟩
          case round =>
            obtain ⟨k, z, hk, rfl, rfl, hzc, xr, hwz⟩ := hrel
            have HXR := Lib.hid xr
            have k3 := (K3.out _ xr)
            by_cases hkk : k < n.kids.length
            · obtain ⟨x, hx⟩ : ∃ x, n.kids[k]? = some x := ⟨n.kids[k], by simp [hkk]⟩
              cases ka with
              | none => exact absurd (HKN.out rfl).1 (by omega)
              | some a =>
                obtain ⟨b, off, sp⟩ := a
                obtain ⟨c0', c1', c2', c3', q0, q1, q2, q3, hrd⟩ := HKR.out _ rfl k x hx
                have hxx : Ext w0 wr := (HX.out.trans HX1.out).trans HXR.out
                replace q0 := hxx.cells _ _ q0
                replace q1 := hxx.cells _ _ q1
                replace q2 := hxx.cells _ _ q2
                replace q3 := hxx.cells _ _ q3
                rw [add_later _ _ _ (by decide)] at q1 q2 q3
                have htk := sizes_mem (List.mem_of_getElem? hx)
                have h1 := HSE.out
                have h2 := HSZ.out
                have hrec := IH.out x (List.mem_of_getElem? hx) _ wr (PN.shorts_mem HKS.out (List.mem_of_getElem? hx)) (by omega) hrd hxx
                have hst := worsts_step hx z
                have hwz2 := hwz.out
                rw [hst] at hwz2
                have HWZ := Lib.hid hwz2
                rcases worst_in x with hv | hv | hv
                · rw [hv] at hrec
                  have HN := Lib.hid (show n.worst = PN.worsts z (n.kids.drop (k + 1)) by rw [HWZ.out, hv]; simp)
                  have HREC := Lib.hid hrec
                  clear hx hrd hrec hxx htk h1 h2 hst hwz2 hv hwz xr
                  go_wp2_with (go_at_call 131; refine HREC.out.mono ?_; rintro e w' ⟨rfl, p4⟩)
                  go_roundw
                  case rel => exact ⟨k + 1, z, by omega, by go_num, rfl, hzc, HXR.out.trans p4, HN⟩
                  case measure => simp [intOf]; omega
                · rw [hv] at hrec
                  have HN := Lib.hid (show n.worst = 1 by rw [HWZ.out, hv]; simp)
                  have HREC := Lib.hid hrec
                  clear hx hrd hrec hxx htk h1 h2 hst hwz2 hv hwz xr
                  go_wp2_with (go_at_call 131; refine HREC.out.mono ?_; rintro e w' ⟨rfl, p4⟩; have HP4 := Lib.hid p4)
                  go_ret
                  exact ⟨by rw [HN.out]; rfl, (HX1.out.trans HXR.out).trans HP4.out⟩
                · rw [hv] at hrec
                  have HN := Lib.hid (show n.worst = PN.worsts 10 (n.kids.drop (k + 1)) by rw [HWZ.out, hv]; simp)
                  have HREC := Lib.hid hrec
                  clear hx hrd hrec hxx htk h1 h2 hst hwz2 hv hwz xr
                  go_wp2_with (go_at_call 131; refine HREC.out.mono ?_; rintro e w' ⟨rfl, p4⟩)
                  go_roundw
                  case rel => exact ⟨k + 1, 10, by omega, by go_num, rfl, .inr rfl, HXR.out.trans p4, HN⟩
                  case measure => simp [intOf]; omega
            · obtain rfl : k = n.kids.length := by omega
              have hwz2 := hwz.out
              rw [List.drop_length] at hwz2
              have HN := Lib.hid (show n.worst = z from hwz2)
              clear hwz hwz2
              go_wp2_with fail
              go_ret
              exact ⟨by rw [HN.out]; rfl, HX1.out.trans HXR.out⟩
  · have tb : (n.tag == 0) = false := by simpa using ht
    have HT := Lib.hid ht
    by_cases hE : 1 ≤ n.tag ∧ n.tag ≤ 16
    · by_cases hS : n.text.size = 0
      · have HBAD : Hid (n.bad = false) := Lib.hid (bad_fine ht hE hS)
        have hemp := text_none hS
        have hsb : n.text.toList.isEmpty = true := by rw [hemp, ByteArray.toList_eq]; rfl
        obtain ⟨E1, E2⟩ := hE
        have hst : n.text.toList = [] := by rw [hemp, ByteArray.toList_eq]; rfl
        clear ht hS hemp
        go_upto_region 4 with fail
        obtain ⟨z, hz, hzc⟩ : ∃ z, longZ n.text = z ∧ (z = 0 ∨ z = 10) := ⟨_, rfl, longZ_in _⟩
        have hLZ : n.worst = PN.worsts z n.kids := by rw [HWE.out, if_neg (by rw [HBAD.out]; decide), hz]
        have HLZ := Lib.hid hLZ
        clear hLZ
        by_cases hl : 8192 < (anewB n.text).size
        · have hz10 : z = 10 := by rw [← hz]; unfold longZ; rw [if_pos hl]
          subst hz10
          have d3 : decide (8192 < ((anewB n.text).size : Int)) = true := by simp; omega
          go_wp2_with (go_at_call 127; refine (Anew_any _ HTS.out _).mono ?_; rintro e w' ⟨rfl, hy⟩; replace k3 := hy.cell k3; have HY := Lib.hid hy; clear hy)
          go_loopw [2, 3, 4, 5] (fun _ v i _ wr => ∃ (k : Nat) (z : Int), k ≤ n.kids.length ∧ i = .int .i64 k ∧ v = .int .i64 z ∧ (z = 0 ∨ z = 10) ∧ Ext wb wr ∧ Hid (n.worst = PN.worsts z (n.kids.drop k))) (fun _ _ i _ _ => n.kids.length - (intOf i).toNat)
          case atStart => exact ⟨0, _, Nat.zero_le _, rfl, rfl, .inr rfl, HY.out, Lib.hid (by rw [List.drop_zero]; exact HLZ.out)⟩
          case round =>
            obtain ⟨k, z, hk, rfl, rfl, hzc, xr, hwz⟩ := hrel
            have HXR := Lib.hid xr
            have k3 := (K3.out _ xr)
            by_cases hkk : k < n.kids.length
            · obtain ⟨x, hx⟩ : ∃ x, n.kids[k]? = some x := ⟨n.kids[k], by simp [hkk]⟩
              cases ka with
              | none => exact absurd (HKN.out rfl).1 (by omega)
              | some a =>
                obtain ⟨b, off, sp⟩ := a
                obtain ⟨c0', c1', c2', c3', q0, q1, q2, q3, hrd⟩ := HKR.out _ rfl k x hx
                have hxx : Ext w0 wr := (HX.out.trans HX1.out).trans HXR.out
                replace q0 := hxx.cells _ _ q0
                replace q1 := hxx.cells _ _ q1
                replace q2 := hxx.cells _ _ q2
                replace q3 := hxx.cells _ _ q3
                rw [add_later _ _ _ (by decide)] at q1 q2 q3
                have htk := sizes_mem (List.mem_of_getElem? hx)
                have h1 := HSE.out
                have h2 := HSZ.out
                have hrec := IH.out x (List.mem_of_getElem? hx) _ wr (PN.shorts_mem HKS.out (List.mem_of_getElem? hx)) (by omega) hrd hxx
                have hst := worsts_step hx z
                have hwz2 := hwz.out
                rw [hst] at hwz2
                have HWZ := Lib.hid hwz2
                rcases worst_in x with hv | hv | hv
                · rw [hv] at hrec
                  have HN := Lib.hid (show n.worst = PN.worsts z (n.kids.drop (k + 1)) by rw [HWZ.out, hv]; simp)
                  have HREC := Lib.hid hrec
                  clear hx hrd hrec hxx htk h1 h2 hst hwz2 hv hwz xr
                  go_wp2_with (go_at_call 131; refine HREC.out.mono ?_; rintro e w' ⟨rfl, p4⟩)
                  go_roundw
                  case rel => exact ⟨k + 1, z, by omega, by go_num, rfl, hzc, HXR.out.trans p4, HN⟩
                  case measure => simp [intOf]; omega
                · rw [hv] at hrec
                  have HN := Lib.hid (show n.worst = 1 by rw [HWZ.out, hv]; simp)
                  have HREC := Lib.hid hrec
                  clear hx hrd hrec hxx htk h1 h2 hst hwz2 hv hwz xr
                  go_wp2_with (go_at_call 131; refine HREC.out.mono ?_; rintro e w' ⟨rfl, p4⟩; have HP4 := Lib.hid p4)
                  go_ret
                  exact ⟨by rw [HN.out]; rfl, (HX1.out.trans HXR.out).trans HP4.out⟩
                · rw [hv] at hrec
                  have HN := Lib.hid (show n.worst = PN.worsts 10 (n.kids.drop (k + 1)) by rw [HWZ.out, hv]; simp)
                  have HREC := Lib.hid hrec
                  clear hx hrd hrec hxx htk h1 h2 hst hwz2 hv hwz xr
                  go_wp2_with (go_at_call 131; refine HREC.out.mono ?_; rintro e w' ⟨rfl, p4⟩)
                  go_roundw
                  case rel => exact ⟨k + 1, 10, by omega, by go_num, rfl, .inr rfl, HXR.out.trans p4, HN⟩
                  case measure => simp [intOf]; omega
            · obtain rfl : k = n.kids.length := by omega
              have hwz2 := hwz.out
              rw [List.drop_length] at hwz2
              have HN := Lib.hid (show n.worst = z from hwz2)
              clear hwz hwz2
              go_wp2_with fail
              go_ret
              exact ⟨by rw [HN.out]; rfl, HX1.out.trans HXR.out⟩
        · have hz0 : z = 0 := by rw [← hz]; unfold longZ; rw [if_neg hl]
          subst hz0
          have d3 : decide (8192 < ((anewB n.text).size : Int)) = false := by simp; omega
          go_wp2_with (go_at_call 127; refine (Anew_any _ HTS.out _).mono ?_; rintro e w' ⟨rfl, hy⟩; replace k3 := hy.cell k3; have HY := Lib.hid hy; clear hy)
          go_loopw [2, 3, 4, 5] (fun _ v i _ wr => ∃ (k : Nat) (z : Int), k ≤ n.kids.length ∧ i = .int .i64 k ∧ v = .int .i64 z ∧ (z = 0 ∨ z = 10) ∧ Ext wb wr ∧ Hid (n.worst = PN.worsts z (n.kids.drop k))) (fun _ _ i _ _ => n.kids.length - (intOf i).toNat)
          case atStart => exact ⟨0, _, Nat.zero_le _, rfl, rfl, .inl rfl, HY.out, Lib.hid (by rw [List.drop_zero]; exact HLZ.out)⟩
          case round =>
            obtain ⟨k, z, hk, rfl, rfl, hzc, xr, hwz⟩ := hrel
            have HXR := Lib.hid xr
            have k3 := (K3.out _ xr)
            by_cases hkk : k < n.kids.length
            · obtain ⟨x, hx⟩ : ∃ x, n.kids[k]? = some x := ⟨n.kids[k], by simp [hkk]⟩
              cases ka with
              | none => exact absurd (HKN.out rfl).1 (by omega)
              | some a =>
                obtain ⟨b, off, sp⟩ := a
                obtain ⟨c0', c1', c2', c3', q0, q1, q2, q3, hrd⟩ := HKR.out _ rfl k x hx
                have hxx : Ext w0 wr := (HX.out.trans HX1.out).trans HXR.out
                replace q0 := hxx.cells _ _ q0
                replace q1 := hxx.cells _ _ q1
                replace q2 := hxx.cells _ _ q2
                replace q3 := hxx.cells _ _ q3
                rw [add_later _ _ _ (by decide)] at q1 q2 q3
                have htk := sizes_mem (List.mem_of_getElem? hx)
                have h1 := HSE.out
                have h2 := HSZ.out
                have hrec := IH.out x (List.mem_of_getElem? hx) _ wr (PN.shorts_mem HKS.out (List.mem_of_getElem? hx)) (by omega) hrd hxx
                have hst := worsts_step hx z
                have hwz2 := hwz.out
                rw [hst] at hwz2
                have HWZ := Lib.hid hwz2
                rcases worst_in x with hv | hv | hv
                · rw [hv] at hrec
                  have HN := Lib.hid (show n.worst = PN.worsts z (n.kids.drop (k + 1)) by rw [HWZ.out, hv]; simp)
                  have HREC := Lib.hid hrec
                  clear hx hrd hrec hxx htk h1 h2 hst hwz2 hv hwz xr
                  go_wp2_with (go_at_call 131; refine HREC.out.mono ?_; rintro e w' ⟨rfl, p4⟩)
                  go_roundw
                  case rel => exact ⟨k + 1, z, by omega, by go_num, rfl, hzc, HXR.out.trans p4, HN⟩
                  case measure => simp [intOf]; omega
                · rw [hv] at hrec
                  have HN := Lib.hid (show n.worst = 1 by rw [HWZ.out, hv]; simp)
                  have HREC := Lib.hid hrec
                  clear hx hrd hrec hxx htk h1 h2 hst hwz2 hv hwz xr
                  go_wp2_with (go_at_call 131; refine HREC.out.mono ?_; rintro e w' ⟨rfl, p4⟩; have HP4 := Lib.hid p4)
                  go_ret
                  exact ⟨by rw [HN.out]; rfl, (HX1.out.trans HXR.out).trans HP4.out⟩
                · rw [hv] at hrec
                  have HN := Lib.hid (show n.worst = PN.worsts 10 (n.kids.drop (k + 1)) by rw [HWZ.out, hv]; simp)
                  have HREC := Lib.hid hrec
                  clear hx hrd hrec hxx htk h1 h2 hst hwz2 hv hwz xr
                  go_wp2_with (go_at_call 131; refine HREC.out.mono ?_; rintro e w' ⟨rfl, p4⟩)
                  go_roundw
                  case rel => exact ⟨k + 1, 10, by omega, by go_num, rfl, .inr rfl, HXR.out.trans p4, HN⟩
                  case measure => simp [intOf]; omega
            · obtain rfl : k = n.kids.length := by omega
              have hwz2 := hwz.out
              rw [List.drop_length] at hwz2
              have HN := Lib.hid (show n.worst = z from hwz2)
              clear hwz hwz2
              go_wp2_with fail
              go_ret
              exact ⟨by rw [HN.out]; rfl, HX1.out.trans HXR.out⟩
      · have HBAD : Hid (n.bad = true) := Lib.hid (bad_said ht hS)
        have hsb := text_some hS
        have hst : !n.text.toList.isEmpty := by rw [hsb]; rfl
        obtain ⟨E1, E2⟩ := hE
        clear ht hS
        go_wp2_with fail
        go_ret
        refine ⟨?_, HX1.out⟩
        rw [HWE.out, if_pos HBAD.out]; rfl
    · have HBAD : Hid (n.bad = true) := Lib.hid (bad_tag' ht hE)
      by_cases h1 : n.tag < 0
      · clear ht hE
        go_wp2_with fail
        go_ret
        refine ⟨?_, HX1.out⟩
        rw [HWE.out, if_pos HBAD.out]; rfl
      · have h2 : 16 < n.tag := by omega
        clear ht hE
        go_wp2_with fail
        go_ret
        refine ⟨?_, HX1.out⟩
        rw [HWE.out, if_pos HBAD.out]; rfl
set_option maxRecDepth 100000 in
set_option maxHeartbeats 2000000 in
theorem rHigh_any {w0 : World} : ∀ (n : PN) (nv : Value) (w : World), n.size ≤ 100000 → RdN w0 n nv → Ext w0 w → Calls Try.prog 132 #[nv] w (RVal (.int .i64 n.high) w) := by
  refine PN.induct _ fun n ih nv w hsz hr hx => ?_
  have hnl := n.len_size
  obtain ⟨av, kv, rfl, ha, hk⟩ := hr.open
  obtain ⟨aa, acap, rfl, hac⟩ := ha.len_of
  obtain ⟨ka, kcap, rfl, hkc, hkm, hkn, hkr⟩ := hk
  have x1 := (Ext.refl w).alloc (.cells #[.int .i64 n.tag, .slice aa n.attrs.length acap, .string n.text, .slice ka n.kids.length kcap] 30)
  have hbox := heap_alloc_new w (.cells #[.int .i64 n.tag, .slice aa n.attrs.length acap, .string n.text, .slice ka n.kids.length kcap] 30)
  have HKR := Lib.hid hkr
  have HKN := Lib.hid hkn
  have HX := Lib.hid hx
  have HX1 := Lib.hid x1
  have IH := Lib.hid ih
  unfold maxLen at hkm
  have HSE := Lib.hid n.size_eq
  have HSZ := Lib.hid hsz
  have HHE := Lib.hid n.high_eq
  replace hnl : n.kids.length ≤ 100000 := by omega
  clear hkr hkn hx ih hr ha x1 hsz
  go_enter Try.func132, Try.ntmps132
  go_upto_region 1 with fail
  obtain ⟨wb, hwb⟩ : ∃ wb : World, wb = w.alloc (.cells #[.int .i64 n.tag, .slice aa n.attrs.length acap, .string n.text, .slice ka n.kids.length kcap] 30) := ⟨_, rfl⟩
  rw [← hwb] at hbox HX1 ⊢
  clear hwb
  have k3 := cellOf hbox (i := 3) (v := .slice ka n.kids.length kcap) rfl
  clear hbox
  go_wp2_with fail
  go_loopw [3, 4] (fun c i wr => ∃ (k : Nat) (z : Nat), k ≤ n.kids.length ∧ i = .int .i64 k ∧ c = .int .i64 z ∧ z ≤ 100000 ∧ Ext wb wr ∧ Hid (z = PN.highs (n.kids.take k))) (fun _ i _ => n.kids.length - (intOf i).toNat)
  case atStart => exact ⟨0, 0, Nat.zero_le _, rfl, rfl, by omega, Ext.refl _, Lib.hid (by simp [PN.highs])⟩
  case round =>
    obtain ⟨k, z, hk, rfl, rfl, hz1, xr, hz⟩ := hrel
    have HXR := Lib.hid xr
    replace k3 := xr.cell k3
    clear xr
    by_cases hkk : k < n.kids.length
    · obtain ⟨x, hx⟩ : ∃ x, n.kids[k]? = some x := ⟨n.kids[k], by simp [hkk]⟩
      cases ka with
      | none => exact absurd (HKN.out rfl).1 (by omega)
      | some a =>
        obtain ⟨b, off, sp⟩ := a
        obtain ⟨c0', c1', c2', c3', q0, q1, q2, q3, hrd⟩ := HKR.out _ rfl k x hx
        have hxx : Ext w0 wr := (HX.out.trans HX1.out).trans HXR.out
        replace q0 := hxx.cells _ _ q0
        replace q1 := hxx.cells _ _ q1
        replace q2 := hxx.cells _ _ q2
        replace q3 := hxx.cells _ _ q3
        rw [add_later _ _ _ (by decide)] at q1 q2 q3
        have htk := sizes_mem (List.mem_of_getElem? hx)
        have hhx := high_lt x
        have h1 := HSE.out
        have h2 := HSZ.out
        have hrec := IH.out x (List.mem_of_getElem? hx) _ wr (by omega) hrd hxx
        obtain ⟨y, hy⟩ : ∃ y, x.high = y := ⟨_, rfl⟩
        rw [hy] at hrec
        have hy1 : y ≤ 99999 := by omega
        have hsn : PN.highs (n.kids.take (k + 1)) = max (PN.highs (n.kids.take k)) (y + 1) := by rw [highs_snoc hx, hy]
        have HSN := Lib.hid hsn
        have HREC := Lib.hid hrec
        clear hx hrd hrec hxx htk hhx h1 h2 hy hsn
        go_wp2_with (go_at_call 132; refine HREC.out.mono ?_; rintro e w' ⟨rfl, p4⟩)
        all_goals
          go_roundw
          case rel => exact ⟨k + 1, max z (y + 1), by omega, by go_num, by congr 1; omega, by omega, HXR.out.trans p4, Lib.hid (by rw [HSN.out, hz.out])⟩
          case measure => simp [intOf]; omega
    · obtain rfl : k = n.kids.length := by omega
      go_wp2_with fail
      go_ret
      refine ⟨?_, HX1.out.trans HXR.out⟩
      have e := hz.out
      rw [List.take_length] at e
      rw [HHE.out, e]; rfl
end Go.Proofs.Ytiglflmjidikpaa
