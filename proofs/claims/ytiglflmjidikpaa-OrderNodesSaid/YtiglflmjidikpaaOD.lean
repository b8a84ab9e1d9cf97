/- quillworkref09: Find. No conditions beside a tree's own, and at most 60000 numbers. -/
import Derived.Test.YtiglflmjidikpaaOC
namespace Go.Proofs.Ytiglflmjidikpaa
open Go Go.RowKit Go.BigFrame
set_option linter.unusedVariables false
set_option linter.unusedSimpArgs false

theorem find_none {T : Tr} {r : Int} (h : T.get? r = none) (p : List Int) : T.find r p = none := by unfold Tr.find; rw [h]
theorem find_nil {T : Tr} {r : Int} {nd : Nd} (h : T.get? r = some nd) : T.find r [] = some r := by unfold Tr.find; rw [h]; rfl
theorem find_out {T : Tr} {r i : Int} {nd : Nd} (h : T.get? r = some nd) (hi : i < 0 ∨ (nd.kids.length : Int) ≤ i) (q : List Int) : T.find r (i :: q) = none := by
  have hk : T.kidsOf r = nd.kids := by unfold Tr.kidsOf; rw [h]
  unfold Tr.find
  rw [h]
  show T.walk r (i :: q) = none
  unfold Tr.walk
  rw [hk]
  by_cases h0 : i < 0
  · rw [if_pos h0]
  · rw [if_neg h0, List.getElem?_eq_none (by omega)]
theorem find_in {T : Tr} {d : Nat → Nat} (hw : WF T d) {r : Int} {nd : Nd} (h : T.get? r = some nd) {i : Nat} {k : Int} (hi : nd.kids[i]? = some k) (q : List Int) : T.find r ((i : Int) :: q) = T.find k q := by
  have hk : T.kidsOf r = nd.kids := by unfold Tr.kidsOf; rw [h]
  obtain ⟨_, _, _, kd, hkd⟩ := hw.kid_rank (id := r) (k := k) (by rw [hk]; exact List.mem_of_getElem? hi)
  unfold Tr.find
  rw [h, hkd]
  show T.walk r ((i : Int) :: q) = T.walk k q
  conv => lhs; unfold Tr.walk
  rw [hk, if_neg (by omega), Int.toNat_natCast, hi]
section
variable {rb : Nat} {T : Tr}
set_option maxRecDepth 100000 in
set_option maxHeartbeats 2000000 in
theorem rFind {d : Nat → Nat} (hw : WF T d) : ∀ (p : List Int) (r : Int) (v : Value) (u : World), RAt u rb T → RowRd u 1 v p.length (p.map (Value.int .i64)) → p.length ≤ 60000 → (∀ i ∈ p, -9223372036854775808 ≤ i ∧ i ≤ 9223372036854775807) →
    Calls Try.prog 74 #[.pointer (some ⟨rb, 0, none⟩), .int .i64 r, v] u (RTwo (.int .i64 ((T.find r p).getD 0)) (.bool (T.find r p).isSome) u) := by
  intro p
  induction p with
  | nil =>
    intro r v u hR hp hl hin
    obtain ⟨va, vc, rfl, _⟩ := hp.len_of
    cases hg : T.get? r with
    | none =>
      rw [find_none hg]
      have HAS := Lib.hid (rHas_no hR hg)
      clear hR hp hg hin
      go_enter Try.func74, Try.ntmps74
      go_wp2_with (go_at_call 105; refine HAS.out.mono ?_; rintro e w' ⟨rfl, rfl⟩)
      go_ret2
      exact ⟨rfl, Ext.refl _⟩
    | some nd =>
      rw [find_nil hg]
      have HAS := Lib.hid (rHas_yes hR hg)
      clear hR hp hg hin
      go_enter Try.func74, Try.ntmps74
      go_wp2_with (go_at_call 105; refine HAS.out.mono ?_; rintro e w' ⟨rfl, rfl⟩)
      go_ret2
      exact ⟨rfl, Ext.refl _⟩
  | cons i q ih =>
    intro r v u hR hp hl hin
    obtain ⟨va, vc, rfl, hvc⟩ := hp.len_of
    cases hg : T.get? r with
    | none =>
      rw [find_none hg]
      have HAS := Lib.hid (rHas_no hR hg)
      clear hR hp hg hin
      go_enter Try.func74, Try.ntmps74
      go_wp2_with (go_at_call 105; refine HAS.out.mono ?_; rintro e w' ⟨rfl, rfl⟩)
      go_ret2
      exact ⟨rfl, Ext.refl _⟩
    | some nd =>
      have HAS := Lib.hid (rHas_yes hR hg)
      have hwi := hin i List.mem_cons_self
      obtain ⟨m, hm⟩ : ∃ m, (i :: q).length = m := ⟨_, rfl⟩
      have hmq : m = q.length + 1 := by rw [← hm]; rfl
      cases va with
      | none =>
        obtain ⟨_, _, _, e, _, hn, _⟩ := hp
        cases e
        have := (hn rfl).1
        simp at this
      | some a =>
        obtain ⟨pb, po, ps⟩ := a
        have cp : u.cell? ⟨pb, po, ps⟩ = some (.int .i64 i) := by
          obtain ⟨_, _, _, e, _, _, hc⟩ := hp
          cases e
          have := hc _ rfl 0 (.int .i64 i) rfl
          rwa [Addr.add_zero'] at this
        have hback := RowRd.backIf hp (j := 1) (by simp)
        rw [hm] at hp hvc ⊢
        obtain ⟨j, rfl, hi, hl2⟩ := nodes_some hg
        obtain ⟨g, cap, aa, ac, ka, kc, c, c0, c1, c2, c3, c4, c5, _, hrk⟩ := hR.one hi
        replace c5 : u.cell? ⟨g, j * 6 + 5, none⟩ = some (.slice ka nd.kids.length kc) := c5
        replace hrk : RowRd u 1 (.slice ka nd.kids.length kc) nd.kids.length (nd.kids.map (Value.int .i64)) := hrk
        have hkl := hw.kids_len hi
        by_cases h0 : i < 0
        · rw [find_out hg (.inl h0)]
          clear hR hp hg hin ih hback hrk c0 c1 c2 c3 c4 hi hm
          go_enter Try.func74, Try.ntmps74
          go_wp2_with (go_at_call 105; refine HAS.out.mono ?_; rintro e w' ⟨rfl, rfl⟩)
          go_ret2
          exact ⟨rfl, Ext.refl _⟩
        · by_cases h1 : (nd.kids.length : Int) ≤ i
          · rw [find_out hg (.inr h1)]
            clear hR hp hg hin ih hback hrk c0 c1 c2 c3 c4 hi hm
            go_enter Try.func74, Try.ntmps74
            go_wp2_with (go_at_call 105; refine HAS.out.mono ?_; rintro e w' ⟨rfl, rfl⟩)
            go_ret2
            exact ⟨rfl, Ext.refl _⟩
          · obtain ⟨n, rfl⟩ := Int.eq_ofNat_of_zero_le (show 0 ≤ i by omega)
            have hnl : n < nd.kids.length := by omega
            obtain ⟨k, hk⟩ : ∃ k, nd.kids[n]? = some k := ⟨nd.kids[n], by simp [hnl]⟩
            rw [find_in hw hg hk]
            cases ka with
            | none =>
              obtain ⟨_, _, _, e, _, hn, _⟩ := hrk
              cases e
              have := (hn rfl).1
              omega
            | some ad =>
              obtain ⟨kb, ko, ks⟩ := ad
              have ck : u.cell? (Addr.add ⟨kb, ko, ks⟩ n) = some (.int .i64 k) := by
                obtain ⟨_, _, _, e, _, _, hc⟩ := hrk
                cases e
                exact hc _ rfl n (.int .i64 k) (by rw [List.getElem?_map, hk]; rfl)
              obtain ⟨o, ho⟩ : ∃ o, T.find k q = o := ⟨_, rfl⟩
              have REC := Lib.hid (fun (v' : Value) (u' : World) (x : Ext u u') (hv : RowRd u' 1 v' q.length (q.map (Value.int .i64))) => (ho ▸ ih k v' u' (hR.ext x) hv (by simp at hl; omega) (fun z hz => hin z (List.mem_cons_of_mem _ hz)) : Calls Try.prog 74 #[.pointer (some ⟨rb, 0, none⟩), .int .i64 k, v'] u' (RTwo (.int .i64 (o.getD 0)) (.bool o.isSome) u')))
              rw [ho]
              have HB := Lib.hid (show RowRd u 1 (.slice (if vc = 1 then some ⟨pb, po, ps⟩ else some ⟨pb, po + 1, none⟩) q.length (vc - 1)) q.length (q.map (Value.int .i64)) by rw [add_pos _ _ (by decide)] at hback; exact hback)
              clear hR hp hg hin ih hback hrk c0 c1 c2 c3 c4 hi hm hk ho
              have e1 := fun y : ExtOf u => y.ext.cell c
              have e5 := fun y : ExtOf u => y.ext.cell c5
              have ep := fun y : ExtOf u => y.ext.cells _ _ cp
              have ek := fun y : ExtOf u => y.ext.cells _ _ ck
              go_enter Try.func74, Try.ntmps74
              go_upto_region 7 with (go_at_call 105; refine HAS.out.mono ?_; rintro e w' ⟨rfl, rfl⟩)
              refine wp_region_ext (by kernel_rfl) (by kernel_rfl) ?_
              repeat (go_big_quiet_step ((go_at_call 74; exact inExt (REC.out _ _ (ExtOf.ext _) (HB.out.ext (ExtOf.ext _))))))
              refine wpQuiet_nil ?_
              rintro _ ⟨y, rfl⟩
              go_wp2_with fail
              all_goals
                go_ret2
                exact ⟨rfl, y.ext⟩
end
end Go.Proofs.Ytiglflmjidikpaa
