/- quillworkref09: All, index, Beside, Behind. No conditions beside a tree's own. -/
import Derived.Test.YtiglflmjidikpaaOA
namespace Go.Proofs.Ytiglflmjidikpaa
open Go Go.RowKit Go.BigFrame
set_option linter.unusedVariables false
set_option linter.unusedSimpArgs false

theorem flat_take {α β : Type} (f : α → List β) (l : List α) (k : Nat) : ((l.take k).flatMap f).length ≤ (l.flatMap f).length := by
  have h : l.flatMap f = (l.take k).flatMap f ++ (l.drop k).flatMap f := by rw [← List.flatMap_append, List.take_append_drop]
  rw [h, List.length_append]
  omega
theorem flat_snoc {α β : Type} (f : α → List β) {l : List α} {k : Nat} {x : α} (h : l[k]? = some x) : (l.take (k + 1)).flatMap f = (l.take k).flatMap f ++ f x := by
  obtain ⟨hlt, rfl⟩ := List.getElem?_eq_some_iff.1 h
  rw [List.take_succ_eq_append_getElem hlt, List.flatMap_append]
  simp
section
variable {w : World} {rb : Nat} {T : Tr}
theorem rAll_no (h : RAt w rb T) {id : Int} (hg : T.get? id = none) : Calls Try.prog 72 #[.pointer (some ⟨rb, 0, none⟩), .int .i64 id] w (RVal (.slice none 0 0) w) := by
  have HAS := Lib.hid (rHas_no h hg)
  clear h hg
  go_enter Try.func72, Try.ntmps72
  go_wp2_with (go_at_call 105; refine HAS.out.mono ?_; rintro e w' ⟨rfl, rfl⟩)
  go_ret
  exact ⟨rfl, Ext.refl _⟩
set_option maxRecDepth 100000 in
set_option maxHeartbeats 2000000 in
theorem rAll_some {d : Nat → Nat} (hw : WF T d) : ∀ id : Int, ∀ nd, T.get? id = some nd → ∀ (w0 u : World), RAt w0 rb T → Ext w0 u → Calls Try.prog 72 #[.pointer (some ⟨rb, 0, none⟩), .int .i64 id] u (RRow 3 1 (T.pre id).length ((T.pre id).map (Value.int .i64)) u) := by
  refine hw.rise _ fun id ih nd hg w0 u hR0 hxu => ?_
  have hR := hR0.ext hxu
  have HAS := Lib.hid (rHas_yes hR hg)
  have hp := hw.pre_step id
  have h2000 := hw.pre_2000 ⟨nd, hg⟩
  have hk : T.kidsOf id = nd.kids := by unfold Tr.kidsOf; rw [hg]
  rw [hk] at ih hp
  obtain ⟨i, rfl, hi, hl⟩ := nodes_some hg
  obtain ⟨g, cap, aa, ac, ka, kc, c, c0, c1, c2, c3, c4, c5, _, hrk⟩ := hR.one hi
  replace c5 : u.cell? ⟨g, i * 6 + 5, none⟩ = some (.slice ka nd.kids.length kc) := c5
  replace hrk : RowRd u 1 (.slice ka nd.kids.length kc) nd.kids.length (nd.kids.map (Value.int .i64)) := hrk
  obtain ⟨_, _, _, e, hkc, hkn, hkr⟩ := hrk
  cases e
  have hkl := hw.kids_len hi
  have HKN := Lib.hid hkn
  have HKR := Lib.hid hkr
  have IH := Lib.hid ih
  have HW := Lib.hid hw
  have HI := Lib.hid hi
  have HP := Lib.hid hp
  have H2 := Lib.hid h2000
  have HR := Lib.hid hR
  clear hkn hkr ih hw hi hg hk hR hR0 c0 c1 c2 c3 c4 hp h2000
  go_enter Try.func72, Try.ntmps72
  go_wp2_with (go_at_call 105; refine HAS.out.mono ?_; rintro e w' ⟨rfl, rfl⟩)
  have x1 := (Ext.refl u).alloc (.cells #[.int .i64 i] 3)
  have b1 := heap_alloc_new u (.cells #[.int .i64 i] 3)
  obtain ⟨u1, hu1⟩ : ∃ u1 : World, u1 = u.alloc (.cells #[.int .i64 i] 3) := ⟨_, rfl⟩
  rw [← hu1] at x1 b1
  rw [← hu1]
  clear hu1
  have hr1 : RowP u1 (fun b => u.heap.size ≤ b) 3 1 (.slice (some ⟨u.heap.size, 0, none⟩) 1 1) 1 [Value.int .i64 i] := ⟨rfl, .inr ⟨u.heap.size, 1, _, rfl, Nat.le_refl _, b1, Nat.le_refl _, by unfold maxLen; omega, rfl, rfl⟩⟩
  have HR1 := Lib.hid hr1
  have X1 := Lib.hid x1
  clear hr1 b1 x1
  go_loopw [5, 6] (fun v n wr => ∃ (k z : Nat) (xs : List Value), k ≤ nd.kids.length ∧ n = .int .i64 k ∧ Ext u wr ∧ RowP wr (fun b => u.heap.size ≤ b) 3 1 v z xs ∧ Hid (z = 1 + ((nd.kids.take k).flatMap T.pre).length ∧ xs = ((i : Int) :: (nd.kids.take k).flatMap T.pre).map (Value.int .i64))) (fun _ n _ => nd.kids.length - (intOf n).toNat)
  case atStart => exact ⟨0, 1, _, Nat.zero_le _, rfl, X1.out, HR1.out, Lib.hid ⟨by simp, by simp⟩⟩
  case round =>
    obtain ⟨k, z, xs, hk, rfl, hxr, hrow, hzx⟩ := hrel
    obtain ⟨va, vc, hve, _⟩ := hrow.rd.len_of
    subst hve
    have HROW := Lib.hid hrow
    have HXR := Lib.hid hxr
    replace c := hxr.cell c
    replace c5 := hxr.cell c5
    clear hrow HR1
    by_cases hlt : k < nd.kids.length
    · obtain ⟨x, hx⟩ : ∃ x, nd.kids[k]? = some x := ⟨nd.kids[k], by simp [hlt]⟩
      cases ka with
      | none => exact absurd (HKN.out rfl).1 (by omega)
      | some a =>
        obtain ⟨b, off, sp⟩ := a
        have cx := hxr.cells _ _ (HKR.out _ rfl k (.int .i64 x) (by rw [List.getElem?_map, hx]; rfl))
        obtain ⟨j, kd, h3, h4, h5, h6⟩ := HW.out.kid HI.out hx
        have hrec := IH.out x (List.mem_of_getElem? hx) kd (by rw [h3]; exact Tr.get_of h4) u wr HR.out hxr
        have hfs := flat_snoc T.pre hx
        have hft := flat_take T.pre nd.kids (k + 1)
        obtain ⟨m, hm⟩ : ∃ m, (T.pre x).length = m := ⟨_, rfl⟩
        have hlen : z + m ≤ 2000 := by
          have h1 := HP.out
          have h0 := hzx.out.1
          have h2 := H2.out
          rw [h1, List.length_cons] at h2
          rw [hfs, List.length_append] at hft
          omega
        rw [hm] at hrec
        have HM := Lib.hid hm
        clear hm
        have HFS := Lib.hid hfs
        have HREC := Lib.hid hrec
        clear hx h3 h4 h5 h6 hrec hfs hft hxr
        go_wp2_with fail
        refine HREC.out.mono ?_
        rintro e w2 ⟨v2, rfl, hr2, hx2⟩
        obtain ⟨a2, c2, e2, _⟩ := RowP.len_of' hr2
        subst e2
        obtain ⟨v3, w3, row, hrun, hra, hga, hrow3⟩ := append_ints (w := w2) (B := u.heap.size) (RowP.ext HROW.out hx2) (RowP.rd hr2) (by omega) (fun z hz => ints_one _ z hz)
        obtain ⟨a3, c3, e3, _⟩ := hra.rd.len_of
        subst e3
        have HRUN := Lib.hid (AppI.mk hrun)
        have X3 := Lib.hid ((HXR.out.trans hx2).grown hga hrow3)
        have hx2s := (HXR.out.trans hx2).size
        have HR3 := Lib.hid (RowP.imp hra (q := fun b => u.heap.size ≤ b) fun b _ hb => by rcases hb with h | h; exact h; exact Nat.le_trans hx2s h)
        clear hra hrun hga hrow3 hr2 hx2 hx2s
        go_wp2_with (at_builtin; refine wpList_app rfl _ _ rfl rfl _ _ rfl rfl _ _ HRUN.out ?_)
        go_roundw
        case rel => exact ⟨k + 1, z + m, _, by omega, by go_num, X3.out, HR3.out, Lib.hid ⟨by rw [HFS.out, List.length_append, ← Nat.add_assoc, HM.out, hzx.out.1], by rw [HFS.out, ← List.cons_append, List.map_append, hzx.out.2]⟩⟩
        case measure => simp [intOf]; omega
    · obtain rfl : k = nd.kids.length := by omega
      go_wp2_with fail
      go_ret
      have h := HROW.out
      obtain ⟨h1, h2⟩ := hzx.out
      rw [List.take_length] at h1 h2
      have e : (T.pre (i : Int)).length = z := by rw [HP.out, List.length_cons, h1]; omega
      rw [h2, ← HP.out, ← e] at h
      refine ⟨_, rfl, ?_, HXR.out⟩
      rw [← e]
      exact h
theorem rAll (h : RAt w rb T) {d : Nat → Nat} (hw : WF T d) (id : Int) : Calls Try.prog 72 #[.pointer (some ⟨rb, 0, none⟩), .int .i64 id] w (RRow 3 1 (T.allOf id).length ((T.allOf id).map (Value.int .i64)) w) := by
  unfold Tr.allOf
  cases hg : T.get? id with
  | none => exact (rAll_no h hg).mono fun e w' k => ⟨_, k.1, ⟨rfl, .inl ⟨rfl, none, rfl⟩⟩, k.2⟩
  | some nd => exact rAll_some hw id nd hg w w h (Ext.refl w)
set_option maxRecDepth 100000 in
set_option maxHeartbeats 1000000 in
theorem rIdx {v : Value} {l : List Int} (h : RowRd w 1 v l.length (l.map (Value.int .i64))) (hl : l.length ≤ 60000) (x : Int) : Calls Try.prog 119 #[v, .int .i64 x] w (RSame (.int .i64 (posOf l x)) w) := by
  obtain ⟨_, ao, cap, rfl, hc, hn, hr⟩ := h
  have HN := Lib.hid hn
  have HR := Lib.hid hr
  clear hn hr
  go_enter Try.func119, Try.ntmps119
  go_wp2_with fail
  go_loopw [5] (fun n wr => ∃ k : Nat, wr = w ∧ k ≤ l.length ∧ n = .int .i64 k ∧ Hid (x ∉ l.take k)) (fun n _ => l.length - (intOf n).toNat)
  case atStart => exact ⟨0, rfl, Nat.zero_le _, rfl, Lib.hid (by simp)⟩
  case round =>
    obtain ⟨k, rfl, hk, rfl, hno⟩ := hrel
    by_cases hlt : k < l.length
    · obtain ⟨y, hy⟩ : ∃ y, l[k]? = some y := ⟨l[k], by simp [hlt]⟩
      cases ao with
      | none => exact absurd (HN.out rfl).1 (by omega)
      | some a =>
        obtain ⟨b, off, sp⟩ := a
        have cy := HR.out _ rfl k (.int .i64 y) (by rw [List.getElem?_map, hy]; rfl)
        have HY := Lib.hid hy
        clear hy
        cases hxy : (y == x) with
        | true =>
          have hp : posOf l x = k := by
            have : y = x := by simpa using hxy
            subst this
            exact posOf_at HY.out hno.out
          go_wp2_with fail
          go_ret
          exact ⟨by rw [hp]; rfl, rfl⟩
        | false =>
          have HNX := Lib.hid (show x ∉ l.take (k + 1) from fun hm => by
            obtain ⟨hlt', he⟩ := List.getElem?_eq_some_iff.1 HY.out
            rw [List.take_succ_eq_append_getElem hlt', he, List.mem_append, List.mem_singleton] at hm
            rcases hm with hm | hm
            · exact hno.out hm
            · rw [hm] at hxy; simp at hxy)
          go_wp2_with fail
          go_roundw
          case rel => exact ⟨k + 1, trivial, by omega, by go_num, HNX⟩
          case measure => simp [intOf]; omega
    · obtain rfl : k = l.length := by omega
      have hp : posOf l x = -1 := by
        have := hno.out
        rw [List.take_length] at this
        unfold posOf
        rw [if_neg this]
      go_wp2_with fail
      go_ret
      exact ⟨by rw [hp]; rfl, rfl⟩
theorem posOf_idx {l : List Int} {x : Int} (h : x ∈ l) : posOf l x = (l.idxOf x : Int) := by unfold posOf; rw [if_pos h]
set_option maxRecDepth 100000 in
set_option maxHeartbeats 1000000 in
theorem rBeside (h : RAt w rb T) {d : Nat → Nat} (hw : WF T d) (id by' : Int) (hb0 : -60000 ≤ by') (hb1 : by' ≤ 60000) : Calls Try.prog 67 #[.pointer (some ⟨rb, 0, none⟩), .int .i64 id, .int .i64 by'] w (RVal (.int .i64 (T.beside id by')) w) := by
  unfold Tr.beside
  cases hg : T.get? id with
  | none =>
    have HAS := Lib.hid (rHas_no h hg)
    clear h hg
    show Calls _ _ _ _ (RVal (.int .i64 (-1)) w)
    go_enter Try.func67, Try.ntmps67
    go_wp2_with (go_at_call 105; refine HAS.out.mono ?_; rintro e w' ⟨rfl, rfl⟩)
    go_ret
    exact ⟨rfl, Ext.refl _⟩
  | some nd =>
    show Calls _ _ _ _ (RVal (.int .i64 (besideZ (T.pre (T.rootOf id)) (((T.pre (T.rootOf id)).idxOf id : Int) + by'))) w)
    obtain ⟨⟨rd, hrd⟩, _, hm⟩ := hw.root_is id ⟨nd, hg⟩
    have HAS := Lib.hid (rHas_yes h hg)
    have HRT := Lib.hid (rRoot h hw hg)
    have hal := rAll_some hw (T.rootOf id) rd hrd w w h (Ext.refl w)
    have hl2 := hw.pre_2000 ⟨rd, hrd⟩
    have hix := List.idxOf_lt_length_iff.2 hm
    have hpx := posOf_idx hm
    obtain ⟨r, hr⟩ : ∃ r, T.rootOf id = r := ⟨_, rfl⟩
    rw [hr] at hal hl2 hix hpx HRT ⊢
    obtain ⟨l, hl⟩ : ∃ l, T.pre r = l := ⟨_, rfl⟩
    rw [hl] at hal hl2 hix hpx ⊢
    obtain ⟨p, hp⟩ : ∃ p, l.idxOf id = p := ⟨_, rfl⟩
    rw [hp] at hix hpx ⊢
    have HAL := Lib.hid hal
    have HPX := Lib.hid hpx
    clear h hw hg hrd hm hal hr hl hp hpx
    obtain ⟨z, hz⟩ : ∃ z, besideZ l ((p : Int) + by') = z := ⟨_, rfl⟩
    rw [hz]
    unfold besideZ at hz
    have HZ := Lib.hid hz
    clear hz
    go_enter Try.func67, Try.ntmps67
    go_wp2_with fail
    refine HAS.out.mono ?_
    rintro e w' ⟨rfl, rfl⟩
    go_wp2_with fail
    refine HRT.out.mono ?_
    rintro e w' ⟨rfl, rfl⟩
    go_wp2_with fail
    refine HAL.out.mono ?_
    rintro e w2 ⟨v2, rfl, hr2, hx2⟩
    obtain ⟨a2, c2, e2, _⟩ := RowP.len_of' hr2
    subst e2
    have hrd2 := RowP.rd hr2
    have HIX := Lib.hid (rIdx hrd2 (by omega) id)
    rw [HPX.out] at HIX
    obtain ⟨_, _, _, e3, hcc, hnn, hcell⟩ := hrd2
    cases e3
    have HX2 := Lib.hid hx2
    have HCELL := Lib.hid hcell
    have HNN := Lib.hid hnn
    clear hr2 hx2 hcell hnn
    by_cases k0 : (p : Int) + by' < 0
    · have hz1 := HZ.out
      rw [if_pos k0] at hz1
      subst hz1
      go_wp2_with (go_at_call 119; refine HIX.out.mono ?_; rintro e w' ⟨rfl, rfl⟩)
      go_ret
      exact ⟨rfl, HX2.out⟩
    · have hz1 := HZ.out
      rw [if_neg k0] at hz1
      by_cases k1 : (l.length : Int) ≤ (p : Int) + by'
      · rw [List.getElem?_eq_none (by omega)] at hz1
        have hz2 : z = -1 := hz1.symm
        subst hz2
        clear hz1
        go_wp2_with (go_at_call 119; refine HIX.out.mono ?_; rintro e w' ⟨rfl, rfl⟩)
        go_ret
        exact ⟨rfl, HX2.out⟩
      · obtain ⟨q, hq⟩ := Int.eq_ofNat_of_zero_le (show 0 ≤ (p : Int) + by' by omega)
        have hql : q < l.length := by omega
        rw [hq, Int.toNat_natCast, List.getElem?_eq_getElem hql] at hz1
        have hz2 : l[q] = z := hz1
        cases a2 with
        | none => exact absurd (HNN.out rfl).1 (by omega)
        | some ad =>
          obtain ⟨gb, go, gs⟩ := ad
          have cz := HCELL.out _ rfl q (.int .i64 z) (by rw [List.getElem?_map, List.getElem?_eq_getElem hql, hz2]; rfl)
          have hby : by' = (q : Int) - p := by omega
          subst hby
          have hw1 : IntKind.i64.wrap ((p : Int) + ((q : Int) - p)) = q := by rw [IntWalk.i64_in _ (by omega)]; omega
          clear hz1 hz2 hq
          go_wp2_with (go_at_call 119; refine HIX.out.mono ?_; rintro e w' ⟨rfl, rfl⟩)
          go_ret
          exact ⟨rfl, HX2.out⟩
set_option maxRecDepth 100000 in
set_option maxHeartbeats 1000000 in
theorem rBehind (h : RAt w rb T) {d : Nat → Nat} (hw : WF T d) (id : Int) : Calls Try.prog 68 #[.pointer (some ⟨rb, 0, none⟩), .int .i64 id] w (RVal (.int .i64 (T.behind id)) w) := by
  rw [← hw.behind_beside id]
  cases hg : T.get? id with
  | none =>
    have HAS := Lib.hid (rHas_no h hg)
    have e : T.beside id (T.allOf id).length = -1 := by unfold Tr.beside; rw [hg]
    rw [e]
    clear h hg e
    go_enter Try.func68, Try.ntmps68
    go_wp2_with (go_at_call 105; refine HAS.out.mono ?_; rintro e w' ⟨rfl, rfl⟩)
    go_ret
    exact ⟨rfl, Ext.refl _⟩
  | some nd =>
    have HAS := Lib.hid (rHas_yes h hg)
    have HAL := Lib.hid (rAll h hw id)
    have hl2 := allOf_2000 hw id
    have HBE := Lib.hid (fun (u : World) (x : Ext w u) => rBeside (h.ext x) hw id (T.allOf id).length (by omega) (by omega))
    clear h hw hg
    go_enter Try.func68, Try.ntmps68
    go_wp2_with fail
    refine HAS.out.mono ?_
    rintro e w' ⟨rfl, rfl⟩
    go_wp2_with fail
    refine HAL.out.mono ?_
    rintro e w2 ⟨v2, rfl, hr2, hx2⟩
    obtain ⟨a2, c2, e2, _⟩ := RowP.len_of' hr2
    subst e2
    have HX2 := Lib.hid hx2
    clear hr2 hx2
    go_wp2_with (go_at_call 67; refine (HBE.out _ HX2.out).mono ?_; rintro e w3 ⟨rfl, hx3⟩)
    go_ret
    exact ⟨rfl, HX2.out.trans hx3⟩
end
end Go.Proofs.Ytiglflmjidikpaa
