/- quillworkref08: drop, Drop. -/
import Derived.Test.YtiglflmjidikpaaRefG
namespace Go.Proofs.Ytiglflmjidikpaa
open Go Go.RowKit Go.BigFrame
set_option linter.unusedVariables false
set_option linter.unusedSimpArgs false

/-- a record is none any more -/
theorem refAt_rid6 {w w1 ga : World} {rb g : Nat} {T T' : Tr} (h : RefAt w ga rb g T) (x : Ext w w1) {j : Nat} (hj : j < T.nodes.length) (t1 : T'.cap = T.cap) (t2 : T'.deep = T.deep) (t3 : T'.nodes = T.nodes.set j none) {s0 : ByteArray} (hs : s0 = ByteArray.empty) :
    RefAt (put6 w1 g (j * 6) (.int .i64 0) (.int .i64 0) (.int .i64 (-1)) (.slice none 0 0) (.string s0) (.slice none 0 0)) ga rb g T' ∧ Chg (fun b => b = g) w (put6 w1 g (j * 6) (.int .i64 0) (.int .i64 0) (.int .i64 (-1)) (.slice none 0 0) (.string s0) (.slice none 0 0)) := by
  obtain ⟨cap, cur, b1, b2, b3, b4, b5, b6⟩ := h.row
  have hc : Chg (fun b => b = g) w (put6 w1 g (j * 6) (.int .i64 0) (.int .i64 0) (.int .i64 (-1)) (.slice none 0 0) (.string s0) (.slice none 0 0)) := put6_chg (F := fun b => b = g) (Chg.ext x) (fun _ => rfl) _ _ _ _ _ _ _
  have hlen : T'.nodes.length = T.nodes.length := by rw [t3]; simp
  refine ⟨⟨h.ne, ⟨cap, _, ?_, by omega, b3, put6_same (x.block b4) _ _ _ _ _ _, by rw [set6_size]; exact b5, fun i o hi => ?_⟩, fun q y hq => ?_⟩, hc⟩
  · rw [t1, t2, hlen]; exact hc.block b1 (fun e => h.ne e)
  · rw [t3] at hi
    by_cases e : i = j
    · subst e
      rw [List.getElem?_set_self hj] at hi
      cases hi
      subst hs
      have hz := set6_in (cs := cur) (o := i * 6) (by omega) (.int .i64 0) (.int .i64 0) (.int .i64 (-1)) (.slice none 0 0) (.string ByteArray.empty) (.slice none 0 0)
      exact ⟨.slice none 0 0, .slice none 0 0, hz 0 (by decide), hz 1 (by decide), hz 2 (by decide), hz 3 (by decide), hz 4 (by decide), hz 5 (by decide), nil_row _, nil_row _⟩
    · rw [List.getElem?_set_ne (Ne.symm e)] at hi
      exact (b6 i o hi).keep (fun _ _ h => h) fun m hm => set6_other (by omega) _ _ _ _ _ _
  · obtain ⟨e1, e2, e3⟩ := h.told q y hq
    exact ⟨hc.cell e1 e3, e2, e3⟩
def RDropIs (w ga : World) (rb g : Nat) (T' : Tr) (e : Ending) (w' : World) : Prop := e = .returned (.tuple #[]) ∧ RefAt w' ga rb g T' ∧ Chg (fun b => b = g) w w'
theorem rid_first {T : Tr} {q : Nat → Bool} {i : Nat} {nd : Nd} (hi : T.nodes[i]? = some (some nd)) (hq : q i = false) : (T.rid fun j => decide (j = i) || q j).nodes = (T.rid q).nodes.set i none := by
  rw [← Tr.rid_set hi hq]
set_option maxRecDepth 100000 in
set_option maxHeartbeats 2000000 in
theorem rdrop_fuel {T : Tr} {d : Nat → Nat} (hw : WF T d) {ga : World} {rb g : Nat} :
    ∀ (f i : Nat) (nd : Nd) (q : Nat → Bool) (w : World), T.nodes[i]? = some (some nd) → 41 ≤ d i + f → (∀ (j : Nat) (jd : Nd), T.nodes[j]? = some (some jd) → T.within j i = true → q j = false) →
      RefAt w ga rb g (T.rid q) → Calls Try.prog 130 #[.pointer (some ⟨rb, 0, none⟩), .int .i64 i] w (RDropIs w ga rb g (T.rid fun j => T.within j i || q j)) := by
  intro f
  induction f with
  | zero => intro i nd q w h h1; have := hw.deep i nd h; have := hw.small.deep1; omega
  | succ f ih =>
    intro i nd q w h h1 hq hR
    have hqi := hq i nd h (hw.within_self h)
    have hi' : (T.rid q).nodes[i]? = some (some nd) := Tr.rid_some.2 ⟨hqi, h⟩
    have hlen := hw.small.len
    have hil := (List.getElem?_eq_some_iff.1 h).1
    have nrg := hR.ne
    have nrg' := Ne.symm nrg
    obtain ⟨cap, cur, b1, b2, b3, b4, b5, b6⟩ := hR.row
    obtain ⟨va, vk, r0, r1, r2, r3, r4, r5, r6, r7⟩ := (b6 i _ hi').out
    replace r7 : RowRd ga 1 vk nd.kids.length (nd.kids.map (Value.int .i64)) := r7
    obtain ⟨ka, kc, rfl, hkc⟩ := r7.len_of
    have c2 : w.cell? ⟨rb, 2, none⟩ = some (.slice (some ⟨g, 0, none⟩) (T.rid q).nodes.length cap) := cellOf b1 rfl
    rw [Tr.rid_len] at c2
    have g0 := freeOf b4 (i * 6)
    have g1 := freeOf b4 (i * 6 + 1)
    have g2 := freeOf b4 (i * 6 + 2)
    have g3 := freeOf b4 (i * 6 + 3)
    have g4 := freeOf b4 (i * 6 + 4)
    have g5 := freeOf b4 (i * 6 + 5)
    replace r0 := cellOf b4 r0
    replace r1 := cellOf b4 r1
    replace r2 := cellOf b4 r2
    replace r3 := cellOf b4 r3
    replace r4 := cellOf b4 r4
    replace r5 : w.cell? ⟨g, i * 6 + 5, none⟩ = some (.slice ka nd.kids.length kc) := cellOf b4 r5
    have hst := refAt_rid6 hR (Ext.refl w) (j := i) (by rw [Tr.rid_len]; exact hil) (T' := T.rid fun j => decide (j = i) || q j) rfl rfl (rid_first h hqi) (s0 := ⟨#[]⟩) rfl
    have hkl := hw.kids_len h
    have HST := Lib.hid hst
    have HW := Lib.hid hw
    have HH := Lib.hid h
    have HQ := Lib.hid hq
    have HQI := Lib.hid hqi
    have IH := Lib.hid ih
    have HKR := Lib.hid r7
    clear hw hR h hq hqi ih hi' b1 b4 b6 r6 r7 hst
    go_enter Try.func130, Try.ntmps130
    go_wp2_with fail
    obtain ⟨ws, hws⟩ : ∃ ws : World, ws = (((((w.setCell ⟨g, i * 6, none⟩ (.int .i64 0)).setCell ⟨g, i * 6 + 1, none⟩ (.int .i64 0)).setCell ⟨g, i * 6 + 2, none⟩ (.int .i64 (-1))).setCell ⟨g, i * 6 + 3, none⟩ (.slice none 0 0)).setCell ⟨g, i * 6 + 4, none⟩ (.string ⟨#[]⟩)).setCell ⟨g, i * 6 + 5, none⟩ (.slice none 0 0) := ⟨_, rfl⟩
    have hws2 : put6 w g (i * 6) (.int .i64 0) (.int .i64 0) (.int .i64 (-1)) (.slice none 0 0) (.string ⟨#[]⟩) (.slice none 0 0) = ws := hws.symm
    rw [hws2] at HST
    rw [← hws]
    clear hws hws2 g0 g1 g2 g3 g4 g5 r0 r1 r2 r3 r4 r5 c2
    go_loopw [5] (fun n wr => ∃ k : Nat, k ≤ nd.kids.length ∧ n = .int .i64 k ∧ Chg (fun b => b = g) w wr ∧ RefAt wr ga rb g (T.rid fun j => T.inAny (nd.kids.take k) j || (decide (j = i) || q j))) (fun n _ => nd.kids.length - (intOf n).toNat)
    case atStart =>
      refine ⟨0, Nat.zero_le _, rfl, HST.out.2, ?_⟩
      have e : (fun j => T.inAny (nd.kids.take 0) j || (decide (j = i) || q j)) = fun j => decide (j = i) || q j := by funext j; simp [Tr.inAny]
      rw [e]; exact HST.out.1
    case round =>
      obtain ⟨k, hk, rfl, hch, htr⟩ := hrel
      have HTR := Lib.hid htr
      have HCH := Lib.hid hch
      clear htr hch HST
      by_cases hlt : k < nd.kids.length
      · obtain ⟨x, hx⟩ : ∃ x, nd.kids[k]? = some x := ⟨nd.kids[k], by simp [hlt]⟩
        cases ka with
        | none =>
          obtain ⟨_, _, _, e, _, hn, _⟩ := HKR.out
          cases e
          have := (hn rfl).1
          omega
        | some a =>
          obtain ⟨kb, ko, ks⟩ := a
          have cx : wr.cell? (Addr.add ⟨kb, ko, ks⟩ k) = some (.int .i64 x) := by
            obtain ⟨_, _, _, e, _, _, hc⟩ := HKR.out
            cases e
            exact (HTR.out.told _ _ (hc _ rfl k (.int .i64 x) (by rw [List.getElem?_map, hx]; rfl))).1
          obtain ⟨j, kd, h3, h4, h5, h6⟩ := HW.out.kid HH.out hx
          subst h3
          have HX := Lib.hid hx
          have H4 := Lib.hid h4
          have hmem : (j : Int) ∈ nd.kids := List.mem_of_getElem? hx
          have hqj : ∀ (m : Nat) (md : Nd), T.nodes[m]? = some (some md) → T.within m j = true → (T.inAny (nd.kids.take k) m || (decide (m = i) || q m)) = false := fun m md hm hin => by
            rw [HQ.out m md hm (HW.out.kid_within HH.out hmem m md hm hin), Bool.or_false]
            have hmi : decide (m = i) = false := by
              rw [decide_eq_false_iff_not]
              intro e
              subst e
              have := (HW.out.within_depth m md hm hin).1
              omega
            rw [hmi, Bool.or_false]
            unfold Tr.inAny
            rw [Bool.eq_false_iff]
            intro hany
            obtain ⟨y, hy, hyin⟩ := List.any_eq_true.1 hany
            obtain ⟨jy, yd, rfl, hyn, _⟩ := (HW.out.kids i nd HH.out).2 y (List.mem_of_mem_take hy)
            refine HW.out.kids_apart HH.out (List.mem_of_mem_take hy) hmem (fun e => ?_) m md hm hyin hin
            subst e
            have hnd := (HW.out.kids i nd HH.out).1
            obtain ⟨hlt', he⟩ := List.getElem?_eq_some_iff.1 hx
            rw [← List.take_append_drop k nd.kids, List.nodup_append] at hnd
            refine hnd.2.2 _ hy _ ?_ rfl
            rw [List.drop_eq_getElem_cons hlt', he]
            exact List.mem_cons_self
          have h41 : 41 ≤ d j + f := by omega
          have hrec := IH.out j kd _ wr h4 h41 hqj HTR.out
          have HREC := Lib.hid hrec
          clear hx h4 h5 h6 hqj hrec hmem
          go_wp2_with (go_at_call 130; refine HREC.out.mono ?_; rintro e w' ⟨rfl, hT', hch'⟩)
          go_roundw
          case rel =>
            refine ⟨k + 1, by omega, by go_num, HCH.out.trans hch', ?_⟩
            have e : (fun m : Nat => T.inAny (nd.kids.take (k + 1)) m || (decide (m = i) || q m)) = fun m : Nat => T.within m j || (T.inAny (nd.kids.take k) m || (decide (m = i) || q m)) := by
              funext m; rw [inAny_take T nd.kids k j HX.out, Bool.or_assoc]
            rw [e]; exact hT'
          case measure => simp [intOf]; omega
      · obtain rfl : k = nd.kids.length := by omega
        go_wp2_with fail
        go_end0
        refine ⟨rfl, ?_, HCH.out⟩
        have htr := HTR.out
        rw [List.take_length] at htr
        have e2 : (T.rid fun j => T.inAny nd.kids j || (decide (j = i) || q j)) = T.rid fun j => T.within j i || q j := Tr.rid_congr fun j jd hj => by
          rw [← HW.out.inAny_kids HH.out hj]
          cases T.inAny nd.kids j <;> cases decide (j = i) <;> cases q j <;> rfl
        rw [← e2]; exact htr
section
variable {w : World} {F : Nat → Prop} {rb : Nat} {T : Tr}
set_option maxHeartbeats 1000000 in
theorem rDrop_none (hR : RefOn w F rb T) {id : Int} (h : T.get? id = none) : Calls Try.prog 100 #[.pointer (some ⟨rb, 0, none⟩), .int .i64 id] w (RErr F w rb 2 T) := by
  have H := Lib.hid (RAft.refl hR)
  have HAS := Lib.hid (rHas_no hR.at h)
  clear hR h
  go_enter Try.func100, Try.ntmps100
  go_wp2_with (go_at_call 105; refine HAS.out.mono ?_; rintro e w' ⟨rfl, rfl⟩)
  go_ret
  exact ⟨rfl, H.out⟩
set_option maxHeartbeats 1000000 in
theorem rDrop_arg (hR : RefOn w F rb T) {id : Int} {nd : Nd} (h : T.get? id = some nd) (ha : id = 0 ∨ 0 ≤ nd.parent) : Calls Try.prog 100 #[.pointer (some ⟨rb, 0, none⟩), .int .i64 id] w (RErr F w rb 1 T) := by
  have H := Lib.hid (RAft.refl hR)
  have HAS := Lib.hid (rHas_yes hR.at h)
  obtain ⟨i, rfl, hi, hl⟩ := nodes_some h
  obtain ⟨g, cap, aa, ac, ka, kc, c, c0, c1, c2, _⟩ := hR.at.one hi
  replace c2 : w.cell? ⟨g, i * 6 + 2, none⟩ = some (.int .i64 nd.parent) := c2
  clear hR h hi c0 c1
  by_cases h0 : (i : Int) = 0
  · have b0 : ((i : Int) == 0) = true := by simp [h0]
    clear ha h0
    go_enter Try.func100, Try.ntmps100
    go_wp2_with (go_at_call 105; refine HAS.out.mono ?_; rintro e w' ⟨rfl, rfl⟩)
    go_ret
    exact ⟨rfl, H.out⟩
  · have b0 : ((i : Int) == 0) = false := by simpa using h0
    have h1 : 0 ≤ nd.parent := by rcases ha with h | h; exact absurd h h0; exact h
    clear ha h0
    go_enter Try.func100, Try.ntmps100
    go_wp2_with (go_at_call 105; refine HAS.out.mono ?_; rintro e w' ⟨rfl, rfl⟩)
    go_ret
    exact ⟨rfl, H.out⟩
set_option maxHeartbeats 1000000 in
theorem rDrop_ok (hR : RefOn w F rb T) {d : Nat → Nat} (hw : WF T d) {i : Nat} {nd : Nd} (hi : T.nodes[i]? = some (some nd)) (h0 : i ≠ 0) (hp : nd.parent = -1) :
    Calls Try.prog 100 #[.pointer (some ⟨rb, 0, none⟩), .int .i64 i] w (RErr F w rb 0 (T.rid fun j => T.within j i)) := by
  have HAS := Lib.hid (rHas_yes hR.at (Tr.get_of hi))
  obtain ⟨g, cap, aa, ac, ka, kc, c, c0, c1, c2, _⟩ := hR.at.one hi
  replace c2 : w.cell? ⟨g, i * 6 + 2, none⟩ = some (.int .i64 (-1)) := by rw [← hp]; exact c2
  obtain ⟨ga, g', hat, hF1, hF2, hF3⟩ := hR.out
  have hat2 := hat
  rw [← Tr.rid_none hw.count] at hat2
  have hd := rdrop_fuel hw 50 i nd (fun _ => false) w hi (by omega) (fun _ _ _ _ => rfl) hat2
  have e : (T.rid fun j => T.within j i || false) = T.rid fun j => T.within j i := by simp
  rw [e] at hd
  have hil := (List.getElem?_eq_some_iff.1 hi).1
  have HD := Lib.hid hd
  have HFF := Lib.hid (And.intro hF1 (And.intro hF2 hF3))
  have b0 : ((i : Int) == 0) = false := by simp; omega
  clear hR hw hi h0 hp hat hat2 hF1 hF2 hF3 hd e c0 c1
  go_enter Try.func100, Try.ntmps100
  go_wp2_with (first | (go_at_call 105; refine HAS.out.mono ?_; rintro e w' ⟨rfl, rfl⟩) | (go_at_call 130; refine HD.out.mono ?_; rintro e w' ⟨rfl, hT', hch⟩))
  go_ret
  exact ⟨rfl, ⟨ga, g', hT', .inl HFF.out.1, .inl HFF.out.2.1, fun q y hq => .inl (HFF.out.2.2 q y hq)⟩, hch.wide fun b hb => by subst hb; exact HFF.out.2.1⟩
end
end Go.Proofs.Ytiglflmjidikpaa
