/- quillworkref08: Insert. Printed by wip/gen_refg.py. -/
import Derived.Test.YtiglflmjidikpaaRefF
namespace Go.Proofs.Ytiglflmjidikpaa
open Go Go.RowKit Go.BigFrame
set_option linter.unusedVariables false
set_option linter.unusedSimpArgs false

theorem nil_row (w : World) {e : Nat} : RowRd w e (.slice none 0 0) 0 [] := ⟨by simp, none, 0, rfl, Nat.le_refl _, fun _ => ⟨rfl, rfl⟩, fun a h => by cases h⟩
theorem link_row {w : World} {p : Nat → Prop} {l : List Int} {j : Nat} {x : Int} {a : Option Addr} {c : Nat} (hj : j ≤ l.length)
    (h : RowP w p 3 1 (.slice a (j + 1 + (l.length - j)) c) (j + 1 + (l.length - j)) ((l.map (Value.int .i64)).take j ++ [.int .i64 x] ++ (l.map (Value.int .i64)).drop j)) : RowP w p 3 1 (.slice a (j + 1 + (l.length - j)) c) (l.take j ++ [x] ++ l.drop j).length ((l.take j ++ [x] ++ l.drop j).map (Value.int .i64)) := by
  have e1 : (l.take j ++ [x] ++ l.drop j).length = j + 1 + (l.length - j) := by simp; omega
  have e2 : (l.take j ++ [x] ++ l.drop j).map (Value.int .i64) = (l.map (Value.int .i64)).take j ++ [.int .i64 x] ++ (l.map (Value.int .i64)).drop j := by simp [List.map_take, List.map_drop]
  rw [e1, e2]; exact h
/-- the run of an append of numbers, opaque -/
structure AppI (w : World) (v u v' : Value) (w' : World) : Prop where
  out : (Builtin.append_ #[70, 70] 70 #[v, u]).run Try.prog w = .ok v' w'
theorem wpList_app {w : World} {ops : Array Oper} {rest : List Oper} {o : Oper} {a : Act} {Q : Exit → Act → World → Prop}
    (hg : o.guard = none) (s x : Operand) (hop : o.op = Op.call { callee := Callee.builtin Builtin.append, args := #[s, x], argTypes := #[70, 70] }) (ht : o.type = 70)
    (v u : Value) (hs : a.eval s = v) (hx : a.eval x = u) (v' : Value) (w' : World) (hr : AppI w v u v' w') (hK : wpList Try.prog ops Q rest (a.put o.dst v') w') :
    wpList Try.prog ops Q (o :: rest) a w := wpList_append_run w hg s x _ hop v u hs hx v' w' (by rw [ht]; exact hr.out) hK
section
variable {w : World} {F : Nat → Prop} {rb : Nat} {T : Tr}
set_option maxRecDepth 100000 in
set_option maxHeartbeats 1000000 in
theorem rInsert_none (hR : RefOn w F rb T) {p at' k : Int} (h : T.get? p = none ∨ T.get? k = none) : Calls Try.prog 98 #[.pointer (some ⟨rb, 0, none⟩), .int .i64 p, .int .i64 at', .int .i64 k] w (RErr F w rb 2 T) := by
  have H := Lib.hid (RAft.refl hR)
  cases hp : T.get? p with
  | none =>
    have HAP := Lib.hid (rHas_no hR.at hp)
    clear h hR hp
    go_enter Try.func98, Try.ntmps98
    go_wp2_with (go_at_call 105; refine HAP.out.mono ?_; rintro e w' ⟨rfl, rfl⟩)
    go_ret
    exact ⟨rfl, H.out⟩
  | some pd =>
    have hk : T.get? k = none := by rcases h with h | h; rw [h] at hp; cases hp; exact h
    have HAP := Lib.hid (rHas_yes hR.at hp)
    have HAK := Lib.hid (rHas_no hR.at hk)
    clear h hR hp hk
    go_enter Try.func98, Try.ntmps98
    go_wp2_with fail
    refine HAP.out.mono ?_
    rintro e w' ⟨rfl, rfl⟩
    go_wp2_with fail
    refine HAK.out.mono ?_
    rintro e w' ⟨rfl, rfl⟩
    go_wp2_with fail
    go_ret
    exact ⟨rfl, H.out⟩
set_option maxRecDepth 100000 in
set_option maxHeartbeats 1000000 in
theorem rInsert_kind (hR : RefOn w F rb T) {p at' k : Int} {pd kd : Nd} (hp : T.get? p = some pd) (hk : T.get? k = some kd) (ht : (pd.tag == 0) = true) : Calls Try.prog 98 #[.pointer (some ⟨rb, 0, none⟩), .int .i64 p, .int .i64 at', .int .i64 k] w (RErr F w rb 6 T) := by
  have H := Lib.hid (RAft.refl hR)
  have HAP := Lib.hid (rHas_yes hR.at hp)
  have HAK := Lib.hid (rHas_yes hR.at hk)
  obtain ⟨ip, rfl, hip, hlp⟩ := nodes_some hp
  obtain ⟨ik, rfl, hik, hlk⟩ := nodes_some hk
  obtain ⟨g, cap, aa, ac, ka, kc, c, c0, c1, c2, c3, c4, c5, _, hrp⟩ := hR.at.one hip
  replace c1 : w.cell? ⟨g, ip * 6 + 1, none⟩ = some (.int .i64 pd.tag) := c1
  replace c5 : w.cell? ⟨g, ip * 6 + 5, none⟩ = some (.slice ka pd.kids.length kc) := c5
  obtain ⟨g', cap', aa', ac', ka', kc', c', e0, e1, e2, e3, e4, e5, _, _⟩ := hR.at.one hik
  rw [c] at c'
  cases c'
  replace e2 : w.cell? ⟨g, ik * 6 + 2, none⟩ = some (.int .i64 kd.parent) := e2
  clear hrp hR hp hk hip hik c0 c2 c3 c4 e0 e1 e3 e4 e5
  go_enter Try.func98, Try.ntmps98
  go_wp2_with fail
  refine HAP.out.mono ?_
  rintro e w' ⟨rfl, rfl⟩
  go_wp2_with fail
  refine HAK.out.mono ?_
  rintro e w' ⟨rfl, rfl⟩
  go_wp2_with fail
  go_ret
  exact ⟨rfl, H.out⟩
set_option maxRecDepth 100000 in
set_option maxHeartbeats 1000000 in
theorem rInsert_arg (hR : RefOn w F rb T) {p at' k : Int} {pd kd : Nd} (hp : T.get? p = some pd) (hk : T.get? k = some kd) (ht : (pd.tag == 0) = false)
    (h : k = 0 ∨ 0 ≤ kd.parent ∨ at' < 0 ∨ (pd.kids.length : Int) < at') : Calls Try.prog 98 #[.pointer (some ⟨rb, 0, none⟩), .int .i64 p, .int .i64 at', .int .i64 k] w (RErr F w rb 1 T) := by
  have H := Lib.hid (RAft.refl hR)
  have HAP := Lib.hid (rHas_yes hR.at hp)
  have HAK := Lib.hid (rHas_yes hR.at hk)
  obtain ⟨ip, rfl, hip, hlp⟩ := nodes_some hp
  obtain ⟨ik, rfl, hik, hlk⟩ := nodes_some hk
  obtain ⟨g, cap, aa, ac, ka, kc, c, c0, c1, c2, c3, c4, c5, _, hrp⟩ := hR.at.one hip
  replace c1 : w.cell? ⟨g, ip * 6 + 1, none⟩ = some (.int .i64 pd.tag) := c1
  replace c5 : w.cell? ⟨g, ip * 6 + 5, none⟩ = some (.slice ka pd.kids.length kc) := c5
  obtain ⟨g', cap', aa', ac', ka', kc', c', e0, e1, e2, e3, e4, e5, _, _⟩ := hR.at.one hik
  rw [c] at c'
  cases c'
  replace e2 : w.cell? ⟨g, ik * 6 + 2, none⟩ = some (.int .i64 kd.parent) := e2
  clear hrp hR hp hk hip hik c0 c2 c3 c4 e0 e1 e3 e4 e5
  by_cases h1 : (ik : Int) = 0
  · have b1 : ((ik : Int) == 0) = true := by simp [h1]
    have H1 := Lib.hid h1
    clear h h1
    go_enter Try.func98, Try.ntmps98
    go_wp2_with fail
    refine HAP.out.mono ?_
    rintro e w' ⟨rfl, rfl⟩
    go_wp2_with fail
    refine HAK.out.mono ?_
    rintro e w' ⟨rfl, rfl⟩
    go_wp2_with fail
    go_ret
    exact ⟨rfl, H.out⟩
  · have b1 : ((ik : Int) == 0) = false := by simpa using h1
    have H1 := Lib.hid h1
    clear h1
    by_cases h2 : 0 ≤ kd.parent
    · clear h
      go_enter Try.func98, Try.ntmps98
      go_wp2_with fail
      refine HAP.out.mono ?_
      rintro e w' ⟨rfl, rfl⟩
      go_wp2_with fail
      refine HAK.out.mono ?_
      rintro e w' ⟨rfl, rfl⟩
      go_wp2_with fail
      go_ret
      exact ⟨rfl, H.out⟩
    · by_cases h3 : at' < 0
      · clear h
        go_enter Try.func98, Try.ntmps98
        go_wp2_with fail
        refine HAP.out.mono ?_
        rintro e w' ⟨rfl, rfl⟩
        go_wp2_with fail
        refine HAK.out.mono ?_
        rintro e w' ⟨rfl, rfl⟩
        go_wp2_with fail
        go_ret
        exact ⟨rfl, H.out⟩
      · have h4 : (pd.kids.length : Int) < at' := by
          have := H1.out
          rcases h with h | h | h | h
          · exact absurd h this
          · exact absurd h h2
          · exact absurd h h3
          · exact h
        clear h
        go_enter Try.func98, Try.ntmps98
        go_wp2_with fail
        refine HAP.out.mono ?_
        rintro e w' ⟨rfl, rfl⟩
        go_wp2_with fail
        refine HAK.out.mono ?_
        rintro e w' ⟨rfl, rfl⟩
        go_wp2_with fail
        go_ret
        exact ⟨rfl, H.out⟩
set_option maxRecDepth 100000 in
set_option maxHeartbeats 1000000 in
theorem rInsert_loop (hR : RefOn w F rb T) {d : Nat → Nat} (hw : WF T d) {p at' k : Int} {pd kd : Nd} (hp : T.get? p = some pd) (hk : T.get? k = some kd) (ht : (pd.tag == 0) = false)
    (h0 : k ≠ 0) (h1 : kd.parent < 0) (h2 : 0 ≤ at') (h3 : at' ≤ (pd.kids.length : Int)) (hin : T.win p k = true) : Calls Try.prog 98 #[.pointer (some ⟨rb, 0, none⟩), .int .i64 p, .int .i64 at', .int .i64 k] w (RErr F w rb 5 T) := by
  have HWI := Lib.hid (rWithin hR.at hw (o := k) hp)
  rw [hin] at HWI
  clear hin hw
  have H := Lib.hid (RAft.refl hR)
  have HAP := Lib.hid (rHas_yes hR.at hp)
  have HAK := Lib.hid (rHas_yes hR.at hk)
  obtain ⟨ip, rfl, hip, hlp⟩ := nodes_some hp
  obtain ⟨ik, rfl, hik, hlk⟩ := nodes_some hk
  obtain ⟨g, cap, aa, ac, ka, kc, c, c0, c1, c2, c3, c4, c5, _, hrp⟩ := hR.at.one hip
  replace c1 : w.cell? ⟨g, ip * 6 + 1, none⟩ = some (.int .i64 pd.tag) := c1
  replace c5 : w.cell? ⟨g, ip * 6 + 5, none⟩ = some (.slice ka pd.kids.length kc) := c5
  obtain ⟨g', cap', aa', ac', ka', kc', c', e0, e1, e2, e3, e4, e5, _, _⟩ := hR.at.one hik
  rw [c] at c'
  cases c'
  replace e2 : w.cell? ⟨g, ik * 6 + 2, none⟩ = some (.int .i64 kd.parent) := e2
  clear hrp hR hp hk hip hik c0 c2 c3 c4 e0 e1 e3 e4 e5
  have b1 : ((ik : Int) == 0) = false := by simpa using h0
  clear h0
  go_enter Try.func98, Try.ntmps98
  go_wp2_with fail
  refine HAP.out.mono ?_
  rintro e w' ⟨rfl, rfl⟩
  go_wp2_with fail
  refine HAK.out.mono ?_
  rintro e w' ⟨rfl, rfl⟩
  go_wp2_with fail
  refine HWI.out.mono ?_
  rintro e w' ⟨rfl, rfl⟩
  go_wp2_with fail
  go_ret
  exact ⟨rfl, H.out⟩
set_option maxRecDepth 100000 in
set_option maxHeartbeats 1000000 in
theorem rInsert_deep (hR : RefOn w F rb T) {d : Nat → Nat} (hw : WF T d) {p at' k : Int} {pd kd : Nd} (hp : T.get? p = some pd) (hk : T.get? k = some kd) (ht : (pd.tag == 0) = false)
    (h0 : k ≠ 0) (h1 : kd.parent < 0) (h2 : 0 ≤ at') (h3 : at' ≤ (pd.kids.length : Int)) (hin : T.win p k = false) (hdp : T.deep < ((T.pathOf p).length : Int) + 1 + T.height k) : Calls Try.prog 98 #[.pointer (some ⟨rb, 0, none⟩), .int .i64 p, .int .i64 at', .int .i64 k] w (RErr F w rb 4 T) := by
  have hd41 := hw.path_41 p
  have hpr := hw.path_rank p ⟨_, hp⟩
  obtain ⟨dp, hdpe⟩ : ∃ dp, (T.pathOf p).length = dp := ⟨_, rfl⟩
  obtain ⟨hh, hhe⟩ : ∃ hh, T.height k = hh := ⟨_, rfl⟩
  have hb := T.hgt_le 50 k
  have hb2 : -1 ≤ hh ∧ hh ≤ 50 := by rw [← hhe]; exact hb
  rw [hdpe] at hd41
  rw [hdpe, hhe] at hdp
  have HRO := Lib.hid hR
  have HWI := Lib.hid (rWithin hR.at hw (o := k) hp)
  have HDE := Lib.hid (fun u : ExtOf w => RSame.val (hdpe ▸ rDepth (hR.ext u.ext).at hw hp))
  have HHE := Lib.hid (fun u : ExtOf w => RSame.val (hhe ▸ rHeight (hR.ext u.ext).at hw k kd hk))
  have hsm := hw.small.deep1
  have hsm0 := hw.small.deep0
  have cdp : w.cell? ⟨rb, 1, none⟩ = some (.int .i64 T.deep) := by
    obtain ⟨_, _, _, _, _, h⟩ := hR.at.slice
    exact h
  rw [hin] at HWI
  clear hin hw hdpe hhe hb hpr
  have H := Lib.hid (RAft.refl hR)
  have HAP := Lib.hid (rHas_yes hR.at hp)
  have HAK := Lib.hid (rHas_yes hR.at hk)
  obtain ⟨ip, rfl, hip, hlp⟩ := nodes_some hp
  obtain ⟨ik, rfl, hik, hlk⟩ := nodes_some hk
  obtain ⟨g, cap, aa, ac, ka, kc, c, c0, c1, c2, c3, c4, c5, _, hrp⟩ := hR.at.one hip
  replace c1 : w.cell? ⟨g, ip * 6 + 1, none⟩ = some (.int .i64 pd.tag) := c1
  replace c5 : w.cell? ⟨g, ip * 6 + 5, none⟩ = some (.slice ka pd.kids.length kc) := c5
  obtain ⟨g', cap', aa', ac', ka', kc', c', e0, e1, e2, e3, e4, e5, _, _⟩ := hR.at.one hik
  rw [c] at c'
  cases c'
  replace e2 : w.cell? ⟨g, ik * 6 + 2, none⟩ = some (.int .i64 kd.parent) := e2
  clear hrp hR hp hk hip hik c0 c2 c3 c4 e0 e1 e3 e4 e5
  have b1 : ((ik : Int) == 0) = false := by simpa using h0
  clear h0
  go_enter Try.func98, Try.ntmps98
  go_wp2_with fail
  refine HAP.out.mono ?_
  rintro e w' ⟨rfl, rfl⟩
  go_wp2_with fail
  refine HAK.out.mono ?_
  rintro e w' ⟨rfl, rfl⟩
  go_upto_region 10 with fail
  refine HWI.out.mono ?_
  rintro e w' ⟨rfl, rfl⟩
  go_upto_region 10 with fail
  have x1 := fun u : ExtOf w => u.ext.cell cdp
  refine wp_region_ext (by kernel_rfl) (by kernel_rfl) ?_
  repeat (go_big_quiet_step (first | (go_at_call 109; exact inExt (HDE.out _)) | (go_at_call 110; exact inExt (HHE.out _))))
  refine wpQuiet_nil ?_
  rintro _ ⟨u, rfl⟩
  clear x1
  have HU := Lib.hid (H.out.ext u.ext)
  go_wp2_with fail
  go_ret
  exact ⟨rfl, HU.out⟩
set_option maxRecDepth 100000 in
set_option maxHeartbeats 1000000 in
theorem rInsert_ok_some (hR : RefOn w F rb T) {d : Nat → Nat} (hw : WF T d) {p at' k : Nat} {pd kd : Nd} (hp : T.nodes[p]? = some (some pd)) (hk : T.nodes[k]? = some (some kd)) (ht : (pd.tag == 0) = false)
    (h0 : k ≠ 0) (h1 : kd.parent < 0) (h3 : at' ≤ pd.kids.length) (hpk : p ≠ k) (hin : T.win p k = false) (hdp : ((T.pathOf p).length : Int) + 1 + T.height k ≤ T.deep) (hak : ∀ g cap, w.cell? ⟨rb, 2, none⟩ = some (.slice (some ⟨g, 0, none⟩) T.nodes.length cap) → ∃ ad n c, w.cell? ⟨g, p * 6 + 5, none⟩ = some (.slice (some ad) n c)) : Calls Try.prog 98 #[.pointer (some ⟨rb, 0, none⟩), .int .i64 p, .int .i64 at', .int .i64 k] w (RErr F w rb 0 (T.link p at' k pd kd)) := by
  have HAP := Lib.hid (rHas_yes hR.at (Tr.get_of hp))
  have HAK := Lib.hid (rHas_yes hR.at (Tr.get_of hk))
  have hd41 := hw.path_41 p
  obtain ⟨dp, hdpe⟩ : ∃ dp, (T.pathOf p).length = dp := ⟨_, rfl⟩
  obtain ⟨hh, hhe⟩ : ∃ hh, T.height k = hh := ⟨_, rfl⟩
  have hb := T.hgt_le 50 k
  have hb2 : -1 ≤ hh ∧ hh ≤ 50 := by rw [← hhe]; exact hb
  rw [hdpe] at hd41
  rw [hdpe, hhe] at hdp
  have HWI := Lib.hid (rWithin hR.at hw (o := k) (Tr.get_of hp))
  have HDE := Lib.hid (fun u : ExtOf w => RSame.val (hdpe ▸ rDepth (hR.ext u.ext).at hw (Tr.get_of hp)))
  have HHE := Lib.hid (fun u : ExtOf w => RSame.val (hhe ▸ rHeight (hR.ext u.ext).at hw k kd (Tr.get_of hk)))
  have hsm := hw.small.deep1
  have hsm0 := hw.small.deep0
  have hkl := hw.kids_len hp
  rw [hin] at HWI
  have hpl := (List.getElem?_eq_some_iff.1 hp).1
  have hkl2 := (List.getElem?_eq_some_iff.1 hk).1
  obtain ⟨ga, g, hat, hF1, hF2, hF3⟩ := hR.out
  have HAT := Lib.hid hat
  have HFF := Lib.hid (And.intro hF1 (And.intro hF2 hF3))
  have nrg : rb ≠ g := hat.ne
  have nrg' := Ne.symm nrg
  obtain ⟨cap, cur, b1, b2, b3, b4, b5, b6⟩ := hat.row
  have c : w.cell? ⟨rb, 2, none⟩ = some (.slice (some ⟨g, 0, none⟩) T.nodes.length cap) := cellOf b1 rfl
  have cdp : w.cell? ⟨rb, 1, none⟩ = some (.int .i64 T.deep) := cellOf b1 rfl
  have lg := (Array.getElem?_eq_some_iff.1 b4).1
  have fp := freeOf b4 (p * 6 + 5)
  have fk := freeOf b4 (k * 6 + 2)
  obtain ⟨va, vk, r0, r1, r2, r3, r4, r5, r6, r7⟩ := (b6 k _ hk).out
  replace r2 : w.cell? ⟨g, k * 6 + 2, none⟩ = some (.int .i64 kd.parent) := cellOf b4 r2
  clear r0 r1 r3 r4 r5 r6 r7
  obtain ⟨va', vk', r0, r1, _, r3, r4, r5, r6, r7⟩ := (b6 p _ hp).out
  replace r1 : w.cell? ⟨g, p * 6 + 1, none⟩ = some (.int .i64 pd.tag) := cellOf b4 r1
  replace r5 := cellOf b4 r5
  replace r7 : RowRd w 1 vk' pd.kids.length (pd.kids.map (Value.int .i64)) := r7.cells fun q y hq => (hat.told q y hq).1
  obtain ⟨ak, ck, rfl, hlck⟩ := r7.len_of
  obtain ⟨ad, _, _, hq⟩ := hak g cap c
  rw [r5] at hq
  obtain rfl : ak = some ad := by injection hq with hq; injection hq
  obtain ⟨kb, ko, ks⟩ := ad
  clear hak hq
  have HRD := Lib.hid r7
  have HP := Lib.hid hp
  have HK := Lib.hid hk
  have b10 : ((k : Int) == 0) = false := by simp; omega
  clear hin hw hdpe hhe hb hp hk hR hat hF1 hF2 hF3 b1 b4 b6 r0 r3 r4 r6 r7 h0
  go_enter Try.func98, Try.ntmps98
  go_wp2_with fail
  refine HAP.out.mono ?_
  rintro e w' ⟨rfl, rfl⟩
  go_wp2_with fail
  refine HAK.out.mono ?_
  rintro e w' ⟨rfl, rfl⟩
  go_upto_region 10 with fail
  refine HWI.out.mono ?_
  rintro e w' ⟨rfl, rfl⟩
  go_upto_region 10 with fail
  have x1 := fun u : ExtOf w => u.ext.cell cdp
  refine wp_region_ext (by kernel_rfl) (by kernel_rfl) ?_
  repeat (go_big_quiet_step (first | (go_at_call 109; exact inExt (HDE.out _)) | (go_at_call 110; exact inExt (HHE.out _))))
  refine wpQuiet_nil ?_
  rintro _ ⟨u, rfl⟩
  clear x1
  have HU := Lib.hid u.ext
  have xe := u.ext.alloc (.cells #[] 3)
  obtain ⟨v1, wA, row, hrun, hra, hga, hrow⟩ := append_ints (w := u.val.alloc (.cells #[] 3)) (B := u.val.heap.size) (v := .slice (some ⟨u.val.heap.size, 0, none⟩) 0 0) (n := 0) (xs := []) ⟨rfl, .inl ⟨rfl, _, rfl⟩⟩ ((RowRd.front HRD.out (j := at') (by omega)).ext xe) (by omega) (fun z hz => ints_one pd.kids z (List.mem_of_mem_take hz))
  rw [Nat.zero_add, List.nil_append] at hra
  obtain ⟨a1, c1, rfl, _⟩ := hra.rd.len_of
  have xA : Ext w wA := xe.grown hga fun z hz => Nat.le_trans u.ext.size (hrow z hz)
  have hsu := u.ext.size
  have hra' := RowP.imp hra (q := fun b => w.heap.size ≤ b) fun b _ hb => by rcases hb with h | h; exact Nat.le_trans hsu h; exact Nat.le_trans hsu (Nat.le_trans (by simp) h)
  have xk := xA.alloc (.cells #[.int .i64 k] 3)
  obtain ⟨v2, wB, row2, hrun2, hrb, hgb, hrow2⟩ := append_ints (w := wA.alloc (.cells #[.int .i64 k] 3)) (B := w.heap.size) (v := .slice a1 at' c1) (n := at') (RowP.ext hra' ((Ext.refl wA).alloc _)) (u := .slice (some ⟨wA.heap.size, 0, none⟩) 1 1) (m := 1) (ys := [.int .i64 k]) ⟨rfl, _, _, rfl, Nat.le_refl _, (fun h => by cases h), fun a ha => by cases ha; exact cell_one_new' (cellOf (heap_alloc_new wA _) rfl)⟩ (by omega) (by simp [Value.oneCell'])
  obtain ⟨a2, c2, rfl, _⟩ := hrb.rd.len_of
  have xB : Ext w wB := xk.grown hgb hrow2
  have hrb' := RowP.imp hrb (q := fun b => w.heap.size ≤ b) fun b _ hb => by rcases hb with h | h; exact h; exact Nat.le_trans xA.size (Nat.le_trans (by simp) h)
  obtain ⟨v3, wC, row3, hrun3, hrc, hgc, hrow3⟩ := append_ints (w := wB.drew) (B := w.heap.size) (v := .slice a2 (at' + 1) c2) (n := at' + 1) hrb' ((RowRd.backIf HRD.out (j := at') (by omega)).ext xB.drew) (by omega) (fun z hz => ints_one pd.kids z (List.mem_of_mem_drop hz))
  obtain ⟨a3, c3, rfl, _⟩ := hrc.rd.len_of
  have xC : Ext w wC := xB.drew.grown hgc hrow3
  have hrc' := RowP.imp hrc (q := fun b => w.heap.size ≤ b) fun b _ hb => by rcases hb with h | h; exact h; exact Nat.le_trans xB.size h
  have cB := xB.cell c
  have rB := xB.cell r5
  have cC := xC.cell c
  have rC := xC.cell r5
  have fpC := xC.free lg fp
  have kC := xC.cell r2
  have fkC := xC.free lg fk
  have XC := Lib.hid xC
  have HRUN := Lib.hid (AppI.mk hrun)
  have HRUN2 := Lib.hid (AppI.mk hrun2)
  have HRUN3 := Lib.hid hrun3
  have HRC := Lib.hid hrc'
  clear hra hra' hrb hrb' hrc hrc' hrun hrun2 hrun3 xe xA xk xB xC hga hrow hgb hrow2 hgc hrow3 hsu
  go_wp2_with (at_builtin; first | refine wpList_app rfl _ _ rfl rfl _ _ rfl rfl _ _ HRUN.out ?_ | refine wpList_app rfl _ _ rfl rfl _ _ rfl rfl _ _ HRUN2.out ?_)
  have hif : 0 ≤ (at' : Int) ∧ (at' : Int) ≤ (pd.kids.length : Int) := by omega
  refine wp_region_E (S := fun w' => w'.cell? ⟨rb, 2, none⟩ = some (.slice (some ⟨g, 0, none⟩) T.nodes.length cap) ∧ w'.cell? ⟨g, p * 6 + 5, none⟩ = some (.slice (some ⟨kb, ko, ks⟩) pd.kids.length ck)) (n := 12) (by kernel_rfl) ?_
  have hS : wB.drew.cell? ⟨rb, 2, none⟩ = some (.slice (some ⟨g, 0, none⟩) T.nodes.length cap) ∧ wB.drew.cell? ⟨g, p * 6 + 5, none⟩ = some (.slice (some ⟨kb, ko, ks⟩) pd.kids.length ck) := ⟨cB, rB⟩
  show wpE _ _ _ _ _ 12 13 (Array.replicate 13 false) _ _
  refine wpE_take (i := 0) (v := .pointer (some ⟨rb, 0, none⟩)) (o := { dst := some 87, op := _, type := _, pos := _, after := _, guard := none }) rfl (by kernel_rfl) (by kernel_rfl) (by kernel_rfl) (by kernel_rfl) (fun _ _ _ h => h) (Or.inl ⟨by rfl, fun w' hSw => ?_⟩) hS ?_
  · (obtain ⟨s1, s2⟩ := hSw; clear hS; go_simp)
  try simp only [Act.put, List.setIfInBounds_toArray, List.set_cons_zero, List.set_cons_succ]
  refine wpE_take (i := 1) (v := .pointer (some ⟨rb, 0, none⟩)) (o := { dst := some 88, op := _, type := _, pos := _, after := _, guard := none }) rfl (by kernel_rfl) (by kernel_rfl) (by kernel_rfl) (by kernel_rfl) (fun _ _ _ h => h) (Or.inl ⟨by rfl, fun w' hSw => ?_⟩) hS ?_
  · (obtain ⟨s1, s2⟩ := hSw; clear hS; go_simp)
  try simp only [Act.put, List.setIfInBounds_toArray, List.set_cons_zero, List.set_cons_succ]
  refine wpE_take (i := 2) (v := .pointer (some ⟨rb, 2, none⟩)) (o := { dst := some 89, op := _, type := _, pos := _, after := _, guard := none }) rfl (by kernel_rfl) (by kernel_rfl) (by kernel_rfl) (by kernel_rfl) (fun _ _ _ h => h) (Or.inl ⟨by rfl, fun w' hSw => ?_⟩) hS ?_
  · (obtain ⟨s1, s2⟩ := hSw; clear hS; go_simp)
  try simp only [Act.put, List.setIfInBounds_toArray, List.set_cons_zero, List.set_cons_succ]
  refine wpE_take (i := 3) (v := .slice (some ⟨g, 0, none⟩) T.nodes.length cap) (o := { dst := some 90, op := _, type := _, pos := _, after := _, guard := none }) rfl (by kernel_rfl) (by kernel_rfl) (by kernel_rfl) (by kernel_rfl) (fun _ _ _ h => h) (Or.inl ⟨by rfl, fun w' hSw => ?_⟩) hS ?_
  · (obtain ⟨s1, s2⟩ := hSw; clear hS; go_simp)
  try simp only [Act.put, List.setIfInBounds_toArray, List.set_cons_zero, List.set_cons_succ]
  refine wpE_take (i := 4) (v := .int .i64 p) (o := { dst := some 91, op := _, type := _, pos := _, after := _, guard := none }) rfl (by kernel_rfl) (by kernel_rfl) (by kernel_rfl) (by kernel_rfl) (fun _ _ _ h => h) (Or.inl ⟨by rfl, fun w' hSw => ?_⟩) hS ?_
  · (obtain ⟨s1, s2⟩ := hSw; clear hS; go_simp)
  try simp only [Act.put, List.setIfInBounds_toArray, List.set_cons_zero, List.set_cons_succ]
  refine wpE_take (i := 5) (v := .slice a2 (at' + 1) c2) (o := { dst := some 92, op := _, type := _, pos := _, after := _, guard := none }) rfl (by kernel_rfl) (by kernel_rfl) (by kernel_rfl) (by kernel_rfl) (fun _ _ _ h => h) (Or.inl ⟨by rfl, fun w' hSw => ?_⟩) hS ?_
  · (obtain ⟨s1, s2⟩ := hSw; clear hS; go_simp)
  try simp only [Act.put, List.setIfInBounds_toArray, List.set_cons_zero, List.set_cons_succ]
  refine wpE_take (i := 6) (v := .slice (some ⟨kb, ko, ks⟩) pd.kids.length ck) (o := { dst := some 93, op := _, type := _, pos := _, after := _, guard := none }) rfl (by kernel_rfl) (by kernel_rfl) (by kernel_rfl) (by kernel_rfl) (fun _ _ _ h => h) (Or.inl ⟨by rfl, fun w' hSw => ?_⟩) hS ?_
  · (obtain ⟨s1, s2⟩ := hSw; clear hS; go_simp)
  try simp only [Act.put, List.setIfInBounds_toArray, List.set_cons_zero, List.set_cons_succ]
  refine wpE_take (i := 7) (v := .int .i64 at') (o := { dst := some 94, op := _, type := _, pos := _, after := _, guard := none }) rfl (by kernel_rfl) (by kernel_rfl) (by kernel_rfl) (by kernel_rfl) (fun _ _ _ h => h) (Or.inl ⟨by rfl, fun w' hSw => ?_⟩) hS ?_
  · (obtain ⟨s1, s2⟩ := hSw; clear hS; go_simp)
  try simp only [Act.put, List.setIfInBounds_toArray, List.set_cons_zero, List.set_cons_succ]
  refine wpE_one (i := 8) (o := { dst := some 95, op := _, type := _, pos := _, after := _, guard := none }) (by kernel_rfl) rfl (fun K hK => ?_)
  go_simp
  refine hK.out _ _ (.inr ⟨cB, rB⟩) ?_
  clear hK K
  try simp only [Act.put, List.setIfInBounds_toArray, List.set_cons_zero, List.set_cons_succ]
  refine wpE_one (i := 9) (o := { dst := some 96, op := _, type := _, pos := _, after := _, guard := none }) (by kernel_rfl) rfl (fun K hK => ?_)
  refine step_append_run (by rfl) _ _ 70 (by rfl) (.slice a2 (at' + 1) c2) (.slice (if ck = at' then some ⟨kb, ko, ks⟩ else some (Addr.add ⟨kb, ko, ks⟩ at')) (pd.kids.length - at') (ck - at')) (by rfl) (by rfl) (.slice a3 (at' + 1 + (pd.kids.length - at')) c3) wC HRUN3.out ?_
  refine hK.out _ _ (.inr ⟨cC, rC⟩) ?_
  clear hK K
  try simp only [Act.put, List.setIfInBounds_toArray, List.set_cons_zero, List.set_cons_succ]
  refine wpE_one (i := 10) (o := { dst := some 97, op := _, type := _, pos := _, after := _, guard := none }) (by kernel_rfl) rfl (fun K hK => ?_)
  go_simp
  refine hK.out _ _ (.inr ⟨cC, rC⟩) ?_
  clear hK K
  try simp only [Act.put, List.setIfInBounds_toArray, List.set_cons_zero, List.set_cons_succ]
  refine wpE_one (i := 11) (o := { dst := some 98, op := _, type := _, pos := _, after := _, guard := none }) (by kernel_rfl) rfl (fun K hK => ?_)
  go_simp
  refine hK.out _ _ (.inr ⟨cC, rC⟩) ?_
  clear hK K
  try simp only [Act.put, List.setIfInBounds_toArray, List.set_cons_zero, List.set_cons_succ]
  refine wpE_one (i := 12) (o := { dst := none, op := _, type := _, pos := _, after := _, guard := none }) (by kernel_rfl) rfl (fun K hK => ?_)
  go_simp
  refine hK.out _ _ (.inl rfl) ?_
  clear hK K
  refine wpE_done (by kernel_rfl) ?_
  go_wp2_with fail
  all_goals
    go_ret
    refine ⟨rfl, RAft.poke (b := wC.setCell ⟨g, p * 6 + 5, none⟩ (.slice a3 (at' + 1 + (pd.kids.length - at')) c3)) (T1 := T.setAt p { pd with kids := pd.kids.take at' ++ [(k : Int)] ++ pd.kids.drop at' }) (o := some kd) (o' := some { kd with parent := p }) ?_ ((World.cell?_of_block (a := ⟨rb, 2, none⟩) (heap_setCell_other (p := ⟨g, p * 6 + 5, none⟩) _ nrg)).trans cC) rfl rfl rfl ?_ (by decide) (fun ga G cur hG hl hr => recAt_set hr hG (by decide) hl (by simp) (by simp) (by simp) (by simp) (by simp) (by decide))⟩
    · refine RefAt.put1 HAT.out HFF.out.1 HFF.out.2.1 HFF.out.2.2 (T' := T.setAt p { pd with kids := pd.kids.take at' ++ [(k : Int)] ++ pd.kids.drop at' }) (j := p) (m := 5) (o := some pd) (o' := some { pd with kids := pd.kids.take at' ++ [(k : Int)] ++ pd.kids.drop at' }) XC.out rfl rfl rfl HP.out (by decide) (fun G cur hG hb hl hr => recAt_set hr hG (by decide) hl (by simp) (by simp) (by simp) (by simp) ?_ (by decide))
      simp only [if_true]
      have hrow := link_row h3 HRC.out
      exact RowP.rd (RowP.move hrow (p' := fun _ => True) fun b hb' => ⟨hb b hb', trivial⟩)
    · show (T.nodes.set p _)[k]? = _
      rw [List.getElem?_set_ne hpk]; exact HK.out
set_option maxRecDepth 100000 in
set_option maxHeartbeats 1000000 in
theorem rInsert_ok_none (hR : RefOn w F rb T) {d : Nat → Nat} (hw : WF T d) {p at' k : Nat} {pd kd : Nd} (hp : T.nodes[p]? = some (some pd)) (hk : T.nodes[k]? = some (some kd)) (ht : (pd.tag == 0) = false)
    (h0 : k ≠ 0) (h1 : kd.parent < 0) (h3 : at' ≤ pd.kids.length) (hpk : p ≠ k) (hin : T.win p k = false) (hdp : ((T.pathOf p).length : Int) + 1 + T.height k ≤ T.deep) (hak : ∀ g cap, w.cell? ⟨rb, 2, none⟩ = some (.slice (some ⟨g, 0, none⟩) T.nodes.length cap) → ∃ n c, w.cell? ⟨g, p * 6 + 5, none⟩ = some (.slice none n c)) : Calls Try.prog 98 #[.pointer (some ⟨rb, 0, none⟩), .int .i64 p, .int .i64 at', .int .i64 k] w (RErr F w rb 0 (T.link p at' k pd kd)) := by
  have HAP := Lib.hid (rHas_yes hR.at (Tr.get_of hp))
  have HAK := Lib.hid (rHas_yes hR.at (Tr.get_of hk))
  have hd41 := hw.path_41 p
  obtain ⟨dp, hdpe⟩ : ∃ dp, (T.pathOf p).length = dp := ⟨_, rfl⟩
  obtain ⟨hh, hhe⟩ : ∃ hh, T.height k = hh := ⟨_, rfl⟩
  have hb := T.hgt_le 50 k
  have hb2 : -1 ≤ hh ∧ hh ≤ 50 := by rw [← hhe]; exact hb
  rw [hdpe] at hd41
  rw [hdpe, hhe] at hdp
  have HWI := Lib.hid (rWithin hR.at hw (o := k) (Tr.get_of hp))
  have HDE := Lib.hid (fun u : ExtOf w => RSame.val (hdpe ▸ rDepth (hR.ext u.ext).at hw (Tr.get_of hp)))
  have HHE := Lib.hid (fun u : ExtOf w => RSame.val (hhe ▸ rHeight (hR.ext u.ext).at hw k kd (Tr.get_of hk)))
  have hsm := hw.small.deep1
  have hsm0 := hw.small.deep0
  have hkl := hw.kids_len hp
  rw [hin] at HWI
  have hpl := (List.getElem?_eq_some_iff.1 hp).1
  have hkl2 := (List.getElem?_eq_some_iff.1 hk).1
  obtain ⟨ga, g, hat, hF1, hF2, hF3⟩ := hR.out
  have HAT := Lib.hid hat
  have HFF := Lib.hid (And.intro hF1 (And.intro hF2 hF3))
  have nrg : rb ≠ g := hat.ne
  have nrg' := Ne.symm nrg
  obtain ⟨cap, cur, b1, b2, b3, b4, b5, b6⟩ := hat.row
  have c : w.cell? ⟨rb, 2, none⟩ = some (.slice (some ⟨g, 0, none⟩) T.nodes.length cap) := cellOf b1 rfl
  have cdp : w.cell? ⟨rb, 1, none⟩ = some (.int .i64 T.deep) := cellOf b1 rfl
  have lg := (Array.getElem?_eq_some_iff.1 b4).1
  have fp := freeOf b4 (p * 6 + 5)
  have fk := freeOf b4 (k * 6 + 2)
  obtain ⟨va, vk, r0, r1, r2, r3, r4, r5, r6, r7⟩ := (b6 k _ hk).out
  replace r2 : w.cell? ⟨g, k * 6 + 2, none⟩ = some (.int .i64 kd.parent) := cellOf b4 r2
  clear r0 r1 r3 r4 r5 r6 r7
  obtain ⟨va', vk', r0, r1, _, r3, r4, r5, r6, r7⟩ := (b6 p _ hp).out
  replace r1 : w.cell? ⟨g, p * 6 + 1, none⟩ = some (.int .i64 pd.tag) := cellOf b4 r1
  replace r5 := cellOf b4 r5
  replace r7 : RowRd w 1 vk' pd.kids.length (pd.kids.map (Value.int .i64)) := r7.cells fun q y hq => (hat.told q y hq).1
  obtain ⟨ak, ck, rfl, hlck⟩ := r7.len_of
  obtain ⟨_, _, hq⟩ := hak g cap c
  rw [r5] at hq
  obtain rfl : ak = none := by injection hq with hq; injection hq
  have hz : pd.kids.length = 0 ∧ ck = 0 := by
    obtain ⟨_, _, _, e, _, hn, _⟩ := r7
    cases e
    exact hn rfl
  obtain ⟨hz0, rfl⟩ := hz
  obtain rfl : at' = 0 := by omega
  have hk0 : pd.kids = [] := List.eq_nil_of_length_eq_zero hz0
  rw [hz0] at r5
  clear hak hq hlck
  have HK0 := Lib.hid hk0
  clear hk0
  have HP := Lib.hid hp
  have HK := Lib.hid hk
  have b10 : ((k : Int) == 0) = false := by simp; omega
  clear hin hw hdpe hhe hb hp hk hR hat hF1 hF2 hF3 b1 b4 b6 r0 r3 r4 r6 r7 h0
  go_enter Try.func98, Try.ntmps98
  go_wp2_with fail
  refine HAP.out.mono ?_
  rintro e w' ⟨rfl, rfl⟩
  go_wp2_with fail
  refine HAK.out.mono ?_
  rintro e w' ⟨rfl, rfl⟩
  go_upto_region 10 with fail
  refine HWI.out.mono ?_
  rintro e w' ⟨rfl, rfl⟩
  go_upto_region 10 with fail
  have x1 := fun u : ExtOf w => u.ext.cell cdp
  refine wp_region_ext (by kernel_rfl) (by kernel_rfl) ?_
  repeat (go_big_quiet_step (first | (go_at_call 109; exact inExt (HDE.out _)) | (go_at_call 110; exact inExt (HHE.out _))))
  refine wpQuiet_nil ?_
  rintro _ ⟨u, rfl⟩
  clear x1
  have HU := Lib.hid u.ext
  have xe := u.ext.alloc (.cells #[] 3)
  obtain ⟨v1, wA, row, hrun, hra, hga, hrow⟩ := append_ints (w := u.val.alloc (.cells #[] 3)) (B := u.val.heap.size) (v := .slice (some ⟨u.val.heap.size, 0, none⟩) 0 0) (n := 0) (xs := []) ⟨rfl, .inl ⟨rfl, _, rfl⟩⟩ (nil_row _) (by omega) (by simp)
  rw [Nat.zero_add, List.nil_append] at hra
  obtain ⟨a1, c1, rfl, _⟩ := hra.rd.len_of
  have xA : Ext w wA := xe.grown hga fun z hz => Nat.le_trans u.ext.size (hrow z hz)
  have hsu := u.ext.size
  have hra' := RowP.imp hra (q := fun b => w.heap.size ≤ b) fun b _ hb => by rcases hb with h | h; exact Nat.le_trans hsu h; exact Nat.le_trans hsu (Nat.le_trans (by simp) h)
  have xk := xA.alloc (.cells #[.int .i64 k] 3)
  obtain ⟨v2, wB, row2, hrun2, hrb, hgb, hrow2⟩ := append_ints (w := wA.alloc (.cells #[.int .i64 k] 3)) (B := w.heap.size) (v := .slice a1 0 c1) (n := 0) (RowP.ext hra' ((Ext.refl wA).alloc _)) (u := .slice (some ⟨wA.heap.size, 0, none⟩) 1 1) (m := 1) (ys := [.int .i64 k]) ⟨rfl, _, _, rfl, Nat.le_refl _, (fun h => by cases h), fun a ha => by cases ha; exact cell_one_new' (cellOf (heap_alloc_new wA _) rfl)⟩ (by omega) (by simp [Value.oneCell'])
  obtain ⟨a2, c2, rfl, _⟩ := hrb.rd.len_of
  have xB : Ext w wB := xk.grown hgb hrow2
  have hrb' := RowP.imp hrb (q := fun b => w.heap.size ≤ b) fun b _ hb => by rcases hb with h | h; exact h; exact Nat.le_trans xA.size (Nat.le_trans (by simp) h)
  obtain ⟨v3, wC, row3, hrun3, hrc, hgc, hrow3⟩ := append_ints (w := wB.drew) (B := w.heap.size) (v := .slice a2 (0 + 1) c2) (n := 0 + 1) hrb' (nil_row _) (by omega) (by simp)
  obtain ⟨a3, c3, rfl, _⟩ := hrc.rd.len_of
  have xC : Ext w wC := xB.drew.grown hgc hrow3
  have hrc' := RowP.imp hrc (q := fun b => w.heap.size ≤ b) fun b _ hb => by rcases hb with h | h; exact h; exact Nat.le_trans xB.size h
  have cB := xB.cell c
  have rB := xB.cell r5
  have cC := xC.cell c
  have rC := xC.cell r5
  have fpC := xC.free lg fp
  have kC := xC.cell r2
  have fkC := xC.free lg fk
  have XC := Lib.hid xC
  have HRUN := Lib.hid (AppI.mk hrun)
  have HRUN2 := Lib.hid (AppI.mk hrun2)
  have HRUN3 := Lib.hid hrun3
  have HRC := Lib.hid hrc'
  clear hra hra' hrb hrb' hrc hrc' hrun hrun2 hrun3 xe xA xk xB xC hga hrow hgb hrow2 hgc hrow3 hsu
  go_wp2_with (at_builtin; first | refine wpList_app rfl _ _ rfl rfl _ _ rfl rfl _ _ HRUN.out ?_ | refine wpList_app rfl _ _ rfl rfl _ _ rfl rfl _ _ HRUN2.out ?_)
  refine wp_region_E (S := fun w' => w'.cell? ⟨rb, 2, none⟩ = some (.slice (some ⟨g, 0, none⟩) T.nodes.length cap) ∧ w'.cell? ⟨g, p * 6 + 5, none⟩ = some (.slice none 0 0)) (n := 12) (by kernel_rfl) ?_
  have hS : wB.drew.cell? ⟨rb, 2, none⟩ = some (.slice (some ⟨g, 0, none⟩) T.nodes.length cap) ∧ wB.drew.cell? ⟨g, p * 6 + 5, none⟩ = some (.slice none 0 0) := ⟨cB, rB⟩
  show wpE _ _ _ _ _ 12 13 (Array.replicate 13 false) _ _
  refine wpE_take (i := 0) (v := .pointer (some ⟨rb, 0, none⟩)) (o := { dst := some 87, op := _, type := _, pos := _, after := _, guard := none }) rfl (by kernel_rfl) (by kernel_rfl) (by kernel_rfl) (by kernel_rfl) (fun _ _ _ h => h) (Or.inl ⟨by rfl, fun w' hSw => ?_⟩) hS ?_
  · (obtain ⟨s1, s2⟩ := hSw; clear hS; go_simp)
  try simp only [Act.put, List.setIfInBounds_toArray, List.set_cons_zero, List.set_cons_succ]
  refine wpE_take (i := 1) (v := .pointer (some ⟨rb, 0, none⟩)) (o := { dst := some 88, op := _, type := _, pos := _, after := _, guard := none }) rfl (by kernel_rfl) (by kernel_rfl) (by kernel_rfl) (by kernel_rfl) (fun _ _ _ h => h) (Or.inl ⟨by rfl, fun w' hSw => ?_⟩) hS ?_
  · (obtain ⟨s1, s2⟩ := hSw; clear hS; go_simp)
  try simp only [Act.put, List.setIfInBounds_toArray, List.set_cons_zero, List.set_cons_succ]
  refine wpE_take (i := 2) (v := .pointer (some ⟨rb, 2, none⟩)) (o := { dst := some 89, op := _, type := _, pos := _, after := _, guard := none }) rfl (by kernel_rfl) (by kernel_rfl) (by kernel_rfl) (by kernel_rfl) (fun _ _ _ h => h) (Or.inl ⟨by rfl, fun w' hSw => ?_⟩) hS ?_
  · (obtain ⟨s1, s2⟩ := hSw; clear hS; go_simp)
  try simp only [Act.put, List.setIfInBounds_toArray, List.set_cons_zero, List.set_cons_succ]
  refine wpE_take (i := 3) (v := .slice (some ⟨g, 0, none⟩) T.nodes.length cap) (o := { dst := some 90, op := _, type := _, pos := _, after := _, guard := none }) rfl (by kernel_rfl) (by kernel_rfl) (by kernel_rfl) (by kernel_rfl) (fun _ _ _ h => h) (Or.inl ⟨by rfl, fun w' hSw => ?_⟩) hS ?_
  · (obtain ⟨s1, s2⟩ := hSw; clear hS; go_simp)
  try simp only [Act.put, List.setIfInBounds_toArray, List.set_cons_zero, List.set_cons_succ]
  refine wpE_take (i := 4) (v := .int .i64 p) (o := { dst := some 91, op := _, type := _, pos := _, after := _, guard := none }) rfl (by kernel_rfl) (by kernel_rfl) (by kernel_rfl) (by kernel_rfl) (fun _ _ _ h => h) (Or.inl ⟨by rfl, fun w' hSw => ?_⟩) hS ?_
  · (obtain ⟨s1, s2⟩ := hSw; clear hS; go_simp)
  try simp only [Act.put, List.setIfInBounds_toArray, List.set_cons_zero, List.set_cons_succ]
  refine wpE_take (i := 5) (v := .slice a2 (0 + 1) c2) (o := { dst := some 92, op := _, type := _, pos := _, after := _, guard := none }) rfl (by kernel_rfl) (by kernel_rfl) (by kernel_rfl) (by kernel_rfl) (fun _ _ _ h => h) (Or.inl ⟨by rfl, fun w' hSw => ?_⟩) hS ?_
  · (obtain ⟨s1, s2⟩ := hSw; clear hS; go_simp)
  try simp only [Act.put, List.setIfInBounds_toArray, List.set_cons_zero, List.set_cons_succ]
  refine wpE_take (i := 6) (v := .slice none 0 0) (o := { dst := some 93, op := _, type := _, pos := _, after := _, guard := none }) rfl (by kernel_rfl) (by kernel_rfl) (by kernel_rfl) (by kernel_rfl) (fun _ _ _ h => h) (Or.inl ⟨by rfl, fun w' hSw => ?_⟩) hS ?_
  · (obtain ⟨s1, s2⟩ := hSw; clear hS; go_simp)
  try simp only [Act.put, List.setIfInBounds_toArray, List.set_cons_zero, List.set_cons_succ]
  refine wpE_take (i := 7) (v := .int .i64 0) (o := { dst := some 94, op := _, type := _, pos := _, after := _, guard := none }) rfl (by kernel_rfl) (by kernel_rfl) (by kernel_rfl) (by kernel_rfl) (fun _ _ _ h => h) (Or.inl ⟨by rfl, fun w' hSw => ?_⟩) hS ?_
  · (obtain ⟨s1, s2⟩ := hSw; clear hS; go_simp)
  try simp only [Act.put, List.setIfInBounds_toArray, List.set_cons_zero, List.set_cons_succ]
  refine wpE_one (i := 8) (o := { dst := some 95, op := _, type := _, pos := _, after := _, guard := none }) (by kernel_rfl) rfl (fun K hK => ?_)
  go_simp
  refine hK.out _ _ (.inr ⟨cB, rB⟩) ?_
  clear hK K
  try simp only [Act.put, List.setIfInBounds_toArray, List.set_cons_zero, List.set_cons_succ]
  refine wpE_one (i := 9) (o := { dst := some 96, op := _, type := _, pos := _, after := _, guard := none }) (by kernel_rfl) rfl (fun K hK => ?_)
  refine step_append_run (by rfl) _ _ 70 (by rfl) (.slice a2 (0 + 1) c2) (.slice none 0 0) (by rfl) (by rfl) (.slice a3 (0 + 1 + 0) c3) wC HRUN3.out ?_
  refine hK.out _ _ (.inr ⟨cC, rC⟩) ?_
  clear hK K
  try simp only [Act.put, List.setIfInBounds_toArray, List.set_cons_zero, List.set_cons_succ]
  refine wpE_one (i := 10) (o := { dst := some 97, op := _, type := _, pos := _, after := _, guard := none }) (by kernel_rfl) rfl (fun K hK => ?_)
  go_simp
  refine hK.out _ _ (.inr ⟨cC, rC⟩) ?_
  clear hK K
  try simp only [Act.put, List.setIfInBounds_toArray, List.set_cons_zero, List.set_cons_succ]
  refine wpE_one (i := 11) (o := { dst := some 98, op := _, type := _, pos := _, after := _, guard := none }) (by kernel_rfl) rfl (fun K hK => ?_)
  go_simp
  refine hK.out _ _ (.inr ⟨cC, rC⟩) ?_
  clear hK K
  try simp only [Act.put, List.setIfInBounds_toArray, List.set_cons_zero, List.set_cons_succ]
  refine wpE_one (i := 12) (o := { dst := none, op := _, type := _, pos := _, after := _, guard := none }) (by kernel_rfl) rfl (fun K hK => ?_)
  go_simp
  refine hK.out _ _ (.inl rfl) ?_
  clear hK K
  refine wpE_done (by kernel_rfl) ?_
  go_wp2_with fail
  all_goals
    go_ret
    refine ⟨rfl, RAft.poke (b := wC.setCell ⟨g, p * 6 + 5, none⟩ (.slice a3 (0 + 1 + 0) c3)) (T1 := T.setAt p { pd with kids := pd.kids.take 0 ++ [(k : Int)] ++ pd.kids.drop 0 }) (o := some kd) (o' := some { kd with parent := p }) ?_ ((World.cell?_of_block (a := ⟨rb, 2, none⟩) (heap_setCell_other (p := ⟨g, p * 6 + 5, none⟩) _ nrg)).trans cC) rfl rfl rfl ?_ (by decide) (fun ga G cur hG hl hr => recAt_set hr hG (by decide) hl (by simp) (by simp) (by simp) (by simp) (by simp) (by decide))⟩
    · refine RefAt.put1 HAT.out HFF.out.1 HFF.out.2.1 HFF.out.2.2 (T' := T.setAt p { pd with kids := pd.kids.take 0 ++ [(k : Int)] ++ pd.kids.drop 0 }) (j := p) (m := 5) (o := some pd) (o' := some { pd with kids := pd.kids.take 0 ++ [(k : Int)] ++ pd.kids.drop 0 }) XC.out rfl rfl rfl HP.out (by decide) (fun G cur hG hb hl hr => recAt_set hr hG (by decide) hl (by simp) (by simp) (by simp) (by simp) ?_ (by decide))
      simp only [if_true]
      have hrow : RowP wC (fun b => w.heap.size ≤ b) 3 1 (.slice a3 (0 + 1 + 0) c3) (pd.kids.take 0 ++ [(k : Int)] ++ pd.kids.drop 0).length ((pd.kids.take 0 ++ [(k : Int)] ++ pd.kids.drop 0).map (Value.int .i64)) := by rw [HK0.out]; exact HRC.out
      exact RowP.rd (RowP.move hrow (p' := fun _ => True) fun b hb' => ⟨hb b hb', trivial⟩)
    · show (T.nodes.set p _)[k]? = _
      rw [List.getElem?_set_ne hpk]; exact HK.out
theorem rInsert_ok (hR : RefOn w F rb T) {d : Nat → Nat} (hw : WF T d) {p at' k : Nat} {pd kd : Nd} (hp : T.nodes[p]? = some (some pd)) (hk : T.nodes[k]? = some (some kd)) (ht : (pd.tag == 0) = false)
    (h0 : k ≠ 0) (h1 : kd.parent < 0) (h3 : at' ≤ pd.kids.length) (hpk : p ≠ k) (hin : T.win p k = false) (hdp : ((T.pathOf p).length : Int) + 1 + T.height k ≤ T.deep) : Calls Try.prog 98 #[.pointer (some ⟨rb, 0, none⟩), .int .i64 p, .int .i64 at', .int .i64 k] w (RErr F w rb 0 (T.link p at' k pd kd)) := by
  obtain ⟨g, cap, aa, ac, ka, kc, c, _, _, _, _, _, c5, _⟩ := hR.at.one hp
  cases ka with
  | none =>
    exact rInsert_ok_none hR hw hp hk ht h0 h1 h3 hpk hin hdp fun g' cap' e => by
      rw [c] at e
      cases e
      exact ⟨_, _, c5⟩
  | some ad =>
    exact rInsert_ok_some hR hw hp hk ht h0 h1 h3 hpk hin hdp fun g' cap' e => by
      rw [c] at e
      cases e
      exact ⟨_, _, _, c5⟩
end
end Go.Proofs.Ytiglflmjidikpaa
