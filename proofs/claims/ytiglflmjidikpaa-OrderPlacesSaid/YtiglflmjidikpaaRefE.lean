/- quillworkref08: Set. Printed by wip/gen_refe.py. -/
import Derived.Test.YtiglflmjidikpaaRefD
namespace Go.Proofs.Ytiglflmjidikpaa
open Go Go.RowKit Go.BigFrame
set_option linter.unusedVariables false
set_option linter.unusedSimpArgs false

section
variable {w : World} {F : Nat → Prop} {rb : Nat} {T : Tr}
set_option maxRecDepth 100000 in
set_option maxHeartbeats 1000000 in
theorem rSet_none (hR : RefOn w F rb T) {id : Int} (h : T.get? id = none) (what tag : Int) (s : ByteArray) (av : Value) : Calls Try.prog 101 #[.pointer (some ⟨rb, 0, none⟩), .int .i64 what, .int .i64 id, .int .i64 tag, .string s, av] w (RErr F w rb 2 T) := by
  have H := Lib.hid (RAft.refl hR)
  have HAS := Lib.hid (rHas_no hR.at h)
  clear hR h
  go_enter Try.func101, Try.ntmps101
  go_wp2_with (go_at_call 105; refine HAS.out.mono ?_; rintro e w' ⟨rfl, rfl⟩)
  go_ret
  exact ⟨rfl, H.out⟩
set_option maxRecDepth 100000 in
set_option maxHeartbeats 1000000 in
theorem rSet_kind (hR : RefOn w F rb T) {id : Int} {nd : Nd} (h : T.get? id = some nd) (what tag : Int) (s : ByteArray) (av : Value) (hk : ((nd.tag == 0) == (what == 1)) = false) : Calls Try.prog 101 #[.pointer (some ⟨rb, 0, none⟩), .int .i64 what, .int .i64 id, .int .i64 tag, .string s, av] w (RErr F w rb 6 T) := by
  have HAS := Lib.hid (rHas_yes hR.at h)
  obtain ⟨i, rfl, hi, hl⟩ := nodes_some h
  obtain ⟨ga, g, hat, hF1, hF2, hF3⟩ := hR.out
  have HAT := Lib.hid hat
  have HFF := Lib.hid (And.intro hF1 (And.intro hF2 hF3))
  obtain ⟨cap, cur, b1, b2, b3, b4, b5, b6⟩ := hat.row
  have nrg : rb ≠ g := hat.ne
  have nrg' := Ne.symm nrg
  have c : w.cell? ⟨rb, 2, none⟩ = some (.slice (some ⟨g, 0, none⟩) T.nodes.length cap) := cellOf b1 rfl
  have ch : w.cell? ⟨rb, 0, none⟩ = some (.int .i64 T.cap) := cellOf b1 rfl
  obtain ⟨va, vk, r0, r1, r2, r3, r4, r5, r6, r7⟩ := (b6 i _ hi).out
  replace r1 : w.cell? ⟨g, i * 6 + 1, none⟩ = some (.int .i64 nd.tag) := cellOf b4 r1
  replace r3 := cellOf b4 r3
  replace r4 := cellOf b4 r4
  have f1 := freeOf b4 (i * 6 + 1)
  have f3 := freeOf b4 (i * 6 + 3)
  have f4 := freeOf b4 (i * 6 + 4)
  have lg := (Array.getElem?_eq_some_iff.1 b4).1
  have HI := Lib.hid hi
  have H := Lib.hid (RAft.refl hR)
  clear hat hF1 hF2 hF3 b6 hi hR b1 b4 h r0 r2 r5 r6 r7
  obtain ⟨p, hp⟩ : ∃ p, (nd.tag == 0) = p := ⟨_, rfl⟩
  obtain ⟨q, hq⟩ : ∃ q, (what == 1) = q := ⟨_, rfl⟩
  rw [hp, hq] at hk
  go_enter Try.func101, Try.ntmps101
  go_upto_region 3 with (go_at_call 105; refine HAS.out.mono ?_; rintro e w' ⟨rfl, rfl⟩)
  cases p <;> cases q <;> simp at hk
  · go_wp2_with fail
    go_ret
    exact ⟨rfl, H.out⟩
  · go_wp2_with fail
    go_ret
    exact ⟨rfl, H.out⟩
set_option maxRecDepth 100000 in
set_option maxHeartbeats 1000000 in
theorem rSet_attrs (hR : RefOn w F rb T) {id : Int} {nd : Nd} (h : T.get? id = some nd) (ht : (nd.tag == 0) = false) (tag : Int) (s : ByteArray) {av : Value} {attrs : List (ByteArray × ByteArray)} (ha : RowRd w 2 av attrs.length (attrCells attrs)) (hn : attrs.length ≤ 60000) : Calls Try.prog 101 #[.pointer (some ⟨rb, 0, none⟩), .int .i64 0, .int .i64 id, .int .i64 tag, .string s, av] w (RErr F w rb 0 (T.setAt id.toNat { nd with attrs := attrs })) := by
  obtain ⟨ao, cap0, hav, _⟩ := ha.len_of
  subst hav
  have HAS := Lib.hid (rHas_yes hR.at h)
  obtain ⟨i, rfl, hi, hl⟩ := nodes_some h
  obtain ⟨ga, g, hat, hF1, hF2, hF3⟩ := hR.out
  have HAT := Lib.hid hat
  have HFF := Lib.hid (And.intro hF1 (And.intro hF2 hF3))
  obtain ⟨cap, cur, b1, b2, b3, b4, b5, b6⟩ := hat.row
  have nrg : rb ≠ g := hat.ne
  have nrg' := Ne.symm nrg
  have c : w.cell? ⟨rb, 2, none⟩ = some (.slice (some ⟨g, 0, none⟩) T.nodes.length cap) := cellOf b1 rfl
  have ch : w.cell? ⟨rb, 0, none⟩ = some (.int .i64 T.cap) := cellOf b1 rfl
  obtain ⟨va, vk, r0, r1, r2, r3, r4, r5, r6, r7⟩ := (b6 i _ hi).out
  replace r1 : w.cell? ⟨g, i * 6 + 1, none⟩ = some (.int .i64 nd.tag) := cellOf b4 r1
  replace r3 := cellOf b4 r3
  replace r4 := cellOf b4 r4
  have f1 := freeOf b4 (i * 6 + 1)
  have f3 := freeOf b4 (i * 6 + 3)
  have f4 := freeOf b4 (i * 6 + 4)
  have lg := (Array.getElem?_eq_some_iff.1 b4).1
  have HI := Lib.hid hi
  have H := Lib.hid (RAft.refl hR)
  clear hat hF1 hF2 hF3 b6 hi hR b1 b4 h r0 r2 r5 r6 r7
  rw [Int.toNat_natCast]
  have xe := (Ext.refl w).drew.alloc (.cells #[] 44)
  have ze : (w.drew.alloc (.cells #[] 44)).heap.size = w.heap.size + 1 := by simp
  obtain ⟨v', wA, hrun, hra, hxa⟩ := append_empty (w := w.drew.alloc (.cells #[] 44)) (b := w.heap.size) (ha.ext xe) hn (attrCells_one _)
  have xA := xe.trans hxa
  have cE := xe.cell c
  have chE := xe.cell ch
  have cA := xA.cell c
  have chA := xA.cell ch
  have rA := xA.cell r3
  have fA := xA.free lg f3
  have HX := Lib.hid xA
  have HRUN := Lib.hid hrun
  have HRA := Lib.hid (RowP.move hra (p' := fun b => w.heap.size ≤ b) fun b hb => ⟨rfl, by have h : (w.drew.alloc (.cells #[] 44)).heap.size ≤ b := hb; omega⟩)
  obtain ⟨a7, cap7, e7, _⟩ := hra.rd.len_of
  subst e7
  clear hra hrun xe xA hxa ha ze
  go_enter Try.func101, Try.ntmps101
  go_upto_region 7 with (go_at_call 105; refine HAS.out.mono ?_; rintro e w' ⟨rfl, rfl⟩)
  refine wp_region_E (S := fun w' => w'.cell? ⟨rb, 2, none⟩ = some (.slice (some ⟨g, 0, none⟩) T.nodes.length cap) ∧ w'.cell? ⟨rb, 0, none⟩ = some (.int .i64 T.cap)) (n := 10) (by kernel_rfl) ?_
  have hS : w.drew.cell? ⟨rb, 2, none⟩ = some (.slice (some ⟨g, 0, none⟩) T.nodes.length cap) ∧ w.drew.cell? ⟨rb, 0, none⟩ = some (.int .i64 T.cap) := ⟨c, ch⟩
  show wpE _ _ _ _ _ 10 11 (Array.replicate 11 false) _ _
  refine wpE_take (i := 0) (v := .pointer (some ⟨rb, 0, none⟩)) (o := { dst := some 32, op := _, type := _, pos := _, after := _, guard := none }) rfl (by kernel_rfl) (by kernel_rfl) (by kernel_rfl) (by kernel_rfl) (fun _ _ _ h => h) (Or.inl ⟨by rfl, fun w' hSw => ?_⟩) hS ?_
  · (obtain ⟨s1, s2⟩ := hSw; clear hS; go_simp)
  try simp only [Act.put, List.setIfInBounds_toArray, List.set_cons_zero, List.set_cons_succ]
  refine wpE_take (i := 1) (v := .pointer (some ⟨rb, 0, none⟩)) (o := { dst := some 33, op := _, type := _, pos := _, after := _, guard := none }) rfl (by kernel_rfl) (by kernel_rfl) (by kernel_rfl) (by kernel_rfl) (fun _ _ _ h => h) (Or.inl ⟨by rfl, fun w' hSw => ?_⟩) hS ?_
  · (obtain ⟨s1, s2⟩ := hSw; clear hS; go_simp)
  try simp only [Act.put, List.setIfInBounds_toArray, List.set_cons_zero, List.set_cons_succ]
  refine wpE_take (i := 2) (v := .pointer (some ⟨rb, 2, none⟩)) (o := { dst := some 34, op := _, type := _, pos := _, after := _, guard := none }) rfl (by kernel_rfl) (by kernel_rfl) (by kernel_rfl) (by kernel_rfl) (fun _ _ _ h => h) (Or.inl ⟨by rfl, fun w' hSw => ?_⟩) hS ?_
  · (obtain ⟨s1, s2⟩ := hSw; clear hS; go_simp)
  try simp only [Act.put, List.setIfInBounds_toArray, List.set_cons_zero, List.set_cons_succ]
  refine wpE_take (i := 3) (v := .slice (some ⟨g, 0, none⟩) T.nodes.length cap) (o := { dst := some 35, op := _, type := _, pos := _, after := _, guard := none }) rfl (by kernel_rfl) (by kernel_rfl) (by kernel_rfl) (by kernel_rfl) (fun _ _ _ h => h) (Or.inl ⟨by rfl, fun w' hSw => ?_⟩) hS ?_
  · (obtain ⟨s1, s2⟩ := hSw; clear hS; go_simp)
  try simp only [Act.put, List.setIfInBounds_toArray, List.set_cons_zero, List.set_cons_succ]
  refine wpE_take (i := 4) (v := .int .i64 i) (o := { dst := some 36, op := _, type := _, pos := _, after := _, guard := none }) rfl (by kernel_rfl) (by kernel_rfl) (by kernel_rfl) (by kernel_rfl) (fun _ _ _ h => h) (Or.inl ⟨by rfl, fun w' hSw => ?_⟩) hS ?_
  · (obtain ⟨s1, s2⟩ := hSw; clear hS; go_simp)
  try simp only [Act.put, List.setIfInBounds_toArray, List.set_cons_zero, List.set_cons_succ]
  refine wpE_take (i := 6) (v := .slice ao attrs.length cap0) (o := { dst := some 38, op := _, type := _, pos := _, after := _, guard := none }) rfl (by kernel_rfl) (by kernel_rfl) (by kernel_rfl) (by kernel_rfl) (fun _ _ _ h => h) (Or.inl ⟨by rfl, fun w' hSw => ?_⟩) hS ?_
  · (obtain ⟨s1, s2⟩ := hSw; clear hS; go_simp)
  try simp only [Act.put, List.setIfInBounds_toArray, List.set_cons_zero, List.set_cons_succ]
  refine wpE_one (i := 5) (o := { dst := some 37, op := _, type := _, pos := _, after := _, guard := none }) (by kernel_rfl) rfl (fun K hK => ?_)
  go_simp
  refine hK.out _ _ (.inr ⟨cE, chE⟩) ?_
  clear hK K
  try simp only [Act.put, List.setIfInBounds_toArray, List.set_cons_zero, List.set_cons_succ]
  refine wpE_one (i := 7) (o := { dst := some 39, op := _, type := _, pos := _, after := _, guard := none }) (by kernel_rfl) rfl (fun K hK => ?_)
  refine step_append_run (by rfl) _ _ 27 (by rfl) (.slice (some ⟨w.heap.size, 0, none⟩) 0 0) (.slice ao attrs.length cap0) (by rfl) (by rfl) (.slice a7 attrs.length cap7) wA HRUN.out ?_
  refine hK.out _ _ (.inr ⟨cA, chA⟩) ?_
  clear hK K
  try simp only [Act.put, List.setIfInBounds_toArray, List.set_cons_zero, List.set_cons_succ]
  refine wpE_one (i := 8) (o := { dst := some 40, op := _, type := _, pos := _, after := _, guard := none }) (by kernel_rfl) rfl (fun K hK => ?_)
  go_simp
  refine hK.out _ _ (.inr ⟨cA, chA⟩) ?_
  clear hK K
  try simp only [Act.put, List.setIfInBounds_toArray, List.set_cons_zero, List.set_cons_succ]
  refine wpE_one (i := 9) (o := { dst := some 41, op := _, type := _, pos := _, after := _, guard := none }) (by kernel_rfl) rfl (fun K hK => ?_)
  go_simp
  refine hK.out _ _ (.inr ⟨cA, chA⟩) ?_
  clear hK K
  try simp only [Act.put, List.setIfInBounds_toArray, List.set_cons_zero, List.set_cons_succ]
  refine wpE_one (i := 10) (o := { dst := none, op := _, type := _, pos := _, after := _, guard := none }) (by kernel_rfl) rfl (fun K hK => ?_)
  go_simp
  refine hK.out _ _ (.inl rfl) ?_
  clear hK K
  refine wpE_done (by kernel_rfl) ?_
  go_wp2_with fail
  go_ret
  exact ⟨rfl, RefAt.put1 HAT.out HFF.out.1 HFF.out.2.1 HFF.out.2.2 (T' := T.setAt i { nd with attrs := attrs }) (j := i) (m := 3) (o := some nd) (o' := some { nd with attrs := attrs }) (v := .slice a7 attrs.length cap7) HX.out rfl rfl rfl HI.out (by decide) (fun G cur hG hb hl hr => recAt_set hr hG (by decide) hl (by simp) (by simp) (by simp only [if_true]; exact RowP.rd (RowP.move HRA.out (p' := fun _ => True) fun b hb' => ⟨hb b hb', trivial⟩)) (by simp) (by simp) (by decide))⟩
set_option maxRecDepth 100000 in
set_option maxHeartbeats 1000000 in
theorem rSet_long (hR : RefOn w F rb T) {id : Int} {nd : Nd} (h : T.get? id = some nd) (ht : (nd.tag == 0) = true) (tag : Int) (s : ByteArray) (av : Value) (hs : s.size ≤ 100000) (hz : 8192 < (anewB s).size) : Calls Try.prog 101 #[.pointer (some ⟨rb, 0, none⟩), .int .i64 1, .int .i64 id, .int .i64 tag, .string s, av] w (RErr F w rb 10 T) := by
  have HAS := Lib.hid (rHas_yes hR.at h)
  obtain ⟨i, rfl, hi, hl⟩ := nodes_some h
  obtain ⟨ga, g, hat, hF1, hF2, hF3⟩ := hR.out
  have HAT := Lib.hid hat
  have HFF := Lib.hid (And.intro hF1 (And.intro hF2 hF3))
  obtain ⟨cap, cur, b1, b2, b3, b4, b5, b6⟩ := hat.row
  have nrg : rb ≠ g := hat.ne
  have nrg' := Ne.symm nrg
  have c : w.cell? ⟨rb, 2, none⟩ = some (.slice (some ⟨g, 0, none⟩) T.nodes.length cap) := cellOf b1 rfl
  have ch : w.cell? ⟨rb, 0, none⟩ = some (.int .i64 T.cap) := cellOf b1 rfl
  obtain ⟨va, vk, r0, r1, r2, r3, r4, r5, r6, r7⟩ := (b6 i _ hi).out
  replace r1 : w.cell? ⟨g, i * 6 + 1, none⟩ = some (.int .i64 nd.tag) := cellOf b4 r1
  replace r3 := cellOf b4 r3
  replace r4 := cellOf b4 r4
  have f1 := freeOf b4 (i * 6 + 1)
  have f3 := freeOf b4 (i * 6 + 3)
  have f4 := freeOf b4 (i * 6 + 4)
  have lg := (Array.getElem?_eq_some_iff.1 b4).1
  have HI := Lib.hid hi
  have H := Lib.hid (RAft.refl hR)
  clear hat hF1 hF2 hF3 b6 hi hR b1 b4 h r0 r2 r5 r6 r7
  have HC := Lib.hid (Anew_any s hs w)
  go_enter Try.func101, Try.ntmps101
  go_wp2_with (first | (go_at_call 105; refine HAS.out.mono ?_; rintro e w' ⟨rfl, rfl⟩) | (go_at_call 127; refine HC.out.mono ?_; rintro e w' ⟨rfl, hx⟩))
  go_ret
  exact ⟨rfl, H.out.ext hx⟩
set_option maxRecDepth 100000 in
set_option maxHeartbeats 1000000 in
theorem rSet_text (hR : RefOn w F rb T) {id : Int} {nd : Nd} (h : T.get? id = some nd) (ht : (nd.tag == 0) = true) (tag : Int) (s : ByteArray) (av : Value) (hs : s.size ≤ 100000) (hz : (anewB s).size ≤ 8192) : Calls Try.prog 101 #[.pointer (some ⟨rb, 0, none⟩), .int .i64 1, .int .i64 id, .int .i64 tag, .string s, av] w (RErr F w rb 0 (T.setAt id.toNat { nd with text := anewB s })) := by
  have HAS := Lib.hid (rHas_yes hR.at h)
  obtain ⟨i, rfl, hi, hl⟩ := nodes_some h
  obtain ⟨ga, g, hat, hF1, hF2, hF3⟩ := hR.out
  have HAT := Lib.hid hat
  have HFF := Lib.hid (And.intro hF1 (And.intro hF2 hF3))
  obtain ⟨cap, cur, b1, b2, b3, b4, b5, b6⟩ := hat.row
  have nrg : rb ≠ g := hat.ne
  have nrg' := Ne.symm nrg
  have c : w.cell? ⟨rb, 2, none⟩ = some (.slice (some ⟨g, 0, none⟩) T.nodes.length cap) := cellOf b1 rfl
  have ch : w.cell? ⟨rb, 0, none⟩ = some (.int .i64 T.cap) := cellOf b1 rfl
  obtain ⟨va, vk, r0, r1, r2, r3, r4, r5, r6, r7⟩ := (b6 i _ hi).out
  replace r1 : w.cell? ⟨g, i * 6 + 1, none⟩ = some (.int .i64 nd.tag) := cellOf b4 r1
  replace r3 := cellOf b4 r3
  replace r4 := cellOf b4 r4
  have f1 := freeOf b4 (i * 6 + 1)
  have f3 := freeOf b4 (i * 6 + 3)
  have f4 := freeOf b4 (i * 6 + 4)
  have lg := (Array.getElem?_eq_some_iff.1 b4).1
  have HI := Lib.hid hi
  have H := Lib.hid (RAft.refl hR)
  clear hat hF1 hF2 hF3 b6 hi hR b1 b4 h r0 r2 r5 r6 r7
  rw [Int.toNat_natCast]
  have HC := Lib.hid (fun w => Anew_any s hs w)
  go_enter Try.func101, Try.ntmps101
  go_upto_region 11 with (first | (go_at_call 105; refine HAS.out.mono ?_; rintro e w' ⟨rfl, rfl⟩) | (go_at_call 127; refine (HC.out _).mono ?_; rintro e w1 ⟨rfl, hx⟩))
  have HX := Lib.hid hx
  have c1 := hx.cell c
  have ch1 := hx.cell ch
  clear hx
  refine wp_region_E (S := fun w' => w'.cell? ⟨rb, 2, none⟩ = some (.slice (some ⟨g, 0, none⟩) T.nodes.length cap) ∧ w'.cell? ⟨rb, 0, none⟩ = some (.int .i64 T.cap)) (n := 9) (by kernel_rfl) ?_
  have hS : w1.drew.cell? ⟨rb, 2, none⟩ = some (.slice (some ⟨g, 0, none⟩) T.nodes.length cap) ∧ w1.drew.cell? ⟨rb, 0, none⟩ = some (.int .i64 T.cap) := ⟨c1, ch1⟩
  show wpE _ _ _ _ _ 9 10 (Array.replicate 10 false) _ _
  refine wpE_take (i := 0) (v := .pointer (some ⟨rb, 0, none⟩)) (o := { dst := some 48, op := _, type := _, pos := _, after := _, guard := none }) rfl (by kernel_rfl) (by kernel_rfl) (by kernel_rfl) (by kernel_rfl) (fun _ _ _ h => h) (Or.inl ⟨by rfl, fun w' hSw => ?_⟩) hS ?_
  · (obtain ⟨s1, s2⟩ := hSw; clear hS; go_simp)
  try simp only [Act.put, List.setIfInBounds_toArray, List.set_cons_zero, List.set_cons_succ]
  refine wpE_take (i := 1) (v := .pointer (some ⟨rb, 0, none⟩)) (o := { dst := some 49, op := _, type := _, pos := _, after := _, guard := none }) rfl (by kernel_rfl) (by kernel_rfl) (by kernel_rfl) (by kernel_rfl) (fun _ _ _ h => h) (Or.inl ⟨by rfl, fun w' hSw => ?_⟩) hS ?_
  · (obtain ⟨s1, s2⟩ := hSw; clear hS; go_simp)
  try simp only [Act.put, List.setIfInBounds_toArray, List.set_cons_zero, List.set_cons_succ]
  refine wpE_take (i := 2) (v := .pointer (some ⟨rb, 2, none⟩)) (o := { dst := some 50, op := _, type := _, pos := _, after := _, guard := none }) rfl (by kernel_rfl) (by kernel_rfl) (by kernel_rfl) (by kernel_rfl) (fun _ _ _ h => h) (Or.inl ⟨by rfl, fun w' hSw => ?_⟩) hS ?_
  · (obtain ⟨s1, s2⟩ := hSw; clear hS; go_simp)
  try simp only [Act.put, List.setIfInBounds_toArray, List.set_cons_zero, List.set_cons_succ]
  refine wpE_take (i := 3) (v := .slice (some ⟨g, 0, none⟩) T.nodes.length cap) (o := { dst := some 51, op := _, type := _, pos := _, after := _, guard := none }) rfl (by kernel_rfl) (by kernel_rfl) (by kernel_rfl) (by kernel_rfl) (fun _ _ _ h => h) (Or.inl ⟨by rfl, fun w' hSw => ?_⟩) hS ?_
  · (obtain ⟨s1, s2⟩ := hSw; clear hS; go_simp)
  try simp only [Act.put, List.setIfInBounds_toArray, List.set_cons_zero, List.set_cons_succ]
  refine wpE_take (i := 4) (v := .int .i64 i) (o := { dst := some 52, op := _, type := _, pos := _, after := _, guard := none }) rfl (by kernel_rfl) (by kernel_rfl) (by kernel_rfl) (by kernel_rfl) (fun _ _ _ h => h) (Or.inl ⟨by rfl, fun w' hSw => ?_⟩) hS ?_
  · (obtain ⟨s1, s2⟩ := hSw; clear hS; go_simp)
  try simp only [Act.put, List.setIfInBounds_toArray, List.set_cons_zero, List.set_cons_succ]
  refine wpE_take (i := 5) (v := .string s) (o := { dst := some 53, op := _, type := _, pos := _, after := _, guard := none }) rfl (by kernel_rfl) (by kernel_rfl) (by kernel_rfl) (by kernel_rfl) (fun _ _ _ h => h) (Or.inl ⟨by rfl, fun w' hSw => ?_⟩) hS ?_
  · (obtain ⟨s1, s2⟩ := hSw; clear hS; go_simp)
  try simp only [Act.put, List.setIfInBounds_toArray, List.set_cons_zero, List.set_cons_succ]
  refine wpE_one (i := 6) (o := { dst := some 54, op := _, type := _, pos := _, after := _, guard := none }) (by kernel_rfl) rfl (fun K hK => ?_)
  go_simp
  refine (HC.out _).mono ?_
  rintro e wA ⟨rfl, hxA⟩
  have xA : Ext w wA := HX.out.trans ((Ext.refl w1).drew.trans hxA)
  have cA := xA.cell c
  have chA := xA.cell ch
  have rA := xA.cell r4
  have fA := xA.free lg f4
  have HXA := Lib.hid xA
  clear hxA xA hS c1 ch1
  refine hK.out _ _ (.inr ⟨cA, chA⟩) ?_
  clear hK K
  try simp only [Act.put, List.setIfInBounds_toArray, List.set_cons_zero, List.set_cons_succ]
  refine wpE_one (i := 7) (o := { dst := some 55, op := _, type := _, pos := _, after := _, guard := none }) (by kernel_rfl) rfl (fun K hK => ?_)
  go_simp
  refine hK.out _ _ (.inr ⟨cA, chA⟩) ?_
  clear hK K
  try simp only [Act.put, List.setIfInBounds_toArray, List.set_cons_zero, List.set_cons_succ]
  refine wpE_one (i := 8) (o := { dst := some 56, op := _, type := _, pos := _, after := _, guard := none }) (by kernel_rfl) rfl (fun K hK => ?_)
  go_simp
  refine hK.out _ _ (.inr ⟨cA, chA⟩) ?_
  clear hK K
  try simp only [Act.put, List.setIfInBounds_toArray, List.set_cons_zero, List.set_cons_succ]
  refine wpE_one (i := 9) (o := { dst := none, op := _, type := _, pos := _, after := _, guard := none }) (by kernel_rfl) rfl (fun K hK => ?_)
  go_simp
  refine hK.out _ _ (.inl rfl) ?_
  clear hK K
  refine wpE_done (by kernel_rfl) ?_
  go_wp2_with fail
  go_ret
  exact ⟨rfl, RefAt.put1 HAT.out HFF.out.1 HFF.out.2.1 HFF.out.2.2 (T' := T.setAt i { nd with text := anewB s }) (j := i) (m := 4) (o := some nd) (o' := some { nd with text := anewB s }) (v := .string (anewB s)) HXA.out rfl rfl rfl HI.out (by decide) (fun G cur hG hb hl hr => recAt_set hr hG (by decide) hl (by simp) (by simp) (by simp) (by simp) (by simp) (by decide))⟩
set_option maxRecDepth 100000 in
set_option maxHeartbeats 1000000 in
theorem rSet_tag_lo (hR : RefOn w F rb T) {id : Int} {nd : Nd} (h : T.get? id = some nd) (ht : (nd.tag == 0) = false) (tag : Int) (s : ByteArray) (av : Value) (ha : tag < 1) : Calls Try.prog 101 #[.pointer (some ⟨rb, 0, none⟩), .int .i64 2, .int .i64 id, .int .i64 tag, .string s, av] w (RErr F w rb 1 T) := by
  have HAS := Lib.hid (rHas_yes hR.at h)
  obtain ⟨i, rfl, hi, hl⟩ := nodes_some h
  obtain ⟨ga, g, hat, hF1, hF2, hF3⟩ := hR.out
  have HAT := Lib.hid hat
  have HFF := Lib.hid (And.intro hF1 (And.intro hF2 hF3))
  obtain ⟨cap, cur, b1, b2, b3, b4, b5, b6⟩ := hat.row
  have nrg : rb ≠ g := hat.ne
  have nrg' := Ne.symm nrg
  have c : w.cell? ⟨rb, 2, none⟩ = some (.slice (some ⟨g, 0, none⟩) T.nodes.length cap) := cellOf b1 rfl
  have ch : w.cell? ⟨rb, 0, none⟩ = some (.int .i64 T.cap) := cellOf b1 rfl
  obtain ⟨va, vk, r0, r1, r2, r3, r4, r5, r6, r7⟩ := (b6 i _ hi).out
  replace r1 : w.cell? ⟨g, i * 6 + 1, none⟩ = some (.int .i64 nd.tag) := cellOf b4 r1
  replace r3 := cellOf b4 r3
  replace r4 := cellOf b4 r4
  have f1 := freeOf b4 (i * 6 + 1)
  have f3 := freeOf b4 (i * 6 + 3)
  have f4 := freeOf b4 (i * 6 + 4)
  have lg := (Array.getElem?_eq_some_iff.1 b4).1
  have HI := Lib.hid hi
  have H := Lib.hid (RAft.refl hR)
  clear hat hF1 hF2 hF3 b6 hi hR b1 b4 h r0 r2 r5 r6 r7
  go_enter Try.func101, Try.ntmps101
  go_wp2_with (go_at_call 105; refine HAS.out.mono ?_; rintro e w' ⟨rfl, rfl⟩)
  go_ret
  exact ⟨rfl, H.out⟩
set_option maxRecDepth 100000 in
set_option maxHeartbeats 1000000 in
theorem rSet_tag_hi (hR : RefOn w F rb T) {id : Int} {nd : Nd} (h : T.get? id = some nd) (ht : (nd.tag == 0) = false) (tag : Int) (s : ByteArray) (av : Value) (h1 : 1 ≤ tag) (ha : 16 < tag) : Calls Try.prog 101 #[.pointer (some ⟨rb, 0, none⟩), .int .i64 2, .int .i64 id, .int .i64 tag, .string s, av] w (RErr F w rb 1 T) := by
  have HAS := Lib.hid (rHas_yes hR.at h)
  obtain ⟨i, rfl, hi, hl⟩ := nodes_some h
  obtain ⟨ga, g, hat, hF1, hF2, hF3⟩ := hR.out
  have HAT := Lib.hid hat
  have HFF := Lib.hid (And.intro hF1 (And.intro hF2 hF3))
  obtain ⟨cap, cur, b1, b2, b3, b4, b5, b6⟩ := hat.row
  have nrg : rb ≠ g := hat.ne
  have nrg' := Ne.symm nrg
  have c : w.cell? ⟨rb, 2, none⟩ = some (.slice (some ⟨g, 0, none⟩) T.nodes.length cap) := cellOf b1 rfl
  have ch : w.cell? ⟨rb, 0, none⟩ = some (.int .i64 T.cap) := cellOf b1 rfl
  obtain ⟨va, vk, r0, r1, r2, r3, r4, r5, r6, r7⟩ := (b6 i _ hi).out
  replace r1 : w.cell? ⟨g, i * 6 + 1, none⟩ = some (.int .i64 nd.tag) := cellOf b4 r1
  replace r3 := cellOf b4 r3
  replace r4 := cellOf b4 r4
  have f1 := freeOf b4 (i * 6 + 1)
  have f3 := freeOf b4 (i * 6 + 3)
  have f4 := freeOf b4 (i * 6 + 4)
  have lg := (Array.getElem?_eq_some_iff.1 b4).1
  have HI := Lib.hid hi
  have H := Lib.hid (RAft.refl hR)
  clear hat hF1 hF2 hF3 b6 hi hR b1 b4 h r0 r2 r5 r6 r7
  go_enter Try.func101, Try.ntmps101
  go_wp2_with (go_at_call 105; refine HAS.out.mono ?_; rintro e w' ⟨rfl, rfl⟩)
  go_ret
  exact ⟨rfl, H.out⟩
set_option maxRecDepth 100000 in
set_option maxHeartbeats 1000000 in
theorem rSet_tag_host (hR : RefOn w F rb T) {id : Int} {nd : Nd} (h : T.get? id = some nd) (ht : (nd.tag == 0) = false) (tag : Int) (s : ByteArray) (av : Value) (h1 : 1 ≤ tag) (h2 : tag ≤ 16) (h0 : id = 0) : Calls Try.prog 101 #[.pointer (some ⟨rb, 0, none⟩), .int .i64 2, .int .i64 id, .int .i64 tag, .string s, av] w (RErr F w rb 1 T) := by
  have HAS := Lib.hid (rHas_yes hR.at h)
  obtain ⟨i, rfl, hi, hl⟩ := nodes_some h
  obtain ⟨ga, g, hat, hF1, hF2, hF3⟩ := hR.out
  have HAT := Lib.hid hat
  have HFF := Lib.hid (And.intro hF1 (And.intro hF2 hF3))
  obtain ⟨cap, cur, b1, b2, b3, b4, b5, b6⟩ := hat.row
  have nrg : rb ≠ g := hat.ne
  have nrg' := Ne.symm nrg
  have c : w.cell? ⟨rb, 2, none⟩ = some (.slice (some ⟨g, 0, none⟩) T.nodes.length cap) := cellOf b1 rfl
  have ch : w.cell? ⟨rb, 0, none⟩ = some (.int .i64 T.cap) := cellOf b1 rfl
  obtain ⟨va, vk, r0, r1, r2, r3, r4, r5, r6, r7⟩ := (b6 i _ hi).out
  replace r1 : w.cell? ⟨g, i * 6 + 1, none⟩ = some (.int .i64 nd.tag) := cellOf b4 r1
  replace r3 := cellOf b4 r3
  replace r4 := cellOf b4 r4
  have f1 := freeOf b4 (i * 6 + 1)
  have f3 := freeOf b4 (i * 6 + 3)
  have f4 := freeOf b4 (i * 6 + 4)
  have lg := (Array.getElem?_eq_some_iff.1 b4).1
  have HI := Lib.hid hi
  have H := Lib.hid (RAft.refl hR)
  clear hat hF1 hF2 hF3 b6 hi hR b1 b4 h r0 r2 r5 r6 r7
  obtain rfl : i = 0 := by omega
  clear h0
  go_enter Try.func101, Try.ntmps101
  go_wp2_with (go_at_call 105; refine HAS.out.mono ?_; rintro e w' ⟨rfl, rfl⟩)
  go_ret
  exact ⟨rfl, H.out⟩
set_option maxRecDepth 100000 in
set_option maxHeartbeats 1000000 in
theorem rSet_tag (hR : RefOn w F rb T) {id : Int} {nd : Nd} (h : T.get? id = some nd) (ht : (nd.tag == 0) = false) (tag : Int) (s : ByteArray) (av : Value) (h1 : 1 ≤ tag) (h2 : tag ≤ 16) (h0 : id ≠ 0) : Calls Try.prog 101 #[.pointer (some ⟨rb, 0, none⟩), .int .i64 2, .int .i64 id, .int .i64 tag, .string s, av] w (RErr F w rb 0 (T.setAt id.toNat { nd with tag := tag })) := by
  have HAS := Lib.hid (rHas_yes hR.at h)
  obtain ⟨i, rfl, hi, hl⟩ := nodes_some h
  obtain ⟨ga, g, hat, hF1, hF2, hF3⟩ := hR.out
  have HAT := Lib.hid hat
  have HFF := Lib.hid (And.intro hF1 (And.intro hF2 hF3))
  obtain ⟨cap, cur, b1, b2, b3, b4, b5, b6⟩ := hat.row
  have nrg : rb ≠ g := hat.ne
  have nrg' := Ne.symm nrg
  have c : w.cell? ⟨rb, 2, none⟩ = some (.slice (some ⟨g, 0, none⟩) T.nodes.length cap) := cellOf b1 rfl
  have ch : w.cell? ⟨rb, 0, none⟩ = some (.int .i64 T.cap) := cellOf b1 rfl
  obtain ⟨va, vk, r0, r1, r2, r3, r4, r5, r6, r7⟩ := (b6 i _ hi).out
  replace r1 : w.cell? ⟨g, i * 6 + 1, none⟩ = some (.int .i64 nd.tag) := cellOf b4 r1
  replace r3 := cellOf b4 r3
  replace r4 := cellOf b4 r4
  have f1 := freeOf b4 (i * 6 + 1)
  have f3 := freeOf b4 (i * 6 + 3)
  have f4 := freeOf b4 (i * 6 + 4)
  have lg := (Array.getElem?_eq_some_iff.1 b4).1
  have HI := Lib.hid hi
  have H := Lib.hid (RAft.refl hR)
  clear hat hF1 hF2 hF3 b6 hi hR b1 b4 h r0 r2 r5 r6 r7
  rw [Int.toNat_natCast]
  have hi0 : ((i : Int) == 0) = false := by simpa using h0
  have HX := Lib.hid (Ext.refl w)
  clear h0
  go_enter Try.func101, Try.ntmps101
  go_wp2_with (go_at_call 105; refine HAS.out.mono ?_; rintro e w' ⟨rfl, rfl⟩)
  go_ret
  exact ⟨rfl, RefAt.put1 HAT.out HFF.out.1 HFF.out.2.1 HFF.out.2.2 (T' := T.setAt i { nd with tag := tag }) (j := i) (m := 1) (o := some nd) (o' := some { nd with tag := tag }) (v := .int .i64 tag) HX.out rfl rfl rfl HI.out (by decide) (fun G cur hG hb hl hr => recAt_set hr hG (by decide) hl (by simp) (by simp) (by simp) (by simp) (by simp) (by decide))⟩
end
end Go.Proofs.Ytiglflmjidikpaa
