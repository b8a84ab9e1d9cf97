/- quillworkref08: appends of numbers; Remove. -/
import Derived.Test.YtiglflmjidikpaaRefE
namespace Go.Proofs.Ytiglflmjidikpaa
open Go Go.RowKit Go.BigFrame
set_option linter.unusedVariables false
set_option linter.unusedSimpArgs false

/-- 'append(l, xs..)' of numbers, that may be none, onto a row in new memory -/
theorem append_ints {w : World} {B : Nat} {v u : Value} {n m : Nat} {xs ys : List Value} (hr : RowP w (fun b => B ≤ b) 3 1 v n xs) (h : RowRd w 1 u m ys) (hn : n + m ≤ 60000) (h1 : ∀ z ∈ ys, z.oneCell' = true) :
    ∃ v' w' row, (Builtin.append_ #[70, 70] 70 #[v, u]).run Try.prog w = .ok v' w' ∧ RowP w' (fun b => B ≤ b ∨ w.heap.size ≤ b) 3 1 v' (n + m) (xs ++ ys) ∧ w.grownBy w' row ∧ ∀ k, row = some k → B ≤ k := by
  obtain ⟨hl, ao, cap, rfl, hcap, hnone, hc⟩ := h
  rcases Nat.eq_zero_or_pos m with rfl | hpos
  · obtain rfl : ys = [] := List.eq_nil_of_length_eq_zero (by simpa using hl)
    refine ⟨v, w, none, ?_, ?_, World.grownBy.refl _ _, fun k hk => by cases hk⟩
    · obtain ⟨vo, vc, rfl, _⟩ := hr.rd.len_of
      cases ao with
      | none => obtain ⟨_, rfl⟩ := hnone rfl; cases vo <;> go_simp
      | some a => cases vo <;> go_simp
    · rw [List.append_nil]; exact RowP.imp hr fun g _ hg => .inl hg
  · cases ao with
    | none => exact absurd (hnone rfl).1 (by omega)
    | some a =>
      obtain ⟨i0, hi, hz0, hz1, hz2⟩ := info_parts infoI
      exact run_append_row (P := Try.prog) w 70 70 3 i0 _ 1 _ Try.underlying70 hi hz0 hz1 hz2 (by kernel_rfl) (by decide) hr a m cap ys hl (hc a rfl) h1 hpos (by unfold maxLen; omega) (by omega)
/-- the first ones of a row -/
theorem RowRd.front {w : World} {ao : Option Addr} {n cap j : Nat} {xs : List Value} (h : RowRd w 1 (.slice ao n cap) n xs) (hj : j ≤ n) : RowRd w 1 (.slice ao j cap) j (xs.take j) := by
  obtain ⟨hl, _, _, e, hcap, hnone, hc⟩ := h
  cases e
  refine ⟨by simp; omega, ao, cap, rfl, by omega, fun h => ?_, fun a ha k x hx => hc a ha k x ?_⟩
  · obtain ⟨h1, h2⟩ := hnone h; exact ⟨by omega, h2⟩
  · rw [List.getElem?_take] at hx
    split at hx
    · exact hx
    · cases hx
/-- the last ones of a row -/
theorem RowRd.back {w : World} {a : Addr} {n cap j : Nat} {xs : List Value} (h : RowRd w 1 (.slice (some a) n cap) n xs) (hj : j ≤ n) : RowRd w 1 (.slice (some (a.add j)) (n - j) (cap - j)) (n - j) (xs.drop j) := by
  obtain ⟨hl, _, _, e, hcap, hnone, hc⟩ := h
  cases e
  refine ⟨by simp; omega, _, _, rfl, by omega, (fun h => by cases h), fun b hb k x hx => ?_⟩
  cases hb
  rw [List.getElem?_drop] at hx
  rw [Addr.add_add]
  exact hc a rfl (j + k) x hx
theorem RowRd.backIf {w : World} {a : Addr} {n cap j : Nat} {xs : List Value} (h : RowRd w 1 (.slice (some a) n cap) n xs) (hj : j ≤ n) : RowRd w 1 (.slice (if cap = j then some a else some (a.add j)) (n - j) (cap - j)) (n - j) (xs.drop j) := by
  by_cases e : cap = j
  · obtain ⟨hl, _, _, e2, hcap, hnone, hc⟩ := h
    cases e2
    rw [if_pos e]
    refine ⟨by simp; omega, _, _, rfl, by omega, (fun h => by cases h), fun b hb k x hx => ?_⟩
    rw [List.drop_eq_nil_of_le (by omega)] at hx
    cases hx
  · rw [if_neg e]; exact h.back hj
/-- one more field is written -/
theorem RAft.poke {F : Nat → Prop} {a b : World} {rb g n cap : Nat} {T1 T2 : Tr} (h : RAft F a rb T1 b) (hc : b.cell? ⟨rb, 2, none⟩ = some (.slice (some ⟨g, 0, none⟩) n cap)) {j m : Nat} {o o' : Option Nd} {v : Value}
    (t1 : T2.cap = T1.cap) (t2 : T2.deep = T1.deep) (t3 : T2.nodes = T1.nodes.set j o') (hj : T1.nodes[j]? = some o) (hm : m < 6)
    (hr : ∀ (ga G : World) (cur : Array Value), Cells ga G → j * 6 + m < cur.size → RecAt ga cur j o → RecAt G (cur.setIfInBounds (j * 6 + m) v) j o') : RAft F a rb T2 (b.setCell ⟨g, j * 6 + m, none⟩ v) := by
  obtain ⟨ga, g', hat, f1, f2, f3⟩ := h.on.out
  obtain ⟨cap', cur, b1, _⟩ := hat.row
  have e := cellOf b1 (i := 2) rfl
  rw [hc] at e
  have e2 : g = g' := by injection e with e; injection e with e _ _; injection e with e; injection e
  subst e2
  exact h.trans (RefAt.put1 hat f1 f2 f3 (Ext.refl b) t1 t2 t3 hj hm fun G cur hG _ hl h => hr ga G cur hG hl h)
theorem erase_cut {l : List Int} {x : Int} {j : Nat} (h : posOf l x = (j : Int)) (hx : x ∈ l) : l.erase x = l.take j ++ l.drop (j + 1) := by
  obtain ⟨k1, k2, k3⟩ := posOf_mem hx
  have e : l.idxOf x = j := by omega
  rw [← k3, e, List.eraseIdx_eq_take_drop_succ]
theorem cut_row {w : World} {p : Nat → Prop} {l l' : List Int} {j : Nat} {a : Option Addr} {c : Nat} (hj : j < l.length) (he : l' = l.take j ++ l.drop (j + 1))
    (h : RowP w p 3 1 (.slice a (j + (l.length - (j + 1))) c) (j + (l.length - (j + 1))) ((l.map (Value.int .i64)).take j ++ (l.map (Value.int .i64)).drop (j + 1))) : RowP w p 3 1 (.slice a (j + (l.length - (j + 1))) c) l'.length (l'.map (Value.int .i64)) := by
  have e1 : l'.length = j + (l.length - (j + 1)) := by rw [he]; simp; omega
  have e2 : l'.map (Value.int .i64) = (l.map (Value.int .i64)).take j ++ (l.map (Value.int .i64)).drop (j + 1) := by rw [he]; simp [List.map_take, List.map_drop]
  rw [e1, e2]; exact h
section
variable {w : World} {F : Nat → Prop} {rb : Nat} {T : Tr}
set_option maxHeartbeats 1000000 in
theorem rRemove_none (hR : RefOn w F rb T) {id : Int} (h : T.get? id = none) : Calls Try.prog 99 #[.pointer (some ⟨rb, 0, none⟩), .int .i64 id] w (RErr F w rb 2 T) := by
  have H := Lib.hid (RAft.refl hR)
  have HAS := Lib.hid (rHas_no hR.at h)
  clear hR h
  go_enter Try.func99, Try.ntmps99
  go_wp2_with (go_at_call 105; refine HAS.out.mono ?_; rintro e w' ⟨rfl, rfl⟩)
  go_ret
  exact ⟨rfl, H.out⟩
set_option maxHeartbeats 1000000 in
theorem rRemove_root (hR : RefOn w F rb T) {id : Int} {nd : Nd} (h : T.get? id = some nd) (hp : nd.parent < 0) : Calls Try.prog 99 #[.pointer (some ⟨rb, 0, none⟩), .int .i64 id] w (RErr F w rb 1 T) := by
  have H := Lib.hid (RAft.refl hR)
  have HAS := Lib.hid (rHas_yes hR.at h)
  obtain ⟨i, rfl, hi, hl⟩ := nodes_some h
  obtain ⟨g, cap, aa, ac, ka, kc, c, c0, c1, c2, _⟩ := hR.at.one hi
  replace c2 : w.cell? ⟨g, i * 6 + 2, none⟩ = some (.int .i64 nd.parent) := c2
  clear hR h hi c0 c1
  go_enter Try.func99, Try.ntmps99
  go_wp2_with (go_at_call 105; refine HAS.out.mono ?_; rintro e w' ⟨rfl, rfl⟩)
  go_ret
  exact ⟨rfl, H.out⟩
set_option maxRecDepth 100000 in
set_option maxHeartbeats 1000000 in
theorem rRemove_ok (hR : RefOn w F rb T) {d : Nat → Nat} (hw : WF T d) {p k : Nat} {pd kd : Nd} (hp : T.nodes[p]? = some (some pd)) (hk : T.nodes[k]? = some (some kd)) (hpar : kd.parent = (p : Int)) (hmem : (k : Int) ∈ pd.kids) (hpk : p ≠ k) :
    Calls Try.prog 99 #[.pointer (some ⟨rb, 0, none⟩), .int .i64 k] w (RErr F w rb 0 (T.unlink p k pd kd)) := by
  obtain ⟨j, j1, j2, j3⟩ := posOf_first hmem
  have HIX := Lib.hid (rIndex_kid hR.at hw hk hpar hp j1 j2 j3)
  have HAS := Lib.hid (rHas_yes hR.at (Tr.get_of hk))
  have hkl := hw.kids_len hp
  have hjl := (List.getElem?_eq_some_iff.1 j2).1
  have hpl := (List.getElem?_eq_some_iff.1 hp).1
  have hkl2 := (List.getElem?_eq_some_iff.1 hk).1
  obtain ⟨ga, g, hat, hF1, hF2, hF3⟩ := hR.out
  have HAT := Lib.hid hat
  have HFF := Lib.hid (And.intro hF1 (And.intro hF2 hF3))
  have nrg : rb ≠ g := hat.ne
  have nrg' := Ne.symm nrg
  obtain ⟨cap, cur, b1, b2, b3, b4, b5, b6⟩ := hat.row
  have c : w.cell? ⟨rb, 2, none⟩ = some (.slice (some ⟨g, 0, none⟩) T.nodes.length cap) := cellOf b1 rfl
  have ch : w.cell? ⟨rb, 0, none⟩ = some (.int .i64 T.cap) := cellOf b1 rfl
  have lg := (Array.getElem?_eq_some_iff.1 b4).1
  have fp := freeOf b4 (p * 6 + 5)
  have fk := freeOf b4 (k * 6 + 2)
  obtain ⟨va, vk, r0, r1, r2, r3, r4, r5, r6, r7⟩ := (b6 k _ hk).out
  replace r2 : w.cell? ⟨g, k * 6 + 2, none⟩ = some (.int .i64 p) := by rw [← hpar]; exact cellOf b4 r2
  clear r0 r1 r3 r4 r5 r6 r7
  obtain ⟨va', vk', r0, r1, _, r3, r4, r5, r6, r7⟩ := (b6 p _ hp).out
  replace r5 := cellOf b4 r5
  replace r7 : RowRd w 1 vk' pd.kids.length (pd.kids.map (Value.int .i64)) := r7.cells fun q y hq => (hat.told q y hq).1
  obtain ⟨ak, ck, rfl, _⟩ := r7.len_of
  obtain ⟨ad, rfl⟩ : ∃ ad, ak = some ad := by
    cases ak with
    | none => obtain ⟨_, _, _, e, _, hn, _⟩ := r7; cases e; have := (hn rfl).1; omega
    | some ad => exact ⟨ad, rfl⟩
  obtain ⟨kb, ko, ks⟩ := ad
  have HRD := Lib.hid r7
  have HP := Lib.hid hp
  have HK := Lib.hid hk
  have J1 := Lib.hid j1
  have J2 := Lib.hid j2
  have HM := Lib.hid hmem
  clear hw hp hk hpar hmem hR hat hF1 hF2 hF3 b1 b4 b6 r0 r1 r3 r4 r6 r7 j1 j2 j3
  go_enter Try.func99, Try.ntmps99
  go_upto_region 7 with (first | (go_at_call 105; refine HAS.out.mono ?_; rintro e w' ⟨rfl, rfl⟩) | (go_at_call 108; refine HIX.out.mono ?_; rintro e w1 ⟨rfl, hx⟩))
  have xe := (Ext.refl w1).alloc (.cells #[] 3)
  have ze : (w1.alloc (.cells #[] 3)).heap.size = w1.heap.size + 1 := by simp
  obtain ⟨v', wA, row, hrun, hra, hga, hrow⟩ := append_ints (w := w1.alloc (.cells #[] 3)) (B := w1.heap.size) (v := .slice (some ⟨w1.heap.size, 0, none⟩) 0 0) (n := 0) (xs := []) ⟨rfl, .inl ⟨rfl, _, rfl⟩⟩ ((RowRd.front HRD.out (j := j) (by omega)).ext (hx.trans xe)) (by omega) (fun z hz => ints_one pd.kids z (List.mem_of_mem_take hz))
  rw [Nat.zero_add, List.nil_append] at hra
  obtain ⟨a1, c1, rfl, hjc1⟩ := hra.rd.len_of
  have xA : Ext w wA := (hx.trans xe).grown hga fun z hz => Nat.le_trans hx.size (hrow z hz)
  have cE := (hx.trans xe).cell c
  have rE := (hx.trans xe).cell r5
  have cA := xA.cell c
  have chA := xA.cell ch
  have rA := xA.cell r5
  have fpA := xA.free lg fp
  have kA := xA.cell r2
  have fkA := xA.free lg fk
  have XA := Lib.hid xA
  have HRUN := Lib.hid hrun
  have hs1 := hx.size
  have HRA := Lib.hid (RowP.imp hra (q := fun b => w.heap.size ≤ b) fun b _ hb => by rcases hb with h | h; exact Nat.le_trans hs1 h; omega)
  clear hra hrun xe xA ze hga hrow hx hs1
  go_wp2_with (at_builtin; refine wpList_append_run _ rfl _ _ 70 rfl _ _ rfl rfl _ _ HRUN.out ?_)
  have hck : pd.kids.length ≤ ck ∧ ck ≤ ck := by
    obtain ⟨_, _, _, e, h, _⟩ := HRD.out
    cases e
    exact ⟨h, Nat.le_refl _⟩
  obtain ⟨vB, wB, rowB, hrunB, hrB, hgB, hrowB⟩ := append_ints (w := wA.drew) (B := w.heap.size) (v := .slice a1 j c1) (n := j) HRA.out ((RowRd.backIf HRD.out (j := j + 1) (by omega)).ext (XA.out.drew)) (by omega) (fun z hz => ints_one pd.kids z (List.mem_of_mem_drop hz))
  obtain ⟨a2, c2, rfl, _⟩ := hrB.rd.len_of
  have XB := Lib.hid (XA.out.drew.grown hgB hrowB)
  have cB := XB.out.cell c
  have chB := XB.out.cell ch
  have rB := XB.out.cell r5
  have fpB := XB.out.free lg fp
  have kB := XB.out.cell r2
  have fkB := XB.out.free lg fk
  have HRUNB := Lib.hid hrunB
  have hsA := XA.out.size
  have HRB := Lib.hid (RowP.imp hrB (q := fun b => w.heap.size ≤ b) fun b _ hb => by rcases hb with h | h; exact h; exact Nat.le_trans hsA h)
  clear hrB hrunB hgB hrowB hsA cE rE
  have hw1 : IntKind.i64.wrap ((j : Int) + 1) = ((j + 1 : Nat) : Int) := by rw [IntWalk.i64_in _ (by omega)]; omega
  have hif : 0 ≤ (j : Int) + 1 ∧ (j : Int) + 1 ≤ (pd.kids.length : Int) := by omega
  refine wp_region_E (S := fun w' => w'.cell? ⟨rb, 2, none⟩ = some (.slice (some ⟨g, 0, none⟩) T.nodes.length cap) ∧ w'.cell? ⟨g, p * 6 + 5, none⟩ = some (.slice (some ⟨kb, ko, ks⟩) pd.kids.length ck)) (n := 20) (by kernel_rfl) ?_
  have hS : wA.drew.cell? ⟨rb, 2, none⟩ = some (.slice (some ⟨g, 0, none⟩) T.nodes.length cap) ∧ wA.drew.cell? ⟨g, p * 6 + 5, none⟩ = some (.slice (some ⟨kb, ko, ks⟩) pd.kids.length ck) := ⟨cA, rA⟩
  show wpE _ _ _ _ _ 20 21 (Array.replicate 21 false) _ _
  refine wpE_take (i := 0) (v := .pointer (some ⟨rb, 0, none⟩)) (o := { dst := some 44, op := _, type := _, pos := _, after := _, guard := none }) rfl (by kernel_rfl) (by kernel_rfl) (by kernel_rfl) (by kernel_rfl) (fun _ _ _ h => h) (Or.inl ⟨by rfl, fun w' hSw => ?_⟩) hS ?_
  · (obtain ⟨s1, s2⟩ := hSw; clear hS; go_simp)
  try simp only [Act.put, List.setIfInBounds_toArray, List.set_cons_zero, List.set_cons_succ]
  refine wpE_take (i := 1) (v := .pointer (some ⟨rb, 0, none⟩)) (o := { dst := some 45, op := _, type := _, pos := _, after := _, guard := none }) rfl (by kernel_rfl) (by kernel_rfl) (by kernel_rfl) (by kernel_rfl) (fun _ _ _ h => h) (Or.inl ⟨by rfl, fun w' hSw => ?_⟩) hS ?_
  · (obtain ⟨s1, s2⟩ := hSw; clear hS; go_simp)
  try simp only [Act.put, List.setIfInBounds_toArray, List.set_cons_zero, List.set_cons_succ]
  refine wpE_take (i := 2) (v := .pointer (some ⟨rb, 2, none⟩)) (o := { dst := some 46, op := _, type := _, pos := _, after := _, guard := none }) rfl (by kernel_rfl) (by kernel_rfl) (by kernel_rfl) (by kernel_rfl) (fun _ _ _ h => h) (Or.inl ⟨by rfl, fun w' hSw => ?_⟩) hS ?_
  · (obtain ⟨s1, s2⟩ := hSw; clear hS; go_simp)
  try simp only [Act.put, List.setIfInBounds_toArray, List.set_cons_zero, List.set_cons_succ]
  refine wpE_take (i := 3) (v := .slice (some ⟨g, 0, none⟩) T.nodes.length cap) (o := { dst := some 47, op := _, type := _, pos := _, after := _, guard := none }) rfl (by kernel_rfl) (by kernel_rfl) (by kernel_rfl) (by kernel_rfl) (fun _ _ _ h => h) (Or.inl ⟨by rfl, fun w' hSw => ?_⟩) hS ?_
  · (obtain ⟨s1, s2⟩ := hSw; clear hS; go_simp)
  try simp only [Act.put, List.setIfInBounds_toArray, List.set_cons_zero, List.set_cons_succ]
  refine wpE_take (i := 4) (v := .int .i64 p) (o := { dst := some 48, op := _, type := _, pos := _, after := _, guard := none }) rfl (by kernel_rfl) (by kernel_rfl) (by kernel_rfl) (by kernel_rfl) (fun _ _ _ h => h) (Or.inl ⟨by rfl, fun w' hSw => ?_⟩) hS ?_
  · (obtain ⟨s1, s2⟩ := hSw; clear hS; go_simp)
  try simp only [Act.put, List.setIfInBounds_toArray, List.set_cons_zero, List.set_cons_succ]
  refine wpE_take (i := 5) (v := .slice a1 j c1) (o := { dst := some 49, op := _, type := _, pos := _, after := _, guard := none }) rfl (by kernel_rfl) (by kernel_rfl) (by kernel_rfl) (by kernel_rfl) (fun _ _ _ h => h) (Or.inl ⟨by rfl, fun w' hSw => ?_⟩) hS ?_
  · (obtain ⟨s1, s2⟩ := hSw; clear hS; go_simp)
  try simp only [Act.put, List.setIfInBounds_toArray, List.set_cons_zero, List.set_cons_succ]
  refine wpE_take (i := 6) (v := .pointer (some ⟨rb, 0, none⟩)) (o := { dst := some 50, op := _, type := _, pos := _, after := _, guard := none }) rfl (by kernel_rfl) (by kernel_rfl) (by kernel_rfl) (by kernel_rfl) (fun _ _ _ h => h) (Or.inl ⟨by rfl, fun w' hSw => ?_⟩) hS ?_
  · (obtain ⟨s1, s2⟩ := hSw; clear hS; go_simp)
  try simp only [Act.put, List.setIfInBounds_toArray, List.set_cons_zero, List.set_cons_succ]
  refine wpE_take (i := 7) (v := .pointer (some ⟨rb, 0, none⟩)) (o := { dst := some 51, op := _, type := _, pos := _, after := _, guard := none }) rfl (by kernel_rfl) (by kernel_rfl) (by kernel_rfl) (by kernel_rfl) (fun _ _ _ h => h) (Or.inl ⟨by rfl, fun w' hSw => ?_⟩) hS ?_
  · (obtain ⟨s1, s2⟩ := hSw; clear hS; go_simp)
  try simp only [Act.put, List.setIfInBounds_toArray, List.set_cons_zero, List.set_cons_succ]
  refine wpE_take (i := 8) (v := .pointer (some ⟨rb, 2, none⟩)) (o := { dst := some 52, op := _, type := _, pos := _, after := _, guard := none }) rfl (by kernel_rfl) (by kernel_rfl) (by kernel_rfl) (by kernel_rfl) (fun _ _ _ h => h) (Or.inl ⟨by rfl, fun w' hSw => ?_⟩) hS ?_
  · (obtain ⟨s1, s2⟩ := hSw; clear hS; go_simp)
  try simp only [Act.put, List.setIfInBounds_toArray, List.set_cons_zero, List.set_cons_succ]
  refine wpE_take (i := 9) (v := .slice (some ⟨g, 0, none⟩) T.nodes.length cap) (o := { dst := some 53, op := _, type := _, pos := _, after := _, guard := none }) rfl (by kernel_rfl) (by kernel_rfl) (by kernel_rfl) (by kernel_rfl) (fun _ _ _ h => h) (Or.inl ⟨by rfl, fun w' hSw => ?_⟩) hS ?_
  · (obtain ⟨s1, s2⟩ := hSw; clear hS; go_simp)
  try simp only [Act.put, List.setIfInBounds_toArray, List.set_cons_zero, List.set_cons_succ]
  refine wpE_take (i := 10) (v := .int .i64 p) (o := { dst := some 54, op := _, type := _, pos := _, after := _, guard := none }) rfl (by kernel_rfl) (by kernel_rfl) (by kernel_rfl) (by kernel_rfl) (fun _ _ _ h => h) (Or.inl ⟨by rfl, fun w' hSw => ?_⟩) hS ?_
  · (obtain ⟨s1, s2⟩ := hSw; clear hS; go_simp)
  try simp only [Act.put, List.setIfInBounds_toArray, List.set_cons_zero, List.set_cons_succ]
  refine wpE_take (i := 11) (v := .pointer (some ⟨g, p * 6, none⟩)) (o := { dst := some 55, op := _, type := _, pos := _, after := _, guard := none }) rfl (by kernel_rfl) (by kernel_rfl) (by kernel_rfl) (by kernel_rfl) (fun _ _ _ h => h) (Or.inl ⟨by rfl, fun w' hSw => ?_⟩) hS ?_
  · (obtain ⟨s1, s2⟩ := hSw; clear hS; go_simp)
  try simp only [Act.put, List.setIfInBounds_toArray, List.set_cons_zero, List.set_cons_succ]
  refine wpE_take (i := 12) (v := .pointer (some ⟨g, p * 6 + 5, none⟩)) (o := { dst := some 56, op := _, type := _, pos := _, after := _, guard := none }) rfl (by kernel_rfl) (by kernel_rfl) (by kernel_rfl) (by kernel_rfl) (fun _ _ _ h => h) (Or.inl ⟨by rfl, fun w' hSw => ?_⟩) hS ?_
  · (obtain ⟨s1, s2⟩ := hSw; clear hS; go_simp)
  try simp only [Act.put, List.setIfInBounds_toArray, List.set_cons_zero, List.set_cons_succ]
  refine wpE_take (i := 13) (v := .slice (some ⟨kb, ko, ks⟩) pd.kids.length ck) (o := { dst := some 57, op := _, type := _, pos := _, after := _, guard := none }) rfl (by kernel_rfl) (by kernel_rfl) (by kernel_rfl) (by kernel_rfl) (fun _ _ _ h => h) (Or.inl ⟨by rfl, fun w' hSw => ?_⟩) hS ?_
  · (obtain ⟨s1, s2⟩ := hSw; clear hS; go_simp)
  try simp only [Act.put, List.setIfInBounds_toArray, List.set_cons_zero, List.set_cons_succ]
  refine wpE_take (i := 14) (v := .int .i64 j) (o := { dst := some 58, op := _, type := _, pos := _, after := _, guard := none }) rfl (by kernel_rfl) (by kernel_rfl) (by kernel_rfl) (by kernel_rfl) (fun _ _ _ h => h) (Or.inl ⟨by rfl, fun w' hSw => ?_⟩) hS ?_
  · (obtain ⟨s1, s2⟩ := hSw; clear hS; go_simp)
  try simp only [Act.put, List.setIfInBounds_toArray, List.set_cons_zero, List.set_cons_succ]
  refine wpE_one (i := 15) (o := { dst := some 59, op := _, type := _, pos := _, after := _, guard := none }) (by kernel_rfl) rfl (fun K hK => ?_)
  go_simp
  refine hK.out _ _ (.inr ⟨cA, rA⟩) ?_
  clear hK K
  try simp only [Act.put, List.setIfInBounds_toArray, List.set_cons_zero, List.set_cons_succ]
  refine wpE_one (i := 16) (o := { dst := some 60, op := _, type := _, pos := _, after := _, guard := none }) (by kernel_rfl) rfl (fun K hK => ?_)
  go_simp
  refine hK.out _ _ (.inr ⟨cA, rA⟩) ?_
  clear hK K
  try simp only [Act.put, List.setIfInBounds_toArray, List.set_cons_zero, List.set_cons_succ]
  refine wpE_one (i := 17) (o := { dst := some 61, op := _, type := _, pos := _, after := _, guard := none }) (by kernel_rfl) rfl (fun K hK => ?_)
  refine step_append_run (by rfl) _ _ 70 (by rfl) (.slice a1 j c1) (.slice (if ck = j + 1 then some ⟨kb, ko, ks⟩ else some (Addr.add ⟨kb, ko, ks⟩ (j + 1))) (pd.kids.length - (j + 1)) (ck - (j + 1))) (by rfl) (by rfl) (.slice a2 (j + (pd.kids.length - (j + 1))) c2) wB HRUNB.out ?_
  refine hK.out _ _ (.inr ⟨cB, rB⟩) ?_
  clear hK K
  try simp only [Act.put, List.setIfInBounds_toArray, List.set_cons_zero, List.set_cons_succ]
  refine wpE_one (i := 18) (o := { dst := some 62, op := _, type := _, pos := _, after := _, guard := none }) (by kernel_rfl) rfl (fun K hK => ?_)
  go_simp
  refine hK.out _ _ (.inr ⟨cB, rB⟩) ?_
  clear hK K
  try simp only [Act.put, List.setIfInBounds_toArray, List.set_cons_zero, List.set_cons_succ]
  refine wpE_one (i := 19) (o := { dst := some 63, op := _, type := _, pos := _, after := _, guard := none }) (by kernel_rfl) rfl (fun K hK => ?_)
  go_simp
  refine hK.out _ _ (.inr ⟨cB, rB⟩) ?_
  clear hK K
  try simp only [Act.put, List.setIfInBounds_toArray, List.set_cons_zero, List.set_cons_succ]
  refine wpE_one (i := 20) (o := { dst := none, op := _, type := _, pos := _, after := _, guard := none }) (by kernel_rfl) rfl (fun K hK => ?_)
  go_simp
  refine hK.out _ _ (.inl rfl) ?_
  clear hK K
  refine wpE_done (by kernel_rfl) ?_
  go_wp2_with fail
  all_goals
    go_ret
    refine ⟨rfl, RAft.poke (b := wB.setCell ⟨g, p * 6 + 5, none⟩ (.slice a2 (j + (pd.kids.length - (j + 1))) c2)) (T1 := T.setAt p { pd with kids := pd.kids.erase (k : Int) }) (o := some kd) (o' := some { kd with parent := -1 }) ?_ ((World.cell?_of_block (a := ⟨rb, 2, none⟩) (heap_setCell_other (p := ⟨g, p * 6 + 5, none⟩) _ nrg)).trans cB) rfl rfl rfl ?_ (by decide) (fun ga G cur hG hl hr => recAt_set hr hG (by decide) hl (by simp) (by simp) (by simp) (by simp) (by simp) (by decide))⟩
    · have hrow := cut_row hjl (erase_cut J1.out HM.out) HRB.out
      refine RefAt.put1 HAT.out HFF.out.1 HFF.out.2.1 HFF.out.2.2 (T' := T.setAt p { pd with kids := pd.kids.erase (k : Int) }) (j := p) (m := 5) (o := some pd) (o' := some { pd with kids := pd.kids.erase (k : Int) }) XB.out rfl rfl rfl HP.out (by decide) (fun G cur hG hb hl hr => recAt_set hr hG (by decide) hl (by simp) (by simp) (by simp) (by simp) ?_ (by decide))
      simp only [if_true]
      exact RowP.rd (RowP.move hrow (p' := fun _ => True) fun b hb' => ⟨hb b hb', trivial⟩)
    · show (T.nodes.set p _)[k]? = _
      rw [List.getElem?_set_ne hpk]; exact HK.out
end
end Go.Proofs.Ytiglflmjidikpaa
