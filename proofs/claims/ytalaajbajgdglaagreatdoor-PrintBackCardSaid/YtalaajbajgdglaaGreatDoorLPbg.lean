/- what of ZP Z1 Z2 Z3 BA BB BC BD BE BF BG BH BI BJ BK BL BM BN BO BP BQ BR BS BT ZY BV BW BY Z4 CA is leant on -/
import Derived.Test.YtalaajbajgdglaaGreatDoorLPbf
set_option linter.unusedVariables false
set_option linter.unusedSimpArgs false
set_option maxRecDepth 1000000
set_option maxHeartbeats 8000000
namespace Go.Proofs.YtalaajbajgdglaaGreatDoor
open Go Go.RowKit Go.BigFrame
theorem conv_pair (s : ByteArray) (hs : s.size ≤ 100000) (w : World) : ∃ (v : Value) (w' : World), (Go.convert 9 125 (.string s)).run Tryz.prog w = .ok v w' ∧ (Go.convert 125 9 v).run Tryz.prog w' = .ok (.string (anewB s)) w' ∧ Ext w w' := by
  have h1 := run_runes_of_string (P := Tryz.prog) w 9 125 21 s Tryz.underlying9 Tryz.underlying125 Tryz.underlying21 (by have := size_runesFrom s s.size 0 #[]; simp at this; omega)
  have e1 : Conv.runesFrom s s.size 0 #[] = ((runeList s s.size 0).map (Value.int .i32)).toArray := by rw [runesFrom_eq]; simp
  have hz : anewB s = runesBytes (runeList s s.size 0) := rfl
  rw [e1] at h1
  rw [hz]
  clear hz e1 hs
  generalize runeList s s.size 0 = l at *
  generalize hk : grownCap w (List.map (Value.int IntKind.i32) l).toArray.size 0 21 = K at *
  have hge := grownCap_ge w (List.map (Value.int IntKind.i32) l).toArray.size 0 21
  rw [hk] at hge
  clear hk
  generalize hC : (List.map (Value.int IntKind.i32) l).toArray ++ Array.replicate (K - (List.map (Value.int IntKind.i32) l).toArray.size) (Value.int IntKind.i32 0) = C at *
  have h2 := run_convert_runes (P := Tryz.prog) (w.drew.alloc (.cells C 21)) 125 9 21 ⟨w.heap.size, 0, none⟩ l.length K l (Nat.le_refl _) Tryz.underlying125 Tryz.underlying21 Tryz.underlying9
    (by
      intro j hj
      have hb : (w.drew.alloc (.cells C 21)).heap[w.heap.size]? = some (.cells C 21 (0, 0)) := heap_alloc_new w.drew _
      rw [Addr.add_lit, Nat.zero_add]
      refine cellOf hb ?_
      rw [← hC, Array.getElem?_append_left (by simpa using hj)]
      simp [hj])
  rw [List.take_length] at h2
  simp only [List.size_toArray, List.length_map] at h1
  exact ⟨_, _, h1, h2, (Ext.refl w).drew.alloc _⟩
theorem isEmpty_no {α : Type} {l : List α} (h : ¬ l.length = 0) : l.isEmpty = false := by
  cases l with
  | nil => exact absurd rfl h
  | cons a l => rfl
theorem textP_any (n : PN) (v : Value) (p : Value) (d : Int) (box line li : Bool) (w : World) (hr : RdN w n v) (hs : n.text.size ≤ 100000) :
    Calls Tryz.prog 118 #[p, v, .agg #[.int .i64 d, .bool box, .bool line, .bool li]] w (RBool (textOk box n) w) := by
  obtain ⟨y1, y2, y3, y4, rfl⟩ := hr.shape
  have x1 := ((Ext.refl w).alloc (.cells #[.int .i64 n.tag, .slice y1 n.attrs.length y2, .string n.text, .slice y3 n.kids.length y4] 26))
  have bb := heap_alloc_new w (.cells #[.int .i64 n.tag, .slice y1 n.attrs.length y2, .string n.text, .slice y3 n.kids.length y4] 26)
  obtain ⟨r, hr9⟩ : ∃ r, textOk box n = r := ⟨_, rfl⟩
  rw [hr9]
  have HR9 := qh hr9
  have HS := qh hs
  clear hr hr9 hs
  go_enter Tryz.func118, Tryz.ntmps118
  go_upto_region 1 with fail
  obtain ⟨w1, hw1⟩ : ∃ w1 : World, w1 = w.alloc (.cells #[.int .i64 n.tag, .slice y1 n.attrs.length y2, .string n.text, .slice y3 n.kids.length y4] 26) := ⟨_, rfl⟩
  have hsz : w1.heap.size = w.heap.size + 1 := by rw [hw1]; simp
  rw [← hw1] at x1 bb ⊢
  clear hw1
  have x2 := x1.alloc (.cells #[.int .i64 d, .bool box, .bool line, .bool li] 78)
  have b2 := ((Ext.refl w1).alloc (.cells #[.int .i64 d, .bool box, .bool line, .bool li] 78)).block bb
  have a2 := heap_alloc_new w1 (.cells #[.int .i64 d, .bool box, .bool line, .bool li] 78)
  rw [hsz] at a2
  obtain ⟨w2, hw2⟩ : ∃ w2 : World, w2 = w1.alloc (.cells #[.int .i64 d, .bool box, .bool line, .bool li] 78) := ⟨_, rfl⟩
  rw [← hw2] at x2 b2 a2 ⊢
  clear hw2 hsz x1 bb
  have n1 := cellOf b2 (i := 1) (v := .slice y1 n.attrs.length y2) rfl
  have n2 := cellOf b2 (i := 2) (v := .string n.text) rfl
  have n3 := cellOf b2 (i := 3) (v := .slice y3 n.kids.length y4) rfl
  have B2 := qh b2
  have A2 := qh a2
  have X2 := qh x2
  clear b2 a2 x2
  by_cases h1 : n.attrs.length = 0
  · have e1 : ((n.attrs.length : Int) == 0) = true := by simpa using h1
    have H1 := qh h1
    clear h1
    by_cases h2 : n.kids.length = 0
    · have e2 : ((n.kids.length : Int) == 0) = true := by simpa using h2
      have H2 := qh h2
      clear h2
      by_cases h3 : n.text.size = 0
      · have e3 : (n.text.toList == ([] : List UInt8)) = true := by rw [ByteArray.toList_eq, show n.text.data.toList = [] from List.eq_nil_of_length_eq_zero h3]; rfl
        have hr0 : r = false := by rw [← HR9.out]; unfold textOk; simp [h3]
        subst hr0
        clear h3
        go_wp2_with fail
        go_ret
        exact ⟨rfl, X2.out⟩
      · have e3 : (n.text.toList == ([] : List UInt8)) = false := by
          rw [ByteArray.toList_eq]
          cases hd : n.text.data.toList with
          | nil => exact absurd (show n.text.size = 0 by show n.text.data.toList.length = 0; rw [hd]; rfl) h3
          | cons a l => rfl
        obtain ⟨cv, cw, q1, q2, q3⟩ := conv_pair n.text HS.out w2
        have n2' := q3.cell n2
        have a1 := q3.cell (cellOf A2.out (i := 1) (v := .bool box) rfl)
        have X3 := qh (X2.out.trans q3)
        have H3 := qh h3
        clear h3 q3
        by_cases h4 : anewB n.text = n.text
        · have e4 : ((anewB n.text).toList == n.text.toList) = true := by rw [str_eq]; exact decide_eq_true h4
          have hr4 : r = !(box && n.text.data.toList.all blankB) := by
            rw [← HR9.out]; unfold textOk
            have k1 : n.attrs.isEmpty = true := by simpa using H1.out
            have k2 : n.kids.isEmpty = true := by simpa using H2.out
            have k3 : decide (n.text.size ≠ 0) = true := by simpa using H3.out
            rw [k1, k2, k3, decide_eq_true h4]; simp
          rw [h4] at q2 e4
          have HR4 := qh hr4
          clear h4 hr4
          cases box with
          | false =>
            have hr0 : r = true := by rw [HR4.out]; rfl
            subst hr0
            go_wp2_with fail
            go_ret
            exact ⟨rfl, X3.out⟩
          | true =>
            have HT := qh (Trim_any n.text ⟨#[32, 9, 10, 12, 13]⟩ cw (by have := HS.out; omega) (by decide) (by
              intro j c hj
              have : c ∈ ([32, 9, 10, 12, 13] : List UInt8) := List.mem_of_getElem? hj
              revert this
              simp only [List.mem_cons, List.not_mem_nil, or_false]
              rintro (rfl | rfl | rfl | rfl | rfl) <;> decide))
            obtain ⟨tz, htz⟩ : ∃ tz : ByteArray, (⟨(Lib.trimS n.text.data.toList (⟨#[32, 9, 10, 12, 13]⟩ : ByteArray).data.toList).toArray⟩ : ByteArray) = tz := ⟨_, rfl⟩
            rw [htz] at HT
            have hr0 : r = !(tz.toList == ([] : List UInt8)) := by
              rw [HR4.out, ByteArray.toList_eq, ← htz]
              have hb := trim_blank n.text.data.toList
              have e9 : (Lib.trimS n.text.data.toList [32, 9, 10, 12, 13] == ([] : List UInt8)) = n.text.data.toList.all blankB := by
                rw [Bool.eq_iff_iff, beq_iff_eq]; exact hb
              rw [Bool.true_and, ← e9]
            have HR0 := qh hr0
            clear hr0 htz
            have ht : (tz.toList == ([] : List UInt8)) = true ∨ (tz.toList == ([] : List UInt8)) = false := by cases (tz.toList == ([] : List UInt8)); exact .inr rfl; exact .inl rfl
            rcases ht with ht | ht
            · have hr1 : r = false := by rw [HR0.out, ht]; rfl
              subst hr1
              go_wp2_with (go_at_call 98; refine HT.out.mono ?_)
              rintro e w4 ⟨rfl, x4⟩
              have X4 := qh (X3.out.trans x4)
              clear x4
              go_wp2_with fail
              go_ret
              exact ⟨rfl, X4.out⟩
            · have hr1 : r = true := by rw [HR0.out, ht]; rfl
              subst hr1
              go_wp2_with (go_at_call 98; refine HT.out.mono ?_)
              rintro e w4 ⟨rfl, x4⟩
              have X4 := qh (X3.out.trans x4)
              clear x4
              go_wp2_with fail
              go_ret
              exact ⟨rfl, X4.out⟩
        · have e4 : ((anewB n.text).toList == n.text.toList) = false := by rw [str_eq]; exact decide_eq_false h4
          have hr0 : r = false := by rw [← HR9.out]; unfold textOk; rw [decide_eq_false h4]; simp
          subst hr0
          clear h4
          go_wp2_with fail
          go_ret
          exact ⟨rfl, X3.out⟩
    · have e2 : ((n.kids.length : Int) == 0) = false := by simpa using h2
      have hr0 : r = false := by rw [← HR9.out]; unfold textOk; rw [isEmpty_no h2]; simp
      subst hr0
      clear h2
      go_wp2_with fail
      go_ret
      exact ⟨rfl, X2.out⟩
  · have e1 : ((n.attrs.length : Int) == 0) = false := by simpa using h1
    have hr0 : r = false := by rw [← HR9.out]; unfold textOk; rw [isEmpty_no h1]; simp
    subst hr0
    clear h1
    go_wp2_with fail
    go_ret
    exact ⟨rfl, X2.out⟩
def Looked (b c k : Nat) (ok : Bool) (w : World) (e : Ending) (w' : World) : Prop :=
  ∃ c' : Nat, e = .returned (.bool (ok && decide (c + k ≤ 2000))) ∧ ExtB b w w' ∧ One w' b (.int .i64 c') 75 ∧ ((ok && decide (c + k ≤ 2000)) = true → c' = c + k)
def NOk (w0 : World) (n : PN) : Prop := ∀ (b c : Nat) (d : Int) (box line li : Bool) (w : World) (v : Value), RdN w0 n v → Ext w0 w → w0.heap.size ≤ b → One w b (.int .i64 c) 75 → c ≤ 2000 → 0 ≤ d → d ≤ 41 →
  Calls Tryz.prog 74 #[.pointer (some ⟨b, 0, none⟩), v, .agg #[.int .i64 d, .bool box, .bool line, .bool li]] w (Looked b c n.size (n.norm d box line li) w)
def KOk (w0 : World) (n : PN) : Prop := ∀ (b c : Nat) (d : Int) (box line li : Bool) (w : World) (v : Value), RdN w0 n v → Ext w0 w → w0.heap.size ≤ b → One w b (.int .i64 c) 75 → c ≤ 2000 → 0 ≤ d → d ≤ 41 →
  Calls Tryz.prog 35 #[.pointer (some ⟨b, 0, none⟩), v, .agg #[.int .i64 d, .bool box, .bool line, .bool li]] w (Looked b c (PN.sizes n.kids) (PN.norms d box line li false n.kids) w)
def prevT (l : List PN) : Nat → Bool
  | 0 => false
  | k + 1 => (l[k]?).any fun x => x.tag == 0
theorem norms_at (d : Int) (box line li : Bool) {l : List PN} {k : Nat} {x : PN} (h : l[k]? = some x) : PN.norms d box line li (prevT l k) (l.drop k) = (!(prevT l k && x.tag == 0) && x.norm d box line li && PN.norms d box line li (prevT l (k + 1)) (l.drop (k + 1))) := by
  obtain ⟨hk, e⟩ := List.getElem?_eq_some_iff.1 h
  have h1 : l.drop k = x :: l.drop (k + 1) := by rw [← e]; exact List.drop_eq_getElem_cons hk
  have h2 : prevT l (k + 1) = (x.tag == 0) := by simp [prevT, h]
  rw [h1, h2]; rfl
theorem kids_of {w0 : World} {n : PN} (ih : ∀ k ∈ n.kids, NOk w0 k) : KOk w0 n := by
  intro b c d box line li w v hr hx hb ho hc hd hd2
  obtain ⟨av, kv, rfl, ha, hk⟩ := hr.open
  obtain ⟨ao, ac, rfl, _⟩ := ha.len_of
  obtain ⟨ka, kc, rfl, hk1, hk2, hk3, hk4⟩ := hk
  have hbl := ho.lt
  have x1 := ((Ext.refl w).alloc (.cells #[.int .i64 n.tag, .slice ao n.attrs.length ac, .string n.text, .slice ka n.kids.length kc] 26))
  have bb := heap_alloc_new w (.cells #[.int .i64 n.tag, .slice ao n.attrs.length ac, .string n.text, .slice ka n.kids.length kc] 26)
  obtain ⟨ok, hok⟩ : ∃ ok, PN.norms d box line li false n.kids = ok := ⟨_, rfl⟩
  rw [hok]
  have HOK := qh hok
  have HK3 := qh hk3
  have HK4 := qh hk4
  have HIH := qh ih
  have HX := qh hx
  have HONE := qh ho
  have HNB := qh hb
  unfold maxLen at hk2
  clear hok hk3 hk4 ih hx ho hr ha hb
  go_enter Tryz.func35, Tryz.ntmps35
  go_upto_region 1 with fail
  obtain ⟨w1, hw1⟩ : ∃ w1 : World, w1 = w.alloc (.cells #[.int .i64 n.tag, .slice ao n.attrs.length ac, .string n.text, .slice ka n.kids.length kc] 26) := ⟨_, rfl⟩
  have hsz : w1.heap.size = w.heap.size + 1 := by rw [hw1]; simp
  rw [← hw1] at x1 bb ⊢
  clear hw1
  have x2 := x1.alloc (.cells #[.int .i64 d, .bool box, .bool line, .bool li] 78)
  have b2 := ((Ext.refl w1).alloc (.cells #[.int .i64 d, .bool box, .bool line, .bool li] 78)).block bb
  have a2 := heap_alloc_new w1 (.cells #[.int .i64 d, .bool box, .bool line, .bool li] 78)
  rw [hsz] at a2
  obtain ⟨w2, hw2⟩ : ∃ w2 : World, w2 = w1.alloc (.cells #[.int .i64 d, .bool box, .bool line, .bool li] 78) := ⟨_, rfl⟩
  rw [← hw2] at x2 b2 a2 ⊢
  clear hw2 hsz x1 bb
  have n3 := cellOf b2 (i := 3) (v := .slice ka n.kids.length kc) rfl
  have B2 := qh b2
  have A2 := qh a2
  have X2 := qh x2
  clear b2 a2 x2
  go_wp2_with fail
  clear n3
  have fin : ∀ (q : Bool) (u : World) (c' : Nat), (ok && decide (c + PN.sizes n.kids ≤ 2000)) = q → ExtB b w2 u → One u b (.int .i64 c') 75 → (q = true → c' = c + PN.sizes n.kids) → Looked b c (PN.sizes n.kids) ok w (.returned (.bool q)) u := by
    intro q u c' h1 h2 h3 h4
    exact ⟨c', by rw [h1], (X2.out.toB b).trans h2, h3, by rw [h1]; exact h4⟩
  have FIN := qh fin
  clear fin
  go_loopw [7, 8, 12] (fun _ _ i wr => ∃ k ck : Nat, k ≤ n.kids.length ∧ i = .int .i64 k ∧ ExtB b w2 wr ∧ One wr b (.int .i64 ck) 75 ∧ ck = c + PN.sizes (n.kids.take k) ∧ ck ≤ 2000 ∧ PN.norms d box line li (prevT n.kids k) (n.kids.drop k) = ok) (fun _ _ i _ => n.kids.length - (intOf i).toNat)
  case atStart => exact ⟨0, c, Nat.zero_le _, rfl, ExtB.refl _ _, HONE.out.ext X2.out, by simp [PN.sizes], hc, HOK.out⟩
  case round =>
    obtain ⟨k, ck, hk, rfl, xr, hone, hck, hck2, hn⟩ := hrel
    have XR := qh xr
    have HN := qh hn
    have HCK := qh hck
    have HONR := qh hone
    clear hn hck
    by_cases hlt : k < n.kids.length
    · obtain ⟨x, hx⟩ : ∃ x, n.kids[k]? = some x := ⟨n.kids[k], by simp [hlt]⟩
      cases ka with
      | none => exact absurd (HK3.out rfl).1 (by omega)
      | some a =>
        obtain ⟨bk, off, sp⟩ := a
        obtain ⟨c0', c1', c2', c3', q0, q1, q2, q3, hrd⟩ := HK4.out _ rfl k x hx
        obtain ⟨y1, y2, y3, y4, en⟩ := hrd.shape
        cases en
        have hxx : Ext w0 wr := xr.ext (HX.out.trans X2.out) HNB.out
        replace q0 := hxx.cells _ _ q0
        replace q1 := hxx.cells _ _ q1
        replace q2 := hxx.cells _ _ q2
        replace q3 := hxx.cells _ _ q3
        rw [add_later _ _ _ (by decide)] at q1 q2 q3
        have n3 := cellOf (xr.heap B2.out (by omega)) (i := 3) (v := .slice (some ⟨bk, off, sp⟩) n.kids.length kc) rfl
        have HXX := qh hxx
        have HRD := qh hrd
        have KX := qh hx
        clear hxx hrd hx xr hone
        go_upto_region 4 with fail --KIDS
        obtain ⟨wz, hwz⟩ : ∃ wz : World, wz = wr.alloc (.cells #[.int .i64 x.tag, .slice y1 x.attrs.length y2, .string x.text, .slice y3 x.kids.length y4] 26) := ⟨_, rfl⟩
        have xz : Ext wr wz := by rw [hwz]; exact (Ext.refl wr).alloc _
        have bz : wz.heap[wr.heap.size]? = some (.cells #[.int .i64 x.tag, .slice y1 x.attrs.length y2, .string x.text, .slice y3 x.kids.length y4] 26 (0, 0)) := by rw [hwz]; exact heap_alloc_new wr _
        rw [← hwz]
        clear hwz q1 q2 q3
        have XZ := qh (XR.out.trans (xz.toB b))
        have m0 := cellOf bz (i := 0) (v := .int .i64 x.tag) rfl
        have m1 := cellOf bz (i := 1) (v := .slice y1 x.attrs.length y2) rfl
        have m2 := cellOf bz (i := 2) (v := .string x.text) rfl
        have m3 := cellOf bz (i := 3) (v := .slice y3 x.kids.length y4) rfl
        have az := XZ.out.heap A2.out (show w.heap.size + 1 ≠ b by omega)
        have v0 := cellOf az (i := 0) (v := .int .i64 d) rfl
        have v1 := cellOf az (i := 1) (v := .bool box) rfl
        have v2 := cellOf az (i := 2) (v := .bool line) rfl
        have v3 := cellOf az (i := 3) (v := .bool li) rfl
        replace n3 := xz.cell n3
        have HCALL := qh (HIH.out x (List.mem_of_getElem? KX.out) b ck d box line li wz _ HRD.out (HXX.out.trans xz) HNB.out (HONR.out.ext xz) hck2 hd hd2)
        have htk : PN.sizes (n.kids.take (k + 1)) = PN.sizes (n.kids.take k) + x.size := by
          obtain ⟨hlt', hxe⟩ := List.getElem?_eq_some_iff.1 KX.out
          rw [List.take_succ_eq_append_getElem hlt', hxe, sizes_append]; simp [PN.sizes]
        have hall : PN.sizes (n.kids.take k) + x.size ≤ PN.sizes n.kids := sizes_take_succ KX.out
        have got : (prevT n.kids k && x.tag == 0) = false → (x.norm d box line li && decide (ck + x.size ≤ 2000)) = true → ck + x.size = c + PN.sizes (n.kids.take (k + 1)) ∧ ck + x.size ≤ 2000 ∧ PN.norms d box line li (prevT n.kids (k + 1)) (n.kids.drop (k + 1)) = ok := by
          intro h1 h2
          simp only [Bool.and_eq_true, decide_eq_true_eq] at h2
          have := HN.out
          rw [norms_at d box line li KX.out, h1, h2.1] at this
          have e := HCK.out
          exact ⟨by omega, h2.2, by simpa using this⟩
        have bad : (prevT n.kids k && x.tag == 0) = true ∨ (x.norm d box line li && decide (ck + x.size ≤ 2000)) = false → (ok && decide (c + PN.sizes n.kids ≤ 2000)) = false := by
          intro h
          have h3 := HN.out
          rw [norms_at d box line li KX.out] at h3
          rcases h with h | h
          · rw [h] at h3; rw [← h3]; simp
          · cases hx1 : x.norm d box line li
            · rw [hx1] at h3; rw [← h3]; simp
            · rw [hx1] at h
              have h5 : ¬ ck + x.size ≤ 2000 := by simpa using h
              have e := HCK.out
              rw [decide_eq_false (by omega)]; simp
        have ONZ := qh (HONR.out.ext xz)
        have GOT := qh got
        have BAD := qh bad
        clear got bad bz az xz htk hall
        by_cases hk0 : k = 0
        · have hpt : (prevT n.kids k && x.tag == 0) = false := by rw [hk0]; rfl
          have g0 : ¬ (0 : Int) < (k : Int) := by omega
          clear hk0
          have hr1 : (x.norm d box line li && decide (ck + x.size ≤ 2000)) = true ∨ (x.norm d box line li && decide (ck + x.size ≤ 2000)) = false := by cases (x.norm d box line li && decide (ck + x.size ≤ 2000)); exact .inr rfl; exact .inl rfl
          rcases hr1 with hr1 | hr1
          · go_wp2_with (go_at_call 74; refine HCALL.out.mono ?_)
            rintro e w4 ⟨c4, rfl, x4, o4, h4⟩
            rw [hr1]
            have R4 := qh (h4 hr1)
            have X4 := qh (XZ.out.trans x4)
            have O4 := qh o4
            have GT := qh (GOT.out hpt hr1)
            clear x4 o4 h4 m0 m1 m2 m3 v0 v1 v2 v3 n3 hr1
            go_wp2_with fail
            go_roundw
            case rel => exact ⟨k + 1, c4, by omega, by go_num, X4.out, O4.out, by rw [R4.out]; exact GT.out.1, by rw [R4.out]; exact GT.out.2.1, GT.out.2.2⟩
            case measure => simp [intOf]; omega
          · go_wp2_with (go_at_call 74; refine HCALL.out.mono ?_)
            rintro e w4 ⟨c4, rfl, x4, o4, h4⟩
            rw [hr1]
            have X4 := qh (XZ.out.trans x4)
            have O4 := qh o4
            have BD := qh (BAD.out (.inr hr1))
            clear x4 o4 h4 m0 m1 m2 m3 v0 v1 v2 v3 n3 hr1
            go_wp2_with fail
            go_ret
            exact FIN.out _ _ _ BD.out X4.out O4.out (fun h => by cases h)
        · have g0 : (0 : Int) < (k : Int) := by omega
          rcases tagB x.tag with ht | ht
          · have hwr : IntKind.i64.wrap ((k : Int) - 1) = ((k - 1 : Nat) : Int) := by rw [IntWalk.i64_left, IntWalk.wrap64_in _ (by omega)]; omega
            obtain ⟨p, hp⟩ : ∃ p, n.kids[k - 1]? = some p := ⟨_, List.getElem?_eq_getElem (show k - 1 < n.kids.length by omega)⟩
            obtain ⟨d0', d1', d2', d3', r0, _, _, _, hrp⟩ := HK4.out _ rfl (k - 1) p hp
            obtain ⟨z1, z2, z3, z4, en⟩ := hrp.shape
            cases en
            replace r0 := (XZ.out.ext (HX.out.trans X2.out) HNB.out).cells _ _ r0
            have hpt0 : prevT n.kids k = (p.tag == 0) := by
              obtain ⟨j, rfl⟩ : ∃ j, k = j + 1 := ⟨k - 1, by omega⟩
              simp only [Nat.add_sub_cancel] at hp
              simp [prevT, hp]
            have b0 : (0 : Int) ≤ ((k - 1 : Nat) : Int) := by omega
            have b1 : ((k - 1 : Nat) : Int) < (n.kids.length : Int) := by omega
            generalize k - 1 = j at *
            clear hp hrp
            rcases tagB p.tag with hq | hq
            · have hpt : (prevT n.kids k && x.tag == 0) = true := by rw [hpt0, hq, ht]; rfl
              have BD := qh (BAD.out (.inl hpt))
              have OZ := qh (HONR.out)
              clear hk0 hpt hpt0
              go_wp2_with fail
              go_ret
              exact FIN.out _ _ _ BD.out XZ.out ONZ.out (fun h => by cases h)
            · have hpt : (prevT n.kids k && x.tag == 0) = false := by rw [hpt0, hq]; rfl
              clear hk0 hpt0
              have hr1 : (x.norm d box line li && decide (ck + x.size ≤ 2000)) = true ∨ (x.norm d box line li && decide (ck + x.size ≤ 2000)) = false := by cases (x.norm d box line li && decide (ck + x.size ≤ 2000)); exact .inr rfl; exact .inl rfl
              rcases hr1 with hr1 | hr1
              · go_wp2_with (go_at_call 74; refine HCALL.out.mono ?_)
                rintro e w4 ⟨c4, rfl, x4, o4, h4⟩
                rw [hr1]
                have R4 := qh (h4 hr1)
                have X4 := qh (XZ.out.trans x4)
                have O4 := qh o4
                have GT := qh (GOT.out hpt hr1)
                clear x4 o4 h4 m0 m1 m2 m3 v0 v1 v2 v3 n3 hr1
                go_wp2_with fail
                go_roundw
                case rel => exact ⟨k + 1, c4, by omega, by go_num, X4.out, O4.out, by rw [R4.out]; exact GT.out.1, by rw [R4.out]; exact GT.out.2.1, GT.out.2.2⟩
                case measure => simp [intOf]; omega
              · go_wp2_with (go_at_call 74; refine HCALL.out.mono ?_)
                rintro e w4 ⟨c4, rfl, x4, o4, h4⟩
                rw [hr1]
                have X4 := qh (XZ.out.trans x4)
                have O4 := qh o4
                have BD := qh (BAD.out (.inr hr1))
                clear x4 o4 h4 m0 m1 m2 m3 v0 v1 v2 v3 n3 hr1
                go_wp2_with fail
                go_ret
                exact FIN.out _ _ _ BD.out X4.out O4.out (fun h => by cases h)
          · have hpt : (prevT n.kids k && x.tag == 0) = false := by rw [ht]; simp
            clear hk0
            have hr1 : (x.norm d box line li && decide (ck + x.size ≤ 2000)) = true ∨ (x.norm d box line li && decide (ck + x.size ≤ 2000)) = false := by cases (x.norm d box line li && decide (ck + x.size ≤ 2000)); exact .inr rfl; exact .inl rfl
            rcases hr1 with hr1 | hr1
            · go_wp2_with (go_at_call 74; refine HCALL.out.mono ?_)
              rintro e w4 ⟨c4, rfl, x4, o4, h4⟩
              rw [hr1]
              have R4 := qh (h4 hr1)
              have X4 := qh (XZ.out.trans x4)
              have O4 := qh o4
              have GT := qh (GOT.out hpt hr1)
              clear x4 o4 h4 m0 m1 m2 m3 v0 v1 v2 v3 n3 hr1
              go_wp2_with fail
              go_roundw
              case rel => exact ⟨k + 1, c4, by omega, by go_num, X4.out, O4.out, by rw [R4.out]; exact GT.out.1, by rw [R4.out]; exact GT.out.2.1, GT.out.2.2⟩
              case measure => simp [intOf]; omega
            · go_wp2_with (go_at_call 74; refine HCALL.out.mono ?_)
              rintro e w4 ⟨c4, rfl, x4, o4, h4⟩
              rw [hr1]
              have X4 := qh (XZ.out.trans x4)
              have O4 := qh o4
              have BD := qh (BAD.out (.inr hr1))
              clear x4 o4 h4 m0 m1 m2 m3 v0 v1 v2 v3 n3 hr1
              go_wp2_with fail
              go_ret
              exact FIN.out _ _ _ BD.out X4.out O4.out (fun h => by cases h)
    · obtain rfl : k = n.kids.length := by omega
      have hn := HN.out
      rw [List.drop_length] at hn
      have hck := HCK.out
      rw [List.take_length] at hck
      have hz : (ok && decide (c + PN.sizes n.kids ≤ 2000)) = true := by rw [← hn, decide_eq_true (by omega)]; rfl
      have HZ := qh hz
      have CK := qh hck
      clear hn hck hz xr hone
      go_wp2_with fail
      go_ret
      exact FIN.out _ _ _ HZ.out XR.out HONR.out (fun _ => CK.out)
theorem text_none {s : ByteArray} (h : s.size = 0) : (s.toList == ([] : List UInt8)) = true := by rw [ByteArray.toList_eq, show s.data.toList = [] from List.eq_nil_of_length_eq_zero h]; rfl
theorem text_some {s : ByteArray} (h : ¬ s.size = 0) : (s.toList == ([] : List UInt8)) = false := by
  rw [ByteArray.toList_eq]
  cases hd : s.data.toList with
  | nil => exact absurd (show s.size = 0 by show s.data.toList.length = 0; rw [hd]; rfl) h
  | cons a l => rfl
theorem clsT_range (t : Int) : clsT t = 0 ∨ clsT t = 1 ∨ clsT t = 2 ∨ clsT t = 3 ∨ clsT t = 4 ∨ clsT t = 5 := by
  unfold clsT
  repeat' split
  all_goals simp
theorem cls_two {t : Int} (h : clsT t = 2) : t ≠ 9 := by rintro rfl; exact absurd h (by decide)
theorem cls_three {t : Int} (h : clsT t = 3) : t ≠ 7 ∧ t ≠ 8 := ⟨by rintro rfl; exact absurd h (by decide), by rintro rfl; exact absurd h (by decide)⟩
theorem textOk_kids {box : Bool} {n : PN} (h : textOk box n = true) : n.kids = [] := by
  unfold textOk at h
  simp only [Bool.and_eq_true] at h
  exact List.isEmpty_iff.1 h.1.1.1.2
theorem lnode_0 {w0 : World} {n : PN} (hcls : clsT n.tag = 0) (hT : Tabs w0) (hkids : KOk w0 n) (htx : n.text.size ≤ 100000) (hal : n.attrs.length ≤ 100000000000000) : NOk w0 n := by
  intro b c d box line li w v hr hx hb ho hc hd hd2
  obtain ⟨av, kv, rfl, ha, hk⟩ := hr.open
  obtain ⟨ao, ac, rfl, _⟩ := ha.len_of
  obtain ⟨ka, kc, rfl, hk1, hk2, hk3, hk4⟩ := hk
  clear hk1 hk2 hk3 hk4
  have hbl := ho.lt
  have hws := hx.size
  have x1 := ((Ext.refl w).alloc (.cells #[.int .i64 n.tag, .slice ao n.attrs.length ac, .string n.text, .slice ka n.kids.length kc] 26))
  have bb := heap_alloc_new w (.cells #[.int .i64 n.tag, .slice ao n.attrs.length ac, .string n.text, .slice ka n.kids.length kc] 26)
  have fin : ∀ (q : Bool) (u : World) (c' : Nat), (n.norm d box line li && decide (c + n.size ≤ 2000)) = q → ExtB b w u → One u b (.int .i64 c') 75 → (q = true → c' = c + n.size) → Looked b c n.size (n.norm d box line li) w (.returned (.bool q)) u := by
    intro q u c' h1 h2 h3 h4
    exact ⟨c', by rw [h1], h2, h3, by rw [h1]; exact h4⟩
  have FIN := qh fin
  have HT := qh hT
  have HR := qh hr
  have HA0 := qh ha
  have HAL := qh hal
  have HTXT := qh htx
  have HX := qh hx
  have HNBB := qh hb
  have HKIDS := qh hkids
  have HSZ := qh n.size_eq
  have HO := qh ho
  clear fin hT hr ha hal htx hx hb hkids ho
  go_enter Tryz.func74, Tryz.ntmps74
  go_upto_region 1 with fail
  obtain ⟨w1, hw1⟩ : ∃ w1 : World, w1 = w.alloc (.cells #[.int .i64 n.tag, .slice ao n.attrs.length ac, .string n.text, .slice ka n.kids.length kc] 26) := ⟨_, rfl⟩
  have hsz : w1.heap.size = w.heap.size + 1 := by rw [hw1]; simp
  rw [← hw1] at x1 bb ⊢
  clear hw1
  have x2 := x1.alloc (.cells #[.int .i64 d, .bool box, .bool line, .bool li] 78)
  have b2 := ((Ext.refl w1).alloc (.cells #[.int .i64 d, .bool box, .bool line, .bool li] 78)).block bb
  have a2 := heap_alloc_new w1 (.cells #[.int .i64 d, .bool box, .bool line, .bool li] 78)
  rw [hsz] at a2
  obtain ⟨w2, hw2⟩ : ∃ w2 : World, w2 = w1.alloc (.cells #[.int .i64 d, .bool box, .bool line, .bool li] 78) := ⟨_, rfl⟩
  have hs2 : w.heap.size + 2 = w2.heap.size := by rw [hw2]; simp [hsz]
  have HS2 := qh hs2
  rw [← hw2] at x2 b2 a2 ⊢
  clear hw2 hsz x1 bb hs2
  have o2 := HO.out.ext x2
  have oc := o2.cell
  have of := o2.free
  have hwr : IntKind.i64.wrap ((c : Int) + 1) = ((c + 1 : Nat) : Int) := by rw [IntWalk.i64_left, IntWalk.wrap64_in _ (by omega)]; omega
  have B2 := qh b2
  have A2 := qh a2
  have X2 := qh x2
  have O2 := qh o2
  clear b2 a2 x2 o2
  go_upto_region 2 with fail
  obtain ⟨w3, hw3⟩ : ∃ w3 : World, w3 = w2.setCell ⟨b, 0, none⟩ (.int .i64 ((c : Int) + 1)) := ⟨_, rfl⟩
  have o3 : One w3 b (.int .i64 ((c : Int) + 1)) 75 := by rw [hw3]; exact O2.out.set _
  have nb3 : w3.heap[w.heap.size]? = some (.cells #[.int .i64 n.tag, .slice ao n.attrs.length ac, .string n.text, .slice ka n.kids.length kc] 26 (0, 0)) := by rw [hw3]; exact (heap_setCell_other (p := ⟨b, 0, none⟩) _ (by show w.heap.size ≠ b; omega)).trans B2.out
  have ab3 : w3.heap[w.heap.size + 1]? = some (.cells #[.int .i64 d, .bool box, .bool line, .bool li] 78 (0, 0)) := by rw [hw3]; exact (heap_setCell_other (p := ⟨b, 0, none⟩) _ (by show w.heap.size + 1 ≠ b; omega)).trans A2.out
  have x3 : ExtB b w w3 := by rw [hw3]; exact (X2.out.toB b).setCell (p := ⟨b, 0, none⟩) (.inl rfl) _
  have hs3 : w3.heap.size = w.heap.size + 2 := by rw [hw3]; simp [World.setCell]; exact HS2.out.symm
  rw [← hw3]
  clear hw3 oc of hwr
  have oc := o3.cell
  have n0 := cellOf nb3 (i := 0) (v := .int .i64 n.tag) rfl
  have v0 := cellOf ab3 (i := 0) (v := .int .i64 d) rfl
  have O3 := qh (show One w3 b (.int .i64 ((c + 1 : Nat) : Int)) 75 from by rw [show ((c + 1 : Nat) : Int) = (c : Int) + 1 by omega]; exact o3)
  have X3 := qh x3
  have NB3 := qh nb3
  have AB3 := qh ab3
  have HS3 := qh hs3
  clear o3 x3 nb3 ab3 hs3
  by_cases hc1 : c + 1 ≤ 2000
  case neg =>
    have hc2 : (2000 : Int) < (c : Int) + 1 := by omega
    have hz : (n.norm d box line li && decide (c + n.size ≤ 2000)) = false := by
      have := n.size_pos
      rw [decide_eq_false (by omega)]; simp
    have HZ := qh hz
    clear hc1 hz
    go_wp2_with fail
    go_ret
    exact FIN.out _ _ _ HZ.out X3.out O3.out (fun h => by cases h)
  have hc2 : ¬ (2000 : Int) < (c : Int) + 1 := by omega
  have HC1 := qh hc1
  clear hc1
  by_cases hd3 : 40 < d
  · have hz : (n.norm d box line li && decide (c + n.size ≤ 2000)) = false := by
      rw [PN.norm_eq, decide_eq_false (by omega)]; simp
    have HZ := qh hz
    clear hz
    go_wp2_with fail
    go_ret
    exact FIN.out _ _ _ HZ.out X3.out O3.out (fun h => by cases h)
  have hd4 : d ≤ 40 := by omega
  have HD4 := qh (show decide (d ≤ 40) = true from decide_eq_true hd4)
  have hcl := Class_any w3 n.tag
  rw [hcls] at hcl
  have HCLS := qh hcl
  have HCL := qh hcls
  clear hcl hcls
  have hdw : IntKind.i64.wrap (d + 1) = d + 1 := by rw [IntWalk.i64_left, IntWalk.wrap64_in _ (by omega)]
  go_upto_region 6 with (refine HCLS.out.mono ?_; rintro e w4 ⟨rfl, x4⟩; clear v0; have ab4 := x4.block AB3.out; have v0 := cellOf ab4 (i := 0) (v := .int .i64 d) rfl; have v1 := cellOf ab4 (i := 1) (v := .bool box) rfl; have v2 := cellOf ab4 (i := 2) (v := .bool line) rfl; have v3 := cellOf ab4 (i := 3) (v := .bool li) rfl; have O4 := qh (O3.out.ext x4); have X4 := qh (X3.out.trans (x4.toB b)); have NB4 := qh (x4.block NB3.out); have AB4 := qh ab4; have HS4 := qh (Nat.le_trans (Nat.le_of_eq HS3.out.symm) x4.size); clear x4 ab4 n0)
  clear v0 v1 v2 v3
  obtain ⟨bi, hbi⟩ : ∃ bi, w4.heap.size = bi := ⟨_, rfl⟩
  obtain ⟨wI, hwI⟩ : ∃ wI : World, wI = w4.alloc (.cells #[.int .i64 (d + 1), .bool false, .bool line, .bool li] 78) := ⟨_, rfl⟩
  have xI : Ext w4 wI := by rw [hwI]; exact (Ext.refl w4).alloc _
  have ib0 : wI.heap[bi]? = some (.cells #[.int .i64 (d + 1), .bool false, .bool line, .bool li] 78 (0, 0)) := by rw [← hbi, hwI]; exact heap_alloc_new w4 _
  rw [← hwI, hbi]
  clear hwI
  have HBI := qh (show w.heap.size ≠ bi ∧ b ≠ bi ∧ w.heap.size ≤ bi by have := HS4.out; omega)
  have NBI := qh (xI.block NB4.out)
  have ABI := qh (xI.block AB4.out)
  have ONI := qh (O4.out.ext xI)
  have XI := qh (X4.out.trans (xI.toB b))
  have IB0 := qh ib0
  have n0 := cellOf NBI.out (i := 0) (v := .int .i64 n.tag) rfl
  have n1 := cellOf NBI.out (i := 1) (v := .slice ao n.attrs.length ac) rfl
  have n2 := cellOf NBI.out (i := 2) (v := .string n.text) rfl
  have n3 := cellOf NBI.out (i := 3) (v := .slice ka n.kids.length kc) rfl
  have v0 := cellOf ABI.out (i := 0) (v := .int .i64 d) rfl
  have v1 := cellOf ABI.out (i := 1) (v := .bool box) rfl
  have v2 := cellOf ABI.out (i := 2) (v := .bool line) rfl
  have v3 := cellOf ABI.out (i := 3) (v := .bool li) rfl
  clear xI ib0 hbi hdw HCLS
  have HZ := qh (show (n.norm d box line li && decide (c + n.size ≤ 2000)) = false from by rw [PN.norm_eq, HCL.out]; simp)
  go_wp2_with fail
  go_ret
  exact FIN.out _ _ _ HZ.out XI.out ONI.out (fun h => by cases h)
theorem lnode_1 {w0 : World} {n : PN} (hcls : clsT n.tag = 1) (hT : Tabs w0) (hkids : KOk w0 n) (htx : n.text.size ≤ 100000) (hal : n.attrs.length ≤ 100000000000000) : NOk w0 n := by
  intro b c d box line li w v hr hx hb ho hc hd hd2
  obtain ⟨av, kv, rfl, ha, hk⟩ := hr.open
  obtain ⟨ao, ac, rfl, _⟩ := ha.len_of
  obtain ⟨ka, kc, rfl, hk1, hk2, hk3, hk4⟩ := hk
  clear hk1 hk2 hk3 hk4
  have hbl := ho.lt
  have hws := hx.size
  have x1 := ((Ext.refl w).alloc (.cells #[.int .i64 n.tag, .slice ao n.attrs.length ac, .string n.text, .slice ka n.kids.length kc] 26))
  have bb := heap_alloc_new w (.cells #[.int .i64 n.tag, .slice ao n.attrs.length ac, .string n.text, .slice ka n.kids.length kc] 26)
  have fin : ∀ (q : Bool) (u : World) (c' : Nat), (n.norm d box line li && decide (c + n.size ≤ 2000)) = q → ExtB b w u → One u b (.int .i64 c') 75 → (q = true → c' = c + n.size) → Looked b c n.size (n.norm d box line li) w (.returned (.bool q)) u := by
    intro q u c' h1 h2 h3 h4
    exact ⟨c', by rw [h1], h2, h3, by rw [h1]; exact h4⟩
  have FIN := qh fin
  have HT := qh hT
  have HR := qh hr
  have HA0 := qh ha
  have HAL := qh hal
  have HTXT := qh htx
  have HX := qh hx
  have HNBB := qh hb
  have HKIDS := qh hkids
  have HSZ := qh n.size_eq
  have HO := qh ho
  clear fin hT hr ha hal htx hx hb hkids ho
  go_enter Tryz.func74, Tryz.ntmps74
  go_upto_region 1 with fail
  obtain ⟨w1, hw1⟩ : ∃ w1 : World, w1 = w.alloc (.cells #[.int .i64 n.tag, .slice ao n.attrs.length ac, .string n.text, .slice ka n.kids.length kc] 26) := ⟨_, rfl⟩
  have hsz : w1.heap.size = w.heap.size + 1 := by rw [hw1]; simp
  rw [← hw1] at x1 bb ⊢
  clear hw1
  have x2 := x1.alloc (.cells #[.int .i64 d, .bool box, .bool line, .bool li] 78)
  have b2 := ((Ext.refl w1).alloc (.cells #[.int .i64 d, .bool box, .bool line, .bool li] 78)).block bb
  have a2 := heap_alloc_new w1 (.cells #[.int .i64 d, .bool box, .bool line, .bool li] 78)
  rw [hsz] at a2
  obtain ⟨w2, hw2⟩ : ∃ w2 : World, w2 = w1.alloc (.cells #[.int .i64 d, .bool box, .bool line, .bool li] 78) := ⟨_, rfl⟩
  have hs2 : w.heap.size + 2 = w2.heap.size := by rw [hw2]; simp [hsz]
  have HS2 := qh hs2
  rw [← hw2] at x2 b2 a2 ⊢
  clear hw2 hsz x1 bb hs2
  have o2 := HO.out.ext x2
  have oc := o2.cell
  have of := o2.free
  have hwr : IntKind.i64.wrap ((c : Int) + 1) = ((c + 1 : Nat) : Int) := by rw [IntWalk.i64_left, IntWalk.wrap64_in _ (by omega)]; omega
  have B2 := qh b2
  have A2 := qh a2
  have X2 := qh x2
  have O2 := qh o2
  clear b2 a2 x2 o2
  go_upto_region 2 with fail
  obtain ⟨w3, hw3⟩ : ∃ w3 : World, w3 = w2.setCell ⟨b, 0, none⟩ (.int .i64 ((c : Int) + 1)) := ⟨_, rfl⟩
  have o3 : One w3 b (.int .i64 ((c : Int) + 1)) 75 := by rw [hw3]; exact O2.out.set _
  have nb3 : w3.heap[w.heap.size]? = some (.cells #[.int .i64 n.tag, .slice ao n.attrs.length ac, .string n.text, .slice ka n.kids.length kc] 26 (0, 0)) := by rw [hw3]; exact (heap_setCell_other (p := ⟨b, 0, none⟩) _ (by show w.heap.size ≠ b; omega)).trans B2.out
  have ab3 : w3.heap[w.heap.size + 1]? = some (.cells #[.int .i64 d, .bool box, .bool line, .bool li] 78 (0, 0)) := by rw [hw3]; exact (heap_setCell_other (p := ⟨b, 0, none⟩) _ (by show w.heap.size + 1 ≠ b; omega)).trans A2.out
  have x3 : ExtB b w w3 := by rw [hw3]; exact (X2.out.toB b).setCell (p := ⟨b, 0, none⟩) (.inl rfl) _
  have hs3 : w3.heap.size = w.heap.size + 2 := by rw [hw3]; simp [World.setCell]; exact HS2.out.symm
  rw [← hw3]
  clear hw3 oc of hwr
  have oc := o3.cell
  have n0 := cellOf nb3 (i := 0) (v := .int .i64 n.tag) rfl
  have v0 := cellOf ab3 (i := 0) (v := .int .i64 d) rfl
  have O3 := qh (show One w3 b (.int .i64 ((c + 1 : Nat) : Int)) 75 from by rw [show ((c + 1 : Nat) : Int) = (c : Int) + 1 by omega]; exact o3)
  have X3 := qh x3
  have NB3 := qh nb3
  have AB3 := qh ab3
  have HS3 := qh hs3
  clear o3 x3 nb3 ab3 hs3
  by_cases hc1 : c + 1 ≤ 2000
  case neg =>
    have hc2 : (2000 : Int) < (c : Int) + 1 := by omega
    have hz : (n.norm d box line li && decide (c + n.size ≤ 2000)) = false := by
      have := n.size_pos
      rw [decide_eq_false (by omega)]; simp
    have HZ := qh hz
    clear hc1 hz
    go_wp2_with fail
    go_ret
    exact FIN.out _ _ _ HZ.out X3.out O3.out (fun h => by cases h)
  have hc2 : ¬ (2000 : Int) < (c : Int) + 1 := by omega
  have HC1 := qh hc1
  clear hc1
  by_cases hd3 : 40 < d
  · have hz : (n.norm d box line li && decide (c + n.size ≤ 2000)) = false := by
      rw [PN.norm_eq, decide_eq_false (by omega)]; simp
    have HZ := qh hz
    clear hz
    go_wp2_with fail
    go_ret
    exact FIN.out _ _ _ HZ.out X3.out O3.out (fun h => by cases h)
  have hd4 : d ≤ 40 := by omega
  have HD4 := qh (show decide (d ≤ 40) = true from decide_eq_true hd4)
  have hcl := Class_any w3 n.tag
  rw [hcls] at hcl
  have HCLS := qh hcl
  have HCL := qh hcls
  clear hcl hcls
  have hdw : IntKind.i64.wrap (d + 1) = d + 1 := by rw [IntWalk.i64_left, IntWalk.wrap64_in _ (by omega)]
  go_upto_region 6 with (refine HCLS.out.mono ?_; rintro e w4 ⟨rfl, x4⟩; clear v0; have ab4 := x4.block AB3.out; have v0 := cellOf ab4 (i := 0) (v := .int .i64 d) rfl; have v1 := cellOf ab4 (i := 1) (v := .bool box) rfl; have v2 := cellOf ab4 (i := 2) (v := .bool line) rfl; have v3 := cellOf ab4 (i := 3) (v := .bool li) rfl; have O4 := qh (O3.out.ext x4); have X4 := qh (X3.out.trans (x4.toB b)); have NB4 := qh (x4.block NB3.out); have AB4 := qh ab4; have HS4 := qh (Nat.le_trans (Nat.le_of_eq HS3.out.symm) x4.size); clear x4 ab4 n0)
  clear v0 v1 v2 v3
  obtain ⟨bi, hbi⟩ : ∃ bi, w4.heap.size = bi := ⟨_, rfl⟩
  obtain ⟨wI, hwI⟩ : ∃ wI : World, wI = w4.alloc (.cells #[.int .i64 (d + 1), .bool false, .bool line, .bool li] 78) := ⟨_, rfl⟩
  have xI : Ext w4 wI := by rw [hwI]; exact (Ext.refl w4).alloc _
  have ib0 : wI.heap[bi]? = some (.cells #[.int .i64 (d + 1), .bool false, .bool line, .bool li] 78 (0, 0)) := by rw [← hbi, hwI]; exact heap_alloc_new w4 _
  rw [← hwI, hbi]
  clear hwI
  have HBI := qh (show w.heap.size ≠ bi ∧ b ≠ bi ∧ w.heap.size ≤ bi by have := HS4.out; omega)
  have NBI := qh (xI.block NB4.out)
  have ABI := qh (xI.block AB4.out)
  have ONI := qh (O4.out.ext xI)
  have XI := qh (X4.out.trans (xI.toB b))
  have IB0 := qh ib0
  have n0 := cellOf NBI.out (i := 0) (v := .int .i64 n.tag) rfl
  have n1 := cellOf NBI.out (i := 1) (v := .slice ao n.attrs.length ac) rfl
  have n2 := cellOf NBI.out (i := 2) (v := .string n.text) rfl
  have n3 := cellOf NBI.out (i := 3) (v := .slice ka n.kids.length kc) rfl
  have v0 := cellOf ABI.out (i := 0) (v := .int .i64 d) rfl
  have v1 := cellOf ABI.out (i := 1) (v := .bool box) rfl
  have v2 := cellOf ABI.out (i := 2) (v := .bool line) rfl
  have v3 := cellOf ABI.out (i := 3) (v := .bool li) rfl
  clear xI ib0 hbi hdw HCLS
  have hq : (n.norm d box line li && decide (c + n.size ≤ 2000)) = textOk box n := by
    rw [PN.norm_eq, HCL.out, HD4.out]
    show (true && textOk box n && decide (c + n.size ≤ 2000)) = textOk box n
    cases ht : textOk box n
    · rfl
    · have hk0 : n.kids = [] := textOk_kids ht
      have h1 := HSZ.out
      have h2 := HC1.out
      rw [hk0] at h1
      simp only [PN.sizes] at h1
      rw [decide_eq_true (by omega)]; rfl
  have hq2 : textOk box n = true → c + 1 = c + n.size := by
    intro ht
    have hk0 : n.kids = [] := textOk_kids ht
    have h1 := HSZ.out
    rw [hk0] at h1
    simp only [PN.sizes] at h1
    omega
  have HQ := qh hq
  have HQ2 := qh hq2
  have HTX := qh (textP_any n _ (.pointer (some ⟨b, 0, none⟩)) d box line li wI (HR.out.cells (XI.out.ext HX.out HNBB.out).cells) HTXT.out)
  clear hq hq2
  go_wp2_with (go_at_call 118; refine HTX.out.mono ?_)
  rintro e w6 ⟨rfl, x6⟩
  have X6 := qh (XI.out.trans (x6.toB b))
  have O6 := qh (ONI.out.ext x6)
  clear x6 n0 n1 n2 n3 v0 v1 v2 v3
  generalize textOk box n = q at *
  go_wp2_with fail
  go_ret
  exact FIN.out q _ (c + 1) HQ.out X6.out O6.out HQ2.out
theorem lnode_5 {w0 : World} {n : PN} (hcls : clsT n.tag = 5) (hT : Tabs w0) (hkids : KOk w0 n) (htx : n.text.size ≤ 100000) (hal : n.attrs.length ≤ 100000000000000) : NOk w0 n := by
  intro b c d box line li w v hr hx hb ho hc hd hd2
  obtain ⟨av, kv, rfl, ha, hk⟩ := hr.open
  obtain ⟨ao, ac, rfl, _⟩ := ha.len_of
  obtain ⟨ka, kc, rfl, hk1, hk2, hk3, hk4⟩ := hk
  clear hk1 hk2 hk3 hk4
  have hbl := ho.lt
  have hws := hx.size
  have x1 := ((Ext.refl w).alloc (.cells #[.int .i64 n.tag, .slice ao n.attrs.length ac, .string n.text, .slice ka n.kids.length kc] 26))
  have bb := heap_alloc_new w (.cells #[.int .i64 n.tag, .slice ao n.attrs.length ac, .string n.text, .slice ka n.kids.length kc] 26)
  have fin : ∀ (q : Bool) (u : World) (c' : Nat), (n.norm d box line li && decide (c + n.size ≤ 2000)) = q → ExtB b w u → One u b (.int .i64 c') 75 → (q = true → c' = c + n.size) → Looked b c n.size (n.norm d box line li) w (.returned (.bool q)) u := by
    intro q u c' h1 h2 h3 h4
    exact ⟨c', by rw [h1], h2, h3, by rw [h1]; exact h4⟩
  have FIN := qh fin
  have HT := qh hT
  have HR := qh hr
  have HA0 := qh ha
  have HAL := qh hal
  have HTXT := qh htx
  have HX := qh hx
  have HNBB := qh hb
  have HKIDS := qh hkids
  have HSZ := qh n.size_eq
  have HO := qh ho
  clear fin hT hr ha hal htx hx hb hkids ho
  go_enter Tryz.func74, Tryz.ntmps74
  go_upto_region 1 with fail
  obtain ⟨w1, hw1⟩ : ∃ w1 : World, w1 = w.alloc (.cells #[.int .i64 n.tag, .slice ao n.attrs.length ac, .string n.text, .slice ka n.kids.length kc] 26) := ⟨_, rfl⟩
  have hsz : w1.heap.size = w.heap.size + 1 := by rw [hw1]; simp
  rw [← hw1] at x1 bb ⊢
  clear hw1
  have x2 := x1.alloc (.cells #[.int .i64 d, .bool box, .bool line, .bool li] 78)
  have b2 := ((Ext.refl w1).alloc (.cells #[.int .i64 d, .bool box, .bool line, .bool li] 78)).block bb
  have a2 := heap_alloc_new w1 (.cells #[.int .i64 d, .bool box, .bool line, .bool li] 78)
  rw [hsz] at a2
  obtain ⟨w2, hw2⟩ : ∃ w2 : World, w2 = w1.alloc (.cells #[.int .i64 d, .bool box, .bool line, .bool li] 78) := ⟨_, rfl⟩
  have hs2 : w.heap.size + 2 = w2.heap.size := by rw [hw2]; simp [hsz]
  have HS2 := qh hs2
  rw [← hw2] at x2 b2 a2 ⊢
  clear hw2 hsz x1 bb hs2
  have o2 := HO.out.ext x2
  have oc := o2.cell
  have of := o2.free
  have hwr : IntKind.i64.wrap ((c : Int) + 1) = ((c + 1 : Nat) : Int) := by rw [IntWalk.i64_left, IntWalk.wrap64_in _ (by omega)]; omega
  have B2 := qh b2
  have A2 := qh a2
  have X2 := qh x2
  have O2 := qh o2
  clear b2 a2 x2 o2
  go_upto_region 2 with fail
  obtain ⟨w3, hw3⟩ : ∃ w3 : World, w3 = w2.setCell ⟨b, 0, none⟩ (.int .i64 ((c : Int) + 1)) := ⟨_, rfl⟩
  have o3 : One w3 b (.int .i64 ((c : Int) + 1)) 75 := by rw [hw3]; exact O2.out.set _
  have nb3 : w3.heap[w.heap.size]? = some (.cells #[.int .i64 n.tag, .slice ao n.attrs.length ac, .string n.text, .slice ka n.kids.length kc] 26 (0, 0)) := by rw [hw3]; exact (heap_setCell_other (p := ⟨b, 0, none⟩) _ (by show w.heap.size ≠ b; omega)).trans B2.out
  have ab3 : w3.heap[w.heap.size + 1]? = some (.cells #[.int .i64 d, .bool box, .bool line, .bool li] 78 (0, 0)) := by rw [hw3]; exact (heap_setCell_other (p := ⟨b, 0, none⟩) _ (by show w.heap.size + 1 ≠ b; omega)).trans A2.out
  have x3 : ExtB b w w3 := by rw [hw3]; exact (X2.out.toB b).setCell (p := ⟨b, 0, none⟩) (.inl rfl) _
  have hs3 : w3.heap.size = w.heap.size + 2 := by rw [hw3]; simp [World.setCell]; exact HS2.out.symm
  rw [← hw3]
  clear hw3 oc of hwr
  have oc := o3.cell
  have n0 := cellOf nb3 (i := 0) (v := .int .i64 n.tag) rfl
  have v0 := cellOf ab3 (i := 0) (v := .int .i64 d) rfl
  have O3 := qh (show One w3 b (.int .i64 ((c + 1 : Nat) : Int)) 75 from by rw [show ((c + 1 : Nat) : Int) = (c : Int) + 1 by omega]; exact o3)
  have X3 := qh x3
  have NB3 := qh nb3
  have AB3 := qh ab3
  have HS3 := qh hs3
  clear o3 x3 nb3 ab3 hs3
  by_cases hc1 : c + 1 ≤ 2000
  case neg =>
    have hc2 : (2000 : Int) < (c : Int) + 1 := by omega
    have hz : (n.norm d box line li && decide (c + n.size ≤ 2000)) = false := by
      have := n.size_pos
      rw [decide_eq_false (by omega)]; simp
    have HZ := qh hz
    clear hc1 hz
    go_wp2_with fail
    go_ret
    exact FIN.out _ _ _ HZ.out X3.out O3.out (fun h => by cases h)
  have hc2 : ¬ (2000 : Int) < (c : Int) + 1 := by omega
  have HC1 := qh hc1
  clear hc1
  by_cases hd3 : 40 < d
  · have hz : (n.norm d box line li && decide (c + n.size ≤ 2000)) = false := by
      rw [PN.norm_eq, decide_eq_false (by omega)]; simp
    have HZ := qh hz
    clear hz
    go_wp2_with fail
    go_ret
    exact FIN.out _ _ _ HZ.out X3.out O3.out (fun h => by cases h)
  have hd4 : d ≤ 40 := by omega
  have HD4 := qh (show decide (d ≤ 40) = true from decide_eq_true hd4)
  have hcl := Class_any w3 n.tag
  rw [hcls] at hcl
  have HCLS := qh hcl
  have HCL := qh hcls
  clear hcl hcls
  have hdw : IntKind.i64.wrap (d + 1) = d + 1 := by rw [IntWalk.i64_left, IntWalk.wrap64_in _ (by omega)]
  go_upto_region 6 with (refine HCLS.out.mono ?_; rintro e w4 ⟨rfl, x4⟩; clear v0; have ab4 := x4.block AB3.out; have v0 := cellOf ab4 (i := 0) (v := .int .i64 d) rfl; have v1 := cellOf ab4 (i := 1) (v := .bool box) rfl; have v2 := cellOf ab4 (i := 2) (v := .bool line) rfl; have v3 := cellOf ab4 (i := 3) (v := .bool li) rfl; have O4 := qh (O3.out.ext x4); have X4 := qh (X3.out.trans (x4.toB b)); have NB4 := qh (x4.block NB3.out); have AB4 := qh ab4; have HS4 := qh (Nat.le_trans (Nat.le_of_eq HS3.out.symm) x4.size); clear x4 ab4 n0)
  clear v0 v1 v2 v3
  obtain ⟨bi, hbi⟩ : ∃ bi, w4.heap.size = bi := ⟨_, rfl⟩
  obtain ⟨wI, hwI⟩ : ∃ wI : World, wI = w4.alloc (.cells #[.int .i64 (d + 1), .bool false, .bool line, .bool li] 78) := ⟨_, rfl⟩
  have xI : Ext w4 wI := by rw [hwI]; exact (Ext.refl w4).alloc _
  have ib0 : wI.heap[bi]? = some (.cells #[.int .i64 (d + 1), .bool false, .bool line, .bool li] 78 (0, 0)) := by rw [← hbi, hwI]; exact heap_alloc_new w4 _
  rw [← hwI, hbi]
  clear hwI
  have HBI := qh (show w.heap.size ≠ bi ∧ b ≠ bi ∧ w.heap.size ≤ bi by have := HS4.out; omega)
  have NBI := qh (xI.block NB4.out)
  have ABI := qh (xI.block AB4.out)
  have ONI := qh (O4.out.ext xI)
  have XI := qh (X4.out.trans (xI.toB b))
  have IB0 := qh ib0
  have n0 := cellOf NBI.out (i := 0) (v := .int .i64 n.tag) rfl
  have n1 := cellOf NBI.out (i := 1) (v := .slice ao n.attrs.length ac) rfl
  have n2 := cellOf NBI.out (i := 2) (v := .string n.text) rfl
  have n3 := cellOf NBI.out (i := 3) (v := .slice ka n.kids.length kc) rfl
  have v0 := cellOf ABI.out (i := 0) (v := .int .i64 d) rfl
  have v1 := cellOf ABI.out (i := 1) (v := .bool box) rfl
  have v2 := cellOf ABI.out (i := 2) (v := .bool line) rfl
  have v3 := cellOf ABI.out (i := 3) (v := .bool li) rfl
  clear xI ib0 hbi hdw HCLS
  by_cases ht : n.text.size = 0
  · have e3 : (n.text.toList == ([] : List UInt8)) = true := text_none ht
    have HTX := qh ht
    have hx0 : Ext w0 wI := XI.out.ext HX.out HNBB.out
    have HA := qh (AMay_any n.attrs _ wI (HA0.out.cells hx0.cells) HAL.out (HT.out.ext hx0))
    clear ht hx0
    have hm : attrsMay n.attrs = true ∨ attrsMay n.attrs = false := by cases attrsMay n.attrs; exact .inr rfl; exact .inl rfl
    rcases hm with hm | hm
    · rw [hm] at HA
      by_cases hk0 : n.kids.length = 0
      · have e4 : ((n.kids.length : Int) == 0) = true := by simpa using hk0
        have hkn : n.kids = [] := List.eq_nil_of_length_eq_zero hk0
        have hsz1 : c + 1 = c + n.size := by rw [HSZ.out, hkn]; simp [PN.sizes]
        have hz : (n.norm d box line li && decide (c + n.size ≤ 2000)) = true := by
          have := HC1.out
          rw [PN.norm_eq, HCL.out, HD4.out, decide_eq_true (by omega), hkn, hm, HTX.out]; rfl
        have HZ := qh hz
        have HS1 := qh hsz1
        clear hz hm hk0 hkn hsz1
        go_wp2_with (go_at_call 119; refine HA.out.mono ?_)
        rintro e w6 ⟨rfl, x6⟩
        have n3 := x6.cell n3
        have X6 := qh (XI.out.trans (x6.toB b))
        have O6 := qh (ONI.out.ext x6)
        clear x6 n0 n1 n2
        go_wp2_with fail
        go_ret
        exact FIN.out _ _ _ HZ.out X6.out O6.out (fun _ => HS1.out)
      · have e4 : ((n.kids.length : Int) == 0) = false := by simpa using hk0
        have hz : (n.norm d box line li && decide (c + n.size ≤ 2000)) = false := by rw [PN.norm_eq, HCL.out, isEmpty_no hk0]; simp
        have HZ := qh hz
        clear hz hm hk0
        go_wp2_with (go_at_call 119; refine HA.out.mono ?_)
        rintro e w6 ⟨rfl, x6⟩
        have n3 := x6.cell n3
        have X6 := qh (XI.out.trans (x6.toB b))
        have O6 := qh (ONI.out.ext x6)
        clear x6 n0 n1 n2
        go_wp2_with fail
        go_ret
        exact FIN.out _ _ _ HZ.out X6.out O6.out (fun h => by cases h)
    · rw [hm] at HA
      have hz : (n.norm d box line li && decide (c + n.size ≤ 2000)) = false := by rw [PN.norm_eq, HCL.out, hm]; simp
      have HZ := qh hz
      clear hz hm
      go_wp2_with (go_at_call 119; refine HA.out.mono ?_)
      rintro e w6 ⟨rfl, x6⟩
      have X6 := qh (XI.out.trans (x6.toB b))
      have O6 := qh (ONI.out.ext x6)
      clear x6 n0 n1 n2 n3
      go_wp2_with fail
      go_ret
      exact FIN.out _ _ _ HZ.out X6.out O6.out (fun h => by cases h)
  · have e3 : (n.text.toList == ([] : List UInt8)) = false := text_some ht
    have hz : (n.norm d box line li && decide (c + n.size ≤ 2000)) = false := by rw [PN.norm_eq, HCL.out]; simp [ht]
    have HZ := qh hz
    clear hz ht
    go_wp2_with fail
    go_ret
    exact FIN.out _ _ _ HZ.out XI.out ONI.out (fun h => by cases h)
theorem lnode_4 {w0 : World} {n : PN} (hcls : clsT n.tag = 4) (hT : Tabs w0) (hkids : KOk w0 n) (htx : n.text.size ≤ 100000) (hal : n.attrs.length ≤ 100000000000000) : NOk w0 n := by
  intro b c d box line li w v hr hx hb ho hc hd hd2
  obtain ⟨av, kv, rfl, ha, hk⟩ := hr.open
  obtain ⟨ao, ac, rfl, _⟩ := ha.len_of
  obtain ⟨ka, kc, rfl, hk1, hk2, hk3, hk4⟩ := hk
  clear hk1 hk2 hk3 hk4
  have hbl := ho.lt
  have hws := hx.size
  have x1 := ((Ext.refl w).alloc (.cells #[.int .i64 n.tag, .slice ao n.attrs.length ac, .string n.text, .slice ka n.kids.length kc] 26))
  have bb := heap_alloc_new w (.cells #[.int .i64 n.tag, .slice ao n.attrs.length ac, .string n.text, .slice ka n.kids.length kc] 26)
  have fin : ∀ (q : Bool) (u : World) (c' : Nat), (n.norm d box line li && decide (c + n.size ≤ 2000)) = q → ExtB b w u → One u b (.int .i64 c') 75 → (q = true → c' = c + n.size) → Looked b c n.size (n.norm d box line li) w (.returned (.bool q)) u := by
    intro q u c' h1 h2 h3 h4
    exact ⟨c', by rw [h1], h2, h3, by rw [h1]; exact h4⟩
  have FIN := qh fin
  have HT := qh hT
  have HR := qh hr
  have HA0 := qh ha
  have HAL := qh hal
  have HTXT := qh htx
  have HX := qh hx
  have HNBB := qh hb
  have HKIDS := qh hkids
  have HSZ := qh n.size_eq
  have HO := qh ho
  clear fin hT hr ha hal htx hx hb hkids ho
  go_enter Tryz.func74, Tryz.ntmps74
  go_upto_region 1 with fail
  obtain ⟨w1, hw1⟩ : ∃ w1 : World, w1 = w.alloc (.cells #[.int .i64 n.tag, .slice ao n.attrs.length ac, .string n.text, .slice ka n.kids.length kc] 26) := ⟨_, rfl⟩
  have hsz : w1.heap.size = w.heap.size + 1 := by rw [hw1]; simp
  rw [← hw1] at x1 bb ⊢
  clear hw1
  have x2 := x1.alloc (.cells #[.int .i64 d, .bool box, .bool line, .bool li] 78)
  have b2 := ((Ext.refl w1).alloc (.cells #[.int .i64 d, .bool box, .bool line, .bool li] 78)).block bb
  have a2 := heap_alloc_new w1 (.cells #[.int .i64 d, .bool box, .bool line, .bool li] 78)
  rw [hsz] at a2
  obtain ⟨w2, hw2⟩ : ∃ w2 : World, w2 = w1.alloc (.cells #[.int .i64 d, .bool box, .bool line, .bool li] 78) := ⟨_, rfl⟩
  have hs2 : w.heap.size + 2 = w2.heap.size := by rw [hw2]; simp [hsz]
  have HS2 := qh hs2
  rw [← hw2] at x2 b2 a2 ⊢
  clear hw2 hsz x1 bb hs2
  have o2 := HO.out.ext x2
  have oc := o2.cell
  have of := o2.free
  have hwr : IntKind.i64.wrap ((c : Int) + 1) = ((c + 1 : Nat) : Int) := by rw [IntWalk.i64_left, IntWalk.wrap64_in _ (by omega)]; omega
  have B2 := qh b2
  have A2 := qh a2
  have X2 := qh x2
  have O2 := qh o2
  clear b2 a2 x2 o2
  go_upto_region 2 with fail
  obtain ⟨w3, hw3⟩ : ∃ w3 : World, w3 = w2.setCell ⟨b, 0, none⟩ (.int .i64 ((c : Int) + 1)) := ⟨_, rfl⟩
  have o3 : One w3 b (.int .i64 ((c : Int) + 1)) 75 := by rw [hw3]; exact O2.out.set _
  have nb3 : w3.heap[w.heap.size]? = some (.cells #[.int .i64 n.tag, .slice ao n.attrs.length ac, .string n.text, .slice ka n.kids.length kc] 26 (0, 0)) := by rw [hw3]; exact (heap_setCell_other (p := ⟨b, 0, none⟩) _ (by show w.heap.size ≠ b; omega)).trans B2.out
  have ab3 : w3.heap[w.heap.size + 1]? = some (.cells #[.int .i64 d, .bool box, .bool line, .bool li] 78 (0, 0)) := by rw [hw3]; exact (heap_setCell_other (p := ⟨b, 0, none⟩) _ (by show w.heap.size + 1 ≠ b; omega)).trans A2.out
  have x3 : ExtB b w w3 := by rw [hw3]; exact (X2.out.toB b).setCell (p := ⟨b, 0, none⟩) (.inl rfl) _
  have hs3 : w3.heap.size = w.heap.size + 2 := by rw [hw3]; simp [World.setCell]; exact HS2.out.symm
  rw [← hw3]
  clear hw3 oc of hwr
  have oc := o3.cell
  have n0 := cellOf nb3 (i := 0) (v := .int .i64 n.tag) rfl
  have v0 := cellOf ab3 (i := 0) (v := .int .i64 d) rfl
  have O3 := qh (show One w3 b (.int .i64 ((c + 1 : Nat) : Int)) 75 from by rw [show ((c + 1 : Nat) : Int) = (c : Int) + 1 by omega]; exact o3)
  have X3 := qh x3
  have NB3 := qh nb3
  have AB3 := qh ab3
  have HS3 := qh hs3
  clear o3 x3 nb3 ab3 hs3
  by_cases hc1 : c + 1 ≤ 2000
  case neg =>
    have hc2 : (2000 : Int) < (c : Int) + 1 := by omega
    have hz : (n.norm d box line li && decide (c + n.size ≤ 2000)) = false := by
      have := n.size_pos
      rw [decide_eq_false (by omega)]; simp
    have HZ := qh hz
    clear hc1 hz
    go_wp2_with fail
    go_ret
    exact FIN.out _ _ _ HZ.out X3.out O3.out (fun h => by cases h)
  have hc2 : ¬ (2000 : Int) < (c : Int) + 1 := by omega
  have HC1 := qh hc1
  clear hc1
  by_cases hd3 : 40 < d
  · have hz : (n.norm d box line li && decide (c + n.size ≤ 2000)) = false := by
      rw [PN.norm_eq, decide_eq_false (by omega)]; simp
    have HZ := qh hz
    clear hz
    go_wp2_with fail
    go_ret
    exact FIN.out _ _ _ HZ.out X3.out O3.out (fun h => by cases h)
  have hd4 : d ≤ 40 := by omega
  have HD4 := qh (show decide (d ≤ 40) = true from decide_eq_true hd4)
  have hcl := Class_any w3 n.tag
  rw [hcls] at hcl
  have HCLS := qh hcl
  have HCL := qh hcls
  clear hcl hcls
  have hdw : IntKind.i64.wrap (d + 1) = d + 1 := by rw [IntWalk.i64_left, IntWalk.wrap64_in _ (by omega)]
  go_upto_region 6 with (refine HCLS.out.mono ?_; rintro e w4 ⟨rfl, x4⟩; clear v0; have ab4 := x4.block AB3.out; have v0 := cellOf ab4 (i := 0) (v := .int .i64 d) rfl; have v1 := cellOf ab4 (i := 1) (v := .bool box) rfl; have v2 := cellOf ab4 (i := 2) (v := .bool line) rfl; have v3 := cellOf ab4 (i := 3) (v := .bool li) rfl; have O4 := qh (O3.out.ext x4); have X4 := qh (X3.out.trans (x4.toB b)); have NB4 := qh (x4.block NB3.out); have AB4 := qh ab4; have HS4 := qh (Nat.le_trans (Nat.le_of_eq HS3.out.symm) x4.size); clear x4 ab4 n0)
  clear v0 v1 v2 v3
  obtain ⟨bi, hbi⟩ : ∃ bi, w4.heap.size = bi := ⟨_, rfl⟩
  obtain ⟨wI, hwI⟩ : ∃ wI : World, wI = w4.alloc (.cells #[.int .i64 (d + 1), .bool false, .bool line, .bool li] 78) := ⟨_, rfl⟩
  have xI : Ext w4 wI := by rw [hwI]; exact (Ext.refl w4).alloc _
  have ib0 : wI.heap[bi]? = some (.cells #[.int .i64 (d + 1), .bool false, .bool line, .bool li] 78 (0, 0)) := by rw [← hbi, hwI]; exact heap_alloc_new w4 _
  rw [← hwI, hbi]
  clear hwI
  have HBI := qh (show w.heap.size ≠ bi ∧ b ≠ bi ∧ w.heap.size ≤ bi by have := HS4.out; omega)
  have NBI := qh (xI.block NB4.out)
  have ABI := qh (xI.block AB4.out)
  have ONI := qh (O4.out.ext xI)
  have XI := qh (X4.out.trans (xI.toB b))
  have IB0 := qh ib0
  have n0 := cellOf NBI.out (i := 0) (v := .int .i64 n.tag) rfl
  have n1 := cellOf NBI.out (i := 1) (v := .slice ao n.attrs.length ac) rfl
  have n2 := cellOf NBI.out (i := 2) (v := .string n.text) rfl
  have n3 := cellOf NBI.out (i := 3) (v := .slice ka n.kids.length kc) rfl
  have v0 := cellOf ABI.out (i := 0) (v := .int .i64 d) rfl
  have v1 := cellOf ABI.out (i := 1) (v := .bool box) rfl
  have v2 := cellOf ABI.out (i := 2) (v := .bool line) rfl
  have v3 := cellOf ABI.out (i := 3) (v := .bool li) rfl
  clear xI ib0 hbi hdw HCLS
  have IB := qh (show wI.heap[bi]? = some (.cells #[.int .i64 (d + 1), .bool false, .bool line, .bool li] 78 (0, 0)) from IB0.out)
  have hnm : n.norm d box line li = (n.text.size == 0 && attrsMay n.attrs && PN.norms (d + 1) false line li false n.kids) := by
    rw [PN.norm_eq, HCL.out, HD4.out]; rfl
  have HNM := qh hnm
  clear hnm
  go_upto_region 19 with fail
  obtain ⟨wT, hwT⟩ : ∃ wT : World, wT = wI := ⟨_, rfl⟩
  have ib : wT.heap[bi]? = some (.cells #[.int .i64 (d + 1), .bool false, .bool line, .bool li] 78 (0, 0)) := by rw [hwT]; exact IB.out
  have nb : wT.heap[w.heap.size]? = some (.cells #[.int .i64 n.tag, .slice ao n.attrs.length ac, .string n.text, .slice ka n.kids.length kc] 26 (0, 0)) := by rw [hwT]; exact NBI.out
  have on : One wT b (.int .i64 ((c + 1 : Nat) : Int)) 75 := by rw [hwT]; exact ONI.out
  have xt : ExtB b w wT := by rw [hwT]; exact XI.out
  rw [← hwT]
  clear hwT 
  have n0 := cellOf nb (i := 0) (v := .int .i64 n.tag) rfl
  have n1 := cellOf nb (i := 1) (v := .slice ao n.attrs.length ac) rfl
  have n2 := cellOf nb (i := 2) (v := .string n.text) rfl
  have n3 := cellOf nb (i := 3) (v := .slice ka n.kids.length kc) rfl
  have XT := qh xt
  have ON := qh on
  have IB2 := qh ib
  have NB2 := qh nb
  clear xt on ib nb
  by_cases ht : n.text.size = 0
  · have e3 : (n.text.toList == ([] : List UInt8)) = true := text_none ht
    have HTX := qh ht
    have hx0 : Ext w0 wT := XT.out.ext HX.out HNBB.out
    have HA := qh (AMay_any n.attrs _ wT (HA0.out.cells hx0.cells) HAL.out (HT.out.ext hx0))
    clear ht hx0
    have hm : attrsMay n.attrs = true ∨ attrsMay n.attrs = false := by cases attrsMay n.attrs; exact .inr rfl; exact .inl rfl
    rcases hm with hm | hm
    · rw [hm] at HA
      go_wp2_with (go_at_call 119; refine HA.out.mono ?_)
      rintro e w6 ⟨rfl, x6⟩
      have n0 := x6.cell n0
      have n1 := x6.cell n1
      have n2 := x6.cell n2
      have n3 := x6.cell n3
      have ib6 := x6.block IB2.out
      have v0 := cellOf ib6 (i := 0) (v := .int .i64 (d + 1)) rfl
      have v1 := cellOf ib6 (i := 1) (v := .bool false) rfl
      have v2 := cellOf ib6 (i := 2) (v := .bool line) rfl
      have v3 := cellOf ib6 (i := 3) (v := .bool li) rfl
      have X6 := qh (XT.out.trans (x6.toB b))
      have HK := qh (HKIDS.out b (c + 1) (d + 1) false line li w6 _ HR.out (X6.out.ext HX.out HNBB.out) HNBB.out (ON.out.ext x6) HC1.out (by omega) (by omega))
      have fin6 : ∀ (q : Bool) (u : World) (c' : Nat), (PN.norms (d + 1) false line li false n.kids && decide (c + 1 + PN.sizes n.kids ≤ 2000)) = q → ExtB b w u → One u b (.int .i64 c') 75 → (q = true → c' = c + 1 + PN.sizes n.kids) → Looked b c n.size (n.norm d box line li) w (.returned (.bool q)) u := by
        intro q u c' h1 h2 h3 h4
        refine FIN.out q u c' ?_ h2 h3 (fun h => ?_)
        · rw [HNM.out, HTX.out, hm, HSZ.out, show c + (PN.sizes n.kids + 1) = c + 1 + PN.sizes n.kids by omega]; simpa using h1
        · rw [h4 h, HSZ.out]; omega
      have FIN6 := qh fin6
      clear fin6 hm x6 ib6
      have hq : (PN.norms (d + 1) false line li false n.kids && decide (c + 1 + PN.sizes n.kids ≤ 2000)) = true ∨ (PN.norms (d + 1) false line li false n.kids && decide (c + 1 + PN.sizes n.kids ≤ 2000)) = false := by cases (PN.norms (d + 1) false line li false n.kids && decide (c + 1 + PN.sizes n.kids ≤ 2000)); exact .inr rfl; exact .inl rfl
      obtain ⟨q, hq9⟩ : ∃ q, (PN.norms (d + 1) false line li false n.kids && decide (c + 1 + PN.sizes n.kids ≤ 2000)) = q := ⟨_, rfl⟩
      have HQ9 := qh hq9
      clear hq hq9
      go_wp2_with (go_at_call 35; refine HK.out.mono ?_)
      rintro e w7 ⟨c7, rfl, x7, o7, h7⟩
      have X7 := qh (X6.out.trans x7)
      have O7 := qh o7
      have H7 := qh h7
      rw [HQ9.out]
      clear x7 o7 h7 n0 n1 n2 n3 v0 v1 v2 v3
      go_wp2_with fail
      go_ret
      exact FIN6.out q _ c7 HQ9.out X7.out O7.out (fun h => H7.out (HQ9.out.trans h))
    · rw [hm] at HA
      have hz : (n.norm d box line li && decide (c + n.size ≤ 2000)) = false := by rw [HNM.out, hm]; simp
      have HZ := qh hz
      clear hz hm
      go_wp2_with (go_at_call 119; refine HA.out.mono ?_)
      rintro e w6 ⟨rfl, x6⟩
      have X6 := qh (XT.out.trans (x6.toB b))
      have O6 := qh (ON.out.ext x6)
      clear x6 n0 n1 n2 n3
      go_wp2_with fail
      go_ret
      exact FIN.out _ _ _ HZ.out X6.out O6.out (fun h => by cases h)
  · have e3 : (n.text.toList == ([] : List UInt8)) = false := text_some ht
    have hz : (n.norm d box line li && decide (c + n.size ≤ 2000)) = false := by rw [HNM.out]; simp [ht]
    have HZ := qh hz
    clear hz ht
    go_wp2_with fail
    go_ret
    exact FIN.out _ _ _ HZ.out XT.out ON.out (fun h => by cases h)
theorem lnode_3 {w0 : World} {n : PN} (hcls : clsT n.tag = 3) (hT : Tabs w0) (hkids : KOk w0 n) (htx : n.text.size ≤ 100000) (hal : n.attrs.length ≤ 100000000000000) : NOk w0 n := by
  intro b c d box line li w v hr hx hb ho hc hd hd2
  obtain ⟨av, kv, rfl, ha, hk⟩ := hr.open
  obtain ⟨ao, ac, rfl, _⟩ := ha.len_of
  obtain ⟨ka, kc, rfl, hk1, hk2, hk3, hk4⟩ := hk
  clear hk1 hk2 hk3 hk4
  have hbl := ho.lt
  have hws := hx.size
  have x1 := ((Ext.refl w).alloc (.cells #[.int .i64 n.tag, .slice ao n.attrs.length ac, .string n.text, .slice ka n.kids.length kc] 26))
  have bb := heap_alloc_new w (.cells #[.int .i64 n.tag, .slice ao n.attrs.length ac, .string n.text, .slice ka n.kids.length kc] 26)
  have fin : ∀ (q : Bool) (u : World) (c' : Nat), (n.norm d box line li && decide (c + n.size ≤ 2000)) = q → ExtB b w u → One u b (.int .i64 c') 75 → (q = true → c' = c + n.size) → Looked b c n.size (n.norm d box line li) w (.returned (.bool q)) u := by
    intro q u c' h1 h2 h3 h4
    exact ⟨c', by rw [h1], h2, h3, by rw [h1]; exact h4⟩
  have FIN := qh fin
  have HT := qh hT
  have HR := qh hr
  have HA0 := qh ha
  have HAL := qh hal
  have HTXT := qh htx
  have HX := qh hx
  have HNBB := qh hb
  have HKIDS := qh hkids
  have HSZ := qh n.size_eq
  have HO := qh ho
  clear fin hT hr ha hal htx hx hb hkids ho
  go_enter Tryz.func74, Tryz.ntmps74
  go_upto_region 1 with fail
  obtain ⟨w1, hw1⟩ : ∃ w1 : World, w1 = w.alloc (.cells #[.int .i64 n.tag, .slice ao n.attrs.length ac, .string n.text, .slice ka n.kids.length kc] 26) := ⟨_, rfl⟩
  have hsz : w1.heap.size = w.heap.size + 1 := by rw [hw1]; simp
  rw [← hw1] at x1 bb ⊢
  clear hw1
  have x2 := x1.alloc (.cells #[.int .i64 d, .bool box, .bool line, .bool li] 78)
  have b2 := ((Ext.refl w1).alloc (.cells #[.int .i64 d, .bool box, .bool line, .bool li] 78)).block bb
  have a2 := heap_alloc_new w1 (.cells #[.int .i64 d, .bool box, .bool line, .bool li] 78)
  rw [hsz] at a2
  obtain ⟨w2, hw2⟩ : ∃ w2 : World, w2 = w1.alloc (.cells #[.int .i64 d, .bool box, .bool line, .bool li] 78) := ⟨_, rfl⟩
  have hs2 : w.heap.size + 2 = w2.heap.size := by rw [hw2]; simp [hsz]
  have HS2 := qh hs2
  rw [← hw2] at x2 b2 a2 ⊢
  clear hw2 hsz x1 bb hs2
  have o2 := HO.out.ext x2
  have oc := o2.cell
  have of := o2.free
  have hwr : IntKind.i64.wrap ((c : Int) + 1) = ((c + 1 : Nat) : Int) := by rw [IntWalk.i64_left, IntWalk.wrap64_in _ (by omega)]; omega
  have B2 := qh b2
  have A2 := qh a2
  have X2 := qh x2
  have O2 := qh o2
  clear b2 a2 x2 o2
  go_upto_region 2 with fail
  obtain ⟨w3, hw3⟩ : ∃ w3 : World, w3 = w2.setCell ⟨b, 0, none⟩ (.int .i64 ((c : Int) + 1)) := ⟨_, rfl⟩
  have o3 : One w3 b (.int .i64 ((c : Int) + 1)) 75 := by rw [hw3]; exact O2.out.set _
  have nb3 : w3.heap[w.heap.size]? = some (.cells #[.int .i64 n.tag, .slice ao n.attrs.length ac, .string n.text, .slice ka n.kids.length kc] 26 (0, 0)) := by rw [hw3]; exact (heap_setCell_other (p := ⟨b, 0, none⟩) _ (by show w.heap.size ≠ b; omega)).trans B2.out
  have ab3 : w3.heap[w.heap.size + 1]? = some (.cells #[.int .i64 d, .bool box, .bool line, .bool li] 78 (0, 0)) := by rw [hw3]; exact (heap_setCell_other (p := ⟨b, 0, none⟩) _ (by show w.heap.size + 1 ≠ b; omega)).trans A2.out
  have x3 : ExtB b w w3 := by rw [hw3]; exact (X2.out.toB b).setCell (p := ⟨b, 0, none⟩) (.inl rfl) _
  have hs3 : w3.heap.size = w.heap.size + 2 := by rw [hw3]; simp [World.setCell]; exact HS2.out.symm
  rw [← hw3]
  clear hw3 oc of hwr
  have oc := o3.cell
  have n0 := cellOf nb3 (i := 0) (v := .int .i64 n.tag) rfl
  have v0 := cellOf ab3 (i := 0) (v := .int .i64 d) rfl
  have O3 := qh (show One w3 b (.int .i64 ((c + 1 : Nat) : Int)) 75 from by rw [show ((c + 1 : Nat) : Int) = (c : Int) + 1 by omega]; exact o3)
  have X3 := qh x3
  have NB3 := qh nb3
  have AB3 := qh ab3
  have HS3 := qh hs3
  clear o3 x3 nb3 ab3 hs3
  by_cases hc1 : c + 1 ≤ 2000
  case neg =>
    have hc2 : (2000 : Int) < (c : Int) + 1 := by omega
    have hz : (n.norm d box line li && decide (c + n.size ≤ 2000)) = false := by
      have := n.size_pos
      rw [decide_eq_false (by omega)]; simp
    have HZ := qh hz
    clear hc1 hz
    go_wp2_with fail
    go_ret
    exact FIN.out _ _ _ HZ.out X3.out O3.out (fun h => by cases h)
  have hc2 : ¬ (2000 : Int) < (c : Int) + 1 := by omega
  have HC1 := qh hc1
  clear hc1
  by_cases hd3 : 40 < d
  · have hz : (n.norm d box line li && decide (c + n.size ≤ 2000)) = false := by
      rw [PN.norm_eq, decide_eq_false (by omega)]; simp
    have HZ := qh hz
    clear hz
    go_wp2_with fail
    go_ret
    exact FIN.out _ _ _ HZ.out X3.out O3.out (fun h => by cases h)
  have hd4 : d ≤ 40 := by omega
  have HD4 := qh (show decide (d ≤ 40) = true from decide_eq_true hd4)
  have hcl := Class_any w3 n.tag
  rw [hcls] at hcl
  have HCLS := qh hcl
  have HCL := qh hcls
  clear hcl hcls
  have hdw : IntKind.i64.wrap (d + 1) = d + 1 := by rw [IntWalk.i64_left, IntWalk.wrap64_in _ (by omega)]
  go_upto_region 6 with (refine HCLS.out.mono ?_; rintro e w4 ⟨rfl, x4⟩; clear v0; have ab4 := x4.block AB3.out; have v0 := cellOf ab4 (i := 0) (v := .int .i64 d) rfl; have v1 := cellOf ab4 (i := 1) (v := .bool box) rfl; have v2 := cellOf ab4 (i := 2) (v := .bool line) rfl; have v3 := cellOf ab4 (i := 3) (v := .bool li) rfl; have O4 := qh (O3.out.ext x4); have X4 := qh (X3.out.trans (x4.toB b)); have NB4 := qh (x4.block NB3.out); have AB4 := qh ab4; have HS4 := qh (Nat.le_trans (Nat.le_of_eq HS3.out.symm) x4.size); clear x4 ab4 n0)
  clear v0 v1 v2 v3
  obtain ⟨bi, hbi⟩ : ∃ bi, w4.heap.size = bi := ⟨_, rfl⟩
  obtain ⟨wI, hwI⟩ : ∃ wI : World, wI = w4.alloc (.cells #[.int .i64 (d + 1), .bool false, .bool line, .bool li] 78) := ⟨_, rfl⟩
  have xI : Ext w4 wI := by rw [hwI]; exact (Ext.refl w4).alloc _
  have ib0 : wI.heap[bi]? = some (.cells #[.int .i64 (d + 1), .bool false, .bool line, .bool li] 78 (0, 0)) := by rw [← hbi, hwI]; exact heap_alloc_new w4 _
  rw [← hwI, hbi]
  clear hwI
  have HBI := qh (show w.heap.size ≠ bi ∧ b ≠ bi ∧ w.heap.size ≤ bi by have := HS4.out; omega)
  have NBI := qh (xI.block NB4.out)
  have ABI := qh (xI.block AB4.out)
  have ONI := qh (O4.out.ext xI)
  have XI := qh (X4.out.trans (xI.toB b))
  have IB0 := qh ib0
  have n0 := cellOf NBI.out (i := 0) (v := .int .i64 n.tag) rfl
  have n1 := cellOf NBI.out (i := 1) (v := .slice ao n.attrs.length ac) rfl
  have n2 := cellOf NBI.out (i := 2) (v := .string n.text) rfl
  have n3 := cellOf NBI.out (i := 3) (v := .slice ka n.kids.length kc) rfl
  have v0 := cellOf ABI.out (i := 0) (v := .int .i64 d) rfl
  have v1 := cellOf ABI.out (i := 1) (v := .bool box) rfl
  have v2 := cellOf ABI.out (i := 2) (v := .bool line) rfl
  have v3 := cellOf ABI.out (i := 3) (v := .bool li) rfl
  clear xI ib0 hbi hdw HCLS
  cases line with
  | true =>
    have HZ := qh (show (n.norm d box true li && decide (c + n.size ≤ 2000)) = false from by rw [PN.norm_eq, HCL.out]; simp)
    go_wp2_with fail
    go_ret
    exact FIN.out _ _ _ HZ.out XI.out ONI.out (fun h => by cases h)
  | false =>
    have h9 : (n.tag == 9) = true ∨ (n.tag == 9) = false := by cases (n.tag == 9); exact .inr rfl; exact .inl rfl
    rcases h9 with h9 | h9
    · have b9 : (n.tag != 9) = false := by rw [bne, h9]; rfl
      cases li with
      | true =>
        have HZ := qh (show (n.norm d box false true && decide (c + n.size ≤ 2000)) = false from by rw [PN.norm_eq, HCL.out]; simp [h9])
        go_wp2_with fail
        go_ret
        exact FIN.out _ _ _ HZ.out XI.out ONI.out (fun h => by cases h)
      | false =>
        have IB := qh (show wI.heap[bi]? = some (.cells #[.int .i64 (d + 1), .bool false, .bool false, .bool false] 78 (0, 0)) from IB0.out)
        have hnm : n.norm d box false false = (n.text.size == 0 && attrsMay n.attrs && PN.norms (d + 1) false false true false n.kids) := by
          rw [PN.norm_eq, HCL.out, HD4.out]; simp only [bne, h9]; rfl
        have HNM := qh hnm
        clear hnm
        have i2 := cellOf IB.out (i := 2) (v := .bool false) rfl
        have i3 := cellOf IB.out (i := 3) (v := .bool false) rfl
        have g2 := freeOf IB.out 2
        have g3 := freeOf IB.out 3
        go_upto_region 19 with fail
        obtain ⟨wT, hwT⟩ : ∃ wT : World, wT = ((wI.setCell ⟨bi, 2, none⟩ (.bool false)).setCell ⟨bi, 3, none⟩ (.bool true)) := ⟨_, rfl⟩
        have ib : wT.heap[bi]? = some (.cells #[.int .i64 (d + 1), .bool false, .bool false, .bool true] 78 (0, 0)) := by rw [hwT]; exact heap_setCell_same (heap_setCell_same IB.out (.bool false)) (.bool true)
        have nb : wT.heap[w.heap.size]? = some (.cells #[.int .i64 n.tag, .slice ao n.attrs.length ac, .string n.text, .slice ka n.kids.length kc] 26 (0, 0)) := by rw [hwT]; exact ((heap_setCell_other (p := ⟨bi, 3, none⟩) _ HBI.out.1).trans (heap_setCell_other (p := ⟨bi, 2, none⟩) _ HBI.out.1)).trans NBI.out
        have on : One wT b (.int .i64 ((c + 1 : Nat) : Int)) 75 := by rw [hwT]; exact ((heap_setCell_other (p := ⟨bi, 3, none⟩) _ HBI.out.2.1).trans (heap_setCell_other (p := ⟨bi, 2, none⟩) _ HBI.out.2.1)).trans ONI.out
        have xt : ExtB b w wT := by rw [hwT]; exact (XI.out.setCell (p := ⟨bi, 2, none⟩) (.inr HBI.out.2.2) _).setCell (p := ⟨bi, 3, none⟩) (.inr HBI.out.2.2) _
        rw [← hwT]
        clear hwT i2 i3 g2 g3
        have n0 := cellOf nb (i := 0) (v := .int .i64 n.tag) rfl
        have n1 := cellOf nb (i := 1) (v := .slice ao n.attrs.length ac) rfl
        have n2 := cellOf nb (i := 2) (v := .string n.text) rfl
        have n3 := cellOf nb (i := 3) (v := .slice ka n.kids.length kc) rfl
        have XT := qh xt
        have ON := qh on
        have IB2 := qh ib
        have NB2 := qh nb
        clear xt on ib nb
        by_cases ht : n.text.size = 0
        · have e3 : (n.text.toList == ([] : List UInt8)) = true := text_none ht
          have HTX := qh ht
          have hx0 : Ext w0 wT := XT.out.ext HX.out HNBB.out
          have HA := qh (AMay_any n.attrs _ wT (HA0.out.cells hx0.cells) HAL.out (HT.out.ext hx0))
          clear ht hx0
          have hm : attrsMay n.attrs = true ∨ attrsMay n.attrs = false := by cases attrsMay n.attrs; exact .inr rfl; exact .inl rfl
          rcases hm with hm | hm
          · rw [hm] at HA
            go_wp2_with (go_at_call 119; refine HA.out.mono ?_)
            rintro e w6 ⟨rfl, x6⟩
            have n0 := x6.cell n0
            have n1 := x6.cell n1
            have n2 := x6.cell n2
            have n3 := x6.cell n3
            have ib6 := x6.block IB2.out
            have v0 := cellOf ib6 (i := 0) (v := .int .i64 (d + 1)) rfl
            have v1 := cellOf ib6 (i := 1) (v := .bool false) rfl
            have v2 := cellOf ib6 (i := 2) (v := .bool false) rfl
            have v3 := cellOf ib6 (i := 3) (v := .bool true) rfl
            have X6 := qh (XT.out.trans (x6.toB b))
            have HK := qh (HKIDS.out b (c + 1) (d + 1) false false true w6 _ HR.out (X6.out.ext HX.out HNBB.out) HNBB.out (ON.out.ext x6) HC1.out (by omega) (by omega))
            have fin6 : ∀ (q : Bool) (u : World) (c' : Nat), (PN.norms (d + 1) false false true false n.kids && decide (c + 1 + PN.sizes n.kids ≤ 2000)) = q → ExtB b w u → One u b (.int .i64 c') 75 → (q = true → c' = c + 1 + PN.sizes n.kids) → Looked b c n.size (n.norm d box false false) w (.returned (.bool q)) u := by
              intro q u c' h1 h2 h3 h4
              refine FIN.out q u c' ?_ h2 h3 (fun h => ?_)
              · rw [HNM.out, HTX.out, hm, HSZ.out, show c + (PN.sizes n.kids + 1) = c + 1 + PN.sizes n.kids by omega]; simpa using h1
              · rw [h4 h, HSZ.out]; omega
            have FIN6 := qh fin6
            clear fin6 hm x6 ib6
            have hq : (PN.norms (d + 1) false false true false n.kids && decide (c + 1 + PN.sizes n.kids ≤ 2000)) = true ∨ (PN.norms (d + 1) false false true false n.kids && decide (c + 1 + PN.sizes n.kids ≤ 2000)) = false := by cases (PN.norms (d + 1) false false true false n.kids && decide (c + 1 + PN.sizes n.kids ≤ 2000)); exact .inr rfl; exact .inl rfl
            obtain ⟨q, hq9⟩ : ∃ q, (PN.norms (d + 1) false false true false n.kids && decide (c + 1 + PN.sizes n.kids ≤ 2000)) = q := ⟨_, rfl⟩
            have HQ9 := qh hq9
            clear hq hq9
            go_wp2_with (go_at_call 35; refine HK.out.mono ?_)
            rintro e w7 ⟨c7, rfl, x7, o7, h7⟩
            have X7 := qh (X6.out.trans x7)
            have O7 := qh o7
            have H7 := qh h7
            rw [HQ9.out]
            clear x7 o7 h7 n0 n1 n2 n3 v0 v1 v2 v3
            go_wp2_with fail
            go_ret
            exact FIN6.out q _ c7 HQ9.out X7.out O7.out (fun h => H7.out (HQ9.out.trans h))
          · rw [hm] at HA
            have hz : (n.norm d box false false && decide (c + n.size ≤ 2000)) = false := by rw [HNM.out, hm]; simp
            have HZ := qh hz
            clear hz hm
            go_wp2_with (go_at_call 119; refine HA.out.mono ?_)
            rintro e w6 ⟨rfl, x6⟩
            have X6 := qh (XT.out.trans (x6.toB b))
            have O6 := qh (ON.out.ext x6)
            clear x6 n0 n1 n2 n3
            go_wp2_with fail
            go_ret
            exact FIN.out _ _ _ HZ.out X6.out O6.out (fun h => by cases h)
        · have e3 : (n.text.toList == ([] : List UInt8)) = false := text_some ht
          have hz : (n.norm d box false false && decide (c + n.size ≤ 2000)) = false := by rw [HNM.out]; simp [ht]
          have HZ := qh hz
          clear hz ht
          go_wp2_with fail
          go_ret
          exact FIN.out _ _ _ HZ.out XT.out ON.out (fun h => by cases h)
    · have b9 : (n.tag != 9) = true := by rw [bne, h9]; rfl
      cases li with
      | true =>
        have h7 : (n.tag == 7) = false := by simpa using (cls_three HCL.out).1
        have h8 : (n.tag == 8) = false := by simpa using (cls_three HCL.out).2
        have b7 : (n.tag != 7) = true := by rw [bne, h7]; rfl
        have b8 : (n.tag != 8) = true := by rw [bne, h8]; rfl
        have IB := qh (show wI.heap[bi]? = some (.cells #[.int .i64 (d + 1), .bool false, .bool false, .bool true] 78 (0, 0)) from IB0.out)
        have hnm : n.norm d box false true = (n.text.size == 0 && attrsMay n.attrs && PN.norms (d + 1) false true true false n.kids) := by
          rw [PN.norm_eq, HCL.out, HD4.out]; simp only [bne, h9, h7, h8]; rfl
        have HNM := qh hnm
        clear hnm
        have i2 := cellOf IB.out (i := 2) (v := .bool false) rfl
        have i3 := cellOf IB.out (i := 3) (v := .bool true) rfl
        have g2 := freeOf IB.out 2
        have g3 := freeOf IB.out 3
        go_upto_region 19 with fail
        obtain ⟨wT, hwT⟩ : ∃ wT : World, wT = ((wI.setCell ⟨bi, 2, none⟩ (.bool true)).setCell ⟨bi, 3, none⟩ (.bool true)) := ⟨_, rfl⟩
        have ib : wT.heap[bi]? = some (.cells #[.int .i64 (d + 1), .bool false, .bool true, .bool true] 78 (0, 0)) := by rw [hwT]; exact heap_setCell_same (heap_setCell_same IB.out (.bool true)) (.bool true)
        have nb : wT.heap[w.heap.size]? = some (.cells #[.int .i64 n.tag, .slice ao n.attrs.length ac, .string n.text, .slice ka n.kids.length kc] 26 (0, 0)) := by rw [hwT]; exact ((heap_setCell_other (p := ⟨bi, 3, none⟩) _ HBI.out.1).trans (heap_setCell_other (p := ⟨bi, 2, none⟩) _ HBI.out.1)).trans NBI.out
        have on : One wT b (.int .i64 ((c + 1 : Nat) : Int)) 75 := by rw [hwT]; exact ((heap_setCell_other (p := ⟨bi, 3, none⟩) _ HBI.out.2.1).trans (heap_setCell_other (p := ⟨bi, 2, none⟩) _ HBI.out.2.1)).trans ONI.out
        have xt : ExtB b w wT := by rw [hwT]; exact (XI.out.setCell (p := ⟨bi, 2, none⟩) (.inr HBI.out.2.2) _).setCell (p := ⟨bi, 3, none⟩) (.inr HBI.out.2.2) _
        rw [← hwT]
        clear hwT i2 i3 g2 g3
        have n0 := cellOf nb (i := 0) (v := .int .i64 n.tag) rfl
        have n1 := cellOf nb (i := 1) (v := .slice ao n.attrs.length ac) rfl
        have n2 := cellOf nb (i := 2) (v := .string n.text) rfl
        have n3 := cellOf nb (i := 3) (v := .slice ka n.kids.length kc) rfl
        have XT := qh xt
        have ON := qh on
        have IB2 := qh ib
        have NB2 := qh nb
        clear xt on ib nb
        by_cases ht : n.text.size = 0
        · have e3 : (n.text.toList == ([] : List UInt8)) = true := text_none ht
          have HTX := qh ht
          have hx0 : Ext w0 wT := XT.out.ext HX.out HNBB.out
          have HA := qh (AMay_any n.attrs _ wT (HA0.out.cells hx0.cells) HAL.out (HT.out.ext hx0))
          clear ht hx0
          have hm : attrsMay n.attrs = true ∨ attrsMay n.attrs = false := by cases attrsMay n.attrs; exact .inr rfl; exact .inl rfl
          rcases hm with hm | hm
          · rw [hm] at HA
            go_wp2_with (go_at_call 119; refine HA.out.mono ?_)
            rintro e w6 ⟨rfl, x6⟩
            have n0 := x6.cell n0
            have n1 := x6.cell n1
            have n2 := x6.cell n2
            have n3 := x6.cell n3
            have ib6 := x6.block IB2.out
            have v0 := cellOf ib6 (i := 0) (v := .int .i64 (d + 1)) rfl
            have v1 := cellOf ib6 (i := 1) (v := .bool false) rfl
            have v2 := cellOf ib6 (i := 2) (v := .bool true) rfl
            have v3 := cellOf ib6 (i := 3) (v := .bool true) rfl
            have X6 := qh (XT.out.trans (x6.toB b))
            have HK := qh (HKIDS.out b (c + 1) (d + 1) false true true w6 _ HR.out (X6.out.ext HX.out HNBB.out) HNBB.out (ON.out.ext x6) HC1.out (by omega) (by omega))
            have fin6 : ∀ (q : Bool) (u : World) (c' : Nat), (PN.norms (d + 1) false true true false n.kids && decide (c + 1 + PN.sizes n.kids ≤ 2000)) = q → ExtB b w u → One u b (.int .i64 c') 75 → (q = true → c' = c + 1 + PN.sizes n.kids) → Looked b c n.size (n.norm d box false true) w (.returned (.bool q)) u := by
              intro q u c' h1 h2 h3 h4
              refine FIN.out q u c' ?_ h2 h3 (fun h => ?_)
              · rw [HNM.out, HTX.out, hm, HSZ.out, show c + (PN.sizes n.kids + 1) = c + 1 + PN.sizes n.kids by omega]; simpa using h1
              · rw [h4 h, HSZ.out]; omega
            have FIN6 := qh fin6
            clear fin6 hm x6 ib6
            have hq : (PN.norms (d + 1) false true true false n.kids && decide (c + 1 + PN.sizes n.kids ≤ 2000)) = true ∨ (PN.norms (d + 1) false true true false n.kids && decide (c + 1 + PN.sizes n.kids ≤ 2000)) = false := by cases (PN.norms (d + 1) false true true false n.kids && decide (c + 1 + PN.sizes n.kids ≤ 2000)); exact .inr rfl; exact .inl rfl
            obtain ⟨q, hq9⟩ : ∃ q, (PN.norms (d + 1) false true true false n.kids && decide (c + 1 + PN.sizes n.kids ≤ 2000)) = q := ⟨_, rfl⟩
            have HQ9 := qh hq9
            clear hq hq9
            go_wp2_with (go_at_call 35; refine HK.out.mono ?_)
            rintro e w7 ⟨c7, rfl, x7, o7, h7⟩
            have X7 := qh (X6.out.trans x7)
            have O7 := qh o7
            have H7 := qh h7
            rw [HQ9.out]
            clear x7 o7 h7 n0 n1 n2 n3 v0 v1 v2 v3
            go_wp2_with fail
            go_ret
            exact FIN6.out q _ c7 HQ9.out X7.out O7.out (fun h => H7.out (HQ9.out.trans h))
          · rw [hm] at HA
            have hz : (n.norm d box false true && decide (c + n.size ≤ 2000)) = false := by rw [HNM.out, hm]; simp
            have HZ := qh hz
            clear hz hm
            go_wp2_with (go_at_call 119; refine HA.out.mono ?_)
            rintro e w6 ⟨rfl, x6⟩
            have X6 := qh (XT.out.trans (x6.toB b))
            have O6 := qh (ON.out.ext x6)
            clear x6 n0 n1 n2 n3
            go_wp2_with fail
            go_ret
            exact FIN.out _ _ _ HZ.out X6.out O6.out (fun h => by cases h)
        · have e3 : (n.text.toList == ([] : List UInt8)) = false := text_some ht
          have hz : (n.norm d box false true && decide (c + n.size ≤ 2000)) = false := by rw [HNM.out]; simp [ht]
          have HZ := qh hz
          clear hz ht
          go_wp2_with fail
          go_ret
          exact FIN.out _ _ _ HZ.out XT.out ON.out (fun h => by cases h)
      | false =>
        have IB := qh (show wI.heap[bi]? = some (.cells #[.int .i64 (d + 1), .bool false, .bool false, .bool false] 78 (0, 0)) from IB0.out)
        have hnm : n.norm d box false false = (n.text.size == 0 && attrsMay n.attrs && PN.norms (d + 1) false true false false n.kids) := by
          rw [PN.norm_eq, HCL.out, HD4.out]; simp only [bne, h9]; rfl
        have HNM := qh hnm
        clear hnm
        have i2 := cellOf IB.out (i := 2) (v := .bool false) rfl
        have i3 := cellOf IB.out (i := 3) (v := .bool false) rfl
        have g2 := freeOf IB.out 2
        have g3 := freeOf IB.out 3
        go_upto_region 19 with fail
        obtain ⟨wT, hwT⟩ : ∃ wT : World, wT = ((wI.setCell ⟨bi, 2, none⟩ (.bool true)).setCell ⟨bi, 3, none⟩ (.bool false)) := ⟨_, rfl⟩
        have ib : wT.heap[bi]? = some (.cells #[.int .i64 (d + 1), .bool false, .bool true, .bool false] 78 (0, 0)) := by rw [hwT]; exact heap_setCell_same (heap_setCell_same IB.out (.bool true)) (.bool false)
        have nb : wT.heap[w.heap.size]? = some (.cells #[.int .i64 n.tag, .slice ao n.attrs.length ac, .string n.text, .slice ka n.kids.length kc] 26 (0, 0)) := by rw [hwT]; exact ((heap_setCell_other (p := ⟨bi, 3, none⟩) _ HBI.out.1).trans (heap_setCell_other (p := ⟨bi, 2, none⟩) _ HBI.out.1)).trans NBI.out
        have on : One wT b (.int .i64 ((c + 1 : Nat) : Int)) 75 := by rw [hwT]; exact ((heap_setCell_other (p := ⟨bi, 3, none⟩) _ HBI.out.2.1).trans (heap_setCell_other (p := ⟨bi, 2, none⟩) _ HBI.out.2.1)).trans ONI.out
        have xt : ExtB b w wT := by rw [hwT]; exact (XI.out.setCell (p := ⟨bi, 2, none⟩) (.inr HBI.out.2.2) _).setCell (p := ⟨bi, 3, none⟩) (.inr HBI.out.2.2) _
        rw [← hwT]
        clear hwT i2 i3 g2 g3
        have n0 := cellOf nb (i := 0) (v := .int .i64 n.tag) rfl
        have n1 := cellOf nb (i := 1) (v := .slice ao n.attrs.length ac) rfl
        have n2 := cellOf nb (i := 2) (v := .string n.text) rfl
        have n3 := cellOf nb (i := 3) (v := .slice ka n.kids.length kc) rfl
        have XT := qh xt
        have ON := qh on
        have IB2 := qh ib
        have NB2 := qh nb
        clear xt on ib nb
        by_cases ht : n.text.size = 0
        · have e3 : (n.text.toList == ([] : List UInt8)) = true := text_none ht
          have HTX := qh ht
          have hx0 : Ext w0 wT := XT.out.ext HX.out HNBB.out
          have HA := qh (AMay_any n.attrs _ wT (HA0.out.cells hx0.cells) HAL.out (HT.out.ext hx0))
          clear ht hx0
          have hm : attrsMay n.attrs = true ∨ attrsMay n.attrs = false := by cases attrsMay n.attrs; exact .inr rfl; exact .inl rfl
          rcases hm with hm | hm
          · rw [hm] at HA
            go_wp2_with (go_at_call 119; refine HA.out.mono ?_)
            rintro e w6 ⟨rfl, x6⟩
            have n0 := x6.cell n0
            have n1 := x6.cell n1
            have n2 := x6.cell n2
            have n3 := x6.cell n3
            have ib6 := x6.block IB2.out
            have v0 := cellOf ib6 (i := 0) (v := .int .i64 (d + 1)) rfl
            have v1 := cellOf ib6 (i := 1) (v := .bool false) rfl
            have v2 := cellOf ib6 (i := 2) (v := .bool true) rfl
            have v3 := cellOf ib6 (i := 3) (v := .bool false) rfl
            have X6 := qh (XT.out.trans (x6.toB b))
            have HK := qh (HKIDS.out b (c + 1) (d + 1) false true false w6 _ HR.out (X6.out.ext HX.out HNBB.out) HNBB.out (ON.out.ext x6) HC1.out (by omega) (by omega))
            have fin6 : ∀ (q : Bool) (u : World) (c' : Nat), (PN.norms (d + 1) false true false false n.kids && decide (c + 1 + PN.sizes n.kids ≤ 2000)) = q → ExtB b w u → One u b (.int .i64 c') 75 → (q = true → c' = c + 1 + PN.sizes n.kids) → Looked b c n.size (n.norm d box false false) w (.returned (.bool q)) u := by
              intro q u c' h1 h2 h3 h4
              refine FIN.out q u c' ?_ h2 h3 (fun h => ?_)
              · rw [HNM.out, HTX.out, hm, HSZ.out, show c + (PN.sizes n.kids + 1) = c + 1 + PN.sizes n.kids by omega]; simpa using h1
              · rw [h4 h, HSZ.out]; omega
            have FIN6 := qh fin6
            clear fin6 hm x6 ib6
            have hq : (PN.norms (d + 1) false true false false n.kids && decide (c + 1 + PN.sizes n.kids ≤ 2000)) = true ∨ (PN.norms (d + 1) false true false false n.kids && decide (c + 1 + PN.sizes n.kids ≤ 2000)) = false := by cases (PN.norms (d + 1) false true false false n.kids && decide (c + 1 + PN.sizes n.kids ≤ 2000)); exact .inr rfl; exact .inl rfl
            obtain ⟨q, hq9⟩ : ∃ q, (PN.norms (d + 1) false true false false n.kids && decide (c + 1 + PN.sizes n.kids ≤ 2000)) = q := ⟨_, rfl⟩
            have HQ9 := qh hq9
            clear hq hq9
            go_wp2_with (go_at_call 35; refine HK.out.mono ?_)
            rintro e w7 ⟨c7, rfl, x7, o7, h7⟩
            have X7 := qh (X6.out.trans x7)
            have O7 := qh o7
            have H7 := qh h7
            rw [HQ9.out]
            clear x7 o7 h7 n0 n1 n2 n3 v0 v1 v2 v3
            go_wp2_with fail
            go_ret
            exact FIN6.out q _ c7 HQ9.out X7.out O7.out (fun h => H7.out (HQ9.out.trans h))
          · rw [hm] at HA
            have hz : (n.norm d box false false && decide (c + n.size ≤ 2000)) = false := by rw [HNM.out, hm]; simp
            have HZ := qh hz
            clear hz hm
            go_wp2_with (go_at_call 119; refine HA.out.mono ?_)
            rintro e w6 ⟨rfl, x6⟩
            have X6 := qh (XT.out.trans (x6.toB b))
            have O6 := qh (ON.out.ext x6)
            clear x6 n0 n1 n2 n3
            go_wp2_with fail
            go_ret
            exact FIN.out _ _ _ HZ.out X6.out O6.out (fun h => by cases h)
        · have e3 : (n.text.toList == ([] : List UInt8)) = false := text_some ht
          have hz : (n.norm d box false false && decide (c + n.size ≤ 2000)) = false := by rw [HNM.out]; simp [ht]
          have HZ := qh hz
          clear hz ht
          go_wp2_with fail
          go_ret
          exact FIN.out _ _ _ HZ.out XT.out ON.out (fun h => by cases h)
theorem lnode_2 {w0 : World} {n : PN} (hcls : clsT n.tag = 2) (hT : Tabs w0) (hkids : KOk w0 n) (htx : n.text.size ≤ 100000) (hal : n.attrs.length ≤ 100000000000000) : NOk w0 n := by
  intro b c d box line li w v hr hx hb ho hc hd hd2
  obtain ⟨av, kv, rfl, ha, hk⟩ := hr.open
  obtain ⟨ao, ac, rfl, _⟩ := ha.len_of
  obtain ⟨ka, kc, rfl, hk1, hk2, hk3, hk4⟩ := hk
  clear hk1 hk2 hk3 hk4
  have hbl := ho.lt
  have hws := hx.size
  have x1 := ((Ext.refl w).alloc (.cells #[.int .i64 n.tag, .slice ao n.attrs.length ac, .string n.text, .slice ka n.kids.length kc] 26))
  have bb := heap_alloc_new w (.cells #[.int .i64 n.tag, .slice ao n.attrs.length ac, .string n.text, .slice ka n.kids.length kc] 26)
  have fin : ∀ (q : Bool) (u : World) (c' : Nat), (n.norm d box line li && decide (c + n.size ≤ 2000)) = q → ExtB b w u → One u b (.int .i64 c') 75 → (q = true → c' = c + n.size) → Looked b c n.size (n.norm d box line li) w (.returned (.bool q)) u := by
    intro q u c' h1 h2 h3 h4
    exact ⟨c', by rw [h1], h2, h3, by rw [h1]; exact h4⟩
  have FIN := qh fin
  have HT := qh hT
  have HR := qh hr
  have HA0 := qh ha
  have HAL := qh hal
  have HTXT := qh htx
  have HX := qh hx
  have HNBB := qh hb
  have HKIDS := qh hkids
  have HSZ := qh n.size_eq
  have HO := qh ho
  clear fin hT hr ha hal htx hx hb hkids ho
  go_enter Tryz.func74, Tryz.ntmps74
  go_upto_region 1 with fail
  obtain ⟨w1, hw1⟩ : ∃ w1 : World, w1 = w.alloc (.cells #[.int .i64 n.tag, .slice ao n.attrs.length ac, .string n.text, .slice ka n.kids.length kc] 26) := ⟨_, rfl⟩
  have hsz : w1.heap.size = w.heap.size + 1 := by rw [hw1]; simp
  rw [← hw1] at x1 bb ⊢
  clear hw1
  have x2 := x1.alloc (.cells #[.int .i64 d, .bool box, .bool line, .bool li] 78)
  have b2 := ((Ext.refl w1).alloc (.cells #[.int .i64 d, .bool box, .bool line, .bool li] 78)).block bb
  have a2 := heap_alloc_new w1 (.cells #[.int .i64 d, .bool box, .bool line, .bool li] 78)
  rw [hsz] at a2
  obtain ⟨w2, hw2⟩ : ∃ w2 : World, w2 = w1.alloc (.cells #[.int .i64 d, .bool box, .bool line, .bool li] 78) := ⟨_, rfl⟩
  have hs2 : w.heap.size + 2 = w2.heap.size := by rw [hw2]; simp [hsz]
  have HS2 := qh hs2
  rw [← hw2] at x2 b2 a2 ⊢
  clear hw2 hsz x1 bb hs2
  have o2 := HO.out.ext x2
  have oc := o2.cell
  have of := o2.free
  have hwr : IntKind.i64.wrap ((c : Int) + 1) = ((c + 1 : Nat) : Int) := by rw [IntWalk.i64_left, IntWalk.wrap64_in _ (by omega)]; omega
  have B2 := qh b2
  have A2 := qh a2
  have X2 := qh x2
  have O2 := qh o2
  clear b2 a2 x2 o2
  go_upto_region 2 with fail
  obtain ⟨w3, hw3⟩ : ∃ w3 : World, w3 = w2.setCell ⟨b, 0, none⟩ (.int .i64 ((c : Int) + 1)) := ⟨_, rfl⟩
  have o3 : One w3 b (.int .i64 ((c : Int) + 1)) 75 := by rw [hw3]; exact O2.out.set _
  have nb3 : w3.heap[w.heap.size]? = some (.cells #[.int .i64 n.tag, .slice ao n.attrs.length ac, .string n.text, .slice ka n.kids.length kc] 26 (0, 0)) := by rw [hw3]; exact (heap_setCell_other (p := ⟨b, 0, none⟩) _ (by show w.heap.size ≠ b; omega)).trans B2.out
  have ab3 : w3.heap[w.heap.size + 1]? = some (.cells #[.int .i64 d, .bool box, .bool line, .bool li] 78 (0, 0)) := by rw [hw3]; exact (heap_setCell_other (p := ⟨b, 0, none⟩) _ (by show w.heap.size + 1 ≠ b; omega)).trans A2.out
  have x3 : ExtB b w w3 := by rw [hw3]; exact (X2.out.toB b).setCell (p := ⟨b, 0, none⟩) (.inl rfl) _
  have hs3 : w3.heap.size = w.heap.size + 2 := by rw [hw3]; simp [World.setCell]; exact HS2.out.symm
  rw [← hw3]
  clear hw3 oc of hwr
  have oc := o3.cell
  have n0 := cellOf nb3 (i := 0) (v := .int .i64 n.tag) rfl
  have v0 := cellOf ab3 (i := 0) (v := .int .i64 d) rfl
  have O3 := qh (show One w3 b (.int .i64 ((c + 1 : Nat) : Int)) 75 from by rw [show ((c + 1 : Nat) : Int) = (c : Int) + 1 by omega]; exact o3)
  have X3 := qh x3
  have NB3 := qh nb3
  have AB3 := qh ab3
  have HS3 := qh hs3
  clear o3 x3 nb3 ab3 hs3
  by_cases hc1 : c + 1 ≤ 2000
  case neg =>
    have hc2 : (2000 : Int) < (c : Int) + 1 := by omega
    have hz : (n.norm d box line li && decide (c + n.size ≤ 2000)) = false := by
      have := n.size_pos
      rw [decide_eq_false (by omega)]; simp
    have HZ := qh hz
    clear hc1 hz
    go_wp2_with fail
    go_ret
    exact FIN.out _ _ _ HZ.out X3.out O3.out (fun h => by cases h)
  have hc2 : ¬ (2000 : Int) < (c : Int) + 1 := by omega
  have HC1 := qh hc1
  clear hc1
  by_cases hd3 : 40 < d
  · have hz : (n.norm d box line li && decide (c + n.size ≤ 2000)) = false := by
      rw [PN.norm_eq, decide_eq_false (by omega)]; simp
    have HZ := qh hz
    clear hz
    go_wp2_with fail
    go_ret
    exact FIN.out _ _ _ HZ.out X3.out O3.out (fun h => by cases h)
  have hd4 : d ≤ 40 := by omega
  have HD4 := qh (show decide (d ≤ 40) = true from decide_eq_true hd4)
  have hcl := Class_any w3 n.tag
  rw [hcls] at hcl
  have HCLS := qh hcl
  have HCL := qh hcls
  clear hcl hcls
  have hdw : IntKind.i64.wrap (d + 1) = d + 1 := by rw [IntWalk.i64_left, IntWalk.wrap64_in _ (by omega)]
  go_upto_region 6 with (refine HCLS.out.mono ?_; rintro e w4 ⟨rfl, x4⟩; clear v0; have ab4 := x4.block AB3.out; have v0 := cellOf ab4 (i := 0) (v := .int .i64 d) rfl; have v1 := cellOf ab4 (i := 1) (v := .bool box) rfl; have v2 := cellOf ab4 (i := 2) (v := .bool line) rfl; have v3 := cellOf ab4 (i := 3) (v := .bool li) rfl; have O4 := qh (O3.out.ext x4); have X4 := qh (X3.out.trans (x4.toB b)); have NB4 := qh (x4.block NB3.out); have AB4 := qh ab4; have HS4 := qh (Nat.le_trans (Nat.le_of_eq HS3.out.symm) x4.size); clear x4 ab4 n0)
  clear v0 v1 v2 v3
  obtain ⟨bi, hbi⟩ : ∃ bi, w4.heap.size = bi := ⟨_, rfl⟩
  obtain ⟨wI, hwI⟩ : ∃ wI : World, wI = w4.alloc (.cells #[.int .i64 (d + 1), .bool true, .bool line, .bool li] 78) := ⟨_, rfl⟩
  have xI : Ext w4 wI := by rw [hwI]; exact (Ext.refl w4).alloc _
  have ib0 : wI.heap[bi]? = some (.cells #[.int .i64 (d + 1), .bool true, .bool line, .bool li] 78 (0, 0)) := by rw [← hbi, hwI]; exact heap_alloc_new w4 _
  rw [← hwI, hbi]
  clear hwI
  have HBI := qh (show w.heap.size ≠ bi ∧ b ≠ bi ∧ w.heap.size ≤ bi by have := HS4.out; omega)
  have NBI := qh (xI.block NB4.out)
  have ABI := qh (xI.block AB4.out)
  have ONI := qh (O4.out.ext xI)
  have XI := qh (X4.out.trans (xI.toB b))
  have IB0 := qh ib0
  have n0 := cellOf NBI.out (i := 0) (v := .int .i64 n.tag) rfl
  have n1 := cellOf NBI.out (i := 1) (v := .slice ao n.attrs.length ac) rfl
  have n2 := cellOf NBI.out (i := 2) (v := .string n.text) rfl
  have n3 := cellOf NBI.out (i := 3) (v := .slice ka n.kids.length kc) rfl
  have v0 := cellOf ABI.out (i := 0) (v := .int .i64 d) rfl
  have v1 := cellOf ABI.out (i := 1) (v := .bool box) rfl
  have v2 := cellOf ABI.out (i := 2) (v := .bool line) rfl
  have v3 := cellOf ABI.out (i := 3) (v := .bool li) rfl
  clear xI ib0 hbi hdw HCLS
  have t9 : (n.tag == 9) = false := by simpa using cls_two HCL.out
  cases line with
  | true =>
    have HZ := qh (show (n.norm d box true li && decide (c + n.size ≤ 2000)) = false from by rw [PN.norm_eq, HCL.out]; simp)
    go_wp2_with fail
    go_ret
    exact FIN.out _ _ _ HZ.out XI.out ONI.out (fun h => by cases h)
  | false =>
    cases li with
    | false =>
      have IB := qh (show wI.heap[bi]? = some (.cells #[.int .i64 (d + 1), .bool true, .bool false, .bool false] 78 (0, 0)) from IB0.out)
      have hnm : n.norm d box false false = (n.text.size == 0 && attrsMay n.attrs && PN.norms (d + 1) true false false false n.kids) := by
        rw [PN.norm_eq, HCL.out, HD4.out]; simp only [bne, t9]; rfl
      have HNM := qh hnm
      clear hnm
      have i2 := cellOf IB.out (i := 2) (v := .bool false) rfl
      have i3 := cellOf IB.out (i := 3) (v := .bool false) rfl
      have g2 := freeOf IB.out 2
      have g3 := freeOf IB.out 3
      go_upto_region 19 with fail
      obtain ⟨wT, hwT⟩ : ∃ wT : World, wT = ((wI.setCell ⟨bi, 2, none⟩ (.bool false)).setCell ⟨bi, 3, none⟩ (.bool false)) := ⟨_, rfl⟩
      have ib : wT.heap[bi]? = some (.cells #[.int .i64 (d + 1), .bool true, .bool false, .bool false] 78 (0, 0)) := by rw [hwT]; exact heap_setCell_same (heap_setCell_same IB.out (.bool false)) (.bool false)
      have nb : wT.heap[w.heap.size]? = some (.cells #[.int .i64 n.tag, .slice ao n.attrs.length ac, .string n.text, .slice ka n.kids.length kc] 26 (0, 0)) := by rw [hwT]; exact ((heap_setCell_other (p := ⟨bi, 3, none⟩) _ HBI.out.1).trans (heap_setCell_other (p := ⟨bi, 2, none⟩) _ HBI.out.1)).trans NBI.out
      have on : One wT b (.int .i64 ((c + 1 : Nat) : Int)) 75 := by rw [hwT]; exact ((heap_setCell_other (p := ⟨bi, 3, none⟩) _ HBI.out.2.1).trans (heap_setCell_other (p := ⟨bi, 2, none⟩) _ HBI.out.2.1)).trans ONI.out
      have xt : ExtB b w wT := by rw [hwT]; exact (XI.out.setCell (p := ⟨bi, 2, none⟩) (.inr HBI.out.2.2) _).setCell (p := ⟨bi, 3, none⟩) (.inr HBI.out.2.2) _
      rw [← hwT]
      clear hwT i2 i3 g2 g3
      have n0 := cellOf nb (i := 0) (v := .int .i64 n.tag) rfl
      have n1 := cellOf nb (i := 1) (v := .slice ao n.attrs.length ac) rfl
      have n2 := cellOf nb (i := 2) (v := .string n.text) rfl
      have n3 := cellOf nb (i := 3) (v := .slice ka n.kids.length kc) rfl
      have XT := qh xt
      have ON := qh on
      have IB2 := qh ib
      have NB2 := qh nb
      clear xt on ib nb
      by_cases ht : n.text.size = 0
      · have e3 : (n.text.toList == ([] : List UInt8)) = true := text_none ht
        have HTX := qh ht
        have hx0 : Ext w0 wT := XT.out.ext HX.out HNBB.out
        have HA := qh (AMay_any n.attrs _ wT (HA0.out.cells hx0.cells) HAL.out (HT.out.ext hx0))
        clear ht hx0
        have hm : attrsMay n.attrs = true ∨ attrsMay n.attrs = false := by cases attrsMay n.attrs; exact .inr rfl; exact .inl rfl
        rcases hm with hm | hm
        · rw [hm] at HA
          go_wp2_with (go_at_call 119; refine HA.out.mono ?_)
          rintro e w6 ⟨rfl, x6⟩
          have n0 := x6.cell n0
          have n1 := x6.cell n1
          have n2 := x6.cell n2
          have n3 := x6.cell n3
          have ib6 := x6.block IB2.out
          have v0 := cellOf ib6 (i := 0) (v := .int .i64 (d + 1)) rfl
          have v1 := cellOf ib6 (i := 1) (v := .bool true) rfl
          have v2 := cellOf ib6 (i := 2) (v := .bool false) rfl
          have v3 := cellOf ib6 (i := 3) (v := .bool false) rfl
          have X6 := qh (XT.out.trans (x6.toB b))
          have HK := qh (HKIDS.out b (c + 1) (d + 1) true false false w6 _ HR.out (X6.out.ext HX.out HNBB.out) HNBB.out (ON.out.ext x6) HC1.out (by omega) (by omega))
          have fin6 : ∀ (q : Bool) (u : World) (c' : Nat), (PN.norms (d + 1) true false false false n.kids && decide (c + 1 + PN.sizes n.kids ≤ 2000)) = q → ExtB b w u → One u b (.int .i64 c') 75 → (q = true → c' = c + 1 + PN.sizes n.kids) → Looked b c n.size (n.norm d box false false) w (.returned (.bool q)) u := by
            intro q u c' h1 h2 h3 h4
            refine FIN.out q u c' ?_ h2 h3 (fun h => ?_)
            · rw [HNM.out, HTX.out, hm, HSZ.out, show c + (PN.sizes n.kids + 1) = c + 1 + PN.sizes n.kids by omega]; simpa using h1
            · rw [h4 h, HSZ.out]; omega
          have FIN6 := qh fin6
          clear fin6 hm x6 ib6
          have hq : (PN.norms (d + 1) true false false false n.kids && decide (c + 1 + PN.sizes n.kids ≤ 2000)) = true ∨ (PN.norms (d + 1) true false false false n.kids && decide (c + 1 + PN.sizes n.kids ≤ 2000)) = false := by cases (PN.norms (d + 1) true false false false n.kids && decide (c + 1 + PN.sizes n.kids ≤ 2000)); exact .inr rfl; exact .inl rfl
          obtain ⟨q, hq9⟩ : ∃ q, (PN.norms (d + 1) true false false false n.kids && decide (c + 1 + PN.sizes n.kids ≤ 2000)) = q := ⟨_, rfl⟩
          have HQ9 := qh hq9
          clear hq hq9
          go_wp2_with (go_at_call 35; refine HK.out.mono ?_)
          rintro e w7 ⟨c7, rfl, x7, o7, h7⟩
          have X7 := qh (X6.out.trans x7)
          have O7 := qh o7
          have H7 := qh h7
          rw [HQ9.out]
          clear x7 o7 h7 n0 n1 n2 n3 v0 v1 v2 v3
          go_wp2_with fail
          go_ret
          exact FIN6.out q _ c7 HQ9.out X7.out O7.out (fun h => H7.out (HQ9.out.trans h))
        · rw [hm] at HA
          have hz : (n.norm d box false false && decide (c + n.size ≤ 2000)) = false := by rw [HNM.out, hm]; simp
          have HZ := qh hz
          clear hz hm
          go_wp2_with (go_at_call 119; refine HA.out.mono ?_)
          rintro e w6 ⟨rfl, x6⟩
          have X6 := qh (XT.out.trans (x6.toB b))
          have O6 := qh (ON.out.ext x6)
          clear x6 n0 n1 n2 n3
          go_wp2_with fail
          go_ret
          exact FIN.out _ _ _ HZ.out X6.out O6.out (fun h => by cases h)
      · have e3 : (n.text.toList == ([] : List UInt8)) = false := text_some ht
        have hz : (n.norm d box false false && decide (c + n.size ≤ 2000)) = false := by rw [HNM.out]; simp [ht]
        have HZ := qh hz
        clear hz ht
        go_wp2_with fail
        go_ret
        exact FIN.out _ _ _ HZ.out XT.out ON.out (fun h => by cases h)
    | true =>
      have h7 : (n.tag == 7) = true ∨ (n.tag == 7) = false := by cases (n.tag == 7); exact .inr rfl; exact .inl rfl
      rcases h7 with h7 | h7
      · have b7 : (n.tag != 7) = false := by rw [bne, h7]; rfl
        have IB := qh (show wI.heap[bi]? = some (.cells #[.int .i64 (d + 1), .bool true, .bool false, .bool true] 78 (0, 0)) from IB0.out)
        have hnm : n.norm d box false true = (n.text.size == 0 && attrsMay n.attrs && PN.norms (d + 1) true false false false n.kids) := by
          rw [PN.norm_eq, HCL.out, HD4.out]; simp only [bne, t9, h7]; rfl
        have HNM := qh hnm
        clear hnm
        have i2 := cellOf IB.out (i := 2) (v := .bool false) rfl
        have i3 := cellOf IB.out (i := 3) (v := .bool true) rfl
        have g2 := freeOf IB.out 2
        have g3 := freeOf IB.out 3
        go_upto_region 19 with fail
        obtain ⟨wT, hwT⟩ : ∃ wT : World, wT = ((wI.setCell ⟨bi, 2, none⟩ (.bool false)).setCell ⟨bi, 3, none⟩ (.bool false)) := ⟨_, rfl⟩
        have ib : wT.heap[bi]? = some (.cells #[.int .i64 (d + 1), .bool true, .bool false, .bool false] 78 (0, 0)) := by rw [hwT]; exact heap_setCell_same (heap_setCell_same IB.out (.bool false)) (.bool false)
        have nb : wT.heap[w.heap.size]? = some (.cells #[.int .i64 n.tag, .slice ao n.attrs.length ac, .string n.text, .slice ka n.kids.length kc] 26 (0, 0)) := by rw [hwT]; exact ((heap_setCell_other (p := ⟨bi, 3, none⟩) _ HBI.out.1).trans (heap_setCell_other (p := ⟨bi, 2, none⟩) _ HBI.out.1)).trans NBI.out
        have on : One wT b (.int .i64 ((c + 1 : Nat) : Int)) 75 := by rw [hwT]; exact ((heap_setCell_other (p := ⟨bi, 3, none⟩) _ HBI.out.2.1).trans (heap_setCell_other (p := ⟨bi, 2, none⟩) _ HBI.out.2.1)).trans ONI.out
        have xt : ExtB b w wT := by rw [hwT]; exact (XI.out.setCell (p := ⟨bi, 2, none⟩) (.inr HBI.out.2.2) _).setCell (p := ⟨bi, 3, none⟩) (.inr HBI.out.2.2) _
        rw [← hwT]
        clear hwT i2 i3 g2 g3
        have n0 := cellOf nb (i := 0) (v := .int .i64 n.tag) rfl
        have n1 := cellOf nb (i := 1) (v := .slice ao n.attrs.length ac) rfl
        have n2 := cellOf nb (i := 2) (v := .string n.text) rfl
        have n3 := cellOf nb (i := 3) (v := .slice ka n.kids.length kc) rfl
        have XT := qh xt
        have ON := qh on
        have IB2 := qh ib
        have NB2 := qh nb
        clear xt on ib nb
        by_cases ht : n.text.size = 0
        · have e3 : (n.text.toList == ([] : List UInt8)) = true := text_none ht
          have HTX := qh ht
          have hx0 : Ext w0 wT := XT.out.ext HX.out HNBB.out
          have HA := qh (AMay_any n.attrs _ wT (HA0.out.cells hx0.cells) HAL.out (HT.out.ext hx0))
          clear ht hx0
          have hm : attrsMay n.attrs = true ∨ attrsMay n.attrs = false := by cases attrsMay n.attrs; exact .inr rfl; exact .inl rfl
          rcases hm with hm | hm
          · rw [hm] at HA
            go_wp2_with (go_at_call 119; refine HA.out.mono ?_)
            rintro e w6 ⟨rfl, x6⟩
            have n0 := x6.cell n0
            have n1 := x6.cell n1
            have n2 := x6.cell n2
            have n3 := x6.cell n3
            have ib6 := x6.block IB2.out
            have v0 := cellOf ib6 (i := 0) (v := .int .i64 (d + 1)) rfl
            have v1 := cellOf ib6 (i := 1) (v := .bool true) rfl
            have v2 := cellOf ib6 (i := 2) (v := .bool false) rfl
            have v3 := cellOf ib6 (i := 3) (v := .bool false) rfl
            have X6 := qh (XT.out.trans (x6.toB b))
            have HK := qh (HKIDS.out b (c + 1) (d + 1) true false false w6 _ HR.out (X6.out.ext HX.out HNBB.out) HNBB.out (ON.out.ext x6) HC1.out (by omega) (by omega))
            have fin6 : ∀ (q : Bool) (u : World) (c' : Nat), (PN.norms (d + 1) true false false false n.kids && decide (c + 1 + PN.sizes n.kids ≤ 2000)) = q → ExtB b w u → One u b (.int .i64 c') 75 → (q = true → c' = c + 1 + PN.sizes n.kids) → Looked b c n.size (n.norm d box false true) w (.returned (.bool q)) u := by
              intro q u c' h1 h2 h3 h4
              refine FIN.out q u c' ?_ h2 h3 (fun h => ?_)
              · rw [HNM.out, HTX.out, hm, HSZ.out, show c + (PN.sizes n.kids + 1) = c + 1 + PN.sizes n.kids by omega]; simpa using h1
              · rw [h4 h, HSZ.out]; omega
            have FIN6 := qh fin6
            clear fin6 hm x6 ib6
            have hq : (PN.norms (d + 1) true false false false n.kids && decide (c + 1 + PN.sizes n.kids ≤ 2000)) = true ∨ (PN.norms (d + 1) true false false false n.kids && decide (c + 1 + PN.sizes n.kids ≤ 2000)) = false := by cases (PN.norms (d + 1) true false false false n.kids && decide (c + 1 + PN.sizes n.kids ≤ 2000)); exact .inr rfl; exact .inl rfl
            obtain ⟨q, hq9⟩ : ∃ q, (PN.norms (d + 1) true false false false n.kids && decide (c + 1 + PN.sizes n.kids ≤ 2000)) = q := ⟨_, rfl⟩
            have HQ9 := qh hq9
            clear hq hq9
            go_wp2_with (go_at_call 35; refine HK.out.mono ?_)
            rintro e w7 ⟨c7, rfl, x7, o7, h7⟩
            have X7 := qh (X6.out.trans x7)
            have O7 := qh o7
            have H7 := qh h7
            rw [HQ9.out]
            clear x7 o7 h7 n0 n1 n2 n3 v0 v1 v2 v3
            go_wp2_with fail
            go_ret
            exact FIN6.out q _ c7 HQ9.out X7.out O7.out (fun h => H7.out (HQ9.out.trans h))
          · rw [hm] at HA
            have hz : (n.norm d box false true && decide (c + n.size ≤ 2000)) = false := by rw [HNM.out, hm]; simp
            have HZ := qh hz
            clear hz hm
            go_wp2_with (go_at_call 119; refine HA.out.mono ?_)
            rintro e w6 ⟨rfl, x6⟩
            have X6 := qh (XT.out.trans (x6.toB b))
            have O6 := qh (ON.out.ext x6)
            clear x6 n0 n1 n2 n3
            go_wp2_with fail
            go_ret
            exact FIN.out _ _ _ HZ.out X6.out O6.out (fun h => by cases h)
        · have e3 : (n.text.toList == ([] : List UInt8)) = false := text_some ht
          have hz : (n.norm d box false true && decide (c + n.size ≤ 2000)) = false := by rw [HNM.out]; simp [ht]
          have HZ := qh hz
          clear hz ht
          go_wp2_with fail
          go_ret
          exact FIN.out _ _ _ HZ.out XT.out ON.out (fun h => by cases h)
      · have h8 : (n.tag == 8) = true ∨ (n.tag == 8) = false := by cases (n.tag == 8); exact .inr rfl; exact .inl rfl
        rcases h8 with h8 | h8
        · have b7 : (n.tag != 7) = true := by rw [bne, h7]; rfl
          have b8 : (n.tag != 8) = false := by rw [bne, h8]; rfl
          have IB := qh (show wI.heap[bi]? = some (.cells #[.int .i64 (d + 1), .bool true, .bool false, .bool true] 78 (0, 0)) from IB0.out)
          have hnm : n.norm d box false true = (n.text.size == 0 && attrsMay n.attrs && PN.norms (d + 1) true false false false n.kids) := by
            rw [PN.norm_eq, HCL.out, HD4.out]; simp only [bne, t9, h7, h8]; rfl
          have HNM := qh hnm
          clear hnm
          have i2 := cellOf IB.out (i := 2) (v := .bool false) rfl
          have i3 := cellOf IB.out (i := 3) (v := .bool true) rfl
          have g2 := freeOf IB.out 2
          have g3 := freeOf IB.out 3
          go_upto_region 19 with fail
          obtain ⟨wT, hwT⟩ : ∃ wT : World, wT = ((wI.setCell ⟨bi, 2, none⟩ (.bool false)).setCell ⟨bi, 3, none⟩ (.bool false)) := ⟨_, rfl⟩
          have ib : wT.heap[bi]? = some (.cells #[.int .i64 (d + 1), .bool true, .bool false, .bool false] 78 (0, 0)) := by rw [hwT]; exact heap_setCell_same (heap_setCell_same IB.out (.bool false)) (.bool false)
          have nb : wT.heap[w.heap.size]? = some (.cells #[.int .i64 n.tag, .slice ao n.attrs.length ac, .string n.text, .slice ka n.kids.length kc] 26 (0, 0)) := by rw [hwT]; exact ((heap_setCell_other (p := ⟨bi, 3, none⟩) _ HBI.out.1).trans (heap_setCell_other (p := ⟨bi, 2, none⟩) _ HBI.out.1)).trans NBI.out
          have on : One wT b (.int .i64 ((c + 1 : Nat) : Int)) 75 := by rw [hwT]; exact ((heap_setCell_other (p := ⟨bi, 3, none⟩) _ HBI.out.2.1).trans (heap_setCell_other (p := ⟨bi, 2, none⟩) _ HBI.out.2.1)).trans ONI.out
          have xt : ExtB b w wT := by rw [hwT]; exact (XI.out.setCell (p := ⟨bi, 2, none⟩) (.inr HBI.out.2.2) _).setCell (p := ⟨bi, 3, none⟩) (.inr HBI.out.2.2) _
          rw [← hwT]
          clear hwT i2 i3 g2 g3
          have n0 := cellOf nb (i := 0) (v := .int .i64 n.tag) rfl
          have n1 := cellOf nb (i := 1) (v := .slice ao n.attrs.length ac) rfl
          have n2 := cellOf nb (i := 2) (v := .string n.text) rfl
          have n3 := cellOf nb (i := 3) (v := .slice ka n.kids.length kc) rfl
          have XT := qh xt
          have ON := qh on
          have IB2 := qh ib
          have NB2 := qh nb
          clear xt on ib nb
          by_cases ht : n.text.size = 0
          · have e3 : (n.text.toList == ([] : List UInt8)) = true := text_none ht
            have HTX := qh ht
            have hx0 : Ext w0 wT := XT.out.ext HX.out HNBB.out
            have HA := qh (AMay_any n.attrs _ wT (HA0.out.cells hx0.cells) HAL.out (HT.out.ext hx0))
            clear ht hx0
            have hm : attrsMay n.attrs = true ∨ attrsMay n.attrs = false := by cases attrsMay n.attrs; exact .inr rfl; exact .inl rfl
            rcases hm with hm | hm
            · rw [hm] at HA
              go_wp2_with (go_at_call 119; refine HA.out.mono ?_)
              rintro e w6 ⟨rfl, x6⟩
              have n0 := x6.cell n0
              have n1 := x6.cell n1
              have n2 := x6.cell n2
              have n3 := x6.cell n3
              have ib6 := x6.block IB2.out
              have v0 := cellOf ib6 (i := 0) (v := .int .i64 (d + 1)) rfl
              have v1 := cellOf ib6 (i := 1) (v := .bool true) rfl
              have v2 := cellOf ib6 (i := 2) (v := .bool false) rfl
              have v3 := cellOf ib6 (i := 3) (v := .bool false) rfl
              have X6 := qh (XT.out.trans (x6.toB b))
              have HK := qh (HKIDS.out b (c + 1) (d + 1) true false false w6 _ HR.out (X6.out.ext HX.out HNBB.out) HNBB.out (ON.out.ext x6) HC1.out (by omega) (by omega))
              have fin6 : ∀ (q : Bool) (u : World) (c' : Nat), (PN.norms (d + 1) true false false false n.kids && decide (c + 1 + PN.sizes n.kids ≤ 2000)) = q → ExtB b w u → One u b (.int .i64 c') 75 → (q = true → c' = c + 1 + PN.sizes n.kids) → Looked b c n.size (n.norm d box false true) w (.returned (.bool q)) u := by
                intro q u c' h1 h2 h3 h4
                refine FIN.out q u c' ?_ h2 h3 (fun h => ?_)
                · rw [HNM.out, HTX.out, hm, HSZ.out, show c + (PN.sizes n.kids + 1) = c + 1 + PN.sizes n.kids by omega]; simpa using h1
                · rw [h4 h, HSZ.out]; omega
              have FIN6 := qh fin6
              clear fin6 hm x6 ib6
              have hq : (PN.norms (d + 1) true false false false n.kids && decide (c + 1 + PN.sizes n.kids ≤ 2000)) = true ∨ (PN.norms (d + 1) true false false false n.kids && decide (c + 1 + PN.sizes n.kids ≤ 2000)) = false := by cases (PN.norms (d + 1) true false false false n.kids && decide (c + 1 + PN.sizes n.kids ≤ 2000)); exact .inr rfl; exact .inl rfl
              obtain ⟨q, hq9⟩ : ∃ q, (PN.norms (d + 1) true false false false n.kids && decide (c + 1 + PN.sizes n.kids ≤ 2000)) = q := ⟨_, rfl⟩
              have HQ9 := qh hq9
              clear hq hq9
              go_wp2_with (go_at_call 35; refine HK.out.mono ?_)
              rintro e w7 ⟨c7, rfl, x7, o7, h7⟩
              have X7 := qh (X6.out.trans x7)
              have O7 := qh o7
              have H7 := qh h7
              rw [HQ9.out]
              clear x7 o7 h7 n0 n1 n2 n3 v0 v1 v2 v3
              go_wp2_with fail
              go_ret
              exact FIN6.out q _ c7 HQ9.out X7.out O7.out (fun h => H7.out (HQ9.out.trans h))
            · rw [hm] at HA
              have hz : (n.norm d box false true && decide (c + n.size ≤ 2000)) = false := by rw [HNM.out, hm]; simp
              have HZ := qh hz
              clear hz hm
              go_wp2_with (go_at_call 119; refine HA.out.mono ?_)
              rintro e w6 ⟨rfl, x6⟩
              have X6 := qh (XT.out.trans (x6.toB b))
              have O6 := qh (ON.out.ext x6)
              clear x6 n0 n1 n2 n3
              go_wp2_with fail
              go_ret
              exact FIN.out _ _ _ HZ.out X6.out O6.out (fun h => by cases h)
          · have e3 : (n.text.toList == ([] : List UInt8)) = false := text_some ht
            have hz : (n.norm d box false true && decide (c + n.size ≤ 2000)) = false := by rw [HNM.out]; simp [ht]
            have HZ := qh hz
            clear hz ht
            go_wp2_with fail
            go_ret
            exact FIN.out _ _ _ HZ.out XT.out ON.out (fun h => by cases h)
        · have b7 : (n.tag != 7) = true := by rw [bne, h7]; rfl
          have b8 : (n.tag != 8) = true := by rw [bne, h8]; rfl
          have IB := qh (show wI.heap[bi]? = some (.cells #[.int .i64 (d + 1), .bool true, .bool false, .bool true] 78 (0, 0)) from IB0.out)
          have hnm : n.norm d box false true = (n.text.size == 0 && attrsMay n.attrs && PN.norms (d + 1) true false true false n.kids) := by
            rw [PN.norm_eq, HCL.out, HD4.out]; simp only [bne, t9, h7, h8]; rfl
          have HNM := qh hnm
          clear hnm
          have i2 := cellOf IB.out (i := 2) (v := .bool false) rfl
          have i3 := cellOf IB.out (i := 3) (v := .bool true) rfl
          have g2 := freeOf IB.out 2
          have g3 := freeOf IB.out 3
          go_upto_region 19 with fail
          obtain ⟨wT, hwT⟩ : ∃ wT : World, wT = ((wI.setCell ⟨bi, 2, none⟩ (.bool false)).setCell ⟨bi, 3, none⟩ (.bool true)) := ⟨_, rfl⟩
          have ib : wT.heap[bi]? = some (.cells #[.int .i64 (d + 1), .bool true, .bool false, .bool true] 78 (0, 0)) := by rw [hwT]; exact heap_setCell_same (heap_setCell_same IB.out (.bool false)) (.bool true)
          have nb : wT.heap[w.heap.size]? = some (.cells #[.int .i64 n.tag, .slice ao n.attrs.length ac, .string n.text, .slice ka n.kids.length kc] 26 (0, 0)) := by rw [hwT]; exact ((heap_setCell_other (p := ⟨bi, 3, none⟩) _ HBI.out.1).trans (heap_setCell_other (p := ⟨bi, 2, none⟩) _ HBI.out.1)).trans NBI.out
          have on : One wT b (.int .i64 ((c + 1 : Nat) : Int)) 75 := by rw [hwT]; exact ((heap_setCell_other (p := ⟨bi, 3, none⟩) _ HBI.out.2.1).trans (heap_setCell_other (p := ⟨bi, 2, none⟩) _ HBI.out.2.1)).trans ONI.out
          have xt : ExtB b w wT := by rw [hwT]; exact (XI.out.setCell (p := ⟨bi, 2, none⟩) (.inr HBI.out.2.2) _).setCell (p := ⟨bi, 3, none⟩) (.inr HBI.out.2.2) _
          rw [← hwT]
          clear hwT i2 i3 g2 g3
          have n0 := cellOf nb (i := 0) (v := .int .i64 n.tag) rfl
          have n1 := cellOf nb (i := 1) (v := .slice ao n.attrs.length ac) rfl
          have n2 := cellOf nb (i := 2) (v := .string n.text) rfl
          have n3 := cellOf nb (i := 3) (v := .slice ka n.kids.length kc) rfl
          have XT := qh xt
          have ON := qh on
          have IB2 := qh ib
          have NB2 := qh nb
          clear xt on ib nb
          by_cases ht : n.text.size = 0
          · have e3 : (n.text.toList == ([] : List UInt8)) = true := text_none ht
            have HTX := qh ht
            have hx0 : Ext w0 wT := XT.out.ext HX.out HNBB.out
            have HA := qh (AMay_any n.attrs _ wT (HA0.out.cells hx0.cells) HAL.out (HT.out.ext hx0))
            clear ht hx0
            have hm : attrsMay n.attrs = true ∨ attrsMay n.attrs = false := by cases attrsMay n.attrs; exact .inr rfl; exact .inl rfl
            rcases hm with hm | hm
            · rw [hm] at HA
              go_wp2_with (go_at_call 119; refine HA.out.mono ?_)
              rintro e w6 ⟨rfl, x6⟩
              have n0 := x6.cell n0
              have n1 := x6.cell n1
              have n2 := x6.cell n2
              have n3 := x6.cell n3
              have ib6 := x6.block IB2.out
              have v0 := cellOf ib6 (i := 0) (v := .int .i64 (d + 1)) rfl
              have v1 := cellOf ib6 (i := 1) (v := .bool true) rfl
              have v2 := cellOf ib6 (i := 2) (v := .bool false) rfl
              have v3 := cellOf ib6 (i := 3) (v := .bool true) rfl
              have X6 := qh (XT.out.trans (x6.toB b))
              have HK := qh (HKIDS.out b (c + 1) (d + 1) true false true w6 _ HR.out (X6.out.ext HX.out HNBB.out) HNBB.out (ON.out.ext x6) HC1.out (by omega) (by omega))
              have fin6 : ∀ (q : Bool) (u : World) (c' : Nat), (PN.norms (d + 1) true false true false n.kids && decide (c + 1 + PN.sizes n.kids ≤ 2000)) = q → ExtB b w u → One u b (.int .i64 c') 75 → (q = true → c' = c + 1 + PN.sizes n.kids) → Looked b c n.size (n.norm d box false true) w (.returned (.bool q)) u := by
                intro q u c' h1 h2 h3 h4
                refine FIN.out q u c' ?_ h2 h3 (fun h => ?_)
                · rw [HNM.out, HTX.out, hm, HSZ.out, show c + (PN.sizes n.kids + 1) = c + 1 + PN.sizes n.kids by omega]; simpa using h1
                · rw [h4 h, HSZ.out]; omega
              have FIN6 := qh fin6
              clear fin6 hm x6 ib6
              have hq : (PN.norms (d + 1) true false true false n.kids && decide (c + 1 + PN.sizes n.kids ≤ 2000)) = true ∨ (PN.norms (d + 1) true false true false n.kids && decide (c + 1 + PN.sizes n.kids ≤ 2000)) = false := by cases (PN.norms (d + 1) true false true false n.kids && decide (c + 1 + PN.sizes n.kids ≤ 2000)); exact .inr rfl; exact .inl rfl
              obtain ⟨q, hq9⟩ : ∃ q, (PN.norms (d + 1) true false true false n.kids && decide (c + 1 + PN.sizes n.kids ≤ 2000)) = q := ⟨_, rfl⟩
              have HQ9 := qh hq9
              clear hq hq9
              go_wp2_with (go_at_call 35; refine HK.out.mono ?_)
              rintro e w7 ⟨c7, rfl, x7, o7, h7⟩
              have X7 := qh (X6.out.trans x7)
              have O7 := qh o7
              have H7 := qh h7
              rw [HQ9.out]
              clear x7 o7 h7 n0 n1 n2 n3 v0 v1 v2 v3
              go_wp2_with fail
              go_ret
              exact FIN6.out q _ c7 HQ9.out X7.out O7.out (fun h => H7.out (HQ9.out.trans h))
            · rw [hm] at HA
              have hz : (n.norm d box false true && decide (c + n.size ≤ 2000)) = false := by rw [HNM.out, hm]; simp
              have HZ := qh hz
              clear hz hm
              go_wp2_with (go_at_call 119; refine HA.out.mono ?_)
              rintro e w6 ⟨rfl, x6⟩
              have X6 := qh (XT.out.trans (x6.toB b))
              have O6 := qh (ON.out.ext x6)
              clear x6 n0 n1 n2 n3
              go_wp2_with fail
              go_ret
              exact FIN.out _ _ _ HZ.out X6.out O6.out (fun h => by cases h)
          · have e3 : (n.text.toList == ([] : List UInt8)) = false := text_some ht
            have hz : (n.norm d box false true && decide (c + n.size ≤ 2000)) = false := by rw [HNM.out]; simp [ht]
            have HZ := qh hz
            clear hz ht
            go_wp2_with fail
            go_ret
            exact FIN.out _ _ _ HZ.out XT.out ON.out (fun h => by cases h)
theorem lnode_of {w0 : World} {n : PN} (hT : Tabs w0) (hkids : KOk w0 n) (htx : n.text.size ≤ 100000) (hal : n.attrs.length ≤ 100000000000000) : NOk w0 n := by
  rcases clsT_range n.tag with h | h | h | h | h | h
  · exact lnode_0 h hT hkids htx hal
  · exact lnode_1 h hT hkids htx hal
  · exact lnode_2 h hT hkids htx hal
  · exact lnode_3 h hT hkids htx hal
  · exact lnode_4 h hT hkids htx hal
  · exact lnode_5 h hT hkids htx hal
theorem PN.lights_mem {l : List PN} (h : PN.lights l = true) {k : PN} (hk : k ∈ l) : k.light = true := by
  induction l with
  | nil => cases hk
  | cons x r ih =>
    simp only [PN.lights, Bool.and_eq_true] at h
    rcases List.mem_cons.1 hk with rfl | hk
    · exact h.1
    · exact ih h.2 hk
theorem lnode_any {w0 : World} (hT : Tabs w0) : ∀ n : PN, n.light = true → NOk w0 n := by
  refine PN.induct _ fun n ih hl => ?_
  rw [PN.light_eq] at hl
  simp only [Bool.and_eq_true, decide_eq_true_eq] at hl
  exact lnode_of hT (kids_of fun k hk => ih k hk (PN.lights_mem hl.2 hk)) (by omega) (by omega)
theorem lkids_any {w0 : World} (hT : Tabs w0) {n : PN} (hl : n.light = true) : KOk w0 n := by
  rw [PN.light_eq] at hl
  simp only [Bool.and_eq_true, decide_eq_true_eq] at hl
  exact kids_of fun k hk => lnode_any hT k (PN.lights_mem hl.2 hk)
theorem Normal_k (w : World) (n : PN) (v : Value) (hl : KOk w n) (hr : RdN w n v) (hc : n.cost ≤ 100000000000000) : Calls Tryz.prog 15 #[v] w (RBool n.whole w) := by
  obtain ⟨y1, y2, y3, y4, rfl⟩ := hr.shape
  have x1 := ((Ext.refl w).alloc (.cells #[.int .i64 n.tag, .slice y1 n.attrs.length y2, .string n.text, .slice y3 n.kids.length y4] 26))
  have bb := heap_alloc_new w (.cells #[.int .i64 n.tag, .slice y1 n.attrs.length y2, .string n.text, .slice y3 n.kids.length y4] 26)
  have HR := qh hr
  have HL := qh hl
  have HC := qh hc
  obtain ⟨r, hr9⟩ : ∃ r, n.whole = r := ⟨_, rfl⟩
  rw [hr9]
  have HR9 := qh hr9
  clear hr hl hc hr9
  go_enter Tryz.func15, Tryz.ntmps15
  go_upto_region 2 with fail
  obtain ⟨w1, hw1⟩ : ∃ w1 : World, w1 = w.alloc (.cells #[.int .i64 n.tag, .slice y1 n.attrs.length y2, .string n.text, .slice y3 n.kids.length y4] 26) := ⟨_, rfl⟩
  have hsz : w1.heap.size = w.heap.size + 1 := by rw [hw1]; simp
  rw [← hw1] at x1 bb ⊢
  clear hw1
  have x2 := x1.alloc (.cells #[.int .i64 1] 75)
  have b2 := ((Ext.refl w1).alloc (.cells #[.int .i64 1] 75)).block bb
  have o2 := One.at w1 (w.heap.size + 1) (.int .i64 1) 75 hsz.symm
  obtain ⟨w2, hw2⟩ : ∃ w2 : World, w2 = w1.alloc (.cells #[.int .i64 1] 75) := ⟨_, rfl⟩
  rw [← hw2] at x2 b2 o2 ⊢
  clear hw2 hsz bb x1
  have n0 := cellOf b2 (i := 0) (v := .int .i64 n.tag) rfl
  have n1 := cellOf b2 (i := 1) (v := .slice y1 n.attrs.length y2) rfl
  have n2 := cellOf b2 (i := 2) (v := .string n.text) rfl
  have n3 := cellOf b2 (i := 3) (v := .slice y3 n.kids.length y4) rfl
  have X2 := qh x2
  have B2 := qh b2
  have O2 := qh o2
  clear x2 b2 o2
  have h1 : (n.tag == 1) = true ∨ (n.tag == 1) = false := by cases (n.tag == 1); exact .inr rfl; exact .inl rfl
  rcases h1 with h1 | h1
  case inr =>
    have hr0 : r = false := by rw [← HR9.out]; unfold PN.whole; have : ¬ n.tag = 1 := by simpa using h1
                               rw [decide_eq_false this]; simp
    subst hr0
    go_wp2_with fail
    go_ret
    exact ⟨rfl, X2.out⟩
  have T1 := qh (show n.tag = 1 by simpa using h1)
  by_cases h2 : n.attrs.length = 0
  case neg =>
    have e2 : ((n.attrs.length : Int) == 0) = false := by simpa using h2
    have hr0 : r = false := by rw [← HR9.out]; unfold PN.whole; rw [isEmpty_no h2]; simp
    subst hr0
    clear h2
    go_wp2_with fail
    go_ret
    exact ⟨rfl, X2.out⟩
  have e2 : ((n.attrs.length : Int) == 0) = true := by simpa using h2
  have A2 := qh (show n.attrs.isEmpty = true from by rw [List.isEmpty_iff]; exact List.eq_nil_of_length_eq_zero h2)
  clear h2
  by_cases h3 : n.text.size = 0
  case neg =>
    have e3 : (n.text.toList == ([] : List UInt8)) = false := text_some h3
    have hr0 : r = false := by rw [← HR9.out]; unfold PN.whole; simp [h3]
    subst hr0
    clear h3
    go_wp2_with fail
    go_ret
    exact ⟨rfl, X2.out⟩
  have e3 : (n.text.toList == ([] : List UInt8)) = true := text_none h3
  have A3 := qh h3
  clear h3
  have HK := qh (HL.out (w.heap.size + 1) 1 1 true false false w2 _ HR.out X2.out (Nat.le_succ _) O2.out (by decide) (by decide) (by decide))
  obtain ⟨q, hq9⟩ : ∃ q, (PN.norms 1 true false false false n.kids && decide (1 + PN.sizes n.kids ≤ 2000)) = q := ⟨_, rfl⟩
  have HW := qh (show r = (q && decide (n.inner.length ≤ 8192)) from by
    rw [← HR9.out, ← hq9]
    unfold PN.whole
    rw [decide_eq_true T1.out, A2.out, A3.out, PN.size_eq, show PN.sizes n.kids + 1 = 1 + PN.sizes n.kids by omega]
    simp)
  have HQ9 := qh hq9
  clear hq9
  go_wp2_with (go_at_call 35; refine HK.out.mono ?_)
  rintro e w3 ⟨c3, rfl, x3, o3, h3⟩
  rw [HQ9.out]
  have hx3 : Ext w w3 := x3.ext X2.out (Nat.le_succ _)
  have hb3 := x3.heap B2.out (show w.heap.size ≠ w.heap.size + 1 by omega)
  have X3 := qh hx3
  clear x3 o3 h3 n0 n1 n2 n3
  cases q with
  | false =>
    have hr0 : r = false := by rw [HW.out]; rfl
    subst hr0
    clear hx3 hb3
    go_wp2_with fail
    go_ret
    exact ⟨rfl, X3.out⟩
  | true =>
    have n0 := cellOf hb3 (i := 0) (v := .int .i64 n.tag) rfl
    have n1 := cellOf hb3 (i := 1) (v := .slice y1 n.attrs.length y2) rfl
    have n2 := cellOf hb3 (i := 2) (v := .string n.text) rfl
    have n3 := cellOf hb3 (i := 3) (v := .slice y3 n.kids.length y4) rfl
    have HI := qh (Inner_any w3 n _ (HR.out.cells hx3.cells) HC.out)
    obtain ⟨s, hs⟩ : ∃ s : ByteArray, (⟨n.inner.toArray⟩ : ByteArray) = s := ⟨_, rfl⟩
    rw [hs] at HI
    have hsl : s.size = n.inner.length := by rw [← hs]; show n.inner.toArray.size = _; simp
    have HSL := qh hsl
    clear hs hx3 hb3 hsl
    by_cases h8 : s.size ≤ 8192
    · have h8' : (s.size : Int) ≤ 8192 := by omega
      have hr0 : r = true := by rw [HW.out, ← HSL.out, decide_eq_true h8]; rfl
      subst hr0
      clear h8
      go_wp2_with (go_at_call 17; refine HI.out.mono ?_)
      rintro e w4 ⟨rfl, x4⟩
      have X4 := qh (X3.out.trans x4)
      clear x4 n0 n1 n2 n3
      go_wp2_with fail
      go_ret
      exact ⟨rfl, X4.out⟩
    · have h8' : ¬ (s.size : Int) ≤ 8192 := by omega
      have hr0 : r = false := by rw [HW.out, ← HSL.out, decide_eq_false h8]; rfl
      subst hr0
      clear h8
      go_wp2_with (go_at_call 17; refine HI.out.mono ?_)
      rintro e w4 ⟨rfl, x4⟩
      have X4 := qh (X3.out.trans x4)
      clear x4 n0 n1 n2 n3
      go_wp2_with fail
      go_ret
      exact ⟨by simp [h8'], X4.out⟩
theorem Normal_any (w : World) (n : PN) (v : Value) (hT : Tabs w) (hr : RdN w n v) (hl : n.light = true) (hc : n.cost ≤ 100000000000000) : Calls Tryz.prog 15 #[v] w (RBool n.whole w) :=
  Normal_k w n v (lkids_any hT hl) hr hc
def PN.fit (n : PN) : Prop := n.light = true ∧ n.cost ≤ n.size * 400000
def Fits (n : PN) (left r : Int) : Prop := -200 ≤ r ∧ r ≤ 2500 ∧ (0 ≤ r → n.fit ∧ r + n.size ≤ left)
theorem costA_fit {l : List (ByteArray × ByteArray)} (h : ∀ a ∈ l, a.1.size ≤ 300 ∧ a.2.size ≤ 1000) : costA l ≤ l.length * 6304 := by
  induction l with
  | nil => simp [costA]
  | cons x r ih =>
    have h1 := h x (by simp)
    have h2 := ih fun a ha => h a (by simp [ha])
    simp only [costA, List.map_cons, List.sum_cons, List.length_cons] at h2 ⊢
    omega
theorem kids_fit {l : List PN} (h : ∀ k ∈ l, k.fit) : PN.lights l = true ∧ PN.costs l ≤ PN.sizes l * 400000 := by
  induction l with
  | nil => exact ⟨rfl, by simp [PN.costs]⟩
  | cons x r ih =>
    have h1 := h x (by simp)
    have h2 := ih fun a ha => h a (by simp [ha])
    refine ⟨by simp only [PN.lights, h1.1, h2.1, Bool.and_self], ?_⟩
    have := h1.2
    have := h2.2
    simp only [PN.costs, PN.sizes]
    omega
theorem fit_of {n : PN} (h1 : n.text.size ≤ 9000) (h2 : n.attrs.length ≤ 50) (h3 : ∀ a ∈ n.attrs, a.1.size ≤ 300 ∧ a.2.size ≤ 1000) (h4 : ∀ k ∈ n.kids, k.fit) : n.fit := by
  obtain ⟨a, b⟩ := kids_fit h4
  have c := costA_fit h3
  unfold PN.fit
  rw [PN.light_eq, PN.cost_eq, PN.size_eq]
  refine ⟨by simp only [a, Bool.and_true, Bool.and_eq_true, decide_eq_true_eq]; omega, ?_⟩
  unfold costA at c
  omega
def WOk (w0 : World) (n : PN) : Prop := ∀ (left : Int) (w : World) (v : Value), RdN w0 n v → Ext w0 w → 0 ≤ left → left ≤ 2500 →
  Calls Tryz.prog 34 #[v, .int .i64 left] w fun e w' => ∃ r : Int, e = .returned (.int .i64 r) ∧ Fits n left r ∧ Ext w w'
theorem tdiv_nat (a : Nat) : ((a : Int).tdiv 64) = ((a / 64 : Nat) : Int) := by rw [Int.tdiv_eq_ediv_of_nonneg (by omega)]; omega
theorem weigh_of {w0 : World} {n : PN} (ih : ∀ k ∈ n.kids, WOk w0 k) : WOk w0 n := by
  intro left w v hr hx hl0 hl1
  obtain ⟨av, kv, rfl, ha, hk⟩ := hr.open
  obtain ⟨ao, ac, rfl, _⟩ := ha.len_of
  obtain ⟨ka, kc, rfl, hk1, hk2, hk3, hk4⟩ := hk
  have x1 := ((Ext.refl w).alloc (.cells #[.int .i64 n.tag, .slice ao n.attrs.length ac, .string n.text, .slice ka n.kids.length kc] 26))
  have bb := heap_alloc_new w (.cells #[.int .i64 n.tag, .slice ao n.attrs.length ac, .string n.text, .slice ka n.kids.length kc] 26)
  have HK3 := qh hk3
  have HK4 := qh hk4
  have HIH := qh ih
  have HX := qh hx
  have HA := qh ha
  unfold maxLen at hk2
  clear hk3 hk4 ih hx hr ha
  have hw1 : IntKind.i64.wrap (left - 1) = left - 1 := by rw [IntWalk.i64_left, IntWalk.wrap64_in _ (by omega)]
  go_enter Tryz.func34, Tryz.ntmps34
  go_upto_region 2 with fail
  obtain ⟨w1, hw⟩ : ∃ w1 : World, w1 = w.alloc (.cells #[.int .i64 n.tag, .slice ao n.attrs.length ac, .string n.text, .slice ka n.kids.length kc] 26) := ⟨_, rfl⟩
  rw [← hw] at x1 bb ⊢
  clear hw hw1
  have n1 := cellOf bb (i := 1) (v := .slice ao n.attrs.length ac) rfl
  have n2 := cellOf bb (i := 2) (v := .string n.text) rfl
  have n3 := cellOf bb (i := 3) (v := .slice ka n.kids.length kc) rfl
  have X1 := qh x1
  have B1 := qh bb
  clear x1 bb
  by_cases h1 : n.text.size ≤ 9000
  case neg =>
    have e1 : (9000 : Int) < (n.text.size : Int) := by omega
    clear h1
    go_wp2_with fail
    go_ret
    exact ⟨-1, rfl, ⟨by decide, by decide, fun h => absurd h (by decide)⟩, X1.out⟩
  have e1 : ¬ (9000 : Int) < (n.text.size : Int) := by omega
  by_cases h2 : n.attrs.length ≤ 50
  case neg =>
    have e2 : (50 : Int) < (n.attrs.length : Int) := by omega
    clear h2
    go_wp2_with fail
    go_ret
    exact ⟨-1, rfl, ⟨by decide, by decide, fun h => absurd h (by decide)⟩, X1.out⟩
  have e2 : ¬ (50 : Int) < (n.attrs.length : Int) := by omega
  go_wp2_with fail
  clear n2 n3
  go_loop [5] (fun i => ∃ k : Nat, k ≤ n.attrs.length ∧ i = .int .i64 k ∧ ∀ (j : Nat) a, j < k → n.attrs[j]? = some a → a.1.size ≤ 300 ∧ a.2.size ≤ 1000) (fun i => n.attrs.length - (intOf i).toNat)
  case atStart => exact ⟨0, Nat.zero_le _, rfl, fun j a hj => absurd hj (Nat.not_lt_zero _)⟩
  case round =>
    obtain ⟨k, hk, rfl, hpre⟩ := hrel
    have HP := qh hpre
    clear hpre
    by_cases hlt : k < n.attrs.length
    · obtain ⟨p, hp⟩ : ∃ p, n.attrs[k]? = some p := ⟨n.attrs[k], by simp [hlt]⟩
      cases ao with
      | none =>
        obtain ⟨_, ao', cap', e, _, h0, _⟩ := HA.out
        cases e
        exact absurd (h0 rfl).1 (by omega)
      | some a =>
        obtain ⟨bk, off, sp⟩ := a
        obtain ⟨q0, q1⟩ := ((HA.out.ext HX.out).ext X1.out).attr hp
        rw [add_later _ _ _ (by decide)] at q1
        have KP := qh hp
        clear hp
        by_cases h3 : p.1.size ≤ 300
        case neg =>
          have e3 : (300 : Int) < (p.1.size : Int) := by omega
          clear h3
          go_wp2_with fail
          go_ret
          exact ⟨-1, rfl, ⟨by decide, by decide, fun h => absurd h (by decide)⟩, X1.out⟩
        have e3 : ¬ (300 : Int) < (p.1.size : Int) := by omega
        by_cases h4 : p.2.size ≤ 1000
        case neg =>
          have e4 : (1000 : Int) < (p.2.size : Int) := by omega
          clear h4 h3
          go_wp2_with fail
          go_ret
          exact ⟨-1, rfl, ⟨by decide, by decide, fun h => absurd h (by decide)⟩, X1.out⟩
        have e4 : ¬ (1000 : Int) < (p.2.size : Int) := by omega
        go_wp2_with fail
        go_round
        case rel =>
          refine ⟨k + 1, by omega, by go_num, fun j x hj hx => ?_⟩
          rcases Nat.lt_or_ge j k with h5 | h5
          · exact HP.out j x h5 hx
          · obtain rfl : j = k := by omega
            rw [KP.out] at hx
            cases hx
            exact ⟨h3, h4⟩
        case measure => simp [intOf]; omega
    · have hat : ∀ a ∈ n.attrs, a.1.size ≤ 300 ∧ a.2.size ≤ 1000 := fun a ha => by
        obtain ⟨j, hj⟩ := List.mem_iff_getElem?.1 ha
        exact HP.out j a (by have := (List.getElem?_eq_some_iff.1 hj).1; omega) hj
      have HAT := qh hat
      have n2 := cellOf B1.out (i := 2) (v := .string n.text) rfl
      have n3 := cellOf B1.out (i := 3) (v := .slice ka n.kids.length kc) rfl
      have hd : (n.text.size : Int).tdiv 64 = ((n.text.size / 64 : Nat) : Int) := tdiv_nat _
      obtain ⟨t, ht⟩ : ∃ t : Nat, n.text.size / 64 = t := ⟨_, rfl⟩
      have ht2 : t ≤ 150 := by omega
      rw [ht] at hd
      have hw2 : IntKind.i64.wrap ((t : Int)) = (t : Int) := by rw [IntWalk.i64_left, IntWalk.wrap64_in _ (by omega)]
      have hw3 : IntKind.i64.wrap (left - 1 - (t : Int)) = left - 1 - (t : Int) := by rw [IntWalk.i64_left, IntWalk.wrap64_in _ (by omega)]
      clear hat ht
      go_wp2_with fail
      have H1 := qh h1
      have H2 := qh h2
      have HT2 := qh ht2
      clear n1 n2 n3 hd hw2 hw3 h1 h2 ht2 e1 e2
      go_loopw [1, 6] (fun lv i wr => ∃ (k : Nat) (lk : Int), k ≤ n.kids.length ∧ lv = .int .i64 lk ∧ i = .int .i64 k ∧ Ext w1 wr ∧ (-200 ≤ lk ∧ lk ≤ 2500) ∧ (0 ≤ lk → (∀ (j : Nat) x, j < k → n.kids[j]? = some x → x.fit) ∧ lk + PN.sizes (n.kids.take k) + 1 ≤ left)) (fun _ i _ => n.kids.length - (intOf i).toNat)
      case atStart => exact ⟨0, left - 1 - t, Nat.zero_le _, rfl, rfl, Ext.refl _, by have := HT2.out; omega, fun h => ⟨fun j x hj => absurd hj (Nat.not_lt_zero _), by simp [PN.sizes]; omega⟩⟩
      case round =>
        obtain ⟨k, lk, hk, rfl, rfl, xr, hlk, hpre⟩ := hrel
        have HP := qh hpre
        have XR := qh (X1.out.trans xr)
        have XRR := qh xr
        have n3 := xr.cell (cellOf B1.out (i := 3) (v := .slice ka n.kids.length kc) rfl)
        clear hpre xr
        by_cases hlt : k < n.kids.length
        · by_cases hneg : (0 : Int) ≤ lk
          · obtain ⟨x, hx⟩ : ∃ x, n.kids[k]? = some x := ⟨n.kids[k], by simp [hlt]⟩
            cases ka with
            | none => exact absurd (HK3.out rfl).1 (by omega)
            | some a =>
              obtain ⟨bk, off, sp⟩ := a
              obtain ⟨c0', c1', c2', c3', q0, q1, q2, q3, hrd⟩ := HK4.out _ rfl k x hx
              obtain ⟨y1, y2, y3, y4, en⟩ := hrd.shape
              cases en
              have hxx : Ext w0 wr := HX.out.trans XR.out
              replace q0 := hxx.cells _ _ q0
              replace q1 := hxx.cells _ _ q1
              replace q2 := hxx.cells _ _ q2
              replace q3 := hxx.cells _ _ q3
              rw [add_later _ _ _ (by decide)] at q1 q2 q3
              have HC := qh (HIH.out x (List.mem_of_getElem? hx) lk wr _ hrd hxx hneg hlk.2)
              have KX := qh hx
              clear hrd hxx hx
              go_wp2_with fail
              refine HC.out.mono ?_
              rintro e w4 ⟨r, rfl, hf, x4⟩
              have HF := qh hf
              have X4 := qh (XRR.out.trans x4)
              clear hf x4 q0 q1 q2 q3 n3
              go_wp2_with fail
              go_roundw
              case rel =>
                refine ⟨k + 1, r, by omega, rfl, by go_num, X4.out, ⟨HF.out.1, HF.out.2.1⟩, fun h0 => ?_⟩
                obtain ⟨a1, a2⟩ := HP.out hneg
                obtain ⟨b1, b2⟩ := HF.out.2.2 h0
                have hs : PN.sizes (n.kids.take (k + 1)) = PN.sizes (n.kids.take k) + x.size := by
                  obtain ⟨hlt', hxe⟩ := List.getElem?_eq_some_iff.1 KX.out
                  rw [List.take_succ_eq_append_getElem hlt', hxe, sizes_append]; simp [PN.sizes]
                refine ⟨fun j y hj hy => ?_, by rw [hs]; omega⟩
                rcases Nat.lt_or_ge j k with h5 | h5
                · exact a1 j y h5 hy
                · obtain rfl : j = k := by omega
                  rw [KX.out] at hy
                  cases hy
                  exact b1
              case measure => simp [intOf]; omega
          · go_wp2_with fail
            go_ret
            exact ⟨lk, rfl, ⟨hlk.1, hlk.2, fun h => absurd h (by omega)⟩, XR.out⟩
        · obtain rfl : k = n.kids.length := by omega
          go_wp2_with fail
          go_ret
          refine ⟨lk, rfl, ⟨hlk.1, hlk.2, fun h => ?_⟩, XR.out⟩
          obtain ⟨a1, a2⟩ := HP.out h
          rw [List.take_length] at a2
          refine ⟨fit_of H1.out H2.out HAT.out fun y hy => ?_, by rw [PN.size_eq]; omega⟩
          obtain ⟨j, hj⟩ := List.mem_iff_getElem?.1 hy
          exact a1 j y (List.getElem?_eq_some_iff.1 hj).1 hj
theorem weigh_any (w0 : World) : ∀ n : PN, WOk w0 n := by
  refine PN.induct _ fun n ih => weigh_of ih
theorem heavy_any (n : PN) (v : Value) (w : World) (hr : RdN w n v) : Calls Tryz.prog 14 #[v] w fun e w' => ∃ b : Bool, e = .returned (.bool b) ∧ (b = false → n.fit ∧ n.size ≤ 2500) ∧ Ext w w' := by
  obtain ⟨y1, y2, y3, y4, rfl⟩ := hr.shape
  have x1 := ((Ext.refl w).alloc (.cells #[.int .i64 n.tag, .slice y1 n.attrs.length y2, .string n.text, .slice y3 n.kids.length y4] 26))
  have bb := heap_alloc_new w (.cells #[.int .i64 n.tag, .slice y1 n.attrs.length y2, .string n.text, .slice y3 n.kids.length y4] 26)
  have HR := qh hr
  clear hr
  go_enter Tryz.func14, Tryz.ntmps14
  go_upto_region 1 with fail
  obtain ⟨w1, hw⟩ : ∃ w1 : World, w1 = w.alloc (.cells #[.int .i64 n.tag, .slice y1 n.attrs.length y2, .string n.text, .slice y3 n.kids.length y4] 26) := ⟨_, rfl⟩
  rw [← hw] at x1 bb ⊢
  clear hw
  have n0 := cellOf bb (i := 0) (v := .int .i64 n.tag) rfl
  have n1 := cellOf bb (i := 1) (v := .slice y1 n.attrs.length y2) rfl
  have n2 := cellOf bb (i := 2) (v := .string n.text) rfl
  have n3 := cellOf bb (i := 3) (v := .slice y3 n.kids.length y4) rfl
  have HC := qh (weigh_any w n 2500 w1 _ HR.out x1 (by decide) (by decide))
  have X1 := qh x1
  clear x1 bb
  go_wp2_with fail
  refine HC.out.mono ?_
  rintro e w2 ⟨r, rfl, hf, x2⟩
  have HF := qh hf
  have X2 := qh (X1.out.trans x2)
  clear hf x2 n0 n1 n2 n3
  go_wp2_with fail
  go_ret
  refine ⟨decide (r < 0), rfl, fun h => ?_, X2.out⟩
  have h0 : 0 ≤ r := by simpa using h
  obtain ⟨a, b⟩ := HF.out.2.2 h0
  exact ⟨a, by omega⟩
def pxT : PN := .mk 0 [] ⟨#[120, 60, 121]⟩ []
def pxB : PN := .mk 11 [] ⟨#[]⟩ [pxT]
def pxR : PN := .mk 16 [] ⟨#[]⟩ []
def pxP : PN := .mk 2 [] ⟨#[]⟩ [pxB, pxR]
def pxN : PN := .mk 1 [] ⟨#[]⟩ [pxP]
theorem ex_inner : pxN.inner = [60, 112, 62, 60, 98, 62, 120, 38, 108, 116, 59, 121, 60, 47, 98, 62, 60, 98, 114, 62, 60, 47, 112, 62] := by decide +kernel
theorem ex_whole : pxN.whole = true := by decide +kernel
def twoT (s t : ByteArray) : PN := .mk 1 [] ⟨#[]⟩ [.mk 0 [] s [], .mk 0 [] t []]
theorem ex_two : (twoT ⟨#[97]⟩ ⟨#[98]⟩).whole = false := by decide +kernel
theorem emptyRow0 (w : World) : RowRd w 2 (.slice none 0 0) 0 (attrCells []) := ⟨rfl, none, 0, rfl, Nat.le_refl _, fun _ => ⟨rfl, rfl⟩, fun a ha => by cases ha⟩
theorem RdN.leaf (w : World) (t : Int) (s : ByteArray) : RdN w (.mk t [] s []) (.agg #[.int .i64 t, .slice none 0 0, .string s, .slice none 0 0]) :=
  RdN.mk' (n := .mk t [] s []) (emptyRow0 w) ⟨none, 0, rfl, Nat.le_refl _, Nat.zero_le _, fun _ => ⟨rfl, rfl⟩, fun a h => by cases h⟩
theorem RdN.kid1 {w : World} {b : Nat} {t : Int} {s : ByteArray} {k : PN} {c0 c1 c2 c3 : Value} {ty : TypeId} (hb : w.heap[b]? = some (.cells #[c0, c1, c2, c3] ty (0, 0))) (hk : RdN w k (.agg #[c0, c1, c2, c3])) :
    RdN w (.mk t [] s [k]) (.agg #[.int .i64 t, .slice none 0 0, .string s, .slice (some ⟨b, 0, none⟩) 1 1]) := by
  refine RdN.mk' (n := .mk t [] s [k]) (emptyRow0 w) ⟨some ⟨b, 0, none⟩, 1, rfl, Nat.le_refl _, by decide, (fun h => by cases h), fun a ha j x hx => ?_⟩
  cases ha
  have hx' : [k][j]? = some x := hx
  cases j with
  | zero =>
    simp at hx'
    subst hx'
    exact ⟨c0, c1, c2, c3, cellOf hb (i := 0) rfl, cellOf hb (i := 1) rfl, cellOf hb (i := 2) rfl, cellOf hb (i := 3) rfl, hk⟩
  | succ j => simp at hx'
theorem RdN.kid2 {w : World} {b : Nat} {t : Int} {s : ByteArray} {k l : PN} {c0 c1 c2 c3 d0 d1 d2 d3 : Value} {ty : TypeId} (hb : w.heap[b]? = some (.cells #[c0, c1, c2, c3, d0, d1, d2, d3] ty (0, 0))) (hk : RdN w k (.agg #[c0, c1, c2, c3])) (hl : RdN w l (.agg #[d0, d1, d2, d3])) :
    RdN w (.mk t [] s [k, l]) (.agg #[.int .i64 t, .slice none 0 0, .string s, .slice (some ⟨b, 0, none⟩) 2 2]) := by
  refine RdN.mk' (n := .mk t [] s [k, l]) (emptyRow0 w) ⟨some ⟨b, 0, none⟩, 2, rfl, Nat.le_refl _, by decide, (fun h => by cases h), fun a ha j x hx => ?_⟩
  cases ha
  have hx' : [k, l][j]? = some x := hx
  match j, hx' with
  | 0, hx' =>
    simp at hx'
    subst hx'
    exact ⟨c0, c1, c2, c3, cellOf hb (i := 0) rfl, cellOf hb (i := 1) rfl, cellOf hb (i := 2) rfl, cellOf hb (i := 3) rfl, hk⟩
  | 1, hx' =>
    simp at hx'
    subst hx'
    exact ⟨d0, d1, d2, d3, cellOf hb (i := 4) rfl, cellOf hb (i := 5) rfl, cellOf hb (i := 6) rfl, cellOf hb (i := 7) rfl, hl⟩
  | j + 2, hx' => simp at hx'
def Ex16 (w : World) (e : Ending) (w' : World) : Prop := ∃ v, e = .returned v ∧ RdN w' pxN v ∧ Ext w w'
theorem example_any (w : World) : Calls Tryz.prog 36 #[] w (Ex16 w) := by
  have x0 := ((Ext.refl w).alloc (.cells #[.int .i64 0, .slice none 0 0, .string ⟨#[]⟩, .slice none 0 0] 26))
  have bb := heap_alloc_new w (.cells #[.int .i64 0, .slice none 0 0, .string ⟨#[]⟩, .slice none 0 0] 26)
  go_enter Tryz.func36, Tryz.ntmps36
  go_upto_region 1 with fail
  obtain ⟨w1, hw⟩ : ∃ w1 : World, w1 = w.alloc (.cells #[.int .i64 0, .slice none 0 0, .string ⟨#[]⟩, .slice none 0 0] 26) := ⟨_, rfl⟩
  rw [← hw] at x0 bb ⊢
  clear hw
  have hb0 : w.heap.size < w1.heap.size := (Array.getElem?_eq_some_iff.1 bb).1
  obtain ⟨s1, hs1⟩ : ∃ s, w1.heap.size = s := ⟨_, rfl⟩
  rw [hs1] at hb0
  have xw : Ext w1 (((w1.alloc (.cells #[.int .i64 0, .slice none 0 0, .string ⟨#[120, 60, 121]⟩, .slice none 0 0] 26)).alloc (.cells #[.int .i64 11, .slice none 0 0, .string ⟨#[]⟩, .slice (some ⟨s1, 0, none⟩) 1 1, .int .i64 16, .slice none 0 0, .string ⟨#[]⟩, .slice none 0 0] 26)).alloc (.cells #[.int .i64 2, .slice none 0 0, .string ⟨#[]⟩, .slice (some ⟨s1 + 1, 0, none⟩) 2 2] 26)) := (((Ext.refl w1).alloc (.cells #[.int .i64 0, .slice none 0 0, .string ⟨#[120, 60, 121]⟩, .slice none 0 0] 26)).alloc (.cells #[.int .i64 11, .slice none 0 0, .string ⟨#[]⟩, .slice (some ⟨s1, 0, none⟩) 1 1, .int .i64 16, .slice none 0 0, .string ⟨#[]⟩, .slice none 0 0] 26)).alloc (.cells #[.int .i64 2, .slice none 0 0, .string ⟨#[]⟩, .slice (some ⟨s1 + 1, 0, none⟩) 2 2] 26)
  have g1 : (((w1.alloc (.cells #[.int .i64 0, .slice none 0 0, .string ⟨#[120, 60, 121]⟩, .slice none 0 0] 26)).alloc (.cells #[.int .i64 11, .slice none 0 0, .string ⟨#[]⟩, .slice (some ⟨s1, 0, none⟩) 1 1, .int .i64 16, .slice none 0 0, .string ⟨#[]⟩, .slice none 0 0] 26)).alloc (.cells #[.int .i64 2, .slice none 0 0, .string ⟨#[]⟩, .slice (some ⟨s1 + 1, 0, none⟩) 2 2] 26)).heap[s1]? = some (.cells #[.int .i64 0, .slice none 0 0, .string ⟨#[120, 60, 121]⟩, .slice none 0 0] 26) := by
    have := ((((Ext.refl (w1.alloc (.cells #[.int .i64 0, .slice none 0 0, .string ⟨#[120, 60, 121]⟩, .slice none 0 0] 26))).alloc (.cells #[.int .i64 11, .slice none 0 0, .string ⟨#[]⟩, .slice (some ⟨s1, 0, none⟩) 1 1, .int .i64 16, .slice none 0 0, .string ⟨#[]⟩, .slice none 0 0] 26)).alloc (.cells #[.int .i64 2, .slice none 0 0, .string ⟨#[]⟩, .slice (some ⟨s1 + 1, 0, none⟩) 2 2] 26))).block (heap_alloc_new w1 (.cells #[.int .i64 0, .slice none 0 0, .string ⟨#[120, 60, 121]⟩, .slice none 0 0] 26))
    rw [hs1] at this; exact this
  have g2 : (((w1.alloc (.cells #[.int .i64 0, .slice none 0 0, .string ⟨#[120, 60, 121]⟩, .slice none 0 0] 26)).alloc (.cells #[.int .i64 11, .slice none 0 0, .string ⟨#[]⟩, .slice (some ⟨s1, 0, none⟩) 1 1, .int .i64 16, .slice none 0 0, .string ⟨#[]⟩, .slice none 0 0] 26)).alloc (.cells #[.int .i64 2, .slice none 0 0, .string ⟨#[]⟩, .slice (some ⟨s1 + 1, 0, none⟩) 2 2] 26)).heap[s1 + 1]? = some (.cells #[.int .i64 11, .slice none 0 0, .string ⟨#[]⟩, .slice (some ⟨s1, 0, none⟩) 1 1, .int .i64 16, .slice none 0 0, .string ⟨#[]⟩, .slice none 0 0] 26) := by
    have := (((Ext.refl ((w1.alloc (.cells #[.int .i64 0, .slice none 0 0, .string ⟨#[120, 60, 121]⟩, .slice none 0 0] 26)).alloc (.cells #[.int .i64 11, .slice none 0 0, .string ⟨#[]⟩, .slice (some ⟨s1, 0, none⟩) 1 1, .int .i64 16, .slice none 0 0, .string ⟨#[]⟩, .slice none 0 0] 26))).alloc (.cells #[.int .i64 2, .slice none 0 0, .string ⟨#[]⟩, .slice (some ⟨s1 + 1, 0, none⟩) 2 2] 26))).block (heap_alloc_new (w1.alloc (.cells #[.int .i64 0, .slice none 0 0, .string ⟨#[120, 60, 121]⟩, .slice none 0 0] 26)) (.cells #[.int .i64 11, .slice none 0 0, .string ⟨#[]⟩, .slice (some ⟨s1, 0, none⟩) 1 1, .int .i64 16, .slice none 0 0, .string ⟨#[]⟩, .slice none 0 0] 26))
    have e : (w1.alloc (.cells #[.int .i64 0, .slice none 0 0, .string ⟨#[120, 60, 121]⟩, .slice none 0 0] 26)).heap.size = s1 + 1 := by simp [hs1]
    rw [e] at this; exact this
  have g3 : (((w1.alloc (.cells #[.int .i64 0, .slice none 0 0, .string ⟨#[120, 60, 121]⟩, .slice none 0 0] 26)).alloc (.cells #[.int .i64 11, .slice none 0 0, .string ⟨#[]⟩, .slice (some ⟨s1, 0, none⟩) 1 1, .int .i64 16, .slice none 0 0, .string ⟨#[]⟩, .slice none 0 0] 26)).alloc (.cells #[.int .i64 2, .slice none 0 0, .string ⟨#[]⟩, .slice (some ⟨s1 + 1, 0, none⟩) 2 2] 26)).heap[s1 + 1 + 1]? = some (.cells #[.int .i64 2, .slice none 0 0, .string ⟨#[]⟩, .slice (some ⟨s1 + 1, 0, none⟩) 2 2] 26) := by
    have := heap_alloc_new ((w1.alloc (.cells #[.int .i64 0, .slice none 0 0, .string ⟨#[120, 60, 121]⟩, .slice none 0 0] 26)).alloc (.cells #[.int .i64 11, .slice none 0 0, .string ⟨#[]⟩, .slice (some ⟨s1, 0, none⟩) 1 1, .int .i64 16, .slice none 0 0, .string ⟨#[]⟩, .slice none 0 0] 26)) (.cells #[.int .i64 2, .slice none 0 0, .string ⟨#[]⟩, .slice (some ⟨s1 + 1, 0, none⟩) 2 2] 26)
    have e : ((w1.alloc (.cells #[.int .i64 0, .slice none 0 0, .string ⟨#[120, 60, 121]⟩, .slice none 0 0] 26)).alloc (.cells #[.int .i64 11, .slice none 0 0, .string ⟨#[]⟩, .slice (some ⟨s1, 0, none⟩) 1 1, .int .i64 16, .slice none 0 0, .string ⟨#[]⟩, .slice none 0 0] 26)).heap.size = s1 + 1 + 1 := by simp [hs1]
    rw [e] at this; exact this
  have bw := xw.block bb
  have c0 := cellOf bw (i := 0) (v := .int .i64 0) rfl
  have c1 := cellOf bw (i := 1) (v := .slice none 0 0) rfl
  have c2 := cellOf bw (i := 2) (v := .string ⟨#[]⟩) rfl
  have c3 := cellOf bw (i := 3) (v := .slice none 0 0) rfl
  have f0 := freeOf bw 0
  have f1 := freeOf bw 1
  have f2 := freeOf bw 2
  have f3 := freeOf bw 3
  have XW := qh (x0.trans xw)
  have BW := qh bw
  have G := qh (And.intro g1 (And.intro g2 g3))
  have HB0 := qh hb0
  clear g1 g2 g3 bw xw x0 bb hb0
  go_wp2_with fail
  obtain ⟨wf, hwf⟩ : ∃ wf : World, wf = (((w1.alloc (.cells #[.int .i64 0, .slice none 0 0, .string ⟨#[120, 60, 121]⟩, .slice none 0 0] 26)).alloc (.cells #[.int .i64 11, .slice none 0 0, .string ⟨#[]⟩, .slice (some ⟨s1, 0, none⟩) 1 1, .int .i64 16, .slice none 0 0, .string ⟨#[]⟩, .slice none 0 0] 26)).alloc (.cells #[.int .i64 2, .slice none 0 0, .string ⟨#[]⟩, .slice (some ⟨s1 + 1, 0, none⟩) 2 2] 26)) := ⟨_, rfl⟩
  rw [← hwf] at XW BW G ⊢
  clear c0 c1 c2 c3 f0 f1 f2 f3
  have hrow := heap_setCell_same (heap_setCell_same (heap_setCell_same (heap_setCell_same BW.out (i := 0) (.int .i64 1)) (i := 1) (.slice none 0 0)) (i := 2) (.string ⟨#[]⟩)) (i := 3) (.slice (some ⟨s1 + 1 + 1, 0, none⟩) 1 1)
  have hlv := run_loadVar_row (P := Tryz.prog) _ w.heap.size 26 26 #[.int .i64 1, .slice none 0 0, .string ⟨#[]⟩, .slice (some ⟨s1 + 1 + 1, 0, none⟩) 1 1] (0, 0) _ hrow Tryz.underlying26 rfl (by kernel_rfl)
  refine bodyPost_ret (v := .agg #[.int .i64 1, .slice none 0 0, .string ⟨#[]⟩, .slice (some ⟨s1 + 1 + 1, 0, none⟩) 1 1]) (by simp [results, Tryz.results36, asAddr, hlv]) rfl ?_
  have oth : ∀ (g : Nat) (v0 v1 v2 v3 : Value), s1 ≤ g → ((((wf.setCell ⟨w.heap.size, 0, none⟩ v0).setCell ⟨w.heap.size, 1, none⟩ v1).setCell ⟨w.heap.size, 2, none⟩ v2).setCell ⟨w.heap.size, 3, none⟩ v3).heap[g]? = wf.heap[g]? := by
    intro g v0 v1 v2 v3 hg
    have hne : g ≠ w.heap.size := by have := HB0.out; omega
    rw [heap_setCell_other (p := ⟨w.heap.size, 3, none⟩) _ hne, heap_setCell_other (p := ⟨w.heap.size, 2, none⟩) _ hne, heap_setCell_other (p := ⟨w.heap.size, 1, none⟩) _ hne, heap_setCell_other (p := ⟨w.heap.size, 0, none⟩) _ hne]
  refine ⟨_, rfl, ?_, (((XW.out.setCell (p := ⟨w.heap.size, 0, none⟩) (Nat.le_refl _) _).setCell (p := ⟨w.heap.size, 1, none⟩) (Nat.le_refl _) _).setCell (p := ⟨w.heap.size, 2, none⟩) (Nat.le_refl _) _).setCell (p := ⟨w.heap.size, 3, none⟩) (Nat.le_refl _) _⟩
  exact RdN.kid1 ((oth _ _ _ _ _ (by omega)).trans G.out.2.2) (RdN.kid2 ((oth _ _ _ _ _ (by omega)).trans G.out.2.1) (RdN.kid1 ((oth _ _ _ _ _ (by omega)).trans G.out.1) (RdN.leaf _ 0 _)) (RdN.leaf _ 16 _))
theorem pxN_light : pxN.light = true := by decide +kernel
theorem pxN_cost : pxN.cost ≤ 100000000000000 := by decide +kernel
theorem two_light : (twoT ⟨#[97]⟩ ⟨#[98]⟩).light = true := by decide +kernel
theorem two_cost : (twoT ⟨#[97]⟩ ⟨#[98]⟩).cost ≤ 100000000000000 := by decide +kernel
theorem awake_any (w : World) (hT : Tabs w) : Calls Tryz.prog 16 #[] w (RBool true w) := by
  have HT := qh hT
  clear hT
  go_enter Tryz.func16, Tryz.ntmps16
  go_wp2_with fail
  refine (example_any _).mono ?_
  rintro e w1 ⟨v, rfl, hr, x1⟩
  obtain ⟨y1, y2, y3, y4, rfl⟩ := hr.shape
  have x2 := x1.alloc (.cells #[.int .i64 pxN.tag, .slice y1 pxN.attrs.length y2, .string pxN.text, .slice y3 pxN.kids.length y4] 26)
  have bb := heap_alloc_new w1 (.cells #[.int .i64 pxN.tag, .slice y1 pxN.attrs.length y2, .string pxN.text, .slice y3 pxN.kids.length y4] 26)
  have hr2 := hr.cells ((Ext.refl w1).alloc (.cells #[.int .i64 pxN.tag, .slice y1 pxN.attrs.length y2, .string pxN.text, .slice y3 pxN.kids.length y4] 26)).cells
  generalize pxN.tag = z0 at *
  generalize pxN.attrs.length = z1 at *
  generalize pxN.text = z2 at *
  generalize pxN.kids.length = z3 at *
  have HR := qh hr2
  have X2 := qh x2
  have BB := qh bb
  clear hr hr2 x1 x2 bb
  go_upto_region 2 with fail
  obtain ⟨w2, hw2⟩ : ∃ w2 : World, w2 = w1.alloc (.cells #[.int .i64 z0, .slice y1 z1 y2, .string z2, .slice y3 z3 y4] 26) := ⟨_, rfl⟩
  rw [← hw2] at HR X2 BB ⊢
  clear hw2
  have n0 := cellOf BB.out (i := 0) (v := .int .i64 z0) rfl
  have n1 := cellOf BB.out (i := 1) (v := .slice y1 z1 y2) rfl
  have n2 := cellOf BB.out (i := 2) (v := .string z2) rfl
  have n3 := cellOf BB.out (i := 3) (v := .slice y3 z3 y4) rfl
  have hI := Inner_any w2 pxN _ HR.out pxN_cost
  rw [ex_inner] at hI
  have HI := qh hI
  clear hI
  go_wp2_with fail
  refine HI.out.mono ?_
  rintro e w3 ⟨rfl, x3⟩
  have n0 := x3.cell n0
  have n1 := x3.cell n1
  have n2 := x3.cell n2
  have n3 := x3.cell n3
  have X3 := qh (X2.out.trans x3)
  have hN := Normal_any w3 pxN _ (HT.out.ext X3.out) (HR.out.cells x3.cells) pxN_light pxN_cost
  rw [ex_whole] at hN
  have HN := qh hN
  clear x3 hN
  go_wp2_with (go_at_call 15; refine HN.out.mono ?_)
  rintro e w4 ⟨rfl, x4⟩
  have X4 := qh (X3.out.trans x4)
  clear x4 n0 n1 n2 n3
  have xk := (Ext.refl w4).alloc (.cells #[.int .i64 0, .slice none 0 0, .string ⟨#[97]⟩, .slice none 0 0, .int .i64 0, .slice none 0 0, .string ⟨#[98]⟩, .slice none 0 0] 26)
  have hk := heap_alloc_new w4 (.cells #[.int .i64 0, .slice none 0 0, .string ⟨#[97]⟩, .slice none 0 0, .int .i64 0, .slice none 0 0, .string ⟨#[98]⟩, .slice none 0 0] 26)
  have hrk : RdN (w4.alloc (.cells #[.int .i64 0, .slice none 0 0, .string ⟨#[97]⟩, .slice none 0 0, .int .i64 0, .slice none 0 0, .string ⟨#[98]⟩, .slice none 0 0] 26)) (twoT ⟨#[97]⟩ ⟨#[98]⟩) (.agg #[.int .i64 1, .slice none 0 0, .string ⟨#[]⟩, .slice (some ⟨w4.heap.size, 0, none⟩) 2 2]) :=
    RdN.kid2 hk (RdN.leaf _ 0 _) (RdN.leaf _ 0 _)
  have hN2 := Normal_any _ _ _ (HT.out.ext (X4.out.trans xk)) hrk two_light two_cost
  rw [ex_two] at hN2
  have HN2 := qh hN2
  have XK := qh (X4.out.trans xk)
  clear xk hk hrk hN2
  go_wp2_with (go_at_call 15; refine HN2.out.mono ?_)
  rintro e w5 ⟨rfl, x5⟩
  have X5 := qh (XK.out.trans x5)
  clear x5
  go_wp2_with fail
  go_ret
  exact ⟨rfl, X5.out⟩
end Go.Proofs.YtalaajbajgdglaaGreatDoor
namespace Go.Proofs.YtalaajbajgdglaaGreatDoor
open Go Go.RowKit Go.BigFrame We
theorem fit_cost {n : PN} (h : n.fit) (k : n.size ≤ 2500) : n.cost ≤ 100000000000000 := by
  have := h.2
  have : n.size * 400000 ≤ 2500 * 400000 := Nat.mul_le_mul_right _ k
  omega
theorem whole_back {n : PN} (h : n.whole = true) : hostZ (tokens n.inner) = n ∧ anewB (bs n.inner) = bs n.inner ∧ n.inner.length ≤ 8192 := by
  obtain ⟨t, a, s, ks⟩ := n
  unfold PN.whole at h
  simp only [Bool.and_eq_true, decide_eq_true_eq, PN.tag, PN.attrs, PN.text, PN.kids, List.isEmpty_iff, beq_iff_eq] at h
  obtain ⟨⟨⟨⟨⟨e1, rfl⟩, hs⟩, hk⟩, hz⟩, hl⟩ := h
  obtain rfl : t = 1 := of_decide_eq_true e1
  obtain rfl := empty_of hs
  have e : (PN.mk 1 [] ⟨#[]⟩ ks).inner = PN.outers ks := rfl
  have hz' : PN.sizes ks + 1 ≤ 2000 := by
    have := (PN.mk 1 [] ⟨#[]⟩ ks).size_eq
    simp only [PN.kids] at this
    omega
  exact ⟨by rw [e]; exact host_of hk hz', by rw [e]; exact (norms_anew _ _ _ _ _ _ _ (Nat.le_refl _) hk).anew, hl⟩
theorem host_back {n : PN} (h : n.whole = true) (w : World) (hl : LW w) : Calls Tryz.prog 10 #[.string (bs n.inner)] w (fun e w' => ∃ v, e = .returned (.tuple #[v, .int .i64 0]) ∧ Ext w w' ∧ RdN w' n v) := by
  obtain ⟨h1, h2, h3⟩ := whole_back h
  have h0 := Host_any (bs n.inner) (by rw [bs_size]; omega) w hl
  rw [h2] at h0
  exact h0.mono fun e w' h => Host_short h (by rw [bs_size]; exact h3) (by rw [bs_data]; exact h1)
theorem printBack_walk (n : PN) (v : Value) (w : World) (hr : RdN w n v) (hl : LW w) : Calls Tryz.prog 5 #[v] w (RBool true w) := by
  have HAW := qh (fun W (hW : LW W) => awake_any W hW.tabs)
  obtain ⟨y1, y2, y3, y4, rfl⟩ := hr.shape
  have x1 := ((Ext.refl w).alloc (.cells #[.int .i64 n.tag, .slice y1 n.attrs.length y2, .string n.text, .slice y3 n.kids.length y4] 26))
  have bb := heap_alloc_new w (.cells #[.int .i64 n.tag, .slice y1 n.attrs.length y2, .string n.text, .slice y3 n.kids.length y4] 26)
  have HR := qh hr
  have HL := qh hl
  clear hr hl
  go_enter Tryz.func5, Tryz.ntmps5
  go_upto_region 1 with fail
  obtain ⟨w1, hw1⟩ : ∃ w1 : World, w1 = w.alloc (.cells #[.int .i64 n.tag, .slice y1 n.attrs.length y2, .string n.text, .slice y3 n.kids.length y4] 26) := ⟨_, rfl⟩
  rw [← hw1] at x1 bb ⊢
  clear hw1
  obtain ⟨ab, hab⟩ : ∃ ab, w.heap.size = ab := ⟨_, rfl⟩
  rw [hab] at bb ⊢
  clear hab
  have n0 := cellOf bb (i := 0) (v := .int .i64 n.tag) rfl
  have n1 := cellOf bb (i := 1) (v := .slice y1 n.attrs.length y2) rfl
  have n2 := cellOf bb (i := 2) (v := .string n.text) rfl
  have n3 := cellOf bb (i := 3) (v := .slice y3 n.kids.length y4) rfl
  have X1 := qh x1
  have BN := qh bb
  have HH := qh (heavy_any n _ w1 (HR.out.cells x1.cells))
  clear x1 bb
  go_wp2_with (go_at_call 14; refine HH.out.mono ?_)
  rintro e w3 ⟨bn, rfl, hbn, x3⟩
  have X3 := qh (X1.out.trans x3)
  have HBN := qh hbn
  replace n0 := x3.cell n0
  replace n1 := x3.cell n1
  replace n2 := x3.cell n2
  replace n3 := x3.cell n3
  have B3 := qh (x3.block BN.out)
  clear hbn x3
  cases bn with
  | true =>
    clear n0 n1 n2 n3
    go_wp2_with (go_at_call 16; refine (HAW.out _ (HL.out.ext X3.out)).mono ?_)
    rintro e w4 ⟨rfl, x4⟩
    go_wp2_with fail
    go_ret
    exact ⟨rfl, X3.out.trans x4⟩
  | false =>
    obtain ⟨fn1, fn2⟩ := HBN.out (by first | rfl | trivial)
    have cn := fit_cost fn1 fn2
    have HNO := qh (Normal_any w3 n _ (HL.out.ext X3.out).tabs (HR.out.cells X3.out.cells) fn1.1 cn)
    have FAIR := qh (PN.light_fair n fn1.1)
    have CN := qh cn
    obtain ⟨wn, hwn⟩ : ∃ b, n.whole = b := ⟨_, rfl⟩
    rw [hwn] at HNO
    have HWN := qh hwn
    clear fn1 fn2 cn hwn
    go_wp2_with (go_at_call 15; refine HNO.out.mono ?_)
    rintro e w4 ⟨rfl, x4⟩
    have X4 := qh (X3.out.trans x4)
    replace n0 := x4.cell n0
    replace n1 := x4.cell n1
    replace n2 := x4.cell n2
    replace n3 := x4.cell n3
    have B4 := qh (x4.block B3.out)
    clear x4
    cases wn with
    | false =>
      clear n0 n1 n2 n3
      go_wp2_with (go_at_call 16; refine (HAW.out _ (HL.out.ext X4.out)).mono ?_)
      rintro e w5 ⟨rfl, x5⟩
      go_wp2_with fail
      go_ret
      exact ⟨rfl, X4.out.trans x5⟩
    | true =>
      obtain ⟨sn, hsn⟩ : ∃ s : ByteArray, bs n.inner = s := ⟨_, rfl⟩
      have hi : Calls Tryz.prog 17 #[_] w4 (RVal (.string (bs n.inner)) w4) := Inner_any w4 n _ (HR.out.cells X4.out.cells) CN.out
      have HI := qh hi
      clear hi
      have HB := qh (fun W hW => host_back HWN.out W hW)
      rw [hsn] at HI HB
      clear hsn
      go_wp2_with (go_at_call 17; refine HI.out.mono ?_)
      rintro e w5 ⟨rfl, x5⟩
      have X5 := qh (X4.out.trans x5)
      have B5 := qh (x5.block B4.out)
      clear x5 n0 n1 n2 n3
      go_wp2_with (go_at_call 10; refine (HB.out _ (HL.out.ext X5.out)).mono ?_)
      rintro e w6 ⟨v6, rfl, x6, r6⟩
      obtain ⟨aa, ac, ka, kc, rfl⟩ := host_in r6
      have xf := x6.alloc (.cells #[.int .i64 n.tag, .slice aa n.attrs.length ac, .string n.text, .slice ka n.kids.length kc] 26)
      have xg := (Ext.refl w6).alloc (.cells #[.int .i64 n.tag, .slice aa n.attrs.length ac, .string n.text, .slice ka n.kids.length kc] 26)
      have hbf := heap_alloc_new w6 (.cells #[.int .i64 n.tag, .slice aa n.attrs.length ac, .string n.text, .slice ka n.kids.length kc] 26)
      have hbe := xf.block B5.out
      have s0 := cellOf hbe (i := 0) (v := .int .i64 n.tag) rfl
      have s1 := cellOf hbe (i := 1) (v := .slice y1 n.attrs.length y2) rfl
      have s2 := cellOf hbe (i := 2) (v := .string n.text) rfl
      have s3 := cellOf hbe (i := 3) (v := .slice y3 n.kids.length y4) rfl
      have t0 := cellOf hbf (i := 0) (v := .int .i64 n.tag) rfl
      have t1 := cellOf hbf (i := 1) (v := .slice aa n.attrs.length ac) rfl
      have t2 := cellOf hbf (i := 2) (v := .string n.text) rfl
      have t3 := cellOf hbf (i := 3) (v := .slice ka n.kids.length kc) rfl
      have SN := qh (SameNode_eq n FAIR.out _ _ _ (RdN.cells r6 xg.cells) (RdN.cells HR.out (X5.out.trans xf).cells))
      have X7 := qh (X5.out.trans xf)
      clear x6 r6 xf xg hbf hbe
      go_wp2_with (go_at_call 12; refine SN.out.mono ?_)
      rintro e w8 ⟨rfl, x8⟩
      have X8 := qh (X7.out.trans x8)
      clear x8 s0 s1 s2 s3 t0 t1 t2 t3
      go_wp2_with (go_at_call 16; refine (HAW.out _ (HL.out.ext X8.out)).mono ?_)
      rintro e w9 ⟨rfl, x9⟩
      have X9 := qh (X8.out.trans x9)
      clear x9
      go_wp2_with fail
      go_ret
      exact ⟨rfl, X9.out⟩
end Go.Proofs.YtalaajbajgdglaaGreatDoor
